/- Towards unparseHeres_card. -/
import Derived.Test.YtjpopekmbmcggaaGreatDoorUh12
set_option maxRecDepth 100000
set_option maxHeartbeats 16000000
namespace Go.Proofs.YtjpopekmbmcggaaGreatDoor
open Go.RowKit
theorem eI (t:ByteArray) (w:World) (hm:t.size≤1099511627776):Calls Tryz.prog 217 #[.string t] w fun e w'=>e=.returned (.bool (cJ t.toList))∧Below w.heap.size w w':=by
 cases hN:Chr.name t.toList
 ·have HN:=Ha hN;cases hD:Chr.digits t.toList
  ·have HD:=Ha hD;by_cases h1:t.size=1
   ·have hs1:((t.size:Int)==1)=true:=by rw [beq_iff_eq];omega
    have hs0:(0:Int)<(t.size:Int):=by omega
    have hs2:0<t.size:=by omega
    have hlen:(t.toList.length==1)=true:=by rw [← aL,h1];rfl
    have hhd:hd0 t.toList=t[0]:=eA t hs2;cases hS:Chr.special t[0].toNat
    ·have HS:=Ha hS;have HF:=Ha (show cJ t.toList=false by unfold cJ;rw [hN,hD,hlen,hhd,hS];rfl);clear hN;go_enter Tryz.func217,Tryz.ntmps217;clear hD hlen hhd hS h1;go_wp2_with fail;refine (iS t _ (by omega)).mono ?_;rintro e w1 ⟨rfl,hb1⟩;rw [HN.out];have HB1:=Ha hb1;clear hb1;go_wp2_with fail;refine (iM t _ (by omega)).mono ?_;rintro e w2 ⟨rfl,hb2⟩;rw [HD.out];have HB2:=Ha (HB1.out.trans (hb2.mono HB1.out.size));clear hb2;go_wp2_with fail;refine (eE t[0].toNat (aH t 0 hs2) _).mono ?_;rintro e w3 ⟨rfl,rfl⟩;rw [HS.out];go_wp2;go_ret;exact ⟨by rw [HF.out];rfl,HB2.out⟩
    ·have HS:=Ha hS;have HF:=Ha (show cJ t.toList=true by unfold cJ;rw [hN,hD,hlen,hhd,hS];rfl);clear hN;go_enter Tryz.func217,Tryz.ntmps217;clear hD hlen hhd hS h1;go_wp2_with fail;refine (iS t _ (by omega)).mono ?_;rintro e w1 ⟨rfl,hb1⟩;rw [HN.out];have HB1:=Ha hb1;clear hb1;go_wp2_with fail;refine (iM t _ (by omega)).mono ?_;rintro e w2 ⟨rfl,hb2⟩;rw [HD.out];have HB2:=Ha (HB1.out.trans (hb2.mono HB1.out.size));clear hb2;go_wp2_with fail;refine (eE t[0].toNat (aH t 0 hs2) _).mono ?_;rintro e w3 ⟨rfl,rfl⟩;rw [HS.out];go_wp2;go_ret;exact ⟨by rw [HF.out];rfl,HB2.out⟩
   ·have hs1:((t.size:Int)==1)=false:=by rw [gJ];omega
    have hlen:(t.toList.length==1)=false:=by rw [← aL];exact beq_eq_false_iff_ne.2 h1
    have HF:=Ha (show cJ t.toList=false by unfold cJ;rw [hN,hD,hlen];rfl);clear hN;go_enter Tryz.func217,Tryz.ntmps217;clear hD hlen h1;go_wp2_with fail;refine (iS t _ (by omega)).mono ?_;rintro e w1 ⟨rfl,hb1⟩;rw [HN.out];have HB1:=Ha hb1;clear hb1;go_wp2_with fail;refine (iM t _ (by omega)).mono ?_;rintro e w2 ⟨rfl,hb2⟩;rw [HD.out];have HB2:=Ha (HB1.out.trans (hb2.mono HB1.out.size));clear hb2;go_wp2;go_ret;exact ⟨by rw [HF.out];rfl,HB2.out⟩
  ·have HD:=Ha hD;have HF:=Ha (show cJ t.toList=true by unfold cJ;rw [hN,hD];rfl);clear hN;go_enter Tryz.func217,Tryz.ntmps217;clear hD;go_wp2_with fail;refine (iS t _ (by omega)).mono ?_;rintro e w1 ⟨rfl,hb1⟩;rw [HN.out];have HB1:=Ha hb1;clear hb1;go_wp2_with fail;refine (iM t _ (by omega)).mono ?_;rintro e w2 ⟨rfl,hb2⟩;rw [HD.out];have HB2:=Ha (HB1.out.trans (hb2.mono HB1.out.size));clear hb2;go_wp2;go_ret;exact ⟨by rw [HF.out];rfl,HB2.out⟩
 ·have HN:=Ha hN;have HF:=Ha (show cJ t.toList=true by unfold cJ;rw [hN];rfl);clear hN;go_enter Tryz.func217,Tryz.ntmps217;go_wp2_with fail;refine (iS t _ (by omega)).mono ?_;rintro e w1 ⟨rfl,hb1⟩;rw [HN.out];have HB1:=Ha hb1;clear hb1;go_wp2;go_ret;exact ⟨by rw [HF.out];rfl,HB1.out⟩
theorem CE (l v:List UInt8) (h1:¬l=v) (h2:¬l=58::v):Lib.trimPrefix l [58]≠v:=by
 unfold Lib.trimPrefix Lib.hasPrefix;cases l with
 | nil=>exact h1
 | cons c l=>
  by_cases hc:(58:UInt8)=c
  ·subst hc;simp [List.isPrefixOf];intro e;exact h2 (by rw [e])
  ·have:(58==c)=false:=beq_eq_false_iff_ne.2 hc;simp [List.isPrefixOf,this];exact h1
theorem eC (o:ByteArray) (w:World):Calls Tryz.prog 218 #[.string o] w fun e w'=>e=.returned (.bool (opB o.toList))∧w=w':=by
 by_cases o58_45:o=⟨#[58,45]⟩
 ·subst o58_45;have HF:=Ha (show opB (⟨#[58,45]⟩:ByteArray).toList=true by rw [show (⟨#[58,45]⟩:ByteArray).toList=[58,45] from aI [58,45]];rfl);go_enter Tryz.func218,Tryz.ntmps218;go_wp2_with fail;refine (Tryz.strings_TrimPrefix _ ⟨#[58]⟩ _).mono ?_;rintro e w1 ⟨rfl,rfl⟩;rw [show (⟨(Lib.trimPrefix (⟨#[58,45]⟩:ByteArray).data.toList (⟨#[58]⟩:ByteArray).data.toList).toArray⟩:ByteArray)=⟨#[45]⟩ from rfl];go_wp2;go_ret;exact ⟨by rw [HF.out];rfl,rfl⟩
 ·by_cases o45:o=⟨#[45]⟩
  ·subst o45;have HF:=Ha (show opB (⟨#[45]⟩:ByteArray).toList=true by rw [show (⟨#[45]⟩:ByteArray).toList=[45] from aI [45]];rfl);go_enter Tryz.func218,Tryz.ntmps218;go_wp2_with fail;refine (Tryz.strings_TrimPrefix _ ⟨#[58]⟩ _).mono ?_;rintro e w1 ⟨rfl,rfl⟩;rw [show (⟨(Lib.trimPrefix (⟨#[45]⟩:ByteArray).data.toList (⟨#[58]⟩:ByteArray).data.toList).toArray⟩:ByteArray)=⟨#[45]⟩ from rfl];go_wp2;go_ret;exact ⟨by rw [HF.out];rfl,rfl⟩
  ·by_cases o58_61:o=⟨#[58,61]⟩
   ·subst o58_61;have HF:=Ha (show opB (⟨#[58,61]⟩:ByteArray).toList=true by rw [show (⟨#[58,61]⟩:ByteArray).toList=[58,61] from aI [58,61]];rfl);go_enter Tryz.func218,Tryz.ntmps218;go_wp2_with fail;refine (Tryz.strings_TrimPrefix _ ⟨#[58]⟩ _).mono ?_;rintro e w1 ⟨rfl,rfl⟩;rw [show (⟨(Lib.trimPrefix (⟨#[58,61]⟩:ByteArray).data.toList (⟨#[58]⟩:ByteArray).data.toList).toArray⟩:ByteArray)=⟨#[61]⟩ from rfl];go_wp2;go_ret;exact ⟨by rw [HF.out];rfl,rfl⟩
   ·by_cases o61:o=⟨#[61]⟩
    ·subst o61;have HF:=Ha (show opB (⟨#[61]⟩:ByteArray).toList=true by rw [show (⟨#[61]⟩:ByteArray).toList=[61] from aI [61]];rfl);go_enter Tryz.func218,Tryz.ntmps218;go_wp2_with fail;refine (Tryz.strings_TrimPrefix _ ⟨#[58]⟩ _).mono ?_;rintro e w1 ⟨rfl,rfl⟩;rw [show (⟨(Lib.trimPrefix (⟨#[61]⟩:ByteArray).data.toList (⟨#[58]⟩:ByteArray).data.toList).toArray⟩:ByteArray)=⟨#[61]⟩ from rfl];go_wp2;go_ret;exact ⟨by rw [HF.out];rfl,rfl⟩
    ·by_cases o58_63:o=⟨#[58,63]⟩
     ·subst o58_63;have HF:=Ha (show opB (⟨#[58,63]⟩:ByteArray).toList=true by rw [show (⟨#[58,63]⟩:ByteArray).toList=[58,63] from aI [58,63]];rfl);go_enter Tryz.func218,Tryz.ntmps218;go_wp2_with fail;refine (Tryz.strings_TrimPrefix _ ⟨#[58]⟩ _).mono ?_;rintro e w1 ⟨rfl,rfl⟩;rw [show (⟨(Lib.trimPrefix (⟨#[58,63]⟩:ByteArray).data.toList (⟨#[58]⟩:ByteArray).data.toList).toArray⟩:ByteArray)=⟨#[63]⟩ from rfl];go_wp2;go_ret;exact ⟨by rw [HF.out];rfl,rfl⟩
     ·by_cases o63:o=⟨#[63]⟩
      ·subst o63;have HF:=Ha (show opB (⟨#[63]⟩:ByteArray).toList=true by rw [show (⟨#[63]⟩:ByteArray).toList=[63] from aI [63]];rfl);go_enter Tryz.func218,Tryz.ntmps218;go_wp2_with fail;refine (Tryz.strings_TrimPrefix _ ⟨#[58]⟩ _).mono ?_;rintro e w1 ⟨rfl,rfl⟩;rw [show (⟨(Lib.trimPrefix (⟨#[63]⟩:ByteArray).data.toList (⟨#[58]⟩:ByteArray).data.toList).toArray⟩:ByteArray)=⟨#[63]⟩ from rfl];go_wp2;go_ret;exact ⟨by rw [HF.out];rfl,rfl⟩
      ·by_cases o58_43:o=⟨#[58,43]⟩
       ·subst o58_43;have HF:=Ha (show opB (⟨#[58,43]⟩:ByteArray).toList=true by rw [show (⟨#[58,43]⟩:ByteArray).toList=[58,43] from aI [58,43]];rfl);go_enter Tryz.func218,Tryz.ntmps218;go_wp2_with fail;refine (Tryz.strings_TrimPrefix _ ⟨#[58]⟩ _).mono ?_;rintro e w1 ⟨rfl,rfl⟩;rw [show (⟨(Lib.trimPrefix (⟨#[58,43]⟩:ByteArray).data.toList (⟨#[58]⟩:ByteArray).data.toList).toArray⟩:ByteArray)=⟨#[43]⟩ from rfl];go_wp2;go_ret;exact ⟨by rw [HF.out];rfl,rfl⟩
       ·by_cases o43:o=⟨#[43]⟩
        ·subst o43;have HF:=Ha (show opB (⟨#[43]⟩:ByteArray).toList=true by rw [show (⟨#[43]⟩:ByteArray).toList=[43] from aI [43]];rfl);go_enter Tryz.func218,Tryz.ntmps218;go_wp2_with fail;refine (Tryz.strings_TrimPrefix _ ⟨#[58]⟩ _).mono ?_;rintro e w1 ⟨rfl,rfl⟩;rw [show (⟨(Lib.trimPrefix (⟨#[43]⟩:ByteArray).data.toList (⟨#[58]⟩:ByteArray).data.toList).toArray⟩:ByteArray)=⟨#[43]⟩ from rfl];go_wp2;go_ret;exact ⟨by rw [HF.out];rfl,rfl⟩
        ·by_cases o37:o=⟨#[37]⟩
         ·subst o37;have HF:=Ha (show opB (⟨#[37]⟩:ByteArray).toList=true by rw [show (⟨#[37]⟩:ByteArray).toList=[37] from aI [37]];rfl);go_enter Tryz.func218,Tryz.ntmps218;go_wp2_with fail;refine (Tryz.strings_TrimPrefix _ ⟨#[58]⟩ _).mono ?_;rintro e w1 ⟨rfl,rfl⟩;rw [show (⟨(Lib.trimPrefix (⟨#[37]⟩:ByteArray).data.toList (⟨#[58]⟩:ByteArray).data.toList).toArray⟩:ByteArray)=⟨#[37]⟩ from rfl];go_wp2;go_ret;exact ⟨by rw [HF.out];rfl,rfl⟩
         ·by_cases o37_37:o=⟨#[37,37]⟩
          ·subst o37_37;have HF:=Ha (show opB (⟨#[37,37]⟩:ByteArray).toList=true by rw [show (⟨#[37,37]⟩:ByteArray).toList=[37,37] from aI [37,37]];rfl);go_enter Tryz.func218,Tryz.ntmps218;go_wp2_with fail;refine (Tryz.strings_TrimPrefix _ ⟨#[58]⟩ _).mono ?_;rintro e w1 ⟨rfl,rfl⟩;rw [show (⟨(Lib.trimPrefix (⟨#[37,37]⟩:ByteArray).data.toList (⟨#[58]⟩:ByteArray).data.toList).toArray⟩:ByteArray)=⟨#[37,37]⟩ from rfl];go_wp2;go_ret;exact ⟨by rw [HF.out];rfl,rfl⟩
          ·by_cases o35:o=⟨#[35]⟩
           ·subst o35;have HF:=Ha (show opB (⟨#[35]⟩:ByteArray).toList=true by rw [show (⟨#[35]⟩:ByteArray).toList=[35] from aI [35]];rfl);go_enter Tryz.func218,Tryz.ntmps218;go_wp2_with fail;refine (Tryz.strings_TrimPrefix _ ⟨#[58]⟩ _).mono ?_;rintro e w1 ⟨rfl,rfl⟩;rw [show (⟨(Lib.trimPrefix (⟨#[35]⟩:ByteArray).data.toList (⟨#[58]⟩:ByteArray).data.toList).toArray⟩:ByteArray)=⟨#[35]⟩ from rfl];go_wp2;go_ret;exact ⟨by rw [HF.out];rfl,rfl⟩
           ·by_cases o35_35:o=⟨#[35,35]⟩
            ·subst o35_35;have HF:=Ha (show opB (⟨#[35,35]⟩:ByteArray).toList=true by rw [show (⟨#[35,35]⟩:ByteArray).toList=[35,35] from aI [35,35]];rfl);go_enter Tryz.func218,Tryz.ntmps218;go_wp2_with fail;refine (Tryz.strings_TrimPrefix _ ⟨#[58]⟩ _).mono ?_;rintro e w1 ⟨rfl,rfl⟩;rw [show (⟨(Lib.trimPrefix (⟨#[35,35]⟩:ByteArray).data.toList (⟨#[58]⟩:ByteArray).data.toList).toArray⟩:ByteArray)=⟨#[35,35]⟩ from rfl];go_wp2;go_ret;exact ⟨by rw [HF.out];rfl,rfl⟩
            ·have n58_45:¬o.toList=[58,45]:=fun e=>o58_45 (aX (by rw [e];exact (aI [58,45]).symm));have n45:¬o.toList=[45]:=fun e=>o45 (aX (by rw [e];exact (aI [45]).symm));have n58_61:¬o.toList=[58,61]:=fun e=>o58_61 (aX (by rw [e];exact (aI [58,61]).symm));have n61:¬o.toList=[61]:=fun e=>o61 (aX (by rw [e];exact (aI [61]).symm));have n58_63:¬o.toList=[58,63]:=fun e=>o58_63 (aX (by rw [e];exact (aI [58,63]).symm));have n63:¬o.toList=[63]:=fun e=>o63 (aX (by rw [e];exact (aI [63]).symm));have n58_43:¬o.toList=[58,43]:=fun e=>o58_43 (aX (by rw [e];exact (aI [58,43]).symm));have n43:¬o.toList=[43]:=fun e=>o43 (aX (by rw [e];exact (aI [43]).symm));have n37:¬o.toList=[37]:=fun e=>o37 (aX (by rw [e];exact (aI [37]).symm));have n37_37:¬o.toList=[37,37]:=fun e=>o37_37 (aX (by rw [e];exact (aI [37,37]).symm));have n35:¬o.toList=[35]:=fun e=>o35 (aX (by rw [e];exact (aI [35]).symm));have n35_35:¬o.toList=[35,35]:=fun e=>o35_35 (aX (by rw [e];exact (aI [35,35]).symm));have u58_45:([58,45]==o.toList)=false:=beq_eq_false_iff_ne.2 fun e=>n58_45 e.symm;have u45:([45]==o.toList)=false:=beq_eq_false_iff_ne.2 fun e=>n45 e.symm;have u58_61:([58,61]==o.toList)=false:=beq_eq_false_iff_ne.2 fun e=>n58_61 e.symm;have u61:([61]==o.toList)=false:=beq_eq_false_iff_ne.2 fun e=>n61 e.symm;have u58_63:([58,63]==o.toList)=false:=beq_eq_false_iff_ne.2 fun e=>n58_63 e.symm;have u63:([63]==o.toList)=false:=beq_eq_false_iff_ne.2 fun e=>n63 e.symm;have u58_43:([58,43]==o.toList)=false:=beq_eq_false_iff_ne.2 fun e=>n58_43 e.symm;have u43:([43]==o.toList)=false:=beq_eq_false_iff_ne.2 fun e=>n43 e.symm;have u37:([37]==o.toList)=false:=beq_eq_false_iff_ne.2 fun e=>n37 e.symm;have u37_37:([37,37]==o.toList)=false:=beq_eq_false_iff_ne.2 fun e=>n37_37 e.symm;have u35:([35]==o.toList)=false:=beq_eq_false_iff_ne.2 fun e=>n35 e.symm;have u35_35:([35,35]==o.toList)=false:=beq_eq_false_iff_ne.2 fun e=>n35_35 e.symm;have HF:=Ha (show opB o.toList=false by unfold opB qZ;simp only [List.any_cons,List.any_nil,u58_45,u45,u58_61,u61,u58_63,u63,u58_43,u43,u37,u37_37,u35,u35_35];rfl);clear u58_45 u45 u58_61 u61 u58_63 u63 u58_43 u43 u37 u37_37 u35 u35_35;have trim:∀ v:List UInt8,¬o.toList=v→¬o.toList=58::v→((⟨(Lib.trimPrefix o.data.toList (⟨#[58]⟩:ByteArray).data.toList).toArray⟩:ByteArray).toList==v)=false:=fun v h1 h2=>by
              rw [gJ,aI,← Lib.toList_data,show (⟨#[58]⟩:ByteArray).data.toList=[58] from rfl];exact CE o.toList v h1 h2
             have q45:=trim [45] n45 n58_45;have q61:=trim [61] n61 n58_61;have q63:=trim [63] n63 n58_63;have q43:=trim [43] n43 n58_43;have r37:(o.toList==[37])=false:=beq_eq_false_iff_ne.2 n37;have r37_37:(o.toList==[37,37])=false:=beq_eq_false_iff_ne.2 n37_37;have r35:(o.toList==[35])=false:=beq_eq_false_iff_ne.2 n35;have r35_35:(o.toList==[35,35])=false:=beq_eq_false_iff_ne.2 n35_35;clear trim n58_45 n45 n58_61 n61 n58_63 n63 n58_43 n43 n37 n37_37 n35 n35_35 o58_45 o45 o58_61 o61 o58_63 o63 o58_43 o43 o37 o37_37 o35 o35_35;go_enter Tryz.func218,Tryz.ntmps218;go_wp2_with fail;refine (Tryz.strings_TrimPrefix _ ⟨#[58]⟩ _).mono ?_;rintro e w1 ⟨rfl,rfl⟩;generalize (⟨(Lib.trimPrefix o.data.toList (⟨#[58]⟩:ByteArray).data.toList).toArray⟩:ByteArray)=z at *;go_wp2;go_ret;exact ⟨by rw [HF.out];rfl,rfl⟩
theorem AT (s:ByteArray) (w:World) (hm:s.size≤1099511627776):Calls Tryz.prog 183 #[.string s] w fun e w'=>e=.returned (.bool (aZ 0 s.toList))∧w=w':=by
 go_enter Tryz.func183,Tryz.ntmps183;go_wp2
 go_loop [3,7,4] (fun v i _=>∃ (k:Nat) (m:Int),k≤s.size∧0≤m∧m≤k∧i=.int .i64 k∧v=.int .i64 m∧aZ m (s.toList.drop k)=aZ 0 s.toList) (fun _ i _=>s.size-(intOf i).toNat)
 case atStart=>exact ⟨0,0,by omega,by omega,by omega,rfl,rfl,rfl⟩
 case round=>
  obtain ⟨k,m,hk,hm1,hm2,rfl,rfl,hl⟩:=hrel;have HL:=Ha hl;clear hl;by_cases hlt:k<s.size
  ·cases c0:((s[k].toNat:Int)==0)
   ·cases c40:((s[k].toNat:Int)==40)
    ·cases c41:((s[k].toNat:Int)==41)
     ·have HR:=Ha (show aZ m (s.toList.drop (k+1))=aZ 0 s.toList by rw [← HL.out,bA s k hlt];simp [aZ,c0,c40,c41]);go_wp2
      go_round
      case rel=>exact ⟨k+1,m,by omega,by omega,by omega,by go_num,by rfl,HR.out⟩
      case measure=>simp only [intOf];omega
     ·by_cases hm0:m-1<0
      ·have HR:=Ha (show aZ 0 s.toList=false by rw [← HL.out,bA s k hlt];simp [aZ,c0,c40,c41,hm0]);go_wp2;go_ret;exact ⟨by rw [HR.out];rfl,rfl⟩
      ·have HR:=Ha (show aZ (m-1) (s.toList.drop (k+1))=aZ 0 s.toList by rw [← HL.out,bA s k hlt];simp [aZ,c0,c40,c41,hm0]);go_wp2
       go_round
       case rel=>exact ⟨k+1,(m-1),by omega,by omega,by omega,by go_num,by rfl,HR.out⟩
       case measure=>simp only [intOf];omega
    ·have hm0:¬m+1<0:=by omega
     have HR:=Ha (show aZ (m+1) (s.toList.drop (k+1))=aZ 0 s.toList by rw [← HL.out,bA s k hlt];simp [aZ,c0,c40]);go_wp2
     go_round
     case rel=>exact ⟨k+1,(m+1),by omega,by omega,by omega,by go_num,by rfl,HR.out⟩
     case measure=>simp only [intOf];omega
   ·have HR:=Ha (show aZ 0 s.toList=false by rw [← HL.out,bA s k hlt];simp [aZ,c0]);go_wp2;go_ret;exact ⟨by rw [HR.out];rfl,rfl⟩
  ·have HR:=Ha (show aZ 0 s.toList=(m==0) by rw [← HL.out,bJ s k hlt];rfl);go_wp2;go_ret;exact ⟨by rw [HR.out];rfl,rfl⟩
def bT (k:Int) (t o:List UInt8) (kl cn:Nat):Bool:=
 if k==5 then (cn:Int)==0
 else if k==4 then t.isEmpty&&o.isEmpty&&((cn:Int)==0)
 else if k==6 then t.isEmpty&&o.isEmpty&&((kl:Int)==0)
 else o.isEmpty&&((kl:Int)==0)&&((cn:Int)==0)
theorem dF (k:Int) (t o:ByteArray) (kids:Pts) (A:Option Addr) (c:Nat) (cm:Cm) (w:World):Calls Tryz.prog 179 #[.agg #[.int .i64 k,.string t,.string o,.slice A kids.len c,.slice cm.a cm.n cm.c]] w fun e w'=>e=.returned (.bool (bT k t.toList o.toList kids.len cm.n))∧Below w.heap.size w w':=by
 cases k5:(k==5)
 ·cases k4:(k==4)
  ·cases k6:(k==6)
   ·cases e1:o.toList.isEmpty
    ·have HF:=Ha (show bT k t.toList o.toList kids.len cm.n=false by unfold bT;simp only [k5,k4,k6,e1];rfl);go_enter Tryz.func179,Tryz.ntmps179;go_wp2;go_ret;exact ⟨by rw [HF.out];rfl,(Below.refl _ _).alloc (Nat.le_refl _) _⟩
    ·cases e2:((kids.len:Int)==0)
     ·have HF:=Ha (show bT k t.toList o.toList kids.len cm.n=false by unfold bT;simp only [k5,k4,k6,e1,e2];rfl);go_enter Tryz.func179,Tryz.ntmps179;go_wp2;go_ret;exact ⟨by rw [HF.out];rfl,(Below.refl _ _).alloc (Nat.le_refl _) _⟩
     ·cases e3:((cm.n:Int)==0)
      ·have HF:=Ha (show bT k t.toList o.toList kids.len cm.n=false by unfold bT;simp only [k5,k4,k6,e1,e2,e3];rfl);go_enter Tryz.func179,Tryz.ntmps179;go_wp2;go_ret;exact ⟨by rw [HF.out];rfl,(Below.refl _ _).alloc (Nat.le_refl _) _⟩
      ·have HF:=Ha (show bT k t.toList o.toList kids.len cm.n=true by unfold bT;simp only [k5,k4,k6,e1,e2,e3];rfl);go_enter Tryz.func179,Tryz.ntmps179;go_wp2;go_ret;exact ⟨by rw [HF.out];rfl,(Below.refl _ _).alloc (Nat.le_refl _) _⟩
   ·cases e1:t.toList.isEmpty
    ·have HF:=Ha (show bT k t.toList o.toList kids.len cm.n=false by unfold bT;simp only [k5,k4,k6,e1];rfl);go_enter Tryz.func179,Tryz.ntmps179;go_wp2;go_ret;exact ⟨by rw [HF.out];rfl,(Below.refl _ _).alloc (Nat.le_refl _) _⟩
    ·cases e2:o.toList.isEmpty
     ·have HF:=Ha (show bT k t.toList o.toList kids.len cm.n=false by unfold bT;simp only [k5,k4,k6,e1,e2];rfl);go_enter Tryz.func179,Tryz.ntmps179;go_wp2;go_ret;exact ⟨by rw [HF.out];rfl,(Below.refl _ _).alloc (Nat.le_refl _) _⟩
     ·cases e3:((kids.len:Int)==0)
      ·have HF:=Ha (show bT k t.toList o.toList kids.len cm.n=false by unfold bT;simp only [k5,k4,k6,e1,e2,e3];rfl);go_enter Tryz.func179,Tryz.ntmps179;go_wp2;go_ret;exact ⟨by rw [HF.out];rfl,(Below.refl _ _).alloc (Nat.le_refl _) _⟩
      ·have HF:=Ha (show bT k t.toList o.toList kids.len cm.n=true by unfold bT;simp only [k5,k4,k6,e1,e2,e3];rfl);go_enter Tryz.func179,Tryz.ntmps179;go_wp2;go_ret;exact ⟨by rw [HF.out];rfl,(Below.refl _ _).alloc (Nat.le_refl _) _⟩
  ·cases e1:t.toList.isEmpty
   ·have HF:=Ha (show bT k t.toList o.toList kids.len cm.n=false by unfold bT;simp only [k5,k4,e1];rfl);go_enter Tryz.func179,Tryz.ntmps179;go_wp2;go_ret;exact ⟨by rw [HF.out];rfl,(Below.refl _ _).alloc (Nat.le_refl _) _⟩
   ·cases e2:o.toList.isEmpty
    ·have HF:=Ha (show bT k t.toList o.toList kids.len cm.n=false by unfold bT;simp only [k5,k4,e1,e2];rfl);go_enter Tryz.func179,Tryz.ntmps179;go_wp2;go_ret;exact ⟨by rw [HF.out];rfl,(Below.refl _ _).alloc (Nat.le_refl _) _⟩
    ·cases e3:((cm.n:Int)==0)
     ·have HF:=Ha (show bT k t.toList o.toList kids.len cm.n=false by unfold bT;simp only [k5,k4,e1,e2,e3];rfl);go_enter Tryz.func179,Tryz.ntmps179;go_wp2;go_ret;exact ⟨by rw [HF.out];rfl,(Below.refl _ _).alloc (Nat.le_refl _) _⟩
     ·have HF:=Ha (show bT k t.toList o.toList kids.len cm.n=true by unfold bT;simp only [k5,k4,e1,e2,e3];rfl);go_enter Tryz.func179,Tryz.ntmps179;go_wp2;go_ret;exact ⟨by rw [HF.out];rfl,(Below.refl _ _).alloc (Nat.le_refl _) _⟩
 ·cases e3:((cm.n:Int)==0)
  ·have HF:=Ha (show bT k t.toList o.toList kids.len cm.n=false by unfold bT;simp only [k5,e3];rfl);go_enter Tryz.func179,Tryz.ntmps179;go_wp2;go_ret;exact ⟨by rw [HF.out];rfl,(Below.refl _ _).alloc (Nat.le_refl _) _⟩
  ·have HF:=Ha (show bT k t.toList o.toList kids.len cm.n=true by unfold bT;simp only [k5,e3];rfl);go_enter Tryz.func179,Tryz.ntmps179;go_wp2;go_ret;exact ⟨by rw [HF.out];rfl,(Below.refl _ _).alloc (Nat.le_refl _) _⟩
def fU (k:Int) (t:List UInt8):Option (List UInt8):=if k=1 then some t else none
theorem lH (l:List UInt8):Lib.hasSuffix l [36]=(ld0 l==36):=by
 unfold Lib.hasSuffix ld0;rw [List.isSuffixOf];cases l.reverse with
 | nil=>rfl
 | cons a r=>show (36==a&&true)=_;rw [Bool.and_true];show (36==a)=(a==36);rw [Bool.eq_iff_iff];simp only [beq_iff_eq];exact eq_comm
theorem DC (k:Int) (t o:ByteArray) (kl:Nat) (A:Option Addr) (c:Nat) (cm:Cm) (k2:Int) (t2 o2:ByteArray) (kl2:Nat) (A2:Option Addr) (c2:Nat) (cm2:Cm) (w:World) (hts:t.size≤1099511627776):
  Calls Tryz.prog 151 #[.agg #[.int .i64 k,.string t,.string o,.slice A kl c,.slice cm.a cm.n cm.c],.agg #[.int .i64 k2,.string t2,.string o2,.slice A2 kl2 c2,.slice cm2.a cm2.n cm2.c]] w fun e w'=>e=.returned (.bool (cR (fU k t.toList) k2))∧Below w.heap.size w w':=by
 by_cases hk:k=1
 ·subst hk;cases m1:(k2==1)
  ·cases m5:(k2==5)
   ·cases m6:(k2==6)
    ·cases m7:(k2==7)
     ·have HF:=Ha (show cR (fU 1 t.toList) k2=true by unfold fU;rw [if_pos rfl];simp only [cR,m1,m5,m6,m7];simp);go_enter Tryz.func151,Tryz.ntmps151;go_wp2;go_ret;exact ⟨by rw [HF.out];rfl,((Below.refl _ _).alloc (Nat.le_refl _) _).alloc (by simp) _⟩
     ·cases hs:(ld0 t.toList==36)
      ·have HS:=Ha hs;have HF:=Ha (show cR (fU 1 t.toList) k2=true by unfold fU;rw [if_pos rfl];simp only [cR,hs,m1,m5,m6,m7];rfl);go_enter Tryz.func151,Tryz.ntmps151;clear hs;go_wp2_with fail;refine (Tryz.strings_HasSuffix t ⟨#[36]⟩ _ (by omega)).mono ?_;rintro e w1 ⟨rfl,rfl⟩;rw [← Lib.toList_data,show (⟨#[36]⟩:ByteArray).data.toList=[36] from rfl,lH,HS.out];go_wp2;go_ret;exact ⟨by rw [HF.out];rfl,((Below.refl _ _).alloc (Nat.le_refl _) _).alloc (by simp) _⟩
      ·have HS:=Ha hs;have HF:=Ha (show cR (fU 1 t.toList) k2=false by unfold fU;rw [if_pos rfl];simp only [cR,hs,m1,m5,m6,m7];rfl);go_enter Tryz.func151,Tryz.ntmps151;clear hs;go_wp2_with fail;refine (Tryz.strings_HasSuffix t ⟨#[36]⟩ _ (by omega)).mono ?_;rintro e w1 ⟨rfl,rfl⟩;rw [← Lib.toList_data,show (⟨#[36]⟩:ByteArray).data.toList=[36] from rfl,lH,HS.out];go_wp2;go_ret;exact ⟨by rw [HF.out];rfl,((Below.refl _ _).alloc (Nat.le_refl _) _).alloc (by simp) _⟩
    ·cases hs:(ld0 t.toList==36)
     ·have HS:=Ha hs;have HF:=Ha (show cR (fU 1 t.toList) k2=true by unfold fU;rw [if_pos rfl];simp only [cR,hs,m1,m5,m6];rfl);go_enter Tryz.func151,Tryz.ntmps151;clear hs;go_wp2_with fail;refine (Tryz.strings_HasSuffix t ⟨#[36]⟩ _ (by omega)).mono ?_;rintro e w1 ⟨rfl,rfl⟩;rw [← Lib.toList_data,show (⟨#[36]⟩:ByteArray).data.toList=[36] from rfl,lH,HS.out];go_wp2;go_ret;exact ⟨by rw [HF.out];rfl,((Below.refl _ _).alloc (Nat.le_refl _) _).alloc (by simp) _⟩
     ·have HS:=Ha hs;have HF:=Ha (show cR (fU 1 t.toList) k2=false by unfold fU;rw [if_pos rfl];simp only [cR,hs,m1,m5,m6];rfl);go_enter Tryz.func151,Tryz.ntmps151;clear hs;go_wp2_with fail;refine (Tryz.strings_HasSuffix t ⟨#[36]⟩ _ (by omega)).mono ?_;rintro e w1 ⟨rfl,rfl⟩;rw [← Lib.toList_data,show (⟨#[36]⟩:ByteArray).data.toList=[36] from rfl,lH,HS.out];go_wp2;go_ret;exact ⟨by rw [HF.out];rfl,((Below.refl _ _).alloc (Nat.le_refl _) _).alloc (by simp) _⟩
   ·cases hs:(ld0 t.toList==36)
    ·have HS:=Ha hs;have HF:=Ha (show cR (fU 1 t.toList) k2=true by unfold fU;rw [if_pos rfl];simp only [cR,hs,m1,m5];rfl);go_enter Tryz.func151,Tryz.ntmps151;clear hs;go_wp2_with fail;refine (Tryz.strings_HasSuffix t ⟨#[36]⟩ _ (by omega)).mono ?_;rintro e w1 ⟨rfl,rfl⟩;rw [← Lib.toList_data,show (⟨#[36]⟩:ByteArray).data.toList=[36] from rfl,lH,HS.out];go_wp2;go_ret;exact ⟨by rw [HF.out];rfl,((Below.refl _ _).alloc (Nat.le_refl _) _).alloc (by simp) _⟩
    ·have HS:=Ha hs;have HF:=Ha (show cR (fU 1 t.toList) k2=false by unfold fU;rw [if_pos rfl];simp only [cR,hs,m1,m5];rfl);go_enter Tryz.func151,Tryz.ntmps151;clear hs;go_wp2_with fail;refine (Tryz.strings_HasSuffix t ⟨#[36]⟩ _ (by omega)).mono ?_;rintro e w1 ⟨rfl,rfl⟩;rw [← Lib.toList_data,show (⟨#[36]⟩:ByteArray).data.toList=[36] from rfl,lH,HS.out];go_wp2;go_ret;exact ⟨by rw [HF.out];rfl,((Below.refl _ _).alloc (Nat.le_refl _) _).alloc (by simp) _⟩
  ·have HF:=Ha (show cR (fU 1 t.toList) k2=false by unfold fU;rw [if_pos rfl];simp only [cR,m1];rfl);go_enter Tryz.func151,Tryz.ntmps151;go_wp2;go_ret;exact ⟨by rw [HF.out];rfl,((Below.refl _ _).alloc (Nat.le_refl _) _).alloc (by simp) _⟩
 ·have hkb:(k != 1)=true:=bne_iff_ne.2 hk;have HF:=Ha (show cR (fU k t.toList) k2=true by unfold fU;rw [if_neg hk];rfl);go_enter Tryz.func151,Tryz.ntmps151;go_wp2;go_ret;exact ⟨by rw [HF.out];rfl,((Below.refl _ _).alloc (Nat.le_refl _) _).alloc (by simp) _⟩
def wZ (n:Nat):Prop:=∀ (p:Nat) (l:Pts) (A:Option Addr) (c:Nat) (G:Nat→Prop) (w:World),p≤2→l.deep<n→l.wt≤1073741824→(∀ k,G k→k<w.heap.size)→aY G w A 0 l→
 Calls Tryz.prog 106 #[.int .i64 p,.slice A l.len c] w fun e w'=>e=.returned (.bool (l.allP p none))∧Below w.heap.size w w'
theorem uJ (l:List UInt8) (c:UInt8) (hc:c≠0):Lib.hasPrefix l [c]=(hd0 l==c):=by
 unfold Lib.hasPrefix;cases l with
 | nil=>show false=(0==c);rw [eq_comm,gJ];exact fun e=>hc e.symm
 | cons a r=>show (c==a&&true)=(a==c);rw [Bool.and_true,Bool.eq_iff_iff];simp only [beq_iff_eq];exact eq_comm
theorem yH (s:ByteArray) (w:World):Calls Tryz.prog 121 #[.string s,.string ⟨#[37]⟩] w fun e w'=>e=.returned (.bool (hd0 s.toList==37))∧w'=w:=by
 have:=Tryz.strings_HasPrefix s ⟨#[37]⟩ w;rw [← Lib.toList_data,show (⟨#[37]⟩:ByteArray).data.toList=[37] from rfl,uJ _ _ (by decide)] at this;exact this
theorem yG (s:ByteArray) (w:World):Calls Tryz.prog 121 #[.string s,.string ⟨#[35]⟩] w fun e w'=>e=.returned (.bool (hd0 s.toList==35))∧w'=w:=by
 have:=Tryz.strings_HasPrefix s ⟨#[35]⟩ w;rw [← Lib.toList_data,show (⟨#[35]⟩:ByteArray).data.toList=[35] from rfl,uJ _ _ (by decide)] at this;exact this
theorem BT (n:Nat) (IH:wZ n) (k:Int) (t o:ByteArray) (kids:Pts) (A:Option Addr) (c:Nat) (cm:Cm) (G:Nat→Prop) (w:World) (hd:kids.deep<n) (hts:t.size≤1073741824) (hwt:kids.wt≤1073741824) (hG:∀ k,G k→k<w.heap.size) (hp:aY G w A 0 kids):
  Calls Tryz.prog 182 #[.agg #[.int .i64 k,.string t,.string o,.slice A kids.len c,.slice cm.a cm.n cm.c]] w fun e w'=>e=.returned (.bool (aK t.toList o.toList kids.len kids.headK kids.headT (kids.allP 2 none)))∧Below w.heap.size w w':=by
 have HIH:=Ha IH;clear IH;have hw0:Below w.heap.size w (w.alloc (.cells #[.int .i64 k,.string t,.string o,.slice A kids.len c,.slice cm.a cm.n cm.c] 50)):=(Below.refl _ _).alloc (Nat.le_refl _) _;have hbox:=heap_alloc_new w (.cells #[.int .i64 k,.string t,.string o,.slice A kids.len c,.slice cm.a cm.n cm.c] 50);have hp0:=hp.old hG hw0;have hlt0:w.heap.size<(w.alloc (.cells #[.int .i64 k,.string t,.string o,.slice A kids.len c,.slice cm.a cm.n cm.c] 50)).heap.size:=by simp
 have hG0:∀ g,G g→g<(w.alloc (.cells #[.int .i64 k,.string t,.string o,.slice A kids.len c,.slice cm.a cm.n cm.c] 50)).heap.size:=fun g hg=>by have:=hG g hg;omega
 obtain ⟨HW0,HBX,HP,HG0,HT⟩:=hs5 hw0 hbox hp0 hG0 hts;clear hw0 hbox hp hp0 hG hG0 hlt0 hts;cases hn:cJ t.toList
 ·have hnm:(!cJ t.toList)=true:=by rw [hn];rfl
  have HNM:=Ha hn;clear hn;have HF:=Ha (show aK t.toList o.toList kids.len kids.headK kids.headT (kids.allP 2 none)=false by unfold aK;rw [hnm];rfl);clear hd hwt hnm;go_enter Tryz.func182,Tryz.ntmps182;go_wp2_with fail;refine (eI t _ (by have:=HT.out;omega)).mono ?_;rintro e w1 ⟨rfl,hb1⟩;rw [HNM.out];have hbox1:=(hb1.block w.heap.size (by simp)).trans HBX.out;obtain ⟨q0,q1,q2,q3,q4⟩:=aJ hbox1;have HP1:=Ha (HP.out.old HG0.out hb1);have HG1:=Ha (oG HG0.out hb1);have hlt1:w.heap.size<w1.heap.size:=(Array.getElem?_eq_some_iff.1 hbox1).1;have HX1:=Ha hbox1;have HB1:=Ha hb1;clear hb1 hbox1;go_wp2;go_ret;exact ⟨by rw [HF.out];rfl,(HW0.out.trans (HB1.out.mono HW0.out.size))⟩
 ·have hnm:(!cJ t.toList)=false:=by rw [hn];rfl
  have HNM:=Ha hn;clear hn;by_cases o0:o=⟨#[]⟩
  ·subst o0;have HF:=Ha (show aK t.toList (⟨#[]⟩:ByteArray).toList kids.len kids.headK kids.headT (kids.allP 2 none)=((kids.len:Int)==0) by rw [show (⟨#[]⟩:ByteArray).toList=[] from aI []];unfold aK;rw [hnm];rfl);clear hd hwt hnm;go_enter Tryz.func182,Tryz.ntmps182;go_wp2_with fail;refine (eI t _ (by have:=HT.out;omega)).mono ?_;rintro e w1 ⟨rfl,hb1⟩;rw [HNM.out];have hbox1:=(hb1.block w.heap.size (by simp)).trans HBX.out;obtain ⟨q0,q1,q2,q3,q4⟩:=aJ hbox1;have HP1:=Ha (HP.out.old HG0.out hb1);have HG1:=Ha (oG HG0.out hb1);have hlt1:w.heap.size<w1.heap.size:=(Array.getElem?_eq_some_iff.1 hbox1).1;have HX1:=Ha hbox1;have HB1:=Ha hb1;clear hb1 hbox1;go_wp2;go_ret;exact ⟨by rw [HF.out];rfl,(HW0.out.trans (HB1.out.mono HW0.out.size))⟩
  ·by_cases o1:o=⟨#[108,101,110]⟩
   ·subst o1;have HF:=Ha (show aK t.toList (⟨#[108,101,110]⟩:ByteArray).toList kids.len kids.headK kids.headT (kids.allP 2 none)=((kids.len:Int)==0) by rw [show (⟨#[108,101,110]⟩:ByteArray).toList=[108,101,110] from aI [108,101,110]];unfold aK;rw [hnm];rfl);clear hd hwt hnm;go_enter Tryz.func182,Tryz.ntmps182;go_wp2_with fail;refine (eI t _ (by have:=HT.out;omega)).mono ?_;rintro e w1 ⟨rfl,hb1⟩;rw [HNM.out];have hbox1:=(hb1.block w.heap.size (by simp)).trans HBX.out;obtain ⟨q0,q1,q2,q3,q4⟩:=aJ hbox1;have HP1:=Ha (HP.out.old HG0.out hb1);have HG1:=Ha (oG HG0.out hb1);have hlt1:w.heap.size<w1.heap.size:=(Array.getElem?_eq_some_iff.1 hbox1).1;have HX1:=Ha hbox1;have HB1:=Ha hb1;clear hb1 hbox1;go_wp2;go_ret;exact ⟨by rw [HF.out];rfl,(HW0.out.trans (HB1.out.mono HW0.out.size))⟩
   ·have o0b:o.toList.isEmpty=false:=by have:o.toList≠[]:=fun e=>o0 (aX (by rw [e];exact (aI []).symm));simpa using this
    have o1b:(o.toList==[108,101,110])=false:=beq_eq_false_iff_ne.2 fun e=>o1 (aX (by rw [e];exact (aI [108,101,110]).symm));have o0c:(o.toList==[])=false:=beq_eq_false_iff_ne.2 fun e=>o0 (aX (by rw [e];exact (aI []).symm));clear o0 o1;cases h35:(t.toList==[35])
    ·cases hop:opB o.toList
     ·have HF:=Ha (show aK t.toList o.toList kids.len kids.headK kids.headT (kids.allP 2 none)=false by unfold aK;rw [hnm];simp [o0c,o1b,hop,h35]);have HOP:=Ha hop;clear hop o0c hd hwt hnm;go_enter Tryz.func182,Tryz.ntmps182;go_wp2_with fail;refine (eI t _ (by have:=HT.out;omega)).mono ?_;rintro e w1 ⟨rfl,hb1⟩;rw [HNM.out];have hbox1:=(hb1.block w.heap.size (by simp)).trans HBX.out;obtain ⟨q0,q1,q2,q3,q4⟩:=aJ hbox1;have HP1:=Ha (HP.out.old HG0.out hb1);have HG1:=Ha (oG HG0.out hb1);have hlt1:w.heap.size<w1.heap.size:=(Array.getElem?_eq_some_iff.1 hbox1).1;have HX1:=Ha hbox1;have HB1:=Ha hb1;clear hb1 hbox1;go_wp2_with fail;refine (eC _ _).mono ?_;rintro e w3 ⟨rfl,rfl⟩;rw [HOP.out];go_wp2;go_ret;exact ⟨by rw [HF.out];rfl,(HW0.out.trans (HB1.out.mono HW0.out.size))⟩
     ·cases hall:kids.allP 2 none
      ·obtain ⟨HF,HOP,HALL⟩:=hs3 (show aK t.toList o.toList kids.len kids.headK kids.headT (kids.allP 2 none)=false by unfold aK;rw [hnm];simp [o0c,o1b,hop,h35,hall]) hop hall;clear hop hall o0c hnm;go_enter Tryz.func182,Tryz.ntmps182;go_wp2_with fail;refine (eI t _ (by have:=HT.out;omega)).mono ?_;rintro e w1 ⟨rfl,hb1⟩;rw [HNM.out];have hbox1:=(hb1.block w.heap.size (by simp)).trans HBX.out;obtain ⟨q0,q1,q2,q3,q4⟩:=aJ hbox1;have HP1:=Ha (HP.out.old HG0.out hb1);have HG1:=Ha (oG HG0.out hb1);have hlt1:w.heap.size<w1.heap.size:=(Array.getElem?_eq_some_iff.1 hbox1).1;have HX1:=Ha hbox1;have HB1:=Ha hb1;clear hb1 hbox1;go_wp2_with fail;refine (eC _ _).mono ?_;rintro e w3 ⟨rfl,rfl⟩;rw [HOP.out];go_wp2_with fail;refine (HIH.out 2 kids A c G _ (by omega) hd hwt HG1.out HP1.out).mono ?_;rintro e w2 ⟨rfl,hb2⟩;rw [HALL.out];try rw [HALL.out] at HF
       have hbox2:=(hb2.block w.heap.size hlt1).trans HX1.out;clear q0 q1 q2 q3 q4;obtain ⟨q0,q1,q2,q3,q4⟩:=aJ hbox2;have HP2:=Ha (HP1.out.old HG1.out hb2);have HB2:=Ha (HB1.out.trans (hb2.mono HB1.out.size));clear hb2 hbox2;go_wp2;go_ret;exact ⟨by rw [HF.out];rfl,(HW0.out.trans (HB2.out.mono HW0.out.size))⟩
      ·by_cases o2:o=⟨#[37]⟩
       ·subst o2;cases kl0:((kids.len:Int)==0)
        ·obtain ⟨HOP',HNN,HOP,HALL⟩:=hs4 (show opB [37]=true from rfl) hnm hop hall;clear hop hall o0b o1b o0c hnm;have HKL:=Ha kl0;go_enter Tryz.func182,Tryz.ntmps182;go_wp2_with fail;refine (eI t _ (by have:=HT.out;omega)).mono ?_;rintro e w1 ⟨rfl,hb1⟩;rw [HNM.out];have hbox1:=(hb1.block w.heap.size (by simp)).trans HBX.out;obtain ⟨q0,q1,q2,q3,q4⟩:=aJ hbox1;have HP1:=Ha (HP.out.old HG0.out hb1);have HG1:=Ha (oG HG0.out hb1);have hlt1:w.heap.size<w1.heap.size:=(Array.getElem?_eq_some_iff.1 hbox1).1;have HX1:=Ha hbox1;have HB1:=Ha hb1;clear hb1 hbox1;go_wp2_with fail;refine (eC _ _).mono ?_;rintro e w3 ⟨rfl,rfl⟩;rw [HOP.out];go_wp2_with fail;refine (HIH.out 2 kids A c G _ (by omega) hd hwt HG1.out HP1.out).mono ?_;rintro e w2 ⟨rfl,hb2⟩;rw [HALL.out];try rw [HALL.out] at HF
         have hbox2:=(hb2.block w.heap.size hlt1).trans HX1.out;clear q0 q1 q2 q3 q4;obtain ⟨q0,q1,q2,q3,q4⟩:=aJ hbox2;have HP2:=Ha (HP1.out.old HG1.out hb2);have HB2:=Ha (HB1.out.trans (hb2.mono HB1.out.size));clear hb2 hbox2;go_wp2_with fail;obtain ⟨kk,kt,ko,kkids,kcm,krest,rfl⟩:=dZ HKL.out;obtain ⟨kb,koff,kA,kc,rfl,hkG,kc0,kc1,kc2,kc3,kc4,_⟩:=HP2.out;simp only [Nat.zero_mul,Nat.add_zero] at kc0 kc1;clear kc2 kc3 kc4 kl0 hkG;have hlz:(0:Int)<((Pts.cons kk kt ko kkids kcm krest).len:Int):=by simp only [Pts.len];omega
         cases hkn:(kk != 1)
         ·obtain rfl:kk=1:=by simpa using hkn
          clear hkn;have HF:=Ha (show aK t.toList (⟨#[37]⟩:ByteArray).toList (Pts.cons 1 kt ko kkids kcm krest).len (Pts.cons 1 kt ko kkids kcm krest).headK (Pts.cons 1 kt ko kkids kcm krest).headT true=(!(hd0 kt.toList==37)) by unfold aK;rw [HNN.out,show (⟨#[37]⟩:ByteArray).toList=[37] from aI [37],HOP'.out];simp only [h35,Pts.headK,Pts.headT,Pts.len,show hd0 [37]=37 from rfl];simp;intro h;omega);go_wp2_with fail
          go_quiet ((go_at_call 121;exact Calls.quiet_of_same (yH kt _)))
          go_wp2;go_ret;exact ⟨by rw [HF.out];rfl,belowN (HW0.out.trans (HB2.out.mono HW0.out.size)) _⟩
         ·have HF:=Ha (show aK t.toList (⟨#[37]⟩:ByteArray).toList (Pts.cons kk kt ko kkids kcm krest).len (Pts.cons kk kt ko kkids kcm krest).headK (Pts.cons kk kt ko kkids kcm krest).headT true=true by unfold aK;rw [HNN.out,show (⟨#[37]⟩:ByteArray).toList=[37] from aI [37],HOP'.out];simp only [h35,Pts.headK,hkn];simp);go_wp2_with fail
          go_quiet (fail)
          go_wp2;go_ret;exact ⟨by rw [HF.out];rfl,belowN (HW0.out.trans (HB2.out.mono HW0.out.size)) _⟩
        ·obtain ⟨HF,HOP,HALL⟩:=hs3 (show aK t.toList (⟨#[37]⟩:ByteArray).toList kids.len kids.headK kids.headT (kids.allP 2 none)=true by unfold aK;rw [hnm];rw [show (⟨#[37]⟩:ByteArray).toList=[37] from aI [37]] at hop ⊢;simp [show opB [37]=true from rfl,h35,hall,kl0]) hop hall;clear hop hall o0b o1b o0c hnm;go_enter Tryz.func182,Tryz.ntmps182;go_wp2_with fail;refine (eI t _ (by have:=HT.out;omega)).mono ?_;rintro e w1 ⟨rfl,hb1⟩;rw [HNM.out];have hbox1:=(hb1.block w.heap.size (by simp)).trans HBX.out;obtain ⟨q0,q1,q2,q3,q4⟩:=aJ hbox1;have HP1:=Ha (HP.out.old HG0.out hb1);have HG1:=Ha (oG HG0.out hb1);have hlt1:w.heap.size<w1.heap.size:=(Array.getElem?_eq_some_iff.1 hbox1).1;have HX1:=Ha hbox1;have HB1:=Ha hb1;clear hb1 hbox1;go_wp2_with fail;refine (eC _ _).mono ?_;rintro e w3 ⟨rfl,rfl⟩;rw [HOP.out];go_wp2_with fail;refine (HIH.out 2 kids A c G _ (by omega) hd hwt HG1.out HP1.out).mono ?_;rintro e w2 ⟨rfl,hb2⟩;rw [HALL.out];try rw [HALL.out] at HF
         have hbox2:=(hb2.block w.heap.size hlt1).trans HX1.out;clear q0 q1 q2 q3 q4;obtain ⟨q0,q1,q2,q3,q4⟩:=aJ hbox2;have HP2:=Ha (HP1.out.old HG1.out hb2);have HB2:=Ha (HB1.out.trans (hb2.mono HB1.out.size));clear hb2 hbox2;go_wp2;go_ret;exact ⟨by rw [HF.out];rfl,(HW0.out.trans (HB2.out.mono HW0.out.size))⟩
       ·by_cases o3:o=⟨#[35]⟩
        ·subst o3;cases kl0:((kids.len:Int)==0)
         ·obtain ⟨HOP',HNN,HOP,HALL⟩:=hs4 (show opB [35]=true from rfl) hnm hop hall;clear hop hall o0b o1b o0c hnm;have HKL:=Ha kl0;go_enter Tryz.func182,Tryz.ntmps182;go_wp2_with fail;refine (eI t _ (by have:=HT.out;omega)).mono ?_;rintro e w1 ⟨rfl,hb1⟩;rw [HNM.out];have hbox1:=(hb1.block w.heap.size (by simp)).trans HBX.out;obtain ⟨q0,q1,q2,q3,q4⟩:=aJ hbox1;have HP1:=Ha (HP.out.old HG0.out hb1);have HG1:=Ha (oG HG0.out hb1);have hlt1:w.heap.size<w1.heap.size:=(Array.getElem?_eq_some_iff.1 hbox1).1;have HX1:=Ha hbox1;have HB1:=Ha hb1;clear hb1 hbox1;go_wp2_with fail;refine (eC _ _).mono ?_;rintro e w3 ⟨rfl,rfl⟩;rw [HOP.out];go_wp2_with fail;refine (HIH.out 2 kids A c G _ (by omega) hd hwt HG1.out HP1.out).mono ?_;rintro e w2 ⟨rfl,hb2⟩;rw [HALL.out];try rw [HALL.out] at HF
          have hbox2:=(hb2.block w.heap.size hlt1).trans HX1.out;clear q0 q1 q2 q3 q4;obtain ⟨q0,q1,q2,q3,q4⟩:=aJ hbox2;have HP2:=Ha (HP1.out.old HG1.out hb2);have HB2:=Ha (HB1.out.trans (hb2.mono HB1.out.size));clear hb2 hbox2;go_wp2_with fail;obtain ⟨kk,kt,ko,kkids,kcm,krest,rfl⟩:=dZ HKL.out;obtain ⟨kb,koff,kA,kc,rfl,hkG,kc0,kc1,kc2,kc3,kc4,_⟩:=HP2.out;simp only [Nat.zero_mul,Nat.add_zero] at kc0 kc1;clear kc2 kc3 kc4 kl0 hkG;have hlz:(0:Int)<((Pts.cons kk kt ko kkids kcm krest).len:Int):=by simp only [Pts.len];omega
          cases hkn:(kk != 1)
          ·obtain rfl:kk=1:=by simpa using hkn
           clear hkn;have HF:=Ha (show aK t.toList (⟨#[35]⟩:ByteArray).toList (Pts.cons 1 kt ko kkids kcm krest).len (Pts.cons 1 kt ko kkids kcm krest).headK (Pts.cons 1 kt ko kkids kcm krest).headT true=(!(hd0 kt.toList==35)) by unfold aK;rw [HNN.out,show (⟨#[35]⟩:ByteArray).toList=[35] from aI [35],HOP'.out];simp only [h35,Pts.headK,Pts.headT,Pts.len,show hd0 [35]=35 from rfl];simp;intro h;omega);go_wp2_with fail
           go_quiet ((go_at_call 121;exact Calls.quiet_of_same (yG kt _)))
           go_wp2;go_ret;exact ⟨by rw [HF.out];rfl,belowN (HW0.out.trans (HB2.out.mono HW0.out.size)) _⟩
          ·have HF:=Ha (show aK t.toList (⟨#[35]⟩:ByteArray).toList (Pts.cons kk kt ko kkids kcm krest).len (Pts.cons kk kt ko kkids kcm krest).headK (Pts.cons kk kt ko kkids kcm krest).headT true=true by unfold aK;rw [HNN.out,show (⟨#[35]⟩:ByteArray).toList=[35] from aI [35],HOP'.out];simp only [h35,Pts.headK,hkn];simp);go_wp2_with fail
           go_quiet (fail)
           go_wp2;go_ret;exact ⟨by rw [HF.out];rfl,belowN (HW0.out.trans (HB2.out.mono HW0.out.size)) _⟩
         ·obtain ⟨HF,HOP,HALL⟩:=hs3 (show aK t.toList (⟨#[35]⟩:ByteArray).toList kids.len kids.headK kids.headT (kids.allP 2 none)=true by unfold aK;rw [hnm];rw [show (⟨#[35]⟩:ByteArray).toList=[35] from aI [35]] at hop ⊢;simp [show opB [35]=true from rfl,h35,hall,kl0]) hop hall;clear hop hall o0b o1b o0c hnm;go_enter Tryz.func182,Tryz.ntmps182;go_wp2_with fail;refine (eI t _ (by have:=HT.out;omega)).mono ?_;rintro e w1 ⟨rfl,hb1⟩;rw [HNM.out];have hbox1:=(hb1.block w.heap.size (by simp)).trans HBX.out;obtain ⟨q0,q1,q2,q3,q4⟩:=aJ hbox1;have HP1:=Ha (HP.out.old HG0.out hb1);have HG1:=Ha (oG HG0.out hb1);have hlt1:w.heap.size<w1.heap.size:=(Array.getElem?_eq_some_iff.1 hbox1).1;have HX1:=Ha hbox1;have HB1:=Ha hb1;clear hb1 hbox1;go_wp2_with fail;refine (eC _ _).mono ?_;rintro e w3 ⟨rfl,rfl⟩;rw [HOP.out];go_wp2_with fail;refine (HIH.out 2 kids A c G _ (by omega) hd hwt HG1.out HP1.out).mono ?_;rintro e w2 ⟨rfl,hb2⟩;rw [HALL.out];try rw [HALL.out] at HF
          have hbox2:=(hb2.block w.heap.size hlt1).trans HX1.out;clear q0 q1 q2 q3 q4;obtain ⟨q0,q1,q2,q3,q4⟩:=aJ hbox2;have HP2:=Ha (HP1.out.old HG1.out hb2);have HB2:=Ha (HB1.out.trans (hb2.mono HB1.out.size));clear hb2 hbox2;go_wp2;go_ret;exact ⟨by rw [HF.out];rfl,(HW0.out.trans (HB2.out.mono HW0.out.size))⟩
        ·have o2b:(o.toList==[37])=false:=beq_eq_false_iff_ne.2 fun e=>o2 (aX (by rw [e];exact (aI [37]).symm));have o3b:(o.toList==[35])=false:=beq_eq_false_iff_ne.2 fun e=>o3 (aX (by rw [e];exact (aI [35]).symm));have o2c:(!(o.toList==[37]))=true:=by rw [o2b];rfl
         have o3c:(!(o.toList==[35]))=true:=by rw [o3b];rfl
         obtain ⟨HF,HOP,HALL⟩:=hs3 (show aK t.toList o.toList kids.len kids.headK kids.headT (kids.allP 2 none)=true by unfold aK;rw [hnm];simp [o0c,o1b,hop,h35,hall,o2b,o3b]) hop hall;clear hop hall o0c hnm;go_enter Tryz.func182,Tryz.ntmps182;go_wp2_with fail;refine (eI t _ (by have:=HT.out;omega)).mono ?_;rintro e w1 ⟨rfl,hb1⟩;rw [HNM.out];have hbox1:=(hb1.block w.heap.size (by simp)).trans HBX.out;obtain ⟨q0,q1,q2,q3,q4⟩:=aJ hbox1;have HP1:=Ha (HP.out.old HG0.out hb1);have HG1:=Ha (oG HG0.out hb1);have hlt1:w.heap.size<w1.heap.size:=(Array.getElem?_eq_some_iff.1 hbox1).1;have HX1:=Ha hbox1;have HB1:=Ha hb1;clear hb1 hbox1;go_wp2_with fail;refine (eC _ _).mono ?_;rintro e w3 ⟨rfl,rfl⟩;rw [HOP.out];go_wp2_with fail;refine (HIH.out 2 kids A c G _ (by omega) hd hwt HG1.out HP1.out).mono ?_;rintro e w2 ⟨rfl,hb2⟩;rw [HALL.out];try rw [HALL.out] at HF
         have hbox2:=(hb2.block w.heap.size hlt1).trans HX1.out;clear q0 q1 q2 q3 q4;obtain ⟨q0,q1,q2,q3,q4⟩:=aJ hbox2;have HP2:=Ha (HP1.out.old HG1.out hb2);have HB2:=Ha (HB1.out.trans (hb2.mono HB1.out.size));clear hb2 hbox2;go_wp2;go_ret;exact ⟨by rw [HF.out];rfl,(HW0.out.trans (HB2.out.mono HW0.out.size))⟩
    ·have HF:=Ha (show aK t.toList o.toList kids.len kids.headK kids.headT (kids.allP 2 none)=false by unfold aK;rw [hnm];simp [o0c,o1b,h35]);clear o0c hd hwt hnm;go_enter Tryz.func182,Tryz.ntmps182;go_wp2_with fail;refine (eI t _ (by have:=HT.out;omega)).mono ?_;rintro e w1 ⟨rfl,hb1⟩;rw [HNM.out];have hbox1:=(hb1.block w.heap.size (by simp)).trans HBX.out;obtain ⟨q0,q1,q2,q3,q4⟩:=aJ hbox1;have HP1:=Ha (HP.out.old HG0.out hb1);have HG1:=Ha (oG HG0.out hb1);have hlt1:w.heap.size<w1.heap.size:=(Array.getElem?_eq_some_iff.1 hbox1).1;have HX1:=Ha hbox1;have HB1:=Ha hb1;clear hb1 hbox1;go_wp2;go_ret;exact ⟨by rw [HF.out];rfl,(HW0.out.trans (HB1.out.mono HW0.out.size))⟩
def dY (p:Nat) (k:Int) (t o:List UInt8) (kl cn:Nat) (hk:Int) (ht:List UInt8) (aD aB:Bool):Bool:=
 if !bT k t o kl cn then false
 else if k==1 then bE p t
 else if k==2 then (t.length==1) && !(t==[0]) && !(t==[10])&&(p != 1||bF (hd0 t).toNat)
 else if k==3 then p != 1 && !iF t
 else if k==4 then p != 1&&aD
 else if k==5 then aK t o kl hk ht aB
 else if k==6 then true
 else if k==7 then aZ 0 t
 else false
theorem vD (l:List UInt8):eB 39 l = !iF l:=by
 unfold eB iF
 induction l with
 | nil=>rfl
 | cons c l ih=>
  rw [List.all_cons,List.any_cons,ih];have h0:((c.toNat:Int)==0)=(c==0):=by
   rw [Bool.eq_iff_iff,beq_iff_eq,beq_iff_eq];exact ⟨fun e=>UInt8.toNat_inj.1 (show _=0 by omega),fun e=>by rw [e];rfl⟩
  have h1:((c.toNat:Int)==39)=(c==39):=by
   rw [Bool.eq_iff_iff,beq_iff_eq,beq_iff_eq];exact ⟨fun e=>UInt8.toNat_inj.1 (show _=39 by omega),fun e=>by rw [e];rfl⟩
  rw [h0,h1];cases (c==0) <;> cases (c==39) <;> simp
theorem BQ (p:Nat) (k:Int) (t o:List UInt8) (kl cn:Nat) (hk:Int) (ht:List UInt8) (aD aB:Bool):cH p k t o kl cn hk ht aD aB=dY p k t o kl cn hk ht aD aB:=by
 have hkl:((kl:Int)==0) = !decide (0<kl):=by cases kl <;> simp <;> omega
 have hcn:((cn:Int)==0) = !decide (0<cn):=by cases cn <;> simp <;> omega
 have esc:((t.length==1) && !((hd0 t)==0) && !((hd0 t)==10)&&(p != 1||bF (hd0 t).toNat))=((t.length==1) && !(t==[0]) && !(t==[10])&&(p != 1||bF (hd0 t).toNat)):=by
  match t with
  | []=>rfl
  | [c]=>
   have h0:([c]==[(0:UInt8)])=(c==0):=by simp
   have h1:([c]==[(10:UInt8)])=(c==10):=by simp
   rw [h0,h1];rfl
  | _::_::_=>simp
 unfold cH dY cB bT;rw [hkl,hcn,esc,vD];by_cases h1:k=1
 ·subst h1;cases o.isEmpty <;> cases decide (0<kl) <;> cases decide (0<cn) <;> simp
 by_cases h2:k=2
 ·subst h2;cases o.isEmpty <;> cases decide (0<kl) <;> cases decide (0<cn) <;> simp
 by_cases h3:k=3
 ·subst h3;cases o.isEmpty <;> cases decide (0<kl) <;> cases decide (0<cn) <;> simp
 by_cases h4:k=4
 ·subst h4;cases o.isEmpty <;> cases t.isEmpty <;> cases decide (0<cn) <;> simp
 by_cases h5:k=5
 ·subst h5;cases decide (0<cn) <;> simp
 by_cases h6:k=6
 ·subst h6;cases o.isEmpty <;> cases t.isEmpty <;> cases decide (0<kl) <;> simp
 by_cases h7:k=7
 ·subst h7;cases o.isEmpty <;> cases decide (0<kl) <;> cases decide (0<cn) <;> simp
 ·simp [h1,h2,h3,h4,h5,h6,h7]
theorem nK (s:ByteArray) (w:World) (h32:s.size<4294967281):
  Calls Tryz.prog 155 #[.string s,.string ⟨#[0,39]⟩] w fun e w'=>e=.returned (.bool (iF s.toList))∧Below w.heap.size w w':=containsAny_two s w h32
theorem D6 (n:Nat) (IH:wZ n) (p:Nat) (hp2:p≤2) (k:Int) (t o:ByteArray) (kids:Pts) (A:Option Addr) (c:Nat) (cm:Cm) (G:Nat→Prop) (w:World) (hd:kids.deep<n) (hts:t.size≤1073741824) (hwt:kids.wt≤1073741824) (hG:∀ k,G k→k<w.heap.size) (hp:aY G w A 0 kids):
  Calls Tryz.prog 150 #[.int .i64 p,.agg #[.int .i64 k,.string t,.string o,.slice A kids.len c,.slice cm.a cm.n cm.c]] w fun e w'=>e=.returned (.bool (cH p k t.toList o.toList kids.len cm.n kids.headK kids.headT (kids.allP 1 none) (kids.allP 2 none)))∧Below w.heap.size w w':=by
 have HIH:=Ha IH;clear IH;have hw0:Below w.heap.size w (w.alloc (.cells #[.int .i64 k,.string t,.string o,.slice A kids.len c,.slice cm.a cm.n cm.c] 50)):=(Below.refl _ _).alloc (Nat.le_refl _) _;have hbox:=heap_alloc_new w (.cells #[.int .i64 k,.string t,.string o,.slice A kids.len c,.slice cm.a cm.n cm.c] 50);have hp0:=hp.old hG hw0;have hG0:∀ g,G g→g<(w.alloc (.cells #[.int .i64 k,.string t,.string o,.slice A kids.len c,.slice cm.a cm.n cm.c] 50)).heap.size:=fun g hg=>by have:=hG g hg;simp;omega
 obtain ⟨HW0,HBX,HP,HG0,HT,HEQ⟩:=hs6 hw0 hbox hp0 hG0 hts (BQ p k t.toList o.toList kids.len cm.n kids.headK kids.headT (kids.allP 1 none) (kids.allP 2 none));clear hw0 hbox hp hp0 hG hG0 hts;cases hp0:bT k t.toList o.toList kids.len cm.n
 ·have hpl:(!bT k t.toList o.toList kids.len cm.n)=true:=by rw [hp0];rfl
  have HPL:=Ha hp0;clear hp0;have HF:=Ha (show dY p k t.toList o.toList kids.len cm.n kids.headK kids.headT (kids.allP 1 none) (kids.allP 2 none)=false by unfold dY;rw [hpl];rfl);clear hpl hd hwt;go_enter Tryz.func150,Tryz.ntmps150;go_wp2_with fail;refine (dF k t o kids A c cm _).mono ?_;rintro e w1 ⟨rfl,hb1⟩;rw [HPL.out];have hbox1:=(hb1.block w.heap.size (by simp)).trans HBX.out;obtain ⟨q0,q1,q2,q3,q4⟩:=aJ hbox1;have HP1:=Ha (HP.out.old HG0.out hb1);have HG1:=Ha (oG HG0.out hb1);have hlt1:w.heap.size<w1.heap.size:=(Array.getElem?_eq_some_iff.1 hbox1).1;have HB1:=Ha hb1;clear hb1 hbox1;go_wp2;go_ret;exact ⟨by rw [HEQ.out,HF.out];rfl,(HW0.out.trans (HB1.out.mono HW0.out.size))⟩
 ·have hpl:(!bT k t.toList o.toList kids.len cm.n)=false:=by rw [hp0];rfl
  have HPL:=Ha hp0;clear hp0;by_cases k1:k=1
  ·subst k1;have HF:=Ha (show dY p 1 t.toList o.toList kids.len cm.n kids.headK kids.headT (kids.allP 1 none) (kids.allP 2 none)=bE p t.toList by unfold dY;rw [hpl];rfl);clear hpl hd hwt;go_enter Tryz.func150,Tryz.ntmps150;go_wp2_with fail;refine (dF 1 t o kids A c cm _).mono ?_;rintro e w1 ⟨rfl,hb1⟩;rw [HPL.out];have hbox1:=(hb1.block w.heap.size (by simp)).trans HBX.out;obtain ⟨q0,q1,q2,q3,q4⟩:=aJ hbox1;have HP1:=Ha (HP.out.old HG0.out hb1);have HG1:=Ha (oG HG0.out hb1);have hlt1:w.heap.size<w1.heap.size:=(Array.getElem?_eq_some_iff.1 hbox1).1;have HB1:=Ha hb1;clear hb1 hbox1;go_wp2_with fail;refine (vV p hp2 t _ (by have:=HT.out;omega)).mono ?_;rintro e w2 ⟨rfl,rfl⟩;go_wp2;go_ret;exact ⟨by rw [HEQ.out,HF.out];rfl,(HW0.out.trans (HB1.out.mono HW0.out.size))⟩
  ·by_cases k2:k=2
   ·subst k2;by_cases h1:t.size=1
    ·have hs1:((t.size:Int)==1)=true:=by rw [beq_iff_eq];omega
     have hs0:(0:Int)<(t.size:Int):=by omega
     have hs2:0<t.size:=by omega
     have hlen:(t.toList.length==1)=true:=by rw [← aL,h1];rfl
     have hhd:hd0 t.toList=t[0]:=eA t hs2;cases z0:(t.toList==[0])
     ·cases z1:(t.toList==[10])
      ·cases hp1:((p:Int) != 1)
       ·have hp1n:(p != 1)=false:=by rw [bne_eq_false_iff_eq] at hp1 ⊢;omega
        have HF:=Ha (show dY p 2 t.toList o.toList kids.len cm.n kids.headK kids.headT (kids.allP 1 none) (kids.allP 2 none)=bF (t[0].toNat:Int) by unfold dY;rw [hpl];simp only [hlen,z0,z1,hp1n,hhd];rfl);clear hpl hd hwt hlen hhd hp1n h1;go_enter Tryz.func150,Tryz.ntmps150;go_wp2_with fail;refine (dF 2 t o kids A c cm _).mono ?_;rintro e w1 ⟨rfl,hb1⟩;rw [HPL.out];have hbox1:=(hb1.block w.heap.size (by simp)).trans HBX.out;obtain ⟨q0,q1,q2,q3,q4⟩:=aJ hbox1;have HP1:=Ha (HP.out.old HG0.out hb1);have HG1:=Ha (oG HG0.out hb1);have hlt1:w.heap.size<w1.heap.size:=(Array.getElem?_eq_some_iff.1 hbox1).1;have HB1:=Ha hb1;clear hb1 hbox1;go_wp2_with fail;refine (cE t[0].toNat (aH t 0 hs2) _).mono ?_;rintro e w2 ⟨rfl,rfl⟩;go_wp2;go_ret;exact ⟨by rw [HEQ.out,HF.out];rfl,(HW0.out.trans (HB1.out.mono HW0.out.size))⟩
       ·have hp1n:(p != 1)=true:=by rw [bne_iff_ne] at hp1 ⊢;omega
        have HF:=Ha (show dY p 2 t.toList o.toList kids.len cm.n kids.headK kids.headT (kids.allP 1 none) (kids.allP 2 none)=true by unfold dY;rw [hpl];simp only [hlen,z0,z1,hp1n];rfl);clear hpl hd hwt hlen hhd hp1n h1;go_enter Tryz.func150,Tryz.ntmps150;go_wp2_with fail;refine (dF 2 t o kids A c cm _).mono ?_;rintro e w1 ⟨rfl,hb1⟩;rw [HPL.out];have hbox1:=(hb1.block w.heap.size (by simp)).trans HBX.out;obtain ⟨q0,q1,q2,q3,q4⟩:=aJ hbox1;have HP1:=Ha (HP.out.old HG0.out hb1);have HG1:=Ha (oG HG0.out hb1);have hlt1:w.heap.size<w1.heap.size:=(Array.getElem?_eq_some_iff.1 hbox1).1;have HB1:=Ha hb1;clear hb1 hbox1;go_wp2;go_ret;exact ⟨by rw [HEQ.out,HF.out];rfl,(HW0.out.trans (HB1.out.mono HW0.out.size))⟩
      ·have HF:=Ha (show dY p 2 t.toList o.toList kids.len cm.n kids.headK kids.headT (kids.allP 1 none) (kids.allP 2 none)=false by unfold dY;rw [hpl];simp only [hlen,z0,z1];rfl);clear hpl hd hwt hlen hhd h1;go_enter Tryz.func150,Tryz.ntmps150;go_wp2_with fail;refine (dF 2 t o kids A c cm _).mono ?_;rintro e w1 ⟨rfl,hb1⟩;rw [HPL.out];have hbox1:=(hb1.block w.heap.size (by simp)).trans HBX.out;obtain ⟨q0,q1,q2,q3,q4⟩:=aJ hbox1;have HP1:=Ha (HP.out.old HG0.out hb1);have HG1:=Ha (oG HG0.out hb1);have hlt1:w.heap.size<w1.heap.size:=(Array.getElem?_eq_some_iff.1 hbox1).1;have HB1:=Ha hb1;clear hb1 hbox1;go_wp2;go_ret;exact ⟨by rw [HEQ.out,HF.out];rfl,(HW0.out.trans (HB1.out.mono HW0.out.size))⟩
     ·have HF:=Ha (show dY p 2 t.toList o.toList kids.len cm.n kids.headK kids.headT (kids.allP 1 none) (kids.allP 2 none)=false by unfold dY;rw [hpl];simp only [hlen,z0];rfl);clear hpl hd hwt hlen hhd h1;go_enter Tryz.func150,Tryz.ntmps150;go_wp2_with fail;refine (dF 2 t o kids A c cm _).mono ?_;rintro e w1 ⟨rfl,hb1⟩;rw [HPL.out];have hbox1:=(hb1.block w.heap.size (by simp)).trans HBX.out;obtain ⟨q0,q1,q2,q3,q4⟩:=aJ hbox1;have HP1:=Ha (HP.out.old HG0.out hb1);have HG1:=Ha (oG HG0.out hb1);have hlt1:w.heap.size<w1.heap.size:=(Array.getElem?_eq_some_iff.1 hbox1).1;have HB1:=Ha hb1;clear hb1 hbox1;go_wp2;go_ret;exact ⟨by rw [HEQ.out,HF.out];rfl,(HW0.out.trans (HB1.out.mono HW0.out.size))⟩
    ·have hs1:((t.size:Int)==1)=false:=by rw [gJ];omega
     have hlen:(t.toList.length==1)=false:=by rw [← aL];exact beq_eq_false_iff_ne.2 h1
     have HF:=Ha (show dY p 2 t.toList o.toList kids.len cm.n kids.headK kids.headT (kids.allP 1 none) (kids.allP 2 none)=false by unfold dY;rw [hpl];simp only [hlen];rfl);clear hpl hd hwt hlen h1;go_enter Tryz.func150,Tryz.ntmps150;go_wp2_with fail;refine (dF 2 t o kids A c cm _).mono ?_;rintro e w1 ⟨rfl,hb1⟩;rw [HPL.out];have hbox1:=(hb1.block w.heap.size (by simp)).trans HBX.out;obtain ⟨q0,q1,q2,q3,q4⟩:=aJ hbox1;have HP1:=Ha (HP.out.old HG0.out hb1);have HG1:=Ha (oG HG0.out hb1);have hlt1:w.heap.size<w1.heap.size:=(Array.getElem?_eq_some_iff.1 hbox1).1;have HB1:=Ha hb1;clear hb1 hbox1;go_wp2;go_ret;exact ⟨by rw [HEQ.out,HF.out];rfl,(HW0.out.trans (HB1.out.mono HW0.out.size))⟩
   ·by_cases k3:k=3
    ·subst k3;cases hp1:((p:Int) != 1)
     ·have hp1n:(p != 1)=false:=by rw [bne_eq_false_iff_eq] at hp1 ⊢;omega
      have HF:=Ha (show dY p 3 t.toList o.toList kids.len cm.n kids.headK kids.headT (kids.allP 1 none) (kids.allP 2 none)=false by unfold dY;rw [hpl];simp only [hp1n];rfl);clear hpl hd hwt hp1n;go_enter Tryz.func150,Tryz.ntmps150;go_wp2_with fail;refine (dF 3 t o kids A c cm _).mono ?_;rintro e w1 ⟨rfl,hb1⟩;rw [HPL.out];have hbox1:=(hb1.block w.heap.size (by simp)).trans HBX.out;obtain ⟨q0,q1,q2,q3,q4⟩:=aJ hbox1;have HP1:=Ha (HP.out.old HG0.out hb1);have HG1:=Ha (oG HG0.out hb1);have hlt1:w.heap.size<w1.heap.size:=(Array.getElem?_eq_some_iff.1 hbox1).1;have HB1:=Ha hb1;clear hb1 hbox1;go_wp2;go_ret;exact ⟨by rw [HEQ.out,HF.out];rfl,(HW0.out.trans (HB1.out.mono HW0.out.size))⟩
     ·have hp1n:(p != 1)=true:=by rw [bne_iff_ne] at hp1 ⊢;omega
      have HF:=Ha (show dY p 3 t.toList o.toList kids.len cm.n kids.headK kids.headT (kids.allP 1 none) (kids.allP 2 none)=(!iF t.toList) by unfold dY;rw [hpl];simp only [hp1n];rfl);clear hpl hd hwt hp1n;go_enter Tryz.func150,Tryz.ntmps150;go_wp2_with fail;refine (dF 3 t o kids A c cm _).mono ?_;rintro e w1 ⟨rfl,hb1⟩;rw [HPL.out];have hbox1:=(hb1.block w.heap.size (by simp)).trans HBX.out;obtain ⟨q0,q1,q2,q3,q4⟩:=aJ hbox1;have HP1:=Ha (HP.out.old HG0.out hb1);have HG1:=Ha (oG HG0.out hb1);have hlt1:w.heap.size<w1.heap.size:=(Array.getElem?_eq_some_iff.1 hbox1).1;have HB1:=Ha hb1;clear hb1 hbox1;go_wp2_with fail;refine (nK t _ (by have:=HT.out;omega)).mono ?_;rintro e w2 ⟨rfl,hb2⟩;have HB2:=Ha (hb2.mono HB1.out.size);clear hb2;go_wp2;go_ret;exact ⟨by rw [HEQ.out,HF.out];rfl,(HW0.out.trans ((HB1.out.trans HB2.out).mono HW0.out.size))⟩
    ·by_cases k4:k=4
     ·subst k4;cases hp1:((p:Int) != 1)
      ·have hp1n:(p != 1)=false:=by rw [bne_eq_false_iff_eq] at hp1 ⊢;omega
       have HF:=Ha (show dY p 4 t.toList o.toList kids.len cm.n kids.headK kids.headT (kids.allP 1 none) (kids.allP 2 none)=false by unfold dY;rw [hpl];simp only [hp1n];rfl);clear hpl hd hwt hp1n;go_enter Tryz.func150,Tryz.ntmps150;go_wp2_with fail;refine (dF 4 t o kids A c cm _).mono ?_;rintro e w1 ⟨rfl,hb1⟩;rw [HPL.out];have hbox1:=(hb1.block w.heap.size (by simp)).trans HBX.out;obtain ⟨q0,q1,q2,q3,q4⟩:=aJ hbox1;have HP1:=Ha (HP.out.old HG0.out hb1);have HG1:=Ha (oG HG0.out hb1);have hlt1:w.heap.size<w1.heap.size:=(Array.getElem?_eq_some_iff.1 hbox1).1;have HB1:=Ha hb1;clear hb1 hbox1;go_wp2;go_ret;exact ⟨by rw [HEQ.out,HF.out];rfl,(HW0.out.trans (HB1.out.mono HW0.out.size))⟩
      ·have hp1n:(p != 1)=true:=by rw [bne_iff_ne] at hp1 ⊢;omega
       have HF:=Ha (show dY p 4 t.toList o.toList kids.len cm.n kids.headK kids.headT (kids.allP 1 none) (kids.allP 2 none)=kids.allP 1 none by unfold dY;rw [hpl];simp only [hp1n];rfl);clear hpl hp1n;go_enter Tryz.func150,Tryz.ntmps150;go_wp2_with fail;refine (dF 4 t o kids A c cm _).mono ?_;rintro e w1 ⟨rfl,hb1⟩;rw [HPL.out];have hbox1:=(hb1.block w.heap.size (by simp)).trans HBX.out;obtain ⟨q0,q1,q2,q3,q4⟩:=aJ hbox1;have HP1:=Ha (HP.out.old HG0.out hb1);have HG1:=Ha (oG HG0.out hb1);have hlt1:w.heap.size<w1.heap.size:=(Array.getElem?_eq_some_iff.1 hbox1).1;have HB1:=Ha hb1;clear hb1 hbox1;go_wp2_with fail;refine (HIH.out 1 kids A c G _ (by omega) hd hwt HG1.out HP1.out).mono ?_;rintro e w2 ⟨rfl,hb2⟩;have HB2:=Ha (hb2.mono HB1.out.size);clear hb2;go_wp2;go_ret;exact ⟨by rw [HEQ.out,HF.out];rfl,(HW0.out.trans ((HB1.out.trans HB2.out).mono HW0.out.size))⟩
     ·by_cases k5:k=5
      ·subst k5;have HF:=Ha (show dY p 5 t.toList o.toList kids.len cm.n kids.headK kids.headT (kids.allP 1 none) (kids.allP 2 none)=aK t.toList o.toList kids.len kids.headK kids.headT (kids.allP 2 none) by unfold dY;rw [hpl];rfl);clear hpl;go_enter Tryz.func150,Tryz.ntmps150;go_wp2_with fail;refine (dF 5 t o kids A c cm _).mono ?_;rintro e w1 ⟨rfl,hb1⟩;rw [HPL.out];have hbox1:=(hb1.block w.heap.size (by simp)).trans HBX.out;obtain ⟨q0,q1,q2,q3,q4⟩:=aJ hbox1;have HP1:=Ha (HP.out.old HG0.out hb1);have HG1:=Ha (oG HG0.out hb1);have hlt1:w.heap.size<w1.heap.size:=(Array.getElem?_eq_some_iff.1 hbox1).1;have HB1:=Ha hb1;clear hb1 hbox1;go_wp2_with fail;refine (BT n HIH.out 5 t o kids A c cm G _ hd (by have:=HT.out;omega) hwt HG1.out HP1.out).mono ?_;rintro e w2 ⟨rfl,hb2⟩;have HB2:=Ha (hb2.mono HB1.out.size);clear hb2;go_wp2;go_ret;exact ⟨by rw [HEQ.out,HF.out];rfl,(HW0.out.trans ((HB1.out.trans HB2.out).mono HW0.out.size))⟩
      ·by_cases k6:k=6
       ·subst k6;have HF:=Ha (show dY p 6 t.toList o.toList kids.len cm.n kids.headK kids.headT (kids.allP 1 none) (kids.allP 2 none)=true by unfold dY;rw [hpl];rfl);clear hpl hd hwt;go_enter Tryz.func150,Tryz.ntmps150;go_wp2_with fail;refine (dF 6 t o kids A c cm _).mono ?_;rintro e w1 ⟨rfl,hb1⟩;rw [HPL.out];have hbox1:=(hb1.block w.heap.size (by simp)).trans HBX.out;obtain ⟨q0,q1,q2,q3,q4⟩:=aJ hbox1;have HP1:=Ha (HP.out.old HG0.out hb1);have HG1:=Ha (oG HG0.out hb1);have hlt1:w.heap.size<w1.heap.size:=(Array.getElem?_eq_some_iff.1 hbox1).1;have HB1:=Ha hb1;clear hb1 hbox1;go_wp2;go_ret;exact ⟨by rw [HEQ.out,HF.out];rfl,(HW0.out.trans (HB1.out.mono HW0.out.size))⟩
       ·by_cases k7:k=7
        ·subst k7;have HF:=Ha (show dY p 7 t.toList o.toList kids.len cm.n kids.headK kids.headT (kids.allP 1 none) (kids.allP 2 none)=aZ 0 t.toList by unfold dY;rw [hpl];rfl);clear hpl hd hwt;go_enter Tryz.func150,Tryz.ntmps150;go_wp2_with fail;refine (dF 7 t o kids A c cm _).mono ?_;rintro e w1 ⟨rfl,hb1⟩;rw [HPL.out];have hbox1:=(hb1.block w.heap.size (by simp)).trans HBX.out;obtain ⟨q0,q1,q2,q3,q4⟩:=aJ hbox1;have HP1:=Ha (HP.out.old HG0.out hb1);have HG1:=Ha (oG HG0.out hb1);have hlt1:w.heap.size<w1.heap.size:=(Array.getElem?_eq_some_iff.1 hbox1).1;have HB1:=Ha hb1;clear hb1 hbox1;go_wp2_with fail;refine (AT t _ (by have:=HT.out;omega)).mono ?_;rintro e w2 ⟨rfl,rfl⟩;go_wp2;go_ret;exact ⟨by rw [HEQ.out,HF.out];rfl,(HW0.out.trans (HB1.out.mono HW0.out.size))⟩
        ·have b1:(k==1)=false:=beq_eq_false_iff_ne.2 k1;have b2:(k==2)=false:=beq_eq_false_iff_ne.2 k2;have b3:(k==3)=false:=beq_eq_false_iff_ne.2 k3;have b4:(k==4)=false:=beq_eq_false_iff_ne.2 k4;have b5:(k==5)=false:=beq_eq_false_iff_ne.2 k5;have b6:(k==6)=false:=beq_eq_false_iff_ne.2 k6;have b7:(k==7)=false:=beq_eq_false_iff_ne.2 k7;clear k1 k2 k3 k4 k5 k6 k7;have HF:=Ha (show dY p k t.toList o.toList kids.len cm.n kids.headK kids.headT (kids.allP 1 none) (kids.allP 2 none)=false by unfold dY;rw [hpl];simp only [b1,b2,b3,b4,b5,b6,b7];rfl);clear hpl hd hwt;go_enter Tryz.func150,Tryz.ntmps150;go_wp2_with fail;refine (dF k t o kids A c cm _).mono ?_;rintro e w1 ⟨rfl,hb1⟩;rw [HPL.out];have hbox1:=(hb1.block w.heap.size (by simp)).trans HBX.out;obtain ⟨q0,q1,q2,q3,q4⟩:=aJ hbox1;have HP1:=Ha (HP.out.old HG0.out hb1);have HG1:=Ha (oG HG0.out hb1);have hlt1:w.heap.size<w1.heap.size:=(Array.getElem?_eq_some_iff.1 hbox1).1;have HB1:=Ha hb1;clear hb1 hbox1;go_wp2;go_ret;exact ⟨by rw [HEQ.out,HF.out];rfl,(HW0.out.trans (HB1.out.mono HW0.out.size))⟩
end Go.Proofs.YtjpopekmbmcggaaGreatDoor
