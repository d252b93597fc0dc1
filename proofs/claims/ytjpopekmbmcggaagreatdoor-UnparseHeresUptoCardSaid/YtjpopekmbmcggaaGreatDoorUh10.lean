/- Towards unparseHeres_card. -/
import Derived.Test.YtjpopekmbmcggaaGreatDoorUh05
import Derived.Test.YtjpopekmbmcggaaGreatDoorUh03
set_option maxRecDepth 100000
set_option maxHeartbeats 16000000
namespace Go.Proofs.YtjpopekmbmcggaaGreatDoor
open Go.RowKit
def kV (l:List UInt8) (c:UInt8):Bool:=l.contains c
theorem gP (l:List UInt8) (c:UInt8):kV l c=true↔c∈l:=List.contains_iff_mem
theorem nM (s:ByteArray) (c:UInt8) (k:Nat) (h:k<s.size):kV (s.toList.take (k+1)) c=(kV (s.toList.take k) c||(s[k]==c)):=by
 rw [List.take_succ_eq_append_getElem (by rw [← aL];exact h),eH s k h];rw [Bool.eq_iff_iff,Bool.or_eq_true,gP,gP,beq_iff_eq,List.mem_append,List.mem_singleton];exact or_congr Iff.rfl eq_comm
theorem pC (s:ByteArray) (c:UInt8) (n:Int) (hn:n=(c.toNat:Int)) (w:World) (hs:s.size≤1099511627776):
  Calls Tryz.prog 125 #[.string s,.int .u8 n] w fun r w'=>r=.returned (.bool (kV s.toList c))∧w=w':=by
 have HN:=Ha hn;clear hn;go_enter Tryz.func125,Tryz.ntmps125;go_wp2
 go_loop [5] (fun i=>∃ k:Nat,k≤s.size∧i=.int .i64 k∧kV (s.toList.take k) c=false) (fun i=>s.size-(intOf i).toNat)
 case atStart=>exact ⟨0,by omega,rfl,rfl⟩
 case round=>
  obtain ⟨k,hk,rfl,hf⟩:=hrel;have HF:=Ha hf;clear hf;by_cases hlt:k<s.size
  ·cases hb:(s[k]==c)
   ·have hb2:((s[k].toNat:Int)==n)=false:=by
     rw [HN.out,gJ];intro e;exact (beq_eq_false_iff_ne.1 hb) (UInt8.toNat_inj.1 (by omega))
    have HB:=Ha hb;clear hb;go_wp2
    go_round
    case rel=>exact ⟨k+1,by omega,by go_num,by rw [nM s c k hlt,HF.out,HB.out];rfl⟩
    case measure=>simp only [intOf];omega
   ·have hb2:((s[k].toNat:Int)==n)=true:=by
     rw [HN.out,beq_iff_eq];rw [beq_iff_eq.1 hb]
    have hres:kV s.toList c=true:=by
     rw [gP,← beq_iff_eq.1 hb];exact List.mem_of_getElem? (get?_list s k hlt)
    have HR:=Ha hres;clear hres hb;go_wp2;go_ret;exact ⟨by rw [HR.out];rfl,rfl⟩
  ·have hres:kV s.toList c=false:=by
    have:=HF.out
    rwa [List.take_of_length_le (by rw [← aL];omega)] at this
   have HR:=Ha hres;clear hres;go_wp2;go_ret;exact ⟨by rw [HR.out];rfl,rfl⟩
theorem jS (l:List UInt8):iI l=(kV l 0||kV l 10):=by
 unfold iI;rw [Bool.eq_iff_iff];simp only [List.any_eq_true,Bool.or_eq_true,beq_iff_eq,gP];constructor
 ·rintro ⟨x,hx,rfl | rfl⟩
  ·exact .inl hx
  ·exact .inr hx
 ·rintro (h | h)
  ·exact ⟨_,h,.inl rfl⟩
  ·exact ⟨_,h,.inr rfl⟩
theorem qP (s:ByteArray) (h:0<s.size):s.toList.head? = some s[0]:=by rw [← get?_list s 0 h,List.head?_eq_getElem?]
theorem pS (e:ByteArray) (t:Bool) (w:World) (he:e.size≤1099511627776):
  Calls Tryz.prog 124 #[.agg #[.string e,.bool t]] w fun r w'=>r=.returned (.bool (cZ e.toList t))∧Below w.heap.size w w':=by
 have h0:=fun X=>pC e 0 0 (by rfl) X he;have h1:=fun X=>pC e 10 10 (by rfl) X he;cases c0:kV e.toList 0
 ·cases c1:kV e.toList 10
  ·rw [c0] at h0;rw [c1] at h1;cases t
   ·have hfin:cZ e.toList false=true:=by simp [cZ,jS,c0,c1]
    obtain ⟨H0,H1,HF⟩:=hs3 h0 h1 hfin;clear h0 h1 hfin c0 c1;go_enter Tryz.func124,Tryz.ntmps124;go_wp2_with fail;refine (H0.out _).mono ?_;rintro r w1 ⟨rfl,rfl⟩;go_wp2_with fail;refine (H1.out _).mono ?_;rintro r w1 ⟨rfl,rfl⟩;go_wp2;go_ret;exact ⟨by rw [HF.out];rfl,(Below.refl _ _).alloc (Nat.le_refl _) _⟩
   ·by_cases hemp:e.toList=[]
    ·have hfin:cZ e.toList true=true:=by simp [cZ,jS,hemp,kV]
     have hie:e.toList.isEmpty=true:=by rw [hemp];rfl
     obtain ⟨H0,H1,HF⟩:=hs3 h0 h1 hfin;clear h0 h1 hfin c0 c1 hemp;go_enter Tryz.func124,Tryz.ntmps124;go_wp2_with fail;refine (H0.out _).mono ?_;rintro r w1 ⟨rfl,rfl⟩;go_wp2_with fail;refine (H1.out _).mono ?_;rintro r w1 ⟨rfl,rfl⟩;go_wp2;go_ret;exact ⟨by rw [HF.out];rfl,(Below.refl _ _).alloc (Nat.le_refl _) _⟩
    ·have hpos:0<e.size:=by rw [aL];exact List.length_pos_iff.2 hemp
     have hposz:(0:Int)<(e.size:Int):=by omega
     have hie:e.toList.isEmpty=false:=by simpa using hemp
     have hfin:cZ e.toList true = !(e[0]==9):=by simp [cZ,jS,c0,c1,qP e hpos]
     obtain ⟨H0,H1,HF⟩:=hs3 h0 h1 hfin;clear h0 h1 hfin c0 c1 hemp;cases h9:(e[0]==9)
     ·have h9b:((e[0].toNat:Int) != 9)=true:=by
       rw [bne_iff_ne];intro h;exact (beq_eq_false_iff_ne.1 h9) (UInt8.toNat_inj.1 (show _=9 by omega))
      rw [h9] at HF;clear h9;go_enter Tryz.func124,Tryz.ntmps124;go_wp2_with fail;refine (H0.out _).mono ?_;rintro r w1 ⟨rfl,rfl⟩;go_wp2_with fail;refine (H1.out _).mono ?_;rintro r w1 ⟨rfl,rfl⟩;go_wp2;go_ret;exact ⟨by rw [HF.out];rfl,(Below.refl _ _).alloc (Nat.le_refl _) _⟩
     ·have h9b:((e[0].toNat:Int) != 9)=false:=by
       rw [bne_eq_false_iff_eq,beq_iff_eq.1 h9];rfl
      rw [h9] at HF;clear h9;go_enter Tryz.func124,Tryz.ntmps124;go_wp2_with fail;refine (H0.out _).mono ?_;rintro r w1 ⟨rfl,rfl⟩;go_wp2_with fail;refine (H1.out _).mono ?_;rintro r w1 ⟨rfl,rfl⟩;go_wp2;go_ret;exact ⟨by rw [HF.out];rfl,(Below.refl _ _).alloc (Nat.le_refl _) _⟩
  ·have hfin:cZ e.toList t=false:=by simp [cZ,jS,c0,c1]
   rw [c0] at h0;rw [c1] at h1;obtain ⟨H0,H1,HF⟩:=hs3 h0 h1 hfin;clear h0 h1 hfin c0 c1;go_enter Tryz.func124,Tryz.ntmps124;go_wp2_with fail;refine (H0.out _).mono ?_;rintro r w1 ⟨rfl,rfl⟩;go_wp2_with fail;refine (H1.out _).mono ?_;rintro r w1 ⟨rfl,rfl⟩;go_wp2;go_ret;exact ⟨by rw [HF.out];rfl,(Below.refl _ _).alloc (Nat.le_refl _) _⟩
 ·have hfin:cZ e.toList t=false:=by simp [cZ,jS,c0]
  rw [c0] at h0;have H0:=Ha h0;have HF:=Ha hfin;clear h0 h1 hfin c0;go_enter Tryz.func124,Tryz.ntmps124;go_wp2_with fail;refine (H0.out _).mono ?_;rintro r w1 ⟨rfl,rfl⟩;go_wp2;go_ret;exact ⟨by rw [HF.out];rfl,(Below.refl _ _).alloc (Nat.le_refl _) _⟩
def mJ (t:Bool) (l:List UInt8):List UInt8:=if t then l.dropWhile (· == 9) else l
theorem yA (t:Bool) (l:List UInt8):(mJ t l==l) = !(t&&(l.head? == some 9)):=by
 unfold mJ;cases t
 ·simp
 ·cases l with
  | nil=>rfl
  | cons c l=>
   simp only [if_true,List.dropWhile_cons,Bool.true_and,List.head?_cons];by_cases h:c=9
   ·subst h;have:=(List.dropWhile_suffix (l:=l) (· == (9:UInt8))).length_le;rw [if_pos (by rfl)];have h2:(List.dropWhile (fun x=>x==9) l==9::l)=false:=by
     rw [gJ];intro e;rw [e] at this;simp at this;omega
    rw [h2];rfl
   ·have hb:(c==9)=false:=beq_eq_false_iff_ne.2 h;simp [hb]
theorem vF (e s:ByteArray) (t:Bool) (w:World):
  Calls Tryz.prog 126 #[.agg #[.string e,.bool t],.string s] w fun r w'=>(∃ x:ByteArray,r=.returned (.string x)∧x.toList=mJ t s.toList)∧Below w.heap.size w w':=by
 go_enter Tryz.func126,Tryz.ntmps126;go_wp2
 go_loop [1] (fun v=>∃ x:ByteArray,v=.string x∧x.size≤s.size∧mJ t x.toList=mJ t s.toList) (fun v=>match v with | .string x=>x.size | _=>0)
 case atStart=>exact ⟨s,rfl,Nat.le_refl _,rfl⟩
 case round=>
  obtain ⟨x,rfl,hx,hc⟩:=hrel;have HC:=Ha hc;clear hc;cases t
  ·go_wp2;go_ret;exact ⟨⟨x,rfl,by rw [← HC.out];rfl⟩,(Below.refl _ _).alloc (Nat.le_refl _) _⟩
  ·by_cases hemp:x.toList=[]
   ·have hie:x.toList.isEmpty=true:=by rw [hemp];rfl
    have hr:x.toList=mJ true s.toList:=by rw [← HC.out,hemp];rfl
    have HR:=Ha hr;clear hr hemp;go_wp2;go_ret;exact ⟨⟨x,rfl,HR.out⟩,(Below.refl _ _).alloc (Nat.le_refl _) _⟩
   ·have hpos:0<x.size:=by rw [aL];exact List.length_pos_iff.2 hemp
    have hposz:(0:Int)<(x.size:Int):=by omega
    have hposz1:(1:Int)≤(x.size:Int):=by omega
    have hie:x.toList.isEmpty=false:=by simpa using hemp
    have hcons:x.toList=x[0]::x.toList.drop 1:=by
     cases h:x.toList with
     | nil=>exact absurd h hemp
     | cons a l=>
      have:=qP x hpos;rw [h] at this;simp at this;simp [this]
    cases h9:(x[0]==9)
    ·have h9b:((x[0].toNat:Int)==9)=false:=by
      rw [gJ];intro h;exact (beq_eq_false_iff_ne.1 h9) (UInt8.toNat_inj.1 (show _=9 by omega))
     have hr:x.toList=mJ true s.toList:=by
      rw [← HC.out];unfold mJ;rw [if_pos rfl]
      conv=>rhs;rw [hcons]
      rw [List.dropWhile_cons,h9,if_neg (by simp),← hcons]
     have HR:=Ha hr;clear hr hemp hcons h9;go_wp2;go_ret;exact ⟨⟨x,rfl,HR.out⟩,(Below.refl _ _).alloc (Nat.le_refl _) _⟩
    ·have h9b:((x[0].toNat:Int)==9)=true:=by rw [beq_iff_eq,beq_iff_eq.1 h9];rfl
     have hr:mJ true (x.extract 1 x.size).toList=mJ true s.toList:=by
      rw [← HC.out,kT];unfold mJ;rw [if_pos rfl,if_pos rfl]
      conv=>rhs;rw [hcons]
      rw [List.dropWhile_cons,h9,if_pos rfl]
     have hsz:(x.extract 1 x.size).size+1=x.size:=by rw [aL,kT,List.length_drop,← aL];omega
     have HR:=Ha hr;have HS:=Ha hsz;clear hr hemp hcons h9 hsz;go_wp2
     go_round
     case rel=>exact ⟨_,rfl,by have:=HS.out;omega,HR.out⟩
     case measure=>have:=HS.out;simp only;omega
def seg (l:List UInt8) (f k:Nat):List UInt8:=(l.drop f).take (k-f)
theorem rF (s:ByteArray) (f k:Nat) (hf:f≤k) (h:k<s.size):seg s.toList f (k+1)=seg s.toList f k++[s[k]]:=by
 unfold seg;have hl:k<s.toList.length:=by rw [← aL];exact h
 rw [show k+1-f=(k-f)+1 by omega,List.take_succ_eq_append_getElem (by rw [List.length_drop];omega),List.getElem_drop];simp only [show f+(k-f)=k by omega,eH s k h]
theorem drop_cons (s:ByteArray) (k:Nat) (h:k<s.size):s.toList.drop k=s[k]::s.toList.drop (k+1):=by
 rw [List.drop_eq_getElem_cons (by rw [← aL];exact h),eH s k h]
def EF (e:List UInt8) (t:Bool) (l:List UInt8) (n:Nat) (f i:Value):Prop:=∃ k a:Nat,k≤n∧a≤k∧f=.int .i64 a∧i=.int .i64 k∧(10:UInt8) ∉ seg l a k∧bV e t [] l=bV e t (seg l a k) (l.drop k)
theorem nB (e s:ByteArray) (t:Bool) (w:World) (hs:s.size≤1099511627776) (he:e.size≤1099511627776):
  Calls Tryz.prog 50 #[.agg #[.string e,.bool t],.string s] w fun r w'=>r=.returned (.bool (jB e.toList t s.toList))∧Below w.heap.size w w':=by
 have hra:=fun X=>pS e t X he;have hz:=fun X=>pC s 0 0 (by rfl) X hs;cases hr:cZ e.toList t
 ·have hfin:jB e.toList t s.toList=false:=by unfold jB;rw [hr];rfl
  rw [hr] at hra;have HRA:=Ha hra;have HF:=Ha hfin;clear hra hfin hr hz;go_enter Tryz.func50,Tryz.ntmps50;go_wp2_with fail;refine (HRA.out _).mono ?_;rintro r w1 ⟨rfl,h1⟩;have HB1:=Ha h1;clear h1;go_wp2;go_ret;exact ⟨by rw [HF.out];rfl,((Below.refl _ _).alloc (Nat.le_refl _) _).trans (HB1.out.mono (by simp))⟩
 ·rw [hr] at hra;cases hz0:kV s.toList 0
  ·have hn0:(0:UInt8) ∉ s.toList:=fun h=>by rw [(gP _ _).2 h] at hz0;cases hz0
   rw [hz0] at hz;have hfin:jB e.toList t s.toList=bV e.toList t [] s.toList:=by unfold jB;rw [hr];rfl
   obtain ⟨HRA,HF,HZ,HN0⟩:=hs4 hra hfin hz hn0;clear hra hfin hr hz hn0 hz0;by_cases hemp:s.toList=[]
   ·have hie:s.toList.isEmpty=true:=by rw [hemp];rfl
    have hsz:s.size=0:=by rw [aL,hemp];rfl
    have hres:bV e.toList t [] s.toList=true:=by rw [hemp];rfl
    have HR:=Ha hres;have HSZ:=Ha hsz;clear hres hemp hsz;go_enter Tryz.func50,Tryz.ntmps50;go_wp2_with fail;refine (HRA.out _).mono ?_;rintro r w1 ⟨rfl,h1⟩;have HB1:=Ha h1;clear h1;go_wp2_with fail;refine (HZ.out _).mono ?_;rintro r w2 ⟨rfl,rfl⟩;go_wp2
    go_loop [5,6] (fun _ i=>i=.int .i64 0) (fun _ _=>0)
    case atStart=>rfl
    case round=>
     subst hrel;have hnl:¬((0:Int)<(s.size:Int)):=by have:=HSZ.out;omega
     have hnd:decide ((0:Int)<(s.size:Int))=false:=decide_eq_false hnl;go_wp2;go_ret;exact ⟨by rw [HF.out,HR.out];rfl,((Below.refl _ _).alloc (Nat.le_refl _) _).trans (HB1.out.mono (by simp))⟩
   ·have hie:s.toList.isEmpty=false:=by simpa using hemp
    have hpos:0<s.size:=by rw [aL];exact List.length_pos_iff.2 hemp
    have hp1:(0:Int)≤(s.size:Int)-1:=by omega
    have hp2:(1:Int)≤(s.size:Int):=by omega
    have hp3:(s.size:Int)-1<(s.size:Int):=by omega
    have hp4:((s.size:Int)-1).toNat=s.size-1:=by omega
    have hlast : s.toList.getLast? = some (s[s.size - 1]'(by omega)) := by
     rw [List.getLast?_eq_getElem?,← aL];exact get?_list s _ (by omega)
    by_cases h10 : s[s.size - 1]'(by omega) = 10
    ·have hb10 : (((s[s.size - 1]'(by omega)).toNat : Int) != 10) = false := by rw [h10]; rfl
     have HL:=Ha h10;have HLA:=Ha hlast;clear hlast h10;go_enter Tryz.func50,Tryz.ntmps50;go_wp2_with fail;refine (HRA.out _).mono ?_;rintro r w1 ⟨rfl,h1⟩;have HB1:=Ha h1;clear h1;go_wp2_with fail;refine (HZ.out _).mono ?_;rintro r w2 ⟨rfl,rfl⟩;go_wp2;have hc0:w1.cell? ⟨w.heap.size,0,none⟩=some (.string e):=by
      rw [HB1.out.cell (p:=⟨w.heap.size,0,none⟩) (by simp)];simp
     have hc1:w1.cell? ⟨w.heap.size,1,none⟩=some (.bool t):=by
      rw [HB1.out.cell (p:=⟨w.heap.size,1,none⟩) (by simp)];simp
     have hbw:Below w.heap.size w w1:=((Below.refl _ _).alloc (Nat.le_refl _) _).trans (HB1.out.mono (by simp));have hw2:w.heap.size<w1.heap.size:=by have:=HB1.out.size;simp at this;omega
     obtain ⟨HBW,HC0,HC1⟩:=hs3 hbw hc0 hc1;clear hbw hc0 hc1 HB1
     go_loopw [5,6] (fun f i wr=>EF e.toList t s.toList s.size f i∧Below w1.heap.size w1 wr) (fun _ i _=>s.size-(intOf i).toNat)
     case atStart=>exact ⟨⟨0,0,by omega,by omega,rfl,rfl,by simp [seg],by simp [seg]⟩,Below.refl _ _⟩
     case round=>
      obtain ⟨⟨k,a,hk,ha,rfl,rfl,hn10,hgo⟩,hb⟩:=hrel;have hc0:wr.cell? ⟨w.heap.size,0,none⟩=some (.string e):=by rw [hb.cell (p:=⟨w.heap.size,0,none⟩) hw2];exact HC0.out
      have hc1:wr.cell? ⟨w.heap.size,1,none⟩=some (.bool t):=by rw [hb.cell (p:=⟨w.heap.size,1,none⟩) hw2];exact HC1.out
      have hbr:Below w.heap.size w wr:=HBW.out.trans (hb.mono (by omega));obtain ⟨HN,HG,HB,HBR⟩:=hs4 hn10 hgo hb hbr;clear hn10 hgo hb hbr hb10;by_cases hlt:k<s.size
      ·have ha0:(0:Int)≤(a:Int):=by omega
       have hak:(a:Int)≤(k:Int):=by omega
       have hks:(k:Int)≤(s.size:Int):=by omega
       have hkl:(k:Int)<(s.size:Int):=by omega
       by_cases h10:s[k]=10
       ·have hb10:((s[k].toNat:Int) != 10)=false:=by rw [h10];rfl
        have hxl:(s.extract a k).toList=seg s.toList a k:=by rw [gX];rfl
        have hstep:bV e.toList t [] s.toList=if nJ e.toList t (seg s.toList a k) then false else bV e.toList t [] (s.toList.drop (k+1)):=by
         rw [HG.out,drop_cons s k hlt,h10];simp [bV]
        have HXL:=Ha hxl;have HST:=Ha hstep;clear hxl hstep h10;cases hxe:(seg s.toList a k==e.toList)
        ·have hxe2:((s.extract a k).toList==e.toList)=false:=by rw [HXL.out];exact hxe
         have hbad:nJ e.toList t (seg s.toList a k)=(t&&((seg s.toList a k).head? == some 9)):=by unfold nJ;rw [hxe];rfl
         have HBA:=Ha hbad;clear hbad hxe;go_wp2_with fail;refine (vF e (s.extract a k) t _).mono ?_;rintro r w3 ⟨⟨x,rfl,hx⟩,hb3⟩;have hcb:=yA t (s.extract a k).toList;rw [← hx] at hcb;have hb4:Below w1.heap.size w1 w3:=HB.out.trans (hb3.mono HB.out.size);have hbr4:Below w.heap.size w w3:=HBR.out.trans (hb3.mono HBR.out.size);have HB4:=Ha hb4;have HBR4:=Ha hbr4;clear hb3 hb4 hbr4 hx hc0 hc1;cases hres:(x.toList==(s.extract a k).toList)
         ·have hne:(!(x.toList==(s.extract a k).toList))=true:=by rw [hres];rfl
          have hres2:=hres;rw [hres,HXL.out] at hcb;have hfin:bV e.toList t [] s.toList=false:=by
           rw [HST.out,HBA.out];have:(t&&((seg s.toList a k).head? == some 9))=true:=by revert hcb;cases (t&&((seg s.toList a k).head? == some 9)) <;> simp
           rw [this];rfl
          have HFI:=Ha hfin;clear hcb hfin hres2;go_wp2;go_ret;exact ⟨by rw [HF.out,HFI.out];rfl,HBR4.out⟩
         ·have hne:(!(x.toList==(s.extract a k).toList))=false:=by rw [hres];rfl
          have hres2:=hres;rw [hres,HXL.out] at hcb;have hfin:bV e.toList t [] s.toList=bV e.toList t [] (s.toList.drop (k+1)):=by
           rw [HST.out,HBA.out];have:(t&&((seg s.toList a k).head? == some 9))=false:=by revert hcb;cases (t&&((seg s.toList a k).head? == some 9)) <;> simp
           rw [this];rfl
          have HFI:=Ha hfin;clear hcb hfin hres2;go_wp2
          go_roundw
          case rel=>exact ⟨⟨k+1,k+1,by omega,by omega,by go_num,by go_num,by simp [seg],by rw [HFI.out];simp [seg]⟩,HB4.out⟩
          case measure=>simp only [intOf];omega
        ·have hxe2:((s.extract a k).toList==e.toList)=true:=by rw [HXL.out];exact hxe
         have hfin:bV e.toList t [] s.toList=false:=by
          rw [HST.out];unfold nJ;rw [hxe];rfl
         have HFI:=Ha hfin;clear hfin hxe;go_wp2;go_ret;exact ⟨by rw [HF.out,HFI.out];rfl,HBR.out⟩
       ·have hb10:((s[k].toNat:Int) != 10)=true:=by rw [bne_iff_ne];intro h;exact h10 (UInt8.toNat_inj.1 (show _=10 by omega))
        have h0:s[k]≠0:=fun h=>HN0.out (by rw [← h];exact List.mem_of_getElem? (get?_list s k hlt));have hgo2:bV e.toList t [] s.toList=bV e.toList t (seg s.toList a (k+1)) (s.toList.drop (k+1)):=by
         rw [HG.out,drop_cons s k hlt,bV,if_neg h0,if_neg h10,rF s a k ha hlt]
        have hn2:(10:UInt8) ∉ seg s.toList a (k+1):=by
         rw [rF s a k ha hlt,List.mem_append,List.mem_singleton];rintro (h | h)
         ·exact HN.out h
         ·exact h10 h.symm
        have HG2:=Ha hgo2;have HN2:=Ha hn2;clear hgo2 hn2 h0 h10;go_wp2
        go_roundw
        case rel=>exact ⟨⟨k+1,a,by omega,by omega,by rfl,by go_num,HN2.out,HG2.out⟩,HB.out⟩
        case measure=>simp only [intOf];omega
      ·have hfin:bV e.toList t [] s.toList=true:=by
        obtain rfl:k=s.size:=by omega
        rw [HG.out,List.drop_of_length_le (by rw [← aL];omega),bV];have hseg:seg s.toList a s.size=s.toList.drop a:=by unfold seg;rw [List.take_of_length_le (by rw [List.length_drop,← aL];omega)]
        rw [hseg];by_cases haa:a<s.size
        ·exfalso
         refine HN.out ?_;rw [hseg];have:(s.toList.drop a).getLast? = some 10:=by
          rw [List.getLast?_drop,if_neg (by rw [← aL];omega),HLA.out,HL.out]
         exact List.mem_of_getLast? this
        ·rw [List.drop_of_length_le (by rw [← aL];omega)];rfl
       have HFI:=Ha hfin;clear hfin;go_wp2;go_ret;exact ⟨by rw [HF.out,HFI.out];rfl,HBR.out⟩
    ·have hb10 : (((s[s.size - 1]'(by omega)).toNat : Int) != 10) = true := by
      rw [bne_iff_ne];intro h;exact h10 (UInt8.toNat_inj.1 (show _=10 by omega))
     have hres:bV e.toList t [] s.toList=false:=hF _ _ _ _ (by simpa using hemp) (.inr (by rw [hlast];simpa using h10));have HR:=Ha hres;clear hres hemp hlast h10;go_enter Tryz.func50,Tryz.ntmps50;go_wp2_with fail;refine (HRA.out _).mono ?_;rintro r w1 ⟨rfl,h1⟩;have HB1:=Ha h1;clear h1;go_wp2_with fail;refine (HZ.out _).mono ?_;rintro r w2 ⟨rfl,rfl⟩;go_wp2;go_ret;exact ⟨by rw [HF.out,HR.out];rfl,((Below.refl _ _).alloc (Nat.le_refl _) _).trans (HB1.out.mono (by simp))⟩
  ·have hfin:jB e.toList t s.toList=false:=by unfold jB;rw [hJ _ _ _ _ ((gP _ _).1 hz0)];simp
   rw [hz0] at hz;obtain ⟨HRA,HF,HZ⟩:=hs3 hra hfin hz;clear hra hfin hr hz hz0;go_enter Tryz.func50,Tryz.ntmps50;go_wp2_with fail;refine (HRA.out _).mono ?_;rintro r w1 ⟨rfl,h1⟩;have HB1:=Ha h1;clear h1;go_wp2_with fail;refine (HZ.out _).mono ?_;rintro r w2 ⟨rfl,rfl⟩;go_wp2;go_ret;exact ⟨by rw [HF.out];rfl,((Below.refl _ _).alloc (Nat.le_refl _) _).trans (HB1.out.mono (by simp))⟩
end Go.Proofs.YtjpopekmbmcggaaGreatDoor
