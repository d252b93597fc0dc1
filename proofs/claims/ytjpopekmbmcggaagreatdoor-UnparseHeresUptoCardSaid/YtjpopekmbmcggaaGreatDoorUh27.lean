/- Towards unparseHeres_card. -/
import Derived.Test.YtjpopekmbmcggaaGreatDoorUh23
import Derived.IntWalk
set_option maxRecDepth 100000
set_option maxHeartbeats 16000000
namespace Go.Proofs.YtjpopekmbmcggaaGreatDoor
open Go.RowKit
theorem bI {W:World} {b:Nat} {xs:List Value} {T:TypeId} (h:W.heap[b]? = some (.cells xs.toArray T (0,0))):∀ X,Below W.heap.size W X→∀ j u,xs[j]? = some u→X.cell? ⟨b,j,none⟩=some u:=
 fun _ hX j u hj=>aA (by simp [World.cell?,h,hj]) hX
theorem Int.beq_cast (n:Nat):((n:Int)==1)=(n==1):=by
 by_cases h:n=1
 ·rw [beq_iff_eq.2 h,beq_iff_eq.2 (by omega)]
 ·rw [beq_false_of_ne h,beq_false_of_ne (by omega)]
theorem oX:bG 78:=fun args w=>by simp [callFunc,go_sem,Tryz.func78,Tryz.f78]
theorem oY:bG 80:=fun args w=>by simp [callFunc,go_sem,Tryz.func80,Tryz.f80]
theorem oZ:bG 82:=fun args w=>by simp [callFunc,go_sem,Tryz.func82,Tryz.f82]
theorem o6:bG 84:=fun args w=>by simp [callFunc,go_sem,Tryz.func84,Tryz.f84]
theorem o7:bG 85:=fun args w=>by simp [callFunc,go_sem,Tryz.func85,Tryz.f85]
theorem o8:bG 86:=fun args w=>by simp [callFunc,go_sem,Tryz.func86,Tryz.f86]
theorem pA:bG 87:=fun args w=>by simp [callFunc,go_sem,Tryz.func87,Tryz.f87]
theorem pB:bG 88:=fun args w=>by simp [callFunc,go_sem,Tryz.func88,Tryz.f88]
theorem nS:bG 89:=fun args w=>by simp [callFunc,go_sem,Tryz.func89,Tryz.f89]
theorem sC (fs:List (Nat×Array Value×Bool)) (g c:Nat) (w:World) (hlen:fs.length≤1000) (hent:∀ k (h:k<fs.length),bG fs[k].1) (hcell:∀ k (h:k<fs.length),w.cell? ⟨g,k,none⟩=some (.func (.func fs[k].1) #[] fs[k].2.1))
  (hst:∀ k (h:k<fs.length),((fs.take k).all (·.2.2))=true→∀ X,Below w.heap.size w X→Calls Tryz.prog fs[k].1 fs[k].2.1 X fun e w'=>e=.returned (.bool fs[k].2.2)∧Below X.heap.size X w'):
  Calls Tryz.prog 77 #[.slice (some ⟨g,0,none⟩) fs.length c] w fun e w'=>e=.returned (.bool (fs.all (·.2.2)))∧Below w.heap.size w w':=by
 obtain ⟨HE,HC,HS⟩:=hs3 hent hcell hst;clear hent hcell hst;go_enter Tryz.func77,Tryz.ntmps77;go_wp2_with fail
 go_loopw [7] (fun i wr=>∃ (k:Nat),k≤fs.length∧i=.int .i64 k∧(fs.take k).all (·.2.2)=true∧Below w.heap.size w wr) (fun i _=>fs.length-(intOf i).toNat)
 case atStart=>exact ⟨0,by omega,rfl,rfl,Below.refl _ _⟩
 case round=>
  obtain ⟨k,hk,rfl,hf,hb⟩:=hrel;have HF:=Ha hf;have HB:=Ha hb;clear hf;by_cases hlt:k<fs.length
  ·have z0:=aA (HC.out k hlt) hb;have HX:=Ha (HS.out k hlt HF.out wr hb);have HEE:=Ha (HE.out k hlt);have HT:=Ha (show (fs.take (k+1)).all (·.2.2)=((fs.take k).all (·.2.2)&&(fs[k]).2.2) by rw [List.take_succ_eq_append_getElem hlt,List.all_append];simp);have HD:=Ha (show fs.all (·.2.2)=((fs.take k).all (·.2.2)&&((fs[k]).2.2&&(fs.drop (k+1)).all (·.2.2))) by
    conv=>lhs;rw [← List.take_append_drop k fs,List.all_append,List.drop_eq_getElem_cons hlt,List.all_cons])
   clear hb;generalize fs[k]=fk at *;obtain ⟨fn,cap,bv⟩:=fk;simp only at z0 HX HEE HT HD;go_wp2_with fail;rw [HEE.out,Oper.upon_enter];refine HX.out.mono ?_;rintro e w1 ⟨rfl,hb1⟩;have HB1:=Ha (HB.out.trans (hb1.mono HB.out.size));clear hb1 z0;cases bv
   ·go_wp2_with fail;go_ret;exact ⟨aC (by rw [HD.out,HF.out];rfl),HB1.out⟩
   ·go_wp2_with fail
    go_roundw
    case rel=>exact ⟨k+1,by omega,by go_num,by rw [HT.out,HF.out];rfl,HB1.out⟩
    case measure=>simp only [intOf];omega
  ·have HT:=Ha (show fs.all (·.2.2)=true by have h:=HF.out;rwa [List.take_of_length_le (by omega)] at h);clear hb;go_wp2_with fail;go_ret;exact ⟨aC (by rw [HT.out]),HB.out⟩
theorem kE (f:Nat) (G:Nat→Prop) (X:World) (b:Nat) (ky:Int) (s:ByteArray) (nt ni:Bool) (ops:List Int) (asg wds:List (WdF (Nd f))) (rds:List (RdF (Nd f))) (ars:List (ArF (Nd f))) (kds:List (Nd f)) (vs:List Value)
  (_hG:∀ k,G k→k<X.heap.size) (hv:NdV (f+1) G X vs (NdF.mk ky s nt ni ops asg wds rds ars kds)) (hbox:∀ j u,vs[j]? = some u→X.cell? ⟨b,j,none⟩=some u):
  Calls Tryz.prog 76 #[.pointer (some ⟨b,0,none⟩)] X fun e w'=>e=.returned (.bool (kds.length==1))∧Below X.heap.size X w':=by
 have hv':=hv;obtain ⟨A4,c4,A5,c5,A6,c6,A7,c7,A8,c8,A9,c9,rfl,hns,hal,hl4,hl5,hl6,hl7,hl8,hl9,hso,hsa,hsw,hsr,hsm,hsk⟩:=NdV.open hv';clear hso hsa hsw hsr hsm hsk hv';have x0:=hbox 0 _ rfl;have x1:=hbox 1 _ rfl;have x2:=hbox 2 _ rfl;have x3:=hbox 3 _ rfl;have x4:=hbox 4 _ rfl;have x5:=hbox 5 _ rfl;have x6:=hbox 6 _ rfl;have x7:=hbox 7 _ rfl;have x8:=hbox 8 _ rfl;have x9:=hbox 9 _ rfl;clear hv hbox;go_enter Tryz.func76,Tryz.ntmps76;go_wp2_with fail;go_ret;exact ⟨aC (Int.beq_cast _),Below.refl _ _⟩
theorem zG (f:Nat) (ih:PRt f) (G:Nat→Prop) (X:World) (b:Nat) (ky:Int) (s:ByteArray) (nt ni:Bool) (ops:List Int) (asg wds:List (WdF (Nd f))) (rds:List (RdF (Nd f))) (ars:List (ArF (Nd f))) (kds:List (Nd f)) (vs:List Value)
  (hG:∀ k,G k→k<X.heap.size) (ht:cC X) (hv:NdV (f+1) G X vs (NdF.mk ky s nt ni ops asg wds rds ars kds)) (hbox:∀ j u,vs[j]? = some u→X.cell? ⟨b,j,none⟩=some u):
  Calls Tryz.prog 78 #[.pointer (some ⟨b,0,none⟩)] X fun e w'=>e=.returned (.bool (aR (Nd.vw f) ⟨false,true,false,false,false,false,true⟩ (NdF.mk ky s nt ni ops asg wds rds ars kds)))∧Below X.heap.size X w':=by
 have hv':=hv;obtain ⟨A4,c4,A5,c5,A6,c6,A7,c7,A8,c8,A9,c9,rfl,hns,hal,hl4,hl5,hl6,hl7,hl8,hl9,hso,hsa,hsw,hsr,hsm,hsk⟩:=NdV.open hv';clear hso hsa hsw hsr hsm hsk hv';have x0:=hbox 0 _ rfl;have x1:=hbox 1 _ rfl;have x2:=hbox 2 _ rfl;have x3:=hbox 3 _ rfl;have x4:=hbox 4 _ rfl;have x5:=hbox 5 _ rfl;have x6:=hbox 6 _ rfl;have x7:=hbox 7 _ rfl;have x8:=hbox 8 _ rfl;have x9:=hbox 9 _ rfl;have HX:=Ha (eU f ih ⟨false,true,false,false,false,false,true⟩ G _ _ _ hG ht hv);clear hv hG hbox ht ih;go_enter Tryz.func78,Tryz.ntmps78;go_wp2_with fail;refine HX.out.mono ?_;rintro e w1 ⟨rfl,hb⟩;go_wp2_with fail;go_ret;exact ⟨rfl,hb⟩
theorem zH (f:Nat) (ih2:eQ f) (G:Nat→Prop) (X:World) (b:Nat) (ky:Int) (s:ByteArray) (nt ni:Bool) (ops:List Int) (asg wds:List (WdF (Nd f))) (rds:List (RdF (Nd f))) (ars:List (ArF (Nd f))) (kds:List (Nd f)) (vs:List Value)
  (hG:∀ k,G k→k<X.heap.size) (ht:cC X) (hv:NdV (f+1) G X vs (NdF.mk ky s nt ni ops asg wds rds ars kds)) (hbox:∀ j u,vs[j]? = some u→X.cell? ⟨b,j,none⟩=some u):
  Calls Tryz.prog 80 #[.pointer (some ⟨b,0,none⟩)] X fun e w'=>e=.returned (.bool (bQ (Nd.vw f) 1 2 (NdF.mk ky s nt ni ops asg wds rds ars kds)))∧Below X.heap.size X w':=by
 have hv':=hv;obtain ⟨A4,c4,A5,c5,A6,c6,A7,c7,A8,c8,A9,c9,rfl,hns,hal,hl4,hl5,hl6,hl7,hl8,hl9,hso,hsa,hsw,hsr,hsm,hsk⟩:=NdV.open hv';clear hso hsa hsw hsr hsm hsk hv';have x0:=hbox 0 _ rfl;have x1:=hbox 1 _ rfl;have x2:=hbox 2 _ rfl;have x3:=hbox 3 _ rfl;have x4:=hbox 4 _ rfl;have x5:=hbox 5 _ rfl;have x6:=hbox 6 _ rfl;have x7:=hbox 7 _ rfl;have x8:=hbox 8 _ rfl;have x9:=hbox 9 _ rfl;have HX:=Ha (sN f ih2 1 2 G _ _ _ hG ht hv);clear hv hG hbox ht ih2;go_enter Tryz.func80,Tryz.ntmps80;go_wp2_with fail;refine HX.out.mono ?_;rintro e w1 ⟨rfl,hb⟩;go_wp2_with fail;go_ret;exact ⟨rfl,hb⟩
theorem zI (f:Nat) (G:Nat→Prop) (X:World) (b:Nat) (ky:Int) (s:ByteArray) (nt ni:Bool) (ops:List Int) (asg wds:List (WdF (Nd f))) (rds:List (RdF (Nd f))) (ars:List (ArF (Nd f))) (kds:List (Nd f)) (vs:List Value)
  (hG:∀ k,G k→k<X.heap.size) (hv:NdV (f+1) G X vs (NdF.mk ky s nt ni ops asg wds rds ars kds)) (hbox:∀ j u,vs[j]? = some u→X.cell? ⟨b,j,none⟩=some u):
  Calls Tryz.prog 82 #[.pointer (some ⟨b,0,none⟩)] X fun e w'=>e=.returned (.bool (eV (kds.length) (NdF.mk ky s nt ni ops asg wds rds ars kds)))∧Below X.heap.size X w':=by
 have hv':=hv;obtain ⟨A4,c4,A5,c5,A6,c6,A7,c7,A8,c8,A9,c9,rfl,hns,hal,hl4,hl5,hl6,hl7,hl8,hl9,hso,hsa,hsw,hsr,hsm,hsk⟩:=NdV.open hv';clear hso hsa hsw hsr hsm hsk hv';have x0:=hbox 0 _ rfl;have x1:=hbox 1 _ rfl;have x2:=hbox 2 _ rfl;have x3:=hbox 3 _ rfl;have x4:=hbox 4 _ rfl;have x5:=hbox 5 _ rfl;have x6:=hbox 6 _ rfl;have x7:=hbox 7 _ rfl;have x8:=hbox 8 _ rfl;have x9:=hbox 9 _ rfl;have HX:=Ha (CJ f (kds.length) G _ _ _ hG hv);clear hv hG hbox;go_enter Tryz.func82,Tryz.ntmps82;go_wp2_with fail;refine HX.out.mono ?_;rintro e w1 ⟨rfl,hb⟩;go_wp2_with fail;go_ret;exact ⟨rfl,hb⟩
theorem zJ (f:Nat) (ih:PRt f) (G:Nat→Prop) (X:World) (b:Nat) (ky:Int) (s:ByteArray) (nt ni:Bool) (ops:List Int) (asg wds:List (WdF (Nd f))) (rds:List (RdF (Nd f))) (ars:List (ArF (Nd f))) (kds:List (Nd f)) (vs:List Value)
  (hG:∀ k,G k→k<X.heap.size) (ht:cC X) (hv:NdV (f+1) G X vs (NdF.mk ky s nt ni ops asg wds rds ars kds)) (hbox:∀ j u,vs[j]? = some u→X.cell? ⟨b,j,none⟩=some u):
  Calls Tryz.prog 84 #[.pointer (some ⟨b,0,none⟩)] X fun e w'=>e=.returned (.bool (aR (Nd.vw f) ⟨false,true,false,false,false,false,true⟩ (NdF.mk ky s nt ni ops asg wds rds ars kds)))∧Below X.heap.size X w':=by
 have hv':=hv;obtain ⟨A4,c4,A5,c5,A6,c6,A7,c7,A8,c8,A9,c9,rfl,hns,hal,hl4,hl5,hl6,hl7,hl8,hl9,hso,hsa,hsw,hsr,hsm,hsk⟩:=NdV.open hv';clear hso hsa hsw hsr hsm hsk hv';have x0:=hbox 0 _ rfl;have x1:=hbox 1 _ rfl;have x2:=hbox 2 _ rfl;have x3:=hbox 3 _ rfl;have x4:=hbox 4 _ rfl;have x5:=hbox 5 _ rfl;have x6:=hbox 6 _ rfl;have x7:=hbox 7 _ rfl;have x8:=hbox 8 _ rfl;have x9:=hbox 9 _ rfl;have HX:=Ha (eU f ih ⟨false,true,false,false,false,false,true⟩ G _ _ _ hG ht hv);clear hv hG hbox ht ih;go_enter Tryz.func84,Tryz.ntmps84;go_wp2_with fail;refine HX.out.mono ?_;rintro e w1 ⟨rfl,hb⟩;go_wp2_with fail;go_ret;exact ⟨rfl,hb⟩
theorem zK (f:Nat) (ih2:eQ f) (G:Nat→Prop) (X:World) (b:Nat) (ky:Int) (s:ByteArray) (nt ni:Bool) (ops:List Int) (asg wds:List (WdF (Nd f))) (rds:List (RdF (Nd f))) (ars:List (ArF (Nd f))) (kds:List (Nd f)) (vs:List Value)
  (hG:∀ k,G k→k<X.heap.size) (ht:cC X) (hv:NdV (f+1) G X vs (NdF.mk ky s nt ni ops asg wds rds ars kds)) (hbox:∀ j u,vs[j]? = some u→X.cell? ⟨b,j,none⟩=some u):
  Calls Tryz.prog 85 #[.pointer (some ⟨b,0,none⟩)] X fun e w'=>e=.returned (.bool (bQ (Nd.vw f) 2 3 (NdF.mk ky s nt ni ops asg wds rds ars kds)))∧Below X.heap.size X w':=by
 have hv':=hv;obtain ⟨A4,c4,A5,c5,A6,c6,A7,c7,A8,c8,A9,c9,rfl,hns,hal,hl4,hl5,hl6,hl7,hl8,hl9,hso,hsa,hsw,hsr,hsm,hsk⟩:=NdV.open hv';clear hso hsa hsw hsr hsm hsk hv';have x0:=hbox 0 _ rfl;have x1:=hbox 1 _ rfl;have x2:=hbox 2 _ rfl;have x3:=hbox 3 _ rfl;have x4:=hbox 4 _ rfl;have x5:=hbox 5 _ rfl;have x6:=hbox 6 _ rfl;have x7:=hbox 7 _ rfl;have x8:=hbox 8 _ rfl;have x9:=hbox 9 _ rfl;have HX:=Ha (sN f ih2 2 3 G _ _ _ hG ht hv);clear hv hG hbox ht ih2;go_enter Tryz.func85,Tryz.ntmps85;go_wp2_with fail;refine HX.out.mono ?_;rintro e w1 ⟨rfl,hb⟩;go_wp2_with fail;go_ret;exact ⟨rfl,hb⟩
theorem zL (f:Nat) (G:Nat→Prop) (X:World) (b:Nat) (ky:Int) (s:ByteArray) (nt ni:Bool) (ops:List Int) (asg wds:List (WdF (Nd f))) (rds:List (RdF (Nd f))) (ars:List (ArF (Nd f))) (kds:List (Nd f)) (vs:List Value)
  (hG:∀ k,G k→k<X.heap.size) (hv:NdV (f+1) G X vs (NdF.mk ky s nt ni ops asg wds rds ars kds)) (hbox:∀ j u,vs[j]? = some u→X.cell? ⟨b,j,none⟩=some u) (h2:1≤kds.length):
  Calls Tryz.prog 86 #[.pointer (some ⟨b,0,none⟩)] X fun e w'=>e=.returned (.bool (eV (kds.length-1) (NdF.mk ky s nt ni ops asg wds rds ars kds)))∧Below X.heap.size X w':=by
 have hv':=hv;obtain ⟨A4,c4,A5,c5,A6,c6,A7,c7,A8,c8,A9,c9,rfl,hns,hal,hl4,hl5,hl6,hl7,hl8,hl9,hso,hsa,hsw,hsr,hsm,hsk⟩:=NdV.open hv';clear hso hsa hsw hsr hsm hsk hv';have x0:=hbox 0 _ rfl;have x1:=hbox 1 _ rfl;have x2:=hbox 2 _ rfl;have x3:=hbox 3 _ rfl;have x4:=hbox 4 _ rfl;have x5:=hbox 5 _ rfl;have x6:=hbox 6 _ rfl;have x7:=hbox 7 _ rfl;have x8:=hbox 8 _ rfl;have x9:=hbox 9 _ rfl;have hcast:((kds.length:Int)-1)=((kds.length-1:Nat):Int):=by omega
 have HX:=Ha (CJ f (kds.length-1) G _ _ _ hG hv);rw [← hcast] at HX;clear hcast;clear hv hG hbox;go_enter Tryz.func86,Tryz.ntmps86;go_wp2_with fail;refine HX.out.mono ?_;rintro e w1 ⟨rfl,hb⟩;go_wp2_with fail;go_ret;exact ⟨rfl,hb⟩
theorem zM (f:Nat) (ih:PRt f) (G:Nat→Prop) (X:World) (b:Nat) (ky:Int) (s:ByteArray) (nt ni:Bool) (ops:List Int) (asg wds:List (WdF (Nd f))) (rds:List (RdF (Nd f))) (ars:List (ArF (Nd f))) (kds:List (Nd f)) (vs:List Value)
  (hG:∀ k,G k→k<X.heap.size) (ht:cC X) (hv:NdV (f+1) G X vs (NdF.mk ky s nt ni ops asg wds rds ars kds)) (hbox:∀ j u,vs[j]? = some u→X.cell? ⟨b,j,none⟩=some u):
  Calls Tryz.prog 87 #[.pointer (some ⟨b,0,none⟩)] X fun e w'=>e=.returned (.bool (aR (Nd.vw f) ⟨false,false,false,false,false,false,true⟩ (NdF.mk ky s nt ni ops asg wds rds ars kds)))∧Below X.heap.size X w':=by
 have hv':=hv;obtain ⟨A4,c4,A5,c5,A6,c6,A7,c7,A8,c8,A9,c9,rfl,hns,hal,hl4,hl5,hl6,hl7,hl8,hl9,hso,hsa,hsw,hsr,hsm,hsk⟩:=NdV.open hv';clear hso hsa hsw hsr hsm hsk hv';have x0:=hbox 0 _ rfl;have x1:=hbox 1 _ rfl;have x2:=hbox 2 _ rfl;have x3:=hbox 3 _ rfl;have x4:=hbox 4 _ rfl;have x5:=hbox 5 _ rfl;have x6:=hbox 6 _ rfl;have x7:=hbox 7 _ rfl;have x8:=hbox 8 _ rfl;have x9:=hbox 9 _ rfl;have HX:=Ha (eU f ih ⟨false,false,false,false,false,false,true⟩ G _ _ _ hG ht hv);clear hv hG hbox ht ih;go_enter Tryz.func87,Tryz.ntmps87;go_wp2_with fail;refine HX.out.mono ?_;rintro e w1 ⟨rfl,hb⟩;go_wp2_with fail;go_ret;exact ⟨rfl,hb⟩
theorem zN (f:Nat) (ih2:eQ f) (G:Nat→Prop) (X:World) (b:Nat) (ky:Int) (s:ByteArray) (nt ni:Bool) (ops:List Int) (asg wds:List (WdF (Nd f))) (rds:List (RdF (Nd f))) (ars:List (ArF (Nd f))) (kds:List (Nd f)) (vs:List Value)
  (hG:∀ k,G k→k<X.heap.size) (ht:cC X) (hv:NdV (f+1) G X vs (NdF.mk ky s nt ni ops asg wds rds ars kds)) (hbox:∀ j u,vs[j]? = some u→X.cell? ⟨b,j,none⟩=some u):
  Calls Tryz.prog 88 #[.pointer (some ⟨b,0,none⟩)] X fun e w'=>e=.returned (.bool (bQ (Nd.vw f) 1 4 (NdF.mk ky s nt ni ops asg wds rds ars kds)))∧Below X.heap.size X w':=by
 have hv':=hv;obtain ⟨A4,c4,A5,c5,A6,c6,A7,c7,A8,c8,A9,c9,rfl,hns,hal,hl4,hl5,hl6,hl7,hl8,hl9,hso,hsa,hsw,hsr,hsm,hsk⟩:=NdV.open hv';clear hso hsa hsw hsr hsm hsk hv';have x0:=hbox 0 _ rfl;have x1:=hbox 1 _ rfl;have x2:=hbox 2 _ rfl;have x3:=hbox 3 _ rfl;have x4:=hbox 4 _ rfl;have x5:=hbox 5 _ rfl;have x6:=hbox 6 _ rfl;have x7:=hbox 7 _ rfl;have x8:=hbox 8 _ rfl;have x9:=hbox 9 _ rfl;have HX:=Ha (sN f ih2 1 4 G _ _ _ hG ht hv);clear hv hG hbox ht ih2;go_enter Tryz.func88,Tryz.ntmps88;go_wp2_with fail;refine HX.out.mono ?_;rintro e w1 ⟨rfl,hb⟩;go_wp2_with fail;go_ret;exact ⟨rfl,hb⟩
theorem wK (f:Nat) (G:Nat→Prop) (X:World) (b:Nat) (b2:Nat) (hone:X.cell? ⟨b2,0,none⟩=some (.func (.func 76) #[] #[.pointer (some ⟨b,0,none⟩)])) (ky:Int) (s:ByteArray) (nt ni:Bool) (ops:List Int) (asg wds:List (WdF (Nd f))) (rds:List (RdF (Nd f))) (ars:List (ArF (Nd f))) (kds:List (Nd f)) (vs:List Value)
  (hG:∀ k,G k→k<X.heap.size) (hv:NdV (f+1) G X vs (NdF.mk ky s nt ni ops asg wds rds ars kds)) (hbox:∀ j u,vs[j]? = some u→X.cell? ⟨b,j,none⟩=some u):
  Calls Tryz.prog 89 #[.pointer (some ⟨b,0,none⟩),.pointer (some ⟨b2,0,none⟩)] X fun e w'=>e=.returned (.bool (nt || !(kds.length==1)))∧Below X.heap.size X w':=by
 have hv':=hv;obtain ⟨A4,c4,A5,c5,A6,c6,A7,c7,A8,c8,A9,c9,rfl,hns,hal,hl4,hl5,hl6,hl7,hl8,hl9,hso,hsa,hsw,hsr,hsm,hsk⟩:=NdV.open hv';clear hso hsa hsw hsr hsm hsk hv';have x0:=hbox 0 _ rfl;have x1:=hbox 1 _ rfl;have x2:=hbox 2 _ rfl;have x3:=hbox 3 _ rfl;have x4:=hbox 4 _ rfl;have x5:=hbox 5 _ rfl;have x6:=hbox 6 _ rfl;have x7:=hbox 7 _ rfl;have x8:=hbox 8 _ rfl;have x9:=hbox 9 _ rfl;have HX:=Ha (kE f G X b ky s nt ni ops asg wds rds ars kds _ hG hv hbox);clear hv hbox hG;cases nt
 case true=>
  go_enter Tryz.func89,Tryz.ntmps89;go_wp2_with fail;go_ret;exact ⟨rfl,Below.refl _ _⟩
 go_enter Tryz.func89,Tryz.ntmps89;go_wp2_with fail;refine HX.out.mono ?_;rintro e w1 ⟨rfl,hb⟩;go_wp2_with fail;go_ret;exact ⟨rfl,hb⟩
theorem cY {β:Type} (C:β→Nat):∀ (xs:List β) (k:Nat) (h:k<xs.length),tot C (xs.drop k)=C xs[k]+tot C (xs.drop (k+1)):=by
 intro xs k h;rw [bB xs k h,tot]
theorem Gr.box {w:World} {b:Nat} {xs:List Value} {T:TypeId} (h:w.heap[b]? = some (.cells xs.toArray T (0,0))) (x:Gr w):∀ j u,xs[j]? = some u→x.at_.cell? ⟨b,j,none⟩=some u:=
 fun j u hj=>x.cell _ _ (by simp [World.cell?,h,hj])
end Go.Proofs.YtjpopekmbmcggaaGreatDoor
