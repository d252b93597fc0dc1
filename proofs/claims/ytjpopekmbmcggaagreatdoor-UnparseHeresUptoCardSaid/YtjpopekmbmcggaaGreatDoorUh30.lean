/- Towards unparseHeres_card. -/
import Derived.Test.YtjpopekmbmcggaaGreatDoorUh28
import Derived.Test.YtjpopekmbmcggaaGreatDoorUh27
set_option maxRecDepth 100000
set_option maxHeartbeats 16000000
namespace Go.Proofs.YtjpopekmbmcggaaGreatDoor
open Go.RowKit
def dK (f:Nat):Prop:=∀ (G:Nat→Prop) (w:World) (vs:List Value) (x:Nd f),(∀ k,G k→k<w.heap.size)→NdV f G w vs x→
 Calls Tryz.prog 38 #[ag vs] w fun e w'=>e=.returned (.bool ((Nd.vw f).rt x))∧Below w.heap.size w w'
theorem bK (f:Nat) (ih:RRt f) (G:Nat→Prop) (v:Value) (xs:List (WdF (Nd f))) (w:World) (hG:∀ k,G k→k<w.heap.size) (hs:aV G w 1 (WdN f G w) v xs):
  Calls Tryz.prog 97 #[v] w fun e w'=>e=.returned (.bool (xs.all (aP (Nd.vw f))))∧Below w.heap.size w w':=by
 obtain ⟨A,c,rfl,hl,hm,hc⟩:=hs;unfold maxLen at hm;obtain ⟨HC,HG,IH⟩:=hs3 hc hG ih;clear hc hG ih;go_enter Tryz.func97,Tryz.ntmps97;go_wp2_with fail
 go_loopw [3] (fun i wr=>∃ (k:Nat),k≤xs.length∧i=.int .i64 k∧(xs.drop k).all (aP (Nd.vw f))=xs.all (aP (Nd.vw f))∧Below w.heap.size w wr) (fun i _=>xs.length-(intOf i).toNat)
 case atStart=>exact ⟨0,by omega,rfl,rfl,Below.refl _ _⟩
 case round=>
  obtain ⟨k,hk,rfl,hf,hb⟩:=hrel;have HF:=Ha hf;have HB:=Ha hb;clear hf hb;by_cases hlt:k<xs.length
  ·obtain ⟨b,off,rfl,hg,hel⟩:=HC.out (by omega);obtain ⟨vs,hvl,hR,hcell⟩:=hel k hlt;have hR':=hR.below HG.out HB.out;have HX:=Ha (AN f IH.out G wr vs _ (aG HG.out HB.out) hR');obtain ⟨A0,n0,c0,rfl⟩:=hR'.shape;have z:=fun j u hj=>(bC HG.out HB.out _ hg).trans (hcell j u hj);have d0:wr.cell? ⟨b,off+k,none⟩=some (.slice A0 n0 c0):=by simpa using z 0 _ rfl
   have HD:=Ha (dW (aP (Nd.vw f)) xs k hlt);clear z hel hcell hvl hR hR' hg;go_wp2_with fail;refine HX.out.mono ?_;rintro e w1 ⟨he,hb1⟩;have HB1:=Ha (HB.out.trans (hb1.mono HB.out.size));clear hb1 d0;cases hq:aP (Nd.vw f) xs[k]
   ·rw [hq] at he;subst he;have HQ:=Ha hq;clear hq;go_wp2_with fail;go_ret;exact ⟨aC (by rw [← HF.out,HD.out,HQ.out];rfl),HB1.out⟩
   ·rw [hq] at he;subst he;have HQ:=Ha hq;clear hq;go_wp2_with fail
    go_roundw
    case rel=>exact ⟨k+1,by omega,by go_num,by rw [← HF.out,HD.out,HQ.out];rfl,HB1.out⟩
    case measure=>simp only [intOf];omega
  ·have HE:=Ha (eZ (aP (Nd.vw f)) xs k (by omega));go_wp2_with fail;go_ret;exact ⟨aC (by rw [← HF.out,HE.out]),HB.out⟩
theorem cO (f:Nat) (ih:RRt f) (G:Nat→Prop) (v:Value) (xs:List (RdF (Nd f))) (w:World) (hG:∀ k,G k→k<w.heap.size) (hs:aV G w 4 (RdN f G w) v xs):
  Calls Tryz.prog 96 #[v] w fun e w'=>e=.returned (.bool (xs.all (aW (Nd.vw f))))∧Below w.heap.size w w':=by
 obtain ⟨A,c,rfl,hl,hm,hc⟩:=hs;unfold maxLen at hm;obtain ⟨HC,HG,IH⟩:=hs3 hc hG ih;clear hc hG ih;go_enter Tryz.func96,Tryz.ntmps96;go_wp2_with fail
 go_loopw [3] (fun i wr=>∃ (k:Nat),k≤xs.length∧i=.int .i64 k∧(xs.drop k).all (aW (Nd.vw f))=xs.all (aW (Nd.vw f))∧Below w.heap.size w wr) (fun i _=>xs.length-(intOf i).toNat)
 case atStart=>exact ⟨0,by omega,rfl,rfl,Below.refl _ _⟩
 case round=>
  obtain ⟨k,hk,rfl,hf,hb⟩:=hrel;have HF:=Ha hf;have HB:=Ha hb;clear hf hb;by_cases hlt:k<xs.length
  ·obtain ⟨b,off,rfl,hg,hel⟩:=HC.out (by omega);obtain ⟨vs,hvl,hR,hcell⟩:=hel k hlt;have hR':=hR.below HG.out HB.out;have HX:=Ha (uK f IH.out G wr vs _ (aG HG.out HB.out) hR');obtain ⟨s,o,A2,n2,c2,sh,rfl⟩:=hR'.shape;have z:=fun j u hj=>(bC HG.out HB.out _ hg).trans (hcell j u hj);have d0:wr.cell? ⟨b,off+k*4,none⟩=some (.string s):=by simpa using z 0 _ rfl
   have d1:wr.cell? ⟨b,off+k*4+1,none⟩=some (.int .i64 o):=by simpa using z 1 _ rfl
   have d2:wr.cell? ⟨b,off+k*4+2,none⟩=some (.slice A2 n2 c2):=by simpa using z 2 _ rfl
   have d3:wr.cell? ⟨b,off+k*4+3,none⟩=some (.string sh):=by simpa using z 3 _ rfl
   have HD:=Ha (dW (aW (Nd.vw f)) xs k hlt);clear z hel hcell hvl hR hR' hg;go_wp2_with fail;refine HX.out.mono ?_;rintro e w1 ⟨he,hb1⟩;have HB1:=Ha (HB.out.trans (hb1.mono HB.out.size));clear hb1 d0 d1 d2 d3;cases hq:aW (Nd.vw f) xs[k]
   ·rw [hq] at he;subst he;have HQ:=Ha hq;clear hq;go_wp2_with fail;go_ret;exact ⟨aC (by rw [← HF.out,HD.out,HQ.out];rfl),HB1.out⟩
   ·rw [hq] at he;subst he;have HQ:=Ha hq;clear hq;go_wp2_with fail
    go_roundw
    case rel=>exact ⟨k+1,by omega,by go_num,by rw [← HF.out,HD.out,HQ.out];rfl,HB1.out⟩
    case measure=>simp only [intOf];omega
  ·have HE:=Ha (eZ (aW (Nd.vw f)) xs k (by omega));go_wp2_with fail;go_ret;exact ⟨aC (by rw [← HF.out,HE.out]),HB.out⟩
theorem pF (f:Nat) (ih:dK f) (least:Nat) (fr:Int) (G:Nat→Prop) (w:World) (vs:List Value) (x:NdF (Nd f)) (hG:∀ k,G k→k<w.heap.size) (hv:NdV (f+1) G w vs x):
  Calls Tryz.prog 99 #[ag vs,.int .i64 (least:Nat),.int .i64 fr] w fun e w'=>e=.returned (.bool (bQ (Nd.vw f) least fr x))∧Below w.heap.size w w':=by
 obtain ⟨ky,s,nt,ni,ops,asg,wds,rds,ars,kds⟩:=x;obtain ⟨A4,c4,A5,c5,A6,c6,A7,c7,A8,c8,A9,c9,rfl,hns,hal,hl4,hl5,hl6,hl7,hl8,hl9,hso,hsa,hsw,hsr,hsm,hsk⟩:=NdV.open hv;obtain ⟨HSO,HSA,HSW,HSR,HSM,HSK⟩:=hs6 hso hsa hsw hsr hsm hsk;clear hso hsa hsw hsr hsm hsk hv;show Calls Tryz.prog 99 #[.agg #[.int .i64 ky,.string s,.bool nt,.bool ni,.slice A4 ops.length c4,.slice A5 asg.length c5,.slice A6 wds.length c6,.slice A7 rds.length c7,.slice A8 ars.length c8,.slice A9 kds.length c9],.int .i64 (least:Nat),.int .i64 fr] w _;obtain ⟨W,hW,hbw,hb0⟩:=cpd w (.cells #[.int .i64 ky,.string s,.bool nt,.bool ni,.slice A4 ops.length c4,.slice A5 asg.length c5,.slice A6 wds.length c6,.slice A7 rds.length c7,.slice A8 ars.length c8,.slice A9 kds.length c9] 28);obtain ⟨x0,x1,x2,x3,x4,x5,x6,x7,x8,x9⟩:=c10 hb0;obtain ⟨HGW,HBW,HG⟩:=hs3 (aG hG hbw) hbw hG;clear hbw hb0 hG;have IH:=Ha ih;clear ih;by_cases hl:least≤kds.length
 case neg=>
  have HL:=Ha (decide_eq_false hl);go_enter Tryz.func99,Tryz.ntmps99;go_wp2_with fail;go_ret;exact ⟨aC (by rw [bQ,HL.out,Bool.false_and]),HBW.out⟩
 have HL:=Ha (show bQ (Nd.vw f) least fr (NdF.mk ky s nt ni ops asg wds rds ars kds)=kds.all (fun y=>decide (fr≤(Nd.vw f).kd y)&&(Nd.vw f).rt y) by rw [bQ,decide_eq_true hl,Bool.true_and]);have hl':decide (kds.length<least)=false:=decide_eq_false (by omega);go_enter Tryz.func99,Tryz.ntmps99;go_wp2_with fail
 go_loopw [7] (fun i wr=>∃ (k:Nat),k≤kds.length∧i=.int .i64 k∧(kds.drop k).all (fun y=>decide (fr≤(Nd.vw f).kd y)&&(Nd.vw f).rt y)=kds.all (fun y=>decide (fr≤(Nd.vw f).kd y)&&(Nd.vw f).rt y)∧Below W.heap.size W wr) (fun i _=>kds.length-(intOf i).toNat)
 case atStart=>exact ⟨0,by omega,rfl,rfl,Below.refl _ _⟩
 case round=>
  obtain ⟨k,hk,rfl,hf,hb⟩:=hrel;have HF:=Ha hf;have HB:=Ha hb;have y9:=aA x9 hb;clear hf hb;by_cases hlt:k<kds.length
  ·obtain ⟨A,c,hA,_,_,hel⟩:=HSK.out.onN HG.out HBW.out
   injection hA with hA1 _ hA2
   subst hA1 hA2;obtain ⟨b,off,rfl,hg,hel⟩:=hel (by omega);obtain ⟨vs,hvl,hR,hcell⟩:=hel k hlt;have hR':=hR.below HGW.out HB.out;have HX:=Ha (IH.out G wr _ _ (aG HGW.out HB.out) hR');obtain ⟨kx,sx,ntx,nix,B4,m4,e4,B5,m5,e5,B6,m6,e6,B7,m7,e7,B8,m8,e8,B9,m9,e9,rfl⟩:=hR'.shape;have z:=fun j u hj=>(bC HGW.out HB.out _ hg).trans (hcell j u hj);have d0:wr.cell? ⟨b,off+k*10,none⟩=some (.int .i64 kx):=by simpa using z 0 _ rfl
   have d1:wr.cell? ⟨b,off+k*10+1,none⟩=some (.string sx):=by simpa using z 1 _ rfl
   have d2:wr.cell? ⟨b,off+k*10+2,none⟩=some (.bool ntx):=by simpa using z 2 _ rfl
   have d3:wr.cell? ⟨b,off+k*10+3,none⟩=some (.bool nix):=by simpa using z 3 _ rfl
   have d4:wr.cell? ⟨b,off+k*10+4,none⟩=some (.slice B4 m4 e4):=by simpa using z 4 _ rfl
   have d5:wr.cell? ⟨b,off+k*10+5,none⟩=some (.slice B5 m5 e5):=by simpa using z 5 _ rfl
   have d6:wr.cell? ⟨b,off+k*10+6,none⟩=some (.slice B6 m6 e6):=by simpa using z 6 _ rfl
   have d7:wr.cell? ⟨b,off+k*10+7,none⟩=some (.slice B7 m7 e7):=by simpa using z 7 _ rfl
   have d8:wr.cell? ⟨b,off+k*10+8,none⟩=some (.slice B8 m8 e8):=by simpa using z 8 _ rfl
   have d9:wr.cell? ⟨b,off+k*10+9,none⟩=some (.slice B9 m9 e9):=by simpa using z 9 _ rfl
   have HD:=Ha (dW (fun y=>decide (fr≤(Nd.vw f).kd y)&&(Nd.vw f).rt y) kds k hlt);clear z hel hcell hvl hR hg;have HKD:=Ha (NdV.kind hR');by_cases h9:fr≤kx
   case neg=>
    have HP:=Ha (show (fun y=>decide (fr≤(Nd.vw f).kd y)&&(Nd.vw f).rt y) kds[k]=false by simp only [HKD.out];rw [decide_eq_false h9,Bool.false_and]);clear hR';go_wp2_with fail;go_ret;exact ⟨aC (by rw [HL.out,← HF.out,HD.out,HP.out];rfl),HBW.out.trans (HB.out.mono HBW.out.size)⟩
   have HP:=Ha (show (fun y=>decide (fr≤(Nd.vw f).kd y)&&(Nd.vw f).rt y) kds[k]=(Nd.vw f).rt kds[k] by simp only [HKD.out];rw [decide_eq_true h9,Bool.true_and]);clear hR';go_wp2_with fail;refine HX.out.mono ?_;rintro e w1 ⟨he,hb1⟩;have HB1:=Ha (HB.out.trans (hb1.mono HB.out.size));clear hb1 y9 d0 d1 d2 d3 d4 d5 d6 d7 d8 d9;cases hq:(Nd.vw f).rt kds[k]
   ·rw [hq] at he;subst he;have HQ:=Ha hq;clear hq;go_wp2_with fail;go_ret;exact ⟨aC (by rw [HL.out,← HF.out,HD.out,HP.out,HQ.out];rfl),HBW.out.trans (HB1.out.mono HBW.out.size)⟩
   ·rw [hq] at he;subst he;have HQ:=Ha hq;clear hq;go_wp2_with fail
    go_roundw
    case rel=>exact ⟨k+1,by omega,by go_num,by rw [← HF.out,HD.out,HP.out,HQ.out];rfl,HB1.out⟩
    case measure=>simp only [intOf];omega
  ·have HE:=Ha (eZ (fun y=>decide (fr≤(Nd.vw f).kd y)&&(Nd.vw f).rt y) kds k (by omega));go_wp2_with fail;go_ret;exact ⟨aC (by rw [HL.out,← HF.out,HE.out]),HBW.out.trans (HB.out.mono HBW.out.size)⟩
theorem g5 (f:Nat) (ih:RRt f) (least most:Nat) (G:Nat→Prop) (w:World) (vs:List Value) (x:NdF (Nd f)) (hG:∀ k,G k→k<w.heap.size) (hv:NdV (f+1) G w vs x):
  Calls Tryz.prog 102 #[ag vs,.int .i64 (least:Nat),.int .i64 (most:Nat)] w fun e w'=>e=.returned (.bool (cS (Nd.vw f) least most x))∧Below w.heap.size w w':=by
 obtain ⟨ky,s,nt,ni,ops,asg,wds,rds,ars,kds⟩:=x;obtain ⟨A4,c4,A5,c5,A6,c6,A7,c7,A8,c8,A9,c9,rfl,hns,hal,hl4,hl5,hl6,hl7,hl8,hl9,hso,hsa,hsw,hsr,hsm,hsk⟩:=NdV.open hv;obtain ⟨HSO,HSA,HSW,HSR,HSM,HSK⟩:=hs6 hso hsa hsw hsr hsm hsk;clear hso hsa hsw hsr hsm hsk hv;show Calls Tryz.prog 102 #[.agg #[.int .i64 ky,.string s,.bool nt,.bool ni,.slice A4 ops.length c4,.slice A5 asg.length c5,.slice A6 wds.length c6,.slice A7 rds.length c7,.slice A8 ars.length c8,.slice A9 kds.length c9],.int .i64 (least:Nat),.int .i64 (most:Nat)] w _;obtain ⟨W,hW,hbw,hb0⟩:=cpd w (.cells #[.int .i64 ky,.string s,.bool nt,.bool ni,.slice A4 ops.length c4,.slice A5 asg.length c5,.slice A6 wds.length c6,.slice A7 rds.length c7,.slice A8 ars.length c8,.slice A9 kds.length c9] 28);obtain ⟨x0,x1,x2,x3,x4,x5,x6,x7,x8,x9⟩:=c10 hb0;obtain ⟨HGW,HBW,HG⟩:=hs3 (aG hG hbw) hbw hG;clear hbw hb0 hG;have IH:=Ha ih;clear ih;by_cases hl:kds.length<least
 ·have HL:=Ha (decide_eq_true hl);go_enter Tryz.func102,Tryz.ntmps102;go_wp2_with fail;go_ret;exact ⟨aC (by rw [cS,HL.out];rfl),HBW.out⟩
 by_cases hl2:most<kds.length
 ·have HL:=Ha (decide_eq_false hl);have HL2:=Ha (decide_eq_true hl2);go_enter Tryz.func102,Tryz.ntmps102;go_wp2_with fail;go_ret;exact ⟨aC (by rw [cS,HL.out,HL2.out];rfl),HBW.out⟩
 have HL:=Ha (show cS (Nd.vw f) least most (NdF.mk ky s nt ni ops asg wds rds ars kds)=kds.all ((Nd.vw f).R) by rw [cS,decide_eq_false hl,decide_eq_false hl2];rfl);go_enter Tryz.func102,Tryz.ntmps102;go_wp2_with fail
 go_loopw [7] (fun i wr=>∃ (k:Nat),k≤kds.length∧i=.int .i64 k∧(kds.drop k).all ((Nd.vw f).R)=kds.all ((Nd.vw f).R)∧Below W.heap.size W wr) (fun i _=>kds.length-(intOf i).toNat)
 case atStart=>exact ⟨0,by omega,rfl,rfl,Below.refl _ _⟩
 case round=>
  obtain ⟨k,hk,rfl,hf,hb⟩:=hrel;have HF:=Ha hf;have HB:=Ha hb;have y9:=aA x9 hb;clear hf hb;by_cases hlt:k<kds.length
  ·obtain ⟨A,c,hA,_,_,hel⟩:=HSK.out.onN HG.out HBW.out
   injection hA with hA1 _ hA2
   subst hA1 hA2;obtain ⟨b,off,rfl,hg,hel⟩:=hel (by omega);obtain ⟨vs,hvl,hR,hcell⟩:=hel k hlt;have hR':=hR.below HGW.out HB.out;have HX:=Ha (IH.out G wr _ _ (aG HGW.out HB.out) hR');obtain ⟨kx,sx,ntx,nix,B4,m4,e4,B5,m5,e5,B6,m6,e6,B7,m7,e7,B8,m8,e8,B9,m9,e9,rfl⟩:=hR'.shape;have z:=fun j u hj=>(bC HGW.out HB.out _ hg).trans (hcell j u hj);have d0:wr.cell? ⟨b,off+k*10,none⟩=some (.int .i64 kx):=by simpa using z 0 _ rfl
   have d1:wr.cell? ⟨b,off+k*10+1,none⟩=some (.string sx):=by simpa using z 1 _ rfl
   have d2:wr.cell? ⟨b,off+k*10+2,none⟩=some (.bool ntx):=by simpa using z 2 _ rfl
   have d3:wr.cell? ⟨b,off+k*10+3,none⟩=some (.bool nix):=by simpa using z 3 _ rfl
   have d4:wr.cell? ⟨b,off+k*10+4,none⟩=some (.slice B4 m4 e4):=by simpa using z 4 _ rfl
   have d5:wr.cell? ⟨b,off+k*10+5,none⟩=some (.slice B5 m5 e5):=by simpa using z 5 _ rfl
   have d6:wr.cell? ⟨b,off+k*10+6,none⟩=some (.slice B6 m6 e6):=by simpa using z 6 _ rfl
   have d7:wr.cell? ⟨b,off+k*10+7,none⟩=some (.slice B7 m7 e7):=by simpa using z 7 _ rfl
   have d8:wr.cell? ⟨b,off+k*10+8,none⟩=some (.slice B8 m8 e8):=by simpa using z 8 _ rfl
   have d9:wr.cell? ⟨b,off+k*10+9,none⟩=some (.slice B9 m9 e9):=by simpa using z 9 _ rfl
   have HD:=Ha (dW ((Nd.vw f).R) kds k hlt);clear z hel hcell hvl hR hg;clear hR';go_wp2_with fail;refine HX.out.mono ?_;rintro e w1 ⟨he,hb1⟩;have HB1:=Ha (HB.out.trans (hb1.mono HB.out.size));clear hb1 y9 d0 d1 d2 d3 d4 d5 d6 d7 d8 d9;cases hq:(Nd.vw f).R kds[k]
   ·rw [hq] at he;subst he;have HQ:=Ha hq;clear hq;go_wp2_with fail;go_ret;exact ⟨aC (by rw [HL.out,← HF.out,HD.out,HQ.out];rfl),HBW.out.trans (HB1.out.mono HBW.out.size)⟩
   ·rw [hq] at he;subst he;have HQ:=Ha hq;clear hq;go_wp2_with fail
    go_roundw
    case rel=>exact ⟨k+1,by omega,by go_num,by rw [← HF.out,HD.out,HQ.out];rfl,HB1.out⟩
    case measure=>simp only [intOf];omega
  ·have HE:=Ha (eZ ((Nd.vw f).R) kds k (by omega));go_wp2_with fail;go_ret;exact ⟨aC (by rw [HL.out,← HF.out,HE.out]),HBW.out.trans (HB.out.mono HBW.out.size)⟩
theorem yV (f:Nat) (many:Nat) (G:Nat→Prop) (w:World) (vs:List Value) (x:NdF (Nd f)) (hG:∀ k,G k→k<w.heap.size) (hv:NdV (f+1) G w vs x):
  Calls Tryz.prog 100 #[ag vs,.int .i64 (many:Nat)] w fun e w'=>e=.returned (.bool (eV many x))∧Below w.heap.size w w':=by
 obtain ⟨ky,s,nt,ni,ops,asg,wds,rds,ars,kds⟩:=x;obtain ⟨A4,c4,A5,c5,A6,c6,A7,c7,A8,c8,A9,c9,rfl,hns,hal,hl4,hl5,hl6,hl7,hl8,hl9,hso,hsa,hsw,hsr,hsm,hsk⟩:=NdV.open hv;obtain ⟨HSO,HSA,HSW,HSR,HSM,HSK⟩:=hs6 hso hsa hsw hsr hsm hsk;clear hso hsa hsw hsr hsm hsk hv;show Calls Tryz.prog 100 #[.agg #[.int .i64 ky,.string s,.bool nt,.bool ni,.slice A4 ops.length c4,.slice A5 asg.length c5,.slice A6 wds.length c6,.slice A7 rds.length c7,.slice A8 ars.length c8,.slice A9 kds.length c9],.int .i64 (many:Nat)] w _;obtain ⟨W,hW,hbw,hb0⟩:=cpd w (.cells #[.int .i64 ky,.string s,.bool nt,.bool ni,.slice A4 ops.length c4,.slice A5 asg.length c5,.slice A6 wds.length c6,.slice A7 rds.length c7,.slice A8 ars.length c8,.slice A9 kds.length c9] 28);obtain ⟨x0,x1,x2,x3,x4,x5,x6,x7,x8,x9⟩:=c10 hb0;obtain ⟨HGW,HBW,HG⟩:=hs3 (aG hG hbw) hbw hG;clear hbw hb0 hG;have HOP:=Ha (show eV many (NdF.mk ky s nt ni ops asg wds rds ars kds)=((ops.all fun k=>(k==1)||(k==2))&&(ops.length==many)) by rw [eV,Bool.and_comm]);go_enter Tryz.func100,Tryz.ntmps100;go_wp2_with fail
 go_loop [5] (fun i=>∃ (k:Nat),k≤ops.length∧i=.int .i64 k∧((ops.drop k).all fun k=>(k==1)||(k==2))=(ops.all fun k=>(k==1)||(k==2))) (fun i=>ops.length-(intOf i).toNat)
 case atStart=>exact ⟨0,by omega,rfl,rfl⟩
 case round=>
  obtain ⟨k,hk,rfl,hf⟩:=hrel;have HF:=Ha hf;clear hf;by_cases hlt:k<ops.length
  ·obtain ⟨A,c,hA,_,_,hel⟩:=HSO.out.onI HG.out HBW.out
   injection hA with hA1 _ hA2
   subst hA1 hA2;obtain ⟨b,off,rfl,hg,hel⟩:=hel (by omega);obtain ⟨vs,hvl,hR,hcell⟩:=hel k hlt;obtain rfl:vs=[.int .i64 ops[k]]:=hR;have z0:W.cell? ⟨b,off+k,none⟩=some (.int .i64 ops[k]):=by simpa using hcell 0 _ rfl
   have HD:=Ha (dW (fun k:Int=>(k==1)||(k==2)) ops k hlt);clear hel hcell hvl hg;generalize ops[k]=o at *;cases h1:(o==1)
   ·have h1':(o != 1)=true:=by rw [bne,h1];rfl
    cases h2:(o==2)
    ·have h2':(o != 2)=true:=by rw [bne,h2];rfl
     have HQ:=Ha h1;have HQ2:=Ha h2;clear h1 h2;go_wp2_with fail;go_ret;exact ⟨aC (by rw [HOP.out,← HF.out,HD.out,HQ.out,HQ2.out];rfl),HBW.out⟩
    ·have h2':(o != 2)=false:=by rw [bne,h2];rfl
     have HQ:=Ha h1;have HQ2:=Ha h2;clear h1 h2;go_wp2_with fail
     go_round
     case rel=>exact ⟨k+1,by omega,by go_num,by rw [← HF.out,HD.out,HQ.out,HQ2.out];rfl⟩
     case measure=>simp only [intOf];omega
   ·have h1':(o != 1)=false:=by rw [bne,h1];rfl
    have HQ:=Ha h1;clear h1;go_wp2_with fail
    go_round
    case rel=>exact ⟨k+1,by omega,by go_num,by rw [← HF.out,HD.out,HQ.out];rfl⟩
    case measure=>simp only [intOf];omega
  ·have HE:=Ha (eZ (fun k:Int=>(k==1)||(k==2)) ops k (by omega));have HCA:=Ha (show ((ops.length:Int)==(many:Int))=(ops.length==many) from by
    by_cases h:ops.length=many
    ·rw [beq_iff_eq.2 h,beq_iff_eq.2 (by omega)]
    ·rw [beq_false_of_ne h,beq_false_of_ne (by omega)])
   go_wp2_with fail;go_ret;exact ⟨aC (by rw [HOP.out,← HF.out,HE.out,Bool.true_and];first | rfl | exact HCA.out),HBW.out⟩
theorem gZ {β:Type} {l:List β} (h:decide (0<l.length)=true):((l.length:Int)==0)=false∧(l.length==0)=false:=by
 have:=of_decide_eq_true h;exact ⟨beq_false_of_ne (by omega),beq_false_of_ne (by omega)⟩
theorem fO {β:Type} {l:List β} (h:decide (0<l.length)=false):((l.length:Int)==0)=true∧(l.length==0)=true:=by
 have:=of_decide_eq_false h;exact ⟨beq_iff_eq.2 (by omega),beq_iff_eq.2 (by omega)⟩
theorem dE (f:Nat) (f1 f2 f3 f4 f5 f6:Bool) (G:Nat→Prop) (w:World) (vs:List Value) (x:NdF (Nd f)) (hG:∀ k,G k→k<w.heap.size) (hv:NdV (f+1) G w vs x):
  Calls Tryz.prog 98 #[ag vs,.bool f1,.bool f2,.bool f3,.bool f4,.bool f5,.bool f6] w fun e w'=>e=.returned (.bool (aQ f1 f2 f3 f4 f5 f6 x.name x.ops x.assigns x.words x.redirs x.arms))∧Below w.heap.size w w':=by
 obtain ⟨ky,s,nt,ni,ops,asg,wds,rds,ars,kds⟩:=x;obtain ⟨A4,c4,A5,c5,A6,c6,A7,c7,A8,c8,A9,c9,rfl,hns,hal,hl4,hl5,hl6,hl7,hl8,hl9,hso,hsa,hsw,hsr,hsm,hsk⟩:=NdV.open hv;obtain ⟨HSO,HSA,HSW,HSR,HSM,HSK⟩:=hs6 hso hsa hsw hsr hsm hsk;clear hso hsa hsw hsr hsm hsk hv;show Calls Tryz.prog 98 #[.agg #[.int .i64 ky,.string s,.bool nt,.bool ni,.slice A4 ops.length c4,.slice A5 asg.length c5,.slice A6 wds.length c6,.slice A7 rds.length c7,.slice A8 ars.length c8,.slice A9 kds.length c9],.bool f1,.bool f2,.bool f3,.bool f4,.bool f5,.bool f6] w _;obtain ⟨W,hW,hbw,hb0⟩:=cpd w (.cells #[.int .i64 ky,.string s,.bool nt,.bool ni,.slice A4 ops.length c4,.slice A5 asg.length c5,.slice A6 wds.length c6,.slice A7 rds.length c7,.slice A8 ars.length c8,.slice A9 kds.length c9] 28);obtain ⟨x0,x1,x2,x3,x4,x5,x6,x7,x8,x9⟩:=c10 hb0;obtain ⟨HGW,HBW,HG⟩:=hs3 (aG hG hbw) hbw hG;clear hbw hb0 hG;clear HSO HSA HSW HSR HSM HSK HG HGW;simp only;go_enter Tryz.func98,Tryz.ntmps98
 go_upto_region 1 with fail
 go_cut [38] (fun v wx=>v=.bool (rS f1 s.toList.isEmpty||(rL f2 (decide (0<ops.length))||rL f3 (decide (0<asg.length))))∧W=wx)
 case first=>
  cases f1
  case false=>
   cases f2
   case false=>
    cases f3
    case false=>
     go_wp2_with fail
     go_meet
     exact ⟨by simp only [rS,rL];rfl,rfl⟩
    cases q3:decide (0<asg.length)
    case true=>
     go_wp2_with fail
     go_meet
     exact ⟨by simp only [rS,rL,q3];rfl,rfl⟩
    go_wp2_with fail
    go_meet
    exact ⟨by simp only [rS,rL,q3];rfl,rfl⟩
   cases q2:decide (0<ops.length)
   case true=>
    go_wp2_with fail
    go_meet
    exact ⟨by simp only [rS,rL,q2];rfl,rfl⟩
   cases f3
   case false=>
    go_wp2_with fail
    go_meet
    exact ⟨by simp only [rS,rL,q2];rfl,rfl⟩
   cases q3:decide (0<asg.length)
   case true=>
    go_wp2_with fail
    go_meet
    exact ⟨by simp only [rS,rL,q2,q3];rfl,rfl⟩
   go_wp2_with fail
   go_meet
   exact ⟨by simp only [rS,rL,q2,q3];rfl,rfl⟩
  cases q1:s.toList.isEmpty
  case false=>
   go_wp2_with fail
   go_meet
   exact ⟨by simp only [rS,rL,q1];rfl,rfl⟩
  cases f2
  case false=>
   cases f3
   case false=>
    go_wp2_with fail
    go_meet
    exact ⟨by simp only [rS,rL,q1];rfl,rfl⟩
   cases q3:decide (0<asg.length)
   case true=>
    go_wp2_with fail
    go_meet
    exact ⟨by simp only [rS,rL,q1,q3];rfl,rfl⟩
   go_wp2_with fail
   go_meet
   exact ⟨by simp only [rS,rL,q1,q3];rfl,rfl⟩
  cases q2:decide (0<ops.length)
  case true=>
   go_wp2_with fail
   go_meet
   exact ⟨by simp only [rS,rL,q1,q2];rfl,rfl⟩
  cases f3
  case false=>
   go_wp2_with fail
   go_meet
   exact ⟨by simp only [rS,rL,q1,q2];rfl,rfl⟩
  cases q3:decide (0<asg.length)
  case true=>
   go_wp2_with fail
   go_meet
   exact ⟨by simp only [rS,rL,q1,q2,q3];rfl,rfl⟩
  go_wp2_with fail
  go_meet
  exact ⟨by simp only [rS,rL,q1,q2,q3];rfl,rfl⟩
 case rest=>
  obtain ⟨rfl,rfl⟩:=hcut;cases hE:(rS f1 s.toList.isEmpty||(rL f2 (decide (0<ops.length))||rL f3 (decide (0<asg.length))))
  case true=>
   have HE1:=Ha hE;clear hE;go_wp2_with fail;go_ret;exact ⟨aC (by rw [aQ,HE1.out];rfl),HBW.out⟩
  have HE1:=Ha hE;clear hE;cases f4
  case false=>
   cases f5
   case false=>
    cases f6
    case false=>
     go_wp2_with fail;go_ret;exact ⟨aC (by rw [aQ,HE1.out];simp only [rL];rfl),HBW.out⟩
    cases q6:decide (0<ars.length)
    case true=>
     have e6:=gZ q6;go_wp2_with fail;go_ret;exact ⟨aC (by rw [aQ,HE1.out];simp only [rL,q6];rfl),HBW.out⟩
    have e6:=fO q6;go_wp2_with fail;go_ret;exact ⟨aC (by rw [aQ,HE1.out];simp only [rL,q6];rfl),HBW.out⟩
   cases q5:decide (0<rds.length)
   case true=>
    have e5:=gZ q5;go_wp2_with fail;go_ret;exact ⟨aC (by rw [aQ,HE1.out];simp only [rL,q5];rfl),HBW.out⟩
   have e5:=fO q5;cases f6
   case false=>
    go_wp2_with fail;go_ret;exact ⟨aC (by rw [aQ,HE1.out];simp only [rL,q5];rfl),HBW.out⟩
   cases q6:decide (0<ars.length)
   case true=>
    have e6:=gZ q6;go_wp2_with fail;go_ret;exact ⟨aC (by rw [aQ,HE1.out];simp only [rL,q5,q6];rfl),HBW.out⟩
   have e6:=fO q6;go_wp2_with fail;go_ret;exact ⟨aC (by rw [aQ,HE1.out];simp only [rL,q5,q6];rfl),HBW.out⟩
  cases q4:decide (0<wds.length)
  case true=>
   have e4:=gZ q4;go_wp2_with fail;go_ret;exact ⟨aC (by rw [aQ,HE1.out];simp only [rL,q4];rfl),HBW.out⟩
  have e4:=fO q4;cases f5
  case false=>
   cases f6
   case false=>
    go_wp2_with fail;go_ret;exact ⟨aC (by rw [aQ,HE1.out];simp only [rL,q4];rfl),HBW.out⟩
   cases q6:decide (0<ars.length)
   case true=>
    have e6:=gZ q6;go_wp2_with fail;go_ret;exact ⟨aC (by rw [aQ,HE1.out];simp only [rL,q4,q6];rfl),HBW.out⟩
   have e6:=fO q6;go_wp2_with fail;go_ret;exact ⟨aC (by rw [aQ,HE1.out];simp only [rL,q4,q6];rfl),HBW.out⟩
  cases q5:decide (0<rds.length)
  case true=>
   have e5:=gZ q5;go_wp2_with fail;go_ret;exact ⟨aC (by rw [aQ,HE1.out];simp only [rL,q4,q5];rfl),HBW.out⟩
  have e5:=fO q5;cases f6
  case false=>
   go_wp2_with fail;go_ret;exact ⟨aC (by rw [aQ,HE1.out];simp only [rL,q4,q5];rfl),HBW.out⟩
  cases q6:decide (0<ars.length)
  case true=>
   have e6:=gZ q6;go_wp2_with fail;go_ret;exact ⟨aC (by rw [aQ,HE1.out];simp only [rL,q4,q5,q6];rfl),HBW.out⟩
  have e6:=fO q6;go_wp2_with fail;go_ret;exact ⟨aC (by rw [aQ,HE1.out];simp only [rL,q4,q5,q6];rfl),HBW.out⟩
theorem AG (f:Nat) (G:Nat→Prop) (w:World) (vs:List Value) (x:NdF (Nd f)) (hG:∀ k,G k→k<w.heap.size) (hv:NdV (f+1) G w vs x):
  Calls Tryz.prog 101 #[ag vs] w fun e w'=>e=.returned (.bool (dU x))∧Below w.heap.size w w':=by
 obtain ⟨ky,s,nt,ni,ops,asg,wds,rds,ars,kds⟩:=x;obtain ⟨A4,c4,A5,c5,A6,c6,A7,c7,A8,c8,A9,c9,rfl,hns,hal,hl4,hl5,hl6,hl7,hl8,hl9,hso,hsa,hsw,hsr,hsm,hsk⟩:=NdV.open hv;obtain ⟨HSO,HSA,HSW,HSR,HSM,HSK⟩:=hs6 hso hsa hsw hsr hsm hsk;clear hso hsa hsw hsr hsm hsk hv;unfold ag;obtain ⟨W,hW,hbw,hb0⟩:=cpd w (.cells #[.int .i64 ky,.string s,.bool nt,.bool ni,.slice A4 ops.length c4,.slice A5 asg.length c5,.slice A6 wds.length c6,.slice A7 rds.length c7,.slice A8 ars.length c8,.slice A9 kds.length c9] 28);obtain ⟨x0,x1,x2,x3,x4,x5,x6,x7,x8,x9⟩:=c10 hb0;obtain ⟨HGW,HBW,HG⟩:=hs3 (aG hG hbw) hbw hG;clear hbw hb0 hG;go_enter Tryz.func101,Tryz.ntmps101;go_wp2_with fail
 go_loopw [3] (fun i wr=>∃ (k:Nat),k≤asg.length∧i=.int .i64 k∧((asg.drop k).all fun x=>x.p.asg.isSome)=(asg.all fun x=>x.p.asg.isSome)∧Below W.heap.size W wr) (fun i _=>asg.length-(intOf i).toNat)
 case atStart=>exact ⟨0,by omega,rfl,rfl,Below.refl _ _⟩
 case round=>
  obtain ⟨k,hk,rfl,hf,hb⟩:=hrel;have HF:=Ha hf;have HB:=Ha hb;obtain ⟨y5,y6,y7⟩:=ks3 hb x5 x6 x7;clear hf hb;by_cases hlt:k<asg.length
  ·obtain ⟨A,c,hA,_,_,hel⟩:=HSA.out.onW HG.out HBW.out
   injection hA with hA1 _ hA2
   subst hA1 hA2;obtain ⟨b,off,rfl,hg,hel⟩:=hel (by omega);obtain ⟨vs,hvl,hR,hcell⟩:=hel k hlt;have hR':=hR.below HGW.out HB.out;obtain ⟨A0,c0,rfl,hnc,hcm,hwt,hpt,-⟩:=hR';have z0:wr.cell? ⟨b,off+k,none⟩=some (.slice A0 (asg[k]).p.len c0):=by simpa using (bC HGW.out HB.out _ hg).trans (hcell 0 _ rfl)
   have HX:=Ha (lP (asg[k]).p A0 c0 G wr (aG HGW.out HB.out) hpt hnc hwt hcm);have HD:=Ha (dW (fun x:WdF (Nd f)=>x.p.asg.isSome) asg k hlt);clear hel hcell hvl hR hg hpt;go_wp2_with fail;refine HX.out.mono ?_;rintro e w1 ⟨v,he,hr,hb1⟩;obtain ⟨A2,c2,rfl,_⟩:=hr.at_;have HB1:=Ha ((HB.out.trans (hb1.mono HB.out.size)));clear hb1 hr y5 y6 y7 z0;cases hq:(asg[k]).p.asg.isSome
   ·rw [hq] at he;subst he;have HQ:=Ha hq;clear hq;go_wp2_with fail;go_ret;exact ⟨aC (by cases wds with
     | nil=>rw [fY,← HF.out,HD.out,HQ.out];rfl
     | cons x0 r=>rw [cG,← HF.out,HD.out,HQ.out];rfl),HBW.out.trans ((HB1.out.alloc HB1.out.size _).mono HBW.out.size)⟩
   ·rw [hq] at he;subst he;have HQ:=Ha hq;clear hq;go_wp2_with fail
    go_roundw
    case rel=>exact ⟨k+1,by omega,by go_num,by rw [← HF.out,HD.out,HQ.out];rfl,HB1.out.alloc HB1.out.size _⟩
    case measure=>simp only [intOf];omega
  ·have HE:=Ha (eZ (fun x:WdF (Nd f)=>x.p.asg.isSome) asg k (by omega));have HQA:=Ha (show (asg.all fun x=>x.p.asg.isSome)=true by rw [← HF.out,HE.out]);have HB1:=Ha (HBW.out.trans (HB.out.mono HBW.out.size));cases wds with
   | nil=>
    go_wp2_with fail;go_ret;exact ⟨aC (by rw [fY,HQA.out,iL];rfl),HB1.out⟩
   | cons x0 r=>
    obtain ⟨b,off,A0,c0,rfl,z0,hw0,hnc,hcm,hwt,hpt⟩:=aV.word0 (HSW.out.onW HG.out HB1.out);have hpos:0<List.length (x0::r):=by simp
    have hne:((List.length (x0::r):Nat):Int)≠0:=by simp;omega
    have hz1:(((List.length (x0::r):Nat):Int)==0)=false:=beq_false_of_ne hne;have hz2:(List.length (x0::r)==0)=false:=beq_false_of_ne (by omega);have HX2:=Ha (lP x0.p A0 c0 G wr (aG HG.out HB1.out) hpt hnc hwt hcm);have HPT:=Ha hpt;clear hpt hw0 hne;generalize (x0::r).length=m at *;go_wp2_with fail;refine HX2.out.mono ?_;rintro e w2 ⟨v,he,hr,hb⟩;obtain ⟨A2,c2,rfl,_⟩:=hr.at_;have hb':=hb.alloc hb.size (.cells #[.slice A2 x0.p.asgR.len c2] 31);have HB2:=Ha (HB1.out.trans (hb'.mono HB1.out.size));obtain ⟨v5,v6,v7,z1⟩:=ks4 hb' y5 y6 y7 z0;have HX3:=Ha (zR x0.p A0 c0 G _ (by omega) (aG HG.out HB2.out) (HPT.out.old (aG HG.out HB1.out) hb'));clear hb hb' hr y5 y6 y7 z0;cases q1:x0.p.asg.isSome
    case true=>
     rw [q1] at he;subst he;have HQ1:=Ha q1;clear q1;go_wp2_with fail;go_ret;exact ⟨aC (by rw [cG,HQA.out,HQ1.out];rfl),HB2.out⟩
    rw [q1] at he;subst he;have HQ1:=Ha q1;clear q1;go_wp2_with fail;refine HX3.out.mono ?_;rintro e w3 ⟨rfl,hb⟩;have HB3:=Ha (HB2.out.trans (hb.mono HB2.out.size));have u5:=aA v5 hb;have u7:=aA v7 hb;clear hb v5 v6 v7 z1;unfold bs;cases q3:x0.p.plt.isSome
    ·have HQ3:=Ha q3;go_wp2_with fail;go_ret;exact ⟨aC (by rw [cG,HQA.out,HQ1.out,HQ3.out];simp),HB3.out⟩
    have HQ3:=Ha q3;have HX4:=Ha (CL ⟨(x0.p.plt.getD []).toArray⟩ w3);go_wp2_with fail;refine HX4.out.mono ?_;rintro e w4 ⟨rfl,hb⟩;have HB4:=Ha (HB3.out.trans (hb.mono HB3.out.size));have t5:=aA u5 hb;have t7:=aA u7 hb;clear hb u5 u7;simp only [aI];cases q4:(rsv (x0.p.plt.getD [])==0)
    ·have HQ4:=Ha q4;go_wp2_with fail;go_ret;exact ⟨aC (by rw [cG,HQA.out,HQ1.out,HQ3.out,HQ4.out,iL];simp),HB4.out⟩
    ·have HQ4:=Ha q4;go_wp2_with fail;go_ret;exact ⟨aC (by rw [cG,HQA.out,HQ1.out,HQ3.out,HQ4.out];simp),HB4.out⟩
theorem tC {α:Type} (v:Vw α) (ky:Int) (s:ByteArray) (nt ni:Bool) (ops:List Int) (asg wds:List (WdF α)) (rds:List (RdF α)) (ars:List (ArF α)) (kds:List α):
  ((ky==1)&&aR v oI (NdF.mk ky s nt ni ops asg wds rds ars kds))=((ky==1)&&(!decide (0<kds.length)&&(aQ true true true true true true s ops asg wds rds ars&&(!nt && !ni)))):=by
 by_cases hk:ky=1
 ·subst hk;unfold aR;rw [show oI=⟨false,false,false,false,false,false,false⟩ from rfl,bL];have h3:∀ b:Bool,(!uB b ((1:Int) != 3)) = !b:=fun b=>by cases b <;> rfl
  have h7:∀ b:Bool,(!uB b ((1:Int) != 7)) = !b:=fun b=>by cases b <;> rfl
  unfold aQ;simp only [Bool.not_or,nF,lI,nA,lE,h3,h7];cases rds with
  | cons=>simp
  | nil=>
   cases wds with
   | cons=>simp
   | nil=>
    cases asg with
    | cons=>simp
    | nil=>
     simp only [List.all_nil,Bool.and_true]
     ac_rfl
 ·rw [beq_false_of_ne hk];rfl
theorem xJ {f:Nat} {G:Nat→Prop} {w:World} {vs:List Value} {x:Nd f} (hG:∀ k,G k→k<w.heap.size) (hv:NdV f G w vs x):
  ∃ (ky:Int) (s:ByteArray) (nt ni:Bool) (A4:Option Addr) (n4 c4:Nat) (A5:Option Addr) (n5 c5:Nat) (A6:Option Addr) (n6 c6:Nat) (A7:Option Addr) (n7 c7:Nat) (A8:Option Addr) (n8 c8:Nat) (A9:Option Addr) (n9 c9:Nat) (EB:Bool),vs=[.int .i64 ky,.string s,.bool nt,.bool ni,.slice A4 n4 c4,.slice A5 n5 c5,.slice A6 n6 c6,.slice A7 n7 c7,.slice A8 n8 c8,.slice A9 n9 c9]∧(Nd.vw f).kd x=ky∧n9≤9223372036854775807∧((ky==1)&&(Nd.vw f).on x)=((ky==1)&&(!decide (0<n9)&&(EB&&(!nt && !ni))))∧
   ∀ X,Below w.heap.size w X→Calls Tryz.prog 98 #[.agg #[.int .i64 ky,.string s,.bool nt,.bool ni,.slice A4 n4 c4,.slice A5 n5 c5,.slice A6 n6 c6,.slice A7 n7 c7,.slice A8 n8 c8,.slice A9 n9 c9],.bool true,.bool true,.bool true,.bool true,.bool true,.bool true] X fun e w'=>e=.returned (.bool EB)∧Below X.heap.size X w':=by
 cases f with
 | zero=>exact hv.elim
 | succ f=>
  obtain ⟨ky,s,nt,ni,ops,asg,wds,rds,ars,kds⟩:=x;have hv':=hv;obtain ⟨A4,c4,A5,c5,A6,c6,A7,c7,A8,c8,A9,c9,rfl,hns,hal,hl4,hl5,hl6,hl7,hl8,hl9,hso,hsa,hsw,hsr,hsm,hsk⟩:=NdV.open hv';exact ⟨ky,s,nt,ni,A4,_,c4,A5,_,c5,A6,_,c6,A7,_,c7,A8,_,c8,A9,_,c9,_,rfl,rfl,hl9,tC (Nd.vw f) ky s nt ni ops asg wds rds ars kds,fun X hX=>dE f true true true true true true G X _ _ (aG hG hX) (hv.below hG hX)⟩
theorem CP (f:Nat) (ih:RRt f) (G:Nat→Prop) (v:Value) (xs:List (ArF (Nd f))) (w:World) (hG:∀ k,G k→k<w.heap.size) (hs:aV G w 11 (ArN f G w) v xs):
  Calls Tryz.prog 104 #[v] w fun e w'=>e=.returned (.bool (xs.all (iJ (Nd.vw f))))∧Below w.heap.size w w':=by
 obtain ⟨A,c,rfl,hl,hm,hc⟩:=hs;unfold maxLen at hm;obtain ⟨HC,HG,IH⟩:=hs3 hc hG ih;clear hc hG ih;go_enter Tryz.func104,Tryz.ntmps104;go_wp2_with fail
 go_loopw [3] (fun i wr=>∃ (k:Nat),k≤xs.length∧i=.int .i64 k∧(xs.drop k).all (iJ (Nd.vw f))=xs.all (iJ (Nd.vw f))∧Below w.heap.size w wr) (fun i _=>xs.length-(intOf i).toNat)
 case atStart=>exact ⟨0,by omega,rfl,rfl,Below.refl _ _⟩
 case round=>
  obtain ⟨k,hk,rfl,hf,hb⟩:=hrel;have HF:=Ha hf;have HB:=Ha hb;clear hf hb;by_cases hlt:k<xs.length
  ·obtain ⟨b,off,rfl,hg,hel⟩:=HC.out (by omega);obtain ⟨vs,hvl,hR,hcell⟩:=hel k hlt;have hR':=hR.below HG.out HB.out;have HD:=Ha (dW (iJ (Nd.vw f)) xs k hlt);generalize hxk:xs[k]=a at *;obtain ⟨ps,bd⟩:=a;obtain ⟨vp,bs',rfl,hbl,hps,hbd⟩:=hR';simp only at hps hbd;obtain ⟨A0,c0,rfl,hl0,hm0⟩:=aV.shape hps;have hGr:=aG HG.out HB.out;obtain ⟨ky,s,nt,ni,A4,n4,c4,A5,n5,c5,A6,n6,c6,A7,n7,c7,A8,n8,c8,A9,n9,c9,EB,rfl,hkd,hn9,hon,hemp⟩:=xJ hGr hbd;have z:=fun j u hj=>(bC HG.out HB.out _ hg).trans (hcell j u hj);have d0:wr.cell? ⟨b,off+k*11,none⟩=some (.slice A0 ps.length c0):=by simpa using z 0 _ rfl
   have d1:wr.cell? ⟨b,off+k*11+1,none⟩=some (.int .i64 ky):=by simpa using z 1 _ rfl
   have d2:wr.cell? ⟨b,off+k*11+2,none⟩=some (.string s):=by simpa using z 2 _ rfl
   have d3:wr.cell? ⟨b,off+k*11+3,none⟩=some (.bool nt):=by simpa using z 3 _ rfl
   have d4:wr.cell? ⟨b,off+k*11+4,none⟩=some (.bool ni):=by simpa using z 4 _ rfl
   have d5:wr.cell? ⟨b,off+k*11+5,none⟩=some (.slice A4 n4 c4):=by simpa using z 5 _ rfl
   have d6:wr.cell? ⟨b,off+k*11+6,none⟩=some (.slice A5 n5 c5):=by simpa using z 6 _ rfl
   have d7:wr.cell? ⟨b,off+k*11+7,none⟩=some (.slice A6 n6 c6):=by simpa using z 7 _ rfl
   have d8:wr.cell? ⟨b,off+k*11+8,none⟩=some (.slice A7 n7 c7):=by simpa using z 8 _ rfl
   have d9:wr.cell? ⟨b,off+k*11+9,none⟩=some (.slice A8 n8 c8):=by simpa using z 9 _ rfl
   have d10:wr.cell? ⟨b,off+k*11+10,none⟩=some (.slice A9 n9 c9):=by simpa using z 10 _ rfl
   have hbr:=(Below.refl wr.heap.size wr).alloc (Nat.le_refl _) (.cells #[.int .i64 ky,.string s,.bool nt,.bool ni,.slice A4 n4 c4,.slice A5 n5 c5,.slice A6 n6 c6,.slice A7 n7 c7,.slice A8 n8 c8,.slice A9 n9 c9] 28);have hbx:=aN wr (.cells #[.int .i64 ky,.string s,.bool nt,.bool ni,.slice A4 n4 c4,.slice A5 n5 c5,.slice A6 n6 c6,.slice A7 n7 c7,.slice A8 n8 c8,.slice A9 n9 c9] 28);have e0:=aA d0 hbr;have x0:(wr.alloc (.cells #[.int .i64 ky,.string s,.bool nt,.bool ni,.slice A4 n4 c4,.slice A5 n5 c5,.slice A6 n6 c6,.slice A7 n7 c7,.slice A8 n8 c8,.slice A9 n9 c9] 28)).cell? ⟨wr.heap.size,0,none⟩=some (.int .i64 ky):=bI hbx _ (Below.refl _ _) 0 _ rfl;have x1:(wr.alloc (.cells #[.int .i64 ky,.string s,.bool nt,.bool ni,.slice A4 n4 c4,.slice A5 n5 c5,.slice A6 n6 c6,.slice A7 n7 c7,.slice A8 n8 c8,.slice A9 n9 c9] 28)).cell? ⟨wr.heap.size,1,none⟩=some (.string s):=bI hbx _ (Below.refl _ _) 1 _ rfl;have x2:(wr.alloc (.cells #[.int .i64 ky,.string s,.bool nt,.bool ni,.slice A4 n4 c4,.slice A5 n5 c5,.slice A6 n6 c6,.slice A7 n7 c7,.slice A8 n8 c8,.slice A9 n9 c9] 28)).cell? ⟨wr.heap.size,2,none⟩=some (.bool nt):=bI hbx _ (Below.refl _ _) 2 _ rfl;have x3:(wr.alloc (.cells #[.int .i64 ky,.string s,.bool nt,.bool ni,.slice A4 n4 c4,.slice A5 n5 c5,.slice A6 n6 c6,.slice A7 n7 c7,.slice A8 n8 c8,.slice A9 n9 c9] 28)).cell? ⟨wr.heap.size,3,none⟩=some (.bool ni):=bI hbx _ (Below.refl _ _) 3 _ rfl;have x4:(wr.alloc (.cells #[.int .i64 ky,.string s,.bool nt,.bool ni,.slice A4 n4 c4,.slice A5 n5 c5,.slice A6 n6 c6,.slice A7 n7 c7,.slice A8 n8 c8,.slice A9 n9 c9] 28)).cell? ⟨wr.heap.size,4,none⟩=some (.slice A4 n4 c4):=bI hbx _ (Below.refl _ _) 4 _ rfl;have x5:(wr.alloc (.cells #[.int .i64 ky,.string s,.bool nt,.bool ni,.slice A4 n4 c4,.slice A5 n5 c5,.slice A6 n6 c6,.slice A7 n7 c7,.slice A8 n8 c8,.slice A9 n9 c9] 28)).cell? ⟨wr.heap.size,5,none⟩=some (.slice A5 n5 c5):=bI hbx _ (Below.refl _ _) 5 _ rfl;have x6:(wr.alloc (.cells #[.int .i64 ky,.string s,.bool nt,.bool ni,.slice A4 n4 c4,.slice A5 n5 c5,.slice A6 n6 c6,.slice A7 n7 c7,.slice A8 n8 c8,.slice A9 n9 c9] 28)).cell? ⟨wr.heap.size,6,none⟩=some (.slice A6 n6 c6):=bI hbx _ (Below.refl _ _) 6 _ rfl;have x7:(wr.alloc (.cells #[.int .i64 ky,.string s,.bool nt,.bool ni,.slice A4 n4 c4,.slice A5 n5 c5,.slice A6 n6 c6,.slice A7 n7 c7,.slice A8 n8 c8,.slice A9 n9 c9] 28)).cell? ⟨wr.heap.size,7,none⟩=some (.slice A7 n7 c7):=bI hbx _ (Below.refl _ _) 7 _ rfl;have x8:(wr.alloc (.cells #[.int .i64 ky,.string s,.bool nt,.bool ni,.slice A4 n4 c4,.slice A5 n5 c5,.slice A6 n6 c6,.slice A7 n7 c7,.slice A8 n8 c8,.slice A9 n9 c9] 28)).cell? ⟨wr.heap.size,8,none⟩=some (.slice A8 n8 c8):=bI hbx _ (Below.refl _ _) 8 _ rfl;have x9:(wr.alloc (.cells #[.int .i64 ky,.string s,.bool nt,.bool ni,.slice A4 n4 c4,.slice A5 n5 c5,.slice A6 n6 c6,.slice A7 n7 c7,.slice A8 n8 c8,.slice A9 n9 c9] 28)).cell? ⟨wr.heap.size,9,none⟩=some (.slice A9 n9 c9):=bI hbx _ (Below.refl _ _) 9 _ rfl;obtain ⟨HX,HON,HKD,HEM,HBD,HGR,HBR⟩:=hs7 (bK f IH.out G _ ps _ (aG hGr hbr) (aV.onW hps hGr hbr)) hon hkd hemp hbd hGr hbr;unfold maxLen at hm0;have HEQ:=Ha (i1 (Nd.vw f) ps bd);clear z hel hcell hvl hR hg hps hbd hon hkd hemp hGr hbr hbx hxk hbl;by_cases hp:0<ps.length
   case neg=>
    have HP:=Ha (decide_eq_false hp);have hz:ps.length=0:=by omega
    have hz1:((ps.length:Int)==0)=true:=by rw [hz];rfl
    have hz2:(ps.length==0)=true:=by rw [hz];rfl
    clear hz;go_wp2_with fail;go_ret;exact ⟨aC (by rw [← HF.out,HD.out,HEQ.out,HP.out];rfl),HB.out.trans (HBR.out.mono HB.out.size)⟩
   have HP:=Ha (decide_eq_true hp);have hz1:((ps.length:Int)==0)=false:=beq_false_of_ne (by omega);have hz2:(ps.length==0)=false:=beq_false_of_ne (by omega);go_wp2_with fail;refine HX.out.mono ?_;rintro e w1 ⟨he,hb1⟩;have HB1:=Ha (HBR.out.trans (hb1.mono HBR.out.size));obtain ⟨y0,y1,y2,y3,y4,y5,y6,y7,y8,y9⟩:=ks10 hb1 x0 x1 x2 x3 x4 x5 x6 x7 x8 x9;clear hb1 x0 x1 x2 x3 x4 x5 x6 x7 x8 x9 d0 d1 d2 d3 d4 d5 d6 d7 d8 d9 d10 e0;cases qa:ps.all (aP (Nd.vw f))
   ·rw [qa] at he;subst he;have HQA:=Ha qa;clear qa;go_wp2_with fail;go_ret;exact ⟨aC (by rw [← HF.out,HD.out,HEQ.out,HP.out,HQA.out];rfl),HB.out.trans (HB1.out.mono HB.out.size)⟩
   rw [qa] at he;subst he;have HQA:=Ha qa;clear qa;have HX2:=Ha (IH.out G w1 _ bd (aG HGR.out HB1.out) (HBD.out.below HGR.out HB1.out));go_wp2_with fail;refine HX2.out.mono ?_;rintro e w2 ⟨he,hb2⟩;have HB2:=Ha (HB1.out.trans (hb2.mono HB1.out.size));obtain ⟨t0,t1,t2,t3,t4,t5,t6,t7,t8,t9⟩:=ks10 hb2 y0 y1 y2 y3 y4 y5 y6 y7 y8 y9;clear hb2 y0 y1 y2 y3 y4 y5 y6 y7 y8 y9;cases qb:(Nd.vw f).R bd
   case true=>
    rw [qb] at he;subst he;have HQB:=Ha qb;clear qb;go_wp2_with fail
    go_roundw
    case rel=>exact ⟨k+1,by omega,by go_num,by rw [← HF.out,HD.out,HEQ.out,HP.out,HQA.out,HQB.out];rfl,HB.out.trans (HB2.out.mono HB.out.size)⟩
    case measure=>simp only [intOf];omega
   rw [qb] at he;subst he;have HQB:=Ha qb;clear qb;cases qk:(ky==1)
   ·have HQK:=Ha qk;have qk2:(ky != 1)=true:=by rw [bne,qk];rfl
    go_wp2_with fail;go_ret;exact ⟨aC (by rw [← HF.out,HD.out,HEQ.out,HP.out,HQA.out,HQB.out,HKD.out,HQK.out];rfl),HB.out.trans (HB2.out.mono HB.out.size)⟩
   have HQK:=Ha qk;have qk2:(ky != 1)=false:=by rw [bne,qk];rfl
   cases q9:decide (0<n9)
   case true=>
    have HQ9:=Ha q9;go_wp2_with fail;go_ret;exact ⟨aC (by rw [← HF.out,HD.out,HEQ.out,HP.out,HQA.out,HQB.out,HKD.out,HON.out,HQK.out,HQ9.out];rfl),HB.out.trans (HB2.out.mono HB.out.size)⟩
   have HQ9:=Ha q9;have HX3:=Ha (HEM.out w2 HB2.out);go_wp2_with fail;refine HX3.out.mono ?_;rintro e w3 ⟨he,hb3⟩;have HB3:=Ha (HB2.out.trans (hb3.mono HB2.out.size));obtain ⟨u0,u1,u2,u3,u4,u5,u6,u7,u8,u9⟩:=ks10 hb3 t0 t1 t2 t3 t4 t5 t6 t7 t8 t9;clear hb3 t0 t1 t2 t3 t4 t5 t6 t7 t8 t9;cases EB
   case false=>
    subst he;go_wp2_with fail;go_ret;exact ⟨aC (by rw [← HF.out,HD.out,HEQ.out,HP.out,HQA.out,HQB.out,HKD.out,HON.out,HQK.out,HQ9.out];rfl),HB.out.trans (HB3.out.mono HB.out.size)⟩
   subst he;cases nt
   case true=>
    go_wp2_with fail;go_ret;exact ⟨aC (by rw [← HF.out,HD.out,HEQ.out,HP.out,HQA.out,HQB.out,HKD.out,HON.out,HQK.out,HQ9.out];rfl),HB.out.trans (HB3.out.mono HB.out.size)⟩
   cases ni
   case true=>
    go_wp2_with fail;go_ret;exact ⟨aC (by rw [← HF.out,HD.out,HEQ.out,HP.out,HQA.out,HQB.out,HKD.out,HON.out,HQK.out,HQ9.out];rfl),HB.out.trans (HB3.out.mono HB.out.size)⟩
   go_wp2_with fail
   go_roundw
   case rel=>exact ⟨k+1,by omega,by go_num,by rw [← HF.out,HD.out,HEQ.out,HP.out,HQA.out,HQB.out,HKD.out,HON.out,HQK.out,HQ9.out];rfl,HB.out.trans (HB3.out.mono HB.out.size)⟩
   case measure=>simp only [intOf];omega
  ·have HE:=Ha (eZ (iJ (Nd.vw f)) xs k (by omega));go_wp2_with fail;go_ret;exact ⟨aC (by rw [← HF.out,HE.out]),HB.out⟩
theorem pI (s:ByteArray) (w:World) (hm:s.size≤9223372036854775807):Calls Tryz.prog 103 #[.string s] w fun e w'=>e=.returned (.bool (Chr.name s.toList))∧Below w.heap.size w w':=(bS s w hm).mono fun _ _ ⟨h,e⟩=>⟨h,by rw [← e];exact Below.refl _ _⟩
theorem lQ {α:Type} (v:Vw α) (n:NdF α) (h1:n.k≠1) (h2:n.k≠2) (h3:n.k≠3) (h4:n.k≠4) (h5:n.k≠5) (h6:n.k≠6) (h7:n.k≠7) (h8:n.k≠8) (h9:n.k≠9) (h10:n.k≠10) (h11:n.k≠11) (h12:n.k≠12):aO v n=false:=by
  unfold aO;rw [if_neg h1,if_neg h2,if_neg h3,if_neg h4,if_neg (by omega),if_neg h7,if_neg h8,if_neg h9,if_neg (by omega),if_neg h12]
theorem DX (n:Nat):decide ((1:Int)<(n:Int))=decide (1<n):=by
  by_cases h:1<n
  · rw [decide_eq_true h,decide_eq_true (by omega)]
  · rw [decide_eq_false h,decide_eq_false (by omega)]
theorem zS (f:Nat) (ih:RRt f) (ih2:dK f) (G:Nat→Prop) (w:World) (vs:List Value) (x:NdF (Nd f)) (hG:∀ k,G k→k<w.heap.size) (hv:NdV (f+1) G w vs x) (hk:x.k=1):
    Calls Tryz.prog 38 #[ag vs] w fun e w'=>e=.returned (.bool (aO (Nd.vw f) x))∧Below w.heap.size w w':=by
  obtain ⟨ky,s,nt,ni,ops,asg,wds,rds,ars,kds⟩:=x;obtain ⟨A4,c4,A5,c5,A6,c6,A7,c7,A8,c8,A9,c9,rfl,hns,hal,hl4,hl5,hl6,hl7,hl8,hl9,hso,hsa,hsw,hsr,hsm,hsk⟩:=NdV.open hv;obtain ⟨HSO,HSA,HSW,HSR,HSM,HSK,HV⟩:=hs7 hso hsa hsw hsr hsm hsk hv;clear hso hsa hsw hsr hsm hsk hv;unfold ag;obtain ⟨W,hW,hbw,hb0⟩:=cpd w (.cells #[.int .i64 ky,.string s,.bool nt,.bool ni,.slice A4 ops.length c4,.slice A5 asg.length c5,.slice A6 wds.length c6,.slice A7 rds.length c7,.slice A8 ars.length c8,.slice A9 kds.length c9] 28);obtain ⟨x0,x1,x2,x3,x4,x5,x6,x7,x8,x9⟩:=c10 hb0;obtain ⟨HGW,HBW,HG,IH,IH2⟩:=hs5 (aG hG hbw) hbw hG ih ih2;clear hbw hb0 hG ih ih2;simp only at hk;obtain rfl:=hk;cases nt
  case true=>
    have RF:=Ha (DJ (Nd.vw f) s true ni ops asg wds rds ars kds);go_enter Tryz.func38,Tryz.ntmps38;cases ni <;>
      (go_wp2_with fail
       go_ret;exact ⟨aC (by rw [RF.out];rfl),HBW.out⟩)
  cases ni
  case true=>
    have RF:=Ha (DJ (Nd.vw f) s false true ops asg wds rds ars kds);go_enter Tryz.func38,Tryz.ntmps38;go_wp2_with fail;go_ret;exact ⟨aC (by rw [RF.out];rfl),HBW.out⟩
  have RF:=Ha (show aO (Nd.vw f) (NdF.mk 1 s false false ops asg wds rds ars kds)=(rds.all (aW (Nd.vw f))&&(wds.all (aP (Nd.vw f))&&(asg.all (aP (Nd.vw f))&&(aQ true false true true true true s ops asg wds rds ars&&(bQ (Nd.vw f) 1 2 (NdF.mk 1 s false false ops asg wds rds ars kds)&&eV kds.length (NdF.mk 1 s false false ops asg wds rds ars kds)))))) from by rw [DJ];rfl);go_enter Tryz.func38,Tryz.ntmps38;have HX:=Ha (cO f IH.out G _ rds W (aG HG.out HBW.out) (HSR.out.onR HG.out HBW.out));go_wp2_with fail;refine HX.out.mono ?_;rintro e w1 ⟨he,hb⟩;have HB1:=Ha (HBW.out.trans (hb.mono HBW.out.size));obtain ⟨y1_0,y1_1,y1_2,y1_3,y1_4,y1_5,y1_6,y1_7,y1_8,y1_9⟩:=ks10 hb x0 x1 x2 x3 x4 x5 x6 x7 x8 x9;clear hb HX;cases q:rds.all (aW (Nd.vw f))
  · rw [q] at he;subst he;have HQ0:=Ha q;clear q;go_wp2_with fail;go_ret;exact ⟨aC (by rw [RF.out,HQ0.out];rfl),HB1.out⟩
  rw [q] at he;subst he;have HQ0:=Ha q;clear q;have HX:=Ha (bK f IH.out G _ wds w1 (aG HG.out HB1.out) (HSW.out.onW HG.out HB1.out));go_wp2_with fail;refine HX.out.mono ?_;rintro e w2 ⟨he,hb⟩;have HB2:=Ha (HB1.out.trans (hb.mono HB1.out.size));obtain ⟨y2_0,y2_1,y2_2,y2_3,y2_4,y2_5,y2_6,y2_7,y2_8,y2_9⟩:=ks10 hb y1_0 y1_1 y1_2 y1_3 y1_4 y1_5 y1_6 y1_7 y1_8 y1_9;clear hb HX y1_0 y1_1 y1_2 y1_3 y1_4 y1_5 y1_6 y1_7 y1_8 y1_9;cases q:wds.all (aP (Nd.vw f))
  · rw [q] at he;subst he;have HQ1:=Ha q;clear q;go_wp2_with fail;go_ret;exact ⟨aC (by rw [RF.out,HQ0.out,HQ1.out];rfl),HB2.out⟩
  rw [q] at he;subst he;have HQ1:=Ha q;clear q;have HX:=Ha (bK f IH.out G _ asg w2 (aG HG.out HB2.out) (HSA.out.onW HG.out HB2.out));go_wp2_with fail;refine HX.out.mono ?_;rintro e w3 ⟨he,hb⟩;have HB3:=Ha (HB2.out.trans (hb.mono HB2.out.size));obtain ⟨y3_0,y3_1,y3_2,y3_3,y3_4,y3_5,y3_6,y3_7,y3_8,y3_9⟩:=ks10 hb y2_0 y2_1 y2_2 y2_3 y2_4 y2_5 y2_6 y2_7 y2_8 y2_9;clear hb HX y2_0 y2_1 y2_2 y2_3 y2_4 y2_5 y2_6 y2_7 y2_8 y2_9;cases q:asg.all (aP (Nd.vw f))
  · rw [q] at he;subst he;have HQ2:=Ha q;clear q;go_wp2_with fail;go_ret;exact ⟨aC (by rw [RF.out,HQ0.out,HQ1.out,HQ2.out];rfl),HB3.out⟩
  rw [q] at he;subst he;have HQ2:=Ha q;clear q;have HX:=Ha (dE f true false true true true true G w3 _ _ (aG HG.out HB3.out) (HV.out.below HG.out HB3.out));go_wp2_with fail;refine HX.out.mono ?_;rintro e w4 ⟨he,hb⟩;have HB4:=Ha (HB3.out.trans (hb.mono HB3.out.size));obtain ⟨y4_0,y4_1,y4_2,y4_3,y4_4,y4_5,y4_6,y4_7,y4_8,y4_9⟩:=ks10 hb y3_0 y3_1 y3_2 y3_3 y3_4 y3_5 y3_6 y3_7 y3_8 y3_9;clear hb HX y3_0 y3_1 y3_2 y3_3 y3_4 y3_5 y3_6 y3_7 y3_8 y3_9;cases q:aQ true false true true true true s ops asg wds rds ars
  · rw [q] at he;subst he;have HQ3:=Ha q;clear q;go_wp2_with fail;go_ret;exact ⟨aC (by rw [RF.out,HQ0.out,HQ1.out,HQ2.out,HQ3.out];rfl),HB4.out⟩
  rw [q] at he;subst he;have HQ3:=Ha q;clear q;have HX:=Ha (pF f IH2.out 1 2 G w4 _ _ (aG HG.out HB4.out) (HV.out.below HG.out HB4.out));go_wp2_with fail;refine HX.out.mono ?_;rintro e w5 ⟨he,hb⟩;have HB5:=Ha (HB4.out.trans (hb.mono HB4.out.size));obtain ⟨y5_0,y5_1,y5_2,y5_3,y5_4,y5_5,y5_6,y5_7,y5_8,y5_9⟩:=ks10 hb y4_0 y4_1 y4_2 y4_3 y4_4 y4_5 y4_6 y4_7 y4_8 y4_9;clear hb HX y4_0 y4_1 y4_2 y4_3 y4_4 y4_5 y4_6 y4_7 y4_8 y4_9;cases q:bQ (Nd.vw f) 1 2 (NdF.mk 1 s false false ops asg wds rds ars kds)
  · rw [q] at he;subst he;have HQ4:=Ha q;clear q;go_wp2_with fail;go_ret;exact ⟨aC (by rw [RF.out,HQ0.out,HQ1.out,HQ2.out,HQ3.out,HQ4.out];rfl),HB5.out⟩
  rw [q] at he;subst he;have HQ4:=Ha q;clear q;have HX:=Ha (yV f (kds.length) G w5 _ _ (aG HG.out HB5.out) (HV.out.below HG.out HB5.out));go_wp2_with fail;refine HX.out.mono ?_;rintro e w6 ⟨rfl,hb⟩;have HB6:=Ha (HB5.out.trans (hb.mono HB5.out.size));obtain ⟨y6_0,y6_1,y6_2,y6_3,y6_4,y6_5,y6_6,y6_7,y6_8,y6_9⟩:=ks10 hb y5_0 y5_1 y5_2 y5_3 y5_4 y5_5 y5_6 y5_7 y5_8 y5_9;clear hb HX y5_0 y5_1 y5_2 y5_3 y5_4 y5_5 y5_6 y5_7 y5_8 y5_9;go_wp2_with fail;go_ret;exact ⟨aC (by rw [RF.out,HQ0.out,HQ1.out,HQ2.out,HQ3.out,HQ4.out];rfl),HB6.out⟩
theorem zT (f:Nat) (ih:RRt f) (ih2:dK f) (G:Nat→Prop) (w:World) (vs:List Value) (x:NdF (Nd f)) (hG:∀ k,G k→k<w.heap.size) (hv:NdV (f+1) G w vs x) (hk:x.k=2):
    Calls Tryz.prog 38 #[ag vs] w fun e w'=>e=.returned (.bool (aO (Nd.vw f) x))∧Below w.heap.size w w':=by
  obtain ⟨ky,s,nt,ni,ops,asg,wds,rds,ars,kds⟩:=x;obtain ⟨A4,c4,A5,c5,A6,c6,A7,c7,A8,c8,A9,c9,rfl,hns,hal,hl4,hl5,hl6,hl7,hl8,hl9,hso,hsa,hsw,hsr,hsm,hsk⟩:=NdV.open hv;obtain ⟨HSO,HSA,HSW,HSR,HSM,HSK,HV⟩:=hs7 hso hsa hsw hsr hsm hsk hv;clear hso hsa hsw hsr hsm hsk hv;unfold ag;obtain ⟨W,hW,hbw,hb0⟩:=cpd w (.cells #[.int .i64 ky,.string s,.bool nt,.bool ni,.slice A4 ops.length c4,.slice A5 asg.length c5,.slice A6 wds.length c6,.slice A7 rds.length c7,.slice A8 ars.length c8,.slice A9 kds.length c9] 28);obtain ⟨x0,x1,x2,x3,x4,x5,x6,x7,x8,x9⟩:=c10 hb0;obtain ⟨HGW,HBW,HG,IH,IH2⟩:=hs5 (aG hG hbw) hbw hG ih ih2;clear hbw hb0 hG ih ih2;simp only at hk;obtain rfl:=hk;cases nt
  case true=>
    have RF:=Ha (DK (Nd.vw f) s true ni ops asg wds rds ars kds);go_enter Tryz.func38,Tryz.ntmps38;cases ni <;>
      (go_wp2_with fail
       go_ret;exact ⟨aC (by rw [RF.out];rfl),HBW.out⟩)
  cases ni
  case true=>
    have RF:=Ha (DK (Nd.vw f) s false true ops asg wds rds ars kds);go_enter Tryz.func38,Tryz.ntmps38;go_wp2_with fail;go_ret;exact ⟨aC (by rw [RF.out];rfl),HBW.out⟩
  have RF:=Ha (show aO (Nd.vw f) (NdF.mk 2 s false false ops asg wds rds ars kds)=(rds.all (aW (Nd.vw f))&&(wds.all (aP (Nd.vw f))&&(asg.all (aP (Nd.vw f))&&(aQ true false true true true true s ops asg wds rds ars&&(bQ (Nd.vw f) 2 3 (NdF.mk 2 s false false ops asg wds rds ars kds)&&eV (kds.length-1) (NdF.mk 2 s false false ops asg wds rds ars kds)))))) from by rw [DK];rfl);go_enter Tryz.func38,Tryz.ntmps38;have HX:=Ha (cO f IH.out G _ rds W (aG HG.out HBW.out) (HSR.out.onR HG.out HBW.out));go_wp2_with fail;refine HX.out.mono ?_;rintro e w1 ⟨he,hb⟩;have HB1:=Ha (HBW.out.trans (hb.mono HBW.out.size));obtain ⟨y1_0,y1_1,y1_2,y1_3,y1_4,y1_5,y1_6,y1_7,y1_8,y1_9⟩:=ks10 hb x0 x1 x2 x3 x4 x5 x6 x7 x8 x9;clear hb HX;cases q:rds.all (aW (Nd.vw f))
  · rw [q] at he;subst he;have HQ0:=Ha q;clear q;go_wp2_with fail;go_ret;exact ⟨aC (by rw [RF.out,HQ0.out];rfl),HB1.out⟩
  rw [q] at he;subst he;have HQ0:=Ha q;clear q;have HX:=Ha (bK f IH.out G _ wds w1 (aG HG.out HB1.out) (HSW.out.onW HG.out HB1.out));go_wp2_with fail;refine HX.out.mono ?_;rintro e w2 ⟨he,hb⟩;have HB2:=Ha (HB1.out.trans (hb.mono HB1.out.size));obtain ⟨y2_0,y2_1,y2_2,y2_3,y2_4,y2_5,y2_6,y2_7,y2_8,y2_9⟩:=ks10 hb y1_0 y1_1 y1_2 y1_3 y1_4 y1_5 y1_6 y1_7 y1_8 y1_9;clear hb HX y1_0 y1_1 y1_2 y1_3 y1_4 y1_5 y1_6 y1_7 y1_8 y1_9;cases q:wds.all (aP (Nd.vw f))
  · rw [q] at he;subst he;have HQ1:=Ha q;clear q;go_wp2_with fail;go_ret;exact ⟨aC (by rw [RF.out,HQ0.out,HQ1.out];rfl),HB2.out⟩
  rw [q] at he;subst he;have HQ1:=Ha q;clear q;have HX:=Ha (bK f IH.out G _ asg w2 (aG HG.out HB2.out) (HSA.out.onW HG.out HB2.out));go_wp2_with fail;refine HX.out.mono ?_;rintro e w3 ⟨he,hb⟩;have HB3:=Ha (HB2.out.trans (hb.mono HB2.out.size));obtain ⟨y3_0,y3_1,y3_2,y3_3,y3_4,y3_5,y3_6,y3_7,y3_8,y3_9⟩:=ks10 hb y2_0 y2_1 y2_2 y2_3 y2_4 y2_5 y2_6 y2_7 y2_8 y2_9;clear hb HX y2_0 y2_1 y2_2 y2_3 y2_4 y2_5 y2_6 y2_7 y2_8 y2_9;cases q:asg.all (aP (Nd.vw f))
  · rw [q] at he;subst he;have HQ2:=Ha q;clear q;go_wp2_with fail;go_ret;exact ⟨aC (by rw [RF.out,HQ0.out,HQ1.out,HQ2.out];rfl),HB3.out⟩
  rw [q] at he;subst he;have HQ2:=Ha q;clear q;have HX:=Ha (dE f true false true true true true G w3 _ _ (aG HG.out HB3.out) (HV.out.below HG.out HB3.out));go_wp2_with fail;refine HX.out.mono ?_;rintro e w4 ⟨he,hb⟩;have HB4:=Ha (HB3.out.trans (hb.mono HB3.out.size));obtain ⟨y4_0,y4_1,y4_2,y4_3,y4_4,y4_5,y4_6,y4_7,y4_8,y4_9⟩:=ks10 hb y3_0 y3_1 y3_2 y3_3 y3_4 y3_5 y3_6 y3_7 y3_8 y3_9;clear hb HX y3_0 y3_1 y3_2 y3_3 y3_4 y3_5 y3_6 y3_7 y3_8 y3_9;cases q:aQ true false true true true true s ops asg wds rds ars
  · rw [q] at he;subst he;have HQ3:=Ha q;clear q;go_wp2_with fail;go_ret;exact ⟨aC (by rw [RF.out,HQ0.out,HQ1.out,HQ2.out,HQ3.out];rfl),HB4.out⟩
  rw [q] at he;subst he;have HQ3:=Ha q;clear q;have HX:=Ha (pF f IH2.out 2 3 G w4 _ _ (aG HG.out HB4.out) (HV.out.below HG.out HB4.out));go_wp2_with fail;refine HX.out.mono ?_;rintro e w5 ⟨he,hb⟩;have HB5:=Ha (HB4.out.trans (hb.mono HB4.out.size));obtain ⟨y5_0,y5_1,y5_2,y5_3,y5_4,y5_5,y5_6,y5_7,y5_8,y5_9⟩:=ks10 hb y4_0 y4_1 y4_2 y4_3 y4_4 y4_5 y4_6 y4_7 y4_8 y4_9;clear hb HX y4_0 y4_1 y4_2 y4_3 y4_4 y4_5 y4_6 y4_7 y4_8 y4_9;cases q:bQ (Nd.vw f) 2 3 (NdF.mk 2 s false false ops asg wds rds ars kds)
  · rw [q] at he;subst he;have HQ4:=Ha q;clear q;go_wp2_with fail;go_ret;exact ⟨aC (by rw [RF.out,HQ0.out,HQ1.out,HQ2.out,HQ3.out,HQ4.out];rfl),HB5.out⟩
  rw [q] at he;subst he;have HQ4:=Ha q;clear q;have hcast:((kds.length:Int)-1)=((kds.length-1:Nat):Int):=by
    have hk:=HQ4.out;simp only [bQ,Bool.and_eq_true,decide_eq_true_eq] at hk;omega
  have HX:=Ha (yV f (kds.length-1) G w5 _ _ (aG HG.out HB5.out) (HV.out.below HG.out HB5.out));rw [← hcast] at HX;clear hcast;go_wp2_with fail;refine HX.out.mono ?_;rintro e w6 ⟨rfl,hb⟩;have HB6:=Ha (HB5.out.trans (hb.mono HB5.out.size));obtain ⟨y6_0,y6_1,y6_2,y6_3,y6_4,y6_5,y6_6,y6_7,y6_8,y6_9⟩:=ks10 hb y5_0 y5_1 y5_2 y5_3 y5_4 y5_5 y5_6 y5_7 y5_8 y5_9;clear hb HX y5_0 y5_1 y5_2 y5_3 y5_4 y5_5 y5_6 y5_7 y5_8 y5_9;go_wp2_with fail;go_ret;exact ⟨aC (by rw [RF.out,HQ0.out,HQ1.out,HQ2.out,HQ3.out,HQ4.out];rfl),HB6.out⟩
theorem zU (f:Nat) (ih:RRt f) (ih2:dK f) (G:Nat→Prop) (w:World) (vs:List Value) (x:NdF (Nd f)) (hG:∀ k,G k→k<w.heap.size) (hv:NdV (f+1) G w vs x) (hk:x.k=3):
    Calls Tryz.prog 38 #[ag vs] w fun e w'=>e=.returned (.bool (aO (Nd.vw f) x))∧Below w.heap.size w w':=by
  obtain ⟨ky,s,nt,ni,ops,asg,wds,rds,ars,kds⟩:=x;obtain ⟨A4,c4,A5,c5,A6,c6,A7,c7,A8,c8,A9,c9,rfl,hns,hal,hl4,hl5,hl6,hl7,hl8,hl9,hso,hsa,hsw,hsr,hsm,hsk⟩:=NdV.open hv;obtain ⟨HSO,HSA,HSW,HSR,HSM,HSK,HV⟩:=hs7 hso hsa hsw hsr hsm hsk hv;clear hso hsa hsw hsr hsm hsk hv;unfold ag;obtain ⟨W,hW,hbw,hb0⟩:=cpd w (.cells #[.int .i64 ky,.string s,.bool nt,.bool ni,.slice A4 ops.length c4,.slice A5 asg.length c5,.slice A6 wds.length c6,.slice A7 rds.length c7,.slice A8 ars.length c8,.slice A9 kds.length c9] 28);obtain ⟨x0,x1,x2,x3,x4,x5,x6,x7,x8,x9⟩:=c10 hb0;obtain ⟨HGW,HBW,HG,IH,IH2⟩:=hs5 (aG hG hbw) hbw hG ih ih2;clear hbw hb0 hG ih ih2;simp only at hk;obtain rfl:=hk;cases ni
  case true=>
    have RF:=Ha (DL (Nd.vw f) s nt true ops asg wds rds ars kds);go_enter Tryz.func38,Tryz.ntmps38;cases nt <;>
      (go_wp2_with fail
       go_ret;exact ⟨aC (by rw [RF.out];rfl),HBW.out⟩)
  cases nt
  · have RF:=Ha (show aO (Nd.vw f) (NdF.mk 3 s false false ops asg wds rds ars kds)=(rds.all (aW (Nd.vw f))&&(wds.all (aP (Nd.vw f))&&(asg.all (aP (Nd.vw f))&&(aQ true true true true true true s ops asg wds rds ars&&(bQ (Nd.vw f) 1 4 (NdF.mk 3 s false false ops asg wds rds ars kds)&&(false||decide (1<kds.length))))))) from by rw [DL];rfl);go_enter Tryz.func38,Tryz.ntmps38;have HX:=Ha (cO f IH.out G _ rds W (aG HG.out HBW.out) (HSR.out.onR HG.out HBW.out));go_wp2_with fail;refine HX.out.mono ?_;rintro e w1 ⟨he,hb⟩;have HB1:=Ha (HBW.out.trans (hb.mono HBW.out.size));obtain ⟨y1_0,y1_1,y1_2,y1_3,y1_4,y1_5,y1_6,y1_7,y1_8,y1_9⟩:=ks10 hb x0 x1 x2 x3 x4 x5 x6 x7 x8 x9;clear hb HX;cases q:rds.all (aW (Nd.vw f))
    · rw [q] at he;subst he;have HQ0:=Ha q;clear q;go_wp2_with fail;go_ret;exact ⟨aC (by rw [RF.out,HQ0.out];rfl),HB1.out⟩
    rw [q] at he;subst he;have HQ0:=Ha q;clear q;have HX:=Ha (bK f IH.out G _ wds w1 (aG HG.out HB1.out) (HSW.out.onW HG.out HB1.out));go_wp2_with fail;refine HX.out.mono ?_;rintro e w2 ⟨he,hb⟩;have HB2:=Ha (HB1.out.trans (hb.mono HB1.out.size));obtain ⟨y2_0,y2_1,y2_2,y2_3,y2_4,y2_5,y2_6,y2_7,y2_8,y2_9⟩:=ks10 hb y1_0 y1_1 y1_2 y1_3 y1_4 y1_5 y1_6 y1_7 y1_8 y1_9;clear hb HX y1_0 y1_1 y1_2 y1_3 y1_4 y1_5 y1_6 y1_7 y1_8 y1_9;cases q:wds.all (aP (Nd.vw f))
    · rw [q] at he;subst he;have HQ1:=Ha q;clear q;go_wp2_with fail;go_ret;exact ⟨aC (by rw [RF.out,HQ0.out,HQ1.out];rfl),HB2.out⟩
    rw [q] at he;subst he;have HQ1:=Ha q;clear q;have HX:=Ha (bK f IH.out G _ asg w2 (aG HG.out HB2.out) (HSA.out.onW HG.out HB2.out));go_wp2_with fail;refine HX.out.mono ?_;rintro e w3 ⟨he,hb⟩;have HB3:=Ha (HB2.out.trans (hb.mono HB2.out.size));obtain ⟨y3_0,y3_1,y3_2,y3_3,y3_4,y3_5,y3_6,y3_7,y3_8,y3_9⟩:=ks10 hb y2_0 y2_1 y2_2 y2_3 y2_4 y2_5 y2_6 y2_7 y2_8 y2_9;clear hb HX y2_0 y2_1 y2_2 y2_3 y2_4 y2_5 y2_6 y2_7 y2_8 y2_9;cases q:asg.all (aP (Nd.vw f))
    · rw [q] at he;subst he;have HQ2:=Ha q;clear q;go_wp2_with fail;go_ret;exact ⟨aC (by rw [RF.out,HQ0.out,HQ1.out,HQ2.out];rfl),HB3.out⟩
    rw [q] at he;subst he;have HQ2:=Ha q;clear q;have HX:=Ha (dE f true true true true true true G w3 _ _ (aG HG.out HB3.out) (HV.out.below HG.out HB3.out));go_wp2_with fail;refine HX.out.mono ?_;rintro e w4 ⟨he,hb⟩;have HB4:=Ha (HB3.out.trans (hb.mono HB3.out.size));obtain ⟨y4_0,y4_1,y4_2,y4_3,y4_4,y4_5,y4_6,y4_7,y4_8,y4_9⟩:=ks10 hb y3_0 y3_1 y3_2 y3_3 y3_4 y3_5 y3_6 y3_7 y3_8 y3_9;clear hb HX y3_0 y3_1 y3_2 y3_3 y3_4 y3_5 y3_6 y3_7 y3_8 y3_9;cases q:aQ true true true true true true s ops asg wds rds ars
    · rw [q] at he;subst he;have HQ3:=Ha q;clear q;go_wp2_with fail;go_ret;exact ⟨aC (by rw [RF.out,HQ0.out,HQ1.out,HQ2.out,HQ3.out];rfl),HB4.out⟩
    rw [q] at he;subst he;have HQ3:=Ha q;clear q;have HX:=Ha (pF f IH2.out 1 4 G w4 _ _ (aG HG.out HB4.out) (HV.out.below HG.out HB4.out));go_wp2_with fail;refine HX.out.mono ?_;rintro e w5 ⟨he,hb⟩;have HB5:=Ha (HB4.out.trans (hb.mono HB4.out.size));obtain ⟨y5_0,y5_1,y5_2,y5_3,y5_4,y5_5,y5_6,y5_7,y5_8,y5_9⟩:=ks10 hb y4_0 y4_1 y4_2 y4_3 y4_4 y4_5 y4_6 y4_7 y4_8 y4_9;clear hb HX y4_0 y4_1 y4_2 y4_3 y4_4 y4_5 y4_6 y4_7 y4_8 y4_9;cases q:bQ (Nd.vw f) 1 4 (NdF.mk 3 s false false ops asg wds rds ars kds)
    · rw [q] at he;subst he;have HQ4:=Ha q;clear q;go_wp2_with fail;go_ret;exact ⟨aC (by rw [RF.out,HQ0.out,HQ1.out,HQ2.out,HQ3.out,HQ4.out];rfl),HB5.out⟩
    rw [q] at he;subst he;have HQ4:=Ha q;clear q;go_wp2_with fail;go_ret;exact ⟨aC (by rw [RF.out,HQ0.out,HQ1.out,HQ2.out,HQ3.out,HQ4.out];first | rfl | exact DX _),HB5.out⟩
  have RF:=Ha (show aO (Nd.vw f) (NdF.mk 3 s true false ops asg wds rds ars kds)=(rds.all (aW (Nd.vw f))&&(wds.all (aP (Nd.vw f))&&(asg.all (aP (Nd.vw f))&&(aQ true true true true true true s ops asg wds rds ars&&(bQ (Nd.vw f) 1 4 (NdF.mk 3 s true false ops asg wds rds ars kds)&&(true||decide (1<kds.length))))))) from by rw [DL];rfl);go_enter Tryz.func38,Tryz.ntmps38;have HX:=Ha (cO f IH.out G _ rds W (aG HG.out HBW.out) (HSR.out.onR HG.out HBW.out));go_wp2_with fail;refine HX.out.mono ?_;rintro e w1 ⟨he,hb⟩;have HB1:=Ha (HBW.out.trans (hb.mono HBW.out.size));obtain ⟨y1_0,y1_1,y1_2,y1_3,y1_4,y1_5,y1_6,y1_7,y1_8,y1_9⟩:=ks10 hb x0 x1 x2 x3 x4 x5 x6 x7 x8 x9;clear hb HX;cases q:rds.all (aW (Nd.vw f))
  · rw [q] at he;subst he;have HQ0:=Ha q;clear q;go_wp2_with fail;go_ret;exact ⟨aC (by rw [RF.out,HQ0.out];rfl),HB1.out⟩
  rw [q] at he;subst he;have HQ0:=Ha q;clear q;have HX:=Ha (bK f IH.out G _ wds w1 (aG HG.out HB1.out) (HSW.out.onW HG.out HB1.out));go_wp2_with fail;refine HX.out.mono ?_;rintro e w2 ⟨he,hb⟩;have HB2:=Ha (HB1.out.trans (hb.mono HB1.out.size));obtain ⟨y2_0,y2_1,y2_2,y2_3,y2_4,y2_5,y2_6,y2_7,y2_8,y2_9⟩:=ks10 hb y1_0 y1_1 y1_2 y1_3 y1_4 y1_5 y1_6 y1_7 y1_8 y1_9;clear hb HX y1_0 y1_1 y1_2 y1_3 y1_4 y1_5 y1_6 y1_7 y1_8 y1_9;cases q:wds.all (aP (Nd.vw f))
  · rw [q] at he;subst he;have HQ1:=Ha q;clear q;go_wp2_with fail;go_ret;exact ⟨aC (by rw [RF.out,HQ0.out,HQ1.out];rfl),HB2.out⟩
  rw [q] at he;subst he;have HQ1:=Ha q;clear q;have HX:=Ha (bK f IH.out G _ asg w2 (aG HG.out HB2.out) (HSA.out.onW HG.out HB2.out));go_wp2_with fail;refine HX.out.mono ?_;rintro e w3 ⟨he,hb⟩;have HB3:=Ha (HB2.out.trans (hb.mono HB2.out.size));obtain ⟨y3_0,y3_1,y3_2,y3_3,y3_4,y3_5,y3_6,y3_7,y3_8,y3_9⟩:=ks10 hb y2_0 y2_1 y2_2 y2_3 y2_4 y2_5 y2_6 y2_7 y2_8 y2_9;clear hb HX y2_0 y2_1 y2_2 y2_3 y2_4 y2_5 y2_6 y2_7 y2_8 y2_9;cases q:asg.all (aP (Nd.vw f))
  · rw [q] at he;subst he;have HQ2:=Ha q;clear q;go_wp2_with fail;go_ret;exact ⟨aC (by rw [RF.out,HQ0.out,HQ1.out,HQ2.out];rfl),HB3.out⟩
  rw [q] at he;subst he;have HQ2:=Ha q;clear q;have HX:=Ha (dE f true true true true true true G w3 _ _ (aG HG.out HB3.out) (HV.out.below HG.out HB3.out));go_wp2_with fail;refine HX.out.mono ?_;rintro e w4 ⟨he,hb⟩;have HB4:=Ha (HB3.out.trans (hb.mono HB3.out.size));obtain ⟨y4_0,y4_1,y4_2,y4_3,y4_4,y4_5,y4_6,y4_7,y4_8,y4_9⟩:=ks10 hb y3_0 y3_1 y3_2 y3_3 y3_4 y3_5 y3_6 y3_7 y3_8 y3_9;clear hb HX y3_0 y3_1 y3_2 y3_3 y3_4 y3_5 y3_6 y3_7 y3_8 y3_9;cases q:aQ true true true true true true s ops asg wds rds ars
  · rw [q] at he;subst he;have HQ3:=Ha q;clear q;go_wp2_with fail;go_ret;exact ⟨aC (by rw [RF.out,HQ0.out,HQ1.out,HQ2.out,HQ3.out];rfl),HB4.out⟩
  rw [q] at he;subst he;have HQ3:=Ha q;clear q;have HX:=Ha (pF f IH2.out 1 4 G w4 _ _ (aG HG.out HB4.out) (HV.out.below HG.out HB4.out));go_wp2_with fail;refine HX.out.mono ?_;rintro e w5 ⟨he,hb⟩;have HB5:=Ha (HB4.out.trans (hb.mono HB4.out.size));obtain ⟨y5_0,y5_1,y5_2,y5_3,y5_4,y5_5,y5_6,y5_7,y5_8,y5_9⟩:=ks10 hb y4_0 y4_1 y4_2 y4_3 y4_4 y4_5 y4_6 y4_7 y4_8 y4_9;clear hb HX y4_0 y4_1 y4_2 y4_3 y4_4 y4_5 y4_6 y4_7 y4_8 y4_9;cases q:bQ (Nd.vw f) 1 4 (NdF.mk 3 s true false ops asg wds rds ars kds)
  · rw [q] at he;subst he;have HQ4:=Ha q;clear q;go_wp2_with fail;go_ret;exact ⟨aC (by rw [RF.out,HQ0.out,HQ1.out,HQ2.out,HQ3.out,HQ4.out];rfl),HB5.out⟩
  rw [q] at he;subst he;have HQ4:=Ha q;clear q;go_wp2_with fail;go_ret;exact ⟨aC (by rw [RF.out,HQ0.out,HQ1.out,HQ2.out,HQ3.out,HQ4.out];first | rfl | exact DX _),HB5.out⟩
theorem zV (f:Nat) (ih:RRt f) (_ih2:dK f) (G:Nat→Prop) (w:World) (vs:List Value) (x:NdF (Nd f)) (hG:∀ k,G k→k<w.heap.size) (hv:NdV (f+1) G w vs x) (hk:x.k=4):
    Calls Tryz.prog 38 #[ag vs] w fun e w'=>e=.returned (.bool (aO (Nd.vw f) x))∧Below w.heap.size w w':=by
  obtain ⟨ky,s,nt,ni,ops,asg,wds,rds,ars,kds⟩:=x;obtain ⟨A4,c4,A5,c5,A6,c6,A7,c7,A8,c8,A9,c9,rfl,hns,hal,hl4,hl5,hl6,hl7,hl8,hl9,hso,hsa,hsw,hsr,hsm,hsk⟩:=NdV.open hv;obtain ⟨HSO,HSA,HSW,HSR,HSM,HSK,HV⟩:=hs7 hso hsa hsw hsr hsm hsk hv;clear hso hsa hsw hsr hsm hsk hv;unfold ag;obtain ⟨W,hW,hbw,hb0⟩:=cpd w (.cells #[.int .i64 ky,.string s,.bool nt,.bool ni,.slice A4 ops.length c4,.slice A5 asg.length c5,.slice A6 wds.length c6,.slice A7 rds.length c7,.slice A8 ars.length c8,.slice A9 kds.length c9] 28);obtain ⟨x0,x1,x2,x3,x4,x5,x6,x7,x8,x9⟩:=c10 hb0;obtain ⟨HGW,HBW,HG,IH⟩:=hs4 (aG hG hbw) hbw hG ih;clear hbw hb0 hG ih;simp only at hk;obtain rfl:=hk;cases nt
  case true=>
    have RF:=Ha (DM (Nd.vw f) s true ni ops asg wds rds ars kds);go_enter Tryz.func38,Tryz.ntmps38;cases ni <;>
      (go_wp2_with fail
       go_ret;exact ⟨aC (by rw [RF.out];rfl),HBW.out⟩)
  cases ni
  case true=>
    have RF:=Ha (DM (Nd.vw f) s false true ops asg wds rds ars kds);go_enter Tryz.func38,Tryz.ntmps38;go_wp2_with fail;go_ret;exact ⟨aC (by rw [RF.out];rfl),HBW.out⟩
  have RF:=Ha (show aO (Nd.vw f) (NdF.mk 4 s false false ops asg wds rds ars kds)=(rds.all (aW (Nd.vw f))&&(wds.all (aP (Nd.vw f))&&(asg.all (aP (Nd.vw f))&&(aQ true true false false false true s ops asg wds rds ars&&((kds.length==0)&&dU (NdF.mk 4 s false false ops asg wds rds ars kds)))))) from by rw [DM];rfl);go_enter Tryz.func38,Tryz.ntmps38;have HX:=Ha (cO f IH.out G _ rds W (aG HG.out HBW.out) (HSR.out.onR HG.out HBW.out));go_wp2_with fail;refine HX.out.mono ?_;rintro e w1 ⟨he,hb⟩;have HB1:=Ha (HBW.out.trans (hb.mono HBW.out.size));obtain ⟨y1_0,y1_1,y1_2,y1_3,y1_4,y1_5,y1_6,y1_7,y1_8,y1_9⟩:=ks10 hb x0 x1 x2 x3 x4 x5 x6 x7 x8 x9;clear hb HX;cases q:rds.all (aW (Nd.vw f))
  · rw [q] at he;subst he;have HQ0:=Ha q;clear q;go_wp2_with fail;go_ret;exact ⟨aC (by rw [RF.out,HQ0.out];rfl),HB1.out⟩
  rw [q] at he;subst he;have HQ0:=Ha q;clear q;have HX:=Ha (bK f IH.out G _ wds w1 (aG HG.out HB1.out) (HSW.out.onW HG.out HB1.out));go_wp2_with fail;refine HX.out.mono ?_;rintro e w2 ⟨he,hb⟩;have HB2:=Ha (HB1.out.trans (hb.mono HB1.out.size));obtain ⟨y2_0,y2_1,y2_2,y2_3,y2_4,y2_5,y2_6,y2_7,y2_8,y2_9⟩:=ks10 hb y1_0 y1_1 y1_2 y1_3 y1_4 y1_5 y1_6 y1_7 y1_8 y1_9;clear hb HX y1_0 y1_1 y1_2 y1_3 y1_4 y1_5 y1_6 y1_7 y1_8 y1_9;cases q:wds.all (aP (Nd.vw f))
  · rw [q] at he;subst he;have HQ1:=Ha q;clear q;go_wp2_with fail;go_ret;exact ⟨aC (by rw [RF.out,HQ0.out,HQ1.out];rfl),HB2.out⟩
  rw [q] at he;subst he;have HQ1:=Ha q;clear q;have HX:=Ha (bK f IH.out G _ asg w2 (aG HG.out HB2.out) (HSA.out.onW HG.out HB2.out));go_wp2_with fail;refine HX.out.mono ?_;rintro e w3 ⟨he,hb⟩;have HB3:=Ha (HB2.out.trans (hb.mono HB2.out.size));obtain ⟨y3_0,y3_1,y3_2,y3_3,y3_4,y3_5,y3_6,y3_7,y3_8,y3_9⟩:=ks10 hb y2_0 y2_1 y2_2 y2_3 y2_4 y2_5 y2_6 y2_7 y2_8 y2_9;clear hb HX y2_0 y2_1 y2_2 y2_3 y2_4 y2_5 y2_6 y2_7 y2_8 y2_9;cases q:asg.all (aP (Nd.vw f))
  · rw [q] at he;subst he;have HQ2:=Ha q;clear q;go_wp2_with fail;go_ret;exact ⟨aC (by rw [RF.out,HQ0.out,HQ1.out,HQ2.out];rfl),HB3.out⟩
  rw [q] at he;subst he;have HQ2:=Ha q;clear q;have HX:=Ha (dE f true true false false false true G w3 _ _ (aG HG.out HB3.out) (HV.out.below HG.out HB3.out));go_wp2_with fail;refine HX.out.mono ?_;rintro e w4 ⟨he,hb⟩;have HB4:=Ha (HB3.out.trans (hb.mono HB3.out.size));obtain ⟨y4_0,y4_1,y4_2,y4_3,y4_4,y4_5,y4_6,y4_7,y4_8,y4_9⟩:=ks10 hb y3_0 y3_1 y3_2 y3_3 y3_4 y3_5 y3_6 y3_7 y3_8 y3_9;clear hb HX y3_0 y3_1 y3_2 y3_3 y3_4 y3_5 y3_6 y3_7 y3_8 y3_9;cases q:aQ true true false false false true s ops asg wds rds ars
  · rw [q] at he;subst he;have HQ3:=Ha q;clear q;go_wp2_with fail;go_ret;exact ⟨aC (by rw [RF.out,HQ0.out,HQ1.out,HQ2.out,HQ3.out];rfl),HB4.out⟩
  rw [q] at he;subst he;have HQ3:=Ha q;clear q;by_cases hl4:kds.length=0
  case neg=>
    have HL4:=Ha (beq_false_of_ne hl4);have m1:((kds.length:Int)==0)=false:=beq_false_of_ne (by omega);have m2:(kds.length==0)=false:=beq_false_of_ne hl4;go_wp2_with fail;go_ret;exact ⟨aC (by rw [RF.out,HQ0.out,HQ1.out,HQ2.out,HQ3.out,HL4.out];rfl),HB4.out⟩
  have HL4:=Ha (beq_iff_eq.2 hl4);have m1_4:((kds.length:Int)==0)=true:=beq_iff_eq.2 (by omega);have m2_4:(kds.length==0)=true:=beq_iff_eq.2 hl4;clear hl4;have HX:=Ha (AG f G w4 _ _ (aG HG.out HB4.out) (HV.out.below HG.out HB4.out));go_wp2_with fail;refine HX.out.mono ?_;rintro e w5 ⟨rfl,hb⟩;have HB5:=Ha (HB4.out.trans (hb.mono HB4.out.size));obtain ⟨y5_0,y5_1,y5_2,y5_3,y5_4,y5_5,y5_6,y5_7,y5_8,y5_9⟩:=ks10 hb y4_0 y4_1 y4_2 y4_3 y4_4 y4_5 y4_6 y4_7 y4_8 y4_9;clear hb HX y4_0 y4_1 y4_2 y4_3 y4_4 y4_5 y4_6 y4_7 y4_8 y4_9;go_wp2_with fail;go_ret;exact ⟨aC (by rw [RF.out,HQ0.out,HQ1.out,HQ2.out,HQ3.out,HL4.out];rfl),HB5.out⟩
theorem AA (f:Nat) (ih:RRt f) (_ih2:dK f) (G:Nat→Prop) (w:World) (vs:List Value) (x:NdF (Nd f)) (hG:∀ k,G k→k<w.heap.size) (hv:NdV (f+1) G w vs x) (hk:x.k=9):
    Calls Tryz.prog 38 #[ag vs] w fun e w'=>e=.returned (.bool (aO (Nd.vw f) x))∧Below w.heap.size w w':=by
  obtain ⟨ky,s,nt,ni,ops,asg,wds,rds,ars,kds⟩:=x;obtain ⟨A4,c4,A5,c5,A6,c6,A7,c7,A8,c8,A9,c9,rfl,hns,hal,hl4,hl5,hl6,hl7,hl8,hl9,hso,hsa,hsw,hsr,hsm,hsk⟩:=NdV.open hv;obtain ⟨HSO,HSA,HSW,HSR,HSM,HSK,HV⟩:=hs7 hso hsa hsw hsr hsm hsk hv;clear hso hsa hsw hsr hsm hsk hv;unfold ag;obtain ⟨W,hW,hbw,hb0⟩:=cpd w (.cells #[.int .i64 ky,.string s,.bool nt,.bool ni,.slice A4 ops.length c4,.slice A5 asg.length c5,.slice A6 wds.length c6,.slice A7 rds.length c7,.slice A8 ars.length c8,.slice A9 kds.length c9] 28);obtain ⟨x0,x1,x2,x3,x4,x5,x6,x7,x8,x9⟩:=c10 hb0;obtain ⟨HGW,HBW,HG,IH⟩:=hs4 (aG hG hbw) hbw hG ih;clear hbw hb0 hG ih;simp only at hk;obtain rfl:=hk;cases nt
  case true=>
    have RF:=Ha (DR (Nd.vw f) s true ni ops asg wds rds ars kds);go_enter Tryz.func38,Tryz.ntmps38;cases ni <;>
      (go_wp2_with fail
       go_ret;exact ⟨aC (by rw [RF.out];rfl),HBW.out⟩)
  cases ni
  case true=>
    have RF:=Ha (DR (Nd.vw f) s false true ops asg wds rds ars kds);go_enter Tryz.func38,Tryz.ntmps38;go_wp2_with fail;go_ret;exact ⟨aC (by rw [RF.out];rfl),HBW.out⟩
  have RF:=Ha (show aO (Nd.vw f) (NdF.mk 9 s false false ops asg wds rds ars kds)=(rds.all (aW (Nd.vw f))&&(wds.all (aP (Nd.vw f))&&(asg.all (aP (Nd.vw f))&&(aQ true true true true false true s ops asg wds rds ars&&(cS (Nd.vw f) 2 kds.length (NdF.mk 9 s false false ops asg wds rds ars kds)))))) from by rw [DR];rfl);go_enter Tryz.func38,Tryz.ntmps38;have HX:=Ha (cO f IH.out G _ rds W (aG HG.out HBW.out) (HSR.out.onR HG.out HBW.out));go_wp2_with fail;refine HX.out.mono ?_;rintro e w1 ⟨he,hb⟩;have HB1:=Ha (HBW.out.trans (hb.mono HBW.out.size));obtain ⟨y1_0,y1_1,y1_2,y1_3,y1_4,y1_5,y1_6,y1_7,y1_8,y1_9⟩:=ks10 hb x0 x1 x2 x3 x4 x5 x6 x7 x8 x9;clear hb HX;cases q:rds.all (aW (Nd.vw f))
  · rw [q] at he;subst he;have HQ0:=Ha q;clear q;go_wp2_with fail;go_ret;exact ⟨aC (by rw [RF.out,HQ0.out];rfl),HB1.out⟩
  rw [q] at he;subst he;have HQ0:=Ha q;clear q;have HX:=Ha (bK f IH.out G _ wds w1 (aG HG.out HB1.out) (HSW.out.onW HG.out HB1.out));go_wp2_with fail;refine HX.out.mono ?_;rintro e w2 ⟨he,hb⟩;have HB2:=Ha (HB1.out.trans (hb.mono HB1.out.size));obtain ⟨y2_0,y2_1,y2_2,y2_3,y2_4,y2_5,y2_6,y2_7,y2_8,y2_9⟩:=ks10 hb y1_0 y1_1 y1_2 y1_3 y1_4 y1_5 y1_6 y1_7 y1_8 y1_9;clear hb HX y1_0 y1_1 y1_2 y1_3 y1_4 y1_5 y1_6 y1_7 y1_8 y1_9;cases q:wds.all (aP (Nd.vw f))
  · rw [q] at he;subst he;have HQ1:=Ha q;clear q;go_wp2_with fail;go_ret;exact ⟨aC (by rw [RF.out,HQ0.out,HQ1.out];rfl),HB2.out⟩
  rw [q] at he;subst he;have HQ1:=Ha q;clear q;have HX:=Ha (bK f IH.out G _ asg w2 (aG HG.out HB2.out) (HSA.out.onW HG.out HB2.out));go_wp2_with fail;refine HX.out.mono ?_;rintro e w3 ⟨he,hb⟩;have HB3:=Ha (HB2.out.trans (hb.mono HB2.out.size));obtain ⟨y3_0,y3_1,y3_2,y3_3,y3_4,y3_5,y3_6,y3_7,y3_8,y3_9⟩:=ks10 hb y2_0 y2_1 y2_2 y2_3 y2_4 y2_5 y2_6 y2_7 y2_8 y2_9;clear hb HX y2_0 y2_1 y2_2 y2_3 y2_4 y2_5 y2_6 y2_7 y2_8 y2_9;cases q:asg.all (aP (Nd.vw f))
  · rw [q] at he;subst he;have HQ2:=Ha q;clear q;go_wp2_with fail;go_ret;exact ⟨aC (by rw [RF.out,HQ0.out,HQ1.out,HQ2.out];rfl),HB3.out⟩
  rw [q] at he;subst he;have HQ2:=Ha q;clear q;have HX:=Ha (dE f true true true true false true G w3 _ _ (aG HG.out HB3.out) (HV.out.below HG.out HB3.out));go_wp2_with fail;refine HX.out.mono ?_;rintro e w4 ⟨he,hb⟩;have HB4:=Ha (HB3.out.trans (hb.mono HB3.out.size));obtain ⟨y4_0,y4_1,y4_2,y4_3,y4_4,y4_5,y4_6,y4_7,y4_8,y4_9⟩:=ks10 hb y3_0 y3_1 y3_2 y3_3 y3_4 y3_5 y3_6 y3_7 y3_8 y3_9;clear hb HX y3_0 y3_1 y3_2 y3_3 y3_4 y3_5 y3_6 y3_7 y3_8 y3_9;cases q:aQ true true true true false true s ops asg wds rds ars
  · rw [q] at he;subst he;have HQ3:=Ha q;clear q;go_wp2_with fail;go_ret;exact ⟨aC (by rw [RF.out,HQ0.out,HQ1.out,HQ2.out,HQ3.out];rfl),HB4.out⟩
  rw [q] at he;subst he;have HQ3:=Ha q;clear q;have HX:=Ha (g5 f IH.out 2 kds.length G w4 _ _ (aG HG.out HB4.out) (HV.out.below HG.out HB4.out));go_wp2_with fail;refine HX.out.mono ?_;rintro e w5 ⟨rfl,hb⟩;have HB5:=Ha (HB4.out.trans (hb.mono HB4.out.size));obtain ⟨y5_0,y5_1,y5_2,y5_3,y5_4,y5_5,y5_6,y5_7,y5_8,y5_9⟩:=ks10 hb y4_0 y4_1 y4_2 y4_3 y4_4 y4_5 y4_6 y4_7 y4_8 y4_9;clear hb HX y4_0 y4_1 y4_2 y4_3 y4_4 y4_5 y4_6 y4_7 y4_8 y4_9;go_wp2_with fail;go_ret;exact ⟨aC (by rw [RF.out,HQ0.out,HQ1.out,HQ2.out,HQ3.out];rfl),HB5.out⟩
theorem wN (f:Nat) (ih:RRt f) (_ih2:dK f) (G:Nat→Prop) (w:World) (vs:List Value) (x:NdF (Nd f)) (hG:∀ k,G k→k<w.heap.size) (hv:NdV (f+1) G w vs x) (hk:x.k=10):
    Calls Tryz.prog 38 #[ag vs] w fun e w'=>e=.returned (.bool (aO (Nd.vw f) x))∧Below w.heap.size w w':=by
  obtain ⟨ky,s,nt,ni,ops,asg,wds,rds,ars,kds⟩:=x;obtain ⟨A4,c4,A5,c5,A6,c6,A7,c7,A8,c8,A9,c9,rfl,hns,hal,hl4,hl5,hl6,hl7,hl8,hl9,hso,hsa,hsw,hsr,hsm,hsk⟩:=NdV.open hv;obtain ⟨HSO,HSA,HSW,HSR,HSM,HSK,HV⟩:=hs7 hso hsa hsw hsr hsm hsk hv;clear hso hsa hsw hsr hsm hsk hv;unfold ag;obtain ⟨W,hW,hbw,hb0⟩:=cpd w (.cells #[.int .i64 ky,.string s,.bool nt,.bool ni,.slice A4 ops.length c4,.slice A5 asg.length c5,.slice A6 wds.length c6,.slice A7 rds.length c7,.slice A8 ars.length c8,.slice A9 kds.length c9] 28);obtain ⟨x0,x1,x2,x3,x4,x5,x6,x7,x8,x9⟩:=c10 hb0;obtain ⟨HGW,HBW,HG,IH⟩:=hs4 (aG hG hbw) hbw hG ih;clear hbw hb0 hG ih;simp only at hk;obtain rfl:=hk;cases nt
  case true=>
    have RF:=Ha (zD (Nd.vw f) s true ni ops asg wds rds ars kds);go_enter Tryz.func38,Tryz.ntmps38;cases ni <;>
      (go_wp2_with fail
       go_ret;exact ⟨aC (by rw [RF.out];rfl),HBW.out⟩)
  cases ni
  case true=>
    have RF:=Ha (zD (Nd.vw f) s false true ops asg wds rds ars kds);go_enter Tryz.func38,Tryz.ntmps38;go_wp2_with fail;go_ret;exact ⟨aC (by rw [RF.out];rfl),HBW.out⟩
  have RF:=Ha (show aO (Nd.vw f) (NdF.mk 10 s false false ops asg wds rds ars kds)=(rds.all (aW (Nd.vw f))&&(wds.all (aP (Nd.vw f))&&(asg.all (aP (Nd.vw f))&&(aQ true true true true false true s ops asg wds rds ars&&(cS (Nd.vw f) 2 2 (NdF.mk 10 s false false ops asg wds rds ars kds)))))) from by rw [zD];rfl);go_enter Tryz.func38,Tryz.ntmps38;have HX:=Ha (cO f IH.out G _ rds W (aG HG.out HBW.out) (HSR.out.onR HG.out HBW.out));go_wp2_with fail;refine HX.out.mono ?_;rintro e w1 ⟨he,hb⟩;have HB1:=Ha (HBW.out.trans (hb.mono HBW.out.size));obtain ⟨y1_0,y1_1,y1_2,y1_3,y1_4,y1_5,y1_6,y1_7,y1_8,y1_9⟩:=ks10 hb x0 x1 x2 x3 x4 x5 x6 x7 x8 x9;clear hb HX;cases q:rds.all (aW (Nd.vw f))
  · rw [q] at he;subst he;have HQ0:=Ha q;clear q;go_wp2_with fail;go_ret;exact ⟨aC (by rw [RF.out,HQ0.out];rfl),HB1.out⟩
  rw [q] at he;subst he;have HQ0:=Ha q;clear q;have HX:=Ha (bK f IH.out G _ wds w1 (aG HG.out HB1.out) (HSW.out.onW HG.out HB1.out));go_wp2_with fail;refine HX.out.mono ?_;rintro e w2 ⟨he,hb⟩;have HB2:=Ha (HB1.out.trans (hb.mono HB1.out.size));obtain ⟨y2_0,y2_1,y2_2,y2_3,y2_4,y2_5,y2_6,y2_7,y2_8,y2_9⟩:=ks10 hb y1_0 y1_1 y1_2 y1_3 y1_4 y1_5 y1_6 y1_7 y1_8 y1_9;clear hb HX y1_0 y1_1 y1_2 y1_3 y1_4 y1_5 y1_6 y1_7 y1_8 y1_9;cases q:wds.all (aP (Nd.vw f))
  · rw [q] at he;subst he;have HQ1:=Ha q;clear q;go_wp2_with fail;go_ret;exact ⟨aC (by rw [RF.out,HQ0.out,HQ1.out];rfl),HB2.out⟩
  rw [q] at he;subst he;have HQ1:=Ha q;clear q;have HX:=Ha (bK f IH.out G _ asg w2 (aG HG.out HB2.out) (HSA.out.onW HG.out HB2.out));go_wp2_with fail;refine HX.out.mono ?_;rintro e w3 ⟨he,hb⟩;have HB3:=Ha (HB2.out.trans (hb.mono HB2.out.size));obtain ⟨y3_0,y3_1,y3_2,y3_3,y3_4,y3_5,y3_6,y3_7,y3_8,y3_9⟩:=ks10 hb y2_0 y2_1 y2_2 y2_3 y2_4 y2_5 y2_6 y2_7 y2_8 y2_9;clear hb HX y2_0 y2_1 y2_2 y2_3 y2_4 y2_5 y2_6 y2_7 y2_8 y2_9;cases q:asg.all (aP (Nd.vw f))
  · rw [q] at he;subst he;have HQ2:=Ha q;clear q;go_wp2_with fail;go_ret;exact ⟨aC (by rw [RF.out,HQ0.out,HQ1.out,HQ2.out];rfl),HB3.out⟩
  rw [q] at he;subst he;have HQ2:=Ha q;clear q;have HX:=Ha (dE f true true true true false true G w3 _ _ (aG HG.out HB3.out) (HV.out.below HG.out HB3.out));go_wp2_with fail;refine HX.out.mono ?_;rintro e w4 ⟨he,hb⟩;have HB4:=Ha (HB3.out.trans (hb.mono HB3.out.size));obtain ⟨y4_0,y4_1,y4_2,y4_3,y4_4,y4_5,y4_6,y4_7,y4_8,y4_9⟩:=ks10 hb y3_0 y3_1 y3_2 y3_3 y3_4 y3_5 y3_6 y3_7 y3_8 y3_9;clear hb HX y3_0 y3_1 y3_2 y3_3 y3_4 y3_5 y3_6 y3_7 y3_8 y3_9;cases q:aQ true true true true false true s ops asg wds rds ars
  · rw [q] at he;subst he;have HQ3:=Ha q;clear q;go_wp2_with fail;go_ret;exact ⟨aC (by rw [RF.out,HQ0.out,HQ1.out,HQ2.out,HQ3.out];rfl),HB4.out⟩
  rw [q] at he;subst he;have HQ3:=Ha q;clear q;have HX:=Ha (g5 f IH.out 2 2 G w4 _ _ (aG HG.out HB4.out) (HV.out.below HG.out HB4.out));go_wp2_with fail;refine HX.out.mono ?_;rintro e w5 ⟨rfl,hb⟩;have HB5:=Ha (HB4.out.trans (hb.mono HB4.out.size));obtain ⟨y5_0,y5_1,y5_2,y5_3,y5_4,y5_5,y5_6,y5_7,y5_8,y5_9⟩:=ks10 hb y4_0 y4_1 y4_2 y4_3 y4_4 y4_5 y4_6 y4_7 y4_8 y4_9;clear hb HX y4_0 y4_1 y4_2 y4_3 y4_4 y4_5 y4_6 y4_7 y4_8 y4_9;go_wp2_with fail;go_ret;exact ⟨aC (by rw [RF.out,HQ0.out,HQ1.out,HQ2.out,HQ3.out];rfl),HB5.out⟩
theorem wO (f:Nat) (ih:RRt f) (_ih2:dK f) (G:Nat→Prop) (w:World) (vs:List Value) (x:NdF (Nd f)) (hG:∀ k,G k→k<w.heap.size) (hv:NdV (f+1) G w vs x) (hk:x.k=11):
    Calls Tryz.prog 38 #[ag vs] w fun e w'=>e=.returned (.bool (aO (Nd.vw f) x))∧Below w.heap.size w w':=by
  obtain ⟨ky,s,nt,ni,ops,asg,wds,rds,ars,kds⟩:=x;obtain ⟨A4,c4,A5,c5,A6,c6,A7,c7,A8,c8,A9,c9,rfl,hns,hal,hl4,hl5,hl6,hl7,hl8,hl9,hso,hsa,hsw,hsr,hsm,hsk⟩:=NdV.open hv;obtain ⟨HSO,HSA,HSW,HSR,HSM,HSK,HV⟩:=hs7 hso hsa hsw hsr hsm hsk hv;clear hso hsa hsw hsr hsm hsk hv;unfold ag;obtain ⟨W,hW,hbw,hb0⟩:=cpd w (.cells #[.int .i64 ky,.string s,.bool nt,.bool ni,.slice A4 ops.length c4,.slice A5 asg.length c5,.slice A6 wds.length c6,.slice A7 rds.length c7,.slice A8 ars.length c8,.slice A9 kds.length c9] 28);obtain ⟨x0,x1,x2,x3,x4,x5,x6,x7,x8,x9⟩:=c10 hb0;obtain ⟨HGW,HBW,HG,IH⟩:=hs4 (aG hG hbw) hbw hG ih;clear hbw hb0 hG ih;simp only at hk;obtain rfl:=hk;cases nt
  case true=>
    have RF:=Ha (zE (Nd.vw f) s true ni ops asg wds rds ars kds);go_enter Tryz.func38,Tryz.ntmps38;cases ni <;>
      (go_wp2_with fail
       go_ret;exact ⟨aC (by rw [RF.out];rfl),HBW.out⟩)
  cases ni
  case true=>
    have RF:=Ha (zE (Nd.vw f) s false true ops asg wds rds ars kds);go_enter Tryz.func38,Tryz.ntmps38;go_wp2_with fail;go_ret;exact ⟨aC (by rw [RF.out];rfl),HBW.out⟩
  have RF:=Ha (show aO (Nd.vw f) (NdF.mk 11 s false false ops asg wds rds ars kds)=(rds.all (aW (Nd.vw f))&&(wds.all (aP (Nd.vw f))&&(asg.all (aP (Nd.vw f))&&(aQ true true true true false true s ops asg wds rds ars&&(cS (Nd.vw f) 2 2 (NdF.mk 11 s false false ops asg wds rds ars kds)))))) from by rw [zE];rfl);go_enter Tryz.func38,Tryz.ntmps38;have HX:=Ha (cO f IH.out G _ rds W (aG HG.out HBW.out) (HSR.out.onR HG.out HBW.out));go_wp2_with fail;refine HX.out.mono ?_;rintro e w1 ⟨he,hb⟩;have HB1:=Ha (HBW.out.trans (hb.mono HBW.out.size));obtain ⟨y1_0,y1_1,y1_2,y1_3,y1_4,y1_5,y1_6,y1_7,y1_8,y1_9⟩:=ks10 hb x0 x1 x2 x3 x4 x5 x6 x7 x8 x9;clear hb HX;cases q:rds.all (aW (Nd.vw f))
  · rw [q] at he;subst he;have HQ0:=Ha q;clear q;go_wp2_with fail;go_ret;exact ⟨aC (by rw [RF.out,HQ0.out];rfl),HB1.out⟩
  rw [q] at he;subst he;have HQ0:=Ha q;clear q;have HX:=Ha (bK f IH.out G _ wds w1 (aG HG.out HB1.out) (HSW.out.onW HG.out HB1.out));go_wp2_with fail;refine HX.out.mono ?_;rintro e w2 ⟨he,hb⟩;have HB2:=Ha (HB1.out.trans (hb.mono HB1.out.size));obtain ⟨y2_0,y2_1,y2_2,y2_3,y2_4,y2_5,y2_6,y2_7,y2_8,y2_9⟩:=ks10 hb y1_0 y1_1 y1_2 y1_3 y1_4 y1_5 y1_6 y1_7 y1_8 y1_9;clear hb HX y1_0 y1_1 y1_2 y1_3 y1_4 y1_5 y1_6 y1_7 y1_8 y1_9;cases q:wds.all (aP (Nd.vw f))
  · rw [q] at he;subst he;have HQ1:=Ha q;clear q;go_wp2_with fail;go_ret;exact ⟨aC (by rw [RF.out,HQ0.out,HQ1.out];rfl),HB2.out⟩
  rw [q] at he;subst he;have HQ1:=Ha q;clear q;have HX:=Ha (bK f IH.out G _ asg w2 (aG HG.out HB2.out) (HSA.out.onW HG.out HB2.out));go_wp2_with fail;refine HX.out.mono ?_;rintro e w3 ⟨he,hb⟩;have HB3:=Ha (HB2.out.trans (hb.mono HB2.out.size));obtain ⟨y3_0,y3_1,y3_2,y3_3,y3_4,y3_5,y3_6,y3_7,y3_8,y3_9⟩:=ks10 hb y2_0 y2_1 y2_2 y2_3 y2_4 y2_5 y2_6 y2_7 y2_8 y2_9;clear hb HX y2_0 y2_1 y2_2 y2_3 y2_4 y2_5 y2_6 y2_7 y2_8 y2_9;cases q:asg.all (aP (Nd.vw f))
  · rw [q] at he;subst he;have HQ2:=Ha q;clear q;go_wp2_with fail;go_ret;exact ⟨aC (by rw [RF.out,HQ0.out,HQ1.out,HQ2.out];rfl),HB3.out⟩
  rw [q] at he;subst he;have HQ2:=Ha q;clear q;have HX:=Ha (dE f true true true true false true G w3 _ _ (aG HG.out HB3.out) (HV.out.below HG.out HB3.out));go_wp2_with fail;refine HX.out.mono ?_;rintro e w4 ⟨he,hb⟩;have HB4:=Ha (HB3.out.trans (hb.mono HB3.out.size));obtain ⟨y4_0,y4_1,y4_2,y4_3,y4_4,y4_5,y4_6,y4_7,y4_8,y4_9⟩:=ks10 hb y3_0 y3_1 y3_2 y3_3 y3_4 y3_5 y3_6 y3_7 y3_8 y3_9;clear hb HX y3_0 y3_1 y3_2 y3_3 y3_4 y3_5 y3_6 y3_7 y3_8 y3_9;cases q:aQ true true true true false true s ops asg wds rds ars
  · rw [q] at he;subst he;have HQ3:=Ha q;clear q;go_wp2_with fail;go_ret;exact ⟨aC (by rw [RF.out,HQ0.out,HQ1.out,HQ2.out,HQ3.out];rfl),HB4.out⟩
  rw [q] at he;subst he;have HQ3:=Ha q;clear q;have HX:=Ha (g5 f IH.out 2 2 G w4 _ _ (aG HG.out HB4.out) (HV.out.below HG.out HB4.out));go_wp2_with fail;refine HX.out.mono ?_;rintro e w5 ⟨rfl,hb⟩;have HB5:=Ha (HB4.out.trans (hb.mono HB4.out.size));obtain ⟨y5_0,y5_1,y5_2,y5_3,y5_4,y5_5,y5_6,y5_7,y5_8,y5_9⟩:=ks10 hb y4_0 y4_1 y4_2 y4_3 y4_4 y4_5 y4_6 y4_7 y4_8 y4_9;clear hb HX y4_0 y4_1 y4_2 y4_3 y4_4 y4_5 y4_6 y4_7 y4_8 y4_9;go_wp2_with fail;go_ret;exact ⟨aC (by rw [RF.out,HQ0.out,HQ1.out,HQ2.out,HQ3.out];rfl),HB5.out⟩
theorem wQ (f:Nat) (ih:RRt f) (ih2:dK f) (G:Nat→Prop) (w:World) (vs:List Value) (x:NdF (Nd f)) (hG:∀ k,G k→k<w.heap.size) (hv:NdV (f+1) G w vs x) (hk:x.k=12):
    Calls Tryz.prog 38 #[ag vs] w fun e w'=>e=.returned (.bool (aO (Nd.vw f) x))∧Below w.heap.size w w':=by
  obtain ⟨ky,s,nt,ni,ops,asg,wds,rds,ars,kds⟩:=x;obtain ⟨A4,c4,A5,c5,A6,c6,A7,c7,A8,c8,A9,c9,rfl,hns,hal,hl4,hl5,hl6,hl7,hl8,hl9,hso,hsa,hsw,hsr,hsm,hsk⟩:=NdV.open hv;obtain ⟨HSO,HSA,HSW,HSR,HSM,HSK,HV⟩:=hs7 hso hsa hsw hsr hsm hsk hv;clear hso hsa hsw hsr hsm hsk hv;unfold ag;obtain ⟨W,hW,hbw,hb0⟩:=cpd w (.cells #[.int .i64 ky,.string s,.bool nt,.bool ni,.slice A4 ops.length c4,.slice A5 asg.length c5,.slice A6 wds.length c6,.slice A7 rds.length c7,.slice A8 ars.length c8,.slice A9 kds.length c9] 28);obtain ⟨x0,x1,x2,x3,x4,x5,x6,x7,x8,x9⟩:=c10 hb0;obtain ⟨HGW,HBW,HG,IH,IH2⟩:=hs5 (aG hG hbw) hbw hG ih ih2;clear hbw hb0 hG ih ih2;simp only at hk;obtain rfl:=hk;cases nt
  case true=>
    have RF:=Ha (zF (Nd.vw f) s true ni ops asg wds rds ars kds);go_enter Tryz.func38,Tryz.ntmps38;cases ni <;>
      (go_wp2_with fail
       go_ret;exact ⟨aC (by rw [RF.out];rfl),HBW.out⟩)
  cases ni
  case true=>
    have RF:=Ha (zF (Nd.vw f) s false true ops asg wds rds ars kds);go_enter Tryz.func38,Tryz.ntmps38;go_wp2_with fail;go_ret;exact ⟨aC (by rw [RF.out];rfl),HBW.out⟩
  have RF:=Ha (show aO (Nd.vw f) (NdF.mk 12 s false false ops asg wds rds ars kds)=(rds.all (aW (Nd.vw f))&&(wds.all (aP (Nd.vw f))&&(asg.all (aP (Nd.vw f))&&(aQ false true true true true true s ops asg wds rds ars&&(jF (Nd.vw f) (NdF.mk 12 s false false ops asg wds rds ars kds)))))) from by rw [zF];rfl);go_enter Tryz.func38,Tryz.ntmps38;have HX:=Ha (cO f IH.out G _ rds W (aG HG.out HBW.out) (HSR.out.onR HG.out HBW.out));go_wp2_with fail;refine HX.out.mono ?_;rintro e w1 ⟨he,hb⟩;have HB1:=Ha (HBW.out.trans (hb.mono HBW.out.size));obtain ⟨y1_0,y1_1,y1_2,y1_3,y1_4,y1_5,y1_6,y1_7,y1_8,y1_9⟩:=ks10 hb x0 x1 x2 x3 x4 x5 x6 x7 x8 x9;clear hb HX;cases q:rds.all (aW (Nd.vw f))
  · rw [q] at he;subst he;have HQ0:=Ha q;clear q;go_wp2_with fail;go_ret;exact ⟨aC (by rw [RF.out,HQ0.out];rfl),HB1.out⟩
  rw [q] at he;subst he;have HQ0:=Ha q;clear q;have HX:=Ha (bK f IH.out G _ wds w1 (aG HG.out HB1.out) (HSW.out.onW HG.out HB1.out));go_wp2_with fail;refine HX.out.mono ?_;rintro e w2 ⟨he,hb⟩;have HB2:=Ha (HB1.out.trans (hb.mono HB1.out.size));obtain ⟨y2_0,y2_1,y2_2,y2_3,y2_4,y2_5,y2_6,y2_7,y2_8,y2_9⟩:=ks10 hb y1_0 y1_1 y1_2 y1_3 y1_4 y1_5 y1_6 y1_7 y1_8 y1_9;clear hb HX y1_0 y1_1 y1_2 y1_3 y1_4 y1_5 y1_6 y1_7 y1_8 y1_9;cases q:wds.all (aP (Nd.vw f))
  · rw [q] at he;subst he;have HQ1:=Ha q;clear q;go_wp2_with fail;go_ret;exact ⟨aC (by rw [RF.out,HQ0.out,HQ1.out];rfl),HB2.out⟩
  rw [q] at he;subst he;have HQ1:=Ha q;clear q;have HX:=Ha (bK f IH.out G _ asg w2 (aG HG.out HB2.out) (HSA.out.onW HG.out HB2.out));go_wp2_with fail;refine HX.out.mono ?_;rintro e w3 ⟨he,hb⟩;have HB3:=Ha (HB2.out.trans (hb.mono HB2.out.size));obtain ⟨y3_0,y3_1,y3_2,y3_3,y3_4,y3_5,y3_6,y3_7,y3_8,y3_9⟩:=ks10 hb y2_0 y2_1 y2_2 y2_3 y2_4 y2_5 y2_6 y2_7 y2_8 y2_9;clear hb HX y2_0 y2_1 y2_2 y2_3 y2_4 y2_5 y2_6 y2_7 y2_8 y2_9;cases q:asg.all (aP (Nd.vw f))
  · rw [q] at he;subst he;have HQ2:=Ha q;clear q;go_wp2_with fail;go_ret;exact ⟨aC (by rw [RF.out,HQ0.out,HQ1.out,HQ2.out];rfl),HB3.out⟩
  rw [q] at he;subst he;have HQ2:=Ha q;clear q;have HX:=Ha (dE f false true true true true true G w3 _ _ (aG HG.out HB3.out) (HV.out.below HG.out HB3.out));go_wp2_with fail;refine HX.out.mono ?_;rintro e w4 ⟨he,hb⟩;have HB4:=Ha (HB3.out.trans (hb.mono HB3.out.size));obtain ⟨y4_0,y4_1,y4_2,y4_3,y4_4,y4_5,y4_6,y4_7,y4_8,y4_9⟩:=ks10 hb y3_0 y3_1 y3_2 y3_3 y3_4 y3_5 y3_6 y3_7 y3_8 y3_9;clear hb HX y3_0 y3_1 y3_2 y3_3 y3_4 y3_5 y3_6 y3_7 y3_8 y3_9;cases q:aQ false true true true true true s ops asg wds rds ars
  · rw [q] at he;subst he;have HQ3:=Ha q;clear q;go_wp2_with fail;go_ret;exact ⟨aC (by rw [RF.out,HQ0.out,HQ1.out,HQ2.out,HQ3.out];rfl),HB4.out⟩
  rw [q] at he;subst he;have HQ3:=Ha q;clear q;have HX:=Ha (pI s w4 (by omega));go_wp2_with fail;refine HX.out.mono ?_;rintro e w5 ⟨he,hb⟩;have HB5:=Ha (HB4.out.trans (hb.mono HB4.out.size));obtain ⟨y5_0,y5_1,y5_2,y5_3,y5_4,y5_5,y5_6,y5_7,y5_8,y5_9⟩:=ks10 hb y4_0 y4_1 y4_2 y4_3 y4_4 y4_5 y4_6 y4_7 y4_8 y4_9;clear hb HX y4_0 y4_1 y4_2 y4_3 y4_4 y4_5 y4_6 y4_7 y4_8 y4_9;cases q:Chr.name s.toList
  · rw [q] at he;subst he;have HN1:=Ha q;clear q;go_wp2_with fail;go_ret;exact ⟨aC (by rw [RF.out,HQ0.out,HQ1.out,HQ2.out,HQ3.out,eG,HN1.out];rfl),HB5.out⟩
  rw [q] at he;subst he;have HN1:=Ha q;clear q;have HX:=Ha (CL s w5);go_wp2_with fail;refine HX.out.mono ?_;rintro e w6 ⟨rfl,hb⟩;have HB6:=Ha (HB5.out.trans (hb.mono HB5.out.size));obtain ⟨y6_0,y6_1,y6_2,y6_3,y6_4,y6_5,y6_6,y6_7,y6_8,y6_9⟩:=ks10 hb y5_0 y5_1 y5_2 y5_3 y5_4 y5_5 y5_6 y5_7 y5_8 y5_9;clear hb HX y5_0 y5_1 y5_2 y5_3 y5_4 y5_5 y5_6 y5_7 y5_8 y5_9;cases q:(rsv s.toList==0)
  · have HN2:=Ha q;go_wp2_with fail;go_ret;exact ⟨aC (by rw [RF.out,HQ0.out,HQ1.out,HQ2.out,HQ3.out,eG,HN1.out,HN2.out];rfl),HB6.out⟩
  have HN2:=Ha q;cases kds with
  | nil=>
    go_wp2_with fail;go_ret;exact ⟨aC (by rw [RF.out,HQ0.out,HQ1.out,HQ2.out,HQ3.out,eG,HN1.out,HN2.out];rfl),HB6.out⟩
  | cons x r=>
    cases r with
    | cons x2 r=>
      have hm1:(((x::x2::r).length:Int)==1)=false:=beq_false_of_ne (by simp only [gG];omega);have hm2:((x::x2::r).length==1)=false:=beq_false_of_ne (by simp only [gG];omega);generalize (x::x2::r).length=m at *;go_wp2_with fail;go_ret;exact ⟨aC (by rw [RF.out,HQ0.out,HQ1.out,HQ2.out,HQ3.out,eG,HN1.out,HN2.out];rfl),HB6.out⟩
    | nil=>
      obtain ⟨b,off,kx,sx,ntx,nix,B4,m4,d4,B5,m5,d5,B6,m6,d6,B7,m7,d7,B8,m8,d8,B9,m9,d9,rfl,⟨z0,z1,z2,z3,z4,z5,z6,z7,z8,z9⟩,hnx⟩:=aV.node0 (HSK.out.onN HG.out HB6.out);have HKD:=Ha (NdV.kind hnx);have HX3:=Ha (IH2.out G w6 _ x (aG HG.out HB6.out) hnx);simp only [gG,gH,Nat.zero_add] at y6_9;clear hnx;by_cases h5:5≤kx
      case neg=>
        have HD:=Ha (decide_eq_false h5);go_wp2_with fail;go_ret;exact ⟨aC (by rw [RF.out,HQ0.out,HQ1.out,HQ2.out,HQ3.out,fJ,HN1.out,HN2.out,HKD.out,HD.out];rfl),HB6.out⟩
      have HD:=Ha (decide_eq_true h5);by_cases h11:kx≤11
      case neg=>
        have HD2:=Ha (decide_eq_false h11);go_wp2_with fail;go_ret;exact ⟨aC (by rw [RF.out,HQ0.out,HQ1.out,HQ2.out,HQ3.out,fJ,HN1.out,HN2.out,HKD.out,HD.out,HD2.out];rfl),HB6.out⟩
      have HD2:=Ha (decide_eq_true h11);go_wp2_with fail;refine HX3.out.mono ?_;rintro e w7 ⟨rfl,hb⟩;have HB7:=Ha (HB6.out.trans (hb.mono HB6.out.size));clear hb z0 z1 z2 z3 z4 z5 z6 z7 z8 z9 y6_0 y6_1 y6_2 y6_3 y6_4 y6_5 y6_6 y6_7 y6_8 y6_9;go_wp2_with fail;go_ret;exact ⟨aC (by rw [RF.out,HQ0.out,HQ1.out,HQ2.out,HQ3.out,fJ,HN1.out,HN2.out,HKD.out,HD.out,HD2.out];rfl),HB7.out⟩
end Go.Proofs.YtjpopekmbmcggaaGreatDoor
