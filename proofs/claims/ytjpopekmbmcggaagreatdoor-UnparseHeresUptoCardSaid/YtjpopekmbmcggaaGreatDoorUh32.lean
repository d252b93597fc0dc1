/- Towards unparseHeres_card. -/
import Derived.Test.YtjpopekmbmcggaaGreatDoorUh30
import Derived.Test.YtjpopekmbmcggaaGreatDoorUh31
import Derived.Test.YtjpopekmbmcggaaGreatDoorUh26
set_option maxRecDepth 100000
set_option maxHeartbeats 16000000
namespace Go.Proofs.YtjpopekmbmcggaaGreatDoor
open Go.RowKit
theorem B1 (f:Nat) (ih:PRt f) (ih2:eQ f) (ih3:POn f) (G:Nat→Prop) (w:World) (vs:List Value) (x:NdF (Nd f)) (hG:∀ k,G k→k<w.heap.size) (ht:cC w) (hv:NdV (f+1) G w vs x) (hk:x.k=1∨x.k=2∨x.k=3):
  Calls Tryz.prog 37 #[ag vs] w fun e w'=>e=.returned (.bool (aO (Nd.vw f) x))∧Below w.heap.size w w':=by
 obtain ⟨ky,s,nt,ni,ops,asg,wds,rds,ars,kds⟩:=x;obtain ⟨A4,c4,A5,c5,A6,c6,A7,c7,A8,c8,A9,c9,rfl,hns,hal,hl4,hl5,hl6,hl7,hl8,hl9,hso,hsa,hsw,hsr,hsm,hsk⟩:=NdV.open hv;obtain ⟨HSO,HSA,HSW,HSR,HSM,HSK,HV⟩:=hs7 hso hsa hsw hsr hsm hsk hv;clear hso hsa hsw hsr hsm hsk hv;unfold ag;have hbw:Below w.heap.size w ((w.alloc (.cells #[.int .i64 ky,.string s,.bool nt,.bool ni,.slice A4 ops.length c4,.slice A5 asg.length c5,.slice A6 wds.length c6,.slice A7 rds.length c7,.slice A8 ars.length c8,.slice A9 kds.length c9] 28)).alloc (.cells #[.func (.func 76) #[] #[.pointer (some ⟨w.heap.size,0,none⟩)]] 36)):=((Below.refl _ _).alloc (Nat.le_refl _) _).alloc (by simp) _;obtain ⟨hb0,hb1⟩:=dQ w (.cells #[.int .i64 ky,.string s,.bool nt,.bool ni,.slice A4 ops.length c4,.slice A5 asg.length c5,.slice A6 wds.length c6,.slice A7 rds.length c7,.slice A8 ars.length c8,.slice A9 kds.length c9] 28) (.cells #[.func (.func 76) #[] #[.pointer (some ⟨w.heap.size,0,none⟩)]] 36);generalize hW:(w.alloc (.cells #[.int .i64 ky,.string s,.bool nt,.bool ni,.slice A4 ops.length c4,.slice A5 asg.length c5,.slice A6 wds.length c6,.slice A7 rds.length c7,.slice A8 ars.length c8,.slice A9 kds.length c9] 28)).alloc (.cells #[.func (.func 76) #[] #[.pointer (some ⟨w.heap.size,0,none⟩)]] 36)=W at *;obtain ⟨x0,x1,x2,x3,x4,x5,x6,x7,x8,x9⟩:=c10 hb0;obtain ⟨HGW,HBW,HG,HT⟩:=hs4 (aG hG hbw) hbw hG ht;have z0:=dD hb1;obtain ⟨HBOX,HC0,IH,IH2,IH3⟩:=hs5 (bI hb0) (Below.refl W.heap.size W) ih ih2 ih3;clear hbw hb0 hb1 hG ht ih ih2 ih3;simp only at hk;rcases hk with rfl | rfl | rfl
 ·have RF:=Ha (show aO (Nd.vw f) (NdF.mk 1 s nt ni ops asg wds rds ars kds)=(aR (Nd.vw f) ⟨false,true,false,false,false,false,true⟩ (NdF.mk 1 s nt ni ops asg wds rds ars kds)&&(bQ (Nd.vw f) 1 2 (NdF.mk 1 s nt ni ops asg wds rds ars kds)&&eV (kds.length) (NdF.mk 1 s nt ni ops asg wds rds ars kds))) from rfl);have hw3:Below W.heap.size W (W.alloc (.cells #[.func (.func 78) #[] #[.pointer (some ⟨w.heap.size,0,none⟩)],.func (.func 80) #[] #[.pointer (some ⟨w.heap.size,0,none⟩)],.func (.func 82) #[] #[.pointer (some ⟨w.heap.size,0,none⟩)]] 36)):=(Below.refl _ _).alloc (Nat.le_refl _) _;have hc3:=aN W (.cells #[.func (.func 78) #[] #[.pointer (some ⟨w.heap.size,0,none⟩)],.func (.func 80) #[] #[.pointer (some ⟨w.heap.size,0,none⟩)],.func (.func 82) #[] #[.pointer (some ⟨w.heap.size,0,none⟩)]] 36);have HW3:=Ha hw3;have HBW3:=Ha (HBW.out.trans (hw3.mono HBW.out.size));have HX:=Ha (sC [(78,#[.pointer (some ⟨w.heap.size,0,none⟩)],aR (Nd.vw f) ⟨false,true,false,false,false,false,true⟩ (NdF.mk 1 s nt ni ops asg wds rds ars kds)),(80,#[.pointer (some ⟨w.heap.size,0,none⟩)],bQ (Nd.vw f) 1 2 (NdF.mk 1 s nt ni ops asg wds rds ars kds)),(82,#[.pointer (some ⟨w.heap.size,0,none⟩)],eV (kds.length) (NdF.mk 1 s nt ni ops asg wds rds ars kds))] W.heap.size 3 (W.alloc (.cells #[.func (.func 78) #[] #[.pointer (some ⟨w.heap.size,0,none⟩)],.func (.func 80) #[] #[.pointer (some ⟨w.heap.size,0,none⟩)],.func (.func 82) #[] #[.pointer (some ⟨w.heap.size,0,none⟩)]] 36)) (by simp)
   (fun k h=>match k,h with
    | 0,_=>oX
    | 1,_=>oY
    | 2,_=>oZ)
   (fun k h=>match k,h with
    | 0,_=>bI hc3 _ (Below.refl _ _) 0 _ rfl
    | 1,_=>bI hc3 _ (Below.refl _ _) 1 _ rfl
    | 2,_=>bI hc3 _ (Below.refl _ _) 2 _ rfl)
   (fun k h hq X hX=>match k,h,hq,X,hX with
    | 0,_,_,X,hX=>zG f IH.out G X w.heap.size _ s nt ni ops asg wds rds ars kds _ (aG HG.out (HBW3.out.trans (hX.mono HBW3.out.size))) (HT.out.below (HBW3.out.trans (hX.mono HBW3.out.size))) (HV.out.below HG.out (HBW3.out.trans (hX.mono HBW3.out.size))) (HBOX.out X (HW3.out.trans (hX.mono HW3.out.size)))
    | 1,_,_,X,hX=>zH f IH2.out G X w.heap.size _ s nt ni ops asg wds rds ars kds _ (aG HG.out (HBW3.out.trans (hX.mono HBW3.out.size))) (HT.out.below (HBW3.out.trans (hX.mono HBW3.out.size))) (HV.out.below HG.out (HBW3.out.trans (hX.mono HBW3.out.size))) (HBOX.out X (HW3.out.trans (hX.mono HW3.out.size)))
    | 2,_,_,X,hX=>zI f G X w.heap.size _ s nt ni ops asg wds rds ars kds _ (aG HG.out (HBW3.out.trans (hX.mono HBW3.out.size))) (HV.out.below HG.out (HBW3.out.trans (hX.mono HBW3.out.size))) (HBOX.out X (HW3.out.trans (hX.mono HW3.out.size)))))
  clear hw3 hc3;go_enter Tryz.func37,Tryz.ntmps37;go_wp2_with fail;refine HX.out.mono ?_;rintro e w1 ⟨rfl,hb⟩;have HB1:=Ha (HBW3.out.trans (hb.mono HBW3.out.size));clear hb HX;go_wp2_with fail;go_ret;exact ⟨aC (by rw [RF.out]),HB1.out⟩
 ·have RF:=Ha (show aO (Nd.vw f) (NdF.mk 2 s nt ni ops asg wds rds ars kds)=(aR (Nd.vw f) ⟨false,true,false,false,false,false,true⟩ (NdF.mk 2 s nt ni ops asg wds rds ars kds)&&(bQ (Nd.vw f) 2 3 (NdF.mk 2 s nt ni ops asg wds rds ars kds)&&eV (kds.length-1) (NdF.mk 2 s nt ni ops asg wds rds ars kds))) from rfl);have hw3:Below W.heap.size W (W.alloc (.cells #[.func (.func 84) #[] #[.pointer (some ⟨w.heap.size,0,none⟩)],.func (.func 85) #[] #[.pointer (some ⟨w.heap.size,0,none⟩)],.func (.func 86) #[] #[.pointer (some ⟨w.heap.size,0,none⟩)]] 36)):=(Below.refl _ _).alloc (Nat.le_refl _) _;have hc3:=aN W (.cells #[.func (.func 84) #[] #[.pointer (some ⟨w.heap.size,0,none⟩)],.func (.func 85) #[] #[.pointer (some ⟨w.heap.size,0,none⟩)],.func (.func 86) #[] #[.pointer (some ⟨w.heap.size,0,none⟩)]] 36);have HW3:=Ha hw3;have HBW3:=Ha (HBW.out.trans (hw3.mono HBW.out.size));have HX:=Ha (sC [(84,#[.pointer (some ⟨w.heap.size,0,none⟩)],aR (Nd.vw f) ⟨false,true,false,false,false,false,true⟩ (NdF.mk 2 s nt ni ops asg wds rds ars kds)),(85,#[.pointer (some ⟨w.heap.size,0,none⟩)],bQ (Nd.vw f) 2 3 (NdF.mk 2 s nt ni ops asg wds rds ars kds)),(86,#[.pointer (some ⟨w.heap.size,0,none⟩)],eV (kds.length-1) (NdF.mk 2 s nt ni ops asg wds rds ars kds))] W.heap.size 3 (W.alloc (.cells #[.func (.func 84) #[] #[.pointer (some ⟨w.heap.size,0,none⟩)],.func (.func 85) #[] #[.pointer (some ⟨w.heap.size,0,none⟩)],.func (.func 86) #[] #[.pointer (some ⟨w.heap.size,0,none⟩)]] 36)) (by simp)
   (fun k h=>match k,h with
    | 0,_=>o6
    | 1,_=>o7
    | 2,_=>o8)
   (fun k h=>match k,h with
    | 0,_=>bI hc3 _ (Below.refl _ _) 0 _ rfl
    | 1,_=>bI hc3 _ (Below.refl _ _) 1 _ rfl
    | 2,_=>bI hc3 _ (Below.refl _ _) 2 _ rfl)
   (fun k h hq X hX=>match k,h,hq,X,hX with
    | 0,_,_,X,hX=>zJ f IH.out G X w.heap.size _ s nt ni ops asg wds rds ars kds _ (aG HG.out (HBW3.out.trans (hX.mono HBW3.out.size))) (HT.out.below (HBW3.out.trans (hX.mono HBW3.out.size))) (HV.out.below HG.out (HBW3.out.trans (hX.mono HBW3.out.size))) (HBOX.out X (HW3.out.trans (hX.mono HW3.out.size)))
    | 1,_,_,X,hX=>zK f IH2.out G X w.heap.size _ s nt ni ops asg wds rds ars kds _ (aG HG.out (HBW3.out.trans (hX.mono HBW3.out.size))) (HT.out.below (HBW3.out.trans (hX.mono HBW3.out.size))) (HV.out.below HG.out (HBW3.out.trans (hX.mono HBW3.out.size))) (HBOX.out X (HW3.out.trans (hX.mono HW3.out.size)))
    | 2,_,hq,X,hX=>by
     have hk:bQ (Nd.vw f) 2 3 (NdF.mk 2 s nt ni ops asg wds rds ars kds)=true:=by
      have h:=hq;simp only [List.take,List.all,Bool.and_eq_true] at h;exact h.2.1
     have h2:1≤kds.length:=by
      simp only [bQ,Bool.and_eq_true,decide_eq_true_eq] at hk;omega
     exact zL f G X w.heap.size _ s nt ni ops asg wds rds ars kds _ (aG HG.out (HBW3.out.trans (hX.mono HBW3.out.size))) (HV.out.below HG.out (HBW3.out.trans (hX.mono HBW3.out.size))) (HBOX.out X (HW3.out.trans (hX.mono HW3.out.size))) h2))
  clear hw3 hc3;go_enter Tryz.func37,Tryz.ntmps37;go_wp2_with fail;refine HX.out.mono ?_;rintro e w1 ⟨rfl,hb⟩;have HB1:=Ha (HBW3.out.trans (hb.mono HBW3.out.size));clear hb HX;go_wp2_with fail;go_ret;exact ⟨aC (by rw [RF.out]),HB1.out⟩
 ·have RF:=Ha (show aO (Nd.vw f) (NdF.mk 3 s nt ni ops asg wds rds ars kds)=(aR (Nd.vw f) ⟨false,false,false,false,false,false,true⟩ (NdF.mk 3 s nt ni ops asg wds rds ars kds)&&(bQ (Nd.vw f) 1 4 (NdF.mk 3 s nt ni ops asg wds rds ars kds)&&(nt || !(kds.length==1)))) from rfl);have hw3:Below W.heap.size W (W.alloc (.cells #[.func (.func 87) #[] #[.pointer (some ⟨w.heap.size,0,none⟩)],.func (.func 88) #[] #[.pointer (some ⟨w.heap.size,0,none⟩)],.func (.func 89) #[] #[.pointer (some ⟨w.heap.size,0,none⟩),.pointer (some ⟨w.heap.size+1,0,none⟩)]] 36)):=(Below.refl _ _).alloc (Nat.le_refl _) _;have hc3:=aN W (.cells #[.func (.func 87) #[] #[.pointer (some ⟨w.heap.size,0,none⟩)],.func (.func 88) #[] #[.pointer (some ⟨w.heap.size,0,none⟩)],.func (.func 89) #[] #[.pointer (some ⟨w.heap.size,0,none⟩),.pointer (some ⟨w.heap.size+1,0,none⟩)]] 36);have HW3:=Ha hw3;have HBW3:=Ha (HBW.out.trans (hw3.mono HBW.out.size));have HX:=Ha (sC [(87,#[.pointer (some ⟨w.heap.size,0,none⟩)],aR (Nd.vw f) ⟨false,false,false,false,false,false,true⟩ (NdF.mk 3 s nt ni ops asg wds rds ars kds)),(88,#[.pointer (some ⟨w.heap.size,0,none⟩)],bQ (Nd.vw f) 1 4 (NdF.mk 3 s nt ni ops asg wds rds ars kds)),(89,#[.pointer (some ⟨w.heap.size,0,none⟩),.pointer (some ⟨w.heap.size+1,0,none⟩)],(nt || !(kds.length==1)))] W.heap.size 3 (W.alloc (.cells #[.func (.func 87) #[] #[.pointer (some ⟨w.heap.size,0,none⟩)],.func (.func 88) #[] #[.pointer (some ⟨w.heap.size,0,none⟩)],.func (.func 89) #[] #[.pointer (some ⟨w.heap.size,0,none⟩),.pointer (some ⟨w.heap.size+1,0,none⟩)]] 36)) (by simp)
   (fun k h=>match k,h with
    | 0,_=>pA
    | 1,_=>pB
    | 2,_=>nS)
   (fun k h=>match k,h with
    | 0,_=>bI hc3 _ (Below.refl _ _) 0 _ rfl
    | 1,_=>bI hc3 _ (Below.refl _ _) 1 _ rfl
    | 2,_=>bI hc3 _ (Below.refl _ _) 2 _ rfl)
   (fun k h hq X hX=>match k,h,hq,X,hX with
    | 0,_,_,X,hX=>zM f IH.out G X w.heap.size _ s nt ni ops asg wds rds ars kds _ (aG HG.out (HBW3.out.trans (hX.mono HBW3.out.size))) (HT.out.below (HBW3.out.trans (hX.mono HBW3.out.size))) (HV.out.below HG.out (HBW3.out.trans (hX.mono HBW3.out.size))) (HBOX.out X (HW3.out.trans (hX.mono HW3.out.size)))
    | 1,_,_,X,hX=>zN f IH2.out G X w.heap.size _ s nt ni ops asg wds rds ars kds _ (aG HG.out (HBW3.out.trans (hX.mono HBW3.out.size))) (HT.out.below (HBW3.out.trans (hX.mono HBW3.out.size))) (HV.out.below HG.out (HBW3.out.trans (hX.mono HBW3.out.size))) (HBOX.out X (HW3.out.trans (hX.mono HW3.out.size)))
    | 2,_,_,X,hX=>wK f G X w.heap.size (w.heap.size+1) (aA z0 (HW3.out.trans (hX.mono HW3.out.size))) _ s nt ni ops asg wds rds ars kds _ (aG HG.out (HBW3.out.trans (hX.mono HBW3.out.size))) (HV.out.below HG.out (HBW3.out.trans (hX.mono HBW3.out.size))) (HBOX.out X (HW3.out.trans (hX.mono HW3.out.size)))))
  clear hw3 hc3;go_enter Tryz.func37,Tryz.ntmps37;go_wp2_with fail;refine HX.out.mono ?_;rintro e w1 ⟨rfl,hb⟩;have HB1:=Ha (HBW3.out.trans (hb.mono HBW3.out.size));clear hb HX;go_wp2_with fail;go_ret;exact ⟨aC (by rw [RF.out]),HB1.out⟩
theorem B3 (f:Nat) (ih:PRt f) (ih2:eQ f) (ih3:POn f) (G:Nat→Prop) (w:World) (vs:List Value) (x:NdF (Nd f)) (hG:∀ k,G k→k<w.heap.size) (ht:cC w) (hv:NdV (f+1) G w vs x) (hk:x.k=4∨x.k=5∨x.k=6∨x.k=7):
  Calls Tryz.prog 37 #[ag vs] w fun e w'=>e=.returned (.bool (aO (Nd.vw f) x))∧Below w.heap.size w w':=by
 obtain ⟨ky,s,nt,ni,ops,asg,wds,rds,ars,kds⟩:=x;obtain ⟨A4,c4,A5,c5,A6,c6,A7,c7,A8,c8,A9,c9,rfl,hns,hal,hl4,hl5,hl6,hl7,hl8,hl9,hso,hsa,hsw,hsr,hsm,hsk⟩:=NdV.open hv;obtain ⟨HSO,HSA,HSW,HSR,HSM,HSK,HV⟩:=hs7 hso hsa hsw hsr hsm hsk hv;clear hso hsa hsw hsr hsm hsk hv;unfold ag;have hbw:Below w.heap.size w ((w.alloc (.cells #[.int .i64 ky,.string s,.bool nt,.bool ni,.slice A4 ops.length c4,.slice A5 asg.length c5,.slice A6 wds.length c6,.slice A7 rds.length c7,.slice A8 ars.length c8,.slice A9 kds.length c9] 28)).alloc (.cells #[.func (.func 76) #[] #[.pointer (some ⟨w.heap.size,0,none⟩)]] 36)):=((Below.refl _ _).alloc (Nat.le_refl _) _).alloc (by simp) _;obtain ⟨hb0,hb1⟩:=dQ w (.cells #[.int .i64 ky,.string s,.bool nt,.bool ni,.slice A4 ops.length c4,.slice A5 asg.length c5,.slice A6 wds.length c6,.slice A7 rds.length c7,.slice A8 ars.length c8,.slice A9 kds.length c9] 28) (.cells #[.func (.func 76) #[] #[.pointer (some ⟨w.heap.size,0,none⟩)]] 36);generalize hW:(w.alloc (.cells #[.int .i64 ky,.string s,.bool nt,.bool ni,.slice A4 ops.length c4,.slice A5 asg.length c5,.slice A6 wds.length c6,.slice A7 rds.length c7,.slice A8 ars.length c8,.slice A9 kds.length c9] 28)).alloc (.cells #[.func (.func 76) #[] #[.pointer (some ⟨w.heap.size,0,none⟩)]] 36)=W at *;obtain ⟨x0,x1,x2,x3,x4,x5,x6,x7,x8,x9⟩:=c10 hb0;obtain ⟨HGW,HBW,HG,HT⟩:=hs4 (aG hG hbw) hbw hG ht;have z0:=dD hb1;obtain ⟨HBOX,HC0,IH,IH2,IH3⟩:=hs5 (bI hb0) (Below.refl W.heap.size W) ih ih2 ih3;clear hbw hb0 hb1 hG ht ih ih2 ih3;simp only at hk;rcases hk with rfl | rfl | rfl | rfl
 ·have RF:=Ha (show aO (Nd.vw f) (NdF.mk 4 s nt ni ops asg wds rds ars kds)=(aR (Nd.vw f) ⟨false,false,true,true,true,false,false⟩ (NdF.mk 4 s nt ni ops asg wds rds ars kds)&&dU (NdF.mk 4 s nt ni ops asg wds rds ars kds)) from rfl);go_enter Tryz.func37,Tryz.ntmps37;have HX:=Ha (eU f IH.out ⟨false,false,true,true,true,false,false⟩ G _ _ _ (aG HG.out HBW.out) (HT.out.below HBW.out) (HV.out.below HG.out HBW.out));go_wp2_with fail;refine HX.out.mono ?_;rintro e w1 ⟨he,hb⟩;have HB1:=Ha (HBW.out.trans (hb.mono HBW.out.size));have HC1:=Ha (HC0.out.trans (hb.mono HC0.out.size));obtain ⟨y1_0,y1_1,y1_2,y1_3,y1_4,y1_5,y1_6,y1_7,y1_8,y1_9,y1_z⟩:=ks11 HC1.out x0 x1 x2 x3 x4 x5 x6 x7 x8 x9 z0;clear hb HX;cases q:aR (Nd.vw f) ⟨false,false,true,true,true,false,false⟩ (NdF.mk 4 s nt ni ops asg wds rds ars kds)
  ·rw [q] at he;subst he;have HQ0:=Ha q;clear q;go_wp2_with fail;go_ret;exact ⟨aC (by rw [RF.out,HQ0.out];rfl),HB1.out⟩
  rw [q] at he;subst he;have HQ0:=Ha q;clear q;have HX:=Ha (AF f G _ _ _ (aG HG.out HB1.out) (HT.out.below HB1.out) (HV.out.below HG.out HB1.out));go_wp2_with fail;refine HX.out.mono ?_;rintro e w2 ⟨rfl,hb⟩;have HB2:=Ha (HB1.out.trans (hb.mono HB1.out.size));have HC2:=Ha (HC1.out.trans (hb.mono HC1.out.size));obtain ⟨y2_0,y2_1,y2_2,y2_3,y2_4,y2_5,y2_6,y2_7,y2_8,y2_9,y2_z⟩:=ks11 HC2.out x0 x1 x2 x3 x4 x5 x6 x7 x8 x9 z0;clear hb HX y1_0 y1_1 y1_2 y1_3 y1_4 y1_5 y1_6 y1_7 y1_8 y1_9 y1_z;go_wp2_with fail;go_ret;exact ⟨aC (by rw [RF.out,HQ0.out];rfl),HB2.out⟩
 ·have RF:=Ha (show aO (Nd.vw f) (NdF.mk 5 s nt ni ops asg wds rds ars kds)=(aR (Nd.vw f) ⟨false,false,false,false,true,false,true⟩ (NdF.mk 5 s nt ni ops asg wds rds ars kds)&&((kds.length==1)&&cD (Nd.vw f) 1 (NdF.mk 5 s nt ni ops asg wds rds ars kds))) from rfl);go_enter Tryz.func37,Tryz.ntmps37;have HX:=Ha (eU f IH.out ⟨false,false,false,false,true,false,true⟩ G _ _ _ (aG HG.out HBW.out) (HT.out.below HBW.out) (HV.out.below HG.out HBW.out));go_wp2_with fail;refine HX.out.mono ?_;rintro e w1 ⟨he,hb⟩;have HB1:=Ha (HBW.out.trans (hb.mono HBW.out.size));have HC1:=Ha (HC0.out.trans (hb.mono HC0.out.size));obtain ⟨y1_0,y1_1,y1_2,y1_3,y1_4,y1_5,y1_6,y1_7,y1_8,y1_9,y1_z⟩:=ks11 HC1.out x0 x1 x2 x3 x4 x5 x6 x7 x8 x9 z0;clear hb HX;cases q:aR (Nd.vw f) ⟨false,false,false,false,true,false,true⟩ (NdF.mk 5 s nt ni ops asg wds rds ars kds)
  ·rw [q] at he;subst he;have HQ0:=Ha q;clear q;go_wp2_with fail;go_ret;exact ⟨aC (by rw [RF.out,HQ0.out];rfl),HB1.out⟩
  rw [q] at he;subst he;have HQ0:=Ha q;clear q;have HC:=HC1;have HX:=Ha (kE f G _ w.heap.size _ s nt ni ops asg wds rds ars kds _ (aG HG.out HB1.out) (HV.out.below HG.out HB1.out) (HBOX.out _ HC.out));go_wp2_with fail;refine HX.out.mono ?_;rintro e w2 ⟨he,hb⟩;have HB2:=Ha (HB1.out.trans (hb.mono HB1.out.size));have HC2:=Ha (HC1.out.trans (hb.mono HC1.out.size));obtain ⟨y2_0,y2_1,y2_2,y2_3,y2_4,y2_5,y2_6,y2_7,y2_8,y2_9,y2_z⟩:=ks11 HC2.out x0 x1 x2 x3 x4 x5 x6 x7 x8 x9 z0;clear hb HX HC y1_0 y1_1 y1_2 y1_3 y1_4 y1_5 y1_6 y1_7 y1_8 y1_9 y1_z;cases q:(kds.length==1)
  ·rw [q] at he;subst he;have HQ1:=Ha q;clear q;go_wp2_with fail;go_ret;exact ⟨aC (by rw [RF.out,HQ0.out,HQ1.out];rfl),HB2.out⟩
  rw [q] at he;subst he;have HQ1:=Ha q;clear q;have HX:=Ha (i4 f IH.out 1 G _ _ _ (aG HG.out HB2.out) (HT.out.below HB2.out) (HV.out.below HG.out HB2.out));go_wp2_with fail;refine HX.out.mono ?_;rintro e w3 ⟨rfl,hb⟩;have HB3:=Ha (HB2.out.trans (hb.mono HB2.out.size));have HC3:=Ha (HC2.out.trans (hb.mono HC2.out.size));obtain ⟨y3_0,y3_1,y3_2,y3_3,y3_4,y3_5,y3_6,y3_7,y3_8,y3_9,y3_z⟩:=ks11 HC3.out x0 x1 x2 x3 x4 x5 x6 x7 x8 x9 z0;clear hb HX y2_0 y2_1 y2_2 y2_3 y2_4 y2_5 y2_6 y2_7 y2_8 y2_9 y2_z;go_wp2_with fail;go_ret;exact ⟨aC (by rw [RF.out,HQ0.out,HQ1.out];rfl),HB3.out⟩
 ·have RF:=Ha (show aO (Nd.vw f) (NdF.mk 6 s nt ni ops asg wds rds ars kds)=(aR (Nd.vw f) ⟨false,false,false,false,true,false,true⟩ (NdF.mk 6 s nt ni ops asg wds rds ars kds)&&((kds.length==1)&&cD (Nd.vw f) 1 (NdF.mk 6 s nt ni ops asg wds rds ars kds))) from rfl);go_enter Tryz.func37,Tryz.ntmps37;have HX:=Ha (eU f IH.out ⟨false,false,false,false,true,false,true⟩ G _ _ _ (aG HG.out HBW.out) (HT.out.below HBW.out) (HV.out.below HG.out HBW.out));go_wp2_with fail;refine HX.out.mono ?_;rintro e w1 ⟨he,hb⟩;have HB1:=Ha (HBW.out.trans (hb.mono HBW.out.size));have HC1:=Ha (HC0.out.trans (hb.mono HC0.out.size));obtain ⟨y1_0,y1_1,y1_2,y1_3,y1_4,y1_5,y1_6,y1_7,y1_8,y1_9,y1_z⟩:=ks11 HC1.out x0 x1 x2 x3 x4 x5 x6 x7 x8 x9 z0;clear hb HX;cases q:aR (Nd.vw f) ⟨false,false,false,false,true,false,true⟩ (NdF.mk 6 s nt ni ops asg wds rds ars kds)
  ·rw [q] at he;subst he;have HQ0:=Ha q;clear q;go_wp2_with fail;go_ret;exact ⟨aC (by rw [RF.out,HQ0.out];rfl),HB1.out⟩
  rw [q] at he;subst he;have HQ0:=Ha q;clear q;have HC:=HC1;have HX:=Ha (kE f G _ w.heap.size _ s nt ni ops asg wds rds ars kds _ (aG HG.out HB1.out) (HV.out.below HG.out HB1.out) (HBOX.out _ HC.out));go_wp2_with fail;refine HX.out.mono ?_;rintro e w2 ⟨he,hb⟩;have HB2:=Ha (HB1.out.trans (hb.mono HB1.out.size));have HC2:=Ha (HC1.out.trans (hb.mono HC1.out.size));obtain ⟨y2_0,y2_1,y2_2,y2_3,y2_4,y2_5,y2_6,y2_7,y2_8,y2_9,y2_z⟩:=ks11 HC2.out x0 x1 x2 x3 x4 x5 x6 x7 x8 x9 z0;clear hb HX HC y1_0 y1_1 y1_2 y1_3 y1_4 y1_5 y1_6 y1_7 y1_8 y1_9 y1_z;cases q:(kds.length==1)
  ·rw [q] at he;subst he;have HQ1:=Ha q;clear q;go_wp2_with fail;go_ret;exact ⟨aC (by rw [RF.out,HQ0.out,HQ1.out];rfl),HB2.out⟩
  rw [q] at he;subst he;have HQ1:=Ha q;clear q;have HX:=Ha (i4 f IH.out 1 G _ _ _ (aG HG.out HB2.out) (HT.out.below HB2.out) (HV.out.below HG.out HB2.out));go_wp2_with fail;refine HX.out.mono ?_;rintro e w3 ⟨rfl,hb⟩;have HB3:=Ha (HB2.out.trans (hb.mono HB2.out.size));have HC3:=Ha (HC2.out.trans (hb.mono HC2.out.size));obtain ⟨y3_0,y3_1,y3_2,y3_3,y3_4,y3_5,y3_6,y3_7,y3_8,y3_9,y3_z⟩:=ks11 HC3.out x0 x1 x2 x3 x4 x5 x6 x7 x8 x9 z0;clear hb HX y2_0 y2_1 y2_2 y2_3 y2_4 y2_5 y2_6 y2_7 y2_8 y2_9 y2_z;go_wp2_with fail;go_ret;exact ⟨aC (by rw [RF.out,HQ0.out,HQ1.out];rfl),HB3.out⟩
 ·have RF:=Ha (show aO (Nd.vw f) (NdF.mk 7 s nt ni ops asg wds rds ars kds)=(aR (Nd.vw f) ⟨true,false,false,ni,true,false,true⟩ (NdF.mk 7 s nt ni ops asg wds rds ars kds)&&(Chr.name s.toList&&((kds.length==1)&&cD (Nd.vw f) 1 (NdF.mk 7 s nt ni ops asg wds rds ars kds)))) from rfl);go_enter Tryz.func37,Tryz.ntmps37;have HX:=Ha (eU f IH.out ⟨true,false,false,ni,true,false,true⟩ G _ _ _ (aG HG.out HBW.out) (HT.out.below HBW.out) (HV.out.below HG.out HBW.out));go_wp2_with fail;refine HX.out.mono ?_;rintro e w1 ⟨he,hb⟩;have HB1:=Ha (HBW.out.trans (hb.mono HBW.out.size));have HC1:=Ha (HC0.out.trans (hb.mono HC0.out.size));obtain ⟨y1_0,y1_1,y1_2,y1_3,y1_4,y1_5,y1_6,y1_7,y1_8,y1_9,y1_z⟩:=ks11 HC1.out x0 x1 x2 x3 x4 x5 x6 x7 x8 x9 z0;clear hb HX;cases q:aR (Nd.vw f) ⟨true,false,false,ni,true,false,true⟩ (NdF.mk 7 s nt ni ops asg wds rds ars kds)
  ·rw [q] at he;subst he;have HQ0:=Ha q;clear q;go_wp2_with fail;go_ret;exact ⟨aC (by rw [RF.out,HQ0.out];rfl),HB1.out⟩
  rw [q] at he;subst he;have HQ0:=Ha q;clear q;have HX:=Ha (iS s w1 (by omega));go_wp2_with fail;refine HX.out.mono ?_;rintro e w2 ⟨he,hb⟩;have HB2:=Ha (HB1.out.trans (hb.mono HB1.out.size));have HC2:=Ha (HC1.out.trans (hb.mono HC1.out.size));obtain ⟨y2_0,y2_1,y2_2,y2_3,y2_4,y2_5,y2_6,y2_7,y2_8,y2_9,y2_z⟩:=ks11 HC2.out x0 x1 x2 x3 x4 x5 x6 x7 x8 x9 z0;clear hb HX y1_0 y1_1 y1_2 y1_3 y1_4 y1_5 y1_6 y1_7 y1_8 y1_9 y1_z;cases q:Chr.name s.toList
  ·rw [q] at he;subst he;have HQ1:=Ha q;clear q;go_wp2_with fail;go_ret;exact ⟨aC (by rw [RF.out,HQ0.out,HQ1.out];rfl),HB2.out⟩
  rw [q] at he;subst he;have HQ1:=Ha q;clear q;have HC:=HC2;have HX:=Ha (kE f G _ w.heap.size _ s nt ni ops asg wds rds ars kds _ (aG HG.out HB2.out) (HV.out.below HG.out HB2.out) (HBOX.out _ HC.out));go_wp2_with fail;refine HX.out.mono ?_;rintro e w3 ⟨he,hb⟩;have HB3:=Ha (HB2.out.trans (hb.mono HB2.out.size));have HC3:=Ha (HC2.out.trans (hb.mono HC2.out.size));obtain ⟨y3_0,y3_1,y3_2,y3_3,y3_4,y3_5,y3_6,y3_7,y3_8,y3_9,y3_z⟩:=ks11 HC3.out x0 x1 x2 x3 x4 x5 x6 x7 x8 x9 z0;clear hb HX HC y2_0 y2_1 y2_2 y2_3 y2_4 y2_5 y2_6 y2_7 y2_8 y2_9 y2_z;cases q:(kds.length==1)
  ·rw [q] at he;subst he;have HQ2:=Ha q;clear q;go_wp2_with fail;go_ret;exact ⟨aC (by rw [RF.out,HQ0.out,HQ1.out,HQ2.out];rfl),HB3.out⟩
  rw [q] at he;subst he;have HQ2:=Ha q;clear q;have HX:=Ha (i4 f IH.out 1 G _ _ _ (aG HG.out HB3.out) (HT.out.below HB3.out) (HV.out.below HG.out HB3.out));go_wp2_with fail;refine HX.out.mono ?_;rintro e w4 ⟨rfl,hb⟩;have HB4:=Ha (HB3.out.trans (hb.mono HB3.out.size));have HC4:=Ha (HC3.out.trans (hb.mono HC3.out.size));obtain ⟨y4_0,y4_1,y4_2,y4_3,y4_4,y4_5,y4_6,y4_7,y4_8,y4_9,y4_z⟩:=ks11 HC4.out x0 x1 x2 x3 x4 x5 x6 x7 x8 x9 z0;clear hb HX y3_0 y3_1 y3_2 y3_3 y3_4 y3_5 y3_6 y3_7 y3_8 y3_9 y3_z;go_wp2_with fail;go_ret;exact ⟨aC (by rw [RF.out,HQ0.out,HQ1.out,HQ2.out];rfl),HB4.out⟩
theorem CA (f:Nat) (ih:PRt f) (ih2:eQ f) (ih3:POn f) (G:Nat→Prop) (w:World) (vs:List Value) (x:NdF (Nd f)) (hG:∀ k,G k→k<w.heap.size) (ht:cC w) (hv:NdV (f+1) G w vs x) (hk:x.k=8∨x.k=9∨x.k=10∨x.k=11∨x.k=12):
  Calls Tryz.prog 37 #[ag vs] w fun e w'=>e=.returned (.bool (aO (Nd.vw f) x))∧Below w.heap.size w w':=by
 obtain ⟨ky,s,nt,ni,ops,asg,wds,rds,ars,kds⟩:=x;obtain ⟨A4,c4,A5,c5,A6,c6,A7,c7,A8,c8,A9,c9,rfl,hns,hal,hl4,hl5,hl6,hl7,hl8,hl9,hso,hsa,hsw,hsr,hsm,hsk⟩:=NdV.open hv;obtain ⟨HSO,HSA,HSW,HSR,HSM,HSK,HV⟩:=hs7 hso hsa hsw hsr hsm hsk hv;clear hso hsa hsw hsr hsm hsk hv;unfold ag;have hbw:Below w.heap.size w ((w.alloc (.cells #[.int .i64 ky,.string s,.bool nt,.bool ni,.slice A4 ops.length c4,.slice A5 asg.length c5,.slice A6 wds.length c6,.slice A7 rds.length c7,.slice A8 ars.length c8,.slice A9 kds.length c9] 28)).alloc (.cells #[.func (.func 76) #[] #[.pointer (some ⟨w.heap.size,0,none⟩)]] 36)):=((Below.refl _ _).alloc (Nat.le_refl _) _).alloc (by simp) _;obtain ⟨hb0,hb1⟩:=dQ w (.cells #[.int .i64 ky,.string s,.bool nt,.bool ni,.slice A4 ops.length c4,.slice A5 asg.length c5,.slice A6 wds.length c6,.slice A7 rds.length c7,.slice A8 ars.length c8,.slice A9 kds.length c9] 28) (.cells #[.func (.func 76) #[] #[.pointer (some ⟨w.heap.size,0,none⟩)]] 36);generalize hW:(w.alloc (.cells #[.int .i64 ky,.string s,.bool nt,.bool ni,.slice A4 ops.length c4,.slice A5 asg.length c5,.slice A6 wds.length c6,.slice A7 rds.length c7,.slice A8 ars.length c8,.slice A9 kds.length c9] 28)).alloc (.cells #[.func (.func 76) #[] #[.pointer (some ⟨w.heap.size,0,none⟩)]] 36)=W at *;obtain ⟨x0,x1,x2,x3,x4,x5,x6,x7,x8,x9⟩:=c10 hb0;obtain ⟨HGW,HBW,HG,HT⟩:=hs4 (aG hG hbw) hbw hG ht;have z0:=dD hb1;obtain ⟨HBOX,HC0,IH,IH2,IH3⟩:=hs5 (bI hb0) (Below.refl W.heap.size W) ih ih2 ih3;clear hbw hb0 hb1 hG ht ih ih2 ih3;simp only at hk;rcases hk with rfl | rfl | rfl | rfl | rfl
 ·have RF:=Ha (show aO (Nd.vw f) (NdF.mk 8 s nt ni ops asg wds rds ars kds)=(aR (Nd.vw f) ⟨false,false,false,true,true,true,false⟩ (NdF.mk 8 s nt ni ops asg wds rds ars kds)&&((wds.length==1)&&ars.all (iJ (Nd.vw f)))) from rfl);go_enter Tryz.func37,Tryz.ntmps37;have HX:=Ha (eU f IH.out ⟨false,false,false,true,true,true,false⟩ G _ _ _ (aG HG.out HBW.out) (HT.out.below HBW.out) (HV.out.below HG.out HBW.out));go_wp2_with fail;refine HX.out.mono ?_;rintro e w1 ⟨he,hb⟩;have HB1:=Ha (HBW.out.trans (hb.mono HBW.out.size));have HC1:=Ha (HC0.out.trans (hb.mono HC0.out.size));obtain ⟨y1_0,y1_1,y1_2,y1_3,y1_4,y1_5,y1_6,y1_7,y1_8,y1_9,y1_z⟩:=ks11 HC1.out x0 x1 x2 x3 x4 x5 x6 x7 x8 x9 z0;clear hb HX;cases q:aR (Nd.vw f) ⟨false,false,false,true,true,true,false⟩ (NdF.mk 8 s nt ni ops asg wds rds ars kds)
  ·rw [q] at he;subst he;have HQ0:=Ha q;clear q;go_wp2_with fail;go_ret;exact ⟨aC (by rw [RF.out,HQ0.out];rfl),HB1.out⟩
  rw [q] at he;subst he;have HQ0:=Ha q;clear q;by_cases hl1:wds.length=1
  case neg=>
   have HQ1:=Ha (beq_false_of_ne hl1);have m1:((wds.length:Int)==1)=false:=beq_false_of_ne (by omega);have m2:(wds.length==1)=false:=beq_false_of_ne hl1;go_wp2_with fail;go_ret;exact ⟨aC (by rw [RF.out,HQ0.out,HQ1.out];rfl),HB1.out⟩
  have HQ1:=Ha (beq_iff_eq.2 hl1);have m1:((wds.length:Int)==1)=true:=beq_iff_eq.2 (by omega);have m2:(wds.length==1)=true:=beq_iff_eq.2 hl1;clear hl1;have HX:=Ha (AP f G 94 #[] (iJ (Nd.vw f)) _ ars _ (aG HG.out HB1.out) (HSM.out.onA HG.out HB1.out) vM (DE IH.out IH3.out (aG HG.out HB1.out) (HT.out.below HB1.out)));go_wp2_with fail;refine HX.out.mono ?_;rintro e w2 ⟨rfl,hb⟩;have HB2:=Ha (HB1.out.trans (hb.mono HB1.out.size));have HC2:=Ha (HC1.out.trans (hb.mono HC1.out.size));obtain ⟨y2_0,y2_1,y2_2,y2_3,y2_4,y2_5,y2_6,y2_7,y2_8,y2_9,y2_z⟩:=ks11 HC2.out x0 x1 x2 x3 x4 x5 x6 x7 x8 x9 z0;clear hb HX y1_0 y1_1 y1_2 y1_3 y1_4 y1_5 y1_6 y1_7 y1_8 y1_9 y1_z;go_wp2_with fail;go_ret;exact ⟨aC (by rw [RF.out,HQ0.out,HQ1.out];rfl),HB2.out⟩
 ·have RF:=Ha (show aO (Nd.vw f) (NdF.mk 9 s nt ni ops asg wds rds ars kds)=(aR (Nd.vw f) ⟨false,false,false,false,true,false,true⟩ (NdF.mk 9 s nt ni ops asg wds rds ars kds)&&cD (Nd.vw f) 2 (NdF.mk 9 s nt ni ops asg wds rds ars kds)) from rfl);go_enter Tryz.func37,Tryz.ntmps37;have HX:=Ha (eU f IH.out ⟨false,false,false,false,true,false,true⟩ G _ _ _ (aG HG.out HBW.out) (HT.out.below HBW.out) (HV.out.below HG.out HBW.out));go_wp2_with fail;refine HX.out.mono ?_;rintro e w1 ⟨he,hb⟩;have HB1:=Ha (HBW.out.trans (hb.mono HBW.out.size));have HC1:=Ha (HC0.out.trans (hb.mono HC0.out.size));obtain ⟨y1_0,y1_1,y1_2,y1_3,y1_4,y1_5,y1_6,y1_7,y1_8,y1_9,y1_z⟩:=ks11 HC1.out x0 x1 x2 x3 x4 x5 x6 x7 x8 x9 z0;clear hb HX;cases q:aR (Nd.vw f) ⟨false,false,false,false,true,false,true⟩ (NdF.mk 9 s nt ni ops asg wds rds ars kds)
  ·rw [q] at he;subst he;have HQ0:=Ha q;clear q;go_wp2_with fail;go_ret;exact ⟨aC (by rw [RF.out,HQ0.out];rfl),HB1.out⟩
  rw [q] at he;subst he;have HQ0:=Ha q;clear q;have HX:=Ha (i4 f IH.out 2 G _ _ _ (aG HG.out HB1.out) (HT.out.below HB1.out) (HV.out.below HG.out HB1.out));go_wp2_with fail;refine HX.out.mono ?_;rintro e w2 ⟨rfl,hb⟩;have HB2:=Ha (HB1.out.trans (hb.mono HB1.out.size));have HC2:=Ha (HC1.out.trans (hb.mono HC1.out.size));obtain ⟨y2_0,y2_1,y2_2,y2_3,y2_4,y2_5,y2_6,y2_7,y2_8,y2_9,y2_z⟩:=ks11 HC2.out x0 x1 x2 x3 x4 x5 x6 x7 x8 x9 z0;clear hb HX y1_0 y1_1 y1_2 y1_3 y1_4 y1_5 y1_6 y1_7 y1_8 y1_9 y1_z;go_wp2_with fail;go_ret;exact ⟨aC (by rw [RF.out,HQ0.out];rfl),HB2.out⟩
 ·have RF:=Ha (show aO (Nd.vw f) (NdF.mk 10 s nt ni ops asg wds rds ars kds)=(aR (Nd.vw f) ⟨false,false,false,false,true,false,true⟩ (NdF.mk 10 s nt ni ops asg wds rds ars kds)&&(cD (Nd.vw f) 2 (NdF.mk 10 s nt ni ops asg wds rds ars kds)&&(kds.length==2))) from rfl);go_enter Tryz.func37,Tryz.ntmps37;have HX:=Ha (eU f IH.out ⟨false,false,false,false,true,false,true⟩ G _ _ _ (aG HG.out HBW.out) (HT.out.below HBW.out) (HV.out.below HG.out HBW.out));go_wp2_with fail;refine HX.out.mono ?_;rintro e w1 ⟨he,hb⟩;have HB1:=Ha (HBW.out.trans (hb.mono HBW.out.size));have HC1:=Ha (HC0.out.trans (hb.mono HC0.out.size));obtain ⟨y1_0,y1_1,y1_2,y1_3,y1_4,y1_5,y1_6,y1_7,y1_8,y1_9,y1_z⟩:=ks11 HC1.out x0 x1 x2 x3 x4 x5 x6 x7 x8 x9 z0;clear hb HX;cases q:aR (Nd.vw f) ⟨false,false,false,false,true,false,true⟩ (NdF.mk 10 s nt ni ops asg wds rds ars kds)
  ·rw [q] at he;subst he;have HQ0:=Ha q;clear q;go_wp2_with fail;go_ret;exact ⟨aC (by rw [RF.out,HQ0.out];rfl),HB1.out⟩
  rw [q] at he;subst he;have HQ0:=Ha q;clear q;have HX:=Ha (i4 f IH.out 2 G _ _ _ (aG HG.out HB1.out) (HT.out.below HB1.out) (HV.out.below HG.out HB1.out));go_wp2_with fail;refine HX.out.mono ?_;rintro e w2 ⟨he,hb⟩;have HB2:=Ha (HB1.out.trans (hb.mono HB1.out.size));have HC2:=Ha (HC1.out.trans (hb.mono HC1.out.size));obtain ⟨y2_0,y2_1,y2_2,y2_3,y2_4,y2_5,y2_6,y2_7,y2_8,y2_9,y2_z⟩:=ks11 HC2.out x0 x1 x2 x3 x4 x5 x6 x7 x8 x9 z0;clear hb HX y1_0 y1_1 y1_2 y1_3 y1_4 y1_5 y1_6 y1_7 y1_8 y1_9 y1_z;cases q:cD (Nd.vw f) 2 (NdF.mk 10 s nt ni ops asg wds rds ars kds)
  ·rw [q] at he;subst he;have HQ1:=Ha q;clear q;go_wp2_with fail;go_ret;exact ⟨aC (by rw [RF.out,HQ0.out,HQ1.out];rfl),HB2.out⟩
  rw [q] at he;subst he;have HQ1:=Ha q;clear q;by_cases hl2:kds.length=2
  case neg=>
   have HQ2:=Ha (beq_false_of_ne hl2);have m1:((kds.length:Int)==2)=false:=beq_false_of_ne (by omega);have m2:(kds.length==2)=false:=beq_false_of_ne hl2;go_wp2_with fail;go_ret;exact ⟨aC (by rw [RF.out,HQ0.out,HQ1.out,HQ2.out];rfl),HB2.out⟩
  have HQ2:=Ha (beq_iff_eq.2 hl2);have m1:((kds.length:Int)==2)=true:=beq_iff_eq.2 (by omega);have m2:(kds.length==2)=true:=beq_iff_eq.2 hl2;clear hl2;go_wp2_with fail;go_ret;exact ⟨aC (by rw [RF.out,HQ0.out,HQ1.out,HQ2.out];rfl),HB2.out⟩
 ·have RF:=Ha (show aO (Nd.vw f) (NdF.mk 11 s nt ni ops asg wds rds ars kds)=(aR (Nd.vw f) ⟨false,false,false,false,true,false,true⟩ (NdF.mk 11 s nt ni ops asg wds rds ars kds)&&(cD (Nd.vw f) 2 (NdF.mk 11 s nt ni ops asg wds rds ars kds)&&(kds.length==2))) from rfl);go_enter Tryz.func37,Tryz.ntmps37;have HX:=Ha (eU f IH.out ⟨false,false,false,false,true,false,true⟩ G _ _ _ (aG HG.out HBW.out) (HT.out.below HBW.out) (HV.out.below HG.out HBW.out));go_wp2_with fail;refine HX.out.mono ?_;rintro e w1 ⟨he,hb⟩;have HB1:=Ha (HBW.out.trans (hb.mono HBW.out.size));have HC1:=Ha (HC0.out.trans (hb.mono HC0.out.size));obtain ⟨y1_0,y1_1,y1_2,y1_3,y1_4,y1_5,y1_6,y1_7,y1_8,y1_9,y1_z⟩:=ks11 HC1.out x0 x1 x2 x3 x4 x5 x6 x7 x8 x9 z0;clear hb HX;cases q:aR (Nd.vw f) ⟨false,false,false,false,true,false,true⟩ (NdF.mk 11 s nt ni ops asg wds rds ars kds)
  ·rw [q] at he;subst he;have HQ0:=Ha q;clear q;go_wp2_with fail;go_ret;exact ⟨aC (by rw [RF.out,HQ0.out];rfl),HB1.out⟩
  rw [q] at he;subst he;have HQ0:=Ha q;clear q;have HX:=Ha (i4 f IH.out 2 G _ _ _ (aG HG.out HB1.out) (HT.out.below HB1.out) (HV.out.below HG.out HB1.out));go_wp2_with fail;refine HX.out.mono ?_;rintro e w2 ⟨he,hb⟩;have HB2:=Ha (HB1.out.trans (hb.mono HB1.out.size));have HC2:=Ha (HC1.out.trans (hb.mono HC1.out.size));obtain ⟨y2_0,y2_1,y2_2,y2_3,y2_4,y2_5,y2_6,y2_7,y2_8,y2_9,y2_z⟩:=ks11 HC2.out x0 x1 x2 x3 x4 x5 x6 x7 x8 x9 z0;clear hb HX y1_0 y1_1 y1_2 y1_3 y1_4 y1_5 y1_6 y1_7 y1_8 y1_9 y1_z;cases q:cD (Nd.vw f) 2 (NdF.mk 11 s nt ni ops asg wds rds ars kds)
  ·rw [q] at he;subst he;have HQ1:=Ha q;clear q;go_wp2_with fail;go_ret;exact ⟨aC (by rw [RF.out,HQ0.out,HQ1.out];rfl),HB2.out⟩
  rw [q] at he;subst he;have HQ1:=Ha q;clear q;by_cases hl2:kds.length=2
  case neg=>
   have HQ2:=Ha (beq_false_of_ne hl2);have m1:((kds.length:Int)==2)=false:=beq_false_of_ne (by omega);have m2:(kds.length==2)=false:=beq_false_of_ne hl2;go_wp2_with fail;go_ret;exact ⟨aC (by rw [RF.out,HQ0.out,HQ1.out,HQ2.out];rfl),HB2.out⟩
  have HQ2:=Ha (beq_iff_eq.2 hl2);have m1:((kds.length:Int)==2)=true:=beq_iff_eq.2 (by omega);have m2:(kds.length==2)=true:=beq_iff_eq.2 hl2;clear hl2;go_wp2_with fail;go_ret;exact ⟨aC (by rw [RF.out,HQ0.out,HQ1.out,HQ2.out];rfl),HB2.out⟩
 ·have RF:=Ha (show aO (Nd.vw f) (NdF.mk 12 s nt ni ops asg wds rds ars kds)=(aR (Nd.vw f) ⟨true,false,false,false,false,false,true⟩ (NdF.mk 12 s nt ni ops asg wds rds ars kds)&&jF (Nd.vw f) (NdF.mk 12 s nt ni ops asg wds rds ars kds)) from rfl);go_enter Tryz.func37,Tryz.ntmps37;have HX:=Ha (eU f IH.out ⟨true,false,false,false,false,false,true⟩ G _ _ _ (aG HG.out HBW.out) (HT.out.below HBW.out) (HV.out.below HG.out HBW.out));go_wp2_with fail;refine HX.out.mono ?_;rintro e w1 ⟨he,hb⟩;have HB1:=Ha (HBW.out.trans (hb.mono HBW.out.size));have HC1:=Ha (HC0.out.trans (hb.mono HC0.out.size));obtain ⟨y1_0,y1_1,y1_2,y1_3,y1_4,y1_5,y1_6,y1_7,y1_8,y1_9,y1_z⟩:=ks11 HC1.out x0 x1 x2 x3 x4 x5 x6 x7 x8 x9 z0;clear hb HX;cases q:aR (Nd.vw f) ⟨true,false,false,false,false,false,true⟩ (NdF.mk 12 s nt ni ops asg wds rds ars kds)
  ·rw [q] at he;subst he;have HQ0:=Ha q;clear q;go_wp2_with fail;go_ret;exact ⟨aC (by rw [RF.out,HQ0.out];rfl),HB1.out⟩
  rw [q] at he;subst he;have HQ0:=Ha q;clear q;have HX:=Ha (sH f IH2.out G _ _ _ (aG HG.out HB1.out) (HT.out.below HB1.out) (HV.out.below HG.out HB1.out));go_wp2_with fail;refine HX.out.mono ?_;rintro e w2 ⟨rfl,hb⟩;have HB2:=Ha (HB1.out.trans (hb.mono HB1.out.size));have HC2:=Ha (HC1.out.trans (hb.mono HC1.out.size));obtain ⟨y2_0,y2_1,y2_2,y2_3,y2_4,y2_5,y2_6,y2_7,y2_8,y2_9,y2_z⟩:=ks11 HC2.out x0 x1 x2 x3 x4 x5 x6 x7 x8 x9 z0;clear hb HX y1_0 y1_1 y1_2 y1_3 y1_4 y1_5 y1_6 y1_7 y1_8 y1_9 y1_z;go_wp2_with fail;go_ret;exact ⟨aC (by rw [RF.out,HQ0.out];rfl),HB2.out⟩
theorem CB (f:Nat) (G:Nat→Prop) (w:World) (vs:List Value) (x:NdF (Nd f)) (hG:∀ k,G k→k<w.heap.size) (ht:cC w) (hv:NdV (f+1) G w vs x) (hk:x.k≠1∧x.k≠2∧x.k≠3∧x.k≠4∧x.k≠5∧x.k≠6∧x.k≠7∧x.k≠8∧x.k≠9∧x.k≠10∧x.k≠11∧x.k≠12):
  Calls Tryz.prog 37 #[ag vs] w fun e w'=>e=.returned (.bool (aO (Nd.vw f) x))∧Below w.heap.size w w':=by
 obtain ⟨ky,s,nt,ni,ops,asg,wds,rds,ars,kds⟩:=x;obtain ⟨A4,c4,A5,c5,A6,c6,A7,c7,A8,c8,A9,c9,rfl,hns,hal,hl4,hl5,hl6,hl7,hl8,hl9,hso,hsa,hsw,hsr,hsm,hsk⟩:=NdV.open hv;obtain ⟨HSO,HSA,HSW,HSR,HSM,HSK⟩:=hs6 hso hsa hsw hsr hsm hsk;clear hso hsa hsw hsr hsm hsk hv;unfold ag;have hbw:Below w.heap.size w ((w.alloc (.cells #[.int .i64 ky,.string s,.bool nt,.bool ni,.slice A4 ops.length c4,.slice A5 asg.length c5,.slice A6 wds.length c6,.slice A7 rds.length c7,.slice A8 ars.length c8,.slice A9 kds.length c9] 28)).alloc (.cells #[.func (.func 76) #[] #[.pointer (some ⟨w.heap.size,0,none⟩)]] 36)):=((Below.refl _ _).alloc (Nat.le_refl _) _).alloc (by simp) _;obtain ⟨hb0,hb1⟩:=dQ w (.cells #[.int .i64 ky,.string s,.bool nt,.bool ni,.slice A4 ops.length c4,.slice A5 asg.length c5,.slice A6 wds.length c6,.slice A7 rds.length c7,.slice A8 ars.length c8,.slice A9 kds.length c9] 28) (.cells #[.func (.func 76) #[] #[.pointer (some ⟨w.heap.size,0,none⟩)]] 36);generalize hW:(w.alloc (.cells #[.int .i64 ky,.string s,.bool nt,.bool ni,.slice A4 ops.length c4,.slice A5 asg.length c5,.slice A6 wds.length c6,.slice A7 rds.length c7,.slice A8 ars.length c8,.slice A9 kds.length c9] 28)).alloc (.cells #[.func (.func 76) #[] #[.pointer (some ⟨w.heap.size,0,none⟩)]] 36)=W at *;obtain ⟨x0,x1,x2,x3,x4,x5,x6,x7,x8,x9⟩:=c10 hb0;obtain ⟨HGW,HBW,HG,HT⟩:=hs4 (aG hG hbw) hbw hG ht;clear hbw hb0 hG ht;have HN:=Ha (lQ (Nd.vw f) (NdF.mk ky s nt ni ops asg wds rds ars kds) hk.1 hk.2.1 hk.2.2.1 hk.2.2.2.1 hk.2.2.2.2.1 hk.2.2.2.2.2.1 hk.2.2.2.2.2.2.1 hk.2.2.2.2.2.2.2.1 hk.2.2.2.2.2.2.2.2.1 hk.2.2.2.2.2.2.2.2.2.1 hk.2.2.2.2.2.2.2.2.2.2.1 hk.2.2.2.2.2.2.2.2.2.2.2);obtain ⟨k1,k2,k3,k4,k5,k6,k7,k8,k9,k10,k11,k12⟩:=hk;replace k1:(ky==1)=false:=beq_false_of_ne k1;replace k2:(ky==2)=false:=beq_false_of_ne k2;replace k3:(ky==3)=false:=beq_false_of_ne k3;replace k4:(ky==4)=false:=beq_false_of_ne k4;replace k5:(ky==5)=false:=beq_false_of_ne k5;replace k6:(ky==6)=false:=beq_false_of_ne k6;replace k7:(ky==7)=false:=beq_false_of_ne k7;replace k8:(ky==8)=false:=beq_false_of_ne k8;replace k9:(ky==9)=false:=beq_false_of_ne k9;replace k10:(ky==10)=false:=beq_false_of_ne k10;replace k11:(ky==11)=false:=beq_false_of_ne k11;replace k12:(ky==12)=false:=beq_false_of_ne k12;go_enter Tryz.func37,Tryz.ntmps37;go_wp2_with fail;go_ret;exact ⟨aC (by rw [HN.out]),HBW.out⟩
theorem wL (f:Nat) (ih:PRt f) (ih2:eQ f) (ih3:POn f):eQ (f+1):=by
 intro G w vs x hG ht hv;have hx:(Nd.vw (f+1)).rt x=aO (Nd.vw f) x:=rfl;rw [hx];by_cases hk:(x:NdF (Nd f)).k=1∨(x:NdF (Nd f)).k=2∨(x:NdF (Nd f)).k=3
 ·exact B1 f ih ih2 ih3 G w vs x hG ht hv hk
 by_cases hk2:(x:NdF (Nd f)).k=4∨(x:NdF (Nd f)).k=5∨(x:NdF (Nd f)).k=6∨(x:NdF (Nd f)).k=7
 ·exact B3 f ih ih2 ih3 G w vs x hG ht hv hk2
 by_cases hk3:(x:NdF (Nd f)).k=8∨(x:NdF (Nd f)).k=9∨(x:NdF (Nd f)).k=10∨(x:NdF (Nd f)).k=11∨(x:NdF (Nd f)).k=12
 ·exact CA f ih ih2 ih3 G w vs x hG ht hv hk3
 exact CB f G w vs x hG ht hv ⟨by omega,by omega,by omega,by omega,by omega,by omega,by omega,by omega,by omega,by omega,by omega,by omega⟩
theorem uV (f:Nat) (ih:eQ (f+1)):PRt (f+1):=by
 intro G w vs x hG ht hv;have hx:(Nd.vw (f+1)).R x=(((x:NdF (Nd f)).k==1)&&(Nd.vw (f+1)).rt x):=rfl;rw [hx];have IH:=Ha ih;have HV:=Ha hv;clear ih hx;generalize hr:(Nd.vw (f+1)).rt x=r;have HR:=Ha hr;clear hr;obtain ⟨ky,s,nt,ni,ops,asg,wds,rds,ars,kds⟩:=x;obtain ⟨A4,c4,A5,c5,A6,c6,A7,c7,A8,c8,A9,c9,rfl,hns,hal,hl4,hl5,hl6,hl7,hl8,hl9,hso,hsa,hsw,hsr,hsm,hsk⟩:=NdV.open hv;clear hso hsa hsw hsr hsm hsk hv;unfold ag;obtain ⟨W,hW,hbw,hb0⟩:=cpd w (.cells #[.int .i64 ky,.string s,.bool nt,.bool ni,.slice A4 ops.length c4,.slice A5 asg.length c5,.slice A6 wds.length c6,.slice A7 rds.length c7,.slice A8 ars.length c8,.slice A9 kds.length c9] 28);have HX:=Ha (IH.out G _ _ _ (aG hG hbw) (ht.below hbw) (HV.out.below hG hbw));rw [HR.out] at HX;obtain ⟨x0,x1,x2,x3,x4,x5,x6,x7,x8,x9⟩:=c10 hb0;have HBW:=Ha hbw;clear hbw hb0 hG ht;simp only;cases q:(ky==1)
 ·have HQ:=Ha q;go_enter Tryz.func13,Tryz.ntmps13;go_wp2_with fail;go_ret;exact ⟨rfl,HBW.out⟩
 ·go_enter Tryz.func13,Tryz.ntmps13;go_wp2_with fail;refine HX.out.mono ?_;rintro e w1 ⟨rfl,hb⟩;have HB1:=Ha (HBW.out.trans (hb.mono HBW.out.size));clear hb;go_wp2_with fail;go_ret;exact ⟨rfl,HB1.out⟩
theorem CN (f:Nat) (ih:PRt f):POn (f+1):=fun G w vs x hG ht hv=>eU f ih oI G w vs x hG ht hv
theorem jM:∀ f:Nat,eQ f∧PRt f∧POn f
 | 0=>⟨fun _ _ _ x=>Empty.elim x,fun _ _ _ x=>Empty.elim x,fun _ _ _ x=>Empty.elim x⟩
 | f+1=>
  have ih:=jM f;have h:=wL f ih.2.1 ih.1 ih.2.2
  ⟨h,uV f h,CN f ih.2.1⟩
theorem aV.nil0 {β:Type} {G:Nat→Prop} {w:World} {sz:Nat} {R:List Value→β→Prop}:aV G w sz R (.slice none 0 0) []:=⟨_,0,rfl,Nat.le_refl _,Nat.zero_le _,fun h=>absurd h (Nat.lt_irrefl _)⟩
theorem aV.one {β:Type} {G:Nat→Prop} {w:World} {sz:Nat} {R:List Value→β→Prop} {g:Nat} {vs:List Value} {x:β} (hg:G g) (hl:vs.length=sz) (hR:R vs x) (hc:∀ j u,vs[j]? = some u→w.cell? ⟨g,j,none⟩=some u):
  aV G w sz R (.slice (some ⟨g,0,none⟩) 1 1) [x]:=
 ⟨_,1,rfl,Nat.le_refl _,by decide,fun _=>⟨g,0,rfl,hg,fun i hi=>⟨vs,hl,by
  obtain rfl:i=0:=by simp at hi;omega
  exact hR,fun j u hj=>by
  obtain rfl:i=0:=by simp at hi;omega
  simpa using hc j u hj⟩⟩⟩
theorem up {W:World} {o:Obj} {k:Nat} {x:Obj} (h:W.heap[k]? = some x):(W.alloc o).heap[k]? = some x:=(Below.heap_alloc _ _ _ (Array.getElem?_eq_some_iff.1 h).1).trans h
theorem tJ (w:World) (o0 o1 o2 o3 o4 o5:Obj):
  ((((((w.alloc o0).alloc o1).alloc o2).alloc o3).alloc o4).alloc o5).heap[w.heap.size]? = some o0∧((((((w.alloc o0).alloc o1).alloc o2).alloc o3).alloc o4).alloc o5).heap[w.heap.size+1]? = some o1∧
  ((((((w.alloc o0).alloc o1).alloc o2).alloc o3).alloc o4).alloc o5).heap[w.heap.size+1+1]? = some o2∧((((((w.alloc o0).alloc o1).alloc o2).alloc o3).alloc o4).alloc o5).heap[w.heap.size+1+1+1]? = some o3∧
  ((((((w.alloc o0).alloc o1).alloc o2).alloc o3).alloc o4).alloc o5).heap[w.heap.size+1+1+1+1]? = some o4∧((((((w.alloc o0).alloc o1).alloc o2).alloc o3).alloc o4).alloc o5).heap[w.heap.size+1+1+1+1+1]? = some o5∧
  ((((((w.alloc o0).alloc o1).alloc o2).alloc o3).alloc o4).alloc o5).heap.size=w.heap.size+1+1+1+1+1+1∧Below w.heap.size w ((((((w.alloc o0).alloc o1).alloc o2).alloc o3).alloc o4).alloc o5):=by
 have k0:=aN w o0;have k1:=aN (w.alloc o0) o1;have k2:=aN ((w.alloc o0).alloc o1) o2;have k3:=aN (((w.alloc o0).alloc o1).alloc o2) o3;have k4:=aN ((((w.alloc o0).alloc o1).alloc o2).alloc o3) o4;have k5:=aN (((((w.alloc o0).alloc o1).alloc o2).alloc o3).alloc o4) o5;rw [show (w.alloc o0).heap.size=w.heap.size+1 by simp] at k1;rw [show ((w.alloc o0).alloc o1).heap.size=w.heap.size+1+1 by simp] at k2;rw [show (((w.alloc o0).alloc o1).alloc o2).heap.size=w.heap.size+1+1+1 by simp] at k3;rw [show ((((w.alloc o0).alloc o1).alloc o2).alloc o3).heap.size=w.heap.size+1+1+1+1 by simp] at k4;rw [show (((((w.alloc o0).alloc o1).alloc o2).alloc o3).alloc o4).heap.size=w.heap.size+1+1+1+1+1 by simp] at k5;exact ⟨up (up (up (up (up k0)))),up (up (up (up k1))),up (up (up k2)),up (up k3),up k4,k5,by simp,(((((((Below.refl _ _).alloc (Nat.le_refl _) _).alloc (by simp) _).alloc (by simp;omega) _).alloc (by simp;omega) _).alloc (by simp;omega) _).alloc (by simp;omega) _)⟩
def awP:Pts:=.cons 1 ⟨#[97]⟩ ⟨#[]⟩ .nil ⟨none,0,0⟩ .nil
def awW {α:Type}:WdF α:=⟨awP,[[]]⟩
theorem xK:awP.wt≤100:=by
 have e1:=Lib.size_eq ⟨#[97]⟩;have e3:=Lib.size_eq ⟨#[]⟩;unfold awP;simp only [Pts.wt,e1,e3,gG,gH];omega
theorem vB:awP.right=true:=by
 have e1:=aI [97];have e3:=aI [];unfold awP;simp only [Pts.right,Pts.allP,Pts.headK,Pts.headT,Pts.len,cH,e1,e3];decide
theorem AV:awP.asg=none:=by
 have e1:=aI [97];unfold awP;simp only [Pts.asg,e1];decide
theorem AW:awP.plt=some [97]:=by
 have e1:=aI [97];unfold awP;simp only [Pts.plt,e1];rfl
theorem xL {α:Type} (v:Vw α):aP v awW=true:=by
 have h:(awW:WdF α).cmds=[]:=rfl;unfold aP;rw [h,show (awW:WdF α).p=awP from rfl,vB];rfl
theorem jK:(⟨#[]⟩:ByteArray).toList.isEmpty=true:=by rw [aI];rfl
end Go.Proofs.YtjpopekmbmcggaaGreatDoor
namespace Go.Proofs.YtjpopekmbmcggaaGreatDoor
open Go.RowKit Go.ChangeShapes Go.WideShapes Go.Deep
theorem fB.app {α β:Type} {R:α→β→Prop}:∀ {l:List α} {m:List β} {l':List α} {m':List β},fB R l m→fB R l' m'→fB R (l++l') (m++m')
 | [],[],_,_,_,h=>h
 | _::_,_::_,_,_,h,h'=>⟨h.1,fB.app h.2 h'⟩
 | [],_::_,_,_,h,_=>h.elim
 | _::_,[],_,_,h,_=>h.elim
theorem uP {β:Type} (C:β→Nat):∀ l m:List β,tot C (l++m)=tot C l+tot C m
 | [],m=>by simp [tot]
 | x::l,m=>by rw [List.cons_append,tot,tot,uP C l m];omega
section
variable {H:Type} {enc:TypeId×Value→H} {w:World} {base:Nat} {spare:Nat→Bool} {held:Bool}
theorem eW {β:Type} {t e:TypeId} {sz:Nat} (ht:Tryz.prog.underlying t=some (.slice e)) (hC:Tryz.prog.cellsOf e=sz) (hsz:0<sz) (R:List Value→β→Prop) (Wt:β→Nat) (B:Nat)
  (hel:∀ (fuel:Nat) (cs:List Value) (y:DataW H×List MemPlace),cs.length=sz→DataW.trod enc Tryz.prog w base spare held fuel e cs=some y→Rows.uptoBulk y.1≤B→∃ x,R cs x∧Wt x+1≤2*Rows.uptoBulk y.1)
  (fuel:Nat) (cs:List Value) (x:DataW H×List MemPlace) (h:DataW.trod enc Tryz.prog w base spare held fuel t cs=some x) (hB:Rows.uptoBulk x.1≤B+1):
  ∃ (xs:List β) (v:Value),cs=[v]∧aV (Old w) w sz R v xs∧xs.length+tot Wt xs+2≤2*Rows.uptoBulk x.1:=by
 rcases open_slice ht h with ⟨hcs,hx⟩ | ⟨a,len,cap,m,n,D,Pl,hcs,hb,hl,hm,hmm,hx,hi⟩
 ·refine ⟨[],.slice none 0 0,hcs,aV.nil0, ?_⟩;have:=dC x.1;simp only [gH,tot];omega
 ·have hcell:∀ i,i<len→∃ cs',cs'.length=sz∧(∀ j u,cs'[j]? = some u→w.cell? (a.add (i*sz+j))=some u)∧DataW.trod enc Tryz.prog w base spare held n e cs'=some (D i,Pl i):=fun i hil=>by
   obtain ⟨cs',hc,ht'⟩:=hi i (by rw [hmm];split <;> omega);rw [hC] at hc;obtain ⟨_,hcl,hat⟩:=World.cells?_some hc;refine ⟨cs',hcl,fun j u hj=>?_,ht'⟩;have hjl:j<sz:=by
    have:=(List.getElem?_eq_some_iff.1 hj).1;omega
   rw [← Go.Deep.add_add,hat j hjl,hj]
  have hbk:Rows.uptoBulkAll ((List.range len).map D)+1≤Rows.uptoBulk x.1:=by
   rw [hx];simp only [Rows.uptoBulk];omega
  have key:∀ (k i:Nat),i+k=len→∃ xs:List β,xs.length=k∧(∀ j (hj:j<xs.length),∃ vs:List Value,vs.length=sz∧R vs xs[j]∧∀ q u,vs[q]? = some u→w.cell? (a.add ((i+j)*sz+q))=some u)∧
    xs.length+tot Wt xs≤2*Rows.uptoBulkAll ((List.range' i k).map D):=by
   intro k
   induction k with
   | zero=>exact fun i _=>⟨[],rfl,fun j hj=>by simp at hj,by simp [tot]⟩
   | succ k ih=>
    intro i hik;obtain ⟨r,hrl,hrc,hrw⟩:=ih (i+1) (by omega);obtain ⟨cs',hcl,hcc,hct⟩:=hcell i (by omega);have hDb:Rows.uptoBulk (D i)≤B:=by
     have:Rows.uptoBulk (D i)≤Rows.uptoBulkAll ((List.range len).map D):=mG (List.mem_map.2 ⟨i,List.mem_range.2 (by omega),rfl⟩);omega
    obtain ⟨x0,hx0,hw0⟩:=hel n cs' _ hcl hct hDb;refine ⟨x0::r,by simp [hrl],fun j hj=>?_, ?_⟩
    ·cases j with
     | zero=>exact ⟨cs',hcl,hx0,by simpa using hcc⟩
     | succ j=>
      obtain ⟨vs,h1,h2,h3⟩:=hrc j (by simpa using hj);exact ⟨vs,h1,h2,fun q u hq=>by rw [show i+(j+1)=i+1+j by omega];exact h3 q u hq⟩
    ·rw [List.range'_succ,List.map_cons];simp only [Rows.uptoBulkAll,gG,tot];simp only at hw0;omega
  obtain ⟨xs,hxl,hxc,hxw⟩:=key len 0 (by omega);refine ⟨xs,.slice (some a) len cap,hcs,⟨some a,cap,by rw [hxl],by omega,hm,fun hpos=>?_⟩, ?_⟩
  ·obtain ⟨b,off,rfl⟩:∃ b off,a=⟨b,off,none⟩:=by
    obtain ⟨vs, h1, _, h3⟩ := hxc 0 hpos; have hv0 : vs[0]? = some (vs[0]'(by omega)) := List.getElem?_eq_getElem (by omega); have c0 := h3 0 _ hv0; obtain ⟨b, off, sp⟩ := a; have hs : sp = none := by
     simp only [Nat.zero_add,Nat.zero_mul] at c0;exact (lZ c0).1
    exact ⟨b,off,by rw [hs]⟩
   refine ⟨b,off,rfl, ?_,fun i hi2=>?_⟩
   ·obtain ⟨vs, h1, _, h3⟩ := hxc 0 hpos; have hv0 : vs[0]? = some (vs[0]'(by omega)) := List.getElem?_eq_getElem (by omega); have c0 := h3 0 _ hv0; rw [mC] at c0; exact (lZ c0).2
   ·obtain ⟨vs,h1,h2,h3⟩:=hxc i hi2;refine ⟨vs,h1,h2,fun j u hj=>?_⟩;have:=h3 j u hj;rw [mC,Nat.zero_add] at this;rw [Nat.add_assoc];exact this
  ·rw [← List.range_eq_range'] at hxw;omega
def CRd (enc:TypeId×Value→H) (w:World) (base:Nat) (spare:Nat→Bool) (held:Bool) (f:Nat):Prop:=∀ (fuel:Nat) (cs:List Value) (x:DataW H×List MemPlace),Rows.uptoBulk x.1≤f→DataW.trod enc Tryz.prog w base spare held fuel 26 cs=some x→
 ∃ (xs:List (Nd f)) (v:Value),cs=[v]∧aV (Old w) w 10 (NdV f (Old w) w) v xs∧xs.length+tot (Nd.wt f) xs+2≤2*Rows.uptoBulk x.1
theorem rD (f:Nat) (hC:CRd enc w base spare held f):∀ (N:Nat) (fuel:Nat) (cs:List Value) (x:DataW H×List MemPlace),Rows.uptoBulk x.1≤N→N≤f+1→DataW.trod enc Tryz.prog w base spare held fuel 29 cs=some x→
  ∃ (l:Pts) (A:Option Addr) (c:Nat) (cc:List (List (Nd f))),cs=[.slice A l.len c]∧l.len≤c∧c≤maxLen∧aY (Old w) w A 0 l∧fB (fun cm l=>aV (Old w) w 10 (NdV f (Old w) w) cm.val l) l.allc cc∧
   l.wt+tot (fun l=>1+tot (Nd.wt f) l) cc+2≤2*Rows.uptoBulk x.1:=by
 intro N
 induction N with
 | zero=>intro _ _ x h;have:=dC x.1;omega
 | succ N ih=>
  intro fuel cs x hN hNf h;rcases open_structs Tryz.underlying29 Tryz.underlying50 (by kernel_rfl) (by kernel_rfl) h with ⟨hcs,hx⟩ | ⟨a,len,cap,D,sp,hcs,hl,hm,hx,hi⟩
  ·refine ⟨.nil,none,0,[],hcs,Nat.le_refl _,Nat.zero_le _,trivial,trivial, ?_⟩;have:=dC x.1;simp only [Pts.wt,tot];omega
  ·by_cases hz:len=0
   ·subst hz;refine ⟨.nil,some a,cap,[],hcs,Nat.zero_le _,hm,trivial,trivial, ?_⟩;have:=dC x.1;simp only [Pts.wt,tot];omega
   obtain ⟨b,off,rfl⟩:∃ b off,a=⟨b,off,none⟩:=by
    obtain ⟨_,_,_,_,hf⟩:=hi 0 (by omega);obtain ⟨v0,y0,c0,_⟩:=hf 0 _ rfl;obtain ⟨b,off,sp⟩:=a;have hs:sp=none:=by
     rw [Nat.zero_mul] at c0;exact (lZ c0).1
    exact ⟨b,off,by rw [hs]⟩
   have key:∀ (n i:Nat),i+n=len→∃ (l:Pts) (cc:List (List (Nd f))),l.len=n∧aY (Old w) w (some ⟨b,off,none⟩) i l∧fB (fun cm l=>aV (Old w) w 10 (NdV f (Old w) w) cm.val l) l.allc cc∧
     l.wt+tot (fun l=>1+tot (Nd.wt f) l) cc≤2*Rows.uptoBulkAll ((List.range' i n).map D):=by
    intro n
    induction n with
    | zero=>intro i _;exact ⟨.nil,[],rfl,trivial,trivial,Nat.zero_le _⟩
    | succ n ihn=>
     intro i hin;obtain ⟨r,rc,hrl,hrp,hra,hrw⟩:=ihn (i+1) (by omega);obtain ⟨ys,m,hD,hyl,hf⟩:=hi i (by omega);have hDb:Rows.uptoBulk (D i)≤N:=by
      have:Rows.uptoBulk (D i)≤Rows.uptoBulkAll ((List.range len).map D):=mG (List.mem_map.2 ⟨i,List.mem_range.2 (by omega),rfl⟩);rw [hx] at hN;simp only [Rows.uptoBulk] at hN;omega
     obtain ⟨v0,y0,c0,e0,t0⟩:=hf 0 _ rfl;obtain ⟨v1,y1,c1,e1,t1⟩:=hf 1 _ rfl;obtain ⟨v2,y2,c2,e2,t2⟩:=hf 2 _ rfl;obtain ⟨v3,y3,c3,e3,t3⟩:=hf 3 _ rfl;obtain ⟨v4,y4,c4,e4,t4⟩:=hf 4 _ rfl
     match ys,hyl with
     | [z0,z1,z2,z3,z4],_=>
      simp only [List.getElem?_cons_zero,List.getElem?_cons_succ,Option.some.injEq] at e0 e1 e2 e3 e4;subst e0 e1 e2 e3 e4;simp only [List.map_cons,List.map_nil] at hD;obtain ⟨k,hv0,hy0,_⟩:=DataW.trod_int Tryz.underlying3 t0;obtain ⟨t,hv1,hy1,_⟩:=DataW.trod_string Tryz.underlying9 t1;obtain ⟨o,hv2,hy2,_⟩:=DataW.trod_string Tryz.underlying9 t2;have hb:Rows.uptoBulk (D i)=1+(t.size+1)+(o.size+1)+Rows.uptoBulk z3.1+Rows.uptoBulk z4.1+1:=by
       rw [hD];simp only [Rows.uptoBulk,Rows.uptoBulkAll,hy0,hy1,hy2];have a1:t.data.toList.length=t.size:=by rw [Array.length_toList];rfl
       have a2:o.data.toList.length=o.size:=by rw [Array.length_toList];rfl
       omega
      obtain ⟨kids,Ak,ck,kc,hv3,hkl,hkm,hkp,hka,hkw⟩:=ih m _ z3 (by omega) (by omega) t3;obtain ⟨cl,vc,hv4,hsl,hcw⟩:=hC m _ z4 (by omega) t4;obtain ⟨Ac,nc,rfl,_⟩:=hsl.shape;simp only [List.cons.injEq,and_true] at hv0 hv1 hv2 hv3 hv4;subst hv0 hv1 hv2 hv3 hv4;rw [mC] at c0 c1 c2 c3 c4;refine ⟨.cons k t o kids ⟨Ac,cl.length,nc⟩ r,cl::(kc++rc),by rw [Pts.len,hrl],⟨b,off,Ak,ck,rfl,(lZ c0).2,c0,c1,c2,c3,c4,hkl,hkp,hrp⟩,⟨hsl,fB.app hka hra⟩, ?_⟩;rw [List.range'_succ,List.map_cons];simp only [Rows.uptoBulkAll,Pts.wt,tot,uP];omega
   obtain ⟨l,cc,hll,hlp,hla,hlw⟩:=key len 0 (by omega);refine ⟨l,some ⟨b,off,none⟩,cap,cc,by rw [hcs,hll],by omega,hm,hlp,hla, ?_⟩;rw [hx];rw [← List.range_eq_range'] at hlw;simp only [Rows.uptoBulk];omega
theorem D3 {β:Type} (l:List β) (h:l.length=1):∃ a,l=[a]:=by
 match l,h with
 | [a],_=>exact ⟨a,rfl⟩
theorem uO (t:ByteArray):t.data.toList.length=t.size:=by rw [Array.length_toList];rfl
theorem lY (f:Nat) (hf:f≤2097152) (hC:CRd enc w base spare held f) (fuel:Nat) (cs:List Value) (y:DataW H×List MemPlace) (hl:cs.length=1) (h:DataW.trod enc Tryz.prog w base spare held fuel 31 cs=some y) (hB:Rows.uptoBulk y.1≤f+1):
  ∃ x:WdF (Nd f),WdN f (Old w) w cs x∧wtW (Nd.wt f) x+1≤2*Rows.uptoBulk y.1:=by
 obtain ⟨v,rfl⟩:=D3 cs hl;obtain ⟨xs,n,_,hx,_,hlen,hg⟩:=DataW.trod_struct Tryz.underlying31 h
 match xs,hlen with
 | [y0],_=>
  have h0:DataW.trod enc Tryz.prog w base spare held n 29 ([v].take (Tryz.prog.cellsOf 29))=some y0:=hg 0 _ rfl;rw [show Tryz.prog.cellsOf 29=1 by kernel_rfl] at h0;have hy:Rows.uptoBulk y.1=Rows.uptoBulk y0.1+1:=by
   rw [hx];simp only [List.map_cons,List.map_nil,Rows.uptoBulk,Rows.uptoBulkAll,Nat.add_zero]
  obtain ⟨l,A,c,cc,hv,h1,h2,h3,h4,h5⟩:=rD f hC _ _ _ y0 (Nat.le_refl _) (by omega) h0;refine ⟨⟨l,cc⟩,⟨A,c,hv,h1,h2,by simp only;omega,h3,h4⟩, ?_⟩;unfold wtW;simp only;omega
theorem BY (f:Nat) (hf:f≤2097152) (hC:CRd enc w base spare held f) (fuel:Nat) (cs:List Value) (y:DataW H×List MemPlace) (hl:cs.length=4) (h:DataW.trod enc Tryz.prog w base spare held fuel 33 cs=some y) (hB:Rows.uptoBulk y.1≤f+1):
  ∃ x:RdF (Nd f),RdN f (Old w) w cs x∧wtR (Nd.wt f) x+1≤2*Rows.uptoBulk y.1:=by
 match cs,hl with
 | [c0,c1,c2,c3],_=>
  obtain ⟨xs,n,_,hx,_,hlen,hg⟩:=DataW.trod_struct Tryz.underlying33 h
  match xs,hlen with
  | [y0,y1,y2,y3],_=>
   have h0:DataW.trod enc Tryz.prog w base spare held n 9 ([c0,c1,c2,c3].take (Tryz.prog.cellsOf 9))=some y0:=hg 0 _ rfl;have h1:DataW.trod enc Tryz.prog w base spare held n 3 ([c1,c2,c3].take (Tryz.prog.cellsOf 3))=some y1:=hg 1 _ rfl;have h2:DataW.trod enc Tryz.prog w base spare held n 31 ([c2,c3].take (Tryz.prog.cellsOf 31))=some y2:=hg 2 _ rfl;have h3:DataW.trod enc Tryz.prog w base spare held n 9 ([c3].take (Tryz.prog.cellsOf 9))=some y3:=hg 3 _ rfl;rw [show Tryz.prog.cellsOf 9=1 by kernel_rfl] at h0 h3;rw [show Tryz.prog.cellsOf 3=1 by kernel_rfl] at h1;rw [show Tryz.prog.cellsOf 31=1 by kernel_rfl] at h2;obtain ⟨num,hv0,hy0,_⟩:=DataW.trod_string Tryz.underlying9 h0;obtain ⟨op,hv1,hy1,_⟩:=DataW.trod_int Tryz.underlying3 h1;obtain ⟨here,hv3,hy3,_⟩:=DataW.trod_string Tryz.underlying9 h3;have hy:Rows.uptoBulk y.1=(num.size+1)+1+Rows.uptoBulk y2.1+(here.size+1)+1:=by
    rw [hx];simp only [List.map_cons,List.map_nil,Rows.uptoBulk,Rows.uptoBulkAll,hy0,hy1,hy3,uO];omega
   obtain ⟨x,hxx,hw⟩:=lY f hf hC n _ y2 rfl h2 (by omega);obtain rfl:c0=.string num:=(List.cons.inj hv0).1;obtain rfl:c1=.int .i64 op:=(List.cons.inj hv1).1;obtain rfl:c3=.string here:=(List.cons.inj hv3).1;refine ⟨⟨num,op,x,here⟩,⟨c2,rfl,by simp only;omega,by simp only;omega,hxx⟩, ?_⟩;unfold wtR;simp only;omega
theorem oO (f:Nat) (hf:f≤2097152) (hC:CRd enc w base spare held f)
  (hA:∀ (fuel:Nat) (cs:List Value) (y:DataW H×List MemPlace),cs.length=11→DataW.trod enc Tryz.prog w base spare held fuel 54 cs=some y→Rows.uptoBulk y.1≤f→∃ x:ArF (Nd f),ArN f (Old w) w cs x∧wtA (Nd.wt f) x+1≤2*Rows.uptoBulk y.1)
  (fuel:Nat) (cs:List Value) (y:DataW H×List MemPlace) (hl:cs.length=10) (h:DataW.trod enc Tryz.prog w base spare held fuel 28 cs=some y) (hB:Rows.uptoBulk y.1≤f+1):
  ∃ x:NdF (Nd f),NdV (f+1) (Old w) w cs x∧wtF (Nd.wt f) x+1≤2*Rows.uptoBulk y.1:=by
 match cs,hl with
 | [c0,c1,c2,c3,c4,c5,c6,c7,c8,c9],_=>
  obtain ⟨xs,n,_,hx,_,hlen,hg⟩:=DataW.trod_struct Tryz.underlying28 h
  match xs,hlen with
  | [y0,y1,y2,y3,y4,y5,y6,y7,y8,y9],_=>
   have h0:DataW.trod enc Tryz.prog w base spare held n 3 ([c0,c1,c2,c3,c4,c5,c6,c7,c8,c9].take (Tryz.prog.cellsOf 3))=some y0:=hg 0 _ rfl;have h1:DataW.trod enc Tryz.prog w base spare held n 9 ([c1,c2,c3,c4,c5,c6,c7,c8,c9].take (Tryz.prog.cellsOf 9))=some y1:=hg 1 _ rfl;have h2:DataW.trod enc Tryz.prog w base spare held n 4 ([c2,c3,c4,c5,c6,c7,c8,c9].take (Tryz.prog.cellsOf 4))=some y2:=hg 2 _ rfl;have h3:DataW.trod enc Tryz.prog w base spare held n 4 ([c3,c4,c5,c6,c7,c8,c9].take (Tryz.prog.cellsOf 4))=some y3:=hg 3 _ rfl;have h4:DataW.trod enc Tryz.prog w base spare held n 22 ([c4,c5,c6,c7,c8,c9].take (Tryz.prog.cellsOf 22))=some y4:=hg 4 _ rfl;have h5:DataW.trod enc Tryz.prog w base spare held n 23 ([c5,c6,c7,c8,c9].take (Tryz.prog.cellsOf 23))=some y5:=hg 5 _ rfl;have h6:DataW.trod enc Tryz.prog w base spare held n 23 ([c6,c7,c8,c9].take (Tryz.prog.cellsOf 23))=some y6:=hg 6 _ rfl;have h7:DataW.trod enc Tryz.prog w base spare held n 24 ([c7,c8,c9].take (Tryz.prog.cellsOf 24))=some y7:=hg 7 _ rfl;have h8:DataW.trod enc Tryz.prog w base spare held n 25 ([c8,c9].take (Tryz.prog.cellsOf 25))=some y8:=hg 8 _ rfl;have h9:DataW.trod enc Tryz.prog w base spare held n 26 ([c9].take (Tryz.prog.cellsOf 26))=some y9:=hg 9 _ rfl;rw [show Tryz.prog.cellsOf 3=1 by kernel_rfl] at h0;rw [show Tryz.prog.cellsOf 9=1 by kernel_rfl] at h1;rw [show Tryz.prog.cellsOf 4=1 by kernel_rfl] at h2 h3;rw [show Tryz.prog.cellsOf 22=1 by kernel_rfl] at h4;rw [show Tryz.prog.cellsOf 23=1 by kernel_rfl] at h5 h6;rw [show Tryz.prog.cellsOf 24=1 by kernel_rfl] at h7;rw [show Tryz.prog.cellsOf 25=1 by kernel_rfl] at h8;rw [show Tryz.prog.cellsOf 26=1 by kernel_rfl] at h9;obtain ⟨k,hv0,hy0,_⟩:=DataW.trod_int Tryz.underlying3 h0;obtain ⟨s,hv1,hy1,_⟩:=DataW.trod_string Tryz.underlying9 h1;obtain ⟨nt,hv2,hy2⟩:=DataW.trod_bool Tryz.underlying4 h2;obtain ⟨ni,hv3,hy3⟩:=DataW.trod_bool Tryz.underlying4 h3;have hy:Rows.uptoBulk y.1=1+(s.size+1)+1+1+Rows.uptoBulk y4.1+Rows.uptoBulk y5.1+Rows.uptoBulk y6.1+Rows.uptoBulk y7.1+Rows.uptoBulk y8.1+Rows.uptoBulk y9.1+1:=by
    rw [hx];simp only [List.map_cons,List.map_nil,Rows.uptoBulk,Rows.uptoBulkAll,hy0,hy1,hy2,hy3,uO];omega
   have b4:=dC y4.1;have b5:=dC y5.1;have b6:=dC y6.1;have b7:=dC y7.1;have b8:=dC y8.1;have b9:=dC y9.1;obtain ⟨ops,w4,q4,s4,r4⟩:=eW Tryz.underlying22 (sz:=1) (by kernel_rfl) (by omega) lR (fun _=>0) f (fun fuel cs y hl h hB=>by
    obtain ⟨k,hv,hy,_⟩:=DataW.trod_int Tryz.underlying3 h;exact ⟨k,hv,by have:=dC y.1;omega⟩) n _ y4 h4 (by omega)
   obtain ⟨asg,w5,q5,s5,r5⟩:=eW Tryz.underlying23 (sz:=1) (by kernel_rfl) (by omega) (WdN f (Old w) w) (wtW (Nd.wt f)) f (fun fuel cs y hl h hB=>lY f hf hC fuel cs y hl h (by omega)) n _ y5 h5 (by omega);obtain ⟨wds,w6,q6,s6,r6⟩:=eW Tryz.underlying23 (sz:=1) (by kernel_rfl) (by omega) (WdN f (Old w) w) (wtW (Nd.wt f)) f (fun fuel cs y hl h hB=>lY f hf hC fuel cs y hl h (by omega)) n _ y6 h6 (by omega);obtain ⟨rds,w7,q7,s7,r7⟩:=eW Tryz.underlying24 (sz:=4) (by kernel_rfl) (by omega) (RdN f (Old w) w) (wtR (Nd.wt f)) f (fun fuel cs y hl h hB=>BY f hf hC fuel cs y hl h (by omega)) n _ y7 h7 (by omega);obtain ⟨ars,w8,q8,s8,r8⟩:=eW Tryz.underlying25 (sz:=11) (by kernel_rfl) (by omega) (ArN f (Old w) w) (wtA (Nd.wt f)) f (fun fuel cs y hl h hB=>hA fuel cs y hl h hB) n _ y8 h8 (by omega);obtain ⟨kds,w9,q9,s9,r9⟩:=hC n _ y9 (by omega) h9;obtain rfl:c0=.int .i64 k:=(List.cons.inj hv0).1;obtain rfl:c1=.string s:=(List.cons.inj hv1).1;obtain rfl:c2=.bool nt:=(List.cons.inj hv2).1;obtain rfl:c3=.bool ni:=(List.cons.inj hv3).1;obtain rfl:c4=w4:=(List.cons.inj q4).1;obtain rfl:c5=w5:=(List.cons.inj q5).1;obtain rfl:c6=w6:=(List.cons.inj q6).1;obtain rfl:c7=w7:=(List.cons.inj q7).1;obtain rfl:c8=w8:=(List.cons.inj q8).1;obtain rfl:c9=w9:=(List.cons.inj q9).1;refine ⟨NdF.mk k s nt ni ops asg wds rds ars kds,⟨c4,c5,c6,c7,c8,c9,rfl,⟨by simp only;omega,by simp only;omega⟩,s4,s5,s6,s7,s8,s9⟩, ?_⟩;unfold wtF;simp only;omega
theorem zA:∀ f:Nat,f≤2097152→CRd enc w base spare held f∧
  ∀ (fuel:Nat) (cs:List Value) (y:DataW H×List MemPlace),cs.length=11→DataW.trod enc Tryz.prog w base spare held fuel 54 cs=some y→Rows.uptoBulk y.1≤f→∃ x:ArF (Nd f),ArN f (Old w) w cs x∧wtA (Nd.wt f) x+1≤2*Rows.uptoBulk y.1:=by
 intro f
 induction f with
 | zero=>exact fun _=>⟨fun _ _ x h=>by have:=dC x.1;omega,fun _ _ y _ _ h=>by have:=dC y.1;omega⟩
 | succ f ih=>
  intro hf;obtain ⟨hC,hA⟩:=ih (by omega);have hN:∀ (fuel:Nat) (cs:List Value) (y:DataW H×List MemPlace),cs.length=10→DataW.trod enc Tryz.prog w base spare held fuel 28 cs=some y→Rows.uptoBulk y.1≤f+1→∃ x:Nd (f+1),NdV (f+1) (Old w) w cs x∧Nd.wt (f+1) x+1≤2*Rows.uptoBulk y.1:=
   fun fuel cs y hl h hB=>oO f (by omega) hC hA fuel cs y hl h hB
  have hC1:CRd enc w base spare held (f+1):=fun fuel cs x hB h=>eW Tryz.underlying26 (sz:=10) (by kernel_rfl) (by omega) (NdV (f+1) (Old w) w) (Nd.wt (f+1)) (f+1) hN fuel cs x h (by omega);refine ⟨hC1,fun fuel cs y hl h hB=>?_⟩
  match cs,hl with
  | [c0,c1,c2,c3,c4,c5,c6,c7,c8,c9,c10],_=>
   obtain ⟨xs,n,_,hx,_,hlen,hg⟩:=DataW.trod_struct Tryz.underlying54 h
   match xs,hlen with
   | [y0,y1],_=>
    have h0:DataW.trod enc Tryz.prog w base spare held n 23 ([c0,c1,c2,c3,c4,c5,c6,c7,c8,c9,c10].take (Tryz.prog.cellsOf 23))=some y0:=hg 0 _ rfl;have h1:DataW.trod enc Tryz.prog w base spare held n 28 ([c1,c2,c3,c4,c5,c6,c7,c8,c9,c10].take (Tryz.prog.cellsOf 28))=some y1:=hg 1 _ rfl;rw [show Tryz.prog.cellsOf 23=1 by kernel_rfl] at h0;rw [show Tryz.prog.cellsOf 28=10 by kernel_rfl] at h1;have hy:Rows.uptoBulk y.1=Rows.uptoBulk y0.1+Rows.uptoBulk y1.1+1:=by
     rw [hx];simp only [List.map_cons,List.map_nil,Rows.uptoBulk,Rows.uptoBulkAll];omega
    obtain ⟨ps,v0,q0,s0,r0⟩:=eW Tryz.underlying23 (sz:=1) (by kernel_rfl) (by omega) (WdN (f+1) (Old w) w) (wtW (Nd.wt (f+1))) (f+1) (fun fuel cs y hl h hB=>lY (f+1) hf hC1 fuel cs y hl h (by omega)) n _ y0 h0 (by omega);obtain ⟨bd,sb,rb⟩:=hN n _ y1 rfl h1 (by omega);obtain rfl:c0=v0:=(List.cons.inj q0).1;refine ⟨⟨ps,bd⟩,⟨c0,_,rfl,rfl,s0,sb⟩, ?_⟩;unfold wtA;simp only;omega
theorem tF {r:Reach} {b0:Nat} {v:Value} {d:DataW H} {ps:List MemPlace} (f:Nat) (hf:f≤2097152) (hv:Value.okWide Tryz.prog w r b0 28 v) (h:DataW.Trod enc Tryz.prog w base spare held 28 v d ps) (hB:Rows.uptoBulk d≤f+1):
  ∃ (vs:List Value) (x:Nd (f+1)),v=ag vs∧NdV (f+1) (Old w) w vs x∧Nd.wt (f+1) x+1≤2*Rows.uptoBulk d:=by
 obtain ⟨cs,rfl,hsz⟩:=okWide_struct Tryz.underlying28 hv;obtain ⟨l⟩:=cs;obtain ⟨fuel,hfu⟩:=h;obtain ⟨hC,hA⟩:=zA (enc:=enc) (w:=w) (base:=base) (spare:=spare) (held:=held) f hf;obtain ⟨x,h1,h2⟩:=oO f hf hC hA fuel l _ (hsz.trans (show Tryz.prog.cellsOf 28=10 by kernel_rfl)) hfu hB;exact ⟨l,x,rfl,h1,h2⟩
end
end Go.Proofs.YtjpopekmbmcggaaGreatDoor
namespace Go.Proofs.YtjpopekmbmcggaaGreatDoor
open Go.ChangeShapes Go.WideShapes Go.ChangeAt Go.RowKit
set_option linter.unusedVariables false
theorem DZ : Tryz.prog.globalNamed "conch/oper.texts" = some 2 := by kernel_rfl
theorem EP:(Tryz.prog.globals[2]?).map (·.type)=some 193:=by kernel_rfl
theorem EJ:Tryz.prog.cellsOf 193=18:=by kernel_rfl
abbrev pG:List (String×DataW Unit):=Rows.unparseShowsUptoRow.laid
theorem jU {W:World} (h:laidMetH Tryz.prog pG W):cW W∧cC W:=by
 rw [MakeChecks.laidMetH_plain _ _ _ (by kernel_rfl)] at h;obtain ⟨ps,hv,_⟩:=h;obtain ⟨g0,t0,cs0,f0,p0,q0,hg0,ht0,hv0,hd0,hrest,_⟩:=hv;obtain ⟨g1,t1,cs1,f1,p1,q1,hg1,ht1,hv1,hd1,_,_⟩:=hrest;obtain rfl:=Option.some.inj (DZ.symm.trans hg0);obtain rfl:=Option.some.inj (EP.symm.trans ht0);obtain rfl:=Option.some.inj (DY.symm.trans hg1);obtain rfl:=Option.some.inj (EO.symm.trans ht1);have e0:(Rows.laid_conch_oper_texts:DataW Unit)=.agg (Ope.texts.map fun z=>.lit (.string z)):=rfl;have e1:(Rows.laid_conch_posix_reserved:DataW Unit)=.agg (kF.map fun z=>.lit (.string z)):=rfl;rw [e0] at hd0;rw [e1] at hd1;have hcs0:=jE Tryz.underlying193 Tryz.underlying9 DW EJ hd0;have hcs1:=jE Tryz.underlying158 Tryz.underlying9 DW EI hd1;have hc0:cs0=fR:=by
  apply Array.ext';rw [hcs0];simp [fR]
 have hc1:cs1=dJ:=by
  apply Array.ext';rw [hcs1];simp [dJ]
 unfold World.var? at hv0 hv1; change (Tryz.prog.globalNamed "conch/oper.texts").bind _ = _ at hv0; change (Tryz.prog.globalNamed "conch/posix.reserved").bind _ = _ at hv1; rw [DZ] at hv0; rw [DY] at hv1; simp only [Option.bind_some] at hv0 hv1; refine ⟨?_, ?_⟩
 ·unfold cW
  split at hv0
  ·rename_i cs t fr hh;obtain rfl:=Option.some.inj hv0;rw [← hc0];exact ⟨t,fr,hh⟩
  ·cases hv0
 ·unfold cC
  split at hv1
  ·rename_i cs t fr hh;obtain rfl:=Option.some.inj hv1;rw [← hc1];exact ⟨t,fr,hh⟩
  ·cases hv1
theorem rE {W:World} (h:laidMetH Tryz.prog pG W):cC W:=(jU h).2
noncomputable def laidWorld2 (os:Os):World:=
 { laidWorld os with heap:=(laidWorld os).heap.modify 2 fun
   | .cells _ t frozen=>.cells fR t frozen
   | o=>o }
theorem vR (os:Os) (args:Array Value):laidMetH Tryz.prog pG ((laidWorld2 os).forCall (fun _ _=>0) ⟨#[],args,[]⟩).memory:=by
 rw [MakeChecks.laidMetH_plain _ _ _ (by kernel_rfl)];exact laidMet_of_run' 8 (by kernel_rfl) (by kernel_rfl)
section
variable {H:Type} {enc:TypeId×Value→H} {w:World} {base:Nat} {spare:Nat→Bool} {held:Bool}
end
end Go.Proofs.YtjpopekmbmcggaaGreatDoor
