/- Towards unparseHeres_card. -/
import Derived.Test.YtjpopekmbmcggaaGreatDoorUh30
set_option maxRecDepth 100000
set_option maxHeartbeats 16000000
namespace Go.Proofs.YtjpopekmbmcggaaGreatDoor
open Go.RowKit
theorem zW (f:Nat) (ih:RRt f) (_ih2:dK f) (G:Nat→Prop) (w:World) (vs:List Value) (x:NdF (Nd f)) (hG:∀ k,G k→k<w.heap.size) (hv:NdV (f+1) G w vs x) (hk:x.k=5):
    Calls Tryz.prog 38 #[ag vs] w fun e w'=>e=.returned (.bool (aO (Nd.vw f) x))∧Below w.heap.size w w':=by
  obtain ⟨ky,s,nt,ni,ops,asg,wds,rds,ars,kds⟩:=x;obtain ⟨A4,c4,A5,c5,A6,c6,A7,c7,A8,c8,A9,c9,rfl,hns,hal,hl4,hl5,hl6,hl7,hl8,hl9,hso,hsa,hsw,hsr,hsm,hsk⟩:=NdV.open hv;obtain ⟨HSO,HSA,HSW,HSR,HSM,HSK,HV⟩:=hs7 hso hsa hsw hsr hsm hsk hv;clear hso hsa hsw hsr hsm hsk hv;unfold ag;obtain ⟨W,hW,hbw,hb0⟩:=cpd w (.cells #[.int .i64 ky,.string s,.bool nt,.bool ni,.slice A4 ops.length c4,.slice A5 asg.length c5,.slice A6 wds.length c6,.slice A7 rds.length c7,.slice A8 ars.length c8,.slice A9 kds.length c9] 28);obtain ⟨x0,x1,x2,x3,x4,x5,x6,x7,x8,x9⟩:=c10 hb0;obtain ⟨HGW,HBW,HG,IH⟩:=hs4 (aG hG hbw) hbw hG ih;clear hbw hb0 hG ih;simp only at hk;obtain rfl:=hk;cases nt
  case true=>
    have RF:=Ha (DN (Nd.vw f) s true ni ops asg wds rds ars kds);go_enter Tryz.func38,Tryz.ntmps38;cases ni <;>
      (go_wp2_with fail
       go_ret;exact ⟨aC (by rw [RF.out];rfl),HBW.out⟩)
  cases ni
  case true=>
    have RF:=Ha (DN (Nd.vw f) s false true ops asg wds rds ars kds);go_enter Tryz.func38,Tryz.ntmps38;go_wp2_with fail;go_ret;exact ⟨aC (by rw [RF.out];rfl),HBW.out⟩
  have RF:=Ha (show aO (Nd.vw f) (NdF.mk 5 s false false ops asg wds rds ars kds)=(rds.all (aW (Nd.vw f))&&(wds.all (aP (Nd.vw f))&&(asg.all (aP (Nd.vw f))&&(aQ true true true true false true s ops asg wds rds ars&&(cS (Nd.vw f) 1 1 (NdF.mk 5 s false false ops asg wds rds ars kds)))))) from by rw [DN];rfl);go_enter Tryz.func38,Tryz.ntmps38;have HX:=Ha (cO f IH.out G _ rds W (aG HG.out HBW.out) (HSR.out.onR HG.out HBW.out));go_wp2_with fail;refine HX.out.mono ?_;rintro e w1 ⟨he,hb⟩;have HB1:=Ha (HBW.out.trans (hb.mono HBW.out.size));obtain ⟨y1_0,y1_1,y1_2,y1_3,y1_4,y1_5,y1_6,y1_7,y1_8,y1_9⟩:=ks10 hb x0 x1 x2 x3 x4 x5 x6 x7 x8 x9;clear hb HX;cases q:rds.all (aW (Nd.vw f))
  · rw [q] at he;subst he;have HQ0:=Ha q;clear q;go_wp2_with fail;go_ret;exact ⟨aC (by rw [RF.out,HQ0.out];rfl),HB1.out⟩
  rw [q] at he;subst he;have HQ0:=Ha q;clear q;have HX:=Ha (bK f IH.out G _ wds w1 (aG HG.out HB1.out) (HSW.out.onW HG.out HB1.out));go_wp2_with fail;refine HX.out.mono ?_;rintro e w2 ⟨he,hb⟩;have HB2:=Ha (HB1.out.trans (hb.mono HB1.out.size));obtain ⟨y2_0,y2_1,y2_2,y2_3,y2_4,y2_5,y2_6,y2_7,y2_8,y2_9⟩:=ks10 hb y1_0 y1_1 y1_2 y1_3 y1_4 y1_5 y1_6 y1_7 y1_8 y1_9;clear hb HX y1_0 y1_1 y1_2 y1_3 y1_4 y1_5 y1_6 y1_7 y1_8 y1_9;cases q:wds.all (aP (Nd.vw f))
  · rw [q] at he;subst he;have HQ1:=Ha q;clear q;go_wp2_with fail;go_ret;exact ⟨aC (by rw [RF.out,HQ0.out,HQ1.out];rfl),HB2.out⟩
  rw [q] at he;subst he;have HQ1:=Ha q;clear q;have HX:=Ha (bK f IH.out G _ asg w2 (aG HG.out HB2.out) (HSA.out.onW HG.out HB2.out));go_wp2_with fail;refine HX.out.mono ?_;rintro e w3 ⟨he,hb⟩;have HB3:=Ha (HB2.out.trans (hb.mono HB2.out.size));obtain ⟨y3_0,y3_1,y3_2,y3_3,y3_4,y3_5,y3_6,y3_7,y3_8,y3_9⟩:=ks10 hb y2_0 y2_1 y2_2 y2_3 y2_4 y2_5 y2_6 y2_7 y2_8 y2_9;clear hb HX y2_0 y2_1 y2_2 y2_3 y2_4 y2_5 y2_6 y2_7 y2_8 y2_9;cases q:asg.all (aP (Nd.vw f))
  · rw [q] at he;subst he;have HQ2:=Ha q;clear q;go_wp2_with fail;go_ret;exact ⟨aC (by rw [RF.out,HQ0.out,HQ1.out,HQ2.out];rfl),HB3.out⟩
  rw [q] at he;subst he;have HQ2:=Ha q;clear q;have HX:=Ha (dE f true true true true false true G w3 _ _ (aG HG.out HB3.out) (HV.out.below HG.out HB3.out));go_wp2_with fail;refine HX.out.mono ?_;rintro e w4 ⟨he,hb⟩;have HB4:=Ha (HB3.out.trans (hb.mono HB3.out.size));obtain ⟨y4_0,y4_1,y4_2,y4_3,y4_4,y4_5,y4_6,y4_7,y4_8,y4_9⟩:=ks10 hb y3_0 y3_1 y3_2 y3_3 y3_4 y3_5 y3_6 y3_7 y3_8 y3_9;clear hb HX y3_0 y3_1 y3_2 y3_3 y3_4 y3_5 y3_6 y3_7 y3_8 y3_9;cases q:aQ true true true true false true s ops asg wds rds ars
  · rw [q] at he;subst he;have HQ3:=Ha q;clear q;go_wp2_with fail;go_ret;exact ⟨aC (by rw [RF.out,HQ0.out,HQ1.out,HQ2.out,HQ3.out];rfl),HB4.out⟩
  rw [q] at he;subst he;have HQ3:=Ha q;clear q;have HX:=Ha (g5 f IH.out 1 1 G w4 _ _ (aG HG.out HB4.out) (HV.out.below HG.out HB4.out));go_wp2_with fail;refine HX.out.mono ?_;rintro e w5 ⟨rfl,hb⟩;have HB5:=Ha (HB4.out.trans (hb.mono HB4.out.size));obtain ⟨y5_0,y5_1,y5_2,y5_3,y5_4,y5_5,y5_6,y5_7,y5_8,y5_9⟩:=ks10 hb y4_0 y4_1 y4_2 y4_3 y4_4 y4_5 y4_6 y4_7 y4_8 y4_9;clear hb HX y4_0 y4_1 y4_2 y4_3 y4_4 y4_5 y4_6 y4_7 y4_8 y4_9;go_wp2_with fail;go_ret;exact ⟨aC (by rw [RF.out,HQ0.out,HQ1.out,HQ2.out,HQ3.out];rfl),HB5.out⟩
theorem zX (f:Nat) (ih:RRt f) (_ih2:dK f) (G:Nat→Prop) (w:World) (vs:List Value) (x:NdF (Nd f)) (hG:∀ k,G k→k<w.heap.size) (hv:NdV (f+1) G w vs x) (hk:x.k=6):
    Calls Tryz.prog 38 #[ag vs] w fun e w'=>e=.returned (.bool (aO (Nd.vw f) x))∧Below w.heap.size w w':=by
  obtain ⟨ky,s,nt,ni,ops,asg,wds,rds,ars,kds⟩:=x;obtain ⟨A4,c4,A5,c5,A6,c6,A7,c7,A8,c8,A9,c9,rfl,hns,hal,hl4,hl5,hl6,hl7,hl8,hl9,hso,hsa,hsw,hsr,hsm,hsk⟩:=NdV.open hv;obtain ⟨HSO,HSA,HSW,HSR,HSM,HSK,HV⟩:=hs7 hso hsa hsw hsr hsm hsk hv;clear hso hsa hsw hsr hsm hsk hv;unfold ag;obtain ⟨W,hW,hbw,hb0⟩:=cpd w (.cells #[.int .i64 ky,.string s,.bool nt,.bool ni,.slice A4 ops.length c4,.slice A5 asg.length c5,.slice A6 wds.length c6,.slice A7 rds.length c7,.slice A8 ars.length c8,.slice A9 kds.length c9] 28);obtain ⟨x0,x1,x2,x3,x4,x5,x6,x7,x8,x9⟩:=c10 hb0;obtain ⟨HGW,HBW,HG,IH⟩:=hs4 (aG hG hbw) hbw hG ih;clear hbw hb0 hG ih;simp only at hk;obtain rfl:=hk;cases nt
  case true=>
    have RF:=Ha (DO (Nd.vw f) s true ni ops asg wds rds ars kds);go_enter Tryz.func38,Tryz.ntmps38;cases ni <;>
      (go_wp2_with fail
       go_ret;exact ⟨aC (by rw [RF.out];rfl),HBW.out⟩)
  cases ni
  case true=>
    have RF:=Ha (DO (Nd.vw f) s false true ops asg wds rds ars kds);go_enter Tryz.func38,Tryz.ntmps38;go_wp2_with fail;go_ret;exact ⟨aC (by rw [RF.out];rfl),HBW.out⟩
  have RF:=Ha (show aO (Nd.vw f) (NdF.mk 6 s false false ops asg wds rds ars kds)=(rds.all (aW (Nd.vw f))&&(wds.all (aP (Nd.vw f))&&(asg.all (aP (Nd.vw f))&&(aQ true true true true false true s ops asg wds rds ars&&(cS (Nd.vw f) 1 1 (NdF.mk 6 s false false ops asg wds rds ars kds)))))) from by rw [DO];rfl);go_enter Tryz.func38,Tryz.ntmps38;have HX:=Ha (cO f IH.out G _ rds W (aG HG.out HBW.out) (HSR.out.onR HG.out HBW.out));go_wp2_with fail;refine HX.out.mono ?_;rintro e w1 ⟨he,hb⟩;have HB1:=Ha (HBW.out.trans (hb.mono HBW.out.size));obtain ⟨y1_0,y1_1,y1_2,y1_3,y1_4,y1_5,y1_6,y1_7,y1_8,y1_9⟩:=ks10 hb x0 x1 x2 x3 x4 x5 x6 x7 x8 x9;clear hb HX;cases q:rds.all (aW (Nd.vw f))
  · rw [q] at he;subst he;have HQ0:=Ha q;clear q;go_wp2_with fail;go_ret;exact ⟨aC (by rw [RF.out,HQ0.out];rfl),HB1.out⟩
  rw [q] at he;subst he;have HQ0:=Ha q;clear q;have HX:=Ha (bK f IH.out G _ wds w1 (aG HG.out HB1.out) (HSW.out.onW HG.out HB1.out));go_wp2_with fail;refine HX.out.mono ?_;rintro e w2 ⟨he,hb⟩;have HB2:=Ha (HB1.out.trans (hb.mono HB1.out.size));obtain ⟨y2_0,y2_1,y2_2,y2_3,y2_4,y2_5,y2_6,y2_7,y2_8,y2_9⟩:=ks10 hb y1_0 y1_1 y1_2 y1_3 y1_4 y1_5 y1_6 y1_7 y1_8 y1_9;clear hb HX y1_0 y1_1 y1_2 y1_3 y1_4 y1_5 y1_6 y1_7 y1_8 y1_9;cases q:wds.all (aP (Nd.vw f))
  · rw [q] at he;subst he;have HQ1:=Ha q;clear q;go_wp2_with fail;go_ret;exact ⟨aC (by rw [RF.out,HQ0.out,HQ1.out];rfl),HB2.out⟩
  rw [q] at he;subst he;have HQ1:=Ha q;clear q;have HX:=Ha (bK f IH.out G _ asg w2 (aG HG.out HB2.out) (HSA.out.onW HG.out HB2.out));go_wp2_with fail;refine HX.out.mono ?_;rintro e w3 ⟨he,hb⟩;have HB3:=Ha (HB2.out.trans (hb.mono HB2.out.size));obtain ⟨y3_0,y3_1,y3_2,y3_3,y3_4,y3_5,y3_6,y3_7,y3_8,y3_9⟩:=ks10 hb y2_0 y2_1 y2_2 y2_3 y2_4 y2_5 y2_6 y2_7 y2_8 y2_9;clear hb HX y2_0 y2_1 y2_2 y2_3 y2_4 y2_5 y2_6 y2_7 y2_8 y2_9;cases q:asg.all (aP (Nd.vw f))
  · rw [q] at he;subst he;have HQ2:=Ha q;clear q;go_wp2_with fail;go_ret;exact ⟨aC (by rw [RF.out,HQ0.out,HQ1.out,HQ2.out];rfl),HB3.out⟩
  rw [q] at he;subst he;have HQ2:=Ha q;clear q;have HX:=Ha (dE f true true true true false true G w3 _ _ (aG HG.out HB3.out) (HV.out.below HG.out HB3.out));go_wp2_with fail;refine HX.out.mono ?_;rintro e w4 ⟨he,hb⟩;have HB4:=Ha (HB3.out.trans (hb.mono HB3.out.size));obtain ⟨y4_0,y4_1,y4_2,y4_3,y4_4,y4_5,y4_6,y4_7,y4_8,y4_9⟩:=ks10 hb y3_0 y3_1 y3_2 y3_3 y3_4 y3_5 y3_6 y3_7 y3_8 y3_9;clear hb HX y3_0 y3_1 y3_2 y3_3 y3_4 y3_5 y3_6 y3_7 y3_8 y3_9;cases q:aQ true true true true false true s ops asg wds rds ars
  · rw [q] at he;subst he;have HQ3:=Ha q;clear q;go_wp2_with fail;go_ret;exact ⟨aC (by rw [RF.out,HQ0.out,HQ1.out,HQ2.out,HQ3.out];rfl),HB4.out⟩
  rw [q] at he;subst he;have HQ3:=Ha q;clear q;have HX:=Ha (g5 f IH.out 1 1 G w4 _ _ (aG HG.out HB4.out) (HV.out.below HG.out HB4.out));go_wp2_with fail;refine HX.out.mono ?_;rintro e w5 ⟨rfl,hb⟩;have HB5:=Ha (HB4.out.trans (hb.mono HB4.out.size));obtain ⟨y5_0,y5_1,y5_2,y5_3,y5_4,y5_5,y5_6,y5_7,y5_8,y5_9⟩:=ks10 hb y4_0 y4_1 y4_2 y4_3 y4_4 y4_5 y4_6 y4_7 y4_8 y4_9;clear hb HX y4_0 y4_1 y4_2 y4_3 y4_4 y4_5 y4_6 y4_7 y4_8 y4_9;go_wp2_with fail;go_ret;exact ⟨aC (by rw [RF.out,HQ0.out,HQ1.out,HQ2.out,HQ3.out];rfl),HB5.out⟩
theorem zY (f:Nat) (ih:RRt f) (_ih2:dK f) (G:Nat→Prop) (w:World) (vs:List Value) (x:NdF (Nd f)) (hG:∀ k,G k→k<w.heap.size) (hv:NdV (f+1) G w vs x) (hk:x.k=7):
    Calls Tryz.prog 38 #[ag vs] w fun e w'=>e=.returned (.bool (aO (Nd.vw f) x))∧Below w.heap.size w w':=by
  obtain ⟨ky,s,nt,ni,ops,asg,wds,rds,ars,kds⟩:=x;obtain ⟨A4,c4,A5,c5,A6,c6,A7,c7,A8,c8,A9,c9,rfl,hns,hal,hl4,hl5,hl6,hl7,hl8,hl9,hso,hsa,hsw,hsr,hsm,hsk⟩:=NdV.open hv;obtain ⟨HSO,HSA,HSW,HSR,HSM,HSK,HV⟩:=hs7 hso hsa hsw hsr hsm hsk hv;clear hso hsa hsw hsr hsm hsk hv;unfold ag;obtain ⟨W,hW,hbw,hb0⟩:=cpd w (.cells #[.int .i64 ky,.string s,.bool nt,.bool ni,.slice A4 ops.length c4,.slice A5 asg.length c5,.slice A6 wds.length c6,.slice A7 rds.length c7,.slice A8 ars.length c8,.slice A9 kds.length c9] 28);obtain ⟨x0,x1,x2,x3,x4,x5,x6,x7,x8,x9⟩:=c10 hb0;obtain ⟨HGW,HBW,HG,IH⟩:=hs4 (aG hG hbw) hbw hG ih;clear hbw hb0 hG ih;simp only at hk;obtain rfl:=hk;cases nt
  case true=>
    have RF:=Ha (DP (Nd.vw f) s true ni ops asg wds rds ars kds);go_enter Tryz.func38,Tryz.ntmps38;cases ni <;>
      (go_wp2_with fail
       go_ret;exact ⟨aC (by rw [RF.out];rfl),HBW.out⟩)
  cases ni
  · have RF:=Ha (show aO (Nd.vw f) (NdF.mk 7 s false false ops asg wds rds ars kds)=(rds.all (aW (Nd.vw f))&&(wds.all (aP (Nd.vw f))&&(asg.all (aP (Nd.vw f))&&(aQ false true true (!false) false true s ops asg wds rds ars&&(Chr.name s.toList&&cS (Nd.vw f) 1 1 (NdF.mk 7 s false false ops asg wds rds ars kds)))))) from by rw [DP];rfl);go_enter Tryz.func38,Tryz.ntmps38;have HX:=Ha (cO f IH.out G _ rds W (aG HG.out HBW.out) (HSR.out.onR HG.out HBW.out));go_wp2_with fail;refine HX.out.mono ?_;rintro e w1 ⟨he,hb⟩;have HB1:=Ha (HBW.out.trans (hb.mono HBW.out.size));obtain ⟨y1_0,y1_1,y1_2,y1_3,y1_4,y1_5,y1_6,y1_7,y1_8,y1_9⟩:=ks10 hb x0 x1 x2 x3 x4 x5 x6 x7 x8 x9;clear hb HX;cases q:rds.all (aW (Nd.vw f))
    · rw [q] at he;subst he;have HQ0:=Ha q;clear q;go_wp2_with fail;go_ret;exact ⟨aC (by rw [RF.out,HQ0.out];rfl),HB1.out⟩
    rw [q] at he;subst he;have HQ0:=Ha q;clear q;have HX:=Ha (bK f IH.out G _ wds w1 (aG HG.out HB1.out) (HSW.out.onW HG.out HB1.out));go_wp2_with fail;refine HX.out.mono ?_;rintro e w2 ⟨he,hb⟩;have HB2:=Ha (HB1.out.trans (hb.mono HB1.out.size));obtain ⟨y2_0,y2_1,y2_2,y2_3,y2_4,y2_5,y2_6,y2_7,y2_8,y2_9⟩:=ks10 hb y1_0 y1_1 y1_2 y1_3 y1_4 y1_5 y1_6 y1_7 y1_8 y1_9;clear hb HX y1_0 y1_1 y1_2 y1_3 y1_4 y1_5 y1_6 y1_7 y1_8 y1_9;cases q:wds.all (aP (Nd.vw f))
    · rw [q] at he;subst he;have HQ1:=Ha q;clear q;go_wp2_with fail;go_ret;exact ⟨aC (by rw [RF.out,HQ0.out,HQ1.out];rfl),HB2.out⟩
    rw [q] at he;subst he;have HQ1:=Ha q;clear q;have HX:=Ha (bK f IH.out G _ asg w2 (aG HG.out HB2.out) (HSA.out.onW HG.out HB2.out));go_wp2_with fail;refine HX.out.mono ?_;rintro e w3 ⟨he,hb⟩;have HB3:=Ha (HB2.out.trans (hb.mono HB2.out.size));obtain ⟨y3_0,y3_1,y3_2,y3_3,y3_4,y3_5,y3_6,y3_7,y3_8,y3_9⟩:=ks10 hb y2_0 y2_1 y2_2 y2_3 y2_4 y2_5 y2_6 y2_7 y2_8 y2_9;clear hb HX y2_0 y2_1 y2_2 y2_3 y2_4 y2_5 y2_6 y2_7 y2_8 y2_9;cases q:asg.all (aP (Nd.vw f))
    · rw [q] at he;subst he;have HQ2:=Ha q;clear q;go_wp2_with fail;go_ret;exact ⟨aC (by rw [RF.out,HQ0.out,HQ1.out,HQ2.out];rfl),HB3.out⟩
    rw [q] at he;subst he;have HQ2:=Ha q;clear q;have HX:=Ha (dE f false true true (!false) false true G w3 _ _ (aG HG.out HB3.out) (HV.out.below HG.out HB3.out));go_wp2_with fail;refine HX.out.mono ?_;rintro e w4 ⟨he,hb⟩;have HB4:=Ha (HB3.out.trans (hb.mono HB3.out.size));obtain ⟨y4_0,y4_1,y4_2,y4_3,y4_4,y4_5,y4_6,y4_7,y4_8,y4_9⟩:=ks10 hb y3_0 y3_1 y3_2 y3_3 y3_4 y3_5 y3_6 y3_7 y3_8 y3_9;clear hb HX y3_0 y3_1 y3_2 y3_3 y3_4 y3_5 y3_6 y3_7 y3_8 y3_9;cases q:aQ false true true (!false) false true s ops asg wds rds ars
    · rw [q] at he;subst he;have HQ3:=Ha q;clear q;go_wp2_with fail;go_ret;exact ⟨aC (by rw [RF.out,HQ0.out,HQ1.out,HQ2.out,HQ3.out];rfl),HB4.out⟩
    rw [q] at he;subst he;have HQ3:=Ha q;clear q;have HX:=Ha (pI s w4 (by omega));go_wp2_with fail;refine HX.out.mono ?_;rintro e w5 ⟨he,hb⟩;have HB5:=Ha (HB4.out.trans (hb.mono HB4.out.size));obtain ⟨y5_0,y5_1,y5_2,y5_3,y5_4,y5_5,y5_6,y5_7,y5_8,y5_9⟩:=ks10 hb y4_0 y4_1 y4_2 y4_3 y4_4 y4_5 y4_6 y4_7 y4_8 y4_9;clear hb HX y4_0 y4_1 y4_2 y4_3 y4_4 y4_5 y4_6 y4_7 y4_8 y4_9;cases q:Chr.name s.toList
    · rw [q] at he;subst he;have HQ4:=Ha q;clear q;go_wp2_with fail;go_ret;exact ⟨aC (by rw [RF.out,HQ0.out,HQ1.out,HQ2.out,HQ3.out,HQ4.out];rfl),HB5.out⟩
    rw [q] at he;subst he;have HQ4:=Ha q;clear q;have HX:=Ha (g5 f IH.out 1 1 G w5 _ _ (aG HG.out HB5.out) (HV.out.below HG.out HB5.out));go_wp2_with fail;refine HX.out.mono ?_;rintro e w6 ⟨rfl,hb⟩;have HB6:=Ha (HB5.out.trans (hb.mono HB5.out.size));obtain ⟨y6_0,y6_1,y6_2,y6_3,y6_4,y6_5,y6_6,y6_7,y6_8,y6_9⟩:=ks10 hb y5_0 y5_1 y5_2 y5_3 y5_4 y5_5 y5_6 y5_7 y5_8 y5_9;clear hb HX y5_0 y5_1 y5_2 y5_3 y5_4 y5_5 y5_6 y5_7 y5_8 y5_9;go_wp2_with fail;go_ret;exact ⟨aC (by rw [RF.out,HQ0.out,HQ1.out,HQ2.out,HQ3.out,HQ4.out];rfl),HB6.out⟩
  have RF:=Ha (show aO (Nd.vw f) (NdF.mk 7 s false true ops asg wds rds ars kds)=(rds.all (aW (Nd.vw f))&&(wds.all (aP (Nd.vw f))&&(asg.all (aP (Nd.vw f))&&(aQ false true true (!true) false true s ops asg wds rds ars&&(Chr.name s.toList&&cS (Nd.vw f) 1 1 (NdF.mk 7 s false true ops asg wds rds ars kds)))))) from by rw [DP];rfl);go_enter Tryz.func38,Tryz.ntmps38;have HX:=Ha (cO f IH.out G _ rds W (aG HG.out HBW.out) (HSR.out.onR HG.out HBW.out));go_wp2_with fail;refine HX.out.mono ?_;rintro e w1 ⟨he,hb⟩;have HB1:=Ha (HBW.out.trans (hb.mono HBW.out.size));obtain ⟨y1_0,y1_1,y1_2,y1_3,y1_4,y1_5,y1_6,y1_7,y1_8,y1_9⟩:=ks10 hb x0 x1 x2 x3 x4 x5 x6 x7 x8 x9;clear hb HX;cases q:rds.all (aW (Nd.vw f))
  · rw [q] at he;subst he;have HQ0:=Ha q;clear q;go_wp2_with fail;go_ret;exact ⟨aC (by rw [RF.out,HQ0.out];rfl),HB1.out⟩
  rw [q] at he;subst he;have HQ0:=Ha q;clear q;have HX:=Ha (bK f IH.out G _ wds w1 (aG HG.out HB1.out) (HSW.out.onW HG.out HB1.out));go_wp2_with fail;refine HX.out.mono ?_;rintro e w2 ⟨he,hb⟩;have HB2:=Ha (HB1.out.trans (hb.mono HB1.out.size));obtain ⟨y2_0,y2_1,y2_2,y2_3,y2_4,y2_5,y2_6,y2_7,y2_8,y2_9⟩:=ks10 hb y1_0 y1_1 y1_2 y1_3 y1_4 y1_5 y1_6 y1_7 y1_8 y1_9;clear hb HX y1_0 y1_1 y1_2 y1_3 y1_4 y1_5 y1_6 y1_7 y1_8 y1_9;cases q:wds.all (aP (Nd.vw f))
  · rw [q] at he;subst he;have HQ1:=Ha q;clear q;go_wp2_with fail;go_ret;exact ⟨aC (by rw [RF.out,HQ0.out,HQ1.out];rfl),HB2.out⟩
  rw [q] at he;subst he;have HQ1:=Ha q;clear q;have HX:=Ha (bK f IH.out G _ asg w2 (aG HG.out HB2.out) (HSA.out.onW HG.out HB2.out));go_wp2_with fail;refine HX.out.mono ?_;rintro e w3 ⟨he,hb⟩;have HB3:=Ha (HB2.out.trans (hb.mono HB2.out.size));obtain ⟨y3_0,y3_1,y3_2,y3_3,y3_4,y3_5,y3_6,y3_7,y3_8,y3_9⟩:=ks10 hb y2_0 y2_1 y2_2 y2_3 y2_4 y2_5 y2_6 y2_7 y2_8 y2_9;clear hb HX y2_0 y2_1 y2_2 y2_3 y2_4 y2_5 y2_6 y2_7 y2_8 y2_9;cases q:asg.all (aP (Nd.vw f))
  · rw [q] at he;subst he;have HQ2:=Ha q;clear q;go_wp2_with fail;go_ret;exact ⟨aC (by rw [RF.out,HQ0.out,HQ1.out,HQ2.out];rfl),HB3.out⟩
  rw [q] at he;subst he;have HQ2:=Ha q;clear q;have HX:=Ha (dE f false true true (!true) false true G w3 _ _ (aG HG.out HB3.out) (HV.out.below HG.out HB3.out));go_wp2_with fail;refine HX.out.mono ?_;rintro e w4 ⟨he,hb⟩;have HB4:=Ha (HB3.out.trans (hb.mono HB3.out.size));obtain ⟨y4_0,y4_1,y4_2,y4_3,y4_4,y4_5,y4_6,y4_7,y4_8,y4_9⟩:=ks10 hb y3_0 y3_1 y3_2 y3_3 y3_4 y3_5 y3_6 y3_7 y3_8 y3_9;clear hb HX y3_0 y3_1 y3_2 y3_3 y3_4 y3_5 y3_6 y3_7 y3_8 y3_9;cases q:aQ false true true (!true) false true s ops asg wds rds ars
  · rw [q] at he;subst he;have HQ3:=Ha q;clear q;go_wp2_with fail;go_ret;exact ⟨aC (by rw [RF.out,HQ0.out,HQ1.out,HQ2.out,HQ3.out];rfl),HB4.out⟩
  rw [q] at he;subst he;have HQ3:=Ha q;clear q;have HX:=Ha (pI s w4 (by omega));go_wp2_with fail;refine HX.out.mono ?_;rintro e w5 ⟨he,hb⟩;have HB5:=Ha (HB4.out.trans (hb.mono HB4.out.size));obtain ⟨y5_0,y5_1,y5_2,y5_3,y5_4,y5_5,y5_6,y5_7,y5_8,y5_9⟩:=ks10 hb y4_0 y4_1 y4_2 y4_3 y4_4 y4_5 y4_6 y4_7 y4_8 y4_9;clear hb HX y4_0 y4_1 y4_2 y4_3 y4_4 y4_5 y4_6 y4_7 y4_8 y4_9;cases q:Chr.name s.toList
  · rw [q] at he;subst he;have HQ4:=Ha q;clear q;go_wp2_with fail;go_ret;exact ⟨aC (by rw [RF.out,HQ0.out,HQ1.out,HQ2.out,HQ3.out,HQ4.out];rfl),HB5.out⟩
  rw [q] at he;subst he;have HQ4:=Ha q;clear q;have HX:=Ha (g5 f IH.out 1 1 G w5 _ _ (aG HG.out HB5.out) (HV.out.below HG.out HB5.out));go_wp2_with fail;refine HX.out.mono ?_;rintro e w6 ⟨rfl,hb⟩;have HB6:=Ha (HB5.out.trans (hb.mono HB5.out.size));obtain ⟨y6_0,y6_1,y6_2,y6_3,y6_4,y6_5,y6_6,y6_7,y6_8,y6_9⟩:=ks10 hb y5_0 y5_1 y5_2 y5_3 y5_4 y5_5 y5_6 y5_7 y5_8 y5_9;clear hb HX y5_0 y5_1 y5_2 y5_3 y5_4 y5_5 y5_6 y5_7 y5_8 y5_9;go_wp2_with fail;go_ret;exact ⟨aC (by rw [RF.out,HQ0.out,HQ1.out,HQ2.out,HQ3.out,HQ4.out];rfl),HB6.out⟩
theorem zZ (f:Nat) (ih:RRt f) (_ih2:dK f) (G:Nat→Prop) (w:World) (vs:List Value) (x:NdF (Nd f)) (hG:∀ k,G k→k<w.heap.size) (hv:NdV (f+1) G w vs x) (hk:x.k=8):
    Calls Tryz.prog 38 #[ag vs] w fun e w'=>e=.returned (.bool (aO (Nd.vw f) x))∧Below w.heap.size w w':=by
  obtain ⟨ky,s,nt,ni,ops,asg,wds,rds,ars,kds⟩:=x;obtain ⟨A4,c4,A5,c5,A6,c6,A7,c7,A8,c8,A9,c9,rfl,hns,hal,hl4,hl5,hl6,hl7,hl8,hl9,hso,hsa,hsw,hsr,hsm,hsk⟩:=NdV.open hv;obtain ⟨HSO,HSA,HSW,HSR,HSM,HSK,HV⟩:=hs7 hso hsa hsw hsr hsm hsk hv;clear hso hsa hsw hsr hsm hsk hv;unfold ag;obtain ⟨W,hW,hbw,hb0⟩:=cpd w (.cells #[.int .i64 ky,.string s,.bool nt,.bool ni,.slice A4 ops.length c4,.slice A5 asg.length c5,.slice A6 wds.length c6,.slice A7 rds.length c7,.slice A8 ars.length c8,.slice A9 kds.length c9] 28);obtain ⟨x0,x1,x2,x3,x4,x5,x6,x7,x8,x9⟩:=c10 hb0;obtain ⟨HGW,HBW,HG,IH⟩:=hs4 (aG hG hbw) hbw hG ih;clear hbw hb0 hG ih;simp only at hk;obtain rfl:=hk;cases nt
  case true=>
    have RF:=Ha (DQ (Nd.vw f) s true ni ops asg wds rds ars kds);go_enter Tryz.func38,Tryz.ntmps38;cases ni <;>
      (go_wp2_with fail
       go_ret;exact ⟨aC (by rw [RF.out];rfl),HBW.out⟩)
  cases ni
  case true=>
    have RF:=Ha (DQ (Nd.vw f) s false true ops asg wds rds ars kds);go_enter Tryz.func38,Tryz.ntmps38;go_wp2_with fail;go_ret;exact ⟨aC (by rw [RF.out];rfl),HBW.out⟩
  have RF:=Ha (show aO (Nd.vw f) (NdF.mk 8 s false false ops asg wds rds ars kds)=(rds.all (aW (Nd.vw f))&&(wds.all (aP (Nd.vw f))&&(asg.all (aP (Nd.vw f))&&(aQ true true true false false false s ops asg wds rds ars&&((wds.length==1)&&((kds.length==0)&&ars.all (iJ (Nd.vw f)))))))) from by rw [DQ];rfl);go_enter Tryz.func38,Tryz.ntmps38;have HX:=Ha (cO f IH.out G _ rds W (aG HG.out HBW.out) (HSR.out.onR HG.out HBW.out));go_wp2_with fail;refine HX.out.mono ?_;rintro e w1 ⟨he,hb⟩;have HB1:=Ha (HBW.out.trans (hb.mono HBW.out.size));obtain ⟨y1_0,y1_1,y1_2,y1_3,y1_4,y1_5,y1_6,y1_7,y1_8,y1_9⟩:=ks10 hb x0 x1 x2 x3 x4 x5 x6 x7 x8 x9;clear hb HX;cases q:rds.all (aW (Nd.vw f))
  · rw [q] at he;subst he;have HQ0:=Ha q;clear q;go_wp2_with fail;go_ret;exact ⟨aC (by rw [RF.out,HQ0.out];rfl),HB1.out⟩
  rw [q] at he;subst he;have HQ0:=Ha q;clear q;have HX:=Ha (bK f IH.out G _ wds w1 (aG HG.out HB1.out) (HSW.out.onW HG.out HB1.out));go_wp2_with fail;refine HX.out.mono ?_;rintro e w2 ⟨he,hb⟩;have HB2:=Ha (HB1.out.trans (hb.mono HB1.out.size));obtain ⟨y2_0,y2_1,y2_2,y2_3,y2_4,y2_5,y2_6,y2_7,y2_8,y2_9⟩:=ks10 hb y1_0 y1_1 y1_2 y1_3 y1_4 y1_5 y1_6 y1_7 y1_8 y1_9;clear hb HX y1_0 y1_1 y1_2 y1_3 y1_4 y1_5 y1_6 y1_7 y1_8 y1_9;cases q:wds.all (aP (Nd.vw f))
  · rw [q] at he;subst he;have HQ1:=Ha q;clear q;go_wp2_with fail;go_ret;exact ⟨aC (by rw [RF.out,HQ0.out,HQ1.out];rfl),HB2.out⟩
  rw [q] at he;subst he;have HQ1:=Ha q;clear q;have HX:=Ha (bK f IH.out G _ asg w2 (aG HG.out HB2.out) (HSA.out.onW HG.out HB2.out));go_wp2_with fail;refine HX.out.mono ?_;rintro e w3 ⟨he,hb⟩;have HB3:=Ha (HB2.out.trans (hb.mono HB2.out.size));obtain ⟨y3_0,y3_1,y3_2,y3_3,y3_4,y3_5,y3_6,y3_7,y3_8,y3_9⟩:=ks10 hb y2_0 y2_1 y2_2 y2_3 y2_4 y2_5 y2_6 y2_7 y2_8 y2_9;clear hb HX y2_0 y2_1 y2_2 y2_3 y2_4 y2_5 y2_6 y2_7 y2_8 y2_9;cases q:asg.all (aP (Nd.vw f))
  · rw [q] at he;subst he;have HQ2:=Ha q;clear q;go_wp2_with fail;go_ret;exact ⟨aC (by rw [RF.out,HQ0.out,HQ1.out,HQ2.out];rfl),HB3.out⟩
  rw [q] at he;subst he;have HQ2:=Ha q;clear q;have HX:=Ha (dE f true true true false false false G w3 _ _ (aG HG.out HB3.out) (HV.out.below HG.out HB3.out));go_wp2_with fail;refine HX.out.mono ?_;rintro e w4 ⟨he,hb⟩;have HB4:=Ha (HB3.out.trans (hb.mono HB3.out.size));obtain ⟨y4_0,y4_1,y4_2,y4_3,y4_4,y4_5,y4_6,y4_7,y4_8,y4_9⟩:=ks10 hb y3_0 y3_1 y3_2 y3_3 y3_4 y3_5 y3_6 y3_7 y3_8 y3_9;clear hb HX y3_0 y3_1 y3_2 y3_3 y3_4 y3_5 y3_6 y3_7 y3_8 y3_9;cases q:aQ true true true false false false s ops asg wds rds ars
  · rw [q] at he;subst he;have HQ3:=Ha q;clear q;go_wp2_with fail;go_ret;exact ⟨aC (by rw [RF.out,HQ0.out,HQ1.out,HQ2.out,HQ3.out];rfl),HB4.out⟩
  rw [q] at he;subst he;have HQ3:=Ha q;clear q;by_cases hl4:wds.length=1
  case neg=>
    have HL4:=Ha (beq_false_of_ne hl4);have m1:((wds.length:Int)==1)=false:=beq_false_of_ne (by omega);have m2:(wds.length==1)=false:=beq_false_of_ne hl4;go_wp2_with fail;go_ret;exact ⟨aC (by rw [RF.out,HQ0.out,HQ1.out,HQ2.out,HQ3.out,HL4.out];rfl),HB4.out⟩
  have HL4:=Ha (beq_iff_eq.2 hl4);have m1_4:((wds.length:Int)==1)=true:=beq_iff_eq.2 (by omega);have m2_4:(wds.length==1)=true:=beq_iff_eq.2 hl4;clear hl4;by_cases hl5:kds.length=0
  case neg=>
    have HL5:=Ha (beq_false_of_ne hl5);have m1:((kds.length:Int)==0)=false:=beq_false_of_ne (by omega);have m2:(kds.length==0)=false:=beq_false_of_ne hl5;go_wp2_with fail;go_ret;exact ⟨aC (by rw [RF.out,HQ0.out,HQ1.out,HQ2.out,HQ3.out,HL4.out,HL5.out];rfl),HB4.out⟩
  have HL5:=Ha (beq_iff_eq.2 hl5);have m1_5:((kds.length:Int)==0)=true:=beq_iff_eq.2 (by omega);have m2_5:(kds.length==0)=true:=beq_iff_eq.2 hl5;clear hl5;have HX:=Ha (CP f IH.out G _ ars w4 (aG HG.out HB4.out) (HSM.out.onA HG.out HB4.out));go_wp2_with fail;refine HX.out.mono ?_;rintro e w5 ⟨rfl,hb⟩;have HB5:=Ha (HB4.out.trans (hb.mono HB4.out.size));obtain ⟨y5_0,y5_1,y5_2,y5_3,y5_4,y5_5,y5_6,y5_7,y5_8,y5_9⟩:=ks10 hb y4_0 y4_1 y4_2 y4_3 y4_4 y4_5 y4_6 y4_7 y4_8 y4_9;clear hb HX y4_0 y4_1 y4_2 y4_3 y4_4 y4_5 y4_6 y4_7 y4_8 y4_9;go_wp2_with fail;go_ret;exact ⟨aC (by rw [RF.out,HQ0.out,HQ1.out,HQ2.out,HQ3.out,HL4.out,HL5.out];rfl),HB5.out⟩
theorem AB (f:Nat) (ih:RRt f) (G:Nat→Prop) (w:World) (vs:List Value) (x:NdF (Nd f)) (hG:∀ k,G k→k<w.heap.size) (hv:NdV (f+1) G w vs x) (hk:x.k≠1∧x.k≠2∧x.k≠3∧x.k≠4∧x.k≠5∧x.k≠6∧x.k≠7∧x.k≠8∧x.k≠9∧x.k≠10∧x.k≠11∧x.k≠12):
  Calls Tryz.prog 38 #[ag vs] w fun e w'=>e=.returned (.bool (aO (Nd.vw f) x))∧Below w.heap.size w w':=by
 obtain ⟨ky,s,nt,ni,ops,asg,wds,rds,ars,kds⟩:=x;obtain ⟨A4,c4,A5,c5,A6,c6,A7,c7,A8,c8,A9,c9,rfl,hns,hal,hl4,hl5,hl6,hl7,hl8,hl9,hso,hsa,hsw,hsr,hsm,hsk⟩:=NdV.open hv;obtain ⟨HSO,HSA,HSW,HSR,HSM,HSK,HV⟩:=hs7 hso hsa hsw hsr hsm hsk hv;clear hso hsa hsw hsr hsm hsk hv;unfold ag;obtain ⟨W,hW,hbw,hb0⟩:=cpd w (.cells #[.int .i64 ky,.string s,.bool nt,.bool ni,.slice A4 ops.length c4,.slice A5 asg.length c5,.slice A6 wds.length c6,.slice A7 rds.length c7,.slice A8 ars.length c8,.slice A9 kds.length c9] 28);obtain ⟨x0,x1,x2,x3,x4,x5,x6,x7,x8,x9⟩:=c10 hb0;obtain ⟨HGW,HBW,HG,IH⟩:=hs4 (aG hG hbw) hbw hG ih;clear hbw hb0 hG ih;have RF:=Ha (lQ (Nd.vw f) (NdF.mk ky s nt ni ops asg wds rds ars kds) hk.1 hk.2.1 hk.2.2.1 hk.2.2.2.1 hk.2.2.2.2.1 hk.2.2.2.2.2.1 hk.2.2.2.2.2.2.1 hk.2.2.2.2.2.2.2.1 hk.2.2.2.2.2.2.2.2.1 hk.2.2.2.2.2.2.2.2.2.1 hk.2.2.2.2.2.2.2.2.2.2.1 hk.2.2.2.2.2.2.2.2.2.2.2);obtain ⟨k1,k2,k3,k4,k5,k6,k7,k8,k9,k10,k11,k12⟩:=hk;have n3:(ky != 3)=true:=bne_iff_ne.2 k3;have n7:(ky != 7)=true:=bne_iff_ne.2 k7;replace k1:(ky==1)=false:=beq_false_of_ne k1;replace k2:(ky==2)=false:=beq_false_of_ne k2;replace k3:(ky==3)=false:=beq_false_of_ne k3;replace k4:(ky==4)=false:=beq_false_of_ne k4;replace k5:(ky==5)=false:=beq_false_of_ne k5;replace k6:(ky==6)=false:=beq_false_of_ne k6;replace k7:(ky==7)=false:=beq_false_of_ne k7;replace k8:(ky==8)=false:=beq_false_of_ne k8;replace k9:(ky==9)=false:=beq_false_of_ne k9;replace k10:(ky==10)=false:=beq_false_of_ne k10;replace k11:(ky==11)=false:=beq_false_of_ne k11;replace k12:(ky==12)=false:=beq_false_of_ne k12;cases nt
 case true=>
  go_enter Tryz.func38,Tryz.ntmps38;go_wp2_with fail;go_ret;exact ⟨aC (by rw [RF.out]),HBW.out⟩
 cases ni
 case true=>
  go_enter Tryz.func38,Tryz.ntmps38;go_wp2_with fail;go_ret;exact ⟨aC (by rw [RF.out]),HBW.out⟩
 go_enter Tryz.func38,Tryz.ntmps38;have HX:=Ha (cO f IH.out G _ rds W (aG HG.out HBW.out) (HSR.out.onR HG.out HBW.out));go_wp2_with fail;refine HX.out.mono ?_;rintro e w1 ⟨he,hb⟩;have HB1:=Ha (HBW.out.trans (hb.mono HBW.out.size));obtain ⟨y1_0,y1_1,y1_2,y1_3,y1_4,y1_5,y1_6,y1_7,y1_8,y1_9⟩:=ks10 hb x0 x1 x2 x3 x4 x5 x6 x7 x8 x9;clear hb HX;cases q:rds.all (aW (Nd.vw f))
 ·rw [q] at he;subst he;clear q;go_wp2_with fail;go_ret;exact ⟨aC (by rw [RF.out]),HB1.out⟩
 rw [q] at he;subst he;clear q;have HX:=Ha (bK f IH.out G _ wds w1 (aG HG.out HB1.out) (HSW.out.onW HG.out HB1.out));go_wp2_with fail;refine HX.out.mono ?_;rintro e w2 ⟨he,hb⟩;have HB2:=Ha (HB1.out.trans (hb.mono HB1.out.size));obtain ⟨y2_0,y2_1,y2_2,y2_3,y2_4,y2_5,y2_6,y2_7,y2_8,y2_9⟩:=ks10 hb y1_0 y1_1 y1_2 y1_3 y1_4 y1_5 y1_6 y1_7 y1_8 y1_9;clear hb HX y1_0 y1_1 y1_2 y1_3 y1_4 y1_5 y1_6 y1_7 y1_8 y1_9;cases q:wds.all (aP (Nd.vw f))
 ·rw [q] at he;subst he;clear q;go_wp2_with fail;go_ret;exact ⟨aC (by rw [RF.out]),HB2.out⟩
 rw [q] at he;subst he;clear q;have HX:=Ha (bK f IH.out G _ asg w2 (aG HG.out HB2.out) (HSA.out.onW HG.out HB2.out));go_wp2_with fail;refine HX.out.mono ?_;rintro e w3 ⟨he,hb⟩;have HB3:=Ha (HB2.out.trans (hb.mono HB2.out.size));obtain ⟨y3_0,y3_1,y3_2,y3_3,y3_4,y3_5,y3_6,y3_7,y3_8,y3_9⟩:=ks10 hb y2_0 y2_1 y2_2 y2_3 y2_4 y2_5 y2_6 y2_7 y2_8 y2_9;clear hb HX y2_0 y2_1 y2_2 y2_3 y2_4 y2_5 y2_6 y2_7 y2_8 y2_9;cases q:asg.all (aP (Nd.vw f))
 ·rw [q] at he;subst he;clear q;go_wp2_with fail;go_ret;exact ⟨aC (by rw [RF.out]),HB3.out⟩
 rw [q] at he;subst he;clear q;go_wp2_with fail;go_ret;exact ⟨aC (by rw [RF.out]),HB3.out⟩
theorem tH (f:Nat) (ih:RRt f) (ih2:dK f):dK (f+1):=by
 intro G w vs x hG hv;have hx:(Nd.vw (f+1)).rt x=aO (Nd.vw f) x:=rfl;rw [hx];by_cases hk1:(x:NdF (Nd f)).k=1
 ·exact zS f ih ih2 G w vs x hG hv hk1
 by_cases hk2:(x:NdF (Nd f)).k=2
 ·exact zT f ih ih2 G w vs x hG hv hk2
 by_cases hk3:(x:NdF (Nd f)).k=3
 ·exact zU f ih ih2 G w vs x hG hv hk3
 by_cases hk4:(x:NdF (Nd f)).k=4
 ·exact zV f ih ih2 G w vs x hG hv hk4
 by_cases hk5:(x:NdF (Nd f)).k=5
 ·exact zW f ih ih2 G w vs x hG hv hk5
 by_cases hk6:(x:NdF (Nd f)).k=6
 ·exact zX f ih ih2 G w vs x hG hv hk6
 by_cases hk7:(x:NdF (Nd f)).k=7
 ·exact zY f ih ih2 G w vs x hG hv hk7
 by_cases hk8:(x:NdF (Nd f)).k=8
 ·exact zZ f ih ih2 G w vs x hG hv hk8
 by_cases hk9:(x:NdF (Nd f)).k=9
 ·exact AA f ih ih2 G w vs x hG hv hk9
 by_cases hk10:(x:NdF (Nd f)).k=10
 ·exact wN f ih ih2 G w vs x hG hv hk10
 by_cases hk11:(x:NdF (Nd f)).k=11
 ·exact wO f ih ih2 G w vs x hG hv hk11
 by_cases hk12:(x:NdF (Nd f)).k=12
 ·exact wQ f ih ih2 G w vs x hG hv hk12
 exact AB f ih G w vs x hG hv ⟨hk1,hk2,hk3,hk4,hk5,hk6,hk7,hk8,hk9,hk10,hk11,hk12⟩
theorem rR (f:Nat) (ih:dK (f+1)):RRt (f+1):=by
 intro G w vs x hG hv;have hx:(Nd.vw (f+1)).R x=(((x:NdF (Nd f)).k==1)&&(Nd.vw (f+1)).rt x):=rfl;rw [hx];have IH:=Ha ih;have HV:=Ha hv;clear ih hx;generalize hr:(Nd.vw (f+1)).rt x=r;have HR:=Ha hr;clear hr;obtain ⟨ky,s,nt,ni,ops,asg,wds,rds,ars,kds⟩:=x;obtain ⟨A4,c4,A5,c5,A6,c6,A7,c7,A8,c8,A9,c9,rfl,hns,hal,hl4,hl5,hl6,hl7,hl8,hl9,hso,hsa,hsw,hsr,hsm,hsk⟩:=NdV.open hv;clear hso hsa hsw hsr hsm hsk hv;unfold ag;obtain ⟨W,hW,hbw,hb0⟩:=cpd w (.cells #[.int .i64 ky,.string s,.bool nt,.bool ni,.slice A4 ops.length c4,.slice A5 asg.length c5,.slice A6 wds.length c6,.slice A7 rds.length c7,.slice A8 ars.length c8,.slice A9 kds.length c9] 28);have HX:=Ha (IH.out G _ _ _ (aG hG hbw) (HV.out.below hG hbw));rw [HR.out] at HX;obtain ⟨x0,x1,x2,x3,x4,x5,x6,x7,x8,x9⟩:=c10 hb0;have HBW:=Ha hbw;clear hbw hb0 hG;simp only;cases q:(ky==1)
 ·go_enter Tryz.func14,Tryz.ntmps14;go_wp2_with fail;go_ret;exact ⟨rfl,HBW.out⟩
 ·go_enter Tryz.func14,Tryz.ntmps14;go_wp2_with fail;refine HX.out.mono ?_;rintro e w1 ⟨rfl,hb⟩;have HB1:=Ha (HBW.out.trans (hb.mono HBW.out.size));clear hb;go_wp2_with fail;go_ret;exact ⟨rfl,HB1.out⟩
theorem lF:∀ f:Nat,dK f∧RRt f
 | 0=>⟨fun _ _ _ x=>Empty.elim x,fun _ _ _ x=>Empty.elim x⟩
 | f+1=>
  have ih:=lF f;have h:=tH f ih.2 ih.1
  ⟨h,rR f h⟩
end Go.Proofs.YtjpopekmbmcggaaGreatDoor
namespace Go.Proofs.YtjpopekmbmcggaaGreatDoor
open Go.RowKit
def AI (w:World) (k:Nat):Prop:=∃ c fz,w.heap[k]? = some (.cells c 9 fz)
structure Ks (B b:Nat) (w w':World):Prop where
 os:w'.os=w.os
 tape:w'.tape=w.tape
 output:w'.output=w.output
 size:w.heap.size≤w'.heap.size
 block:∀ k,k<w.heap.size→(k<B∨(k≠b∧¬fF w k∧¬AI w k))→w'.heap[k]? = w.heap[k]?
section
variable {B b:Nat} {w w' w'':World}
theorem Ks.refl (B b:Nat) (w:World):Ks B b w w:=⟨rfl,rfl,rfl,Nat.le_refl _,fun _ _ _=>rfl⟩
theorem Ks.trans (h:Ks B b w w') (k:Ks B b w' w''):Ks B b w w'':=
 ⟨k.os.trans h.os,k.tape.trans h.tape,k.output.trans h.output,Nat.le_trans h.size k.size,fun i hi hg=>by
  have h1:=h.block i hi hg;rw [k.block i (gK hi h.size) ?_,h1];rcases hg with hg | ⟨hg,hr,hs⟩
  ·exact .inl hg
  ·exact .inr ⟨hg,fun ⟨c,fz,hc⟩=>hr ⟨c,fz,by rw [← h1];exact hc⟩,fun ⟨c,fz,hc⟩=>hs ⟨c,fz,by rw [← h1];exact hc⟩⟩⟩
theorem Ks.of_kp (h:Kp B (· = b) w w'):Ks B b w w':=
 ⟨h.os,h.tape,h.output,h.size,fun k hk hg=>h.block k hk (by
  rcases hg with hg | ⟨h1,h2,_⟩
  ·exact .inl hg
  ·exact .inr ⟨h1,h2⟩)⟩
theorem Ks.of_below (h:Below w.heap.size w w'):Ks B b w w':=⟨h.os,h.tape,h.output,h.size,fun k hk _=>h.block k hk⟩
theorem Ks.below (h:Ks B b w w') (hB:B≤w.heap.size):Below B w w':=⟨h.os,h.tape,h.output,h.size,fun k hk=>h.block k (by omega) (.inl hk)⟩
theorem Ks.alloc (h:Ks B b w w') (o:Obj):Ks B b w (w'.alloc o):=h.trans (.of_below ((Below.refl _ _).alloc (Nat.le_refl _) o))
theorem Ks.set (h:Ks B b w w') (hB:B≤b) (i:Nat) (u:Value):Ks B b w (w'.setCell ⟨b,i,none⟩ u):=
 h.trans (.of_kp ((Kp.refl B (· = b) w').set hB rfl i u))
theorem Ks.box (h:Ks B b w w') {k:Nat} {cs:Array Value} {T:TypeId} {fz:Nat×Nat} (hh:w.heap[k]? = some (.cells cs T fz)) (hb:k≠b) (h1:T≠5) (h2:T≠9):w'.heap[k]? = some (.cells cs T fz):=by
 rw [h.block k (Array.getElem?_eq_some_iff.1 hh).1 (.inr ⟨hb, ?_, ?_⟩),hh]
 ·rintro ⟨c,fz',e⟩;rw [hh] at e
  injection e with e
  injection e with _ e
  exact h1 e
 ·rintro ⟨c,fz',e⟩;rw [hh] at e
  injection e with e
  injection e with _ e
  exact h2 e
end
theorem aE {w:World} {k:Nat} {cs:Array Value} {T:TypeId} {fz:Nat×Nat} (hh:w.heap[k]? = some (.cells cs T fz)) (i:Nat) (v:Value) (hi:cs[i]? = some v):w.cell? ⟨k,i,none⟩=some v:=by
 simp only [World.cell?,hh];exact hi
theorem aF {w:World} {k:Nat} {a0 a1 a2 a3 a4 a5 a6 a7 a8 a9:Value} {T:TypeId} {fz:Nat×Nat} (h:w.heap[k]? = some (.cells #[a0,a1,a2,a3,a4,a5,a6,a7,a8,a9] T fz)):
  w.cell? ⟨k,0,none⟩=some a0∧w.cell? ⟨k,1,none⟩=some a1∧w.cell? ⟨k,2,none⟩=some a2∧w.cell? ⟨k,3,none⟩=some a3∧w.cell? ⟨k,4,none⟩=some a4∧w.cell? ⟨k,5,none⟩=some a5∧w.cell? ⟨k,6,none⟩=some a6∧w.cell? ⟨k,7,none⟩=some a7∧w.cell? ⟨k,8,none⟩=some a8∧w.cell? ⟨k,9,none⟩=some a9:=⟨aE h 0 _ rfl,aE h 1 _ rfl,aE h 2 _ rfl,aE h 3 _ rfl,aE h 4 _ rfl,aE h 5 _ rfl,aE h 6 _ rfl,aE h 7 _ rfl,aE h 8 _ rfl,aE h 9 _ rfl⟩
theorem eF (w:World) (o:Obj):∃ X:World,w.alloc o=X∧Below w.heap.size w X∧X.heap[w.heap.size]? = some o:=⟨_,rfl,(Below.refl _ _).alloc (Nat.le_refl _) _,aN _ _⟩
theorem fD {f:Nat} {G:Nat→Prop} {w w':World} {xs:List (Nd f)} {b o0:Nat} (he:∀ i (h:i<xs.length),∃ vs:List Value,vs.length=10∧NdV f G w vs xs[i]∧∀ j u,vs[j]? = some u→w.cell? ⟨b,o0+i*10+j,none⟩=some u)
  (i:Nat) (hi:i<xs.length) (off:Nat) (ho:off=o0+i*10) (hk:∀ p:Addr,G p.block→w'.cell? p=w.cell? p) (hg:G b):
  ∃ (ky:Int) (s:ByteArray) (nt ni:Bool) (A4:Option Addr) (n4 c4:Nat) (A5:Option Addr) (n5 c5:Nat) (A6:Option Addr) (n6 c6:Nat) (A7:Option Addr) (n7 c7:Nat) (A8:Option Addr) (n8 c8:Nat) (A9:Option Addr) (n9 c9:Nat),Hid (NdV f G w [.int .i64 ky,.string s,.bool nt,.bool ni,.slice A4 n4 c4,.slice A5 n5 c5,.slice A6 n6 c6,.slice A7 n7 c7,.slice A8 n8 c8,.slice A9 n9 c9] xs[i])∧
   w'.cell? ⟨b,off,none⟩=some (.int .i64 ky)∧w'.cell? ⟨b,off+1,none⟩=some (.string s)∧w'.cell? ⟨b,off+2,none⟩=some (.bool nt)∧w'.cell? ⟨b,off+3,none⟩=some (.bool ni)∧w'.cell? ⟨b,off+4,none⟩=some (.slice A4 n4 c4)∧w'.cell? ⟨b,off+5,none⟩=some (.slice A5 n5 c5)∧w'.cell? ⟨b,off+6,none⟩=some (.slice A6 n6 c6)∧w'.cell? ⟨b,off+7,none⟩=some (.slice A7 n7 c7)∧w'.cell? ⟨b,off+8,none⟩=some (.slice A8 n8 c8)∧w'.cell? ⟨b,off+9,none⟩=some (.slice A9 n9 c9):=by
 obtain ⟨vs,_,hR,hc⟩:=he i hi;obtain ⟨ky,s,nt,ni,A4,n4,c4,A5,n5,c5,A6,n6,c6,A7,n7,c7,A8,n8,c8,A9,n9,c9,rfl⟩:=hR.shape;have z:=fun j u hj=>(hk ⟨b,o0+i*10+j,none⟩ hg).trans (hc j u hj);rw [← ho] at z;exact ⟨_,_,_,_,_,_,_,_,_,_,_,_,_,_,_,_,_,_,_,_,_,_,Ha hR,z 0 _ rfl,z 1 _ rfl,z 2 _ rfl,z 3 _ rfl,z 4 _ rfl,z 5 _ rfl,z 6 _ rfl,z 7 _ rfl,z 8 _ rfl,z 9 _ rfl⟩
theorem keepB {G:Nat→Prop} {B:Nat} {w w':World} (hG:∀ k,G k→k<B) (hb:Below B w w'):∀ p:Addr,G p.block→w'.cell? p=w.cell? p:=fun _ hp=>World.cell?_of_block (hb.block _ (hG _ hp))
section
variable {f:Nat} {G:Nat→Prop} {B:Nat} {w w':World} {vs:List Value} {v:Value}
theorem NdV.belowB {x:Nd f} (h:NdV f G w vs x) (hG:∀ k,G k→k<B) (hb:Below B w w'):NdV f G w' vs x:=h.keep (fun _ h=>h) (keepB hG hb)
theorem WdN.belowB {x:WdF (Nd f)} (h:WdN f G w vs x) (hG:∀ k,G k→k<B) (hb:Below B w w'):WdN f G w' vs x:=WdV.keep (fun _ h=>h) (keepB hG hb) (fun _ _ h=>h.belowB hG hb) h
theorem RdN.belowB {x:RdF (Nd f)} (h:RdN f G w vs x) (hG:∀ k,G k→k<B) (hb:Below B w w'):RdN f G w' vs x:=RdV.keep (fun _ h=>h) (keepB hG hb) (fun _ _ h=>h.belowB hG hb) h
theorem ArN.belowB {x:ArF (Nd f)} (h:ArN f G w vs x) (hG:∀ k,G k→k<B) (hb:Below B w w'):ArN f G w' vs x:=ArV.keep (fun _ h=>h) (keepB hG hb) (fun _ _ h=>h.belowB hG hb) h
theorem aV.belowW {xs:List (WdF (Nd f))} (h:aV G w 1 (WdN f G w) v xs) (hG:∀ k,G k→k<B) (hb:Below B w w'):aV G w' 1 (WdN f G w') v xs:=h.keep (fun _ h=>h) (keepB hG hb) fun _ _ h=>h.belowB hG hb
theorem aV.belowR {xs:List (RdF (Nd f))} (h:aV G w 4 (RdN f G w) v xs) (hG:∀ k,G k→k<B) (hb:Below B w w'):aV G w' 4 (RdN f G w') v xs:=h.keep (fun _ h=>h) (keepB hG hb) fun _ _ h=>h.belowB hG hb
theorem aV.belowN {xs:List (Nd f)} (h:aV G w 10 (NdV f G w) v xs) (hG:∀ k,G k→k<B) (hb:Below B w w'):aV G w' 10 (NdV f G w') v xs:=h.keep (fun _ h=>h) (keepB hG hb) fun _ _ h=>h.belowB hG hb
end
def eN (B:Nat) (w:World) (v:Value) (xs:List (List UInt8)):Prop:=w.ownsRow B 9 1 v xs.length (xs.map bs)
theorem AJ:(Tryz.prog.info? 9).map (fun i=>(i.zero,i.size,i.bytes))=some (some (.string ⟨#[]⟩),1,16):=by kernel_rfl
section
variable {B:Nat} {w w':World} {v:Value} {xs:List (List UInt8)}
theorem eN.look (h:eN B w v xs):
  ∃ A c,v=.slice A xs.length c∧xs.length≤c∧c≤maxLen∧dB (fun k=>v.ownBlock=some k) w A xs:=by
 rcases h.2 with ⟨rfl,hn⟩ | ⟨g,cap,cur,rfl,hB,hh,hc,hm,hcs,htake⟩
 ·refine ⟨none,0,by rw [hn],by omega,Nat.zero_le _,fun hne=>absurd (List.length_eq_zero_iff.1 hn) hne⟩
 ·refine ⟨some ⟨g,0,none⟩,cap,rfl,hc,hm,fun _=>⟨_,rfl,rfl,fun j s hj=>?_⟩⟩;have hlt:=(List.getElem?_eq_some_iff.1 hj).1;have hj2:(xs.map bs)[j]? = some (bs s):=by rw [List.getElem?_map,hj];rfl
  rw [← htake,List.getElem?_take_of_lt (by omega)] at hj2;have e:(⟨g,0,none⟩:Addr).add j=⟨g,j,none⟩:=by unfold Addr.add;split <;> simp_all
  rw [e];simp only [World.cell?,hh]
  simpa using hj2
theorem eN.kind (h:eN B w v xs):∀ g,v.ownBlock=some g→B≤g∧g<w.heap.size∧AI w g:=by
 intro g hg;rcases h.2 with ⟨rfl,_⟩ | ⟨g',cap,cur,rfl,hb,hh,_⟩
 ·simp [Value.ownBlock] at hg
 ·simp [Value.ownBlock] at hg;subst hg;exact ⟨hb,(Array.getElem?_eq_some_iff.1 hh).1,cur,_,hh⟩
theorem eN.keepAt (h:eN B w v xs) (hk:∀ g,v.ownBlock=some g→w'.heap[g]? = w.heap[g]?):eN B w' v xs:=by
 refine ⟨h.1, ?_⟩;rcases h.2 with h0 | ⟨g,cap,cur,rfl,hB,hh,hrest⟩
 ·exact .inl h0
 ·exact .inr ⟨g,cap,cur,rfl,hB,(hk g rfl).trans hh,hrest⟩
theorem eN.below (h:eN B w v xs) (hb:Below w.heap.size w w'):eN B w' v xs:=h.keepAt fun g hg=>hb.block g (h.kind g hg).2.1
theorem eN.kp {b:Nat} {T:TypeId} {cs:Array Value} {fz:Nat×Nat} (h:eN B w v xs) (hb:w.heap[b]? = some (.cells cs T fz)) (hT:T≠9) {B':Nat} (hk:Kp B' (· = b) w w'):eN B w' v xs:=h.keepAt fun g hg=>by
 obtain ⟨h1,h2,c,fz',hh⟩:=h.kind g hg;refine hk.block g h2 (.inr ⟨?_, ?_⟩)
 ·rintro rfl;rw [hb] at hh
  injection hh with hh
  injection hh with _ hh
  exact hT hh
 ·rintro ⟨c',fz'',e⟩;rw [hh] at e
  injection e with e
  injection e with _ e
  exact absurd e (by decide)
theorem eN.nothing:eN B w (.slice none 0 0) []:=⟨rfl,.inl ⟨rfl,rfl⟩⟩
theorem eN.one (t:List UInt8) (h:eN B w v xs) (hl:xs.length+1≤1099511627776) (hB:B≤w.heap.size):
  ∃ v' w',WrA Tryz.prog #[73,73] 73 #[v,.slice (some ⟨w.heap.size,0,none⟩) 1 1] (w.alloc (.cells #[bs t] 9))=.ok v' w'∧eN B w' v' (xs++[t])∧(w.alloc (.cells #[bs t] 9)).grownBy w' v.ownBlock:=by
 obtain ⟨i0,hi,hz0,hz1,hz2⟩:=info_parts AJ;have hb:Below w.heap.size w (w.alloc (.cells #[bs t] 9)):=(Below.refl _ _).alloc (Nat.le_refl _) _;have h0:=h.below hb;have h2:eN w.heap.size (w.alloc (.cells #[bs t] 9)) (.slice (some ⟨w.heap.size,0,none⟩) 1 1) [t]:=
  ⟨rfl,.inr ⟨w.heap.size,1,#[bs t],rfl,Nat.le_refl _,aN w _,Nat.le_refl _,by unfold maxLen;omega,rfl,rfl⟩⟩
 obtain ⟨v',w',h1,r1,r2,_⟩:=run_append_own (P:=Tryz.prog) (w.alloc (.cells #[bs t] 9)) B 73 73 9 i0 _ 1 16 Tryz.underlying73 hi hz0 hz1 hz2 rfl (by decide) v _ _ h0 ⟨w.heap.size,0,none⟩ 1 1 [bs t] (by simp) (World.ownsRow.cells h2 (by rfl)) (by intro u hu;simp only [List.mem_cons,List.not_mem_nil,or_false] at hu;subst hu;rfl) (by unfold maxLen;omega) (by omega) (Nat.le_trans hB hb.size);exact ⟨v',w',h1,by unfold eN;rw [gI,List.map_append];exact r1,r2⟩
end
def Pn (B b:Nat) (s:St) (w:World):Prop:=∃ v xs,IsB 126 B b [v] s.1 w∧eN B w v xs∧xs.flatten=s.2∧xs.length≤s.2.length∧B≤w.heap.size
def Wrt (B b:Nat) (w:World) (s:St):Ending→World→Prop:=fun e w'=>e=.returned (.tuple #[])∧Pn B b s w'∧Ks B b w w'
theorem sI:Hd 126 1:=⟨by kernel_rfl,by decide⟩
section
variable {T:TypeId} {B b:Nat} {rest:List Value} {l:List UInt8} {s:St} {w w':World}
theorem IsB.hh (h:IsB T B b rest l w):∃ p v,w.heap[b]? = some (.cells (p::v::rest).toArray T (0,0)):=by
 rcases h with ⟨_,v,hh,_⟩ | ⟨_,v,hh,_⟩
 ·exact ⟨_,v,hh⟩
 ·exact ⟨_,v,hh⟩
theorem Pn.below (h:Pn B b s w) (hb:Below w.heap.size w w'):Pn B b s w':=by
 obtain ⟨v,xs,h1,h2,h3,h4,h5⟩:=h;exact ⟨v,xs,h1.keep hb,h2.below hb,h3,h4,Nat.le_trans h5 hb.size⟩
theorem Pn.le (h:Pn B b s w):B≤b:=by
 obtain ⟨v,xs,h1,_⟩:=h;exact h1.le
theorem Pn.lt (h:Pn B b s w):b<w.heap.size:=by
 obtain ⟨v,xs,h1,_⟩:=h;exact h1.lt
theorem Pn.size (h:Pn B b s w):B≤w.heap.size:=by
 obtain ⟨v,xs,_,_,_,_,h5⟩:=h;exact h5
end
end Go.Proofs.YtjpopekmbmcggaaGreatDoor
