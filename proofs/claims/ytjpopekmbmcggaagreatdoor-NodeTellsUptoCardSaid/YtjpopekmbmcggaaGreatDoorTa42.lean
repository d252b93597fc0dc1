/- Towards nodeTells_card: NdRefRightB. Merged from smaller texts by a program of the author's. -/
import Derived.Test.YtjpopekmbmcggaaGreatDoorTa41
namespace Go.Proofs.YtjpopekmbmcggaaGreatDoor
open Go.RowKit
set_option maxRecDepth 100000 in
set_option maxHeartbeats 4000000 in
theorem rright_5 (f : Nat) (ih : RRt f) (_ih2 : RRight f) (G : Nat → Prop) (w : World) (vs : List Value) (x : NdF (Nd f)) (hG : ∀ k, G k → k < w.heap.size) (hv : NdV (f + 1) G w vs x) (hk : x.k = 5) :
    Calls Tryz.prog 38 #[ag vs] w fun e w' => e = .returned (.bool (rightF (Nd.vw f) x)) ∧ Below w.heap.size w w' := by
  obtain ⟨ky, s, nt, ni, ops, asg, wds, rds, ars, kds⟩ := x
  obtain ⟨A4, c4, A5, c5, A6, c6, A7, c7, A8, c8, A9, c9, rfl, hns, hal, hl4, hl5, hl6, hl7, hl8, hl9, hso, hsa, hsw, hsr, hsm, hsk⟩ := NdV.open hv
  have HSO := Lib.hid hso; have HSA := Lib.hid hsa; have HSW := Lib.hid hsw; have HSR := Lib.hid hsr; have HSM := Lib.hid hsm; have HSK := Lib.hid hsk
  have HV := Lib.hid hv
  clear hso hsa hsw hsr hsm hsk hv
  show Calls Tryz.prog 38 #[.agg #[.int .i64 ky, .string s, .bool nt, .bool ni, .slice A4 ops.length c4, .slice A5 asg.length c5, .slice A6 wds.length c6, .slice A7 rds.length c7, .slice A8 ars.length c8, .slice A9 kds.length c9]] w _
  have hbw : Below w.heap.size w (w.alloc (.cells #[.int .i64 ky, .string s, .bool nt, .bool ni, .slice A4 ops.length c4, .slice A5 asg.length c5, .slice A6 wds.length c6, .slice A7 rds.length c7, .slice A8 ars.length c8, .slice A9 kds.length c9] 28)) := (Below.refl _ _).alloc (Nat.le_refl _) _
  have hb0 := heap_alloc_t w (.cells #[.int .i64 ky, .string s, .bool nt, .bool ni, .slice A4 ops.length c4, .slice A5 asg.length c5, .slice A6 wds.length c6, .slice A7 rds.length c7, .slice A8 ars.length c8, .slice A9 kds.length c9] 28)
  generalize hW : w.alloc (.cells #[.int .i64 ky, .string s, .bool nt, .bool ni, .slice A4 ops.length c4, .slice A5 asg.length c5, .slice A6 wds.length c6, .slice A7 rds.length c7, .slice A8 ars.length c8, .slice A9 kds.length c9] 28) = W at *
  have x0 : W.cell? ⟨w.heap.size, 0, none⟩ = some (.int .i64 ky) := by simp [World.cell?, hb0]
  have x1 : W.cell? ⟨w.heap.size, 1, none⟩ = some (.string s) := by simp [World.cell?, hb0]
  have x2 : W.cell? ⟨w.heap.size, 2, none⟩ = some (.bool nt) := by simp [World.cell?, hb0]
  have x3 : W.cell? ⟨w.heap.size, 3, none⟩ = some (.bool ni) := by simp [World.cell?, hb0]
  have x4 : W.cell? ⟨w.heap.size, 4, none⟩ = some (.slice A4 ops.length c4) := by simp [World.cell?, hb0]
  have x5 : W.cell? ⟨w.heap.size, 5, none⟩ = some (.slice A5 asg.length c5) := by simp [World.cell?, hb0]
  have x6 : W.cell? ⟨w.heap.size, 6, none⟩ = some (.slice A6 wds.length c6) := by simp [World.cell?, hb0]
  have x7 : W.cell? ⟨w.heap.size, 7, none⟩ = some (.slice A7 rds.length c7) := by simp [World.cell?, hb0]
  have x8 : W.cell? ⟨w.heap.size, 8, none⟩ = some (.slice A8 ars.length c8) := by simp [World.cell?, hb0]
  have x9 : W.cell? ⟨w.heap.size, 9, none⟩ = some (.slice A9 kds.length c9) := by simp [World.cell?, hb0]
  have HGW := Lib.hid (old_of hG hbw)
  have HBW := Lib.hid hbw; have HG := Lib.hid hG
  have IH := Lib.hid ih
  clear hbw hb0 hG ih
  simp only at hk
  obtain rfl := hk
  cases nt
  case true =>
    have RF := Lib.hid (rf_5 (Nd.vw f) s true ni ops asg wds rds ars kds)
    go_enter Tryz.func38, Tryz.ntmps38
    cases ni <;>
      (go_wp2_with fail
       go_ret
       exact ⟨ret_bool (by rw [RF.out]; rfl), HBW.out⟩)
  cases ni
  case true =>
    have RF := Lib.hid (rf_5 (Nd.vw f) s false true ops asg wds rds ars kds)
    go_enter Tryz.func38, Tryz.ntmps38
    go_wp2_with fail
    go_ret
    exact ⟨ret_bool (by rw [RF.out]; rfl), HBW.out⟩
  have RF := Lib.hid (show rightF (Nd.vw f) (NdF.mk 5 s false false ops asg wds rds ars kds) = (rds.all (redirB (Nd.vw f)) && (wds.all (wordB (Nd.vw f)) && (asg.all (wordB (Nd.vw f)) && (emptyB true true true true false true s ops asg wds rds ars && (listsR (Nd.vw f) 1 1 (NdF.mk 5 s false false ops asg wds rds ars kds)))))) from by rw [rf_5]; rfl)
  go_enter Tryz.func38, Tryz.ntmps38
  have HX := Lib.hid (redirs_r f IH.out G _ rds W (old_of HG.out HBW.out) (HSR.out.onR HG.out HBW.out))
  go_wp2_with fail
  refine HX.out.mono ?_
  rintro e w1 ⟨he, hb⟩
  have HB1 := Lib.hid (HBW.out.trans (hb.mono HBW.out.size))
  have y1_0 := box_keep x0 hb; have y1_1 := box_keep x1 hb; have y1_2 := box_keep x2 hb; have y1_3 := box_keep x3 hb; have y1_4 := box_keep x4 hb; have y1_5 := box_keep x5 hb; have y1_6 := box_keep x6 hb; have y1_7 := box_keep x7 hb; have y1_8 := box_keep x8 hb; have y1_9 := box_keep x9 hb
  clear hb HX
  cases q : rds.all (redirB (Nd.vw f))
  · rw [q] at he
    subst he
    have HQ0 := Lib.hid q
    clear q
    go_wp2_with fail
    go_ret
    exact ⟨ret_bool (by rw [RF.out, HQ0.out]; rfl), HB1.out⟩
  rw [q] at he
  subst he
  have HQ0 := Lib.hid q
  clear q
  have HX := Lib.hid (words_r f IH.out G _ wds w1 (old_of HG.out HB1.out) (HSW.out.onW HG.out HB1.out))
  go_wp2_with fail
  refine HX.out.mono ?_
  rintro e w2 ⟨he, hb⟩
  have HB2 := Lib.hid (HB1.out.trans (hb.mono HB1.out.size))
  have y2_0 := box_keep y1_0 hb; have y2_1 := box_keep y1_1 hb; have y2_2 := box_keep y1_2 hb; have y2_3 := box_keep y1_3 hb; have y2_4 := box_keep y1_4 hb; have y2_5 := box_keep y1_5 hb; have y2_6 := box_keep y1_6 hb; have y2_7 := box_keep y1_7 hb; have y2_8 := box_keep y1_8 hb; have y2_9 := box_keep y1_9 hb
  clear hb HX y1_0 y1_1 y1_2 y1_3 y1_4 y1_5 y1_6 y1_7 y1_8 y1_9
  cases q : wds.all (wordB (Nd.vw f))
  · rw [q] at he
    subst he
    have HQ1 := Lib.hid q
    clear q
    go_wp2_with fail
    go_ret
    exact ⟨ret_bool (by rw [RF.out, HQ0.out, HQ1.out]; rfl), HB2.out⟩
  rw [q] at he
  subst he
  have HQ1 := Lib.hid q
  clear q
  have HX := Lib.hid (words_r f IH.out G _ asg w2 (old_of HG.out HB2.out) (HSA.out.onW HG.out HB2.out))
  go_wp2_with fail
  refine HX.out.mono ?_
  rintro e w3 ⟨he, hb⟩
  have HB3 := Lib.hid (HB2.out.trans (hb.mono HB2.out.size))
  have y3_0 := box_keep y2_0 hb; have y3_1 := box_keep y2_1 hb; have y3_2 := box_keep y2_2 hb; have y3_3 := box_keep y2_3 hb; have y3_4 := box_keep y2_4 hb; have y3_5 := box_keep y2_5 hb; have y3_6 := box_keep y2_6 hb; have y3_7 := box_keep y2_7 hb; have y3_8 := box_keep y2_8 hb; have y3_9 := box_keep y2_9 hb
  clear hb HX y2_0 y2_1 y2_2 y2_3 y2_4 y2_5 y2_6 y2_7 y2_8 y2_9
  cases q : asg.all (wordB (Nd.vw f))
  · rw [q] at he
    subst he
    have HQ2 := Lib.hid q
    clear q
    go_wp2_with fail
    go_ret
    exact ⟨ret_bool (by rw [RF.out, HQ0.out, HQ1.out, HQ2.out]; rfl), HB3.out⟩
  rw [q] at he
  subst he
  have HQ2 := Lib.hid q
  clear q
  have HX := Lib.hid (empty_r f true true true true false true G w3 _ _ (old_of HG.out HB3.out) (HV.out.below HG.out HB3.out))
  go_wp2_with fail
  refine HX.out.mono ?_
  rintro e w4 ⟨he, hb⟩
  have HB4 := Lib.hid (HB3.out.trans (hb.mono HB3.out.size))
  have y4_0 := box_keep y3_0 hb; have y4_1 := box_keep y3_1 hb; have y4_2 := box_keep y3_2 hb; have y4_3 := box_keep y3_3 hb; have y4_4 := box_keep y3_4 hb; have y4_5 := box_keep y3_5 hb; have y4_6 := box_keep y3_6 hb; have y4_7 := box_keep y3_7 hb; have y4_8 := box_keep y3_8 hb; have y4_9 := box_keep y3_9 hb
  clear hb HX y3_0 y3_1 y3_2 y3_3 y3_4 y3_5 y3_6 y3_7 y3_8 y3_9
  cases q : emptyB true true true true false true s ops asg wds rds ars
  · rw [q] at he
    subst he
    have HQ3 := Lib.hid q
    clear q
    go_wp2_with fail
    go_ret
    exact ⟨ret_bool (by rw [RF.out, HQ0.out, HQ1.out, HQ2.out, HQ3.out]; rfl), HB4.out⟩
  rw [q] at he
  subst he
  have HQ3 := Lib.hid q
  clear q
  have HX := Lib.hid (lists_r f IH.out 1 1 G w4 _ _ (old_of HG.out HB4.out) (HV.out.below HG.out HB4.out))
  go_wp2_with fail
  refine HX.out.mono ?_
  rintro e w5 ⟨rfl, hb⟩
  have HB5 := Lib.hid (HB4.out.trans (hb.mono HB4.out.size))
  have y5_0 := box_keep y4_0 hb; have y5_1 := box_keep y4_1 hb; have y5_2 := box_keep y4_2 hb; have y5_3 := box_keep y4_3 hb; have y5_4 := box_keep y4_4 hb; have y5_5 := box_keep y4_5 hb; have y5_6 := box_keep y4_6 hb; have y5_7 := box_keep y4_7 hb; have y5_8 := box_keep y4_8 hb; have y5_9 := box_keep y4_9 hb
  clear hb HX y4_0 y4_1 y4_2 y4_3 y4_4 y4_5 y4_6 y4_7 y4_8 y4_9
  go_wp2_with fail
  go_ret
  exact ⟨ret_bool (by rw [RF.out, HQ0.out, HQ1.out, HQ2.out, HQ3.out]; rfl), HB5.out⟩
set_option maxRecDepth 100000 in
set_option maxHeartbeats 4000000 in
theorem rright_6 (f : Nat) (ih : RRt f) (_ih2 : RRight f) (G : Nat → Prop) (w : World) (vs : List Value) (x : NdF (Nd f)) (hG : ∀ k, G k → k < w.heap.size) (hv : NdV (f + 1) G w vs x) (hk : x.k = 6) :
    Calls Tryz.prog 38 #[ag vs] w fun e w' => e = .returned (.bool (rightF (Nd.vw f) x)) ∧ Below w.heap.size w w' := by
  obtain ⟨ky, s, nt, ni, ops, asg, wds, rds, ars, kds⟩ := x
  obtain ⟨A4, c4, A5, c5, A6, c6, A7, c7, A8, c8, A9, c9, rfl, hns, hal, hl4, hl5, hl6, hl7, hl8, hl9, hso, hsa, hsw, hsr, hsm, hsk⟩ := NdV.open hv
  have HSO := Lib.hid hso; have HSA := Lib.hid hsa; have HSW := Lib.hid hsw; have HSR := Lib.hid hsr; have HSM := Lib.hid hsm; have HSK := Lib.hid hsk
  have HV := Lib.hid hv
  clear hso hsa hsw hsr hsm hsk hv
  show Calls Tryz.prog 38 #[.agg #[.int .i64 ky, .string s, .bool nt, .bool ni, .slice A4 ops.length c4, .slice A5 asg.length c5, .slice A6 wds.length c6, .slice A7 rds.length c7, .slice A8 ars.length c8, .slice A9 kds.length c9]] w _
  have hbw : Below w.heap.size w (w.alloc (.cells #[.int .i64 ky, .string s, .bool nt, .bool ni, .slice A4 ops.length c4, .slice A5 asg.length c5, .slice A6 wds.length c6, .slice A7 rds.length c7, .slice A8 ars.length c8, .slice A9 kds.length c9] 28)) := (Below.refl _ _).alloc (Nat.le_refl _) _
  have hb0 := heap_alloc_t w (.cells #[.int .i64 ky, .string s, .bool nt, .bool ni, .slice A4 ops.length c4, .slice A5 asg.length c5, .slice A6 wds.length c6, .slice A7 rds.length c7, .slice A8 ars.length c8, .slice A9 kds.length c9] 28)
  generalize hW : w.alloc (.cells #[.int .i64 ky, .string s, .bool nt, .bool ni, .slice A4 ops.length c4, .slice A5 asg.length c5, .slice A6 wds.length c6, .slice A7 rds.length c7, .slice A8 ars.length c8, .slice A9 kds.length c9] 28) = W at *
  have x0 : W.cell? ⟨w.heap.size, 0, none⟩ = some (.int .i64 ky) := by simp [World.cell?, hb0]
  have x1 : W.cell? ⟨w.heap.size, 1, none⟩ = some (.string s) := by simp [World.cell?, hb0]
  have x2 : W.cell? ⟨w.heap.size, 2, none⟩ = some (.bool nt) := by simp [World.cell?, hb0]
  have x3 : W.cell? ⟨w.heap.size, 3, none⟩ = some (.bool ni) := by simp [World.cell?, hb0]
  have x4 : W.cell? ⟨w.heap.size, 4, none⟩ = some (.slice A4 ops.length c4) := by simp [World.cell?, hb0]
  have x5 : W.cell? ⟨w.heap.size, 5, none⟩ = some (.slice A5 asg.length c5) := by simp [World.cell?, hb0]
  have x6 : W.cell? ⟨w.heap.size, 6, none⟩ = some (.slice A6 wds.length c6) := by simp [World.cell?, hb0]
  have x7 : W.cell? ⟨w.heap.size, 7, none⟩ = some (.slice A7 rds.length c7) := by simp [World.cell?, hb0]
  have x8 : W.cell? ⟨w.heap.size, 8, none⟩ = some (.slice A8 ars.length c8) := by simp [World.cell?, hb0]
  have x9 : W.cell? ⟨w.heap.size, 9, none⟩ = some (.slice A9 kds.length c9) := by simp [World.cell?, hb0]
  have HGW := Lib.hid (old_of hG hbw)
  have HBW := Lib.hid hbw; have HG := Lib.hid hG
  have IH := Lib.hid ih
  clear hbw hb0 hG ih
  simp only at hk
  obtain rfl := hk
  cases nt
  case true =>
    have RF := Lib.hid (rf_6 (Nd.vw f) s true ni ops asg wds rds ars kds)
    go_enter Tryz.func38, Tryz.ntmps38
    cases ni <;>
      (go_wp2_with fail
       go_ret
       exact ⟨ret_bool (by rw [RF.out]; rfl), HBW.out⟩)
  cases ni
  case true =>
    have RF := Lib.hid (rf_6 (Nd.vw f) s false true ops asg wds rds ars kds)
    go_enter Tryz.func38, Tryz.ntmps38
    go_wp2_with fail
    go_ret
    exact ⟨ret_bool (by rw [RF.out]; rfl), HBW.out⟩
  have RF := Lib.hid (show rightF (Nd.vw f) (NdF.mk 6 s false false ops asg wds rds ars kds) = (rds.all (redirB (Nd.vw f)) && (wds.all (wordB (Nd.vw f)) && (asg.all (wordB (Nd.vw f)) && (emptyB true true true true false true s ops asg wds rds ars && (listsR (Nd.vw f) 1 1 (NdF.mk 6 s false false ops asg wds rds ars kds)))))) from by rw [rf_6]; rfl)
  go_enter Tryz.func38, Tryz.ntmps38
  have HX := Lib.hid (redirs_r f IH.out G _ rds W (old_of HG.out HBW.out) (HSR.out.onR HG.out HBW.out))
  go_wp2_with fail
  refine HX.out.mono ?_
  rintro e w1 ⟨he, hb⟩
  have HB1 := Lib.hid (HBW.out.trans (hb.mono HBW.out.size))
  have y1_0 := box_keep x0 hb; have y1_1 := box_keep x1 hb; have y1_2 := box_keep x2 hb; have y1_3 := box_keep x3 hb; have y1_4 := box_keep x4 hb; have y1_5 := box_keep x5 hb; have y1_6 := box_keep x6 hb; have y1_7 := box_keep x7 hb; have y1_8 := box_keep x8 hb; have y1_9 := box_keep x9 hb
  clear hb HX
  cases q : rds.all (redirB (Nd.vw f))
  · rw [q] at he
    subst he
    have HQ0 := Lib.hid q
    clear q
    go_wp2_with fail
    go_ret
    exact ⟨ret_bool (by rw [RF.out, HQ0.out]; rfl), HB1.out⟩
  rw [q] at he
  subst he
  have HQ0 := Lib.hid q
  clear q
  have HX := Lib.hid (words_r f IH.out G _ wds w1 (old_of HG.out HB1.out) (HSW.out.onW HG.out HB1.out))
  go_wp2_with fail
  refine HX.out.mono ?_
  rintro e w2 ⟨he, hb⟩
  have HB2 := Lib.hid (HB1.out.trans (hb.mono HB1.out.size))
  have y2_0 := box_keep y1_0 hb; have y2_1 := box_keep y1_1 hb; have y2_2 := box_keep y1_2 hb; have y2_3 := box_keep y1_3 hb; have y2_4 := box_keep y1_4 hb; have y2_5 := box_keep y1_5 hb; have y2_6 := box_keep y1_6 hb; have y2_7 := box_keep y1_7 hb; have y2_8 := box_keep y1_8 hb; have y2_9 := box_keep y1_9 hb
  clear hb HX y1_0 y1_1 y1_2 y1_3 y1_4 y1_5 y1_6 y1_7 y1_8 y1_9
  cases q : wds.all (wordB (Nd.vw f))
  · rw [q] at he
    subst he
    have HQ1 := Lib.hid q
    clear q
    go_wp2_with fail
    go_ret
    exact ⟨ret_bool (by rw [RF.out, HQ0.out, HQ1.out]; rfl), HB2.out⟩
  rw [q] at he
  subst he
  have HQ1 := Lib.hid q
  clear q
  have HX := Lib.hid (words_r f IH.out G _ asg w2 (old_of HG.out HB2.out) (HSA.out.onW HG.out HB2.out))
  go_wp2_with fail
  refine HX.out.mono ?_
  rintro e w3 ⟨he, hb⟩
  have HB3 := Lib.hid (HB2.out.trans (hb.mono HB2.out.size))
  have y3_0 := box_keep y2_0 hb; have y3_1 := box_keep y2_1 hb; have y3_2 := box_keep y2_2 hb; have y3_3 := box_keep y2_3 hb; have y3_4 := box_keep y2_4 hb; have y3_5 := box_keep y2_5 hb; have y3_6 := box_keep y2_6 hb; have y3_7 := box_keep y2_7 hb; have y3_8 := box_keep y2_8 hb; have y3_9 := box_keep y2_9 hb
  clear hb HX y2_0 y2_1 y2_2 y2_3 y2_4 y2_5 y2_6 y2_7 y2_8 y2_9
  cases q : asg.all (wordB (Nd.vw f))
  · rw [q] at he
    subst he
    have HQ2 := Lib.hid q
    clear q
    go_wp2_with fail
    go_ret
    exact ⟨ret_bool (by rw [RF.out, HQ0.out, HQ1.out, HQ2.out]; rfl), HB3.out⟩
  rw [q] at he
  subst he
  have HQ2 := Lib.hid q
  clear q
  have HX := Lib.hid (empty_r f true true true true false true G w3 _ _ (old_of HG.out HB3.out) (HV.out.below HG.out HB3.out))
  go_wp2_with fail
  refine HX.out.mono ?_
  rintro e w4 ⟨he, hb⟩
  have HB4 := Lib.hid (HB3.out.trans (hb.mono HB3.out.size))
  have y4_0 := box_keep y3_0 hb; have y4_1 := box_keep y3_1 hb; have y4_2 := box_keep y3_2 hb; have y4_3 := box_keep y3_3 hb; have y4_4 := box_keep y3_4 hb; have y4_5 := box_keep y3_5 hb; have y4_6 := box_keep y3_6 hb; have y4_7 := box_keep y3_7 hb; have y4_8 := box_keep y3_8 hb; have y4_9 := box_keep y3_9 hb
  clear hb HX y3_0 y3_1 y3_2 y3_3 y3_4 y3_5 y3_6 y3_7 y3_8 y3_9
  cases q : emptyB true true true true false true s ops asg wds rds ars
  · rw [q] at he
    subst he
    have HQ3 := Lib.hid q
    clear q
    go_wp2_with fail
    go_ret
    exact ⟨ret_bool (by rw [RF.out, HQ0.out, HQ1.out, HQ2.out, HQ3.out]; rfl), HB4.out⟩
  rw [q] at he
  subst he
  have HQ3 := Lib.hid q
  clear q
  have HX := Lib.hid (lists_r f IH.out 1 1 G w4 _ _ (old_of HG.out HB4.out) (HV.out.below HG.out HB4.out))
  go_wp2_with fail
  refine HX.out.mono ?_
  rintro e w5 ⟨rfl, hb⟩
  have HB5 := Lib.hid (HB4.out.trans (hb.mono HB4.out.size))
  have y5_0 := box_keep y4_0 hb; have y5_1 := box_keep y4_1 hb; have y5_2 := box_keep y4_2 hb; have y5_3 := box_keep y4_3 hb; have y5_4 := box_keep y4_4 hb; have y5_5 := box_keep y4_5 hb; have y5_6 := box_keep y4_6 hb; have y5_7 := box_keep y4_7 hb; have y5_8 := box_keep y4_8 hb; have y5_9 := box_keep y4_9 hb
  clear hb HX y4_0 y4_1 y4_2 y4_3 y4_4 y4_5 y4_6 y4_7 y4_8 y4_9
  go_wp2_with fail
  go_ret
  exact ⟨ret_bool (by rw [RF.out, HQ0.out, HQ1.out, HQ2.out, HQ3.out]; rfl), HB5.out⟩
set_option maxRecDepth 100000 in
set_option maxHeartbeats 4000000 in
theorem rright_7 (f : Nat) (ih : RRt f) (_ih2 : RRight f) (G : Nat → Prop) (w : World) (vs : List Value) (x : NdF (Nd f)) (hG : ∀ k, G k → k < w.heap.size) (hv : NdV (f + 1) G w vs x) (hk : x.k = 7) :
    Calls Tryz.prog 38 #[ag vs] w fun e w' => e = .returned (.bool (rightF (Nd.vw f) x)) ∧ Below w.heap.size w w' := by
  obtain ⟨ky, s, nt, ni, ops, asg, wds, rds, ars, kds⟩ := x
  obtain ⟨A4, c4, A5, c5, A6, c6, A7, c7, A8, c8, A9, c9, rfl, hns, hal, hl4, hl5, hl6, hl7, hl8, hl9, hso, hsa, hsw, hsr, hsm, hsk⟩ := NdV.open hv
  have HSO := Lib.hid hso; have HSA := Lib.hid hsa; have HSW := Lib.hid hsw; have HSR := Lib.hid hsr; have HSM := Lib.hid hsm; have HSK := Lib.hid hsk
  have HV := Lib.hid hv
  clear hso hsa hsw hsr hsm hsk hv
  show Calls Tryz.prog 38 #[.agg #[.int .i64 ky, .string s, .bool nt, .bool ni, .slice A4 ops.length c4, .slice A5 asg.length c5, .slice A6 wds.length c6, .slice A7 rds.length c7, .slice A8 ars.length c8, .slice A9 kds.length c9]] w _
  have hbw : Below w.heap.size w (w.alloc (.cells #[.int .i64 ky, .string s, .bool nt, .bool ni, .slice A4 ops.length c4, .slice A5 asg.length c5, .slice A6 wds.length c6, .slice A7 rds.length c7, .slice A8 ars.length c8, .slice A9 kds.length c9] 28)) := (Below.refl _ _).alloc (Nat.le_refl _) _
  have hb0 := heap_alloc_t w (.cells #[.int .i64 ky, .string s, .bool nt, .bool ni, .slice A4 ops.length c4, .slice A5 asg.length c5, .slice A6 wds.length c6, .slice A7 rds.length c7, .slice A8 ars.length c8, .slice A9 kds.length c9] 28)
  generalize hW : w.alloc (.cells #[.int .i64 ky, .string s, .bool nt, .bool ni, .slice A4 ops.length c4, .slice A5 asg.length c5, .slice A6 wds.length c6, .slice A7 rds.length c7, .slice A8 ars.length c8, .slice A9 kds.length c9] 28) = W at *
  have x0 : W.cell? ⟨w.heap.size, 0, none⟩ = some (.int .i64 ky) := by simp [World.cell?, hb0]
  have x1 : W.cell? ⟨w.heap.size, 1, none⟩ = some (.string s) := by simp [World.cell?, hb0]
  have x2 : W.cell? ⟨w.heap.size, 2, none⟩ = some (.bool nt) := by simp [World.cell?, hb0]
  have x3 : W.cell? ⟨w.heap.size, 3, none⟩ = some (.bool ni) := by simp [World.cell?, hb0]
  have x4 : W.cell? ⟨w.heap.size, 4, none⟩ = some (.slice A4 ops.length c4) := by simp [World.cell?, hb0]
  have x5 : W.cell? ⟨w.heap.size, 5, none⟩ = some (.slice A5 asg.length c5) := by simp [World.cell?, hb0]
  have x6 : W.cell? ⟨w.heap.size, 6, none⟩ = some (.slice A6 wds.length c6) := by simp [World.cell?, hb0]
  have x7 : W.cell? ⟨w.heap.size, 7, none⟩ = some (.slice A7 rds.length c7) := by simp [World.cell?, hb0]
  have x8 : W.cell? ⟨w.heap.size, 8, none⟩ = some (.slice A8 ars.length c8) := by simp [World.cell?, hb0]
  have x9 : W.cell? ⟨w.heap.size, 9, none⟩ = some (.slice A9 kds.length c9) := by simp [World.cell?, hb0]
  have HGW := Lib.hid (old_of hG hbw)
  have HBW := Lib.hid hbw; have HG := Lib.hid hG
  have IH := Lib.hid ih
  clear hbw hb0 hG ih
  simp only at hk
  obtain rfl := hk
  cases nt
  case true =>
    have RF := Lib.hid (rf_7 (Nd.vw f) s true ni ops asg wds rds ars kds)
    go_enter Tryz.func38, Tryz.ntmps38
    cases ni <;>
      (go_wp2_with fail
       go_ret
       exact ⟨ret_bool (by rw [RF.out]; rfl), HBW.out⟩)
  cases ni
  · have RF := Lib.hid (show rightF (Nd.vw f) (NdF.mk 7 s false false ops asg wds rds ars kds) = (rds.all (redirB (Nd.vw f)) && (wds.all (wordB (Nd.vw f)) && (asg.all (wordB (Nd.vw f)) && (emptyB false true true (!false) false true s ops asg wds rds ars && (Chr.name s.toList && listsR (Nd.vw f) 1 1 (NdF.mk 7 s false false ops asg wds rds ars kds)))))) from by rw [rf_7]; rfl)
    go_enter Tryz.func38, Tryz.ntmps38
    have HX := Lib.hid (redirs_r f IH.out G _ rds W (old_of HG.out HBW.out) (HSR.out.onR HG.out HBW.out))
    go_wp2_with fail
    refine HX.out.mono ?_
    rintro e w1 ⟨he, hb⟩
    have HB1 := Lib.hid (HBW.out.trans (hb.mono HBW.out.size))
    have y1_0 := box_keep x0 hb; have y1_1 := box_keep x1 hb; have y1_2 := box_keep x2 hb; have y1_3 := box_keep x3 hb; have y1_4 := box_keep x4 hb; have y1_5 := box_keep x5 hb; have y1_6 := box_keep x6 hb; have y1_7 := box_keep x7 hb; have y1_8 := box_keep x8 hb; have y1_9 := box_keep x9 hb
    clear hb HX
    cases q : rds.all (redirB (Nd.vw f))
    · rw [q] at he
      subst he
      have HQ0 := Lib.hid q
      clear q
      go_wp2_with fail
      go_ret
      exact ⟨ret_bool (by rw [RF.out, HQ0.out]; rfl), HB1.out⟩
    rw [q] at he
    subst he
    have HQ0 := Lib.hid q
    clear q
    have HX := Lib.hid (words_r f IH.out G _ wds w1 (old_of HG.out HB1.out) (HSW.out.onW HG.out HB1.out))
    go_wp2_with fail
    refine HX.out.mono ?_
    rintro e w2 ⟨he, hb⟩
    have HB2 := Lib.hid (HB1.out.trans (hb.mono HB1.out.size))
    have y2_0 := box_keep y1_0 hb; have y2_1 := box_keep y1_1 hb; have y2_2 := box_keep y1_2 hb; have y2_3 := box_keep y1_3 hb; have y2_4 := box_keep y1_4 hb; have y2_5 := box_keep y1_5 hb; have y2_6 := box_keep y1_6 hb; have y2_7 := box_keep y1_7 hb; have y2_8 := box_keep y1_8 hb; have y2_9 := box_keep y1_9 hb
    clear hb HX y1_0 y1_1 y1_2 y1_3 y1_4 y1_5 y1_6 y1_7 y1_8 y1_9
    cases q : wds.all (wordB (Nd.vw f))
    · rw [q] at he
      subst he
      have HQ1 := Lib.hid q
      clear q
      go_wp2_with fail
      go_ret
      exact ⟨ret_bool (by rw [RF.out, HQ0.out, HQ1.out]; rfl), HB2.out⟩
    rw [q] at he
    subst he
    have HQ1 := Lib.hid q
    clear q
    have HX := Lib.hid (words_r f IH.out G _ asg w2 (old_of HG.out HB2.out) (HSA.out.onW HG.out HB2.out))
    go_wp2_with fail
    refine HX.out.mono ?_
    rintro e w3 ⟨he, hb⟩
    have HB3 := Lib.hid (HB2.out.trans (hb.mono HB2.out.size))
    have y3_0 := box_keep y2_0 hb; have y3_1 := box_keep y2_1 hb; have y3_2 := box_keep y2_2 hb; have y3_3 := box_keep y2_3 hb; have y3_4 := box_keep y2_4 hb; have y3_5 := box_keep y2_5 hb; have y3_6 := box_keep y2_6 hb; have y3_7 := box_keep y2_7 hb; have y3_8 := box_keep y2_8 hb; have y3_9 := box_keep y2_9 hb
    clear hb HX y2_0 y2_1 y2_2 y2_3 y2_4 y2_5 y2_6 y2_7 y2_8 y2_9
    cases q : asg.all (wordB (Nd.vw f))
    · rw [q] at he
      subst he
      have HQ2 := Lib.hid q
      clear q
      go_wp2_with fail
      go_ret
      exact ⟨ret_bool (by rw [RF.out, HQ0.out, HQ1.out, HQ2.out]; rfl), HB3.out⟩
    rw [q] at he
    subst he
    have HQ2 := Lib.hid q
    clear q
    have HX := Lib.hid (empty_r f false true true (!false) false true G w3 _ _ (old_of HG.out HB3.out) (HV.out.below HG.out HB3.out))
    go_wp2_with fail
    refine HX.out.mono ?_
    rintro e w4 ⟨he, hb⟩
    have HB4 := Lib.hid (HB3.out.trans (hb.mono HB3.out.size))
    have y4_0 := box_keep y3_0 hb; have y4_1 := box_keep y3_1 hb; have y4_2 := box_keep y3_2 hb; have y4_3 := box_keep y3_3 hb; have y4_4 := box_keep y3_4 hb; have y4_5 := box_keep y3_5 hb; have y4_6 := box_keep y3_6 hb; have y4_7 := box_keep y3_7 hb; have y4_8 := box_keep y3_8 hb; have y4_9 := box_keep y3_9 hb
    clear hb HX y3_0 y3_1 y3_2 y3_3 y3_4 y3_5 y3_6 y3_7 y3_8 y3_9
    cases q : emptyB false true true (!false) false true s ops asg wds rds ars
    · rw [q] at he
      subst he
      have HQ3 := Lib.hid q
      clear q
      go_wp2_with fail
      go_ret
      exact ⟨ret_bool (by rw [RF.out, HQ0.out, HQ1.out, HQ2.out, HQ3.out]; rfl), HB4.out⟩
    rw [q] at he
    subst he
    have HQ3 := Lib.hid q
    clear q
    have HX := Lib.hid (name_rb s w4 (by omega))
    go_wp2_with fail
    refine HX.out.mono ?_
    rintro e w5 ⟨he, hb⟩
    have HB5 := Lib.hid (HB4.out.trans (hb.mono HB4.out.size))
    have y5_0 := box_keep y4_0 hb; have y5_1 := box_keep y4_1 hb; have y5_2 := box_keep y4_2 hb; have y5_3 := box_keep y4_3 hb; have y5_4 := box_keep y4_4 hb; have y5_5 := box_keep y4_5 hb; have y5_6 := box_keep y4_6 hb; have y5_7 := box_keep y4_7 hb; have y5_8 := box_keep y4_8 hb; have y5_9 := box_keep y4_9 hb
    clear hb HX y4_0 y4_1 y4_2 y4_3 y4_4 y4_5 y4_6 y4_7 y4_8 y4_9
    cases q : Chr.name s.toList
    · rw [q] at he
      subst he
      have HQ4 := Lib.hid q
      clear q
      go_wp2_with fail
      go_ret
      exact ⟨ret_bool (by rw [RF.out, HQ0.out, HQ1.out, HQ2.out, HQ3.out, HQ4.out]; rfl), HB5.out⟩
    rw [q] at he
    subst he
    have HQ4 := Lib.hid q
    clear q
    have HX := Lib.hid (lists_r f IH.out 1 1 G w5 _ _ (old_of HG.out HB5.out) (HV.out.below HG.out HB5.out))
    go_wp2_with fail
    refine HX.out.mono ?_
    rintro e w6 ⟨rfl, hb⟩
    have HB6 := Lib.hid (HB5.out.trans (hb.mono HB5.out.size))
    have y6_0 := box_keep y5_0 hb; have y6_1 := box_keep y5_1 hb; have y6_2 := box_keep y5_2 hb; have y6_3 := box_keep y5_3 hb; have y6_4 := box_keep y5_4 hb; have y6_5 := box_keep y5_5 hb; have y6_6 := box_keep y5_6 hb; have y6_7 := box_keep y5_7 hb; have y6_8 := box_keep y5_8 hb; have y6_9 := box_keep y5_9 hb
    clear hb HX y5_0 y5_1 y5_2 y5_3 y5_4 y5_5 y5_6 y5_7 y5_8 y5_9
    go_wp2_with fail
    go_ret
    exact ⟨ret_bool (by rw [RF.out, HQ0.out, HQ1.out, HQ2.out, HQ3.out, HQ4.out]; rfl), HB6.out⟩
  have RF := Lib.hid (show rightF (Nd.vw f) (NdF.mk 7 s false true ops asg wds rds ars kds) = (rds.all (redirB (Nd.vw f)) && (wds.all (wordB (Nd.vw f)) && (asg.all (wordB (Nd.vw f)) && (emptyB false true true (!true) false true s ops asg wds rds ars && (Chr.name s.toList && listsR (Nd.vw f) 1 1 (NdF.mk 7 s false true ops asg wds rds ars kds)))))) from by rw [rf_7]; rfl)
  go_enter Tryz.func38, Tryz.ntmps38
  have HX := Lib.hid (redirs_r f IH.out G _ rds W (old_of HG.out HBW.out) (HSR.out.onR HG.out HBW.out))
  go_wp2_with fail
  refine HX.out.mono ?_
  rintro e w1 ⟨he, hb⟩
  have HB1 := Lib.hid (HBW.out.trans (hb.mono HBW.out.size))
  have y1_0 := box_keep x0 hb; have y1_1 := box_keep x1 hb; have y1_2 := box_keep x2 hb; have y1_3 := box_keep x3 hb; have y1_4 := box_keep x4 hb; have y1_5 := box_keep x5 hb; have y1_6 := box_keep x6 hb; have y1_7 := box_keep x7 hb; have y1_8 := box_keep x8 hb; have y1_9 := box_keep x9 hb
  clear hb HX
  cases q : rds.all (redirB (Nd.vw f))
  · rw [q] at he
    subst he
    have HQ0 := Lib.hid q
    clear q
    go_wp2_with fail
    go_ret
    exact ⟨ret_bool (by rw [RF.out, HQ0.out]; rfl), HB1.out⟩
  rw [q] at he
  subst he
  have HQ0 := Lib.hid q
  clear q
  have HX := Lib.hid (words_r f IH.out G _ wds w1 (old_of HG.out HB1.out) (HSW.out.onW HG.out HB1.out))
  go_wp2_with fail
  refine HX.out.mono ?_
  rintro e w2 ⟨he, hb⟩
  have HB2 := Lib.hid (HB1.out.trans (hb.mono HB1.out.size))
  have y2_0 := box_keep y1_0 hb; have y2_1 := box_keep y1_1 hb; have y2_2 := box_keep y1_2 hb; have y2_3 := box_keep y1_3 hb; have y2_4 := box_keep y1_4 hb; have y2_5 := box_keep y1_5 hb; have y2_6 := box_keep y1_6 hb; have y2_7 := box_keep y1_7 hb; have y2_8 := box_keep y1_8 hb; have y2_9 := box_keep y1_9 hb
  clear hb HX y1_0 y1_1 y1_2 y1_3 y1_4 y1_5 y1_6 y1_7 y1_8 y1_9
  cases q : wds.all (wordB (Nd.vw f))
  · rw [q] at he
    subst he
    have HQ1 := Lib.hid q
    clear q
    go_wp2_with fail
    go_ret
    exact ⟨ret_bool (by rw [RF.out, HQ0.out, HQ1.out]; rfl), HB2.out⟩
  rw [q] at he
  subst he
  have HQ1 := Lib.hid q
  clear q
  have HX := Lib.hid (words_r f IH.out G _ asg w2 (old_of HG.out HB2.out) (HSA.out.onW HG.out HB2.out))
  go_wp2_with fail
  refine HX.out.mono ?_
  rintro e w3 ⟨he, hb⟩
  have HB3 := Lib.hid (HB2.out.trans (hb.mono HB2.out.size))
  have y3_0 := box_keep y2_0 hb; have y3_1 := box_keep y2_1 hb; have y3_2 := box_keep y2_2 hb; have y3_3 := box_keep y2_3 hb; have y3_4 := box_keep y2_4 hb; have y3_5 := box_keep y2_5 hb; have y3_6 := box_keep y2_6 hb; have y3_7 := box_keep y2_7 hb; have y3_8 := box_keep y2_8 hb; have y3_9 := box_keep y2_9 hb
  clear hb HX y2_0 y2_1 y2_2 y2_3 y2_4 y2_5 y2_6 y2_7 y2_8 y2_9
  cases q : asg.all (wordB (Nd.vw f))
  · rw [q] at he
    subst he
    have HQ2 := Lib.hid q
    clear q
    go_wp2_with fail
    go_ret
    exact ⟨ret_bool (by rw [RF.out, HQ0.out, HQ1.out, HQ2.out]; rfl), HB3.out⟩
  rw [q] at he
  subst he
  have HQ2 := Lib.hid q
  clear q
  have HX := Lib.hid (empty_r f false true true (!true) false true G w3 _ _ (old_of HG.out HB3.out) (HV.out.below HG.out HB3.out))
  go_wp2_with fail
  refine HX.out.mono ?_
  rintro e w4 ⟨he, hb⟩
  have HB4 := Lib.hid (HB3.out.trans (hb.mono HB3.out.size))
  have y4_0 := box_keep y3_0 hb; have y4_1 := box_keep y3_1 hb; have y4_2 := box_keep y3_2 hb; have y4_3 := box_keep y3_3 hb; have y4_4 := box_keep y3_4 hb; have y4_5 := box_keep y3_5 hb; have y4_6 := box_keep y3_6 hb; have y4_7 := box_keep y3_7 hb; have y4_8 := box_keep y3_8 hb; have y4_9 := box_keep y3_9 hb
  clear hb HX y3_0 y3_1 y3_2 y3_3 y3_4 y3_5 y3_6 y3_7 y3_8 y3_9
  cases q : emptyB false true true (!true) false true s ops asg wds rds ars
  · rw [q] at he
    subst he
    have HQ3 := Lib.hid q
    clear q
    go_wp2_with fail
    go_ret
    exact ⟨ret_bool (by rw [RF.out, HQ0.out, HQ1.out, HQ2.out, HQ3.out]; rfl), HB4.out⟩
  rw [q] at he
  subst he
  have HQ3 := Lib.hid q
  clear q
  have HX := Lib.hid (name_rb s w4 (by omega))
  go_wp2_with fail
  refine HX.out.mono ?_
  rintro e w5 ⟨he, hb⟩
  have HB5 := Lib.hid (HB4.out.trans (hb.mono HB4.out.size))
  have y5_0 := box_keep y4_0 hb; have y5_1 := box_keep y4_1 hb; have y5_2 := box_keep y4_2 hb; have y5_3 := box_keep y4_3 hb; have y5_4 := box_keep y4_4 hb; have y5_5 := box_keep y4_5 hb; have y5_6 := box_keep y4_6 hb; have y5_7 := box_keep y4_7 hb; have y5_8 := box_keep y4_8 hb; have y5_9 := box_keep y4_9 hb
  clear hb HX y4_0 y4_1 y4_2 y4_3 y4_4 y4_5 y4_6 y4_7 y4_8 y4_9
  cases q : Chr.name s.toList
  · rw [q] at he
    subst he
    have HQ4 := Lib.hid q
    clear q
    go_wp2_with fail
    go_ret
    exact ⟨ret_bool (by rw [RF.out, HQ0.out, HQ1.out, HQ2.out, HQ3.out, HQ4.out]; rfl), HB5.out⟩
  rw [q] at he
  subst he
  have HQ4 := Lib.hid q
  clear q
  have HX := Lib.hid (lists_r f IH.out 1 1 G w5 _ _ (old_of HG.out HB5.out) (HV.out.below HG.out HB5.out))
  go_wp2_with fail
  refine HX.out.mono ?_
  rintro e w6 ⟨rfl, hb⟩
  have HB6 := Lib.hid (HB5.out.trans (hb.mono HB5.out.size))
  have y6_0 := box_keep y5_0 hb; have y6_1 := box_keep y5_1 hb; have y6_2 := box_keep y5_2 hb; have y6_3 := box_keep y5_3 hb; have y6_4 := box_keep y5_4 hb; have y6_5 := box_keep y5_5 hb; have y6_6 := box_keep y5_6 hb; have y6_7 := box_keep y5_7 hb; have y6_8 := box_keep y5_8 hb; have y6_9 := box_keep y5_9 hb
  clear hb HX y5_0 y5_1 y5_2 y5_3 y5_4 y5_5 y5_6 y5_7 y5_8 y5_9
  go_wp2_with fail
  go_ret
  exact ⟨ret_bool (by rw [RF.out, HQ0.out, HQ1.out, HQ2.out, HQ3.out, HQ4.out]; rfl), HB6.out⟩
set_option maxRecDepth 100000 in
set_option maxHeartbeats 4000000 in
theorem rright_8 (f : Nat) (ih : RRt f) (_ih2 : RRight f) (G : Nat → Prop) (w : World) (vs : List Value) (x : NdF (Nd f)) (hG : ∀ k, G k → k < w.heap.size) (hv : NdV (f + 1) G w vs x) (hk : x.k = 8) :
    Calls Tryz.prog 38 #[ag vs] w fun e w' => e = .returned (.bool (rightF (Nd.vw f) x)) ∧ Below w.heap.size w w' := by
  obtain ⟨ky, s, nt, ni, ops, asg, wds, rds, ars, kds⟩ := x
  obtain ⟨A4, c4, A5, c5, A6, c6, A7, c7, A8, c8, A9, c9, rfl, hns, hal, hl4, hl5, hl6, hl7, hl8, hl9, hso, hsa, hsw, hsr, hsm, hsk⟩ := NdV.open hv
  have HSO := Lib.hid hso; have HSA := Lib.hid hsa; have HSW := Lib.hid hsw; have HSR := Lib.hid hsr; have HSM := Lib.hid hsm; have HSK := Lib.hid hsk
  have HV := Lib.hid hv
  clear hso hsa hsw hsr hsm hsk hv
  show Calls Tryz.prog 38 #[.agg #[.int .i64 ky, .string s, .bool nt, .bool ni, .slice A4 ops.length c4, .slice A5 asg.length c5, .slice A6 wds.length c6, .slice A7 rds.length c7, .slice A8 ars.length c8, .slice A9 kds.length c9]] w _
  have hbw : Below w.heap.size w (w.alloc (.cells #[.int .i64 ky, .string s, .bool nt, .bool ni, .slice A4 ops.length c4, .slice A5 asg.length c5, .slice A6 wds.length c6, .slice A7 rds.length c7, .slice A8 ars.length c8, .slice A9 kds.length c9] 28)) := (Below.refl _ _).alloc (Nat.le_refl _) _
  have hb0 := heap_alloc_t w (.cells #[.int .i64 ky, .string s, .bool nt, .bool ni, .slice A4 ops.length c4, .slice A5 asg.length c5, .slice A6 wds.length c6, .slice A7 rds.length c7, .slice A8 ars.length c8, .slice A9 kds.length c9] 28)
  generalize hW : w.alloc (.cells #[.int .i64 ky, .string s, .bool nt, .bool ni, .slice A4 ops.length c4, .slice A5 asg.length c5, .slice A6 wds.length c6, .slice A7 rds.length c7, .slice A8 ars.length c8, .slice A9 kds.length c9] 28) = W at *
  have x0 : W.cell? ⟨w.heap.size, 0, none⟩ = some (.int .i64 ky) := by simp [World.cell?, hb0]
  have x1 : W.cell? ⟨w.heap.size, 1, none⟩ = some (.string s) := by simp [World.cell?, hb0]
  have x2 : W.cell? ⟨w.heap.size, 2, none⟩ = some (.bool nt) := by simp [World.cell?, hb0]
  have x3 : W.cell? ⟨w.heap.size, 3, none⟩ = some (.bool ni) := by simp [World.cell?, hb0]
  have x4 : W.cell? ⟨w.heap.size, 4, none⟩ = some (.slice A4 ops.length c4) := by simp [World.cell?, hb0]
  have x5 : W.cell? ⟨w.heap.size, 5, none⟩ = some (.slice A5 asg.length c5) := by simp [World.cell?, hb0]
  have x6 : W.cell? ⟨w.heap.size, 6, none⟩ = some (.slice A6 wds.length c6) := by simp [World.cell?, hb0]
  have x7 : W.cell? ⟨w.heap.size, 7, none⟩ = some (.slice A7 rds.length c7) := by simp [World.cell?, hb0]
  have x8 : W.cell? ⟨w.heap.size, 8, none⟩ = some (.slice A8 ars.length c8) := by simp [World.cell?, hb0]
  have x9 : W.cell? ⟨w.heap.size, 9, none⟩ = some (.slice A9 kds.length c9) := by simp [World.cell?, hb0]
  have HGW := Lib.hid (old_of hG hbw)
  have HBW := Lib.hid hbw; have HG := Lib.hid hG
  have IH := Lib.hid ih
  clear hbw hb0 hG ih
  simp only at hk
  obtain rfl := hk
  cases nt
  case true =>
    have RF := Lib.hid (rf_8 (Nd.vw f) s true ni ops asg wds rds ars kds)
    go_enter Tryz.func38, Tryz.ntmps38
    cases ni <;>
      (go_wp2_with fail
       go_ret
       exact ⟨ret_bool (by rw [RF.out]; rfl), HBW.out⟩)
  cases ni
  case true =>
    have RF := Lib.hid (rf_8 (Nd.vw f) s false true ops asg wds rds ars kds)
    go_enter Tryz.func38, Tryz.ntmps38
    go_wp2_with fail
    go_ret
    exact ⟨ret_bool (by rw [RF.out]; rfl), HBW.out⟩
  have RF := Lib.hid (show rightF (Nd.vw f) (NdF.mk 8 s false false ops asg wds rds ars kds) = (rds.all (redirB (Nd.vw f)) && (wds.all (wordB (Nd.vw f)) && (asg.all (wordB (Nd.vw f)) && (emptyB true true true false false false s ops asg wds rds ars && ((wds.length == 1) && ((kds.length == 0) && ars.all (armB (Nd.vw f)))))))) from by rw [rf_8]; rfl)
  go_enter Tryz.func38, Tryz.ntmps38
  have HX := Lib.hid (redirs_r f IH.out G _ rds W (old_of HG.out HBW.out) (HSR.out.onR HG.out HBW.out))
  go_wp2_with fail
  refine HX.out.mono ?_
  rintro e w1 ⟨he, hb⟩
  have HB1 := Lib.hid (HBW.out.trans (hb.mono HBW.out.size))
  have y1_0 := box_keep x0 hb; have y1_1 := box_keep x1 hb; have y1_2 := box_keep x2 hb; have y1_3 := box_keep x3 hb; have y1_4 := box_keep x4 hb; have y1_5 := box_keep x5 hb; have y1_6 := box_keep x6 hb; have y1_7 := box_keep x7 hb; have y1_8 := box_keep x8 hb; have y1_9 := box_keep x9 hb
  clear hb HX
  cases q : rds.all (redirB (Nd.vw f))
  · rw [q] at he
    subst he
    have HQ0 := Lib.hid q
    clear q
    go_wp2_with fail
    go_ret
    exact ⟨ret_bool (by rw [RF.out, HQ0.out]; rfl), HB1.out⟩
  rw [q] at he
  subst he
  have HQ0 := Lib.hid q
  clear q
  have HX := Lib.hid (words_r f IH.out G _ wds w1 (old_of HG.out HB1.out) (HSW.out.onW HG.out HB1.out))
  go_wp2_with fail
  refine HX.out.mono ?_
  rintro e w2 ⟨he, hb⟩
  have HB2 := Lib.hid (HB1.out.trans (hb.mono HB1.out.size))
  have y2_0 := box_keep y1_0 hb; have y2_1 := box_keep y1_1 hb; have y2_2 := box_keep y1_2 hb; have y2_3 := box_keep y1_3 hb; have y2_4 := box_keep y1_4 hb; have y2_5 := box_keep y1_5 hb; have y2_6 := box_keep y1_6 hb; have y2_7 := box_keep y1_7 hb; have y2_8 := box_keep y1_8 hb; have y2_9 := box_keep y1_9 hb
  clear hb HX y1_0 y1_1 y1_2 y1_3 y1_4 y1_5 y1_6 y1_7 y1_8 y1_9
  cases q : wds.all (wordB (Nd.vw f))
  · rw [q] at he
    subst he
    have HQ1 := Lib.hid q
    clear q
    go_wp2_with fail
    go_ret
    exact ⟨ret_bool (by rw [RF.out, HQ0.out, HQ1.out]; rfl), HB2.out⟩
  rw [q] at he
  subst he
  have HQ1 := Lib.hid q
  clear q
  have HX := Lib.hid (words_r f IH.out G _ asg w2 (old_of HG.out HB2.out) (HSA.out.onW HG.out HB2.out))
  go_wp2_with fail
  refine HX.out.mono ?_
  rintro e w3 ⟨he, hb⟩
  have HB3 := Lib.hid (HB2.out.trans (hb.mono HB2.out.size))
  have y3_0 := box_keep y2_0 hb; have y3_1 := box_keep y2_1 hb; have y3_2 := box_keep y2_2 hb; have y3_3 := box_keep y2_3 hb; have y3_4 := box_keep y2_4 hb; have y3_5 := box_keep y2_5 hb; have y3_6 := box_keep y2_6 hb; have y3_7 := box_keep y2_7 hb; have y3_8 := box_keep y2_8 hb; have y3_9 := box_keep y2_9 hb
  clear hb HX y2_0 y2_1 y2_2 y2_3 y2_4 y2_5 y2_6 y2_7 y2_8 y2_9
  cases q : asg.all (wordB (Nd.vw f))
  · rw [q] at he
    subst he
    have HQ2 := Lib.hid q
    clear q
    go_wp2_with fail
    go_ret
    exact ⟨ret_bool (by rw [RF.out, HQ0.out, HQ1.out, HQ2.out]; rfl), HB3.out⟩
  rw [q] at he
  subst he
  have HQ2 := Lib.hid q
  clear q
  have HX := Lib.hid (empty_r f true true true false false false G w3 _ _ (old_of HG.out HB3.out) (HV.out.below HG.out HB3.out))
  go_wp2_with fail
  refine HX.out.mono ?_
  rintro e w4 ⟨he, hb⟩
  have HB4 := Lib.hid (HB3.out.trans (hb.mono HB3.out.size))
  have y4_0 := box_keep y3_0 hb; have y4_1 := box_keep y3_1 hb; have y4_2 := box_keep y3_2 hb; have y4_3 := box_keep y3_3 hb; have y4_4 := box_keep y3_4 hb; have y4_5 := box_keep y3_5 hb; have y4_6 := box_keep y3_6 hb; have y4_7 := box_keep y3_7 hb; have y4_8 := box_keep y3_8 hb; have y4_9 := box_keep y3_9 hb
  clear hb HX y3_0 y3_1 y3_2 y3_3 y3_4 y3_5 y3_6 y3_7 y3_8 y3_9
  cases q : emptyB true true true false false false s ops asg wds rds ars
  · rw [q] at he
    subst he
    have HQ3 := Lib.hid q
    clear q
    go_wp2_with fail
    go_ret
    exact ⟨ret_bool (by rw [RF.out, HQ0.out, HQ1.out, HQ2.out, HQ3.out]; rfl), HB4.out⟩
  rw [q] at he
  subst he
  have HQ3 := Lib.hid q
  clear q
  by_cases hl4 : wds.length = 1
  case neg =>
    have HL4 := Lib.hid (beq_false_of_ne hl4)
    have m1 : ((wds.length : Int) == 1) = false := beq_false_of_ne (by omega)
    have m2 : (wds.length == 1) = false := beq_false_of_ne hl4
    go_wp2_with fail
    go_ret
    exact ⟨ret_bool (by rw [RF.out, HQ0.out, HQ1.out, HQ2.out, HQ3.out, HL4.out]; rfl), HB4.out⟩
  have HL4 := Lib.hid (beq_iff_eq.2 hl4)
  have m1_4 : ((wds.length : Int) == 1) = true := beq_iff_eq.2 (by omega)
  have m2_4 : (wds.length == 1) = true := beq_iff_eq.2 hl4
  clear hl4
  by_cases hl5 : kds.length = 0
  case neg =>
    have HL5 := Lib.hid (beq_false_of_ne hl5)
    have m1 : ((kds.length : Int) == 0) = false := beq_false_of_ne (by omega)
    have m2 : (kds.length == 0) = false := beq_false_of_ne hl5
    go_wp2_with fail
    go_ret
    exact ⟨ret_bool (by rw [RF.out, HQ0.out, HQ1.out, HQ2.out, HQ3.out, HL4.out, HL5.out]; rfl), HB4.out⟩
  have HL5 := Lib.hid (beq_iff_eq.2 hl5)
  have m1_5 : ((kds.length : Int) == 0) = true := beq_iff_eq.2 (by omega)
  have m2_5 : (kds.length == 0) = true := beq_iff_eq.2 hl5
  clear hl5
  have HX := Lib.hid (arms_r f IH.out G _ ars w4 (old_of HG.out HB4.out) (HSM.out.onA HG.out HB4.out))
  go_wp2_with fail
  refine HX.out.mono ?_
  rintro e w5 ⟨rfl, hb⟩
  have HB5 := Lib.hid (HB4.out.trans (hb.mono HB4.out.size))
  have y5_0 := box_keep y4_0 hb; have y5_1 := box_keep y4_1 hb; have y5_2 := box_keep y4_2 hb; have y5_3 := box_keep y4_3 hb; have y5_4 := box_keep y4_4 hb; have y5_5 := box_keep y4_5 hb; have y5_6 := box_keep y4_6 hb; have y5_7 := box_keep y4_7 hb; have y5_8 := box_keep y4_8 hb; have y5_9 := box_keep y4_9 hb
  clear hb HX y4_0 y4_1 y4_2 y4_3 y4_4 y4_5 y4_6 y4_7 y4_8 y4_9
  go_wp2_with fail
  go_ret
  exact ⟨ret_bool (by rw [RF.out, HQ0.out, HQ1.out, HQ2.out, HQ3.out, HL4.out, HL5.out]; rfl), HB5.out⟩
end Go.Proofs.YtjpopekmbmcggaaGreatDoor
