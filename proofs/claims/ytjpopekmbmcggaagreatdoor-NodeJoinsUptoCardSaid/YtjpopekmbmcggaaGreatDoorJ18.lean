/- Towards nodeJoins_card: NdKids. Merged from smaller texts by a program of the author's. -/
import Derived.Test.YtjpopekmbmcggaaGreatDoorJ17
namespace Go.Proofs.YtjpopekmbmcggaaGreatDoor
open Go.RowKit
def PRight (f : Nat) : Prop := ∀ (G : Nat → Prop) (w : World) (vs : List Value) (x : Nd f), (∀ k, G k → k < w.heap.size) → RsvAt w → NdV f G w vs x →
  Calls Tryz.prog 37 #[ag vs] w fun e w' => e = .returned (.bool ((Nd.vw f).rt x)) ∧ Below w.heap.size w w'
def POn (f : Nat) : Prop := ∀ (G : Nat → Prop) (w : World) (vs : List Value) (x : Nd f), (∀ k, G k → k < w.heap.size) → RsvAt w → NdV f G w vs x →
  Calls Tryz.prog 79 #[ag vs, .agg #[.bool false, .bool false, .bool false, .bool false, .bool false, .bool false, .bool false]] w fun e w' => e = .returned (.bool ((Nd.vw f).on x)) ∧ Below w.heap.size w w'
theorem enter_kids1 : Enters 138 := fun args w => by simp [callFunc, go_sem, Tryz.func138, Tryz.f138]
theorem enter_ops1 : Enters 140 := fun args w => by simp [callFunc, go_sem, Tryz.func140, Tryz.f140]
theorem enter_assigns : Enters 141 := fun args w => by simp [callFunc, go_sem, Tryz.func141, Tryz.f141]
theorem enter_arm : Enters 94 := fun args w => by simp [callFunc, go_sem, Tryz.func94, Tryz.f94]
theorem NdV.kind {f : Nat} {G : Nat → Prop} {w : World} {ky : Int} {r : List Value} {x : Nd f} (h : NdV f G w (.int .i64 ky :: r) x) : (Nd.vw f).kd x = ky := by
  cases f with
  | zero => exact h.elim
  | succ f =>
    obtain ⟨vo, va, vw, vr, vm, vk, h1, _⟩ := h
    injection h1 with h1
    injection h1 with _ h1
    exact h1.symm
set_option maxRecDepth 100000 in
set_option maxHeartbeats 4000000 in
theorem kids1_p (f : Nat) (ih : PRight f) (fr : Int) (bo : Nat) (G : Nat → Prop) (w : World) (vs : List Value) (x : Nd f) (hG : ∀ k, G k → k < w.heap.size) (ht : RsvAt w) (hc : w.cell? ⟨bo, 0, none⟩ = some (.int .i64 fr)) (hv : NdV f G w vs x) :
    Calls Tryz.prog 138 (#[ag vs] ++ #[.pointer (some ⟨bo, 0, none⟩)]) w fun e w' => e = .returned (.bool (decide (fr ≤ (Nd.vw f).kd x) && (Nd.vw f).rt x)) ∧ Below w.heap.size w w' := by
  obtain ⟨ky, s, nt, ni, A4, n4, c4, A5, n5, c5, A6, n6, c6, A7, n7, c7, A8, n8, c8, A9, n9, c9, rfl⟩ := hv.shape
  have hkd := NdV.kind hv
  show Calls Tryz.prog 138 #[.agg #[.int .i64 ky, .string s, .bool nt, .bool ni, .slice A4 n4 c4, .slice A5 n5 c5, .slice A6 n6 c6, .slice A7 n7 c7, .slice A8 n8 c8, .slice A9 n9 c9], .pointer (some ⟨bo, 0, none⟩)] w _
  have hbw : Below w.heap.size w (w.alloc (.cells #[.int .i64 ky, .string s, .bool nt, .bool ni, .slice A4 n4 c4, .slice A5 n5 c5, .slice A6 n6 c6, .slice A7 n7 c7, .slice A8 n8 c8, .slice A9 n9 c9] 28)) := (Below.refl _ _).alloc (Nat.le_refl _) _
  have hb0 := heap_alloc_t w (.cells #[.int .i64 ky, .string s, .bool nt, .bool ni, .slice A4 n4 c4, .slice A5 n5 c5, .slice A6 n6 c6, .slice A7 n7 c7, .slice A8 n8 c8, .slice A9 n9 c9] 28)
  have hc1 := (hbw.cell (p := ⟨bo, 0, none⟩) (cell_lt hc)).trans hc
  have HX := Lib.hid (ih G _ _ x (old_of hG hbw) (ht.below hbw) (hv.below hG hbw))
  generalize hW : w.alloc (.cells #[.int .i64 ky, .string s, .bool nt, .bool ni, .slice A4 n4 c4, .slice A5 n5 c5, .slice A6 n6 c6, .slice A7 n7 c7, .slice A8 n8 c8, .slice A9 n9 c9] 28) = W at *
  have x0 : W.cell? ⟨w.heap.size, 0, none⟩ = some (.int .i64 ky) := by simp [World.cell?, hb0]
  have x1 : W.cell? ⟨w.heap.size, 1, none⟩ = some (.string s) := by simp [World.cell?, hb0]
  have x2 : W.cell? ⟨w.heap.size, 2, none⟩ = some (.bool nt) := by simp [World.cell?, hb0]
  have x3 : W.cell? ⟨w.heap.size, 3, none⟩ = some (.bool ni) := by simp [World.cell?, hb0]
  have x4 : W.cell? ⟨w.heap.size, 4, none⟩ = some (.slice A4 n4 c4) := by simp [World.cell?, hb0]
  have x5 : W.cell? ⟨w.heap.size, 5, none⟩ = some (.slice A5 n5 c5) := by simp [World.cell?, hb0]
  have x6 : W.cell? ⟨w.heap.size, 6, none⟩ = some (.slice A6 n6 c6) := by simp [World.cell?, hb0]
  have x7 : W.cell? ⟨w.heap.size, 7, none⟩ = some (.slice A7 n7 c7) := by simp [World.cell?, hb0]
  have x8 : W.cell? ⟨w.heap.size, 8, none⟩ = some (.slice A8 n8 c8) := by simp [World.cell?, hb0]
  have x9 : W.cell? ⟨w.heap.size, 9, none⟩ = some (.slice A9 n9 c9) := by simp [World.cell?, hb0]
  have HBW := Lib.hid hbw
  have HKD := Lib.hid hkd
  clear hkd hbw hb0 hG ht ih hv hc
  by_cases h9 : fr ≤ ky
  · have HD := Lib.hid (decide_eq_true h9)
    go_enter Tryz.func138, Tryz.ntmps138
    go_wp2_with fail
    refine HX.out.mono ?_
    rintro e w1 ⟨rfl, hb⟩
    have HB := Lib.hid (HBW.out.trans (hb.mono HBW.out.size))
    clear hb
    go_wp2_with fail
    go_ret
    exact ⟨ret_bool (by rw [HKD.out, HD.out, Bool.true_and]), HB.out⟩
  · have HD := Lib.hid (decide_eq_false h9)
    go_enter Tryz.func138, Tryz.ntmps138
    go_wp2_with fail
    go_ret
    exact ⟨ret_bool (by rw [HKD.out, HD.out, Bool.false_and]), HBW.out⟩
set_option maxRecDepth 100000 in
set_option maxHeartbeats 4000000 in
theorem kids_p (f : Nat) (ih : PRight f) (least : Nat) (fr : Int) (G : Nat → Prop) (w : World) (vs : List Value) (x : NdF (Nd f)) (hG : ∀ k, G k → k < w.heap.size) (ht : RsvAt w) (hv : NdV (f + 1) G w vs x) :
    Calls Tryz.prog 81 #[ag vs, .int .i64 (least : Nat), .int .i64 fr] w fun e w' => e = .returned (.bool (kidsB (Nd.vw f) least fr x)) ∧ Below w.heap.size w w' := by
  obtain ⟨ky, s, nt, ni, ops, asg, wds, rds, ars, kds⟩ := x
  obtain ⟨A4, c4, A5, c5, A6, c6, A7, c7, A8, c8, A9, c9, rfl, hns, hal, hl4, hl5, hl6, hl7, hl8, hl9, hso, hsa, hsw, hsr, hsm, hsk⟩ := NdV.open hv
  have HSO := Lib.hid hso; have HSA := Lib.hid hsa; have HSW := Lib.hid hsw; have HSR := Lib.hid hsr; have HSM := Lib.hid hsm; have HSK := Lib.hid hsk
  clear hso hsa hsw hsr hsm hsk hv
  show Calls Tryz.prog 81 #[.agg #[.int .i64 ky, .string s, .bool nt, .bool ni, .slice A4 ops.length c4, .slice A5 asg.length c5, .slice A6 wds.length c6, .slice A7 rds.length c7, .slice A8 ars.length c8, .slice A9 kds.length c9], .int .i64 (least : Nat), .int .i64 fr] w _
  have hbw : Below w.heap.size w ((w.alloc (.cells #[.int .i64 ky, .string s, .bool nt, .bool ni, .slice A4 ops.length c4, .slice A5 asg.length c5, .slice A6 wds.length c6, .slice A7 rds.length c7, .slice A8 ars.length c8, .slice A9 kds.length c9] 28)).alloc (.cells #[.int .i64 fr] 3)) := ((Below.refl _ _).alloc (Nat.le_refl _) _).alloc (by simp) _
  obtain ⟨hb0, hb1⟩ := two_blocks w (.cells #[.int .i64 ky, .string s, .bool nt, .bool ni, .slice A4 ops.length c4, .slice A5 asg.length c5, .slice A6 wds.length c6, .slice A7 rds.length c7, .slice A8 ars.length c8, .slice A9 kds.length c9] 28) (.cells #[.int .i64 fr] 3)
  generalize hW : (w.alloc (.cells #[.int .i64 ky, .string s, .bool nt, .bool ni, .slice A4 ops.length c4, .slice A5 asg.length c5, .slice A6 wds.length c6, .slice A7 rds.length c7, .slice A8 ars.length c8, .slice A9 kds.length c9] 28)).alloc (.cells #[.int .i64 fr] 3) = W at *
  have x0 : W.cell? ⟨w.heap.size, 0, none⟩ = some (.int .i64 ky) := by simp [World.cell?, hb0]
  have x1 : W.cell? ⟨w.heap.size, 1, none⟩ = some (.string s) := by simp [World.cell?, hb0]
  have x2 : W.cell? ⟨w.heap.size, 2, none⟩ = some (.bool nt) := by simp [World.cell?, hb0]
  have x3 : W.cell? ⟨w.heap.size, 3, none⟩ = some (.bool ni) := by simp [World.cell?, hb0]
  have x4 : W.cell? ⟨w.heap.size, 4, none⟩ = some (.slice A4 ops.length c4) := by simp [World.cell?, hb0]
  have x5 : W.cell? ⟨w.heap.size, 5, none⟩ = some (.slice A5 asg.length c5) := by simp [World.cell?, hb0]
  have x6 : W.cell? ⟨w.heap.size, 6, none⟩ = some (.slice A6 wds.length c6) := by simp [World.cell?, hb0]
  have x7 : W.cell? ⟨w.heap.size, 7, none⟩ = some (.slice A7 rds.length c7) := by simp [World.cell?, hb0]
  have x8 : W.cell? ⟨w.heap.size, 8, none⟩ = some (.slice A8 ars.length c8) := by simp [World.cell?, hb0]
  have x9 : W.cell? ⟨w.heap.size, 9, none⟩ = some (.slice A9 kds.length c9) := by simp [World.cell?, hb0]
  have HGW := Lib.hid (old_of hG hbw)
  have HBW := Lib.hid hbw; have HG := Lib.hid hG; have HT := Lib.hid ht
  clear hbw hb0 hG ht
  have z0 := cell_one hb1
  have IH := Lib.hid ih
  clear ih hb1
  by_cases hl : least ≤ kds.length
  · have HL := Lib.hid (decide_eq_true hl)
    have HX := Lib.hid (all_node f G 138 #[.pointer (some ⟨w.heap.size + 1, 0, none⟩)] (fun y => decide (fr ≤ (Nd.vw f).kd y) && (Nd.vw f).rt y) _ kds W HGW.out (HSK.out.onN HG.out HBW.out) enter_kids1
      (fun X hX vs y hy => kids1_p f IH.out fr (w.heap.size + 1) G X vs y (old_of HGW.out hX) ((HT.out.below HBW.out).below hX) (box_keep z0 hX) hy))
    go_enter Tryz.func81, Tryz.ntmps81
    go_wp2_with fail
    refine HX.out.mono ?_
    rintro e w1 ⟨rfl, hb⟩
    have HB := Lib.hid (HBW.out.trans (hb.mono HBW.out.size))
    clear hb
    go_wp2_with fail
    go_ret
    exact ⟨ret_bool (by rw [kidsB, HL.out, Bool.true_and]), HB.out⟩
  · have HL := Lib.hid (decide_eq_false hl)
    go_enter Tryz.func81, Tryz.ntmps81
    go_wp2_with fail
    go_ret
    exact ⟨ret_bool (by rw [kidsB, HL.out, Bool.false_and]), HBW.out⟩
set_option maxRecDepth 100000 in
set_option maxHeartbeats 4000000 in
theorem lists_p (f : Nat) (ih : PRt f) (least : Nat) (G : Nat → Prop) (w : World) (vs : List Value) (x : NdF (Nd f)) (hG : ∀ k, G k → k < w.heap.size) (ht : RsvAt w) (hv : NdV (f + 1) G w vs x) :
    Calls Tryz.prog 91 #[ag vs, .int .i64 (least : Nat)] w fun e w' => e = .returned (.bool (listsB (Nd.vw f) least x)) ∧ Below w.heap.size w w' := by
  obtain ⟨ky, s, nt, ni, ops, asg, wds, rds, ars, kds⟩ := x
  obtain ⟨A4, c4, A5, c5, A6, c6, A7, c7, A8, c8, A9, c9, rfl, hns, hal, hl4, hl5, hl6, hl7, hl8, hl9, hso, hsa, hsw, hsr, hsm, hsk⟩ := NdV.open hv
  have HSO := Lib.hid hso; have HSA := Lib.hid hsa; have HSW := Lib.hid hsw; have HSR := Lib.hid hsr; have HSM := Lib.hid hsm; have HSK := Lib.hid hsk
  clear hso hsa hsw hsr hsm hsk hv
  show Calls Tryz.prog 91 #[.agg #[.int .i64 ky, .string s, .bool nt, .bool ni, .slice A4 ops.length c4, .slice A5 asg.length c5, .slice A6 wds.length c6, .slice A7 rds.length c7, .slice A8 ars.length c8, .slice A9 kds.length c9], .int .i64 (least : Nat)] w _
  have hbw : Below w.heap.size w (w.alloc (.cells #[.int .i64 ky, .string s, .bool nt, .bool ni, .slice A4 ops.length c4, .slice A5 asg.length c5, .slice A6 wds.length c6, .slice A7 rds.length c7, .slice A8 ars.length c8, .slice A9 kds.length c9] 28)) := (Below.refl _ _).alloc (Nat.le_refl _) _
  have hb0 := heap_alloc_t w (.cells #[.int .i64 ky, .string s, .bool nt, .bool ni, .slice A4 ops.length c4, .slice A5 asg.length c5, .slice A6 wds.length c6, .slice A7 rds.length c7, .slice A8 ars.length c8, .slice A9 kds.length c9] 28)
  generalize hW : w.alloc (.cells #[.int .i64 ky, .string s, .bool nt, .bool ni, .slice A4 ops.length c4, .slice A5 asg.length c5, .slice A6 wds.length c6, .slice A7 rds.length c7, .slice A8 ars.length c8, .slice A9 kds.length c9] 28) = W at *
  have x0 : W.cell? ⟨w.heap.size, 0, none⟩ = some (.int .i64 ky) := by simp [World.cell?, hb0]
  have x1 : W.cell? ⟨w.heap.size, 1, none⟩ = some (.string s) := by simp [World.cell?, hb0]
  have x2 : W.cell? ⟨w.heap.size, 2, none⟩ = some (.bool nt) := by simp [World.cell?, hb0]
  have x3 : W.cell? ⟨w.heap.size, 3, none⟩ = some (.bool ni) := by simp [World.cell?, hb0]
  have x4 : W.cell? ⟨w.heap.size, 4, none⟩ = some (.slice A4 ops.length c4) := by simp [World.cell?, hb0]
  have x5 : W.cell? ⟨w.heap.size, 5, none⟩ = some (.slice A5 asg.length c5) := by simp [World.cell?, hb0]
  have x6 : W.cell? ⟨w.heap.size, 6, none⟩ = some (.slice A6 wds.length c6) := by simp [World.cell?, hb0]
  have x7 : W.cell? ⟨w.heap.size, 7, none⟩ = some (.slice A7 rds.length c7) := by simp [World.cell?, hb0]
  have x8 : W.cell? ⟨w.heap.size, 8, none⟩ = some (.slice A8 ars.length c8) := by simp [World.cell?, hb0]
  have x9 : W.cell? ⟨w.heap.size, 9, none⟩ = some (.slice A9 kds.length c9) := by simp [World.cell?, hb0]
  have HGW := Lib.hid (old_of hG hbw)
  have HBW := Lib.hid hbw; have HG := Lib.hid hG; have HT := Lib.hid ht
  clear hbw hb0 hG ht
  by_cases hl : least ≤ kds.length
  · have HL := Lib.hid (decide_eq_true hl)
    have HX := Lib.hid (all_node f G 13 #[] (Nd.vw f).R _ kds W HGW.out (HSK.out.onN HG.out HBW.out) enter_Right (ok_Right ih HGW.out (HT.out.below HBW.out)))
    clear ih
    go_enter Tryz.func91, Tryz.ntmps91
    go_wp2_with fail
    refine HX.out.mono ?_
    rintro e w1 ⟨rfl, hb⟩
    have HB := Lib.hid (HBW.out.trans (hb.mono HBW.out.size))
    clear hb
    go_wp2_with fail
    go_ret
    exact ⟨ret_bool (by rw [listsB, HL.out, Bool.true_and]), HB.out⟩
  · have HL := Lib.hid (decide_eq_false hl)
    clear ih
    go_enter Tryz.func91, Tryz.ntmps91
    go_wp2_with fail
    go_ret
    exact ⟨ret_bool (by rw [listsB, HL.out, Bool.false_and]), HBW.out⟩
set_option maxRecDepth 100000 in
set_option maxHeartbeats 4000000 in
theorem ops1_p (k : Int) (w : World) : Calls Tryz.prog 140 #[.int .i64 k] w fun e w' => e = .returned (.bool ((k == 1) || (k == 2))) ∧ Below w.heap.size w w' := by
  cases h1 : (k == 1)
  all_goals
    go_enter Tryz.func140, Tryz.ntmps140
    go_wp2_with fail
    go_ret
    exact ⟨rfl, Below.refl _ _⟩
set_option maxRecDepth 100000 in
set_option maxHeartbeats 4000000 in
theorem ops_p (f : Nat) (many : Nat) (G : Nat → Prop) (w : World) (vs : List Value) (x : NdF (Nd f)) (hG : ∀ k, G k → k < w.heap.size) (hv : NdV (f + 1) G w vs x) :
    Calls Tryz.prog 83 #[ag vs, .int .i64 (many : Nat)] w fun e w' => e = .returned (.bool (opsB many x)) ∧ Below w.heap.size w w' := by
  obtain ⟨ky, s, nt, ni, ops, asg, wds, rds, ars, kds⟩ := x
  obtain ⟨A4, c4, A5, c5, A6, c6, A7, c7, A8, c8, A9, c9, rfl, hns, hal, hl4, hl5, hl6, hl7, hl8, hl9, hso, hsa, hsw, hsr, hsm, hsk⟩ := NdV.open hv
  have HSO := Lib.hid hso; have HSA := Lib.hid hsa; have HSW := Lib.hid hsw; have HSR := Lib.hid hsr; have HSM := Lib.hid hsm; have HSK := Lib.hid hsk
  clear hso hsa hsw hsr hsm hsk hv
  show Calls Tryz.prog 83 #[.agg #[.int .i64 ky, .string s, .bool nt, .bool ni, .slice A4 ops.length c4, .slice A5 asg.length c5, .slice A6 wds.length c6, .slice A7 rds.length c7, .slice A8 ars.length c8, .slice A9 kds.length c9], .int .i64 (many : Nat)] w _
  have hbw : Below w.heap.size w (w.alloc (.cells #[.int .i64 ky, .string s, .bool nt, .bool ni, .slice A4 ops.length c4, .slice A5 asg.length c5, .slice A6 wds.length c6, .slice A7 rds.length c7, .slice A8 ars.length c8, .slice A9 kds.length c9] 28)) := (Below.refl _ _).alloc (Nat.le_refl _) _
  have hb0 := heap_alloc_t w (.cells #[.int .i64 ky, .string s, .bool nt, .bool ni, .slice A4 ops.length c4, .slice A5 asg.length c5, .slice A6 wds.length c6, .slice A7 rds.length c7, .slice A8 ars.length c8, .slice A9 kds.length c9] 28)
  generalize hW : w.alloc (.cells #[.int .i64 ky, .string s, .bool nt, .bool ni, .slice A4 ops.length c4, .slice A5 asg.length c5, .slice A6 wds.length c6, .slice A7 rds.length c7, .slice A8 ars.length c8, .slice A9 kds.length c9] 28) = W at *
  have x0 : W.cell? ⟨w.heap.size, 0, none⟩ = some (.int .i64 ky) := by simp [World.cell?, hb0]
  have x1 : W.cell? ⟨w.heap.size, 1, none⟩ = some (.string s) := by simp [World.cell?, hb0]
  have x2 : W.cell? ⟨w.heap.size, 2, none⟩ = some (.bool nt) := by simp [World.cell?, hb0]
  have x3 : W.cell? ⟨w.heap.size, 3, none⟩ = some (.bool ni) := by simp [World.cell?, hb0]
  have x4 : W.cell? ⟨w.heap.size, 4, none⟩ = some (.slice A4 ops.length c4) := by simp [World.cell?, hb0]
  have x5 : W.cell? ⟨w.heap.size, 5, none⟩ = some (.slice A5 asg.length c5) := by simp [World.cell?, hb0]
  have x6 : W.cell? ⟨w.heap.size, 6, none⟩ = some (.slice A6 wds.length c6) := by simp [World.cell?, hb0]
  have x7 : W.cell? ⟨w.heap.size, 7, none⟩ = some (.slice A7 rds.length c7) := by simp [World.cell?, hb0]
  have x8 : W.cell? ⟨w.heap.size, 8, none⟩ = some (.slice A8 ars.length c8) := by simp [World.cell?, hb0]
  have x9 : W.cell? ⟨w.heap.size, 9, none⟩ = some (.slice A9 kds.length c9) := by simp [World.cell?, hb0]
  have HGW := Lib.hid (old_of hG hbw)
  have HBW := Lib.hid hbw; have HG := Lib.hid hG
  clear hbw hb0 hG
  by_cases hl : ops.length = many
  · have HL := Lib.hid (beq_iff_eq.2 hl)
    have h0 : ((ops.length : Int) == (many : Int)) = true := beq_iff_eq.2 (by omega)
    have h0' : (ops.length == many) = true := beq_iff_eq.2 hl
    have HX := Lib.hid (all_int G 140 #[] (fun k => (k == 1) || (k == 2)) _ ops W HGW.out (HSO.out.onI HG.out HBW.out) enter_ops1 (fun X hX vs y hy => by
      obtain rfl : vs = [.int .i64 y] := hy
      exact ops1_p y X))
    clear hl
    go_enter Tryz.func83, Tryz.ntmps83
    go_wp2_with fail
    refine HX.out.mono ?_
    rintro e w1 ⟨rfl, hb⟩
    have HB := Lib.hid (HBW.out.trans (hb.mono HBW.out.size))
    clear hb
    go_wp2_with fail
    go_ret
    exact ⟨ret_bool (by rw [opsB, HL.out, Bool.true_and]), HB.out⟩
  · have HL := Lib.hid (beq_false_of_ne hl)
    have h0 : ((ops.length : Int) == (many : Int)) = false := beq_false_of_ne (by omega)
    have h0' : (ops.length == many) = false := beq_false_of_ne hl
    clear hl
    go_enter Tryz.func83, Tryz.ntmps83
    go_wp2_with fail
    go_ret
    exact ⟨ret_bool (by rw [opsB, HL.out, Bool.false_and]), HBW.out⟩
set_option maxRecDepth 100000 in
set_option maxHeartbeats 4000000 in
theorem assigns_p (f : Nat) (G : Nat → Prop) (w : World) (vs : List Value) (x : WdF (Nd f)) (hG : ∀ k, G k → k < w.heap.size) (hv : WdN f G w vs x) :
    Calls Tryz.prog 141 #[ag vs] w fun e w' => e = .returned (.bool x.p.asg.isSome) ∧ Below w.heap.size w w' := by
  obtain ⟨A, c, rfl, hnc, hcm, hwt, hpt, -⟩ := hv
  show Calls Tryz.prog 141 #[.agg #[.slice A x.p.len c]] w _
  have hbw : Below w.heap.size w (w.alloc (.cells #[.slice A x.p.len c] 31)) := (Below.refl _ _).alloc (Nat.le_refl _) _
  have q0 := cell_one (heap_alloc_t w (.cells #[.slice A x.p.len c] 31))
  have HX := Lib.hid (uassign_any x.p A c G _ (old_of hG hbw) (hpt.old hG hbw) hnc hwt hcm)
  generalize hW : w.alloc (.cells #[.slice A x.p.len c] 31) = W at *
  have HBW := Lib.hid hbw
  clear hbw hpt hG
  go_enter Tryz.func141, Tryz.ntmps141
  go_wp2_with fail
  refine HX.out.mono ?_
  rintro e w1 ⟨v, rfl, hr, hb⟩
  obtain ⟨A2, c2, rfl, _⟩ := hr.at_
  have HB := Lib.hid (HBW.out.trans (hb.mono HBW.out.size))
  clear hb hr
  go_wp2_with fail
  go_ret
  exact ⟨rfl, HB.out.alloc HB.out.size _⟩
theorem ok_assigns (f : Nat) {G : Nat → Prop} {w : World} (hG : ∀ k, G k → k < w.heap.size) : FnOk (WdN f G) ag w 141 #[] (fun x => x.p.asg.isSome) := fun X hX vs y hy => by
  rw [Array.append_empty]; exact assigns_p f G X vs y (old_of hG hX) hy
end Go.Proofs.YtjpopekmbmcggaaGreatDoor
