/- Towards nodeJoins_card: NdRight. Merged from smaller texts by a program of the author's. -/
import Derived.Test.YtjpopekmbmcggaaGreatDoorJ20
namespace Go.Proofs.YtjpopekmbmcggaaGreatDoor
open Go.RowKit
theorem rightF_none {α : Type} (v : Vw α) (n : NdF α) (h1 : n.k ≠ 1) (h2 : n.k ≠ 2) (h3 : n.k ≠ 3) (h4 : n.k ≠ 4) (h5 : n.k ≠ 5) (h6 : n.k ≠ 6) (h7 : n.k ≠ 7) (h8 : n.k ≠ 8) (h9 : n.k ≠ 9) (h10 : n.k ≠ 10) (h11 : n.k ≠ 11) (h12 : n.k ≠ 12) : rightF v n = false := by
  unfold rightF
  rw [if_neg h1, if_neg h2, if_neg h3, if_neg h4, if_neg (by omega), if_neg h7, if_neg h8, if_neg h9, if_neg (by omega), if_neg h12]
set_option maxRecDepth 100000 in
set_option maxHeartbeats 4000000 in
theorem right_a (f : Nat) (ih : PRt f) (ih2 : PRight f) (ih3 : POn f) (G : Nat → Prop) (w : World) (vs : List Value) (x : NdF (Nd f)) (hG : ∀ k, G k → k < w.heap.size) (ht : RsvAt w) (hv : NdV (f + 1) G w vs x) (hk : x.k = 1 ∨ x.k = 2 ∨ x.k = 3) :
    Calls Tryz.prog 37 #[ag vs] w fun e w' => e = .returned (.bool (rightF (Nd.vw f) x)) ∧ Below w.heap.size w w' := by
  obtain ⟨ky, s, nt, ni, ops, asg, wds, rds, ars, kds⟩ := x
  obtain ⟨A4, c4, A5, c5, A6, c6, A7, c7, A8, c8, A9, c9, rfl, hns, hal, hl4, hl5, hl6, hl7, hl8, hl9, hso, hsa, hsw, hsr, hsm, hsk⟩ := NdV.open hv
  have HSO := Lib.hid hso; have HSA := Lib.hid hsa; have HSW := Lib.hid hsw; have HSR := Lib.hid hsr; have HSM := Lib.hid hsm; have HSK := Lib.hid hsk
  have HV := Lib.hid hv
  clear hso hsa hsw hsr hsm hsk hv
  show Calls Tryz.prog 37 #[.agg #[.int .i64 ky, .string s, .bool nt, .bool ni, .slice A4 ops.length c4, .slice A5 asg.length c5, .slice A6 wds.length c6, .slice A7 rds.length c7, .slice A8 ars.length c8, .slice A9 kds.length c9]] w _
  have hbw : Below w.heap.size w ((w.alloc (.cells #[.int .i64 ky, .string s, .bool nt, .bool ni, .slice A4 ops.length c4, .slice A5 asg.length c5, .slice A6 wds.length c6, .slice A7 rds.length c7, .slice A8 ars.length c8, .slice A9 kds.length c9] 28)).alloc (.cells #[.func (.func 76) #[] #[.pointer (some ⟨w.heap.size, 0, none⟩)]] 36)) := ((Below.refl _ _).alloc (Nat.le_refl _) _).alloc (by simp) _
  obtain ⟨hb0, hb1⟩ := two_blocks w (.cells #[.int .i64 ky, .string s, .bool nt, .bool ni, .slice A4 ops.length c4, .slice A5 asg.length c5, .slice A6 wds.length c6, .slice A7 rds.length c7, .slice A8 ars.length c8, .slice A9 kds.length c9] 28) (.cells #[.func (.func 76) #[] #[.pointer (some ⟨w.heap.size, 0, none⟩)]] 36)
  generalize hW : (w.alloc (.cells #[.int .i64 ky, .string s, .bool nt, .bool ni, .slice A4 ops.length c4, .slice A5 asg.length c5, .slice A6 wds.length c6, .slice A7 rds.length c7, .slice A8 ars.length c8, .slice A9 kds.length c9] 28)).alloc (.cells #[.func (.func 76) #[] #[.pointer (some ⟨w.heap.size, 0, none⟩)]] 36) = W at *
  have x0 : W.cell? ⟨w.heap.size, 0, none⟩ = some (.int .i64 ky) := by simp [World.cell?, hb0]
  have x1 : W.cell? ⟨w.heap.size, 1, none⟩ = some (.string s) := by simp [World.cell?, hb0]
  have x2 : W.cell? ⟨w.heap.size, 2, none⟩ = some (.bool nt) := by simp [World.cell?, hb0]
  have x3 : W.cell? ⟨w.heap.size, 3, none⟩ = some (.bool ni) := by simp [World.cell?, hb0]
  have x4 : W.cell? ⟨w.heap.size, 4, none⟩ = some (.slice A4 ops.length c4) := by simp [World.cell?, hb0]
  have x5 : W.cell? ⟨w.heap.size, 5, none⟩ = some (.slice A5 asg.length c5) := by simp [World.cell?, hb0]
  have x6 : W.cell? ⟨w.heap.size, 6, none⟩ = some (.slice A6 wds.length c6) := by simp [World.cell?, hb0]
  have x7 : W.cell? ⟨w.heap.size, 7, none⟩ = some (.slice A7 rds.length c7) := by simp [World.cell?, hb0]
  have x8 : W.cell? ⟨w.heap.size, 8, none⟩ = some (.slice A8 ars.length c8) := by simp [World.cell?, hb0]
  have x9 : W.cell? ⟨w.heap.size, 9, none⟩ = some (.slice A9 kds.length c9) := by simp [World.cell?, hb0]
  have HGW := Lib.hid (old_of hG hbw)
  have HBW := Lib.hid hbw; have HG := Lib.hid hG; have HT := Lib.hid ht
  have z0 := cell_one hb1
  have HBOX := Lib.hid (box_at hb0)
  have HC0 := Lib.hid (Below.refl W.heap.size W)
  have IH := Lib.hid ih; have IH2 := Lib.hid ih2; have IH3 := Lib.hid ih3
  clear hbw hb0 hb1 hG ht ih ih2 ih3
  simp only at hk
  rcases hk with rfl | rfl | rfl
  · have RF := Lib.hid (show rightF (Nd.vw f) (NdF.mk 1 s nt ni ops asg wds rds ars kds) = (onlyB (Nd.vw f) ⟨false, true, false, false, false, false, true⟩ (NdF.mk 1 s nt ni ops asg wds rds ars kds) && (kidsB (Nd.vw f) 1 2 (NdF.mk 1 s nt ni ops asg wds rds ars kds) && opsB (kds.length) (NdF.mk 1 s nt ni ops asg wds rds ars kds))) from rfl)
    have hw3 : Below W.heap.size W (W.alloc (.cells #[.func (.func 78) #[] #[.pointer (some ⟨w.heap.size, 0, none⟩)], .func (.func 80) #[] #[.pointer (some ⟨w.heap.size, 0, none⟩)], .func (.func 82) #[] #[.pointer (some ⟨w.heap.size, 0, none⟩)]] 36)) := (Below.refl _ _).alloc (Nat.le_refl _) _
    have hc3 := heap_alloc_t W (.cells #[.func (.func 78) #[] #[.pointer (some ⟨w.heap.size, 0, none⟩)], .func (.func 80) #[] #[.pointer (some ⟨w.heap.size, 0, none⟩)], .func (.func 82) #[] #[.pointer (some ⟨w.heap.size, 0, none⟩)]] 36)
    have HW3 := Lib.hid hw3
    have HBW3 := Lib.hid (HBW.out.trans (hw3.mono HBW.out.size))
    have HX := Lib.hid (each_p [(78, #[.pointer (some ⟨w.heap.size, 0, none⟩)], onlyB (Nd.vw f) ⟨false, true, false, false, false, false, true⟩ (NdF.mk 1 s nt ni ops asg wds rds ars kds)), (80, #[.pointer (some ⟨w.heap.size, 0, none⟩)], kidsB (Nd.vw f) 1 2 (NdF.mk 1 s nt ni ops asg wds rds ars kds)), (82, #[.pointer (some ⟨w.heap.size, 0, none⟩)], opsB (kds.length) (NdF.mk 1 s nt ni ops asg wds rds ars kds))] W.heap.size 3 (W.alloc (.cells #[.func (.func 78) #[] #[.pointer (some ⟨w.heap.size, 0, none⟩)], .func (.func 80) #[] #[.pointer (some ⟨w.heap.size, 0, none⟩)], .func (.func 82) #[] #[.pointer (some ⟨w.heap.size, 0, none⟩)]] 36)) (by simp)
      (fun k h => match k, h with
        | 0, _ => enter_right2
        | 1, _ => enter_right3
        | 2, _ => enter_right4)
      (fun k h => match k, h with
        | 0, _ => box_at hc3 _ (Below.refl _ _) 0 _ rfl
        | 1, _ => box_at hc3 _ (Below.refl _ _) 1 _ rfl
        | 2, _ => box_at hc3 _ (Below.refl _ _) 2 _ rfl)
      (fun k h hq X hX => match k, h, hq, X, hX with
        | 0, _, _, X, hX => right2_p f IH.out G X w.heap.size _ s nt ni ops asg wds rds ars kds _ (old_of HG.out (HBW3.out.trans (hX.mono HBW3.out.size))) (HT.out.below (HBW3.out.trans (hX.mono HBW3.out.size))) (HV.out.below HG.out (HBW3.out.trans (hX.mono HBW3.out.size))) (HBOX.out X (HW3.out.trans (hX.mono HW3.out.size)))
        | 1, _, _, X, hX => right3_p f IH2.out G X w.heap.size _ s nt ni ops asg wds rds ars kds _ (old_of HG.out (HBW3.out.trans (hX.mono HBW3.out.size))) (HT.out.below (HBW3.out.trans (hX.mono HBW3.out.size))) (HV.out.below HG.out (HBW3.out.trans (hX.mono HBW3.out.size))) (HBOX.out X (HW3.out.trans (hX.mono HW3.out.size)))
        | 2, _, _, X, hX => right4_p f G X w.heap.size _ s nt ni ops asg wds rds ars kds _ (old_of HG.out (HBW3.out.trans (hX.mono HBW3.out.size))) (HV.out.below HG.out (HBW3.out.trans (hX.mono HBW3.out.size))) (HBOX.out X (HW3.out.trans (hX.mono HW3.out.size)))))
    clear hw3 hc3
    go_enter Tryz.func37, Tryz.ntmps37
    go_wp2_with fail
    refine HX.out.mono ?_
    rintro e w1 ⟨rfl, hb⟩
    have HB1 := Lib.hid (HBW3.out.trans (hb.mono HBW3.out.size))
    clear hb HX
    go_wp2_with fail
    go_ret
    exact ⟨ret_bool (by rw [RF.out]), HB1.out⟩
  · have RF := Lib.hid (show rightF (Nd.vw f) (NdF.mk 2 s nt ni ops asg wds rds ars kds) = (onlyB (Nd.vw f) ⟨false, true, false, false, false, false, true⟩ (NdF.mk 2 s nt ni ops asg wds rds ars kds) && (kidsB (Nd.vw f) 2 3 (NdF.mk 2 s nt ni ops asg wds rds ars kds) && opsB (kds.length - 1) (NdF.mk 2 s nt ni ops asg wds rds ars kds))) from rfl)
    have hw3 : Below W.heap.size W (W.alloc (.cells #[.func (.func 84) #[] #[.pointer (some ⟨w.heap.size, 0, none⟩)], .func (.func 85) #[] #[.pointer (some ⟨w.heap.size, 0, none⟩)], .func (.func 86) #[] #[.pointer (some ⟨w.heap.size, 0, none⟩)]] 36)) := (Below.refl _ _).alloc (Nat.le_refl _) _
    have hc3 := heap_alloc_t W (.cells #[.func (.func 84) #[] #[.pointer (some ⟨w.heap.size, 0, none⟩)], .func (.func 85) #[] #[.pointer (some ⟨w.heap.size, 0, none⟩)], .func (.func 86) #[] #[.pointer (some ⟨w.heap.size, 0, none⟩)]] 36)
    have HW3 := Lib.hid hw3
    have HBW3 := Lib.hid (HBW.out.trans (hw3.mono HBW.out.size))
    have HX := Lib.hid (each_p [(84, #[.pointer (some ⟨w.heap.size, 0, none⟩)], onlyB (Nd.vw f) ⟨false, true, false, false, false, false, true⟩ (NdF.mk 2 s nt ni ops asg wds rds ars kds)), (85, #[.pointer (some ⟨w.heap.size, 0, none⟩)], kidsB (Nd.vw f) 2 3 (NdF.mk 2 s nt ni ops asg wds rds ars kds)), (86, #[.pointer (some ⟨w.heap.size, 0, none⟩)], opsB (kds.length - 1) (NdF.mk 2 s nt ni ops asg wds rds ars kds))] W.heap.size 3 (W.alloc (.cells #[.func (.func 84) #[] #[.pointer (some ⟨w.heap.size, 0, none⟩)], .func (.func 85) #[] #[.pointer (some ⟨w.heap.size, 0, none⟩)], .func (.func 86) #[] #[.pointer (some ⟨w.heap.size, 0, none⟩)]] 36)) (by simp)
      (fun k h => match k, h with
        | 0, _ => enter_right5
        | 1, _ => enter_right6
        | 2, _ => enter_right7)
      (fun k h => match k, h with
        | 0, _ => box_at hc3 _ (Below.refl _ _) 0 _ rfl
        | 1, _ => box_at hc3 _ (Below.refl _ _) 1 _ rfl
        | 2, _ => box_at hc3 _ (Below.refl _ _) 2 _ rfl)
      (fun k h hq X hX => match k, h, hq, X, hX with
        | 0, _, _, X, hX => right5_p f IH.out G X w.heap.size _ s nt ni ops asg wds rds ars kds _ (old_of HG.out (HBW3.out.trans (hX.mono HBW3.out.size))) (HT.out.below (HBW3.out.trans (hX.mono HBW3.out.size))) (HV.out.below HG.out (HBW3.out.trans (hX.mono HBW3.out.size))) (HBOX.out X (HW3.out.trans (hX.mono HW3.out.size)))
        | 1, _, _, X, hX => right6_p f IH2.out G X w.heap.size _ s nt ni ops asg wds rds ars kds _ (old_of HG.out (HBW3.out.trans (hX.mono HBW3.out.size))) (HT.out.below (HBW3.out.trans (hX.mono HBW3.out.size))) (HV.out.below HG.out (HBW3.out.trans (hX.mono HBW3.out.size))) (HBOX.out X (HW3.out.trans (hX.mono HW3.out.size)))
        | 2, _, hq, X, hX => by
          have hk : kidsB (Nd.vw f) 2 3 (NdF.mk 2 s nt ni ops asg wds rds ars kds) = true := by
            have h := hq
            simp only [List.take, List.all, Bool.and_eq_true] at h
            exact h.2.1
          have h2 : 1 ≤ kds.length := by
            simp only [kidsB, Bool.and_eq_true, decide_eq_true_eq] at hk
            omega
          exact right7_p f G X w.heap.size _ s nt ni ops asg wds rds ars kds _ (old_of HG.out (HBW3.out.trans (hX.mono HBW3.out.size))) (HV.out.below HG.out (HBW3.out.trans (hX.mono HBW3.out.size))) (HBOX.out X (HW3.out.trans (hX.mono HW3.out.size))) h2))
    clear hw3 hc3
    go_enter Tryz.func37, Tryz.ntmps37
    go_wp2_with fail
    refine HX.out.mono ?_
    rintro e w1 ⟨rfl, hb⟩
    have HB1 := Lib.hid (HBW3.out.trans (hb.mono HBW3.out.size))
    clear hb HX
    go_wp2_with fail
    go_ret
    exact ⟨ret_bool (by rw [RF.out]), HB1.out⟩
  · have RF := Lib.hid (show rightF (Nd.vw f) (NdF.mk 3 s nt ni ops asg wds rds ars kds) = (onlyB (Nd.vw f) ⟨false, false, false, false, false, false, true⟩ (NdF.mk 3 s nt ni ops asg wds rds ars kds) && (kidsB (Nd.vw f) 1 4 (NdF.mk 3 s nt ni ops asg wds rds ars kds) && (nt || !(kds.length == 1)))) from rfl)
    have hw3 : Below W.heap.size W (W.alloc (.cells #[.func (.func 87) #[] #[.pointer (some ⟨w.heap.size, 0, none⟩)], .func (.func 88) #[] #[.pointer (some ⟨w.heap.size, 0, none⟩)], .func (.func 89) #[] #[.pointer (some ⟨w.heap.size, 0, none⟩), .pointer (some ⟨w.heap.size + 1, 0, none⟩)]] 36)) := (Below.refl _ _).alloc (Nat.le_refl _) _
    have hc3 := heap_alloc_t W (.cells #[.func (.func 87) #[] #[.pointer (some ⟨w.heap.size, 0, none⟩)], .func (.func 88) #[] #[.pointer (some ⟨w.heap.size, 0, none⟩)], .func (.func 89) #[] #[.pointer (some ⟨w.heap.size, 0, none⟩), .pointer (some ⟨w.heap.size + 1, 0, none⟩)]] 36)
    have HW3 := Lib.hid hw3
    have HBW3 := Lib.hid (HBW.out.trans (hw3.mono HBW.out.size))
    have HX := Lib.hid (each_p [(87, #[.pointer (some ⟨w.heap.size, 0, none⟩)], onlyB (Nd.vw f) ⟨false, false, false, false, false, false, true⟩ (NdF.mk 3 s nt ni ops asg wds rds ars kds)), (88, #[.pointer (some ⟨w.heap.size, 0, none⟩)], kidsB (Nd.vw f) 1 4 (NdF.mk 3 s nt ni ops asg wds rds ars kds)), (89, #[.pointer (some ⟨w.heap.size, 0, none⟩), .pointer (some ⟨w.heap.size + 1, 0, none⟩)], (nt || !(kds.length == 1)))] W.heap.size 3 (W.alloc (.cells #[.func (.func 87) #[] #[.pointer (some ⟨w.heap.size, 0, none⟩)], .func (.func 88) #[] #[.pointer (some ⟨w.heap.size, 0, none⟩)], .func (.func 89) #[] #[.pointer (some ⟨w.heap.size, 0, none⟩), .pointer (some ⟨w.heap.size + 1, 0, none⟩)]] 36)) (by simp)
      (fun k h => match k, h with
        | 0, _ => enter_right8
        | 1, _ => enter_right9
        | 2, _ => enter_right10)
      (fun k h => match k, h with
        | 0, _ => box_at hc3 _ (Below.refl _ _) 0 _ rfl
        | 1, _ => box_at hc3 _ (Below.refl _ _) 1 _ rfl
        | 2, _ => box_at hc3 _ (Below.refl _ _) 2 _ rfl)
      (fun k h hq X hX => match k, h, hq, X, hX with
        | 0, _, _, X, hX => right8_p f IH.out G X w.heap.size _ s nt ni ops asg wds rds ars kds _ (old_of HG.out (HBW3.out.trans (hX.mono HBW3.out.size))) (HT.out.below (HBW3.out.trans (hX.mono HBW3.out.size))) (HV.out.below HG.out (HBW3.out.trans (hX.mono HBW3.out.size))) (HBOX.out X (HW3.out.trans (hX.mono HW3.out.size)))
        | 1, _, _, X, hX => right9_p f IH2.out G X w.heap.size _ s nt ni ops asg wds rds ars kds _ (old_of HG.out (HBW3.out.trans (hX.mono HBW3.out.size))) (HT.out.below (HBW3.out.trans (hX.mono HBW3.out.size))) (HV.out.below HG.out (HBW3.out.trans (hX.mono HBW3.out.size))) (HBOX.out X (HW3.out.trans (hX.mono HW3.out.size)))
        | 2, _, _, X, hX => right10_p f G X w.heap.size (w.heap.size + 1) (box_keep z0 (HW3.out.trans (hX.mono HW3.out.size))) _ s nt ni ops asg wds rds ars kds _ (old_of HG.out (HBW3.out.trans (hX.mono HBW3.out.size))) (HV.out.below HG.out (HBW3.out.trans (hX.mono HBW3.out.size))) (HBOX.out X (HW3.out.trans (hX.mono HW3.out.size)))))
    clear hw3 hc3
    go_enter Tryz.func37, Tryz.ntmps37
    go_wp2_with fail
    refine HX.out.mono ?_
    rintro e w1 ⟨rfl, hb⟩
    have HB1 := Lib.hid (HBW3.out.trans (hb.mono HBW3.out.size))
    clear hb HX
    go_wp2_with fail
    go_ret
    exact ⟨ret_bool (by rw [RF.out]), HB1.out⟩
set_option maxRecDepth 100000 in
set_option maxHeartbeats 4000000 in
theorem right_b (f : Nat) (ih : PRt f) (ih2 : PRight f) (ih3 : POn f) (G : Nat → Prop) (w : World) (vs : List Value) (x : NdF (Nd f)) (hG : ∀ k, G k → k < w.heap.size) (ht : RsvAt w) (hv : NdV (f + 1) G w vs x) (hk : x.k = 4 ∨ x.k = 5 ∨ x.k = 6 ∨ x.k = 7) :
    Calls Tryz.prog 37 #[ag vs] w fun e w' => e = .returned (.bool (rightF (Nd.vw f) x)) ∧ Below w.heap.size w w' := by
  obtain ⟨ky, s, nt, ni, ops, asg, wds, rds, ars, kds⟩ := x
  obtain ⟨A4, c4, A5, c5, A6, c6, A7, c7, A8, c8, A9, c9, rfl, hns, hal, hl4, hl5, hl6, hl7, hl8, hl9, hso, hsa, hsw, hsr, hsm, hsk⟩ := NdV.open hv
  have HSO := Lib.hid hso; have HSA := Lib.hid hsa; have HSW := Lib.hid hsw; have HSR := Lib.hid hsr; have HSM := Lib.hid hsm; have HSK := Lib.hid hsk
  have HV := Lib.hid hv
  clear hso hsa hsw hsr hsm hsk hv
  show Calls Tryz.prog 37 #[.agg #[.int .i64 ky, .string s, .bool nt, .bool ni, .slice A4 ops.length c4, .slice A5 asg.length c5, .slice A6 wds.length c6, .slice A7 rds.length c7, .slice A8 ars.length c8, .slice A9 kds.length c9]] w _
  have hbw : Below w.heap.size w ((w.alloc (.cells #[.int .i64 ky, .string s, .bool nt, .bool ni, .slice A4 ops.length c4, .slice A5 asg.length c5, .slice A6 wds.length c6, .slice A7 rds.length c7, .slice A8 ars.length c8, .slice A9 kds.length c9] 28)).alloc (.cells #[.func (.func 76) #[] #[.pointer (some ⟨w.heap.size, 0, none⟩)]] 36)) := ((Below.refl _ _).alloc (Nat.le_refl _) _).alloc (by simp) _
  obtain ⟨hb0, hb1⟩ := two_blocks w (.cells #[.int .i64 ky, .string s, .bool nt, .bool ni, .slice A4 ops.length c4, .slice A5 asg.length c5, .slice A6 wds.length c6, .slice A7 rds.length c7, .slice A8 ars.length c8, .slice A9 kds.length c9] 28) (.cells #[.func (.func 76) #[] #[.pointer (some ⟨w.heap.size, 0, none⟩)]] 36)
  generalize hW : (w.alloc (.cells #[.int .i64 ky, .string s, .bool nt, .bool ni, .slice A4 ops.length c4, .slice A5 asg.length c5, .slice A6 wds.length c6, .slice A7 rds.length c7, .slice A8 ars.length c8, .slice A9 kds.length c9] 28)).alloc (.cells #[.func (.func 76) #[] #[.pointer (some ⟨w.heap.size, 0, none⟩)]] 36) = W at *
  have x0 : W.cell? ⟨w.heap.size, 0, none⟩ = some (.int .i64 ky) := by simp [World.cell?, hb0]
  have x1 : W.cell? ⟨w.heap.size, 1, none⟩ = some (.string s) := by simp [World.cell?, hb0]
  have x2 : W.cell? ⟨w.heap.size, 2, none⟩ = some (.bool nt) := by simp [World.cell?, hb0]
  have x3 : W.cell? ⟨w.heap.size, 3, none⟩ = some (.bool ni) := by simp [World.cell?, hb0]
  have x4 : W.cell? ⟨w.heap.size, 4, none⟩ = some (.slice A4 ops.length c4) := by simp [World.cell?, hb0]
  have x5 : W.cell? ⟨w.heap.size, 5, none⟩ = some (.slice A5 asg.length c5) := by simp [World.cell?, hb0]
  have x6 : W.cell? ⟨w.heap.size, 6, none⟩ = some (.slice A6 wds.length c6) := by simp [World.cell?, hb0]
  have x7 : W.cell? ⟨w.heap.size, 7, none⟩ = some (.slice A7 rds.length c7) := by simp [World.cell?, hb0]
  have x8 : W.cell? ⟨w.heap.size, 8, none⟩ = some (.slice A8 ars.length c8) := by simp [World.cell?, hb0]
  have x9 : W.cell? ⟨w.heap.size, 9, none⟩ = some (.slice A9 kds.length c9) := by simp [World.cell?, hb0]
  have HGW := Lib.hid (old_of hG hbw)
  have HBW := Lib.hid hbw; have HG := Lib.hid hG; have HT := Lib.hid ht
  have z0 := cell_one hb1
  have HBOX := Lib.hid (box_at hb0)
  have HC0 := Lib.hid (Below.refl W.heap.size W)
  have IH := Lib.hid ih; have IH2 := Lib.hid ih2; have IH3 := Lib.hid ih3
  clear hbw hb0 hb1 hG ht ih ih2 ih3
  simp only at hk
  rcases hk with rfl | rfl | rfl | rfl
  · have RF := Lib.hid (show rightF (Nd.vw f) (NdF.mk 4 s nt ni ops asg wds rds ars kds) = (onlyB (Nd.vw f) ⟨false, false, true, true, true, false, false⟩ (NdF.mk 4 s nt ni ops asg wds rds ars kds) && simpleB (NdF.mk 4 s nt ni ops asg wds rds ars kds)) from rfl)
    go_enter Tryz.func37, Tryz.ntmps37
    have HX := Lib.hid (only_p f IH.out ⟨false, false, true, true, true, false, false⟩ G _ _ _ (old_of HG.out HBW.out) (HT.out.below HBW.out) (HV.out.below HG.out HBW.out))
    go_wp2_with fail
    refine HX.out.mono ?_
    rintro e w1 ⟨he, hb⟩
    have HB1 := Lib.hid (HBW.out.trans (hb.mono HBW.out.size))
    have HC1 := Lib.hid (HC0.out.trans (hb.mono HC0.out.size))
    have y1_0 := box_keep x0 HC1.out; have y1_1 := box_keep x1 HC1.out; have y1_2 := box_keep x2 HC1.out; have y1_3 := box_keep x3 HC1.out; have y1_4 := box_keep x4 HC1.out; have y1_5 := box_keep x5 HC1.out; have y1_6 := box_keep x6 HC1.out; have y1_7 := box_keep x7 HC1.out; have y1_8 := box_keep x8 HC1.out; have y1_9 := box_keep x9 HC1.out
    have y1_z := box_keep z0 HC1.out
    clear hb HX
    cases q : onlyB (Nd.vw f) ⟨false, false, true, true, true, false, false⟩ (NdF.mk 4 s nt ni ops asg wds rds ars kds)
    · rw [q] at he
      subst he
      have HQ0 := Lib.hid q
      clear q
      go_wp2_with fail
      go_ret
      exact ⟨ret_bool (by rw [RF.out, HQ0.out]; rfl), HB1.out⟩
    rw [q] at he
    subst he
    have HQ0 := Lib.hid q
    clear q
    have HX := Lib.hid (simple_p f G _ _ _ (old_of HG.out HB1.out) (HT.out.below HB1.out) (HV.out.below HG.out HB1.out))
    go_wp2_with fail
    refine HX.out.mono ?_
    rintro e w2 ⟨rfl, hb⟩
    have HB2 := Lib.hid (HB1.out.trans (hb.mono HB1.out.size))
    have HC2 := Lib.hid (HC1.out.trans (hb.mono HC1.out.size))
    have y2_0 := box_keep x0 HC2.out; have y2_1 := box_keep x1 HC2.out; have y2_2 := box_keep x2 HC2.out; have y2_3 := box_keep x3 HC2.out; have y2_4 := box_keep x4 HC2.out; have y2_5 := box_keep x5 HC2.out; have y2_6 := box_keep x6 HC2.out; have y2_7 := box_keep x7 HC2.out; have y2_8 := box_keep x8 HC2.out; have y2_9 := box_keep x9 HC2.out
    have y2_z := box_keep z0 HC2.out
    clear hb HX y1_0 y1_1 y1_2 y1_3 y1_4 y1_5 y1_6 y1_7 y1_8 y1_9 y1_z
    go_wp2_with fail
    go_ret
    exact ⟨ret_bool (by rw [RF.out, HQ0.out]; rfl), HB2.out⟩
  · have RF := Lib.hid (show rightF (Nd.vw f) (NdF.mk 5 s nt ni ops asg wds rds ars kds) = (onlyB (Nd.vw f) ⟨false, false, false, false, true, false, true⟩ (NdF.mk 5 s nt ni ops asg wds rds ars kds) && ((kds.length == 1) && listsB (Nd.vw f) 1 (NdF.mk 5 s nt ni ops asg wds rds ars kds))) from rfl)
    go_enter Tryz.func37, Tryz.ntmps37
    have HX := Lib.hid (only_p f IH.out ⟨false, false, false, false, true, false, true⟩ G _ _ _ (old_of HG.out HBW.out) (HT.out.below HBW.out) (HV.out.below HG.out HBW.out))
    go_wp2_with fail
    refine HX.out.mono ?_
    rintro e w1 ⟨he, hb⟩
    have HB1 := Lib.hid (HBW.out.trans (hb.mono HBW.out.size))
    have HC1 := Lib.hid (HC0.out.trans (hb.mono HC0.out.size))
    have y1_0 := box_keep x0 HC1.out; have y1_1 := box_keep x1 HC1.out; have y1_2 := box_keep x2 HC1.out; have y1_3 := box_keep x3 HC1.out; have y1_4 := box_keep x4 HC1.out; have y1_5 := box_keep x5 HC1.out; have y1_6 := box_keep x6 HC1.out; have y1_7 := box_keep x7 HC1.out; have y1_8 := box_keep x8 HC1.out; have y1_9 := box_keep x9 HC1.out
    have y1_z := box_keep z0 HC1.out
    clear hb HX
    cases q : onlyB (Nd.vw f) ⟨false, false, false, false, true, false, true⟩ (NdF.mk 5 s nt ni ops asg wds rds ars kds)
    · rw [q] at he
      subst he
      have HQ0 := Lib.hid q
      clear q
      go_wp2_with fail
      go_ret
      exact ⟨ret_bool (by rw [RF.out, HQ0.out]; rfl), HB1.out⟩
    rw [q] at he
    subst he
    have HQ0 := Lib.hid q
    clear q
    have HC := HC1
    have HX := Lib.hid (right1_p f G _ w.heap.size _ s nt ni ops asg wds rds ars kds _ (old_of HG.out HB1.out) (HV.out.below HG.out HB1.out) (HBOX.out _ HC.out))
    go_wp2_with fail
    refine HX.out.mono ?_
    rintro e w2 ⟨he, hb⟩
    have HB2 := Lib.hid (HB1.out.trans (hb.mono HB1.out.size))
    have HC2 := Lib.hid (HC1.out.trans (hb.mono HC1.out.size))
    have y2_0 := box_keep x0 HC2.out; have y2_1 := box_keep x1 HC2.out; have y2_2 := box_keep x2 HC2.out; have y2_3 := box_keep x3 HC2.out; have y2_4 := box_keep x4 HC2.out; have y2_5 := box_keep x5 HC2.out; have y2_6 := box_keep x6 HC2.out; have y2_7 := box_keep x7 HC2.out; have y2_8 := box_keep x8 HC2.out; have y2_9 := box_keep x9 HC2.out
    have y2_z := box_keep z0 HC2.out
    clear hb HX HC y1_0 y1_1 y1_2 y1_3 y1_4 y1_5 y1_6 y1_7 y1_8 y1_9 y1_z
    cases q : (kds.length == 1)
    · rw [q] at he
      subst he
      have HQ1 := Lib.hid q
      clear q
      go_wp2_with fail
      go_ret
      exact ⟨ret_bool (by rw [RF.out, HQ0.out, HQ1.out]; rfl), HB2.out⟩
    rw [q] at he
    subst he
    have HQ1 := Lib.hid q
    clear q
    have HX := Lib.hid (lists_p f IH.out 1 G _ _ _ (old_of HG.out HB2.out) (HT.out.below HB2.out) (HV.out.below HG.out HB2.out))
    go_wp2_with fail
    refine HX.out.mono ?_
    rintro e w3 ⟨rfl, hb⟩
    have HB3 := Lib.hid (HB2.out.trans (hb.mono HB2.out.size))
    have HC3 := Lib.hid (HC2.out.trans (hb.mono HC2.out.size))
    have y3_0 := box_keep x0 HC3.out; have y3_1 := box_keep x1 HC3.out; have y3_2 := box_keep x2 HC3.out; have y3_3 := box_keep x3 HC3.out; have y3_4 := box_keep x4 HC3.out; have y3_5 := box_keep x5 HC3.out; have y3_6 := box_keep x6 HC3.out; have y3_7 := box_keep x7 HC3.out; have y3_8 := box_keep x8 HC3.out; have y3_9 := box_keep x9 HC3.out
    have y3_z := box_keep z0 HC3.out
    clear hb HX y2_0 y2_1 y2_2 y2_3 y2_4 y2_5 y2_6 y2_7 y2_8 y2_9 y2_z
    go_wp2_with fail
    go_ret
    exact ⟨ret_bool (by rw [RF.out, HQ0.out, HQ1.out]; rfl), HB3.out⟩
  · have RF := Lib.hid (show rightF (Nd.vw f) (NdF.mk 6 s nt ni ops asg wds rds ars kds) = (onlyB (Nd.vw f) ⟨false, false, false, false, true, false, true⟩ (NdF.mk 6 s nt ni ops asg wds rds ars kds) && ((kds.length == 1) && listsB (Nd.vw f) 1 (NdF.mk 6 s nt ni ops asg wds rds ars kds))) from rfl)
    go_enter Tryz.func37, Tryz.ntmps37
    have HX := Lib.hid (only_p f IH.out ⟨false, false, false, false, true, false, true⟩ G _ _ _ (old_of HG.out HBW.out) (HT.out.below HBW.out) (HV.out.below HG.out HBW.out))
    go_wp2_with fail
    refine HX.out.mono ?_
    rintro e w1 ⟨he, hb⟩
    have HB1 := Lib.hid (HBW.out.trans (hb.mono HBW.out.size))
    have HC1 := Lib.hid (HC0.out.trans (hb.mono HC0.out.size))
    have y1_0 := box_keep x0 HC1.out; have y1_1 := box_keep x1 HC1.out; have y1_2 := box_keep x2 HC1.out; have y1_3 := box_keep x3 HC1.out; have y1_4 := box_keep x4 HC1.out; have y1_5 := box_keep x5 HC1.out; have y1_6 := box_keep x6 HC1.out; have y1_7 := box_keep x7 HC1.out; have y1_8 := box_keep x8 HC1.out; have y1_9 := box_keep x9 HC1.out
    have y1_z := box_keep z0 HC1.out
    clear hb HX
    cases q : onlyB (Nd.vw f) ⟨false, false, false, false, true, false, true⟩ (NdF.mk 6 s nt ni ops asg wds rds ars kds)
    · rw [q] at he
      subst he
      have HQ0 := Lib.hid q
      clear q
      go_wp2_with fail
      go_ret
      exact ⟨ret_bool (by rw [RF.out, HQ0.out]; rfl), HB1.out⟩
    rw [q] at he
    subst he
    have HQ0 := Lib.hid q
    clear q
    have HC := HC1
    have HX := Lib.hid (right1_p f G _ w.heap.size _ s nt ni ops asg wds rds ars kds _ (old_of HG.out HB1.out) (HV.out.below HG.out HB1.out) (HBOX.out _ HC.out))
    go_wp2_with fail
    refine HX.out.mono ?_
    rintro e w2 ⟨he, hb⟩
    have HB2 := Lib.hid (HB1.out.trans (hb.mono HB1.out.size))
    have HC2 := Lib.hid (HC1.out.trans (hb.mono HC1.out.size))
    have y2_0 := box_keep x0 HC2.out; have y2_1 := box_keep x1 HC2.out; have y2_2 := box_keep x2 HC2.out; have y2_3 := box_keep x3 HC2.out; have y2_4 := box_keep x4 HC2.out; have y2_5 := box_keep x5 HC2.out; have y2_6 := box_keep x6 HC2.out; have y2_7 := box_keep x7 HC2.out; have y2_8 := box_keep x8 HC2.out; have y2_9 := box_keep x9 HC2.out
    have y2_z := box_keep z0 HC2.out
    clear hb HX HC y1_0 y1_1 y1_2 y1_3 y1_4 y1_5 y1_6 y1_7 y1_8 y1_9 y1_z
    cases q : (kds.length == 1)
    · rw [q] at he
      subst he
      have HQ1 := Lib.hid q
      clear q
      go_wp2_with fail
      go_ret
      exact ⟨ret_bool (by rw [RF.out, HQ0.out, HQ1.out]; rfl), HB2.out⟩
    rw [q] at he
    subst he
    have HQ1 := Lib.hid q
    clear q
    have HX := Lib.hid (lists_p f IH.out 1 G _ _ _ (old_of HG.out HB2.out) (HT.out.below HB2.out) (HV.out.below HG.out HB2.out))
    go_wp2_with fail
    refine HX.out.mono ?_
    rintro e w3 ⟨rfl, hb⟩
    have HB3 := Lib.hid (HB2.out.trans (hb.mono HB2.out.size))
    have HC3 := Lib.hid (HC2.out.trans (hb.mono HC2.out.size))
    have y3_0 := box_keep x0 HC3.out; have y3_1 := box_keep x1 HC3.out; have y3_2 := box_keep x2 HC3.out; have y3_3 := box_keep x3 HC3.out; have y3_4 := box_keep x4 HC3.out; have y3_5 := box_keep x5 HC3.out; have y3_6 := box_keep x6 HC3.out; have y3_7 := box_keep x7 HC3.out; have y3_8 := box_keep x8 HC3.out; have y3_9 := box_keep x9 HC3.out
    have y3_z := box_keep z0 HC3.out
    clear hb HX y2_0 y2_1 y2_2 y2_3 y2_4 y2_5 y2_6 y2_7 y2_8 y2_9 y2_z
    go_wp2_with fail
    go_ret
    exact ⟨ret_bool (by rw [RF.out, HQ0.out, HQ1.out]; rfl), HB3.out⟩
  · have RF := Lib.hid (show rightF (Nd.vw f) (NdF.mk 7 s nt ni ops asg wds rds ars kds) = (onlyB (Nd.vw f) ⟨true, false, false, ni, true, false, true⟩ (NdF.mk 7 s nt ni ops asg wds rds ars kds) && (Chr.name s.toList && ((kds.length == 1) && listsB (Nd.vw f) 1 (NdF.mk 7 s nt ni ops asg wds rds ars kds)))) from rfl)
    go_enter Tryz.func37, Tryz.ntmps37
    have HX := Lib.hid (only_p f IH.out ⟨true, false, false, ni, true, false, true⟩ G _ _ _ (old_of HG.out HBW.out) (HT.out.below HBW.out) (HV.out.below HG.out HBW.out))
    go_wp2_with fail
    refine HX.out.mono ?_
    rintro e w1 ⟨he, hb⟩
    have HB1 := Lib.hid (HBW.out.trans (hb.mono HBW.out.size))
    have HC1 := Lib.hid (HC0.out.trans (hb.mono HC0.out.size))
    have y1_0 := box_keep x0 HC1.out; have y1_1 := box_keep x1 HC1.out; have y1_2 := box_keep x2 HC1.out; have y1_3 := box_keep x3 HC1.out; have y1_4 := box_keep x4 HC1.out; have y1_5 := box_keep x5 HC1.out; have y1_6 := box_keep x6 HC1.out; have y1_7 := box_keep x7 HC1.out; have y1_8 := box_keep x8 HC1.out; have y1_9 := box_keep x9 HC1.out
    have y1_z := box_keep z0 HC1.out
    clear hb HX
    cases q : onlyB (Nd.vw f) ⟨true, false, false, ni, true, false, true⟩ (NdF.mk 7 s nt ni ops asg wds rds ars kds)
    · rw [q] at he
      subst he
      have HQ0 := Lib.hid q
      clear q
      go_wp2_with fail
      go_ret
      exact ⟨ret_bool (by rw [RF.out, HQ0.out]; rfl), HB1.out⟩
    rw [q] at he
    subst he
    have HQ0 := Lib.hid q
    clear q
    have HX := Lib.hid (name_p s w1 (by omega))
    go_wp2_with fail
    refine HX.out.mono ?_
    rintro e w2 ⟨he, hb⟩
    have HB2 := Lib.hid (HB1.out.trans (hb.mono HB1.out.size))
    have HC2 := Lib.hid (HC1.out.trans (hb.mono HC1.out.size))
    have y2_0 := box_keep x0 HC2.out; have y2_1 := box_keep x1 HC2.out; have y2_2 := box_keep x2 HC2.out; have y2_3 := box_keep x3 HC2.out; have y2_4 := box_keep x4 HC2.out; have y2_5 := box_keep x5 HC2.out; have y2_6 := box_keep x6 HC2.out; have y2_7 := box_keep x7 HC2.out; have y2_8 := box_keep x8 HC2.out; have y2_9 := box_keep x9 HC2.out
    have y2_z := box_keep z0 HC2.out
    clear hb HX y1_0 y1_1 y1_2 y1_3 y1_4 y1_5 y1_6 y1_7 y1_8 y1_9 y1_z
    cases q : Chr.name s.toList
    · rw [q] at he
      subst he
      have HQ1 := Lib.hid q
      clear q
      go_wp2_with fail
      go_ret
      exact ⟨ret_bool (by rw [RF.out, HQ0.out, HQ1.out]; rfl), HB2.out⟩
    rw [q] at he
    subst he
    have HQ1 := Lib.hid q
    clear q
    have HC := HC2
    have HX := Lib.hid (right1_p f G _ w.heap.size _ s nt ni ops asg wds rds ars kds _ (old_of HG.out HB2.out) (HV.out.below HG.out HB2.out) (HBOX.out _ HC.out))
    go_wp2_with fail
    refine HX.out.mono ?_
    rintro e w3 ⟨he, hb⟩
    have HB3 := Lib.hid (HB2.out.trans (hb.mono HB2.out.size))
    have HC3 := Lib.hid (HC2.out.trans (hb.mono HC2.out.size))
    have y3_0 := box_keep x0 HC3.out; have y3_1 := box_keep x1 HC3.out; have y3_2 := box_keep x2 HC3.out; have y3_3 := box_keep x3 HC3.out; have y3_4 := box_keep x4 HC3.out; have y3_5 := box_keep x5 HC3.out; have y3_6 := box_keep x6 HC3.out; have y3_7 := box_keep x7 HC3.out; have y3_8 := box_keep x8 HC3.out; have y3_9 := box_keep x9 HC3.out
    have y3_z := box_keep z0 HC3.out
    clear hb HX HC y2_0 y2_1 y2_2 y2_3 y2_4 y2_5 y2_6 y2_7 y2_8 y2_9 y2_z
    cases q : (kds.length == 1)
    · rw [q] at he
      subst he
      have HQ2 := Lib.hid q
      clear q
      go_wp2_with fail
      go_ret
      exact ⟨ret_bool (by rw [RF.out, HQ0.out, HQ1.out, HQ2.out]; rfl), HB3.out⟩
    rw [q] at he
    subst he
    have HQ2 := Lib.hid q
    clear q
    have HX := Lib.hid (lists_p f IH.out 1 G _ _ _ (old_of HG.out HB3.out) (HT.out.below HB3.out) (HV.out.below HG.out HB3.out))
    go_wp2_with fail
    refine HX.out.mono ?_
    rintro e w4 ⟨rfl, hb⟩
    have HB4 := Lib.hid (HB3.out.trans (hb.mono HB3.out.size))
    have HC4 := Lib.hid (HC3.out.trans (hb.mono HC3.out.size))
    have y4_0 := box_keep x0 HC4.out; have y4_1 := box_keep x1 HC4.out; have y4_2 := box_keep x2 HC4.out; have y4_3 := box_keep x3 HC4.out; have y4_4 := box_keep x4 HC4.out; have y4_5 := box_keep x5 HC4.out; have y4_6 := box_keep x6 HC4.out; have y4_7 := box_keep x7 HC4.out; have y4_8 := box_keep x8 HC4.out; have y4_9 := box_keep x9 HC4.out
    have y4_z := box_keep z0 HC4.out
    clear hb HX y3_0 y3_1 y3_2 y3_3 y3_4 y3_5 y3_6 y3_7 y3_8 y3_9 y3_z
    go_wp2_with fail
    go_ret
    exact ⟨ret_bool (by rw [RF.out, HQ0.out, HQ1.out, HQ2.out]; rfl), HB4.out⟩
set_option maxRecDepth 100000 in
set_option maxHeartbeats 4000000 in
theorem right_c (f : Nat) (ih : PRt f) (ih2 : PRight f) (ih3 : POn f) (G : Nat → Prop) (w : World) (vs : List Value) (x : NdF (Nd f)) (hG : ∀ k, G k → k < w.heap.size) (ht : RsvAt w) (hv : NdV (f + 1) G w vs x) (hk : x.k = 8 ∨ x.k = 9 ∨ x.k = 10 ∨ x.k = 11 ∨ x.k = 12) :
    Calls Tryz.prog 37 #[ag vs] w fun e w' => e = .returned (.bool (rightF (Nd.vw f) x)) ∧ Below w.heap.size w w' := by
  obtain ⟨ky, s, nt, ni, ops, asg, wds, rds, ars, kds⟩ := x
  obtain ⟨A4, c4, A5, c5, A6, c6, A7, c7, A8, c8, A9, c9, rfl, hns, hal, hl4, hl5, hl6, hl7, hl8, hl9, hso, hsa, hsw, hsr, hsm, hsk⟩ := NdV.open hv
  have HSO := Lib.hid hso; have HSA := Lib.hid hsa; have HSW := Lib.hid hsw; have HSR := Lib.hid hsr; have HSM := Lib.hid hsm; have HSK := Lib.hid hsk
  have HV := Lib.hid hv
  clear hso hsa hsw hsr hsm hsk hv
  show Calls Tryz.prog 37 #[.agg #[.int .i64 ky, .string s, .bool nt, .bool ni, .slice A4 ops.length c4, .slice A5 asg.length c5, .slice A6 wds.length c6, .slice A7 rds.length c7, .slice A8 ars.length c8, .slice A9 kds.length c9]] w _
  have hbw : Below w.heap.size w ((w.alloc (.cells #[.int .i64 ky, .string s, .bool nt, .bool ni, .slice A4 ops.length c4, .slice A5 asg.length c5, .slice A6 wds.length c6, .slice A7 rds.length c7, .slice A8 ars.length c8, .slice A9 kds.length c9] 28)).alloc (.cells #[.func (.func 76) #[] #[.pointer (some ⟨w.heap.size, 0, none⟩)]] 36)) := ((Below.refl _ _).alloc (Nat.le_refl _) _).alloc (by simp) _
  obtain ⟨hb0, hb1⟩ := two_blocks w (.cells #[.int .i64 ky, .string s, .bool nt, .bool ni, .slice A4 ops.length c4, .slice A5 asg.length c5, .slice A6 wds.length c6, .slice A7 rds.length c7, .slice A8 ars.length c8, .slice A9 kds.length c9] 28) (.cells #[.func (.func 76) #[] #[.pointer (some ⟨w.heap.size, 0, none⟩)]] 36)
  generalize hW : (w.alloc (.cells #[.int .i64 ky, .string s, .bool nt, .bool ni, .slice A4 ops.length c4, .slice A5 asg.length c5, .slice A6 wds.length c6, .slice A7 rds.length c7, .slice A8 ars.length c8, .slice A9 kds.length c9] 28)).alloc (.cells #[.func (.func 76) #[] #[.pointer (some ⟨w.heap.size, 0, none⟩)]] 36) = W at *
  have x0 : W.cell? ⟨w.heap.size, 0, none⟩ = some (.int .i64 ky) := by simp [World.cell?, hb0]
  have x1 : W.cell? ⟨w.heap.size, 1, none⟩ = some (.string s) := by simp [World.cell?, hb0]
  have x2 : W.cell? ⟨w.heap.size, 2, none⟩ = some (.bool nt) := by simp [World.cell?, hb0]
  have x3 : W.cell? ⟨w.heap.size, 3, none⟩ = some (.bool ni) := by simp [World.cell?, hb0]
  have x4 : W.cell? ⟨w.heap.size, 4, none⟩ = some (.slice A4 ops.length c4) := by simp [World.cell?, hb0]
  have x5 : W.cell? ⟨w.heap.size, 5, none⟩ = some (.slice A5 asg.length c5) := by simp [World.cell?, hb0]
  have x6 : W.cell? ⟨w.heap.size, 6, none⟩ = some (.slice A6 wds.length c6) := by simp [World.cell?, hb0]
  have x7 : W.cell? ⟨w.heap.size, 7, none⟩ = some (.slice A7 rds.length c7) := by simp [World.cell?, hb0]
  have x8 : W.cell? ⟨w.heap.size, 8, none⟩ = some (.slice A8 ars.length c8) := by simp [World.cell?, hb0]
  have x9 : W.cell? ⟨w.heap.size, 9, none⟩ = some (.slice A9 kds.length c9) := by simp [World.cell?, hb0]
  have HGW := Lib.hid (old_of hG hbw)
  have HBW := Lib.hid hbw; have HG := Lib.hid hG; have HT := Lib.hid ht
  have z0 := cell_one hb1
  have HBOX := Lib.hid (box_at hb0)
  have HC0 := Lib.hid (Below.refl W.heap.size W)
  have IH := Lib.hid ih; have IH2 := Lib.hid ih2; have IH3 := Lib.hid ih3
  clear hbw hb0 hb1 hG ht ih ih2 ih3
  simp only at hk
  rcases hk with rfl | rfl | rfl | rfl | rfl
  · have RF := Lib.hid (show rightF (Nd.vw f) (NdF.mk 8 s nt ni ops asg wds rds ars kds) = (onlyB (Nd.vw f) ⟨false, false, false, true, true, true, false⟩ (NdF.mk 8 s nt ni ops asg wds rds ars kds) && ((wds.length == 1) && ars.all (armB (Nd.vw f)))) from rfl)
    go_enter Tryz.func37, Tryz.ntmps37
    have HX := Lib.hid (only_p f IH.out ⟨false, false, false, true, true, true, false⟩ G _ _ _ (old_of HG.out HBW.out) (HT.out.below HBW.out) (HV.out.below HG.out HBW.out))
    go_wp2_with fail
    refine HX.out.mono ?_
    rintro e w1 ⟨he, hb⟩
    have HB1 := Lib.hid (HBW.out.trans (hb.mono HBW.out.size))
    have HC1 := Lib.hid (HC0.out.trans (hb.mono HC0.out.size))
    have y1_0 := box_keep x0 HC1.out; have y1_1 := box_keep x1 HC1.out; have y1_2 := box_keep x2 HC1.out; have y1_3 := box_keep x3 HC1.out; have y1_4 := box_keep x4 HC1.out; have y1_5 := box_keep x5 HC1.out; have y1_6 := box_keep x6 HC1.out; have y1_7 := box_keep x7 HC1.out; have y1_8 := box_keep x8 HC1.out; have y1_9 := box_keep x9 HC1.out
    have y1_z := box_keep z0 HC1.out
    clear hb HX
    cases q : onlyB (Nd.vw f) ⟨false, false, false, true, true, true, false⟩ (NdF.mk 8 s nt ni ops asg wds rds ars kds)
    · rw [q] at he
      subst he
      have HQ0 := Lib.hid q
      clear q
      go_wp2_with fail
      go_ret
      exact ⟨ret_bool (by rw [RF.out, HQ0.out]; rfl), HB1.out⟩
    rw [q] at he
    subst he
    have HQ0 := Lib.hid q
    clear q
    by_cases hl1 : wds.length = 1
    case neg =>
      have HQ1 := Lib.hid (beq_false_of_ne hl1)
      have m1 : ((wds.length : Int) == 1) = false := beq_false_of_ne (by omega)
      have m2 : (wds.length == 1) = false := beq_false_of_ne hl1
      go_wp2_with fail
      go_ret
      exact ⟨ret_bool (by rw [RF.out, HQ0.out, HQ1.out]; rfl), HB1.out⟩
    have HQ1 := Lib.hid (beq_iff_eq.2 hl1)
    have m1 : ((wds.length : Int) == 1) = true := beq_iff_eq.2 (by omega)
    have m2 : (wds.length == 1) = true := beq_iff_eq.2 hl1
    clear hl1
    have HX := Lib.hid (all_arm f G 94 #[] (armB (Nd.vw f)) _ ars _ (old_of HG.out HB1.out) (HSM.out.onA HG.out HB1.out) enter_arm (ok_arm IH.out IH3.out (old_of HG.out HB1.out) (HT.out.below HB1.out)))
    go_wp2_with fail
    refine HX.out.mono ?_
    rintro e w2 ⟨rfl, hb⟩
    have HB2 := Lib.hid (HB1.out.trans (hb.mono HB1.out.size))
    have HC2 := Lib.hid (HC1.out.trans (hb.mono HC1.out.size))
    have y2_0 := box_keep x0 HC2.out; have y2_1 := box_keep x1 HC2.out; have y2_2 := box_keep x2 HC2.out; have y2_3 := box_keep x3 HC2.out; have y2_4 := box_keep x4 HC2.out; have y2_5 := box_keep x5 HC2.out; have y2_6 := box_keep x6 HC2.out; have y2_7 := box_keep x7 HC2.out; have y2_8 := box_keep x8 HC2.out; have y2_9 := box_keep x9 HC2.out
    have y2_z := box_keep z0 HC2.out
    clear hb HX y1_0 y1_1 y1_2 y1_3 y1_4 y1_5 y1_6 y1_7 y1_8 y1_9 y1_z
    go_wp2_with fail
    go_ret
    exact ⟨ret_bool (by rw [RF.out, HQ0.out, HQ1.out]; rfl), HB2.out⟩
  · have RF := Lib.hid (show rightF (Nd.vw f) (NdF.mk 9 s nt ni ops asg wds rds ars kds) = (onlyB (Nd.vw f) ⟨false, false, false, false, true, false, true⟩ (NdF.mk 9 s nt ni ops asg wds rds ars kds) && listsB (Nd.vw f) 2 (NdF.mk 9 s nt ni ops asg wds rds ars kds)) from rfl)
    go_enter Tryz.func37, Tryz.ntmps37
    have HX := Lib.hid (only_p f IH.out ⟨false, false, false, false, true, false, true⟩ G _ _ _ (old_of HG.out HBW.out) (HT.out.below HBW.out) (HV.out.below HG.out HBW.out))
    go_wp2_with fail
    refine HX.out.mono ?_
    rintro e w1 ⟨he, hb⟩
    have HB1 := Lib.hid (HBW.out.trans (hb.mono HBW.out.size))
    have HC1 := Lib.hid (HC0.out.trans (hb.mono HC0.out.size))
    have y1_0 := box_keep x0 HC1.out; have y1_1 := box_keep x1 HC1.out; have y1_2 := box_keep x2 HC1.out; have y1_3 := box_keep x3 HC1.out; have y1_4 := box_keep x4 HC1.out; have y1_5 := box_keep x5 HC1.out; have y1_6 := box_keep x6 HC1.out; have y1_7 := box_keep x7 HC1.out; have y1_8 := box_keep x8 HC1.out; have y1_9 := box_keep x9 HC1.out
    have y1_z := box_keep z0 HC1.out
    clear hb HX
    cases q : onlyB (Nd.vw f) ⟨false, false, false, false, true, false, true⟩ (NdF.mk 9 s nt ni ops asg wds rds ars kds)
    · rw [q] at he
      subst he
      have HQ0 := Lib.hid q
      clear q
      go_wp2_with fail
      go_ret
      exact ⟨ret_bool (by rw [RF.out, HQ0.out]; rfl), HB1.out⟩
    rw [q] at he
    subst he
    have HQ0 := Lib.hid q
    clear q
    have HX := Lib.hid (lists_p f IH.out 2 G _ _ _ (old_of HG.out HB1.out) (HT.out.below HB1.out) (HV.out.below HG.out HB1.out))
    go_wp2_with fail
    refine HX.out.mono ?_
    rintro e w2 ⟨rfl, hb⟩
    have HB2 := Lib.hid (HB1.out.trans (hb.mono HB1.out.size))
    have HC2 := Lib.hid (HC1.out.trans (hb.mono HC1.out.size))
    have y2_0 := box_keep x0 HC2.out; have y2_1 := box_keep x1 HC2.out; have y2_2 := box_keep x2 HC2.out; have y2_3 := box_keep x3 HC2.out; have y2_4 := box_keep x4 HC2.out; have y2_5 := box_keep x5 HC2.out; have y2_6 := box_keep x6 HC2.out; have y2_7 := box_keep x7 HC2.out; have y2_8 := box_keep x8 HC2.out; have y2_9 := box_keep x9 HC2.out
    have y2_z := box_keep z0 HC2.out
    clear hb HX y1_0 y1_1 y1_2 y1_3 y1_4 y1_5 y1_6 y1_7 y1_8 y1_9 y1_z
    go_wp2_with fail
    go_ret
    exact ⟨ret_bool (by rw [RF.out, HQ0.out]; rfl), HB2.out⟩
  · have RF := Lib.hid (show rightF (Nd.vw f) (NdF.mk 10 s nt ni ops asg wds rds ars kds) = (onlyB (Nd.vw f) ⟨false, false, false, false, true, false, true⟩ (NdF.mk 10 s nt ni ops asg wds rds ars kds) && (listsB (Nd.vw f) 2 (NdF.mk 10 s nt ni ops asg wds rds ars kds) && (kds.length == 2))) from rfl)
    go_enter Tryz.func37, Tryz.ntmps37
    have HX := Lib.hid (only_p f IH.out ⟨false, false, false, false, true, false, true⟩ G _ _ _ (old_of HG.out HBW.out) (HT.out.below HBW.out) (HV.out.below HG.out HBW.out))
    go_wp2_with fail
    refine HX.out.mono ?_
    rintro e w1 ⟨he, hb⟩
    have HB1 := Lib.hid (HBW.out.trans (hb.mono HBW.out.size))
    have HC1 := Lib.hid (HC0.out.trans (hb.mono HC0.out.size))
    have y1_0 := box_keep x0 HC1.out; have y1_1 := box_keep x1 HC1.out; have y1_2 := box_keep x2 HC1.out; have y1_3 := box_keep x3 HC1.out; have y1_4 := box_keep x4 HC1.out; have y1_5 := box_keep x5 HC1.out; have y1_6 := box_keep x6 HC1.out; have y1_7 := box_keep x7 HC1.out; have y1_8 := box_keep x8 HC1.out; have y1_9 := box_keep x9 HC1.out
    have y1_z := box_keep z0 HC1.out
    clear hb HX
    cases q : onlyB (Nd.vw f) ⟨false, false, false, false, true, false, true⟩ (NdF.mk 10 s nt ni ops asg wds rds ars kds)
    · rw [q] at he
      subst he
      have HQ0 := Lib.hid q
      clear q
      go_wp2_with fail
      go_ret
      exact ⟨ret_bool (by rw [RF.out, HQ0.out]; rfl), HB1.out⟩
    rw [q] at he
    subst he
    have HQ0 := Lib.hid q
    clear q
    have HX := Lib.hid (lists_p f IH.out 2 G _ _ _ (old_of HG.out HB1.out) (HT.out.below HB1.out) (HV.out.below HG.out HB1.out))
    go_wp2_with fail
    refine HX.out.mono ?_
    rintro e w2 ⟨he, hb⟩
    have HB2 := Lib.hid (HB1.out.trans (hb.mono HB1.out.size))
    have HC2 := Lib.hid (HC1.out.trans (hb.mono HC1.out.size))
    have y2_0 := box_keep x0 HC2.out; have y2_1 := box_keep x1 HC2.out; have y2_2 := box_keep x2 HC2.out; have y2_3 := box_keep x3 HC2.out; have y2_4 := box_keep x4 HC2.out; have y2_5 := box_keep x5 HC2.out; have y2_6 := box_keep x6 HC2.out; have y2_7 := box_keep x7 HC2.out; have y2_8 := box_keep x8 HC2.out; have y2_9 := box_keep x9 HC2.out
    have y2_z := box_keep z0 HC2.out
    clear hb HX y1_0 y1_1 y1_2 y1_3 y1_4 y1_5 y1_6 y1_7 y1_8 y1_9 y1_z
    cases q : listsB (Nd.vw f) 2 (NdF.mk 10 s nt ni ops asg wds rds ars kds)
    · rw [q] at he
      subst he
      have HQ1 := Lib.hid q
      clear q
      go_wp2_with fail
      go_ret
      exact ⟨ret_bool (by rw [RF.out, HQ0.out, HQ1.out]; rfl), HB2.out⟩
    rw [q] at he
    subst he
    have HQ1 := Lib.hid q
    clear q
    by_cases hl2 : kds.length = 2
    case neg =>
      have HQ2 := Lib.hid (beq_false_of_ne hl2)
      have m1 : ((kds.length : Int) == 2) = false := beq_false_of_ne (by omega)
      have m2 : (kds.length == 2) = false := beq_false_of_ne hl2
      go_wp2_with fail
      go_ret
      exact ⟨ret_bool (by rw [RF.out, HQ0.out, HQ1.out, HQ2.out]; rfl), HB2.out⟩
    have HQ2 := Lib.hid (beq_iff_eq.2 hl2)
    have m1 : ((kds.length : Int) == 2) = true := beq_iff_eq.2 (by omega)
    have m2 : (kds.length == 2) = true := beq_iff_eq.2 hl2
    clear hl2
    go_wp2_with fail
    go_ret
    exact ⟨ret_bool (by rw [RF.out, HQ0.out, HQ1.out, HQ2.out]; rfl), HB2.out⟩
  · have RF := Lib.hid (show rightF (Nd.vw f) (NdF.mk 11 s nt ni ops asg wds rds ars kds) = (onlyB (Nd.vw f) ⟨false, false, false, false, true, false, true⟩ (NdF.mk 11 s nt ni ops asg wds rds ars kds) && (listsB (Nd.vw f) 2 (NdF.mk 11 s nt ni ops asg wds rds ars kds) && (kds.length == 2))) from rfl)
    go_enter Tryz.func37, Tryz.ntmps37
    have HX := Lib.hid (only_p f IH.out ⟨false, false, false, false, true, false, true⟩ G _ _ _ (old_of HG.out HBW.out) (HT.out.below HBW.out) (HV.out.below HG.out HBW.out))
    go_wp2_with fail
    refine HX.out.mono ?_
    rintro e w1 ⟨he, hb⟩
    have HB1 := Lib.hid (HBW.out.trans (hb.mono HBW.out.size))
    have HC1 := Lib.hid (HC0.out.trans (hb.mono HC0.out.size))
    have y1_0 := box_keep x0 HC1.out; have y1_1 := box_keep x1 HC1.out; have y1_2 := box_keep x2 HC1.out; have y1_3 := box_keep x3 HC1.out; have y1_4 := box_keep x4 HC1.out; have y1_5 := box_keep x5 HC1.out; have y1_6 := box_keep x6 HC1.out; have y1_7 := box_keep x7 HC1.out; have y1_8 := box_keep x8 HC1.out; have y1_9 := box_keep x9 HC1.out
    have y1_z := box_keep z0 HC1.out
    clear hb HX
    cases q : onlyB (Nd.vw f) ⟨false, false, false, false, true, false, true⟩ (NdF.mk 11 s nt ni ops asg wds rds ars kds)
    · rw [q] at he
      subst he
      have HQ0 := Lib.hid q
      clear q
      go_wp2_with fail
      go_ret
      exact ⟨ret_bool (by rw [RF.out, HQ0.out]; rfl), HB1.out⟩
    rw [q] at he
    subst he
    have HQ0 := Lib.hid q
    clear q
    have HX := Lib.hid (lists_p f IH.out 2 G _ _ _ (old_of HG.out HB1.out) (HT.out.below HB1.out) (HV.out.below HG.out HB1.out))
    go_wp2_with fail
    refine HX.out.mono ?_
    rintro e w2 ⟨he, hb⟩
    have HB2 := Lib.hid (HB1.out.trans (hb.mono HB1.out.size))
    have HC2 := Lib.hid (HC1.out.trans (hb.mono HC1.out.size))
    have y2_0 := box_keep x0 HC2.out; have y2_1 := box_keep x1 HC2.out; have y2_2 := box_keep x2 HC2.out; have y2_3 := box_keep x3 HC2.out; have y2_4 := box_keep x4 HC2.out; have y2_5 := box_keep x5 HC2.out; have y2_6 := box_keep x6 HC2.out; have y2_7 := box_keep x7 HC2.out; have y2_8 := box_keep x8 HC2.out; have y2_9 := box_keep x9 HC2.out
    have y2_z := box_keep z0 HC2.out
    clear hb HX y1_0 y1_1 y1_2 y1_3 y1_4 y1_5 y1_6 y1_7 y1_8 y1_9 y1_z
    cases q : listsB (Nd.vw f) 2 (NdF.mk 11 s nt ni ops asg wds rds ars kds)
    · rw [q] at he
      subst he
      have HQ1 := Lib.hid q
      clear q
      go_wp2_with fail
      go_ret
      exact ⟨ret_bool (by rw [RF.out, HQ0.out, HQ1.out]; rfl), HB2.out⟩
    rw [q] at he
    subst he
    have HQ1 := Lib.hid q
    clear q
    by_cases hl2 : kds.length = 2
    case neg =>
      have HQ2 := Lib.hid (beq_false_of_ne hl2)
      have m1 : ((kds.length : Int) == 2) = false := beq_false_of_ne (by omega)
      have m2 : (kds.length == 2) = false := beq_false_of_ne hl2
      go_wp2_with fail
      go_ret
      exact ⟨ret_bool (by rw [RF.out, HQ0.out, HQ1.out, HQ2.out]; rfl), HB2.out⟩
    have HQ2 := Lib.hid (beq_iff_eq.2 hl2)
    have m1 : ((kds.length : Int) == 2) = true := beq_iff_eq.2 (by omega)
    have m2 : (kds.length == 2) = true := beq_iff_eq.2 hl2
    clear hl2
    go_wp2_with fail
    go_ret
    exact ⟨ret_bool (by rw [RF.out, HQ0.out, HQ1.out, HQ2.out]; rfl), HB2.out⟩
  · have RF := Lib.hid (show rightF (Nd.vw f) (NdF.mk 12 s nt ni ops asg wds rds ars kds) = (onlyB (Nd.vw f) ⟨true, false, false, false, false, false, true⟩ (NdF.mk 12 s nt ni ops asg wds rds ars kds) && funcB (Nd.vw f) (NdF.mk 12 s nt ni ops asg wds rds ars kds)) from rfl)
    go_enter Tryz.func37, Tryz.ntmps37
    have HX := Lib.hid (only_p f IH.out ⟨true, false, false, false, false, false, true⟩ G _ _ _ (old_of HG.out HBW.out) (HT.out.below HBW.out) (HV.out.below HG.out HBW.out))
    go_wp2_with fail
    refine HX.out.mono ?_
    rintro e w1 ⟨he, hb⟩
    have HB1 := Lib.hid (HBW.out.trans (hb.mono HBW.out.size))
    have HC1 := Lib.hid (HC0.out.trans (hb.mono HC0.out.size))
    have y1_0 := box_keep x0 HC1.out; have y1_1 := box_keep x1 HC1.out; have y1_2 := box_keep x2 HC1.out; have y1_3 := box_keep x3 HC1.out; have y1_4 := box_keep x4 HC1.out; have y1_5 := box_keep x5 HC1.out; have y1_6 := box_keep x6 HC1.out; have y1_7 := box_keep x7 HC1.out; have y1_8 := box_keep x8 HC1.out; have y1_9 := box_keep x9 HC1.out
    have y1_z := box_keep z0 HC1.out
    clear hb HX
    cases q : onlyB (Nd.vw f) ⟨true, false, false, false, false, false, true⟩ (NdF.mk 12 s nt ni ops asg wds rds ars kds)
    · rw [q] at he
      subst he
      have HQ0 := Lib.hid q
      clear q
      go_wp2_with fail
      go_ret
      exact ⟨ret_bool (by rw [RF.out, HQ0.out]; rfl), HB1.out⟩
    rw [q] at he
    subst he
    have HQ0 := Lib.hid q
    clear q
    have HX := Lib.hid (function_p f IH2.out G _ _ _ (old_of HG.out HB1.out) (HT.out.below HB1.out) (HV.out.below HG.out HB1.out))
    go_wp2_with fail
    refine HX.out.mono ?_
    rintro e w2 ⟨rfl, hb⟩
    have HB2 := Lib.hid (HB1.out.trans (hb.mono HB1.out.size))
    have HC2 := Lib.hid (HC1.out.trans (hb.mono HC1.out.size))
    have y2_0 := box_keep x0 HC2.out; have y2_1 := box_keep x1 HC2.out; have y2_2 := box_keep x2 HC2.out; have y2_3 := box_keep x3 HC2.out; have y2_4 := box_keep x4 HC2.out; have y2_5 := box_keep x5 HC2.out; have y2_6 := box_keep x6 HC2.out; have y2_7 := box_keep x7 HC2.out; have y2_8 := box_keep x8 HC2.out; have y2_9 := box_keep x9 HC2.out
    have y2_z := box_keep z0 HC2.out
    clear hb HX y1_0 y1_1 y1_2 y1_3 y1_4 y1_5 y1_6 y1_7 y1_8 y1_9 y1_z
    go_wp2_with fail
    go_ret
    exact ⟨ret_bool (by rw [RF.out, HQ0.out]; rfl), HB2.out⟩
set_option maxRecDepth 100000 in
set_option maxHeartbeats 4000000 in
theorem right_d (f : Nat) (G : Nat → Prop) (w : World) (vs : List Value) (x : NdF (Nd f)) (hG : ∀ k, G k → k < w.heap.size) (ht : RsvAt w) (hv : NdV (f + 1) G w vs x) (hk : x.k ≠ 1 ∧ x.k ≠ 2 ∧ x.k ≠ 3 ∧ x.k ≠ 4 ∧ x.k ≠ 5 ∧ x.k ≠ 6 ∧ x.k ≠ 7 ∧ x.k ≠ 8 ∧ x.k ≠ 9 ∧ x.k ≠ 10 ∧ x.k ≠ 11 ∧ x.k ≠ 12) :
    Calls Tryz.prog 37 #[ag vs] w fun e w' => e = .returned (.bool (rightF (Nd.vw f) x)) ∧ Below w.heap.size w w' := by
  obtain ⟨ky, s, nt, ni, ops, asg, wds, rds, ars, kds⟩ := x
  obtain ⟨A4, c4, A5, c5, A6, c6, A7, c7, A8, c8, A9, c9, rfl, hns, hal, hl4, hl5, hl6, hl7, hl8, hl9, hso, hsa, hsw, hsr, hsm, hsk⟩ := NdV.open hv
  have HSO := Lib.hid hso; have HSA := Lib.hid hsa; have HSW := Lib.hid hsw; have HSR := Lib.hid hsr; have HSM := Lib.hid hsm; have HSK := Lib.hid hsk
  clear hso hsa hsw hsr hsm hsk hv
  show Calls Tryz.prog 37 #[.agg #[.int .i64 ky, .string s, .bool nt, .bool ni, .slice A4 ops.length c4, .slice A5 asg.length c5, .slice A6 wds.length c6, .slice A7 rds.length c7, .slice A8 ars.length c8, .slice A9 kds.length c9]] w _
  have hbw : Below w.heap.size w ((w.alloc (.cells #[.int .i64 ky, .string s, .bool nt, .bool ni, .slice A4 ops.length c4, .slice A5 asg.length c5, .slice A6 wds.length c6, .slice A7 rds.length c7, .slice A8 ars.length c8, .slice A9 kds.length c9] 28)).alloc (.cells #[.func (.func 76) #[] #[.pointer (some ⟨w.heap.size, 0, none⟩)]] 36)) := ((Below.refl _ _).alloc (Nat.le_refl _) _).alloc (by simp) _
  obtain ⟨hb0, hb1⟩ := two_blocks w (.cells #[.int .i64 ky, .string s, .bool nt, .bool ni, .slice A4 ops.length c4, .slice A5 asg.length c5, .slice A6 wds.length c6, .slice A7 rds.length c7, .slice A8 ars.length c8, .slice A9 kds.length c9] 28) (.cells #[.func (.func 76) #[] #[.pointer (some ⟨w.heap.size, 0, none⟩)]] 36)
  generalize hW : (w.alloc (.cells #[.int .i64 ky, .string s, .bool nt, .bool ni, .slice A4 ops.length c4, .slice A5 asg.length c5, .slice A6 wds.length c6, .slice A7 rds.length c7, .slice A8 ars.length c8, .slice A9 kds.length c9] 28)).alloc (.cells #[.func (.func 76) #[] #[.pointer (some ⟨w.heap.size, 0, none⟩)]] 36) = W at *
  have x0 : W.cell? ⟨w.heap.size, 0, none⟩ = some (.int .i64 ky) := by simp [World.cell?, hb0]
  have x1 : W.cell? ⟨w.heap.size, 1, none⟩ = some (.string s) := by simp [World.cell?, hb0]
  have x2 : W.cell? ⟨w.heap.size, 2, none⟩ = some (.bool nt) := by simp [World.cell?, hb0]
  have x3 : W.cell? ⟨w.heap.size, 3, none⟩ = some (.bool ni) := by simp [World.cell?, hb0]
  have x4 : W.cell? ⟨w.heap.size, 4, none⟩ = some (.slice A4 ops.length c4) := by simp [World.cell?, hb0]
  have x5 : W.cell? ⟨w.heap.size, 5, none⟩ = some (.slice A5 asg.length c5) := by simp [World.cell?, hb0]
  have x6 : W.cell? ⟨w.heap.size, 6, none⟩ = some (.slice A6 wds.length c6) := by simp [World.cell?, hb0]
  have x7 : W.cell? ⟨w.heap.size, 7, none⟩ = some (.slice A7 rds.length c7) := by simp [World.cell?, hb0]
  have x8 : W.cell? ⟨w.heap.size, 8, none⟩ = some (.slice A8 ars.length c8) := by simp [World.cell?, hb0]
  have x9 : W.cell? ⟨w.heap.size, 9, none⟩ = some (.slice A9 kds.length c9) := by simp [World.cell?, hb0]
  have HGW := Lib.hid (old_of hG hbw)
  have HBW := Lib.hid hbw; have HG := Lib.hid hG; have HT := Lib.hid ht
  clear hbw hb0 hG ht
  have HN := Lib.hid (rightF_none (Nd.vw f) (NdF.mk ky s nt ni ops asg wds rds ars kds) hk.1 hk.2.1 hk.2.2.1 hk.2.2.2.1 hk.2.2.2.2.1 hk.2.2.2.2.2.1 hk.2.2.2.2.2.2.1 hk.2.2.2.2.2.2.2.1 hk.2.2.2.2.2.2.2.2.1 hk.2.2.2.2.2.2.2.2.2.1 hk.2.2.2.2.2.2.2.2.2.2.1 hk.2.2.2.2.2.2.2.2.2.2.2)
  obtain ⟨k1, k2, k3, k4, k5, k6, k7, k8, k9, k10, k11, k12⟩ := hk
  replace k1 : (ky == 1) = false := beq_false_of_ne k1
  replace k2 : (ky == 2) = false := beq_false_of_ne k2
  replace k3 : (ky == 3) = false := beq_false_of_ne k3
  replace k4 : (ky == 4) = false := beq_false_of_ne k4
  replace k5 : (ky == 5) = false := beq_false_of_ne k5
  replace k6 : (ky == 6) = false := beq_false_of_ne k6
  replace k7 : (ky == 7) = false := beq_false_of_ne k7
  replace k8 : (ky == 8) = false := beq_false_of_ne k8
  replace k9 : (ky == 9) = false := beq_false_of_ne k9
  replace k10 : (ky == 10) = false := beq_false_of_ne k10
  replace k11 : (ky == 11) = false := beq_false_of_ne k11
  replace k12 : (ky == 12) = false := beq_false_of_ne k12
  go_enter Tryz.func37, Tryz.ntmps37
  go_wp2_with fail
  go_ret
  exact ⟨ret_bool (by rw [HN.out]), HBW.out⟩
theorem right_all (f : Nat) (ih : PRt f) (ih2 : PRight f) (ih3 : POn f) : PRight (f + 1) := by
  intro G w vs x hG ht hv
  have hx : (Nd.vw (f + 1)).rt x = rightF (Nd.vw f) x := rfl
  rw [hx]
  by_cases hk : (x : NdF (Nd f)).k = 1 ∨ (x : NdF (Nd f)).k = 2 ∨ (x : NdF (Nd f)).k = 3
  · exact right_a f ih ih2 ih3 G w vs x hG ht hv hk
  by_cases hk2 : (x : NdF (Nd f)).k = 4 ∨ (x : NdF (Nd f)).k = 5 ∨ (x : NdF (Nd f)).k = 6 ∨ (x : NdF (Nd f)).k = 7
  · exact right_b f ih ih2 ih3 G w vs x hG ht hv hk2
  by_cases hk3 : (x : NdF (Nd f)).k = 8 ∨ (x : NdF (Nd f)).k = 9 ∨ (x : NdF (Nd f)).k = 10 ∨ (x : NdF (Nd f)).k = 11 ∨ (x : NdF (Nd f)).k = 12
  · exact right_c f ih ih2 ih3 G w vs x hG ht hv hk3
  exact right_d f G w vs x hG ht hv ⟨by omega, by omega, by omega, by omega, by omega, by omega, by omega, by omega, by omega, by omega, by omega, by omega⟩
set_option maxRecDepth 100000 in
set_option maxHeartbeats 4000000 in
theorem Right_all (f : Nat) (ih : PRight (f + 1)) : PRt (f + 1) := by
  intro G w vs x hG ht hv
  have hx : (Nd.vw (f + 1)).R x = (((x : NdF (Nd f)).k == 1) && (Nd.vw (f + 1)).rt x) := rfl
  rw [hx]
  have IH := Lib.hid ih
  have HV := Lib.hid hv
  clear ih hx
  generalize hr : (Nd.vw (f + 1)).rt x = r
  have HR := Lib.hid hr
  clear hr
  obtain ⟨ky, s, nt, ni, ops, asg, wds, rds, ars, kds⟩ := x
  obtain ⟨A4, c4, A5, c5, A6, c6, A7, c7, A8, c8, A9, c9, rfl, hns, hal, hl4, hl5, hl6, hl7, hl8, hl9, hso, hsa, hsw, hsr, hsm, hsk⟩ := NdV.open hv
  clear hso hsa hsw hsr hsm hsk hv
  show Calls Tryz.prog 13 #[.agg #[.int .i64 ky, .string s, .bool nt, .bool ni, .slice A4 ops.length c4, .slice A5 asg.length c5, .slice A6 wds.length c6, .slice A7 rds.length c7, .slice A8 ars.length c8, .slice A9 kds.length c9]] w _
  have hbw : Below w.heap.size w (w.alloc (.cells #[.int .i64 ky, .string s, .bool nt, .bool ni, .slice A4 ops.length c4, .slice A5 asg.length c5, .slice A6 wds.length c6, .slice A7 rds.length c7, .slice A8 ars.length c8, .slice A9 kds.length c9] 28)) := (Below.refl _ _).alloc (Nat.le_refl _) _
  have hb0 := heap_alloc_t w (.cells #[.int .i64 ky, .string s, .bool nt, .bool ni, .slice A4 ops.length c4, .slice A5 asg.length c5, .slice A6 wds.length c6, .slice A7 rds.length c7, .slice A8 ars.length c8, .slice A9 kds.length c9] 28)
  have HX := Lib.hid (IH.out G _ _ _ (old_of hG hbw) (ht.below hbw) (HV.out.below hG hbw))
  rw [HR.out] at HX
  generalize hW : w.alloc (.cells #[.int .i64 ky, .string s, .bool nt, .bool ni, .slice A4 ops.length c4, .slice A5 asg.length c5, .slice A6 wds.length c6, .slice A7 rds.length c7, .slice A8 ars.length c8, .slice A9 kds.length c9] 28) = W at *
  have x0 : W.cell? ⟨w.heap.size, 0, none⟩ = some (.int .i64 ky) := by simp [World.cell?, hb0]
  have x1 : W.cell? ⟨w.heap.size, 1, none⟩ = some (.string s) := by simp [World.cell?, hb0]
  have x2 : W.cell? ⟨w.heap.size, 2, none⟩ = some (.bool nt) := by simp [World.cell?, hb0]
  have x3 : W.cell? ⟨w.heap.size, 3, none⟩ = some (.bool ni) := by simp [World.cell?, hb0]
  have x4 : W.cell? ⟨w.heap.size, 4, none⟩ = some (.slice A4 ops.length c4) := by simp [World.cell?, hb0]
  have x5 : W.cell? ⟨w.heap.size, 5, none⟩ = some (.slice A5 asg.length c5) := by simp [World.cell?, hb0]
  have x6 : W.cell? ⟨w.heap.size, 6, none⟩ = some (.slice A6 wds.length c6) := by simp [World.cell?, hb0]
  have x7 : W.cell? ⟨w.heap.size, 7, none⟩ = some (.slice A7 rds.length c7) := by simp [World.cell?, hb0]
  have x8 : W.cell? ⟨w.heap.size, 8, none⟩ = some (.slice A8 ars.length c8) := by simp [World.cell?, hb0]
  have x9 : W.cell? ⟨w.heap.size, 9, none⟩ = some (.slice A9 kds.length c9) := by simp [World.cell?, hb0]
  have HBW := Lib.hid hbw
  clear hbw hb0 hG ht
  simp only
  cases q : (ky == 1)
  · have HQ := Lib.hid q
    go_enter Tryz.func13, Tryz.ntmps13
    go_wp2_with fail
    go_ret
    exact ⟨rfl, HBW.out⟩
  · go_enter Tryz.func13, Tryz.ntmps13
    go_wp2_with fail
    refine HX.out.mono ?_
    rintro e w1 ⟨rfl, hb⟩
    have HB1 := Lib.hid (HBW.out.trans (hb.mono HBW.out.size))
    clear hb
    go_wp2_with fail
    go_ret
    exact ⟨rfl, HB1.out⟩
theorem On_all (f : Nat) (ih : PRt f) : POn (f + 1) := fun G w vs x hG ht hv => only_p f ih none7 G w vs x hG ht hv
theorem prog_right : ∀ f : Nat, PRight f ∧ PRt f ∧ POn f
  | 0 => ⟨fun _ _ _ x => Empty.elim x, fun _ _ _ x => Empty.elim x, fun _ _ _ x => Empty.elim x⟩
  | f + 1 =>
    have ih := prog_right f
    have h := right_all f ih.2.1 ih.1 ih.2.2
    ⟨h, Right_all f h, On_all f ih.2.1⟩
end Go.Proofs.YtjpopekmbmcggaaGreatDoor
