/- Towards nodeTells_card: NdRefLoop. Merged from smaller texts by a program of the author's. -/
import Derived.Test.YtjpopekmbmcggaaGreatDoorTa38
import Derived.Test.YtjpopekmbmcggaaGreatDoorTa28
namespace Go.Proofs.YtjpopekmbmcggaaGreatDoor
open Go.RowKit
def RRight (f : Nat) : Prop := ∀ (G : Nat → Prop) (w : World) (vs : List Value) (x : Nd f), (∀ k, G k → k < w.heap.size) → NdV f G w vs x →
  Calls Tryz.prog 38 #[ag vs] w fun e w' => e = .returned (.bool ((Nd.vw f).rt x)) ∧ Below w.heap.size w w'
set_option maxRecDepth 100000 in
set_option maxHeartbeats 4000000 in
theorem words_r (f : Nat) (ih : RRt f) (G : Nat → Prop) (v : Value) (xs : List (WdF (Nd f))) (w : World) (hG : ∀ k, G k → k < w.heap.size) (hs : SlAt G w 1 (WdN f G w) v xs) :
    Calls Tryz.prog 97 #[v] w fun e w' => e = .returned (.bool (xs.all (wordB (Nd.vw f)))) ∧ Below w.heap.size w w' := by
  obtain ⟨A, c, rfl, hl, hm, hc⟩ := hs
  unfold maxLen at hm
  have HC := Lib.hid hc; have HG := Lib.hid hG; have IH := Lib.hid ih
  clear hc hG ih
  go_enter Tryz.func97, Tryz.ntmps97
  go_wp2_with fail
  go_loopw [3] (fun i wr => ∃ (k : Nat), k ≤ xs.length ∧ i = .int .i64 k ∧ (xs.drop k).all (wordB (Nd.vw f)) = xs.all (wordB (Nd.vw f)) ∧ Below w.heap.size w wr) (fun i _ => xs.length - (intOf i).toNat)
  case atStart => exact ⟨0, by omega, rfl, rfl, Below.refl _ _⟩
  case round =>
    obtain ⟨k, hk, rfl, hf, hb⟩ := hrel
    have HF := Lib.hid hf; have HB := Lib.hid hb
    clear hf hb
    by_cases hlt : k < xs.length
    · obtain ⟨b, off, rfl, hg, hel⟩ := HC.out (by omega)
      obtain ⟨vs, hvl, hR, hcell⟩ := hel k hlt
      have hR' := hR.below HG.out HB.out
      have HX := Lib.hid (word_r f IH.out G wr vs _ (old_of HG.out HB.out) hR')
      obtain ⟨A0, n0, c0, rfl⟩ := hR'.shape
      have z := fun j u hj => (keep_of HG.out HB.out _ hg).trans (hcell j u hj)
      have d0 : wr.cell? ⟨b, off + k, none⟩ = some (.slice A0 n0 c0) := by simpa using z 0 _ rfl
      have HD := Lib.hid (all_drop (wordB (Nd.vw f)) xs k hlt)
      clear z hel hcell hvl hR hR' hg
      go_wp2_with fail
      refine HX.out.mono ?_
      rintro e w1 ⟨he, hb1⟩
      have HB1 := Lib.hid (HB.out.trans (hb1.mono HB.out.size))
      clear hb1 d0
      cases hq : wordB (Nd.vw f) xs[k]
      · rw [hq] at he
        subst he
        have HQ := Lib.hid hq
        clear hq
        go_wp2_with fail
        go_ret
        exact ⟨ret_bool (by rw [← HF.out, HD.out, HQ.out]; rfl), HB1.out⟩
      · rw [hq] at he
        subst he
        have HQ := Lib.hid hq
        clear hq
        go_wp2_with fail
        go_roundw
        case rel => exact ⟨k + 1, by omega, by go_num, by rw [← HF.out, HD.out, HQ.out]; rfl, HB1.out⟩
        case measure => simp only [intOf]; omega
    · have HE := Lib.hid (all_end (wordB (Nd.vw f)) xs k (by omega))
      go_wp2_with fail
      go_ret
      exact ⟨ret_bool (by rw [← HF.out, HE.out]), HB.out⟩
set_option maxRecDepth 100000 in
set_option maxHeartbeats 4000000 in
theorem redirs_r (f : Nat) (ih : RRt f) (G : Nat → Prop) (v : Value) (xs : List (RdF (Nd f))) (w : World) (hG : ∀ k, G k → k < w.heap.size) (hs : SlAt G w 4 (RdN f G w) v xs) :
    Calls Tryz.prog 96 #[v] w fun e w' => e = .returned (.bool (xs.all (redirB (Nd.vw f)))) ∧ Below w.heap.size w w' := by
  obtain ⟨A, c, rfl, hl, hm, hc⟩ := hs
  unfold maxLen at hm
  have HC := Lib.hid hc; have HG := Lib.hid hG; have IH := Lib.hid ih
  clear hc hG ih
  go_enter Tryz.func96, Tryz.ntmps96
  go_wp2_with fail
  go_loopw [3] (fun i wr => ∃ (k : Nat), k ≤ xs.length ∧ i = .int .i64 k ∧ (xs.drop k).all (redirB (Nd.vw f)) = xs.all (redirB (Nd.vw f)) ∧ Below w.heap.size w wr) (fun i _ => xs.length - (intOf i).toNat)
  case atStart => exact ⟨0, by omega, rfl, rfl, Below.refl _ _⟩
  case round =>
    obtain ⟨k, hk, rfl, hf, hb⟩ := hrel
    have HF := Lib.hid hf; have HB := Lib.hid hb
    clear hf hb
    by_cases hlt : k < xs.length
    · obtain ⟨b, off, rfl, hg, hel⟩ := HC.out (by omega)
      obtain ⟨vs, hvl, hR, hcell⟩ := hel k hlt
      have hR' := hR.below HG.out HB.out
      have HX := Lib.hid (redir_m f IH.out G wr vs _ (old_of HG.out HB.out) hR')
      obtain ⟨s, o, A2, n2, c2, sh, rfl⟩ := hR'.shape
      have z := fun j u hj => (keep_of HG.out HB.out _ hg).trans (hcell j u hj)
      have d0 : wr.cell? ⟨b, off + k * 4, none⟩ = some (.string s) := by simpa using z 0 _ rfl
      have d1 : wr.cell? ⟨b, off + k * 4 + 1, none⟩ = some (.int .i64 o) := by simpa using z 1 _ rfl
      have d2 : wr.cell? ⟨b, off + k * 4 + 2, none⟩ = some (.slice A2 n2 c2) := by simpa using z 2 _ rfl
      have d3 : wr.cell? ⟨b, off + k * 4 + 3, none⟩ = some (.string sh) := by simpa using z 3 _ rfl
      have HD := Lib.hid (all_drop (redirB (Nd.vw f)) xs k hlt)
      clear z hel hcell hvl hR hR' hg
      go_wp2_with fail
      refine HX.out.mono ?_
      rintro e w1 ⟨he, hb1⟩
      have HB1 := Lib.hid (HB.out.trans (hb1.mono HB.out.size))
      clear hb1 d0 d1 d2 d3
      cases hq : redirB (Nd.vw f) xs[k]
      · rw [hq] at he
        subst he
        have HQ := Lib.hid hq
        clear hq
        go_wp2_with fail
        go_ret
        exact ⟨ret_bool (by rw [← HF.out, HD.out, HQ.out]; rfl), HB1.out⟩
      · rw [hq] at he
        subst he
        have HQ := Lib.hid hq
        clear hq
        go_wp2_with fail
        go_roundw
        case rel => exact ⟨k + 1, by omega, by go_num, by rw [← HF.out, HD.out, HQ.out]; rfl, HB1.out⟩
        case measure => simp only [intOf]; omega
    · have HE := Lib.hid (all_end (redirB (Nd.vw f)) xs k (by omega))
      go_wp2_with fail
      go_ret
      exact ⟨ret_bool (by rw [← HF.out, HE.out]), HB.out⟩
set_option maxRecDepth 100000 in
set_option maxHeartbeats 4000000 in
theorem kids_r (f : Nat) (ih : RRight f) (least : Nat) (fr : Int) (G : Nat → Prop) (w : World) (vs : List Value) (x : NdF (Nd f)) (hG : ∀ k, G k → k < w.heap.size) (hv : NdV (f + 1) G w vs x) :
    Calls Tryz.prog 99 #[ag vs, .int .i64 (least : Nat), .int .i64 fr] w fun e w' => e = .returned (.bool (kidsB (Nd.vw f) least fr x)) ∧ Below w.heap.size w w' := by
  obtain ⟨ky, s, nt, ni, ops, asg, wds, rds, ars, kds⟩ := x
  obtain ⟨A4, c4, A5, c5, A6, c6, A7, c7, A8, c8, A9, c9, rfl, hns, hal, hl4, hl5, hl6, hl7, hl8, hl9, hso, hsa, hsw, hsr, hsm, hsk⟩ := NdV.open hv
  have HSO := Lib.hid hso; have HSA := Lib.hid hsa; have HSW := Lib.hid hsw; have HSR := Lib.hid hsr; have HSM := Lib.hid hsm; have HSK := Lib.hid hsk
  clear hso hsa hsw hsr hsm hsk hv
  show Calls Tryz.prog 99 #[.agg #[.int .i64 ky, .string s, .bool nt, .bool ni, .slice A4 ops.length c4, .slice A5 asg.length c5, .slice A6 wds.length c6, .slice A7 rds.length c7, .slice A8 ars.length c8, .slice A9 kds.length c9], .int .i64 (least : Nat), .int .i64 fr] w _
  have hbw : Below w.heap.size w (w.alloc (.cells #[.int .i64 ky, .string s, .bool nt, .bool ni, .slice A4 ops.length c4, .slice A5 asg.length c5, .slice A6 wds.length c6, .slice A7 rds.length c7, .slice A8 ars.length c8, .slice A9 kds.length c9] 28)) := (Below.refl _ _).alloc (Nat.le_refl _) _
  have hb0 := heap_alloc_t w (.cells #[.int .i64 ky, .string s, .bool nt, .bool ni, .slice A4 ops.length c4, .slice A5 asg.length c5, .slice A6 wds.length c6, .slice A7 rds.length c7, .slice A8 ars.length c8, .slice A9 kds.length c9] 28)
  generalize hW : w.alloc (.cells #[.int .i64 ky, .string s, .bool nt, .bool ni, .slice A4 ops.length c4, .slice A5 asg.length c5, .slice A6 wds.length c6, .slice A7 rds.length c7, .slice A8 ars.length c8, .slice A9 kds.length c9] 28) = W at *
  have x0 : W.cell? ⟨w.heap.size, 0, none⟩ = some (.int .i64 ky) := by simp [World.cell?, hb0]
  have x1 : W.cell? ⟨w.heap.size, 1, none⟩ = some (.string s) := by simp [World.cell?, hb0]
  have x2 : W.cell? ⟨w.heap.size, 2, none⟩ = some (.bool nt) := by simp [World.cell?, hb0]
  have x3 : W.cell? ⟨w.heap.size, 3, none⟩ = some (.bool ni) := by simp [World.cell?, hb0]
  have x4 : W.cell? ⟨w.heap.size, 4, none⟩ = some (.slice A4 ops.length c4) := by simp [World.cell?, hb0]
  have x5 : W.cell? ⟨w.heap.size, 5, none⟩ = some (.slice A5 asg.length c5) := by simp [World.cell?, hb0]
  have x6 : W.cell? ⟨w.heap.size, 6, none⟩ = some (.slice A6 wds.length c6) := by simp [World.cell?, hb0]
  have x7 : W.cell? ⟨w.heap.size, 7, none⟩ = some (.slice A7 rds.length c7) := by simp [World.cell?, hb0]
  have x8 : W.cell? ⟨w.heap.size, 8, none⟩ = some (.slice A8 ars.length c8) := by simp [World.cell?, hb0]
  have x9 : W.cell? ⟨w.heap.size, 9, none⟩ = some (.slice A9 kds.length c9) := by simp [World.cell?, hb0]
  have HGW := Lib.hid (old_of hG hbw)
  have HBW := Lib.hid hbw; have HG := Lib.hid hG
  clear hbw hb0 hG
  have IH := Lib.hid ih
  clear ih
  by_cases hl : least ≤ kds.length
  case neg =>
    have HL := Lib.hid (decide_eq_false hl)
    go_enter Tryz.func99, Tryz.ntmps99
    go_wp2_with fail
    go_ret
    exact ⟨ret_bool (by rw [kidsB, HL.out, Bool.false_and]), HBW.out⟩
  have HL := Lib.hid (show kidsB (Nd.vw f) least fr (NdF.mk ky s nt ni ops asg wds rds ars kds) = kds.all (fun y => decide (fr ≤ (Nd.vw f).kd y) && (Nd.vw f).rt y) by rw [kidsB, decide_eq_true hl, Bool.true_and])
  have hl' : decide (kds.length < least) = false := decide_eq_false (by omega)
  go_enter Tryz.func99, Tryz.ntmps99
  go_wp2_with fail
  go_loopw [7] (fun i wr => ∃ (k : Nat), k ≤ kds.length ∧ i = .int .i64 k ∧ (kds.drop k).all (fun y => decide (fr ≤ (Nd.vw f).kd y) && (Nd.vw f).rt y) = kds.all (fun y => decide (fr ≤ (Nd.vw f).kd y) && (Nd.vw f).rt y) ∧ Below W.heap.size W wr) (fun i _ => kds.length - (intOf i).toNat)
  case atStart => exact ⟨0, by omega, rfl, rfl, Below.refl _ _⟩
  case round =>
    obtain ⟨k, hk, rfl, hf, hb⟩ := hrel
    have HF := Lib.hid hf; have HB := Lib.hid hb
    have y9 := box_keep x9 hb
    clear hf hb
    by_cases hlt : k < kds.length
    · obtain ⟨A, c, hA, _, _, hel⟩ := HSK.out.onN HG.out HBW.out
      injection hA with hA1 _ hA2
      subst hA1 hA2
      obtain ⟨b, off, rfl, hg, hel⟩ := hel (by omega)
      obtain ⟨vs, hvl, hR, hcell⟩ := hel k hlt
      have hR' := hR.below HGW.out HB.out
      have HX := Lib.hid (IH.out G wr _ _ (old_of HGW.out HB.out) hR')
      obtain ⟨kx, sx, ntx, nix, B4, m4, e4, B5, m5, e5, B6, m6, e6, B7, m7, e7, B8, m8, e8, B9, m9, e9, rfl⟩ := hR'.shape
      have z := fun j u hj => (keep_of HGW.out HB.out _ hg).trans (hcell j u hj)
      have d0 : wr.cell? ⟨b, off + k * 10, none⟩ = some (.int .i64 kx) := by simpa using z 0 _ rfl
      have d1 : wr.cell? ⟨b, off + k * 10 + 1, none⟩ = some (.string sx) := by simpa using z 1 _ rfl
      have d2 : wr.cell? ⟨b, off + k * 10 + 2, none⟩ = some (.bool ntx) := by simpa using z 2 _ rfl
      have d3 : wr.cell? ⟨b, off + k * 10 + 3, none⟩ = some (.bool nix) := by simpa using z 3 _ rfl
      have d4 : wr.cell? ⟨b, off + k * 10 + 4, none⟩ = some (.slice B4 m4 e4) := by simpa using z 4 _ rfl
      have d5 : wr.cell? ⟨b, off + k * 10 + 5, none⟩ = some (.slice B5 m5 e5) := by simpa using z 5 _ rfl
      have d6 : wr.cell? ⟨b, off + k * 10 + 6, none⟩ = some (.slice B6 m6 e6) := by simpa using z 6 _ rfl
      have d7 : wr.cell? ⟨b, off + k * 10 + 7, none⟩ = some (.slice B7 m7 e7) := by simpa using z 7 _ rfl
      have d8 : wr.cell? ⟨b, off + k * 10 + 8, none⟩ = some (.slice B8 m8 e8) := by simpa using z 8 _ rfl
      have d9 : wr.cell? ⟨b, off + k * 10 + 9, none⟩ = some (.slice B9 m9 e9) := by simpa using z 9 _ rfl
      have HD := Lib.hid (all_drop (fun y => decide (fr ≤ (Nd.vw f).kd y) && (Nd.vw f).rt y) kds k hlt)
      clear z hel hcell hvl hR hg
      have HKD := Lib.hid (NdV.kind hR'); 
      by_cases h9 : fr ≤ kx
      case neg =>
        have HP := Lib.hid (show (fun y => decide (fr ≤ (Nd.vw f).kd y) && (Nd.vw f).rt y) kds[k] = false by simp only [HKD.out]; rw [decide_eq_false h9, Bool.false_and])
        clear hR'
        go_wp2_with fail
        go_ret
        exact ⟨ret_bool (by rw [HL.out, ← HF.out, HD.out, HP.out]; rfl), HBW.out.trans (HB.out.mono HBW.out.size)⟩
      have HP := Lib.hid (show (fun y => decide (fr ≤ (Nd.vw f).kd y) && (Nd.vw f).rt y) kds[k] = (Nd.vw f).rt kds[k] by simp only [HKD.out]; rw [decide_eq_true h9, Bool.true_and])
      clear hR'
      go_wp2_with fail
      refine HX.out.mono ?_
      rintro e w1 ⟨he, hb1⟩
      have HB1 := Lib.hid (HB.out.trans (hb1.mono HB.out.size))
      clear hb1 y9 d0 d1 d2 d3 d4 d5 d6 d7 d8 d9
      cases hq : (Nd.vw f).rt kds[k]
      · rw [hq] at he
        subst he
        have HQ := Lib.hid hq
        clear hq
        go_wp2_with fail
        go_ret
        exact ⟨ret_bool (by rw [HL.out, ← HF.out, HD.out, HP.out, HQ.out]; rfl), HBW.out.trans (HB1.out.mono HBW.out.size)⟩
      · rw [hq] at he
        subst he
        have HQ := Lib.hid hq
        clear hq
        go_wp2_with fail
        go_roundw
        case rel => exact ⟨k + 1, by omega, by go_num, by rw [← HF.out, HD.out, HP.out, HQ.out]; rfl, HB1.out⟩
        case measure => simp only [intOf]; omega
    · have HE := Lib.hid (all_end (fun y => decide (fr ≤ (Nd.vw f).kd y) && (Nd.vw f).rt y) kds k (by omega))
      go_wp2_with fail
      go_ret
      exact ⟨ret_bool (by rw [HL.out, ← HF.out, HE.out]), HBW.out.trans (HB.out.mono HBW.out.size)⟩
set_option maxRecDepth 100000 in
set_option maxHeartbeats 4000000 in
theorem lists_r (f : Nat) (ih : RRt f) (least most : Nat) (G : Nat → Prop) (w : World) (vs : List Value) (x : NdF (Nd f)) (hG : ∀ k, G k → k < w.heap.size) (hv : NdV (f + 1) G w vs x) :
    Calls Tryz.prog 102 #[ag vs, .int .i64 (least : Nat), .int .i64 (most : Nat)] w fun e w' => e = .returned (.bool (listsR (Nd.vw f) least most x)) ∧ Below w.heap.size w w' := by
  obtain ⟨ky, s, nt, ni, ops, asg, wds, rds, ars, kds⟩ := x
  obtain ⟨A4, c4, A5, c5, A6, c6, A7, c7, A8, c8, A9, c9, rfl, hns, hal, hl4, hl5, hl6, hl7, hl8, hl9, hso, hsa, hsw, hsr, hsm, hsk⟩ := NdV.open hv
  have HSO := Lib.hid hso; have HSA := Lib.hid hsa; have HSW := Lib.hid hsw; have HSR := Lib.hid hsr; have HSM := Lib.hid hsm; have HSK := Lib.hid hsk
  clear hso hsa hsw hsr hsm hsk hv
  show Calls Tryz.prog 102 #[.agg #[.int .i64 ky, .string s, .bool nt, .bool ni, .slice A4 ops.length c4, .slice A5 asg.length c5, .slice A6 wds.length c6, .slice A7 rds.length c7, .slice A8 ars.length c8, .slice A9 kds.length c9], .int .i64 (least : Nat), .int .i64 (most : Nat)] w _
  have hbw : Below w.heap.size w (w.alloc (.cells #[.int .i64 ky, .string s, .bool nt, .bool ni, .slice A4 ops.length c4, .slice A5 asg.length c5, .slice A6 wds.length c6, .slice A7 rds.length c7, .slice A8 ars.length c8, .slice A9 kds.length c9] 28)) := (Below.refl _ _).alloc (Nat.le_refl _) _
  have hb0 := heap_alloc_t w (.cells #[.int .i64 ky, .string s, .bool nt, .bool ni, .slice A4 ops.length c4, .slice A5 asg.length c5, .slice A6 wds.length c6, .slice A7 rds.length c7, .slice A8 ars.length c8, .slice A9 kds.length c9] 28)
  generalize hW : w.alloc (.cells #[.int .i64 ky, .string s, .bool nt, .bool ni, .slice A4 ops.length c4, .slice A5 asg.length c5, .slice A6 wds.length c6, .slice A7 rds.length c7, .slice A8 ars.length c8, .slice A9 kds.length c9] 28) = W at *
  have x0 : W.cell? ⟨w.heap.size, 0, none⟩ = some (.int .i64 ky) := by simp [World.cell?, hb0]
  have x1 : W.cell? ⟨w.heap.size, 1, none⟩ = some (.string s) := by simp [World.cell?, hb0]
  have x2 : W.cell? ⟨w.heap.size, 2, none⟩ = some (.bool nt) := by simp [World.cell?, hb0]
  have x3 : W.cell? ⟨w.heap.size, 3, none⟩ = some (.bool ni) := by simp [World.cell?, hb0]
  have x4 : W.cell? ⟨w.heap.size, 4, none⟩ = some (.slice A4 ops.length c4) := by simp [World.cell?, hb0]
  have x5 : W.cell? ⟨w.heap.size, 5, none⟩ = some (.slice A5 asg.length c5) := by simp [World.cell?, hb0]
  have x6 : W.cell? ⟨w.heap.size, 6, none⟩ = some (.slice A6 wds.length c6) := by simp [World.cell?, hb0]
  have x7 : W.cell? ⟨w.heap.size, 7, none⟩ = some (.slice A7 rds.length c7) := by simp [World.cell?, hb0]
  have x8 : W.cell? ⟨w.heap.size, 8, none⟩ = some (.slice A8 ars.length c8) := by simp [World.cell?, hb0]
  have x9 : W.cell? ⟨w.heap.size, 9, none⟩ = some (.slice A9 kds.length c9) := by simp [World.cell?, hb0]
  have HGW := Lib.hid (old_of hG hbw)
  have HBW := Lib.hid hbw; have HG := Lib.hid hG
  clear hbw hb0 hG
  have IH := Lib.hid ih
  clear ih
  by_cases hl : kds.length < least
  · have HL := Lib.hid (decide_eq_true hl)
    go_enter Tryz.func102, Tryz.ntmps102
    go_wp2_with fail
    go_ret
    exact ⟨ret_bool (by rw [listsR, HL.out]; rfl), HBW.out⟩
  by_cases hl2 : most < kds.length
  · have HL := Lib.hid (decide_eq_false hl); have HL2 := Lib.hid (decide_eq_true hl2)
    go_enter Tryz.func102, Tryz.ntmps102
    go_wp2_with fail
    go_ret
    exact ⟨ret_bool (by rw [listsR, HL.out, HL2.out]; rfl), HBW.out⟩
  have HL := Lib.hid (show listsR (Nd.vw f) least most (NdF.mk ky s nt ni ops asg wds rds ars kds) = kds.all ((Nd.vw f).R) by rw [listsR, decide_eq_false hl, decide_eq_false hl2]; rfl)
  go_enter Tryz.func102, Tryz.ntmps102
  go_wp2_with fail
  go_loopw [7] (fun i wr => ∃ (k : Nat), k ≤ kds.length ∧ i = .int .i64 k ∧ (kds.drop k).all ((Nd.vw f).R) = kds.all ((Nd.vw f).R) ∧ Below W.heap.size W wr) (fun i _ => kds.length - (intOf i).toNat)
  case atStart => exact ⟨0, by omega, rfl, rfl, Below.refl _ _⟩
  case round =>
    obtain ⟨k, hk, rfl, hf, hb⟩ := hrel
    have HF := Lib.hid hf; have HB := Lib.hid hb
    have y9 := box_keep x9 hb
    clear hf hb
    by_cases hlt : k < kds.length
    · obtain ⟨A, c, hA, _, _, hel⟩ := HSK.out.onN HG.out HBW.out
      injection hA with hA1 _ hA2
      subst hA1 hA2
      obtain ⟨b, off, rfl, hg, hel⟩ := hel (by omega)
      obtain ⟨vs, hvl, hR, hcell⟩ := hel k hlt
      have hR' := hR.below HGW.out HB.out
      have HX := Lib.hid (IH.out G wr _ _ (old_of HGW.out HB.out) hR')
      obtain ⟨kx, sx, ntx, nix, B4, m4, e4, B5, m5, e5, B6, m6, e6, B7, m7, e7, B8, m8, e8, B9, m9, e9, rfl⟩ := hR'.shape
      have z := fun j u hj => (keep_of HGW.out HB.out _ hg).trans (hcell j u hj)
      have d0 : wr.cell? ⟨b, off + k * 10, none⟩ = some (.int .i64 kx) := by simpa using z 0 _ rfl
      have d1 : wr.cell? ⟨b, off + k * 10 + 1, none⟩ = some (.string sx) := by simpa using z 1 _ rfl
      have d2 : wr.cell? ⟨b, off + k * 10 + 2, none⟩ = some (.bool ntx) := by simpa using z 2 _ rfl
      have d3 : wr.cell? ⟨b, off + k * 10 + 3, none⟩ = some (.bool nix) := by simpa using z 3 _ rfl
      have d4 : wr.cell? ⟨b, off + k * 10 + 4, none⟩ = some (.slice B4 m4 e4) := by simpa using z 4 _ rfl
      have d5 : wr.cell? ⟨b, off + k * 10 + 5, none⟩ = some (.slice B5 m5 e5) := by simpa using z 5 _ rfl
      have d6 : wr.cell? ⟨b, off + k * 10 + 6, none⟩ = some (.slice B6 m6 e6) := by simpa using z 6 _ rfl
      have d7 : wr.cell? ⟨b, off + k * 10 + 7, none⟩ = some (.slice B7 m7 e7) := by simpa using z 7 _ rfl
      have d8 : wr.cell? ⟨b, off + k * 10 + 8, none⟩ = some (.slice B8 m8 e8) := by simpa using z 8 _ rfl
      have d9 : wr.cell? ⟨b, off + k * 10 + 9, none⟩ = some (.slice B9 m9 e9) := by simpa using z 9 _ rfl
      have HD := Lib.hid (all_drop ((Nd.vw f).R) kds k hlt)
      clear z hel hcell hvl hR hg
      clear hR'
      go_wp2_with fail
      refine HX.out.mono ?_
      rintro e w1 ⟨he, hb1⟩
      have HB1 := Lib.hid (HB.out.trans (hb1.mono HB.out.size))
      clear hb1 y9 d0 d1 d2 d3 d4 d5 d6 d7 d8 d9
      cases hq : (Nd.vw f).R kds[k]
      · rw [hq] at he
        subst he
        have HQ := Lib.hid hq
        clear hq
        go_wp2_with fail
        go_ret
        exact ⟨ret_bool (by rw [HL.out, ← HF.out, HD.out, HQ.out]; rfl), HBW.out.trans (HB1.out.mono HBW.out.size)⟩
      · rw [hq] at he
        subst he
        have HQ := Lib.hid hq
        clear hq
        go_wp2_with fail
        go_roundw
        case rel => exact ⟨k + 1, by omega, by go_num, by rw [← HF.out, HD.out, HQ.out]; rfl, HB1.out⟩
        case measure => simp only [intOf]; omega
    · have HE := Lib.hid (all_end ((Nd.vw f).R) kds k (by omega))
      go_wp2_with fail
      go_ret
      exact ⟨ret_bool (by rw [HL.out, ← HF.out, HE.out]), HBW.out.trans (HB.out.mono HBW.out.size)⟩
set_option maxRecDepth 100000 in
set_option maxHeartbeats 4000000 in
theorem nops_r (f : Nat) (many : Nat) (G : Nat → Prop) (w : World) (vs : List Value) (x : NdF (Nd f)) (hG : ∀ k, G k → k < w.heap.size) (hv : NdV (f + 1) G w vs x) :
    Calls Tryz.prog 100 #[ag vs, .int .i64 (many : Nat)] w fun e w' => e = .returned (.bool (opsB many x)) ∧ Below w.heap.size w w' := by
  obtain ⟨ky, s, nt, ni, ops, asg, wds, rds, ars, kds⟩ := x
  obtain ⟨A4, c4, A5, c5, A6, c6, A7, c7, A8, c8, A9, c9, rfl, hns, hal, hl4, hl5, hl6, hl7, hl8, hl9, hso, hsa, hsw, hsr, hsm, hsk⟩ := NdV.open hv
  have HSO := Lib.hid hso; have HSA := Lib.hid hsa; have HSW := Lib.hid hsw; have HSR := Lib.hid hsr; have HSM := Lib.hid hsm; have HSK := Lib.hid hsk
  clear hso hsa hsw hsr hsm hsk hv
  show Calls Tryz.prog 100 #[.agg #[.int .i64 ky, .string s, .bool nt, .bool ni, .slice A4 ops.length c4, .slice A5 asg.length c5, .slice A6 wds.length c6, .slice A7 rds.length c7, .slice A8 ars.length c8, .slice A9 kds.length c9], .int .i64 (many : Nat)] w _
  have hbw : Below w.heap.size w (w.alloc (.cells #[.int .i64 ky, .string s, .bool nt, .bool ni, .slice A4 ops.length c4, .slice A5 asg.length c5, .slice A6 wds.length c6, .slice A7 rds.length c7, .slice A8 ars.length c8, .slice A9 kds.length c9] 28)) := (Below.refl _ _).alloc (Nat.le_refl _) _
  have hb0 := heap_alloc_t w (.cells #[.int .i64 ky, .string s, .bool nt, .bool ni, .slice A4 ops.length c4, .slice A5 asg.length c5, .slice A6 wds.length c6, .slice A7 rds.length c7, .slice A8 ars.length c8, .slice A9 kds.length c9] 28)
  generalize hW : w.alloc (.cells #[.int .i64 ky, .string s, .bool nt, .bool ni, .slice A4 ops.length c4, .slice A5 asg.length c5, .slice A6 wds.length c6, .slice A7 rds.length c7, .slice A8 ars.length c8, .slice A9 kds.length c9] 28) = W at *
  have x0 : W.cell? ⟨w.heap.size, 0, none⟩ = some (.int .i64 ky) := by simp [World.cell?, hb0]
  have x1 : W.cell? ⟨w.heap.size, 1, none⟩ = some (.string s) := by simp [World.cell?, hb0]
  have x2 : W.cell? ⟨w.heap.size, 2, none⟩ = some (.bool nt) := by simp [World.cell?, hb0]
  have x3 : W.cell? ⟨w.heap.size, 3, none⟩ = some (.bool ni) := by simp [World.cell?, hb0]
  have x4 : W.cell? ⟨w.heap.size, 4, none⟩ = some (.slice A4 ops.length c4) := by simp [World.cell?, hb0]
  have x5 : W.cell? ⟨w.heap.size, 5, none⟩ = some (.slice A5 asg.length c5) := by simp [World.cell?, hb0]
  have x6 : W.cell? ⟨w.heap.size, 6, none⟩ = some (.slice A6 wds.length c6) := by simp [World.cell?, hb0]
  have x7 : W.cell? ⟨w.heap.size, 7, none⟩ = some (.slice A7 rds.length c7) := by simp [World.cell?, hb0]
  have x8 : W.cell? ⟨w.heap.size, 8, none⟩ = some (.slice A8 ars.length c8) := by simp [World.cell?, hb0]
  have x9 : W.cell? ⟨w.heap.size, 9, none⟩ = some (.slice A9 kds.length c9) := by simp [World.cell?, hb0]
  have HGW := Lib.hid (old_of hG hbw)
  have HBW := Lib.hid hbw; have HG := Lib.hid hG
  clear hbw hb0 hG
  have HOP := Lib.hid (show opsB many (NdF.mk ky s nt ni ops asg wds rds ars kds) = ((ops.all fun k => (k == 1) || (k == 2)) && (ops.length == many)) by rw [opsB, Bool.and_comm])
  go_enter Tryz.func100, Tryz.ntmps100
  go_wp2_with fail
  go_loop [5] (fun i => ∃ (k : Nat), k ≤ ops.length ∧ i = .int .i64 k ∧ ((ops.drop k).all fun k => (k == 1) || (k == 2)) = (ops.all fun k => (k == 1) || (k == 2))) (fun i => ops.length - (intOf i).toNat)
  case atStart => exact ⟨0, by omega, rfl, rfl⟩
  case round =>
    obtain ⟨k, hk, rfl, hf⟩ := hrel
    have HF := Lib.hid hf
    clear hf
    by_cases hlt : k < ops.length
    · obtain ⟨A, c, hA, _, _, hel⟩ := HSO.out.onI HG.out HBW.out
      injection hA with hA1 _ hA2
      subst hA1 hA2
      obtain ⟨b, off, rfl, hg, hel⟩ := hel (by omega)
      obtain ⟨vs, hvl, hR, hcell⟩ := hel k hlt
      obtain rfl : vs = [.int .i64 ops[k]] := hR
      have z0 : W.cell? ⟨b, off + k, none⟩ = some (.int .i64 ops[k]) := by simpa using hcell 0 _ rfl
      have HD := Lib.hid (all_drop (fun k : Int => (k == 1) || (k == 2)) ops k hlt)
      clear hel hcell hvl hg
      generalize ops[k] = o at *
      cases h1 : (o == 1)
      · have h1' : (o != 1) = true := by rw [bne, h1]; rfl
        cases h2 : (o == 2)
        · have h2' : (o != 2) = true := by rw [bne, h2]; rfl
          have HQ := Lib.hid h1; have HQ2 := Lib.hid h2
          clear h1 h2
          go_wp2_with fail
          go_ret
          exact ⟨ret_bool (by rw [HOP.out, ← HF.out, HD.out, HQ.out, HQ2.out]; rfl), HBW.out⟩
        · have h2' : (o != 2) = false := by rw [bne, h2]; rfl
          have HQ := Lib.hid h1; have HQ2 := Lib.hid h2
          clear h1 h2
          go_wp2_with fail
          go_round
          case rel => exact ⟨k + 1, by omega, by go_num, by rw [← HF.out, HD.out, HQ.out, HQ2.out]; rfl⟩
          case measure => simp only [intOf]; omega
      · have h1' : (o != 1) = false := by rw [bne, h1]; rfl
        have HQ := Lib.hid h1
        clear h1
        go_wp2_with fail
        go_round
        case rel => exact ⟨k + 1, by omega, by go_num, by rw [← HF.out, HD.out, HQ.out]; rfl⟩
        case measure => simp only [intOf]; omega
    · have HE := Lib.hid (all_end (fun k : Int => (k == 1) || (k == 2)) ops k (by omega))
      have HCA := Lib.hid (show ((ops.length : Int) == (many : Int)) = (ops.length == many) from by
        by_cases h : ops.length = many
        · rw [beq_iff_eq.2 h, beq_iff_eq.2 (by omega)]
        · rw [beq_false_of_ne h, beq_false_of_ne (by omega)])
      go_wp2_with fail
      go_ret
      exact ⟨ret_bool (by rw [HOP.out, ← HF.out, HE.out, Bool.true_and]; first | rfl | exact HCA.out), HBW.out⟩
theorem len_pos {β : Type} {l : List β} (h : decide (0 < l.length) = true) : ((l.length : Int) == 0) = false ∧ (l.length == 0) = false := by
  have := of_decide_eq_true h
  exact ⟨beq_false_of_ne (by omega), beq_false_of_ne (by omega)⟩
theorem len_zero {β : Type} {l : List β} (h : decide (0 < l.length) = false) : ((l.length : Int) == 0) = true ∧ (l.length == 0) = true := by
  have := of_decide_eq_false h
  exact ⟨beq_iff_eq.2 (by omega), beq_iff_eq.2 (by omega)⟩
set_option maxRecDepth 100000 in
set_option maxHeartbeats 4000000 in
theorem empty_r (f : Nat) (f1 f2 f3 f4 f5 f6 : Bool) (G : Nat → Prop) (w : World) (vs : List Value) (x : NdF (Nd f)) (hG : ∀ k, G k → k < w.heap.size) (hv : NdV (f + 1) G w vs x) :
    Calls Tryz.prog 98 #[ag vs, .bool f1, .bool f2, .bool f3, .bool f4, .bool f5, .bool f6] w fun e w' => e = .returned (.bool (emptyB f1 f2 f3 f4 f5 f6 x.name x.ops x.assigns x.words x.redirs x.arms)) ∧ Below w.heap.size w w' := by
  obtain ⟨ky, s, nt, ni, ops, asg, wds, rds, ars, kds⟩ := x
  obtain ⟨A4, c4, A5, c5, A6, c6, A7, c7, A8, c8, A9, c9, rfl, hns, hal, hl4, hl5, hl6, hl7, hl8, hl9, hso, hsa, hsw, hsr, hsm, hsk⟩ := NdV.open hv
  have HSO := Lib.hid hso; have HSA := Lib.hid hsa; have HSW := Lib.hid hsw; have HSR := Lib.hid hsr; have HSM := Lib.hid hsm; have HSK := Lib.hid hsk
  clear hso hsa hsw hsr hsm hsk hv
  show Calls Tryz.prog 98 #[.agg #[.int .i64 ky, .string s, .bool nt, .bool ni, .slice A4 ops.length c4, .slice A5 asg.length c5, .slice A6 wds.length c6, .slice A7 rds.length c7, .slice A8 ars.length c8, .slice A9 kds.length c9], .bool f1, .bool f2, .bool f3, .bool f4, .bool f5, .bool f6] w _
  have hbw : Below w.heap.size w (w.alloc (.cells #[.int .i64 ky, .string s, .bool nt, .bool ni, .slice A4 ops.length c4, .slice A5 asg.length c5, .slice A6 wds.length c6, .slice A7 rds.length c7, .slice A8 ars.length c8, .slice A9 kds.length c9] 28)) := (Below.refl _ _).alloc (Nat.le_refl _) _
  have hb0 := heap_alloc_t w (.cells #[.int .i64 ky, .string s, .bool nt, .bool ni, .slice A4 ops.length c4, .slice A5 asg.length c5, .slice A6 wds.length c6, .slice A7 rds.length c7, .slice A8 ars.length c8, .slice A9 kds.length c9] 28)
  generalize hW : w.alloc (.cells #[.int .i64 ky, .string s, .bool nt, .bool ni, .slice A4 ops.length c4, .slice A5 asg.length c5, .slice A6 wds.length c6, .slice A7 rds.length c7, .slice A8 ars.length c8, .slice A9 kds.length c9] 28) = W at *
  have x0 : W.cell? ⟨w.heap.size, 0, none⟩ = some (.int .i64 ky) := by simp [World.cell?, hb0]
  have x1 : W.cell? ⟨w.heap.size, 1, none⟩ = some (.string s) := by simp [World.cell?, hb0]
  have x2 : W.cell? ⟨w.heap.size, 2, none⟩ = some (.bool nt) := by simp [World.cell?, hb0]
  have x3 : W.cell? ⟨w.heap.size, 3, none⟩ = some (.bool ni) := by simp [World.cell?, hb0]
  have x4 : W.cell? ⟨w.heap.size, 4, none⟩ = some (.slice A4 ops.length c4) := by simp [World.cell?, hb0]
  have x5 : W.cell? ⟨w.heap.size, 5, none⟩ = some (.slice A5 asg.length c5) := by simp [World.cell?, hb0]
  have x6 : W.cell? ⟨w.heap.size, 6, none⟩ = some (.slice A6 wds.length c6) := by simp [World.cell?, hb0]
  have x7 : W.cell? ⟨w.heap.size, 7, none⟩ = some (.slice A7 rds.length c7) := by simp [World.cell?, hb0]
  have x8 : W.cell? ⟨w.heap.size, 8, none⟩ = some (.slice A8 ars.length c8) := by simp [World.cell?, hb0]
  have x9 : W.cell? ⟨w.heap.size, 9, none⟩ = some (.slice A9 kds.length c9) := by simp [World.cell?, hb0]
  have HGW := Lib.hid (old_of hG hbw)
  have HBW := Lib.hid hbw; have HG := Lib.hid hG
  clear hbw hb0 hG
  clear HSO HSA HSW HSR HSM HSK HG HGW
  simp only
  go_enter Tryz.func98, Tryz.ntmps98
  go_upto_region 1 with fail
  go_cut [38] (fun v wx => v = .bool (rS f1 s.toList.isEmpty || (rL f2 (decide (0 < ops.length)) || rL f3 (decide (0 < asg.length)))) ∧ W = wx)
  case first =>
    cases f1
    case false =>
      cases f2
      case false =>
        cases f3
        case false =>
          go_wp2_with fail
          go_meet
          exact ⟨by simp only [rS, rL]; rfl, rfl⟩
        cases q3 : decide (0 < asg.length)
        case true =>
          go_wp2_with fail
          go_meet
          exact ⟨by simp only [rS, rL, q3]; rfl, rfl⟩
        go_wp2_with fail
        go_meet
        exact ⟨by simp only [rS, rL, q3]; rfl, rfl⟩
      cases q2 : decide (0 < ops.length)
      case true =>
        go_wp2_with fail
        go_meet
        exact ⟨by simp only [rS, rL, q2]; rfl, rfl⟩
      cases f3
      case false =>
        go_wp2_with fail
        go_meet
        exact ⟨by simp only [rS, rL, q2]; rfl, rfl⟩
      cases q3 : decide (0 < asg.length)
      case true =>
        go_wp2_with fail
        go_meet
        exact ⟨by simp only [rS, rL, q2, q3]; rfl, rfl⟩
      go_wp2_with fail
      go_meet
      exact ⟨by simp only [rS, rL, q2, q3]; rfl, rfl⟩
    cases q1 : s.toList.isEmpty
    case false =>
      go_wp2_with fail
      go_meet
      exact ⟨by simp only [rS, rL, q1]; rfl, rfl⟩
    cases f2
    case false =>
      cases f3
      case false =>
        go_wp2_with fail
        go_meet
        exact ⟨by simp only [rS, rL, q1]; rfl, rfl⟩
      cases q3 : decide (0 < asg.length)
      case true =>
        go_wp2_with fail
        go_meet
        exact ⟨by simp only [rS, rL, q1, q3]; rfl, rfl⟩
      go_wp2_with fail
      go_meet
      exact ⟨by simp only [rS, rL, q1, q3]; rfl, rfl⟩
    cases q2 : decide (0 < ops.length)
    case true =>
      go_wp2_with fail
      go_meet
      exact ⟨by simp only [rS, rL, q1, q2]; rfl, rfl⟩
    cases f3
    case false =>
      go_wp2_with fail
      go_meet
      exact ⟨by simp only [rS, rL, q1, q2]; rfl, rfl⟩
    cases q3 : decide (0 < asg.length)
    case true =>
      go_wp2_with fail
      go_meet
      exact ⟨by simp only [rS, rL, q1, q2, q3]; rfl, rfl⟩
    go_wp2_with fail
    go_meet
    exact ⟨by simp only [rS, rL, q1, q2, q3]; rfl, rfl⟩
  case rest =>
    obtain ⟨rfl, rfl⟩ := hcut
    cases hE : (rS f1 s.toList.isEmpty || (rL f2 (decide (0 < ops.length)) || rL f3 (decide (0 < asg.length))))
    case true =>
      have HE1 := Lib.hid hE; clear hE
      go_wp2_with fail
      go_ret
      exact ⟨ret_bool (by rw [emptyB, HE1.out]; rfl), HBW.out⟩
    have HE1 := Lib.hid hE; clear hE
    cases f4
    case false =>
      cases f5
      case false =>
        cases f6
        case false =>
          go_wp2_with fail
          go_ret
          exact ⟨ret_bool (by rw [emptyB, HE1.out]; simp only [rL]; rfl), HBW.out⟩
        cases q6 : decide (0 < ars.length)
        case true =>
          have e6 := len_pos q6
          go_wp2_with fail
          go_ret
          exact ⟨ret_bool (by rw [emptyB, HE1.out]; simp only [rL, q6]; rfl), HBW.out⟩
        have e6 := len_zero q6
        go_wp2_with fail
        go_ret
        exact ⟨ret_bool (by rw [emptyB, HE1.out]; simp only [rL, q6]; rfl), HBW.out⟩
      cases q5 : decide (0 < rds.length)
      case true =>
        have e5 := len_pos q5
        go_wp2_with fail
        go_ret
        exact ⟨ret_bool (by rw [emptyB, HE1.out]; simp only [rL, q5]; rfl), HBW.out⟩
      have e5 := len_zero q5
      cases f6
      case false =>
        go_wp2_with fail
        go_ret
        exact ⟨ret_bool (by rw [emptyB, HE1.out]; simp only [rL, q5]; rfl), HBW.out⟩
      cases q6 : decide (0 < ars.length)
      case true =>
        have e6 := len_pos q6
        go_wp2_with fail
        go_ret
        exact ⟨ret_bool (by rw [emptyB, HE1.out]; simp only [rL, q5, q6]; rfl), HBW.out⟩
      have e6 := len_zero q6
      go_wp2_with fail
      go_ret
      exact ⟨ret_bool (by rw [emptyB, HE1.out]; simp only [rL, q5, q6]; rfl), HBW.out⟩
    cases q4 : decide (0 < wds.length)
    case true =>
      have e4 := len_pos q4
      go_wp2_with fail
      go_ret
      exact ⟨ret_bool (by rw [emptyB, HE1.out]; simp only [rL, q4]; rfl), HBW.out⟩
    have e4 := len_zero q4
    cases f5
    case false =>
      cases f6
      case false =>
        go_wp2_with fail
        go_ret
        exact ⟨ret_bool (by rw [emptyB, HE1.out]; simp only [rL, q4]; rfl), HBW.out⟩
      cases q6 : decide (0 < ars.length)
      case true =>
        have e6 := len_pos q6
        go_wp2_with fail
        go_ret
        exact ⟨ret_bool (by rw [emptyB, HE1.out]; simp only [rL, q4, q6]; rfl), HBW.out⟩
      have e6 := len_zero q6
      go_wp2_with fail
      go_ret
      exact ⟨ret_bool (by rw [emptyB, HE1.out]; simp only [rL, q4, q6]; rfl), HBW.out⟩
    cases q5 : decide (0 < rds.length)
    case true =>
      have e5 := len_pos q5
      go_wp2_with fail
      go_ret
      exact ⟨ret_bool (by rw [emptyB, HE1.out]; simp only [rL, q4, q5]; rfl), HBW.out⟩
    have e5 := len_zero q5
    cases f6
    case false =>
      go_wp2_with fail
      go_ret
      exact ⟨ret_bool (by rw [emptyB, HE1.out]; simp only [rL, q4, q5]; rfl), HBW.out⟩
    cases q6 : decide (0 < ars.length)
    case true =>
      have e6 := len_pos q6
      go_wp2_with fail
      go_ret
      exact ⟨ret_bool (by rw [emptyB, HE1.out]; simp only [rL, q4, q5, q6]; rfl), HBW.out⟩
    have e6 := len_zero q6
    go_wp2_with fail
    go_ret
    exact ⟨ret_bool (by rw [emptyB, HE1.out]; simp only [rL, q4, q5, q6]; rfl), HBW.out⟩
end Go.Proofs.YtjpopekmbmcggaaGreatDoor
