/- Towards nodeJoins_card: NdSum. Merged from smaller texts by a program of the author's. -/
import Derived.Test.YtjpopekmbmcggaaGreatDoorJ20
namespace Go.Proofs.YtjpopekmbmcggaaGreatDoor
open Go.RowKit
def FnCt {β : Type} (R : World → List Value → β → Prop) (w : World) (fn : Nat) (cap : Array Value) (C : β → Nat) : Prop :=
  ∀ X, Below w.heap.size w X → ∀ vs x, R X vs x → C x ≤ 1073741824 → Calls Tryz.prog fn (#[ag vs] ++ cap) X fun e w' => e = .returned (.int .i64 (C x : Nat)) ∧ Below X.heap.size X w'
theorem tot_drop {β : Type} (C : β → Nat) : ∀ (xs : List β) (k : Nat) (h : k < xs.length), tot C (xs.drop k) = C xs[k] + tot C (xs.drop (k + 1)) := by
  intro xs k h
  rw [drop_one xs k h, tot]
theorem tot_end {β : Type} (C : β → Nat) (xs : List β) (k : Nat) (h : xs.length ≤ k) : tot C (xs.drop k) = 0 := by rw [List.drop_eq_nil_of_le h, tot]
def PCt (f : Nat) : Prop := ∀ (G : Nat → Prop) (w : World) (vs : List Value) (x : Nd f), (∀ k, G k → k < w.heap.size) → NdV f G w vs x → Nd.count f x ≤ 1073741824 →
  Calls Tryz.prog 19 #[ag vs] w fun e w' => e = .returned (.int .i64 (Nd.count f x : Nat)) ∧ Below w.heap.size w w'
set_option maxRecDepth 100000 in
set_option maxHeartbeats 4000000 in
theorem sum_node (f : Nat) (G : Nat → Prop) (fn : Nat) (cap : Array Value) (C : Nd f → Nat) (v : Value) (xs : List (Nd f)) (w : World) (hG : ∀ k, G k → k < w.heap.size) (hs : SlAt G w 10 (NdV f G w) v xs) (hent : Enters fn) (hst : FnCt (NdV f G) w fn cap C) (hbd : tot C xs ≤ 1073741824) :
    Calls Tryz.prog 51 #[.func (.func fn) #[] cap, v] w fun e w' => e = .returned (.int .i64 (tot C xs : Nat)) ∧ Below w.heap.size w w' := by
  obtain ⟨A, c, rfl, hl, hm, hc⟩ := hs
  unfold maxLen at hm
  have HC := Lib.hid hc; have HG := Lib.hid hG; have HE := Lib.hid hent; have HST := Lib.hid hst
  clear hc hG hent hst
  go_enter Tryz.func51, Tryz.ntmps51
  go_wp2_with fail
  go_loopw [5, 10] (fun n i wr => ∃ (k a : Nat), k ≤ xs.length ∧ i = .int .i64 k ∧ n = .int .i64 a ∧ a + tot C (xs.drop k) = tot C xs ∧ Below w.heap.size w wr) (fun _ i _ => xs.length - (intOf i).toNat)
  case atStart => exact ⟨0, 0, by omega, rfl, rfl, by rw [List.drop_zero]; omega, Below.refl _ _⟩
  case round =>
    obtain ⟨k, a, hk, rfl, rfl, hf, hb⟩ := hrel
    have HB := Lib.hid hb
    clear hb
    by_cases hlt : k < xs.length
    · obtain ⟨b, off, rfl, hg, hel⟩ := HC.out (by omega)
      obtain ⟨vs, hvl, hR, hcell⟩ := hel k hlt
      have hR' := hR.below HG.out HB.out
      obtain ⟨ky, s, nt, ni, A4, n4, c4, A5, n5, c5, A6, n6, c6, A7, n7, c7, A8, n8, c8, A9, n9, c9, rfl⟩ := hR'.shape
      have z := fun j u hj => (keep_of HG.out HB.out _ hg).trans (hcell j u hj)
      have d0 : wr.cell? ⟨b, off + k * 10, none⟩ = some (.int .i64 ky) := by simpa using z 0 _ rfl
      have d1 : wr.cell? ⟨b, off + k * 10 + 1, none⟩ = some (.string s) := by simpa using z 1 _ rfl
      have d2 : wr.cell? ⟨b, off + k * 10 + 2, none⟩ = some (.bool nt) := by simpa using z 2 _ rfl
      have d3 : wr.cell? ⟨b, off + k * 10 + 3, none⟩ = some (.bool ni) := by simpa using z 3 _ rfl
      have d4 : wr.cell? ⟨b, off + k * 10 + 4, none⟩ = some (.slice A4 n4 c4) := by simpa using z 4 _ rfl
      have d5 : wr.cell? ⟨b, off + k * 10 + 5, none⟩ = some (.slice A5 n5 c5) := by simpa using z 5 _ rfl
      have d6 : wr.cell? ⟨b, off + k * 10 + 6, none⟩ = some (.slice A6 n6 c6) := by simpa using z 6 _ rfl
      have d7 : wr.cell? ⟨b, off + k * 10 + 7, none⟩ = some (.slice A7 n7 c7) := by simpa using z 7 _ rfl
      have d8 : wr.cell? ⟨b, off + k * 10 + 8, none⟩ = some (.slice A8 n8 c8) := by simpa using z 8 _ rfl
      have d9 : wr.cell? ⟨b, off + k * 10 + 9, none⟩ = some (.slice A9 n9 c9) := by simpa using z 9 _ rfl
      have hD := tot_drop C xs k hlt
      have hbr := (Below.refl wr.heap.size wr).alloc (Nat.le_refl _) (.cells #[.int .i64 ky, .string s, .bool nt, .bool ni, .slice A4 n4 c4, .slice A5 n5 c5, .slice A6 n6 c6, .slice A7 n7 c7, .slice A8 n8 c8, .slice A9 n9 c9] 28)
      have hbx := heap_alloc_t wr (.cells #[.int .i64 ky, .string s, .bool nt, .bool ni, .slice A4 n4 c4, .slice A5 n5 c5, .slice A6 n6 c6, .slice A7 n7 c7, .slice A8 n8 c8, .slice A9 n9 c9] 28)
      have x0 := box_at hbx _ (Below.refl _ _) 0 _ rfl
      have x1 := box_at hbx _ (Below.refl _ _) 1 _ rfl
      have x2 := box_at hbx _ (Below.refl _ _) 2 _ rfl
      have x3 := box_at hbx _ (Below.refl _ _) 3 _ rfl
      have x4 := box_at hbx _ (Below.refl _ _) 4 _ rfl
      have x5 := box_at hbx _ (Below.refl _ _) 5 _ rfl
      have x6 := box_at hbx _ (Below.refl _ _) 6 _ rfl
      have x7 := box_at hbx _ (Below.refl _ _) 7 _ rfl
      have x8 := box_at hbx _ (Below.refl _ _) 8 _ rfl
      have x9 := box_at hbx _ (Below.refl _ _) 9 _ rfl
      have HX := Lib.hid (HST.out _ (HB.out.trans (hbr.mono HB.out.size)) _ _ (hR'.below (old_of HG.out HB.out) hbr) (show C xs[k] ≤ 1073741824 by omega))
      have HBR := Lib.hid (HB.out.trans (hbr.mono HB.out.size))
      have HS := Lib.hid (show a + C xs[k] + tot C (xs.drop (k + 1)) = tot C xs by omega)
      have h1 : a + C xs[k] ≤ 1073741824 := by omega
      clear z hel hcell hvl hR hR' hg hbr hbx hf hD
      generalize C xs[k] = cx at *
      go_wp2_with fail
      rw [HE.out, Oper.upon_enter]
      refine HX.out.mono ?_
      rintro e w1 ⟨rfl, hb1⟩
      have HB1 := Lib.hid (HBR.out.trans (hb1.mono HBR.out.size))
      clear hb1 x0 d0 x1 d1 x2 d2 x3 d3 x4 d4 x5 d5 x6 d6 x7 d7 x8 d8 x9 d9
      go_wp2_with fail
      go_roundw
      case rel => exact ⟨k + 1, a + cx, by omega, by go_num, by go_num, HS.out, HB1.out⟩
      case measure => simp only [intOf]; omega
    · have HT := Lib.hid (show a = tot C xs by rw [List.drop_eq_nil_of_le (by omega), tot] at hf; omega)
      clear hf
      go_wp2_with fail
      go_ret
      exact ⟨ret_int (by rw [HT.out]), HB.out⟩
set_option maxRecDepth 100000 in
set_option maxHeartbeats 4000000 in
theorem sum_redir (f : Nat) (G : Nat → Prop) (fn : Nat) (cap : Array Value) (C : RdF (Nd f) → Nat) (v : Value) (xs : List (RdF (Nd f))) (w : World) (hG : ∀ k, G k → k < w.heap.size) (hs : SlAt G w 4 (RdN f G w) v xs) (hent : Enters fn) (hst : FnCt (RdN f G) w fn cap C) (hbd : tot C xs ≤ 1073741824) :
    Calls Tryz.prog 54 #[.func (.func fn) #[] cap, v] w fun e w' => e = .returned (.int .i64 (tot C xs : Nat)) ∧ Below w.heap.size w w' := by
  obtain ⟨A, c, rfl, hl, hm, hc⟩ := hs
  unfold maxLen at hm
  have HC := Lib.hid hc; have HG := Lib.hid hG; have HE := Lib.hid hent; have HST := Lib.hid hst
  clear hc hG hent hst
  go_enter Tryz.func54, Tryz.ntmps54
  go_wp2_with fail
  go_loopw [5, 10] (fun n i wr => ∃ (k a : Nat), k ≤ xs.length ∧ i = .int .i64 k ∧ n = .int .i64 a ∧ a + tot C (xs.drop k) = tot C xs ∧ Below w.heap.size w wr) (fun _ i _ => xs.length - (intOf i).toNat)
  case atStart => exact ⟨0, 0, by omega, rfl, rfl, by rw [List.drop_zero]; omega, Below.refl _ _⟩
  case round =>
    obtain ⟨k, a, hk, rfl, rfl, hf, hb⟩ := hrel
    have HB := Lib.hid hb
    clear hb
    by_cases hlt : k < xs.length
    · obtain ⟨b, off, rfl, hg, hel⟩ := HC.out (by omega)
      obtain ⟨vs, hvl, hR, hcell⟩ := hel k hlt
      have hR' := hR.below HG.out HB.out
      obtain ⟨s, o, A2, n2, c2, sh, rfl⟩ := hR'.shape
      have z := fun j u hj => (keep_of HG.out HB.out _ hg).trans (hcell j u hj)
      have d0 : wr.cell? ⟨b, off + k * 4, none⟩ = some (.string s) := by simpa using z 0 _ rfl
      have d1 : wr.cell? ⟨b, off + k * 4 + 1, none⟩ = some (.int .i64 o) := by simpa using z 1 _ rfl
      have d2 : wr.cell? ⟨b, off + k * 4 + 2, none⟩ = some (.slice A2 n2 c2) := by simpa using z 2 _ rfl
      have d3 : wr.cell? ⟨b, off + k * 4 + 3, none⟩ = some (.string sh) := by simpa using z 3 _ rfl
      have hD := tot_drop C xs k hlt
      have hbr := (Below.refl wr.heap.size wr).alloc (Nat.le_refl _) (.cells #[.string s, .int .i64 o, .slice A2 n2 c2, .string sh] 33)
      have hbx := heap_alloc_t wr (.cells #[.string s, .int .i64 o, .slice A2 n2 c2, .string sh] 33)
      have x0 := box_at hbx _ (Below.refl _ _) 0 _ rfl
      have x1 := box_at hbx _ (Below.refl _ _) 1 _ rfl
      have x2 := box_at hbx _ (Below.refl _ _) 2 _ rfl
      have x3 := box_at hbx _ (Below.refl _ _) 3 _ rfl
      have HX := Lib.hid (HST.out _ (HB.out.trans (hbr.mono HB.out.size)) _ _ (hR'.below (old_of HG.out HB.out) hbr) (show C xs[k] ≤ 1073741824 by omega))
      have HBR := Lib.hid (HB.out.trans (hbr.mono HB.out.size))
      have HS := Lib.hid (show a + C xs[k] + tot C (xs.drop (k + 1)) = tot C xs by omega)
      have h1 : a + C xs[k] ≤ 1073741824 := by omega
      clear z hel hcell hvl hR hR' hg hbr hbx hf hD
      generalize C xs[k] = cx at *
      go_wp2_with fail
      rw [HE.out, Oper.upon_enter]
      refine HX.out.mono ?_
      rintro e w1 ⟨rfl, hb1⟩
      have HB1 := Lib.hid (HBR.out.trans (hb1.mono HBR.out.size))
      clear hb1 x0 d0 x1 d1 x2 d2 x3 d3
      go_wp2_with fail
      go_roundw
      case rel => exact ⟨k + 1, a + cx, by omega, by go_num, by go_num, HS.out, HB1.out⟩
      case measure => simp only [intOf]; omega
    · have HT := Lib.hid (show a = tot C xs by rw [List.drop_eq_nil_of_le (by omega), tot] at hf; omega)
      clear hf
      go_wp2_with fail
      go_ret
      exact ⟨ret_int (by rw [HT.out]), HB.out⟩
set_option maxRecDepth 100000 in
set_option maxHeartbeats 4000000 in
theorem sum_word (f : Nat) (G : Nat → Prop) (fn : Nat) (cap : Array Value) (C : WdF (Nd f) → Nat) (v : Value) (xs : List (WdF (Nd f))) (w : World) (hG : ∀ k, G k → k < w.heap.size) (hs : SlAt G w 1 (WdN f G w) v xs) (hent : Enters fn) (hst : FnCt (WdN f G) w fn cap C) (hbd : tot C xs ≤ 1073741824) :
    Calls Tryz.prog 52 #[.func (.func fn) #[] cap, v] w fun e w' => e = .returned (.int .i64 (tot C xs : Nat)) ∧ Below w.heap.size w w' := by
  obtain ⟨A, c, rfl, hl, hm, hc⟩ := hs
  unfold maxLen at hm
  have HC := Lib.hid hc; have HG := Lib.hid hG; have HE := Lib.hid hent; have HST := Lib.hid hst
  clear hc hG hent hst
  go_enter Tryz.func52, Tryz.ntmps52
  go_wp2_with fail
  go_loopw [5, 10] (fun n i wr => ∃ (k a : Nat), k ≤ xs.length ∧ i = .int .i64 k ∧ n = .int .i64 a ∧ a + tot C (xs.drop k) = tot C xs ∧ Below w.heap.size w wr) (fun _ i _ => xs.length - (intOf i).toNat)
  case atStart => exact ⟨0, 0, by omega, rfl, rfl, by rw [List.drop_zero]; omega, Below.refl _ _⟩
  case round =>
    obtain ⟨k, a, hk, rfl, rfl, hf, hb⟩ := hrel
    have HB := Lib.hid hb
    clear hb
    by_cases hlt : k < xs.length
    · obtain ⟨b, off, rfl, hg, hel⟩ := HC.out (by omega)
      obtain ⟨vs, hvl, hR, hcell⟩ := hel k hlt
      have hR' := hR.below HG.out HB.out
      obtain ⟨A0, n0, c0, rfl⟩ := hR'.shape
      have z := fun j u hj => (keep_of HG.out HB.out _ hg).trans (hcell j u hj)
      have d0 : wr.cell? ⟨b, off + k, none⟩ = some (.slice A0 n0 c0) := by simpa using z 0 _ rfl
      have hD := tot_drop C xs k hlt
      have hbr := (Below.refl wr.heap.size wr).alloc (Nat.le_refl _) (.cells #[.slice A0 n0 c0] 31)
      have hbx := heap_alloc_t wr (.cells #[.slice A0 n0 c0] 31)
      have x0 := box_at hbx _ (Below.refl _ _) 0 _ rfl
      have HX := Lib.hid (HST.out _ (HB.out.trans (hbr.mono HB.out.size)) _ _ (hR'.below (old_of HG.out HB.out) hbr) (show C xs[k] ≤ 1073741824 by omega))
      have HBR := Lib.hid (HB.out.trans (hbr.mono HB.out.size))
      have HS := Lib.hid (show a + C xs[k] + tot C (xs.drop (k + 1)) = tot C xs by omega)
      have h1 : a + C xs[k] ≤ 1073741824 := by omega
      clear z hel hcell hvl hR hR' hg hbr hbx hf hD
      generalize C xs[k] = cx at *
      go_wp2_with fail
      rw [HE.out, Oper.upon_enter]
      refine HX.out.mono ?_
      rintro e w1 ⟨rfl, hb1⟩
      have HB1 := Lib.hid (HBR.out.trans (hb1.mono HBR.out.size))
      clear hb1 x0 d0
      go_wp2_with fail
      go_roundw
      case rel => exact ⟨k + 1, a + cx, by omega, by go_num, by go_num, HS.out, HB1.out⟩
      case measure => simp only [intOf]; omega
    · have HT := Lib.hid (show a = tot C xs by rw [List.drop_eq_nil_of_le (by omega), tot] at hf; omega)
      clear hf
      go_wp2_with fail
      go_ret
      exact ⟨ret_int (by rw [HT.out]), HB.out⟩
set_option maxRecDepth 100000 in
set_option maxHeartbeats 4000000 in
theorem sum_arm (f : Nat) (G : Nat → Prop) (fn : Nat) (cap : Array Value) (C : ArF (Nd f) → Nat) (v : Value) (xs : List (ArF (Nd f))) (w : World) (hG : ∀ k, G k → k < w.heap.size) (hs : SlAt G w 11 (ArN f G w) v xs) (hent : Enters fn) (hst : FnCt (ArN f G) w fn cap C) (hbd : tot C xs ≤ 1073741824) :
    Calls Tryz.prog 56 #[.func (.func fn) #[] cap, v] w fun e w' => e = .returned (.int .i64 (tot C xs : Nat)) ∧ Below w.heap.size w w' := by
  obtain ⟨A, c, rfl, hl, hm, hc⟩ := hs
  unfold maxLen at hm
  have HC := Lib.hid hc; have HG := Lib.hid hG; have HE := Lib.hid hent; have HST := Lib.hid hst
  clear hc hG hent hst
  go_enter Tryz.func56, Tryz.ntmps56
  go_wp2_with fail
  go_loopw [5, 10] (fun n i wr => ∃ (k a : Nat), k ≤ xs.length ∧ i = .int .i64 k ∧ n = .int .i64 a ∧ a + tot C (xs.drop k) = tot C xs ∧ Below w.heap.size w wr) (fun _ i _ => xs.length - (intOf i).toNat)
  case atStart => exact ⟨0, 0, by omega, rfl, rfl, by rw [List.drop_zero]; omega, Below.refl _ _⟩
  case round =>
    obtain ⟨k, a, hk, rfl, rfl, hf, hb⟩ := hrel
    have HB := Lib.hid hb
    clear hb
    by_cases hlt : k < xs.length
    · obtain ⟨b, off, rfl, hg, hel⟩ := HC.out (by omega)
      obtain ⟨vs, hvl, hR, hcell⟩ := hel k hlt
      have hR' := hR.below HG.out HB.out
      obtain ⟨A0, n0, c0, ky, s, nt, ni, A14, n14, c14, A15, n15, c15, A16, n16, c16, A17, n17, c17, A18, n18, c18, A19, n19, c19, rfl⟩ := hR'.shape
      have z := fun j u hj => (keep_of HG.out HB.out _ hg).trans (hcell j u hj)
      have d0 : wr.cell? ⟨b, off + k * 11, none⟩ = some (.slice A0 n0 c0) := by simpa using z 0 _ rfl
      have d1 : wr.cell? ⟨b, off + k * 11 + 1, none⟩ = some (.int .i64 ky) := by simpa using z 1 _ rfl
      have d2 : wr.cell? ⟨b, off + k * 11 + 2, none⟩ = some (.string s) := by simpa using z 2 _ rfl
      have d3 : wr.cell? ⟨b, off + k * 11 + 3, none⟩ = some (.bool nt) := by simpa using z 3 _ rfl
      have d4 : wr.cell? ⟨b, off + k * 11 + 4, none⟩ = some (.bool ni) := by simpa using z 4 _ rfl
      have d5 : wr.cell? ⟨b, off + k * 11 + 5, none⟩ = some (.slice A14 n14 c14) := by simpa using z 5 _ rfl
      have d6 : wr.cell? ⟨b, off + k * 11 + 6, none⟩ = some (.slice A15 n15 c15) := by simpa using z 6 _ rfl
      have d7 : wr.cell? ⟨b, off + k * 11 + 7, none⟩ = some (.slice A16 n16 c16) := by simpa using z 7 _ rfl
      have d8 : wr.cell? ⟨b, off + k * 11 + 8, none⟩ = some (.slice A17 n17 c17) := by simpa using z 8 _ rfl
      have d9 : wr.cell? ⟨b, off + k * 11 + 9, none⟩ = some (.slice A18 n18 c18) := by simpa using z 9 _ rfl
      have d10 : wr.cell? ⟨b, off + k * 11 + 10, none⟩ = some (.slice A19 n19 c19) := by simpa using z 10 _ rfl
      have hD := tot_drop C xs k hlt
      have hbr := (Below.refl wr.heap.size wr).alloc (Nat.le_refl _) (.cells #[.slice A0 n0 c0, .int .i64 ky, .string s, .bool nt, .bool ni, .slice A14 n14 c14, .slice A15 n15 c15, .slice A16 n16 c16, .slice A17 n17 c17, .slice A18 n18 c18, .slice A19 n19 c19] 54)
      have hbx := heap_alloc_t wr (.cells #[.slice A0 n0 c0, .int .i64 ky, .string s, .bool nt, .bool ni, .slice A14 n14 c14, .slice A15 n15 c15, .slice A16 n16 c16, .slice A17 n17 c17, .slice A18 n18 c18, .slice A19 n19 c19] 54)
      have x0 := box_at hbx _ (Below.refl _ _) 0 _ rfl
      have x1 := box_at hbx _ (Below.refl _ _) 1 _ rfl
      have x2 := box_at hbx _ (Below.refl _ _) 2 _ rfl
      have x3 := box_at hbx _ (Below.refl _ _) 3 _ rfl
      have x4 := box_at hbx _ (Below.refl _ _) 4 _ rfl
      have x5 := box_at hbx _ (Below.refl _ _) 5 _ rfl
      have x6 := box_at hbx _ (Below.refl _ _) 6 _ rfl
      have x7 := box_at hbx _ (Below.refl _ _) 7 _ rfl
      have x8 := box_at hbx _ (Below.refl _ _) 8 _ rfl
      have x9 := box_at hbx _ (Below.refl _ _) 9 _ rfl
      have x10 := box_at hbx _ (Below.refl _ _) 10 _ rfl
      have HX := Lib.hid (HST.out _ (HB.out.trans (hbr.mono HB.out.size)) _ _ (hR'.below (old_of HG.out HB.out) hbr) (show C xs[k] ≤ 1073741824 by omega))
      have HBR := Lib.hid (HB.out.trans (hbr.mono HB.out.size))
      have HS := Lib.hid (show a + C xs[k] + tot C (xs.drop (k + 1)) = tot C xs by omega)
      have h1 : a + C xs[k] ≤ 1073741824 := by omega
      clear z hel hcell hvl hR hR' hg hbr hbx hf hD
      generalize C xs[k] = cx at *
      go_wp2_with fail
      rw [HE.out, Oper.upon_enter]
      refine HX.out.mono ?_
      rintro e w1 ⟨rfl, hb1⟩
      have HB1 := Lib.hid (HBR.out.trans (hb1.mono HBR.out.size))
      clear hb1 x0 d0 x1 d1 x2 d2 x3 d3 x4 d4 x5 d5 x6 d6 x7 d7 x8 d8 x9 d9 x10 d10
      go_wp2_with fail
      go_roundw
      case rel => exact ⟨k + 1, a + cx, by omega, by go_num, by go_num, HS.out, HB1.out⟩
      case measure => simp only [intOf]; omega
    · have HT := Lib.hid (show a = tot C xs by rw [List.drop_eq_nil_of_le (by omega), tot] at hf; omega)
      clear hf
      go_wp2_with fail
      go_ret
      exact ⟨ret_int (by rw [HT.out]), HB.out⟩
set_option maxRecDepth 100000 in
set_option maxHeartbeats 4000000 in
theorem inside_p (f : Nat) (ih : PCt f) (G : Nat → Prop) (w : World) (vs : List Value) (x : WdF (Nd f)) (hG : ∀ k, G k → k < w.heap.size) (hv : WdN f G w vs x) (hbd : insideN (Nd.count f) x ≤ 1073741824) :
    Calls Tryz.prog 53 #[ag vs] w fun e w' => e = .returned (.int .i64 (insideN (Nd.count f) x : Nat)) ∧ Below w.heap.size w w' := by
  obtain ⟨A, n, c, rfl⟩ := hv.shape
  have hb0 : Below w.heap.size w (w.alloc (.cells #[.slice A n c] 31)) := (Below.refl _ _).alloc (Nat.le_refl _) _
  have q0 := cell_one (heap_alloc_t w (.cells #[.slice A n c] 31))
  have HG1 := Lib.hid (old_of hG hb0)
  obtain ⟨rfl, hnc, hcm, hwt, hpt, -⟩ := hv.cmds
  have HP := Lib.hid (hpt.old hG hb0)
  have HV := Lib.hid hv; have HG := Lib.hid hG; have IH := Lib.hid ih; have HB0 := Lib.hid hb0
  have HX2 := Lib.hid (cmds_p x.p A c G _ hwt HG1.out HP.out)
  clear hb0 hpt hv hG ih
  unfold insideN at *
  show Calls Tryz.prog 53 #[.agg #[.slice A x.p.len c]] w _
  go_enter Tryz.func53, Tryz.ntmps53
  go_wp2_with fail
  refine HX2.out.mono ?_
  rintro e w2 ⟨v, rfl, hcr, hb2⟩
  have HB2 := Lib.hid (HB0.out.trans (hb2.mono HB0.out.size))
  obtain ⟨A2, c2, rfl, hl2, hm2, hk2⟩ := hcr.look
  have HK := Lib.hid hk2
  have HLN := Lib.hid (show x.p.cmds.length = x.cmds.length from (HV.out.cmds).2.2.2.2.2.len)
  unfold maxLen at hm2
  clear hb2 hcr hk2 q0
  go_wp2_with fail
  go_loopw [3, 11] (fun n i wr => ∃ (k a : Nat), k ≤ x.p.cmds.length ∧ i = .int .i64 k ∧ n = .int .i64 a ∧ a + tot (tot (Nd.count f)) (x.cmds.drop k) = tot (tot (Nd.count f)) x.cmds ∧ Below w2.heap.size w2 wr) (fun _ i _ => x.p.cmds.length - (intOf i).toNat)
  case atStart => exact ⟨0, 0, by omega, rfl, rfl, by rw [List.drop_zero]; omega, Below.refl _ _⟩
  case round =>
    obtain ⟨k, a, hk, rfl, rfl, hf, hb⟩ := hrel
    have HB := Lib.hid hb
    by_cases hlt : k < x.p.cmds.length
    · obtain ⟨g, rfl, z0⟩ := HK.out k hlt
      have hbw := HB2.out.trans (hb.mono HB2.out.size)
      have hlt2 : k < x.cmds.length := by rw [← HLN.out]; exact hlt
      have hs := ((HV.out.below HG.out hbw).cmds).2.2.2.2.2.get k hlt hlt2
      obtain ⟨A3, c3, hv3, hl3, hm3, hk3⟩ := hs
      have z1 : wr.cell? ⟨g, k, none⟩ = some (.slice A3 (x.cmds[k]).length c3) := by rw [← hv3]; exact (World.cell?_of_block (hb.block g (cell_lt z0))).trans z0
      have hD := tot_drop (tot (Nd.count f)) x.cmds k hlt2
      have HK3 := Lib.hid hk3
      have HBW := Lib.hid hbw
      have HS := Lib.hid (show a + tot (Nd.count f) x.cmds[k] + tot (tot (Nd.count f)) (x.cmds.drop (k + 1)) = tot (tot (Nd.count f)) x.cmds by omega)
      have h1 : a + tot (Nd.count f) x.cmds[k] ≤ 1073741824 := by omega
      unfold maxLen at hm3
      clear z0 hk3 hv3 hb hbw hf hD
      obtain ⟨wo, rfl⟩ : ∃ wo : World, wo = wr := ⟨_, rfl⟩
      generalize x.cmds[k] = ys at *
      go_wp2_with fail
      go_loopw [3, 17] (fun n i wx => ∃ (j a2 : Nat), j ≤ ys.length ∧ i = .int .i64 j ∧ n = .int .i64 a2 ∧ a2 + tot (Nd.count f) (ys.drop j) = a + tot (Nd.count f) ys ∧ Below wo.heap.size wo wx) (fun _ i _ => ys.length - (intOf i).toNat)
      case atStart => exact ⟨0, a, by omega, rfl, rfl, by rw [List.drop_zero], Below.refl _ _⟩
      case round =>
        obtain ⟨j, a2, hj, rfl, rfl, hf2, hbx⟩ := hrel
        have HBO := Lib.hid hbx
        clear z1
        by_cases hlt3 : j < ys.length
        · obtain ⟨b, off, rfl, hg, hel⟩ := HK3.out (by omega)
          obtain ⟨vs, hvl, hR, hcell⟩ := hel j hlt3
          have hG3 : ∀ m, G m → m < wo.heap.size := old_of HG.out HBW.out
          have hR' := hR.below hG3 hbx
          obtain ⟨ky, s, nt, ni, A4, n4, c4, A5, n5, c5, A6, n6, c6, A7, n7, c7, A8, n8, c8, A9, n9, c9, rfl⟩ := hR'.shape
          have z := fun j u hj => (keep_of hG3 hbx _ hg).trans (hcell j u hj)
          have d0 : wr.cell? ⟨b, off + j * 10, none⟩ = some (.int .i64 ky) := by simpa using z 0 _ rfl
          have d1 : wr.cell? ⟨b, off + j * 10 + 1, none⟩ = some (.string s) := by simpa using z 1 _ rfl
          have d2 : wr.cell? ⟨b, off + j * 10 + 2, none⟩ = some (.bool nt) := by simpa using z 2 _ rfl
          have d3 : wr.cell? ⟨b, off + j * 10 + 3, none⟩ = some (.bool ni) := by simpa using z 3 _ rfl
          have d4 : wr.cell? ⟨b, off + j * 10 + 4, none⟩ = some (.slice A4 n4 c4) := by simpa using z 4 _ rfl
          have d5 : wr.cell? ⟨b, off + j * 10 + 5, none⟩ = some (.slice A5 n5 c5) := by simpa using z 5 _ rfl
          have d6 : wr.cell? ⟨b, off + j * 10 + 6, none⟩ = some (.slice A6 n6 c6) := by simpa using z 6 _ rfl
          have d7 : wr.cell? ⟨b, off + j * 10 + 7, none⟩ = some (.slice A7 n7 c7) := by simpa using z 7 _ rfl
          have d8 : wr.cell? ⟨b, off + j * 10 + 8, none⟩ = some (.slice A8 n8 c8) := by simpa using z 8 _ rfl
          have d9 : wr.cell? ⟨b, off + j * 10 + 9, none⟩ = some (.slice A9 n9 c9) := by simpa using z 9 _ rfl
          have hbr := (Below.refl wr.heap.size wr).alloc (Nat.le_refl _) (.cells #[.int .i64 ky, .string s, .bool nt, .bool ni, .slice A4 n4 c4, .slice A5 n5 c5, .slice A6 n6 c6, .slice A7 n7 c7, .slice A8 n8 c8, .slice A9 n9 c9] 28)
          have hby := heap_alloc_t wr (.cells #[.int .i64 ky, .string s, .bool nt, .bool ni, .slice A4 n4 c4, .slice A5 n5 c5, .slice A6 n6 c6, .slice A7 n7 c7, .slice A8 n8 c8, .slice A9 n9 c9] 28)
          have x0 := box_at hby _ (Below.refl _ _) 0 _ rfl
          have x1 := box_at hby _ (Below.refl _ _) 1 _ rfl
          have x2 := box_at hby _ (Below.refl _ _) 2 _ rfl
          have x3 := box_at hby _ (Below.refl _ _) 3 _ rfl
          have x4 := box_at hby _ (Below.refl _ _) 4 _ rfl
          have x5 := box_at hby _ (Below.refl _ _) 5 _ rfl
          have x6 := box_at hby _ (Below.refl _ _) 6 _ rfl
          have x7 := box_at hby _ (Below.refl _ _) 7 _ rfl
          have x8 := box_at hby _ (Below.refl _ _) 8 _ rfl
          have x9 := box_at hby _ (Below.refl _ _) 9 _ rfl
          have hD2 := tot_drop (Nd.count f) ys j hlt3
          have HC := Lib.hid (IH.out G _ _ _ (old_of (old_of hG3 hbx) hbr) (hR'.below (old_of hG3 hbx) hbr) (show Nd.count f ys[j] ≤ 1073741824 by omega))
          have HBR := Lib.hid (hbx.trans (hbr.mono hbx.size))
          have HS2 := Lib.hid (show a2 + Nd.count f ys[j] + tot (Nd.count f) (ys.drop (j + 1)) = a + tot (Nd.count f) ys by omega)
          have h2 : a2 + Nd.count f ys[j] ≤ 1073741824 := by omega
          clear z hel hcell hvl hR hR' hg hG3 hbx hbr hby hf2 hD2
          generalize Nd.count f ys[j] = cx at *
          go_wp2_with fail
          refine HC.out.mono ?_
          rintro e w4 ⟨rfl, hb4⟩
          have HB4 := Lib.hid (HBR.out.trans (hb4.mono HBR.out.size))
          clear hb4 d0 d1 d2 d3 d4 d5 d6 d7 d8 d9 x0 x1 x2 x3 x4 x5 x6 x7 x8 x9
          go_wp2_with fail
          go_roundw
          case rel => exact ⟨j + 1, a2 + cx, by omega, by go_num, by go_num, HS2.out, HB4.out⟩
          case measure => simp only [intOf]; omega
        · have HE := Lib.hid (show a2 = a + tot (Nd.count f) ys by rw [tot_end _ _ _ (by omega)] at hf2; omega)
          clear hbx hf2
          go_wp2_with fail
          go_roundw
          case rel => exact ⟨k + 1, a2, by omega, by go_num, rfl, by rw [HE.out]; exact HS.out, HB.out.trans (HBO.out.mono HB.out.size)⟩
          case measure => simp only [intOf]; omega
    · have HE := Lib.hid (show a = tot (tot (Nd.count f)) x.cmds by rw [tot_end _ _ _ (by rw [← HLN.out]; omega)] at hf; omega)
      clear hb hf
      go_wp2_with fail
      go_ret
      exact ⟨ret_int (by rw [HE.out]), HB2.out.trans (HB.out.mono HB2.out.size)⟩
theorem enter_inside : Enters 53 := fun args w => by simp [callFunc, go_sem, Tryz.func53, Tryz.f53]
theorem ct_inside {f : Nat} {G : Nat → Prop} {w : World} (ih : PCt f) (hG : ∀ k, G k → k < w.heap.size) : FnCt (WdN f G) w 53 #[] (insideN (Nd.count f)) := fun X hX vs y hy hb => by
  rw [Array.append_empty]; exact inside_p f ih G X vs y (old_of hG hX) hy hb
end Go.Proofs.YtjpopekmbmcggaaGreatDoor
