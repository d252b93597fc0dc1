/- Whole, two lists of numbers compared, awake. -/
import Derived.Test.YtpefkhbejjndeaaDoorOperLong
namespace Go.Proofs.YtpefkhbejjndeaaDoor
open Go.RowKit

theorem eq_one (n : Nat) : (((n : Nat) : Int) == 1) = (n == 1) := by
  by_cases h : n = 1
  · subst h; rfl
  · rw [beq_eq_false_iff_ne.2 h, beq_eq_false_iff_ne.2 (by omega)]
theorem ne_zero (n : Nat) : (((n : Nat) : Int) != 0) = (n != 0) := by
  by_cases h : n = 0
  · subst h; rfl
  · rw [bne_iff_ne.2 h, bne_iff_ne.2 (by omega)]

def BoolBelow (b : Bool) (w : World) (e : Ending) (w' : World) : Prop := e = .returned (.bool b) ∧ Below w.heap.size w w'

set_option maxHeartbeats 1000000 in
theorem whole_p (s : ByteArray) (w : World) (ht : TextsAt w) : Calls Tryd.prog 15 #[.string s] w (BoolBelow (Ope.whole s.toList) w) := by
  cases h0 : s.toList.isEmpty
  · cases h1 : ((Ope.find s.toList : Int) != 0)
    · go_enter Tryd.func15, Tryd.ntmps15
      go_wp2_with (go_at_call 8; refine (find_p _ _ ht).mono ?_; rintro e w' ⟨rfl, rfl⟩)
      go_ret
      refine ⟨ret_bool ?_, Below.refl _ _⟩
      rw [ne_zero] at h1
      rw [Ope.whole, h1]; rfl
    · cases h2 : (((Ope.more s.toList).length : Int) == 1)
      all_goals
        go_enter Tryd.func15, Tryd.ntmps15
        go_wp2_with (first
          | (go_at_call 8; refine (find_p _ _ ht).mono ?_; rintro e w' ⟨rfl, rfl⟩)
          | (go_at_call 11; refine (more_p _ _ ht).mono ?_; rintro e w' ⟨A, c, rfl, _, _, hbel⟩))
        go_ret
        refine ⟨ret_bool ?_, hbel⟩
        rw [ne_zero] at h1
        rw [eq_one] at h2
        rw [Ope.whole, h1, h2]; rfl
  · go_enter Tryd.func15, Tryd.ntmps15
    go_wp2_with fail
    go_ret
    refine ⟨ret_bool ?_, Below.refl _ _⟩
    have : s.toList = [] := by simpa using h0
    rw [this]; rfl

theorem Row.at_nums {w : World} {B n : Nat} {A : Option Addr} {l : List Nat} (h : Row w B 1 A n (nums l)) {k : Nat} (hk : k < n) : ∃ ad, A = some ad ∧ w.cell? (ad.add k) = some (.int .i64 (l.getD k 0 : Nat)) := by
  obtain ⟨ad, u, e, _, hx, hc⟩ := h.at1 hk
  refine ⟨ad, e, ?_⟩
  rw [hc]
  have hl : k < l.length := by have := h.1; rw [nums_len] at this; omega
  simp [nums, List.getElem?_eq_getElem hl] at hx
  rw [← hx, List.getD_eq_getElem?_getD, List.getElem?_eq_getElem hl]
  rfl

set_option maxHeartbeats 1000000 in
theorem ints_r (l : List Nat) (A B : Option Addr) (c d : Nat) (w : World) (BA BB : Nat) (ha : Row w BA 1 A l.length (nums l)) (hb : Row w BB 1 B l.length (nums l)) (hl : l.length ≤ 1000) :
    Calls Tryd.prog 10 #[.slice A l.length c, .slice B l.length d] w (BoolBelow true w) := by
  go_enter Tryd.func10, Tryd.ntmps10
  go_wp2_with fail
  go_loopw [5] (fun i wr => ∃ (k : Nat), k ≤ l.length ∧ i = .int .i64 k ∧ ∃ n, wr = w.drewN n) (fun i _ => l.length - (intOf i).toNat)
  case atStart => exact ⟨0, by omega, rfl, 0, rfl⟩
  case round =>
    obtain ⟨k, hk, rfl, n, rfl⟩ := hrel
    by_cases hlt : k < l.length
    · obtain ⟨ad, rfl, hca⟩ := ha.at_nums hlt
      obtain ⟨bd, rfl, hcb⟩ := hb.at_nums hlt
      go_wp2_with fail
      go_quiet (fail)
      go_wp2_with fail
      go_roundw
      case rel => exact ⟨k + 1, by omega, by go_num, _, rfl⟩
      case measure => simp only [intOf]; omega
    · go_wp2_with fail
      go_ret
      exact ⟨rfl, belowN (Below.refl _ _) _⟩

set_option maxHeartbeats 1000000 in
theorem whole_r (s : ByteArray) (w : World) : Calls Tryd.prog 16 #[.string s] w (BoolBelow (Ope.whole s.toList) w) := by
  cases h1 : ((Ope.find s.toList : Int) != 0)
  · go_enter Tryd.func16, Tryd.ntmps16
    go_wp2_with (go_at_call 9; refine (find_r _ _).mono ?_; rintro e w' ⟨rfl, rfl⟩)
    go_ret
    refine ⟨ret_bool ?_, Below.refl _ _⟩
    rw [ne_zero] at h1
    rw [Ope.whole, h1]; rfl
  · cases h2 : (((Ope.more s.toList).length : Int) == 1)
    all_goals
      go_enter Tryd.func16, Tryd.ntmps16
      go_wp2_with (first
        | (go_at_call 9; refine (find_r _ _).mono ?_; rintro e w' ⟨rfl, rfl⟩)
        | (go_at_call 12; refine (more_r _ _).mono ?_; rintro e w' ⟨A, c, rfl, _, _, hbel⟩))
      go_ret
      refine ⟨ret_bool ?_, hbel⟩
      rw [ne_zero] at h1
      rw [eq_one] at h2
      rw [Ope.whole, h1, h2]; rfl

theorem lit_find (w : World) (ht : TextsAt w) : Calls Tryd.prog 8 #[.string ⟨#[38, 38]⟩] w fun e w' => e = .returned (.int .i64 1) ∧ w = w' := (find_p _ w ht).mono fun e w' h => by rw [list_mk] at h; exact h
theorem lit_text (w : World) (ht : TextsAt w) : Calls Tryd.prog 6 #[.int .i64 13] w fun e w' => e = .returned (.string ⟨#[60, 60, 45]⟩) ∧ w = w' := text_p _ w ht
theorem lit_more (w : World) (ht : TextsAt w) : Calls Tryd.prog 11 #[.string ⟨#[60, 60]⟩] w fun e w' => ∃ A c, e = .returned (.slice A 2 c) ∧ Below w.heap.size w w' :=
  (more_p _ w ht).mono fun e w' h => by
    obtain ⟨A, c, he, _, _, hb⟩ := h
    rw [list_mk] at he
    exact ⟨A, c, he, hb⟩
theorem lit_long (w : World) (ht : TextsAt w) : Calls Tryd.prog 13 #[.string ⟨#[60, 60, 60]⟩] w fun e w' => e = .returned (.int .i64 12) ∧ w = w' := (long_p _ w ht).mono fun e w' h => by rw [list_mk] at h; exact h
theorem lit_whole1 (w : World) (ht : TextsAt w) : Calls Tryd.prog 15 #[.string ⟨#[59, 59]⟩] w fun e w' => e = .returned (.bool true) ∧ Below w.heap.size w w' := (whole_p _ w ht).mono fun e w' h => by
  unfold BoolBelow at h; rw [list_mk] at h; exact h
theorem lit_whole2 (w : World) (ht : TextsAt w) : Calls Tryd.prog 15 #[.string ⟨#[59]⟩] w fun e w' => e = .returned (.bool false) ∧ Below w.heap.size w w' := (whole_p _ w ht).mono fun e w' h => by
  unfold BoolBelow at h; rw [list_mk] at h; exact h
theorem lit_redir (w : World) : Calls Tryd.prog 17 #[.int .i64 17] w fun e w' => e = .returned (.bool true) ∧ w = w' := redir_p _ w

set_option maxHeartbeats 1000000 in
theorem awake_p (w : World) (ht : TextsAt w) : Calls Tryd.prog 5 #[] w (BoolBelow true w) := by
  go_enter Tryd.func5, Tryd.ntmps5
  go_wp2_with fail
  refine (lit_text _ ht).mono ?_; rintro e w' ⟨rfl, rfl⟩
  go_wp2_with fail
  refine (lit_find _ ht).mono ?_; rintro e w' ⟨rfl, rfl⟩
  go_wp2_with fail
  refine (lit_more _ ht).mono ?_; rintro e w1 ⟨A, c, rfl, hb1⟩
  have ht1 := ht.below hb1
  go_wp2_with fail
  refine (lit_long _ ht1).mono ?_; rintro e w' ⟨rfl, rfl⟩
  go_wp2_with fail
  refine (lit_whole1 _ ht1).mono ?_; rintro e w2 ⟨rfl, hb2⟩
  have ht2 := ht1.below hb2
  go_wp2_with fail
  refine (lit_whole2 _ ht2).mono ?_; rintro e w3 ⟨rfl, hb3⟩
  go_wp2_with fail
  refine (lit_redir _).mono ?_; rintro e w' ⟨rfl, rfl⟩
  go_wp2_with fail
  go_ret
  exact ⟨rfl, (hb1.trans (hb2.mono hb1.size)).trans (hb3.mono (Nat.le_trans hb1.size hb2.size))⟩
end Go.Proofs.YtpefkhbejjndeaaDoor
