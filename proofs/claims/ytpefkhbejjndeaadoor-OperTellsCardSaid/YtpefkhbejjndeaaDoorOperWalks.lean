/- The operators' functions, walked: what the program's and the reference's functions compute (the plain functions of OperPlain). -/
import Derived.Test.YtpefkhbejjndeaaDoorBase
import Derived.Test.YtpefkhbejjndeaaDoorOperPlain
import Derived.Test.YtpefkhbejjndeaaDoorOperPlain2
import Derived.BigQuiet
import Derived.Deep.QuietTactic
namespace Go.Proofs.YtpefkhbejjndeaaDoor
open Go.RowKit

def textVals : Array Value := (Ope.texts.map bs).toArray
def TextsAt (w : World) : Prop := ∃ t fr, w.heap[0]? = some (.cells textVals t fr)

theorem TextsAt.below {w w' : World} (h : TextsAt w) (hb : Below w.heap.size w w') : TextsAt w' := by
  obtain ⟨t, fr, hg⟩ := h
  exact ⟨t, fr, (hb.block 0 (Array.getElem?_eq_some_iff.1 hg).1).trans hg⟩

theorem idx_text : ∀ (k : Nat) (_ : k < 18) (w : World), (Instr.index 32 (.agg textVals) (.int .i64 (k : Int))).run Tryd.prog w = .ok (bs (Ope.txt k)) w
  | 0, _, w => by kernel_rfl
  | 1, _, w => by kernel_rfl
  | 2, _, w => by kernel_rfl
  | 3, _, w => by kernel_rfl
  | 4, _, w => by kernel_rfl
  | 5, _, w => by kernel_rfl
  | 6, _, w => by kernel_rfl
  | 7, _, w => by kernel_rfl
  | 8, _, w => by kernel_rfl
  | 9, _, w => by kernel_rfl
  | 10, _, w => by kernel_rfl
  | 11, _, w => by kernel_rfl
  | 12, _, w => by kernel_rfl
  | 13, _, w => by kernel_rfl
  | 14, _, w => by kernel_rfl
  | 15, _, w => by kernel_rfl
  | 16, _, w => by kernel_rfl
  | 17, _, w => by kernel_rfl
  | k + 18, h, _ => absurd h (by omega)

theorem cell_text (k : Nat) (h : k < 18) {w : World} (ht : TextsAt w) : w.cell? ⟨0, k, none⟩ = some (bs (Ope.txt k)) := by
  obtain ⟨t, fr, hg⟩ := ht
  rw [cell_of_row w 0 k textVals t fr hg]
  have : ∀ k : Fin 18, textVals[k.val]? = some (bs (Ope.txt k.val)) := fun k => by
    unfold textVals Ope.txt
    have hl : k.val < Ope.texts.length := by simp [Ope.texts]
    simp [List.getD, List.getElem?_eq_getElem hl]
  exact this ⟨k, h⟩

set_option maxHeartbeats 400000 in
theorem redir_p (op : Int) (w : World) : Calls Tryd.prog 17 #[.int .i64 op] w fun e w' => e = .returned (.bool (Ope.redir op)) ∧ w = w' := by
  go_enter Tryd.func17, Tryd.ntmps17
  go_wp2
  all_goals go_ret
  · exact ⟨ret_bool (by have h : 9 ≤ op := by assumption
                        simp [Ope.redir, h]), rfl⟩
  · exact ⟨ret_bool (by have h : op < 9 := by assumption
                        simp [Ope.redir]; omega), rfl⟩
set_option maxHeartbeats 400000 in
theorem redir_r (op : Int) (w : World) : Calls Tryd.prog 18 #[.int .i64 op] w fun e w' => e = .returned (.bool (Ope.redir op)) ∧ w = w' := by
  go_enter Tryd.func18, Tryd.ntmps18
  go_wp2
  all_goals go_ret
  · exact ⟨ret_bool (by have h : 9 ≤ op := by assumption
                        simp [Ope.redir, h]), rfl⟩
  · exact ⟨ret_bool (by have h : op < 9 := by assumption
                        simp [Ope.redir]; omega), rfl⟩

set_option maxHeartbeats 400000 in
theorem text_p (op : Int) (w : World) (ht : TextsAt w) : Calls Tryd.prog 6 #[.int .i64 op] w fun e w' => e = .returned (bs (Ope.txtI op)) ∧ w = w' := by
  by_cases h0 : op < 0
  · go_enter Tryd.func6, Tryd.ntmps6
    go_wp2
    go_ret
    exact ⟨by rw [Ope.txtI, if_pos h0]; rfl, rfl⟩
  · by_cases h1 : 18 ≤ op
    · go_enter Tryd.func6, Tryd.ntmps6
      go_wp2
      go_ret
      refine ⟨?_, rfl⟩
      rw [Ope.txtI, if_neg (by omega), Ope.txt, List.getD_eq_getElem?_getD, List.getElem?_eq_none (by simp [Ope.texts]; omega)]
      rfl
    · obtain ⟨k, rfl⟩ : ∃ k : Nat, op = k := ⟨op.toNat, by omega⟩
      have hc := cell_text k (by omega) ht
      unfold bs at hc
      go_enter Tryd.func6, Tryd.ntmps6
      go_wp2
      go_ret
      refine ⟨?_, rfl⟩
      rw [Ope.txtI, if_neg (by omega)]
      rfl

theorem txtI_at (k : Nat) : Ope.txtI (k : Int) = Ope.txt k := by rw [Ope.txtI, if_neg (by omega), Int.toNat_natCast]

set_option maxHeartbeats 400000 in
theorem text_r (op : Int) (w : World) : Calls Tryd.prog 7 #[.int .i64 op] w fun e w' => e = .returned (bs (Ope.txtI op)) ∧ w = w' := by
  go_enter Tryd.func7, Tryd.ntmps7
  go_wp2
  all_goals go_ret
  all_goals refine ⟨?_, rfl⟩
  all_goals first
    | (obtain rfl : op = 1 := by simpa using ‹(op == 1) = true›
       rfl)
    | (obtain rfl : op = 2 := by simpa using ‹(op == 2) = true›
       rfl)
    | (obtain rfl : op = 3 := by simpa using ‹(op == 3) = true›
       rfl)
    | (obtain rfl : op = 4 := by simpa using ‹(op == 4) = true›
       rfl)
    | (obtain rfl : op = 5 := by simpa using ‹(op == 5) = true›
       rfl)
    | (obtain rfl : op = 6 := by simpa using ‹(op == 6) = true›
       rfl)
    | (obtain rfl : op = 7 := by simpa using ‹(op == 7) = true›
       rfl)
    | (obtain rfl : op = 8 := by simpa using ‹(op == 8) = true›
       rfl)
    | (obtain rfl : op = 9 := by simpa using ‹(op == 9) = true›
       rfl)
    | (obtain rfl : op = 10 := by simpa using ‹(op == 10) = true›
       rfl)
    | (obtain rfl : op = 11 := by simpa using ‹(op == 11) = true›
       rfl)
    | (obtain rfl : op = 12 := by simpa using ‹(op == 12) = true›
       rfl)
    | (obtain rfl : op = 13 := by simpa using ‹(op == 13) = true›
       rfl)
    | (obtain rfl : op = 14 := by simpa using ‹(op == 14) = true›
       rfl)
    | (obtain rfl : op = 15 := by simpa using ‹(op == 15) = true›
       rfl)
    | (obtain rfl : op = 16 := by simpa using ‹(op == 16) = true›
       rfl)
    | (obtain rfl : op = 17 := by simpa using ‹(op == 17) = true›
       rfl)
    | skip
  have h : ∀ k : Nat, k < 18 → k ≠ 0 → op ≠ k := by
    intro k hk h0 e
    subst e
    have hc : k = 1 ∨ k = 2 ∨ k = 3 ∨ k = 4 ∨ k = 5 ∨ k = 6 ∨ k = 7 ∨ k = 8 ∨ k = 9 ∨ k = 10 ∨ k = 11 ∨ k = 12 ∨ k = 13 ∨ k = 14 ∨ k = 15 ∨ k = 16 ∨ k = 17 := by omega
    rcases hc with rfl | rfl | rfl | rfl | rfl | rfl | rfl | rfl | rfl | rfl | rfl | rfl | rfl | rfl | rfl | rfl | rfl <;> simp_all
  have e : Ope.txtI op = [] := by
    unfold Ope.txtI
    split
    · rfl
    · by_cases h1 : op < 18
      · obtain ⟨k, rfl⟩ : ∃ k : Nat, op = k := ⟨op.toNat, by omega⟩
        have : k = 0 := by
          rcases Nat.eq_zero_or_pos k with h0 | h0
          · exact h0
          · exact absurd rfl (h k (by omega) (by omega))
        subst this
        rfl
      · rw [Ope.txt, List.getD_eq_getElem?_getD, List.getElem?_eq_none (by simp [Ope.texts]; omega)]
        rfl
  rw [e]
  rfl

set_option maxHeartbeats 400000 in
theorem find_p (s : ByteArray) (w : World) (ht : TextsAt w) : Calls Tryd.prog 8 #[.string s] w fun e w' => e = .returned (.int .i64 (Ope.find s.toList)) ∧ w = w' := by
  obtain ⟨t, fr, hg⟩ := ht
  go_enter Tryd.func8, Tryd.ntmps8
  go_wp2_with (refine wpList_load_row rfl 32 _ rfl 0 rfl t _ fr _ hg Tryd.underlying32 rfl (by kernel_rfl) ?_)
  clear hg
  go_loop [6] (fun i => ∃ k : Nat, k ≤ 18 ∧ i = .int .i64 k ∧ Ope.findFrom s.toList k (18 - k) = Ope.find s.toList) (fun i => 18 - (intOf i).toNat)
  case atStart => exact ⟨0, by omega, rfl, Ope.find_zero _⟩
  case round =>
    obtain ⟨k, hk, rfl, hf⟩ := hrel
    have H := Lib.hid hf; clear hf
    by_cases hlt : k < 18
    · have hi := idx_text k hlt w
      unfold bs at hi
      obtain ⟨m, hm⟩ : ∃ m, 18 - k = m + 1 := ⟨17 - k, by omega⟩
      have hm2 : 18 - (k + 1) = m := by omega
      have HM := Lib.hid hm; have HM2 := Lib.hid hm2; clear hm hm2
      cases he : Ope.txt k == s.toList
      · go_wp2
        go_round
        case rel =>
          refine ⟨k + 1, by omega, by go_num, ?_⟩
          have h := H.out
          rw [HM.out, Ope.findFrom, he] at h
          rw [HM2.out]
          exact h
        case measure => simp only [intOf]; omega
      · go_wp2
        go_ret
        refine ⟨ret_int ?_, rfl⟩
        have h := H.out
        rw [HM.out, Ope.findFrom, he, if_pos rfl] at h
        rw [← h]
    · obtain rfl : k = 18 := by omega
      go_wp2
      go_ret
      refine ⟨ret_int ?_, rfl⟩
      rw [← H.out]
      rfl

set_option maxHeartbeats 400000 in
theorem find_r (s : ByteArray) (w : World) : Calls Tryd.prog 9 #[.string s] w fun e w' => e = .returned (.int .i64 (Ope.find s.toList)) ∧ w = w' := by
  go_enter Tryd.func9, Tryd.ntmps9
  go_wp2_with fail
  go_loop [3] (fun i => ∃ k : Nat, 1 ≤ k ∧ k ≤ 18 ∧ i = .int .i64 k ∧ Ope.findFrom s.toList k (18 - k) = Ope.find s.toList) (fun i => 18 - (intOf i).toNat)
  case atStart => exact ⟨1, by omega, by omega, rfl, rfl⟩
  case round =>
    obtain ⟨k, h1, hk, rfl, hf⟩ := hrel
    have H := Lib.hid hf; clear hf
    by_cases hlt : k < 18
    · obtain ⟨m, hm⟩ : ∃ m, 18 - k = m + 1 := ⟨17 - k, by omega⟩
      have hm2 : 18 - (k + 1) = m := by omega
      have HM := Lib.hid hm; have HM2 := Lib.hid hm2; clear hm hm2
      cases he : Ope.txt k == s.toList
      · go_wp2_with (go_at_call 7; refine (text_r _ _).mono ?_; rintro e w' ⟨rfl, rfl⟩; rw [txtI_at]; unfold bs)
        go_round
        case rel =>
          refine ⟨k + 1, by omega, by omega, by go_num, ?_⟩
          have h := H.out
          rw [HM.out, Ope.findFrom, he] at h
          rw [HM2.out]
          exact h
        case measure => simp only [intOf]; omega
      · go_wp2_with (go_at_call 7; refine (text_r _ _).mono ?_; rintro e w' ⟨rfl, rfl⟩; rw [txtI_at]; unfold bs)
        go_ret
        refine ⟨ret_int ?_, rfl⟩
        have h := H.out
        rw [HM.out, Ope.findFrom, he, if_pos rfl] at h
        rw [← h]
    · obtain rfl : k = 18 := by omega
      go_wp2_with fail
      go_ret
      refine ⟨ret_int ?_, rfl⟩
      rw [← H.out]
      rfl
end Go.Proofs.YtpefkhbejjndeaaDoor
