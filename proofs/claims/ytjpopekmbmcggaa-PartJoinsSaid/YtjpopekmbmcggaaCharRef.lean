/- Names, digits, plain texts, assignments: the program's Plain and Assign, and the reference's functions, walked. -/
import Derived.Test.YtjpopekmbmcggaaCharName
namespace Go.Proofs.Ytjpopekmbmcggaa
open Go.RowKit

theorem empty_size (s : ByteArray) : s.toList.isEmpty = decide (s.size = 0) := by
  rw [size_list]; cases s.toList <;> simp
theorem head_byte (s : ByteArray) (h : 0 < s.size) : (s.toList.headD 0).toNat = s[0].toNat := by
  have := get?_list s 0 h
  cases hl : s.toList with
  | nil => rw [hl] at this; simp at this
  | cons a r => rw [hl] at this; simp at this; rw [← this]; rfl
theorem plain_zero (s : ByteArray) (h : s.size = 0) : Chr.plain s.toList = false := by
  unfold Chr.plain; rw [empty_size, decide_eq_true h]; simp
theorem plain_pos (s : ByteArray) (h : 0 < s.size) : Chr.plain s.toList = (Chr.allFrom Chr.okPlain 0 s.toList && s[0].toNat != 35) := by
  unfold Chr.plain; rw [empty_size, decide_eq_false (by omega), head_byte s h]; simp
theorem ne_cast (a k : Nat) : (((a : Nat) : Int) != (k : Int)) = (a != k) := by
  by_cases h : a = k
  · rw [h]; simp
  · rw [bne_iff_ne.2 h, bne_iff_ne.2 (by omega)]
theorem cls_ne (c k : Nat) : (((Chr.cls c : Nat) : Int) != (k : Int)) = (Chr.cls c != k) := ne_cast _ _

set_option maxRecDepth 100000 in
set_option maxHeartbeats 1000000 in
theorem name_r (s : ByteArray) (w : World) (hm : s.size ≤ 9223372036854775807) : Calls Try.prog 53 #[.string s] w fun e w' => e = .returned (.bool (Chr.name s.toList)) ∧ w = w' := by
  have hfin : Chr.name s.toList = (Chr.allFrom Chr.okName 0 s.toList && decide (0 < s.size)) := by
    unfold Chr.name; rw [empty_size]; congr 1; by_cases h : s.size = 0 <;> simp [h]; omega
  have HN := Lib.hid hfin; clear hfin
  go_enter Try.func53, Try.ntmps53
  go_wp2_with fail
  go_loop [3, 4] (fun i _ => ∃ k : Nat, k ≤ s.size ∧ i = .int .i64 k ∧ Chr.allFrom Chr.okName k (s.toList.drop k) = Chr.allFrom Chr.okName 0 s.toList) (fun i _ => s.size - (intOf i).toNat)
  case atStart => exact ⟨0, by omega, rfl, rfl⟩
  case round =>
    obtain ⟨k, hk, rfl, hf⟩ := hrel
    by_cases hlt : k < s.size
    · rw [byte_step _ s k hlt] at hf
      have H := Lib.hid hf; clear hf
      have e4 : (((Chr.cls s[k].toNat : Nat) : Int) != 4) = (Chr.cls s[k].toNat != 4) := cls_ne _ 4
      have e3 : (((Chr.cls s[k].toNat : Nat) : Int) != 3) = (Chr.cls s[k].toNat != 3) := cls_ne _ 3
      have HP := Lib.hid (show Chr.okName k s[k].toNat = (!(Chr.cls s[k].toNat != 4) || !(Chr.cls s[k].toNat != 3) && decide (0 < k)) by unfold Chr.okName; simp [bne])
      rcases Nat.eq_zero_or_pos k with rfl | hi
      · skip
        cases h4 : Chr.cls s[0].toNat != 4 <;> cases h3 : Chr.cls s[0].toNat != 3
        all_goals
          rw [h4, h3] at HP
          rw [h3] at e3; rw [h4] at e4; clear h3 h4
          go_wp2_with (go_at_call 51; refine (class_r s[0].toNat (byte_lt s 0 hlt) _).mono ?_; rintro e w' ⟨rfl, rfl⟩)
          first
            | (go_ret
               refine ⟨ret_bool ?_, rfl⟩
               rw [HN.out, ← H.out, HP.out]; rfl)
            | (go_round
               case rel => exact ⟨0 + 1, by omega, by go_num, by rw [← H.out, HP.out]; rfl⟩
               case measure => simp only [intOf]; omega)
      · have hk0 : ((k : Int) == 0) = false := by rw [beq_eq_false_iff_ne]; omega
        rw [decide_eq_true hi] at HP
        cases h4 : Chr.cls s[k].toNat != 4 <;> cases h3 : Chr.cls s[k].toNat != 3
        all_goals
          rw [h4, h3] at HP
          rw [h3] at e3; rw [h4] at e4; clear h3 h4
          go_wp2_with (go_at_call 51; refine (class_r s[k].toNat (byte_lt s k hlt) _).mono ?_; rintro e w' ⟨rfl, rfl⟩)
          first
            | (go_ret
               refine ⟨ret_bool ?_, rfl⟩
               rw [HN.out, ← H.out, HP.out]; rfl)
            | (go_round
               case rel => exact ⟨k + 1, by omega, by go_num, by rw [← H.out, HP.out]; rfl⟩
               case measure => simp only [intOf]; omega)
    · rw [byte_end _ s k hlt] at hf
      have H := Lib.hid hf; clear hf
      go_wp2_with fail
      go_ret
      refine ⟨ret_bool ?_, rfl⟩
      rw [HN.out, ← H.out, Bool.true_and]

set_option maxRecDepth 100000 in
set_option maxHeartbeats 1000000 in
theorem digits_r (s : ByteArray) (w : World) (hm : s.size ≤ 9223372036854775807) : Calls Try.prog 54 #[.string s] w fun e w' => e = .returned (.bool (Chr.digits s.toList)) ∧ w = w' := by
  have hfin : Chr.digits s.toList = (Chr.allFrom Chr.okDigit 0 s.toList && decide (0 < s.size)) := by
    unfold Chr.digits; rw [empty_size]; congr 1; by_cases h : s.size = 0 <;> simp [h]; omega
  have HN := Lib.hid hfin; clear hfin
  go_enter Try.func54, Try.ntmps54
  go_wp2_with fail
  go_loop [3] (fun i => ∃ k : Nat, k ≤ s.size ∧ i = .int .i64 k ∧ Chr.allFrom Chr.okDigit k (s.toList.drop k) = Chr.allFrom Chr.okDigit 0 s.toList) (fun i => s.size - (intOf i).toNat)
  case atStart => exact ⟨0, by omega, rfl, rfl⟩
  case round =>
    obtain ⟨k, hk, rfl, hf⟩ := hrel
    by_cases hlt : k < s.size
    · rw [byte_step _ s k hlt] at hf
      have H := Lib.hid hf; clear hf
      have e3 : (((Chr.cls s[k].toNat : Nat) : Int) != 3) = (Chr.cls s[k].toNat != 3) := cls_ne _ 3
      have HP := Lib.hid (show Chr.okDigit k s[k].toNat = !(Chr.cls s[k].toNat != 3) by unfold Chr.okDigit; simp [bne])
      cases h3 : Chr.cls s[k].toNat != 3
      all_goals
        rw [h3] at e3 HP; clear h3
        go_wp2_with (go_at_call 51; refine (class_r s[k].toNat (byte_lt s k hlt) _).mono ?_; rintro e w' ⟨rfl, rfl⟩)
      · go_round
        case rel => exact ⟨k + 1, by omega, by go_num, by rw [← H.out, HP.out]; rfl⟩
        case measure => simp only [intOf]; omega
      · go_ret
        refine ⟨ret_bool ?_, rfl⟩
        rw [HN.out, ← H.out, HP.out]; rfl
    · rw [byte_end _ s k hlt] at hf
      have H := Lib.hid hf; clear hf
      go_wp2_with fail
      go_ret
      refine ⟨ret_bool ?_, rfl⟩
      rw [HN.out, ← H.out, Bool.true_and]

end Go.Proofs.Ytjpopekmbmcggaa
