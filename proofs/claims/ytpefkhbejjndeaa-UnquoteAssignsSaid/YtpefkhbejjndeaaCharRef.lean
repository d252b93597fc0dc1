/- Names, digits, plain texts, assignments: the program's Plain and Assign, and the reference's functions, walked. -/
import Derived.Test.YtpefkhbejjndeaaCharName
namespace Go.Proofs.Ytpefkhbejjndeaa
open Go.RowKit

theorem empty_size (s : ByteArray) : s.toList.isEmpty = decide (s.size = 0) := by
  rw [size_list]; cases s.toList <;> simp
theorem head_byte (s : ByteArray) (h : 0 < s.size) : (s.toList.headD 0).toNat = s[0].toNat := by
  have := get?_list s 0 h
  cases hl : s.toList with
  | nil => rw [hl] at this; simp at this
  | cons a r => rw [hl] at this; simp at this; rw [← this]; rfl
theorem plain_zero (s : ByteArray) (h : s.size = 0) : Chr.plain s.toList = false := by
  unfold Chr.plain; rw [empty_size, decide_eq_true h]; simp
theorem plain_pos (s : ByteArray) (h : 0 < s.size) : Chr.plain s.toList = (Chr.allFrom Chr.okPlain 0 s.toList && s[0].toNat != 35) := by
  unfold Chr.plain; rw [empty_size, decide_eq_false (by omega), head_byte s h]; simp
theorem ne_cast (a k : Nat) : (((a : Nat) : Int) != (k : Int)) = (a != k) := by
  by_cases h : a = k
  · rw [h]; simp
  · rw [bne_iff_ne.2 h, bne_iff_ne.2 (by omega)]
theorem cls_ne (c k : Nat) : (((Chr.cls c : Nat) : Int) != (k : Int)) = (Chr.cls c != k) := ne_cast _ _

set_option maxRecDepth 100000 in
set_option maxHeartbeats 1000000 in
theorem plain_p (s : ByteArray) (w : World) (hm : s.size ≤ 9223372036854775807) : Calls Try.prog 21 #[.string s] w fun e w' => e = .returned (.bool (Chr.plain s.toList)) ∧ w = w' := by
  go_enter Try.func21, Try.ntmps21
  go_wp2_with fail
  go_loop [3, 6] (fun _ i => ∃ k : Nat, k ≤ s.size ∧ i = .int .i64 k ∧ Chr.allFrom Chr.okPlain k (s.toList.drop k) = Chr.allFrom Chr.okPlain 0 s.toList) (fun _ i => s.size - (intOf i).toNat)
  case atStart => exact ⟨0, by omega, rfl, rfl⟩
  case round =>
    obtain ⟨k, hk, rfl, hf⟩ := hrel
    by_cases hlt : k < s.size
    · rw [byte_step _ s k hlt] at hf
      have H := Lib.hid hf; clear hf
      have e3 : (((Chr.cls s[k].toNat : Nat) : Int) == 3) = (Chr.cls s[k].toNat == 3) := cls_eq _ 3
      have e4 : (((Chr.cls s[k].toNat : Nat) : Int) == 4) = (Chr.cls s[k].toNat == 4) := cls_eq _ 4
      have e8 : (((Chr.cls s[k].toNat : Nat) : Int) == 8) = (Chr.cls s[k].toNat == 8) := cls_eq _ 8
      have HP := Lib.hid (show Chr.okPlain k s[k].toNat = (Chr.cls s[k].toNat == 3 || Chr.cls s[k].toNat == 4 || Chr.cls s[k].toNat == 8) from rfl)
      by_cases hall : (Chr.cls s[k].toNat == 3 || Chr.cls s[k].toNat == 4 || Chr.cls s[k].toNat == 8) = true
      · have HA := Lib.hid hall; clear hall
        cases h3 : Chr.cls s[k].toNat == 3
        · cases h4 : Chr.cls s[k].toNat == 4
          · have h8 : (Chr.cls s[k].toNat == 8) = true := by have := HA.out; rw [h3, h4] at this; simpa using this
            rw [h3] at e3; rw [h4] at e4; rw [h8] at e8; clear h3 h4 h8
            go_wp2_with (go_at_call 13; refine (class_p s[k].toNat (byte_lt s k hlt) _).mono ?_; rintro e w' ⟨rfl, rfl⟩)
            go_round
            case rel => exact ⟨k + 1, by omega, by go_num, by rw [← H.out, HP.out, HA.out, Bool.true_and]⟩
            case measure => simp only [intOf]; omega
          · rw [h3] at e3; rw [h4] at e4; clear h3 h4 e8
            go_wp2_with (go_at_call 13; refine (class_p s[k].toNat (byte_lt s k hlt) _).mono ?_; rintro e w' ⟨rfl, rfl⟩)
            go_round
            case rel => exact ⟨k + 1, by omega, by go_num, by rw [← H.out, HP.out, HA.out, Bool.true_and]⟩
            case measure => simp only [intOf]; omega
        · rw [h3] at e3; clear h3 e4 e8
          go_wp2_with (go_at_call 13; refine (class_p s[k].toNat (byte_lt s k hlt) _).mono ?_; rintro e w' ⟨rfl, rfl⟩)
          go_round
          case rel => exact ⟨k + 1, by omega, by go_num, by rw [← H.out, HP.out, HA.out, Bool.true_and]⟩
          case measure => simp only [intOf]; omega
      · simp only [Bool.not_eq_true, Bool.or_eq_false_iff] at hall
        obtain ⟨⟨h3, h4⟩, h8⟩ := hall
        have HA := Lib.hid (show (Chr.cls s[k].toNat == 3 || Chr.cls s[k].toNat == 4 || Chr.cls s[k].toNat == 8) = false by rw [h3, h4, h8]; rfl)
        rw [h3] at e3; rw [h4] at e4; rw [h8] at e8; clear h3 h4 h8
        go_wp2_with (go_at_call 13; refine (class_p s[k].toNat (byte_lt s k hlt) _).mono ?_; rintro e w' ⟨rfl, rfl⟩)
        go_ret
        refine ⟨ret_bool ?_, rfl⟩
        rw [plain_pos s (by omega), ← H.out, HP.out, HA.out, Bool.false_and, Bool.false_and]
    · rw [byte_end _ s k hlt] at hf
      have H := Lib.hid hf; clear hf
      by_cases h0 : s.size = 0
      · have HZ := Lib.hid h0
        have hemp : s.toList.isEmpty = true := by rw [empty_size, decide_eq_true h0]
        clear h0
        go_wp2_with fail
        go_ret
        exact ⟨ret_bool (by rw [plain_zero s HZ.out]), rfl⟩
      · have hemp : s.toList.isEmpty = false := by rw [empty_size, decide_eq_false h0]
        have hpos : 0 < s.size := by omega
        go_wp2_with fail
        go_ret
        refine ⟨ret_bool ?_, rfl⟩
        rw [plain_pos s hpos, ← H.out, Bool.true_and]
        exact ne_cast _ 35

set_option maxRecDepth 100000 in
set_option maxHeartbeats 1000000 in
theorem name_r (s : ByteArray) (w : World) (hm : s.size ≤ 9223372036854775807) : Calls Try.prog 18 #[.string s] w fun e w' => e = .returned (.bool (Chr.name s.toList)) ∧ w = w' := by
  have hfin : Chr.name s.toList = (Chr.allFrom Chr.okName 0 s.toList && decide (0 < s.size)) := by
    unfold Chr.name; rw [empty_size]; congr 1; by_cases h : s.size = 0 <;> simp [h]; omega
  have HN := Lib.hid hfin; clear hfin
  go_enter Try.func18, Try.ntmps18
  go_wp2_with fail
  go_loop [3, 4] (fun i _ => ∃ k : Nat, k ≤ s.size ∧ i = .int .i64 k ∧ Chr.allFrom Chr.okName k (s.toList.drop k) = Chr.allFrom Chr.okName 0 s.toList) (fun i _ => s.size - (intOf i).toNat)
  case atStart => exact ⟨0, by omega, rfl, rfl⟩
  case round =>
    obtain ⟨k, hk, rfl, hf⟩ := hrel
    by_cases hlt : k < s.size
    · rw [byte_step _ s k hlt] at hf
      have H := Lib.hid hf; clear hf
      have e4 : (((Chr.cls s[k].toNat : Nat) : Int) != 4) = (Chr.cls s[k].toNat != 4) := cls_ne _ 4
      have e3 : (((Chr.cls s[k].toNat : Nat) : Int) != 3) = (Chr.cls s[k].toNat != 3) := cls_ne _ 3
      have HP := Lib.hid (show Chr.okName k s[k].toNat = (!(Chr.cls s[k].toNat != 4) || !(Chr.cls s[k].toNat != 3) && decide (0 < k)) by unfold Chr.okName; simp [bne])
      rcases Nat.eq_zero_or_pos k with rfl | hi
      · skip
        cases h4 : Chr.cls s[0].toNat != 4 <;> cases h3 : Chr.cls s[0].toNat != 3
        all_goals
          rw [h4, h3] at HP
          rw [h3] at e3; rw [h4] at e4; clear h3 h4
          go_wp2_with (go_at_call 14; refine (class_r s[0].toNat (byte_lt s 0 hlt) _).mono ?_; rintro e w' ⟨rfl, rfl⟩)
          first
            | (go_ret
               refine ⟨ret_bool ?_, rfl⟩
               rw [HN.out, ← H.out, HP.out]; rfl)
            | (go_round
               case rel => exact ⟨0 + 1, by omega, by go_num, by rw [← H.out, HP.out]; rfl⟩
               case measure => simp only [intOf]; omega)
      · have hk0 : ((k : Int) == 0) = false := by rw [beq_eq_false_iff_ne]; omega
        rw [decide_eq_true hi] at HP
        cases h4 : Chr.cls s[k].toNat != 4 <;> cases h3 : Chr.cls s[k].toNat != 3
        all_goals
          rw [h4, h3] at HP
          rw [h3] at e3; rw [h4] at e4; clear h3 h4
          go_wp2_with (go_at_call 14; refine (class_r s[k].toNat (byte_lt s k hlt) _).mono ?_; rintro e w' ⟨rfl, rfl⟩)
          first
            | (go_ret
               refine ⟨ret_bool ?_, rfl⟩
               rw [HN.out, ← H.out, HP.out]; rfl)
            | (go_round
               case rel => exact ⟨k + 1, by omega, by go_num, by rw [← H.out, HP.out]; rfl⟩
               case measure => simp only [intOf]; omega)
    · rw [byte_end _ s k hlt] at hf
      have H := Lib.hid hf; clear hf
      go_wp2_with fail
      go_ret
      refine ⟨ret_bool ?_, rfl⟩
      rw [HN.out, ← H.out, Bool.true_and]

set_option maxRecDepth 100000 in
set_option maxHeartbeats 1000000 in
theorem digits_r (s : ByteArray) (w : World) (hm : s.size ≤ 9223372036854775807) : Calls Try.prog 20 #[.string s] w fun e w' => e = .returned (.bool (Chr.digits s.toList)) ∧ w = w' := by
  have hfin : Chr.digits s.toList = (Chr.allFrom Chr.okDigit 0 s.toList && decide (0 < s.size)) := by
    unfold Chr.digits; rw [empty_size]; congr 1; by_cases h : s.size = 0 <;> simp [h]; omega
  have HN := Lib.hid hfin; clear hfin
  go_enter Try.func20, Try.ntmps20
  go_wp2_with fail
  go_loop [3] (fun i => ∃ k : Nat, k ≤ s.size ∧ i = .int .i64 k ∧ Chr.allFrom Chr.okDigit k (s.toList.drop k) = Chr.allFrom Chr.okDigit 0 s.toList) (fun i => s.size - (intOf i).toNat)
  case atStart => exact ⟨0, by omega, rfl, rfl⟩
  case round =>
    obtain ⟨k, hk, rfl, hf⟩ := hrel
    by_cases hlt : k < s.size
    · rw [byte_step _ s k hlt] at hf
      have H := Lib.hid hf; clear hf
      have e3 : (((Chr.cls s[k].toNat : Nat) : Int) != 3) = (Chr.cls s[k].toNat != 3) := cls_ne _ 3
      have HP := Lib.hid (show Chr.okDigit k s[k].toNat = !(Chr.cls s[k].toNat != 3) by unfold Chr.okDigit; simp [bne])
      cases h3 : Chr.cls s[k].toNat != 3
      all_goals
        rw [h3] at e3 HP; clear h3
        go_wp2_with (go_at_call 14; refine (class_r s[k].toNat (byte_lt s k hlt) _).mono ?_; rintro e w' ⟨rfl, rfl⟩)
      · go_round
        case rel => exact ⟨k + 1, by omega, by go_num, by rw [← H.out, HP.out]; rfl⟩
        case measure => simp only [intOf]; omega
      · go_ret
        refine ⟨ret_bool ?_, rfl⟩
        rw [HN.out, ← H.out, HP.out]; rfl
    · rw [byte_end _ s k hlt] at hf
      have H := Lib.hid hf; clear hf
      go_wp2_with fail
      go_ret
      refine ⟨ret_bool ?_, rfl⟩
      rw [HN.out, ← H.out, Bool.true_and]

set_option maxRecDepth 100000 in
set_option maxHeartbeats 1000000 in
theorem plain_r (s : ByteArray) (w : World) (hm : s.size ≤ 9223372036854775807) : Calls Try.prog 22 #[.string s] w fun e w' => e = .returned (.bool (Chr.plain s.toList)) ∧ w = w' := by
  go_enter Try.func22, Try.ntmps22
  go_wp2_with fail
  go_loop [3, 4] (fun i _ => ∃ k : Nat, k ≤ s.size ∧ i = .int .i64 k ∧ Chr.allFrom Chr.okPlain k (s.toList.drop k) = Chr.allFrom Chr.okPlain 0 s.toList) (fun i _ => s.size - (intOf i).toNat)
  case atStart => exact ⟨0, by omega, rfl, rfl⟩
  case round =>
    obtain ⟨k, hk, rfl, hf⟩ := hrel
    by_cases hlt : k < s.size
    · rw [byte_step _ s k hlt] at hf
      have H := Lib.hid hf; clear hf
      have e3 : (((Chr.cls s[k].toNat : Nat) : Int) != 3) = (Chr.cls s[k].toNat != 3) := cls_ne _ 3
      have e4 : (((Chr.cls s[k].toNat : Nat) : Int) != 4) = (Chr.cls s[k].toNat != 4) := cls_ne _ 4
      have e8 : (((Chr.cls s[k].toNat : Nat) : Int) != 8) = (Chr.cls s[k].toNat != 8) := cls_ne _ 8
      have HP := Lib.hid (show Chr.okPlain k s[k].toNat = (!(Chr.cls s[k].toNat != 3) || !(Chr.cls s[k].toNat != 4) || !(Chr.cls s[k].toNat != 8)) by unfold Chr.okPlain; simp [bne])
      cases h3 : Chr.cls s[k].toNat != 3 <;> cases h4 : Chr.cls s[k].toNat != 4 <;> cases h8 : Chr.cls s[k].toNat != 8
      all_goals
        rw [h3, h4, h8] at HP
        rw [h3] at e3; rw [h4] at e4; rw [h8] at e8; clear h3 h4 h8
        go_wp2_with (go_at_call 14; refine (class_r s[k].toNat (byte_lt s k hlt) _).mono ?_; rintro e w' ⟨rfl, rfl⟩)
        first
          | (go_ret
             refine ⟨ret_bool ?_, rfl⟩
             rw [plain_pos s (by omega), ← H.out, HP.out]; rfl)
          | (go_round
             case rel => exact ⟨k + 1, by omega, by go_num, by rw [← H.out, HP.out]; rfl⟩
             case measure => simp only [intOf]; omega)
    · rw [byte_end _ s k hlt] at hf
      have H := Lib.hid hf; clear hf
      by_cases h0 : s.size = 0
      · have HZ := Lib.hid h0
        have hz : ¬ 0 < s.size := by omega
        clear h0
        go_wp2_with fail
        go_ret
        exact ⟨ret_bool (by rw [plain_zero s HZ.out]), rfl⟩
      · have hpos : 0 < s.size := by omega
        go_wp2_with fail
        go_ret
        refine ⟨ret_bool ?_, rfl⟩
        rw [plain_pos s hpos, ← H.out, Bool.true_and]
        exact ne_cast _ 35

theorem assign_eq (s : ByteArray) (k m : Nat) (h : k < s.size) (hm : s.size - k = m + 1) :
    Chr.assignFrom s.toList k (s.size - k) = if s[k].toNat = 61 then (if Chr.name (s.toList.take k) then (k : Int) else -1) else Chr.assignFrom s.toList (k + 1) m := by
  rw [hm, Chr.assignFrom]
  have e : s.toList.getD k 0 = s[k] := by rw [List.getD_eq_getElem?_getD, get?_list s k h]; rfl
  rw [e]

set_option maxRecDepth 100000 in
set_option maxHeartbeats 1000000 in
theorem assign_r (s : ByteArray) (w : World) (hm : s.size ≤ 9223372036854775807) : Calls Try.prog 24 #[.string s] w fun e w' => e = .returned (.int .i64 (Chr.assign s.toList)) ∧ w = w' := by
  have HA := Lib.hid (show Chr.assign s.toList = Chr.assignFrom s.toList 0 (s.size - 0) by rw [Chr.assign, ← size_list]; rfl)
  go_enter Try.func24, Try.ntmps24
  go_wp2_with fail
  go_loop [3] (fun i => ∃ k : Nat, k ≤ s.size ∧ i = .int .i64 k ∧ Chr.assignFrom s.toList k (s.size - k) = Chr.assignFrom s.toList 0 (s.size - 0)) (fun i => s.size - (intOf i).toNat)
  case atStart => exact ⟨0, by omega, rfl, rfl⟩
  case round =>
    obtain ⟨k, hk, rfl, hf⟩ := hrel
    by_cases hlt : k < s.size
    · obtain ⟨m, hm1⟩ : ∃ m, s.size - k = m + 1 := ⟨s.size - k - 1, by omega⟩
      have hm2 : s.size - (k + 1) = m := by omega
      rw [assign_eq s k m hlt hm1] at hf
      have H := Lib.hid hf; clear hf
      have HM2 := Lib.hid hm2; clear hm1 hm2
      by_cases h61 : s[k].toNat = 61
      · have h := H.out
        rw [if_pos h61] at h
        have H2 := Lib.hid h; clear h H
        have hb : (((s[k].toNat : Nat) : Int) != 61) = false := by rw [h61]; rfl
        clear h61
        have hsz : (s.extract 0 k).size ≤ 9223372036854775807 := by rw [size_list, take_list, List.length_take]; omega
        have HS := Lib.hid hsz; clear hsz
        cases hn : Chr.name (s.toList.take k)
        all_goals
          have HN := Lib.hid hn
          go_wp2_with (go_at_call 18; refine (name_r _ _ HS.out).mono ?_; rintro e w' ⟨rfl, rfl⟩; rw [take_list])
          go_ret
          refine ⟨ret_int ?_, rfl⟩
          rw [HA.out, ← H2.out, HN.out]
          rfl
      · have h := H.out
        rw [if_neg h61] at h
        have H2 := Lib.hid h; clear h H
        have hb : (((s[k].toNat : Nat) : Int) != 61) = true := by rw [bne_iff_ne]; omega
        go_wp2_with fail
        go_round
        case rel => exact ⟨k + 1, by omega, by go_num, by rw [HM2.out]; exact H2.out⟩
        case measure => simp only [intOf]; omega
    · have hz : s.size - k = 0 := by omega
      rw [hz] at hf
      have H := Lib.hid hf; clear hf hz
      go_wp2_with fail
      go_ret
      refine ⟨ret_int ?_, rfl⟩
      rw [HA.out, ← H.out]
      rfl
end Go.Proofs.Ytpefkhbejjndeaa
