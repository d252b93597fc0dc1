/- strings.IndexByte, and what char tells with it. -/
import Derived.Test.YtpefkhbejjndeaaCharClass
import Derived.Lib.Bytealg
namespace Go.Proofs.Ytpefkhbejjndeaa
open Go.RowKit

set_option maxRecDepth 100000 in
set_option maxHeartbeats 1000000 in
theorem indexByte_in (s : ByteArray) (c : Int) (w : World) : Calls Try.prog 82 #[.string s, .int .u8 c] w fun e w' => e = .returned (.int .i64 (Lib.indexByte s.toList c.toNat.toUInt8)) ∧ w = w' := by
  go_enter Try.func82, Try.ntmps82
  go_wp2
  rw [run_callFunc_extern Try.func98 (by kernel_rfl) (by kernel_rfl) (by kernel_rfl) (e := Extern.BytealgIndexByte.indexByte) (by kernel_rfl), Lib.run_indexByteString]
  simp only [Result.andThen]
  rw [Oper.upon_value]
  go_wp2
  go_ret
  exact ⟨ret_int (by rw [Lib.toList_data]), rfl⟩
set_option maxRecDepth 100000 in
set_option maxHeartbeats 1000000 in
theorem indexByte_p (s : ByteArray) (c : Int) (w : World) : Calls Try.prog 55 #[.string s, .int .u8 c] w fun e w' => e = .returned (.int .i64 (Lib.indexByte s.toList c.toNat.toUInt8)) ∧ w = w' := by
  go_enter Try.func55, Try.ntmps55
  go_wp2_with (go_at_call 82; refine (indexByte_in _ _ _).mono ?_; rintro e w' ⟨rfl, rfl⟩)
  go_ret
  exact ⟨rfl, rfl⟩

theorem special_at : ∀ c : Fin 256, decide (0 ≤ Lib.indexByte [64, 42, 35, 63, 45, 36, 33] ((c.val : Int).toNat.toUInt8)) = Chr.special c.val := by decide +kernel

set_option maxRecDepth 100000 in
set_option maxHeartbeats 1000000 in
theorem special_p (c : Nat) (hc : c < 256) (w : World) : Calls Try.prog 15 #[.int .u8 (c : Int)] w fun e w' => e = .returned (.bool (Chr.special c)) ∧ w = w' := by
  go_enter Try.func15, Try.ntmps15
  go_wp2_with (go_at_call 55; refine (indexByte_p _ _ _).mono ?_; rintro e w' ⟨rfl, rfl⟩)
  go_ret
  refine ⟨ret_bool ?_, rfl⟩
  have h := special_at ⟨c, hc⟩
  rw [← h]
  simp

theorem byte_step (p : Nat → Nat → Bool) (s : ByteArray) (k : Nat) (h : k < s.size) : Chr.allFrom p k (s.toList.drop k) = (p k s[k].toNat && Chr.allFrom p (k + 1) (s.toList.drop (k + 1))) := by
  rw [Chr.allFrom_drop p s.toList k (by rw [← size_list]; exact h), get_list s k h]
theorem byte_end (p : Nat → Nat → Bool) (s : ByteArray) (k : Nat) (h : ¬ k < s.size) : Chr.allFrom p k (s.toList.drop k) = true := Chr.allFrom_end p s.toList k (by rw [← size_list]; exact h)
theorem byte_lt (s : ByteArray) (k : Nat) (h : k < s.size) : s[k].toNat < 256 := s[k].toNat_lt

set_option maxRecDepth 100000 in
set_option maxHeartbeats 1000000 in
theorem ascii_p (s : ByteArray) (w : World) (hm : s.size ≤ 9223372036854775807) : Calls Try.prog 56 #[.string s] w fun e w' => e = .returned (.bool (Chr.ascii s.toList)) ∧ w = w' := by
  go_enter Try.func56, Try.ntmps56
  go_wp2_with fail
  go_loop [3, 6] (fun _ i => ∃ k : Nat, k ≤ s.size ∧ i = .int .i64 k ∧ Chr.allFrom Chr.okAscii k (s.toList.drop k) = Chr.ascii s.toList) (fun _ i => s.size - (intOf i).toNat)
  case atStart => exact ⟨0, by omega, rfl, rfl⟩
  case round =>
    obtain ⟨k, hk, rfl, hf⟩ := hrel
    by_cases hlt : k < s.size
    · rw [byte_step _ s k hlt] at hf
      have H := Lib.hid hf; clear hf
      by_cases ha : s[k].toNat < 128
      · go_wp2_with fail
        go_round
        case rel =>
          refine ⟨k + 1, by omega, by go_num, ?_⟩
          rw [← H.out, Chr.okAscii, decide_eq_true ha, Bool.true_and]
        case measure => simp only [intOf]; omega
      · go_wp2_with fail
        go_ret
        refine ⟨ret_bool ?_, rfl⟩
        rw [← H.out, Chr.okAscii, decide_eq_false ha, Bool.false_and]
    · rw [byte_end _ s k hlt] at hf
      have H := Lib.hid hf; clear hf
      go_wp2_with fail
      go_ret
      exact ⟨ret_bool H.out, rfl⟩

theorem cls_eq (c k : Nat) : (((Chr.cls c : Nat) : Int) == (k : Int)) = (Chr.cls c == k) := by
  by_cases h : Chr.cls c = k
  · rw [h]; simp
  · rw [beq_eq_false_iff_ne.2 h, beq_eq_false_iff_ne.2 (by omega)]

set_option maxRecDepth 100000 in
set_option maxHeartbeats 1000000 in
theorem name1_p (i c : Nat) (hc : c < 256) (w : World) : Calls Try.prog 58 #[.int .i64 (i : Int), .int .u8 (c : Int)] w fun e w' => e = .returned (.bool (Chr.okName i c)) ∧ w = w' := by
  have e4 := cls_eq c 4
  have e3 := cls_eq c 3
  have H : Hid (Chr.okName i c = (Chr.cls c == 4 || Chr.cls c == 3 && decide (0 < i))) := rfl
  cases h4 : Chr.cls c == 4 <;> cases h3 : Chr.cls c == 3 <;> rcases Nat.eq_zero_or_pos i with rfl | hi
  all_goals
    simp only [h4, h3] at e4 e3
    have e4' : (((Chr.cls c : Nat) : Int) == 4) = _ := e4
    have e3' : (((Chr.cls c : Nat) : Int) == 3) = _ := e3
    clear e4 e3
    have H4 := Lib.hid h4; have H3 := Lib.hid h3; clear h4 h3
    go_enter Try.func58, Try.ntmps58
    go_wp2_with (go_at_call 13; refine (class_p c hc _).mono ?_; rintro e w' ⟨rfl, rfl⟩)
    go_ret
    refine ⟨ret_bool ?_, rfl⟩
    rw [H.out, H4.out, H3.out]
    first | rfl | (rw [decide_eq_true hi]; rfl)

set_option maxRecDepth 100000 in
set_option maxHeartbeats 1000000 in
theorem digits1_p (i c : Nat) (hc : c < 256) (w : World) : Calls Try.prog 59 #[.int .i64 (i : Int), .int .u8 (c : Int)] w fun e w' => e = .returned (.bool (Chr.okDigit i c)) ∧ w = w' := by
  have e3 := cls_eq c 3
  go_enter Try.func59, Try.ntmps59
  go_wp2_with (go_at_call 13; refine (class_p c hc _).mono ?_; rintro e w' ⟨rfl, rfl⟩)
  go_ret
  exact ⟨ret_bool e3, rfl⟩

theorem ascii_at (s : ByteArray) (k : Nat) (h : Chr.ascii s.toList = true) (hk : k < s.size) : s[k].toNat < 128 := by
  have := Chr.allFrom_at 0 s.toList h k (by rw [← size_list]; exact hk)
  rw [get_list s k hk] at this
  simpa [Chr.okAscii] using this

set_option maxRecDepth 100000 in
set_option maxHeartbeats 1000000 in
theorem each_name (s : ByteArray) (w : World) (hm : s.size ≤ 9223372036854775807) (hasc : Chr.ascii s.toList = true) :
    Calls Try.prog 57 #[.string s, .func (Fn.func 58) #[] #[]] w fun e w' => e = .returned (.bool (Chr.allFrom Chr.okName 0 s.toList && !s.toList.isEmpty)) ∧ Below w.heap.size w w' := by
  have hempty : (!s.toList.isEmpty) = decide (0 < s.size) := by
    rw [size_list]
    cases s.toList <;> simp
  have HE := Lib.hid hempty; clear hempty
  go_enter Try.func57, Try.ntmps57
  go_wp2_with fail
  go_loopw [5] (fun _ wr => ∃ k : Nat, k ≤ s.size ∧ wr = w.iter s k ∧ Chr.allFrom Chr.okName k (s.toList.drop k) = Chr.allFrom Chr.okName 0 s.toList) (fun _ wr => s.size - wr.iterPos w.heap.size)
  case atStart => exact ⟨0, by omega, rfl, rfl⟩
  case round =>
    obtain ⟨k, hk, rfl, hf⟩ := hrel
    by_cases hlt : k < s.size
    · rw [byte_step _ s k hlt] at hf
      have H := Lib.hid hf; clear hf
      have hnx : ∀ ty, (Instr.next (.pointer (some ⟨w.heap.size, 0, none⟩)) true ty).run Try.prog (w.iter s k) = _ := fun ty => run_next_ascii w s k ty hlt (ascii_at s k hasc hlt)
      obtain ⟨b, hb⟩ : ∃ b, Chr.okName k s[k].toNat = b := ⟨_, rfl⟩
      cases b
      all_goals
        go_wp2_with (go_at_call 58; refine (name1_p k s[k].toNat (byte_lt s k hlt) _).mono ?_; rintro e w' ⟨rfl, rfl⟩)
      · go_ret
        refine ⟨ret_bool ?_, (Below.refl _ _).alloc (Nat.le_refl _) _⟩
        rw [← H.out, hb]; rfl
      · go_roundw
        case rel => exact ⟨k + 1, by omega, rfl, by rw [← H.out, hb]; rfl⟩
        case measure => simp only [World.iterPos_iter]; omega
    · rw [byte_end _ s k hlt] at hf
      have H := Lib.hid hf; clear hf
      have hnx : ∀ ty, (Instr.next (.pointer (some ⟨w.heap.size, 0, none⟩)) true ty).run Try.prog (w.iter s k) = _ := fun ty => run_next_end w s k ty hlt
      go_wp2_with fail
      go_ret
      refine ⟨ret_bool ?_, (Below.refl _ _).alloc (Nat.le_refl _) _⟩
      rw [← H.out, Bool.true_and]

set_option maxRecDepth 100000 in
set_option maxHeartbeats 1000000 in
theorem each_digits (s : ByteArray) (w : World) (hm : s.size ≤ 9223372036854775807) (hasc : Chr.ascii s.toList = true) :
    Calls Try.prog 57 #[.string s, .func (Fn.func 59) #[] #[]] w fun e w' => e = .returned (.bool (Chr.allFrom Chr.okDigit 0 s.toList && !s.toList.isEmpty)) ∧ Below w.heap.size w w' := by
  have hempty : (!s.toList.isEmpty) = decide (0 < s.size) := by
    rw [size_list]
    cases s.toList <;> simp
  have HE := Lib.hid hempty; clear hempty
  go_enter Try.func57, Try.ntmps57
  go_wp2_with fail
  go_loopw [5] (fun _ wr => ∃ k : Nat, k ≤ s.size ∧ wr = w.iter s k ∧ Chr.allFrom Chr.okDigit k (s.toList.drop k) = Chr.allFrom Chr.okDigit 0 s.toList) (fun _ wr => s.size - wr.iterPos w.heap.size)
  case atStart => exact ⟨0, by omega, rfl, rfl⟩
  case round =>
    obtain ⟨k, hk, rfl, hf⟩ := hrel
    by_cases hlt : k < s.size
    · rw [byte_step _ s k hlt] at hf
      have H := Lib.hid hf; clear hf
      have hnx : ∀ ty, (Instr.next (.pointer (some ⟨w.heap.size, 0, none⟩)) true ty).run Try.prog (w.iter s k) = _ := fun ty => run_next_ascii w s k ty hlt (ascii_at s k hasc hlt)
      obtain ⟨b, hb⟩ : ∃ b, Chr.okDigit k s[k].toNat = b := ⟨_, rfl⟩
      cases b
      all_goals
        go_wp2_with (go_at_call 59; refine (digits1_p k s[k].toNat (byte_lt s k hlt) _).mono ?_; rintro e w' ⟨rfl, rfl⟩)
      · go_ret
        refine ⟨ret_bool ?_, (Below.refl _ _).alloc (Nat.le_refl _) _⟩
        rw [← H.out, hb]; rfl
      · go_roundw
        case rel => exact ⟨k + 1, by omega, rfl, by rw [← H.out, hb]; rfl⟩
        case measure => simp only [World.iterPos_iter]; omega
    · rw [byte_end _ s k hlt] at hf
      have H := Lib.hid hf; clear hf
      have hnx : ∀ ty, (Instr.next (.pointer (some ⟨w.heap.size, 0, none⟩)) true ty).run Try.prog (w.iter s k) = _ := fun ty => run_next_end w s k ty hlt
      go_wp2_with fail
      go_ret
      refine ⟨ret_bool ?_, (Below.refl _ _).alloc (Nat.le_refl _) _⟩
      rw [← H.out, Bool.true_and]

set_option maxRecDepth 100000 in
set_option maxHeartbeats 1000000 in
theorem name_p (s : ByteArray) (w : World) (hm : s.size ≤ 9223372036854775807) : Calls Try.prog 17 #[.string s] w fun e w' => e = .returned (.bool (Chr.name s.toList)) ∧ Below w.heap.size w w' := by
  cases ha : Chr.ascii s.toList
  · go_enter Try.func17, Try.ntmps17
    go_wp2_with (go_at_call 56; refine (ascii_p s _ hm).mono ?_; rintro e w' ⟨rfl, rfl⟩)
    go_ret
    refine ⟨ret_bool ?_, Below.refl _ _⟩
    cases h : Chr.name s.toList
    · rfl
    · rw [Chr.name_ascii _ h] at ha; cases ha
  · have HA := Lib.hid ha
    go_enter Try.func17, Try.ntmps17
    go_wp2_with (first
      | (go_at_call 56; refine (ascii_p s _ hm).mono ?_; rintro e w' ⟨rfl, rfl⟩)
      | (go_at_call 57; refine (each_name s _ hm HA.out).mono ?_; rintro e w' ⟨rfl, hb⟩))
    go_ret
    exact ⟨rfl, hb⟩

set_option maxRecDepth 100000 in
set_option maxHeartbeats 1000000 in
theorem digits_p (s : ByteArray) (w : World) (hm : s.size ≤ 9223372036854775807) : Calls Try.prog 19 #[.string s] w fun e w' => e = .returned (.bool (Chr.digits s.toList)) ∧ Below w.heap.size w w' := by
  cases ha : Chr.ascii s.toList
  · go_enter Try.func19, Try.ntmps19
    go_wp2_with (go_at_call 56; refine (ascii_p s _ hm).mono ?_; rintro e w' ⟨rfl, rfl⟩)
    go_ret
    refine ⟨ret_bool ?_, Below.refl _ _⟩
    cases h : Chr.digits s.toList
    · rfl
    · rw [Chr.digits_ascii _ h] at ha; cases ha
  · have HA := Lib.hid ha
    go_enter Try.func19, Try.ntmps19
    go_wp2_with (first
      | (go_at_call 56; refine (ascii_p s _ hm).mono ?_; rintro e w' ⟨rfl, rfl⟩)
      | (go_at_call 57; refine (each_digits s _ hm HA.out).mono ?_; rintro e w' ⟨rfl, hb⟩))
    go_ret
    exact ⟨rfl, hb⟩
end Go.Proofs.Ytpefkhbejjndeaa
