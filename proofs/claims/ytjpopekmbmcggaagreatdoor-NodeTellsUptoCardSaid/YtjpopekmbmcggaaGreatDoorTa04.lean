/- Towards nodeTells_card: CharName, CharRef, CharPlain2, CharLaws. Merged from smaller texts by a program of the author's. -/
import Derived.Test.YtjpopekmbmcggaaGreatDoorTa03
import Derived.Lib.Bytealg
import Derived.Test.YtjpopekmbmcggaaGreatDoorTa01
import Derived.Deep.RegionWith
import Derived.Laws.BytesArg
namespace Go.Proofs.YtjpopekmbmcggaaGreatDoor
open Go.RowKit
set_option maxRecDepth 100000 in
set_option maxHeartbeats 1000000 in
theorem indexByte_in (s : ByteArray) (c : Int) (w : World) : Calls Tryz.prog 227 #[.string s, .int .u8 c] w fun e w' => e = .returned (.int .i64 (Lib.indexByte s.toList c.toNat.toUInt8)) ∧ w = w' := by
  go_enter Tryz.func227, Tryz.ntmps227
  go_wp2
  rw [run_callFunc_extern Tryz.func245 (by kernel_rfl) (by kernel_rfl) (by kernel_rfl) (e := Extern.BytealgIndexByte.indexByte) (by kernel_rfl), Lib.run_indexByteString]
  simp only [Result.andThen]
  rw [Oper.upon_value]
  go_wp2
  go_ret
  exact ⟨ret_int (by rw [Lib.toList_data]), rfl⟩
set_option maxRecDepth 100000 in
set_option maxHeartbeats 1000000 in
theorem indexByte_p (s : ByteArray) (c : Int) (w : World) : Calls Tryz.prog 216 #[.string s, .int .u8 c] w fun e w' => e = .returned (.int .i64 (Lib.indexByte s.toList c.toNat.toUInt8)) ∧ w = w' := by
  go_enter Tryz.func216, Tryz.ntmps216
  go_wp2_with (go_at_call 227; refine (indexByte_in _ _ _).mono ?_; rintro e w' ⟨rfl, rfl⟩)
  go_ret
  exact ⟨rfl, rfl⟩
theorem special_at : ∀ c : Fin 256, decide (0 ≤ Lib.indexByte [64, 42, 35, 63, 45, 36, 33] ((c.val : Int).toNat.toUInt8)) = Chr.special c.val := by decide +kernel
set_option maxRecDepth 100000 in
set_option maxHeartbeats 1000000 in
theorem special_p (c : Nat) (hc : c < 256) (w : World) : Calls Tryz.prog 241 #[.int .u8 (c : Int)] w fun e w' => e = .returned (.bool (Chr.special c)) ∧ w = w' := by
  go_enter Tryz.func241, Tryz.ntmps241
  go_wp2_with (go_at_call 216; refine (indexByte_p _ _ _).mono ?_; rintro e w' ⟨rfl, rfl⟩)
  go_ret
  refine ⟨ret_bool ?_, rfl⟩
  have h := special_at ⟨c, hc⟩
  rw [← h]
  simp
theorem byte_step (p : Nat → Nat → Bool) (s : ByteArray) (k : Nat) (h : k < s.size) : Chr.allFrom p k (s.toList.drop k) = (p k s[k].toNat && Chr.allFrom p (k + 1) (s.toList.drop (k + 1))) := by
  rw [Chr.allFrom_drop p s.toList k (by rw [← size_list]; exact h), get_list s k h]
theorem byte_end (p : Nat → Nat → Bool) (s : ByteArray) (k : Nat) (h : ¬ k < s.size) : Chr.allFrom p k (s.toList.drop k) = true := Chr.allFrom_end p s.toList k (by rw [← size_list]; exact h)
theorem byte_lt (s : ByteArray) (k : Nat) (h : k < s.size) : s[k].toNat < 256 := s[k].toNat_lt
set_option maxRecDepth 100000 in
set_option maxHeartbeats 1000000 in
theorem ascii_p (s : ByteArray) (w : World) (hm : s.size ≤ 9223372036854775807) : Calls Tryz.prog 112 #[.string s] w fun e w' => e = .returned (.bool (Chr.ascii s.toList)) ∧ w = w' := by
  go_enter Tryz.func112, Tryz.ntmps112
  go_wp2_with fail
  go_loop [3, 6] (fun _ i => ∃ k : Nat, k ≤ s.size ∧ i = .int .i64 k ∧ Chr.allFrom Chr.okAscii k (s.toList.drop k) = Chr.ascii s.toList) (fun _ i => s.size - (intOf i).toNat)
  case atStart => exact ⟨0, by omega, rfl, rfl⟩
  case round =>
    obtain ⟨k, hk, rfl, hf⟩ := hrel
    by_cases hlt : k < s.size
    · rw [byte_step _ s k hlt] at hf
      have H := Lib.hid hf; clear hf
      by_cases ha : s[k].toNat < 128
      · go_wp2_with fail
        go_round
        case rel =>
          refine ⟨k + 1, by omega, by go_num, ?_⟩
          rw [← H.out, Chr.okAscii, decide_eq_true ha, Bool.true_and]
        case measure => simp only [intOf]; omega
      · go_wp2_with fail
        go_ret
        refine ⟨ret_bool ?_, rfl⟩
        rw [← H.out, Chr.okAscii, decide_eq_false ha, Bool.false_and]
    · rw [byte_end _ s k hlt] at hf
      have H := Lib.hid hf; clear hf
      go_wp2_with fail
      go_ret
      exact ⟨ret_bool H.out, rfl⟩
theorem cls_eq (c k : Nat) : (((Chr.cls c : Nat) : Int) == (k : Int)) = (Chr.cls c == k) := by
  by_cases h : Chr.cls c = k
  · rw [h]; simp
  · rw [beq_eq_false_iff_ne.2 h, beq_eq_false_iff_ne.2 (by omega)]
set_option maxRecDepth 100000 in
set_option maxHeartbeats 1000000 in
theorem name1_p (i c : Nat) (hc : c < 256) (w : World) : Calls Tryz.prog 144 #[.int .i64 (i : Int), .int .u8 (c : Int)] w fun e w' => e = .returned (.bool (Chr.okName i c)) ∧ w = w' := by
  have e4 := cls_eq c 4
  have e3 := cls_eq c 3
  have H : Hid (Chr.okName i c = (Chr.cls c == 4 || Chr.cls c == 3 && decide (0 < i))) := rfl
  cases h4 : Chr.cls c == 4 <;> cases h3 : Chr.cls c == 3 <;> rcases Nat.eq_zero_or_pos i with rfl | hi
  all_goals
    simp only [h4, h3] at e4 e3
    have e4' : (((Chr.cls c : Nat) : Int) == 4) = _ := e4
    have e3' : (((Chr.cls c : Nat) : Int) == 3) = _ := e3
    clear e4 e3
    have H4 := Lib.hid h4; have H3 := Lib.hid h3; clear h4 h3
    go_enter Tryz.func144, Tryz.ntmps144
    go_wp2_with (go_at_call 115; refine (class_p c hc _).mono ?_; rintro e w' ⟨rfl, rfl⟩)
    go_ret
    refine ⟨ret_bool ?_, rfl⟩
    rw [H.out, H4.out, H3.out]
    first | rfl | (rw [decide_eq_true hi]; rfl)
set_option maxRecDepth 100000 in
set_option maxHeartbeats 1000000 in
theorem digits1_p (i c : Nat) (hc : c < 256) (w : World) : Calls Tryz.prog 114 #[.int .i64 (i : Int), .int .u8 (c : Int)] w fun e w' => e = .returned (.bool (Chr.okDigit i c)) ∧ w = w' := by
  have e3 := cls_eq c 3
  go_enter Tryz.func114, Tryz.ntmps114
  go_wp2_with (go_at_call 115; refine (class_p c hc _).mono ?_; rintro e w' ⟨rfl, rfl⟩)
  go_ret
  exact ⟨ret_bool e3, rfl⟩
theorem ascii_at (s : ByteArray) (k : Nat) (h : Chr.ascii s.toList = true) (hk : k < s.size) : s[k].toNat < 128 := by
  have := Chr.allFrom_at 0 s.toList h k (by rw [← size_list]; exact hk)
  rw [get_list s k hk] at this
  simpa [Chr.okAscii] using this
set_option maxRecDepth 100000 in
set_option maxHeartbeats 1000000 in
theorem each_name (s : ByteArray) (w : World) (hm : s.size ≤ 9223372036854775807) (hasc : Chr.ascii s.toList = true) :
    Calls Tryz.prog 113 #[.string s, .func (Fn.func 144) #[] #[]] w fun e w' => e = .returned (.bool (Chr.allFrom Chr.okName 0 s.toList && !s.toList.isEmpty)) ∧ Below w.heap.size w w' := by
  have hempty : (!s.toList.isEmpty) = decide (0 < s.size) := by
    rw [size_list]
    cases s.toList <;> simp
  have HE := Lib.hid hempty; clear hempty
  go_enter Tryz.func113, Tryz.ntmps113
  go_wp2_with fail
  go_loopw [5] (fun _ wr => ∃ k : Nat, k ≤ s.size ∧ wr = w.iter s k ∧ Chr.allFrom Chr.okName k (s.toList.drop k) = Chr.allFrom Chr.okName 0 s.toList) (fun _ wr => s.size - wr.iterPos w.heap.size)
  case atStart => exact ⟨0, by omega, rfl, rfl⟩
  case round =>
    obtain ⟨k, hk, rfl, hf⟩ := hrel
    by_cases hlt : k < s.size
    · rw [byte_step _ s k hlt] at hf
      have H := Lib.hid hf; clear hf
      have hnx : ∀ ty, (Instr.next (.pointer (some ⟨w.heap.size, 0, none⟩)) true ty).run Tryz.prog (w.iter s k) = _ := fun ty => run_next_ascii w s k ty hlt (ascii_at s k hasc hlt)
      obtain ⟨b, hb⟩ : ∃ b, Chr.okName k s[k].toNat = b := ⟨_, rfl⟩
      cases b
      all_goals
        go_wp2_with (go_at_call 144; refine (name1_p k s[k].toNat (byte_lt s k hlt) _).mono ?_; rintro e w' ⟨rfl, rfl⟩)
      · go_ret
        refine ⟨ret_bool ?_, (Below.refl _ _).alloc (Nat.le_refl _) _⟩
        rw [← H.out, hb]; rfl
      · go_roundw
        case rel => exact ⟨k + 1, by omega, rfl, by rw [← H.out, hb]; rfl⟩
        case measure => simp only [World.iterPos_iter]; omega
    · rw [byte_end _ s k hlt] at hf
      have H := Lib.hid hf; clear hf
      have hnx : ∀ ty, (Instr.next (.pointer (some ⟨w.heap.size, 0, none⟩)) true ty).run Tryz.prog (w.iter s k) = _ := fun ty => run_next_end w s k ty hlt
      go_wp2_with fail
      go_ret
      refine ⟨ret_bool ?_, (Below.refl _ _).alloc (Nat.le_refl _) _⟩
      rw [← H.out, Bool.true_and]
set_option maxRecDepth 100000 in
set_option maxHeartbeats 1000000 in
theorem each_digits (s : ByteArray) (w : World) (hm : s.size ≤ 9223372036854775807) (hasc : Chr.ascii s.toList = true) :
    Calls Tryz.prog 113 #[.string s, .func (Fn.func 114) #[] #[]] w fun e w' => e = .returned (.bool (Chr.allFrom Chr.okDigit 0 s.toList && !s.toList.isEmpty)) ∧ Below w.heap.size w w' := by
  have hempty : (!s.toList.isEmpty) = decide (0 < s.size) := by
    rw [size_list]
    cases s.toList <;> simp
  have HE := Lib.hid hempty; clear hempty
  go_enter Tryz.func113, Tryz.ntmps113
  go_wp2_with fail
  go_loopw [5] (fun _ wr => ∃ k : Nat, k ≤ s.size ∧ wr = w.iter s k ∧ Chr.allFrom Chr.okDigit k (s.toList.drop k) = Chr.allFrom Chr.okDigit 0 s.toList) (fun _ wr => s.size - wr.iterPos w.heap.size)
  case atStart => exact ⟨0, by omega, rfl, rfl⟩
  case round =>
    obtain ⟨k, hk, rfl, hf⟩ := hrel
    by_cases hlt : k < s.size
    · rw [byte_step _ s k hlt] at hf
      have H := Lib.hid hf; clear hf
      have hnx : ∀ ty, (Instr.next (.pointer (some ⟨w.heap.size, 0, none⟩)) true ty).run Tryz.prog (w.iter s k) = _ := fun ty => run_next_ascii w s k ty hlt (ascii_at s k hasc hlt)
      obtain ⟨b, hb⟩ : ∃ b, Chr.okDigit k s[k].toNat = b := ⟨_, rfl⟩
      cases b
      all_goals
        go_wp2_with (go_at_call 114; refine (digits1_p k s[k].toNat (byte_lt s k hlt) _).mono ?_; rintro e w' ⟨rfl, rfl⟩)
      · go_ret
        refine ⟨ret_bool ?_, (Below.refl _ _).alloc (Nat.le_refl _) _⟩
        rw [← H.out, hb]; rfl
      · go_roundw
        case rel => exact ⟨k + 1, by omega, rfl, by rw [← H.out, hb]; rfl⟩
        case measure => simp only [World.iterPos_iter]; omega
    · rw [byte_end _ s k hlt] at hf
      have H := Lib.hid hf; clear hf
      have hnx : ∀ ty, (Instr.next (.pointer (some ⟨w.heap.size, 0, none⟩)) true ty).run Tryz.prog (w.iter s k) = _ := fun ty => run_next_end w s k ty hlt
      go_wp2_with fail
      go_ret
      refine ⟨ret_bool ?_, (Below.refl _ _).alloc (Nat.le_refl _) _⟩
      rw [← H.out, Bool.true_and]
set_option maxRecDepth 100000 in
set_option maxHeartbeats 1000000 in
theorem name_p (s : ByteArray) (w : World) (hm : s.size ≤ 9223372036854775807) : Calls Tryz.prog 92 #[.string s] w fun e w' => e = .returned (.bool (Chr.name s.toList)) ∧ Below w.heap.size w w' := by
  cases ha : Chr.ascii s.toList
  · go_enter Tryz.func92, Tryz.ntmps92
    go_wp2_with (go_at_call 112; refine (ascii_p s _ hm).mono ?_; rintro e w' ⟨rfl, rfl⟩)
    go_ret
    refine ⟨ret_bool ?_, Below.refl _ _⟩
    cases h : Chr.name s.toList
    · rfl
    · rw [Chr.name_ascii _ h] at ha; cases ha
  · have HA := Lib.hid ha
    go_enter Tryz.func92, Tryz.ntmps92
    go_wp2_with (first
      | (go_at_call 112; refine (ascii_p s _ hm).mono ?_; rintro e w' ⟨rfl, rfl⟩)
      | (go_at_call 113; refine (each_name s _ hm HA.out).mono ?_; rintro e w' ⟨rfl, hb⟩))
    go_ret
    exact ⟨rfl, hb⟩
set_option maxRecDepth 100000 in
set_option maxHeartbeats 1000000 in
theorem digits_p (s : ByteArray) (w : World) (hm : s.size ≤ 9223372036854775807) : Calls Tryz.prog 44 #[.string s] w fun e w' => e = .returned (.bool (Chr.digits s.toList)) ∧ Below w.heap.size w w' := by
  cases ha : Chr.ascii s.toList
  · go_enter Tryz.func44, Tryz.ntmps44
    go_wp2_with (go_at_call 112; refine (ascii_p s _ hm).mono ?_; rintro e w' ⟨rfl, rfl⟩)
    go_ret
    refine ⟨ret_bool ?_, Below.refl _ _⟩
    cases h : Chr.digits s.toList
    · rfl
    · rw [Chr.digits_ascii _ h] at ha; cases ha
  · have HA := Lib.hid ha
    go_enter Tryz.func44, Tryz.ntmps44
    go_wp2_with (first
      | (go_at_call 112; refine (ascii_p s _ hm).mono ?_; rintro e w' ⟨rfl, rfl⟩)
      | (go_at_call 113; refine (each_digits s _ hm HA.out).mono ?_; rintro e w' ⟨rfl, hb⟩))
    go_ret
    exact ⟨rfl, hb⟩
end Go.Proofs.YtjpopekmbmcggaaGreatDoor
namespace Go.Proofs.YtjpopekmbmcggaaGreatDoor
open Go.RowKit
theorem empty_size (s : ByteArray) : s.toList.isEmpty = decide (s.size = 0) := by
  rw [size_list]; cases s.toList <;> simp
theorem ne_cast (a k : Nat) : (((a : Nat) : Int) != (k : Int)) = (a != k) := by
  by_cases h : a = k
  · rw [h]; simp
  · rw [bne_iff_ne.2 h, bne_iff_ne.2 (by omega)]
theorem cls_ne (c k : Nat) : (((Chr.cls c : Nat) : Int) != (k : Int)) = (Chr.cls c != k) := ne_cast _ _
set_option maxRecDepth 100000 in
set_option maxHeartbeats 1000000 in
theorem name_r (s : ByteArray) (w : World) (hm : s.size ≤ 9223372036854775807) : Calls Tryz.prog 103 #[.string s] w fun e w' => e = .returned (.bool (Chr.name s.toList)) ∧ w = w' := by
  have hfin : Chr.name s.toList = (Chr.allFrom Chr.okName 0 s.toList && decide (0 < s.size)) := by
    unfold Chr.name; rw [empty_size]; congr 1; by_cases h : s.size = 0 <;> simp [h]; omega
  have HN := Lib.hid hfin; clear hfin
  go_enter Tryz.func103, Tryz.ntmps103
  go_wp2_with fail
  go_loop [3, 4] (fun i _ => ∃ k : Nat, k ≤ s.size ∧ i = .int .i64 k ∧ Chr.allFrom Chr.okName k (s.toList.drop k) = Chr.allFrom Chr.okName 0 s.toList) (fun i _ => s.size - (intOf i).toNat)
  case atStart => exact ⟨0, by omega, rfl, rfl⟩
  case round =>
    obtain ⟨k, hk, rfl, hf⟩ := hrel
    by_cases hlt : k < s.size
    · rw [byte_step _ s k hlt] at hf
      have H := Lib.hid hf; clear hf
      have e4 : (((Chr.cls s[k].toNat : Nat) : Int) != 4) = (Chr.cls s[k].toNat != 4) := cls_ne _ 4
      have e3 : (((Chr.cls s[k].toNat : Nat) : Int) != 3) = (Chr.cls s[k].toNat != 3) := cls_ne _ 3
      have HP := Lib.hid (show Chr.okName k s[k].toNat = (!(Chr.cls s[k].toNat != 4) || !(Chr.cls s[k].toNat != 3) && decide (0 < k)) by unfold Chr.okName; simp [bne])
      rcases Nat.eq_zero_or_pos k with rfl | hi
      · skip
        cases h4 : Chr.cls s[0].toNat != 4 <;> cases h3 : Chr.cls s[0].toNat != 3
        all_goals
          rw [h4, h3] at HP
          rw [h3] at e3; rw [h4] at e4; clear h3 h4
          go_wp2_with (go_at_call 122; refine (class_r s[0].toNat (byte_lt s 0 hlt) _).mono ?_; rintro e w' ⟨rfl, rfl⟩)
          first
            | (go_ret
               refine ⟨ret_bool ?_, rfl⟩
               rw [HN.out, ← H.out, HP.out]; rfl)
            | (go_round
               case rel => exact ⟨0 + 1, by omega, by go_num, by rw [← H.out, HP.out]; rfl⟩
               case measure => simp only [intOf]; omega)
      · have hk0 : ((k : Int) == 0) = false := by rw [beq_eq_false_iff_ne]; omega
        rw [decide_eq_true hi] at HP
        cases h4 : Chr.cls s[k].toNat != 4 <;> cases h3 : Chr.cls s[k].toNat != 3
        all_goals
          rw [h4, h3] at HP
          rw [h3] at e3; rw [h4] at e4; clear h3 h4
          go_wp2_with (go_at_call 122; refine (class_r s[k].toNat (byte_lt s k hlt) _).mono ?_; rintro e w' ⟨rfl, rfl⟩)
          first
            | (go_ret
               refine ⟨ret_bool ?_, rfl⟩
               rw [HN.out, ← H.out, HP.out]; rfl)
            | (go_round
               case rel => exact ⟨k + 1, by omega, by go_num, by rw [← H.out, HP.out]; rfl⟩
               case measure => simp only [intOf]; omega)
    · rw [byte_end _ s k hlt] at hf
      have H := Lib.hid hf; clear hf
      go_wp2_with fail
      go_ret
      refine ⟨ret_bool ?_, rfl⟩
      rw [HN.out, ← H.out, Bool.true_and]
set_option maxRecDepth 100000 in
set_option maxHeartbeats 1000000 in
theorem digits_r (s : ByteArray) (w : World) (hm : s.size ≤ 9223372036854775807) : Calls Tryz.prog 47 #[.string s] w fun e w' => e = .returned (.bool (Chr.digits s.toList)) ∧ w = w' := by
  have hfin : Chr.digits s.toList = (Chr.allFrom Chr.okDigit 0 s.toList && decide (0 < s.size)) := by
    unfold Chr.digits; rw [empty_size]; congr 1; by_cases h : s.size = 0 <;> simp [h]; omega
  have HN := Lib.hid hfin; clear hfin
  go_enter Tryz.func47, Tryz.ntmps47
  go_wp2_with fail
  go_loop [3] (fun i => ∃ k : Nat, k ≤ s.size ∧ i = .int .i64 k ∧ Chr.allFrom Chr.okDigit k (s.toList.drop k) = Chr.allFrom Chr.okDigit 0 s.toList) (fun i => s.size - (intOf i).toNat)
  case atStart => exact ⟨0, by omega, rfl, rfl⟩
  case round =>
    obtain ⟨k, hk, rfl, hf⟩ := hrel
    by_cases hlt : k < s.size
    · rw [byte_step _ s k hlt] at hf
      have H := Lib.hid hf; clear hf
      have e3 : (((Chr.cls s[k].toNat : Nat) : Int) != 3) = (Chr.cls s[k].toNat != 3) := cls_ne _ 3
      have HP := Lib.hid (show Chr.okDigit k s[k].toNat = !(Chr.cls s[k].toNat != 3) by unfold Chr.okDigit; simp [bne])
      cases h3 : Chr.cls s[k].toNat != 3
      all_goals
        rw [h3] at e3 HP; clear h3
        go_wp2_with (go_at_call 122; refine (class_r s[k].toNat (byte_lt s k hlt) _).mono ?_; rintro e w' ⟨rfl, rfl⟩)
      · go_round
        case rel => exact ⟨k + 1, by omega, by go_num, by rw [← H.out, HP.out]; rfl⟩
        case measure => simp only [intOf]; omega
      · go_ret
        refine ⟨ret_bool ?_, rfl⟩
        rw [HN.out, ← H.out, HP.out]; rfl
    · rw [byte_end _ s k hlt] at hf
      have H := Lib.hid hf; clear hf
      go_wp2_with fail
      go_ret
      refine ⟨ret_bool ?_, rfl⟩
      rw [HN.out, ← H.out, Bool.true_and]
theorem assign_eq (s : ByteArray) (k m : Nat) (h : k < s.size) (hm : s.size - k = m + 1) :
    Chr.assignFrom s.toList k (s.size - k) = if s[k].toNat = 61 then (if Chr.name (s.toList.take k) then (k : Int) else -1) else Chr.assignFrom s.toList (k + 1) m := by
  rw [hm, Chr.assignFrom]
  have e : s.toList.getD k 0 = s[k] := by rw [List.getD_eq_getElem?_getD, get?_list s k h]; rfl
  rw [e]
set_option maxRecDepth 100000 in
set_option maxHeartbeats 1000000 in
theorem assign_r (s : ByteArray) (w : World) (hm : s.size ≤ 9223372036854775807) : Calls Tryz.prog 178 #[.string s] w fun e w' => e = .returned (.int .i64 (Chr.assign s.toList)) ∧ w = w' := by
  have HA := Lib.hid (show Chr.assign s.toList = Chr.assignFrom s.toList 0 (s.size - 0) by rw [Chr.assign, ← size_list]; rfl)
  go_enter Tryz.func178, Tryz.ntmps178
  go_wp2_with fail
  go_loop [3] (fun i => ∃ k : Nat, k ≤ s.size ∧ i = .int .i64 k ∧ Chr.assignFrom s.toList k (s.size - k) = Chr.assignFrom s.toList 0 (s.size - 0)) (fun i => s.size - (intOf i).toNat)
  case atStart => exact ⟨0, by omega, rfl, rfl⟩
  case round =>
    obtain ⟨k, hk, rfl, hf⟩ := hrel
    by_cases hlt : k < s.size
    · obtain ⟨m, hm1⟩ : ∃ m, s.size - k = m + 1 := ⟨s.size - k - 1, by omega⟩
      have hm2 : s.size - (k + 1) = m := by omega
      rw [assign_eq s k m hlt hm1] at hf
      have H := Lib.hid hf; clear hf
      have HM2 := Lib.hid hm2; clear hm1 hm2
      by_cases h61 : s[k].toNat = 61
      · have h := H.out
        rw [if_pos h61] at h
        have H2 := Lib.hid h; clear h H
        have hb : (((s[k].toNat : Nat) : Int) != 61) = false := by rw [h61]; rfl
        clear h61
        have hsz : (s.extract 0 k).size ≤ 9223372036854775807 := by rw [size_list, take_list, List.length_take]; omega
        have HS := Lib.hid hsz; clear hsz
        cases hn : Chr.name (s.toList.take k)
        all_goals
          have HN := Lib.hid hn
          go_wp2_with (go_at_call 103; refine (name_r _ _ HS.out).mono ?_; rintro e w' ⟨rfl, rfl⟩; rw [take_list])
          go_ret
          refine ⟨ret_int ?_, rfl⟩
          rw [HA.out, ← H2.out, HN.out]
          rfl
      · have h := H.out
        rw [if_neg h61] at h
        have H2 := Lib.hid h; clear h H
        have hb : (((s[k].toNat : Nat) : Int) != 61) = true := by rw [bne_iff_ne]; omega
        go_wp2_with fail
        go_round
        case rel => exact ⟨k + 1, by omega, by go_num, by rw [HM2.out]; exact H2.out⟩
        case measure => simp only [intOf]; omega
    · have hz : s.size - k = 0 := by omega
      rw [hz] at hf
      have H := Lib.hid hf; clear hf hz
      go_wp2_with fail
      go_ret
      refine ⟨ret_int ?_, rfl⟩
      rw [HA.out, ← H.out]
      rfl
end Go.Proofs.YtjpopekmbmcggaaGreatDoor
namespace Go.Proofs.YtjpopekmbmcggaaGreatDoor.Chr
open Go
theorem idx_hit {a c : UInt8} (l : List UInt8) (h : a = c) : Lib.indexByte (a :: l) c = 0 := by simp [Lib.indexByte, h]
theorem idx_miss {a c : UInt8} (l : List UInt8) (h : a ≠ c) : Lib.indexByte (a :: l) c = if Lib.indexByte l c = -1 then -1 else Lib.indexByte l c + 1 := by
  have hb : (a == c) = false := by rw [beq_eq_false_iff_ne]; exact h
  rw [Lib.indexByte, hb]
  by_cases hm : Lib.indexByte l c = -1
  · simp [hm]
  · simp [hm]
theorem assignFrom_eq (l : List UInt8) : ∀ (n i : Nat), i + n = l.length →
    assignFrom l i n = if Lib.indexByte (l.drop i) 61 = -1 then -1 else if name (l.take (i + (Lib.indexByte (l.drop i) 61).toNat)) then (i : Int) + Lib.indexByte (l.drop i) 61 else -1
  | 0, i, h => by
    rw [List.drop_of_length_le (by omega)]
    rfl
  | n + 1, i, h => by
    have hi : i < l.length := by omega
    rw [List.drop_eq_getElem_cons hi]
    have e : l.getD i 0 = l[i] := by rw [List.getD_eq_getElem?_getD, List.getElem?_eq_getElem hi]; rfl
    rw [assignFrom, e]
    by_cases h61 : l[i].toNat = 61
    · rw [if_pos h61, idx_hit _ (UInt8.toNat_inj.1 h61)]
      have h0 : ¬ ((0 : Int) = -1) := by decide
      rw [if_neg h0, show i + (0 : Int).toNat = i from rfl, Int.add_zero]
    · rw [if_neg h61, assignFrom_eq l n (i + 1) (by omega), idx_miss _ (fun e => h61 (by rw [e]; rfl))]
      have hge := Lib.indexByte_ge (l.drop (i + 1)) 61
      by_cases hm : Lib.indexByte (l.drop (i + 1)) 61 = -1
      · rw [if_pos hm, if_pos hm, if_pos rfl]
      · have hx : ¬ (Lib.indexByte (l.drop (i + 1)) 61 + 1 = -1) := by omega
        rw [if_neg hm, if_neg hm, if_neg hx]
        have e2 : i + 1 + (Lib.indexByte (l.drop (i + 1)) 61).toNat = i + (Lib.indexByte (l.drop (i + 1)) 61 + 1).toNat := by omega
        rw [e2]
        split
        · omega
        · rfl
theorem assign_eq (l : List UInt8) : assign l = if Lib.indexByte l 61 = -1 then -1 else if name (l.take (Lib.indexByte l 61).toNat) then Lib.indexByte l 61 else -1 := by
  unfold assign
  rw [assignFrom_eq l l.length 0 (by omega)]
  simp
theorem indexByte_lt (c : UInt8) : ∀ s : List UInt8, Lib.indexByte s c < s.length ∨ Lib.indexByte s c = -1
  | [] => .inr rfl
  | a :: s => by
    have ih := indexByte_lt c s
    by_cases ha : a = c
    · rw [idx_hit _ ha, List.length_cons]; left; omega
    · rw [idx_miss _ ha, List.length_cons]
      by_cases hm : Lib.indexByte s c = -1
      · rw [if_pos hm]; exact .inr rfl
      · rw [if_neg hm]; left; omega
end Go.Proofs.YtjpopekmbmcggaaGreatDoor.Chr
namespace Go.Proofs.YtjpopekmbmcggaaGreatDoor
open Go.RowKit
theorem indexByte_61 (s : ByteArray) (w : World) : Calls Tryz.prog 216 #[.string s, .int .u8 61] w fun e w' => e = .returned (.int .i64 (Lib.indexByte s.toList 61)) ∧ w = w' := indexByte_p s 61 w
set_option maxRecDepth 100000 in
set_option maxHeartbeats 2000000 in
theorem assign_p (s : ByteArray) (w : World) (hm : s.size ≤ 9223372036854775807) : Calls Tryz.prog 211 #[.string s] w fun e w' => e = .returned (.int .i64 (Chr.assign s.toList)) ∧ Below w.heap.size w w' := by
  have HA := Lib.hid (Chr.assign_eq s.toList)
  have hge := Lib.indexByte_ge s.toList 61
  have hlt := Chr.indexByte_lt 61 s.toList
  rw [← size_list] at hlt
  by_cases hi : Lib.indexByte s.toList 61 = -1
  · have HI := Lib.hid hi
    clear hge hlt
    go_enter Tryz.func211, Tryz.ntmps211
    go_wp2_with (go_at_call 216; refine (indexByte_61 _ _).mono ?_; rintro e w' ⟨rfl, rfl⟩)
    go_ret
    refine ⟨ret_int ?_, Below.refl _ _⟩
    rw [HA.out, if_pos HI.out]
  · obtain ⟨k, hk⟩ : ∃ k : Nat, Lib.indexByte s.toList 61 = k := ⟨(Lib.indexByte s.toList 61).toNat, by omega⟩
    have hks : k ≤ s.size := by rcases hlt with h | h <;> omega
    have HK := Lib.hid hk
    clear hi hge hlt
    have hsz : (s.extract 0 k).size ≤ 9223372036854775807 := by rw [size_list, take_list, List.length_take]; omega
    have HS := Lib.hid hsz; clear hsz
    cases hn : Chr.name (s.toList.take k)
    all_goals
      have HN := Lib.hid hn
      go_enter Tryz.func211, Tryz.ntmps211
      go_wp2_with (first
        | (go_at_call 216; refine (indexByte_61 _ _).mono ?_; rintro e w' ⟨rfl, rfl⟩)
        | (go_at_call 92; refine (name_p _ _ HS.out).mono ?_; rintro e w' ⟨rfl, hb⟩; rw [take_list]))
      go_ret
      refine ⟨ret_int ?_, hb⟩
      rw [HA.out, HK.out, if_neg (by omega), Int.toNat_natCast, HN.out]
      rfl
end Go.Proofs.YtjpopekmbmcggaaGreatDoor
