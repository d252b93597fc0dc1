/- The class of a byte, as the program and as the reference tell it, and the reference's parameters of one sign: walked, for every byte. -/
import Derived.Test.YtpefkhbejjndeaaBase
import Derived.Test.YtpefkhbejjndeaaCharPlain
namespace Go.Proofs.Ytpefkhbejjndeaa
open Go.RowKit

theorem or32 : ∀ c : Fin 256, (97 ≤ bits .or .u8 (c.val : Int) 32 ∧ bits .or .u8 (c.val : Int) 32 ≤ 122) ↔ (97 ≤ c.val ∧ c.val ≤ 122 ∨ 65 ≤ c.val ∧ c.val ≤ 90) := by decide +kernel

theorem or32_yes (c : Nat) (hc : c < 256) (h : 97 ≤ c ∧ c ≤ 122 ∨ 65 ≤ c ∧ c ≤ 90) : 97 ≤ bits .or .u8 (c : Int) 32 ∧ bits .or .u8 (c : Int) 32 ≤ 122 := (or32 ⟨c, hc⟩).2 h
theorem or32_no (c : Nat) (hc : c < 256) (h : ¬ (97 ≤ c ∧ c ≤ 122 ∨ 65 ≤ c ∧ c ≤ 90)) : bits .or .u8 (c : Int) 32 < 97 ∨ 122 < bits .or .u8 (c : Int) 32 := by
  have : ¬ (97 ≤ bits .or .u8 (c : Int) 32 ∧ bits .or .u8 (c : Int) 32 ≤ 122) := mt (or32 ⟨c, hc⟩).1 h
  omega

set_option maxHeartbeats 1000000 in
theorem letter_p (c : Nat) (hc : c < 256) (w : World) (hs : ¬ Chr.Sign c ∨ c = 95) : Calls Try.prog 54 #[.int .u8 (c : Int)] w fun e w' => e = .returned (.int .i64 (Chr.cls c : Nat)) ∧ w = w' := by
  rcases Chr.cls_cases c with h | ⟨h1, h2, h3⟩ | ⟨h1, h2, h3⟩ | ⟨h1, h2, h3⟩ | ⟨h1, h3⟩
  · rcases hs with hs | rfl
    · exact absurd h hs
    · go_enter Try.func54, Try.ntmps54
      go_wp2
      go_ret
      exact ⟨rfl, rfl⟩
  · have H := Lib.hid h3; clear h3
    go_enter Try.func54, Try.ntmps54
    go_wp2
    go_ret
    exact ⟨ret_int (by rw [H.out]; rfl), rfl⟩
  · have H := Lib.hid h3; clear h3
    obtain ⟨o1, o2⟩ := or32_yes c hc (by omega)
    go_enter Try.func54, Try.ntmps54
    go_wp2
    go_ret
    exact ⟨ret_int (by rw [H.out]; rfl), rfl⟩
  · have H := Lib.hid h3; clear h3
    obtain ⟨o1, o2⟩ := or32_yes c hc (by omega)
    go_enter Try.func54, Try.ntmps54
    go_wp2
    go_ret
    exact ⟨ret_int (by rw [H.out]; rfl), rfl⟩
  · have H := Lib.hid h3; clear h3
    obtain ⟨hs', d1, d2, d3⟩ := h1
    have h95 : c ≠ 95 := hs'.2.2.2.2.1
    clear hs' hs
    rcases or32_no c hc (by omega) with o | o
    all_goals
      rcases (show c < 48 ∨ 57 < c by omega) with k | k
      all_goals
        clear d1 d2 d3
        go_enter Try.func54, Try.ntmps54
        go_wp2
        go_ret
        exact ⟨ret_int (by rw [H.out]; rfl), rfl⟩

set_option maxHeartbeats 4000000 in
theorem class_p (c : Nat) (hc : c < 256) (w : World) : Calls Try.prog 13 #[.int .u8 (c : Int)] w fun e w' => e = .returned (.int .i64 (Chr.cls c : Nat)) ∧ w = w' := by
  rcases Chr.cls_cases c with h | h
  · unfold Chr.Sign at h
    rcases h with rfl | rfl | rfl | rfl | rfl | rfl | rfl | rfl | rfl | rfl | rfl | rfl | rfl | rfl | rfl | rfl | rfl
    all_goals
      go_enter Try.func13, Try.ntmps13
      go_wp2_with (go_at_call 54; refine (letter_p 95 (by omega) _ (.inr rfl)).mono ?_; rintro e w' ⟨rfl, rfl⟩)
      go_ret
      exact ⟨rfl, rfl⟩
  · have hs : ¬ Chr.Sign c := by
      unfold Chr.Sign
      rcases h with h | h | h | h
      · omega
      · omega
      · omega
      · exact fun e => by obtain ⟨⟨h, _⟩, _⟩ := h; omega
    have HS := Lib.hid hs
    unfold Chr.Sign at hs
    simp only [not_or] at hs
    obtain ⟨n1, n2, n3, n4, n5, n6, n7, n8, n9, n10, n11, n12, n13, n14, n15, n16, n17⟩ := hs
    clear h
    go_enter Try.func13, Try.ntmps13
    go_wp2_with (go_at_call 54; refine (letter_p c hc _ (.inl HS.out)).mono ?_; rintro e w' ⟨rfl, rfl⟩)
    go_ret
    exact ⟨rfl, rfl⟩

set_option maxHeartbeats 4000000 in
theorem class_r (c : Nat) (hc : c < 256) (w : World) : Calls Try.prog 14 #[.int .u8 (c : Int)] w fun e w' => e = .returned (.int .i64 (Chr.cls c : Nat)) ∧ w = w' := by
  rcases Chr.cls_cases c with h | ⟨h1, h2, h3⟩ | ⟨h1, h2, h3⟩ | ⟨h1, h2, h3⟩ | ⟨h1, h3⟩
  · unfold Chr.Sign at h
    rcases h with rfl | rfl | rfl | rfl | rfl | rfl | rfl | rfl | rfl | rfl | rfl | rfl | rfl | rfl | rfl | rfl | rfl
    all_goals
      go_enter Try.func14, Try.ntmps14
      go_wp2
      go_ret
      exact ⟨rfl, rfl⟩
  all_goals have H := Lib.hid h3; clear h3
  · skip
    have b0 : ((c : Int) == 0) = false := by rw [beq_eq_false_iff_ne]; omega
    have b32 : ((c : Int) == 32) = false := by rw [beq_eq_false_iff_ne]; omega
    have b9 : ((c : Int) == 9) = false := by rw [beq_eq_false_iff_ne]; omega
    have b10 : ((c : Int) == 10) = false := by rw [beq_eq_false_iff_ne]; omega
    have b95 : ((c : Int) == 95) = false := by rw [beq_eq_false_iff_ne]; omega
    have b38 : ((c : Int) == 38) = false := by rw [beq_eq_false_iff_ne]; omega
    have b124 : ((c : Int) == 124) = false := by rw [beq_eq_false_iff_ne]; omega
    have b59 : ((c : Int) == 59) = false := by rw [beq_eq_false_iff_ne]; omega
    have b60 : ((c : Int) == 60) = false := by rw [beq_eq_false_iff_ne]; omega
    have b62 : ((c : Int) == 62) = false := by rw [beq_eq_false_iff_ne]; omega
    have b40 : ((c : Int) == 40) = false := by rw [beq_eq_false_iff_ne]; omega
    have b41 : ((c : Int) == 41) = false := by rw [beq_eq_false_iff_ne]; omega
    have b39 : ((c : Int) == 39) = false := by rw [beq_eq_false_iff_ne]; omega
    have b34 : ((c : Int) == 34) = false := by rw [beq_eq_false_iff_ne]; omega
    have b92 : ((c : Int) == 92) = false := by rw [beq_eq_false_iff_ne]; omega
    have b96 : ((c : Int) == 96) = false := by rw [beq_eq_false_iff_ne]; omega
    have b36 : ((c : Int) == 36) = false := by rw [beq_eq_false_iff_ne]; omega
    go_enter Try.func14, Try.ntmps14
    go_wp2
    go_ret
    exact ⟨ret_int (by rw [H.out]; rfl), rfl⟩
  · skip
    have b0 : ((c : Int) == 0) = false := by rw [beq_eq_false_iff_ne]; omega
    have b32 : ((c : Int) == 32) = false := by rw [beq_eq_false_iff_ne]; omega
    have b9 : ((c : Int) == 9) = false := by rw [beq_eq_false_iff_ne]; omega
    have b10 : ((c : Int) == 10) = false := by rw [beq_eq_false_iff_ne]; omega
    have b95 : ((c : Int) == 95) = false := by rw [beq_eq_false_iff_ne]; omega
    have b38 : ((c : Int) == 38) = false := by rw [beq_eq_false_iff_ne]; omega
    have b124 : ((c : Int) == 124) = false := by rw [beq_eq_false_iff_ne]; omega
    have b59 : ((c : Int) == 59) = false := by rw [beq_eq_false_iff_ne]; omega
    have b60 : ((c : Int) == 60) = false := by rw [beq_eq_false_iff_ne]; omega
    have b62 : ((c : Int) == 62) = false := by rw [beq_eq_false_iff_ne]; omega
    have b40 : ((c : Int) == 40) = false := by rw [beq_eq_false_iff_ne]; omega
    have b41 : ((c : Int) == 41) = false := by rw [beq_eq_false_iff_ne]; omega
    have b39 : ((c : Int) == 39) = false := by rw [beq_eq_false_iff_ne]; omega
    have b34 : ((c : Int) == 34) = false := by rw [beq_eq_false_iff_ne]; omega
    have b92 : ((c : Int) == 92) = false := by rw [beq_eq_false_iff_ne]; omega
    have b96 : ((c : Int) == 96) = false := by rw [beq_eq_false_iff_ne]; omega
    have b36 : ((c : Int) == 36) = false := by rw [beq_eq_false_iff_ne]; omega
    go_enter Try.func14, Try.ntmps14
    go_wp2
    go_ret
    exact ⟨ret_int (by rw [H.out]; rfl), rfl⟩
  · skip
    have b0 : ((c : Int) == 0) = false := by rw [beq_eq_false_iff_ne]; omega
    have b32 : ((c : Int) == 32) = false := by rw [beq_eq_false_iff_ne]; omega
    have b9 : ((c : Int) == 9) = false := by rw [beq_eq_false_iff_ne]; omega
    have b10 : ((c : Int) == 10) = false := by rw [beq_eq_false_iff_ne]; omega
    have b95 : ((c : Int) == 95) = false := by rw [beq_eq_false_iff_ne]; omega
    have b38 : ((c : Int) == 38) = false := by rw [beq_eq_false_iff_ne]; omega
    have b124 : ((c : Int) == 124) = false := by rw [beq_eq_false_iff_ne]; omega
    have b59 : ((c : Int) == 59) = false := by rw [beq_eq_false_iff_ne]; omega
    have b60 : ((c : Int) == 60) = false := by rw [beq_eq_false_iff_ne]; omega
    have b62 : ((c : Int) == 62) = false := by rw [beq_eq_false_iff_ne]; omega
    have b40 : ((c : Int) == 40) = false := by rw [beq_eq_false_iff_ne]; omega
    have b41 : ((c : Int) == 41) = false := by rw [beq_eq_false_iff_ne]; omega
    have b39 : ((c : Int) == 39) = false := by rw [beq_eq_false_iff_ne]; omega
    have b34 : ((c : Int) == 34) = false := by rw [beq_eq_false_iff_ne]; omega
    have b92 : ((c : Int) == 92) = false := by rw [beq_eq_false_iff_ne]; omega
    have b96 : ((c : Int) == 96) = false := by rw [beq_eq_false_iff_ne]; omega
    have b36 : ((c : Int) == 36) = false := by rw [beq_eq_false_iff_ne]; omega
    go_enter Try.func14, Try.ntmps14
    go_wp2
    go_ret
    exact ⟨ret_int (by rw [H.out]; rfl), rfl⟩
  · obtain ⟨⟨n1, n2, n3, n4, n5, n6, n7, n8, n9, n10, n11, n12, n13, n14, n15, n16, n17⟩, d1, d2, d3⟩ := h1
    have cs : c < 48 ∨ 57 < c ∧ c < 65 ∨ 90 < c ∧ c < 97 ∨ 122 < c := by omega
    have b0 : ((c : Int) == 0) = false := by rw [beq_eq_false_iff_ne]; omega
    have b32 : ((c : Int) == 32) = false := by rw [beq_eq_false_iff_ne]; omega
    have b9 : ((c : Int) == 9) = false := by rw [beq_eq_false_iff_ne]; omega
    have b10 : ((c : Int) == 10) = false := by rw [beq_eq_false_iff_ne]; omega
    have b95 : ((c : Int) == 95) = false := by rw [beq_eq_false_iff_ne]; omega
    have b38 : ((c : Int) == 38) = false := by rw [beq_eq_false_iff_ne]; omega
    have b124 : ((c : Int) == 124) = false := by rw [beq_eq_false_iff_ne]; omega
    have b59 : ((c : Int) == 59) = false := by rw [beq_eq_false_iff_ne]; omega
    have b60 : ((c : Int) == 60) = false := by rw [beq_eq_false_iff_ne]; omega
    have b62 : ((c : Int) == 62) = false := by rw [beq_eq_false_iff_ne]; omega
    have b40 : ((c : Int) == 40) = false := by rw [beq_eq_false_iff_ne]; omega
    have b41 : ((c : Int) == 41) = false := by rw [beq_eq_false_iff_ne]; omega
    have b39 : ((c : Int) == 39) = false := by rw [beq_eq_false_iff_ne]; omega
    have b34 : ((c : Int) == 34) = false := by rw [beq_eq_false_iff_ne]; omega
    have b92 : ((c : Int) == 92) = false := by rw [beq_eq_false_iff_ne]; omega
    have b96 : ((c : Int) == 96) = false := by rw [beq_eq_false_iff_ne]; omega
    have b36 : ((c : Int) == 36) = false := by rw [beq_eq_false_iff_ne]; omega
    clear n1 n2 n3 n4 n5 n6 n7 n8 n9 n10 n11 n12 n13 n14 n15 n16 n17
    rcases cs with k | k | k | k
    all_goals
      clear d1 d2 d3
      go_enter Try.func14, Try.ntmps14
      go_wp2
      go_ret
      exact ⟨ret_int (by rw [H.out]; rfl), rfl⟩

set_option maxHeartbeats 1000000 in
theorem special_r (c : Nat) (w : World) : Calls Try.prog 16 #[.int .u8 (c : Int)] w fun e w' => e = .returned (.bool (Chr.special c)) ∧ w = w' := by
  by_cases h : c = 64 ∨ c = 42 ∨ c = 35 ∨ c = 63 ∨ c = 45 ∨ c = 36 ∨ c = 33
  · rcases h with rfl | rfl | rfl | rfl | rfl | rfl | rfl
    all_goals
      go_enter Try.func16, Try.ntmps16
      go_wp2
      go_ret
      exact ⟨rfl, rfl⟩
  · simp only [not_or] at h
    obtain ⟨n1, n2, n3, n4, n5, n6, n7⟩ := h
    have H := Lib.hid (show Chr.special c = false by simp [Chr.special, n1, n2, n3, n4, n5, n6, n7])
    have b64 : ((c : Int) == 64) = false := by rw [beq_eq_false_iff_ne]; omega
    have b42 : ((c : Int) == 42) = false := by rw [beq_eq_false_iff_ne]; omega
    have b35 : ((c : Int) == 35) = false := by rw [beq_eq_false_iff_ne]; omega
    have b63 : ((c : Int) == 63) = false := by rw [beq_eq_false_iff_ne]; omega
    have b45 : ((c : Int) == 45) = false := by rw [beq_eq_false_iff_ne]; omega
    have b36 : ((c : Int) == 36) = false := by rw [beq_eq_false_iff_ne]; omega
    have b33 : ((c : Int) == 33) = false := by rw [beq_eq_false_iff_ne]; omega
    clear n1 n2 n3 n4 n5 n6 n7
    go_enter Try.func16, Try.ntmps16
    go_wp2
    go_ret
    exact ⟨ret_bool H.out.symm, rfl⟩
end Go.Proofs.Ytpefkhbejjndeaa
