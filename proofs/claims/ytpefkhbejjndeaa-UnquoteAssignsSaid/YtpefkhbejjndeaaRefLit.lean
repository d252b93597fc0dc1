/- What conchref24 answers on texts: special, dollar, literal, clear, arith, op. -/
import Derived.Test.YtpefkhbejjndeaaPartPlain
import Derived.Test.YtpefkhbejjndeaaCharRef
import Derived.Test.YtpefkhbejjndeaaBase
import Derived.LoopTactic
namespace Go.Proofs.Ytpefkhbejjndeaa
open Go.RowKit

theorem drop_cons'' (s : ByteArray) (k : Nat) (h : k < s.size) : s.toList.drop k = s[k] :: s.toList.drop (k + 1) := by
  rw [List.drop_eq_getElem_cons (by rw [← size_list]; exact h), get_list s k h]
theorem drop_head (s : ByteArray) (k : Nat) (h : k < s.size) : (s.toList.drop k).head? = some s[k] := by rw [drop_cons'' s k h]; rfl
theorem drop_none (s : ByteArray) (k : Nat) (h : ¬ k < s.size) : s.toList.drop k = [] := List.drop_of_length_le (by rw [← size_list]; omega)

set_option maxRecDepth 100000 in
set_option maxHeartbeats 4000000 in
theorem special24_r (n : Int) (w : World) : Calls Try.prog 100 #[.int .u8 n] w fun e w' => e = .returned (.bool (special24 n)) ∧ w = w' := by
  cases h36 : (n == 36)
  · cases h96 : (n == 96)
    · cases h34 : (n == 34)
      · cases h92 : (n == 92)
        · have HF := Lib.hid (show special24 n = false by simp [special24, h36, h96, h34, h92])
          go_enter Try.func100, Try.ntmps100
          go_wp2
          go_ret
          exact ⟨by rw [HF.out]; rfl, rfl⟩
        · have HF := Lib.hid (show special24 n = true by simp [special24, h36, h96, h34, h92])
          go_enter Try.func100, Try.ntmps100
          go_wp2
          go_ret
          exact ⟨by rw [HF.out]; rfl, rfl⟩
      · have HF := Lib.hid (show special24 n = true by simp [special24, h36, h96, h34])
        go_enter Try.func100, Try.ntmps100
        go_wp2
        go_ret
        exact ⟨by rw [HF.out]; rfl, rfl⟩
    · have HF := Lib.hid (show special24 n = true by simp [special24, h36, h96])
      go_enter Try.func100, Try.ntmps100
      go_wp2
      go_ret
      exact ⟨by rw [HF.out]; rfl, rfl⟩
  · have HF := Lib.hid (show special24 n = true by simp [special24, h36])
    go_enter Try.func100, Try.ntmps100
    go_wp2
    go_ret
    exact ⟨by rw [HF.out]; rfl, rfl⟩

set_option maxRecDepth 100000 in
set_option maxHeartbeats 4000000 in
theorem dollar_r (c : Nat) (hc : c < 256) (w : World) : Calls Try.prog 112 #[.int .u8 (c : Int)] w fun e w' => e = .returned (.bool (dollarB c)) ∧ w = w' := by
  cases h4 : ((Chr.cls c : Int) != 4)
  · have HF := Lib.hid (show dollarB c = false by simp [dollarB, h4])
    go_enter Try.func112, Try.ntmps112
    go_wp2_with (first | (go_at_call 14; refine (class_r c hc _).mono ?_; rintro e w' ⟨rfl, rfl⟩) | (go_at_call 16; refine (special_r c _).mono ?_; rintro e w' ⟨rfl, rfl⟩))
    go_ret
    exact ⟨by rw [HF.out]; rfl, rfl⟩
  · cases h3 : ((Chr.cls c : Int) != 3)
    · have HF := Lib.hid (show dollarB c = false by simp [dollarB, h4, h3])
      go_enter Try.func112, Try.ntmps112
      go_wp2_with (first | (go_at_call 14; refine (class_r c hc _).mono ?_; rintro e w' ⟨rfl, rfl⟩) | (go_at_call 16; refine (special_r c _).mono ?_; rintro e w' ⟨rfl, rfl⟩))
      go_ret
      exact ⟨by rw [HF.out]; rfl, rfl⟩
    · cases hs : Chr.special c
      · cases h123 : ((c : Int) != 123)
        · have HF := Lib.hid (show dollarB c = false by simp [dollarB, h4, h3, hs, h123])
          go_enter Try.func112, Try.ntmps112
          go_wp2_with (first | (go_at_call 14; refine (class_r c hc _).mono ?_; rintro e w' ⟨rfl, rfl⟩) | (go_at_call 16; refine (special_r c _).mono ?_; rintro e w' ⟨rfl, rfl⟩))
          go_ret
          exact ⟨by rw [HF.out]; rfl, rfl⟩
        · cases h40 : ((c : Int) != 40)
          · have HF := Lib.hid (show dollarB c = false by simp [dollarB, h4, h3, hs, h123, h40])
            go_enter Try.func112, Try.ntmps112
            go_wp2_with (first | (go_at_call 14; refine (class_r c hc _).mono ?_; rintro e w' ⟨rfl, rfl⟩) | (go_at_call 16; refine (special_r c _).mono ?_; rintro e w' ⟨rfl, rfl⟩))
            go_ret
            exact ⟨by rw [HF.out]; rfl, rfl⟩
          · have HF := Lib.hid (show dollarB c = true by simp [dollarB, h4, h3, hs, h123, h40])
            go_enter Try.func112, Try.ntmps112
            go_wp2_with (first | (go_at_call 14; refine (class_r c hc _).mono ?_; rintro e w' ⟨rfl, rfl⟩) | (go_at_call 16; refine (special_r c _).mono ?_; rintro e w' ⟨rfl, rfl⟩))
            go_ret
            exact ⟨by rw [HF.out]; rfl, rfl⟩
      · have HF := Lib.hid (show dollarB c = false by simp [dollarB, h4, h3, hs])
        go_enter Try.func112, Try.ntmps112
        go_wp2_with (first | (go_at_call 14; refine (class_r c hc _).mono ?_; rintro e w' ⟨rfl, rfl⟩) | (go_at_call 16; refine (special_r c _).mono ?_; rintro e w' ⟨rfl, rfl⟩))
        go_ret
        exact ⟨by rw [HF.out]; rfl, rfl⟩

set_option maxRecDepth 100000 in
set_option maxHeartbeats 4000000 in
theorem literal_r0 (s : ByteArray) (w : World) (hm : s.size ≤ 562949953421312) : Calls Try.prog 99 #[.string s, .int .i64 0] w fun e w' => e = .returned (.bool (litB 0 s.toList)) ∧ w = w' := by
  go_enter Try.func99, Try.ntmps99
  go_wp2
  go_loop [5] (fun i => ∃ k : Nat, k ≤ s.size ∧ i = .int .i64 k ∧ litGo 0 (s.toList.drop k) = litGo 0 s.toList) (fun i => s.size - (intOf i).toNat)
  case atStart => exact ⟨0, by omega, rfl, rfl⟩
  case round =>
    obtain ⟨k, hk, rfl, hl⟩ := hrel
    have HL := Lib.hid hl; clear hl
    by_cases hlt : k < s.size
    · by_cases hn : k + 1 < s.size
      · have hnz : decide (((k : Int) + 1) < (s.size : Int)) = true := decide_eq_true (by omega)
        have hnz2 : ¬ ((s.size : Int) ≤ (k : Int) + 1) := by omega
        have HST := Lib.hid (litGo_step 0 s.toList k s[k] _ (drop_cons'' s k hlt))
        rw [drop_head s (k + 1) hn, Option.map_some] at HST
        cases k0 : ((Chr.cls s[k].toNat : Int) == 0)
        · cases c36 : ((s[k].toNat : Int) == 36)
          · cases k3 : ((Chr.cls s[k].toNat : Int) == 3)
            · have n3 : ((Chr.cls s[k].toNat : Int) != 3) = true := by simp only [bne, k3]; rfl
              cases k4 : ((Chr.cls s[k].toNat : Int) == 4)
              · have n4 : ((Chr.cls s[k].toNat : Int) != 4) = true := by simp only [bne, k4]; rfl
                cases k8 : ((Chr.cls s[k].toNat : Int) == 8)
                · have n8 : ((Chr.cls s[k].toNat : Int) != 8) = true := by simp only [bne, k8]; rfl
                  cases k7 : ((Chr.cls s[k].toNat : Int) == 7)
                  · have n7 : ((Chr.cls s[k].toNat : Int) != 7) = true := by simp only [bne, k7]; rfl
                    have HR := Lib.hid (show litB 0 s.toList = false by unfold litB; rw [← HL.out, HST.out]; simp [litAt, k0, c36, k3, k4, k8, k7])
                    go_wp2_with (first | (go_at_call 14; refine (class_r s[k].toNat (byte_lt s k hlt) _).mono ?_; rintro e w' ⟨rfl, rfl⟩) | (go_at_call 112; refine (dollar_r s[k + 1].toNat (byte_lt s (k + 1) hn) _).mono ?_; rintro e w' ⟨rfl, rfl⟩) | (go_at_call 100; refine (special24_r s[k + 1].toNat _).mono ?_; rintro e w' ⟨rfl, rfl⟩))
                    go_ret
                    exact ⟨by rw [HR.out]; rfl, rfl⟩
                  · have n7 : ((Chr.cls s[k].toNat : Int) != 7) = false := by simp only [bne, k7]; rfl
                    have HR := Lib.hid (show litGo 0 (s.toList.drop (k + 1)) = litGo 0 s.toList by rw [← HL.out, HST.out]; simp [litAt, k0, c36, k3, k4, k8, k7])
                    go_wp2_with (first | (go_at_call 14; refine (class_r s[k].toNat (byte_lt s k hlt) _).mono ?_; rintro e w' ⟨rfl, rfl⟩) | (go_at_call 112; refine (dollar_r s[k + 1].toNat (byte_lt s (k + 1) hn) _).mono ?_; rintro e w' ⟨rfl, rfl⟩) | (go_at_call 100; refine (special24_r s[k + 1].toNat _).mono ?_; rintro e w' ⟨rfl, rfl⟩))
                    go_round
                    case rel => exact ⟨k + 1, by omega, by go_num, HR.out⟩
                    case measure => simp only [intOf]; omega
                · have n8 : ((Chr.cls s[k].toNat : Int) != 8) = false := by simp only [bne, k8]; rfl
                  have HR := Lib.hid (show litGo 0 (s.toList.drop (k + 1)) = litGo 0 s.toList by rw [← HL.out, HST.out]; simp [litAt, k0, c36, k3, k4, k8])
                  go_wp2_with (first | (go_at_call 14; refine (class_r s[k].toNat (byte_lt s k hlt) _).mono ?_; rintro e w' ⟨rfl, rfl⟩) | (go_at_call 112; refine (dollar_r s[k + 1].toNat (byte_lt s (k + 1) hn) _).mono ?_; rintro e w' ⟨rfl, rfl⟩) | (go_at_call 100; refine (special24_r s[k + 1].toNat _).mono ?_; rintro e w' ⟨rfl, rfl⟩))
                  go_round
                  case rel => exact ⟨k + 1, by omega, by go_num, HR.out⟩
                  case measure => simp only [intOf]; omega
              · have n4 : ((Chr.cls s[k].toNat : Int) != 4) = false := by simp only [bne, k4]; rfl
                have HR := Lib.hid (show litGo 0 (s.toList.drop (k + 1)) = litGo 0 s.toList by rw [← HL.out, HST.out]; simp [litAt, k0, c36, k3, k4])
                go_wp2_with (first | (go_at_call 14; refine (class_r s[k].toNat (byte_lt s k hlt) _).mono ?_; rintro e w' ⟨rfl, rfl⟩) | (go_at_call 112; refine (dollar_r s[k + 1].toNat (byte_lt s (k + 1) hn) _).mono ?_; rintro e w' ⟨rfl, rfl⟩) | (go_at_call 100; refine (special24_r s[k + 1].toNat _).mono ?_; rintro e w' ⟨rfl, rfl⟩))
                go_round
                case rel => exact ⟨k + 1, by omega, by go_num, HR.out⟩
                case measure => simp only [intOf]; omega
            · have n3 : ((Chr.cls s[k].toNat : Int) != 3) = false := by simp only [bne, k3]; rfl
              have HR := Lib.hid (show litGo 0 (s.toList.drop (k + 1)) = litGo 0 s.toList by rw [← HL.out, HST.out]; simp [litAt, k0, c36, k3])
              go_wp2_with (first | (go_at_call 14; refine (class_r s[k].toNat (byte_lt s k hlt) _).mono ?_; rintro e w' ⟨rfl, rfl⟩) | (go_at_call 112; refine (dollar_r s[k + 1].toNat (byte_lt s (k + 1) hn) _).mono ?_; rintro e w' ⟨rfl, rfl⟩) | (go_at_call 100; refine (special24_r s[k + 1].toNat _).mono ?_; rintro e w' ⟨rfl, rfl⟩))
              go_round
              case rel => exact ⟨k + 1, by omega, by go_num, HR.out⟩
              case measure => simp only [intOf]; omega
          · cases hd : dollarB s[k + 1].toNat
            · have HR := Lib.hid (show litB 0 s.toList = false by unfold litB; rw [← HL.out, HST.out]; simp [litAt, k0, c36, hd])
              go_wp2_with (first | (go_at_call 14; refine (class_r s[k].toNat (byte_lt s k hlt) _).mono ?_; rintro e w' ⟨rfl, rfl⟩) | (go_at_call 112; refine (dollar_r s[k + 1].toNat (byte_lt s (k + 1) hn) _).mono ?_; rintro e w' ⟨rfl, rfl⟩) | (go_at_call 100; refine (special24_r s[k + 1].toNat _).mono ?_; rintro e w' ⟨rfl, rfl⟩))
              go_ret
              exact ⟨by rw [HR.out]; rfl, rfl⟩
            · have g7 : ((Chr.cls s[k].toNat : Int) == 7) = true := by rw [beq_iff_eq] at c36; rw [show s[k].toNat = 36 by omega]; rfl
              have g3 : ((Chr.cls s[k].toNat : Int) != 3) = true := by rw [beq_iff_eq] at c36; rw [show s[k].toNat = 36 by omega]; rfl
              have g4 : ((Chr.cls s[k].toNat : Int) != 4) = true := by rw [beq_iff_eq] at c36; rw [show s[k].toNat = 36 by omega]; rfl
              have g8 : ((Chr.cls s[k].toNat : Int) != 8) = true := by rw [beq_iff_eq] at c36; rw [show s[k].toNat = 36 by omega]; rfl
              have g77 : ((Chr.cls s[k].toNat : Int) != 7) = false := by rw [beq_iff_eq] at c36; rw [show s[k].toNat = 36 by omega]; rfl
              have HR := Lib.hid (show litGo 0 (s.toList.drop (k + 1)) = litGo 0 s.toList by rw [← HL.out, HST.out]; simp [litAt, k0, c36, hd, g7])
              go_wp2_with (first | (go_at_call 14; refine (class_r s[k].toNat (byte_lt s k hlt) _).mono ?_; rintro e w' ⟨rfl, rfl⟩) | (go_at_call 112; refine (dollar_r s[k + 1].toNat (byte_lt s (k + 1) hn) _).mono ?_; rintro e w' ⟨rfl, rfl⟩) | (go_at_call 100; refine (special24_r s[k + 1].toNat _).mono ?_; rintro e w' ⟨rfl, rfl⟩))
              go_round
              case rel => exact ⟨k + 1, by omega, by go_num, HR.out⟩
              case measure => simp only [intOf]; omega
        · have HR := Lib.hid (show litB 0 s.toList = false by unfold litB; rw [← HL.out, HST.out]; simp [litAt, k0])
          go_wp2_with (first | (go_at_call 14; refine (class_r s[k].toNat (byte_lt s k hlt) _).mono ?_; rintro e w' ⟨rfl, rfl⟩) | (go_at_call 112; refine (dollar_r s[k + 1].toNat (byte_lt s (k + 1) hn) _).mono ?_; rintro e w' ⟨rfl, rfl⟩) | (go_at_call 100; refine (special24_r s[k + 1].toNat _).mono ?_; rintro e w' ⟨rfl, rfl⟩))
          go_ret
          exact ⟨by rw [HR.out]; rfl, rfl⟩
      · have hnz : decide (((k : Int) + 1) < (s.size : Int)) = false := decide_eq_false (by omega)
        have hnz2 : (s.size : Int) ≤ (k : Int) + 1 := by omega
        have HST := Lib.hid (litGo_step 0 s.toList k s[k] _ (drop_cons'' s k hlt))
        rw [drop_none s (k + 1) hn, List.head?_nil, Option.map_none] at HST
        cases k0 : ((Chr.cls s[k].toNat : Int) == 0)
        · cases c36 : ((s[k].toNat : Int) == 36)
          · cases k3 : ((Chr.cls s[k].toNat : Int) == 3)
            · have n3 : ((Chr.cls s[k].toNat : Int) != 3) = true := by simp only [bne, k3]; rfl
              cases k4 : ((Chr.cls s[k].toNat : Int) == 4)
              · have n4 : ((Chr.cls s[k].toNat : Int) != 4) = true := by simp only [bne, k4]; rfl
                cases k8 : ((Chr.cls s[k].toNat : Int) == 8)
                · have n8 : ((Chr.cls s[k].toNat : Int) != 8) = true := by simp only [bne, k8]; rfl
                  cases k7 : ((Chr.cls s[k].toNat : Int) == 7)
                  · have n7 : ((Chr.cls s[k].toNat : Int) != 7) = true := by simp only [bne, k7]; rfl
                    have HR := Lib.hid (show litB 0 s.toList = false by unfold litB; rw [← HL.out, HST.out]; simp [litAt, k0, c36, k3, k4, k8, k7])
                    go_wp2_with (first | (go_at_call 14; refine (class_r s[k].toNat (byte_lt s k hlt) _).mono ?_; rintro e w' ⟨rfl, rfl⟩) | (go_at_call 112; refine (dollar_r s[k + 1].toNat (byte_lt s (k + 1) hn) _).mono ?_; rintro e w' ⟨rfl, rfl⟩) | (go_at_call 100; refine (special24_r s[k + 1].toNat _).mono ?_; rintro e w' ⟨rfl, rfl⟩))
                    go_ret
                    exact ⟨by rw [HR.out]; rfl, rfl⟩
                  · have n7 : ((Chr.cls s[k].toNat : Int) != 7) = false := by simp only [bne, k7]; rfl
                    have HR := Lib.hid (show litGo 0 (s.toList.drop (k + 1)) = litGo 0 s.toList by rw [← HL.out, HST.out]; simp [litAt, drop_none s (k + 1) hn, k0, c36, k3, k4, k8, k7])
                    go_wp2_with (first | (go_at_call 14; refine (class_r s[k].toNat (byte_lt s k hlt) _).mono ?_; rintro e w' ⟨rfl, rfl⟩) | (go_at_call 112; refine (dollar_r s[k + 1].toNat (byte_lt s (k + 1) hn) _).mono ?_; rintro e w' ⟨rfl, rfl⟩) | (go_at_call 100; refine (special24_r s[k + 1].toNat _).mono ?_; rintro e w' ⟨rfl, rfl⟩))
                    go_round
                    case rel => exact ⟨k + 1, by omega, by go_num, HR.out⟩
                    case measure => simp only [intOf]; omega
                · have n8 : ((Chr.cls s[k].toNat : Int) != 8) = false := by simp only [bne, k8]; rfl
                  have HR := Lib.hid (show litGo 0 (s.toList.drop (k + 1)) = litGo 0 s.toList by rw [← HL.out, HST.out]; simp [litAt, drop_none s (k + 1) hn, k0, c36, k3, k4, k8])
                  go_wp2_with (first | (go_at_call 14; refine (class_r s[k].toNat (byte_lt s k hlt) _).mono ?_; rintro e w' ⟨rfl, rfl⟩) | (go_at_call 112; refine (dollar_r s[k + 1].toNat (byte_lt s (k + 1) hn) _).mono ?_; rintro e w' ⟨rfl, rfl⟩) | (go_at_call 100; refine (special24_r s[k + 1].toNat _).mono ?_; rintro e w' ⟨rfl, rfl⟩))
                  go_round
                  case rel => exact ⟨k + 1, by omega, by go_num, HR.out⟩
                  case measure => simp only [intOf]; omega
              · have n4 : ((Chr.cls s[k].toNat : Int) != 4) = false := by simp only [bne, k4]; rfl
                have HR := Lib.hid (show litGo 0 (s.toList.drop (k + 1)) = litGo 0 s.toList by rw [← HL.out, HST.out]; simp [litAt, drop_none s (k + 1) hn, k0, c36, k3, k4])
                go_wp2_with (first | (go_at_call 14; refine (class_r s[k].toNat (byte_lt s k hlt) _).mono ?_; rintro e w' ⟨rfl, rfl⟩) | (go_at_call 112; refine (dollar_r s[k + 1].toNat (byte_lt s (k + 1) hn) _).mono ?_; rintro e w' ⟨rfl, rfl⟩) | (go_at_call 100; refine (special24_r s[k + 1].toNat _).mono ?_; rintro e w' ⟨rfl, rfl⟩))
                go_round
                case rel => exact ⟨k + 1, by omega, by go_num, HR.out⟩
                case measure => simp only [intOf]; omega
            · have n3 : ((Chr.cls s[k].toNat : Int) != 3) = false := by simp only [bne, k3]; rfl
              have HR := Lib.hid (show litGo 0 (s.toList.drop (k + 1)) = litGo 0 s.toList by rw [← HL.out, HST.out]; simp [litAt, drop_none s (k + 1) hn, k0, c36, k3])
              go_wp2_with (first | (go_at_call 14; refine (class_r s[k].toNat (byte_lt s k hlt) _).mono ?_; rintro e w' ⟨rfl, rfl⟩) | (go_at_call 112; refine (dollar_r s[k + 1].toNat (byte_lt s (k + 1) hn) _).mono ?_; rintro e w' ⟨rfl, rfl⟩) | (go_at_call 100; refine (special24_r s[k + 1].toNat _).mono ?_; rintro e w' ⟨rfl, rfl⟩))
              go_round
              case rel => exact ⟨k + 1, by omega, by go_num, HR.out⟩
              case measure => simp only [intOf]; omega
          · have g7 : ((Chr.cls s[k].toNat : Int) == 7) = true := by rw [beq_iff_eq] at c36; rw [show s[k].toNat = 36 by omega]; rfl
            have g3 : ((Chr.cls s[k].toNat : Int) != 3) = true := by rw [beq_iff_eq] at c36; rw [show s[k].toNat = 36 by omega]; rfl
            have g4 : ((Chr.cls s[k].toNat : Int) != 4) = true := by rw [beq_iff_eq] at c36; rw [show s[k].toNat = 36 by omega]; rfl
            have g8 : ((Chr.cls s[k].toNat : Int) != 8) = true := by rw [beq_iff_eq] at c36; rw [show s[k].toNat = 36 by omega]; rfl
            have g77 : ((Chr.cls s[k].toNat : Int) != 7) = false := by rw [beq_iff_eq] at c36; rw [show s[k].toNat = 36 by omega]; rfl
            have HR := Lib.hid (show litGo 0 (s.toList.drop (k + 1)) = litGo 0 s.toList by rw [← HL.out, HST.out]; simp [litAt, drop_none s (k + 1) hn, k0, c36, g7])
            go_wp2_with (first | (go_at_call 14; refine (class_r s[k].toNat (byte_lt s k hlt) _).mono ?_; rintro e w' ⟨rfl, rfl⟩) | (go_at_call 112; refine (dollar_r s[k + 1].toNat (byte_lt s (k + 1) hn) _).mono ?_; rintro e w' ⟨rfl, rfl⟩) | (go_at_call 100; refine (special24_r s[k + 1].toNat _).mono ?_; rintro e w' ⟨rfl, rfl⟩))
            go_round
            case rel => exact ⟨k + 1, by omega, by go_num, HR.out⟩
            case measure => simp only [intOf]; omega
        · have HR := Lib.hid (show litB 0 s.toList = false by unfold litB; rw [← HL.out, HST.out]; simp [litAt, k0])
          go_wp2_with (first | (go_at_call 14; refine (class_r s[k].toNat (byte_lt s k hlt) _).mono ?_; rintro e w' ⟨rfl, rfl⟩) | (go_at_call 112; refine (dollar_r s[k + 1].toNat (byte_lt s (k + 1) hn) _).mono ?_; rintro e w' ⟨rfl, rfl⟩) | (go_at_call 100; refine (special24_r s[k + 1].toNat _).mono ?_; rintro e w' ⟨rfl, rfl⟩))
          go_ret
          exact ⟨by rw [HR.out]; rfl, rfl⟩
    · have hg : litGo 0 s.toList = true := by rw [← HL.out, drop_none s k hlt]; rfl
      have HR := Lib.hid (show litB 0 s.toList = !s.toList.isEmpty by unfold litB; rw [hg]; rfl)
      clear hg
      go_wp2
      go_ret
      exact ⟨by rw [HR.out]; rfl, rfl⟩

set_option maxRecDepth 100000 in
set_option maxHeartbeats 4000000 in
theorem literal_r1 (s : ByteArray) (w : World) (hm : s.size ≤ 562949953421312) : Calls Try.prog 99 #[.string s, .int .i64 1] w fun e w' => e = .returned (.bool (litB 1 s.toList)) ∧ w = w' := by
  go_enter Try.func99, Try.ntmps99
  go_wp2
  go_loop [5] (fun i => ∃ k : Nat, k ≤ s.size ∧ i = .int .i64 k ∧ litGo 1 (s.toList.drop k) = litGo 1 s.toList) (fun i => s.size - (intOf i).toNat)
  case atStart => exact ⟨0, by omega, rfl, rfl⟩
  case round =>
    obtain ⟨k, hk, rfl, hl⟩ := hrel
    have HL := Lib.hid hl; clear hl
    by_cases hlt : k < s.size
    · by_cases hn : k + 1 < s.size
      · have hnz : decide (((k : Int) + 1) < (s.size : Int)) = true := decide_eq_true (by omega)
        have hnz2 : ¬ ((s.size : Int) ≤ (k : Int) + 1) := by omega
        have HST := Lib.hid (litGo_step 1 s.toList k s[k] _ (drop_cons'' s k hlt))
        rw [drop_head s (k + 1) hn, Option.map_some] at HST
        cases k0 : ((Chr.cls s[k].toNat : Int) == 0)
        · cases c36 : ((s[k].toNat : Int) == 36)
          · cases c34 : ((s[k].toNat : Int) == 34)
            · cases c96 : ((s[k].toNat : Int) == 96)
              · cases c92 : ((s[k].toNat : Int) == 92)
                · have HR := Lib.hid (show litGo 1 (s.toList.drop (k + 1)) = litGo 1 s.toList by rw [← HL.out, HST.out]; simp [litAt, k0, c36, c34, c96, c92])
                  go_wp2_with (first | (go_at_call 14; refine (class_r s[k].toNat (byte_lt s k hlt) _).mono ?_; rintro e w' ⟨rfl, rfl⟩) | (go_at_call 112; refine (dollar_r s[k + 1].toNat (byte_lt s (k + 1) hn) _).mono ?_; rintro e w' ⟨rfl, rfl⟩) | (go_at_call 100; refine (special24_r s[k + 1].toNat _).mono ?_; rintro e w' ⟨rfl, rfl⟩))
                  go_round
                  case rel => exact ⟨k + 1, by omega, by go_num, HR.out⟩
                  case measure => simp only [intOf]; omega
                · cases e1 : special24 (s[k + 1].toNat : Int)
                  · cases e2 : ((s[k + 1].toNat : Int) == 10)
                    · have HR := Lib.hid (show litGo 1 (s.toList.drop (k + 1)) = litGo 1 s.toList by rw [← HL.out, HST.out]; simp [litAt, k0, c36, c34, c96, c92, e1, e2])
                      go_wp2_with (first | (go_at_call 14; refine (class_r s[k].toNat (byte_lt s k hlt) _).mono ?_; rintro e w' ⟨rfl, rfl⟩) | (go_at_call 112; refine (dollar_r s[k + 1].toNat (byte_lt s (k + 1) hn) _).mono ?_; rintro e w' ⟨rfl, rfl⟩) | (go_at_call 100; refine (special24_r s[k + 1].toNat _).mono ?_; rintro e w' ⟨rfl, rfl⟩))
                      go_round
                      case rel => exact ⟨k + 1, by omega, by go_num, HR.out⟩
                      case measure => simp only [intOf]; omega
                    · have HR := Lib.hid (show litB 1 s.toList = false by unfold litB; rw [← HL.out, HST.out]; simp [litAt, k0, c36, c34, c96, c92, e1, e2])
                      go_wp2_with (first | (go_at_call 14; refine (class_r s[k].toNat (byte_lt s k hlt) _).mono ?_; rintro e w' ⟨rfl, rfl⟩) | (go_at_call 112; refine (dollar_r s[k + 1].toNat (byte_lt s (k + 1) hn) _).mono ?_; rintro e w' ⟨rfl, rfl⟩) | (go_at_call 100; refine (special24_r s[k + 1].toNat _).mono ?_; rintro e w' ⟨rfl, rfl⟩))
                      go_ret
                      exact ⟨by rw [HR.out]; rfl, rfl⟩
                  · have HR := Lib.hid (show litB 1 s.toList = false by unfold litB; rw [← HL.out, HST.out]; simp [litAt, k0, c36, c34, c96, c92, e1])
                    go_wp2_with (first | (go_at_call 14; refine (class_r s[k].toNat (byte_lt s k hlt) _).mono ?_; rintro e w' ⟨rfl, rfl⟩) | (go_at_call 112; refine (dollar_r s[k + 1].toNat (byte_lt s (k + 1) hn) _).mono ?_; rintro e w' ⟨rfl, rfl⟩) | (go_at_call 100; refine (special24_r s[k + 1].toNat _).mono ?_; rintro e w' ⟨rfl, rfl⟩))
                    go_ret
                    exact ⟨by rw [HR.out]; rfl, rfl⟩
              · have HR := Lib.hid (show litB 1 s.toList = false by unfold litB; rw [← HL.out, HST.out]; simp [litAt, k0, c36, c34, c96])
                go_wp2_with (first | (go_at_call 14; refine (class_r s[k].toNat (byte_lt s k hlt) _).mono ?_; rintro e w' ⟨rfl, rfl⟩) | (go_at_call 112; refine (dollar_r s[k + 1].toNat (byte_lt s (k + 1) hn) _).mono ?_; rintro e w' ⟨rfl, rfl⟩) | (go_at_call 100; refine (special24_r s[k + 1].toNat _).mono ?_; rintro e w' ⟨rfl, rfl⟩))
                go_ret
                exact ⟨by rw [HR.out]; rfl, rfl⟩
            · have HR := Lib.hid (show litB 1 s.toList = false by unfold litB; rw [← HL.out, HST.out]; simp [litAt, k0, c36, c34])
              go_wp2_with (first | (go_at_call 14; refine (class_r s[k].toNat (byte_lt s k hlt) _).mono ?_; rintro e w' ⟨rfl, rfl⟩) | (go_at_call 112; refine (dollar_r s[k + 1].toNat (byte_lt s (k + 1) hn) _).mono ?_; rintro e w' ⟨rfl, rfl⟩) | (go_at_call 100; refine (special24_r s[k + 1].toNat _).mono ?_; rintro e w' ⟨rfl, rfl⟩))
              go_ret
              exact ⟨by rw [HR.out]; rfl, rfl⟩
          · cases hd : dollarB s[k + 1].toNat
            · have HR := Lib.hid (show litB 1 s.toList = false by unfold litB; rw [← HL.out, HST.out]; simp [litAt, k0, c36, hd])
              go_wp2_with (first | (go_at_call 14; refine (class_r s[k].toNat (byte_lt s k hlt) _).mono ?_; rintro e w' ⟨rfl, rfl⟩) | (go_at_call 112; refine (dollar_r s[k + 1].toNat (byte_lt s (k + 1) hn) _).mono ?_; rintro e w' ⟨rfl, rfl⟩) | (go_at_call 100; refine (special24_r s[k + 1].toNat _).mono ?_; rintro e w' ⟨rfl, rfl⟩))
              go_ret
              exact ⟨by rw [HR.out]; rfl, rfl⟩
            · have c34 : ((s[k].toNat : Int) == 34) = false := by rw [beq_iff_eq] at c36; rw [c36]; rfl
              have c96 : ((s[k].toNat : Int) == 96) = false := by rw [beq_iff_eq] at c36; rw [c36]; rfl
              have c92 : ((s[k].toNat : Int) == 92) = false := by rw [beq_iff_eq] at c36; rw [c36]; rfl
              have HR := Lib.hid (show litGo 1 (s.toList.drop (k + 1)) = litGo 1 s.toList by rw [← HL.out, HST.out]; simp [litAt, k0, c36, hd, c34, c96, c92])
              go_wp2_with (first | (go_at_call 14; refine (class_r s[k].toNat (byte_lt s k hlt) _).mono ?_; rintro e w' ⟨rfl, rfl⟩) | (go_at_call 112; refine (dollar_r s[k + 1].toNat (byte_lt s (k + 1) hn) _).mono ?_; rintro e w' ⟨rfl, rfl⟩) | (go_at_call 100; refine (special24_r s[k + 1].toNat _).mono ?_; rintro e w' ⟨rfl, rfl⟩))
              go_round
              case rel => exact ⟨k + 1, by omega, by go_num, HR.out⟩
              case measure => simp only [intOf]; omega
        · have HR := Lib.hid (show litB 1 s.toList = false by unfold litB; rw [← HL.out, HST.out]; simp [litAt, k0])
          go_wp2_with (first | (go_at_call 14; refine (class_r s[k].toNat (byte_lt s k hlt) _).mono ?_; rintro e w' ⟨rfl, rfl⟩) | (go_at_call 112; refine (dollar_r s[k + 1].toNat (byte_lt s (k + 1) hn) _).mono ?_; rintro e w' ⟨rfl, rfl⟩) | (go_at_call 100; refine (special24_r s[k + 1].toNat _).mono ?_; rintro e w' ⟨rfl, rfl⟩))
          go_ret
          exact ⟨by rw [HR.out]; rfl, rfl⟩
      · have hnz : decide (((k : Int) + 1) < (s.size : Int)) = false := decide_eq_false (by omega)
        have hnz2 : (s.size : Int) ≤ (k : Int) + 1 := by omega
        have HST := Lib.hid (litGo_step 1 s.toList k s[k] _ (drop_cons'' s k hlt))
        rw [drop_none s (k + 1) hn, List.head?_nil, Option.map_none] at HST
        cases k0 : ((Chr.cls s[k].toNat : Int) == 0)
        · cases c36 : ((s[k].toNat : Int) == 36)
          · cases c34 : ((s[k].toNat : Int) == 34)
            · cases c96 : ((s[k].toNat : Int) == 96)
              · cases c92 : ((s[k].toNat : Int) == 92)
                · have HR := Lib.hid (show litGo 1 (s.toList.drop (k + 1)) = litGo 1 s.toList by rw [← HL.out, HST.out]; simp [litAt, drop_none s (k + 1) hn, k0, c36, c34, c96, c92])
                  go_wp2_with (first | (go_at_call 14; refine (class_r s[k].toNat (byte_lt s k hlt) _).mono ?_; rintro e w' ⟨rfl, rfl⟩) | (go_at_call 112; refine (dollar_r s[k + 1].toNat (byte_lt s (k + 1) hn) _).mono ?_; rintro e w' ⟨rfl, rfl⟩) | (go_at_call 100; refine (special24_r s[k + 1].toNat _).mono ?_; rintro e w' ⟨rfl, rfl⟩))
                  go_round
                  case rel => exact ⟨k + 1, by omega, by go_num, HR.out⟩
                  case measure => simp only [intOf]; omega
                · have HR := Lib.hid (show litB 1 s.toList = false by unfold litB; rw [← HL.out, HST.out]; simp [litAt, k0, c36, c34, c96, c92])
                  go_wp2_with (first | (go_at_call 14; refine (class_r s[k].toNat (byte_lt s k hlt) _).mono ?_; rintro e w' ⟨rfl, rfl⟩) | (go_at_call 112; refine (dollar_r s[k + 1].toNat (byte_lt s (k + 1) hn) _).mono ?_; rintro e w' ⟨rfl, rfl⟩) | (go_at_call 100; refine (special24_r s[k + 1].toNat _).mono ?_; rintro e w' ⟨rfl, rfl⟩))
                  go_ret
                  exact ⟨by rw [HR.out]; rfl, rfl⟩
              · have HR := Lib.hid (show litB 1 s.toList = false by unfold litB; rw [← HL.out, HST.out]; simp [litAt, k0, c36, c34, c96])
                go_wp2_with (first | (go_at_call 14; refine (class_r s[k].toNat (byte_lt s k hlt) _).mono ?_; rintro e w' ⟨rfl, rfl⟩) | (go_at_call 112; refine (dollar_r s[k + 1].toNat (byte_lt s (k + 1) hn) _).mono ?_; rintro e w' ⟨rfl, rfl⟩) | (go_at_call 100; refine (special24_r s[k + 1].toNat _).mono ?_; rintro e w' ⟨rfl, rfl⟩))
                go_ret
                exact ⟨by rw [HR.out]; rfl, rfl⟩
            · have HR := Lib.hid (show litB 1 s.toList = false by unfold litB; rw [← HL.out, HST.out]; simp [litAt, k0, c36, c34])
              go_wp2_with (first | (go_at_call 14; refine (class_r s[k].toNat (byte_lt s k hlt) _).mono ?_; rintro e w' ⟨rfl, rfl⟩) | (go_at_call 112; refine (dollar_r s[k + 1].toNat (byte_lt s (k + 1) hn) _).mono ?_; rintro e w' ⟨rfl, rfl⟩) | (go_at_call 100; refine (special24_r s[k + 1].toNat _).mono ?_; rintro e w' ⟨rfl, rfl⟩))
              go_ret
              exact ⟨by rw [HR.out]; rfl, rfl⟩
          · have c34 : ((s[k].toNat : Int) == 34) = false := by rw [beq_iff_eq] at c36; rw [c36]; rfl
            have c96 : ((s[k].toNat : Int) == 96) = false := by rw [beq_iff_eq] at c36; rw [c36]; rfl
            have c92 : ((s[k].toNat : Int) == 92) = false := by rw [beq_iff_eq] at c36; rw [c36]; rfl
            have HR := Lib.hid (show litGo 1 (s.toList.drop (k + 1)) = litGo 1 s.toList by rw [← HL.out, HST.out]; simp [litAt, drop_none s (k + 1) hn, k0, c36, c34, c96, c92])
            go_wp2_with (first | (go_at_call 14; refine (class_r s[k].toNat (byte_lt s k hlt) _).mono ?_; rintro e w' ⟨rfl, rfl⟩) | (go_at_call 112; refine (dollar_r s[k + 1].toNat (byte_lt s (k + 1) hn) _).mono ?_; rintro e w' ⟨rfl, rfl⟩) | (go_at_call 100; refine (special24_r s[k + 1].toNat _).mono ?_; rintro e w' ⟨rfl, rfl⟩))
            go_round
            case rel => exact ⟨k + 1, by omega, by go_num, HR.out⟩
            case measure => simp only [intOf]; omega
        · have HR := Lib.hid (show litB 1 s.toList = false by unfold litB; rw [← HL.out, HST.out]; simp [litAt, k0])
          go_wp2_with (first | (go_at_call 14; refine (class_r s[k].toNat (byte_lt s k hlt) _).mono ?_; rintro e w' ⟨rfl, rfl⟩) | (go_at_call 112; refine (dollar_r s[k + 1].toNat (byte_lt s (k + 1) hn) _).mono ?_; rintro e w' ⟨rfl, rfl⟩) | (go_at_call 100; refine (special24_r s[k + 1].toNat _).mono ?_; rintro e w' ⟨rfl, rfl⟩))
          go_ret
          exact ⟨by rw [HR.out]; rfl, rfl⟩
    · have hg : litGo 1 s.toList = true := by rw [← HL.out, drop_none s k hlt]; rfl
      have HR := Lib.hid (show litB 1 s.toList = !s.toList.isEmpty by unfold litB; rw [hg]; rfl)
      clear hg
      go_wp2
      go_ret
      exact ⟨by rw [HR.out]; rfl, rfl⟩

set_option maxRecDepth 100000 in
set_option maxHeartbeats 4000000 in
theorem literal_r2 (s : ByteArray) (w : World) (hm : s.size ≤ 562949953421312) : Calls Try.prog 99 #[.string s, .int .i64 2] w fun e w' => e = .returned (.bool (litB 2 s.toList)) ∧ w = w' := by
  go_enter Try.func99, Try.ntmps99
  go_wp2
  go_loop [5] (fun i => ∃ k : Nat, k ≤ s.size ∧ i = .int .i64 k ∧ litGo 2 (s.toList.drop k) = litGo 2 s.toList) (fun i => s.size - (intOf i).toNat)
  case atStart => exact ⟨0, by omega, rfl, rfl⟩
  case round =>
    obtain ⟨k, hk, rfl, hl⟩ := hrel
    have HL := Lib.hid hl; clear hl
    by_cases hlt : k < s.size
    · by_cases hn : k + 1 < s.size
      · have hnz : decide (((k : Int) + 1) < (s.size : Int)) = true := decide_eq_true (by omega)
        have hnz2 : ¬ ((s.size : Int) ≤ (k : Int) + 1) := by omega
        have HST := Lib.hid (litGo_step 2 s.toList k s[k] _ (drop_cons'' s k hlt))
        rw [drop_head s (k + 1) hn, Option.map_some] at HST
        cases k0 : ((Chr.cls s[k].toNat : Int) == 0)
        · cases c36 : ((s[k].toNat : Int) == 36)
          · cases c125 : ((s[k].toNat : Int) == 125)
            · cases k6 : ((Chr.cls s[k].toNat : Int) == 6)
              · have HR := Lib.hid (show litGo 2 (s.toList.drop (k + 1)) = litGo 2 s.toList by rw [← HL.out, HST.out]; simp [litAt, k0, c36, c125, k6])
                go_wp2_with (first | (go_at_call 14; refine (class_r s[k].toNat (byte_lt s k hlt) _).mono ?_; rintro e w' ⟨rfl, rfl⟩) | (go_at_call 112; refine (dollar_r s[k + 1].toNat (byte_lt s (k + 1) hn) _).mono ?_; rintro e w' ⟨rfl, rfl⟩) | (go_at_call 100; refine (special24_r s[k + 1].toNat _).mono ?_; rintro e w' ⟨rfl, rfl⟩))
                go_round
                case rel => exact ⟨k + 1, by omega, by go_num, HR.out⟩
                case measure => simp only [intOf]; omega
              · have HR := Lib.hid (show litB 2 s.toList = false by unfold litB; rw [← HL.out, HST.out]; simp [litAt, k0, c36, c125, k6])
                go_wp2_with (first | (go_at_call 14; refine (class_r s[k].toNat (byte_lt s k hlt) _).mono ?_; rintro e w' ⟨rfl, rfl⟩) | (go_at_call 112; refine (dollar_r s[k + 1].toNat (byte_lt s (k + 1) hn) _).mono ?_; rintro e w' ⟨rfl, rfl⟩) | (go_at_call 100; refine (special24_r s[k + 1].toNat _).mono ?_; rintro e w' ⟨rfl, rfl⟩))
                go_ret
                exact ⟨by rw [HR.out]; rfl, rfl⟩
            · have HR := Lib.hid (show litB 2 s.toList = false by unfold litB; rw [← HL.out, HST.out]; simp [litAt, k0, c36, c125])
              go_wp2_with (first | (go_at_call 14; refine (class_r s[k].toNat (byte_lt s k hlt) _).mono ?_; rintro e w' ⟨rfl, rfl⟩) | (go_at_call 112; refine (dollar_r s[k + 1].toNat (byte_lt s (k + 1) hn) _).mono ?_; rintro e w' ⟨rfl, rfl⟩) | (go_at_call 100; refine (special24_r s[k + 1].toNat _).mono ?_; rintro e w' ⟨rfl, rfl⟩))
              go_ret
              exact ⟨by rw [HR.out]; rfl, rfl⟩
          · cases hd : dollarB s[k + 1].toNat
            · have HR := Lib.hid (show litB 2 s.toList = false by unfold litB; rw [← HL.out, HST.out]; simp [litAt, k0, c36, hd])
              go_wp2_with (first | (go_at_call 14; refine (class_r s[k].toNat (byte_lt s k hlt) _).mono ?_; rintro e w' ⟨rfl, rfl⟩) | (go_at_call 112; refine (dollar_r s[k + 1].toNat (byte_lt s (k + 1) hn) _).mono ?_; rintro e w' ⟨rfl, rfl⟩) | (go_at_call 100; refine (special24_r s[k + 1].toNat _).mono ?_; rintro e w' ⟨rfl, rfl⟩))
              go_ret
              exact ⟨by rw [HR.out]; rfl, rfl⟩
            · cases c125 : ((s[k].toNat : Int) == 125)
              · cases k6 : ((Chr.cls s[k].toNat : Int) == 6)
                · have HR := Lib.hid (show litGo 2 (s.toList.drop (k + 1)) = litGo 2 s.toList by rw [← HL.out, HST.out]; simp [litAt, k0, c36, hd, c125, k6])
                  go_wp2_with (first | (go_at_call 14; refine (class_r s[k].toNat (byte_lt s k hlt) _).mono ?_; rintro e w' ⟨rfl, rfl⟩) | (go_at_call 112; refine (dollar_r s[k + 1].toNat (byte_lt s (k + 1) hn) _).mono ?_; rintro e w' ⟨rfl, rfl⟩) | (go_at_call 100; refine (special24_r s[k + 1].toNat _).mono ?_; rintro e w' ⟨rfl, rfl⟩))
                  go_round
                  case rel => exact ⟨k + 1, by omega, by go_num, HR.out⟩
                  case measure => simp only [intOf]; omega
                · have HR := Lib.hid (show litB 2 s.toList = false by unfold litB; rw [← HL.out, HST.out]; simp [litAt, k0, c36, hd, c125, k6])
                  go_wp2_with (first | (go_at_call 14; refine (class_r s[k].toNat (byte_lt s k hlt) _).mono ?_; rintro e w' ⟨rfl, rfl⟩) | (go_at_call 112; refine (dollar_r s[k + 1].toNat (byte_lt s (k + 1) hn) _).mono ?_; rintro e w' ⟨rfl, rfl⟩) | (go_at_call 100; refine (special24_r s[k + 1].toNat _).mono ?_; rintro e w' ⟨rfl, rfl⟩))
                  go_ret
                  exact ⟨by rw [HR.out]; rfl, rfl⟩
              · have HR := Lib.hid (show litB 2 s.toList = false by unfold litB; rw [← HL.out, HST.out]; simp [litAt, k0, c36, hd, c125])
                go_wp2_with (first | (go_at_call 14; refine (class_r s[k].toNat (byte_lt s k hlt) _).mono ?_; rintro e w' ⟨rfl, rfl⟩) | (go_at_call 112; refine (dollar_r s[k + 1].toNat (byte_lt s (k + 1) hn) _).mono ?_; rintro e w' ⟨rfl, rfl⟩) | (go_at_call 100; refine (special24_r s[k + 1].toNat _).mono ?_; rintro e w' ⟨rfl, rfl⟩))
                go_ret
                exact ⟨by rw [HR.out]; rfl, rfl⟩
        · have HR := Lib.hid (show litB 2 s.toList = false by unfold litB; rw [← HL.out, HST.out]; simp [litAt, k0])
          go_wp2_with (first | (go_at_call 14; refine (class_r s[k].toNat (byte_lt s k hlt) _).mono ?_; rintro e w' ⟨rfl, rfl⟩) | (go_at_call 112; refine (dollar_r s[k + 1].toNat (byte_lt s (k + 1) hn) _).mono ?_; rintro e w' ⟨rfl, rfl⟩) | (go_at_call 100; refine (special24_r s[k + 1].toNat _).mono ?_; rintro e w' ⟨rfl, rfl⟩))
          go_ret
          exact ⟨by rw [HR.out]; rfl, rfl⟩
      · have hnz : decide (((k : Int) + 1) < (s.size : Int)) = false := decide_eq_false (by omega)
        have hnz2 : (s.size : Int) ≤ (k : Int) + 1 := by omega
        have HST := Lib.hid (litGo_step 2 s.toList k s[k] _ (drop_cons'' s k hlt))
        rw [drop_none s (k + 1) hn, List.head?_nil, Option.map_none] at HST
        cases k0 : ((Chr.cls s[k].toNat : Int) == 0)
        · cases c36 : ((s[k].toNat : Int) == 36)
          · cases c125 : ((s[k].toNat : Int) == 125)
            · cases k6 : ((Chr.cls s[k].toNat : Int) == 6)
              · have HR := Lib.hid (show litGo 2 (s.toList.drop (k + 1)) = litGo 2 s.toList by rw [← HL.out, HST.out]; simp [litAt, drop_none s (k + 1) hn, k0, c36, c125, k6])
                go_wp2_with (first | (go_at_call 14; refine (class_r s[k].toNat (byte_lt s k hlt) _).mono ?_; rintro e w' ⟨rfl, rfl⟩) | (go_at_call 112; refine (dollar_r s[k + 1].toNat (byte_lt s (k + 1) hn) _).mono ?_; rintro e w' ⟨rfl, rfl⟩) | (go_at_call 100; refine (special24_r s[k + 1].toNat _).mono ?_; rintro e w' ⟨rfl, rfl⟩))
                go_round
                case rel => exact ⟨k + 1, by omega, by go_num, HR.out⟩
                case measure => simp only [intOf]; omega
              · have HR := Lib.hid (show litB 2 s.toList = false by unfold litB; rw [← HL.out, HST.out]; simp [litAt, k0, c36, c125, k6])
                go_wp2_with (first | (go_at_call 14; refine (class_r s[k].toNat (byte_lt s k hlt) _).mono ?_; rintro e w' ⟨rfl, rfl⟩) | (go_at_call 112; refine (dollar_r s[k + 1].toNat (byte_lt s (k + 1) hn) _).mono ?_; rintro e w' ⟨rfl, rfl⟩) | (go_at_call 100; refine (special24_r s[k + 1].toNat _).mono ?_; rintro e w' ⟨rfl, rfl⟩))
                go_ret
                exact ⟨by rw [HR.out]; rfl, rfl⟩
            · have HR := Lib.hid (show litB 2 s.toList = false by unfold litB; rw [← HL.out, HST.out]; simp [litAt, k0, c36, c125])
              go_wp2_with (first | (go_at_call 14; refine (class_r s[k].toNat (byte_lt s k hlt) _).mono ?_; rintro e w' ⟨rfl, rfl⟩) | (go_at_call 112; refine (dollar_r s[k + 1].toNat (byte_lt s (k + 1) hn) _).mono ?_; rintro e w' ⟨rfl, rfl⟩) | (go_at_call 100; refine (special24_r s[k + 1].toNat _).mono ?_; rintro e w' ⟨rfl, rfl⟩))
              go_ret
              exact ⟨by rw [HR.out]; rfl, rfl⟩
          · cases c125 : ((s[k].toNat : Int) == 125)
            · cases k6 : ((Chr.cls s[k].toNat : Int) == 6)
              · have HR := Lib.hid (show litGo 2 (s.toList.drop (k + 1)) = litGo 2 s.toList by rw [← HL.out, HST.out]; simp [litAt, drop_none s (k + 1) hn, k0, c36, c125, k6])
                go_wp2_with (first | (go_at_call 14; refine (class_r s[k].toNat (byte_lt s k hlt) _).mono ?_; rintro e w' ⟨rfl, rfl⟩) | (go_at_call 112; refine (dollar_r s[k + 1].toNat (byte_lt s (k + 1) hn) _).mono ?_; rintro e w' ⟨rfl, rfl⟩) | (go_at_call 100; refine (special24_r s[k + 1].toNat _).mono ?_; rintro e w' ⟨rfl, rfl⟩))
                go_round
                case rel => exact ⟨k + 1, by omega, by go_num, HR.out⟩
                case measure => simp only [intOf]; omega
              · have HR := Lib.hid (show litB 2 s.toList = false by unfold litB; rw [← HL.out, HST.out]; simp [litAt, k0, c36, c125, k6])
                go_wp2_with (first | (go_at_call 14; refine (class_r s[k].toNat (byte_lt s k hlt) _).mono ?_; rintro e w' ⟨rfl, rfl⟩) | (go_at_call 112; refine (dollar_r s[k + 1].toNat (byte_lt s (k + 1) hn) _).mono ?_; rintro e w' ⟨rfl, rfl⟩) | (go_at_call 100; refine (special24_r s[k + 1].toNat _).mono ?_; rintro e w' ⟨rfl, rfl⟩))
                go_ret
                exact ⟨by rw [HR.out]; rfl, rfl⟩
            · have HR := Lib.hid (show litB 2 s.toList = false by unfold litB; rw [← HL.out, HST.out]; simp [litAt, k0, c36, c125])
              go_wp2_with (first | (go_at_call 14; refine (class_r s[k].toNat (byte_lt s k hlt) _).mono ?_; rintro e w' ⟨rfl, rfl⟩) | (go_at_call 112; refine (dollar_r s[k + 1].toNat (byte_lt s (k + 1) hn) _).mono ?_; rintro e w' ⟨rfl, rfl⟩) | (go_at_call 100; refine (special24_r s[k + 1].toNat _).mono ?_; rintro e w' ⟨rfl, rfl⟩))
              go_ret
              exact ⟨by rw [HR.out]; rfl, rfl⟩
        · have HR := Lib.hid (show litB 2 s.toList = false by unfold litB; rw [← HL.out, HST.out]; simp [litAt, k0])
          go_wp2_with (first | (go_at_call 14; refine (class_r s[k].toNat (byte_lt s k hlt) _).mono ?_; rintro e w' ⟨rfl, rfl⟩) | (go_at_call 112; refine (dollar_r s[k + 1].toNat (byte_lt s (k + 1) hn) _).mono ?_; rintro e w' ⟨rfl, rfl⟩) | (go_at_call 100; refine (special24_r s[k + 1].toNat _).mono ?_; rintro e w' ⟨rfl, rfl⟩))
          go_ret
          exact ⟨by rw [HR.out]; rfl, rfl⟩
    · have hg : litGo 2 s.toList = true := by rw [← HL.out, drop_none s k hlt]; rfl
      have HR := Lib.hid (show litB 2 s.toList = !s.toList.isEmpty by unfold litB; rw [hg]; rfl)
      clear hg
      go_wp2
      go_ret
      exact ⟨by rw [HR.out]; rfl, rfl⟩

set_option maxRecDepth 100000 in
set_option maxHeartbeats 4000000 in
theorem clear_r (s : ByteArray) (n : Int) (w : World) (hm : s.size ≤ 562949953421312) : Calls Try.prog 101 #[.string s, .int .u8 n] w fun e w' => e = .returned (.bool (clearB n s.toList)) ∧ w = w' := by
  go_enter Try.func101, Try.ntmps101
  go_wp2
  go_loop [5] (fun i => ∃ k : Nat, k ≤ s.size ∧ i = .int .i64 k ∧ clearB n (s.toList.drop k) = clearB n s.toList) (fun i => s.size - (intOf i).toNat)
  case atStart => exact ⟨0, by omega, rfl, rfl⟩
  case round =>
    obtain ⟨k, hk, rfl, hl⟩ := hrel
    have HL := Lib.hid hl; clear hl
    by_cases hlt : k < s.size
    · cases c0 : ((s[k].toNat : Int) == 0)
      · cases cn : ((s[k].toNat : Int) == n)
        · have HR := Lib.hid (show clearB n (s.toList.drop (k + 1)) = clearB n s.toList by rw [← HL.out]; unfold clearB; rw [drop_cons'' s k hlt, List.all_cons]; simp [c0, cn])
          go_wp2
          go_round
          case rel => exact ⟨k + 1, by omega, by go_num, HR.out⟩
          case measure => simp only [intOf]; omega
        · have HR := Lib.hid (show clearB n s.toList = false by rw [← HL.out]; unfold clearB; rw [drop_cons'' s k hlt, List.all_cons]; simp [c0, cn])
          go_wp2
          go_ret
          exact ⟨by rw [HR.out]; rfl, rfl⟩
      · have HR := Lib.hid (show clearB n s.toList = false by rw [← HL.out]; unfold clearB; rw [drop_cons'' s k hlt, List.all_cons]; simp [c0])
        go_wp2
        go_ret
        exact ⟨by rw [HR.out]; rfl, rfl⟩
    · have HR := Lib.hid (show clearB n s.toList = true by rw [← HL.out, drop_none s k hlt]; rfl)
      go_wp2
      go_ret
      exact ⟨by rw [HR.out]; rfl, rfl⟩

set_option maxRecDepth 100000 in
set_option maxHeartbeats 4000000 in
theorem arith_r (s : ByteArray) (w : World) (hm : s.size ≤ 562949953421312) : Calls Try.prog 103 #[.string s] w fun e w' => e = .returned (.bool (arithGo 0 s.toList)) ∧ w = w' := by
  go_enter Try.func103, Try.ntmps103
  go_wp2
  go_loop [3, 4] (fun v i => ∃ (k : Nat) (m : Int), k ≤ s.size ∧ 0 ≤ m ∧ m ≤ k ∧ i = .int .i64 k ∧ v = .int .i64 m ∧ arithGo m (s.toList.drop k) = arithGo 0 s.toList) (fun _ i => s.size - (intOf i).toNat)
  case atStart => exact ⟨0, 0, by omega, by omega, by omega, rfl, rfl, rfl⟩
  case round =>
    obtain ⟨k, m, hk, hm1, hm2, rfl, rfl, hl⟩ := hrel
    have HL := Lib.hid hl; clear hl
    by_cases hlt : k < s.size
    · cases c0 : ((s[k].toNat : Int) == 0)
      · cases c40 : ((s[k].toNat : Int) == 40)
        · cases c41 : ((s[k].toNat : Int) == 41)
          · have HR := Lib.hid (show arithGo m (s.toList.drop (k + 1)) = arithGo 0 s.toList by rw [← HL.out, drop_cons'' s k hlt]; simp [arithGo, c0, c40, c41])
            go_wp2
            go_round
            case rel => exact ⟨k + 1, m, by omega, by omega, by omega, by go_num, by rfl, HR.out⟩
            case measure => simp only [intOf]; omega
          · by_cases hm0 : m - 1 < 0
            · have HR := Lib.hid (show arithGo 0 s.toList = false by rw [← HL.out, drop_cons'' s k hlt]; simp [arithGo, c0, c40, c41, hm0])
              go_wp2
              go_ret
              exact ⟨by rw [HR.out]; rfl, rfl⟩
            · have HR := Lib.hid (show arithGo (m - 1) (s.toList.drop (k + 1)) = arithGo 0 s.toList by rw [← HL.out, drop_cons'' s k hlt]; simp [arithGo, c0, c40, c41, hm0])
              go_wp2
              go_round
              case rel => exact ⟨k + 1, (m - 1), by omega, by omega, by omega, by go_num, by rfl, HR.out⟩
              case measure => simp only [intOf]; omega
        · have c41 : ((s[k].toNat : Int) == 41) = false := by rw [beq_iff_eq] at c40; rw [c40]; rfl
          have hm0 : ¬ m + 1 < 0 := by omega
          have HR := Lib.hid (show arithGo (m + 1) (s.toList.drop (k + 1)) = arithGo 0 s.toList by rw [← HL.out, drop_cons'' s k hlt]; simp [arithGo, c0, c40])
          go_wp2
          go_round
          case rel => exact ⟨k + 1, (m + 1), by omega, by omega, by omega, by go_num, by rfl, HR.out⟩
          case measure => simp only [intOf]; omega
      · have HR := Lib.hid (show arithGo 0 s.toList = false by rw [← HL.out, drop_cons'' s k hlt]; simp [arithGo, c0])
        go_wp2
        go_ret
        exact ⟨by rw [HR.out]; rfl, rfl⟩
    · have HR := Lib.hid (show arithGo 0 s.toList = (m == 0) by rw [← HL.out, drop_none s k hlt]; rfl)
      go_wp2
      go_ret
      exact ⟨by rw [HR.out]; rfl, rfl⟩

end Go.Proofs.Ytpefkhbejjndeaa
