/- What part answers on texts: quotable, opens, holds, literal, arith, named, operator, plain, meet. -/
import Derived.Test.YtjpopekmbmcggaaRefLit
import Derived.Test.YtjpopekmbmcggaaCharClass
import Derived.Test.YtjpopekmbmcggaaShelf
namespace Go.Proofs.Ytjpopekmbmcggaa
open Go.RowKit

theorem quot_at : ∀ c : Fin 256, decide (0 ≤ Lib.indexByte [36, 96, 34, 92] ((c.val : Int).toNat.toUInt8)) = special24 (c.val : Int) := by decide +kernel
set_option maxRecDepth 100000 in
set_option maxHeartbeats 4000000 in
theorem quotable_p (c : Nat) (hc : c < 256) (w : World) : Calls Try.prog 33 #[.int .u8 (c : Int)] w fun e w' => e = .returned (.bool (special24 (c : Int))) ∧ w = w' := by
  have hq := quot_at ⟨c, hc⟩
  simp only at hq
  have HQ := Lib.hid hq; clear hq
  go_enter Try.func33, Try.ntmps33
  go_wp2_with fail
  refine (indexByte_p _ _ _).mono ?_
  rintro e w' ⟨rfl, rfl⟩
  rw [show (⟨#[36, 96, 34, 92]⟩ : ByteArray).toList = [36, 96, 34, 92] from list_mk [36, 96, 34, 92]]
  go_wp2
  go_ret
  exact ⟨by rw [← HQ.out]; rfl, rfl⟩

set_option maxRecDepth 100000 in
set_option maxHeartbeats 4000000 in
theorem opens_p (c : Nat) (hc : c < 256) (w : World) : Calls Try.prog 44 #[.int .u8 (c : Int)] w fun e w' => e = .returned (.bool (!dollarB c)) ∧ w = w' := by
  cases h4 : ((Chr.cls c : Int) == 4)
  · cases h3 : ((Chr.cls c : Int) == 3)
    · cases hs : Chr.special c
      · cases h123 : ((c : Int) == 123)
        · cases h40 : ((c : Int) == 40)
          · have HF := Lib.hid (show (!dollarB c) = false by simp [dollarB, bne, h4, h3, hs, h123, h40])
            go_enter Try.func44, Try.ntmps44
            go_wp2_with (first | (go_at_call 57; refine (class_p c hc _).mono ?_; rintro e w' ⟨rfl, rfl⟩) | (go_at_call 58; refine (special_p c hc _).mono ?_; rintro e w' ⟨rfl, rfl⟩))
            go_ret
            exact ⟨by rw [HF.out]; rfl, rfl⟩
          · have HF := Lib.hid (show (!dollarB c) = true by simp [dollarB, bne, h4, h3, hs, h123, h40])
            go_enter Try.func44, Try.ntmps44
            go_wp2_with (first | (go_at_call 57; refine (class_p c hc _).mono ?_; rintro e w' ⟨rfl, rfl⟩) | (go_at_call 58; refine (special_p c hc _).mono ?_; rintro e w' ⟨rfl, rfl⟩))
            go_ret
            exact ⟨by rw [HF.out]; rfl, rfl⟩
        · have HF := Lib.hid (show (!dollarB c) = true by simp [dollarB, bne, h4, h3, hs, h123])
          go_enter Try.func44, Try.ntmps44
          go_wp2_with (first | (go_at_call 57; refine (class_p c hc _).mono ?_; rintro e w' ⟨rfl, rfl⟩) | (go_at_call 58; refine (special_p c hc _).mono ?_; rintro e w' ⟨rfl, rfl⟩))
          go_ret
          exact ⟨by rw [HF.out]; rfl, rfl⟩
      · have HF := Lib.hid (show (!dollarB c) = true by simp [dollarB, bne, h4, h3, hs])
        go_enter Try.func44, Try.ntmps44
        go_wp2_with (first | (go_at_call 57; refine (class_p c hc _).mono ?_; rintro e w' ⟨rfl, rfl⟩) | (go_at_call 58; refine (special_p c hc _).mono ?_; rintro e w' ⟨rfl, rfl⟩))
        go_ret
        exact ⟨by rw [HF.out]; rfl, rfl⟩
    · have HF := Lib.hid (show (!dollarB c) = true by simp [dollarB, bne, h4, h3])
      go_enter Try.func44, Try.ntmps44
      go_wp2_with (first | (go_at_call 57; refine (class_p c hc _).mono ?_; rintro e w' ⟨rfl, rfl⟩) | (go_at_call 58; refine (special_p c hc _).mono ?_; rintro e w' ⟨rfl, rfl⟩))
      go_ret
      exact ⟨by rw [HF.out]; rfl, rfl⟩
  · have HF := Lib.hid (show (!dollarB c) = true by simp [dollarB, bne, h4])
    go_enter Try.func44, Try.ntmps44
    go_wp2_with (first | (go_at_call 57; refine (class_p c hc _).mono ?_; rintro e w' ⟨rfl, rfl⟩) | (go_at_call 58; refine (special_p c hc _).mono ?_; rintro e w' ⟨rfl, rfl⟩))
    go_ret
    exact ⟨by rw [HF.out]; rfl, rfl⟩

/-- May a literal at a place have a byte at all? -/
def holdsB (p : Nat) (c : Nat) : Bool :=
  if p = 0 then ((Chr.cls c : Int) == 3 || (Chr.cls c : Int) == 4 || (Chr.cls c : Int) == 8 || (Chr.cls c : Int) == 7)
  else if p = 1 then ((c : Int) != 34) && ((c : Int) != 96)
  else ((c : Int) != 125) && ((Chr.cls c : Int) != 6)
set_option maxRecDepth 100000 in
set_option maxHeartbeats 4000000 in
theorem holds_p0 (c : Nat) (hc : c < 256) (w : World) : Calls Try.prog 43 #[.int .i64 0, .int .u8 (c : Int)] w fun e w' => e = .returned (.bool (holdsB 0 c)) ∧ w = w' := by
  cases k3 : ((Chr.cls c : Int) == 3)
  · cases k4 : ((Chr.cls c : Int) == 4)
    · cases k8 : ((Chr.cls c : Int) == 8)
      · cases k7 : ((Chr.cls c : Int) == 7)
        · have HF := Lib.hid (show holdsB 0 c = false by simp [holdsB, k3, k4, k8, k7])
          go_enter Try.func43, Try.ntmps43
          go_wp2_with (go_at_call 57; refine (class_p c hc _).mono ?_; rintro e w' ⟨rfl, rfl⟩)
          go_ret
          exact ⟨by rw [HF.out]; rfl, rfl⟩
        · have HF := Lib.hid (show holdsB 0 c = true by simp [holdsB, k3, k4, k8, k7])
          go_enter Try.func43, Try.ntmps43
          go_wp2_with (go_at_call 57; refine (class_p c hc _).mono ?_; rintro e w' ⟨rfl, rfl⟩)
          go_ret
          exact ⟨by rw [HF.out]; rfl, rfl⟩
      · have HF := Lib.hid (show holdsB 0 c = true by simp [holdsB, k3, k4, k8])
        go_enter Try.func43, Try.ntmps43
        go_wp2_with (go_at_call 57; refine (class_p c hc _).mono ?_; rintro e w' ⟨rfl, rfl⟩)
        go_ret
        exact ⟨by rw [HF.out]; rfl, rfl⟩
    · have HF := Lib.hid (show holdsB 0 c = true by simp [holdsB, k3, k4])
      go_enter Try.func43, Try.ntmps43
      go_wp2_with (go_at_call 57; refine (class_p c hc _).mono ?_; rintro e w' ⟨rfl, rfl⟩)
      go_ret
      exact ⟨by rw [HF.out]; rfl, rfl⟩
  · have HF := Lib.hid (show holdsB 0 c = true by simp [holdsB, k3])
    go_enter Try.func43, Try.ntmps43
    go_wp2_with (go_at_call 57; refine (class_p c hc _).mono ?_; rintro e w' ⟨rfl, rfl⟩)
    go_ret
    exact ⟨by rw [HF.out]; rfl, rfl⟩

set_option maxRecDepth 100000 in
set_option maxHeartbeats 4000000 in
theorem holds_p1 (c : Nat) (hc : c < 256) (w : World) : Calls Try.prog 43 #[.int .i64 1, .int .u8 (c : Int)] w fun e w' => e = .returned (.bool (holdsB 1 c)) ∧ w = w' := by
  cases c34 : ((c : Int) != 34)
  · have HF := Lib.hid (show holdsB 1 c = false by simp [holdsB, c34])
    go_enter Try.func43, Try.ntmps43
    go_wp2_with (go_at_call 57; refine (class_p c hc _).mono ?_; rintro e w' ⟨rfl, rfl⟩)
    go_ret
    exact ⟨by rw [HF.out]; rfl, rfl⟩
  · cases c96 : ((c : Int) != 96)
    · have HF := Lib.hid (show holdsB 1 c = false by simp [holdsB, c34, c96])
      go_enter Try.func43, Try.ntmps43
      go_wp2_with (go_at_call 57; refine (class_p c hc _).mono ?_; rintro e w' ⟨rfl, rfl⟩)
      go_ret
      exact ⟨by rw [HF.out]; rfl, rfl⟩
    · have HF := Lib.hid (show holdsB 1 c = true by simp [holdsB, c34, c96])
      go_enter Try.func43, Try.ntmps43
      go_wp2_with (go_at_call 57; refine (class_p c hc _).mono ?_; rintro e w' ⟨rfl, rfl⟩)
      go_ret
      exact ⟨by rw [HF.out]; rfl, rfl⟩

set_option maxRecDepth 100000 in
set_option maxHeartbeats 4000000 in
theorem holds_p2 (c : Nat) (hc : c < 256) (w : World) : Calls Try.prog 43 #[.int .i64 2, .int .u8 (c : Int)] w fun e w' => e = .returned (.bool (holdsB 2 c)) ∧ w = w' := by
  cases c125 : ((c : Int) != 125)
  · have HF := Lib.hid (show holdsB 2 c = false by simp [holdsB, c125])
    go_enter Try.func43, Try.ntmps43
    go_wp2_with (go_at_call 57; refine (class_p c hc _).mono ?_; rintro e w' ⟨rfl, rfl⟩)
    go_ret
    exact ⟨by rw [HF.out]; rfl, rfl⟩
  · cases k6 : ((Chr.cls c : Int) != 6)
    · have HF := Lib.hid (show holdsB 2 c = false by simp [holdsB, c125, k6])
      go_enter Try.func43, Try.ntmps43
      go_wp2_with (go_at_call 57; refine (class_p c hc _).mono ?_; rintro e w' ⟨rfl, rfl⟩)
      go_ret
      exact ⟨by rw [HF.out]; rfl, rfl⟩
    · have HF := Lib.hid (show holdsB 2 c = true by simp [holdsB, c125, k6])
      go_enter Try.func43, Try.ntmps43
      go_wp2_with (go_at_call 57; refine (class_p c hc _).mono ?_; rintro e w' ⟨rfl, rfl⟩)
      go_ret
      exact ⟨by rw [HF.out]; rfl, rfl⟩

theorem holds_p (p : Nat) (hp : p ≤ 2) (c : Nat) (hc : c < 256) (w : World) : Calls Try.prog 43 #[.int .i64 p, .int .u8 (c : Int)] w fun e w' => e = .returned (.bool (holdsB p c)) ∧ w = w' := by
  have h : p = 0 ∨ p = 1 ∨ p = 2 := by omega
  rcases h with rfl | rfl | rfl
  · exact holds_p0 c hc w
  · exact holds_p1 c hc w
  · exact holds_p2 c hc w

/-- A literal's byte, as part asks. -/
def litQ (p : Nat) (c : Nat) (nx : Option Nat) : Bool :=
  if (c : Int) == 0 then false
  else if !holdsB p c then false
  else if (c : Int) == 36 && (match nx with | some d => !dollarB d | none => false) then false
  else !((c : Int) == 92 && (match nx with | some d => special24 d || (d : Int) == 10 | none => true))
def litA3 (p : Nat) (c : Nat) (b1 b2 : Bool) : Bool :=
  if (Chr.cls c : Int) == 0 then false
  else if (c : Int) == 36 && b1 then false
  else if p = 0 then ((Chr.cls c : Int) == 3 || (Chr.cls c : Int) == 4 || (Chr.cls c : Int) == 8 || (Chr.cls c : Int) == 7)
  else if p = 2 then !((c : Int) == 125 || (Chr.cls c : Int) == 6)
  else if (c : Int) == 34 || (c : Int) == 96 then false
  else !((c : Int) == 92 && b2)
def litQ3 (p : Nat) (c : Nat) (b1 b2 : Bool) : Bool :=
  if (c : Int) == 0 then false
  else if !holdsB p c then false
  else if (c : Int) == 36 && b1 then false
  else !((c : Int) == 92 && b2)
theorem lit3 : ∀ c : Fin 256, ∀ p : Fin 3, ∀ b1 b2 : Bool, litQ3 p.val c.val b1 b2 = litA3 p.val c.val b1 b2 := by decide +kernel
theorem litQ_eq (p : Nat) (hp : p ≤ 2) (c : Nat) (hc : c < 256) (nx : Option Nat) : litAt p c nx = litQ p c nx := by
  have := lit3 ⟨c, hc⟩ ⟨p, by omega⟩
  cases nx with
  | none => exact (this false true).symm
  | some d => exact (this (!dollarB d) (special24 d || (d : Int) == 10)).symm

set_option maxRecDepth 100000 in
set_option maxHeartbeats 4000000 in
theorem literal_p (p : Nat) (hp2 : p ≤ 2) (s : ByteArray) (w : World) (hm : s.size ≤ 562949953421312) : Calls Try.prog 32 #[.int .i64 p, .string s] w fun e w' => e = .returned (.bool (litB p s.toList)) ∧ w = w' := by
  go_enter Try.func32, Try.ntmps32
  go_wp2
  go_loop [10, 5] (fun i _ => ∃ k : Nat, k ≤ s.size ∧ i = .int .i64 k ∧ litGo p (s.toList.drop k) = litGo p s.toList) (fun i _ => s.size - (intOf i).toNat)
  case atStart => exact ⟨0, by omega, rfl, rfl⟩
  case round =>
    obtain ⟨k, hk, rfl, hl⟩ := hrel
    have HL := Lib.hid hl; clear hl
    by_cases hlt : k < s.size
    · by_cases hn : k + 1 < s.size
      · have hlz : ((k : Int) == (s.size : Int) - 1) = false := by rw [beq_eq_false_iff_ne]; omega
        have hnl : (k : Int) + 1 < (s.size : Int) := by omega
        have hst := litGo_step p s.toList k s[k] _ (drop_cons'' s k hlt)
        rw [drop_head s (k + 1) hn, Option.map_some, litQ_eq p hp2 _ (byte_lt s k hlt)] at hst
        have HST := Lib.hid hst; clear hst
        cases c0 : ((s[k].toNat : Int) == 0)
        · cases hh : holdsB p s[k].toNat
          · have HR := Lib.hid (show litB p s.toList = false by unfold litB; rw [← HL.out, HST.out]; simp [litQ, c0, hh])
            go_wp2_with (first | (go_at_call 43; refine (holds_p p hp2 s[k].toNat (byte_lt s k hlt) _).mono ?_; rintro e w' ⟨rfl, rfl⟩) | (go_at_call 44; refine (opens_p s[k + 1].toNat (byte_lt s (k + 1) hn) _).mono ?_; rintro e w' ⟨rfl, rfl⟩) | (go_at_call 33; refine (quotable_p s[k + 1].toNat (byte_lt s (k + 1) hn) _).mono ?_; rintro e w' ⟨rfl, rfl⟩))
            go_ret
            exact ⟨by rw [HR.out]; rfl, rfl⟩
          · cases c36 : ((s[k].toNat : Int) == 36)
            · cases c92 : ((s[k].toNat : Int) == 92)
              · have HR := Lib.hid (show litGo p (s.toList.drop (k + 1)) = litGo p s.toList by rw [← HL.out, HST.out]; simp [litQ, c0, hh, c36, c92])
                go_wp2_with (first | (go_at_call 43; refine (holds_p p hp2 s[k].toNat (byte_lt s k hlt) _).mono ?_; rintro e w' ⟨rfl, rfl⟩) | (go_at_call 44; refine (opens_p s[k + 1].toNat (byte_lt s (k + 1) hn) _).mono ?_; rintro e w' ⟨rfl, rfl⟩) | (go_at_call 33; refine (quotable_p s[k + 1].toNat (byte_lt s (k + 1) hn) _).mono ?_; rintro e w' ⟨rfl, rfl⟩))
                go_round
                case rel => exact ⟨k + 1, by omega, by go_num, HR.out⟩
                case measure => simp only [intOf]; omega
              · cases e1 : special24 (s[k + 1].toNat : Int)
                · cases e2 : ((s[k + 1].toNat : Int) == 10)
                  · have HR := Lib.hid (show litGo p (s.toList.drop (k + 1)) = litGo p s.toList by rw [← HL.out, HST.out]; simp [litQ, c0, hh, c36, c92, e1, e2])
                    go_wp2_with (first | (go_at_call 43; refine (holds_p p hp2 s[k].toNat (byte_lt s k hlt) _).mono ?_; rintro e w' ⟨rfl, rfl⟩) | (go_at_call 44; refine (opens_p s[k + 1].toNat (byte_lt s (k + 1) hn) _).mono ?_; rintro e w' ⟨rfl, rfl⟩) | (go_at_call 33; refine (quotable_p s[k + 1].toNat (byte_lt s (k + 1) hn) _).mono ?_; rintro e w' ⟨rfl, rfl⟩))
                    go_round
                    case rel => exact ⟨k + 1, by omega, by go_num, HR.out⟩
                    case measure => simp only [intOf]; omega
                  · have HR := Lib.hid (show litB p s.toList = false by unfold litB; rw [← HL.out, HST.out]; simp [litQ, c0, hh, c36, c92, e1, e2])
                    go_wp2_with (first | (go_at_call 43; refine (holds_p p hp2 s[k].toNat (byte_lt s k hlt) _).mono ?_; rintro e w' ⟨rfl, rfl⟩) | (go_at_call 44; refine (opens_p s[k + 1].toNat (byte_lt s (k + 1) hn) _).mono ?_; rintro e w' ⟨rfl, rfl⟩) | (go_at_call 33; refine (quotable_p s[k + 1].toNat (byte_lt s (k + 1) hn) _).mono ?_; rintro e w' ⟨rfl, rfl⟩))
                    go_ret
                    exact ⟨by rw [HR.out]; rfl, rfl⟩
                · have HR := Lib.hid (show litB p s.toList = false by unfold litB; rw [← HL.out, HST.out]; simp [litQ, c0, hh, c36, c92, e1])
                  go_wp2_with (first | (go_at_call 43; refine (holds_p p hp2 s[k].toNat (byte_lt s k hlt) _).mono ?_; rintro e w' ⟨rfl, rfl⟩) | (go_at_call 44; refine (opens_p s[k + 1].toNat (byte_lt s (k + 1) hn) _).mono ?_; rintro e w' ⟨rfl, rfl⟩) | (go_at_call 33; refine (quotable_p s[k + 1].toNat (byte_lt s (k + 1) hn) _).mono ?_; rintro e w' ⟨rfl, rfl⟩))
                  go_ret
                  exact ⟨by rw [HR.out]; rfl, rfl⟩
            · cases hd : dollarB s[k + 1].toNat
              · have HR := Lib.hid (show litB p s.toList = false by unfold litB; rw [← HL.out, HST.out]; simp [litQ, c0, hh, c36, hd])
                go_wp2_with (first | (go_at_call 43; refine (holds_p p hp2 s[k].toNat (byte_lt s k hlt) _).mono ?_; rintro e w' ⟨rfl, rfl⟩) | (go_at_call 44; refine (opens_p s[k + 1].toNat (byte_lt s (k + 1) hn) _).mono ?_; rintro e w' ⟨rfl, rfl⟩) | (go_at_call 33; refine (quotable_p s[k + 1].toNat (byte_lt s (k + 1) hn) _).mono ?_; rintro e w' ⟨rfl, rfl⟩))
                go_ret
                exact ⟨by rw [HR.out]; rfl, rfl⟩
              · have c92 : ((s[k].toNat : Int) == 92) = false := by rw [beq_iff_eq] at c36; rw [c36]; rfl
                have HR := Lib.hid (show litGo p (s.toList.drop (k + 1)) = litGo p s.toList by rw [← HL.out, HST.out]; simp [litQ, c0, hh, c36, hd, c92])
                go_wp2_with (first | (go_at_call 43; refine (holds_p p hp2 s[k].toNat (byte_lt s k hlt) _).mono ?_; rintro e w' ⟨rfl, rfl⟩) | (go_at_call 44; refine (opens_p s[k + 1].toNat (byte_lt s (k + 1) hn) _).mono ?_; rintro e w' ⟨rfl, rfl⟩) | (go_at_call 33; refine (quotable_p s[k + 1].toNat (byte_lt s (k + 1) hn) _).mono ?_; rintro e w' ⟨rfl, rfl⟩))
                go_round
                case rel => exact ⟨k + 1, by omega, by go_num, HR.out⟩
                case measure => simp only [intOf]; omega
        · have HR := Lib.hid (show litB p s.toList = false by unfold litB; rw [← HL.out, HST.out]; simp [litQ, c0])
          go_wp2_with (first | (go_at_call 43; refine (holds_p p hp2 s[k].toNat (byte_lt s k hlt) _).mono ?_; rintro e w' ⟨rfl, rfl⟩) | (go_at_call 44; refine (opens_p s[k + 1].toNat (byte_lt s (k + 1) hn) _).mono ?_; rintro e w' ⟨rfl, rfl⟩) | (go_at_call 33; refine (quotable_p s[k + 1].toNat (byte_lt s (k + 1) hn) _).mono ?_; rintro e w' ⟨rfl, rfl⟩))
          go_ret
          exact ⟨by rw [HR.out]; rfl, rfl⟩
      · have hlz : ((k : Int) == (s.size : Int) - 1) = true := by rw [beq_iff_eq]; omega
        have hst := litGo_step p s.toList k s[k] _ (drop_cons'' s k hlt)
        rw [drop_none s (k + 1) hn, List.head?_nil, Option.map_none, litQ_eq p hp2 _ (byte_lt s k hlt)] at hst
        have HST := Lib.hid hst; clear hst
        cases c0 : ((s[k].toNat : Int) == 0)
        · cases hh : holdsB p s[k].toNat
          · have HR := Lib.hid (show litB p s.toList = false by unfold litB; rw [← HL.out, HST.out]; simp [litQ, c0, hh])
            go_wp2_with (first | (go_at_call 43; refine (holds_p p hp2 s[k].toNat (byte_lt s k hlt) _).mono ?_; rintro e w' ⟨rfl, rfl⟩) | (go_at_call 44; refine (opens_p s[k + 1].toNat (byte_lt s (k + 1) hn) _).mono ?_; rintro e w' ⟨rfl, rfl⟩) | (go_at_call 33; refine (quotable_p s[k + 1].toNat (byte_lt s (k + 1) hn) _).mono ?_; rintro e w' ⟨rfl, rfl⟩))
            go_ret
            exact ⟨by rw [HR.out]; rfl, rfl⟩
          · cases c36 : ((s[k].toNat : Int) == 36)
            · cases c92 : ((s[k].toNat : Int) == 92)
              · have HR := Lib.hid (show litGo p (s.toList.drop (k + 1)) = litGo p s.toList by rw [← HL.out, HST.out]; simp [litQ, drop_none s (k + 1) hn, c0, hh, c36, c92])
                go_wp2_with (first | (go_at_call 43; refine (holds_p p hp2 s[k].toNat (byte_lt s k hlt) _).mono ?_; rintro e w' ⟨rfl, rfl⟩) | (go_at_call 44; refine (opens_p s[k + 1].toNat (byte_lt s (k + 1) hn) _).mono ?_; rintro e w' ⟨rfl, rfl⟩) | (go_at_call 33; refine (quotable_p s[k + 1].toNat (byte_lt s (k + 1) hn) _).mono ?_; rintro e w' ⟨rfl, rfl⟩))
                go_round
                case rel => exact ⟨k + 1, by omega, by go_num, HR.out⟩
                case measure => simp only [intOf]; omega
              · have HR := Lib.hid (show litB p s.toList = false by unfold litB; rw [← HL.out, HST.out]; simp [litQ, c0, hh, c36, c92])
                go_wp2_with (first | (go_at_call 43; refine (holds_p p hp2 s[k].toNat (byte_lt s k hlt) _).mono ?_; rintro e w' ⟨rfl, rfl⟩) | (go_at_call 44; refine (opens_p s[k + 1].toNat (byte_lt s (k + 1) hn) _).mono ?_; rintro e w' ⟨rfl, rfl⟩) | (go_at_call 33; refine (quotable_p s[k + 1].toNat (byte_lt s (k + 1) hn) _).mono ?_; rintro e w' ⟨rfl, rfl⟩))
                go_ret
                exact ⟨by rw [HR.out]; rfl, rfl⟩
            · have c92 : ((s[k].toNat : Int) == 92) = false := by rw [beq_iff_eq] at c36; rw [c36]; rfl
              have HR := Lib.hid (show litGo p (s.toList.drop (k + 1)) = litGo p s.toList by rw [← HL.out, HST.out]; simp [litQ, drop_none s (k + 1) hn, c0, hh, c36, c92])
              go_wp2_with (first | (go_at_call 43; refine (holds_p p hp2 s[k].toNat (byte_lt s k hlt) _).mono ?_; rintro e w' ⟨rfl, rfl⟩) | (go_at_call 44; refine (opens_p s[k + 1].toNat (byte_lt s (k + 1) hn) _).mono ?_; rintro e w' ⟨rfl, rfl⟩) | (go_at_call 33; refine (quotable_p s[k + 1].toNat (byte_lt s (k + 1) hn) _).mono ?_; rintro e w' ⟨rfl, rfl⟩))
              go_round
              case rel => exact ⟨k + 1, by omega, by go_num, HR.out⟩
              case measure => simp only [intOf]; omega
        · have HR := Lib.hid (show litB p s.toList = false by unfold litB; rw [← HL.out, HST.out]; simp [litQ, c0])
          go_wp2_with (first | (go_at_call 43; refine (holds_p p hp2 s[k].toNat (byte_lt s k hlt) _).mono ?_; rintro e w' ⟨rfl, rfl⟩) | (go_at_call 44; refine (opens_p s[k + 1].toNat (byte_lt s (k + 1) hn) _).mono ?_; rintro e w' ⟨rfl, rfl⟩) | (go_at_call 33; refine (quotable_p s[k + 1].toNat (byte_lt s (k + 1) hn) _).mono ?_; rintro e w' ⟨rfl, rfl⟩))
          go_ret
          exact ⟨by rw [HR.out]; rfl, rfl⟩
    · have hg : litGo p s.toList = true := by rw [← HL.out, drop_none s k hlt]; rfl
      have HR := Lib.hid (show litB p s.toList = !s.toList.isEmpty by unfold litB; rw [hg]; rfl)
      clear hg
      go_wp2
      go_ret
      exact ⟨by rw [HR.out]; rfl, rfl⟩

end Go.Proofs.Ytjpopekmbmcggaa
