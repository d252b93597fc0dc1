/- More of the reference, Longest, Whole, and two lists of numbers compared. -/
import Derived.Test.YtpefkhbejjndeaaDoorOperMore
namespace Go.Proofs.YtpefkhbejjndeaaDoor
open Go.RowKit

set_option maxHeartbeats 1000000 in
theorem more_r (s : ByteArray) (w : World) : Calls Tryd.prog 12 #[.string s] w (IntsOut (Ope.more s.toList) w) := by
  obtain ⟨i0, hi, hz0, hz1, hz2⟩ := info_parts int_info
  go_enter Tryd.func12, Tryd.ntmps12
  go_wp2_with fail
  go_loopw [3, 4] (fun v i wr => ∃ (k : Nat) (l : List Nat), 1 ≤ k ∧ k ≤ 18 ∧ i = .int .i64 k ∧ wr.ownsRow w.heap.size 3 1 v l.length (nums l) ∧ Below w.heap.size w wr ∧ l.length ≤ k ∧
      l ++ Ope.moreFrom s.toList k (18 - k) = Ope.more s.toList) (fun _ i _ => 18 - (intOf i).toNat)
  case atStart => exact ⟨1, [], by omega, by omega, rfl, World.ownsRow_nil _ _ _ _, Below.refl _ _, by simp, rfl⟩
  case round =>
    obtain ⟨k, l, h1k, hk, rfl, hown, hbel, hlk, hf⟩ := hrel
    have H := Lib.hid hf; clear hf
    by_cases hlt : k < 18
    · obtain ⟨m, hm⟩ : ∃ m, 18 - k = m + 1 := ⟨17 - k, by omega⟩
      have hm2 : 18 - (k + 1) = m := by omega
      have HM := Lib.hid hm; have HM2 := Lib.hid hm2; clear hm hm2
      cases hp : s.toList.isPrefixOf (Ope.txt k)
      · go_wp2_with (first
          | (go_at_call 7; refine (text_r _ _).mono ?_; rintro e w' ⟨rfl, rfl⟩; rw [txtI_at]; unfold bs)
          | (go_at_call 20; refine (begins_r _ _ _).mono ?_; rintro e w' ⟨rfl, rfl⟩))
        go_roundw
        case rel =>
          refine ⟨k + 1, l, by omega, by omega, by go_num, hown, hbel, by omega, ?_⟩
          have h := H.out
          rw [HM.out, Ope.moreFrom, hp] at h
          rw [HM2.out]; exact h
        case measure => simp only [intOf]; omega
      · go_wp2_with (first
          | (go_at_call 7; refine (text_r _ _).mono ?_; rintro e w' ⟨rfl, rfl⟩; rw [txtI_at]; unfold bs)
          | (go_at_call 20; refine (begins_r _ _ _).mono ?_; rintro e w' ⟨rfl, rfl⟩)
          | (at_builtin; refine wpList_append_own _ rfl _ _ 26 rfl w.heap.size 3 i0 (.int .i64 0) 1 8 Tryd.underlying26 hi hz0 hz1 hz2 rfl (by decide) _ _ _ rfl (hown.alloc _) ⟨wr.heap.size, 0, none⟩ 1 1 [.int .i64 (k : Int)] rfl rfl ?c1 ?c2 ?c3 ?c4 ?c5 ?_))
        case c1 =>
          intro j u hj
          match j, hj with
          | 0, hj => simp at hj; subst hj; simp [Addr.add]
        case c2 => intro u hu; simp at hu; subst hu; rfl
        case c3 => unfold maxLen; omega
        case c4 => omega
        case c5 => have := hbel.size; simp; omega
        intro v' w1 hown' hgrow _
        have R := more_step hbel _ hown' hgrow hown
        clear hown' hgrow
        go_wp2
        go_roundw
        case rel =>
          refine ⟨k + 1, l ++ [k], by omega, by omega, by go_num, R.1, R.2, by simp; omega, ?_⟩
          have h := H.out
          rw [HM.out, Ope.moreFrom, hp, if_pos rfl] at h
          rw [HM2.out, List.append_assoc]; exact h
        case measure => simp only [intOf]; omega
    · obtain rfl : k = 18 := by omega
      obtain ⟨A, c, rfl, hnc, _⟩ := own_shape hown
      go_wp2_with fail
      go_ret
      have hl : l = Ope.more s.toList := by simpa [Ope.moreFrom] using H.out
      subst hl
      exact ⟨A, c, rfl, Row.of_own hown, hnc, hbel⟩

set_option maxHeartbeats 400000 in
theorem long_p (s : ByteArray) (w : World) (ht : TextsAt w) : Calls Tryd.prog 13 #[.string s] w fun e w' => e = .returned (.int .i64 (Ope.long s.toList)) ∧ w = w' := by
  have hs := size_list s
  go_enter Tryd.func13, Tryd.ntmps13
  have HS := Lib.hid hs; clear hs
  by_cases h3 : s.size < 3
  all_goals
    go_wp2_with fail
    go_loop [3, 4] (fun i _ => ∃ k : Nat, k ≤ s.size ∧ k ≤ 3 ∧ i = .int .i64 k ∧ Ope.longFrom s.toList k = Ope.long s.toList) (fun i _ => (intOf i).toNat)
    case atStart =>
      first
        | exact ⟨s.size, by omega, by omega, rfl, by rw [Ope.long, ← HS.out, Nat.min_eq_right (by omega)]⟩
        | exact ⟨3, by omega, by omega, rfl, by rw [Ope.long, ← HS.out, Nat.min_eq_left (by omega)]⟩
    case round =>
      obtain ⟨k, hk, hk3, rfl, hf⟩ := hrel
      have H := Lib.hid hf; clear hf
      rcases k with _ | k
      · go_wp2_with fail
        go_ret
        exact ⟨ret_int (by rw [← H.out]; rfl), rfl⟩
      · obtain ⟨b, hb⟩ : ∃ b, ((Ope.find (s.toList.take (k + 1)) : Int) != 0) = b := ⟨_, rfl⟩
        have HL := Lib.hid (show (if Ope.find (s.toList.take (k + 1)) ≠ 0 then Ope.find (s.toList.take (k + 1)) else Ope.longFrom s.toList k) = Ope.long s.toList from H.out)
        have HB := Lib.hid hb
        cases b
        · go_wp2_with (go_at_call 8; refine (find_p _ _ ht).mono ?_; rintro e w' ⟨rfl, rfl⟩; rw [take_list])
          go_round
          case rel =>
            refine ⟨k, by omega, by omega, by go_num, ?_⟩
            have hb := HB.out
            have h0 : Ope.find (s.toList.take (k + 1)) = 0 := by
              have : (Ope.find (s.toList.take (k + 1)) : Int) = 0 := by simpa using hb
              omega
            have h := HL.out
            rw [if_neg (by simp [h0])] at h
            exact h
          case measure => simp only [intOf]; omega
        · go_wp2_with (go_at_call 8; refine (find_p _ _ ht).mono ?_; rintro e w' ⟨rfl, rfl⟩; rw [take_list])
          go_ret
          refine ⟨ret_int ?_, rfl⟩
          have hb := HB.out
          have h := HL.out
          rw [if_pos (by intro h0; rw [h0] at hb; simp at hb)] at h
          rw [h]

theorem bool_gt (a b : Nat) : decide ((b : Int) < (a : Int)) = decide (b < a) := by
  by_cases h : b < a
  · rw [decide_eq_true h, decide_eq_true (by omega)]
  · rw [decide_eq_false h, decide_eq_false (by omega)]

set_option maxHeartbeats 1000000 in
theorem long_r (s : ByteArray) (w : World) : Calls Tryd.prog 14 #[.string s] w fun e w' => e = .returned (.int .i64 (Ope.long s.toList)) ∧ w = w' := by
  rw [← Ope.best_long]
  go_enter Tryd.func14, Tryd.ntmps14
  go_wp2_with fail
  go_loop [3, 4] (fun v i => ∃ (k b : Nat), 1 ≤ k ∧ k ≤ 18 ∧ i = .int .i64 k ∧ v = .int .i64 b ∧ Ope.bestFrom s.toList k (18 - k) b = Ope.best s.toList) (fun _ i => 18 - (intOf i).toNat)
  case atStart => exact ⟨1, 0, by omega, by omega, rfl, rfl, rfl⟩
  case round =>
    obtain ⟨k, b, h1k, hk, rfl, rfl, hf⟩ := hrel
    have H := Lib.hid hf; clear hf
    by_cases hlt : k < 18
    · obtain ⟨m, hm⟩ : ∃ m, 18 - k = m + 1 := ⟨17 - k, by omega⟩
      have hm2 : 18 - (k + 1) = m := by omega
      have HM := Lib.hid hm; have HM2 := Lib.hid hm2; clear hm hm2
      cases hp : (Ope.txt k).isPrefixOf s.toList
      · go_wp2_with (first
          | (go_at_call 7; refine (text_r _ _).mono ?_; rintro e w' ⟨rfl, rfl⟩; rw [txtI_at]; unfold bs)
          | (go_at_call 20; refine (begins_r _ _ _).mono ?_; rintro e w' ⟨rfl, rfl⟩))
        go_round
        case rel =>
          refine ⟨k + 1, b, by omega, by omega, by go_num, rfl, ?_⟩
          have h := H.out
          rw [HM.out, Ope.bestFrom, hp] at h
          rw [HM2.out]; exact h
        case measure => simp only [intOf]; omega
      · by_cases hl : (Ope.txt b).length < (Ope.txt k).length
        · go_wp2_with (first
            | (go_at_call 7; refine (text_r _ _).mono ?_; rintro e w' ⟨rfl, rfl⟩; rw [txtI_at]; unfold bs)
            | (go_at_call 20; refine (begins_r _ _ _).mono ?_; rintro e w' ⟨rfl, rfl⟩))
          go_round
          case rel =>
            refine ⟨k + 1, k, by omega, by omega, by go_num, rfl, ?_⟩
            have h := H.out
            rw [HM.out, Ope.bestFrom, hp, decide_eq_true hl] at h
            rw [HM2.out]; exact h
          case measure => simp only [intOf]; omega
        · go_wp2_with (first
            | (go_at_call 7; refine (text_r _ _).mono ?_; rintro e w' ⟨rfl, rfl⟩; rw [txtI_at]; unfold bs)
            | (go_at_call 20; refine (begins_r _ _ _).mono ?_; rintro e w' ⟨rfl, rfl⟩))
          go_round
          case rel =>
            refine ⟨k + 1, b, by omega, by omega, by go_num, rfl, ?_⟩
            have h := H.out
            rw [HM.out, Ope.bestFrom, hp, decide_eq_false hl] at h
            rw [HM2.out]; exact h
          case measure => simp only [intOf]; omega
    · obtain rfl : k = 18 := by omega
      go_wp2_with fail
      go_ret
      exact ⟨ret_int (by rw [← H.out]; rfl), rfl⟩

end Go.Proofs.YtpefkhbejjndeaaDoor
