/- HasPrefix, begins, and the program's More: it hands back the numbers of the operators that begin with a text. -/
import Derived.Test.YtpefkhbejjndeaaDoorOperWalks
namespace Go.Proofs.YtpefkhbejjndeaaDoor
open Go.RowKit

theorem hasPrefix_eq (s t : ByteArray) (h : t.size ≤ s.size) : ((s.extract 0 t.size).toList == t.toList) = t.toList.isPrefixOf s.toList := by
  have h1 := Lib.hasPrefix_raw s t
  rw [decide_eq_true h, Bool.true_and] at h1
  rw [h1, Lib.hasPrefix, Lib.toList_data, Lib.toList_data]
theorem hasPrefix_no (s t : ByteArray) (h : ¬ t.size ≤ s.size) : t.toList.isPrefixOf s.toList = false := by
  have h1 := Lib.hasPrefix_raw s t
  rw [decide_eq_false h, Bool.false_and] at h1
  rw [h1, Lib.hasPrefix, Lib.toList_data, Lib.toList_data]

set_option maxHeartbeats 400000 in
theorem hasPrefix_in (s t : ByteArray) (w : World) : Calls Tryd.prog 21 #[.string s, .string t] w fun e w' => e = .returned (.bool (t.toList.isPrefixOf s.toList)) ∧ w = w' := by
  go_enter Tryd.func21, Tryd.ntmps21
  go_wp2
  all_goals go_ret
  · exact ⟨ret_bool (hasPrefix_eq s t (by assumption)), rfl⟩
  · exact ⟨ret_bool (hasPrefix_no s t (by assumption)).symm, rfl⟩
set_option maxHeartbeats 400000 in
theorem hasPrefix_p (s t : ByteArray) (w : World) : Calls Tryd.prog 19 #[.string s, .string t] w fun e w' => e = .returned (.bool (t.toList.isPrefixOf s.toList)) ∧ w = w' := by
  go_enter Tryd.func19, Tryd.ntmps19
  go_wp2_with (go_at_call 21; refine (hasPrefix_in _ _ _).mono ?_; rintro e w' ⟨rfl, rfl⟩)
  go_ret
  exact ⟨rfl, rfl⟩
set_option maxHeartbeats 400000 in
theorem begins_r (s t : ByteArray) (w : World) : Calls Tryd.prog 20 #[.string s, .string t] w fun e w' => e = .returned (.bool (t.toList.isPrefixOf s.toList)) ∧ w = w' := by
  go_enter Tryd.func20, Tryd.ntmps20
  go_wp2
  all_goals go_ret
  · exact ⟨ret_bool (hasPrefix_eq s t (by assumption)), rfl⟩
  · exact ⟨ret_bool (hasPrefix_no s t (by assumption)).symm, rfl⟩

def nums (l : List Nat) : List Value := l.map fun (k : Nat) => Value.int .i64 (k : Int)
def IntsOut (l : List Nat) (w : World) (e : Ending) (w' : World) : Prop :=
  ∃ A c, e = .returned (.slice A l.length c) ∧ Row w' w'.heap.size 1 A l.length (nums l) ∧ l.length ≤ c ∧ Below w.heap.size w w'

theorem int_info : (Tryd.prog.info? 3).map (fun i => (i.zero, i.size, i.bytes)) = some (some (.int .i64 0), 1, 8) := by kernel_rfl

/-- One number more. -/
theorem more_step {w wr w1 : World} {l : List Nat} {k : Nat} {v v' : Value} (hb : Below w.heap.size w wr) (o : Obj)
    (hown : w1.ownsRow w.heap.size 3 1 v' (l.length + 1) (nums l ++ [.int .i64 k])) (hg : (wr.alloc o).grownBy w1 v.ownBlock) (hv : wr.ownsRow w.heap.size 3 1 v l.length (nums l)) :
    w1.ownsRow w.heap.size 3 1 v' (l ++ [k]).length (nums (l ++ [k])) ∧ Below w.heap.size w w1 := by
  refine ⟨?_, ?_⟩
  · simpa [nums] using hown
  · exact (hb.alloc hb.size o).grown hg (by have := hb.size; simp; omega) (fun g hg' => (hv.lt g hg').1)

theorem nums_len (l : List Nat) : (nums l).length = l.length := by simp [nums]

set_option maxHeartbeats 1000000 in
theorem more_p (s : ByteArray) (w : World) (ht : TextsAt w) : Calls Tryd.prog 11 #[.string s] w (IntsOut (Ope.more s.toList) w) := by
  obtain ⟨t, fr, hg⟩ := ht
  obtain ⟨i0, hi, hz0, hz1, hz2⟩ := info_parts int_info
  go_enter Tryd.func11, Tryd.ntmps11
  go_wp2_with (refine wpList_load_row rfl 32 _ rfl 0 rfl t _ fr _ hg Tryd.underlying32 rfl (by kernel_rfl) ?_)
  clear hg
  go_loopw [3, 7] (fun v i wr => ∃ (k : Nat) (l : List Nat), k ≤ 18 ∧ i = .int .i64 k ∧ wr.ownsRow w.heap.size 3 1 v l.length (nums l) ∧ Below w.heap.size w wr ∧ l.length ≤ k ∧
      (k = 0 ∧ l = [] ∨ 1 ≤ k ∧ l ++ Ope.moreFrom s.toList k (18 - k) = Ope.more s.toList)) (fun _ i _ => 18 - (intOf i).toNat)
  case atStart => exact ⟨0, [], by omega, rfl, World.ownsRow_nil _ _ _ _, Below.refl _ _, by simp, .inl ⟨rfl, rfl⟩⟩
  case round =>
    obtain ⟨k, l, hk, rfl, hown, hbel, hlk, hf⟩ := hrel
    have H := Lib.hid hf; clear hf
    by_cases hlt : k < 18
    · have hi' := idx_text k hlt wr
      unfold bs at hi'
      by_cases h0 : k = 0
      · subst h0
        simp only [Int.ofNat_zero] at hi'
        have hl : l = [] ∧ [] ++ Ope.moreFrom s.toList 1 17 = Ope.more s.toList := by
          rcases H.out with ⟨_, h⟩ | ⟨h, _⟩
          · exact ⟨h, rfl⟩
          · omega
        obtain ⟨rfl, _⟩ := hl
        go_wp2_with fail
        go_roundw
        case rel => exact ⟨1, [], by omega, rfl, hown, hbel, by simp, .inr ⟨by omega, rfl⟩⟩
        case measure => simp [intOf]
      · have hz : ((k : Int) != 0) = true := by rw [bne_iff_ne]; omega
        obtain ⟨m, hm⟩ : ∃ m, 18 - k = m + 1 := ⟨17 - k, by omega⟩
        have hm2 : 18 - (k + 1) = m := by omega
        have HM := Lib.hid hm; have HM2 := Lib.hid hm2; clear hm hm2
        have HF := Lib.hid (show l ++ Ope.moreFrom s.toList k (18 - k) = Ope.more s.toList by
          rcases H.out with ⟨h, _⟩ | ⟨_, h⟩
          · omega
          · exact h)
        have HZ := Lib.hid hz; clear hz
        cases hp : s.toList.isPrefixOf (Ope.txt k)
        · have hz := HZ.out
          go_wp2_with (go_at_call 19; refine (hasPrefix_p _ _ _).mono ?_; rintro e w' ⟨rfl, rfl⟩)
          go_roundw
          case rel =>
            refine ⟨k + 1, l, by omega, by go_num, hown, hbel, by omega, .inr ⟨by omega, ?_⟩⟩
            have h := HF.out
            rw [HM.out, Ope.moreFrom, hp] at h
            rw [HM2.out]; exact h
          case measure => simp only [intOf]; omega
        · have hz := HZ.out
          go_wp2_with (first
            | (go_at_call 19; refine (hasPrefix_p _ _ _).mono ?_; rintro e w' ⟨rfl, rfl⟩)
            | (at_builtin; refine wpList_append_own _ rfl _ _ 26 rfl w.heap.size 3 i0 (.int .i64 0) 1 8 Tryd.underlying26 hi hz0 hz1 hz2 rfl (by decide) _ _ _ rfl (hown.alloc _) ⟨wr.heap.size, 0, none⟩ 1 1 [.int .i64 (k : Int)] rfl rfl ?c1 ?c2 ?c3 ?c4 ?c5 ?_))
          case c1 =>
            intro j u hj
            match j, hj with
            | 0, hj => simp at hj; subst hj; simp [Addr.add]
          case c2 => intro u hu; simp at hu; subst hu; rfl
          case c3 => unfold maxLen; omega
          case c4 => omega
          case c5 => have := hbel.size; simp; omega
          intro v' w1 hown' hgrow _
          have R := more_step hbel _ hown' hgrow hown
          clear hown' hgrow
          go_wp2
          go_roundw
          case rel =>
            refine ⟨k + 1, l ++ [k], by omega, by go_num, R.1, R.2, by simp; omega, .inr ⟨by omega, ?_⟩⟩
            have h := HF.out
            rw [HM.out, Ope.moreFrom, hp, if_pos rfl] at h
            rw [HM2.out, List.append_assoc]; exact h
          case measure => simp only [intOf]; omega
    · obtain rfl : k = 18 := by omega
      obtain ⟨A, c, rfl, hnc, _⟩ := own_shape hown
      go_wp2_with fail
      go_ret
      have hl : l = Ope.more s.toList := by
        rcases H.out with ⟨h, _⟩ | ⟨_, h⟩
        · omega
        · simpa [Ope.moreFrom] using h
      subst hl
      exact ⟨A, c, rfl, Row.of_own hown, hnc, hbel⟩
end Go.Proofs.YtpefkhbejjndeaaDoor
