/- conchlaw36.AliasNone, walked: true, whatever the texts. -/
import Derived.Test.YtbkmfnjjfamjjaaAlAwake
import Derived.Deep.DeepCutAuto
namespace Go.Proofs.Ytbkmfnjjfamjjaa
open Go.RowKit Go.Maps

theorem suf_last (v : ByteArray) (c : UInt8) (h : 0 < v.size) : Lib.hasSuffix v.data.toList [c] = (v[v.size - 1] == c) := by
  have hl : v.toList.getLast? = some (v[v.size - 1]'(by omega)) := by
    rw [List.getLast?_eq_getElem?, ← size_list]; exact get?_list v _ (by omega)
  rw [← Lib.toList_data]
  unfold Lib.hasSuffix
  rw [List.isSuffixOf]
  rw [← List.head?_reverse] at hl
  cases hr : v.toList.reverse with
  | nil => rw [hr] at hl; simp at hl
  | cons a r =>
    rw [hr] at hl
    simp at hl
    show (c == a && true) = _
    rw [Bool.and_true, ← hl]
    rw [Bool.eq_iff_iff]; simp only [beq_iff_eq]; exact eq_comm
theorem blank_zero (v : ByteArray) (h : v.size = 0) : blankB v = false := by
  have : v.data.toList = [] := List.eq_nil_of_length_eq_zero (by rw [Array.length_toList]; exact h)
  unfold blankB
  rw [this]
  rfl
theorem blank_last (v : ByteArray) (h : 0 < v.size) : blankB v = ((v[v.size - 1] == 32) || (v[v.size - 1] == 9)) := by
  unfold blankB
  rw [suf_last v 32 h, suf_last v 9 h]

set_option maxRecDepth 100000 in
set_option maxHeartbeats 4000000 in
theorem aliasNone_walk (s v : ByteArray) (w : World) : Calls Try.prog 6 #[.string s, .string v] w fun e w' => e = .returned (.bool true) ∧ Below w.heap.size w w' := by
  have AW := awake36 w
  by_cases hl : 1000 < s.size ∨ 1000 < v.size
  · by_cases h1 : 1000 < s.size
    · have h1' : (1000 : Int) < (s.size : Int) := by omega
      clear hl
      go_enter Try.func6, Try.ntmps6
      go_wp2_with (refine AW.mono ?_; rintro e w1 ⟨rfl, hb⟩)
      go_ret
      exact ⟨rfl, hb⟩
    · have h1' : ¬ (1000 : Int) < (s.size : Int) := by omega
      have h2' : (1000 : Int) < (v.size : Int) := by omega
      clear hl
      go_enter Try.func6, Try.ntmps6
      go_wp2_with (refine AW.mono ?_; rintro e w1 ⟨rfl, hb⟩)
      go_ret
      exact ⟨rfl, hb⟩
  · have h1' : ¬ (1000 : Int) < (s.size : Int) := by omega
    have h2' : ¬ (1000 : Int) < (v.size : Int) := by omega
    have hvs : (v.size : Int) ≤ 1000 := by omega
    have BL := blank_p v w (by omega)
    clear hl
    by_cases h0 : v.size = 0
    · rw [blank_zero v h0] at BL
      have hz : ¬ (0 : Int) < (v.size : Int) := by omega
      have hz2 : (v.size : Int) = 0 := by omega
      clear h0
      go_enter Try.func6, Try.ntmps6
      go_wp2_with (first | (refine (get_nil s _).mono ?_; rintro e w1 ⟨rfl, rfl⟩) | (refine (set_nil s v _).mono ?_; rintro e w1 ⟨rfl, rfl⟩) | (refine (unset_nil s _).mono ?_; rintro e w1 ⟨rfl, rfl⟩) | (refine (len_nil _).mono ?_; rintro e w1 ⟨rfl, rfl⟩) | (refine (list_nil _).mono ?_; rintro e w1 ⟨rfl, rfl⟩) | (refine (twin_nil _).mono ?_; rintro e w1 ⟨rfl, rfl⟩) | (refine BL.mono ?_; rintro e w1 ⟨rfl, rfl⟩) | (refine AW.mono ?_; rintro e w1 ⟨rfl, hb⟩))
      go_ret
      exact ⟨rfl, hb⟩
    · have hp0 : 0 < v.size := by omega
      have hp : (0 : Int) < (v.size : Int) := by omega
      have hp1 : (0 : Int) ≤ (v.size : Int) - 1 := by omega
      have hp3 : (v.size : Int) - 1 < (v.size : Int) := by omega
      have hp4 : ((v.size : Int) - 1).toNat = v.size - 1 := by omega
      rw [blank_last v hp0] at BL
      cases m1 : ((v[v.size - 1].toNat : Int) == 32)
      · have mb1 : (v[v.size - 1] == 32) = false := by rw [beq_eq_false_iff_ne]; intro e; exact (beq_eq_false_iff_ne.1 m1) (by rw [e]; rfl)
        cases m2 : ((v[v.size - 1].toNat : Int) == 9)
        · have mb2 : (v[v.size - 1] == 9) = false := by rw [beq_eq_false_iff_ne]; intro e; exact (beq_eq_false_iff_ne.1 m2) (by rw [e]; rfl)
          rw [mb1, mb2] at BL
          clear mb1 mb2 h0
          go_enter Try.func6, Try.ntmps6
          go_wp2_with (first | (refine (get_nil s _).mono ?_; rintro e w1 ⟨rfl, rfl⟩) | (refine (set_nil s v _).mono ?_; rintro e w1 ⟨rfl, rfl⟩) | (refine (unset_nil s _).mono ?_; rintro e w1 ⟨rfl, rfl⟩) | (refine (len_nil _).mono ?_; rintro e w1 ⟨rfl, rfl⟩) | (refine (list_nil _).mono ?_; rintro e w1 ⟨rfl, rfl⟩) | (refine (twin_nil _).mono ?_; rintro e w1 ⟨rfl, rfl⟩) | (refine BL.mono ?_; rintro e w1 ⟨rfl, rfl⟩) | (refine AW.mono ?_; rintro e w1 ⟨rfl, hb⟩))
          go_ret
          exact ⟨rfl, hb⟩
        · have mb2 : (v[v.size - 1] == 9) = true := by rw [beq_iff_eq]; exact UInt8.toNat_inj.1 (by have := eq_of_beq m2; show _ = 9; omega)
          rw [mb1, mb2] at BL
          clear mb1 mb2 h0
          go_enter Try.func6, Try.ntmps6
          go_wp2_with (first | (refine (get_nil s _).mono ?_; rintro e w1 ⟨rfl, rfl⟩) | (refine (set_nil s v _).mono ?_; rintro e w1 ⟨rfl, rfl⟩) | (refine (unset_nil s _).mono ?_; rintro e w1 ⟨rfl, rfl⟩) | (refine (len_nil _).mono ?_; rintro e w1 ⟨rfl, rfl⟩) | (refine (list_nil _).mono ?_; rintro e w1 ⟨rfl, rfl⟩) | (refine (twin_nil _).mono ?_; rintro e w1 ⟨rfl, rfl⟩) | (refine BL.mono ?_; rintro e w1 ⟨rfl, rfl⟩) | (refine AW.mono ?_; rintro e w1 ⟨rfl, hb⟩))
          go_ret
          exact ⟨rfl, hb⟩
      · have mb1 : (v[v.size - 1] == 32) = true := by rw [beq_iff_eq]; exact UInt8.toNat_inj.1 (by have := eq_of_beq m1; show _ = 32; omega)
        rw [mb1, Bool.true_or] at BL
        clear mb1 h0
        go_enter Try.func6, Try.ntmps6
        go_wp2_with (first | (refine (get_nil s _).mono ?_; rintro e w1 ⟨rfl, rfl⟩) | (refine (set_nil s v _).mono ?_; rintro e w1 ⟨rfl, rfl⟩) | (refine (unset_nil s _).mono ?_; rintro e w1 ⟨rfl, rfl⟩) | (refine (len_nil _).mono ?_; rintro e w1 ⟨rfl, rfl⟩) | (refine (list_nil _).mono ?_; rintro e w1 ⟨rfl, rfl⟩) | (refine (twin_nil _).mono ?_; rintro e w1 ⟨rfl, rfl⟩) | (refine BL.mono ?_; rintro e w1 ⟨rfl, rfl⟩) | (refine AW.mono ?_; rintro e w1 ⟨rfl, hb⟩))
        go_ret
        exact ⟨rfl, hb⟩
end Go.Proofs.Ytbkmfnjjfamjjaa
