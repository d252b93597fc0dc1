/- here.Reader.Text, Rest (no reader), Show; May; the walk of awake; HereNone. -/
import Derived.Test.YtpefkhbejjndeaaHereCut
namespace Go.Proofs.Ytpefkhbejjndeaa
open Go.RowKit

set_option maxRecDepth 100000 in
set_option maxHeartbeats 1000000 in
theorem text_none (w : World) : Calls Try.prog 51 #[.pointer none] w fun r w' => r = .returned (.tuple #[.string ⟨#[]⟩, .bool false]) ∧ w = w' := by
  go_enter Try.func51, Try.ntmps51
  go_wp2
  go_ret2
  exact ⟨rfl, rfl⟩
set_option maxRecDepth 100000 in
set_option maxHeartbeats 1000000 in
theorem feed_none (n : Int) (w : World) : Calls Try.prog 52 #[.pointer none, .int .u8 n] w fun r w' => r = .returned (.int .i64 3) ∧ w = w' := by
  go_enter Try.func52, Try.ntmps52
  go_wp2
  go_ret
  exact ⟨rfl, rfl⟩
set_option maxRecDepth 100000 in
set_option maxHeartbeats 1000000 in
theorem rest_none (w : World) : Calls Try.prog 53 #[.pointer none] w fun r w' => r = .returned (.string ⟨#[]⟩) ∧ w = w' := by
  go_enter Try.func53, Try.ntmps53
  go_wp2
  go_ret
  exact ⟨rfl, rfl⟩
set_option maxRecDepth 100000 in
set_option maxHeartbeats 1000000 in
theorem show_any (e s : ByteArray) (t : Bool) (w : World) (h : s.size + e.size ≤ 1099511627776) : Calls Try.prog 47 #[.agg #[.string e, .bool t], .string s] w fun r w' => r = .returned (bs (s.toList ++ e.toList ++ [10])) ∧ Below w.heap.size w w' := by
  have hfin : (⟨(s.toList ++ e.toList ++ [10]).toArray⟩ : ByteArray) = s ++ e ++ ⟨#[10]⟩ := ext_list (by rw [list_mk, append_list, append_list, show (⟨#[10]⟩ : ByteArray).toList = [10] from list_mk [10]])
  have HF := Lib.hid hfin; clear hfin
  have ha : ∀ X : World, (Op.stringOp .add s e).run Try.prog X = .ok (.string (s ++ e)) X := fun X => run_string_add_sum (P := Try.prog) X s e (by omega)
  have hb : ∀ X : World, (Op.stringOp .add (s ++ e) ⟨#[10]⟩).run Try.prog X = .ok (.string (s ++ e ++ ⟨#[10]⟩)) X := fun X => run_string_add_sum (P := Try.prog) X (s ++ e) ⟨#[10]⟩ (by
    have h1 : (s ++ e).size = s.size + e.size := by simp
    have h2 : (⟨#[10]⟩ : ByteArray).size = 1 := rfl
    omega)
  go_enter Try.func47, Try.ntmps47
  go_wp2
  go_ret
  exact ⟨by unfold bs; rw [HF.out]; rfl, (Below.refl _ _).alloc (Nat.le_refl _) _⟩

theorem join_flat (xs : List (List UInt8)) : Lib.join xs [] = xs.flatten := by
  unfold Lib.join List.intercalate
  induction xs with
  | nil => rfl
  | cons x r ih =>
    cases r with
    | nil => simp
    | cons y r => simp only [List.intersperse, List.flatten_cons, List.nil_append] at ih ⊢; rw [ih]
section
variable {B b : Nat} {e : ByteArray} {t : Bool} {ls : List (List UInt8)} {l : List UInt8} {sm : Bool} {sg : Int}
set_option maxRecDepth 100000 in
set_option maxHeartbeats 1000000 in
theorem text_not (w : World) (h : Rd B b e t ls l sm sg w) (hs : sg ≠ 1) : Calls Try.prog 51 #[.pointer (some ⟨b, 0, none⟩)] w fun r w' => r = .returned (.tuple #[.string ⟨#[]⟩, .bool false]) ∧ w = w' := by
  obtain ⟨vls, vl, c0, c1, c2, c3, c4, c5, fz, o1, o2, hh⟩ := h.cells
  clear h o1 o2 hh
  have hs2 : (sg != 1) = true := by rw [bne_iff_ne]; exact hs
  clear hs
  go_enter Try.func51, Try.ntmps51
  go_wp2
  go_ret2
  exact ⟨rfl, rfl⟩
set_option maxRecDepth 100000 in
set_option maxHeartbeats 1000000 in
theorem text_ends (w : World) (h : Rd B b e t ls l sm 1 w) (hf : ls.flatten.length ≤ 1099511627776) (hl : ls.length ≤ 1099511627776) : Calls Try.prog 51 #[.pointer (some ⟨b, 0, none⟩)] w fun r w' => r = .returned (.tuple #[bs ls.flatten, .bool true]) ∧ Below w.heap.size w w' := by
  obtain ⟨vls, vl, c0, c1, c2, c3, c4, c5, fz, o1, o2, hh⟩ := h.cells
  clear h o2 hh
  obtain ⟨A1, k1, rfl, hk1, hn1⟩ := own_form o1
  have HO := Lib.hid o1; have HN := Lib.hid hn1
  clear o1 hn1
  go_enter Try.func51, Try.ntmps51
  go_wp2_with fail
  by_cases h0 : ls.length = 0
  · obtain rfl : ls = [] := List.length_eq_zero_iff.1 h0
    refine (Try.strings_Join_none _ _ _ _).mono ?_
    rintro r w1 ⟨rfl, rfl⟩
    go_wp2
    go_ret2
    exact ⟨rfl, Below.refl _ _⟩
  · obtain ⟨g, cap, hv, hlt, hcell⟩ : ∃ g cap, A1 = some ⟨g, 0, none⟩ ∧ g < w.heap.size ∧ ∀ (j : Nat) (x : ByteArray), (ls.map fun l => (⟨l.toArray⟩ : ByteArray))[j]? = some x → w.cell? ⟨g, 0 + j, none⟩ = some (.string x) := by
      rcases HO.out.2 with ⟨hv, hn⟩ | ⟨g, cap, cur, hv, hb, hg, hc, hm, hcs, htake⟩
      · exact absurd hn h0
      · injection hv with e1 e2 e3
        refine ⟨g, cap, e1, (Array.getElem?_eq_some_iff.1 hg).1, fun j x hx => ?_⟩
        have hj : (ls.map bs)[j]? = some (.string x) := by
          rw [List.getElem?_map] at hx ⊢
          cases h : ls[j]? with
          | none => rw [h] at hx; cases hx
          | some y => rw [h] at hx; simp at hx; subst hx; rfl
        have hjl : j < ls.length := by
          have := (List.getElem?_eq_some_iff.1 hj).1
          simpa using this
        rw [← htake, List.getElem?_take_of_lt (by omega)] at hj
        rw [Nat.zero_add]
        simp only [World.cell?, hg]
        simpa using hj
    subst hv
    have hlen : ls.length = (ls.map fun l => (⟨l.toArray⟩ : ByteArray)).length := by simp
    rw [hlen]
    have hmap : (ls.map fun l => (⟨l.toArray⟩ : ByteArray)).map (·.data.toList) = ls := by
      rw [List.map_map]
      exact List.map_id' ls
    refine (Try.strings_Join g 0 _ _ ⟨#[]⟩ _ hcell hlt (by simp; omega) (by simp; exact hk1) (by rw [hmap, show (⟨#[]⟩ : ByteArray).data.toList = [] from rfl, join_flat]; omega)).mono ?_
    rintro r w1 ⟨rfl, hb⟩
    rw [hmap, show (⟨#[]⟩ : ByteArray).data.toList = [] from rfl, join_flat]
    have HB := Lib.hid hb; clear hb hmap hlen hcell
    go_wp2
    go_ret2
    exact ⟨rfl, HB.out⟩
end
end Go.Proofs.Ytpefkhbejjndeaa
