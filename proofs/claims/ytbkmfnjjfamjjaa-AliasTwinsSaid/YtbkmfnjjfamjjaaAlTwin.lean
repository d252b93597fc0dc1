/- The program's Twin, Blank, and what the nil table answers: walked. -/
import Derived.Test.YtbkmfnjjfamjjaaAlList
namespace Go.Proofs.Ytbkmfnjjfamjjaa
open Go.RowKit Go.Maps

set_option maxRecDepth 100000 in
set_option maxHeartbeats 2000000 in
theorem twin_p (g b : Nat) (L : Al) (w : World) (h : Tab w g b L) : Calls Try.prog 18 #[.pointer (some ⟨g, 0, none⟩)] w fun e w' => e = .returned (.pointer (some ⟨w.heap.size + 1, 0, none⟩)) ∧ Tab w' (w.heap.size + 1) w.heap.size L ∧ Below w.heap.size w w' := by
  have c0 := h.cell
  obtain ⟨es, clock, hb, F, hs, hD⟩ := h.2
  have HM := Lib.hid (show Mp (w.alloc (.map es clock)) w.heap.size L from ⟨es, clock, heap_alloc w _, F, hs, hD⟩)
  have HB := Lib.hid hb
  clear h hb F hs hD
  go_enter Try.func18, Try.ntmps18
  go_wp2_with fail
  refine (AnyW.maps_Clone Try.clone26 b es clock w HB.out).mono ?_
  rintro e w1 ⟨rfl, rfl⟩
  go_wp2_with fail
  go_ret
  exact ⟨rfl, ⟨heap_alloc_newer _ _ _, HM.out.kept (row := none) (World.grownBy_alloc _ _ _) (by simp)⟩, ((Below.refl _ _).alloc (Nat.le_refl _) _).alloc (by simp) _⟩
set_option maxRecDepth 100000 in
set_option maxHeartbeats 1000000 in
theorem twin_nil (w : World) : Calls Try.prog 18 #[.pointer none] w fun e w' => e = .returned (.pointer none) ∧ w' = w := by
  go_enter Try.func18, Try.ntmps18
  go_wp2
  go_ret
  exact ⟨rfl, rfl⟩
set_option maxRecDepth 100000 in
set_option maxHeartbeats 1000000 in
theorem list_nil (w : World) : Calls Try.prog 17 #[.pointer none] w fun e w' => e = .returned (.slice none 0 0) ∧ w' = w := by
  go_enter Try.func17, Try.ntmps17
  go_wp2
  go_ret
  exact ⟨rfl, rfl⟩
/-- Does a text end with a blank? -/
def blankB (v : ByteArray) : Bool := Lib.hasSuffix v.data.toList [32] || Lib.hasSuffix v.data.toList [9]
set_option maxRecDepth 100000 in
set_option maxHeartbeats 1000000 in
theorem blank_p (v : ByteArray) (w : World) (hv : v.size ≤ 9223372036854775807) : Calls Try.prog 19 #[.string v] w fun e w' => e = .returned (.bool (blankB v)) ∧ w' = w := by
  have hsp : (⟨#[32]⟩ : ByteArray).data.toList = [32] := rfl
  have htb : (⟨#[9]⟩ : ByteArray).data.toList = [9] := rfl
  have H1 := Try.strings_HasSuffix v ⟨#[32]⟩ w hv
  have H2 := Try.strings_HasSuffix v ⟨#[9]⟩ w hv
  rw [hsp] at H1
  rw [htb] at H2
  clear hsp htb
  have HB := Lib.hid (show blankB v = (Lib.hasSuffix v.data.toList [32] || Lib.hasSuffix v.data.toList [9]) from rfl)
  revert H1 H2 HB
  generalize Lib.hasSuffix v.data.toList [32] = x
  generalize Lib.hasSuffix v.data.toList [9] = y
  intro H1 H2 HB
  cases x
  all_goals
    go_enter Try.func19, Try.ntmps19
    go_wp2_with (first | (refine H1.mono ?_; rintro e w1 ⟨rfl, rfl⟩) | (refine H2.mono ?_; rintro e w1 ⟨rfl, rfl⟩))
    go_ret
    exact ⟨ret_bool (by rw [HB.out]; rfl), rfl⟩
end Go.Proofs.Ytbkmfnjjfamjjaa
