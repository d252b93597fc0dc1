/- part.Bare: a word without commands. -/
import Derived.Test.YtjpopekmbmcggaaProgBare
import Derived.Test.YtjpopekmbmcggaaProgCount
namespace Go.Proofs.Ytjpopekmbmcggaa
open Go.RowKit

set_option maxRecDepth 100000 in
set_option maxHeartbeats 1000000 in
theorem bareW_p (l : Pts) (A : Option Addr) (c : Nat) (G : Nat → Prop) (w : World) (hwt : l.wt ≤ 1073741824) (hG : ∀ k, G k → k < w.heap.size) (hp : PtsAt G w A 0 l) :
    Calls Try.prog 16 #[.agg #[.slice A l.len c]] w fun e w' => ∃ A' c', e = .returned (.agg #[.slice A' l.bare.len c']) ∧ l.bare.len ≤ c' ∧ PtsAt (fun g => w.heap.size ≤ g ∧ g < w'.heap.size) w' A' 0 l.bare ∧ Below w.heap.size w w' := by
  have hb : Below w.heap.size w ((w.alloc (.cells #[.slice A l.len c] 24)).alloc (.cells #[.slice none 0 0] 24)) := ((Below.refl _ _).alloc (Nat.le_refl _) _).alloc (by simp) _
  have hbox : ((w.alloc (.cells #[.slice A l.len c] 24)).alloc (.cells #[.slice none 0 0] 24)).heap[w.heap.size]? = some (.cells #[.slice A l.len c] 24) := (Below.heap_alloc _ _ _ (by simp)).trans (heap_alloc_new w _)
  have hres : ((w.alloc (.cells #[.slice A l.len c] 24)).alloc (.cells #[.slice none 0 0] 24)).heap[w.heap.size + 1]? = some (.cells #[.slice none 0 0] 24) := by
    have := heap_alloc_new (w.alloc (.cells #[.slice A l.len c] 24)) (.cells #[.slice none 0 0] 24)
    rwa [show (w.alloc (.cells #[.slice A l.len c] 24)).heap.size = w.heap.size + 1 by simp] at this
  have hs2 : ((w.alloc (.cells #[.slice A l.len c] 24)).alloc (.cells #[.slice none 0 0] 24)).heap.size = w.heap.size + 1 + 1 := by simp
  have q0 := word_cell hbox
  have HS2 := Lib.hid hs2
  have HRES := Lib.hid hres
  have HB := Lib.hid hb
  have HP := Lib.hid (hp.old hG hb)
  have HG := Lib.hid (show ∀ g, G g → g < ((w.alloc (.cells #[.slice A l.len c] 24)).alloc (.cells #[.slice none 0 0] 24)).heap.size from fun g hg => Nat.lt_of_lt_of_le (hG g hg) hb.size)
  clear hb hbox hres hp hG hs2
  go_enter Try.func16, Try.ntmps16
  go_wp2_with fail
  refine (bare_p l A c G _ hwt HG.out HP.out).mono ?_
  rintro e w1 ⟨A2, c2, rfl, hc2, hp2, hb2⟩
  have hr1 := (hb2.block (w.heap.size + 1) (by rw [HS2.out]; omega)).trans HRES.out
  have z0 := word_cell hr1
  have zf : w1.frozen? ⟨w.heap.size + 1, 0, none⟩ = false := by simp [World.frozen?, hr1]
  have HP2 := Lib.hid hp2; have HB2 := Lib.hid hb2; have HC2 := Lib.hid hc2; have HR1 := Lib.hid hr1
  have hz : (w1.setCell ⟨w.heap.size + 1, 0, none⟩ (.slice A2 l.bare.len c2)).cell? ⟨w.heap.size + 1, 0, none⟩ = some (.slice A2 l.bare.len c2) := word_cell (b := w.heap.size + 1) (T := 24) (by simp [World.setCell, Array.getElem?_modify, hr1])
  clear hp2 hb2 hc2 hr1 q0
  go_wp2
  have hbx := HB.out.trans (HB2.out.mono HB.out.size)
  refine bodyPost_ret (v := .agg #[.slice A2 l.bare.len c2]) (by simp [results, Try.results16, go_sem, hz]) rfl ?_
  exact ⟨A2, c2, rfl, HC2.out, (HP2.out.keep fun p hp => World.cell?_of_block (Below.heap_setCell _ _ _ _ (by have := hp.1; rw [HS2.out] at this; show p.block ≠ w.heap.size + 1; omega))).more fun g hg => ⟨by have := hg.1; rw [HS2.out] at this; omega, by simpa [World.setCell] using hg.2⟩, hbx.setCell (by show w.heap.size ≤ w.heap.size + 1; omega) _⟩
end Go.Proofs.Ytjpopekmbmcggaa
