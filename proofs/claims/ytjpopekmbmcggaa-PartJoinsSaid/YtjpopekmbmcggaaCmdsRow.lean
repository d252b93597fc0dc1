/- Rows of commands' slices of the call's own, and what append makes of them. -/
import Derived.Test.YtjpopekmbmcggaaPartCount
import Derived.Test.YtjpopekmbmcggaaWr
import Derived.Deep.Upon
namespace Go.Proofs.Ytjpopekmbmcggaa
open Go.RowKit

namespace Pts
/-- All commands within. -/
def cmds : Pts → List Cm
  | nil => []
  | cons k _ _ kids cm rest => (if k = 6 then [cm] else []) ++ kids.cmds ++ rest.cmds
theorem cmds_count : ∀ l : Pts, l.cmds.length ≤ l.count
  | nil => Nat.le_refl _
  | cons k _ _ kids cm rest => by
    have h1 := cmds_count kids
    have h2 := cmds_count rest
    rw [cmds, count, List.length_append, List.length_append]
    split <;> simp <;> omega
end Pts

/-- Commands' slices as they lie in a row of the call's own. -/
def Crow (B : Nat) (w : World) (v : Value) (l : List Cm) : Prop := w.ownsRow B 30 1 v l.length (l.map Cm.val)

theorem info_node : (Try.prog.info? 30).map (fun i => (i.zero, i.size, i.bytes)) = some (some (.slice none 0 0), 1, 24) := by kernel_rfl

section
variable {B : Nat} {w w' : World} {v : Value} {l m : List Cm}
theorem Crow.nothing : Crow B w (.slice none 0 0) [] := ⟨rfl, .inl ⟨rfl, rfl⟩⟩
theorem Crow.shape (h : Crow B w v l) : ∃ A c, v = .slice A l.length c ∧ l.length ≤ c ∧ c ≤ maxLen := own_shape h
theorem Crow.lt (h : Crow B w v l) {g : Nat} (hg : v.ownBlock = some g) : B ≤ g ∧ g < w.heap.size := by
  rcases h.2 with ⟨rfl, _⟩ | ⟨g', cap, cur, rfl, hb, hh, _⟩
  · simp [Value.ownBlock] at hg
  · simp [Value.ownBlock] at hg
    subst hg
    exact ⟨hb, (Array.getElem?_eq_some_iff.1 hh).1⟩
theorem Crow.keep (h : Crow B w v l) (hv : ∀ g, v.ownBlock = some g → w'.heap[g]? = w.heap[g]?) : Crow B w' v l := by
  refine ⟨h.1, ?_⟩
  rcases h.2 with h0 | ⟨g, cap, cur, rfl, hB, hh, hrest⟩
  · exact .inl h0
  · exact .inr ⟨g, cap, cur, rfl, hB, (hv g rfl).trans hh, hrest⟩
theorem Crow.below (h : Crow B w v l) (hb : Below w.heap.size w w') : Crow B w' v l := h.keep fun _ hg => hb.block _ (h.lt hg).2
/-- The cells of a row, read. -/
theorem Crow.cells {a : Addr} {c : Nat} (h : Crow B w (.slice (some a) l.length c) l) (j : Nat) (u : Value) (hj : (l.map Cm.val)[j]? = some u) : w.cell? (a.add j) = some u := by
  rcases h.2 with ⟨h0, _⟩ | ⟨g, cap, cur, hv, hB, hh, _⟩
  · cases h0
  · have ha : a = ⟨g, 0, none⟩ := by injection hv with h1; injection h1
    subst ha
    exact World.ownsRow.cells h (g := g) rfl j u hj
/-- What append makes. -/
theorem Crow.append (h : Crow B w v l) (m : List Cm) (ad : Addr) (c : Nat) (hx : ∀ j u, (m.map Cm.val)[j]? = some u → w.cell? (ad.add j) = some u) (hlen : l.length + m.length ≤ 1099511627776) (hB : B ≤ w.heap.size) :
    ∃ v' w', WrA Try.prog #[27, 27] 27 #[v, .slice (some ad) m.length c] w = .ok v' w' ∧ Crow B w' v' (l ++ m) ∧ w.grownBy w' v.ownBlock ∧ (v'.ownBlock = v.ownBlock ∨ v'.ownBlock = some w.heap.size) := by
  obtain ⟨i0, hi, hz0, hz1, hz2⟩ := info_parts info_node
  obtain ⟨v', w', hrun, hown, hg, _, hat⟩ := run_append_own_at (P := Try.prog) (w := w) B 27 27 30 i0 (.slice none 0 0) 1 24 Try.underlying27 hi hz0 hz1 hz2 rfl (by decide) v l.length (l.map Cm.val) h ad m.length c (m.map Cm.val) (by simp) hx
    (by intro u hu; obtain ⟨x, _, rfl⟩ := List.mem_map.1 hu; rfl) (by unfold maxLen; omega) (by omega) hB
  refine ⟨v', w', WrA.of hrun, ?_, hg, hat⟩
  unfold Crow
  rw [List.length_append, List.map_append]
  exact hown
theorem Crow.append_nil (h : Crow B w v l) (c : Nat) : WrA Try.prog #[27, 27] 27 #[v, .slice none 0 c] w = .ok v w := by
  obtain ⟨i0, hi, hz0, hz1, hz2⟩ := info_parts info_node
  obtain ⟨A1, c1, rfl, hl1, hm1⟩ := h.shape
  exact WrA.of (run_append_nothing w _ _ _ _ i0 Try.underlying27 hi A1 l.length c1 hl1 _ (Src.ofNil w Try.underlying27 c))
end
end Go.Proofs.Ytjpopekmbmcggaa
