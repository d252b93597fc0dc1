/- Aliases in a row as they lie: read (AlAt), and in a block of the call's own (Arow); what append makes of them. -/
import Derived.Test.YtbkmfnjjfamjjaaBase
import Derived.Test.YtbkmfnjjfamjjaaWr
import Derived.Test.YtbkmfnjjfamjjaaAlPlain
import Derived.Maps.AppendAt
import Derived.Deep.Upon
import Derived.Deep.OwnRows
import Derived.Below
namespace Go.Proofs.Ytbkmfnjjfamjjaa
open Go.RowKit

def Al.cells (L : Al) : List Value := L.flatMap fun p => [.string p.1, .string p.2]
theorem Al.cells_length : ∀ L : Al, L.cells.length = L.length * 2
  | [] => rfl
  | p :: r => by
    have := Al.cells_length r
    unfold Al.cells at this ⊢
    rw [List.flatMap_cons, List.length_append, this, List.length_cons, List.length_cons, List.length_cons, List.length_nil]
    omega
theorem Al.cells_append (L M : Al) : Al.cells (L ++ M) = L.cells ++ M.cells := by unfold Al.cells; rw [List.flatMap_append]
theorem Al.cells_one : ∀ (L : Al), ∀ u ∈ L.cells, u.oneCell' = true := by
  intro L u hu
  unfold Al.cells at hu
  obtain ⟨p, _, hp⟩ := List.mem_flatMap.1 hu
  simp only [List.mem_cons, List.not_mem_nil, or_false] at hp
  rcases hp with rfl | rfl <;> rfl
theorem Al.cells_at : ∀ (L : Al) (i : Nat) (p : ByteArray × ByteArray), L[i]? = some p → L.cells[i * 2]? = some (.string p.1) ∧ L.cells[i * 2 + 1]? = some (.string p.2)
  | [], i, p, h => by simp at h
  | q :: r, 0, p, h => by
    simp at h; subst h
    unfold Al.cells
    rw [List.flatMap_cons]
    exact ⟨rfl, rfl⟩
  | q :: r, i + 1, p, h => by
    have := Al.cells_at r i p (by simpa using h)
    unfold Al.cells at this ⊢
    rw [List.flatMap_cons, show (i + 1) * 2 = i * 2 + 1 + 1 by omega]
    exact this
theorem Al.cells_inv : ∀ (L : Al) (j : Nat) (u : Value), L.cells[j]? = some u → ∃ p, L[j / 2]? = some p ∧ u = (if j % 2 = 0 then .string p.1 else .string p.2)
  | [], j, u, h => by simp [Al.cells] at h
  | q :: r, j, u, h => by
    unfold Al.cells at h
    rw [List.flatMap_cons] at h
    rcases j with _ | _ | j
    · simp at h; exact ⟨q, rfl, by simpa using h.symm⟩
    · simp at h; exact ⟨q, rfl, by simpa using h.symm⟩
    · have h' : (Al.cells r)[j]? = some u := by unfold Al.cells; simpa using h
      obtain ⟨p, h1, h2⟩ := Al.cells_inv r j u h'
      refine ⟨p, ?_, ?_⟩
      · rw [show (j + 1 + 1) / 2 = j / 2 + 1 by omega]; simpa using h1
      · rw [show (j + 1 + 1) % 2 = j % 2 by omega]; exact h2

/-- Aliases as they are read: from an address on. -/
def AlAt (w : World) (A : Option Addr) (L : Al) : Prop := ∀ (i : Nat) (p : ByteArray × ByteArray), L[i]? = some p → ∃ b off, A = some ⟨b, off, none⟩ ∧ w.cell? ⟨b, off + i * 2, none⟩ = some (.string p.1) ∧ w.cell? ⟨b, off + i * 2 + 1, none⟩ = some (.string p.2)
theorem AlAt.keep {w w' : World} {A : Option Addr} {L : Al} (h : AlAt w A L) (hk : ∀ a b, A = some a → a.block = b → w'.heap[b]? = w.heap[b]?) : AlAt w' A L := fun i p hp => by
  obtain ⟨b, off, rfl, h1, h2⟩ := h i p hp
  have hb := hk _ b rfl rfl
  exact ⟨b, off, rfl, (World.cell?_of_block hb).trans h1, (World.cell?_of_block hb).trans h2⟩
theorem AlAt.lt {w : World} {a : Addr} {L : Al} (h : AlAt w (some a) L) (hL : 0 < L.length) : a.block < w.heap.size := by
  obtain ⟨b, off, e, h1, _⟩ := h 0 _ (List.getElem?_eq_getElem hL)
  injection e with e; subst e
  exact block_lt_of_cell h1
/-- Aliases in a row of the call's own. -/
def Arow (B : Nat) (w : World) (v : Value) (L : Al) : Prop := w.ownsRow B 49 2 v L.length L.cells
theorem info_alias : (Try.prog.info? 49).map (fun i => (i.zero, i.size, i.bytes)) = some (some (.agg #[.string ⟨#[]⟩, .string ⟨#[]⟩]), 2, 32) := by kernel_rfl

section
variable {B : Nat} {w w' : World} {v : Value} {L M : Al}
theorem Arow.nothing : Arow B w (.slice none 0 0) [] := ⟨rfl, .inl ⟨rfl, rfl⟩⟩
theorem Arow.fresh {g : Nat} (hB : B ≤ g) (hh : w.heap[g]? = some (.cells L.cells.toArray 49 (0, 0))) (hm : L.length ≤ maxLen) : Arow B w (.slice (some ⟨g, 0, none⟩) L.length L.length) L :=
  ⟨Al.cells_length L, .inr ⟨g, L.length, L.cells.toArray, rfl, hB, hh, Nat.le_refl _, hm, by simp [Al.cells_length], by rw [← Al.cells_length L]; simp⟩⟩
theorem Arow.shape (h : Arow B w v L) : ∃ A c, v = .slice A L.length c ∧ L.length ≤ c ∧ c ≤ maxLen ∧ AlAt w A L := by
  obtain ⟨hxl, hv⟩ := h
  rcases hv with ⟨rfl, hn⟩ | ⟨g, cap, cur, rfl, hB, hh, hc, hm, hcs, htake⟩
  · refine ⟨none, 0, by rw [hn], by omega, Nat.zero_le _, fun i p hp => ?_⟩
    have := (List.getElem?_eq_some_iff.1 hp).1
    omega
  · refine ⟨some ⟨g, 0, none⟩, cap, rfl, hc, hm, fun i p hp => ?_⟩
    have hlt := (List.getElem?_eq_some_iff.1 hp).1
    obtain ⟨h1, h2⟩ := Al.cells_at L i p hp
    rw [← htake] at h1 h2
    rw [List.getElem?_take_of_lt (by omega)] at h1 h2
    refine ⟨g, 0, rfl, ?_, ?_⟩ <;> simp only [World.cell?, hh]
    · simpa using h1
    · simpa using h2
theorem Arow.lt (h : Arow B w v L) {g : Nat} (hg : v.ownBlock = some g) : B ≤ g ∧ g < w.heap.size := by
  rcases h.2 with ⟨rfl, _⟩ | ⟨g', cap, cur, rfl, hB, hh, _⟩
  · simp [Value.ownBlock] at hg
  · simp [Value.ownBlock] at hg
    subst hg
    exact ⟨hB, (Array.getElem?_eq_some_iff.1 hh).1⟩
theorem Arow.keep (h : Arow B w v L) (hv : ∀ g, v.ownBlock = some g → w'.heap[g]? = w.heap[g]?) : Arow B w' v L := by
  refine ⟨h.1, ?_⟩
  rcases h.2 with h0 | ⟨g, cap, cur, rfl, hB, hh, hrest⟩
  · exact .inl h0
  · exact .inr ⟨g, cap, cur, rfl, hB, (hv g rfl).trans hh, hrest⟩
theorem Arow.below (h : Arow B w v L) (hb : Below w.heap.size w w') : Arow B w' v L := h.keep fun _ hg => hb.block _ (h.lt hg).2
theorem Arow.base (h : Arow B w v L) {B' : Nat} (hB : B' ≤ B) : Arow B' w v L := by
  refine ⟨h.1, ?_⟩
  rcases h.2 with h0 | ⟨g, cap, cur, e, hb, hrest⟩
  · exact .inl h0
  · exact .inr ⟨g, cap, cur, e, Nat.le_trans hB hb, hrest⟩
/-- What append makes. -/
theorem Arow.append {A : Option Addr} {c : Nat} (h : Arow B w v L) (hx : AlAt w A M) (hlen : L.length + M.length ≤ 1099511627776) (hB : B ≤ w.heap.size) (hc : M.length ≤ c) :
    ∃ v' w', WrA Try.prog #[26, 26] 26 #[v, .slice A M.length c] w = .ok v' w' ∧ Arow B w' v' (L ++ M) ∧ w.grownBy w' v.ownBlock ∧ (v'.ownBlock = v.ownBlock ∨ v'.ownBlock = some w.heap.size) := by
  obtain ⟨i0, hi, hz0, hz1, hz2⟩ := info_parts info_alias
  by_cases hz : M.length = 0
  · obtain rfl : M = [] := List.eq_nil_of_length_eq_zero hz
    obtain ⟨A1, c1, rfl, hl1, hm1, _⟩ := h.shape
    refine ⟨_, w, WrA.of (run_append_nothing w _ _ _ _ i0 Try.underlying26 hi A1 L.length c1 hl1 _ ?_), by rw [List.append_nil]; exact h, ⟨rfl, rfl, rfl, Nat.le_refl _, fun _ _ _ => rfl⟩, .inl rfl⟩
    cases A with
    | none => exact Src.ofNil w Try.underlying26 c
    | some a => exact Src.ofSlice w Try.underlying26 a 0 c [] (by simp) (fun j u hj => by simp at hj) (fun u hu => by cases hu)
  · obtain ⟨b, off, rfl, _⟩ := hx 0 _ (List.getElem?_eq_getElem (by omega))
    have hcell : ∀ j u, M.cells[j]? = some u → w.cell? ((⟨b, off, none⟩ : Addr).add j) = some u := fun j u hj => by
      obtain ⟨p, h1, h2⟩ := Al.cells_inv M j u hj
      obtain ⟨b', off', e, k1, k2⟩ := hx _ p h1
      cases e
      rw [show (⟨b, off, none⟩ : Addr).add j = ⟨b, off + j, none⟩ by unfold Addr.add; split <;> simp_all]
      by_cases hj2 : j % 2 = 0
      · rw [if_pos hj2] at h2; subst h2
        rw [show off + j = off + j / 2 * 2 by omega]; exact k1
      · rw [if_neg hj2] at h2; subst h2
        rw [show off + j = off + j / 2 * 2 + 1 by omega]; exact k2
    obtain ⟨v', w', hrun, hown', hgr, hnil, hat⟩ := run_append_own_at (P := Try.prog) (w := w) B 26 26 _ i0 _ 2 32 Try.underlying26 hi hz0 hz1 hz2 rfl (by omega) v L.length L.cells h ⟨b, off, none⟩ M.length c M.cells (Al.cells_length M)
      hcell (Al.cells_one M) (by unfold maxLen; omega) (by omega) hB
    refine ⟨v', w', WrA.of hrun, ?_, hgr, hat⟩
    unfold Arow
    rw [List.length_append, Al.cells_append]
    exact hown'
end
end Go.Proofs.Ytbkmfnjjfamjjaa
