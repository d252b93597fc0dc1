/- Rows of parts of the call's own, and what append makes of them. -/
import Derived.Test.YtpefkhbejjndeaaClass
namespace Go.Proofs.Ytpefkhbejjndeaa
open Go.RowKit

theorem info_part : (Try.prog.info? 41).map (fun i => (i.zero, i.size, i.bytes)) = some (some (.agg #[.int .i64 0, .string ⟨#[]⟩, .string ⟨#[]⟩, .slice none 0 0, .slice none 0 0]), 5, 88) := by kernel_rfl

theorem add_at (b off n : Nat) : (⟨b, off, none⟩ : Addr).add n = ⟨b, off + n, none⟩ := by
  unfold Addr.add
  split
  · rename_i h; subst h; rfl
  · rfl

/-- A row of parts in a block of the call's own (or none): what is within the parts lies in blocks of G. -/
def Prow (G : Nat → Prop) (B : Nat) (w : World) (v : Value) (l : Pts) : Prop := ∃ xs, w.ownsRow B 41 5 v l.len xs ∧ PtsRow G w xs l

section
variable {G : Nat → Prop} {B : Nat} {w w' : World} {v : Value} {l l2 : Pts}
theorem Prow.nothing : Prow G B w (.slice none 0 0) .nil := ⟨[], ⟨rfl, .inl ⟨rfl, rfl⟩⟩, rfl⟩
theorem Prow.fresh {g : Nat} {xs : List Value} (hB : B ≤ g) (hh : w.heap[g]? = some (.cells xs.toArray 41 (0, 0))) (hr : PtsRow G w xs l) (hm : l.len ≤ maxLen) : Prow G B w (.slice (some ⟨g, 0, none⟩) l.len l.len) l := by
  refine ⟨xs, ⟨hr.len, .inr ⟨g, l.len, xs.toArray, rfl, hB, hh, Nat.le_refl _, hm, by simpa using hr.len, ?_⟩⟩, hr⟩
  rw [← hr.len]
  simp
theorem Prow.at_ (h : Prow G B w v l) : ∃ A c, v = .slice A l.len c ∧ l.len ≤ c ∧ c ≤ maxLen ∧ PtsAt (fun k => G k ∨ v.ownBlock = some k) w A 0 l := by
  obtain ⟨xs, ⟨hxl, hv⟩, hr⟩ := h
  rcases hv with ⟨rfl, hn⟩ | ⟨g, cap, cur, rfl, hB, hh, hc, hm, hcs, htake⟩
  · refine ⟨none, 0, by rw [hn], by omega, Nat.zero_le _, ?_⟩
    cases l with
    | nil => trivial
    | cons => simp [Pts.len] at hn
  · refine ⟨some ⟨g, 0, none⟩, cap, rfl, hc, hm, (hr.more fun k hk => .inl hk).at_ (.inr rfl) fun j u hj => ?_⟩
    rw [← htake] at hj
    have hlt : j < l.len * 5 := by
      have := (List.getElem?_eq_some_iff.1 hj).1
      rw [List.length_take] at this
      omega
    rw [List.getElem?_take_of_lt hlt] at hj
    simp only [World.cell?, hh]
    simpa using hj
theorem Prow.lt (h : Prow G B w v l) {g : Nat} (hg : v.ownBlock = some g) : B ≤ g ∧ g < w.heap.size := by
  obtain ⟨xs, ⟨hxl, hv⟩, hr⟩ := h
  rcases hv with ⟨rfl, _⟩ | ⟨g', cap, cur, rfl, hB, hh, _⟩
  · simp [Value.ownBlock] at hg
  · simp [Value.ownBlock] at hg
    subst hg
    exact ⟨hB, (Array.getElem?_eq_some_iff.1 hh).1⟩
theorem Prow.keep (h : Prow G B w v l) (hG : ∀ p : Addr, G p.block → w'.cell? p = w.cell? p) (hv : ∀ g, v.ownBlock = some g → w'.heap[g]? = w.heap[g]?) : Prow G B w' v l := by
  obtain ⟨xs, ⟨hxl, ho⟩, hr⟩ := h
  refine ⟨xs, ⟨hxl, ?_⟩, hr.keep hG⟩
  rcases ho with ho | ⟨g, cap, cur, rfl, hB, hh, hrest⟩
  · exact .inl ho
  · exact .inr ⟨g, cap, cur, rfl, hB, (hv g rfl).trans hh, hrest⟩
theorem Prow.below (h : Prow G B w v l) (hG : ∀ k, G k → k < w.heap.size) (hb : Below w.heap.size w w') : Prow G B w' v l :=
  h.keep (fun _ hp => World.cell?_of_block (hb.block _ (hG _ hp))) fun _ hg => hb.block _ (h.lt hg).2
/-- What append makes. -/
theorem Prow.append {A : Option Addr} {c : Nat} {G2 : Nat → Prop} (ty : TypeId) (h : Prow G B w v l) (hp : PtsAt G2 w A 0 l2) (hG2 : ∀ k, G2 k → G k) (hG : ∀ k, G k → k < B) (hlen : l.len + l2.len ≤ 1099511627776) (hB : B ≤ w.heap.size) (hc : l2.len ≤ c) :
    ∃ v' w', (Builtin.append_ #[31, 31] ty #[v, .slice A l2.len c]).run Try.prog w = .ok v' w' ∧ Prow G B w' v' (l.app l2) ∧ w.grownBy w' v.ownBlock ∧ (v'.ownBlock = v.ownBlock ∨ v'.ownBlock = some w.heap.size) := by
  obtain ⟨i0, hi, hz0, hz1, hz2⟩ := info_parts info_part
  have h0 := h
  obtain ⟨xs, hown, hr⟩ := h
  by_cases hz : l2.len = 0
  · obtain rfl : l2 = .nil := by
      cases l2 with
      | nil => rfl
      | cons => simp [Pts.len] at hz
    obtain ⟨A1, c1, rfl, hl1, hm1, _⟩ := h0.at_
    refine ⟨_, w, run_append_nothing w _ _ ty _ i0 Try.underlying31 hi A1 l.len c1 hl1 _ ?_, by rw [Pts.app_nil]; exact ⟨xs, hown, hr⟩, ⟨rfl, rfl, rfl, Nat.le_refl _, fun _ _ _ => rfl⟩, .inl rfl⟩
    cases A with
    | none => exact Src.ofNil w Try.underlying31 c
    | some a => exact Src.ofSlice w Try.underlying31 a 0 c [] (by simp) (fun j u hj => by simp at hj) (fun u hu => by cases hu)
  · obtain ⟨b, off, rfl⟩ : ∃ b off, A = some ⟨b, off, none⟩ := by
      cases l2 with
      | nil => exact absurd rfl hz
      | cons => obtain ⟨b, off, _, _, hA, _⟩ := hp; exact ⟨b, off, hA⟩
    obtain ⟨ys, hys, hyc⟩ := hp.row
    obtain ⟨v', w', hrun, hown', hgr, hnil, hat⟩ := run_append_own_at (P := Try.prog) (w := w) B _ ty _ i0 _ 5 88 Try.underlying31 hi hz0 hz1 hz2 rfl (by omega) v l.len xs hown ⟨b, off, none⟩ l2.len c ys hys.len
      (fun j u hj => by have := hyc j u hj; rw [add_at]; simpa using this) hys.one (by unfold maxLen; omega) (by omega) hB
    refine ⟨v', w', hrun, ?_, hgr, hat⟩
    have hkeep : ∀ p : Addr, G p.block → w'.cell? p = w.cell? p := fun p hp => by
      have hlt := hG _ hp
      refine World.cell?_of_block (hgr.block _ (by omega) fun e => ?_)
      have := h0.lt e.symm
      omega
    refine ⟨xs ++ ys, ?_, ((hys.more hG2).app hr).keep hkeep⟩
    rw [Pts.len_app]
    exact hown'
end
end Go.Proofs.Ytpefkhbejjndeaa
