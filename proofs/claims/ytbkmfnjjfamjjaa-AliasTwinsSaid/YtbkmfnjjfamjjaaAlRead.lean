/- Calls on a table as they come in: from the argument's reading to a plain list. -/
import Derived.Test.YtbkmfnjjfamjjaaAlPlain
import Derived.Test.YtbkmfnjjfamjjaaBase
import Derived.Deep.Slices
import Derived.Deep.Fields
import Derived.ChangeSame
import Derived.Lib.SmallJoins
namespace Go.Proofs.Ytbkmfnjjfamjjaa
open Go.RowKit Go.ChangeShapes Go.WideShapes Go.Deep

/-- One call: which, a name, a value. -/
structure Opv where
  k : Int
  n : ByteArray
  v : ByteArray
/-- Calls as they lie. -/
def OpsAt (w : World) (A : Option Addr) (l : List Opv) : Prop := ∀ (i : Nat) (p : Opv), l[i]? = some p → ∃ b off, A = some ⟨b, off, none⟩ ∧ b < w.heap.size ∧ w.cell? ⟨b, off + i * 3, none⟩ = some (.int .i64 p.k) ∧ w.cell? ⟨b, off + i * 3 + 1, none⟩ = some (.string p.n) ∧ w.cell? ⟨b, off + i * 3 + 2, none⟩ = some (.string p.v)
theorem OpsAt.below {w w' : World} {A : Option Addr} {l : List Opv} (h : OpsAt w A l) (hb : Below w.heap.size w w') : OpsAt w' A l := fun i p hp => by
  obtain ⟨b, off, rfl, hl, h1, h2, h3⟩ := h i p hp
  have hc : ∀ o, w'.cell? ⟨b, o, none⟩ = w.cell? ⟨b, o, none⟩ := fun o => World.cell?_of_block (hb.block b hl)
  exact ⟨b, off, rfl, Nat.lt_of_lt_of_le hl hb.size, (hc _).trans h1, (hc _).trans h2, (hc _).trans h3⟩

section
variable {H : Type} {enc : TypeId × Value → H} {P : Program} {w : World} {base : Nat} {spare : Nat → Bool} {held : Bool}
/-- A slice of structs of one-cell fields, opened: the cells, and each field's own reading. -/
theorem open_structs {t e : TypeId} {fs : Array Field} {fuel : Nat} {cs : List Value} {x : DataW H × List MemPlace} (ht : P.underlying t = some (.slice e)) (he : P.underlying e = some (.struct fs))
    (hone : oneCellFields P fs = true) (hC : P.cellsOf e = fs.size) (h : DataW.trod enc P w base spare held fuel t cs = some x) :
    (cs = [.slice none 0 0] ∧ x.1 = .nil) ∨
    ∃ (a : Addr) (len cap : Nat) (D : Nat → DataW H) (sp : List (DataW H)), cs = [.slice (some a) len cap] ∧ len ≤ cap ∧ cap ≤ maxLen ∧ x.1 = .slice ((List.range len).map D) sp ∧
      ∀ i, i < len → ∃ (ys : List (DataW H × List MemPlace)) (n : Nat), D i = .agg (ys.map (·.1)) ∧ ys.length = fs.size ∧
        ∀ (j : Nat) (f : Field), fs[j]? = some f → ∃ (v : Value) (y : DataW H × List MemPlace), w.cell? (a.add (i * fs.size + j)) = some v ∧ ys[j]? = some y ∧ DataW.trod enc P w base spare held n f.type [v] = some y := by
  rcases open_slice ht h with h0 | ⟨a, len, cap, m, n, D, Pl, hcs, hb, hl, hm, hmm, hx, hi⟩
  · exact .inl ⟨h0.1, by rw [h0.2]⟩
  · refine .inr ⟨a, len, cap, D, _, hcs, hl, hm, by rw [hx], fun i hil => ?_⟩
    have him : i < m := by rw [hmm]; split <;> omega
    obtain ⟨cs', hc, ht'⟩ := hi i him
    rw [hC] at hc
    obtain ⟨ys, n', hn', hy, hlen, hyl, hf⟩ := DataW.trod_struct he ht'
    obtain ⟨_, hcl, hat⟩ := World.cells?_some hc
    simp only [Prod.mk.injEq] at hy
    refine ⟨ys, n', hy.1, hyl, fun j f hj => ?_⟩
    obtain ⟨ho, hk⟩ := hone_of hone j f hj
    have hjl : j < fs.size := (Array.getElem?_eq_some_iff.1 hj).1
    have hcell := hat j hjl
    have hv : cs'[j]? = some (cs'[j]'(by omega)) := List.getElem?_eq_getElem (by omega)
    have h1 := hf j f hj
    rw [ho, hk] at h1
    have hone' : (cs'.drop j).take 1 = [cs'[j]'(by omega)] := by
      rw [List.drop_eq_getElem_cons (by omega)]
      rfl
    rw [hone'] at h1
    have hys : ys[j]? = some (ys[j]'(by omega)) := List.getElem?_eq_getElem (by omega)
    refine ⟨_, _, ?_, hys, h1.trans hys⟩
    rw [← Go.Deep.add_add, hcell, hv]
end
theorem spot_of {w : World} {a : Addr} {v : Value} (h : w.cell? a = some v) : a.spot = none ∧ a.block < w.heap.size := by
  unfold World.cell? at h
  split at h
  · rename_i c _ _ hc
    refine ⟨?_, (Array.getElem?_eq_some_iff.1 hc).1⟩
    split at h
    · exact absurd h (by simp)
    · rename_i hs; simpa using hs
  · exact absurd h (by simp)
theorem add_none (b off n : Nat) : (⟨b, off, none⟩ : Addr).add n = ⟨b, off + n, none⟩ := by
  unfold Addr.add
  split
  · rename_i h; subst h; rfl
  · rfl

section
variable {H : Type} {enc : TypeId × Value → H} {w : World} {base : Nat} {spare : Nat → Bool} {held : Bool}
theorem read_ops {fuel : Nat} {cs : List Value} {x : DataW H × List MemPlace} (h : DataW.trod enc Try.prog w base spare held fuel 22 cs = some x) :
    ∃ (l : List Opv) (A : Option Addr) (c : Nat), cs = [.slice A l.length c] ∧ l.length ≤ c ∧ c ≤ maxLen ∧ OpsAt w A l := by
  rcases open_structs Try.underlying22 Try.underlying30 (by kernel_rfl) (by kernel_rfl) h with ⟨hcs, _⟩ | ⟨a, len, cap, D, sp, hcs, hl, hm, _, hi⟩
  · exact ⟨[], none, 0, hcs, Nat.le_refl _, Nat.zero_le _, fun i p hp => by simp at hp⟩
  · by_cases hz : len = 0
    · subst hz
      exact ⟨[], some a, cap, hcs, Nat.zero_le _, hm, fun i p hp => by simp at hp⟩
    obtain ⟨b0, off0, rfl⟩ : ∃ b off, a = ⟨b, off, none⟩ := by
      obtain ⟨_, _, _, _, hf⟩ := hi 0 (by omega)
      obtain ⟨v0, y0, c0, _⟩ := hf 0 _ rfl
      obtain ⟨b, off, sp⟩ := a
      have hs : sp = none := by
        rw [Nat.zero_mul] at c0
        exact (spot_of c0).1
      exact ⟨b, off, by rw [hs]⟩
    have key : ∀ i, i < len → ∃ p : Opv, ∃ b off, (⟨b0, off0, none⟩ : Addr) = ⟨b, off, none⟩ ∧ b < w.heap.size ∧ w.cell? ⟨b, off + i * 3, none⟩ = some (.int .i64 p.k) ∧ w.cell? ⟨b, off + i * 3 + 1, none⟩ = some (.string p.n) ∧ w.cell? ⟨b, off + i * 3 + 2, none⟩ = some (.string p.v) := by
      intro i hi'
      obtain ⟨ys, m, hD, hyl, hf⟩ := hi i hi'
      obtain ⟨v0, y0, c0, e0, t0⟩ := hf 0 _ rfl
      obtain ⟨v1, y1, c1, e1, t1⟩ := hf 1 _ rfl
      obtain ⟨v2, y2, c2, e2, t2⟩ := hf 2 _ rfl
      obtain ⟨k, hv0, _⟩ := DataW.trod_int Try.underlying3 t0
      obtain ⟨n, hv1, _⟩ := DataW.trod_string Try.underlying9 t1
      obtain ⟨v, hv2, _⟩ := DataW.trod_string Try.underlying9 t2
      simp only [List.cons.injEq, and_true] at hv0 hv1 hv2
      subst hv0 hv1 hv2
      rw [add_none] at c0 c1 c2
      exact ⟨⟨k, n, v⟩, b0, off0, rfl, (spot_of c0).2, c0, c1, c2⟩
    have all : ∀ n, n ≤ len → ∃ l : List Opv, l.length = n ∧ OpsAt w (some ⟨b0, off0, none⟩) l := by
      intro n
      induction n with
      | zero => exact fun _ => ⟨[], rfl, fun i p hp => by simp at hp⟩
      | succ n ih =>
        intro hn
        obtain ⟨l, hll, hl'⟩ := ih (by omega)
        obtain ⟨p, b, off, ha, hp⟩ := key n (by omega)
        refine ⟨l ++ [p], by simp [hll], fun i q hq => ?_⟩
        by_cases hin : i < n
        · exact hl' i q (by rwa [List.getElem?_append_left (by omega)] at hq)
        · have : i = n := by have := (List.getElem?_eq_some_iff.1 hq).1; simp at this; omega
          subst this
          rw [List.getElem?_append_right (by omega)] at hq
          simp [hll] at hq
          subst hq
          exact ⟨b, off, by rw [ha], hp⟩
    obtain ⟨l, hll, hl'⟩ := all len (Nat.le_refl _)
    subst hll
    exact ⟨l, some ⟨b0, off0, none⟩, cap, hcs, hl, hm, hl'⟩
theorem read_opsT {r : Reach} {b0 : Nat} {v : Value} {d : DataW H} {ps : List MemPlace} (hv : Value.okWide Try.prog w r b0 22 v) (h : DataW.Trod enc Try.prog w base spare held 22 v d ps) :
    ∃ (l : List Opv) (A : Option Addr) (c : Nat), v = .slice A l.length c ∧ OpsAt w A l := by
  obtain ⟨a, len, cap, rfl⟩ := okWide_slice Try.underlying22 hv
  obtain ⟨fuel, hf⟩ := h
  obtain ⟨l, A, c, hc, _, _, hp⟩ := read_ops hf
  have e : Value.slice a len cap = .slice A l.length c := (List.cons.inj (show [Value.slice a len cap] = [.slice A l.length c] from hc)).1
  exact ⟨l, A, c, e, hp⟩
end
end Go.Proofs.Ytbkmfnjjfamjjaa
