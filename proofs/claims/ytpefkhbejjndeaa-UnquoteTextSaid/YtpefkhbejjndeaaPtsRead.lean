/- Words as they come in: from the argument's reading to the plain tree, with its bulk. -/
import Derived.Test.YtpefkhbejjndeaaPtsMem
import Derived.Deep.Slices
import Derived.Deep.Fields
import Derived.ChangeSame
import Derived.Lib.SmallJoins
namespace Go.Proofs.Ytpefkhbejjndeaa
open Go.RowKit Go.ChangeShapes Go.WideShapes Go.Deep

section
variable {H : Type} {enc : TypeId × Value → H} {P : Program} {w : World} {base : Nat} {spare : Nat → Bool} {held : Bool}
/-- A slice of structs of one-cell fields, opened: the cells, and each field's own reading. -/
theorem open_structs {t e : TypeId} {fs : Array Field} {fuel : Nat} {cs : List Value} {x : DataW H × List MemPlace} (ht : P.underlying t = some (.slice e)) (he : P.underlying e = some (.struct fs))
    (hone : oneCellFields P fs = true) (hC : P.cellsOf e = fs.size) (h : DataW.trod enc P w base spare held fuel t cs = some x) :
    (cs = [.slice none 0 0] ∧ x.1 = .nil) ∨
    ∃ (a : Addr) (len cap : Nat) (D : Nat → DataW H) (sp : List (DataW H)), cs = [.slice (some a) len cap] ∧ len ≤ cap ∧ cap ≤ maxLen ∧ x.1 = .slice ((List.range len).map D) sp ∧
      ∀ i, i < len → ∃ (ys : List (DataW H × List MemPlace)) (n : Nat), D i = .agg (ys.map (·.1)) ∧ ys.length = fs.size ∧
        ∀ (j : Nat) (f : Field), fs[j]? = some f → ∃ (v : Value) (y : DataW H × List MemPlace), w.cell? (a.add (i * fs.size + j)) = some v ∧ ys[j]? = some y ∧ DataW.trod enc P w base spare held n f.type [v] = some y := by
  rcases open_slice ht h with h0 | ⟨a, len, cap, m, n, D, Pl, hcs, hb, hl, hm, hmm, hx, hi⟩
  · exact .inl ⟨h0.1, by rw [h0.2]⟩
  · refine .inr ⟨a, len, cap, D, _, hcs, hl, hm, by rw [hx], fun i hil => ?_⟩
    have him : i < m := by rw [hmm]; split <;> omega
    obtain ⟨cs', hc, ht'⟩ := hi i him
    rw [hC] at hc
    obtain ⟨ys, n', hn', hy, hlen, hyl, hf⟩ := DataW.trod_struct he ht'
    obtain ⟨_, hcl, hat⟩ := World.cells?_some hc
    simp only [Prod.mk.injEq] at hy
    refine ⟨ys, n', hy.1, hyl, fun j f hj => ?_⟩
    obtain ⟨ho, hk⟩ := hone_of hone j f hj
    have hjl : j < fs.size := (Array.getElem?_eq_some_iff.1 hj).1
    have hcell := hat j hjl
    have hv : cs'[j]? = some (cs'[j]'(by omega)) := List.getElem?_eq_getElem (by omega)
    have h1 := hf j f hj
    rw [ho, hk] at h1
    have hone' : (cs'.drop j).take 1 = [cs'[j]'(by omega)] := by
      rw [List.drop_eq_getElem_cons (by omega)]
      rfl
    rw [hone'] at h1
    have hys : ys[j]? = some (ys[j]'(by omega)) := List.getElem?_eq_getElem (by omega)
    refine ⟨_, _, ?_, hys, h1.trans hys⟩
    rw [← Go.Deep.add_add, hcell, hv]
end

section
variable {H : Type}
theorem bulk_pos (d : DataW H) : 1 ≤ Rows.uptoBulk d := by
  cases d with
  | lit l => cases l <;> simp [Rows.uptoBulk]
  | nil => simp [Rows.uptoBulk]
  | ptr d => simp [Rows.uptoBulk]
  | slice elems spare => simp [Rows.uptoBulk]
  | agg parts => simp [Rows.uptoBulk]
  | iface t d => simp [Rows.uptoBulk]
  | map entries => simp [Rows.uptoBulk]
  | held h => simp [Rows.uptoBulk]
theorem bulk_app (l r : List (DataW H)) : Rows.uptoBulkAll (l ++ r) = Rows.uptoBulkAll l + Rows.uptoBulkAll r := by
  induction l with
  | nil => simp [Rows.uptoBulkAll]
  | cons x l ih => simp only [List.cons_append, Rows.uptoBulkAll, ih]; omega
theorem bulk_len (l : List (DataW H)) : l.length ≤ Rows.uptoBulkAll l := by
  induction l with
  | nil => simp
  | cons x r ih => have := bulk_pos x; simp only [Rows.uptoBulkAll, List.length_cons]; omega
theorem bulk_str (s : ByteArray) : Rows.uptoBulk (DataW.lit (H := H) (.string s.data.toList)) = s.size + 1 := by
  simp only [Rows.uptoBulk]
  rw [Array.length_toList]; rfl
end

/-- What stands for all blocks that are there. -/
def Old (w : World) (k : Nat) : Prop := k < w.heap.size
theorem spot_of {w : World} {a : Addr} {v : Value} (h : w.cell? a = some v) : a.spot = none ∧ a.block < w.heap.size := by
  unfold World.cell? at h
  split at h
  · rename_i c _ _ hc
    refine ⟨?_, (Array.getElem?_eq_some_iff.1 hc).1⟩
    split at h
    · exact absurd h (by simp)
    · rename_i hs; simpa using hs
  · exact absurd h (by simp)

theorem bulk_mem {H : Type} {d : DataW H} : ∀ {l : List (DataW H)}, d ∈ l → Rows.uptoBulk d ≤ Rows.uptoBulkAll l
  | [], h => by cases h
  | y :: r, h => by
    simp only [Rows.uptoBulkAll]
    rcases List.mem_cons.1 h with e | e
    · subst e; omega
    · have := bulk_mem e; omega
theorem add_none (b off n : Nat) : (⟨b, off, none⟩ : Addr).add n = ⟨b, off + n, none⟩ := by
  unfold Addr.add
  split
  · rename_i h; subst h; rfl
  · rfl

section
variable {H : Type} {enc : TypeId × Value → H} {w : World} {base : Nat} {spare : Nat → Bool} {held : Bool}
/-- A row of commands, as it lies. -/
theorem read_cmds {fuel : Nat} {v : Value} {x : DataW H × List MemPlace} (h : DataW.trod enc Try.prog w base spare held fuel 39 [v] = some x) : ∃ cm : Cm, v = cm.val ∧ cm.n ≤ Rows.uptoBulk x.1 := by
  rcases DataW.trod_slice Try.underlying39 h with ⟨hv, hx⟩ | ⟨a, len, cap, elems, rest, n, _, hv, hx, _, _, _, hlen, _⟩
  · simp only [List.cons.injEq, and_true] at hv
    subst hv
    exact ⟨⟨none, 0, 0⟩, rfl, Nat.zero_le _⟩
  · simp only [List.cons.injEq, and_true] at hv
    subst hv
    refine ⟨⟨some a, len, cap⟩, rfl, ?_⟩
    rw [hx]
    have := bulk_len (elems.map fun x => x.fst)
    simp only [Rows.uptoBulk, List.length_map] at this ⊢
    show len ≤ _
    omega

theorem read_parts : ∀ (N : Nat) (fuel : Nat) (cs : List Value) (x : DataW H × List MemPlace), Rows.uptoBulk x.1 ≤ N → DataW.trod enc Try.prog w base spare held fuel 31 cs = some x →
    ∃ (l : Pts) (A : Option Addr) (c : Nat), cs = [.slice A l.len c] ∧ l.len ≤ c ∧ c ≤ maxLen ∧ PtsAt (Old w) w A 0 l ∧ l.wt ≤ Rows.uptoBulk x.1 := by
  intro N
  induction N with
  | zero => intro _ _ x h; have := bulk_pos x.1; omega
  | succ N ih =>
    intro fuel cs x hN h
    rcases open_structs Try.underlying31 Try.underlying41 (by kernel_rfl) (by kernel_rfl) h with ⟨hcs, hx⟩ | ⟨a, len, cap, D, sp, hcs, hl, hm, hx, hi⟩
    · exact ⟨.nil, none, 0, hcs, Nat.le_refl _, Nat.zero_le _, trivial, Nat.zero_le _⟩
    · by_cases hz : len = 0
      · subst hz
        exact ⟨.nil, some a, cap, hcs, Nat.zero_le _, hm, trivial, Nat.zero_le _⟩
      obtain ⟨b, off, rfl⟩ : ∃ b off, a = ⟨b, off, none⟩ := by
        obtain ⟨_, _, _, _, hf⟩ := hi 0 (by omega)
        obtain ⟨v0, y0, c0, _⟩ := hf 0 _ rfl
        obtain ⟨b, off, sp⟩ := a
        have hs : sp = none := by
          rw [Nat.zero_mul] at c0
          exact (spot_of c0).1
        exact ⟨b, off, by rw [hs]⟩
      have key : ∀ (n i : Nat), i + n = len → ∃ l : Pts, l.len = n ∧ PtsAt (Old w) w (some ⟨b, off, none⟩) i l ∧ l.wt ≤ Rows.uptoBulkAll ((List.range' i n).map D) := by
        intro n
        induction n with
        | zero => intro i _; exact ⟨.nil, rfl, trivial, Nat.zero_le _⟩
        | succ n ihn =>
          intro i hin
          obtain ⟨r, hrl, hrp, hrw⟩ := ihn (i + 1) (by omega)
          obtain ⟨ys, m, hD, hyl, hf⟩ := hi i (by omega)
          have hDb : Rows.uptoBulk (D i) ≤ N := by
            have : Rows.uptoBulk (D i) ≤ Rows.uptoBulkAll ((List.range len).map D) := by
              have hmem : D i ∈ (List.range len).map D := List.mem_map.2 ⟨i, List.mem_range.2 (by omega), rfl⟩
              exact bulk_mem hmem
            rw [hx] at hN
            simp only [Rows.uptoBulk] at hN
            omega
          obtain ⟨v0, y0, c0, e0, t0⟩ := hf 0 _ rfl
          obtain ⟨v1, y1, c1, e1, t1⟩ := hf 1 _ rfl
          obtain ⟨v2, y2, c2, e2, t2⟩ := hf 2 _ rfl
          obtain ⟨v3, y3, c3, e3, t3⟩ := hf 3 _ rfl
          obtain ⟨v4, y4, c4, e4, t4⟩ := hf 4 _ rfl
          match ys, hyl with
          | [z0, z1, z2, z3, z4], _ =>
            simp only [List.getElem?_cons_zero, List.getElem?_cons_succ, Option.some.injEq] at e0 e1 e2 e3 e4
            subst e0 e1 e2 e3 e4
            simp only [List.map_cons, List.map_nil] at hD
            obtain ⟨k, hv0, hy0, _⟩ := DataW.trod_int Try.underlying3 t0
            obtain ⟨t, hv1, hy1, _⟩ := DataW.trod_string Try.underlying9 t1
            obtain ⟨o, hv2, hy2, _⟩ := DataW.trod_string Try.underlying9 t2
            obtain ⟨cm, rfl, hcm⟩ := read_cmds t4
            have hb : Rows.uptoBulk (D i) = 1 + (t.size + 1) + (o.size + 1) + Rows.uptoBulk z3.1 + Rows.uptoBulk z4.1 + 1 := by
              rw [hD]
              simp only [Rows.uptoBulk, Rows.uptoBulkAll, hy0, hy1, hy2]
              have a1 : t.data.toList.length = t.size := by rw [Array.length_toList]; rfl
              have a2 : o.data.toList.length = o.size := by rw [Array.length_toList]; rfl
              omega
            obtain ⟨kids, Ak, ck, hv3, hkl, hkm, hkp, hkw⟩ := ih m _ z3 (by omega) t3
            simp only [List.cons.injEq, and_true] at hv0 hv1 hv2 hv3
            subst hv0 hv1 hv2 hv3
            rw [add_none] at c0 c1 c2 c3 c4
            refine ⟨.cons k t o kids cm r, by rw [Pts.len, hrl], ⟨b, off, Ak, ck, rfl, (spot_of c0).2, c0, c1, c2, c3, c4, hkl, hkp, hrp⟩, ?_⟩
            rw [List.range'_succ, List.map_cons]
            simp only [Rows.uptoBulkAll, Pts.wt]
            omega
      obtain ⟨l, hll, hlp, hlw⟩ := key len 0 (by omega)
      refine ⟨l, some ⟨b, off, none⟩, cap, by rw [hcs, hll], by omega, hm, hlp, ?_⟩
      rw [hx]
      rw [← List.range_eq_range'] at hlw
      simp only [Rows.uptoBulk]
      omega

set_option maxRecDepth 100000 in
/-- A word: a struct of its parts. -/
theorem read_word {r : Reach} {b0 : Nat} {v : Value} {d : DataW H} {ps : List MemPlace} (hv : Value.okWide Try.prog w r b0 33 v) (h : DataW.Trod enc Try.prog w base spare held 33 v d ps) :
    ∃ (l : Pts) (A : Option Addr) (c : Nat), v = .agg #[.slice A l.len c] ∧ l.len ≤ c ∧ c ≤ maxLen ∧ PtsAt (Old w) w A 0 l ∧ l.wt ≤ Rows.uptoBulk d := by
  obtain ⟨cs, rfl, hsz⟩ := okWide_struct Try.underlying33 hv
  obtain ⟨l⟩ := cs
  match l, hsz.trans (show Try.prog.cellsOf 33 = 1 by kernel_rfl) with
  | [c0], _ =>
    obtain ⟨fuel, hf⟩ := h
    obtain ⟨xs, n, _, hx, _, hlen, hg⟩ := DataW.trod_struct Try.underlying33 hf
    match xs, hlen with
    | [y0], _ =>
      simp only [Prod.mk.injEq] at hx
      have h0 : DataW.trod enc Try.prog w base spare held n 31 ([c0].take (Try.prog.cellsOf 31)) = some y0 := hg 0 _ rfl
      rw [show Try.prog.cellsOf 31 = 1 by kernel_rfl] at h0
      obtain ⟨l, A, c, hc, h1, h2, h3, h4⟩ := read_parts _ _ _ y0 (Nat.le_refl _) h0
      obtain rfl : c0 = .slice A l.len c := (List.cons.inj hc).1
      refine ⟨l, A, c, rfl, h1, h2, h3, ?_⟩
      rw [hx.1]
      simp only [List.map_cons, List.map_nil, Rows.uptoBulk, Rows.uptoBulkAll]
      omega
end
end Go.Proofs.Ytpefkhbejjndeaa
