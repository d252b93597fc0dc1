/- Appends to rows of parts in a region that draws its order. -/
import Derived.Test.YtjpopekmbmcggaaPtsRow
import Derived.Test.YtjpopekmbmcggaaPtsRead
import Derived.Deep.RegionHeld3
import Derived.Deep.DeepCutAuto
namespace Go.Proofs.Ytjpopekmbmcggaa
open Go.RowKit

theorem size_alloc (w : World) (o : Obj) : (w.alloc o).heap.size = w.heap.size + 1 := Array.size_push ..
theorem heap_alloc (w : World) (o : Obj) : (w.alloc o).heap[w.heap.size]? = some o := Array.getElem?_push_size
theorem PtsAt.lift {w w' : World} {A : Option Addr} {i : Nat} {l : Pts} (h : PtsAt (Old w) w A i l) (hb : Below w.heap.size w w') : PtsAt (Old w) w' A i l := h.keep fun _ hp => World.cell?_of_block (hb.block _ hp)

theorem Below.grow {w w' : World} (h : Below w.heap.size w w') (o : Obj) : Below w.heap.size w (w'.alloc o) := h.alloc h.size o
theorem heap_alloc_older (w : World) (o1 o2 : Obj) : ((w.alloc o1).alloc o2).heap[w.heap.size]? = some o1 := by
  rw [← heap_alloc w o1]
  exact ((Below.refl (w.alloc o1).heap.size (w.alloc o1)).alloc (Nat.le_refl _) o2).block _ (by rw [size_alloc]; omega)
theorem heap_alloc_newer (w : World) (o1 o2 : Obj) : ((w.alloc o1).alloc o2).heap[w.heap.size + 1]? = some o2 := by
  have := heap_alloc (w.alloc o1) o2
  rw [size_alloc] at this
  exact this
theorem cellOf {w : World} {g : Nat} {v : Value} {T : TypeId} (h : w.heap[g]? = some (.cells #[v] T (0, 0))) : w.cell? ⟨g, 0, none⟩ = some v ∧ w.frozen? ⟨g, 0, none⟩ = false := ⟨by simp [World.cell?, h], by simp [World.frozen?, h]⟩
theorem set_known {w : World} {g : Nat} {u0 u : Value} {T : TypeId} (h : w.heap[g]? = some (.cells #[u0] T (0, 0))) : (w.setCell ⟨g, 0, none⟩ u).cell? ⟨g, 0, none⟩ = some u := by
  simp [World.cell?, World.setCell, Array.getElem?_modify, h]
theorem Prow.setOther {G : Nat → Prop} {B : Nat} {w : World} {v : Value} {l : Pts} {g : Nat} {u0 : Value} {T : TypeId} (h : Prow G B w v l) (hG : ∀ k, G k → k ≠ g) (hh : w.heap[g]? = some (.cells #[u0] T (0, 0))) (hT : T ≠ 37) (u : Value) :
    Prow G B (w.setCell ⟨g, 0, none⟩ u) v l := by
  refine h.keep (fun p hp => World.cell?_of_block (Below.heap_setCell _ _ _ _ fun e => hG _ hp e)) fun g' hg' => Below.heap_setCell _ _ _ _ fun e => ?_
  have e' : g' = g := e
  subst e'
  obtain ⟨xs, ⟨_, ho⟩, _⟩ := h
  rcases ho with ⟨rfl, _⟩ | ⟨g', cap, cur, rfl, _, hh', _⟩
  · simp [Value.ownBlock] at hg'
  · simp [Value.ownBlock] at hg'
    subst hg'
    rw [hh'] at hh
    injection hh with hh
    injection hh with _ hh
    exact hT hh.symm
theorem Prow.start {G : Nat → Prop} {B : Nat} {w : World} {g : Nat} (hB : B ≤ g) (hh : w.heap[g]? = some (.cells #[] 37 (0, 0))) : Prow G B w (.slice (some ⟨g, 0, none⟩) 0 0) .nil :=
  ⟨[], ⟨rfl, .inr ⟨g, 0, #[], rfl, hB, hh, Nat.le_refl _, Nat.zero_le _, rfl, rfl⟩⟩, rfl⟩

theorem Pts.wt_app : ∀ l r : Pts, (l.app r).wt = l.wt + r.wt
  | .nil, r => by simp [Pts.app, Pts.wt]
  | .cons _ _ _ _ _ l, r => by rw [Pts.app, Pts.wt, Pts.wt, Pts.wt_app l r]; omega

/-- An append to a row of the call's own, at a step of a region that draws its order. -/
theorem step_prow {ops : Array Oper} {o : Oper} {a : Act} {w : World} {K : Act → World → Prop} {Q : Exit → Act → World → Prop} {E : Prop} (hgd : o.guard = none) (s x : Operand)
    (ho : o.op = .call { callee := .builtin .append, args := #[s, x], argTypes := #[22, 22] })
    (G : Nat → Prop) (B : Nat) (l l2 : Pts) {v : Value} {A : Option Addr} {c : Nat} {G2 : Nat → Prop} (hs : a.eval s = v) (hx : a.eval x = .slice A l2.len c) (h : Prow G B w v l) (hp : PtsAt G2 w A 0 l2) (hG2 : ∀ k, G2 k → G k) (hG : ∀ k, G k → k < B)
    (hlen : l.len + l2.len ≤ 1099511627776) (hB : B ≤ w.heap.size) (hc : l2.len ≤ c)
    (hK : ∀ A' c' w', Prow G B w' (.slice A' (l.app l2).len c') (l.app l2) → (l.app l2).len ≤ c' → w.grownBy w' v.ownBlock → Below B w w' → ((Value.slice A' (l.app l2).len c').ownBlock = v.ownBlock ∨ (Value.slice A' (l.app l2).len c').ownBlock = some w.heap.size) →
      (∀ (g : Nat) (cs : Array Value) (T : TypeId) (fr : Nat × Nat), T ≠ 37 → w.heap[g]? = some (Obj.cells cs T fr) → w'.heap[g]? = some (Obj.cells cs T fr)) → K (a.put o.dst (.slice A' (l.app l2).len c')) w') :
    if Region.wanted o (yielded ops a.tmps) = true then Oper.wp Try.prog o a w K Q else E := by
  have hw : Region.wanted o (yielded ops a.tmps) = true := by simp [Region.wanted, hgd]
  rw [if_pos hw]
  obtain ⟨v', w', hr, h2, h3, h4⟩ := h.append o.type hp hG2 hG hlen hB hc
  obtain ⟨A', c', rfl, hc', _⟩ := h2.at_
  have hb : Below B w w' := ⟨h3.os, h3.tape, h3.output, h3.size, fun k hk => h3.block k (Nat.lt_of_lt_of_le hk hB) fun e => by have := h.lt e.symm; omega⟩
  unfold Oper.wp execOp
  simp only [ho, resolve, invoke, builtin, Sem.run_bind, Sem.run_pure, Result.andThen_ok, List.map_toArray, List.map_cons, List.map_nil, hs, hx, hr]
  refine hK A' c' w' h2 hc' h3 hb h4 fun g cs T fr hT hh => (h3.block g (Array.getElem?_eq_some_iff.1 hh).1 fun e => ?_).trans hh
  obtain ⟨xs, ⟨_, ho⟩, _⟩ := h
  rcases ho with ⟨rfl, _⟩ | ⟨g', cap, cur, rfl, _, hh', _⟩
  · simp [Value.ownBlock] at e
  · simp [Value.ownBlock] at e
    subst e
    rw [hh'] at hh
    injection hh with hh
    injection hh with _ hh
    exact hT hh.symm

end Go.Proofs.Ytjpopekmbmcggaa
