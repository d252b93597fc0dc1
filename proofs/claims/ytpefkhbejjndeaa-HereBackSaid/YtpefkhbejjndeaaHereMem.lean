/- here.Reader in a block of the call's own: its state, and what Feed, over, Text, Rest do. -/
import Derived.Test.YtpefkhbejjndeaaBuilder
import Derived.Deep.AppendLies
import Derived.BigQuiet
import Derived.Laws.Concat
namespace Go.Proofs.Ytpefkhbejjndeaa
open Go.RowKit

/-- The reader at block b: end e, tabs t, lines ls, line l, some sm, signal sg. -/
def Rd (B b : Nat) (e : ByteArray) (t : Bool) (ls : List (List UInt8)) (l : List UInt8) (sm : Bool) (sg : Int) (w : World) : Prop :=
  B ≤ b ∧ ∃ vls vl, w.heap[b]? = some (.cells #[.string e, .bool t, vls, vl, .bool sm, .int .i64 sg] 97 (0, 0)) ∧ w.ownsRow B 9 1 vls ls.length (ls.map bs) ∧ w.ownsRow B 5 1 vl l.length (bcs l)

section
variable {B b : Nat} {e : ByteArray} {t : Bool} {ls : List (List UInt8)} {l : List UInt8} {sm : Bool} {sg : Int} {w w' : World}
theorem Rd.lt (h : Rd B b e t ls l sm sg w) : b < w.heap.size := by
  obtain ⟨_, _, _, hh, _⟩ := h
  exact (Array.getElem?_eq_some_iff.1 hh).1
theorem own_lt {v : Value} {n : Nat} {xs : List Value} {T : TypeId} (ho : w.ownsRow B T 1 v n xs) : ∀ g, v.ownBlock = some g → B ≤ g ∧ g < w.heap.size := by
  intro g hg
  rcases ho.2 with ⟨rfl, _⟩ | ⟨g', cap, cur, rfl, hb, hh, _⟩
  · simp [Value.ownBlock] at hg
  · simp [Value.ownBlock] at hg
    subst hg
    exact ⟨hb, (Array.getElem?_eq_some_iff.1 hh).1⟩
theorem Rd.keep (h : Rd B b e t ls l sm sg w) (hb : Below w.heap.size w w') : Rd B b e t ls l sm sg w' := by
  have hlt := h.lt
  obtain ⟨hB, vls, vl, hh, h1, h2⟩ := h
  refine ⟨hB, vls, vl, (hb.block b hlt).trans hh, h1.kept (row := none) ⟨hb.os, hb.tape, hb.output, hb.size, fun k hk _ => hb.block k hk⟩ ?_, h2.kept (row := none) ⟨hb.os, hb.tape, hb.output, hb.size, fun k hk _ => hb.block k hk⟩ ?_⟩
  · cases vls.ownBlock <;> simp
  · cases vl.ownBlock <;> simp
/-- A store into one of the reader's own cells keeps its rows. -/
theorem own_set {v : Value} {n : Nat} {xs : List Value} {T : TypeId} {cs : Array Value} {fr : Nat × Nat} {T' : TypeId} (ho : w.ownsRow B T 1 v n xs) (hb : w.heap[b]? = some (.cells cs T' fr)) (hT : T' ≠ T) (i : Nat) (u : Value) : (w.setCell ⟨b, i, none⟩ u).ownsRow B T 1 v n xs := by
  have hne : v.ownBlock ≠ some b := Lib.ownBlock_ne ho hb hT
  exact ho.kept (row := some b) ⟨rfl, rfl, rfl, by simp [World.setCell], fun k _ hk => Below.heap_setCell _ _ _ _ (fun e => hk (by simp [e]))⟩ (.inr hne)
theorem Rd.setSig (h : Rd B b e t ls l sm sg w) (sg' : Int) : Rd B b e t ls l sm sg' (w.setCell ⟨b, 5, none⟩ (.int .i64 sg')) := by
  obtain ⟨hB, vls, vl, hh, h1, h2⟩ := h
  refine ⟨hB, vls, vl, ?_, own_set h1 hh (by decide) _ _, own_set h2 hh (by decide) _ _⟩
  simp [World.setCell, Array.getElem?_modify, hh]
theorem Rd.setSome (h : Rd B b e t ls l sm sg w) (sm' : Bool) : Rd B b e t ls l sm' sg (w.setCell ⟨b, 4, none⟩ (.bool sm')) := by
  obtain ⟨hB, vls, vl, hh, h1, h2⟩ := h
  refine ⟨hB, vls, vl, ?_, own_set h1 hh (by decide) _ _, own_set h2 hh (by decide) _ _⟩
  simp [World.setCell, Array.getElem?_modify, hh]
theorem Rd.cells (h : Rd B b e t ls l sm sg w) : ∃ vls vl, w.cell? ⟨b, 0, none⟩ = some (.string e) ∧ w.cell? ⟨b, 1, none⟩ = some (.bool t) ∧ w.cell? ⟨b, 2, none⟩ = some vls ∧ w.cell? ⟨b, 3, none⟩ = some vl ∧ w.cell? ⟨b, 4, none⟩ = some (.bool sm) ∧
    w.cell? ⟨b, 5, none⟩ = some (.int .i64 sg) ∧ (∀ i, w.frozen? ⟨b, i, none⟩ = false) ∧ w.ownsRow B 9 1 vls ls.length (ls.map bs) ∧ w.ownsRow B 5 1 vl l.length (bcs l) ∧ w.heap[b]? = some (.cells #[.string e, .bool t, vls, vl, .bool sm, .int .i64 sg] 97 (0, 0)) := by
  obtain ⟨hB, vls, vl, hh, h1, h2⟩ := h
  exact ⟨vls, vl, by simp [World.cell?, hh], by simp [World.cell?, hh], by simp [World.cell?, hh], by simp [World.cell?, hh], by simp [World.cell?, hh], by simp [World.cell?, hh], fun i => by simp [World.frozen?, hh], h1, h2, hh⟩
end
end Go.Proofs.Ytpefkhbejjndeaa
