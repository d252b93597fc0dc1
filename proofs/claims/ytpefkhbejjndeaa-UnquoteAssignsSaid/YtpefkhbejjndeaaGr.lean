/- A region that draws its order, walked once, where its calls may make memory: every world of the class 'grown from w' will do. -/
import Derived.Test.YtpefkhbejjndeaaBase
import Derived.BigQuiet
namespace Go.Proofs.Ytpefkhbejjndeaa
open Go.RowKit

section
variable {P : Program}
theorem wp_region_class {id : Nat} {Q : Exit → Act → World → Prop} {a : Act} {w : World} {l : List Oper} {S : Type} (f : S → World) (hm : P.follows .mixedOrders = true) (hB : Region.lexB .any l.toArray = true)
    (hC : ∃ x, w.drew = f x) (h : wpQuiet P l.toArray (fun w' => ∃ x, w' = f x) (fun a' => ∀ w', (∃ x, w' = f x) → Q .normal a' w') l a) : (Code.region id l.toArray true).wp P Q a w :=
  wp_region_quiet (C := fun w' => ∃ x, w' = f x) hm hB hC (by simpa using h)
end

/-- The worlds grown from w. -/
def Gr (w : World) : Type := { w' : World // Below w.heap.size w w' }
def Gr.at_ {w : World} (x : Gr w) : World := x.1
theorem cell_lt {w : World} {p : Addr} {v : Value} (h : w.cell? p = some v) : p.block < w.heap.size := by
  unfold World.cell? at h
  split at h
  · rename_i hc
    exact (Array.getElem?_eq_some_iff.1 hc).1
  · exact absurd h (by simp)
theorem Gr.cell {w : World} (x : Gr w) (p : Addr) (v : Value) (h : w.cell? p = some v) : x.at_.cell? p = some v := by
  rw [← h]
  exact World.cell?_of_block (x.2.block _ (cell_lt h))
theorem Gr.drew (w : World) : ∃ x : Gr w, w.drew = x.at_ := ⟨⟨w.drew, (Below.refl _ _).drew⟩, rfl⟩
/-- A call in a grown world. -/
theorem Gr.calls {P : Program} {f : FuncId} {args : Array Value} {w : World} (x : Gr w) {v : Value}
    (h : Calls P f args x.at_ fun e w' => e = .returned v ∧ Below x.at_.heap.size x.at_ w') : Calls P f args x.at_ fun e w' => e = .returned v ∧ ∃ y : Gr w, w' = y.at_ :=
  h.mono fun _ w' ⟨he, hb⟩ => ⟨he, ⟨⟨w', x.2.trans ⟨hb.os, hb.tape, hb.output, hb.size, fun k hk => hb.block k (Nat.lt_of_lt_of_le hk x.2.size)⟩⟩, rfl⟩⟩
end Go.Proofs.Ytpefkhbejjndeaa
