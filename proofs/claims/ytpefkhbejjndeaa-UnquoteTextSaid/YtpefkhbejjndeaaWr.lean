/- An append in a region, kept under a name of its own till its run is known: 'WrA'. A hypothesis 'WrA P ts ty vs w = .ok v w'' then runs it, in any region tactic. -/
import Derived.Test.YtpefkhbejjndeaaBase
namespace Go.Proofs.Ytpefkhbejjndeaa
open Go.RowKit

def WrA (P : Program) (ts : Array TypeId) (ty : TypeId) (vs : Array Value) (w : World) : Result Value := (Builtin.append_ ts ty vs).run P w

theorem wp_append_wr {P : Program} {d : Option Tmp} {s x : Operand} {t t' ty : TypeId} {pos : String} {af : Array Edge} {g : Option (Nat × Bool)} {a : Act} {w : World} {K : Act → World → Prop} {Q : Exit → Act → World → Prop} :
    Oper.wp P ⟨d, .call ⟨.builtin .append, #[s, x], #[t, t']⟩, ty, pos, af, g⟩ a w K Q =
      Oper.upon P ⟨d, .call ⟨.builtin .append, #[s, x], #[t, t']⟩, ty, pos, af, g⟩ a K Q ((WrA P #[t, t'] ty #[a.eval s, a.eval x] w).andThen fun v w' => .ok (.value v) w') := by
  unfold Oper.wp execOp WrA
  simp only [resolve, invoke, builtin, Sem.run_bind, Sem.run_pure, Result.andThen_ok, List.map_toArray, List.map_cons, List.map_nil]
theorem WrA.of {P : Program} {ts : Array TypeId} {ty : TypeId} {vs : Array Value} {w w' : World} {v : Value} (h : (Builtin.append_ ts ty vs).run P w = .ok v w') : WrA P ts ty vs w = .ok v w' := h
end Go.Proofs.Ytpefkhbejjndeaa
