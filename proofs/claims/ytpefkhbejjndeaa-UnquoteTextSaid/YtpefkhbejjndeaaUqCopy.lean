/- copy of rows of whatever elements, kept under a name of its own in a walk; slices.Clone of parts. -/
import Derived.Test.YtpefkhbejjndeaaPtsRow
import Derived.Test.YtpefkhbejjndeaaWr
import Derived.Test.YtpefkhbejjndeaaPtsRead
import Derived.Laws.CopyRow
import Derived.Lib.AppendZerosOnto
import Derived.Deep.RegionHeld3
import Derived.BigRegion
namespace Go.Proofs.Ytpefkhbejjndeaa
open Go.RowKit

def CpA (P : Program) (ts : Array TypeId) (ty : TypeId) (vs : Array Value) (w : World) : Result Value := (Builtin.copy_ ts ty vs).run P w
theorem wp_copy_wr {P : Program} {d : Option Tmp} {s x : Operand} {t t' ty : TypeId} {pos : String} {af : Array Edge} {g : Option (Nat × Bool)} {a : Act} {w : World} {K : Act → World → Prop} {Q : Exit → Act → World → Prop} :
    Oper.wp P ⟨d, .call ⟨.builtin .copy, #[s, x], #[t, t']⟩, ty, pos, af, g⟩ a w K Q =
      Oper.upon P ⟨d, .call ⟨.builtin .copy, #[s, x], #[t, t']⟩, ty, pos, af, g⟩ a K Q ((CpA P #[t, t'] ty #[a.eval s, a.eval x] w).andThen fun v w' => .ok (.value v) w') := by
  unfold Oper.wp execOp CpA
  simp only [resolve, invoke, builtin, Sem.run_bind, Sem.run_pure, Result.andThen_ok, List.map_toArray, List.map_cons, List.map_nil]

/-- copy into a row, elements of any size. -/
theorem run_copy_rowK {P : Program} (w : World) (dT sT ty elem : TypeId) (size g o dLen dCap : Nat) (a : Addr) (sLen sCap : Nat) (cur : Array Value) (t : TypeId) (cs : List Value)
    (hu : P.underlying dT = some (.slice elem)) (hs : (P.info? elem).map (·.size) = some size)
    (hg : w.heap[g]? = some (.cells cur t (0, 0))) (hn : cs.length = Nat.min sLen dLen * size)
    (hsrc : ∀ j v, cs[j]? = some v → w.cell? (a.add j) = some v) (hfit : o + cs.length ≤ cur.size) (h1 : ∀ v ∈ cs, v.oneCell' = true) :
    CpA P #[dT, sT] ty #[.slice (some ⟨g, o, none⟩) dLen dCap, .slice (some a) sLen sCap] w =
      .ok (goInt (Nat.min sLen dLen)) (w.setRow g (cur.toList.take o ++ cs ++ cur.toList.drop (o + cs.length)).toArray) := by
  have hl := run_loadCells_list (P := P) w a cs hsrc
  have hst := run_storeCells_at P g o t cs 0 cur w hg (by simpa using hfit) h1
  unfold CpA
  cases hq : P.info? elem with
  | none => simp [hq] at hs
  | some i =>
    have hi : i.size = size := by simpa [hq] using hs
    simp [Builtin.copy_, run_underlying hu, Builtin.lenOf, Builtin.firstCells, sizeOf, typeInfo, hq, hi, ← hn, hl, hst]

theorem heap_alloc (w : World) (o : Obj) : (w.alloc o).heap[w.heap.size]? = some o := Array.getElem?_push_size
theorem Prow.start {G : Nat → Prop} {B : Nat} {w : World} {g : Nat} (hB : B ≤ g) (hh : w.heap[g]? = some (.cells #[] 41 (0, 0))) : Prow G B w (.slice (some ⟨g, 0, none⟩) 0 0) .nil :=
  ⟨[], ⟨rfl, .inr ⟨g, 0, #[], rfl, hB, hh, Nat.le_refl _, Nat.zero_le _, rfl, rfl⟩⟩, rfl⟩

attribute [local go_sem ↓] wp_append_wr
set_option maxRecDepth 100000 in
set_option maxHeartbeats 2000000 in
theorem clone_p (l : Pts) (A : Option Addr) (c : Nat) (G : Nat → Prop) (w : World) (hG : ∀ k, G k → k < w.heap.size) (hp : PtsAt G w A 0 l) (hc : l.len ≤ c) (hwt : l.len ≤ 1099511627776) (hn : A = none → l.len = 0 ∧ c = 0) :
    Calls Try.prog 63 #[.slice A l.len c] w fun e w' => ∃ v, e = .returned v ∧ Prow G w.heap.size w' v l ∧ Below w.heap.size w w' := by
  have q31 : ∀ (w : World) (a : Option Addr) (n c : Nat), (binOp .eql 31 (.slice a n c) (.slice none 0 0)).run Try.prog w = .ok (.bool a.isNone) w := fun w a n c => Lib.run_eql_slice_nil w _ _ a n c 0 0 Try.underlying31
  cases A with
  | none =>
    obtain ⟨h0, rfl⟩ := hn rfl
    have hl : l = .nil := by
      cases l with
      | nil => rfl
      | cons => simp [Pts.len] at h0
    subst hl
    rw [show (Pts.nil).len = 0 from rfl]
    go_enter Try.func63, Try.ntmps63
    go_wp2
    go_ret
    exact ⟨_, rfl, Prow.nothing, Below.refl _ _⟩
  | some a =>
    have hb : Below w.heap.size w (w.alloc (.cells #[] 41)) := (Below.refl _ _).alloc (Nat.le_refl _) _
    have h0 := Prow.start (G := G) (B := w.heap.size) (Nat.le_refl _) (heap_alloc w (.cells #[] 41))
    obtain ⟨v', w', hr, h2, h3, _⟩ := h0.append 31 (hp.keep fun p hp' => World.cell?_of_block (hb.block _ (hG _ hp'))) (fun _ h => h) hG (by show 0 + l.len ≤ _; omega) hb.size hc
    have hr' := WrA.of hr
    have H2 := Lib.hid h2
    have HB := Lib.hid (hb.grown h3 hb.size (fun k hk => (h0.lt hk).1))
    clear h2 h3 h0 hr hn
    go_enter Try.func63, Try.ntmps63
    go_wp2_with fail
    go_ret
    exact ⟨v', rfl, H2.out, HB.out⟩
end Go.Proofs.Ytpefkhbejjndeaa
