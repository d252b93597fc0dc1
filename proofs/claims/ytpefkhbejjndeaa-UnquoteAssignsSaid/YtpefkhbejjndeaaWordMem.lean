/- What the printer of words holds while it writes: where its text goes (whatever takes text), and the texts of commands that are left. -/
import Derived.Test.YtpefkhbejjndeaaBuilder
import Derived.Test.YtpefkhbejjndeaaPtsMem
import Derived.Test.YtpefkhbejjndeaaWordPlain
namespace Go.Proofs.Ytpefkhbejjndeaa
open Go.RowKit

/-- A row of strings reads as these texts (an empty one may lie anywhere). -/
def StrsAt (G : Nat → Prop) (w : World) (C : Option Addr) (cs : List (List UInt8)) : Prop :=
  cs ≠ [] → ∃ ad, C = some ad ∧ G ad.block ∧ ∀ j s, cs[j]? = some s → w.cell? (ad.add j) = some (bs s)
theorem StrsAt.keep {G : Nat → Prop} {w w' : World} {C : Option Addr} {cs : List (List UInt8)} (h : StrsAt G w C cs) (hk : ∀ p : Addr, G p.block → w'.cell? p = w.cell? p) : StrsAt G w' C cs := fun hne => by
  obtain ⟨ad, hC, hG, hc⟩ := h hne
  exact ⟨ad, hC, hG, fun j s hs => (hk _ (by rw [block_add]; exact hG)).trans (hc j s hs)⟩
theorem StrsAt.nil {G : Nat → Prop} {w : World} {C : Option Addr} : StrsAt G w C [] := fun h => absurd rfl h
theorem StrsAt.cut {G : Nat → Prop} {w : World} {C : Option Addr} {c : List UInt8} {cs : List (List UInt8)} (h : StrsAt G w C (c :: cs)) (cap : Nat) (hcap : cs.length + 1 ≤ cap) :
    StrsAt G w (if cap = 1 then C else C.map (·.add 1)) cs := fun hne => by
  obtain ⟨ad, rfl, hG, hc⟩ := h (by simp)
  have : 0 < cs.length := List.length_pos_iff.2 hne
  rw [if_neg (by omega)]
  refine ⟨ad.add 1, rfl, by rw [block_add]; exact hG, fun j s hs => ?_⟩
  rw [add_add', Nat.add_comm 1 j]
  exact hc (j + 1) s hs

/-- Whatever takes text: an object of type ti at block b, whose method put is function fi; 'Sk l w': it holds the text l. -/
structure Snk (B b : Nat) (ti : TypeId) (fi : FuncId) (Sk : List UInt8 → World → Prop) : Prop where
  meth : ∀ W : World, (method 254 ti (.pointer (some ⟨b, 0, none⟩)) "conch/wordfmt.put").run Try.prog W = .ok (fi, .pointer (some ⟨b, 0, none⟩)) W
  enter : ∀ (args : Array Value) (W : World), (callFunc fi args).run Try.prog W = .ok (.enter fi args) W
  put : ∀ (l : List UInt8) (s : ByteArray) (w : World), Sk l w → l.length + s.size ≤ 70368744177664 → B ≤ w.heap.size →
    Calls Try.prog fi #[.pointer (some ⟨b, 0, none⟩), .string s] w fun e w' => e = .returned (.tuple #[]) ∧ Sk (l ++ s.toList) w' ∧ Kp B (· = b) w w'
  keep : ∀ (l : List UInt8) (w w' : World), Sk l w → w.heap.size ≤ w'.heap.size → (∀ k, k < w.heap.size → (k = b ∨ byteRow w k) → w'.heap[k]? = w.heap[k]?) → Sk l w'
  lt : ∀ (l : List UInt8) (w : World), Sk l w → b < w.heap.size

/-- The printer at block bp: what takes its text, and the texts that are left. -/
def Prt (G : Nat → Prop) (B b bp : Nat) (ti : TypeId) (cs : List (List UInt8)) (w : World) : Prop :=
  B ≤ bp ∧ b ≠ bp ∧ ∃ (C : Option Addr) (c : Nat), w.heap[bp]? = some (.cells #[.iface ti (.pointer (some ⟨b, 0, none⟩)), .slice C cs.length c] 74 (0, 0)) ∧ cs.length ≤ c ∧ StrsAt G w C cs
def Xp (b bp : Nat) : Nat → Prop := fun k => k = b ∨ k = bp

section
variable {G : Nat → Prop} {B b bp : Nat} {ti : TypeId} {cs : List (List UInt8)} {w w' : World}
theorem Prt.notbytes (h : Prt G B b bp ti cs w) : ¬ byteRow w bp := by
  obtain ⟨_, _, C, c, hh, _⟩ := h
  rintro ⟨cur, fz, h⟩
  rw [hh] at h
  injection h with h
  injection h with _ h
  exact absurd h (by decide)
theorem Prt.lt (h : Prt G B b bp ti cs w) : bp < w.heap.size := by
  obtain ⟨_, _, C, c, hh, _⟩ := h
  exact (Array.getElem?_eq_some_iff.1 hh).1
/-- What takes text writes nothing of the printer's. -/
theorem Prt.put (h : Prt G B b bp ti cs w) (hG : Gd B (Xp b bp) w G) (hk : Kp B (· = b) w w') : Prt G B b bp ti cs w' := by
  have hn := h.notbytes
  have hl := h.lt
  obtain ⟨hB, hne, C, c, hh, hc, hs⟩ := h
  refine ⟨hB, hne, C, c, (hk.block bp hl (.inr ⟨fun e => hne e.symm, hn⟩)).trans hh, hc, hs.keep fun p hp => ?_⟩
  exact hG.cell (hk.wide fun k e => .inl e) p hp
/-- What changes nothing that was there. -/
theorem Prt.below (h : Prt G B b bp ti cs w) (hG : Gd B (Xp b bp) w G) (hk : Below w.heap.size w w') : Prt G B b bp ti cs w' := by
  have hl := h.lt
  obtain ⟨hB, hne, C, c, hh, hc, hs⟩ := h
  exact ⟨hB, hne, C, c, (hk.block bp hl).trans hh, hc, hs.keep fun p hp => hG.cell (X := Xp b bp) (Kp.of_below hk) p hp⟩
theorem Snk.below {fi : FuncId} {Sk : List UInt8 → World → Prop} (S : Snk B b ti fi Sk) {l : List UInt8} (h : Sk l w) (hk : Below w.heap.size w w') : Sk l w' := S.keep l w w' h hk.size fun k hk1 _ => hk.block k hk1
/-- The printer's own second cell is written. -/
theorem Snk.set {fi : FuncId} {Sk : List UInt8 → World → Prop} (S : Snk B b ti fi Sk) {l : List UInt8} (h : Sk l w) (hp : Prt G B b bp ti cs w) (i : Nat) (u : Value) : Sk l (w.setCell ⟨bp, i, none⟩ u) :=
  S.keep l w _ h (by simp [World.setCell]) fun k _ hk => Below.heap_setCell _ _ _ _ (by
    intro e
    have e' : k = bp := e
    subst e'
    rcases hk with hk | hk
    · exact hp.2.1 hk.symm
    · exact hp.notbytes hk)
end
end Go.Proofs.Ytpefkhbejjndeaa
