/- A region that draws its order, walked once, where its calls may make memory: every world of the class 'grown from w' will do. And rows of parts: what an append makes. -/
import Derived.Test.YtpefkhbejjndeaaPtsMem
import Derived.Test.YtpefkhbejjndeaaGr
import Derived.BigQuiet
import Derived.Maps.AppendAt
import Derived.Deep.Upon
namespace Go.Proofs.Ytpefkhbejjndeaa
open Go.RowKit

/-- The cells of a row of parts; what is within them lies in w. -/
def PtsRow (G : Nat → Prop) (w : World) (xs : List Value) : Pts → Prop
  | .nil => xs = []
  | .cons k t o kids cm rest => ∃ (Ak : Option Addr) (ck : Nat) (r : List Value), xs = .int .i64 k :: .string t :: .string o :: .slice Ak kids.len ck :: cm.val :: r ∧ kids.len ≤ ck ∧ PtsAt G w Ak 0 kids ∧ PtsRow G w r rest

theorem PtsRow.len {G : Nat → Prop} {w : World} : ∀ {l : Pts} {xs : List Value}, PtsRow G w xs l → xs.length = l.len * 5
  | .nil, xs, h => by rw [show xs = [] from h]; rfl
  | .cons k t o kids cm rest, xs, h => by
    obtain ⟨Ak, ck, r, rfl, _, _, hr⟩ := h
    have := PtsRow.len hr
    simp only [List.length_cons, Pts.len]
    omega
theorem PtsRow.keep {G : Nat → Prop} {w w' : World} (hk : ∀ p : Addr, G p.block → w'.cell? p = w.cell? p) : ∀ {l : Pts} {xs : List Value}, PtsRow G w xs l → PtsRow G w' xs l
  | .nil, _, h => h
  | .cons k t o kids cm rest, xs, h => by
    obtain ⟨Ak, ck, r, rfl, hl, hp, hr⟩ := h
    exact ⟨Ak, ck, r, rfl, hl, hp.keep hk, hr.keep hk⟩
theorem PtsRow.more {G G' : Nat → Prop} {w : World} (hG : ∀ k, G k → G' k) : ∀ {l : Pts} {xs : List Value}, PtsRow G w xs l → PtsRow G' w xs l
  | .nil, _, h => h
  | .cons k t o kids cm rest, xs, h => by
    obtain ⟨Ak, ck, r, rfl, hl, hp, hr⟩ := h
    exact ⟨Ak, ck, r, rfl, hl, hp.more hG, hr.more hG⟩
theorem PtsRow.app {G : Nat → Prop} {w : World} {l2 : Pts} {ys : List Value} (hy : PtsRow G w ys l2) : ∀ {l : Pts} {xs : List Value}, PtsRow G w xs l → PtsRow G w (xs ++ ys) (l.app l2)
  | .nil, xs, h => by rw [show xs = [] from h]; exact hy
  | .cons k t o kids cm rest, xs, h => by
    obtain ⟨Ak, ck, r, rfl, hl, hp, hr⟩ := h
    exact ⟨Ak, ck, r ++ ys, rfl, hl, hp, PtsRow.app hy hr⟩
theorem PtsRow.one {G : Nat → Prop} {w : World} : ∀ {l : Pts} {xs : List Value}, PtsRow G w xs l → ∀ u ∈ xs, u.oneCell' = true
  | .nil, xs, h => by rw [show xs = [] from h]; intro u hu; cases hu
  | .cons k t o kids cm rest, xs, h => by
    obtain ⟨Ak, ck, r, rfl, hl, hp, hr⟩ := h
    intro u hu
    simp only [List.mem_cons] at hu
    rcases hu with rfl | rfl | rfl | rfl | rfl | hu
    · rfl
    · rfl
    · rfl
    · rfl
    · rfl
    · exact PtsRow.one hr u hu
/-- From memory to the row. -/
theorem PtsAt.row {G : Nat → Prop} {w : World} {b off : Nat} : ∀ {l : Pts} {i : Nat}, PtsAt G w (some ⟨b, off, none⟩) i l → ∃ xs, PtsRow G w xs l ∧ ∀ j u, xs[j]? = some u → w.cell? ⟨b, off + i * 5 + j, none⟩ = some u
  | .nil, i, _ => ⟨[], rfl, fun _ _ h => by simp at h⟩
  | .cons k t o kids cm rest, i, h => by
    obtain ⟨b', off', Ak, ck, hA, hG, c0, c1, c2, c3, c4, hl, h1, h2⟩ := h
    injection hA with hA
    injection hA with e1 e2
    subst e1 e2
    obtain ⟨xs, hr, hc⟩ := h2.row
    refine ⟨.int .i64 k :: .string t :: .string o :: .slice Ak kids.len ck :: cm.val :: xs, ⟨Ak, ck, xs, rfl, hl, h1, hr⟩, fun j u hj => ?_⟩
    match j, hj with
    | 0, hj => simp only [List.getElem?_cons_zero, Option.some.injEq] at hj; subst hj; exact c0
    | 1, hj => simp only [List.getElem?_cons_succ, List.getElem?_cons_zero, Option.some.injEq] at hj; subst hj; exact c1
    | 2, hj => simp only [List.getElem?_cons_succ, List.getElem?_cons_zero, Option.some.injEq] at hj; subst hj; exact c2
    | 3, hj => simp only [List.getElem?_cons_succ, List.getElem?_cons_zero, Option.some.injEq] at hj; subst hj; exact c3
    | 4, hj => simp only [List.getElem?_cons_succ, List.getElem?_cons_zero, Option.some.injEq] at hj; subst hj; exact c4
    | j + 5, hj =>
      simp only [List.getElem?_cons_succ] at hj
      have := hc j u hj
      rw [show off + i * 5 + (j + 5) = off + (i + 1) * 5 + j by omega]
      exact this
/-- .. and back. -/
theorem PtsRow.at_ {G : Nat → Prop} {w : World} {b off : Nat} (hb : G b) : ∀ {l : Pts} {xs : List Value} {i : Nat}, PtsRow G w xs l → (∀ j u, xs[j]? = some u → w.cell? ⟨b, off + i * 5 + j, none⟩ = some u) → PtsAt G w (some ⟨b, off, none⟩) i l
  | .nil, _, _, _, _ => trivial
  | .cons k t o kids cm rest, xs, i, h, hc => by
    obtain ⟨Ak, ck, r, rfl, hl, hp, hr⟩ := h
    refine ⟨b, off, Ak, ck, rfl, hb, hc 0 _ rfl, hc 1 _ rfl, hc 2 _ rfl, hc 3 _ rfl, hc 4 _ rfl, hl, hp, PtsRow.at_ hb hr fun j u hj => ?_⟩
    have := hc (j + 5) u (by simpa using hj)
    rw [show off + i * 5 + (j + 5) = off + (i + 1) * 5 + j by omega] at this
    exact this
end Go.Proofs.Ytpefkhbejjndeaa
