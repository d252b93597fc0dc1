/- Parts of words as they lie in memory: 'PtsAt G w A i l': from place i on, a row of parts at address A reads as l, all of it in blocks of which G holds. -/
import Derived.Test.YtpefkhbejjndeaaBase
import Derived.Test.YtpefkhbejjndeaaPtsPlain
namespace Go.Proofs.Ytpefkhbejjndeaa
open Go.RowKit

def PtsAt (G : Nat → Prop) (w : World) : Option Addr → Nat → Pts → Prop
  | _, _, .nil => True
  | A, i, .cons k t o kids cm rest => ∃ (b off : Nat) (Ak : Option Addr) (ck : Nat), A = some ⟨b, off, none⟩ ∧ G b ∧
      w.cell? ⟨b, off + i * 5, none⟩ = some (.int .i64 k) ∧ w.cell? ⟨b, off + i * 5 + 1, none⟩ = some (.string t) ∧ w.cell? ⟨b, off + i * 5 + 2, none⟩ = some (.string o) ∧
      w.cell? ⟨b, off + i * 5 + 3, none⟩ = some (.slice Ak kids.len ck) ∧ w.cell? ⟨b, off + i * 5 + 4, none⟩ = some cm.val ∧ kids.len ≤ ck ∧ PtsAt G w Ak 0 kids ∧ PtsAt G w A (i + 1) rest

theorem PtsAt.keep {G : Nat → Prop} {w w' : World} (hk : ∀ p : Addr, G p.block → w'.cell? p = w.cell? p) : ∀ {l : Pts} {A : Option Addr} {i : Nat}, PtsAt G w A i l → PtsAt G w' A i l
  | .nil, _, _, _ => trivial
  | .cons k t o kids cm rest, A, i, h => by
    obtain ⟨b, off, Ak, ck, hA, hG, c0, c1, c2, c3, c4, hl, h1, h2⟩ := h
    exact ⟨b, off, Ak, ck, hA, hG, (hk _ hG).trans c0, (hk _ hG).trans c1, (hk _ hG).trans c2, (hk _ hG).trans c3, (hk _ hG).trans c4, hl, h1.keep hk, h2.keep hk⟩
theorem PtsAt.more {G G' : Nat → Prop} {w : World} (hG : ∀ k, G k → G' k) : ∀ {l : Pts} {A : Option Addr} {i : Nat}, PtsAt G w A i l → PtsAt G' w A i l
  | .nil, _, _, _ => trivial
  | .cons k t o kids cm rest, A, i, h => by
    obtain ⟨b, off, Ak, ck, hA, hg, c0, c1, c2, c3, c4, hl, h1, h2⟩ := h
    exact ⟨b, off, Ak, ck, hA, hG _ hg, c0, c1, c2, c3, c4, hl, h1.more hG, h2.more hG⟩
theorem PtsAt.at_ {G : Nat → Prop} {w : World} : ∀ {l : Pts} {A : Option Addr} {i : Nat} (j : Nat), PtsAt G w A i l → PtsAt G w A (i + j) (l.drop j)
  | l, A, i, 0, h => by rw [Pts.drop_zero]; exact h
  | .nil, _, _, _ + 1, _ => trivial
  | .cons k t o kids cm rest, A, i, j + 1, h => by
    obtain ⟨b, off, Ak, ck, hA, hG, c0, c1, c2, c3, c4, hl, h1, h2⟩ := h
    have := h2.at_ j
    rw [Pts.drop]
    rw [show i + (j + 1) = i + 1 + j by omega]
    exact this
theorem PtsAt.drewN {G : Nat → Prop} {w : World} {l : Pts} {A : Option Addr} {i : Nat} (h : PtsAt G w A i l) (n : Nat) : PtsAt G (w.drewN n) A i l :=
  h.keep fun p _ => by simp

/-- A word's value. -/
def WordAt (G : Nat → Prop) (w : World) (v : Value) (l : Pts) : Prop := ∃ A c, v = .slice A l.len c ∧ l.len ≤ c ∧ PtsAt G w A 0 l

end Go.Proofs.Ytpefkhbejjndeaa
