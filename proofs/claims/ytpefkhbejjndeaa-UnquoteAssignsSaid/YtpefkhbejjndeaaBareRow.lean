/- Rows of parts of the call's own, whose parts' own parts lie in the call's other new blocks, and what append makes of them. -/
import Derived.Test.YtpefkhbejjndeaaPtsRow
import Derived.Test.YtpefkhbejjndeaaWr
namespace Go.Proofs.Ytpefkhbejjndeaa
open Go.RowKit

namespace Pts
/-- Without commands. -/
def bare : Pts → Pts
  | nil => nil
  | cons k t o kids _ rest => cons k t o kids.bare ⟨none, 0, 0⟩ rest.bare
theorem len_bare : ∀ l : Pts, l.bare.len = l.len
  | nil => rfl
  | cons _ _ _ _ _ rest => by rw [bare, len, len, len_bare rest]
theorem app_app : ∀ a b c : Pts, (a.app b).app c = a.app (b.app c)
  | nil, _, _ => rfl
  | cons _ _ _ _ _ a, b, c => by rw [app, app, app, app_app a b c]
end Pts

/-- The new blocks but a row's own. -/
def NewBut (B : Nat) (w : World) (v : Value) (g : Nat) : Prop := B ≤ g ∧ g < w.heap.size ∧ v.ownBlock ≠ some g
def Bro (B : Nat) (w : World) (v : Value) (l : Pts) : Prop := Prow (NewBut B w v) B w v l

section
variable {B : Nat} {w w' : World} {v : Value} {l : Pts}
theorem Bro.nothing : Bro B w (.slice none 0 0) .nil := Prow.nothing
theorem Bro.below (h : Bro B w v l) (hb : Below w.heap.size w w') : Bro B w' v l := by
  have h1 := Prow.below h (fun _ hk => hk.2.1) hb
  obtain ⟨xs, ho, hr⟩ := h1
  exact ⟨xs, ho, hr.more fun k hk => ⟨hk.1, Nat.lt_of_lt_of_le hk.2.1 hb.size, hk.2.2⟩⟩
theorem Bro.at_ (h : Bro B w v l) : ∃ A c, v = .slice A l.len c ∧ l.len ≤ c ∧ PtsAt (fun g => B ≤ g ∧ g < w.heap.size) w A 0 l := by
  have h0 := h
  obtain ⟨A, c, hv, hl, _, hp⟩ := Prow.at_ h
  exact ⟨A, c, hv, hl, hp.more fun k hk => by
    rcases hk with hk | hk
    · exact ⟨hk.1, hk.2.1⟩
    · exact Prow.lt h0 hk⟩
theorem Bro.append (h : Bro B w v l) (k : Int) (t o : ByteArray) (kids : Pts) (Ak : Option Addr) (ck : Nat) (hk : kids.len ≤ ck) (hkp : PtsAt (NewBut B w v) w Ak 0 kids) (ad : Addr)
    (hx : ∀ j u, [Value.int .i64 k, .string t, .string o, .slice Ak kids.len ck, .slice none 0 0][j]? = some u → w.cell? (ad.add j) = some u) (hlen : l.len + 1 ≤ 1099511627776) (hB : B ≤ w.heap.size) :
    ∃ v' w', WrA Try.prog #[31, 31] 31 #[v, .slice (some ad) 1 1] w = .ok v' w' ∧ Bro B w' v' (l.app (.cons k t o kids ⟨none, 0, 0⟩ .nil)) ∧ w.grownBy w' v.ownBlock := by
  obtain ⟨i0, hi, hz0, hz1, hz2⟩ := info_parts info_part
  have h0 := h
  obtain ⟨xs, hown, hr⟩ := h
  obtain ⟨v', w', hrun, hown', hgr, hnil, hat⟩ := run_append_own_at (P := Try.prog) (w := w) B 31 31 41 i0 _ 5 88 Try.underlying31 hi hz0 hz1 hz2 rfl (by omega) v l.len xs hown ad 1 1
    [Value.int .i64 k, .string t, .string o, .slice Ak kids.len ck, .slice none 0 0] (by rfl) hx (by simp [Value.oneCell']) (by unfold maxLen; omega) (by omega) hB
  have hkeep : ∀ p : Addr, NewBut B w v p.block → w'.cell? p = w.cell? p := fun p hp => World.cell?_of_block (hgr.block _ hp.2.1 fun e => hp.2.2 e.symm)
  have hmore : ∀ g, NewBut B w v g → NewBut B w' v' g := fun g hg => ⟨hg.1, Nat.lt_of_lt_of_le hg.2.1 hgr.size, by
    rcases hat with e | e
    · rw [e]; exact hg.2.2
    · rw [e]; intro e2; injection e2 with e2; have := hg.2.1; omega⟩
  refine ⟨v', w', WrA.of hrun, ⟨xs ++ [Value.int .i64 k, .string t, .string o, .slice Ak kids.len ck, .slice none 0 0], ?_, (PtsRow.app (l2 := .cons k t o kids ⟨none, 0, 0⟩ .nil) ⟨Ak, ck, [], rfl, hk, hkp, rfl⟩ hr |>.keep hkeep).more hmore⟩, hgr⟩
  rw [Pts.len_app]
  exact hown'
end
end Go.Proofs.Ytpefkhbejjndeaa
