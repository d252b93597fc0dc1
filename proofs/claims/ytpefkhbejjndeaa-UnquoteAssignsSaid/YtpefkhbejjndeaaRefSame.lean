/- What conchref24.Same answers of parts that are the same but for commands. -/
import Derived.Test.YtpefkhbejjndeaaBareRow
import Derived.Test.YtpefkhbejjndeaaMuch
namespace Go.Proofs.Ytpefkhbejjndeaa
open Go.RowKit

namespace Pts
theorem bare_drop : ∀ (i : Nat) (l : Pts), (l.drop i).bare = l.bare.drop i
  | 0, l => by rw [drop_zero, drop_zero]
  | _ + 1, nil => rfl
  | i + 1, cons _ _ _ _ _ r => by rw [drop, bare, drop, bare_drop i r]
theorem bare_bare : ∀ l : Pts, l.bare.bare = l.bare
  | nil => rfl
  | cons _ _ _ kids _ rest => by rw [bare, bare, bare_bare kids, bare_bare rest]
theorem alike_drop {l l' : Pts} (h : l.bare = l'.bare) (i : Nat) {k : Int} {t o : ByteArray} {kids r : Pts} {cm : Cm} (hd : l.drop i = cons k t o kids cm r) :
    ∃ kids' cm' r', l'.drop i = cons k t o kids' cm' r' ∧ kids.bare = kids'.bare := by
  have h1 := bare_drop i l
  rw [hd, h, ← bare_drop i l', bare] at h1
  cases hl : l'.drop i with
  | nil => rw [hl, bare] at h1; cases h1
  | cons k' t' o' kids' cm' r' =>
    rw [hl, bare] at h1
    injection h1 with e1 e2 e3 e4 e5 e6
    subst e1 e2 e3
    exact ⟨kids', cm', r', rfl, e4⟩
theorem deep_bare : ∀ l : Pts, l.bare.deep = l.deep
  | nil => rfl
  | cons _ _ _ kids _ rest => by rw [bare, deep, deep, deep_bare kids, deep_bare rest]
theorem wt_bare : ∀ l : Pts, l.bare.wt ≤ l.wt
  | nil => Nat.le_refl _
  | cons _ _ _ kids _ rest => by have := wt_bare kids; have := wt_bare rest; rw [bare, wt, wt]; simp only; omega
theorem mx_bare : ∀ l : Pts, l.bare.mx ≤ l.mx
  | nil => Nat.le_refl _
  | cons _ _ _ kids _ rest => by
    have h1 := mx_bare kids; have h2 := mx_bare rest; have h3 := len_bare rest
    rw [bare, mx, mx]; simp only; omega
end Pts

set_option maxRecDepth 100000 in
set_option maxHeartbeats 2000000 in
theorem same_any : ∀ (n : Nat) (l l' : Pts) (G G' : Nat → Prop) (A A' : Option Addr) (c c' : Nat) (w : World), l.deep < n → l.mx ≤ 562949953421312 → l.bare = l'.bare → PtsAt G w A 0 l → PtsAt G' w A' 0 l' →
    Calls Try.prog 32 #[.slice A l.len c, .slice A' l'.len c'] w fun e w' => e = .returned (.bool true) ∧ ∃ m, w' = w.drewN m := by
  intro n
  induction n with
  | zero => intro l _ _ _ _ _ _ _ _ h; omega
  | succ n ih =>
    intro l l' G G' A A' c c' w hd hwt hbr hp hp'
    have hlw := Pts.len_mx l
    have hll : l'.len = l.len := by rw [← Pts.len_bare l', ← hbr, Pts.len_bare]
    have IH := Lib.hid ih; clear ih
    have HBR := Lib.hid hbr; clear hbr
    rw [hll]
    go_enter Try.func32, Try.ntmps32
    go_wp2_with fail
    go_loopw [5] (fun i wr => ∃ (k q : Nat), k ≤ l.len ∧ i = .int .i64 k ∧ wr = w.drewN q) (fun i _ => l.len - (intOf i).toNat)
    case atStart => exact ⟨0, 0, by omega, rfl, rfl⟩
    case round =>
      obtain ⟨k, q, hk, rfl, rfl⟩ := hrel
      by_cases hlt : k < l.len
      · obtain ⟨pk, t, o, kids, cm, r, hdr⟩ := Pts.drop_cons k l hlt
        obtain ⟨kids', cm', r', hdr', hkb⟩ := Pts.alike_drop HBR.out k hdr
        have hq := hp.at_ k
        rw [hdr, Nat.zero_add] at hq
        obtain ⟨b, off, Ak, ck, rfl, hG, c0, c1, c2, c3, c4, hl, h1, h2⟩ := hq
        have hq' := hp'.at_ k
        rw [hdr', Nat.zero_add] at hq'
        obtain ⟨b', off', Ak', ck', rfl, hG', d0, d1, d2, d3, d4, hl', h1', h2'⟩ := hq'
        have hwd := Pts.mx_at k l hdr
        have hkd := Pts.deep_drop k l hdr
        clear hdr hdr' c4 d4 h2 h2'
        go_wp2_with fail
        go_quiet ((go_at_call 32; exact quietN (IH.out kids kids' G G' Ak Ak' ck ck' _ (by omega) (by omega) hkb (h1.drewN _) (h1'.drewN _))))
        go_wp2_with fail
        go_roundw
        case rel => exact ⟨k + 1, _, by omega, by go_num, rfl⟩
        case measure => simp only [intOf]; omega
      · go_wp2_with fail
        go_ret
        exact ⟨rfl, _, rfl⟩

theorem same_r (l l' : Pts) (A A' : Option Addr) (c c' : Nat) (G G' : Nat → Prop) (w : World) (hwt : l.mx ≤ 562949953421312) (hbr : l.bare = l'.bare) (hp : PtsAt G w A 0 l) (hp' : PtsAt G' w A' 0 l') :
    Calls Try.prog 32 #[.slice A l.len c, .slice A' l'.len c'] w fun e w' => e = .returned (.bool true) ∧ ∃ m, w' = w.drewN m := same_any (l.deep + 1) l l' G G' A A' c c' w (by omega) hwt hbr hp hp'
end Go.Proofs.Ytpefkhbejjndeaa
