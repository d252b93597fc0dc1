/- Parts of words as a plain tree (the first part, what is within it, what stands behind it), and how much there is. No program in sight. -/
import Derived.Test.YtpefkhbejjndeaaRows
namespace Go.Proofs.Ytpefkhbejjndeaa
open Go

/-- A slice of commands as it lies: address, length, capacity. -/
structure Cm where
  a : Option Addr
  n : Nat
  c : Nat

def Cm.val (x : Cm) : Value := .slice x.a x.n x.c

/-- Parts: kind, text, operator, the parts within it, its commands (as they lie), the parts behind it. -/
inductive Pts where
  | nil
  | cons (k : Int) (t o : ByteArray) (kids : Pts) (cm : Cm) (rest : Pts)

namespace Pts
def len : Pts → Nat
  | nil => 0
  | cons _ _ _ _ _ r => r.len + 1
def drop : Nat → Pts → Pts
  | 0, l => l
  | _ + 1, nil => nil
  | i + 1, cons _ _ _ _ _ r => r.drop i
def app : Pts → Pts → Pts
  | nil, r => r
  | cons k t o kids cm rest, r => cons k t o kids cm (rest.app r)
/-- Values and letters. -/
def wt : Pts → Nat
  | nil => 0
  | cons _ t o kids cm rest => 1 + t.size + o.size + cm.n + kids.wt + rest.wt
def deep : Pts → Nat
  | nil => 0
  | cons _ _ _ kids _ rest => max (kids.deep + 1) rest.deep

theorem drop_zero (l : Pts) : l.drop 0 = l := by cases l <;> rfl
theorem len_drop : ∀ (i : Nat) (l : Pts), (l.drop i).len = l.len - i
  | 0, l => by rw [drop_zero]; omega
  | _ + 1, nil => by simp [drop, len]
  | i + 1, cons k t o kids cm r => by rw [drop, len_drop i r, len]; omega
theorem drop_end (i : Nat) (l : Pts) (h : l.len ≤ i) : l.drop i = nil := by
  have h1 : (l.drop i).len = 0 := by rw [len_drop]; omega
  cases hl : l.drop i with
  | nil => rfl
  | cons _ _ _ _ _ r => rw [hl] at h1; simp [len] at h1
theorem drop_succ : ∀ (i : Nat) (l : Pts) {k : Int} {t o : ByteArray} {kids : Pts} {cm : Cm} {r : Pts}, l.drop i = cons k t o kids cm r → l.drop (i + 1) = r
  | 0, l, _, _, _, _, _, _, h => by rw [drop_zero] at h; subst h; rw [drop, drop_zero]
  | _ + 1, nil, _, _, _, _, _, _, h => by simp [drop] at h
  | i + 1, cons _ _ _ _ _ r, _, _, _, _, _, _, h => by rw [drop] at h; rw [drop]; exact drop_succ i r h
theorem drop_cons (i : Nat) (l : Pts) (h : i < l.len) : ∃ k t o kids cm r, l.drop i = cons k t o kids cm r := by
  cases hl : l.drop i with
  | nil => have := len_drop i l; rw [hl] at this; simp [len] at this; omega
  | cons k t o kids cm r => exact ⟨k, t, o, kids, cm, r, rfl⟩
theorem wt_drop : ∀ (i : Nat) (l : Pts), (l.drop i).wt ≤ l.wt
  | 0, l => by rw [drop_zero]; exact Nat.le_refl _
  | _ + 1, nil => by simp [drop]
  | i + 1, cons k t o kids cm r => by have := wt_drop i r; rw [drop, wt]; omega
theorem deep_drop : ∀ (i : Nat) (l : Pts) {k : Int} {t o : ByteArray} {kids : Pts} {cm : Cm} {r : Pts}, l.drop i = cons k t o kids cm r → kids.deep < l.deep
  | 0, l, _, _, _, _, _, _, h => by rw [drop_zero] at h; subst h; rw [deep]; omega
  | _ + 1, nil, _, _, _, _, _, _, h => by simp [drop] at h
  | i + 1, cons _ _ _ _ _ r, _, _, _, _, _, _, h => by rw [drop] at h; have := deep_drop i r h; rw [deep]; omega
theorem len_wt : ∀ l : Pts, l.len ≤ l.wt
  | nil => Nat.le_refl _
  | cons _ _ _ _ _ r => by have := len_wt r; rw [len, wt]; omega
theorem len_app : ∀ l r : Pts, (l.app r).len = l.len + r.len
  | nil, r => by simp [app, len]
  | cons _ _ _ _ _ l, r => by rw [app, len, len, len_app l r]; omega
/-- The greatest size within it: of a row, of a text, of a row of commands. -/
def mx : Pts → Nat
  | nil => 0
  | cons _ t o kids cm rest => max (rest.len + 1) (max (max t.size o.size) (max cm.n (max kids.mx rest.mx)))
theorem len_mx : ∀ l : Pts, l.len ≤ l.mx
  | nil => Nat.le_refl _
  | cons _ _ _ _ _ r => by rw [len, mx]; exact Nat.le_max_left _ _
theorem mx_cons (k : Int) (t o : ByteArray) (kids : Pts) (cm : Cm) (r : Pts) : r.len + 1 ≤ (cons k t o kids cm r).mx ∧ t.size ≤ (cons k t o kids cm r).mx ∧ o.size ≤ (cons k t o kids cm r).mx ∧ cm.n ≤ (cons k t o kids cm r).mx ∧ kids.mx ≤ (cons k t o kids cm r).mx ∧ r.mx ≤ (cons k t o kids cm r).mx := by
  rw [mx]; omega
theorem mx_at : ∀ (i : Nat) (l : Pts) {k : Int} {t o : ByteArray} {kids : Pts} {cm : Cm} {r : Pts}, l.drop i = cons k t o kids cm r → r.len + 1 ≤ l.mx ∧ t.size ≤ l.mx ∧ o.size ≤ l.mx ∧ cm.n ≤ l.mx ∧ kids.mx ≤ l.mx ∧ r.mx ≤ l.mx
  | 0, l, _, _, _, _, _, _, h => by rw [drop_zero] at h; subst h; exact mx_cons ..
  | _ + 1, nil, _, _, _, _, _, _, h => by simp [drop] at h
  | i + 1, cons k t o kids cm r, _, _, _, _, _, _, h => by
    rw [drop] at h
    have h1 := mx_at i r h
    have h2 := mx_cons k t o kids cm r
    omega
theorem mx_wt : ∀ l : Pts, l.mx ≤ l.wt
  | nil => Nat.le_refl _
  | cons _ _ _ kids _ r => by
    have h1 := mx_wt kids; have h2 := mx_wt r; have h3 := len_wt r
    rw [mx, wt]; omega
theorem mx_app : ∀ l r : Pts, (l.app r).mx ≤ max (l.len + r.len) (max l.mx r.mx)
  | nil, r => by rw [app]; omega
  | cons k t o kids cm l, r => by
    have h1 := mx_app l r
    have h2 := mx_cons k t o kids cm l
    rw [app, mx, len_app l r, len]; omega
theorem app_nil : ∀ l : Pts, l.app nil = l
  | nil => rfl
  | cons _ _ _ _ _ l => by rw [app, app_nil l]

/-- conchlaw24.Much: how many parts, and bytes, as far as a thousand. -/
def muchLoop : Pts → Nat → Nat
  | nil, n => n
  | cons _ t o kids cm rest, n => if n ≤ 1000 then muchLoop rest (n + t.size / 10 + o.size / 10 + cm.n + muchLoop kids kids.len) else n
def much (l : Pts) : Nat := muchLoop l l.len
theorem muchLoop_le : ∀ (l : Pts) (n : Nat), muchLoop l n + l.len ≤ n + l.wt
  | nil, n => by simp [muchLoop, len, wt]
  | cons k t o kids cm rest, n => by
    unfold muchLoop
    split
    · have h1 := muchLoop_le kids kids.len
      have h2 := muchLoop_le rest (n + t.size / 10 + o.size / 10 + cm.n + muchLoop kids kids.len)
      rw [wt, len]
      omega
    · have := len_wt rest
      rw [wt, len]
      omega
theorem much_le (l : Pts) : l.much ≤ l.wt := by
  have := muchLoop_le l l.len
  unfold much
  omega
end Pts
end Go.Proofs.Ytpefkhbejjndeaa
