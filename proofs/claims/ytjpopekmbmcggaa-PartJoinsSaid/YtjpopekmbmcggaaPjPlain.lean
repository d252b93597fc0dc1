/- Two rows of parts, one behind the other: how many, how deep, whether they are right. No program in sight. -/
import Derived.Test.YtjpopekmbmcggaaPartPlain
import Derived.Test.YtjpopekmbmcggaaPartCount
namespace Go.Proofs.Ytjpopekmbmcggaa
open Go
namespace Pts
theorem count_app : ∀ l r : Pts, (l.app r).count = l.count + r.count
  | nil, r => by simp [app, count]
  | cons _ _ _ _ _ l, r => by rw [app, count, count, count_app l r]; omega
theorem deep_app : ∀ l r : Pts, (l.app r).deep = max l.deep r.deep
  | nil, r => by simp [app, deep]
  | cons _ _ _ _ _ l, r => by rw [app, deep, deep, deep_app l r]; omega
/-- Whether parts are right behind what stands ahead of them. -/
theorem allP_pv (p : Nat) (pv : Option (List UInt8)) : ∀ l : Pts, l ≠ nil → allP p pv l = (allP p none l && meetB pv l.headK)
  | nil, h => absurd rfl h
  | cons k t o kids cm rest, _ => by
    rw [allP, allP, headK]
    have : meetB none k = true := rfl
    rw [this]
    generalize oneB p k t.toList o.toList kids.len cm.n kids.headK kids.headT (allP 1 none kids) (allP 2 none kids) = x
    generalize allP p (if k = 1 then some t.toList else none) rest = y
    generalize meetB pv k = z
    cases x <;> cases y <;> cases z <;> rfl
theorem allP_app (p : Nat) : ∀ (n : Nat) (l r : Pts) (pv : Option (List UInt8)) {k : Int} {t o : ByteArray} {kids : Pts} {cm : Cm} {q : Pts}, l.len = n + 1 → l.drop n = cons k t o kids cm q → allP p pv (l.app r) = (allP p pv l && allP p (if k = 1 then some t.toList else none) r)
  | 0, cons k t o kids cm rest, r, pv, _, _, _, _, _, _, hl, hd => by
    rw [drop_zero] at hd
    cases hd
    have : rest = nil := by cases rest with
      | nil => rfl
      | cons => simp [len] at hl
    subst this
    rw [app, app, allP, allP]
    rw [show allP p (if k = 1 then some t.toList else none) nil = true from rfl, Bool.and_true]
  | n + 1, cons k t o kids cm rest, r, pv, _, _, _, _, _, _, hl, hd => by
    rw [drop] at hd
    rw [app, allP, allP, allP_app p n rest r _ (by rw [len] at hl; omega) hd]
    simp only [Bool.and_assoc]
  | _, nil, _, _, _, _, _, _, _, _, hl, _ => by simp [len] at hl
/-- A part of right parts is right. -/
theorem allP_one (p : Nat) : ∀ (n : Nat) (l : Pts) (pv : Option (List UInt8)) {k : Int} {t o : ByteArray} {kids : Pts} {cm : Cm} {q : Pts}, allP p pv l = true → l.drop n = cons k t o kids cm q → oneB p k t.toList o.toList kids.len cm.n kids.headK kids.headT (allP 1 none kids) (allP 2 none kids) = true
  | 0, l, pv, _, _, _, _, _, _, ha, hd => by
    rw [drop_zero] at hd
    subst hd
    rw [allP] at ha
    simp only [Bool.and_eq_true] at ha
    exact ha.1.1
  | n + 1, nil, _, _, _, _, _, _, _, _, hd => by simp [drop] at hd
  | n + 1, cons k t o kids cm rest, pv, _, _, _, _, _, _, ha, hd => by
    rw [drop] at hd
    rw [allP] at ha
    simp only [Bool.and_eq_true] at ha
    exact allP_one p n rest _ ha.2 hd
theorem right_len {l : Pts} (h : l.right = true) : 0 < l.len := by
  unfold right at h
  simp only [Bool.and_eq_true, Bool.not_eq_true', beq_eq_false_iff_ne] at h
  have := h.1.1
  omega
/-- Two right words together are one, if no two literals meet, and no dollar meets what it would open. -/
theorem right_app {l r : Pts} {k : Int} {t o : ByteArray} {kids : Pts} {cm : Cm} {q : Pts} (hl : l.right = true) (hr : r.right = true) (hd : l.drop (l.len - 1) = cons k t o kids cm q) :
    (l.app r).right = !(k == 1 && (r.headK == 1 || (ld0 t.toList == 36) && (r.headK == 5 || r.headK == 6 || r.headK == 7))) := by
  have h1 := right_len hl
  have h2 := right_len hr
  unfold right at hl hr ⊢
  simp only [Bool.and_eq_true] at hl hr
  have ha := allP_app 0 (l.len - 1) l r none (by omega) hd
  have hrn : r ≠ nil := by intro e; subst e; simp [len] at h2
  rw [ha, hl.1.2, allP_pv 0 _ r hrn, hr.1.2, len_app]
  have hh : (l.app r).headK = l.headK ∧ (l.app r).headT = l.headT := by
    cases l with
    | nil => simp [len] at h1
    | cons => exact ⟨rfl, rfl⟩
  rw [hh.1, hh.2, hl.2]
  have : ((l.len + r.len) == 0) = false := by simp; omega
  rw [this]
  by_cases hk : k = 1
  · subst hk
    simp only [if_true, meetB, Bool.not_false, Bool.true_and, Bool.and_true]
    rfl
  · rw [if_neg hk]
    have : (k == 1) = false := by simpa using hk
    rw [this]
    rfl
end Pts
end Go.Proofs.Ytjpopekmbmcggaa
