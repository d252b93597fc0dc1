/- Towards nodeTells_card: NdRefPlain. Merged from smaller texts by a program of the author's. -/
import Derived.Test.YtjpopekmbmcggaaGreatDoorTa27
namespace Go.Proofs.YtjpopekmbmcggaaGreatDoor
open Go
def rS (f e : Bool) : Bool := f && !e
def rL (f d : Bool) : Bool := f && d
def emptyB {α : Type} (f1 f2 f3 f4 f5 f6 : Bool) (s : ByteArray) (ops : List Int) (asg wds : List (WdF α)) (rds : List (RdF α)) (ars : List (ArF α)) : Bool :=
  !(rS f1 s.toList.isEmpty || (rL f2 (decide (0 < ops.length)) || rL f3 (decide (0 < asg.length)))) && (!rL f4 (decide (0 < wds.length)) && (!rL f5 (decide (0 < rds.length)) && !rL f6 (decide (0 < ars.length))))
def listsR {α : Type} (v : Vw α) (least most : Nat) (n : NdF α) : Bool := !(decide (n.kids.length < least) || decide (most < n.kids.length)) && n.kids.all v.R
theorem two_one {α : Type} (v : Vw α) (l : Nat) (n : NdF α) : ((n.kids.length == l) && listsB v l n) = listsR v l l n := by
  unfold listsB listsR
  by_cases h : n.kids.length = l
  · rw [h]; simp
  · have h1 : (n.kids.length == l) = false := beq_false_of_ne h
    rw [h1]
    by_cases h2 : n.kids.length < l
    · simp [h2]
    · have h3 : l < n.kids.length := by omega
      simp [h3]
theorem listsB_le {α : Type} (v : Vw α) (l : Nat) (n : NdF α) : listsB v l n = listsR v l n.kids.length n := by
  unfold listsB listsR
  by_cases h : l ≤ n.kids.length
  · have h1 : ¬ n.kids.length < l := by omega
    simp [h, h1]
  · have h1 : n.kids.length < l := by omega
    simp [h, h1]
theorem pipe_eq {α : Type} (v : Vw α) (n : NdF α) (b : Bool) : (kidsB v 1 4 n && (b || !(n.kids.length == 1))) = (kidsB v 1 4 n && (b || decide (1 < n.kids.length))) := by
  cases h : kidsB v 1 4 n
  · rfl
  · have h1 : 1 ≤ n.kids.length := by
      simp only [kidsB, Bool.and_eq_true, decide_eq_true_eq] at h
      exact h.1
    by_cases h2 : n.kids.length = 1
    · rw [h2]; rfl
    · rw [beq_false_of_ne h2, decide_eq_true (by omega)]; rfl
theorem kids_zero {β : Type} (l : List β) : (!decide (0 < l.length)) = (l.length == 0) := by cases l <;> rfl
theorem tS_f (e : Bool) : (!tS false e) = e := by cases e <;> rfl
theorem tS_t (e : Bool) : (!tS true e) = true := by cases e <;> rfl
theorem tL_f (d : Bool) : (!tL false d) = !d := by cases d <;> rfl
theorem tL_t (d : Bool) : (!tL true d) = true := by cases d <;> rfl
theorem tL_n (b d : Bool) : (!tL b d) = !rL (!b) d := by cases b <;> cases d <;> rfl
theorem rS_f (e : Bool) : (!rS false e) = true := by cases e <;> rfl
theorem rS_t (e : Bool) : (!rS true e) = e := by cases e <;> rfl
theorem rL_f (d : Bool) : (!rL false d) = true := by cases d <;> rfl
theorem rL_t (d : Bool) : (!rL true d) = !d := by cases d <;> rfl
theorem uB3 (b : Bool) : (!uB b ((3 : Int) != 3)) = true := by cases b <;> rfl
theorem uB7 (b : Bool) : (!uB b ((7 : Int) != 7)) = true := by cases b <;> rfl
theorem rf_1 {α : Type} (v : Vw α) (s : ByteArray) (nt ni : Bool) (ops : List Int) (asg wds : List (WdF α)) (rds : List (RdF α)) (ars : List (ArF α)) (kds : List α) :
    rightF v (NdF.mk 1 s nt ni ops asg wds rds ars kds) = ((!uB nt ((1 : Int) != 3)) && ((!uB ni ((1 : Int) != 7)) && (rds.all (redirB v) && (wds.all (wordB v) && (asg.all (wordB v) && (emptyB true false true true true true s ops asg wds rds ars && (kidsB v 1 2 (NdF.mk 1 s nt ni ops asg wds rds ars kds) && opsB kds.length (NdF.mk 1 s nt ni ops asg wds rds ars kds)))))))) := by
  have h : rightF v (NdF.mk 1 s nt ni ops asg wds rds ars kds) = (onlyB v ⟨false, true, false, false, false, false, true⟩ (NdF.mk 1 s nt ni ops asg wds rds ars kds) && (kidsB v 1 2 (NdF.mk 1 s nt ni ops asg wds rds ars kds) && opsB kds.length (NdF.mk 1 s nt ni ops asg wds rds ars kds))) := rfl
  rw [h, onlyB, bareB_eq]
  unfold emptyB
  simp only [Bool.not_or, tS_f, tL_f, tL_t, rS_t, rL_f, rL_t, Bool.true_and, kids_zero]
  ac_rfl
theorem rf_2 {α : Type} (v : Vw α) (s : ByteArray) (nt ni : Bool) (ops : List Int) (asg wds : List (WdF α)) (rds : List (RdF α)) (ars : List (ArF α)) (kds : List α) :
    rightF v (NdF.mk 2 s nt ni ops asg wds rds ars kds) = ((!uB nt ((2 : Int) != 3)) && ((!uB ni ((2 : Int) != 7)) && (rds.all (redirB v) && (wds.all (wordB v) && (asg.all (wordB v) && (emptyB true false true true true true s ops asg wds rds ars && (kidsB v 2 3 (NdF.mk 2 s nt ni ops asg wds rds ars kds) && opsB (kds.length - 1) (NdF.mk 2 s nt ni ops asg wds rds ars kds)))))))) := by
  have h : rightF v (NdF.mk 2 s nt ni ops asg wds rds ars kds) = (onlyB v ⟨false, true, false, false, false, false, true⟩ (NdF.mk 2 s nt ni ops asg wds rds ars kds) && (kidsB v 2 3 (NdF.mk 2 s nt ni ops asg wds rds ars kds) && opsB (kds.length - 1) (NdF.mk 2 s nt ni ops asg wds rds ars kds))) := rfl
  rw [h, onlyB, bareB_eq]
  unfold emptyB
  simp only [Bool.not_or, tS_f, tL_f, tL_t, rS_t, rL_f, rL_t, Bool.true_and, kids_zero]
  ac_rfl
theorem rf_3 {α : Type} (v : Vw α) (s : ByteArray) (nt ni : Bool) (ops : List Int) (asg wds : List (WdF α)) (rds : List (RdF α)) (ars : List (ArF α)) (kds : List α) :
    rightF v (NdF.mk 3 s nt ni ops asg wds rds ars kds) = ((!uB ni ((3 : Int) != 7)) && (rds.all (redirB v) && (wds.all (wordB v) && (asg.all (wordB v) && (emptyB true true true true true true s ops asg wds rds ars && (kidsB v 1 4 (NdF.mk 3 s nt ni ops asg wds rds ars kds) && (nt || decide (1 < kds.length)))))))) := by
  have h : rightF v (NdF.mk 3 s nt ni ops asg wds rds ars kds) = (onlyB v ⟨false, false, false, false, false, false, true⟩ (NdF.mk 3 s nt ni ops asg wds rds ars kds) && (kidsB v 1 4 (NdF.mk 3 s nt ni ops asg wds rds ars kds) && (nt || !(kds.length == 1)))) := rfl
  rw [h, onlyB, bareB_eq]
  have hp := pipe_eq v (NdF.mk 3 s nt ni ops asg wds rds ars kds) nt
  simp only at hp
  rw [hp]
  unfold emptyB
  simp only [Bool.not_or, tS_f, tL_f, tL_t, rS_t, rL_t, uB3, Bool.true_and, kids_zero]
  ac_rfl
theorem rf_4 {α : Type} (v : Vw α) (s : ByteArray) (nt ni : Bool) (ops : List Int) (asg wds : List (WdF α)) (rds : List (RdF α)) (ars : List (ArF α)) (kds : List α) :
    rightF v (NdF.mk 4 s nt ni ops asg wds rds ars kds) = ((!uB nt ((4 : Int) != 3)) && ((!uB ni ((4 : Int) != 7)) && (rds.all (redirB v) && (wds.all (wordB v) && (asg.all (wordB v) && (emptyB true true false false false true s ops asg wds rds ars && ((kds.length == 0) && simpleB (NdF.mk 4 s nt ni ops asg wds rds ars kds)))))))) := by
  have h : rightF v (NdF.mk 4 s nt ni ops asg wds rds ars kds) = (onlyB v ⟨false, false, true, true, true, false, false⟩ (NdF.mk 4 s nt ni ops asg wds rds ars kds) && (simpleB (NdF.mk 4 s nt ni ops asg wds rds ars kds))) := rfl
  rw [h, onlyB, bareB_eq]
  unfold emptyB
  simp only [Bool.not_or, tS_f, tL_f, tL_t, rS_t, rL_f, rL_t, Bool.true_and, Bool.and_true, kids_zero]
  ac_rfl
theorem rf_5 {α : Type} (v : Vw α) (s : ByteArray) (nt ni : Bool) (ops : List Int) (asg wds : List (WdF α)) (rds : List (RdF α)) (ars : List (ArF α)) (kds : List α) :
    rightF v (NdF.mk 5 s nt ni ops asg wds rds ars kds) = ((!uB nt ((5 : Int) != 3)) && ((!uB ni ((5 : Int) != 7)) && (rds.all (redirB v) && (wds.all (wordB v) && (asg.all (wordB v) && (emptyB true true true true false true s ops asg wds rds ars && (listsR v 1 1 (NdF.mk 5 s nt ni ops asg wds rds ars kds)))))))) := by
  have h : rightF v (NdF.mk 5 s nt ni ops asg wds rds ars kds) = (onlyB v ⟨false, false, false, false, true, false, true⟩ (NdF.mk 5 s nt ni ops asg wds rds ars kds) && ((kds.length == 1) && listsB v 1 (NdF.mk 5 s nt ni ops asg wds rds ars kds))) := rfl
  rw [h, onlyB, bareB_eq]
  have ht := two_one v 1 (NdF.mk 5 s nt ni ops asg wds rds ars kds)
  simp only at ht
  rw [ht]
  unfold emptyB
  simp only [Bool.not_or, tS_f, tL_f, tL_t, rS_t, rL_f, rL_t, Bool.true_and, kids_zero]
  ac_rfl
theorem rf_6 {α : Type} (v : Vw α) (s : ByteArray) (nt ni : Bool) (ops : List Int) (asg wds : List (WdF α)) (rds : List (RdF α)) (ars : List (ArF α)) (kds : List α) :
    rightF v (NdF.mk 6 s nt ni ops asg wds rds ars kds) = ((!uB nt ((6 : Int) != 3)) && ((!uB ni ((6 : Int) != 7)) && (rds.all (redirB v) && (wds.all (wordB v) && (asg.all (wordB v) && (emptyB true true true true false true s ops asg wds rds ars && (listsR v 1 1 (NdF.mk 6 s nt ni ops asg wds rds ars kds)))))))) := by
  have h : rightF v (NdF.mk 6 s nt ni ops asg wds rds ars kds) = (onlyB v ⟨false, false, false, false, true, false, true⟩ (NdF.mk 6 s nt ni ops asg wds rds ars kds) && ((kds.length == 1) && listsB v 1 (NdF.mk 6 s nt ni ops asg wds rds ars kds))) := rfl
  rw [h, onlyB, bareB_eq]
  have ht := two_one v 1 (NdF.mk 6 s nt ni ops asg wds rds ars kds)
  simp only at ht
  rw [ht]
  unfold emptyB
  simp only [Bool.not_or, tS_f, tL_f, tL_t, rS_t, rL_f, rL_t, Bool.true_and, kids_zero]
  ac_rfl
theorem rf_7 {α : Type} (v : Vw α) (s : ByteArray) (nt ni : Bool) (ops : List Int) (asg wds : List (WdF α)) (rds : List (RdF α)) (ars : List (ArF α)) (kds : List α) :
    rightF v (NdF.mk 7 s nt ni ops asg wds rds ars kds) = ((!uB nt ((7 : Int) != 3)) && (rds.all (redirB v) && (wds.all (wordB v) && (asg.all (wordB v) && (emptyB false true true (!ni) false true s ops asg wds rds ars && (Chr.name s.toList && listsR v 1 1 (NdF.mk 7 s nt ni ops asg wds rds ars kds))))))) := by
  have h : rightF v (NdF.mk 7 s nt ni ops asg wds rds ars kds) = (onlyB v ⟨true, false, false, ni, true, false, true⟩ (NdF.mk 7 s nt ni ops asg wds rds ars kds) && (Chr.name s.toList && ((kds.length == 1) && listsB v 1 (NdF.mk 7 s nt ni ops asg wds rds ars kds)))) := rfl
  rw [h, onlyB, bareB_eq]
  have ht := two_one v 1 (NdF.mk 7 s nt ni ops asg wds rds ars kds)
  simp only at ht
  rw [ht]
  unfold emptyB
  simp only [Bool.not_or, tS_t, tL_f, tL_t, tL_n ni, rS_f, rL_f, rL_t, uB7, Bool.true_and, Bool.and_true, kids_zero]
  ac_rfl
theorem rf_8 {α : Type} (v : Vw α) (s : ByteArray) (nt ni : Bool) (ops : List Int) (asg wds : List (WdF α)) (rds : List (RdF α)) (ars : List (ArF α)) (kds : List α) :
    rightF v (NdF.mk 8 s nt ni ops asg wds rds ars kds) = ((!uB nt ((8 : Int) != 3)) && ((!uB ni ((8 : Int) != 7)) && (rds.all (redirB v) && (wds.all (wordB v) && (asg.all (wordB v) && (emptyB true true true false false false s ops asg wds rds ars && ((wds.length == 1) && ((kds.length == 0) && ars.all (armB v))))))))) := by
  have h : rightF v (NdF.mk 8 s nt ni ops asg wds rds ars kds) = (onlyB v ⟨false, false, false, true, true, true, false⟩ (NdF.mk 8 s nt ni ops asg wds rds ars kds) && ((wds.length == 1) && ars.all (armB v))) := rfl
  rw [h, onlyB, bareB_eq]
  unfold emptyB
  simp only [Bool.not_or, tS_f, tL_f, tL_t, rS_t, rL_f, rL_t, Bool.true_and, Bool.and_true, kids_zero]
  ac_rfl
theorem rf_9 {α : Type} (v : Vw α) (s : ByteArray) (nt ni : Bool) (ops : List Int) (asg wds : List (WdF α)) (rds : List (RdF α)) (ars : List (ArF α)) (kds : List α) :
    rightF v (NdF.mk 9 s nt ni ops asg wds rds ars kds) = ((!uB nt ((9 : Int) != 3)) && ((!uB ni ((9 : Int) != 7)) && (rds.all (redirB v) && (wds.all (wordB v) && (asg.all (wordB v) && (emptyB true true true true false true s ops asg wds rds ars && (listsR v 2 kds.length (NdF.mk 9 s nt ni ops asg wds rds ars kds)))))))) := by
  have h : rightF v (NdF.mk 9 s nt ni ops asg wds rds ars kds) = (onlyB v ⟨false, false, false, false, true, false, true⟩ (NdF.mk 9 s nt ni ops asg wds rds ars kds) && (listsB v 2 (NdF.mk 9 s nt ni ops asg wds rds ars kds))) := rfl
  rw [h, onlyB, bareB_eq]
  rw [listsB_le]
  unfold emptyB
  simp only [Bool.not_or, tS_f, tL_f, tL_t, rS_t, rL_f, rL_t, Bool.true_and, kids_zero]
  ac_rfl
theorem rf_10 {α : Type} (v : Vw α) (s : ByteArray) (nt ni : Bool) (ops : List Int) (asg wds : List (WdF α)) (rds : List (RdF α)) (ars : List (ArF α)) (kds : List α) :
    rightF v (NdF.mk 10 s nt ni ops asg wds rds ars kds) = ((!uB nt ((10 : Int) != 3)) && ((!uB ni ((10 : Int) != 7)) && (rds.all (redirB v) && (wds.all (wordB v) && (asg.all (wordB v) && (emptyB true true true true false true s ops asg wds rds ars && (listsR v 2 2 (NdF.mk 10 s nt ni ops asg wds rds ars kds)))))))) := by
  have h : rightF v (NdF.mk 10 s nt ni ops asg wds rds ars kds) = (onlyB v ⟨false, false, false, false, true, false, true⟩ (NdF.mk 10 s nt ni ops asg wds rds ars kds) && (listsB v 2 (NdF.mk 10 s nt ni ops asg wds rds ars kds) && (kds.length == 2))) := rfl
  rw [h, onlyB, bareB_eq]
  have ht := two_one v 2 (NdF.mk 10 s nt ni ops asg wds rds ars kds)
  simp only at ht
  rw [Bool.and_comm (listsB v 2 _) (kds.length == 2), ht]
  unfold emptyB
  simp only [Bool.not_or, tS_f, tL_f, tL_t, rS_t, rL_f, rL_t, Bool.true_and, kids_zero]
  ac_rfl
theorem rf_11 {α : Type} (v : Vw α) (s : ByteArray) (nt ni : Bool) (ops : List Int) (asg wds : List (WdF α)) (rds : List (RdF α)) (ars : List (ArF α)) (kds : List α) :
    rightF v (NdF.mk 11 s nt ni ops asg wds rds ars kds) = ((!uB nt ((11 : Int) != 3)) && ((!uB ni ((11 : Int) != 7)) && (rds.all (redirB v) && (wds.all (wordB v) && (asg.all (wordB v) && (emptyB true true true true false true s ops asg wds rds ars && (listsR v 2 2 (NdF.mk 11 s nt ni ops asg wds rds ars kds)))))))) := by
  have h : rightF v (NdF.mk 11 s nt ni ops asg wds rds ars kds) = (onlyB v ⟨false, false, false, false, true, false, true⟩ (NdF.mk 11 s nt ni ops asg wds rds ars kds) && (listsB v 2 (NdF.mk 11 s nt ni ops asg wds rds ars kds) && (kds.length == 2))) := rfl
  rw [h, onlyB, bareB_eq]
  have ht := two_one v 2 (NdF.mk 11 s nt ni ops asg wds rds ars kds)
  simp only at ht
  rw [Bool.and_comm (listsB v 2 _) (kds.length == 2), ht]
  unfold emptyB
  simp only [Bool.not_or, tS_f, tL_f, tL_t, rS_t, rL_f, rL_t, Bool.true_and, kids_zero]
  ac_rfl
theorem rf_12 {α : Type} (v : Vw α) (s : ByteArray) (nt ni : Bool) (ops : List Int) (asg wds : List (WdF α)) (rds : List (RdF α)) (ars : List (ArF α)) (kds : List α) :
    rightF v (NdF.mk 12 s nt ni ops asg wds rds ars kds) = ((!uB nt ((12 : Int) != 3)) && ((!uB ni ((12 : Int) != 7)) && (rds.all (redirB v) && (wds.all (wordB v) && (asg.all (wordB v) && (emptyB false true true true true true s ops asg wds rds ars && (funcB v (NdF.mk 12 s nt ni ops asg wds rds ars kds)))))))) := by
  have h : rightF v (NdF.mk 12 s nt ni ops asg wds rds ars kds) = (onlyB v ⟨true, false, false, false, false, false, true⟩ (NdF.mk 12 s nt ni ops asg wds rds ars kds) && (funcB v (NdF.mk 12 s nt ni ops asg wds rds ars kds))) := rfl
  rw [h, onlyB, bareB_eq]
  unfold emptyB
  simp only [Bool.not_or, tS_t, tL_f, tL_t, rS_f, rL_t, Bool.true_and, kids_zero]
  ac_rfl
end Go.Proofs.YtjpopekmbmcggaaGreatDoor
