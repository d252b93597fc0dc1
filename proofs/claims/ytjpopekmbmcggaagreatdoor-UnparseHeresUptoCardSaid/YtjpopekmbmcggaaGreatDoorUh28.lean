/- Towards unparseHeres_card. -/
import Derived.Test.YtjpopekmbmcggaaGreatDoorUh23
set_option maxRecDepth 100000
set_option maxHeartbeats 16000000
namespace Go.Proofs.YtjpopekmbmcggaaGreatDoor
open Go
def rS (f e:Bool):Bool:=f && !e
def rL (f d:Bool):Bool:=f&&d
def aQ {α:Type} (f1 f2 f3 f4 f5 f6:Bool) (s:ByteArray) (ops:List Int) (asg wds:List (WdF α)) (rds:List (RdF α)) (ars:List (ArF α)):Bool:=
 !(rS f1 s.toList.isEmpty||(rL f2 (decide (0<ops.length))||rL f3 (decide (0<asg.length))))&&(!rL f4 (decide (0<wds.length))&&(!rL f5 (decide (0<rds.length)) && !rL f6 (decide (0<ars.length))))
def cS {α:Type} (v:Vw α) (least most:Nat) (n:NdF α):Bool:=!(decide (n.kids.length<least)||decide (most<n.kids.length))&&n.kids.all v.R
theorem kK {α:Type} (v:Vw α) (l:Nat) (n:NdF α):((n.kids.length==l)&&cD v l n)=cS v l l n:=by
 unfold cD cS;by_cases h:n.kids.length=l
 ·rw [h];simp
 ·have h1:(n.kids.length==l)=false:=beq_false_of_ne h;rw [h1];by_cases h2:n.kids.length<l
  ·simp [h2]
  ·have h3:l<n.kids.length:=by omega
   simp [h3]
theorem vU {α:Type} (v:Vw α) (l:Nat) (n:NdF α):cD v l n=cS v l n.kids.length n:=by
 unfold cD cS;by_cases h:l≤n.kids.length
 ·have h1:¬n.kids.length<l:=by omega
  simp [h,h1]
 ·have h1:n.kids.length<l:=by omega
  simp [h,h1]
theorem BV {α:Type} (v:Vw α) (n:NdF α) (b:Bool):(bQ v 1 4 n&&(b || !(n.kids.length==1)))=(bQ v 1 4 n&&(b||decide (1<n.kids.length))):=by
 cases h:bQ v 1 4 n
 ·rfl
 ·have h1:1≤n.kids.length:=by
   simp only [bQ,Bool.and_eq_true,decide_eq_true_eq] at h;exact h.1
  by_cases h2:n.kids.length=1
  ·rw [h2];rfl
  ·rw [beq_false_of_ne h2,decide_eq_true (by omega)];rfl
theorem cU {β:Type} (l:List β):(!decide (0<l.length))=(l.length==0):=by cases l <;> rfl
theorem nF (e:Bool):(!tS false e)=e:=by cases e <;> rfl
theorem ED (e:Bool):(!tS true e)=true:=by cases e <;> rfl
theorem lI (d:Bool):(!tL false d) = !d:=by cases d <;> rfl
theorem lU (d:Bool):(!tL true d)=true:=by cases d <;> rfl
theorem EN (b d:Bool):(!tL b d) = !rL (!b) d:=by cases b <;> cases d <;> rfl
theorem EA (e:Bool):(!rS false e)=true:=by cases e <;> rfl
theorem nA (e:Bool):(!rS true e)=e:=by cases e <;> rfl
theorem nT (d:Bool):(!rL false d)=true:=by cases d <;> rfl
theorem lE (d:Bool):(!rL true d) = !d:=by cases d <;> rfl
theorem uB3 (b:Bool):(!uB b ((3:Int) != 3))=true:=by cases b <;> rfl
theorem uB7 (b:Bool):(!uB b ((7:Int) != 7))=true:=by cases b <;> rfl
theorem DJ {α:Type} (v:Vw α) (s:ByteArray) (nt ni:Bool) (ops:List Int) (asg wds:List (WdF α)) (rds:List (RdF α)) (ars:List (ArF α)) (kds:List α):
  aO v (NdF.mk 1 s nt ni ops asg wds rds ars kds)=((!uB nt ((1:Int) != 3))&&((!uB ni ((1:Int) != 7))&&(rds.all (aW v)&&(wds.all (aP v)&&(asg.all (aP v)&&(aQ true false true true true true s ops asg wds rds ars&&(bQ v 1 2 (NdF.mk 1 s nt ni ops asg wds rds ars kds)&&eV kds.length (NdF.mk 1 s nt ni ops asg wds rds ars kds)))))))):=by
 have h:aO v (NdF.mk 1 s nt ni ops asg wds rds ars kds)=(aR v ⟨false,true,false,false,false,false,true⟩ (NdF.mk 1 s nt ni ops asg wds rds ars kds)&&(bQ v 1 2 (NdF.mk 1 s nt ni ops asg wds rds ars kds)&&eV kds.length (NdF.mk 1 s nt ni ops asg wds rds ars kds))):=rfl;rw [h,aR,bL];unfold aQ;simp only [Bool.not_or,nF,lI,lU,nA,nT,lE,Bool.true_and,cU]
 ac_rfl
theorem DK {α:Type} (v:Vw α) (s:ByteArray) (nt ni:Bool) (ops:List Int) (asg wds:List (WdF α)) (rds:List (RdF α)) (ars:List (ArF α)) (kds:List α):
  aO v (NdF.mk 2 s nt ni ops asg wds rds ars kds)=((!uB nt ((2:Int) != 3))&&((!uB ni ((2:Int) != 7))&&(rds.all (aW v)&&(wds.all (aP v)&&(asg.all (aP v)&&(aQ true false true true true true s ops asg wds rds ars&&(bQ v 2 3 (NdF.mk 2 s nt ni ops asg wds rds ars kds)&&eV (kds.length-1) (NdF.mk 2 s nt ni ops asg wds rds ars kds)))))))):=by
 have h:aO v (NdF.mk 2 s nt ni ops asg wds rds ars kds)=(aR v ⟨false,true,false,false,false,false,true⟩ (NdF.mk 2 s nt ni ops asg wds rds ars kds)&&(bQ v 2 3 (NdF.mk 2 s nt ni ops asg wds rds ars kds)&&eV (kds.length-1) (NdF.mk 2 s nt ni ops asg wds rds ars kds))):=rfl;rw [h,aR,bL];unfold aQ;simp only [Bool.not_or,nF,lI,lU,nA,nT,lE,Bool.true_and,cU]
 ac_rfl
theorem DL {α:Type} (v:Vw α) (s:ByteArray) (nt ni:Bool) (ops:List Int) (asg wds:List (WdF α)) (rds:List (RdF α)) (ars:List (ArF α)) (kds:List α):
  aO v (NdF.mk 3 s nt ni ops asg wds rds ars kds)=((!uB ni ((3:Int) != 7))&&(rds.all (aW v)&&(wds.all (aP v)&&(asg.all (aP v)&&(aQ true true true true true true s ops asg wds rds ars&&(bQ v 1 4 (NdF.mk 3 s nt ni ops asg wds rds ars kds)&&(nt||decide (1<kds.length)))))))):=by
 have h:aO v (NdF.mk 3 s nt ni ops asg wds rds ars kds)=(aR v ⟨false,false,false,false,false,false,true⟩ (NdF.mk 3 s nt ni ops asg wds rds ars kds)&&(bQ v 1 4 (NdF.mk 3 s nt ni ops asg wds rds ars kds)&&(nt || !(kds.length==1)))):=rfl;rw [h,aR,bL];have hp:=BV v (NdF.mk 3 s nt ni ops asg wds rds ars kds) nt;simp only at hp;rw [hp];unfold aQ;simp only [Bool.not_or,nF,lI,lU,nA,lE,uB3,Bool.true_and,cU]
 ac_rfl
theorem DM {α:Type} (v:Vw α) (s:ByteArray) (nt ni:Bool) (ops:List Int) (asg wds:List (WdF α)) (rds:List (RdF α)) (ars:List (ArF α)) (kds:List α):
  aO v (NdF.mk 4 s nt ni ops asg wds rds ars kds)=((!uB nt ((4:Int) != 3))&&((!uB ni ((4:Int) != 7))&&(rds.all (aW v)&&(wds.all (aP v)&&(asg.all (aP v)&&(aQ true true false false false true s ops asg wds rds ars&&((kds.length==0)&&dU (NdF.mk 4 s nt ni ops asg wds rds ars kds)))))))):=by
 have h:aO v (NdF.mk 4 s nt ni ops asg wds rds ars kds)=(aR v ⟨false,false,true,true,true,false,false⟩ (NdF.mk 4 s nt ni ops asg wds rds ars kds)&&(dU (NdF.mk 4 s nt ni ops asg wds rds ars kds))):=rfl;rw [h,aR,bL];unfold aQ;simp only [Bool.not_or,nF,lI,lU,nA,nT,lE,Bool.true_and,Bool.and_true,cU]
 ac_rfl
theorem DN {α:Type} (v:Vw α) (s:ByteArray) (nt ni:Bool) (ops:List Int) (asg wds:List (WdF α)) (rds:List (RdF α)) (ars:List (ArF α)) (kds:List α):
  aO v (NdF.mk 5 s nt ni ops asg wds rds ars kds)=((!uB nt ((5:Int) != 3))&&((!uB ni ((5:Int) != 7))&&(rds.all (aW v)&&(wds.all (aP v)&&(asg.all (aP v)&&(aQ true true true true false true s ops asg wds rds ars&&(cS v 1 1 (NdF.mk 5 s nt ni ops asg wds rds ars kds)))))))):=by
 have h:aO v (NdF.mk 5 s nt ni ops asg wds rds ars kds)=(aR v ⟨false,false,false,false,true,false,true⟩ (NdF.mk 5 s nt ni ops asg wds rds ars kds)&&((kds.length==1)&&cD v 1 (NdF.mk 5 s nt ni ops asg wds rds ars kds))):=rfl;rw [h,aR,bL];have ht:=kK v 1 (NdF.mk 5 s nt ni ops asg wds rds ars kds);simp only at ht;rw [ht];unfold aQ;simp only [Bool.not_or,nF,lI,lU,nA,nT,lE,Bool.true_and,cU]
 ac_rfl
theorem DO {α:Type} (v:Vw α) (s:ByteArray) (nt ni:Bool) (ops:List Int) (asg wds:List (WdF α)) (rds:List (RdF α)) (ars:List (ArF α)) (kds:List α):
  aO v (NdF.mk 6 s nt ni ops asg wds rds ars kds)=((!uB nt ((6:Int) != 3))&&((!uB ni ((6:Int) != 7))&&(rds.all (aW v)&&(wds.all (aP v)&&(asg.all (aP v)&&(aQ true true true true false true s ops asg wds rds ars&&(cS v 1 1 (NdF.mk 6 s nt ni ops asg wds rds ars kds)))))))):=by
 have h:aO v (NdF.mk 6 s nt ni ops asg wds rds ars kds)=(aR v ⟨false,false,false,false,true,false,true⟩ (NdF.mk 6 s nt ni ops asg wds rds ars kds)&&((kds.length==1)&&cD v 1 (NdF.mk 6 s nt ni ops asg wds rds ars kds))):=rfl;rw [h,aR,bL];have ht:=kK v 1 (NdF.mk 6 s nt ni ops asg wds rds ars kds);simp only at ht;rw [ht];unfold aQ;simp only [Bool.not_or,nF,lI,lU,nA,nT,lE,Bool.true_and,cU]
 ac_rfl
theorem DP {α:Type} (v:Vw α) (s:ByteArray) (nt ni:Bool) (ops:List Int) (asg wds:List (WdF α)) (rds:List (RdF α)) (ars:List (ArF α)) (kds:List α):
  aO v (NdF.mk 7 s nt ni ops asg wds rds ars kds)=((!uB nt ((7:Int) != 3))&&(rds.all (aW v)&&(wds.all (aP v)&&(asg.all (aP v)&&(aQ false true true (!ni) false true s ops asg wds rds ars&&(Chr.name s.toList&&cS v 1 1 (NdF.mk 7 s nt ni ops asg wds rds ars kds))))))):=by
 have h:aO v (NdF.mk 7 s nt ni ops asg wds rds ars kds)=(aR v ⟨true,false,false,ni,true,false,true⟩ (NdF.mk 7 s nt ni ops asg wds rds ars kds)&&(Chr.name s.toList&&((kds.length==1)&&cD v 1 (NdF.mk 7 s nt ni ops asg wds rds ars kds)))):=rfl;rw [h,aR,bL];have ht:=kK v 1 (NdF.mk 7 s nt ni ops asg wds rds ars kds);simp only at ht;rw [ht];unfold aQ;simp only [Bool.not_or,ED,lI,lU,EN ni,EA,nT,lE,uB7,Bool.true_and,Bool.and_true,cU]
 ac_rfl
theorem DQ {α:Type} (v:Vw α) (s:ByteArray) (nt ni:Bool) (ops:List Int) (asg wds:List (WdF α)) (rds:List (RdF α)) (ars:List (ArF α)) (kds:List α):
  aO v (NdF.mk 8 s nt ni ops asg wds rds ars kds)=((!uB nt ((8:Int) != 3))&&((!uB ni ((8:Int) != 7))&&(rds.all (aW v)&&(wds.all (aP v)&&(asg.all (aP v)&&(aQ true true true false false false s ops asg wds rds ars&&((wds.length==1)&&((kds.length==0)&&ars.all (iJ v))))))))):=by
 have h:aO v (NdF.mk 8 s nt ni ops asg wds rds ars kds)=(aR v ⟨false,false,false,true,true,true,false⟩ (NdF.mk 8 s nt ni ops asg wds rds ars kds)&&((wds.length==1)&&ars.all (iJ v))):=rfl;rw [h,aR,bL];unfold aQ;simp only [Bool.not_or,nF,lI,lU,nA,nT,lE,Bool.true_and,Bool.and_true,cU]
 ac_rfl
theorem DR {α:Type} (v:Vw α) (s:ByteArray) (nt ni:Bool) (ops:List Int) (asg wds:List (WdF α)) (rds:List (RdF α)) (ars:List (ArF α)) (kds:List α):
  aO v (NdF.mk 9 s nt ni ops asg wds rds ars kds)=((!uB nt ((9:Int) != 3))&&((!uB ni ((9:Int) != 7))&&(rds.all (aW v)&&(wds.all (aP v)&&(asg.all (aP v)&&(aQ true true true true false true s ops asg wds rds ars&&(cS v 2 kds.length (NdF.mk 9 s nt ni ops asg wds rds ars kds)))))))):=by
 have h:aO v (NdF.mk 9 s nt ni ops asg wds rds ars kds)=(aR v ⟨false,false,false,false,true,false,true⟩ (NdF.mk 9 s nt ni ops asg wds rds ars kds)&&(cD v 2 (NdF.mk 9 s nt ni ops asg wds rds ars kds))):=rfl;rw [h,aR,bL];rw [vU];unfold aQ;simp only [Bool.not_or,nF,lI,lU,nA,nT,lE,Bool.true_and,cU]
 ac_rfl
theorem zD {α:Type} (v:Vw α) (s:ByteArray) (nt ni:Bool) (ops:List Int) (asg wds:List (WdF α)) (rds:List (RdF α)) (ars:List (ArF α)) (kds:List α):
  aO v (NdF.mk 10 s nt ni ops asg wds rds ars kds)=((!uB nt ((10:Int) != 3))&&((!uB ni ((10:Int) != 7))&&(rds.all (aW v)&&(wds.all (aP v)&&(asg.all (aP v)&&(aQ true true true true false true s ops asg wds rds ars&&(cS v 2 2 (NdF.mk 10 s nt ni ops asg wds rds ars kds)))))))):=by
 have h:aO v (NdF.mk 10 s nt ni ops asg wds rds ars kds)=(aR v ⟨false,false,false,false,true,false,true⟩ (NdF.mk 10 s nt ni ops asg wds rds ars kds)&&(cD v 2 (NdF.mk 10 s nt ni ops asg wds rds ars kds)&&(kds.length==2))):=rfl;rw [h,aR,bL];have ht:=kK v 2 (NdF.mk 10 s nt ni ops asg wds rds ars kds);simp only at ht;rw [Bool.and_comm (cD v 2 _) (kds.length==2),ht];unfold aQ;simp only [Bool.not_or,nF,lI,lU,nA,nT,lE,Bool.true_and,cU]
 ac_rfl
theorem zE {α:Type} (v:Vw α) (s:ByteArray) (nt ni:Bool) (ops:List Int) (asg wds:List (WdF α)) (rds:List (RdF α)) (ars:List (ArF α)) (kds:List α):
  aO v (NdF.mk 11 s nt ni ops asg wds rds ars kds)=((!uB nt ((11:Int) != 3))&&((!uB ni ((11:Int) != 7))&&(rds.all (aW v)&&(wds.all (aP v)&&(asg.all (aP v)&&(aQ true true true true false true s ops asg wds rds ars&&(cS v 2 2 (NdF.mk 11 s nt ni ops asg wds rds ars kds)))))))):=by
 have h:aO v (NdF.mk 11 s nt ni ops asg wds rds ars kds)=(aR v ⟨false,false,false,false,true,false,true⟩ (NdF.mk 11 s nt ni ops asg wds rds ars kds)&&(cD v 2 (NdF.mk 11 s nt ni ops asg wds rds ars kds)&&(kds.length==2))):=rfl;rw [h,aR,bL];have ht:=kK v 2 (NdF.mk 11 s nt ni ops asg wds rds ars kds);simp only at ht;rw [Bool.and_comm (cD v 2 _) (kds.length==2),ht];unfold aQ;simp only [Bool.not_or,nF,lI,lU,nA,nT,lE,Bool.true_and,cU]
 ac_rfl
theorem zF {α:Type} (v:Vw α) (s:ByteArray) (nt ni:Bool) (ops:List Int) (asg wds:List (WdF α)) (rds:List (RdF α)) (ars:List (ArF α)) (kds:List α):
  aO v (NdF.mk 12 s nt ni ops asg wds rds ars kds)=((!uB nt ((12:Int) != 3))&&((!uB ni ((12:Int) != 7))&&(rds.all (aW v)&&(wds.all (aP v)&&(asg.all (aP v)&&(aQ false true true true true true s ops asg wds rds ars&&(jF v (NdF.mk 12 s nt ni ops asg wds rds ars kds)))))))):=by
 have h:aO v (NdF.mk 12 s nt ni ops asg wds rds ars kds)=(aR v ⟨true,false,false,false,false,false,true⟩ (NdF.mk 12 s nt ni ops asg wds rds ars kds)&&(jF v (NdF.mk 12 s nt ni ops asg wds rds ars kds))):=rfl;rw [h,aR,bL];unfold aQ;simp only [Bool.not_or,ED,lI,lU,EA,lE,Bool.true_and,cU]
 ac_rfl
end Go.Proofs.YtjpopekmbmcggaaGreatDoor
