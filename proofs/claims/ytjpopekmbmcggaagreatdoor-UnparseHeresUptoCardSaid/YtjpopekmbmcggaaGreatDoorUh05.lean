/- Towards unparseHeres_card. -/
import Derived.Test.YtjpopekmbmcggaaGreatDoorRows
import Derived.Test.YtjpopekmbmcggaaGreatDoorUh01
set_option maxRecDepth 100000
set_option maxHeartbeats 16000000
namespace Go.Proofs.YtjpopekmbmcggaaGreatDoor
def fdL (t:Bool) (c:UInt8) (l:List UInt8):List UInt8:=if c≠9∨t=false∨l≠[] then l++[c] else l
def iI (l:List UInt8):Bool:=l.any fun b=>b==0||b==10
def cZ (l:List UInt8) (t:Bool):Bool:=!iI l&&(!t || !(l.head? == some 9))
def nJ (e:List UInt8) (t:Bool) (l:List UInt8):Bool:=(l==e)||(t&&(l.head? == some 9))
def bV (e:List UInt8) (t:Bool):List UInt8→List UInt8→Bool
 | cur,[]=>cur.isEmpty
 | cur,c::r=>if c=0 then false else if c=10 then (if nJ e t cur then false else bV e t [] r) else bV e t (cur++[c]) r
def jB (e:List UInt8) (t:Bool) (l:List UInt8):Bool:=cZ e t&&bV e t [] l
theorem lA (e:List UInt8) (t:Bool):∀ (a cur b:List UInt8),(0:UInt8) ∉ a→(10:UInt8) ∉ a→bV e t cur (a++b)=bV e t (cur++a) b
 | [],cur,b,_,_=>by simp
 | c::a,cur,b,h0,h1=>by
  simp only [List.mem_cons,not_or] at h0 h1;rw [List.cons_append,bV,if_neg (fun h=>h0.1 h.symm),if_neg (fun h=>h1.1 h.symm),lA e t a _ b h0.2 h1.2];simp
theorem sS (e:List UInt8) (t:Bool) (a b:List UInt8) (h0:(0:UInt8) ∉ a) (h1:(10:UInt8) ∉ a):bV e t [] (a++10::b)=if nJ e t a then false else bV e t [] b:=by
 rw [lA e t a [] _ h0 h1];simp [bV]
theorem sU (e:List UInt8) (t:Bool) (a:List UInt8) (h0:(0:UInt8) ∉ a) (h1:(10:UInt8) ∉ a):bV e t [] a=a.isEmpty:=by
 have:=lA e t a [] [] h0 h1;rw [List.append_nil] at this;rw [this];simp [bV]
theorem hJ (e:List UInt8) (t:Bool):∀ (l cur:List UInt8),(0:UInt8)∈l→bV e t cur l=false
 | [],_,h=>by cases h
 | c::l,cur,h=>by
  rw [bV];by_cases h0:c=0
  ·rw [if_pos h0]
  ·rw [if_neg h0];have hl:(0:UInt8)∈l:=by
    rcases List.mem_cons.1 h with h | h
    ·exact absurd h.symm h0
    ·exact h
   split
   ·split
    ·rfl
    ·exact hJ e t l _ hl
   ·exact hJ e t l _ hl
theorem hF (e:List UInt8) (t:Bool):∀ (l cur:List UInt8),(cur++l)≠[]→(l=[]∨l.getLast? ≠ some 10)→bV e t cur l=false
 | [],cur,h,_=>by
  rw [bV];have:cur≠[]:=by simpa using h
  cases cur with
  | nil=>exact absurd rfl this
  | cons=>rfl
 | c::l,cur,h,hl=>by
  have hl':(c::l).getLast? ≠ some 10:=by
   rcases hl with h | h
   ·cases h
   ·exact h
  rw [bV]
  split
  ·rfl
  ·split
   ·rename_i hc;subst hc
    split
    ·rfl
    ·cases l with
     | nil=>simp at hl'
     | cons d l=>exact hF e t (d::l) [] (by simp) (.inr (by simpa using hl'))
   ·cases l with
    | nil=>exact hF e t [] (cur++[c]) (by simp) (.inl rfl)
    | cons d l=>exact hF e t (d::l) (cur++[c]) (by simp) (.inr (by simpa using hl'))
def run (e:List UInt8) (t:Bool):List UInt8→List UInt8→List UInt8→Nat×Nat×List UInt8
 | acc,_,[]=>(0,0,acc)
 | acc,cur,c::r=>
  if c=0 then (3,0,acc) else if c=10 then (if cur=e then (1,0,acc) else ((run e t (acc++cur++[10]) [] r).1,(run e t (acc++cur++[10]) [] r).2.1+1,(run e t (acc++cur++[10]) [] r).2.2))
  else ((run e t acc (fdL t c cur) r).1,(run e t acc (fdL t c cur) r).2.1+1,(run e t acc (fdL t c cur) r).2.2)
end Go.Proofs.YtjpopekmbmcggaaGreatDoor
