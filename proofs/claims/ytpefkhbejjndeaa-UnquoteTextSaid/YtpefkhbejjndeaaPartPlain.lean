/- Which words are right: the plain functions (literals, parameters, arithmetic, parts at a place). No program in sight. -/
import Derived.Test.YtpefkhbejjndeaaPtsPlain
import Derived.Test.YtpefkhbejjndeaaCharPlain
namespace Go.Proofs.Ytpefkhbejjndeaa
open Go

/-- The first byte, the last one (0: there is none). -/
def hd0 : List UInt8 → UInt8
  | [] => 0
  | c :: _ => c
def ld0 (l : List UInt8) : UInt8 := hd0 l.reverse
/-- Is it a byte that a backslash quotes in double quotes? -/
def special24 (c : Int) : Bool := c == 36 || c == 96 || c == 34 || c == 92
/-- May what stands behind a dollar be a literal's? -/
def dollarB (c : Nat) : Bool := ((Chr.cls c : Int) != 4) && ((Chr.cls c : Int) != 3) && !Chr.special c && ((c : Int) != 123) && ((c : Int) != 40)
/-- May a literal at a place (0 top, 1 double, 2 behind) have a byte, nx standing behind it? -/
def litAt (p : Nat) (c : Nat) (nx : Option Nat) : Bool :=
  if (Chr.cls c : Int) == 0 then false
  else if (c : Int) == 36 && (match nx with | some d => !dollarB d | none => false) then false
  else if p = 0 then ((Chr.cls c : Int) == 3 || (Chr.cls c : Int) == 4 || (Chr.cls c : Int) == 8 || (Chr.cls c : Int) == 7)
  else if p = 2 then !((c : Int) == 125 || (Chr.cls c : Int) == 6)
  else if (c : Int) == 34 || (c : Int) == 96 then false
  else !((c : Int) == 92 && (match nx with | some d => special24 d || (d : Int) == 10 | none => true))
def litGo (p : Nat) : List UInt8 → Bool
  | [] => true
  | c :: r => litAt p c.toNat (r.head?.map (·.toNat)) && litGo p r
def litB (p : Nat) (l : List UInt8) : Bool := litGo p l && !l.isEmpty
/-- Has a text neither NUL nor this byte? -/
def clearB (n : Int) (l : List UInt8) : Bool := l.all fun c => !((c.toNat : Int) == 0 || (c.toNat : Int) == n)
/-- Do parentheses fit? -/
def arithGo : Int → List UInt8 → Bool
  | n, [] => n == 0
  | n, c :: r =>
    if (c.toNat : Int) == 0 then false
    else if (c.toNat : Int) == 40 then arithGo (n + 1) r
    else if (c.toNat : Int) == 41 then (if n - 1 < 0 then false else arithGo (n - 1) r)
    else arithGo n r
def opsL : List (List UInt8) := [[58, 45], [45], [58, 61], [61], [58, 63], [63], [58, 43], [43], [37], [37, 37], [35], [35, 35]]
def opB (o : List UInt8) : Bool := opsL.any (· == o)
def namedB (t : List UInt8) : Bool := Chr.name t || Chr.digits t || (t.length == 1 && Chr.special (hd0 t).toNat)
/-- May it be a parameter? hk, ht: kind and text of the first part within. -/
def paramB (t o : List UInt8) (kl : Nat) (hk : Int) (ht : List UInt8) (aB : Bool) : Bool :=
  if !namedB t then false
  else if o == [] || o == [108, 101, 110] then (kl : Int) == 0
  else if !opB o || t == [35] || !aB then false
  else if !(o == [37]) && !(o == [35]) || (kl : Int) == 0 then true
  else hk != 1 || !((hd0 ht) == (hd0 o))
/-- Has a part what its kind has not? -/
def plain1 (k : Int) (o : List UInt8) (kl cn : Nat) : Bool := (k != 5) && !o.isEmpty || (k != 5) && (k != 4) && decide (0 < kl) || (k != 6) && decide (0 < cn)
/-- Is a part right at a place? -/
def oneB (p : Nat) (k : Int) (t o : List UInt8) (kl cn : Nat) (hk : Int) (ht : List UInt8) (aD aB : Bool) : Bool :=
  if plain1 k o kl cn then false
  else if k == 1 then litB p t
  else if k == 2 then (t.length == 1) && !((hd0 t) == 0) && !((hd0 t) == 10) && (p != 1 || special24 (hd0 t).toNat)
  else if k == 3 then p != 1 && clearB 39 t
  else if k == 4 then p != 1 && t.isEmpty && aD
  else if k == 5 then paramB t o kl hk ht aB
  else if k == 6 then t.isEmpty
  else if k == 7 then arithGo 0 t
  else false
/-- May a part of kind k stand behind a literal (if it is one)? -/
def meetB (pv : Option (List UInt8)) (k : Int) : Bool :=
  match pv with
  | none => true
  | some t => !(k == 1 || (ld0 t == 36) && (k == 5 || k == 6 || k == 7))
namespace Pts
def headK : Pts → Int
  | nil => 0
  | cons k _ _ _ _ _ => k
def headT : Pts → List UInt8
  | nil => []
  | cons _ t _ _ _ _ => t.toList
/-- Are parts right at a place? -/
def allP (p : Nat) (pv : Option (List UInt8)) : Pts → Bool
  | nil => true
  | cons k t o kids cm rest => oneB p k t.toList o.toList kids.len cm.n kids.headK kids.headT (allP 1 none kids) (allP 2 none kids) && meetB pv k && allP p (if k = 1 then some t.toList else none) rest
def right (l : Pts) : Bool := !(l.len == 0) && l.allP 0 none && (!(l.headK == 1) || !(hd0 l.headT == 35))
end Pts

theorem litGo_step (p : Nat) (s : List UInt8) (k : Nat) (c : UInt8) (r : List UInt8) (h : s.drop k = c :: r) : litGo p (s.drop k) = (litAt p c.toNat (r.head?.map (·.toNat)) && litGo p r) := by rw [h]; rfl
/-- A right literal has a byte, and no other parts. -/
theorem oneB_lit {p : Nat} {t o : List UInt8} {kl cn : Nat} {hk : Int} {ht : List UInt8} {aD aB : Bool} (h : oneB p 1 t o kl cn hk ht aD aB = true) : t ≠ [] ∧ o = [] ∧ kl = 0 ∧ cn = 0 ∧ litB p t = true := by
  unfold oneB at h
  by_cases h1 : plain1 1 o kl cn
  · rw [if_pos h1] at h; cases h
  · rw [if_neg h1, if_pos (show ((1 : Int) == 1) = true from rfl)] at h
    have hl := h
    unfold litB at h
    unfold plain1 at h1
    simp at h1 h
    refine ⟨h.2, h1.1.1, ?_, ?_, hl⟩
    · have := h1.1.2; omega
    · have := h1.2; omega
end Go.Proofs.Ytpefkhbejjndeaa
