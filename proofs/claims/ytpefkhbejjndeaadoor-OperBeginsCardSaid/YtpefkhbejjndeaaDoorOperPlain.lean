/- The operators' texts as plain lists of bytes, and what is computed of them: plain Lean, no program in sight. -/
namespace Go.Proofs.YtpefkhbejjndeaaDoor.Ope

def texts : List (List UInt8) := [[], [38, 38], [124, 124], [59, 59], [59], [38], [124], [40], [41], [60], [62], [62, 62], [60, 60], [60, 60, 45], [60, 38], [62, 38], [60, 62], [62, 124]]
def txt (k : Nat) : List UInt8 := texts.getD k []
def txtI (op : Int) : List UInt8 := if op < 0 then [] else txt op.toNat

/-- Find, as the program does: the first of all 18 numbers. -/
def findFrom (l : List UInt8) : Nat → Nat → Nat
  | _, 0 => 0
  | k, n + 1 => if txt k == l then k else findFrom l (k + 1) n
def find (l : List UInt8) : Nat := findFrom l 1 17

theorem findFrom_le (l : List UInt8) : ∀ (n k : Nat), findFrom l k n ≤ k + n
  | 0, k => by simp [findFrom]
  | n + 1, k => by
    unfold findFrom
    split
    · omega
    · have := findFrom_le l n (k + 1); omega
theorem find_le (l : List UInt8) : find l ≤ 18 := by have := findFrom_le l 17 1; unfold find; omega

theorem find_zero (l : List UInt8) : findFrom l 0 18 = find l := by
  unfold find findFrom
  by_cases h : txt 0 == l
  · rw [if_pos h]
    have : l = [] := by simpa [txt, texts] using h
    subst this
    decide
  · rw [if_neg h]
    rfl

def moreFrom (l : List UInt8) : Nat → Nat → List Nat
  | _, 0 => []
  | k, n + 1 => if l.isPrefixOf (txt k) then k :: moreFrom l (k + 1) n else moreFrom l (k + 1) n
def more (l : List UInt8) : List Nat := moreFrom l 1 17

/-- Longest, as the reference does. -/
def bestFrom (l : List UInt8) : Nat → Nat → Nat → Nat
  | _, 0, b => b
  | k, n + 1, b => bestFrom l (k + 1) n (if (txt k).isPrefixOf l && decide ((txt b).length < (txt k).length) then k else b)
def best (l : List UInt8) : Nat := bestFrom l 1 17 0

/-- Longest, as the program does. -/
def longFrom (l : List UInt8) : Nat → Nat
  | 0 => 0
  | n + 1 => if find (l.take (n + 1)) ≠ 0 then find (l.take (n + 1)) else longFrom l n
def long (l : List UInt8) : Nat := longFrom l (min 3 l.length)

def whole (l : List UInt8) : Bool := find l != 0 && (more l).length == 1
def redir (op : Int) : Bool := decide (9 ≤ op) && decide (op ≤ 17)

end Go.Proofs.YtpefkhbejjndeaaDoor.Ope
