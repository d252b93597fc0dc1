/- Classes of bytes, names, digits, plain texts, assignments, as plain Lean functions on lists of bytes; facts on them. No program in sight. -/
namespace Go.Proofs.Ytpefkhbejjndeaa.Chr

def cls (c : Nat) : Nat :=
  if c = 0 then 0 else if c = 32 ∨ c = 9 then 1 else if c = 10 then 2 else if 48 ≤ c ∧ c ≤ 57 then 3
  else if 97 ≤ c ∧ c ≤ 122 ∨ 65 ≤ c ∧ c ≤ 90 ∨ c = 95 then 4
  else if c = 38 ∨ c = 124 ∨ c = 59 ∨ c = 60 ∨ c = 62 ∨ c = 40 ∨ c = 41 then 5
  else if c = 39 ∨ c = 34 ∨ c = 92 ∨ c = 96 then 6 else if c = 36 then 7 else 8

/-- The signs, one by one. -/
def Sign (c : Nat) : Prop := c = 0 ∨ c = 32 ∨ c = 9 ∨ c = 10 ∨ c = 95 ∨ c = 38 ∨ c = 124 ∨ c = 59 ∨ c = 60 ∨ c = 62 ∨ c = 40 ∨ c = 41 ∨ c = 39 ∨ c = 34 ∨ c = 92 ∨ c = 96 ∨ c = 36
def Other (c : Nat) : Prop := (¬ c = 0 ∧ ¬ c = 32 ∧ ¬ c = 9 ∧ ¬ c = 10 ∧ ¬ c = 95 ∧ ¬ c = 38 ∧ ¬ c = 124 ∧ ¬ c = 59 ∧ ¬ c = 60 ∧ ¬ c = 62 ∧ ¬ c = 40 ∧ ¬ c = 41 ∧ ¬ c = 39 ∧ ¬ c = 34 ∧ ¬ c = 92 ∧ ¬ c = 96 ∧ ¬ c = 36) ∧ ¬ (48 ≤ c ∧ c ≤ 57) ∧ ¬ (97 ≤ c ∧ c ≤ 122) ∧ ¬ (65 ≤ c ∧ c ≤ 90)
/-- The ways of a byte, each as plain arithmetic. -/
theorem cls_cases (c : Nat) : Sign c ∨ (48 ≤ c ∧ c ≤ 57 ∧ cls c = 3) ∨ (97 ≤ c ∧ c ≤ 122 ∧ cls c = 4) ∨ (65 ≤ c ∧ c ≤ 90 ∧ cls c = 4) ∨ (Other c ∧ cls c = 8) := by
  by_cases h1 : 48 ≤ c ∧ c ≤ 57
  · have : cls c = 3 := by unfold cls; rw [if_neg (by omega), if_neg (by omega), if_neg (by omega), if_pos h1]
    exact .inr (.inl ⟨h1.1, h1.2, this⟩)
  by_cases h2 : 97 ≤ c ∧ c ≤ 122
  · have : cls c = 4 := by unfold cls; rw [if_neg (by omega), if_neg (by omega), if_neg (by omega), if_neg (by omega), if_pos (by omega)]
    exact .inr (.inr (.inl ⟨h2.1, h2.2, this⟩))
  by_cases h3 : 65 ≤ c ∧ c ≤ 90
  · have : cls c = 4 := by unfold cls; rw [if_neg (by omega), if_neg (by omega), if_neg (by omega), if_neg (by omega), if_pos (by omega)]
    exact .inr (.inr (.inr (.inl ⟨h3.1, h3.2, this⟩)))
  by_cases h4 : Sign c
  · exact .inl h4
  · have ho : Other c := by
      unfold Other
      refine ⟨?_, h1, h2, h3⟩
      unfold Sign at h4
      simp only [not_or] at h4
      exact h4
    have : cls c = 8 := by
      obtain ⟨h, _⟩ := ho
      unfold cls
      rw [if_neg (by omega), if_neg (by omega), if_neg (by omega), if_neg (by omega), if_neg (by omega), if_neg (by omega), if_neg (by omega), if_neg (by omega)]
    exact .inr (.inr (.inr (.inr ⟨ho, this⟩)))

theorem cls_le (c : Nat) : cls c ≤ 8 := by
  rcases cls_cases c with h | h | h | h | h
  · unfold Sign at h
    rcases h with rfl | rfl | rfl | rfl | rfl | rfl | rfl | rfl | rfl | rfl | rfl | rfl | rfl | rfl | rfl | rfl | rfl <;> decide
  all_goals omega
theorem cls_high (c : Nat) (h128 : 128 ≤ c) : cls c = 8 := by
  rcases cls_cases c with h | h | h | h | h
  · unfold Sign at h
    omega
  all_goals omega

def special (c : Nat) : Bool := c == 64 || c == 42 || c == 35 || c == 63 || c == 45 || c == 36 || c == 33

/-- Is something so of each byte, and its place? -/
def allFrom (p : Nat → Nat → Bool) : Nat → List UInt8 → Bool
  | _, [] => true
  | i, c :: r => p i c.toNat && allFrom p (i + 1) r

def okName (i c : Nat) : Bool := cls c == 4 || cls c == 3 && decide (0 < i)
def okDigit (_ c : Nat) : Bool := cls c == 3
def okPlain (_ c : Nat) : Bool := cls c == 3 || cls c == 4 || cls c == 8
def okAscii (_ c : Nat) : Bool := decide (c < 128)

def name (l : List UInt8) : Bool := allFrom okName 0 l && !l.isEmpty
def digits (l : List UInt8) : Bool := allFrom okDigit 0 l && !l.isEmpty
def ascii (l : List UInt8) : Bool := allFrom okAscii 0 l
def plain (l : List UInt8) : Bool := allFrom okPlain 0 l && !l.isEmpty && (l.headD 0).toNat != 35

theorem allFrom_mono {p q : Nat → Nat → Bool} (h : ∀ i c, p i c = true → q i c = true) : ∀ (i : Nat) (l : List UInt8), allFrom p i l = true → allFrom q i l = true
  | _, [], _ => rfl
  | i, c :: r, hp => by
    simp only [allFrom, Bool.and_eq_true] at hp ⊢
    exact ⟨h _ _ hp.1, allFrom_mono h _ r hp.2⟩
theorem allFrom_append (p : Nat → Nat → Bool) : ∀ (i : Nat) (l r : List UInt8), allFrom p i (l ++ r) = (allFrom p i l && allFrom p (i + l.length) r)
  | i, [], r => by simp [allFrom]
  | i, c :: l, r => by
    simp only [List.cons_append, allFrom, allFrom_append p (i + 1) l r, List.length_cons, Bool.and_assoc]
    congr 3
    omega
theorem allFrom_at {p : Nat → Nat → Bool} : ∀ (i : Nat) (l : List UInt8), allFrom p i l = true → ∀ (k : Nat) (h : k < l.length), p (i + k) (l[k].toNat) = true
  | i, c :: r, hp, 0, _ => by simp only [allFrom, Bool.and_eq_true] at hp; exact hp.1
  | i, c :: r, hp, k + 1, h => by
    simp only [allFrom, Bool.and_eq_true] at hp
    have := allFrom_at (i + 1) r hp.2 k (by simpa using h)
    rw [show i + (k + 1) = i + 1 + k by omega]
    simpa using this

/-- One byte more of a walk over a text. -/
theorem allFrom_drop (p : Nat → Nat → Bool) (l : List UInt8) (k : Nat) (h : k < l.length) : allFrom p k (l.drop k) = (p k (l[k].toNat) && allFrom p (k + 1) (l.drop (k + 1))) := by
  rw [List.drop_eq_getElem_cons h]
  rfl
theorem allFrom_end (p : Nat → Nat → Bool) (l : List UInt8) (k : Nat) (h : ¬ k < l.length) : allFrom p k (l.drop k) = true := by
  rw [List.drop_of_length_le (by omega)]
  rfl

theorem name_ascii (l : List UInt8) (h : name l = true) : ascii l = true := by
  unfold name at h
  rw [Bool.and_eq_true] at h
  refine allFrom_mono ?_ 0 l h.1
  intro i c hp
  unfold okName at hp
  unfold okAscii
  rw [decide_eq_true_eq]
  have := cls_high c
  rcases Nat.lt_or_ge c 128 with h1 | h1
  · exact h1
  · rw [this h1] at hp; simp at hp
theorem digits_ascii (l : List UInt8) (h : digits l = true) : ascii l = true := by
  unfold digits at h
  rw [Bool.and_eq_true] at h
  refine allFrom_mono ?_ 0 l h.1
  intro i c hp
  unfold okDigit at hp
  unfold okAscii
  rw [decide_eq_true_eq]
  have := cls_high c
  rcases Nat.lt_or_ge c 128 with h1 | h1
  · exact h1
  · rw [this h1] at hp; simp at hp

/-- Where the first = stands, behind a name; -1: nowhere. -/
def assignFrom (l : List UInt8) : Nat → Nat → Int
  | _, 0 => -1
  | i, n + 1 => if (l.getD i 0).toNat = 61 then (if name (l.take i) then (i : Int) else -1) else assignFrom l (i + 1) n
def assign (l : List UInt8) : Int := assignFrom l 0 l.length
end Go.Proofs.Ytpefkhbejjndeaa.Chr
