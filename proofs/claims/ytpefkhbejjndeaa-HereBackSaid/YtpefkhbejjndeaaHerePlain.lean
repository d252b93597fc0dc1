/- Here-documents, in plain words: which text may be; what a reader does with bytes; and that one is read back just if it may be. -/
import Derived.Test.YtpefkhbejjndeaaRows
namespace Go.Proofs.Ytpefkhbejjndeaa

/-- The line behind a byte that is no line's end. -/
def fdL (t : Bool) (c : UInt8) (l : List UInt8) : List UInt8 := if c ≠ 9 ∨ t = false ∨ l ≠ [] then l ++ [c] else l
/-- Has a text a NUL or a line feed? -/
def anyB (l : List UInt8) : Bool := l.any fun b => b == 0 || b == 10
def rightB (l : List UInt8) (t : Bool) : Bool := !anyB l && (!t || !(l.head? == some 9))
/-- Is a line one that may not be? -/
def badB (e : List UInt8) (t : Bool) (l : List UInt8) : Bool := (l == e) || (t && (l.head? == some 9))
/-- May the rest be, cur being what came of the line? -/
def mayGo (e : List UInt8) (t : Bool) : List UInt8 → List UInt8 → Bool
  | cur, [] => cur.isEmpty
  | cur, c :: r => if c = 0 then false else if c = 10 then (if badB e t cur then false else mayGo e t [] r) else mayGo e t (cur ++ [c]) r
def mayB (e : List UInt8) (t : Bool) (l : List UInt8) : Bool := rightB e t && mayGo e t [] l

theorem mayGo_seg (e : List UInt8) (t : Bool) : ∀ (a cur b : List UInt8), (0 : UInt8) ∉ a → (10 : UInt8) ∉ a → mayGo e t cur (a ++ b) = mayGo e t (cur ++ a) b
  | [], cur, b, _, _ => by simp
  | c :: a, cur, b, h0, h1 => by
    simp only [List.mem_cons, not_or] at h0 h1
    rw [List.cons_append, mayGo, if_neg (fun h => h0.1 h.symm), if_neg (fun h => h1.1 h.symm), mayGo_seg e t a _ b h0.2 h1.2]
    simp
theorem mayGo_line (e : List UInt8) (t : Bool) (a b : List UInt8) (h0 : (0 : UInt8) ∉ a) (h1 : (10 : UInt8) ∉ a) : mayGo e t [] (a ++ 10 :: b) = if badB e t a then false else mayGo e t [] b := by
  rw [mayGo_seg e t a [] _ h0 h1]
  simp [mayGo]
theorem mayGo_none (e : List UInt8) (t : Bool) (a : List UInt8) (h0 : (0 : UInt8) ∉ a) (h1 : (10 : UInt8) ∉ a) : mayGo e t [] a = a.isEmpty := by
  have := mayGo_seg e t a [] [] h0 h1
  rw [List.append_nil] at this
  rw [this]; simp [mayGo]
theorem mayGo_zero (e : List UInt8) (t : Bool) : ∀ (l cur : List UInt8), (0 : UInt8) ∈ l → mayGo e t cur l = false
  | [], _, h => by cases h
  | c :: l, cur, h => by
    rw [mayGo]
    by_cases h0 : c = 0
    · rw [if_pos h0]
    · rw [if_neg h0]
      have hl : (0 : UInt8) ∈ l := by
        rcases List.mem_cons.1 h with h | h
        · exact absurd h.symm h0
        · exact h
      split
      · split
        · rfl
        · exact mayGo_zero e t l _ hl
      · exact mayGo_zero e t l _ hl
/-- A text that does not end in a line feed may not be. -/
theorem mayGo_last (e : List UInt8) (t : Bool) : ∀ (l cur : List UInt8), (cur ++ l) ≠ [] → (l = [] ∨ l.getLast? ≠ some 10) → mayGo e t cur l = false
  | [], cur, h, _ => by
    rw [mayGo]
    have : cur ≠ [] := by simpa using h
    cases cur with
    | nil => exact absurd rfl this
    | cons => rfl
  | c :: l, cur, h, hl => by
    have hl' : (c :: l).getLast? ≠ some 10 := by
      rcases hl with h | h
      · cases h
      · exact h
    rw [mayGo]
    split
    · rfl
    · split
      · rename_i hc
        subst hc
        split
        · rfl
        · cases l with
          | nil => simp at hl'
          | cons d l => exact mayGo_last e t (d :: l) [] (by simp) (.inr (by simpa using hl'))
      · cases l with
        | nil => exact mayGo_last e t [] (cur ++ [c]) (by simp) (.inl rfl)
        | cons d l => exact mayGo_last e t (d :: l) (cur ++ [c]) (by simp) (.inr (by simpa using hl'))

/-- What a reader answers: its last signal, how many bytes came before that, the text. -/
def run (e : List UInt8) (t : Bool) : List UInt8 → List UInt8 → List UInt8 → Nat × Nat × List UInt8
  | acc, _, [] => (0, 0, acc)
  | acc, cur, c :: r =>
    if c = 0 then (3, 0, acc) else if c = 10 then (if cur = e then (1, 0, acc) else ((run e t (acc ++ cur ++ [10]) [] r).1, (run e t (acc ++ cur ++ [10]) [] r).2.1 + 1, (run e t (acc ++ cur ++ [10]) [] r).2.2))
    else ((run e t acc (fdL t c cur) r).1, (run e t acc (fdL t c cur) r).2.1 + 1, (run e t acc (fdL t c cur) r).2.2)

theorem fdL_len (t : Bool) (c : UInt8) (l : List UInt8) : (fdL t c l).length ≤ l.length + 1 := by
  unfold fdL; split <;> simp
theorem run_len (e : List UInt8) (t : Bool) : ∀ (inp acc cur : List UInt8), (run e t acc cur inp).1 = 1 → (run e t acc cur inp).2.2.length + e.length ≤ acc.length + cur.length + (run e t acc cur inp).2.1
  | [], acc, cur, h => by simp [run] at h
  | c :: r, acc, cur, h => by
    rw [run] at h ⊢
    by_cases h0 : c = 0
    · rw [if_pos h0] at h; simp at h
    · rw [if_neg h0] at h ⊢
      by_cases h1 : c = 10
      · rw [if_pos h1] at h ⊢
        by_cases h2 : cur = e
        · rw [if_pos h2]; simp [h2]
        · rw [if_neg h2] at h ⊢
          have := run_len e t r _ _ h
          simp at this ⊢
          omega
      · rw [if_neg h1] at h ⊢
        have := run_len e t r _ _ h
        have h3 := fdL_len t c cur
        simp at this ⊢
        omega
/-- The end line's own bytes. -/
theorem run_end (e : List UInt8) (t : Bool) (acc : List UInt8) (he : anyB e = false) (ht : t = true → e.head? ≠ some 9) : ∀ (q p : List UInt8), p ++ q = e → run e t acc p (q ++ [10]) = (1, q.length, acc)
  | [], p, h => by
    have : p = e := by simpa using h
    simp [run, this]
  | c :: q, p, h => by
    have hm : c ∈ e := by rw [← h]; simp
    have hc : (c == 0 || c == 10) = false := by
      have := List.any_eq_false.1 he c hm
      simpa using this
    simp only [Bool.or_eq_false_iff, beq_eq_false_iff_ne] at hc
    have hf : fdL t c p = p ++ [c] := by
      unfold fdL
      rw [if_pos]
      by_cases h9 : c = 9
      · by_cases hp : p = []
        · subst hp
          right; left
          cases t
          · rfl
          · exact absurd (by rw [← h, h9]; rfl) (ht rfl)
        · exact .inr (.inr hp)
      · exact .inl h9
    rw [List.cons_append, run, if_neg hc.1, if_neg hc.2, hf, run_end e t acc he ht q (p ++ [c]) (by rw [← h]; simp)]
    rfl
theorem step_iff (x : Nat × Nat × List UInt8) (n m : Nat) (l : List UInt8) : (x.1, x.2.1 + 1, x.2.2) = (1, n + 1 + m, l) ↔ x = (1, n + m, l) := by
  obtain ⟨a, b, c⟩ := x
  simp only [Prod.mk.injEq]
  constructor <;> rintro ⟨h1, h2, h3⟩ <;> exact ⟨h1, by omega, h3⟩
/-- A line that is not empty, and then the end line: no end there, or another text. -/
theorem run_back (e : List UInt8) (t : Bool) (he : anyB e = false) (ht : t = true → e.head? ≠ some 9) : ∀ (rest acc cur : List UInt8), (t = true → cur.head? ≠ some 9) →
    (run e t acc cur (rest ++ e ++ [10]) = (1, rest.length + e.length, acc ++ cur ++ rest) ↔ mayGo e t cur rest = true)
  | [], acc, cur, _ => by
    rw [mayGo]
    simp only [List.nil_append, List.length_nil, Nat.zero_add, List.append_nil]
    cases cur with
    | nil => simp [run_end e t acc he ht e [] rfl]
    | cons d cur =>
      simp only [List.isEmpty_cons]
      refine ⟨fun h => ?_, fun h => by cases h⟩
      have := run_len e t (e ++ [10]) acc (d :: cur) (by rw [h])
      -- the text would have grown by the line
      have key : ∀ (q acc cur : List UInt8), anyB q = false → (run e t acc cur (q ++ [10])).1 = 1 → (run e t acc cur (q ++ [10])).2.2 = acc := by
        intro q
        induction q with
        | nil =>
          intro acc cur _ h
          simp only [List.nil_append, run] at h ⊢
          by_cases h2 : cur = e
          · simp [h2]
          · simp [h2] at h
        | cons c q ih =>
          intro acc cur hq h
          simp only [anyB, List.any_cons, Bool.or_eq_false_iff, beq_eq_false_iff_ne] at hq
          rw [List.cons_append, run, if_neg hq.1.1, if_neg hq.1.2] at h ⊢
          exact ih _ _ (by unfold anyB; exact hq.2) h
      have h2 := key e acc (d :: cur) he (by rw [h])
      rw [h] at h2
      simp at h2
  | c :: r, acc, cur, hcur => by
    rw [mayGo, List.cons_append, List.cons_append, run]
    by_cases h0 : c = 0
    · rw [if_pos h0, if_pos h0]; simp
    · rw [if_neg h0, if_neg h0]
      by_cases h1 : c = 10
      · rw [if_pos h1, if_pos h1]
        have hb : badB e t cur = (cur == e) := by
          unfold badB
          cases t
          · simp
          · have : (cur.head? == some 9) = false := beq_eq_false_iff_ne.2 (hcur rfl)
            simp [this]
        rw [hb]
        by_cases h2 : cur = e
        · rw [if_pos h2, if_pos (by simp [h2])]
          simp
        · rw [if_neg h2, if_neg (by simp [h2])]
          rw [← run_back e t he ht r (acc ++ cur ++ [10]) [] (by simp)]
          subst h1
          rw [List.length_cons, step_iff]
          simp only [List.append_assoc, List.cons_append, List.nil_append, List.append_nil]
      · rw [if_neg h1, if_neg h1]
        by_cases h9 : c ≠ 9 ∨ t = false ∨ cur ≠ []
        · have hf : fdL t c cur = cur ++ [c] := if_pos h9
          have hh : t = true → (cur ++ [c]).head? ≠ some 9 := by
            intro ht'
            cases cur with
            | nil =>
              rcases h9 with h | h | h
              · simpa using h
              · rw [ht'] at h; cases h
              · exact absurd rfl h
            | cons d cur => simpa using hcur ht'
          rw [← run_back e t he ht r acc (cur ++ [c]) hh, hf]
          rw [List.length_cons, step_iff]
          simp only [List.append_assoc, List.cons_append, List.nil_append]
        · have h9' : c = 9 ∧ t = true ∧ cur = [] := by
            simp only [not_or, Decidable.not_not] at h9
            exact ⟨h9.1, by cases t; exact absurd rfl h9.2.1; rfl, h9.2.2⟩
          obtain ⟨rfl, rfl, rfl⟩ := h9'
          have hf : fdL true 9 [] = [] := by unfold fdL; rw [if_neg h9]
          rw [hf]
          have hno : ∀ (r cur : List UInt8), cur.head? = some 9 → mayGo e true cur r = false := by
            intro r
            induction r with
            | nil =>
              intro cur h
              cases cur with
              | nil => cases h
              | cons => rfl
            | cons d r ih =>
              intro cur h
              rw [mayGo]
              split
              · rfl
              · split
                · rw [if_pos (by unfold badB; simp [h])]
                · exact ih _ (by cases cur with
                    | nil => cases h
                    | cons => simpa using h)
          rw [List.nil_append, hno r [9] rfl]
          refine ⟨fun h => ?_, fun h => by cases h⟩
          simp only [Prod.ext_iff] at h
          have := run_len e true (r ++ e ++ [10]) acc [] h.1
          rw [h.2.2] at this
          simp only [List.length_append, List.length_nil, List.length_cons] at this h
          omega
theorem right_parts {e : List UInt8} {t : Bool} (h : rightB e t = true) : anyB e = false ∧ (t = true → e.head? ≠ some 9) := by
  unfold rightB at h
  simp only [Bool.and_eq_true, Bool.not_eq_true', Bool.or_eq_true, beq_eq_false_iff_ne] at h
  refine ⟨h.1, fun ht => ?_⟩
  rcases h.2 with h | h
  · rw [ht] at h; cases h
  · exact h
/-- THERE AND BACK. -/
theorem back (e : List UInt8) (t : Bool) (l : List UInt8) (h : rightB e t = true) : mayB e t l = true ↔ run e t [] [] (l ++ e ++ [10]) = (1, l.length + e.length, l) := by
  have h' := right_parts h
  have := run_back e t h'.1 h'.2 l [] [] (by simp)
  unfold mayB
  rw [h, Bool.true_and, ← this]
  simp
end Go.Proofs.Ytpefkhbejjndeaa
