/- The longest operator: the program's way and the reference's way come to one. -/
import Derived.Test.YtpefkhbejjndeaaDoorOperPlain
namespace Go.Proofs.YtpefkhbejjndeaaDoor.Ope

theorem bytes8 (a : UInt8) : a = 38 ∨ a = 124 ∨ a = 59 ∨ a = 40 ∨ a = 41 ∨ a = 60 ∨ a = 62 ∨ a = 45 ∨ (a ≠ 38 ∧ a ≠ 124 ∧ a ≠ 59 ∧ a ≠ 40 ∧ a ≠ 41 ∧ a ≠ 60 ∧ a ≠ 62 ∧ a ≠ 45) := by
  by_cases h1 : a = 38 <;> by_cases h2 : a = 124 <;> by_cases h3 : a = 59 <;> by_cases h4 : a = 40 <;> by_cases h5 : a = 41 <;> by_cases h6 : a = 60 <;> by_cases h7 : a = 62 <;> by_cases h8 : a = 45 <;> simp [*]

set_option maxHeartbeats 8000000 in
theorem best_long : ∀ l : List UInt8, best l = long l
  | [] => by decide
  | [a] => by
    rcases bytes8 a with rfl | rfl | rfl | rfl | rfl | rfl | rfl | rfl | ⟨h1, h2, h3, h4, h5, h6, h7, h8⟩
    all_goals first | decide | skip
    simp [best, bestFrom, long, longFrom, find, findFrom, txt, texts, List.isPrefixOf, Ne.symm h1, Ne.symm h2, Ne.symm h3, Ne.symm h4, Ne.symm h5, Ne.symm h6, Ne.symm h7]
  | [a, b] => by
    rcases bytes8 a with rfl | rfl | rfl | rfl | rfl | rfl | rfl | rfl | ⟨h1, h2, h3, h4, h5, h6, h7, h8⟩
    all_goals rcases bytes8 b with rfl | rfl | rfl | rfl | rfl | rfl | rfl | rfl | ⟨g1, g2, g3, g4, g5, g6, g7, g8⟩
    all_goals first | decide | skip
    all_goals simp [best, bestFrom, long, longFrom, find, findFrom, txt, texts, List.isPrefixOf, *, Ne.symm]
  | a :: b :: c :: r => by
    rcases bytes8 a with rfl | rfl | rfl | rfl | rfl | rfl | rfl | rfl | ⟨h1, h2, h3, h4, h5, h6, h7, h8⟩
    all_goals rcases bytes8 b with rfl | rfl | rfl | rfl | rfl | rfl | rfl | rfl | ⟨g1, g2, g3, g4, g5, g6, g7, g8⟩
    all_goals by_cases hc : c = 45
    all_goals simp [best, bestFrom, long, longFrom, find, findFrom, txt, texts, List.isPrefixOf, *, Ne.symm]

theorem longFrom_le (l : List UInt8) : ∀ n, longFrom l n ≤ 18
  | 0 => by simp [longFrom]
  | n + 1 => by
    unfold longFrom
    split
    · exact find_le _
    · exact longFrom_le l n

/-- With more behind it, no shorter one is: what the longest of 't ++ s' is, is at least as long as t. -/
theorem find_txt (l : List UInt8) (h : find l ≠ 0) : txt (find l) = l := by
  have key : ∀ (n k : Nat), findFrom l k n ≠ 0 → txt (findFrom l k n) = l := by
    intro n
    induction n with
    | zero => intro k h; simp [findFrom] at h
    | succ n ih =>
      intro k h
      unfold findFrom at h ⊢
      split at h
      · rename_i he
        rw [if_pos he]
        simpa using he
      · rename_i he
        rw [if_neg he]
        exact ih _ h
  exact key 17 1 h

theorem longFrom_ge (l : List UInt8) (m : Nat) (hm : find (l.take m) ≠ 0) (hl : m ≤ l.length) (h1 : 1 ≤ m) : ∀ n, m ≤ n → n ≤ l.length → m ≤ (txt (longFrom l n)).length
  | 0, h, _ => by omega
  | n + 1, h, hn => by
    unfold longFrom
    split
    · rename_i hf
      rw [find_txt _ hf, List.length_take]
      omega
    · rename_i hf
      by_cases e : m = n + 1
      · subst e; exact absurd hm (by simpa using hf)
      · exact longFrom_ge l m hm hl h1 n (by omega) (by omega)

theorem txt_len : ∀ k, (txt k).length ≤ 3 := by
  intro k
  by_cases h : k < 18
  · have : ∀ k : Fin 18, (txt k).length ≤ 3 := by decide
    exact this ⟨k, h⟩
  · unfold txt
    rw [List.getD_eq_getElem?_getD, List.getElem?_eq_none (by simp [texts]; omega)]
    simp

end Go.Proofs.YtpefkhbejjndeaaDoor.Ope
