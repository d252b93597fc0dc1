/- Further plain facts on the operators' texts. -/
import Derived.Test.YtpefkhbejjndeaaDoorOperPlain2
namespace Go.Proofs.YtpefkhbejjndeaaDoor.Ope

theorem moreFrom_len (l : List UInt8) : ∀ n k, (moreFrom l k n).length ≤ n
  | 0, _ => by simp [moreFrom]
  | n + 1, k => by
    unfold moreFrom
    have := moreFrom_len l n (k + 1)
    split <;> simp <;> omega
theorem more_len (l : List UInt8) : (more l).length ≤ 1000 := by have := moreFrom_len l 17 1; unfold more; omega

theorem txt_big (k : Nat) (h : 18 ≤ k) : txt k = [] := by
  rw [txt, List.getD_eq_getElem?_getD, List.getElem?_eq_none (by simp [texts]; omega)]
  rfl
theorem txtI_some {op : Int} (h : ¬ (txtI op).isEmpty = true) : ∃ k : Nat, op = k ∧ 1 ≤ k ∧ k ≤ 17 := by
  unfold txtI at h
  split at h
  · simp at h
  · refine ⟨op.toNat, by omega, ?_, ?_⟩
    · rcases Nat.eq_zero_or_pos op.toNat with h0 | h0
      · rw [h0] at h; exact absurd rfl h
      · omega
    · rcases Nat.lt_or_ge op.toNat 18 with h1 | h1
      · omega
      · rw [txt_big _ h1] at h; exact absurd rfl h
theorem txt_pos (k : Nat) (h1 : 1 ≤ k) (h2 : k ≤ 17) : 1 ≤ (txt k).length := by
  have : ∀ k : Fin 18, 1 ≤ k.val → 1 ≤ (txt k.val).length := by decide
  exact this ⟨k, by omega⟩ h1
theorem find_at (k : Nat) (h1 : 1 ≤ k) (h2 : k ≤ 17) : find (txt k) = k := by
  have : ∀ k : Fin 18, 1 ≤ k.val → find (txt k.val) = k.val := by decide
  exact this ⟨k, by omega⟩ h1
theorem long_at (k : Nat) (h1 : 1 ≤ k) (h2 : k ≤ 17) : long (txt k) = k := by
  have : ∀ k : Fin 18, 1 ≤ k.val → long (txt k.val) = k.val := by decide
  exact this ⟨k, by omega⟩ h1
theorem find_begin (k j : Nat) (h1 : 1 ≤ k) (h2 : k ≤ 17) (hj : j < (txt k).length) : find ((txt k).take (1 + j)) ≠ 0 := by
  have : ∀ k : Fin 18, 1 ≤ k.val → ∀ j : Fin 3, j.val < (txt k.val).length → find ((txt k.val).take (1 + j.val)) ≠ 0 := by decide
  have h3 := txt_len k
  exact this ⟨k, by omega⟩ h1 ⟨j, by omega⟩ hj
theorem more_begin (k j : Nat) (h1 : 1 ≤ k) (h2 : k ≤ 17) (hj : j < (txt k).length) : (more (txt k)).length ≤ (more ((txt k).take (1 + j))).length := by
  have : ∀ k : Fin 18, 1 ≤ k.val → ∀ j : Fin 3, j.val < (txt k.val).length → (more (txt k.val)).length ≤ (more ((txt k.val).take (1 + j.val))).length := by decide
  have h3 := txt_len k
  exact this ⟨k, by omega⟩ h1 ⟨j, by omega⟩ hj
theorem long_behind (k : Nat) (h1 : 1 ≤ k) (h2 : k ≤ 17) (s : List UInt8) : (txt k).length ≤ (txt (long (txt k ++ s))).length := by
  have h3 := txt_len k
  have h4 := txt_pos k h1 h2
  refine longFrom_ge (txt k ++ s) (txt k).length ?_ (by simp) h4 _ (by simp; omega) (Nat.min_le_right _ _)
  rw [List.take_left, find_at k h1 h2]
  omega

end Go.Proofs.YtpefkhbejjndeaaDoor.Ope
