/- Plain laws on names, plain texts and assignments: what is put behind what. No program in sight. -/
import Derived.Test.YtpefkhbejjndeaaCharPlain
import Derived.Lib.Bytealg
namespace Go.Proofs.Ytpefkhbejjndeaa.Chr
open Go

theorem allFrom_weaken {p q : Nat → Nat → Bool} {i j : Nat} (h : ∀ a c, p (i + a) c = true → q (j + a) c = true) : ∀ (l : List UInt8), allFrom p i l = true → allFrom q j l = true
  | [], _ => rfl
  | c :: r, hp => by
    simp only [allFrom, Bool.and_eq_true] at hp ⊢
    refine ⟨h 0 _ hp.1, allFrom_weaken (i := i + 1) (j := j + 1) (fun a c hh => ?_) r hp.2⟩
    have := h (a + 1) c (by rw [← hh]; congr 1; omega)
    rw [← this]; congr 1; omega

theorem name_pos {l : List UInt8} (h : name l = true) : l ≠ [] := by
  rintro rfl; simp [name] at h

theorem name_append {s t : List UInt8} (hs : name s = true) (ht : name t = true ∨ digits t = true) : name (s ++ t) = true := by
  have hne := name_pos hs
  unfold name at hs ⊢
  simp only [Bool.and_eq_true] at hs ⊢
  refine ⟨?_, by cases s <;> simp at hne ⊢⟩
  rw [allFrom_append, hs.1, Bool.true_and]
  have hl : 0 < s.length := by cases s <;> simp at hne ⊢
  rcases ht with ht | ht
  · unfold name at ht
    simp only [Bool.and_eq_true] at ht
    refine allFrom_weaken (p := okName) (i := 0) (fun a c h => ?_) t ht.1
    unfold okName at h ⊢
    simp only [Bool.or_eq_true, Bool.and_eq_true, decide_eq_true_eq] at h ⊢
    rcases h with h | h
    · exact .inl h
    · exact .inr ⟨h.1, by omega⟩
  · unfold digits at ht
    simp only [Bool.and_eq_true] at ht
    refine allFrom_weaken (p := okDigit) (i := 0) (fun a c h => ?_) t ht.1
    unfold okDigit at h
    unfold okName
    simp only [Bool.or_eq_true, Bool.and_eq_true, decide_eq_true_eq]
    exact .inr ⟨h, by omega⟩

theorem head_of {p : Nat → Nat → Bool} {l : List UInt8} (h : allFrom p 0 l = true) (hne : l ≠ []) : p 0 (l.headD 0).toNat = true := by
  cases l with
  | nil => exact absurd rfl hne
  | cons a r => simp only [allFrom, Bool.and_eq_true] at h; exact h.1

theorem name_plain {s : List UInt8} (hs : name s = true) : plain s = true := by
  have hne := name_pos hs
  unfold name at hs
  simp only [Bool.and_eq_true] at hs
  have h0 := head_of hs.1 hne
  unfold plain
  simp only [Bool.and_eq_true]
  refine ⟨⟨allFrom_weaken (p := okName) (i := 0) (fun a c h => ?_) s hs.1, hs.2⟩, ?_⟩
  · unfold okName at h
    unfold okPlain
    simp only [Bool.or_eq_true, Bool.and_eq_true] at h ⊢
    rcases h with h | h
    · exact .inl (.inr h)
    · exact .inl (.inl h.1)
  · rw [bne_iff_ne]
    intro e
    rw [e] at h0
    exact absurd h0 (by decide)

theorem digits_plain {s : List UInt8} (hs : digits s = true) : plain s = true := by
  have hne : s ≠ [] := by rintro rfl; simp [digits] at hs
  unfold digits at hs
  simp only [Bool.and_eq_true] at hs
  have h0 := head_of hs.1 hne
  unfold plain
  simp only [Bool.and_eq_true]
  refine ⟨⟨allFrom_weaken (p := okDigit) (i := 0) (fun a c h => ?_) s hs.1, hs.2⟩, ?_⟩
  · unfold okDigit at h
    unfold okPlain
    simp only [Bool.or_eq_true]
    exact .inl (.inl h)
  · rw [bne_iff_ne]
    intro e
    rw [e] at h0
    exact absurd h0 (by decide)

theorem plain_append {s t : List UInt8} (hs : plain s = true) (ht : plain t = true) : plain (s ++ t) = true := by
  have hne : s ≠ [] := by rintro rfl; simp [plain] at hs
  unfold plain at hs ht ⊢
  simp only [Bool.and_eq_true] at hs ht ⊢
  refine ⟨⟨?_, ?_⟩, ?_⟩
  · rw [allFrom_append, hs.1.1, Bool.true_and]
    exact allFrom_weaken (p := okPlain) (q := okPlain) (i := 0) (j := 0 + s.length) (fun a c h => h) t ht.1.1
  · cases s <;> simp at hne ⊢
  · cases s with
    | nil => exact absurd rfl hne
    | cons a r => exact hs.2

theorem plain_sign {s t : List UInt8} {c : UInt8} (h : okPlain 0 c.toNat = false) : plain (s ++ [c] ++ t) = false := by
  have : allFrom okPlain 0 (s ++ [c] ++ t) = false := by
    rw [List.append_assoc, allFrom_append]
    have e : allFrom okPlain (0 + s.length) ([c] ++ t) = (okPlain (0 + s.length) c.toNat && allFrom okPlain (0 + s.length + 1) t) := rfl
    have e2 : okPlain (0 + s.length) c.toNat = false := h
    rw [e, e2, Bool.false_and, Bool.and_false]
  unfold plain
  rw [this, Bool.false_and, Bool.false_and]

theorem idx_hit {a c : UInt8} (l : List UInt8) (h : a = c) : Lib.indexByte (a :: l) c = 0 := by simp [Lib.indexByte, h]
theorem idx_miss {a c : UInt8} (l : List UInt8) (h : a ≠ c) : Lib.indexByte (a :: l) c = if Lib.indexByte l c = -1 then -1 else Lib.indexByte l c + 1 := by
  have hb : (a == c) = false := by rw [beq_eq_false_iff_ne]; exact h
  rw [Lib.indexByte, hb]
  by_cases hm : Lib.indexByte l c = -1
  · simp [hm]
  · simp [hm]

/-- Where the first = stands: by the place of the byte 61. -/
theorem assignFrom_eq (l : List UInt8) : ∀ (n i : Nat), i + n = l.length →
    assignFrom l i n = if Lib.indexByte (l.drop i) 61 = -1 then -1 else if name (l.take (i + (Lib.indexByte (l.drop i) 61).toNat)) then (i : Int) + Lib.indexByte (l.drop i) 61 else -1
  | 0, i, h => by
    rw [List.drop_of_length_le (by omega)]
    rfl
  | n + 1, i, h => by
    have hi : i < l.length := by omega
    rw [List.drop_eq_getElem_cons hi]
    have e : l.getD i 0 = l[i] := by rw [List.getD_eq_getElem?_getD, List.getElem?_eq_getElem hi]; rfl
    rw [assignFrom, e]
    by_cases h61 : l[i].toNat = 61
    · rw [if_pos h61, idx_hit _ (UInt8.toNat_inj.1 h61)]
      have h0 : ¬ ((0 : Int) = -1) := by decide
      rw [if_neg h0, show i + (0 : Int).toNat = i from rfl, Int.add_zero]
    · rw [if_neg h61, assignFrom_eq l n (i + 1) (by omega), idx_miss _ (fun e => h61 (by rw [e]; rfl))]
      have hge := Lib.indexByte_ge (l.drop (i + 1)) 61
      by_cases hm : Lib.indexByte (l.drop (i + 1)) 61 = -1
      · rw [if_pos hm, if_pos hm, if_pos rfl]
      · have hx : ¬ (Lib.indexByte (l.drop (i + 1)) 61 + 1 = -1) := by omega
        rw [if_neg hm, if_neg hm, if_neg hx]
        have e2 : i + 1 + (Lib.indexByte (l.drop (i + 1)) 61).toNat = i + (Lib.indexByte (l.drop (i + 1)) 61 + 1).toNat := by omega
        rw [e2]
        split
        · omega
        · rfl
theorem assign_eq (l : List UInt8) : assign l = if Lib.indexByte l 61 = -1 then -1 else if name (l.take (Lib.indexByte l 61).toNat) then Lib.indexByte l 61 else -1 := by
  unfold assign
  rw [assignFrom_eq l l.length 0 (by omega)]
  simp

/-- The place of a byte in front of what is known. -/
theorem indexByte_append (c : UInt8) (t : List UInt8) : ∀ s : List UInt8, Lib.indexByte (s ++ c :: t) c = if Lib.indexByte s c = -1 then (s.length : Int) else Lib.indexByte s c
  | [] => by rw [List.nil_append, idx_hit _ rfl]; rfl
  | a :: s => by
    have ih := indexByte_append c t s
    have hge := Lib.indexByte_ge s c
    rw [List.cons_append]
    by_cases ha : a = c
    · rw [idx_hit _ ha, idx_hit _ ha]; rfl
    · rw [idx_miss _ ha, idx_miss _ ha, ih]
      by_cases hm : Lib.indexByte s c = -1
      · rw [if_pos hm, if_pos hm, if_pos rfl, if_neg (by omega), List.length_cons]; omega
      · have hx : ¬ (Lib.indexByte s c + 1 = -1) := by omega
        rw [if_neg hm, if_neg hm, if_neg hx]
theorem indexByte_lt (c : UInt8) : ∀ s : List UInt8, Lib.indexByte s c < s.length ∨ Lib.indexByte s c = -1
  | [] => .inr rfl
  | a :: s => by
    have ih := indexByte_lt c s
    by_cases ha : a = c
    · rw [idx_hit _ ha, List.length_cons]; left; omega
    · rw [idx_miss _ ha, List.length_cons]
      by_cases hm : Lib.indexByte s c = -1
      · rw [if_pos hm]; exact .inr rfl
      · rw [if_neg hm]; left; omega
theorem indexByte_none {c : UInt8} : ∀ {s : List UInt8}, (∀ x ∈ s, x ≠ c) → Lib.indexByte s c = -1
  | [], _ => rfl
  | a :: s, h => by
    rw [idx_miss _ (h a (List.mem_cons_self ..)), if_pos (indexByte_none (s := s) fun x hx => h x (List.mem_cons_of_mem _ hx))]

theorem name_no_equals {s : List UInt8} (h : name s = true) : ∀ x ∈ s, x ≠ 61 := by
  intro x hx e
  subst e
  unfold name at h
  simp only [Bool.and_eq_true] at h
  obtain ⟨k, hk, he⟩ := List.mem_iff_getElem.1 hx
  have := allFrom_at 0 s h.1 k hk
  rw [he] at this
  have h61 : ∀ k, okName k (UInt8.toNat 61) = false := fun k => by
    have : cls (UInt8.toNat 61) = 8 := by decide
    unfold okName
    rw [this]
    rfl
  rw [h61] at this
  cases this

theorem assign_name {s t : List UInt8} (h : name s = true) : assign (s ++ [61] ++ t) = s.length := by
  have h1 : Lib.indexByte (s ++ [61] ++ t) 61 = s.length := by
    rw [List.append_assoc, List.singleton_append, indexByte_append, if_pos (indexByte_none (name_no_equals h))]
  rw [assign_eq, h1, if_neg (by omega), Int.toNat_natCast, List.append_assoc, List.take_left, if_pos h]
theorem assign_other {s t : List UInt8} (h : name s = false) : assign (s ++ [61] ++ t) = -1 ∨ ∃ k : Nat, assign (s ++ [61] ++ t) = k ∧ k < s.length ∧ name (s.take k) = true := by
  have h1 : Lib.indexByte (s ++ [61] ++ t) 61 = if Lib.indexByte s 61 = -1 then (s.length : Int) else Lib.indexByte s 61 := by
    rw [List.append_assoc, List.singleton_append, indexByte_append]
  rw [assign_eq, h1]
  by_cases hm : Lib.indexByte s 61 = -1
  · left
    rw [if_pos hm, if_neg (by omega), Int.toNat_natCast, List.append_assoc, List.take_left, if_neg (by rw [h]; exact Bool.false_ne_true)]
  · rw [if_neg hm]
    have hge := Lib.indexByte_ge s 61
    have hlt : Lib.indexByte s 61 < s.length := by
      rcases indexByte_lt 61 s with h | h
      · exact h
      · exact absurd h hm
    rw [if_neg hm, List.append_assoc, List.take_append_of_le_length (by omega)]
    split
    · rename_i hn
      exact .inr ⟨(Lib.indexByte s 61).toNat, by omega, by omega, hn⟩
    · exact .inl rfl
end Go.Proofs.Ytpefkhbejjndeaa.Chr
