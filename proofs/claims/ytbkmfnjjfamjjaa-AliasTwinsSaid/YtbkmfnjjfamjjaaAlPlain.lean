/- Aliases as a plain list in the order of their names, and a map's reading as that list. No program in sight. -/
import Derived.Maps.OwnSet
import Derived.Maps.StringElems
import Derived.Maps.Ext
import Derived.Sort.KeysCollected
import Derived.Sort.Walk0
namespace Go.Proofs.Ytbkmfnjjfamjjaa
open Go Go.Maps

/-- Names, and their values. -/
abbrev Al := List (ByteArray × ByteArray)
def keyB (p : ByteArray × ByteArray) : List UInt8 := p.1.data.toList

theorem keyB_inj {a b : ByteArray} (h : a.data.toList = b.data.toList) : a = b := by
  obtain ⟨⟨a⟩⟩ := a; obtain ⟨⟨b⟩⟩ := b; simp at h; rw [h]
theorem less_before : ∀ a b : List UInt8, Op.bytesLess a b = bytesBefore a b
  | [], [] => rfl
  | [], _ :: _ => rfl
  | _ :: _, [] => rfl
  | a :: x, b :: y => by rw [Op.bytesLess, bytesBefore, less_before x y]
theorem before_lt (a b : List UInt8) : bytesBefore a b = decide (a < b) := by rw [← less_before, Go.Proofs.bytesLess_eq]
theorem before_tri {a b : List UInt8} (h : bytesBefore b a = false) (hne : a ≠ b) : bytesBefore a b = true := by
  rw [before_lt] at h ⊢
  simp only [decide_eq_false_iff_not, decide_eq_true_eq] at h ⊢
  rcases List.le_total a b with h1 | h1
  · rcases Decidable.em (a < b) with h2 | h2
    · exact h2
    · exact absurd (List.le_antisymm h1 (List.not_lt.1 h2)) hne
  · exact absurd (List.le_antisymm (List.not_lt.1 h) h1) hne
theorem before_not {a b : List UInt8} (h : bytesBefore a b = true) : bytesBefore b a = false := by
  rw [before_lt] at h ⊢
  simp only [decide_eq_false_iff_not, decide_eq_true_eq] at h ⊢
  exact fun h2 => absurd h (List.lt_asymm h2)
theorem before_ne {a b : List UInt8} (h : bytesBefore a b = true) : a ≠ b := by
  intro e; subst e
  have := before_not h
  rw [h] at this; cases this

namespace Al
def hit (s : ByteArray) (p : ByteArray × ByteArray) : Bool := p.1.data.toList == s.data.toList
def val (L : Al) (s : ByteArray) : Option ByteArray := (L.find? (hit s)).map (·.2)
def has (L : Al) (s : ByteArray) : Bool := L.any (hit s)
def del (L : Al) (s : ByteArray) : Al := L.filter fun p => !hit s p
def ins (p : ByteArray × ByteArray) : Al → Al
  | [] => [p]
  | q :: r => if bytesBefore p.1.data.toList q.1.data.toList then p :: q :: r else q :: ins p r
def put (L : Al) (s v : ByteArray) : Al := ins (s, v) (del L s)
def lit {H : Type} (p : ByteArray × ByteArray) : Lit × DataW H := (.string p.1.data.toList, .lit (.string p.2.data.toList))
def data {H : Type} (L : Al) : DataW H := .map (L.map lit)
def Rising (L : Al) : Prop := L.Pairwise fun p q => bytesBefore p.1.data.toList q.1.data.toList = true

section
variable {H : Type}
theorem has_data (L : Al) (s : ByteArray) : Maps.has (data (H := H) L) (.string s.data.toList) = has L s := by
  show (L.map lit).any _ = _
  rw [List.any_map]; rfl
theorem size_data (L : Al) : Maps.size (data (H := H) L) = L.length := by
  show (L.map lit).length = _
  simp
theorem keys_data (L : Al) : strKeys (data (H := H) L) = L.map keyB := by
  show (L.map lit).map _ = _
  rw [List.map_map]; rfl
theorem at_data (L : Al) (s : ByteArray) (z : List UInt8) : (data (H := H) L).atKey (.string s.data.toList) (.lit (.string z)) = .lit (.string (((val L s).map (·.data.toList)).getD z)) := by
  unfold data DataW.atKey
  simp only []
  rw [List.find?_map]
  have : ((fun p : Lit × DataW H => p.1.sameKey (.string s.data.toList)) ∘ lit) = hit s := rfl
  rw [this]
  unfold val
  cases L.find? (hit s) <;> rfl
theorem del_data (L : Al) (s : ByteArray) : (data (H := H) L).del (.string s.data.toList) = data (del L s) := by
  show DataW.map ((L.map lit).filter _) = DataW.map _
  rw [List.filter_map]; rfl
theorem insert_data (p : ByteArray × ByteArray) : ∀ L : Al, DataW.insert (lit (H := H) p) (L.map lit) = (ins p L).map lit
  | [] => rfl
  | q :: r => by
    rw [List.map_cons, DataW.insert, ins]
    have : (lit (H := H) p).1.before (lit (H := H) q).1 = bytesBefore p.1.data.toList q.1.data.toList := rfl
    rw [this]
    split
    · rfl
    · rw [List.map_cons, insert_data p r]
theorem put_data (L : Al) (s v : ByteArray) : (data (H := H) L).put (.string s.data.toList) (.lit (.string v.data.toList)) = data (put L s v) := by
  show DataW.map (DataW.insert (lit (s, v)) ((L.map lit).filter _)) = DataW.map _
  rw [List.filter_map]
  exact congrArg _ (insert_data (s, v) (del L s))
theorem rising_of_canon {L : Al} (h : Maps.Canon (data (H := H) L)) : Rising L := by
  obtain ⟨es, he, hr, _⟩ := h
  have : es = L.map lit := by injection he with e; exact e.symm
  subst this
  exact List.pairwise_map.1 hr
end

theorem has_val (L : Al) (s : ByteArray) : (val L s).isSome = has L s := by
  unfold val has
  induction L with
  | nil => rfl
  | cons p r ih =>
    rw [List.find?_cons, List.any_cons]
    cases hit s p <;> simp_all
theorem val_cons (p : ByteArray × ByteArray) (r : Al) (s : ByteArray) : val (p :: r) s = if hit s p then some p.2 else val r s := by
  unfold val
  rw [List.find?_cons]
  cases hit s p <;> rfl
theorem has_cons (p : ByteArray × ByteArray) (r : Al) (s : ByteArray) : has (p :: r) s = (hit s p || has r s) := rfl
theorem hit_eq {s : ByteArray} {p : ByteArray × ByteArray} (h : hit s p = true) : p.1.data.toList = s.data.toList := by simpa [hit] using h
theorem hit_ne {s : ByteArray} {p : ByteArray × ByteArray} (h : hit s p = false) : p.1.data.toList ≠ s.data.toList := by simpa [hit] using h
theorem del_none {L : Al} {s : ByteArray} (h : has L s = false) : del L s = L := by
  unfold del
  rw [List.filter_eq_self]
  intro p hp
  unfold has at h
  rw [List.any_eq_false] at h
  have := h p hp
  simpa using this
theorem del_at {s : ByteArray} {p : ByteArray × ByteArray} : ∀ (i : Nat) (L r : Al), Rising L → L.drop i = p :: r → hit s p = true → del L s = L.take i ++ r
  | 0, L, r, hr, hd, hh => by
    rw [List.drop_zero] at hd
    subst hd
    unfold del
    rw [List.filter_cons, hh]
    have h1 := List.pairwise_cons.1 hr
    simp only [Bool.not_true, Bool.false_eq_true, if_false, List.take_zero, List.nil_append]
    rw [List.filter_eq_self]
    intro q hq
    have h2 := before_ne (h1.1 q hq)
    rw [hit_eq hh] at h2
    have : hit s q = false := by unfold hit; rw [beq_eq_false_iff_ne]; exact fun e => h2 e.symm
    rw [this]; rfl
  | i + 1, [], r, _, hd, _ => by simp at hd
  | i + 1, q :: L, r, hr, hd, hh => by
    rw [List.drop_succ_cons] at hd
    have h1 := List.pairwise_cons.1 hr
    have hm : p ∈ L := by
      have : p ∈ L.drop i := by rw [hd]; exact List.mem_cons_self
      exact List.mem_of_mem_drop this
    have h2 := before_ne (h1.1 p hm)
    rw [hit_eq hh] at h2
    have hq : hit s q = false := by unfold hit; rw [beq_eq_false_iff_ne]; exact h2
    have := del_at i L r h1.2 hd hh
    unfold del at this ⊢
    rw [List.filter_cons, hq]
    simp only [Bool.not_false, if_true, List.take_succ_cons, List.cons_append]
    rw [this]
theorem ins_at {s v : ByteArray} : ∀ (k : Nat) (L : Al), has L s = false → k ≤ L.length → (∀ p ∈ L.take k, bytesBefore p.1.data.toList s.data.toList = true) → (∀ p r, L.drop k = p :: r → bytesBefore p.1.data.toList s.data.toList = false) → ins (s, v) L = L.take k ++ (s, v) :: L.drop k
  | 0, [], _, _, _, _ => rfl
  | 0, q :: r, hh, _, _, h2 => by
    have h3 := h2 q r rfl
    rw [has_cons, Bool.or_eq_false_iff] at hh
    have h4 := before_tri h3 (Ne.symm (hit_ne hh.1))
    show ins (s, v) (q :: r) = _
    unfold ins
    rw [if_pos h4]
    rfl
  | k + 1, [], _, hk, _, _ => by simp at hk
  | k + 1, q :: r, hh, hk, h1, h2 => by
    rw [has_cons, Bool.or_eq_false_iff] at hh
    have h3 := before_not (h1 q (by simp))
    unfold ins
    rw [show bytesBefore (s, v).1.data.toList q.1.data.toList = false from h3, if_neg (by simp), ins_at k r hh.2 (by simpa using hk) (fun p hp => h1 p (by simp [hp])) (fun p r' hd => h2 p r' (by simpa using hd))]
    rfl
theorem has_del (L : Al) (s : ByteArray) : has (del L s) s = false := by
  unfold has del
  rw [List.any_eq_false]
  intro p hp
  have := (List.mem_filter.1 hp).2
  simpa using this
theorem length_del (L : Al) (s : ByteArray) (hr : Rising L) : (del L s).length + (if has L s then 1 else 0) = L.length := by
  induction L with
  | nil => rfl
  | cons p r ih =>
    have h1 := List.pairwise_cons.1 hr
    rw [has_cons]
    cases hp : hit s p with
    | true =>
      have := del_at (s := s) (p := p) 0 (p :: r) r hr rfl hp
      rw [this]; simp
    | false =>
      have := ih h1.2
      unfold del at this ⊢
      rw [List.filter_cons, hp]
      simp only [Bool.not_false, if_true, List.length_cons, Bool.false_or]
      omega
theorem length_ins (p : ByteArray × ByteArray) : ∀ L : Al, (ins p L).length = L.length + 1
  | [] => rfl
  | q :: r => by
    rw [ins]
    split
    · rfl
    · rw [List.length_cons, length_ins p r]; rfl
theorem length_put (L : Al) (s v : ByteArray) (hr : Rising L) : (put L s v).length = if has L s then L.length else L.length + 1 := by
  have := length_del L s hr
  unfold put
  rw [length_ins]
  split at this <;> rename_i h <;> simp [h] <;> omega
theorem sorted_keys {L : Al} (hr : Rising L) {ss : List (List UInt8)} (hp : ss.Perm (L.map keyB)) : ss.mergeSort (fun x y => decide (x ≤ y)) = L.map keyB := by
  have h1 : ss.mergeSort leB = (L.map keyB).mergeSort leB := mergeSort_of_perm hp
  refine h1.trans ?_
  have h2 : (L.map keyB).Pairwise (fun x y => leB x y = true) := by
    refine List.pairwise_map.2 (hr.imp fun {p q} h => ?_)
    rw [before_lt, decide_eq_true_eq] at h
    exact decide_eq_true (List.le_of_lt h)
  exact List.mergeSort_of_pairwise h2
end Al
end Go.Proofs.Ytbkmfnjjfamjjaa
