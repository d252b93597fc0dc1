/- Many names, one behind the other. No program in sight. -/
import Derived.Test.YtbkmfnjjfamjjaaAlPlain
import Derived.Test.YtbkmfnjjfamjjaaCharPlain
namespace Go.Proofs.Ytbkmfnjjfamjjaa
open Go

def nm (i : Nat) : ByteArray := ⟨#[97, UInt8.ofNat (97 + i / 26), UInt8.ofNat (97 + i % 26)]⟩
def manyL (n : Nat) (v : ByteArray) : Al := (List.range n).map fun i => (nm i, v)
theorem nm_before : ∀ i : Fin 60, ∀ j : Fin 60, j < i → bytesBefore (nm j.val).data.toList (nm i.val).data.toList = true := by decide +kernel
theorem nm_plain : ∀ i : Fin 60, Chr.plain (nm i.val).data.toList = true := by decide +kernel
theorem many_len (n : Nat) (v : ByteArray) : (manyL n v).length = n := by simp [manyL]
theorem many_mem {n : Nat} {v : ByteArray} {p : ByteArray × ByteArray} (h : p ∈ manyL n v) : ∃ j, j < n ∧ p = (nm j, v) := by
  unfold manyL at h
  obtain ⟨j, hj, rfl⟩ := List.mem_map.1 h
  exact ⟨j, List.mem_range.1 hj, rfl⟩
theorem many_miss (n i : Nat) (v : ByteArray) (hn : n ≤ i) (hi : i < 60) : Al.has (manyL n v) (nm i) = false := by
  unfold Al.has
  rw [List.any_eq_false]
  intro p hp
  obtain ⟨j, hj, rfl⟩ := many_mem hp
  have := before_ne (nm_before ⟨i, hi⟩ ⟨j, by omega⟩ (by show j < i; omega))
  unfold Al.hit
  simpa using this
theorem many_put (i : Nat) (v : ByteArray) (hi : i < 60) : Al.put (manyL i v) (nm i) v = manyL (i + 1) v := by
  have hm := many_miss i i v (Nat.le_refl _) hi
  unfold Al.put
  rw [Al.del_none hm, Al.ins_at i (manyL i v) hm (by rw [many_len]; exact Nat.le_refl _) (fun p hp => ?_) (fun p r hd => ?_)]
  · rw [List.take_of_length_le (by rw [many_len]; exact Nat.le_refl _), List.drop_eq_nil_of_le (by rw [many_len]; exact Nat.le_refl _)]
    unfold manyL
    rw [List.range_succ, List.map_append]
    rfl
  · obtain ⟨j, hj, rfl⟩ := many_mem (List.mem_of_mem_take hp)
    exact nm_before ⟨i, hi⟩ ⟨j, by omega⟩ hj
  · rw [List.drop_eq_nil_of_le (by rw [many_len]; exact Nat.le_refl _)] at hd
    cases hd
theorem many_hit (n : Nat) (v : ByteArray) (hn : 0 < n) : Al.has (manyL n v) (nm 0) = true := by
  unfold Al.has
  rw [List.any_eq_true]
  exact ⟨(nm 0, v), List.mem_map.2 ⟨0, List.mem_range.2 hn, rfl⟩, by simp [Al.hit]⟩
end Go.Proofs.Ytbkmfnjjfamjjaa
