/- here.Reader.over at the end line; what an append to the lines makes. -/
import Derived.Test.YtpefkhbejjndeaaHereMem
import Derived.Laws.BytesArg
namespace Go.Proofs.Ytpefkhbejjndeaa
open Go.RowKit

theorem own_drewN {w : World} {B : Nat} {T : TypeId} {v : Value} {n : Nat} {xs : List Value} (h : w.ownsRow B T 1 v n xs) (m : Nat) : (w.drewN m).ownsRow B T 1 v n xs := by
  refine ⟨h.1, ?_⟩
  rcases h.2 with h | ⟨g, cap, cur, hv, hb, hg, h⟩
  · exact .inl h
  · exact .inr ⟨g, cap, cur, hv, hb, by rw [show (w.drewN m).heap = w.heap by simp]; exact hg, h⟩

/-- The line's bytes as a string. -/
theorem conv_row {w : World} {B : Nat} {v : Value} {l : List UInt8} (h : w.ownsRow B 5 1 v l.length (bcs l)) : (convert 28 9 v).run Try.prog w = .ok (bs l) w := by
  rcases h.2 with ⟨rfl, hn⟩ | ⟨g, cap, cur, rfl, hb, hg, hc, hm, hcs, htake⟩
  · obtain rfl : l = [] := List.length_eq_zero_iff.1 hn
    exact run_convert_bytes_nil w 28 5 Try.underlying28 Try.underlying5 0 0 9 Try.underlying9
  · have := run_convert_bytes_arg (P := Try.prog) w 28 5 Try.underlying28 Try.underlying5 g 0 l.length cap (l.map fun x => (x.toNat : Int)) (by simp) (fun i hi => by
      have hx : (bcs l)[i]? = some (.int .u8 (l[i].toNat : Int)) := by simp [bcs, hi]
      rw [← htake, List.getElem?_take_of_lt (by omega)] at hx
      simp only [World.cell?, hg]
      simp [hi] at hx ⊢
      exact hx) 9 Try.underlying9
    rw [this]
    unfold bs strOfNums
    rw [List.map_map]
    rw [(List.map_congr_left fun x _ => by simp : List.map ((fun n : Int => UInt8.ofNat n.toNat) ∘ fun x : UInt8 => (x.toNat : Int)) l = List.map id l), List.map_id]

set_option maxRecDepth 100000 in
set_option maxHeartbeats 1000000 in
theorem over_ends {B b : Nat} {e : ByteArray} {t : Bool} {ls : List (List UInt8)} {l : List UInt8} {sm : Bool} (w : World) (h : Rd B b e t ls l sm 0 w) (he : l = e.toList) :
    Calls Try.prog 81 #[.pointer (some ⟨b, 0, none⟩)] w fun r w' => r = .returned (.int .i64 1) ∧ Rd B b e t ls l sm 1 w' ∧ Below B w w' := by
  have H := Lib.hid h
  obtain ⟨vls, vl, c0, c1, c2, c3, c4, c5, fz, o1, o2, hh⟩ := h.cells
  have hconv : ∀ n, (convert 28 9 vl).run Try.prog (w.drewN n) = .ok (.string ⟨l.toArray⟩) (w.drewN n) := fun n => conv_row (own_drewN o2 n)
  have heq : (⟨l.toArray⟩ : ByteArray) = e := by rw [he]; exact mk_list e
  rw [heq] at hconv
  clear h o1 o2 hh
  go_enter Try.func81, Try.ntmps81
  go_wp2_with fail
  go_quiet (fail)
  go_wp2_with fail
  go_ret
  have hb := belowN (Below.refl w.heap.size w) nq
  exact ⟨rfl, (H.out.keep hb).setSig 1, (belowN (Below.refl B w) nq).setCell H.out.1 _⟩

theorem heap_new (w : World) (o : Obj) : (w.drew.alloc o).heap[w.heap.size]? = some o := Array.getElem?_push_size
theorem info_string : (Try.prog.info? 9).map (fun i => (i.zero, i.size, i.bytes)) = some (some (.string ⟨#[]⟩), 1, 16) := by kernel_rfl
theorem own_form {w : World} {B : Nat} {T : TypeId} {v : Value} {n : Nat} {xs : List Value} (h : w.ownsRow B T 1 v n xs) : ∃ A c, v = .slice A n c ∧ n ≤ c ∧ (A = none → n = 0 ∧ c = 0) := by
  rcases h.2 with ⟨rfl, hn⟩ | ⟨g, cap, cur, rfl, hb, hg, hc, _⟩
  · exact ⟨none, 0, by rw [hn], by omega, fun _ => ⟨hn, rfl⟩⟩
  · exact ⟨_, cap, rfl, hc, fun h => by cases h⟩
/-- An append to the row of lines, cut to its length: it is laid anew. -/
theorem lines_append {w : World} {B : Nat} {A : Option Addr} {c : Nat} {ls : List (List UInt8)} (ty : TypeId) (h : w.ownsRow B 9 1 (.slice A ls.length c) ls.length (ls.map bs)) (x : List UInt8) (ad : Addr) (hx : w.cell? ad = some (bs x)) (hlen : ls.length ≤ 1099511627776) (hB : B ≤ w.heap.size) :
    ∃ cap w', (Builtin.append_ #[49, 49] ty #[.slice A ls.length ls.length, .slice (some ad) 1 1]).run Try.prog w = .ok (.slice (some ⟨w.heap.size, 0, none⟩) (ls.length + 1) cap) w' ∧
      w'.ownsRow B 9 1 (.slice (some ⟨w.heap.size, 0, none⟩) (ls.length + 1) cap) (ls ++ [x]).length ((ls ++ [x]).map bs) ∧ Below w.heap.size w w' := by
  obtain ⟨i0, hi, hz0, hz1, hz2⟩ := info_parts info_string
  have hnews : ∀ (j : Nat) (v : Value), [bs x][j]? = some v → w.cell? (ad.add j) = some v := fun j v hj => by
    match j, hj with
    | 0, hj => simp only [List.getElem?_cons_zero, Option.some.injEq] at hj; subst hj; simpa [Addr.add] using hx
    | j + 1, hj => simp at hj
  have hxl : (ls.map bs ++ [bs x]).length = ls.length + 1 := by simp
  have hfresh : ∀ (old : Nat), (w.drew.alloc (.cells ((ls.map bs).toArray ++ [bs x].toArray ++ Builtin.zeroCells (Value.string ⟨#[]⟩).cells (grownCap w (ls.length + 1) old 9 - (ls.length + 1))) 9)).ownsRow B 9 1
      (.slice (some ⟨w.heap.size, 0, none⟩) (ls.length + 1) (grownCap w (ls.length + 1) old 9)) (ls ++ [x]).length ((ls ++ [x]).map bs) := by
    intro old
    have hge := grownCap_ge w (ls.length + 1) old 9
    have hcm := grownCap_le_maxLen w (ls.length + 1) old 9 (by unfold maxLen; omega)
    refine ⟨by simp, .inr ⟨w.heap.size, _, _, by rw [List.length_append]; rfl, hB, heap_new w _, by rw [List.length_append]; exact hge, hcm, ?_, ?_⟩⟩
    · simp only [Array.size_append, List.size_toArray, size_zeroCells, List.length_map, List.length_cons, List.length_nil, Value.cells]
      simp
      omega
    · simp only [Array.toList_append, List.append_assoc]
      rw [← List.append_assoc, List.map_append, List.length_append]
      simp only [List.map_cons, List.map_nil, Nat.mul_one]
      rw [show ls.length + [x].length = (ls.map bs ++ [bs x]).length by simp]
      exact List.take_left
  have hbel : ∀ o, Below w.heap.size w (w.drew.alloc o) := fun o => (Below.refl _ _).drew.alloc (Nat.le_refl _) o
  rcases h.2 with ⟨hv, hn⟩ | ⟨g, cap, cur, hv, hb, hg, hc, hm, hcs, htake⟩
  · injection hv with e1 e2 e3
    subst e1
    obtain rfl : ls = [] := List.length_eq_zero_iff.1 hn
    have hf := hfresh 0
    simp only [List.map_nil, Array.empty_append] at hf
    exact ⟨_, _, run_append_nil w 49 ty 9 i0 _ Try.underlying49 hi hz0 ad 1 1 [bs x] (by rw [hz1]; rfl) hnews (by omega) (by omega) (by rw [hz2]; omega), hf, hbel _⟩
  · injection hv with e1 e2 e3
    subst e1 e3
    have holds : ∀ (j : Nat) (v : Value), (ls.map bs)[j]? = some v → w.cell? ((⟨g, 0, none⟩ : Addr).add j) = some v := fun j v hj => by
      rw [← htake] at hj
      have hlt : j < ls.length * 1 := by
        have := (List.getElem?_eq_some_iff.1 hj).1
        rw [List.length_take] at this
        omega
      rw [List.getElem?_take_of_lt hlt] at hj
      have : (⟨g, 0, none⟩ : Addr).add j = ⟨g, j, none⟩ := by unfold Addr.add; split <;> simp_all
      rw [this]
      simp only [World.cell?, hg]
      simpa using hj
    exact ⟨_, _, run_append_grow w 49 ty 9 i0 _ Try.underlying49 hi hz0 ⟨g, 0, none⟩ ls.length ls.length (ls.map bs) (by rw [hz1]; simp) holds ad 1 1 [bs x] (by rw [hz1]; rfl) hnews (by omega) (by omega) (growslice_fits (by omega) (by rw [hz2]; omega)), hfresh _, hbel _⟩
end Go.Proofs.Ytpefkhbejjndeaa
