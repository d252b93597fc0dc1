/- What part.Count answers, at words of any size: the count, as far as an int holds it. -/
import Derived.Test.YtjpopekmbmcggaaPartEachW
import Derived.Test.YtjpopekmbmcggaaProgCount
import Derived.Laws.EntriesVeiled
namespace Go.Proofs.Ytjpopekmbmcggaa
open Go.RowKit

theorem wrap_lo (x : Int) : -9223372036854775808 ≤ wrap64 x ∧ wrap64 x ≤ 9223372036854775807 := by unfold wrap64; omega
theorem wrap_add (x y : Int) : wrap64 (wrap64 x + y) = wrap64 (x + y) := by unfold wrap64; omega
theorem wrap_two (x y : Int) : wrap64 (wrap64 x + wrap64 y) = wrap64 (x + y) := by unfold wrap64; omega
theorem wrap_same (x : Int) (h : -9223372036854775808 ≤ x ∧ x ≤ 9223372036854775807) : wrap64 x = x := by unfold wrap64; omega
/-- What the count is, in a block of the call's own, behind it the function that adds. -/
structure CtW (B b0 b1 : Nat) (wc : World) (m : Int) (w : World) : Prop where
  below : Below B wc w
  fn : w.heap[b0]? = some (.cells #[.func (.func 23) #[] #[]] 46 (0, 0))
  sum : w.heap[b1]? = some (.cells #[.int .i64 m] 45 (0, 0))

section
variable {B b0 b1 : Nat} {wc : World}
theorem CtW.alloc {m : Int} {w : World} (h : CtW B b0 b1 wc m w) (hB : B ≤ w.heap.size) (ob : Obj) : CtW B b0 b1 wc m (w.alloc ob) :=
  ⟨h.below.alloc hB ob, (Below.heap_alloc _ _ _ (Array.getElem?_eq_some_iff.1 h.fn).1).trans h.fn, (Below.heap_alloc _ _ _ (Array.getElem?_eq_some_iff.1 h.sum).1).trans h.sum⟩
theorem CtW.set {m : Int} {w : World} (h : CtW B b0 b1 wc m w) (hB : B ≤ b1) (hne : b0 ≠ b1) (m' : Int) : CtW B b0 b1 wc m' (w.setCell ⟨b1, 0, none⟩ (.int .i64 m')) :=
  ⟨h.below.setCell hB _, (Below.heap_setCell _ _ _ _ hne).trans h.fn, by simp [World.setCell, Array.getElem?_modify, h.sum]⟩

set_option maxRecDepth 100000 in
set_option maxHeartbeats 1000000 in
theorem add_w (hB : B ≤ b1) (hne : b0 ≠ b1) (m : Int) (w : World) (v0 v1 v2 v3 v4 : Value) (hBw : B ≤ w.heap.size) (h : CtW B b0 b1 wc m w) :
    Calls Try.prog 23 #[.pointer (some ⟨b1, 0, none⟩), .agg #[v0, v1, v2, v3, v4]] w fun e w' => e = .returned (.tuple #[]) ∧ CtW B b0 b1 wc (wrap64 (m + 1)) w' ∧ ∀ b, b < w.heap.size → b ≠ b1 → w'.heap[b]? = w.heap[b]? := by
  have hx := (h.alloc hBw (.cells #[v0, v1, v2, v3, v4] 37))
  have HX := Lib.hid hx
  have q0 := word_cell hx.sum
  have fz : (w.alloc (.cells #[v0, v1, v2, v3, v4] 37)).frozen? ⟨b1, 0, none⟩ = false := by
    have := hx.sum
    generalize w.alloc (.cells #[v0, v1, v2, v3, v4] 37) = Y at this
    simp [World.frozen?, this]
  obtain ⟨W, hW⟩ : ∃ W, wrap64 (m + 1) = W := ⟨_, rfl⟩
  clear h hx
  go_enter Try.func23, Try.ntmps23
  go_wp2
  go_end0
  refine ⟨rfl, ?_, fun b hb hn => ?_⟩
  · have := HX.out.set hB hne (wrap64 (m + 1))
    first | exact this | (rw [hW] at this ⊢; exact this) | (rw [hW] at this; exact this)
  · exact (Below.heap_setCell _ _ _ _ hn).trans (Below.heap_alloc _ _ _ hb)

theorem clo_count_w (hB : B ≤ b1) (hne : b0 ≠ b1) (hBc : B ≤ wc.heap.size) : StepW 24 #[.pointer (some ⟨b0, 0, none⟩), .pointer (some ⟨b1, 0, none⟩)] (fun m w => CtW B b0 b1 wc m w) (fun _ b => b = b1) (fun m _ _ => wrap64 (m + 1)) := by
  intro m w k t o Ak n ck cm h
  have hBw : B ≤ w.heap.size := Nat.le_trans hBc h.below.size
  have hx := (h.alloc hBw (.cells #[.int .i64 k, .string t, .string o, .slice Ak n ck, .slice cm.a cm.n cm.c] 37))
  have HX := Lib.hid hx
  have HN := Lib.hid (show ∀ b, b < w.heap.size → (w.alloc (.cells #[.int .i64 k, .string t, .string o, .slice Ak n ck, .slice cm.a cm.n cm.c] 37)).heap[b]? = w.heap[b]? from fun b hb => Below.heap_alloc _ _ _ hb)
  have HSZ := Lib.hid (show w.heap.size < (w.alloc (.cells #[.int .i64 k, .string t, .string o, .slice Ak n ck, .slice cm.a cm.n cm.c] 37)).heap.size by simp)
  have q0 := word_cell hx.fn
  obtain ⟨x0, x1, x2, x3, x4⟩ := box_cells (heap_alloc_new w (.cells #[.int .i64 k, .string t, .string o, .slice Ak n ck, .slice cm.a cm.n cm.c] 37))
  clear h hx
  go_enter Try.func24, Try.ntmps24
  go_wp2_with fail
  refine (add_w hB hne m _ _ _ _ _ _ (Nat.le_trans hBw (Nat.le_of_lt HSZ.out)) HX.out).mono ?_
  rintro e w1 ⟨rfl, h1, hk⟩
  have H1 := Lib.hid h1
  have HK := Lib.hid hk
  clear h1 hk q0 x0 x1 x2 x3 x4
  go_wp2
  go_end0
  exact ⟨rfl, H1.out, fun b hb hn => (HK.out b (Nat.lt_trans hb HSZ.out) hn).trans (HN.out b hb)⟩
end

theorem fold_count_w : ∀ (l : Pts) (m : Int), -9223372036854775808 ≤ m ∧ m ≤ 9223372036854775807 → l.fold (fun m _ _ => wrap64 (m + 1)) m = wrap64 (m + (l.count : Int))
  | .nil, m, h => by rw [Pts.fold, Pts.count]; exact (wrap_same _ (by omega)).symm.trans (by congr 1; omega)
  | .cons _ _ _ kids _ rest, m, h => by
    rw [Pts.fold, fold_count_w kids _ (wrap_lo _), wrap_add, fold_count_w rest _ (wrap_lo _), wrap_add, Pts.count]
    congr 1
    omega

theorem count_start_w (w : World) (v : Value) : CtW w.heap.size (w.heap.size + 1 + 1) (w.heap.size + 1) w 0 (((w.alloc (.cells #[v] 24)).alloc (.cells #[.int .i64 0] 45)).alloc (.cells #[.func (.func 23) #[] #[]] 46)) ∧
    (((w.alloc (.cells #[v] 24)).alloc (.cells #[.int .i64 0] 45)).alloc (.cells #[.func (.func 23) #[] #[]] 46)).cell? ⟨w.heap.size, 0, none⟩ = some v :=
  ⟨⟨(count_start w v).1.below, (count_start w v).1.fn, (count_start w v).1.sum⟩, (count_start w v).2⟩

set_option maxRecDepth 100000 in
set_option maxHeartbeats 1000000 in
theorem count_w (l : Pts) (A : Option Addr) (c : Nat) (G : Nat → Prop) (w : World) (hwt : l.mx ≤ 562949953421312) (hG : ∀ k, G k → k < w.heap.size) (hp : PtsAt G w A 0 l) :
    Calls Try.prog 11 #[.agg #[.slice A l.len c]] w fun e w' => e = .returned (.int .i64 (wrap64 (l.count : Int))) ∧ Below w.heap.size w w' := by
  have HG := Lib.hid hG
  have HP := Lib.hid hp
  obtain ⟨hs, q0⟩ := count_start_w w (.slice A l.len c)
  have HS := Lib.hid hs
  clear hG hp hs
  go_enter Try.func11, Try.ntmps11
  go_wp2_with fail
  clear q0
  refine (each_w 24 #[.pointer (some ⟨w.heap.size + 1 + 1, 0, none⟩), .pointer (some ⟨w.heap.size + 1, 0, none⟩)] (fun m w' => CtW w.heap.size (w.heap.size + 1 + 1) (w.heap.size + 1) w m w') (fun _ b => b = w.heap.size + 1) (fun m _ _ => wrap64 (m + 1)) G w enter_count
    (clo_count_w (by omega) (by omega) (Nat.le_refl _)) (fun s w' ob h e => ?_) (fun s w' ob h => h.alloc h.below.size ob) (fun s w' h p hp => ⟨World.cell?_of_block (h.below.block _ (HG.out _ hp)), Nat.lt_of_lt_of_le (HG.out _ hp) h.below.size⟩) (l.deep + 1) l A c _ 0 (by omega) hwt HP.out HS.out).mono ?_
  · have := (Array.getElem?_eq_some_iff.1 h.sum).1
    omega
  rintro e w1 ⟨rfl, h1⟩
  rw [fold_count_w _ _ (by omega), Int.zero_add] at h1
  have H1 := Lib.hid h1
  have q1 := word_cell h1.sum
  clear h1
  obtain ⟨Q, hQ⟩ : ∃ Q, wrap64 (l.count : Int) = Q := ⟨_, rfl⟩
  rw [hQ] at q1
  have HQ := Lib.hid hQ
  clear hQ
  go_wp2
  go_ret
  exact ⟨by rw [HQ.out]; rfl, H1.out.below⟩
end Go.Proofs.Ytjpopekmbmcggaa
