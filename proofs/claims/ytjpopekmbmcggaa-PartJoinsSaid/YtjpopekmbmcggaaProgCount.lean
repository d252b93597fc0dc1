/- What part.Count answers: the closure that counts, and the call. -/
import Derived.Test.YtjpopekmbmcggaaPartEach
import Derived.Test.YtjpopekmbmcggaaProgDeep
import Derived.Laws.EntriesVeiled
namespace Go.Proofs.Ytjpopekmbmcggaa
open Go.RowKit

/-- What the count is, in a block of the call's own, behind it the function that adds. -/
structure CtI (B b0 b1 : Nat) (wc : World) (m : Nat) (w : World) : Prop where
  below : Below B wc w
  fn : w.heap[b0]? = some (.cells #[.func (.func 23) #[] #[]] 46 (0, 0))
  sum : w.heap[b1]? = some (.cells #[.int .i64 (m : Nat)] 45 (0, 0))

section
variable {B b0 b1 : Nat} {wc : World}
theorem CtI.alloc {m : Nat} {w : World} (h : CtI B b0 b1 wc m w) (hB : B ≤ w.heap.size) (ob : Obj) : CtI B b0 b1 wc m (w.alloc ob) :=
  ⟨h.below.alloc hB ob, (Below.heap_alloc _ _ _ (Array.getElem?_eq_some_iff.1 h.fn).1).trans h.fn, (Below.heap_alloc _ _ _ (Array.getElem?_eq_some_iff.1 h.sum).1).trans h.sum⟩
theorem CtI.set {m : Nat} {w : World} (h : CtI B b0 b1 wc m w) (hB : B ≤ b1) (hne : b0 ≠ b1) (m' : Nat) : CtI B b0 b1 wc m' (w.setCell ⟨b1, 0, none⟩ (.int .i64 (m' : Nat))) :=
  ⟨h.below.setCell hB _, (Below.heap_setCell _ _ _ _ hne).trans h.fn, by simp [World.setCell, Array.getElem?_modify, h.sum]⟩

set_option maxRecDepth 100000 in
set_option maxHeartbeats 1000000 in
theorem add_any (hB : B ≤ b1) (hne : b0 ≠ b1) (m : Nat) (w : World) (v0 v1 v2 v3 v4 : Value) (hm : m ≤ 1073741824) (hBw : B ≤ w.heap.size) (h : CtI B b0 b1 wc m w) :
    Calls Try.prog 23 #[.pointer (some ⟨b1, 0, none⟩), .agg #[v0, v1, v2, v3, v4]] w fun e w' => e = .returned (.tuple #[]) ∧ CtI B b0 b1 wc (m + 1) w' ∧ ∀ b, b < w.heap.size → b ≠ b1 → w'.heap[b]? = w.heap[b]? := by
  have hx := (h.alloc hBw (.cells #[v0, v1, v2, v3, v4] 37))
  have HX := Lib.hid hx
  have q0 := word_cell hx.sum
  have fz : (w.alloc (.cells #[v0, v1, v2, v3, v4] 37)).frozen? ⟨b1, 0, none⟩ = false := by
    have := hx.sum
    generalize w.alloc (.cells #[v0, v1, v2, v3, v4] 37) = Y at this
    simp [World.frozen?, this]
  clear h hx
  go_enter Try.func23, Try.ntmps23
  go_wp2
  go_end0
  refine ⟨rfl, ?_, fun b hb hn => ?_⟩
  · rw [show ((m : Int) + 1) = ((m + 1 : Nat) : Int) by omega]
    exact HX.out.set hB hne (m + 1)
  · exact (Below.heap_setCell _ _ _ _ hn).trans (Below.heap_alloc _ _ _ hb)

theorem clo_count (hB : B ≤ b1) (hne : b0 ≠ b1) (hBc : B ≤ wc.heap.size) : StepOk 24 #[.pointer (some ⟨b0, 0, none⟩), .pointer (some ⟨b1, 0, none⟩)] (fun m w => CtI B b0 b1 wc m w) (fun _ b => b = b1) (fun m _ _ => m + 1) id := by
  intro m w k t o Ak n ck cm h hm
  have hBw : B ≤ w.heap.size := Nat.le_trans hBc h.below.size
  have hx := (h.alloc hBw (.cells #[.int .i64 k, .string t, .string o, .slice Ak n ck, .slice cm.a cm.n cm.c] 37))
  have HX := Lib.hid hx
  have HN := Lib.hid (show ∀ b, b < w.heap.size → (w.alloc (.cells #[.int .i64 k, .string t, .string o, .slice Ak n ck, .slice cm.a cm.n cm.c] 37)).heap[b]? = w.heap[b]? from fun b hb => Below.heap_alloc _ _ _ hb)
  have HSZ := Lib.hid (show w.heap.size < (w.alloc (.cells #[.int .i64 k, .string t, .string o, .slice Ak n ck, .slice cm.a cm.n cm.c] 37)).heap.size by simp)
  have q0 := word_cell hx.fn
  obtain ⟨x0, x1, x2, x3, x4⟩ := box_cells (heap_alloc_new w (.cells #[.int .i64 k, .string t, .string o, .slice Ak n ck, .slice cm.a cm.n cm.c] 37))
  clear h hx
  go_enter Try.func24, Try.ntmps24
  go_wp2_with fail
  refine (add_any hB hne m _ _ _ _ _ _ hm (Nat.le_trans hBw (Nat.le_of_lt HSZ.out)) HX.out).mono ?_
  rintro e w1 ⟨rfl, h1, hk⟩
  have H1 := Lib.hid h1
  have HK := Lib.hid hk
  clear h1 hk q0 x0 x1 x2 x3 x4
  go_wp2
  go_end0
  exact ⟨rfl, H1.out, fun b hb hn => (HK.out b (Nat.lt_trans hb HSZ.out) hn).trans (HN.out b hb)⟩
end

theorem fold_count : ∀ (l : Pts) (m : Nat), l.fold (fun m _ _ => m + 1) m = m + l.count
  | .nil, _ => rfl
  | .cons _ _ _ kids _ rest, m => by
    rw [Pts.fold, fold_count rest, fold_count kids, Pts.count]
    omega

theorem enter_count (args : Array Value) (w : World) : (callFunc 24 args).run Try.prog w = .ok (.enter 24 args) w := by
  simp [callFunc, go_sem, Try.func24, Try.f24]

theorem three_blocks (w : World) (o0 o1 o2 : Obj) : (((w.alloc o0).alloc o1).alloc o2).heap[w.heap.size]? = some o0 ∧ (((w.alloc o0).alloc o1).alloc o2).heap[w.heap.size + 1]? = some o1 ∧ (((w.alloc o0).alloc o1).alloc o2).heap[w.heap.size + 1 + 1]? = some o2 := by
  have s1 : (w.alloc o0).heap.size = w.heap.size + 1 := by simp
  have s2 : ((w.alloc o0).alloc o1).heap.size = w.heap.size + 1 + 1 := by simp
  refine ⟨?_, ?_, ?_⟩
  · rw [Below.heap_alloc _ _ _ (by omega), Below.heap_alloc _ _ _ (by omega)]
    exact heap_alloc_new w o0
  · rw [Below.heap_alloc _ _ _ (by omega), ← s1]
    exact heap_alloc_new _ o1
  · rw [← s2]
    exact heap_alloc_new _ o2

theorem count_start (w : World) (v : Value) : CtI w.heap.size (w.heap.size + 1 + 1) (w.heap.size + 1) w 0 (((w.alloc (.cells #[v] 24)).alloc (.cells #[.int .i64 0] 45)).alloc (.cells #[.func (.func 23) #[] #[]] 46)) ∧
    (((w.alloc (.cells #[v] 24)).alloc (.cells #[.int .i64 0] 45)).alloc (.cells #[.func (.func 23) #[] #[]] 46)).cell? ⟨w.heap.size, 0, none⟩ = some v := by
  have hb : Below w.heap.size w (((w.alloc (.cells #[v] 24)).alloc (.cells #[.int .i64 0] 45)).alloc (.cells #[.func (.func 23) #[] #[]] 46)) :=
    (((Below.refl _ _).alloc (Nat.le_refl _) _).alloc (by simp) _).alloc (by simp; omega) _
  obtain ⟨h0, h1, h2⟩ := three_blocks w (.cells #[v] 24) (.cells #[.int .i64 0] 45) (.cells #[.func (.func 23) #[] #[]] 46)
  exact ⟨⟨hb, h2, h1⟩, word_cell h0⟩

set_option maxRecDepth 100000 in
set_option maxHeartbeats 1000000 in
theorem count_p (l : Pts) (A : Option Addr) (c : Nat) (G : Nat → Prop) (w : World) (hwt : l.wt ≤ 1073741824) (hG : ∀ k, G k → k < w.heap.size) (hp : PtsAt G w A 0 l) :
    Calls Try.prog 11 #[.agg #[.slice A l.len c]] w fun e w' => e = .returned (.int .i64 (l.count : Nat)) ∧ Below w.heap.size w w' := by
  have hcw := Pts.count_wt l
  have HG := Lib.hid hG
  have HP := Lib.hid hp
  obtain ⟨hs, q0⟩ := count_start w (.slice A l.len c)
  have HS := Lib.hid hs
  clear hG hp hs
  go_enter Try.func11, Try.ntmps11
  go_wp2_with fail
  clear q0
  refine (each_any 24 #[.pointer (some ⟨w.heap.size + 1 + 1, 0, none⟩), .pointer (some ⟨w.heap.size + 1, 0, none⟩)] (fun m w' => CtI w.heap.size (w.heap.size + 1 + 1) (w.heap.size + 1) w m w') (fun _ b => b = w.heap.size + 1) (fun m _ _ => m + 1) id G w enter_count
    (clo_count (by omega) (by omega) (Nat.le_refl _)) (fun s w' ob h e => ?_) (fun s _ _ => Nat.le_refl _) (fun s w' ob h => h.alloc h.below.size ob) (fun s w' h p hp => ⟨World.cell?_of_block (h.below.block _ (HG.out _ hp)), Nat.lt_of_lt_of_le (HG.out _ hp) h.below.size⟩) (l.deep + 1) l A c _ 0 (by omega) hwt (by simp; omega) HP.out HS.out).mono ?_
  · have := (Array.getElem?_eq_some_iff.1 h.sum).1
    omega
  rintro e w1 ⟨rfl, h1⟩
  rw [fold_count, Nat.zero_add] at h1
  have H1 := Lib.hid h1
  have q1 := word_cell h1.sum
  clear h1
  go_wp2
  go_ret
  exact ⟨rfl, H1.out.below⟩
end Go.Proofs.Ytjpopekmbmcggaa
