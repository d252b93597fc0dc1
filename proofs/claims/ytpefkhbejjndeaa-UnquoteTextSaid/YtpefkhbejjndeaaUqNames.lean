/- unquote.Names: walked: the names in any word. -/
import Derived.Test.YtpefkhbejjndeaaUqNamed
namespace Go.Proofs.Ytpefkhbejjndeaa
open Go.RowKit Go.Shelf

attribute [local go_sem] Oper.semAt_some

theorem nm_info : (Try.prog.info? 9).map (fun i => (i.zero, i.size, i.bytes)) = some (some (.string ⟨#[]⟩), 1, 16) := by kernel_rfl
/-- An append to a slice of strings, in a box, keeps the boxes of functions and of parts. -/
theorem Kq.appended {W w1 : World} {n₀ B : Nat} {t e : TypeId} {size : Nat} {v v' : Value} {k : Nat} {xs : List Value} {tmp : Obj} (ht : ¬ (t = 25 ∨ t = 110 ∨ t = 41)) (he : ¬ (e = 25 ∨ e = 110 ∨ e = 41))
    (hv : Boxed W B t v) (hrow : W.ownsRow n₀ e size v k xs) (hgrow : (W.alloc tmp).grownBy w1 v.ownBlock) (hb : Below n₀ W (w1.setCell ⟨B, 0, none⟩ v')) : Kq n₀ W (w1.setCell ⟨B, 0, none⟩ v') := by
  refine ⟨hb, fun j T vs hT hj => ?_⟩
  have hjl := (Array.getElem?_eq_some_iff.1 hj).1
  have h1 : (W.alloc tmp).heap[j]? = some (.cells vs T (0, 0)) := (Below.heap_alloc W tmp j hjl).trans hj
  have h2 : w1.heap[j]? = some (.cells vs T (0, 0)) := by
    refine (hgrow.block j (by rw [World.size_alloc]; omega) ?_).trans h1
    intro e'
    rcases hrow.2 with ⟨rfl, _⟩ | ⟨g, cap, cur, rfl, _, hgb, _⟩
    · simp [Value.ownBlock] at e'
    · obtain rfl : j = g := by simpa [Value.ownBlock] using e'
      rw [hgb] at hj
      cases hj
      exact he hT
  refine (Below.heap_setCell _ _ _ j ?_).trans h2
  intro hjB
  have hjB : j = B := hjB
  rw [hjB, show W.heap[B]? = _ from hv] at hj
  cases hj
  exact ht hT
theorem kq_b {n₀ : Nat} {w : World} (hn : n₀ ≤ w.heap.size) (W : World) (l : Nat) (o o' : Obj) (hl : w.heap.size ≤ l) (h : W.heap[l]? = some o) (hc : o.isCells = false) (hw : o.isWalk = false) : Kq n₀ W (W.putObj l o') := by
  refine ⟨belowK_b hn W l o o' hl h hc hw, fun j T vs _ hj => ?_⟩
  refine (World.putObj_heap_other ?_).trans hj
  rintro rfl
  rw [hj] at h; cases h; cases hc

set_option maxRecDepth 100000 in
set_option maxHeartbeats 4000000 in
theorem names_in (ps : Pts) (A : Option Addr) (c : Nat) (G : Nat → Prop) (w : World) (hwt : ps.wt ≤ 1073741824) (hG : ∀ k, G k → k < w.heap.size) (hp : PtsAt G w A 0 ps) :
    CallsIn Fence.wide 9 Try.prog 41 #[.agg #[.slice A ps.len c]] w fun e W' => ∃ v, e = .returned v ∧ W'.ownsRow w.heap.size 9 1 v ps.nms.length (ps.nms.map Value.string) ∧ (v = .slice none 0 0 ↔ ps.nms = []) ∧ Below w.heap.size w W' := by
  have hlen := Pts.nms_wt ps
  obtain ⟨i0, hi, hz0, hz1, hz2⟩ := info_parts nm_info
  refine callsIn_of_wp_marks Try.func41 rfl trivial ?_ rfl
  simp only [Try.ntmps41, List.size_toArray, List.length_cons, List.length_nil, Nat.reduceAdd, Nat.reduceSub, Array.replicate_succ, Array.replicate_zero, List.push_toArray, List.append_toArray, List.nil_append, List.cons_append]
  gi_wp2_with (refine ⟨trivial, ?_⟩; gi_at_call 69; refine (named_in _ _ _ _ _).mono ?_; rintro e w' ⟨rfl, rfl⟩)
  have bO := (Boxed.new (w.alloc (.cells #[.slice A ps.len c] 33)) 49 (.slice none 0 0)).alloc (.cells #[.slice A ps.len c] 31)
  have bN := Boxed.new ((w.alloc (.cells #[.slice A ps.len c] 33)).alloc (.cells #[.slice none 0 0] 49)) 31 (.slice A ps.len c)
  rw [World.size_alloc] at bO
  rw [World.size_alloc, World.size_alloc] at bN
  have hB0 : Below w.heap.size w (((w.alloc (.cells #[.slice A ps.len c] 33)).alloc (.cells #[.slice none 0 0] 49)).alloc (.cells #[.slice A ps.len c] 31)) := (((Below.refl _ w).alloc (Nat.le_refl _) _).alloc (by simp) _).alloc (by simp; omega) _
  refine wpIn_rangeFunc_ownG rfl (by omega) (gf := 90) (lb := #[.pointer (some ⟨w.heap.size + 2, 0, none⟩)]) rfl trivial (enters_of Try.func90 (by kernel_rfl) rfl)
    (nm_stops 8 w.heap.size (w.heap.size + 2) ps A c G _ hwt hG (by simp; omega) (hp.old hG hB0) bN.cell (by simp)) Kq.trans (kq_b (by simp; omega)) (Below.refl _ _) (fun _ => rfl)
    (fun pre W => (∃ v, Boxed W (w.heap.size + 1) 49 v ∧ W.ownsRow w.heap.size 9 1 v pre.length (pre.map Value.string) ∧ (v = .slice none 0 0 ↔ pre = [])) ∧ Below w.heap.size w W)
    (fun _ _ _ => False)
    (OwnFrom.and (Own.from (holdsRow_own w.heap.size (w.heap.size + 1) 49 9 1 (fun pre : List ByteArray => pre.length) (fun pre => pre.map Value.string) (fun pre v => v = .slice none 0 0 ↔ pre = [])) _) (ownFrom_below (Nat.le_refl _) (by simp; omega)))
    (fun _ _ _ _ _ hs _ _ => hs)
    ⟨⟨_, bO, World.ownsRow_nil _ _ _ _, by simp⟩, hB0⟩
    (fun x => { tmps := #[.agg #[.slice A ps.len c], .pointer (some ⟨w.heap.size, 0, none⟩), .slice none 0 0, .pointer (some ⟨w.heap.size + 1, 0, none⟩), .string x, .pointer (some ⟨w.heap.size, 0, none⟩), .slice A ps.len c, .func (.func 90) #[] #[.pointer (some ⟨w.heap.size + 2, 0, none⟩)], .string x, undef, undef, undef, undef, undef], defers := [] }) ?assign ?body ?done ?stop
  case assign =>
    intro l x W K hK
    gi_wp2
    exact hK
  case body =>
    rintro l pre x W ⟨⟨v, hv, hrow, hnil⟩, hB⟩ hlt
    have hc := hv.cell
    have hmx : ps.nms.length ≤ maxLen := Nat.le_trans (Nat.le_trans hlen hwt) (by decide)
    gi_wp2_with (gi_at_builtin; refine wpListIn_append_own _ rfl _ _ 49 rfl w.heap.size 9 i0 (.string ⟨#[]⟩) 1 16 Try.underlying49 hi hz0 hz1 hz2 rfl (by decide) _ _ _ rfl (hrow.alloc _) ⟨W.heap.size, 0, none⟩ 1 1 [.string x] rfl rfl (cell_one_new _ _ _) (by simp [Value.oneCell']) (by omega) (by omega) (by have := hB.size; simp; omega) ?_; intro v' w1 hown' hgrow _; obtain ⟨g', cap', rfl⟩ := ownsRow_succ hown'; obtain ⟨hv1, hv2, hr2, hk2, hb2⟩ := hv.appended (by decide) hrow hB.size (Nat.le_add_right _ _) hown' hgrow; have hkq := Kq.appended (by decide) (by decide) hv hrow hgrow hb2; have hc1 := hv1.cell; have hf1 := hv1.frozen)
    exact ⟨hk2.from _, hkq, ⟨_, hv2, by simpa using hr2, by simp⟩, hB.trans hb2⟩
  case done =>
    rintro D ys W hD rfl ⟨⟨v, hv, hrow, hnil⟩, hB⟩ hK
    have hc := hv.cell
    gi_wp2
    refine ⟨by simp, .inl ⟨_, _, rfl, run_takeDeferred hK, ?_⟩⟩
    exact ⟨_, results_tmp rfl _ _ _, v, rfl, ownsRow_putObj hrow _ hK rfl, hnil, hB.trans (belowK_b (w := w) (Nat.le_refl _) W D _ _ (by simp at hD; omega) hK rfl rfl)⟩
  case stop =>
    rintro D c pre W _ _ h _
    exact h.elim

/-- The names in a word: a slice of its own. -/
theorem names_p (ps : Pts) (A : Option Addr) (c : Nat) (G : Nat → Prop) (w : World) (hwt : ps.wt ≤ 1073741824) (hG : ∀ k, G k → k < w.heap.size) (hp : PtsAt G w A 0 ps) :
    Calls Try.prog 41 #[.agg #[.slice A ps.len c]] w fun e W' => ∃ v, e = .returned v ∧ W'.ownsRow w.heap.size 9 1 v ps.nms.length (ps.nms.map Value.string) ∧ (v = .slice none 0 0 ↔ ps.nms = []) ∧ Below w.heap.size w W' := callsIn_wide.1 (names_in ps A c G w hwt hG hp)
end Go.Proofs.Ytpefkhbejjndeaa
