/- Texts in one: GtL7. -/
import Derived.Test.YtpidmmfjcghmeaaGreatTs14
namespace Go.Proofs.YtpidmmfjcghmeaaGreat
open Go.RowKit
attribute [local go_sem ↓] wp_append_wr

theorem up_unique : ∀ {l m : List Int}, l.Pairwise (· < ·) → m.Pairwise (· < ·) → (∀ s, s ∈ l ↔ s ∈ m) → l = m
  | [], [], _, _, _ => rfl
  | [], x :: m, _, _, h => absurd ((h x).2 (List.mem_cons_self ..)) (by simp)
  | x :: l, [], _, _, h => absurd ((h x).1 (List.mem_cons_self ..)) (by simp)
  | x :: l, y :: m, h1, h2, h => by
    rw [List.pairwise_cons] at h1 h2
    have hxy : x = y := by
      have a := (h x).1 (List.mem_cons_self ..)
      have b := (h y).2 (List.mem_cons_self ..)
      rcases List.mem_cons.1 a with e | a
      · exact e
      · rcases List.mem_cons.1 b with e | b
        · exact e.symm
        · have := h2.1 _ a; have := h1.1 _ b; omega
    subst hxy
    congr 1
    refine up_unique h1.2 h2.2 fun s => ?_
    constructor
    · intro hs
      rcases List.mem_cons.1 ((h s).1 (List.mem_cons_of_mem _ hs)) with e | hs2
      · subst e; have := h1.1 _ hs; omega
      · exact hs2
    · intro hs
      rcases List.mem_cons.1 ((h s).2 (List.mem_cons_of_mem _ hs)) with e | hs2
      · subst e; have := h2.1 _ hs; omega
      · exact hs2
/-- The rules that are kept so far, in a grammar's block. -/
structure Ot (G : Nat → Prop) (bo N b0 : Nat) (w0 w9 w : World) (vt vn vr : Value) (st : Int) (l : List (Int × List Int)) : Prop where
  out : w.heap[bo]? = some (.cells #[vt, vn, vr, .int .i64 st] 25 (0, 0))
  r : Nrow N 64 2 (RuV G w0) w vr l
  same : ∀ k, k < N → k ≠ bo → w.heap[k]? = w9.heap[k]?
  bel : Below b0 w0 w
  sz : N ≤ w.heap.size
section
variable {G : Nat → Prop} {bo N b0 : Nat} {w0 w w' w9 : World} {vt vn vr : Value} {st : Int} {l : List (Int × List Int)}
theorem Ot.below (h : Ot G bo N b0 w0 w9 w vt vn vr st l) (hb : Below w.heap.size w w') (h1 : bo < N) (hb0 : b0 ≤ N) : Ot G bo N b0 w0 w9 w' vt vn vr st l := by
  have hz := h.sz; have hz2 := hb.size
  exact ⟨(hb.block _ (by omega)).trans h.out, h.r.below hb, fun k hk k1 => (hb.block _ (by omega)).trans (h.same k hk k1), h.bel.trans (hb.mono (by omega)), by omega⟩
theorem Ot.add {v8 : Value} {w8 : World} {x : Int × List Int} (h : Ot G bo N b0 w0 w9 w vt vn vr st l) (h0 : b0 ≤ bo) (h1 : bo < N) (hb0 : b0 ≤ N) (hr : Nrow N 64 2 (RuV G w0) w8 v8 (l ++ [x])) (hb8 : Below N w w8) :
    Ot G bo N b0 w0 w9 (w8.setCell ⟨bo, 2, none⟩ v8) vt vn v8 st (l ++ [x]) := by
  have hz := h.sz; have hz3 := hb8.size
  have e : ∀ k, k ≠ bo → (w8.setCell ⟨bo, 2, none⟩ v8).heap[k]? = w8.heap[k]? := fun k hk => Below.heap_setCell _ _ _ _ hk
  exact ⟨heap_set ((hb8.block _ h1).trans h.out) _ _, hr.keep fun j hj => e j (by have := (Nrow.lt hr hj).1; omega), fun k hk k1 => (e k k1).trans ((hb8.block k hk).trans (h.same k hk k1)), (h.bel.trans (hb8.mono hb0)).setCell h0 _, by simp; omega⟩
end
theorem keep_fine {g : Gm} {X : Nat} (hX : IsProd g X) (r : Int × List Int) : fineB g X r = g.keep r := by
  have h : fineB g X r = true ↔ g.Fine r := by
    rw [fineB_iff]
    constructor
    · intro h s hs hN
      have h1 := (hX.1 _ (h s hs hN)).2
      rwa [show ((s.toNat : Nat) : Int) = s by unfold Gm.N at hN; omega] at h1
    · intro h s hs hN; exact hX.2 s hN (h s hs hN)
  unfold Gm.keep
  cases hf : fineB g X r
  · exact (@decide_eq_false _ (Classical.propDecidable _) fun hh => by rw [h.2 hh] at hf; cases hf).symm
  · exact (@decide_eq_true _ (Classical.propDecidable _) (h.1 hf)).symm
theorem live_rules {g : Gm} {X : Nat} (hX : IsProd g X) : g.rules.filter (fineB g X) = g.live.rules := List.filter_congr fun r _ => keep_fine hX r
theorem live_top (g : Gm) : g.live.top = g.top := rfl
/-- The reached symbols' bits are what is reached, rising. -/
theorem bits_reached {g : Gm} {X : Nat} (hk : g.Known) (hX : IsReach g X) : bitsF X (g.top + 1) 0 = g.reached :=
  up_unique (bitsF_up ..) (Gm.reached_just hk).up fun s => by
    rw [mem_bitsF, (Gm.reached_just hk).iff]
    constructor
    · rintro ⟨j, rfl, _, _, h⟩; exact hX.1 j h
    · intro h
      have h1 := Gm.mem_T_le (h.sym hk)
      exact ⟨s.toNat, by omega, by omega, by omega, hX.2 s h⟩
/-- Four cells written, one by one. -/
theorem four_set {w : World} {b : Nat} {u0 u1 u2 u3 : Value} {T : TypeId} {fz : Nat × Nat} (h : w.heap[b]? = some (.cells #[u0, u1, u2, u3] T fz)) (v0 v1 v2 v3 : Value) :
    ((((w.setCell ⟨b, 0, none⟩ v0).setCell ⟨b, 1, none⟩ v1).setCell ⟨b, 2, none⟩ v2).setCell ⟨b, 3, none⟩ v3).heap[b]? = some (.cells #[v0, v1, v2, v3] T fz) ∧
    (∀ k, k ≠ b → ((((w.setCell ⟨b, 0, none⟩ v0).setCell ⟨b, 1, none⟩ v1).setCell ⟨b, 2, none⟩ v2).setCell ⟨b, 3, none⟩ v3).heap[k]? = w.heap[k]?) ∧
    ((((w.setCell ⟨b, 0, none⟩ v0).setCell ⟨b, 1, none⟩ v1).setCell ⟨b, 2, none⟩ v2).setCell ⟨b, 3, none⟩ v3).heap.size = w.heap.size ∧
    (∀ (B : Nat) (a : World), B ≤ b → Below B a w → Below B a ((((w.setCell ⟨b, 0, none⟩ v0).setCell ⟨b, 1, none⟩ v1).setCell ⟨b, 2, none⟩ v2).setCell ⟨b, 3, none⟩ v3)) :=
  ⟨heap_set (heap_set (heap_set (heap_set h 0 v0) 1 v1) 2 v2) 3 v3,
    fun _ hk => (Below.heap_setCell _ _ _ _ hk).trans ((Below.heap_setCell _ _ _ _ hk).trans ((Below.heap_setCell _ _ _ _ hk).trans (Below.heap_setCell _ _ _ _ hk))), by simp,
    fun _ _ hB hb => (((hb.setCell (p := ⟨b, 0, none⟩) hB v0).setCell (p := ⟨b, 1, none⟩) hB v1).setCell (p := ⟨b, 2, none⟩) hB v2).setCell (p := ⟨b, 3, none⟩) hB v3⟩
theorem four_cells {w : World} {b : Nat} {u0 u1 u2 u3 : Value} {T : TypeId} {n : Nat} (h : w.heap[b]? = some (.cells #[u0, u1, u2, u3] T (0, 0))) (hn : n = b) :
    (w.cell? ⟨n, 0, none⟩ = some u0 ∧ w.cell? ⟨n, 1, none⟩ = some u1 ∧ w.cell? ⟨n, 2, none⟩ = some u2 ∧ w.cell? ⟨n, 3, none⟩ = some u3) ∧
    (w.frozen? ⟨n, 0, none⟩ = false ∧ w.frozen? ⟨n, 1, none⟩ = false ∧ w.frozen? ⟨n, 2, none⟩ = false ∧ w.frozen? ⟨n, 3, none⟩ = false) := by
  subst hn
  exact ⟨⟨cell_box h 0 _ rfl, cell_box h 1 _ rfl, cell_box h 2 _ rfl, cell_box h 3 _ rfl⟩, by simp [World.frozen?, h], by simp [World.frozen?, h], by simp [World.frozen?, h], by simp [World.frozen?, h]⟩
/-- What live.Trim hands back. -/
def TrimPost (g : Gm) (w : World) (e : Ending) (w' : World) : Prop :=
  (g.Prod g.start → ∃ vs, e = .returned (.tuple #[ag vs, .bool true]) ∧ GmV (fun k => w.heap.size ≤ k ∧ k < w'.heap.size) w' vs g.trim) ∧
  (¬ g.Prod g.start → e = .returned (.tuple #[.agg #[.slice none 0 0, .slice none 0 0, .slice none 0 0, .int .i64 0], .bool false])) ∧ Below w.heap.size w w'

set_option maxRecDepth 100000 in
set_option maxHeartbeats 4000000 in
theorem trim_p (G : Nat → Prop) (w : World) (vs : List Value) (g : Gm) (hG : ∀ k, G k → k < w.heap.size) (hg : GmV G w vs g) (hw : GW g) (hl : g.top ≤ 63):
    Calls Tryz.prog 8 #[ag vs] w fun e w' => TrimPost g w e w' := by
  obtain ⟨A0, c0, A1, c1, A2, c2, rfl, hb, hx⟩ := GBox.start hG hg
  show Calls Tryz.prog 8 #[.agg #[.slice A0 g.terms.length c0, .slice A1 g.nons.length c1, .slice A2 g.rules.length c2, .int .i64 g.start]] w _
  generalize hW : w.alloc (.cells #[.slice A0 g.terms.length c0, .slice A1 g.nons.length c1, .slice A2 g.rules.length c2, .int .i64 g.start] 25) = W at *
  obtain ⟨x0, x1, x2, x3⟩ := hx.cells
  have HB := Lib.hid hb; have HX := Lib.hid hx; have HG := Lib.hid hG
  clear hb hx hG hg
  have h3 := check_p G; have h4 := productive_p G; have h5 := fine_p G
  unfold ag at h3 h4 h5
  have H3 := Lib.hid h3; have H4 := Lib.hid h4; have H5 := Lib.hid h5; have HW := Lib.hid hw
  have hlr := Nat.le_trans hw.lr (show 300 ≤ 1000 by decide)
  have hv1 : Below W.heap.size W (W.alloc (.cells #[.slice none 0 0, .slice none 0 0, .slice none 0 0, .int .i64 0] 25)) := (Below.refl _ _).alloc (Nat.le_refl _) _
  have qr := heap_alloc_t W (.cells #[.slice none 0 0, .slice none 0 0, .slice none 0 0, .int .i64 0] 25)
  have hsz1 : (W.alloc (.cells #[.slice none 0 0, .slice none 0 0, .slice none 0 0, .int .i64 0] 25)).heap.size = W.heap.size + 1 := by simp
  generalize hV0 : W.alloc (.cells #[.slice none 0 0, .slice none 0 0, .slice none 0 0, .int .i64 0] 25) = V0 at *
  have HX0 := Lib.hid (HX.out.on hv1); have HV0 := Lib.hid hv1; have HQR := Lib.hid qr
  clear h3 h4 h5 hw x0 x1 x2 x3 hv1 qr
  obtain ⟨x0, x1, x2, x3⟩ := HX0.out.cells
  go_enter Tryz.func8, Tryz.ntmps8
  go_wp2_with fail
  refine (H3.out _ _ g HX0.out.old HX0.out.gm HW.out).mono ?_
  rintro e w1 ⟨rfl, hb1⟩
  have HX1 := Lib.hid (HX0.out.on hb1)
  have HB1 := Lib.hid (HV0.out.trans (hb1.mono HV0.out.size))
  have hs1 : W.heap.size + 1 ≤ w1.heap.size := by have := hb1.size; omega
  have HR1 := Lib.hid ((hb1.block W.heap.size (by omega)).trans HQR.out)
  clear hb1 x0 x1 x2 x3
  obtain ⟨x0, x1, x2, x3⟩ := HX1.out.cells
  go_wp2_with fail
  refine (H4.out _ _ g HX1.out.old HX1.out.gm HW.out hl).mono ?_
  rintro e w2 hp
  obtain ⟨⟨b, bw, X, rfl, hb0, hbw0, hs, hq⟩, hb2⟩ := hp
  obtain ⟨st, hst⟩ : ∃ st : Nat, g.start = (st : Int) := ⟨g.start.toNat, by have := HW.out.kn.st; unfold Gm.N at this; omega⟩
  have hstn : st < g.top + 1 := by have := HW.out.kn.st; unfold Gm.N at this; omega
  have HAS := Lib.hid (has_p b bw (g.top + 1) X st w2 hs hstn)
  have HX2 := Lib.hid (HX1.out.on hb2)
  have HB2 := Lib.hid (HB1.out.trans (hb2.mono HB1.out.size))
  have HR2 := Lib.hid ((hb2.block W.heap.size (by omega)).trans HR1.out)
  have HS2 := Lib.hid hs; have HQ := Lib.hid hq
  have HPR := Lib.hid (show X.testBit st = true ↔ g.Prod g.start from by
    constructor
    · intro h; rw [hst]; exact (hq.1 st h).2
    · intro h
      have := hq.2 g.start HW.out.kn.st h
      rwa [hst, Int.toNat_natCast] at this)
  have HST := Lib.hid hst
  have hs2 : W.heap.size + 1 ≤ w2.heap.size := by have := hb2.size; omega
  clear hs hq hb2 x0 x1 x2 x3
  obtain ⟨x0, x1, x2, x3⟩ := HX2.out.cells
  rw [hst] at x3
  clear hst
  by_cases hP : X.testBit st = true
  case neg =>
    have hP' : X.testBit st = false := by simpa using hP
    rw [hP'] at HAS
    have HNP := Lib.hid (show ¬ g.Prod g.start from fun h => hP (HPR.out.2 h))
    clear hP hP'
    go_wp2_with fail
    refine (HAS.out).mono ?_
    rintro e w3 ⟨rfl, rfl⟩
    obtain ⟨⟨r0, r1, r2, r3⟩, f0, f1, f2, f3⟩ := four_cells HR2.out rfl
    clear x0 x1 x2 x3
    go_wp2_with fail
    obtain ⟨q4, _, _, b4⟩ := four_set HR2.out (.slice none 0 0) (.slice none 0 0) (.slice none 0 0) (.int .i64 0)
    have hbl := HB.out.trans ((b4 _ _ (Nat.le_refl _) HB2.out).mono HB.out.size)
    obtain ⟨⟨d0, d1, d2, d3⟩, _⟩ := four_cells q4 rfl
    clear q4 b4
    generalize (((w3.setCell ⟨W.heap.size, 0, none⟩ (.slice none 0 0)).setCell ⟨W.heap.size, 1, none⟩ (.slice none 0 0)).setCell ⟨W.heap.size, 2, none⟩ (.slice none 0 0)).setCell ⟨W.heap.size, 3, none⟩ (.int .i64 0) = W4 at *
    refine bodyPost_ret (v := .tuple #[.agg #[.slice none 0 0, .slice none 0 0, .slice none 0 0, .int .i64 0], .bool false]) (by simp [results, Tryz.results8, go_sem, d0, d1, d2, d3]) rfl ?_
    exact ⟨fun h => absurd h HNP.out, fun _ => rfl, hbl⟩
  have HPD := Lib.hid (HPR.out.1 hP)
  rw [hP] at HAS
  clear hP
  go_wp2_with fail
  refine (HAS.out).mono ?_
  rintro e w3 ⟨rfl, rfl⟩
  have hb3 : Below w3.heap.size w3 (w3.alloc (.cells #[.slice A0 g.terms.length c0, .slice A1 g.nons.length c1, .slice none 0 0, .int .i64 (st : Int)] 25)) := (Below.refl _ _).alloc (Nat.le_refl _) _
  have q3 := heap_alloc_t w3 (.cells #[.slice A0 g.terms.length c0, .slice A1 g.nons.length c1, .slice none 0 0, .int .i64 (st : Int)] 25)
  have hsz3 : (w3.alloc (.cells #[.slice A0 g.terms.length c0, .slice A1 g.nons.length c1, .slice none 0 0, .int .i64 (st : Int)] 25)).heap.size = w3.heap.size + 1 := by simp
  have HX3 := Lib.hid (HX2.out.on hb3)
  have HOT := Lib.hid (show Ot G w3.heap.size (w3.alloc (.cells #[.slice A0 g.terms.length c0, .slice A1 g.nons.length c1, .slice none 0 0, .int .i64 (st : Int)] 25)).heap.size W.heap.size W (w3.alloc (.cells #[.slice A0 g.terms.length c0, .slice A1 g.nons.length c1, .slice none 0 0, .int .i64 (st : Int)] 25)) (w3.alloc (.cells #[.slice A0 g.terms.length c0, .slice A1 g.nons.length c1, .slice none 0 0, .int .i64 (st : Int)] 25)) (.slice A0 g.terms.length c0) (.slice A1 g.nons.length c1) (.slice none 0 0) st [] from
    ⟨q3, Nrow.nil _ _ _ _ _, fun _ _ _ => rfl, HB2.out.trans (hb3.mono HB2.out.size), Nat.le_refl _⟩)
  have HSB3 := Lib.hid (HS2.out.below hb3)
  have HR3 := Lib.hid ((hb3.block W.heap.size (by omega)).trans HR2.out)
  have y2 := HX3.out.x2
  clear hb3 q3
  go_wp2
  generalize hV3 : w3.alloc (.cells #[.slice A0 g.terms.length c0, .slice A1 g.nons.length c1, .slice none 0 0, .int .i64 (st : Int)] 25) = V3 at *
  have hG3 : ∀ k, G k → k < V3.heap.size := HX3.out.old
  go_loopw [30] (fun iv wq => ∃ (k : Nat) (vr : Value), iv = .int .i64 k ∧ k ≤ g.rules.length ∧ Ot G w3.heap.size V3.heap.size W.heap.size W V3 wq (.slice A0 g.terms.length c0) (.slice A1 g.nons.length c1) vr st ((g.rules.take k).filter (fineB g X))) (fun iv _ => g.rules.length - (intOf iv).toNat)
  case atStart => exact ⟨0, _, rfl, by omega, HOT.out⟩
  case round =>
    obtain ⟨k, vr, rfl, hk, hot⟩ := hrel
    obtain ⟨Ar, nr, cr, rfl⟩ : ∃ A n c, vr = .slice A n c := by obtain ⟨A, c, e, _⟩ := Nrow.shape hot.r; exact ⟨A, _, c, e⟩
    have HOK := Lib.hid hot
    have HXK := Lib.hid (HX.out.on hot.bel)
    clear hot x0 x1 x2 x3 y2
    obtain ⟨x0, x1, x2, x3⟩ := HXK.out.cells
    by_cases hlt : k < g.rules.length
    · obtain ⟨bb, off, Ak, ck, rfl, z0, z1, zi⟩ := HXK.out.rule hlt
      have HTK := Lib.hid (show (g.rules.take (k + 1)).filter (fineB g X) = (g.rules.take k).filter (fineB g X) ++ [g.rules[k]].filter (fineB g X) by rw [take_one hlt, List.filter_append])
      have HLK := Lib.hid (show ((g.rules.take k).filter (fineB g X)).length ≤ 1000 by
        have := List.length_filter_le (fineB g X) (g.rules.take k)
        rw [List.length_take] at this; omega)
      have HRW := Lib.hid (show RuV G W [.int .i64 g.rules[k].1, .slice Ak g.rules[k].2.length ck] g.rules[k] from RuV.keep (fun _ h => h) (fun p hp => (HOK.out.bel.cell (HX.out.old _ hp)).symm) ⟨_, rfl, zi⟩)
      clear zi
      revert HTK HRW z0 z1
      generalize g.rules[k] = r
      obtain ⟨ra, rb⟩ := r
      dsimp only
      intro z0 z1 HTK HRW
      have hbv : Below wr.heap.size wr (wr.alloc (.cells #[.int .i64 ra, .slice Ak rb.length ck] 64)) := (Below.refl _ _).alloc (Nat.le_refl _) _
      have q := heap_alloc_t wr (.cells #[.int .i64 ra, .slice Ak rb.length ck] 64)
      have hszv : (wr.alloc (.cells #[.int .i64 ra, .slice Ak rb.length ck] 64)).heap.size = wr.heap.size + 1 := by simp
      generalize hV : wr.alloc (.cells #[.int .i64 ra, .slice Ak rb.length ck] 64) = V at *
      have hwv := HOK.out.bel.trans (hbv.mono HOK.out.bel.size)
      have y0 := cell_box q 0 _ rfl; have y1 := cell_box q 1 _ rfl
      have hsv : BSet V b bw (g.top + 1) X := HSB3.out.keep ((hbv.block _ (by have := HSB3.out.lt.1; have := HOK.out.sz; omega)).trans (HOK.out.same _ HSB3.out.lt.1 (by have := HS2.out.lt.1; omega))) ((hbv.block _ (by have := HSB3.out.lt.2; have := HOK.out.sz; omega)).trans (HOK.out.same _ HSB3.out.lt.2 (by have := HS2.out.lt.2; omega)))
      have hxv := HX.out.on hwv
      have HF := Lib.hid (H5.out V _ g _ (ra, rb) b bw X hxv.old hxv.gm (RuV.keep (fun _ h => h) (fun p hp => hwv.cell (HX.out.old _ hp)) HRW.out) hl hsv)
      unfold ag at HF
      have HXV := Lib.hid hxv; have HBV := Lib.hid hbv; have HWV := Lib.hid hwv
      clear x0 x1 x2 x3 hsv hxv hbv hwv q
      obtain ⟨x0, x1, x2, x3⟩ := HXV.out.cells
      cases hf : fineB g X (ra, rb)
      · rw [hf] at HF
        have HTK2 := Lib.hid (show (g.rules.take (k + 1)).filter (fineB g X) = (g.rules.take k).filter (fineB g X) by rw [HTK.out, List.filter_cons_of_neg (by rw [hf]; decide), List.filter_nil, List.append_nil])
        clear hf
        go_wp2_with fail
        refine (HF.out).mono ?_
        rintro e w5 ⟨rfl, hb5⟩
        have HOA := Lib.hid (HOK.out.below (HBV.out.trans (hb5.mono HBV.out.size)) (by omega) (by have := HOT.out.bel.size; omega))
        clear hb5 x0 x1 x2 x3 y0 y1
        go_wp2_with fail
        go_roundw
        case rel => exact ⟨k + 1, _, by go_num, by omega, by rw [HTK2.out]; exact HOA.out⟩
        case measure => simp only [intOf]; omega
      · rw [hf] at HF
        have HTK2 := Lib.hid (show (g.rules.take (k + 1)).filter (fineB g X) = (g.rules.take k).filter (fineB g X) ++ [(ra, rb)] by rw [HTK.out, List.filter_cons_of_pos hf, List.filter_nil])
        clear hf
        go_wp2_with fail
        refine (HF.out).mono ?_
        rintro e w5 ⟨rfl, hb5⟩
        have hO5 := HOK.out.below (HBV.out.trans (hb5.mono HBV.out.size)) (by omega) (by have := HOT.out.bel.size; omega)
        have y0' := box_keep y0 hb5; have y1' := box_keep y1 hb5
        have zo := cell_box hO5.out 2 _ rfl
        obtain ⟨v8, w8, hr8, hs8, hb8⟩ := Nrow.push 23 Tryz.underlying23 info_ruN rfl (by decide) RuV.one 23 (us := [.int .i64 ra, .slice Ak rb.length ck]) rfl HRW.out hO5.r (by have := HLK.out; omega) (by have := HLK.out; unfold maxLen; omega) hO5.sz
        obtain ⟨A8, n8, c8, rfl⟩ : ∃ A n c, v8 = .slice A n c := by obtain ⟨A, c, e, _⟩ := Nrow.shape hs8; exact ⟨A, _, c, e⟩
        have q8 := (hb8.block w3.heap.size (by omega)).trans hO5.out
        have y8 := cell_box q8 2 _ rfl
        have yf8 : w8.frozen? ⟨w3.heap.size, 2, none⟩ = false := by simp [World.frozen?, q8]
        have HOA := Lib.hid (hO5.add (by omega) (by omega) (by have := HOT.out.bel.size; omega) hs8 hb8)
        clear hb5 hO5 hs8 hb8 q8 x0 x1 x2 x3 y0 y1
        go_wp2_with fail
        go_roundw
        case rel => exact ⟨k + 1, _, by go_num, by omega, by rw [HTK2.out]; exact HOA.out⟩
        case measure => simp only [intOf]; omega
    · have hkk : (g.rules.take k).filter (fineB g X) = g.live.rules := by rw [List.take_of_length_le (by omega)]; exact live_rules HQ.out
      rw [hkk] at HOK
      clear hkk
      have hgm : GmV (Old wr) wr [.slice A0 g.terms.length c0, .slice A1 g.nons.length c1, .slice Ar nr cr, .int .i64 st] g.live :=
        ⟨_, _, _, by rw [← HST.out]; rfl, HXK.out.ht.keep HXK.out.old fun _ _ => rfl, HXK.out.hn.keep HXK.out.old fun _ _ => rfl,
          SlAt.keep (HOK.out.r.look (G := Old wr) fun j hj => (Nrow.lt HOK.out.r hj).2) (fun _ h => h) (fun _ _ => rfl) fun _ _ h => RuV.keep HXK.out.old (fun p hp => HOK.out.bel.cell (HX.out.old _ hp)) h⟩
      have hkl : g.live.Known := HW.out.kn.cut _
      have hll : g.live.rules.length ≤ 1000 := Nat.le_trans (List.length_filter_le _ _) hlr
      have hlx : ∀ r ∈ g.live.rules, r.2.length ≤ 1000 := fun r hr => Nat.le_trans (HW.out.lx r (List.mem_filter.1 hr).1) (by decide)
      have hd : Below wr.heap.size wr wr.drew := (Below.refl _ _).drew
      have FR := Lib.hid (reached_p (Old wr) wr.drew _ g.live (fun _ h => h) (hgm.below (fun _ h => h) hd) hkl hll hlx hl)
      unfold ag at FR
      have HGM := Lib.hid hgm; have HKL := Lib.hid hkl; have HLX := Lib.hid hlx
      have HZ := Lib.hid (show ∀ Y, Below wr.heap.size wr Y → (Y.cell? ⟨w3.heap.size, 0, none⟩ = some (.slice A0 g.terms.length c0) ∧ Y.cell? ⟨w3.heap.size, 1, none⟩ = some (.slice A1 g.nons.length c1) ∧ Y.cell? ⟨w3.heap.size, 2, none⟩ = some (.slice Ar nr cr) ∧ Y.cell? ⟨w3.heap.size, 3, none⟩ = some (.int .i64 st)) from fun Y hY => by
        have q := (hY.block w3.heap.size (by have := HOK.out.sz; omega)).trans HOK.out.out
        exact (four_cells q rfl).1)
      have HRK := Lib.hid ((HOK.out.same W.heap.size (by omega) (by omega)).trans HR3.out)
      have hVW : W.heap.size + 1 < wr.heap.size := by have := HOK.out.sz; omega
      have R0 := Lib.hid (show Below wr.heap.size wr wr.drew from hd)
      have HBW := Lib.hid (HB.out.trans (HOK.out.bel.mono HB.out.size))
      clear hgm hkl hlx hd x0 x1 x2 x3
      go_wp2
      refine AnyL.start 5 (fun X => X.cell? ⟨w3.heap.size, 0, none⟩ = some (.slice A0 g.terms.length c0) ∧ X.cell? ⟨w3.heap.size, 1, none⟩ = some (.slice A1 g.nons.length c1) ∧ X.cell? ⟨w3.heap.size, 2, none⟩ = some (.slice Ar nr cr) ∧ X.cell? ⟨w3.heap.size, 3, none⟩ = some (.int .i64 st)) (by kernel_rfl) ?hs_1 (fun hHeld => ?hr_1)
      case hs_1 => exact HZ.out _ R0.out
      refine AnyL.take (i := 0) (oi := _) (v := ?v_2) rfl (by kernel_rfl) (by kernel_rfl) (by kernel_rfl) (by kernel_rfl) (fun _ _ _ h => h) (Or.inl ⟨by rfl, ?hy_2⟩) (by assumption) ?hr_2
      case hy_2 =>
        intro w hSw
        try dsimp only at hSw
        simp only [List.getElem_toArray, List.getElem_cons_zero]
        go_simp
        try with_reducible rfl
      simp only [List.getElem_toArray, List.getElem_cons_zero, Act.put, List.setIfInBounds_toArray, List.set_cons_zero, List.set_cons_succ]
      refine AnyL.take (i := 1) (oi := _) (v := ?v_3) rfl (by kernel_rfl) (by kernel_rfl) (by kernel_rfl) (by kernel_rfl) (fun _ _ _ h => h) (Or.inl ⟨by rfl, ?hy_3⟩) (by assumption) ?hr_3
      case hy_3 =>
        intro w hSw
        try dsimp only at hSw
        simp only [List.getElem_toArray, List.getElem_cons_succ, List.getElem_cons_zero]
        go_simp
        try with_reducible rfl
      simp only [List.getElem_toArray, List.getElem_cons_succ, List.getElem_cons_zero, Act.put, List.setIfInBounds_toArray, List.set_cons_zero, List.set_cons_succ]
      refine AnyL.one (i := 2) (o := _) (by kernel_rfl) rfl (fun K hK => ?_)
      simp only [List.getElem_toArray, List.getElem_cons_succ, List.getElem_cons_zero]
      go_simp
      go_at_call 35
      refine Calls.mono FR.out ?_
      rintro e w7 hp
      obtain ⟨⟨b2, bw2, X2, rfl, _, _, hs7, hq7⟩, hb7⟩ := hp
      have hb7' : Below wr.heap.size wr w7 := R0.out.trans hb7
      have HB7 := Lib.hid hb7'
      have hbe := bits_reached HKL.out hq7
      have hju := Gm.reached_just HKL.out
      have FO := Lib.hid (only_p (Old wr) w7 _ g.live b2 bw2 X2 (old_of (fun _ h => h) HB7.out) (HGM.out.below (fun _ h => h) HB7.out) HKL.out hl hll HLX.out hs7
        (fun s hs => by rw [hbe] at hs; exact ((hju.iff s).1 hs).sym HKL.out) (by rw [hbe]; exact (hju.iff _).2 .start)
        (fun r hr hl2 s hs => by rw [hbe] at hl2 ⊢; exact (hju.iff s).2 (.step (A := r.1) (b := r.2) hr ((hju.iff _).1 hl2) hs)))
      rw [hbe] at FO
      unfold ag at FO
      clear hs7 hq7 hb7 hb7' hbe hju
      dsimp only
      refine hK.out _ _ ?_ (fun hHeld => ?_)
      · exact HZ.out _ HB7.out
      clear hK K
      try simp only [Act.put, List.setIfInBounds_toArray, List.set_cons_zero, List.set_cons_succ]
      refine AnyL.one (i := 3) (o := _) (by kernel_rfl) rfl (fun K hK => ?_)
      simp only [List.getElem_toArray, List.getElem_cons_succ, List.getElem_cons_zero]
      go_simp
      go_at_call 34
      refine Calls.mono FO.out ?_
      rintro e w8 ⟨vs8, rfl, hg8, hb8⟩
      obtain ⟨B0, d0, B1, d1, B2, d2, rfl, hg8t, hg8n, hg8r⟩ := hg8.shape
      have hb8' := HB7.out.trans (hb8.mono HB7.out.size)
      have HB8 := Lib.hid hb8'
      have HR8 := Lib.hid ((hb8'.block W.heap.size (by omega)).trans HRK.out)
      obtain ⟨⟨r0, r1, r2, r3⟩, f0, f1, f2, f3⟩ := four_cells HR8.out rfl
      have HG8 := Lib.hid hg8
      clear hg8 hg8t hg8n hg8r hb8 hb8'
      dsimp only
      refine hK.out _ _ ?_ (fun hHeld => ?_)
      · exact HZ.out _ HB8.out
      clear hK K
      try simp only [Act.put, List.setIfInBounds_toArray, List.set_cons_zero, List.set_cons_succ]
      refine AnyL.one (i := 4) (o := _) (by kernel_rfl) rfl (fun K hK => ?_)
      simp only [List.getElem_toArray, List.getElem_cons_succ, List.getElem_cons_zero]
      go_simp
      obtain ⟨q4, e4, s4, b4⟩ := four_set HR8.out (.slice B0 (g.live.only g.live.reached).terms.length d0) (.slice B1 (g.live.only g.live.reached).nons.length d1) (.slice B2 (g.live.only g.live.reached).rules.length d2) (.int .i64 (g.live.only g.live.reached).start)
      have HB4 := Lib.hid (b4 w.heap.size w HB.out.size (HBW.out.trans (HB8.out.mono HBW.out.size)))
      have HG4 := Lib.hid (GmV.keep (G' := fun k => w.heap.size ≤ k ∧ k < ((((w8.setCell ⟨W.heap.size, 0, none⟩ (.slice B0 (g.live.only g.live.reached).terms.length d0)).setCell ⟨W.heap.size, 1, none⟩ (.slice B1 (g.live.only g.live.reached).nons.length d1)).setCell ⟨W.heap.size, 2, none⟩ (.slice B2 (g.live.only g.live.reached).rules.length d2)).setCell ⟨W.heap.size, 3, none⟩ (.int .i64 (g.live.only g.live.reached).start)).heap.size) (fun k hk => ⟨Nat.le_trans (Nat.le_trans HBW.out.size HB7.out.size) hk.1, by rw [s4]; exact hk.2⟩) (fun p hp => World.cell?_of_block (e4 _ (by have h1 : w7.heap.size ≤ p.block := hp.1; have := HB7.out.size; omega))) HG8.out)
      generalize hW4 : (((w8.setCell ⟨W.heap.size, 0, none⟩ (.slice B0 (g.live.only g.live.reached).terms.length d0)).setCell ⟨W.heap.size, 1, none⟩ (.slice B1 (g.live.only g.live.reached).nons.length d1)).setCell ⟨W.heap.size, 2, none⟩ (.slice B2 (g.live.only g.live.reached).rules.length d2)).setCell ⟨W.heap.size, 3, none⟩ (.int .i64 (g.live.only g.live.reached).start) = W4 at *
      have HQ4 := Lib.hid q4; have HE4 := Lib.hid e4; have HS4 := Lib.hid s4
      clear q4 e4 s4 b4 hW4 r0 r1 r2 r3 f0 f1 f2 f3
      refine hK.out _ _ ?_ (fun hHeld => ?_)
      · exact (four_cells ((HE4.out w3.heap.size (by omega)).trans ((HB8.out.block w3.heap.size (by have := HOK.out.sz; omega)).trans HOK.out.out)) rfl).1
      clear hK K
      try simp only [Act.put, List.setIfInBounds_toArray, List.set_cons_zero, List.set_cons_succ]
      refine AnyL.last (o := _) (by kernel_rfl) rfl (fun K hK => ?_)
      simp only [List.getElem_toArray, List.getElem_cons_succ, List.getElem_cons_zero]
      go_simp
      refine hK.out _ _ ?_
      refine AnyL.done (by kernel_rfl) ?_ _
      go_wp2_with fail
      obtain ⟨⟨h0, h1, h2, h3⟩, _⟩ := four_cells HQ4.out rfl
      refine bodyPost_ret (v := .tuple #[.agg #[.slice B0 (g.live.only g.live.reached).terms.length d0, .slice B1 (g.live.only g.live.reached).nons.length d1, .slice B2 (g.live.only g.live.reached).rules.length d2, .int .i64 (g.live.only g.live.reached).start], .bool true]) (by simp [results, Tryz.results8, go_sem, h0, h1, h2, h3]) rfl ?_
      refine ⟨fun _ => ⟨_, rfl, HG4.out⟩, fun h => absurd HPD.out h, HB4.out⟩
end Go.Proofs.YtpidmmfjcghmeaaGreat
