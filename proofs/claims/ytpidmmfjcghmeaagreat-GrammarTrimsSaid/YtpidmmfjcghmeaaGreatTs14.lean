/- Texts in one: GtL6. -/
import Derived.Test.YtpidmmfjcghmeaaGreatTs13
namespace Go.Proofs.YtpidmmfjcghmeaaGreat
open Go.RowKit
attribute [local go_sem ↓] wp_append_wr

/-- A new grammar's rules, so far. -/
structure Or (bo N b0 : Nat) (w0 w9 w : World) (vt vn vr : Value) (st : Int) (l : List (Int × List Int)) : Prop where
  out : w.heap[bo]? = some (.cells #[vt, vn, vr, .int .i64 st] 25 (0, 0))
  r : Rus N w vr l
  same : ∀ k, k < N → k ≠ bo → w.heap[k]? = w9.heap[k]?
  bel : Below b0 w0 w
  sz : N ≤ w.heap.size
section
variable {g : Gm} {bo bn n N b0 : Nat} {w0 w5 w w' w9 wy : World} {vt vn vr : Value} {st : Int} {l : List (Int × List Int)}
theorem On.start {l : List Int} (h : On g bo bn n N b0 w0 w5 w vt vn l) (st : Int) (h0 : b0 ≤ bo) (h1 : bo < N) (hne : bo ≠ bn) :
    Or bo w.heap.size b0 w0 (w.setCell ⟨bo, 3, none⟩ (.int .i64 st)) (w.setCell ⟨bo, 3, none⟩ (.int .i64 st)) vt vn (.slice none 0 0) st [] ∧ Strs N (w.setCell ⟨bo, 3, none⟩ (.int .i64 st)) vt ((l.filter fun s => decide (g.T s)).map g.name) ∧ Strs N (w.setCell ⟨bo, 3, none⟩ (.int .i64 st)) vn ((l.filter fun s => !decide (g.T s)).map g.name) ∧
      (w.setCell ⟨bo, 3, none⟩ (.int .i64 st)).rowIs bn 3 n (fun j => .int .i64 (nowF l j)) ∧ ∀ k, k < N → k ≠ bo → k ≠ bn → (w.setCell ⟨bo, 3, none⟩ (.int .i64 st)).heap[k]? = w5.heap[k]? := by
  have e : ∀ k, k ≠ bo → (w.setCell ⟨bo, 3, none⟩ (.int .i64 st)).heap[k]? = w.heap[k]? := fun k hk => Below.heap_setCell _ _ _ _ hk
  refine ⟨⟨heap_set h.out _ _, Rus.nil _ _, fun _ _ _ => rfl, h.bel.setCell h0 _, by simp⟩, h.t.keep fun j hj => e j ?_, h.nn.keep fun j hj => e j ?_, h.now.of_block (e _ (Ne.symm hne)), fun k hk k1 k2 => (e k k1).trans (h.same k hk k1 k2)⟩
  · have := (Nrow.lt h.t hj).1; omega
  · have := (Nrow.lt h.nn hj).1; omega
theorem Or.below (h : Or bo N b0 w0 w9 w vt vn vr st l) (hb : Below w.heap.size w w') (h1 : bo < N) (hb0 : b0 ≤ N) : Or bo N b0 w0 w9 w' vt vn vr st l := by
  have hz := h.sz; have hz2 := hb.size
  exact ⟨(hb.block _ (by omega)).trans h.out, h.r.below hb, fun k hk k1 => (hb.block _ (by omega)).trans (h.same k hk k1), h.bel.trans (hb.mono (by omega)), by omega⟩
theorem Or.add {v8 : Value} {w8 : World} {x : Int × List Int} (h : Or bo N b0 w0 w9 w vt vn vr st l) (h0 : b0 ≤ bo) (h1 : bo < N) (hb0 : b0 ≤ N) (hb : Below w.heap.size w wy) (hr : Rus N w8 v8 (l ++ [x])) (hb8 : Below N wy w8) :
    Or bo N b0 w0 w9 (w8.setCell ⟨bo, 2, none⟩ v8) vt vn v8 st (l ++ [x]) := by
  have hz := h.sz; have hz2 := hb.size; have hz3 := hb8.size
  have e : ∀ k, k ≠ bo → (w8.setCell ⟨bo, 2, none⟩ v8).heap[k]? = w8.heap[k]? := fun k hk => Below.heap_setCell _ _ _ _ hk
  have hq : w8.heap[bo]? = some (.cells #[vt, vn, vr, .int .i64 st] 25 (0, 0)) := (hb8.block _ h1).trans ((hb.block _ (by omega)).trans h.out)
  refine ⟨heap_set hq _ _, hr.keep (fun k hk _ => e k (by omega)) (by simp), fun k hk k1 => (e k k1).trans ((hb8.block k hk).trans ((hb.block _ (by omega)).trans (h.same k hk k1))), ((h.bel.trans (hb.mono (by omega))).trans (hb8.mono hb0)).setCell h0 _, by simp; omega⟩
end
/-- One new rule, so far. -/
structure Oi (by_ : Nat) (w2 w : World) (c : Int) (vy : Value) (l : List Int) : Prop where
  out : w.heap[by_]? = some (.cells #[.int .i64 c, vy] 64 (0, 0))
  r : Ints (by_ + 1) w vy l
  bel : Below by_ w2 w
  sz : by_ + 1 ≤ w.heap.size
theorem Oi.start {w : World} (c : Int) : Oi w.heap.size (w.alloc (.cells #[.int .i64 c, .slice none 0 0] 64)) (w.alloc (.cells #[.int .i64 c, .slice none 0 0] 64)) c (.slice none 0 0) [] :=
  ⟨heap_alloc_t _ _, Nrow.nil _ _ _ _ _, Below.refl _ _, by simp⟩
theorem Oi.add {b : Nat} {w2 w w8 : World} {c x : Int} {vy v8 : Value} {l : List Int} (h : Oi b w2 w c vy l) (hr : Ints (b + 1) w8 v8 (l ++ [x])) (hb : Below (b + 1) w w8) : Oi b w2 (w8.setCell ⟨b, 1, none⟩ v8) c v8 (l ++ [x]) := by
  have hz := h.sz; have hz2 := hb.size
  have e : ∀ k, k ≠ b → (w8.setCell ⟨b, 1, none⟩ v8).heap[k]? = w8.heap[k]? := fun k hk => Below.heap_setCell _ _ _ _ hk
  exact ⟨heap_set ((hb.block _ (by omega)).trans h.out) _ _, hr.keepH fun j hj => e j (by have := (Nrow.lt hr hj).1; omega), (h.bel.trans (hb.mono (by omega))).setCell (Nat.le_refl _) _, by simp; omega⟩
/-- The rules that stay, by their new numbers. -/
def rl (R : List Int) (l : List (Int × List Int)) : List (Int × List Int) := (l.filter fun r => R.contains r.1).map fun r => (Gm.pos R r.1, r.2.map (Gm.pos R))
theorem rl_app (R : List Int) (a b : List (Int × List Int)) : rl R (a ++ b) = rl R a ++ rl R b := by simp [rl]
theorem rl_in {R : List Int} {r : Int × List Int} (h : r.1 ∈ R) : rl R [r] = [(Gm.pos R r.1, r.2.map (Gm.pos R))] := by simp [rl, h]
theorem rl_out {R : List Int} {r : Int × List Int} (h : r.1 ∉ R) : rl R [r] = [] := by simp [rl, h]
theorem rl_len (R : List Int) (l : List (Int × List Int)) : (rl R l).length ≤ l.length := by
  unfold rl
  rw [List.length_map]
  exact List.length_filter_le _ _

theorem name_of {g : Gm} {m : Nat} (h : m < g.names.length) : g.name ((m : Int) + 1) = g.names[m] := by
  unfold Gm.name
  rw [show ((m : Int) + 1 - 1).toNat = m by omega, List.getD_eq_getElem?_getD, List.getElem?_eq_getElem h]
  rfl

set_option maxRecDepth 100000 in
set_option maxHeartbeats 4000000 in
theorem only_p (G : Nat → Prop) (w : World) (vs : List Value) (g : Gm) (b bw X : Nat)(hG : ∀ k, G k → k < w.heap.size) (hg : GmV G w vs g) (hk : g.Known) (hl : g.top ≤ 63) (hlr : g.rules.length ≤ 1000) (hlx : ∀ r ∈ g.rules, r.2.length ≤ 1000) (hS : BSet w b bw (g.top + 1) X) (hR : ∀ s ∈ bitsF X (g.top + 1) 0, g.T s ∨ g.N s) (hst : g.start ∈ bitsF X (g.top + 1) 0) (hcl : ∀ r ∈ g.rules, r.1 ∈ bitsF X (g.top + 1) 0 → ∀ s ∈ r.2, s ∈ bitsF X (g.top + 1) 0):
    Calls Tryz.prog 34 #[ag vs, .pointer (some ⟨b, 0, none⟩)] w fun e w' => ∃ vs, e = .returned (ag vs) ∧ GmV (fun k => w.heap.size ≤ k ∧ k < w'.heap.size) w' vs (g.only (bitsF X (g.top + 1) 0)) ∧ Below w.heap.size w w' := by
  obtain ⟨A0, c0, A1, c1, A2, c2, rfl, hb, hx⟩ := GBox.start hG hg
  show Calls Tryz.prog 34 #[.agg #[.slice A0 g.terms.length c0, .slice A1 g.nons.length c1, .slice A2 g.rules.length c2, .int .i64 g.start], .pointer (some ⟨b, 0, none⟩)] w _
  generalize hW : w.alloc (.cells #[.slice A0 g.terms.length c0, .slice A1 g.nons.length c1, .slice A2 g.rules.length c2, .int .i64 g.start] 25) = W at *
  obtain ⟨x0, x1, x2, x3⟩ := hx.cells
  have HB := Lib.hid hb; have HX := Lib.hid hx; have HG := Lib.hid hG
  clear hb hx hG hg
  have h3 := top_p G; have h4 := term_p G; have h5 := name_p6 G
  unfold ag at h3 h4 h5
  have H3 := Lib.hid h3; have H4 := Lib.hid h4; have H5 := Lib.hid h5
  have HK := Lib.hid hk; have HLX := Lib.hid hlx; have HST := Lib.hid hst; have HCL := Lib.hid hcl
  have hSB := hS.below HB.out
  have HSW := Lib.hid hSB
  have hv1 : Below W.heap.size W (W.alloc (.cells #[.slice none 0 0, .slice none 0 0, .slice none 0 0, .int .i64 0] 25)) := (Below.refl _ _).alloc (Nat.le_refl _) _
  have hv2 := hv1.alloc hv1.size (.cells #[.slice none 0 0, .slice none 0 0, .slice none 0 0, .int .i64 0] 25)
  have hsz1 : (W.alloc (.cells #[.slice none 0 0, .slice none 0 0, .slice none 0 0, .int .i64 0] 25)).heap.size = W.heap.size + 1 := by simp
  have qr := heap_alloc_t W (.cells #[.slice none 0 0, .slice none 0 0, .slice none 0 0, .int .i64 0] 25)
  have qo := heap_alloc_t (W.alloc (.cells #[.slice none 0 0, .slice none 0 0, .slice none 0 0, .int .i64 0] 25)) (.cells #[.slice none 0 0, .slice none 0 0, .slice none 0 0, .int .i64 0] 25)
  rw [hsz1] at qo
  have hsz2 : ((W.alloc (.cells #[.slice none 0 0, .slice none 0 0, .slice none 0 0, .int .i64 0] 25)).alloc (.cells #[.slice none 0 0, .slice none 0 0, .slice none 0 0, .int .i64 0] 25)).heap.size = W.heap.size + 2 := by simp
  have HX0 := Lib.hid (HX.out.on hv2)
  have HSB := Lib.hid (hSB.below hv2)
  have HV2 := Lib.hid hv2; have HQO := Lib.hid qo; have HS2 := Lib.hid hsz2
  have qr2 := (Below.heap_alloc (W.alloc (.cells #[.slice none 0 0, .slice none 0 0, .slice none 0 0, .int .i64 0] 25)) (.cells #[.slice none 0 0, .slice none 0 0, .slice none 0 0, .int .i64 0] 25) W.heap.size (by omega)).trans qr
  have HQR := Lib.hid qr2
  clear x0 x1 x2 x3 h3 h4 h5 hk hlx hst hcl hS hSB hv1 hv2 hsz1 qr qo hsz2 qr2
  obtain ⟨x0, x1, x2, x3⟩ := HX0.out.cells
  have hRl := bitsF_len X (g.top + 1) 0
  have HUP := Lib.hid (bitsF_up X (g.top + 1) 0)
  have HMB := Lib.hid (fun s => mem_bitsF X s (g.top + 1) 0)
  have HLI := Lib.hid (list_p b bw (g.top + 1) X)
  generalize bitsF X (g.top + 1) 0 = R at *
  have HR := Lib.hid hR
  clear hR
  go_enter Tryz.func34, Tryz.ntmps34
  go_wp2_with fail
  refine (H3.out _ _ g HX0.out.old HX0.out.gm (by omega)).mono ?_
  rintro e w3 ⟨rfl, hb1⟩
  have HX3 := Lib.hid (HX0.out.on hb1)
  have HO3 := Lib.hid ((hb1.block _ (by have := HS2.out; omega)).trans HQO.out)
  have HR3 := Lib.hid ((hb1.block _ (by have := HS2.out; omega)).trans HQR.out)
  have HB3 := Lib.hid (HV2.out.trans (hb1.mono HV2.out.size))
  have HS3 := Lib.hid (HSB.out.below hb1)
  have hs3 : W.heap.size + 2 ≤ w3.heap.size := by have := HS2.out; have := hb1.size; omega
  obtain ⟨n, hn⟩ : ∃ n, n = g.top + 1 := ⟨_, rfl⟩
  have hn1 : (g.top : Int) + 1 = (n : Int) := by omega
  rw [← hn] at HS3 HLI
  have hn64 : n ≤ 64 := by omega
  have hwn : IntKind.i64.wrap (n : Int) = (n : Int) := IntWalk.i64_in _ (by omega)
  have hmk := run_make_row' (P := Tryz.prog) 26 3 (.int .i64 0) 8 Tryz.underlying26 info_intN rfl .i64 .i64 n (by omega) (by omega)
  have hb4 : Below w3.heap.size w3 (w3.alloc (.cells (madeCells #[.int .i64 0] n) 3)) := (Below.refl _ _).alloc (Nat.le_refl _) _
  have q4 := World.rowIs_made w3 (.int .i64 0) n 3
  have HX4 := Lib.hid (HX3.out.on hb4)
  have HL4 := Lib.hid (HLI.out _ (HS3.out.below hb4))
  have HQ4 := Lib.hid q4
  have HB4 := Lib.hid hb4
  have HNN := Lib.hid hn
  clear x0 x1 x2 x3 hb1 hb4 q4 HX0 HSB HV2 HQO HQR HS2 hn
  obtain ⟨x0, x1, x2, x3⟩ := HX4.out.cells
  go_wp2_with fail
  refine (HL4.out).mono ?_
  rintro e w5 ⟨⟨v5, rfl, hv5⟩, hb5⟩
  obtain ⟨A5, c5, rfl⟩ := hv5.shape
  have hs4 : (w3.alloc (.cells (madeCells #[.int .i64 0] n) 3)).heap.size = w3.heap.size + 1 := by simp
  have hs5 : w3.heap.size + 1 ≤ w5.heap.size := by have := hb5.size; omega
  have HX5 := Lib.hid (HX4.out.on hb5)
  have HI5 := Lib.hid (show IntsAt (fun k => w3.heap.size + 1 ≤ k ∧ k < w5.heap.size) w5 (.slice A5 R.length c5) R from Nrow.look hv5 fun k hk => by have := Nrow.lt hv5 hk; omega)
  have hON : On g (W.heap.size + 1) w3.heap.size n w5.heap.size W.heap.size W w5 w5 (.slice none 0 0) (.slice none 0 0) [] := by
    refine ⟨(hb5.block _ (by omega)).trans ((HB4.out.block _ (by omega)).trans HO3.out), Nrow.nil _ _ _ _ _, Nrow.nil _ _ _ _ _, fun j e => (by cases e), ?_, fun k _ _ _ => rfl, ?_, Nat.le_refl _⟩
    · exact (HQ4.out.of_block (hb5.block _ (by omega))).congr fun i _ => by rw [nowF_nil]
    · exact (HB3.out.trans (HB4.out.mono HB3.out.size)).trans (hb5.mono (by omega))
  have HON := Lib.hid hON
  have HR5 := Lib.hid ((hb5.block _ (by omega)).trans ((HB4.out.block _ (by omega)).trans HR3.out))
  have HSS5 := Lib.hid ((HS3.out.below HB4.out).below hb5)
  clear hv5 hb5 hON x0 x1 x2 x3 hmk hs4 HX3 HX4 HO3 HR3 HB3 HS3 HB4 HQ4 HL4 HLI
  obtain ⟨x0, x1, x2, x3⟩ := HX5.out.cells
  go_wp2
  go_loopw [21] (fun iv wr => ∃ (k : Nat) (vt vn : Value), iv = .int .i64 k ∧ k ≤ R.length ∧ On g (W.heap.size + 1) w3.heap.size n w5.heap.size W.heap.size W w5 wr vt vn (R.take k)) (fun iv _ => R.length - (intOf iv).toNat)
  case atStart => exact ⟨0, _, _, rfl, by omega, HON.out⟩
  case round =>
    obtain ⟨k, vt, vn, rfl, hk, hon⟩ := hrel
    have HO := Lib.hid hon
    have HXR := Lib.hid (HX.out.on hon.bel)
    clear hon x0 x1 x2 x3
    obtain ⟨x0, x1, x2, x3⟩ := HXR.out.cells
    by_cases hlt : k < R.length
    · have hin := List.getElem_mem hlt
      have hsym := HR.out _ hin
      obtain ⟨m, hm⟩ : ∃ m : Nat, R[k] = (m : Int) + 1 := ⟨(R[k] - 1).toNat, by have := Gm.mem_T_le hsym; omega⟩
      have hmt : m < g.top := by have := Gm.mem_T_le hsym; omega
      obtain ⟨b5, o5, e5, z5⟩ := IntsAt.get (IntsAt.keep (G' := fun _ => True) (fun _ _ => trivial) (fun p hp => World.cell?_of_block (HO.out.same _ hp.2 (by omega) (by omega))) HI5.out) hlt
      subst e5
      rw [hm] at z5 hin hsym
      have hnt : ((m + 1 : Nat) : Int) ∉ R.take k := fun h => by
        have h2 := HUP.out
        obtain ⟨i, hi, e⟩ := List.getElem_of_mem h
        have hi2 : i < k := by rw [List.length_take] at hi; omega
        rw [List.getElem_take] at e
        have h3 := (List.pairwise_iff_getElem.1 h2) i k (by omega) hlt hi2
        omega
      have hom := HO.out.put hnt (by omega) (by omega) (by omega)
      rw [List.length_take, Nat.min_eq_left (by omega), show ((m + 1 : Nat) : Int) = (m : Int) + 1 from rfl] at hom
      have zc := HO.out.now.cell (i := m + 1) (by omega)
      have zf := HO.out.now.frozen (m + 1)
      have HXV := Lib.hid (HX.out.on hom.bel)
      have HOM := Lib.hid hom
      have hml : m < g.names.length := by rw [names_len]; exact hmt
      have HNM := Lib.hid (name_of hml)
      have HTK := Lib.hid (show R.take (k + 1) = R.take k ++ [(m : Int) + 1] by rw [take_one hlt, hm])
      have HTM := Lib.hid (H4.out _ _ g ((m : Int) + 1) HXV.out.old HXV.out.gm)
      have hk64 : k < 64 := by omega
      clear hin hsym hm hnt hom x0 x1 x2 x3
      have htl : ((R.take k).filter fun s => decide (g.T s)).length + 1 ≤ 1099511627776 := by
        have := List.length_filter_le (fun s => decide (g.T s)) (R.take k)
        rw [List.length_take] at this; omega
      have hnl : ((R.take k).filter fun s => !decide (g.T s)).length + 1 ≤ 1099511627776 := by
        have := List.length_filter_le (fun s => !decide (g.T s)) (R.take k)
        rw [List.length_take] at this; omega
      have HTL := Lib.hid htl; have HNL := Lib.hid hnl
      clear htl hnl
      by_cases hT : g.T ((m : Int) + 1)
      · rw [decide_eq_true hT] at HTM
        have HTT := Lib.hid hT
        clear hT
        obtain ⟨x0, x1, x2, x3⟩ := HXV.out.cells
        go_wp2_with fail
        refine (HTM.out).mono ?_
        rintro e w6 ⟨rfl, hb6⟩
        have hom6 := HOM.out.below hb6 (by omega) (by omega) HOM.out.bel.size
        have HO6 := Lib.hid hom6
        have HX6 := Lib.hid (HX.out.on hom6.bel)
        have y0 := cell_box hom6.out 0 _ rfl
        have hb6d : Below w6.heap.size w6 w6.drew := (Below.refl _ _).drew
        have FN := Lib.hid (H5.out _ _ g m (HX6.out.on hb6d).old (HX6.out.on hb6d).gm (by omega) hml)
        have HSC := Lib.hid (show ∀ Y : World, Below W.heap.size W Y → Y.cell? ⟨W.heap.size + 1, 0, none⟩ = some vt → (Y.cell? ⟨w.heap.size, 0, none⟩ = some (.slice A0 g.terms.length c0) ∧ Y.cell? ⟨w.heap.size, 1, none⟩ = some (.slice A1 g.nons.length c1) ∧ Y.cell? ⟨w.heap.size, 2, none⟩ = some (.slice A2 g.rules.length c2) ∧ Y.cell? ⟨w.heap.size, 3, none⟩ = some (.int .i64 g.start) ∧ Y.cell? ⟨W.heap.size + 1, 0, none⟩ = some vt) from fun Y hY h => (by
          obtain ⟨a0, a1, a2, a3⟩ := (HX.out.on hY).cells
          exact ⟨a0, a1, a2, a3, h⟩))
        have HW6 := Lib.hid hom6.bel
        have HW6d := Lib.hid (hom6.bel.trans (hb6d.mono hom6.bel.size))
        clear hb6 hom6 hb6d x0 x1 x2 x3 z5 zc zf
        go_wp2_with fail
        refine AnyL.start 8 (fun X => X.cell? ⟨w.heap.size, 0, none⟩ = some (.slice A0 g.terms.length c0) ∧ X.cell? ⟨w.heap.size, 1, none⟩ = some (.slice A1 g.nons.length c1) ∧ X.cell? ⟨w.heap.size, 2, none⟩ = some (.slice A2 g.rules.length c2) ∧ X.cell? ⟨w.heap.size, 3, none⟩ = some (.int .i64 g.start) ∧ X.cell? ⟨W.heap.size + 1, 0, none⟩ = some vt) (by kernel_rfl) ?hs_1 (fun hHeld => ?hr_1)
        case hs_1 => exact HSC.out _ HW6d.out y0
        refine AnyL.take (i := 0) (oi := _) (v := ?v_2) rfl (by kernel_rfl) (by kernel_rfl) (by kernel_rfl) (by kernel_rfl) (fun _ _ _ h => h) (Or.inl ⟨by rfl, ?hy_2⟩) (by assumption) ?hr_2
        case hy_2 =>
          intro w hSw
          try dsimp only at hSw
          simp only [List.getElem_toArray, List.getElem_cons_zero]
          go_simp
          try with_reducible rfl
        simp only [List.getElem_toArray, List.getElem_cons_zero, Act.put, List.setIfInBounds_toArray, List.set_cons_zero, List.set_cons_succ]
        refine AnyL.take (i := 1) (oi := _) (v := ?v_3) rfl (by kernel_rfl) (by kernel_rfl) (by kernel_rfl) (by kernel_rfl) (fun _ _ _ h => h) (Or.inl ⟨by rfl, ?hy_3⟩) (by assumption) ?hr_3
        case hy_3 =>
          intro w hSw
          try dsimp only at hSw
          simp only [List.getElem_toArray, List.getElem_cons_succ, List.getElem_cons_zero]
          go_simp
          try with_reducible rfl
        simp only [List.getElem_toArray, List.getElem_cons_succ, List.getElem_cons_zero, Act.put, List.setIfInBounds_toArray, List.set_cons_zero, List.set_cons_succ]
        refine AnyL.take (i := 2) (oi := _) (v := ?v_4) rfl (by kernel_rfl) (by kernel_rfl) (by kernel_rfl) (by kernel_rfl) (fun _ _ _ h => h) (Or.inl ⟨by rfl, ?hy_4⟩) (by assumption) ?hr_4
        case hy_4 =>
          intro w hSw
          try dsimp only at hSw
          simp only [List.getElem_toArray, List.getElem_cons_succ, List.getElem_cons_zero]
          go_simp
          try with_reducible rfl
        simp only [List.getElem_toArray, List.getElem_cons_succ, List.getElem_cons_zero, Act.put, List.setIfInBounds_toArray, List.set_cons_zero, List.set_cons_succ]
        refine AnyL.take (i := 3) (oi := _) (v := ?v_5) rfl (by kernel_rfl) (by kernel_rfl) (by kernel_rfl) (by kernel_rfl) (fun _ _ _ h => h) (Or.inl ⟨by rfl, ?hy_5⟩) (by assumption) ?hr_5
        case hy_5 =>
          intro w hSw
          try dsimp only at hSw
          simp only [List.getElem_toArray, List.getElem_cons_succ, List.getElem_cons_zero]
          go_simp
          try with_reducible rfl
        simp only [List.getElem_toArray, List.getElem_cons_succ, List.getElem_cons_zero, Act.put, List.setIfInBounds_toArray, List.set_cons_zero, List.set_cons_succ]
        refine AnyL.one (i := 4) (o := _) (by kernel_rfl) rfl (fun K hK => ?_)
        simp only [List.getElem_toArray, List.getElem_cons_succ, List.getElem_cons_zero]
        go_simp
        go_at_call 93
        refine Calls.mono FN.out ?_
        rintro e w7 ⟨rfl, hb7⟩
        have hW7 : Below W.heap.size W w7 := HW6d.out.trans (hb7.mono HW6d.out.size)
        have ho7 := HO6.out.below (w' := w7) ((Below.refl _ _).drew.trans hb7) (by omega) (by omega) HO6.out.bel.size
        have y7 := cell_box ho7.out 0 _ rfl
        have hW7a := hW7.alloc hW7.size (.cells #[bs g.names[m]] 9)
        have y7a := box_keep y7 ((Below.refl w7.heap.size w7).alloc (Nat.le_refl _) (.cells #[bs g.names[m]] 9))
        obtain ⟨v8, w8, hr8, hs8, hb8, hk8⟩ := Strs.push2 g.names[m] ho7.t (by simp only [List.length_map]; exact HTL.out) ho7.sz
        have hW8 : Below W.heap.size W w8 := hW7.trans (hb8.mono (by omega))
        have hq8 := (hk8 (W.heap.size + 1) (by have := ho7.sz; omega) (fun e => by have := (Nrow.lt ho7.t e).1; omega)).1.trans ho7.out
        have y8 := cell_box hq8 0 _ rfl
        have yf8 : w8.frozen? ⟨W.heap.size + 1, 0, none⟩ = false := by simp [World.frozen?, hq8]
        obtain ⟨A8, n8, c8, rfl⟩ : ∃ A n c, v8 = .slice A n c := by obtain ⟨A, c, e⟩ := Strs.shape hs8; exact ⟨A, _, c, e⟩
        have HO7 := Lib.hid ho7; have HS8 := Lib.hid hs8; have HB8 := Lib.hid hb8; have HK8 := Lib.hid hk8
        have HZ8 := Lib.hid hW8
        clear ho7 hs8 hb8 hk8 hq8 hb7
        unfold bs at hr8 hW7a y7a ⊢
        dsimp only
        refine hK.out _ _ ?_ (fun hHeld => ?_)
        · exact HSC.out _ hW7 y7
        clear hK K
        try simp only [Act.put, List.setIfInBounds_toArray, List.set_cons_zero, List.set_cons_succ]
        refine AnyL.one (i := 5) (o := _) (by kernel_rfl) rfl (fun K hK => ?_)
        simp only [List.getElem_toArray, List.getElem_cons_succ, List.getElem_cons_zero]
        go_simp
        refine hK.out _ _ ?_ (fun hHeld => ?_)
        · exact HSC.out _ hW7a y7a
        clear hK K
        try simp only [Act.put, List.setIfInBounds_toArray, List.set_cons_zero, List.set_cons_succ]
        refine AnyL.one (i := 6) (o := _) (by kernel_rfl) rfl (fun K hK => ?_)
        simp only [List.getElem_toArray, List.getElem_cons_succ, List.getElem_cons_zero]
        go_simp
        refine hK.out _ _ ?_ (fun hHeld => ?_)
        · exact HSC.out _ HZ8.out y8
        clear hK K
        try simp only [Act.put, List.setIfInBounds_toArray, List.set_cons_zero, List.set_cons_succ]
        refine AnyL.take (i := 7) (oi := _) (v := ?v_6) rfl (by kernel_rfl) (by kernel_rfl) (by kernel_rfl) (by kernel_rfl) (fun _ _ _ h => h) (Or.inl ⟨by rfl, ?hy_6⟩) (by assumption) ?hr_6
        case hy_6 =>
          intro w hSw
          try dsimp only at hSw
          simp only [List.getElem_toArray, List.getElem_cons_succ, List.getElem_cons_zero]
          go_simp
          try with_reducible rfl
        simp only [List.getElem_toArray, List.getElem_cons_succ, List.getElem_cons_zero, Act.put, List.setIfInBounds_toArray, List.set_cons_zero, List.set_cons_succ]
        refine AnyL.last (o := _) (by kernel_rfl) rfl (fun K hK => ?_)
        simp only [List.getElem_toArray, List.getElem_cons_succ, List.getElem_cons_zero]
        go_simp
        refine hK.out _ _ ?_
        refine AnyL.done (by kernel_rfl) ?_ _
        go_wp2_with fail
        have HFI := Lib.hid (HO7.out.addT (by omega) (by omega) (by omega) (by omega) HTT.out (by rw [HNM.out]; exact HS8.out) HB8.out HK8.out)
        go_roundw
        case rel => exact ⟨k + 1, _, _, by go_num, by omega, by rw [HTK.out]; exact HFI.out⟩
        case measure => simp only [intOf]; omega
      · rw [decide_eq_false hT] at HTM
        have HTT := Lib.hid hT
        clear hT
        obtain ⟨x0, x1, x2, x3⟩ := HXV.out.cells
        go_wp2_with fail
        refine (HTM.out).mono ?_
        rintro e w6 ⟨rfl, hb6⟩
        have hom6 := HOM.out.below hb6 (by omega) (by omega) HOM.out.bel.size
        have HO6 := Lib.hid hom6
        have HX6 := Lib.hid (HX.out.on hom6.bel)
        have y0 := cell_box hom6.out 1 _ rfl
        have hb6d : Below w6.heap.size w6 w6.drew := (Below.refl _ _).drew
        have FN := Lib.hid (H5.out _ _ g m (HX6.out.on hb6d).old (HX6.out.on hb6d).gm (by omega) hml)
        have HSC := Lib.hid (show ∀ Y : World, Below W.heap.size W Y → Y.cell? ⟨W.heap.size + 1, 1, none⟩ = some vn → (Y.cell? ⟨w.heap.size, 0, none⟩ = some (.slice A0 g.terms.length c0) ∧ Y.cell? ⟨w.heap.size, 1, none⟩ = some (.slice A1 g.nons.length c1) ∧ Y.cell? ⟨w.heap.size, 2, none⟩ = some (.slice A2 g.rules.length c2) ∧ Y.cell? ⟨w.heap.size, 3, none⟩ = some (.int .i64 g.start) ∧ Y.cell? ⟨W.heap.size + 1, 1, none⟩ = some vn) from fun Y hY h => (by
          obtain ⟨a0, a1, a2, a3⟩ := (HX.out.on hY).cells
          exact ⟨a0, a1, a2, a3, h⟩))
        have HW6 := Lib.hid hom6.bel
        have HW6d := Lib.hid (hom6.bel.trans (hb6d.mono hom6.bel.size))
        clear hb6 hom6 hb6d x0 x1 x2 x3 z5 zc zf
        go_wp2_with fail
        refine AnyL.start 8 (fun X => X.cell? ⟨w.heap.size, 0, none⟩ = some (.slice A0 g.terms.length c0) ∧ X.cell? ⟨w.heap.size, 1, none⟩ = some (.slice A1 g.nons.length c1) ∧ X.cell? ⟨w.heap.size, 2, none⟩ = some (.slice A2 g.rules.length c2) ∧ X.cell? ⟨w.heap.size, 3, none⟩ = some (.int .i64 g.start) ∧ X.cell? ⟨W.heap.size + 1, 1, none⟩ = some vn) (by kernel_rfl) ?hs_7 (fun hHeld => ?hr_7)
        case hs_7 => exact HSC.out _ HW6d.out y0
        refine AnyL.take (i := 0) (oi := _) (v := ?v_8) rfl (by kernel_rfl) (by kernel_rfl) (by kernel_rfl) (by kernel_rfl) (fun _ _ _ h => h) (Or.inl ⟨by rfl, ?hy_8⟩) (by assumption) ?hr_8
        case hy_8 =>
          intro w hSw
          try dsimp only at hSw
          simp only [List.getElem_toArray, List.getElem_cons_zero]
          go_simp
          try with_reducible rfl
        simp only [List.getElem_toArray, List.getElem_cons_zero, Act.put, List.setIfInBounds_toArray, List.set_cons_zero, List.set_cons_succ]
        refine AnyL.take (i := 1) (oi := _) (v := ?v_9) rfl (by kernel_rfl) (by kernel_rfl) (by kernel_rfl) (by kernel_rfl) (fun _ _ _ h => h) (Or.inl ⟨by rfl, ?hy_9⟩) (by assumption) ?hr_9
        case hy_9 =>
          intro w hSw
          try dsimp only at hSw
          simp only [List.getElem_toArray, List.getElem_cons_succ, List.getElem_cons_zero]
          go_simp
          try with_reducible rfl
        simp only [List.getElem_toArray, List.getElem_cons_succ, List.getElem_cons_zero, Act.put, List.setIfInBounds_toArray, List.set_cons_zero, List.set_cons_succ]
        refine AnyL.take (i := 2) (oi := _) (v := ?v_10) rfl (by kernel_rfl) (by kernel_rfl) (by kernel_rfl) (by kernel_rfl) (fun _ _ _ h => h) (Or.inl ⟨by rfl, ?hy_10⟩) (by assumption) ?hr_10
        case hy_10 =>
          intro w hSw
          try dsimp only at hSw
          simp only [List.getElem_toArray, List.getElem_cons_succ, List.getElem_cons_zero]
          go_simp
          try with_reducible rfl
        simp only [List.getElem_toArray, List.getElem_cons_succ, List.getElem_cons_zero, Act.put, List.setIfInBounds_toArray, List.set_cons_zero, List.set_cons_succ]
        refine AnyL.take (i := 3) (oi := _) (v := ?v_11) rfl (by kernel_rfl) (by kernel_rfl) (by kernel_rfl) (by kernel_rfl) (fun _ _ _ h => h) (Or.inl ⟨by rfl, ?hy_11⟩) (by assumption) ?hr_11
        case hy_11 =>
          intro w hSw
          try dsimp only at hSw
          simp only [List.getElem_toArray, List.getElem_cons_succ, List.getElem_cons_zero]
          go_simp
          try with_reducible rfl
        simp only [List.getElem_toArray, List.getElem_cons_succ, List.getElem_cons_zero, Act.put, List.setIfInBounds_toArray, List.set_cons_zero, List.set_cons_succ]
        refine AnyL.one (i := 4) (o := _) (by kernel_rfl) rfl (fun K hK => ?_)
        simp only [List.getElem_toArray, List.getElem_cons_succ, List.getElem_cons_zero]
        go_simp
        go_at_call 93
        refine Calls.mono FN.out ?_
        rintro e w7 ⟨rfl, hb7⟩
        have hW7 : Below W.heap.size W w7 := HW6d.out.trans (hb7.mono HW6d.out.size)
        have ho7 := HO6.out.below (w' := w7) ((Below.refl _ _).drew.trans hb7) (by omega) (by omega) HO6.out.bel.size
        have y7 := cell_box ho7.out 1 _ rfl
        have hW7a := hW7.alloc hW7.size (.cells #[bs g.names[m]] 9)
        have y7a := box_keep y7 ((Below.refl w7.heap.size w7).alloc (Nat.le_refl _) (.cells #[bs g.names[m]] 9))
        obtain ⟨v8, w8, hr8, hs8, hb8, hk8⟩ := Strs.push2 g.names[m] ho7.nn (by simp only [List.length_map]; exact HNL.out) ho7.sz
        have hW8 : Below W.heap.size W w8 := hW7.trans (hb8.mono (by omega))
        have hq8 := (hk8 (W.heap.size + 1) (by have := ho7.sz; omega) (fun e => by have := (Nrow.lt ho7.nn e).1; omega)).1.trans ho7.out
        have y8 := cell_box hq8 1 _ rfl
        have yf8 : w8.frozen? ⟨W.heap.size + 1, 1, none⟩ = false := by simp [World.frozen?, hq8]
        obtain ⟨A8, n8, c8, rfl⟩ : ∃ A n c, v8 = .slice A n c := by obtain ⟨A, c, e⟩ := Strs.shape hs8; exact ⟨A, _, c, e⟩
        have HO7 := Lib.hid ho7; have HS8 := Lib.hid hs8; have HB8 := Lib.hid hb8; have HK8 := Lib.hid hk8
        have HZ8 := Lib.hid hW8
        clear ho7 hs8 hb8 hk8 hq8 hb7
        unfold bs at hr8 hW7a y7a ⊢
        dsimp only
        refine hK.out _ _ ?_ (fun hHeld => ?_)
        · exact HSC.out _ hW7 y7
        clear hK K
        try simp only [Act.put, List.setIfInBounds_toArray, List.set_cons_zero, List.set_cons_succ]
        refine AnyL.one (i := 5) (o := _) (by kernel_rfl) rfl (fun K hK => ?_)
        simp only [List.getElem_toArray, List.getElem_cons_succ, List.getElem_cons_zero]
        go_simp
        refine hK.out _ _ ?_ (fun hHeld => ?_)
        · exact HSC.out _ hW7a y7a
        clear hK K
        try simp only [Act.put, List.setIfInBounds_toArray, List.set_cons_zero, List.set_cons_succ]
        refine AnyL.one (i := 6) (o := _) (by kernel_rfl) rfl (fun K hK => ?_)
        simp only [List.getElem_toArray, List.getElem_cons_succ, List.getElem_cons_zero]
        go_simp
        refine hK.out _ _ ?_ (fun hHeld => ?_)
        · exact HSC.out _ HZ8.out y8
        clear hK K
        try simp only [Act.put, List.setIfInBounds_toArray, List.set_cons_zero, List.set_cons_succ]
        refine AnyL.take (i := 7) (oi := _) (v := ?v_12) rfl (by kernel_rfl) (by kernel_rfl) (by kernel_rfl) (by kernel_rfl) (fun _ _ _ h => h) (Or.inl ⟨by rfl, ?hy_12⟩) (by assumption) ?hr_12
        case hy_12 =>
          intro w hSw
          try dsimp only at hSw
          simp only [List.getElem_toArray, List.getElem_cons_succ, List.getElem_cons_zero]
          go_simp
          try with_reducible rfl
        simp only [List.getElem_toArray, List.getElem_cons_succ, List.getElem_cons_zero, Act.put, List.setIfInBounds_toArray, List.set_cons_zero, List.set_cons_succ]
        refine AnyL.last (o := _) (by kernel_rfl) rfl (fun K hK => ?_)
        simp only [List.getElem_toArray, List.getElem_cons_succ, List.getElem_cons_zero]
        go_simp
        refine hK.out _ _ ?_
        refine AnyL.done (by kernel_rfl) ?_ _
        go_wp2_with fail
        have HFI := Lib.hid (HO7.out.addN (by omega) (by omega) (by omega) (by omega) HTT.out (by rw [HNM.out]; exact HS8.out) HB8.out HK8.out)
        go_roundw
        case rel => exact ⟨k + 1, _, _, by go_num, by omega, by rw [HTK.out]; exact HFI.out⟩
        case measure => simp only [intOf]; omega
    · have hkR : R.take k = R := List.take_of_length_le (by omega)
      rw [hkR] at HO
      clear hkR
      have hsN := HK.out.st
      obtain ⟨st, hst⟩ : ∃ st : Nat, g.start = (st : Int) := ⟨g.start.toNat, by unfold Gm.N at hsN; omega⟩
      have hstn : st < n := by unfold Gm.N at hsN; omega
      rw [hst] at x3
      have zn := HO.out.now.cell hstn
      have y3 := cell_box HO.out.out 3 _ rfl
      have yf : wr.frozen? ⟨W.heap.size + 1, 3, none⟩ = false := by simp [World.frozen?, HO.out.out]
      have hgm : ((st : Nat) : Int) ∈ R := hst ▸ HST.out
      have HPS := Lib.hid (show nowF R st = Gm.pos R g.start by rw [hst]; exact nowF_mem hgm)
      obtain ⟨hor, ht9, hn9, hnow9, hsm9⟩ := HO.out.start (nowF R st) (by omega) (by omega) (by omega)
      have hxq := HX.out.on hor.bel
      have hNR := HO.out.sz
      have hB9 : Below W.heap.size W wr := HO.out.bel
      have HT9 := Lib.hid ht9; have HN9 := Lib.hid hn9; have HNW := Lib.hid hnow9
      have HR9 := Lib.hid ((hsm9 _ (by omega) (by omega) (by omega)).trans HR5.out)
      have hs9 : (wr.setCell ⟨W.heap.size + 1, 3, none⟩ (.int .i64 (nowF R st))).heap.size = wr.heap.size := by simp
      have HX9 := Lib.hid hxq; have HOR := Lib.hid hor
      have HSB := Lib.hid (show BSet W b bw n X from by rw [HNN.out]; exact HSW.out)
      clear hst hsN hgm hor ht9 hn9 hnow9 hsm9 hxq hB9 x0 x1 x2
      obtain ⟨y2, _⟩ : wr.cell? ⟨w.heap.size, 2, none⟩ = some (.slice A2 g.rules.length c2) ∧ True := ⟨HXR.out.x2, trivial⟩
      obtain ⟨x0, x1, x2, _⟩ := HX9.out.cells
      generalize hNQ : wr.heap.size = NQ at *
      go_wp2
      generalize hV9 : wr.setCell ⟨W.heap.size + 1, 3, none⟩ (.int .i64 (nowF R st)) = w9 at *
      generalize hN9 : nowF R st = sn at *
      go_loopw [60] (fun iv wq => ∃ (k : Nat) (vr : Value), iv = .int .i64 k ∧ k ≤ g.rules.length ∧ Or (W.heap.size + 1) NQ W.heap.size W w9 wq vt vn vr sn (rl R (g.rules.take k))) (fun iv _ => g.rules.length - (intOf iv).toNat)
      case atStart => exact ⟨0, _, rfl, by omega, HOR.out⟩
      case round =>
        obtain ⟨k, vr, rfl, hk, hor⟩ := hrel
        have HOK := Lib.hid hor
        have HXK := Lib.hid (HX.out.on hor.bel)
        clear hor x0 x1 x2 y2 y3 yf zn
        obtain ⟨x0, x1, x2, _⟩ := HXK.out.cells
        by_cases hlt : k < g.rules.length
        · obtain ⟨bb, off, Ak, ck, rfl, z0, z1, zi⟩ := HXK.out.rule hlt
          have hmem := List.getElem_mem hlt
          have HTK := Lib.hid (show rl R (g.rules.take (k + 1)) = rl R (g.rules.take k) ++ rl R [g.rules[k]] by rw [take_one hlt, rl_app])
          have HKL := Lib.hid (HK.out.left _ hmem)
          have HRL := Lib.hid (HLX.out _ hmem)
          have HCM := Lib.hid (HCL.out _ hmem)
          have HZI := Lib.hid zi
          have hlk : (rl R (g.rules.take k)).length ≤ 1000 := by
            have := rl_len R (g.rules.take k)
            rw [List.length_take] at this; omega
          have HLK := Lib.hid hlk
          clear hmem zi hlk
          revert HTK HKL HRL HCM z0 z1 HZI
          generalize g.rules[k] = r
          obtain ⟨ra, rb⟩ := r
          dsimp only
          intro z0 z1 HTK HKL HRL HCM HZI
          obtain ⟨i, rfl⟩ := Int.eq_ofNat_of_zero_le (show 0 ≤ ra by have := HKL.out; unfold Gm.N at this; omega)
          have hin : i < n := by have := HKL.out; unfold Gm.N at this; omega
          have hbv : Below wr.heap.size wr (wr.alloc (.cells #[.int .i64 (i : Int), .slice Ak rb.length ck] 64)) := (Below.refl _ _).alloc (Nat.le_refl _) _
          have q := heap_alloc_t wr (.cells #[.int .i64 (i : Int), .slice Ak rb.length ck] 64)
          have hszv : (wr.alloc (.cells #[.int .i64 (i : Int), .slice Ak rb.length ck] 64)).heap.size = wr.heap.size + 1 := by simp
          generalize hV : wr.alloc (.cells #[.int .i64 (i : Int), .slice Ak rb.length ck] 64) = V at *
          have hwv := HOK.out.bel.trans (hbv.mono HOK.out.bel.size)
          have hVs : NQ + 1 ≤ V.heap.size := by have := HOK.out.sz; omega
          have y0 := cell_box q 0 _ rfl; have y1 := cell_box q 1 _ rfl
          have hbn := (hbv.block w3.heap.size (by have := HOK.out.sz; omega)).trans (HOK.out.same w3.heap.size (by omega) (by omega))
          have hnr := HNW.out.of_block hbn
          have zn : V.cell? ⟨w3.heap.size, i, none⟩ = some (.int .i64 (nowF R i)) := hnr.cell hin
          have HAS := Lib.hid (has_p b bw n X i V (HSB.out.below hwv) hin)
          have HXV := Lib.hid (HX.out.on hwv); have HWV := Lib.hid hwv; have HBV := Lib.hid hbv; have HNR := Lib.hid hnr
          clear x0 x1 x2 hbv q hwv hbn hnr
          obtain ⟨x0, x1, x2, _⟩ := HXV.out.cells
          by_cases hR : (i : Int) ∈ R
          · have hbit : X.testBit i = true := by
              obtain ⟨j, e, _, _, h4⟩ := (HMB.out (i : Int)).1 hR
              rw [show i = j by omega]; exact h4
            rw [hbit] at HAS
            have HRI := Lib.hid hR
            have HPI := Lib.hid (nowF_mem hR)
            clear hR hbit
            go_wp2_with fail
            refine (HAS.out).mono ?_
            rintro e w1 ⟨rfl, rfl⟩
            generalize hNI : nowF R i = ni at *
            have hoi := Oi.start (w := w1) ni
            have hb2 : Below w1.heap.size w1 (w1.alloc (.cells #[.int .i64 ni, .slice none 0 0] 64)) := (Below.refl _ _).alloc (Nat.le_refl _) _
            have y1' := box_keep y1 hb2
            have HOI := Lib.hid hoi; have HB2 := Lib.hid hb2
            clear hoi hb2
            go_wp2
            clear y0 y1
            generalize hV2 : w1.alloc (.cells #[.int .i64 ni, .slice none 0 0] 64) = V2 at *
            go_loopw [78] (fun iv wz => ∃ (j : Nat) (vy : Value), iv = .int .i64 j ∧ j ≤ rb.length ∧ Oi w1.heap.size V2 wz ni vy ((rb.take j).map (Gm.pos R))) (fun iv _ => rb.length - (intOf iv).toNat)
            case atStart => exact ⟨0, _, rfl, by omega, HOI.out⟩
            case round =>
              obtain ⟨j, vy, rfl, hj, hoi⟩ := hrel
              obtain ⟨Ay, ny, cy, rfl⟩ : ∃ A n c, vy = .slice A n c := by obtain ⟨A, c, e⟩ := Ints.shape hoi.r; exact ⟨A, _, c, e⟩
              have HOJ := Lib.hid hoi
              have hbz := (HWV.out.trans (HB2.out.mono HWV.out.size)).trans (hoi.bel.mono HWV.out.size)
              have HBZ := Lib.hid hbz
              clear hoi hbz x0 x1 x2 zn y1' z0 z1
              have hrb := HRL.out
              by_cases hjl : j < rb.length
              · obtain ⟨b6, o6, e6, z6⟩ := IntsAt.get (IntsAt.keep (G' := G) (fun _ h => h) (fun p hp => (HBZ.out.cell (HX.out.old _ hp)).trans (HOK.out.bel.cell (HX.out.old _ hp)).symm) HZI.out) hjl
                have hsR := HCM.out HRI.out _ (List.getElem_mem hjl)
                obtain ⟨si, hsi⟩ : ∃ si : Nat, rb[j] = (si : Int) := ⟨rb[j].toNat, by have := Gm.mem_T_le (HR.out _ hsR); omega⟩
                have hsn : si < n := by have := Gm.mem_T_le (HR.out _ hsR); omega
                rw [hsi] at z6 hsR
                have HTJ := Lib.hid (show (rb.take (j + 1)).map (Gm.pos R) = (rb.take j).map (Gm.pos R) ++ [nowF R si] by rw [take_one hjl, List.map_append, hsi, nowF_mem hsR]; rfl)
                subst e6
                clear hsi hsR
                have hnz : wr.heap[w3.heap.size]? = w1.heap[w3.heap.size]? := (HOJ.out.bel.block _ (by omega)).trans (HB2.out.block _ (by omega))
                have zs : wr.cell? ⟨w3.heap.size, si, none⟩ = some (.int .i64 (nowF R si)) := (HNR.out.of_block hnz).cell hsn
                have zy := cell_box HOJ.out.out 1 _ rfl
                have zyf : wr.frozen? ⟨w1.heap.size, 1, none⟩ = false := by simp [World.frozen?, HOJ.out.out]
                have hrd : Ints (w1.heap.size + 1) wr.drew (.slice Ay ny cy) ((rb.take j).map (Gm.pos R)) := HOJ.out.r.below ((Below.refl _ _).drew)
                have hjl2 : j < rb.length := hjl
                generalize hNS : nowF R si = ns at *
                obtain ⟨v8, w8, hr8, hs8, hb8, hk8⟩ := Ints.push2 ns hrd (by have := HRL.out; simp; omega) HOJ.out.sz
                obtain ⟨A8, n8, c8, rfl⟩ : ∃ A n c, v8 = .slice A n c := by obtain ⟨A, c, e⟩ := Ints.shape hs8; exact ⟨A, _, c, e⟩
                have HOA := Lib.hid (HOJ.out.add hs8 ((Below.refl _ _).drew.trans hb8))
                have q8 : w8.heap[w1.heap.size]? = some (.cells #[.int .i64 ni, .slice Ay ny cy] 64 (0, 0)) := (hb8.block _ (by omega)).trans HOJ.out.out
                have y8 := cell_box q8 1 _ rfl
                have yf8 : w8.frozen? ⟨w1.heap.size, 1, none⟩ = false := by simp [World.frozen?, q8]
                have zya := box_keep zy ((Below.refl wr.heap.size wr).alloc (Nat.le_refl _) (.cells #[.int .i64 ns] 3))
                have zsa := box_keep zs ((Below.refl wr.heap.size wr).alloc (Nat.le_refl _) (.cells #[.int .i64 ns] 3))
                rw [show wr.drew.alloc (.cells #[.int .i64 ns] 3) = (wr.alloc (.cells #[.int .i64 ns] 3)).drew from rfl, show wr.drew.heap.size = wr.heap.size from rfl] at hr8
                rw [hszv] at zy zya zyf y8 yf8
                clear hs8 hb8 hk8 hrd hnz q8
                go_wp2
                go_region
                go_wp2_with fail
                go_roundw
                case rel => exact ⟨j + 1, _, by go_num, by omega, by rw [HTJ.out]; have h := HOA.out; rw [hszv] at h ⊢; exact h⟩
                case measure => simp only [intOf]; omega
              · have hJ := HOJ.out
                rw [List.take_of_length_le (by omega)] at hJ
                have hbq := (HBV.out.trans (HB2.out.mono HBV.out.size)).trans (hJ.bel.mono HBV.out.size)
                have qo := (hbq.block (W.heap.size + 1) (by have := HOK.out.sz; omega)).trans HOK.out.out
                obtain ⟨Ar, nr, cr, rfl⟩ : ∃ A n c, vr = .slice A n c := by obtain ⟨A, c, e, _⟩ := Nrow.shape HOK.out.r; exact ⟨A, _, c, e⟩
                have zo := cell_box qo 2 _ rfl
                have zq0 := cell_box hJ.out 0 _ rfl
                have zq1 := cell_box hJ.out 1 _ rfl
                obtain ⟨v8, w8, hr8, hs8, hb8, _⟩ := Rus.push (Gm.pos R i, rb.map (Gm.pos R)) HOK.out.r hbq (Nrow.look hJ.r (G := fun k => w1.heap.size + 1 ≤ k ∧ k < wr.heap.size) fun k hk => Nrow.lt hJ.r hk) (fun k hk => ⟨by omega, hk.2⟩) (by have := HLK.out; omega) HOK.out.sz
                obtain ⟨A8, n8, c8, rfl⟩ : ∃ A n c, v8 = .slice A n c := by obtain ⟨A, c, e, _⟩ := Nrow.shape hs8; exact ⟨A, _, c, e⟩
                have q8 := (hb8.block (W.heap.size + 1) (by omega)).trans qo
                have y8 := cell_box q8 2 _ rfl
                have yf8 : w8.frozen? ⟨W.heap.size + 1, 2, none⟩ = false := by simp [World.frozen?, q8]
                have HOA := Lib.hid (HOK.out.add (by omega) (by omega) (by omega) hbq hs8 hb8)
                rw [← HPI.out] at hr8
                dsimp only at hr8
                rw [hszv] at zq0 zq1
                have HTK2 := Lib.hid (show rl R (g.rules.take (k + 1)) = rl R (g.rules.take k) ++ [(Gm.pos R i, rb.map (Gm.pos R))] by rw [HTK.out, rl_in HRI.out])
                clear hJ hbq qo q8 hs8 hb8
                go_wp2_with fail
                go_roundw
                case rel => exact ⟨k + 1, _, by go_num, by omega, by rw [HTK2.out]; exact HOA.out⟩
                case measure => simp only [intOf]; omega
          · have hbit : X.testBit i = false := by
              cases hb : X.testBit i
              · rfl
              · exact absurd ((HMB.out (i : Int)).2 ⟨i, rfl, Nat.zero_le _, by have := HNN.out; omega, hb⟩) hR
            rw [hbit] at HAS
            have HTK2 := Lib.hid (show rl R (g.rules.take (k + 1)) = rl R (g.rules.take k) by rw [HTK.out, rl_out hR, List.append_nil])
            have HOA := Lib.hid (HOK.out.below HBV.out (by omega) (by omega))
            clear hR hbit
            go_wp2_with fail
            refine (HAS.out).mono ?_
            rintro e w1 ⟨rfl, rfl⟩
            clear y0 y1
            go_wp2_with fail
            go_roundw
            case rel => exact ⟨k + 1, _, by go_num, by omega, by rw [HTK2.out]; exact HOA.out⟩
            case measure => simp only [intOf]; omega
        · have hkk : g.rules.take k = g.rules := List.take_of_length_le (by omega)
          rw [hkk] at HOK
          have hout := HOK.out.out
          obtain ⟨Ar, nr, cr, rfl⟩ : ∃ A n c, vr = .slice A n c := by obtain ⟨A, c, e, _⟩ := Nrow.shape HOK.out.r; exact ⟨A, _, c, e⟩
          obtain ⟨At, nt, ct, rfl⟩ : ∃ A n c, vt = .slice A n c := by obtain ⟨A, c, e⟩ := Strs.shape HT9.out; exact ⟨A, _, c, e⟩
          obtain ⟨An, nn, cn, rfl⟩ : ∃ A n c, vn = .slice A n c := by obtain ⟨A, c, e⟩ := Strs.shape HN9.out; exact ⟨A, _, c, e⟩
          have y0 := cell_box hout 0 _ rfl; have y1 := cell_box hout 1 _ rfl; have y2 := cell_box hout 2 _ rfl; have y3 := cell_box hout 3 _ rfl
          have hres := (HOK.out.same W.heap.size (by omega) (by omega)).trans HR9.out
          have r0 := cell_box hres 0 _ rfl; have r1 := cell_box hres 1 _ rfl; have r2 := cell_box hres 2 _ rfl; have r3 := cell_box hres 3 _ rfl
          have f0 : wr.frozen? ⟨W.heap.size, 0, none⟩ = false := by simp [World.frozen?, hres]
          have f1 : wr.frozen? ⟨W.heap.size, 1, none⟩ = false := by simp [World.frozen?, hres]
          have f2 : wr.frozen? ⟨W.heap.size, 2, none⟩ = false := by simp [World.frozen?, hres]
          have f3 : wr.frozen? ⟨W.heap.size, 3, none⟩ = false := by simp [World.frozen?, hres]
          have q1 := heap_set hres 0 (.slice At nt ct)
          have q2 := heap_set q1 1 (.slice An nn cn)
          have q3 := heap_set q2 2 (.slice Ar nr cr)
          have q4 := heap_set q3 3 (.int .i64 sn)
          have e4 : ∀ k, k ≠ W.heap.size → ((((wr.setCell ⟨W.heap.size, 0, none⟩ (.slice At nt ct)).setCell ⟨W.heap.size, 1, none⟩ (.slice An nn cn)).setCell ⟨W.heap.size, 2, none⟩ (.slice Ar nr cr)).setCell ⟨W.heap.size, 3, none⟩ (.int .i64 sn)).heap[k]? = wr.heap[k]? := fun k hk =>
            (Below.heap_setCell _ _ _ _ hk).trans ((Below.heap_setCell _ _ _ _ hk).trans ((Below.heap_setCell _ _ _ _ hk).trans (Below.heap_setCell _ _ _ _ hk)))
          have s4 : ((((wr.setCell ⟨W.heap.size, 0, none⟩ (.slice At nt ct)).setCell ⟨W.heap.size, 1, none⟩ (.slice An nn cn)).setCell ⟨W.heap.size, 2, none⟩ (.slice Ar nr cr)).setCell ⟨W.heap.size, 3, none⟩ (.int .i64 sn)).heap.size = wr.heap.size := by simp
          have b4 := (((HOK.out.bel.setCell (p := ⟨W.heap.size, 0, none⟩) (Nat.le_refl _) (.slice At nt ct)).setCell (p := ⟨W.heap.size, 1, none⟩) (Nat.le_refl _) (.slice An nn cn)).setCell (p := ⟨W.heap.size, 2, none⟩) (Nat.le_refl _) (.slice Ar nr cr)).setCell (p := ⟨W.heap.size, 3, none⟩) (Nat.le_refl _) (.int .i64 sn)
          have Q4 := Lib.hid q4; have E4 := Lib.hid e4; have S4 := Lib.hid s4; have B4 := Lib.hid b4
          clear hkk hout hres x0 x1 x2 q1 q2 q3 q4 e4 s4 b4
          go_wp2_with fail
          have c0 := cell_box Q4.out 0 _ rfl; have c1 := cell_box Q4.out 1 _ rfl; have c2 := cell_box Q4.out 2 _ rfl; have c3 := cell_box Q4.out 3 _ rfl
          generalize (((wr.setCell ⟨W.heap.size, 0, none⟩ (.slice At nt ct)).setCell ⟨W.heap.size, 1, none⟩ (.slice An nn cn)).setCell ⟨W.heap.size, 2, none⟩ (.slice Ar nr cr)).setCell ⟨W.heap.size, 3, none⟩ (.int .i64 sn) = W4 at *
          have hz := HOK.out.sz
          have S4' := S4.out
          refine bodyPost_ret (v := .agg #[.slice At nt ct, .slice An nn cn, .slice Ar nr cr, .int .i64 sn]) (by simp [results, Tryz.results34, go_sem, c0, c1, c2, c3]) rfl ?_
          have k9 : ∀ k, w5.heap.size ≤ k → k < w9.heap.size → W4.heap[k]? = w9.heap[k]? := fun k h1 h2 => (E4.out k (by omega)).trans (HOK.out.same k (by omega) (by omega))
          refine ⟨[.slice At nt ct, .slice An nn cn, .slice Ar nr cr, .int .i64 sn], rfl, ⟨_, _, _, by rw [HPS.out]; rfl, ?_, ?_, ?_⟩, HB.out.trans (B4.out.mono HB.out.size)⟩
          · exact (HT9.out.keep fun j hj => k9 j (Nrow.lt HT9.out hj).1 (Nrow.lt HT9.out hj).2).look fun j hj => by have := Nrow.lt HT9.out hj; have := HB.out.size; omega
          · exact (HN9.out.keep fun j hj => k9 j (Nrow.lt HN9.out hj).1 (Nrow.lt HN9.out hj).2).look fun j hj => by have := Nrow.lt HN9.out hj; have := HB.out.size; omega
          · exact RusAt.keep (fun k hk => ⟨by have h1 : NQ ≤ k := hk.1; have := HB.out.size; omega, hk.2⟩) (fun _ _ => rfl) (Rus.at_ (HOK.out.r.keep (w' := W4) (fun k h1 _ => E4.out k (by omega)) (by omega)))
end Go.Proofs.YtpidmmfjcghmeaaGreat
