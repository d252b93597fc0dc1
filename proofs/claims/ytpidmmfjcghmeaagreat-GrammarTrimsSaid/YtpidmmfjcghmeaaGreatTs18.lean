/- Texts in one: GtC6. -/
import Derived.Test.YtpidmmfjcghmeaaGreatTs17
import Derived.Test.YtpidmmfjcghmeaaGreatTs13
import Derived.Deep.DeepCutAuto
import Derived.Deep.RegionHeld3
import Derived.Deep.RegionWith
namespace Go.Proofs.YtpidmmfjcghmeaaGreat
open Go.RowKit

/-- What a list says of a chart at the beginning. -/
def d0F (g : Gm) (l : List Int) (s i j : Nat) : Bool := decide (g.T (s : Int)) && decide (i < l.length) && decide (l.getD i 0 = (s : Int)) && decide (j = i + 1)
def b0F (g : Gm) (l : List Int) (s i : Nat) : Bool := (decide (g.T (s : Int)) && decide (i < l.length) && decide (l.getD i 0 = (s : Int)) && decide (i + 1 = l.length)) || decide (i = l.length)
/-- Which rows of the cube are laid: those below k; of k's those below I. -/
def aqI (n k I : Nat) (s i : Nat) : Bool := decide (i < n) && (decide (s < k) || (decide (s = k) && decide (i < I)))
def bI (g : Gm) (l : List Int) (k I : Nat) (s i : Nat) : Bool := if s = k ∧ ¬ i < I then false else b0F g l s i
theorem aqI_put {n k I : Nat} (hI : I < n) (s i : Nat) : up2 (aqI n k I) k I true s i = aqI n k (I + 1) s i := by
  unfold up2 aqI
  by_cases e : s = k ∧ i = I
  · obtain ⟨rfl, rfl⟩ := e
    simp [hI]
  · rw [if_neg e, Bool.eq_iff_iff]
    simp only [Bool.and_eq_true, Bool.or_eq_true, decide_eq_true_iff]
    omega
theorem aqI_next (n k s i : Nat) : aqI n k n s i = aqI n (k + 1) 0 s i := by
  unfold aqI
  rw [Bool.eq_iff_iff]
  simp only [Bool.and_eq_true, Bool.or_eq_true, decide_eq_true_iff]
  omega
theorem d0F_yes {g : Gm} {l : List Int} {s i : Nat} (h1 : g.T (s : Int)) (h2 : i < l.length) (h3 : l[i] = (s : Int)) (j : Nat) : d0F g l s i j = decide (j = i + 1) := by
  unfold d0F
  rw [decide_eq_true h1, decide_eq_true h2, List.getD_eq_getElem?_getD, List.getElem?_eq_getElem h2, Option.getD_some, decide_eq_true h3]
  simp
theorem d0F_no {g : Gm} {l : List Int} {s i : Nat} (h : ¬ (g.T (s : Int) ∧ ∃ h2 : i < l.length, l[i] = (s : Int))) (j : Nat) : d0F g l s i j = false := by
  unfold d0F
  rw [Bool.eq_false_iff]
  intro h2
  simp only [Bool.and_eq_true, decide_eq_true_iff] at h2
  obtain ⟨⟨⟨h3, h4⟩, h5⟩, _⟩ := h2
  rw [List.getD_eq_getElem?_getD, List.getElem?_eq_getElem h4, Option.getD_some] at h5
  exact h ⟨h3, h4, h5⟩
theorem b0F_yes {g : Gm} {l : List Int} {s i : Nat} (h1 : g.T (s : Int)) (h2 : i < l.length) (h3 : l[i] = (s : Int)) : b0F g l s i = decide (i + 1 = l.length) := by
  unfold b0F
  rw [decide_eq_true h1, decide_eq_true h2, List.getD_eq_getElem?_getD, List.getElem?_eq_getElem h2, Option.getD_some, decide_eq_true h3, decide_eq_false (show ¬ i = l.length by omega)]
  simp
theorem b0F_no {g : Gm} {l : List Int} {s i : Nat} (h : ¬ (g.T (s : Int) ∧ ∃ h2 : i < l.length, l[i] = (s : Int))) : b0F g l s i = decide (i = l.length) := by
  unfold b0F
  rw [show (decide (g.T (s : Int)) && decide (i < l.length) && decide (l.getD i 0 = (s : Int)) && decide (i + 1 = l.length)) = false from ?_, Bool.false_or]
  rw [Bool.eq_false_iff]
  intro h2
  simp only [Bool.and_eq_true, decide_eq_true_iff] at h2
  obtain ⟨⟨⟨h3, h4⟩, h5⟩, _⟩ := h2
  rw [List.getD_eq_getElem?_getD, List.getElem?_eq_getElem h4, Option.getD_some] at h5
  exact h ⟨h3, h4, h5⟩
theorem bI_put {g : Gm} {l : List Int} {k i : Nat} {v : Bool} (hv : b0F g l k i = v) (s i' : Nat) : (if s = k ∧ i' = i then v else bI g l k i s i') = bI g l k (i + 1) s i' := by
  unfold bI
  by_cases e : s = k ∧ i' = i
  · obtain ⟨rfl, rfl⟩ := e
    rw [if_pos ⟨rfl, rfl⟩, if_neg (by omega), hv]
  · rw [if_neg e]
    by_cases e2 : s = k
    · by_cases e3 : i' < i
      · rw [if_neg (by omega), if_neg (by omega)]
      · rw [if_pos ⟨e2, e3⟩, if_pos ⟨e2, by omega⟩]
    · rw [if_neg fun h => e2 h.1, if_neg fun h => e2 h.1]
theorem bI_same {g : Gm} {l : List Int} {k i : Nat} (hv : b0F g l k i = false) (s i' : Nat) : bI g l k i s i' = bI g l k (i + 1) s i' := by
  rw [← bI_put hv s i']
  by_cases e : s = k ∧ i' = i
  · rw [if_pos e]
    unfold bI
    rw [if_pos ⟨e.1, by omega⟩]
  · rw [if_neg e]
theorem d_put {g : Gm} {l : List Int} {k i : Nat} (h : ∀ j, d0F g l k i j = decide (j = i + 1)) (s i' j : Nat) : (if s = k ∧ i' = i ∧ j = i + 1 then true else if s = k ∧ i' = i then false else d0F g l s i' j) = d0F g l s i' j := by
  by_cases e : s = k ∧ i' = i
  · obtain ⟨rfl, rfl⟩ := e
    rw [h]
    by_cases e2 : j = i' + 1
    · rw [if_pos ⟨rfl, rfl, e2⟩, decide_eq_true e2]
    · rw [if_neg fun h => e2 h.2.2, if_pos ⟨rfl, rfl⟩, decide_eq_false e2]
  · rw [if_neg fun h => e ⟨h.1, h.2.1⟩, if_neg e]
theorem d_same {g : Gm} {l : List Int} {k i : Nat} (h : ∀ j, d0F g l k i j = false) (s i' j : Nat) : (if s = k ∧ i' = i then false else d0F g l s i' j) = d0F g l s i' j := by
  by_cases e : s = k ∧ i' = i
  · obtain ⟨rfl, rfl⟩ := e
    rw [if_pos ⟨rfl, rfl⟩, h]
  · rw [if_neg e]
/-- .. after some rounds of the rules. -/
inductive Grown (g : Gm) (N : Nat) (d0 : Nat → Nat → Nat → Bool) (b0 : Nat → Nat → Bool) : (Nat → Nat → Nat → Bool) → (Nat → Nat → Bool) → Prop
  | refl : Grown g N d0 b0 d0 b0
  | step {d : Nat → Nat → Nat → Bool} {bb : Nat → Nat → Bool} {d' : Nat → Nat → Nat → Bool} {bb' : Nat → Nat → Bool} {x : Nat} {l : List Int} : Grown g N d0 b0 d bb → ((x : Int), l) ∈ g.rules → Steps x l N d bb d' bb' → Grown g N d0 b0 d' bb'
structure Filled (g : Gm) (l : List Int) (d : Nat → Nat → Nat → Bool) (bb : Nat → Nat → Bool) : Prop where
  gr : Grown g l.length (d0F g l) (b0F g l) d bb
  cd : ∀ r ∈ g.rules, ∀ i j, i ≤ j → j ≤ l.length → spanB d r.2 i j = true → d r.1.toNat i j = true
  cb : ∀ r ∈ g.rules, ∀ i, i ≤ l.length → begB d bb l.length r.2 i = true → bb r.1.toNat i = true
def FillPost (g : Gm) (l : List Int) (Al : Option Addr) (cl : Nat) (w : World) (e : Ending) (w' : World) : Prop :=
  ∃ bc bd bB p r q d bb v0 v1 v2 v3, e = .returned (.pointer (some ⟨bc, 0, none⟩)) ∧ Ch w' bc bd bB p r q (g.top + 1) (l.length + 1) d bb v0 v1 v2 v3 Al cl ∧ Filled g l d bb ∧ Below w.heap.size w w'
theorem info_b1N : (Tryz.prog.info? 4).map (fun i => (i.zero, i.size, i.bytes)) = some (some (.bool false), 1, 1) := by kernel_rfl
theorem info_b2N : (Tryz.prog.info? 75).map (fun i => (i.zero, i.size, i.bytes)) = some (some (.slice none 0 0), 1, 24) := by kernel_rfl
theorem info_b3N : (Tryz.prog.info? 76).map (fun i => (i.zero, i.size, i.bytes)) = some (some (.slice none 0 0), 1, 24) := by kernel_rfl

set_option maxRecDepth 100000 in
set_option maxHeartbeats 4000000 in
theorem fill_r (G : Nat → Prop) (w : World) (vs : List Value) (g : Gm) (Al : Option Addr) (cl : Nat) (l : List Int)(hG : ∀ k, G k → k < w.heap.size) (hg : GmV G w vs g) (hk : g.Known) (hl : g.top ≤ 1000) (hll : l.length ≤ 1000) (hlr : g.rules.length ≤ 100000) (hi : IntsAt G w (.slice Al l.length cl) l):
    Calls Tryz.prog 36 #[ag vs, .slice Al l.length cl] w fun e w' => FillPost g l Al cl w e w' := by
  obtain ⟨A0, c0, A1, c1, A2, c2, rfl, hb, hx⟩ := GBox.start hG hg
  show Calls Tryz.prog 36 #[.agg #[.slice A0 g.terms.length c0, .slice A1 g.nons.length c1, .slice A2 g.rules.length c2, .int .i64 g.start], .slice Al l.length cl] w _
  generalize hW : w.alloc (.cells #[.slice A0 g.terms.length c0, .slice A1 g.nons.length c1, .slice A2 g.rules.length c2, .int .i64 g.start] 25) = W at *
  obtain ⟨x0, x1, x2, x3⟩ := hx.cells
  have HB := Lib.hid hb; have HX := Lib.hid hx; have HG := Lib.hid hG
  clear hb hx hG hg
  have h3 := top_r G; have h4 := term_r G
  unfold ag at h3 h4
  have H3 := Lib.hid h3; have H4 := Lib.hid h4
  have HK := Lib.hid hk
  have hW1 : W.heap.size = w.heap.size + 1 := by rw [← hW]; simp
  have HI := Lib.hid (fun (Y : World) (hY : Below W.heap.size W Y) => (IntsAt.below HX.out.old hY (IntsAt.below HG.out HB.out hi)))
  clear h3 h4 hk hi
  go_enter Tryz.func36, Tryz.ntmps36
  go_wp2_with fail
  refine (H3.out _ _ g HX.out.old HX.out.gm (by omega)).mono ?_
  rintro e w1 ⟨rfl, hb1⟩
  have HX1 := Lib.hid (HX.out.on hb1)
  have HB1 := Lib.hid hb1
  have hs1 := hb1.size
  obtain ⟨m, hm⟩ : ∃ m, m = g.top + 1 := ⟨_, rfl⟩
  obtain ⟨n, hn⟩ : ∃ n, n = l.length + 1 := ⟨_, rfl⟩
  have hm1 : (g.top : Int) + 1 = (m : Int) := by omega
  have hn1 : (l.length : Int) + 1 = (n : Int) := by omega
  have hm2 : m ≤ 1001 := by omega
  have hn2 : n ≤ 1001 := by omega
  have hwm : IntKind.i64.wrap (m : Int) = (m : Int) := IntWalk.i64_in _ (by omega)
  have hwn : IntKind.i64.wrap (n : Int) = (n : Int) := IntWalk.i64_in _ (by omega)
  have HM := Lib.hid hm; have HN := Lib.hid hn
  have hk3 := run_make_row' (P := Tryz.prog) 77 76 (.slice none 0 0) 24 Tryz.underlying77 info_b3N rfl .i64 .i64 m (by omega) (by omega)
  have hk2 := run_make_row' (P := Tryz.prog) 76 75 (.slice none 0 0) 24 Tryz.underlying76 info_b2N rfl .i64 .i64 m (by omega) (by omega)
  clear x0 x1 x2 x3 hb1 hm hn
  obtain ⟨x0, x1, x2, x3⟩ := HX1.out.cells
  go_wp2
  go_cut [7] (fun v7 wx => ∃ bc bd bB, v7 = .pointer (some ⟨bc, 0, none⟩) ∧ Cp W.heap.size wx bc bd bB (fun _ => 0) (fun _ => 0) (fun _ _ => 0) m n 0 0 (fun _ _ => false) (d0F g l) (b0F g l) (.slice A0 g.terms.length c0) (.slice A1 g.nons.length c1) (.slice A2 g.rules.length c2) (.int .i64 g.start) Al cl ∧ Below W.heap.size W wx)
  case first =>
    have h0 := HB1.out.drew
    have h1 := h0.alloc h0.size (.cells (madeCells #[.slice none 0 0] m) 76)
    have h2 := h0.alloc h0.size (.cells (madeCells #[.slice none 0 0] m) 75)
    have h3 := h1.alloc h1.size (.cells (madeCells #[.slice none 0 0] m) 75)
    have h4 := h2.alloc h2.size (.cells (madeCells #[.slice none 0 0] m) 76)
    have HSC := Lib.hid (fun X (hX : Below W.heap.size W X) => (HX.out.on hX).cells)
    go_region_held3 (fun X => X.cell? ⟨w.heap.size, 0, none⟩ = some (.slice A0 g.terms.length c0) ∧ X.cell? ⟨w.heap.size, 1, none⟩ = some (.slice A1 g.nons.length c1) ∧ X.cell? ⟨w.heap.size, 2, none⟩ = some (.slice A2 g.rules.length c2) ∧ X.cell? ⟨w.heap.size, 3, none⟩ = some (.int .i64 g.start))
      (exact HSC.out _ (by first | exact h0 | exact h1 | exact h2 | exact h3 | exact h4 | exact h3.alloc h3.size _ | exact h4.alloc h4.size _)) (fail)
    all_goals
      go_wp2_with fail
      go_meet
    · refine ⟨_, w1.heap.size, w1.heap.size + 1, rfl, ?_, ?_⟩
      · have q1 := World.rowIs_made w1 (.slice none 0 0) m 76
        have q2 := World.rowIs_made (w1.alloc (.cells (madeCells #[.slice none 0 0] m) 76)) (.slice none 0 0) m 75
        rw [show (w1.alloc (.cells (madeCells #[.slice none 0 0] m) 76)).heap.size = w1.heap.size + 1 by simp] at q2
        refine Cp.start ?_ ((q1.alloc _).alloc _) (q2.alloc _) hs1 (by omega) (by have := HN.out; omega)
        have q3 := heap_alloc_t ((w1.alloc (.cells (madeCells #[.slice none 0 0] m) 76)).alloc (.cells (madeCells #[.slice none 0 0] m) 75)) (.cells #[.slice A0 g.terms.length c0, .slice A1 g.nons.length c1, .slice A2 g.rules.length c2, .int .i64 g.start, .slice Al l.length cl, .slice (some ⟨w1.heap.size, 0, none⟩) m m, .slice (some ⟨w1.heap.size + 1, 0, none⟩) m m] 79)
        rw [show n - 1 = l.length by have := HN.out; omega]
        simp only [World.size_alloc] at q3
        exact q3
      · exact h3.alloc h3.size _
    · refine ⟨_, w1.heap.size + 1, w1.heap.size, rfl, ?_, ?_⟩
      · have q1 := World.rowIs_made w1 (.slice none 0 0) m 75
        have q2 := World.rowIs_made (w1.alloc (.cells (madeCells #[.slice none 0 0] m) 75)) (.slice none 0 0) m 76
        rw [show (w1.alloc (.cells (madeCells #[.slice none 0 0] m) 75)).heap.size = w1.heap.size + 1 by simp] at q2
        refine Cp.start ?_ (q2.alloc _) ((q1.alloc _).alloc _) (by omega) hs1 (by have := HN.out; omega)
        have q3 := heap_alloc_t ((w1.alloc (.cells (madeCells #[.slice none 0 0] m) 75)).alloc (.cells (madeCells #[.slice none 0 0] m) 76)) (.cells #[.slice A0 g.terms.length c0, .slice A1 g.nons.length c1, .slice A2 g.rules.length c2, .int .i64 g.start, .slice Al l.length cl, .slice (some ⟨w1.heap.size + 1, 0, none⟩) m m, .slice (some ⟨w1.heap.size, 0, none⟩) m m] 79)
        rw [show n - 1 = l.length by have := HN.out; omega]
        simp only [World.size_alloc] at q3
        exact q3
      · exact h4.alloc h4.size _
  case rest =>
    obtain ⟨bc, bd, bB, rfl, hcp, hbl⟩ := hcut
    have HCP := Lib.hid hcp; have HBL := Lib.hid hbl
    clear hcp hbl x0 x1 x2 x3 hk3 hk2
    have hk1 := run_make_row' (P := Tryz.prog) 75 4 (.bool false) 1 Tryz.underlying75 info_b1N rfl .i64 .i64 n (by omega) (by omega)
    have hk2 := run_make_row' (P := Tryz.prog) 76 75 (.slice none 0 0) 24 Tryz.underlying76 info_b2N rfl .i64 .i64 n (by omega) (by omega)
    go_wp2
    go_loopw [8] (fun sv wr => ∃ (k : Nat) (p r : Nat → Nat) (q : Nat → Nat → Nat), sv = .int .i64 k ∧ k ≤ m ∧ Cp W.heap.size wr bc bd bB p r q m n k k (aqI n k 0) (d0F g l) (b0F g l) (.slice A0 g.terms.length c0) (.slice A1 g.nons.length c1) (.slice A2 g.rules.length c2) (.int .i64 g.start) Al cl ∧ Below W.heap.size W wr) (fun sv _ => m - (intOf sv).toNat)
    case atStart => exact ⟨0, _, _, _, rfl, by omega, HCP.out.conv (fun s i => by simp [aqI]) (fun _ _ _ h _ => by cases h) (fun _ _ h _ => absurd h (Nat.not_lt_zero _)), HBL.out⟩
    case round =>
      obtain ⟨k, p, r, q, rfl, hk, hcp, hbl⟩ := hrel
      have HXR := Lib.hid (HX.out.on hbl)
      have HBR := Lib.hid hbl
      have hszr := hbl.size
      by_cases hlt : k < m
      · have e6 := cell_box hcp.hc 6 _ rfl
        have e7 := hcp.hB.cell hlt
        have e8 := hcp.hB.frozen k
        have hal : Below wr.heap.size wr (wr.alloc (.cells (madeCells #[.bool false] n) 4)) := (Below.refl _ _).alloc (Nat.le_refl _) _
        have e6' := box_keep e6 hal; have e7' := box_keep e7 hal
        have e8' := (hcp.below hal).hB.frozen k
        have hcr := hcp.newR hszr
        have hbr := (hbl.alloc hszr (.cells (madeCells #[.bool false] n) 4)).setCell (p := ⟨bB, k, none⟩) hcp.B0B (.slice (some ⟨wr.heap.size, 0, none⟩) n n)
        have HCR := Lib.hid (hcr.below (w' := ((wr.alloc (.cells (madeCells #[.bool false] n) 4)).setCell ⟨bB, k, none⟩ (.slice (some ⟨wr.heap.size, 0, none⟩) n n)).drew) ((Below.refl _ _).drew))
        have HBR2 := Lib.hid hbr.drew
        clear hcp hbl hal hcr hbr
        go_wp2
        go_region
        generalize hV : ((wr.alloc (.cells (madeCells #[.bool false] n) 4)).setCell ⟨bB, k, none⟩ (.slice (some ⟨wr.heap.size, 0, none⟩) n n)).drew = V at *
        clear e6 e7 e8 e6' e7' e8' hV
        have hszv := HBR2.out.size
        have e5 := cell_box HCR.out.hc 5 _ rfl
        have e7 := HCR.out.hd.cell hlt
        have e8 := HCR.out.hd.frozen k
        have hal : Below V.heap.size V (V.alloc (.cells (madeCells #[.slice none 0 0] n) 75)) := (Below.refl _ _).alloc (Nat.le_refl _) _
        have e5' := box_keep e5 hal; have e7' := box_keep e7 hal
        have e8' := (HCR.out.below hal).hd.frozen k
        have hcr := HCR.out.newP hszv (fun i => by simp [aqI])
        have hbr := (HBR2.out.alloc hszv (.cells (madeCells #[.slice none 0 0] n) 75)).setCell (p := ⟨bd, k, none⟩) HCR.out.B0d (.slice (some ⟨V.heap.size, 0, none⟩) n n)
        have HCQ := Lib.hid (hcr.below (w' := ((V.alloc (.cells (madeCells #[.slice none 0 0] n) 75)).setCell ⟨bd, k, none⟩ (.slice (some ⟨V.heap.size, 0, none⟩) n n)).drew) ((Below.refl _ _).drew))
        have HBR3 := Lib.hid hbr.drew
        clear hal hcr hbr
        go_wp2
        go_region
        generalize hU : ((V.alloc (.cells (madeCells #[.slice none 0 0] n) 75)).setCell ⟨bd, k, none⟩ (.slice (some ⟨V.heap.size, 0, none⟩) n n)).drew = U at *
        clear e5 e7 e8 e5' e7' e8' hU HCR HBR2
        have HCI := Lib.hid (HCQ.out.conv (aq' := aqI n k 0) (d' := d0F g l) (bb' := bI g l k 0) (fun _ _ => rfl) (fun _ _ _ _ _ => rfl) (fun s i _ _ => by unfold bI; simp))
        clear HCQ
        go_wp2
        go_loopw [9] (fun iv wr => ∃ (i : Nat) (p r : Nat → Nat) (q : Nat → Nat → Nat), iv = .int .i64 i ∧ i ≤ n ∧ Cp W.heap.size wr bc bd bB p r q m n (k + 1) (k + 1) (aqI n k i) (d0F g l) (bI g l k i) (.slice A0 g.terms.length c0) (.slice A1 g.nons.length c1) (.slice A2 g.rules.length c2) (.int .i64 g.start) Al cl ∧ Below W.heap.size W wr) (fun iv _ => n - (intOf iv).toNat)
        case atStart => exact ⟨0, _, _, _, rfl, by omega, HCI.out, HBR3.out⟩
        case round =>
          clear HCI HBR3 hszv HBR HXR hszr
          obtain ⟨i, p, r, q, rfl, hi, hcp, hbl⟩ := hrel
          have HXR := Lib.hid (HX.out.on hbl)
          have HBR := Lib.hid hbl
          have hszr := hbl.size
          by_cases hin : i < n
          · have e5 := cell_box hcp.hc 5 _ rfl
            have e6 : wr.cell? ⟨bd, k, none⟩ = some (.slice (some ⟨p k, 0, none⟩) n n) := by rw [hcp.hd.cell hlt, if_pos (by omega)]
            have e7 := (hcp.hp k (by omega)).cell hin
            have e8 := (hcp.hp k (by omega)).frozen i
            have hal : Below wr.heap.size wr (wr.alloc (.cells (madeCells #[.bool false] n) 4)) := (Below.refl _ _).alloc (Nat.le_refl _) _
            have e5' := box_keep e5 hal; have e6' := box_keep e6 hal; have e7' := box_keep e7 hal
            have e8' := ((hcp.below hal).hp k (by omega)).frozen i
            have hcr := hcp.newQ (k := k) (i := i) hszr (by omega) (by simp [aqI])
            have hbr := (hbl.alloc hszr (.cells (madeCells #[.bool false] n) 4)).setCell (p := ⟨p k, i, none⟩) (hcp.B0p k (by omega)) (.slice (some ⟨wr.heap.size, 0, none⟩) n n)
            have HCV := Lib.hid ((hcr.below (w' := ((wr.alloc (.cells (madeCells #[.bool false] n) 4)).setCell ⟨p k, i, none⟩ (.slice (some ⟨wr.heap.size, 0, none⟩) n n)).drew) ((Below.refl _ _).drew)).conv (fun s j => aqI_put hin s j) (fun _ _ _ _ _ => rfl) (fun _ _ _ _ => rfl))
            have HBV := Lib.hid hbr.drew
            have hxv := HX.out.on hbr.drew
            have HTM := Lib.hid (H4.out _ _ g (k : Int) hxv.old hxv.gm)
            have HXV := Lib.hid hxv
            clear hcp hbl hal hcr hbr hxv
            go_wp2
            go_region
            generalize hV : ((wr.alloc (.cells (madeCells #[.bool false] n) 4)).setCell ⟨p k, i, none⟩ (.slice (some ⟨wr.heap.size, 0, none⟩) n n)).drew = V2 at *
            generalize up2 q k i wr.heap.size = q' at *
            clear e5 e6 e7 e8 e5' e6' e7' e8' hV
            obtain ⟨x0, x1, x2, x3⟩ := HXV.out.cells
            have hnl : i ≤ l.length := by have := HN.out; omega
            by_cases hA : g.T (k : Int) ∧ ∃ h2 : i < l.length, l[i] = (k : Int)
            · obtain ⟨hT, h2, h3⟩ := hA
              rw [decide_eq_true hT] at HTM
              go_wp2_with fail
              refine (HTM.out).mono ?_
              rintro e w6 ⟨rfl, hb6⟩
              obtain ⟨bl, ol, rfl, zl⟩ := IntsAt.get (HI.out w6 (HBV.out.trans (hb6.mono HBV.out.size))) h2
              rw [h3] at zl
              have c6 := HCV.out.below hb6
              have HB6 := Lib.hid (HBV.out.trans (hb6.mono HBV.out.size))
              have haq : aqI n k (i + 1) k i = true := by simp [aqI, hin]
              have h1n : i + 1 < n := by have := HN.out; omega
              have e5 := cell_box c6.hc 5 _ rfl
              have e6 : w6.cell? ⟨bd, k, none⟩ = some (.slice (some ⟨p k, 0, none⟩) n n) := by rw [c6.hd.cell hlt, if_pos (by omega)]
              have e7 : w6.cell? ⟨p k, i, none⟩ = some (.slice (some ⟨q' k i, 0, none⟩) n n) := by rw [(c6.hp k (by omega)).cell hin, if_pos haq]
              have e8 := (c6.hq k i haq).cell h1n
              have e9 := (c6.hq k i haq).frozen (i + 1)
              have c7 := c6.putD haq (i + 1) true
              have HB7 := Lib.hid (HB6.out.setCell (p := ⟨q' k i, i + 1, none⟩) (c6.B0q k i haq) (.bool true))
              have f5 := cell_box c7.hc 6 _ rfl
              have f6 : (w6.setCell ⟨q' k i, i + 1, none⟩ (.bool true)).cell? ⟨bB, k, none⟩ = some (.slice (some ⟨r k, 0, none⟩) n n) := by rw [c7.hB.cell hlt, if_pos (by omega)]
              have f7 := (c7.hr k (by omega)).cell hin
              have f8 := (c7.hr k (by omega)).frozen i
              obtain ⟨v, hv⟩ : ∃ v, v = decide (i + 1 = l.length) := ⟨_, rfl⟩
              have hbv : ((i : Int) + 1 == (l.length : Int)) = v := by
                rw [hv, Bool.eq_iff_iff, beq_iff_eq, decide_eq_true_iff]; omega
              have c8 := c7.putB (s := k) (by omega) i v
              have HB8 := Lib.hid (HB7.out.setCell (p := ⟨r k, i, none⟩) (c7.B0r k (by omega)) (.bool v))
              have HC8 := Lib.hid (c8.conv (aq' := aqI n k (i + 1)) (d' := d0F g l) (bb' := bI g l k (i + 1)) (fun _ _ => rfl) (fun s i' j _ _ => d_put (d0F_yes hT h2 h3) s i' j) (fun s i' _ _ => bI_put (by rw [b0F_yes hT h2 h3, hv]) s i'))
              have hbn : ((i : Int) == ((l.length : Nat) : Int)) = false := beq_eq_false_iff_ne.2 (by omega)
              clear hv c6 c7 c8 hb6 x0 x1 x2 x3 hT h3
              go_wp2_with fail
              go_roundw
              case rel => exact ⟨i + 1, _, _, _, by go_num, by omega, HC8.out, HB8.out⟩
              case measure => simp only [intOf]; omega
            have HNO := Lib.hid hA
            by_cases hT : g.T (k : Int)
            case neg =>
              rw [decide_eq_false hT] at HTM
              clear hT hA
              go_wp2_with fail
              refine (HTM.out).mono ?_
              rintro e w6 ⟨rfl, hb6⟩
              have c6 := (HCV.out.below hb6).conv (aq' := aqI n k (i + 1)) (d' := d0F g l) (bb' := bI g l k i) (fun _ _ => rfl) (fun s i' j _ _ => d_same (d0F_no HNO.out) s i' j) (fun _ _ _ _ => rfl)
              have HB6 := Lib.hid (HBV.out.trans (hb6.mono HBV.out.size))
              by_cases hiN : i = l.length
              · have h2 : ¬ i < l.length := by omega
                clear hiN
                have HC8 := Lib.hid ((c6.putB (s := k) (by omega) i true).conv (aq' := aqI n k (i + 1)) (d' := d0F g l) (bb' := bI g l k (i + 1)) (fun _ _ => rfl) (fun _ _ _ _ _ => rfl) (fun s i' _ _ => bI_put (by rw [b0F_no HNO.out]; exact decide_eq_true (by omega)) s i'))
                have HB8 := Lib.hid (HB6.out.setCell (p := ⟨r k, i, none⟩) (c6.B0r k (by omega)) (.bool true))
                have e5 := cell_box c6.hc 6 _ rfl
                have e6 : w6.cell? ⟨bB, k, none⟩ = some (.slice (some ⟨r k, 0, none⟩) n n) := by rw [c6.hB.cell hlt, if_pos (by omega)]
                have e7 := (c6.hr k (by omega)).cell hin
                have e8 := (c6.hr k (by omega)).frozen i
                clear c6 hb6 x0 x1 x2 x3
                have hbn : ((i : Int) == (l.length : Int)) = true := by rw [show i = l.length by omega]; exact beq_self_eq_true _
                go_wp2_with fail
                go_roundw
                case rel => exact ⟨i + 1, _, _, _, by go_num, by omega, HC8.out, HB8.out⟩
                case measure => simp only [intOf]; omega
              · have h2 : i < l.length := by omega
                have HC8 := Lib.hid (c6.conv (aq' := aqI n k (i + 1)) (d' := d0F g l) (bb' := bI g l k (i + 1)) (fun _ _ => rfl) (fun _ _ _ _ _ => rfl) (fun s i' _ _ => bI_same (by rw [b0F_no HNO.out]; exact decide_eq_false (by omega)) s i'))
                clear c6 hb6 x0 x1 x2 x3
                have hbn : ((i : Int) == (l.length : Int)) = false := beq_eq_false_iff_ne.2 (by omega)
                go_wp2_with fail
                go_roundw
                case rel => exact ⟨i + 1, _, _, _, by go_num, by omega, HC8.out, HB6.out⟩
                case measure => simp only [intOf]; omega
            rw [decide_eq_true hT] at HTM
            by_cases h2 : i < l.length
            · have h3 : l[i] ≠ (k : Int) := fun h3 => hA ⟨hT, h2, h3⟩
              clear hA hT
              go_wp2_with fail
              refine (HTM.out).mono ?_
              rintro e w6 ⟨rfl, hb6⟩
              obtain ⟨bl, ol, rfl, zl⟩ := IntsAt.get (HI.out w6 (HBV.out.trans (hb6.mono HBV.out.size))) h2
              have hz : (l[i] == (k : Int)) = false := beq_eq_false_iff_ne.2 h3
              have c6 := (HCV.out.below hb6).conv (aq' := aqI n k (i + 1)) (d' := d0F g l) (bb' := bI g l k i) (fun _ _ => rfl) (fun s i' j _ _ => d_same (d0F_no HNO.out) s i' j) (fun _ _ _ _ => rfl)
              have HB6 := Lib.hid (HBV.out.trans (hb6.mono HBV.out.size))
              clear h3
              revert zl hz
              generalize l[i] = z
              intro zl hz
              have HC8 := Lib.hid (c6.conv (aq' := aqI n k (i + 1)) (d' := d0F g l) (bb' := bI g l k (i + 1)) (fun _ _ => rfl) (fun _ _ _ _ _ => rfl) (fun s i' _ _ => bI_same (by rw [b0F_no HNO.out]; exact decide_eq_false (by omega)) s i'))
              clear c6 hb6 x0 x1 x2 x3
              have hbn : ((i : Int) == (l.length : Int)) = false := beq_eq_false_iff_ne.2 (by omega)
              go_wp2_with fail
              go_roundw
              case rel => exact ⟨i + 1, _, _, _, by go_num, by omega, HC8.out, HB6.out⟩
              case measure => simp only [intOf]; omega
            clear hA hT
            go_wp2_with fail
            refine (HTM.out).mono ?_
            rintro e w6 ⟨rfl, hb6⟩
            have c6 := (HCV.out.below hb6).conv (aq' := aqI n k (i + 1)) (d' := d0F g l) (bb' := bI g l k i) (fun _ _ => rfl) (fun s i' j _ _ => d_same (d0F_no HNO.out) s i' j) (fun _ _ _ _ => rfl)
            have HB6 := Lib.hid (HBV.out.trans (hb6.mono HBV.out.size))
            have HC8 := Lib.hid ((c6.putB (s := k) (by omega) i true).conv (aq' := aqI n k (i + 1)) (d' := d0F g l) (bb' := bI g l k (i + 1)) (fun _ _ => rfl) (fun _ _ _ _ _ => rfl) (fun s i' _ _ => bI_put (by rw [b0F_no HNO.out]; exact decide_eq_true (by omega)) s i'))
            have HB8 := Lib.hid (HB6.out.setCell (p := ⟨r k, i, none⟩) (c6.B0r k (by omega)) (.bool true))
            have e5 := cell_box c6.hc 6 _ rfl
            have e6 : w6.cell? ⟨bB, k, none⟩ = some (.slice (some ⟨r k, 0, none⟩) n n) := by rw [c6.hB.cell hlt, if_pos (by omega)]
            have e7 := (c6.hr k (by omega)).cell hin
            have e8 := (c6.hr k (by omega)).frozen i
            clear c6 hb6 x0 x1 x2 x3
            have hbn : ((i : Int) == (l.length : Int)) = true := by rw [show i = l.length by omega]; exact beq_self_eq_true _
            go_wp2_with fail
            go_roundw
            case rel => exact ⟨i + 1, _, _, _, by go_num, by omega, HC8.out, HB8.out⟩
            case measure => simp only [intOf]; omega
          · have HC9 := Lib.hid (hcp.conv (aq' := aqI n (k + 1) 0) (d' := d0F g l) (bb' := b0F g l) (fun s i' => by rw [show i = n by omega]; exact aqI_next ..) (fun _ _ _ _ _ => rfl) (fun s i' _ _ => by unfold bI; rw [if_neg (by omega)]))
            clear hcp hbl
            go_wp2_with fail
            go_roundw
            case rel => exact ⟨k + 1, _, _, _, by go_num, by omega, HC9.out, HBR.out⟩
            case measure => simp only [intOf]; omega
      · obtain rfl : k = m := by omega
        have HCH := Lib.hid (hcp.done (fun s i hs hi => by simp [aqI, hs, hi]))
        have HBQ := Lib.hid (show ∀ s i, s < k → i < n → W.heap.size ≤ q s i from fun s i hs hi => hcp.B0q s i (by simp [aqI, hs, hi]))
        have HBS := Lib.hid (show ∀ s, s < k → W.heap.size ≤ r s from fun s hs => hcp.B0r s hs)
        clear hcp hbl HCP HBL HB1 hk1 hk2
        obtain ⟨N, hN⟩ : ∃ N, N = l.length := ⟨_, rfl⟩
        have hnN : n = N + 1 := by have := HN.out; omega
        rw [hnN] at HCH HBQ
        have HNL := Lib.hid hN
        have hNb : N ≤ 1000 := by omega
        clear hN hnN hn1 hwn hwm hm1 hn2 hk hlt
        go_wp2
        go_loopw [10] (fun mv wr => ∃ (d : Nat → Nat → Nat → Bool) (bb : Nat → Nat → Bool) (more : Bool), mv = .bool more ∧ Ch wr bc bd bB p r q k (N + 1) d bb (.slice A0 g.terms.length c0) (.slice A1 g.nons.length c1) (.slice A2 g.rules.length c2) (.int .i64 g.start) Al cl ∧ Grown g N (d0F g l) (b0F g l) d bb ∧ Below W.heap.size W wr ∧
          (more = false → ∀ r ∈ g.rules, (∀ i j, i ≤ j → j ≤ N → spanB d r.2 i j = true → d r.1.toNat i j = true) ∧ ∀ i, i ≤ N → begB d bb N r.2 i = true → bb r.1.toNat i = true)) (fun mv wr => 2 * meas k (N + 1) (dOf wr bc) (bOf wr bc) + boolN mv)
        case atStart => exact ⟨_, _, true, rfl, HCH.out, .refl, HBR.out, fun h => by cases h⟩
        case round =>
          clear HCH HXR hszr HBR
          obtain ⟨d, bb, more, rfl, hch, hgr, hbl, hcl⟩ := hrel
          have HCH := Lib.hid hch; have HGR := Lib.hid hgr; have HBR := Lib.hid hbl; have HCL := Lib.hid hcl
          have HXR := Lib.hid (HX.out.on hbl)
          have HMM := Lib.hid (meas_of hch)
          clear hch hgr hbl hcl
          cases more
          · have HFI := Lib.hid (show FillPost g l Al cl w (.returned (.pointer (some ⟨bc, 0, none⟩))) wr from
              ⟨bc, bd, bB, p, r, q, d, bb, _, _, _, _, rfl, by rw [← HM.out, ← HNL.out]; exact HCH.out, ⟨by rw [← HNL.out]; exact HGR.out, fun r hr i j h1 h2 h3 => (HCL.out rfl r hr).1 i j h1 (by rw [HNL.out]; exact h2) h3, fun r hr i h1 h2 => (HCL.out rfl r hr).2 i (by rw [HNL.out]; exact h1) (by rw [HNL.out]; exact h2)⟩, HB.out.trans (HBR.out.mono HB.out.size)⟩)
            go_wp2_with fail
            go_ret
            exact HFI.out
          · obtain ⟨x0, x1, x2, x3⟩ := HXR.out.cells
            go_wp2
            go_loopw [10, 11] (fun mv iv wr => ∃ (i : Nat) (d' : Nat → Nat → Nat → Bool) (bb' : Nat → Nat → Bool) (mo : Bool), mv = .bool mo ∧ iv = .int .i64 i ∧ i ≤ g.rules.length ∧ Ch wr bc bd bB p r q k (N + 1) d' bb' (.slice A0 g.terms.length c0) (.slice A1 g.nons.length c1) (.slice A2 g.rules.length c2) (.int .i64 g.start) Al cl ∧ Grown g N (d0F g l) (b0F g l) d' bb' ∧ Below W.heap.size W wr ∧
              (mo = true → meas k (N + 1) d' bb' < meas k (N + 1) d bb) ∧ (mo = false → d' = d ∧ bb' = bb ∧ ∀ r ∈ g.rules.take i, (∀ i j, i ≤ j → j ≤ N → spanB d r.2 i j = true → d r.1.toNat i j = true) ∧ ∀ i, i ≤ N → begB d bb N r.2 i = true → bb r.1.toNat i = true)) (fun _ iv _ => g.rules.length - (intOf iv).toNat)
            case atStart => exact ⟨0, d, bb, false, rfl, rfl, by omega, HCH.out, HGR.out, HBR.out, fun h => (by cases h), fun _ => ⟨rfl, rfl, by simp⟩⟩
            case round =>
              clear HXR HBR x0 x1 x2 x3
              obtain ⟨i, d', bb', mo, rfl, rfl, hi, hch, hgr, hbl, hmy, hmn⟩ := hrel
              have HC2 := Lib.hid hch; have HG2 := Lib.hid hgr; have HB2 := Lib.hid hbl; have HMY := Lib.hid hmy; have HMN := Lib.hid hmn
              have HXR := Lib.hid (HX.out.on hbl)
              clear hch hgr hbl hmy hmn
              obtain ⟨x0, x1, x2, x3⟩ := HXR.out.cells
              by_cases hlt : i < g.rules.length
              · obtain ⟨bb3, off, Ak, ck, rfl, z0, z1, zi⟩ := HXR.out.rule hlt
                have hmem := List.getElem_mem hlt
                have HTK := Lib.hid (take_one hlt)
                have HKL := Lib.hid (HK.out.left _ hmem)
                have HKR := Lib.hid (HK.out.right _ hmem)
                have HMEM := Lib.hid hmem
                have HRU := Lib.hid (show RuV G wr [.int .i64 g.rules[i].1, .slice Ak g.rules[i].2.length ck] g.rules[i] from ⟨_, rfl, zi⟩)
                clear hmem zi
                revert HTK HKL HKR HMEM HRU z0 z1
                generalize g.rules[i] = ru
                obtain ⟨ra, rb⟩ := ru
                dsimp only
                intro z0 z1 HTK HKL HKR HMEM HRU
                obtain ⟨x, rfl⟩ := Int.eq_ofNat_of_zero_le (show 0 ≤ ra by have := HKL.out; unfold Gm.N at this; omega)
                have hxm : x < k := by have := HKL.out; have := HM.out; unfold Gm.N at *; omega
                have FR := Lib.hid (rule_r G wr W.heap.size bc bd bB p r q k N d' bb' _ _ _ _ _ _ _ x rb HC2.out (fun j hj => by have := HG.out j hj; omega) HB2.out.size HBQ.out HBS.out HRU.out hxm
                  (fun s hs => by have h1 := Gm.mem_T_le (HKR.out s hs); have := HM.out; omega) (by omega) (by omega))
                unfold ag at FR
                go_wp2_with fail
                refine (FR.out).mono ?_
                rintro e w6 hp
                obtain ⟨d2, b2, m2, rfl, hch2, hst2, hb2, hmy2, hmn2⟩ := hp
                have HC3 := Lib.hid hch2
                have HG3 := Lib.hid (HG2.out.step HMEM.out hst2)
                have HB3 := Lib.hid (HB2.out.trans hb2)
                cases m2
                · obtain ⟨rfl, rfl, k1, k2⟩ := hmn2 rfl
                  have HMN3 := Lib.hid (show mo = false → d2 = d ∧ b2 = bb ∧ ∀ r ∈ g.rules.take (i + 1), (∀ i j, i ≤ j → j ≤ N → spanB d r.2 i j = true → d r.1.toNat i j = true) ∧ ∀ i, i ≤ N → begB d bb N r.2 i = true → bb r.1.toNat i = true from fun h => by
                    obtain ⟨e1, e2, e3⟩ := HMN.out h
                    refine ⟨e1, e2, fun r hr => ?_⟩
                    rw [HTK.out, List.mem_append, List.mem_singleton] at hr
                    rcases hr with hr | rfl
                    · exact e3 r hr
                    · rw [e1] at k1 k2
                      rw [e2] at k2
                      exact ⟨fun i j h1 h2 h3 => k1 i j h1 h2 h3, fun i h1 h2 => k2 i h1 h2⟩)
                  clear hch2 hst2 hb2 hmy2 hmn2 k1 k2 x0 x1 x2 x3 z0 z1
                  go_wp2_with fail
                  go_roundw
                  case rel => exact ⟨i + 1, d2, b2, mo, rfl, by go_num, by omega, HC3.out, HG3.out, HB3.out, HMY.out, HMN3.out⟩
                  case measure => simp only [intOf]; omega
                · have HMY3 := Lib.hid (show meas k (N + 1) d2 b2 < meas k (N + 1) d bb by
                    have h1 := hmy2 rfl
                    cases hmo : mo
                    · obtain ⟨e1, e2, _⟩ := HMN.out hmo
                      rwa [e1, e2] at h1
                    · have := HMY.out hmo; omega)
                  clear hch2 hst2 hb2 hmy2 hmn2 x0 x1 x2 x3 z0 z1
                  go_wp2_with fail
                  go_roundw
                  case rel => exact ⟨i + 1, d2, b2, true, rfl, by go_num, by omega, HC3.out, HG3.out, HB3.out, fun _ => HMY3.out, fun h => (by cases h)⟩
                  case measure => simp only [intOf]; omega
              · have HMX := Lib.hid (meas_of HC2.out)
                have HCLX := Lib.hid (show mo = false → ∀ r ∈ g.rules, (∀ i j, i ≤ j → j ≤ N → spanB d' r.2 i j = true → d' r.1.toNat i j = true) ∧ ∀ i, i ≤ N → begB d' bb' N r.2 i = true → bb' r.1.toNat i = true from fun h r hr => by
                  obtain ⟨e1, e2, e3⟩ := HMN.out h
                  rw [e1, e2]
                  exact e3 r (by rw [List.take_of_length_le (by omega)]; exact hr))
                go_wp2_with fail
                go_roundw
                case rel => exact ⟨d', bb', mo, rfl, HC2.out, HG2.out, HB2.out, HCLX.out⟩
                case measure =>
                  rw [HMX.out, HMM.out]
                  cases hmo : mo
                  · obtain ⟨e1, e2, _⟩ := HMN.out hmo
                    rw [e1, e2]; simp [boolN]
                  · have := HMY.out hmo; simp [boolN]; omega
end Go.Proofs.YtpidmmfjcghmeaaGreat
