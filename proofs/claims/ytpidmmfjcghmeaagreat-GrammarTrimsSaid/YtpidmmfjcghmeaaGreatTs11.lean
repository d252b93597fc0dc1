/- Texts in one: GtR9a, GtR9b. -/
import Derived.Test.YtpidmmfjcghmeaaGreatTs10
namespace Go.Proofs.YtpidmmfjcghmeaaGreat
open Go.RowKit
attribute [local go_sem ↓] wp_append_wr

set_option maxRecDepth 100000 in
set_option maxHeartbeats 4000000 in
theorem has_r (G : Nat → Prop) (w : World) (A : Option Addr) (n c : Nat) (l : List Int) (s : Int) (h : IntsAt G w (.slice A n c) l) :
    Calls Tryz.prog 41 #[.slice A n c, .int .i64 s] w fun e w' => e = .returned (.bool (decide (s ∈ l))) ∧ w' = w := by
  have l1 := SlAt.len h
  have HA := Lib.hid h
  have hm := l1.2
  have HL := Lib.hid l1.1
  clear h l1
  go_enter Tryz.func41, Tryz.ntmps41
  go_wp2
  go_loopw [5] (fun i wr => ∃ (k : Nat), k ≤ n ∧ i = .int .i64 k ∧ s ∉ l.take k ∧ wr = w) (fun i _ => n - (intOf i).toNat)
  case atStart => exact ⟨0, by omega, rfl, by simp, rfl⟩
  case round =>
    obtain ⟨k, hk, rfl, hi, rfl⟩ := hrel
    by_cases hlt : k < n
    · have hlt1 : k < l.length := by have := HL.out; omega
      obtain ⟨b1, o1, rfl, z1⟩ := HA.out.get hlt1
      have HI := Lib.hid (not_mem_take_succ hlt1 hi)
      have HM := Lib.hid (fun e : l[k] = s => (e ▸ List.getElem_mem hlt1 : s ∈ l))
      clear hi
      revert z1 HI HM
      generalize l[k] = x
      intro z1 HI HM
      by_cases hx : x = s
      · have he := Lib.hid (decide_eq_true (HM.out hx))
        have hx2 : (x == s) = true := beq_iff_eq.2 hx
        clear hx HI HM
        go_wp2_with fail
        go_ret
        exact ⟨by first | (rw [he.out]; done) | (rw [he.out]; rfl), by first | rfl | trivial⟩
      · have he := Lib.hid (HI.out (Ne.symm hx))
        have hx2 : (x == s) = false := beq_eq_false_iff_ne.2 hx
        clear hx HI HM
        go_wp2_with fail
        go_roundw
        case rel => exact ⟨k + 1, by omega, by go_num, he.out, by first | rfl | trivial⟩
        case measure => simp only [intOf]; omega
    · have he := Lib.hid (decide_eq_false (show s ∉ l by rwa [List.take_of_length_le (by have := HL.out; omega)] at hi))
      clear hi
      go_wp2_with fail
      go_ret
      exact ⟨by first | (rw [he.out]; done) | (rw [he.out]; rfl), by first | rfl | trivial⟩

/-- A list of numbers below n, and its word. -/
structure LX (l : List Int) (X n : Nat) : Prop where
  iff : ∀ i : Nat, X.testBit i = true ↔ (i : Int) ∈ l
  lt : ∀ s ∈ l, ∃ i : Nat, i < n ∧ s = (i : Int)
  len : l.length + zr X n = n
theorem zr_zero : ∀ n, zr 0 n = n
  | 0 => rfl
  | n + 1 => by rw [zr, zr_zero n]; simp
theorem LX.nil (n : Nat) : LX [] 0 n := ⟨fun i => (by simp), fun s hs => absurd hs (by simp), (by rw [zr_zero]; simp)⟩
theorem LX.put {l : List Int} {X n i : Nat} (h : LX l X n) (hi : (i : Int) ∉ l) (hn : i < n) : LX (l ++ [(i : Int)]) (X ||| 2 ^ i) n where
  iff j := by
    rw [or_bit, Bool.or_eq_true, decide_eq_true_iff, List.mem_append, List.mem_singleton, h.iff j]
    constructor
    · rintro (h1 | rfl); exact .inl h1; exact .inr rfl
    · rintro (h1 | h1); exact .inl h1; exact .inr (by omega)
  lt s hs := by
    rcases List.mem_append.1 hs with hs | hs
    · exact h.lt s hs
    · exact ⟨i, hn, List.mem_singleton.1 hs⟩
  len := by
    have hb : X.testBit i = false := by
      cases hb : X.testBit i
      · rfl
      · exact absurd ((h.iff i).1 hb) hi
    have := zr_put hb n hn
    have := h.len
    rw [List.length_append, List.length_singleton]
    omega
theorem LX.nat {l : List Int} {X n : Nat} (h : LX l X n) {s : Int} (hs : 0 ≤ s) : s ∈ l ↔ X.testBit s.toNat = true := by
  rw [h.iff, show ((s.toNat : Nat) : Int) = s by omega]

set_option maxRecDepth 100000 in
set_option maxHeartbeats 4000000 in
theorem fine9_r (G : Nat → Prop) (w : World) (vs : List Value) (g : Gm) (us : List Value) (r : Int × List Int) (A' : Option Addr) (n' c' : Nat) (l : List Int) (X n : Nat)(hG : ∀ k, G k → k < w.heap.size) (hg : GmV G w vs g) (hu : RuV G w us r) (hl : g.top ≤ 9223372036854775807) (hv : IntsAt G w (.slice A' n' c') l) (hx : LX l X n):
    Calls Tryz.prog 95 #[ag vs, ag us, .slice A' n' c'] w fun e w' => e = .returned (.bool (fineB g X r)) ∧ Below w.heap.size w w' := by
  obtain ⟨A0, c0, A1, c1, A2, c2, rfl, hb, hx⟩ := GBox.start hG hg
  show Calls Tryz.prog 95 #[.agg #[.slice A0 g.terms.length c0, .slice A1 g.nons.length c1, .slice A2 g.rules.length c2, .int .i64 g.start], ag us, .slice A' n' c'] w _
  generalize hW : w.alloc (.cells #[.slice A0 g.terms.length c0, .slice A1 g.nons.length c1, .slice A2 g.rules.length c2, .int .i64 g.start] 25) = W at *
  obtain ⟨x0, x1, x2, x3⟩ := hx.cells
  have HB := Lib.hid hb; have HX := Lib.hid hx; have HG := Lib.hid hG
  clear hb hx hG hg
  have hu2 := RuV.below HG.out HB.out hu
  obtain ⟨A, c, rfl, _, _⟩ := hu.shape
  obtain ⟨va, ea, ia⟩ := hu2
  injection ea with _ ea
  injection ea with ea _
  subst ea
  have hb : Below W.heap.size W (W.alloc (.cells #[.int .i64 r.1, .slice A r.2.length c] 64)) := (Below.refl _ _).alloc (Nat.le_refl _) _
  have q := heap_alloc_t W (.cells #[.int .i64 r.1, .slice A r.2.length c] 64)
  have HX1 := Lib.hid (HX.out.on hb)
  have HI := Lib.hid (IntsAt.below HX.out.old hb ia)
  have HLI := Lib.hid (IntsAt.below HX.out.old hb (IntsAt.below HG.out HB.out hv))
  have HB1 := Lib.hid (HB.out.trans (hb.mono HB.out.size))
  show Calls Tryz.prog 95 #[_, .agg #[.int .i64 r.1, .slice A r.2.length c], _] w _
  clear x0 x1 x2 x3 ia hu hv
  obtain ⟨r1, r2⟩ := r
  dsimp only at *
  generalize hV : W.alloc (.cells #[.int .i64 r1, .slice A r2.length c] 64) = V at *
  have Y0 := Lib.hid (cell_box q 0 _ rfl); have Y1 := Lib.hid (cell_box q 1 _ rfl)
  have h4 := non_r G
  unfold ag at h4
  have H4 := Lib.hid h4; have HLX := Lib.hid hx; have HL := Lib.hid hl
  have hln := (SlAt.len HI.out).2
  clear h4 q hb hx hl
  go_enter Tryz.func95, Tryz.ntmps95
  have y0 := Y0.out; have y1 := Y1.out
  go_wp2
  go_loopw [7] (fun i wr => ∃ (k : Nat), k ≤ r2.length ∧ i = .int .i64 k ∧ ((r2.drop k).all fun s => !(decide (g.N s) && !X.testBit s.toNat)) = fineB g X (r1, r2) ∧ Below V.heap.size V wr) (fun i _ => r2.length - (intOf i).toNat)
  case atStart => exact ⟨0, by omega, rfl, rfl, Below.refl _ _⟩
  case round =>
    obtain ⟨k, hk, rfl, hi, hb⟩ := hrel
    have HBR := Lib.hid hb
    have HXR := Lib.hid (HX1.out.on hb)
    have HIR := Lib.hid (IntsAt.below HX1.out.old hb HI.out)
    have HLR := Lib.hid (IntsAt.below HX1.out.old hb HLI.out)
    clear y0 y1
    have y1 := box_keep Y1.out hb
    clear hb
    obtain ⟨x0, x1, x2, x3⟩ := HXR.out.cells
    by_cases hlt : k < r2.length
    · obtain ⟨bb, off, rfl, z⟩ := HIR.out.get hlt
      rw [drop_one r2 k hlt, List.all_cons] at hi
      revert hi z
      generalize r2[k] = s
      intro hi z
      have p := fun Y : Gr wr => Y.calls (H4.out Y.at_ _ g s (old_of HXR.out.old Y.2) (GmV.below HXR.out.old Y.2 HXR.out.gm) HL.out)
      have q := fun Y : Gr wr => Y.calls ((has_r G Y.at_ A' n' c' l s (IntsAt.below HXR.out.old Y.2 HLR.out)).mono fun _ w' h => (⟨h.1, h.2 ▸ Below.refl _ _⟩ : _ ∧ Below Y.at_.heap.size Y.at_ w'))
      have hd : decide (g.N s) = true → decide (s ∈ l) = X.testBit s.toNat := fun h => by
        rw [Bool.eq_iff_iff, decide_eq_true_iff, HLX.out.nat (by have := of_decide_eq_true h; unfold Gm.N at this; omega)]
      have HD := Lib.hid hd; have HI2 := Lib.hid hi
      have f0 := fun Y : Gr wr => Y.cell _ _ x0; have f1 := fun Y : Gr wr => Y.cell _ _ x1; have f2 := fun Y : Gr wr => Y.cell _ _ x2; have f3 := fun Y : Gr wr => Y.cell _ _ x3
      have fk := fun Y : Gr wr => Y.cell _ _ y1; have fj := fun Y : Gr wr => Y.cell _ _ z
      have hne : Nonempty (Gr wr) := ⟨⟨_, Below.refl _ _⟩⟩
      clear hd hi
      revert p q HD HI2
      generalize decide (g.N s) = d1
      generalize decide (s ∈ l) = d2
      generalize X.testBit s.toNat = d3
      intro p q HD HI2
      go_wp2_with fail
      cases d1
      · refine wp_region_class (S := Gr wr) Gr.at_ (by kernel_rfl) (by kernel_rfl) (Gr.drew _) ?_
        repeat (go_big_quiet_step (first | (with_reducible exact p _) | (with_reducible exact q _)))
        refine wpQuiet_nil ?_
        rintro wz ⟨⟨wz', hY⟩, hY2⟩
        obtain rfl : wz = wz' := hY2
        have HBZ := Lib.hid (HBR.out.trans (hY.mono HBR.out.size))
        clear p q f0 f1 f2 f3 fk fj hne hY z x0 x1 x2 x3 y1
        go_wp2_with fail
        go_roundw
        case rel => exact ⟨k + 1, by omega, by go_num, HI2.out, HBZ.out⟩
        case measure => simp only [intOf]; omega
      · refine wp_region_class (S := Gr wr) Gr.at_ (by kernel_rfl) (by kernel_rfl) (Gr.drew _) ?_
        repeat (go_big_quiet_step (first | (with_reducible exact p _) | (with_reducible exact q _)))
        refine wpQuiet_nil ?_
        rintro wz ⟨⟨wz', hY⟩, hY2⟩
        obtain rfl : wz = wz' := hY2
        have HBZ := Lib.hid (HBR.out.trans (hY.mono HBR.out.size))
        clear p q f0 f1 f2 f3 fk fj hne hY z x0 x1 x2 x3 y1
        have hd := HD.out rfl
        subst hd
        cases d2
        · have he := Lib.hid (show fineB g X (r1, r2) = false by rw [← HI2.out]; rfl)
          go_wp2_with fail
          go_ret
          exact ⟨by first | (rw [he.out]; done) | (rw [he.out]; rfl), HB1.out.trans (HBZ.out.mono HB1.out.size)⟩
        · go_wp2_with fail
          go_roundw
          case rel => exact ⟨k + 1, by omega, by go_num, HI2.out, HBZ.out⟩
          case measure => simp only [intOf]; omega
    · have he := Lib.hid (show fineB g X (r1, r2) = true by rw [← hi, List.drop_eq_nil_of_le (by omega)]; rfl)
      clear hi
      go_wp2_with fail
      go_ret
      exact ⟨by first | (rw [he.out]; done) | (rw [he.out]; rfl), HB1.out.trans (HBR.out.mono HB1.out.size)⟩
end Go.Proofs.YtpidmmfjcghmeaaGreat
namespace Go.Proofs.YtpidmmfjcghmeaaGreat
open Go.RowKit
attribute [local go_sem ↓] wp_append_wr

def sortI (l : List Int) (k : Nat) : List Int := ((List.range k).map fun (i : Nat) => (i : Int) + 1).filter fun s => decide (s ∈ l)
theorem sortI_succ (l : List Int) (k : Nat) : sortI l (k + 1) = sortI l k ++ (if (k : Int) + 1 ∈ l then [(k : Int) + 1] else []) := by
  unfold sortI
  rw [List.range_succ, List.map_append, List.filter_append]
  congr 1
  by_cases h : (k : Int) + 1 ∈ l
  · simp [h]
  · simp [h]
theorem sortI_len (l : List Int) (k : Nat) : (sortI l k).length ≤ k := by
  unfold sortI
  exact Nat.le_trans (List.length_filter_le _ _) (by simp)
theorem mem_sortI {l : List Int} {k : Nat} {s : Int} : s ∈ sortI l k ↔ s ∈ l ∧ 1 ≤ s ∧ s ≤ (k : Int) := by
  unfold sortI
  rw [List.mem_filter, List.mem_map, decide_eq_true_iff]
  constructor
  · rintro ⟨⟨i, hi, rfl⟩, h⟩
    rw [List.mem_range] at hi
    exact ⟨h, by omega, by omega⟩
  · rintro ⟨h, h1, h2⟩
    exact ⟨⟨(s - 1).toNat, List.mem_range.2 (by omega), by omega⟩, h⟩

set_option maxRecDepth 100000 in
set_option maxHeartbeats 4000000 in
theorem sort_r (G : Nat → Prop) (w : World) (vs : List Value) (g : Gm) (A' : Option Addr) (n' c' : Nat) (l : List Int)(hG : ∀ k, G k → k < w.heap.size) (hg : GmV G w vs g) (hl : g.top ≤ 1099511627775) (hv : IntsAt G w (.slice A' n' c') l):
    Calls Tryz.prog 96 #[ag vs, .slice A' n' c'] w fun e w' => (∃ v, e = .returned v ∧ Ints w.heap.size w' v (sortI l g.top)) ∧ Below w.heap.size w w' := by
  obtain ⟨A0, c0, A1, c1, A2, c2, rfl, hb, hx⟩ := GBox.start hG hg
  show Calls Tryz.prog 96 #[.agg #[.slice A0 g.terms.length c0, .slice A1 g.nons.length c1, .slice A2 g.rules.length c2, .int .i64 g.start], .slice A' n' c'] w _
  generalize hW : w.alloc (.cells #[.slice A0 g.terms.length c0, .slice A1 g.nons.length c1, .slice A2 g.rules.length c2, .int .i64 g.start] 25) = W at *
  obtain ⟨x0, x1, x2, x3⟩ := hx.cells
  have HB := Lib.hid hb; have HX := Lib.hid hx; have HG := Lib.hid hG
  clear hb hx hG hg
  have HL := Lib.hid (IntsAt.below HG.out HB.out hv)
  have h3 := top_r G
  unfold ag at h3
  have H3 := Lib.hid h3
  clear hv h3
  go_enter Tryz.func96, Tryz.ntmps96
  go_wp2
  go_loopw [5, 6] (fun o i wr => ∃ (k : Nat), k ≤ g.top ∧ i = .int .i64 ((k : Int) + 1) ∧ Ints W.heap.size wr o (sortI l k) ∧ Below W.heap.size W wr) (fun _ i _ => g.top + 1 - (intOf i).toNat)
  case atStart => exact ⟨0, by omega, by simp, Nrow.nil _ _ _ _ _, Below.refl _ _⟩
  case round =>
    obtain ⟨k, hk, rfl, ho, hb1⟩ := hrel
    obtain ⟨Ao, co, rfl⟩ := ho.shape
    have HO := Lib.hid ho; have HR := Lib.hid hb1
    have HXR := Lib.hid (HX.out.on hb1)
    clear x0 x1 x2 x3 ho hb1
    obtain ⟨x0, x1, x2, x3⟩ := HXR.out.cells
    go_wp2_with fail
    refine (H3.out _ _ g HXR.out.old HXR.out.gm (by omega)).mono ?_
    rintro e w1 ⟨rfl, hb1⟩
    have HO1 := Lib.hid (HO.out.below hb1)
    have HR1 := Lib.hid (HR.out.trans (hb1.mono HR.out.size))
    have HL1 := Lib.hid (IntsAt.below HXR.out.old hb1 (IntsAt.below HX.out.old HR.out HL.out))
    clear hb1 x0 x1 x2 x3
    by_cases hlt : k < g.top
    · have hle : (k : Int) + 1 ≤ (g.top : Int) := by omega
      have HC := Lib.hid (has_r G w1 A' n' c' l ((k : Int) + 1) HL1.out)
      have hsl := sortI_len l k
      by_cases hm : (k : Int) + 1 ∈ l
      · have HSS := Lib.hid (show sortI l (k + 1) = sortI l k ++ [(k : Int) + 1] by rw [sortI_succ, if_pos hm])
        rw [decide_eq_true hm] at HC
        obtain ⟨v', w', hrun, ho', hb'⟩ := HO1.out.push ((k : Int) + 1) (by omega) HR1.out.size
        have HO2 := Lib.hid ho'; have HR2 := Lib.hid (HR1.out.trans hb')
        clear ho' hb' hm
        go_wp2_with fail
        refine (HC.out).mono ?_
        rintro e w2 ⟨rfl, rfl⟩
        go_wp2_with fail
        go_roundw
        case rel => exact ⟨k + 1, by omega, by go_num, by rw [HSS.out]; exact HO2.out, HR2.out⟩
        case measure => simp only [intOf]; omega
      · have HSS := Lib.hid (show sortI l (k + 1) = sortI l k by rw [sortI_succ, if_neg hm, List.append_nil])
        rw [decide_eq_false hm] at HC
        clear hm
        go_wp2_with fail
        refine (HC.out).mono ?_
        rintro e w2 ⟨rfl, rfl⟩
        go_wp2_with fail
        go_roundw
        case rel => exact ⟨k + 1, by omega, by go_num, by rw [HSS.out]; exact HO1.out, HR1.out⟩
        case measure => simp only [intOf]; omega
    · have hgt : ¬ (k : Int) + 1 ≤ (g.top : Int) := by omega
      have HF := Lib.hid (show Ints w.heap.size w1 (.slice Ao (sortI l k).length co) (sortI l g.top) by
        have hk2 : k = g.top := by omega
        rw [← hk2]; exact Nrow.lower HO1.out HB.out.size)
      go_wp2_with fail
      go_ret
      exact ⟨⟨_, rfl, HF.out⟩, HB.out.trans (HR1.out.mono HB.out.size)⟩
end Go.Proofs.YtpidmmfjcghmeaaGreat
