/- Texts in one: GtTop. -/
import Derived.Test.YtpidmmfjcghmeaaGreatTs12
import Derived.Test.YtpidmmfjcghmeaaGreatTs15
import Derived.Test.YtpidmmfjcghmeaaGreatTs19
import Derived.Test.YtpidmmfjcghmeaaGreatTs37
namespace Go.Proofs.YtpidmmfjcghmeaaGreat
open Go.RowKit
attribute [local go_sem ↓] wp_append_wr

set_option maxRecDepth 100000 in
set_option maxHeartbeats 4000000 in
theorem trims_walk (G : Nat → Prop) (w : World) (vs : List Value) (g : Gm) (Al : Option Addr) (cl : Nat) (l : List Int)(hG : ∀ k, G k → k < w.heap.size) (hg : GmV G w vs g) (hf : g.Fit) (hi : IntsAt G w (.slice Al l.length cl) l):
    Calls Tryz.prog 3 #[ag vs, .slice Al l.length cl] w fun e w' => e = .returned (.bool true) ∧ Below w.heap.size w w' := by
  obtain ⟨A0, c0, A1, c1, A2, c2, rfl, hb, hx⟩ := GBox.start hG hg
  show Calls Tryz.prog 3 #[.agg #[.slice A0 g.terms.length c0, .slice A1 g.nons.length c1, .slice A2 g.rules.length c2, .int .i64 g.start], .slice Al l.length cl] w _
  generalize hW : w.alloc (.cells #[.slice A0 g.terms.length c0, .slice A1 g.nons.length c1, .slice A2 g.rules.length c2, .int .i64 g.start] 25) = W at *
  obtain ⟨x0, x1, x2, x3⟩ := hx.cells
  have HB := Lib.hid hb; have HX := Lib.hid hx; have HG := Lib.hid hG
  clear hb hx hG hg
  have HF := Lib.hid hf
  have HLI := Lib.hid hi
  have hll := SlAt.len hi
  have hlm := hll.2
  clear hf hi hll
  have HL := Lib.hid (Ab.lives_all W)
  go_enter Tryz.func3, Tryz.ntmps3
  go_wp2_with fail
  refine (HL.out).mono ?_
  rintro e w1 ⟨rfl, hb1⟩
  have HX1 := Lib.hid (HX.out.on hb1)
  have HB1 := Lib.hid (HB.out.trans (hb1.mono HB.out.size))
  clear x0 x1 x2 x3 hb1
  obtain ⟨x0, x1, x2, x3⟩ := HX1.out.cells
  have h2 := much_r G; have h3 := check_r G; have h4 := trim_p G; have h5 := word_r G
  unfold ag at h2 h3 h4 h5
  have H2 := Lib.hid h2; have H3 := Lib.hid h3; have H4 := Lib.hid h4; have H5 := Lib.hid h5
  clear h2 h3 h4 h5
  go_wp2_with fail
  refine (H2.out _ _ g HX1.out.old HX1.out.gm HF.out).mono ?_
  rintro e w2 ⟨rfl, hb1⟩
  have HX2 := Lib.hid (HX1.out.on hb1)
  have HB2 := Lib.hid (HB1.out.trans (hb1.mono HB1.out.size))
  clear x0 x1 x2 x3 hb1
  obtain ⟨x0, x1, x2, x3⟩ := HX2.out.cells
  by_cases hm : 40 < muchN g
  · have hm2 : (40 : Int) < (muchN g : Int) := by omega
    clear hm
    go_wp2_with fail
    go_ret
    exact ⟨rfl, HB2.out⟩
  have HFW := Lib.hid (few_of (g := g) (by omega))
  have hm2 : ¬ (40 : Int) < (muchN g : Int) := by omega
  clear hm
  by_cases hl10 : 10 < l.length
  · have hl2 : (10 : Int) < (l.length : Int) := by omega
    go_wp2_with fail
    go_ret
    exact ⟨rfl, HB2.out⟩
  have hl2 : ¬ (10 : Int) < (l.length : Int) := by omega
  go_wp2_with fail
  refine (H3.out _ _ g HX2.out.old HX2.out.gm HF.out).mono ?_
  rintro e w3 ⟨⟨n, rfl, hn⟩, hb1⟩
  have HX3 := Lib.hid (HX2.out.on hb1)
  have HB3 := Lib.hid (HB2.out.trans (hb1.mono HB2.out.size))
  clear x0 x1 x2 x3 hb1
  obtain ⟨x0, x1, x2, x3⟩ := HX3.out.cells
  by_cases hn0 : n = 0
  case neg =>
    clear hn
    have hn1 : (n != 0) = true := by simpa using hn0
    go_wp2_with fail
    go_ret
    exact ⟨rfl, HB3.out⟩
  have HW := Lib.hid (hn.1 hn0)
  subst hn0
  clear hn
  have HTP := Lib.hid (show g.top ≤ 63 from by have := HFW.out.n; omega)
  go_wp2_with fail
  refine (H4.out _ _ g HX3.out.old HX3.out.gm HW.out HTP.out).mono ?_
  rintro e w4 hp
  obtain ⟨hpt, hpf, hb1⟩ := hp
  have HI4 := Lib.hid (IntsAt.below HG.out ((HB3.out.trans (hb1.mono HB3.out.size))) HLI.out)
  have HTK := Lib.hid (show g.top ≤ 1000 ∧ l.length ≤ 1000 ∧ g.rules.length ≤ 100000 from ⟨by have := HTP.out; omega, by omega, by have := HW.out.lr; omega⟩)
  have HGO := Lib.hid (show ∀ k, G k → k < w4.heap.size from old_of HG.out (HB3.out.trans (hb1.mono HB3.out.size)))
  rcases Classical.em (g.Prod g.start) with hP | hP
  case inr =>
    obtain rfl := hpf hP
    have HN := Lib.hid (not_prod_not hP l)
    clear hpt hpf hP
    have hb0 : Below w4.heap.size w4 (w4.alloc (.cells #[.slice none 0 0, .slice none 0 0, .slice none 0 0, .int .i64 0] 25)) := (Below.refl _ _).alloc (Nat.le_refl _) _
    have HI5 := Lib.hid (HI4.out.below HGO.out hb0)
    have hb2 : Below w3.heap.size w3 (w4.alloc (.cells #[.slice none 0 0, .slice none 0 0, .slice none 0 0, .int .i64 0] 25)) := hb1.trans (hb0.mono hb1.size)
    clear hb0 hb1
    have hb1 := hb2
    clear hb2
    have HX5 := Lib.hid (HX3.out.on hb1)
    have HB5 := Lib.hid (HB3.out.trans (hb1.mono HB3.out.size))
    clear x0 x1 x2 x3 hb1
    obtain ⟨x0, x1, x2, x3⟩ := HX5.out.cells
    have HC := Lib.hid (H5.out (w4.alloc (.cells #[.slice none 0 0, .slice none 0 0, .slice none 0 0, .int .i64 0] 25)) _ g Al cl l HX5.out.old HX5.out.gm HW.out.kn HTK.out.1 HTK.out.2.1 HTK.out.2.2 HI5.out)
    go_wp2_with fail
    refine (HC.out).mono ?_
    rintro e w6 ⟨⟨b, rfl, hb⟩, hb1⟩
    have hbf : b = false := by
      cases b
      · rfl
      · exact absurd (hb.1 rfl) HN.out
    subst hbf
    clear hb
    go_wp2_with fail
    go_ret
    exact ⟨rfl, HB5.out.trans (hb1.mono HB5.out.size)⟩
  obtain ⟨vs, rfl, hgm⟩ := hpt hP
  obtain ⟨B0, d0, B1, d1, B2, d2, rfl, hb5, hx5⟩ := GBox.start (fun _ hk => hk.2) hgm
  have HP := Lib.hid hP
  have HLV := Lib.hid (trim_is_live HW.out hP)
  have HTT2 := Lib.hid (show g.trim.top ≤ 1099511627775 by have := HLV.out.1.top.1; omega)
  clear hpt hpf hP hgm
  have HX4 := Lib.hid (HX3.out.on hb1)
  have HB4 := Lib.hid (HB3.out.trans (hb1.mono HB3.out.size))
  clear x0 x1 x2 x3 hb1
  obtain ⟨x0, x1, x2, x3⟩ := HX4.out.cells
  unfold ag
  generalize hW5 : w4.alloc (.cells #[.slice B0 g.trim.terms.length d0, .slice B1 g.trim.nons.length d1, .slice B2 g.trim.rules.length d2, .int .i64 g.trim.start] 25) = W5 at *
  have HX5 := Lib.hid (HX4.out.on hb5)
  have HB5 := Lib.hid (HB4.out.trans (hb5.mono HB4.out.size))
  have HI5 := Lib.hid (HI4.out.below HGO.out hb5)
  have HH5 := Lib.hid hx5
  have HR := Lib.hid (show Ints W5.heap.size W5 (.slice none 0 0) [] from Nrow.nil _ _ _ _ _)
  clear x0 x1 x2 x3 hb5 hx5 HI4
  go_wp2_with fail
  obtain ⟨R, hR⟩ : ∃ R, R = g.live.reached := ⟨_, rfl⟩
  have HRE := Lib.hid hR
  clear hR
  go_loopw [7, 8] (fun mv iv wr => ∃ (k : Nat), k ≤ l.length ∧ iv = .int .i64 k ∧ Ints W5.heap.size wr mv ((l.take k).map (Gm.pos R)) ∧ (∀ t ∈ l.take k, t ∈ R) ∧ Below W5.heap.size W5 wr) (fun _ iv _ => l.length - (intOf iv).toNat)
  case atStart => exact ⟨0, by omega, rfl, HR.out, by simp, Below.refl _ _⟩
  case round =>
    obtain ⟨k, hk, rfl, hms, hin, hb1⟩ := hrel
    have HIN := Lib.hid hin; have HMS := Lib.hid hms; have HBR := Lib.hid hb1; have HBQ := Lib.hid hb1
    have HXR := Lib.hid (HX5.out.on hb1); have HHR := Lib.hid (HH5.out.on hb1)
    have HBW := Lib.hid (HB5.out.trans (hb1.mono HB5.out.size))
    have HIR := Lib.hid (HI5.out.below (fun k hk => Nat.lt_of_lt_of_le (HGO.out k hk) (by rw [← hW5]; simp)) hb1)
    clear hms hin hb1
    obtain ⟨x0, x1, x2, x3⟩ := HXR.out.cells
    obtain ⟨y0, y1, y2, y3⟩ := HHR.out.cells
    by_cases hlt : k < l.length
    · obtain ⟨bl, ol, rfl, z⟩ := HIR.out.get hlt
      have HS := Lib.hid (show ∀ X, Below wr.heap.size wr X → X.cell? ⟨w.heap.size, 0, none⟩ = some (.slice A0 g.terms.length c0) ∧ X.cell? ⟨w.heap.size, 1, none⟩ = some (.slice A1 g.nons.length c1) ∧ X.cell? ⟨w.heap.size, 2, none⟩ = some (.slice A2 g.rules.length c2) ∧ X.cell? ⟨w.heap.size, 3, none⟩ = some (.int .i64 g.start) ∧ X.cell? ⟨bl, ol + k, none⟩ = some (.int .i64 l[k]) from
        fun X hX => ⟨(HXR.out.on hX).x0, (HXR.out.on hX).x1, (HXR.out.on hX).x2, (HXR.out.on hX).x3, box_keep z hX⟩)
      have HS2 := Lib.hid (show ∀ X, Below wr.heap.size wr X → X.cell? ⟨w4.heap.size, 0, none⟩ = some (.slice B0 g.trim.terms.length d0) ∧ X.cell? ⟨w4.heap.size, 1, none⟩ = some (.slice B1 g.trim.nons.length d1) ∧ X.cell? ⟨w4.heap.size, 2, none⟩ = some (.slice B2 g.trim.rules.length d2) ∧ X.cell? ⟨w4.heap.size, 3, none⟩ = some (.int .i64 g.trim.start) ∧ X.cell? ⟨w.heap.size, 0, none⟩ = some (.slice A0 g.terms.length c0) ∧ X.cell? ⟨w.heap.size, 1, none⟩ = some (.slice A1 g.nons.length c1) ∧ X.cell? ⟨w.heap.size, 2, none⟩ = some (.slice A2 g.rules.length c2) ∧ X.cell? ⟨w.heap.size, 3, none⟩ = some (.int .i64 g.start) ∧ X.cell? ⟨bl, ol + k, none⟩ = some (.int .i64 l[k]) from
        fun X hX => ⟨(HHR.out.on hX).x0, (HHR.out.on hX).x1, (HHR.out.on hX).x2, (HHR.out.on hX).x3, (HXR.out.on hX).x0, (HXR.out.on hX).x1, (HXR.out.on hX).x2, (HXR.out.on hX).x3, box_keep z hX⟩)
      have R0 := Lib.hid (show Below wr.heap.size wr wr.drew from (Below.refl _ _).drew)
      have FT0 := Lib.hid (show ∀ X, Below wr.heap.size wr X → Calls Tryz.prog 10 #[.agg #[.slice A0 g.terms.length c0, .slice A1 g.nons.length c1, .slice A2 g.rules.length c2, .int .i64 g.start], .int .i64 l[k]] X fun e w' => e = .returned (.bool (decide (g.T l[k]))) ∧ Below wr.heap.size wr w' from
        fun X hX => (term_r G X _ g l[k] (HXR.out.on hX).old (HXR.out.on hX).gm).mono fun e w' hp => ⟨hp.1, hX.trans (hp.2.mono hX.size)⟩)
      by_cases hT : g.T l[k]
      case neg =>
        rw [decide_eq_false hT] at FT0
        clear hT
        go_wp2_with fail
        go_region_held3 (fun X => X.cell? ⟨w.heap.size, 0, none⟩ = some (.slice A0 g.terms.length c0) ∧ X.cell? ⟨w.heap.size, 1, none⟩ = some (.slice A1 g.nons.length c1) ∧ X.cell? ⟨w.heap.size, 2, none⟩ = some (.slice A2 g.rules.length c2) ∧ X.cell? ⟨w.heap.size, 3, none⟩ = some (.int .i64 g.start) ∧ X.cell? ⟨bl, ol + k, none⟩ = some (.int .i64 l[k]))
          (exact HS.out _ (by first | exact bP | exact R0.out))
          (first
            | (go_at_call 10
               refine Calls.mono (FT0.out _ R0.out) ?_
               rintro e wP ⟨rfl, bP⟩
               dsimp only))
        all_goals
          go_wp2_with fail
          go_ret
          exact ⟨rfl, HBW.out.trans (bP.mono HBW.out.size)⟩
      rw [decide_eq_true hT] at FT0
      obtain ⟨m, hm⟩ : ∃ m : Nat, l[k] = (m : Int) + 1 := ⟨(l[k] - 1).toNat, by unfold Gm.T at hT; omega⟩
      have hmn : m < g.names.length := by unfold Gm.T at hT; rw [names_len]; unfold Gm.top; omega
      have HTT := Lib.hid hT; have HMN := Lib.hid hmn; have HMM := Lib.hid hm
      clear hT hm hmn
      go_wp2_with fail
      go_region_held3 (fun X => X.cell? ⟨w.heap.size, 0, none⟩ = some (.slice A0 g.terms.length c0) ∧ X.cell? ⟨w.heap.size, 1, none⟩ = some (.slice A1 g.nons.length c1) ∧ X.cell? ⟨w.heap.size, 2, none⟩ = some (.slice A2 g.rules.length c2) ∧ X.cell? ⟨w.heap.size, 3, none⟩ = some (.int .i64 g.start) ∧ X.cell? ⟨bl, ol + k, none⟩ = some (.int .i64 l[k]))
        (exact HS.out _ (by first | exact bP | exact R0.out))
        (first
          | (go_at_call 10
             refine Calls.mono (FT0.out _ R0.out) ?_
             rintro e wP ⟨rfl, bP⟩
             dsimp only))
      have HSP := Lib.hid (show ∀ X, Below wP.heap.size wP X → X.cell? ⟨w4.heap.size, 0, none⟩ = some (.slice B0 g.trim.terms.length d0) ∧ X.cell? ⟨w4.heap.size, 1, none⟩ = some (.slice B1 g.trim.nons.length d1) ∧ X.cell? ⟨w4.heap.size, 2, none⟩ = some (.slice B2 g.trim.rules.length d2) ∧ X.cell? ⟨w4.heap.size, 3, none⟩ = some (.int .i64 g.trim.start) ∧ X.cell? ⟨w.heap.size, 0, none⟩ = some (.slice A0 g.terms.length c0) ∧ X.cell? ⟨w.heap.size, 1, none⟩ = some (.slice A1 g.nons.length c1) ∧ X.cell? ⟨w.heap.size, 2, none⟩ = some (.slice A2 g.rules.length c2) ∧ X.cell? ⟨w.heap.size, 3, none⟩ = some (.int .i64 g.start) ∧ X.cell? ⟨bl, ol + k, none⟩ = some (.int .i64 l[k]) from fun X hX => HS2.out X (bP.trans (hX.mono bP.size)))
      have RP := Lib.hid (show Below wr.heap.size wr wP.drew from bP.drew)
      have FN := Lib.hid (show ∀ X, Below wr.heap.size wr X → Calls Tryz.prog 12 #[.agg #[.slice A0 g.terms.length c0, .slice A1 g.nons.length c1, .slice A2 g.rules.length c2, .int .i64 g.start], .int .i64 l[k]] X fun e w' => e = .returned (bs (g.name l[k])) ∧ Below wr.heap.size wr w' from
        fun X hX => by
          have h := name_r6 G X _ g m (HXR.out.on hX).old (HXR.out.on hX).gm (by have := HTP.out; omega) HMN.out
          rw [names_at, ← HMM.out] at h
          exact h.mono fun e w' hp => ⟨hp.1, hX.trans (hp.2.mono hX.size)⟩)
      obtain ⟨x, hx⟩ : ∃ x, x = fidx (fun y => y == g.name l[k]) g.trim.names 0 + 1 := ⟨_, rfl⟩
      have FF := Lib.hid (show ∀ X, Below wr.heap.size wr X → Calls Tryz.prog 11 #[.agg #[.slice B0 g.trim.terms.length d0, .slice B1 g.trim.nons.length d1, .slice B2 g.trim.rules.length d2, .int .i64 g.trim.start], bs (g.name l[k])] X fun e w' => e = .returned (.int .i64 x) ∧ Below wr.heap.size wr w' from
        fun X hX => by
          rw [hx]
          exact (find_r6 _ X _ g.trim (g.name l[k]) (HHR.out.on hX).old (HHR.out.on hX).gm HTT2.out).mono fun e w' hp => ⟨hp.1, hX.trans (hp.2.mono hX.size)⟩)
      have HXX := Lib.hid hx
      clear hx
      clear x0 x1 x2 x3 y0 y1 y2 y3 z
      go_wp2_with fail
      go_region_held3 (fun X => X.cell? ⟨w4.heap.size, 0, none⟩ = some (.slice B0 g.trim.terms.length d0) ∧ X.cell? ⟨w4.heap.size, 1, none⟩ = some (.slice B1 g.trim.nons.length d1) ∧ X.cell? ⟨w4.heap.size, 2, none⟩ = some (.slice B2 g.trim.rules.length d2) ∧ X.cell? ⟨w4.heap.size, 3, none⟩ = some (.int .i64 g.trim.start) ∧ X.cell? ⟨w.heap.size, 0, none⟩ = some (.slice A0 g.terms.length c0) ∧ X.cell? ⟨w.heap.size, 1, none⟩ = some (.slice A1 g.nons.length c1) ∧ X.cell? ⟨w.heap.size, 2, none⟩ = some (.slice A2 g.rules.length c2) ∧ X.cell? ⟨w.heap.size, 3, none⟩ = some (.int .i64 g.start) ∧ X.cell? ⟨bl, ol + k, none⟩ = some (.int .i64 l[k]))
        (exact HS2.out _ (by first | exact bF | exact bN | exact RP.out))
        (first
          | (go_at_call 12
             refine Calls.mono (FN.out _ RP.out) ?_
             rintro e wN ⟨rfl, bN⟩
             dsimp only)
          | (go_at_call 11
             refine Calls.mono (FF.out _ bN) ?_
             rintro e wF ⟨rfl, bF⟩
             dsimp only))
      obtain ⟨x0, x1, x2, x3⟩ := (HXR.out.on bF).cells
      have HXF := Lib.hid (HXR.out.on bF)
      have HIF := Lib.hid (HIR.out.below (fun k hk => Nat.lt_of_lt_of_le (Nat.lt_of_lt_of_le (HGO.out k hk) (by rw [← hW5]; simp)) HBQ.out.size) bF)
      have HBF := Lib.hid (HBW.out.trans (bF.mono HBW.out.size))
      have HBFR := Lib.hid bF
      by_cases hin : l[k] ∈ R
      case neg =>
        obtain rfl : x = 0 := by rw [HXX.out]; exact find_not HW.out HTT.out (by rw [← HRE.out]; exact hin)
        have HN := Lib.hid (Gm.trim_not HW.out.kn (List.getElem_mem hlt) (by rw [← HRE.out]; exact hin))
        have HC := Lib.hid (H5.out wF _ g _ cl l HXF.out.old HXF.out.gm HW.out.kn HTK.out.1 HTK.out.2.1 HTK.out.2.2 HIF.out)
        clear hin bF bN bP
        go_wp2_with fail
        refine (HC.out).mono ?_
        rintro e w6 ⟨⟨b, rfl, hb⟩, hb1⟩
        have hbf : b = false := by
          cases b
          · rfl
          · exact absurd (hb.1 rfl) HN.out
        subst hbf
        clear hb
        go_wp2_with fail
        go_ret
        exact ⟨rfl, HBF.out.trans (hb1.mono HBF.out.size)⟩
      have hxp : x = Gm.pos R l[k] := by rw [HXX.out, HRE.out]; exact find_in HW.out HTT.out (by rw [← HRE.out]; exact hin)
      have hx0 : ¬ x = 0 := by rw [hxp]; unfold Gm.pos; omega
      have HXP := Lib.hid hxp; have HKI := Lib.hid hin
      obtain ⟨v7, w7, hrun, hrw, hb7⟩ := Ints.push x (HMS.out.below bF) (by have := HTK.out.2.1; simp; omega) (Nat.le_trans HBQ.out.size bF.size)
      have HRW := Lib.hid hrw; have HB7 := Lib.hid hb7
      clear hin hxp hrw hb7 bF bN bP
      go_wp2_with fail
      go_roundw
      case rel =>
        refine ⟨k + 1, by omega, by go_num, ?_, fun t ht => ?_, (HBQ.out.trans (HBFR.out.mono HBQ.out.size)).trans HB7.out⟩
        · rw [List.take_succ_eq_append_getElem hlt, List.map_append, List.map_singleton, ← HXP.out]
          exact HRW.out
        · rw [List.take_succ_eq_append_getElem hlt, List.mem_append, List.mem_singleton] at ht
          rcases ht with ht | rfl
          · exact HIN.out t ht
          · exact HKI.out
      case measure => simp only [intOf]; omega
    · obtain rfl : k = l.length := by omega
      have hms := HMS.out; have hin := HIN.out
      rw [List.take_length] at hms hin
      obtain ⟨A7, c7, e7⟩ := hms.shape
      rw [List.length_map] at e7
      subst e7
      have hwd := Gm.trim_word HW.out.kn (fun t ht => by rw [← HRE.out]; exact hin t ht)
      rw [← HRE.out] at hwd
      obtain ⟨d, hd⟩ : ∃ d : Bool, d = true ↔ g.Der [g.start] l := ⟨@decide _ (Classical.propDecidable _), @decide_eq_true_iff _ (Classical.propDecidable _)⟩
      have HD := Lib.hid hd; have HWD := Lib.hid hwd; have HMI := Lib.hid hms
      have HTK2 := Lib.hid (show g.trim.top ≤ 1000 ∧ (l.map (Gm.pos R)).length ≤ 1000 ∧ g.trim.rules.length ≤ 100000 from ⟨HLV.out.1.lens.2.2, by rw [List.length_map]; exact HTK.out.2.1, by have := HLV.out.1.lens.1; omega⟩)
      have HHO := Lib.hid (HHR.out.gm.keep (G' := Old wr) (fun k hk => HHR.out.old k hk) (fun _ _ => rfl))
      have FW1 := Lib.hid (show ∀ X, Below wr.heap.size wr X → Calls Tryz.prog 9 #[.agg #[.slice A0 g.terms.length c0, .slice A1 g.nons.length c1, .slice A2 g.rules.length c2, .int .i64 g.start], .slice Al l.length cl] X fun e w' => e = .returned (.bool d) ∧ Below wr.heap.size wr w' from
        fun X hX => (H5.out X _ g Al cl l (HXR.out.on hX).old (HXR.out.on hX).gm HW.out.kn HTK.out.1 HTK.out.2.1 HTK.out.2.2 (HIR.out.below HXR.out.old hX)).mono fun e w' hp => by
          obtain ⟨⟨b, rfl, hb⟩, hb1⟩ := hp
          obtain rfl : b = d := by rw [Bool.eq_iff_iff, hb, HD.out]
          exact ⟨rfl, hX.trans (hb1.mono hX.size)⟩)
      have FW2 := Lib.hid (show ∀ X, Below wr.heap.size wr X → Calls Tryz.prog 9 #[.agg #[.slice B0 g.trim.terms.length d0, .slice B1 g.trim.nons.length d1, .slice B2 g.trim.rules.length d2, .int .i64 g.trim.start], .slice A7 l.length c7] X fun e w' => e = .returned (.bool d) ∧ Below wr.heap.size wr w' from
        fun X hX => by
          have h := word_r (Old wr) X _ g.trim A7 c7 (l.map (Gm.pos R)) (fun k hk => Nat.lt_of_lt_of_le hk hX.size) (HHO.out.below (fun _ h => h) hX) HLV.out.1.kn HTK2.out.1 HTK2.out.2.1 HTK2.out.2.2 (by rw [List.length_map]; exact HMI.out.at_.below (fun _ h => h) hX)
          rw [List.length_map] at h
          unfold ag at h
          refine h.mono fun e w' hp => ?_
          obtain ⟨⟨b, rfl, hb⟩, hb1⟩ := hp
          obtain rfl : b = d := by rw [Bool.eq_iff_iff, hb, HD.out, HWD.out]
          exact ⟨rfl, hX.trans (hb1.mono hX.size)⟩)
      have HS := Lib.hid (show ∀ X, Below wr.heap.size wr X → X.cell? ⟨w4.heap.size, 0, none⟩ = some (.slice B0 g.trim.terms.length d0) ∧ X.cell? ⟨w4.heap.size, 1, none⟩ = some (.slice B1 g.trim.nons.length d1) ∧ X.cell? ⟨w4.heap.size, 2, none⟩ = some (.slice B2 g.trim.rules.length d2) ∧ X.cell? ⟨w4.heap.size, 3, none⟩ = some (.int .i64 g.trim.start) ∧ X.cell? ⟨w.heap.size, 0, none⟩ = some (.slice A0 g.terms.length c0) ∧ X.cell? ⟨w.heap.size, 1, none⟩ = some (.slice A1 g.nons.length c1) ∧ X.cell? ⟨w.heap.size, 2, none⟩ = some (.slice A2 g.rules.length c2) ∧ X.cell? ⟨w.heap.size, 3, none⟩ = some (.int .i64 g.start) from
        fun X hX => ⟨(HHR.out.on hX).x0, (HHR.out.on hX).x1, (HHR.out.on hX).x2, (HHR.out.on hX).x3, (HXR.out.on hX).x0, (HXR.out.on hX).x1, (HXR.out.on hX).x2, (HXR.out.on hX).x3⟩)
      have C9 := check9_r _ wr _ g.trim HHR.out.old HHR.out.gm HLV.out.1.fit
      unfold ag at C9
      have HC9 := Lib.hid C9
      clear C9 hms hin hd hwd
      go_wp2_with fail
      refine (HC9.out).mono ?_
      rintro e w6 ⟨⟨n, sx, rfl, hn⟩, hb6⟩
      obtain rfl : n = 0 := hn.2 HLV.out
      clear hn x0 x1 x2 x3 y0 y1 y2 y3
      have R6 := Lib.hid (show Below wr.heap.size wr w6.drew from hb6.drew)
      have HD6 := Lib.hid hb6
      clear hb6
      go_wp2_with fail
      go_region_held3 (fun X => X.cell? ⟨w4.heap.size, 0, none⟩ = some (.slice B0 g.trim.terms.length d0) ∧ X.cell? ⟨w4.heap.size, 1, none⟩ = some (.slice B1 g.trim.nons.length d1) ∧ X.cell? ⟨w4.heap.size, 2, none⟩ = some (.slice B2 g.trim.rules.length d2) ∧ X.cell? ⟨w4.heap.size, 3, none⟩ = some (.int .i64 g.trim.start) ∧ X.cell? ⟨w.heap.size, 0, none⟩ = some (.slice A0 g.terms.length c0) ∧ X.cell? ⟨w.heap.size, 1, none⟩ = some (.slice A1 g.nons.length c1) ∧ X.cell? ⟨w.heap.size, 2, none⟩ = some (.slice A2 g.rules.length c2) ∧ X.cell? ⟨w.heap.size, 3, none⟩ = some (.int .i64 g.start))
        (exact HS.out _ (by first | exact bV | exact bU | exact R6.out))
        (first
          | (go_at_call 9
             with_reducible refine Calls.mono (FW1.out _ (by first | exact bV | exact R6.out)) ?_
             rintro e wU ⟨rfl, bU⟩
             dsimp only)
          | (go_at_call 9
             with_reducible refine Calls.mono (FW2.out _ (by first | exact bU | exact R6.out)) ?_
             rintro e wV ⟨rfl, bV⟩
             dsimp only))
      all_goals
        go_wp2_with fail
        go_ret
        exact ⟨rfl, HBW.out.trans (bV.mono HBW.out.size)⟩
end Go.Proofs.YtpidmmfjcghmeaaGreat
