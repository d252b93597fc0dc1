/- Towards nodeSame_card: NdSameS. Merged from smaller texts by a program of the author's. -/
import Derived.Test.YtjpopekmbmcggaaGreatDoorSa24
import Derived.Deep.CutRange
namespace Go.Proofs.YtjpopekmbmcggaaGreatDoor
open Go.RowKit
theorem SlAt.el {β : Type} {G : Nat → Prop} {w : World} {sz : Nat} {R : List Value → β → Prop} {A : Option Addr} {n c : Nat} {xs : List β} (h : SlAt G w sz R (.slice A n c) xs) (hn : 0 < xs.length) :
    ∃ b off, A = some ⟨b, off, none⟩ ∧ G b ∧ ∀ i (h : i < xs.length), ∃ vs : List Value, vs.length = sz ∧ R vs xs[i] ∧ ∀ j u, vs[j]? = some u → w.cell? ⟨b, off + i * sz + j, none⟩ = some u := by
  obtain ⟨A', c', h1, _, _, h4⟩ := h
  injection h1 with h1
  subst h1
  exact h4 hn
set_option maxRecDepth 100000 in
set_option maxHeartbeats 8000000 in
theorem sameRest_r (f : Nat) (ih : RSm f) (G : Nat → Prop) (w : World) (vs vs' : List Value) (x y : NdF (Nd f)) (hG : ∀ k, G k → k < w.heap.size) (hv : NdV (f + 1) G w vs x) (hv' : NdV (f + 1) G w vs' y) :
    Calls Tryz.prog 70 #[ag vs, ag vs'] w fun e w' => e = .returned (.bool (all2 (redirS (Nd.same f)) x.redirs y.redirs && all2 (armS (Nd.same f)) x.arms y.arms)) ∧ Below w.heap.size w w' := by
  obtain ⟨ky, s, nt, ni, ops, asg, wds, rds, ars, kds⟩ := x
  obtain ⟨A4, c4, A5, c5, A6, c6, A7, c7, A8, c8, A9, c9, rfl, hns, hal, hl4, hl5, hl6, hl7, hl8, hl9, hso, hsa, hsw, hsr, hsm, hsk⟩ := NdV.open hv
  obtain ⟨kyx, sx, ntx, nix, opsx, asgx, wdsx, rdsx, arsx, kdsx⟩ := y
  obtain ⟨B4, e4, B5, e5, B6, e6, B7, e7, B8, e8, B9, e9, rfl, hns2, hal2, hm4, hm5, hm6, hm7, hm8, hm9, tso, tsa, tsw, tsr, tsm, tsk⟩ := NdV.open hv'
  have HSR := Lib.hid hsr; have HSM := Lib.hid hsm; have TSR := Lib.hid tsr; have TSM := Lib.hid tsm
  clear hso hsa hsw hsr hsm hsk hv tso tsa tsw tsr tsm tsk hv'
  show Calls Tryz.prog 70 _ w fun e w' => e = .returned (.bool (all2 (redirS (Nd.same f)) rds rdsx && all2 (armS (Nd.same f)) ars arsx)) ∧ Below w.heap.size w w'
  show Calls Tryz.prog 70 #[.agg #[.int .i64 ky, .string s, .bool nt, .bool ni, .slice A4 ops.length c4, .slice A5 asg.length c5, .slice A6 wds.length c6, .slice A7 rds.length c7, .slice A8 ars.length c8, .slice A9 kds.length c9], .agg #[.int .i64 kyx, .string sx, .bool ntx, .bool nix, .slice B4 opsx.length e4, .slice B5 asgx.length e5, .slice B6 wdsx.length e6, .slice B7 rdsx.length e7, .slice B8 arsx.length e8, .slice B9 kdsx.length e9]] w _
  have hbw : Below w.heap.size w ((w.alloc (.cells #[.int .i64 ky, .string s, .bool nt, .bool ni, .slice A4 ops.length c4, .slice A5 asg.length c5, .slice A6 wds.length c6, .slice A7 rds.length c7, .slice A8 ars.length c8, .slice A9 kds.length c9] 28)).alloc (.cells #[.int .i64 kyx, .string sx, .bool ntx, .bool nix, .slice B4 opsx.length e4, .slice B5 asgx.length e5, .slice B6 wdsx.length e6, .slice B7 rdsx.length e7, .slice B8 arsx.length e8, .slice B9 kdsx.length e9] 28)) := ((Below.refl _ _).alloc (Nat.le_refl _) _).alloc (by simp) _
  obtain ⟨hb0, hb1⟩ := two_blocks w (.cells #[.int .i64 ky, .string s, .bool nt, .bool ni, .slice A4 ops.length c4, .slice A5 asg.length c5, .slice A6 wds.length c6, .slice A7 rds.length c7, .slice A8 ars.length c8, .slice A9 kds.length c9] 28) (.cells #[.int .i64 kyx, .string sx, .bool ntx, .bool nix, .slice B4 opsx.length e4, .slice B5 asgx.length e5, .slice B6 wdsx.length e6, .slice B7 rdsx.length e7, .slice B8 arsx.length e8, .slice B9 kdsx.length e9] 28)
  generalize hW : (w.alloc (.cells #[.int .i64 ky, .string s, .bool nt, .bool ni, .slice A4 ops.length c4, .slice A5 asg.length c5, .slice A6 wds.length c6, .slice A7 rds.length c7, .slice A8 ars.length c8, .slice A9 kds.length c9] 28)).alloc (.cells #[.int .i64 kyx, .string sx, .bool ntx, .bool nix, .slice B4 opsx.length e4, .slice B5 asgx.length e5, .slice B6 wdsx.length e6, .slice B7 rdsx.length e7, .slice B8 arsx.length e8, .slice B9 kdsx.length e9] 28) = W at *
  have x0 : W.cell? ⟨w.heap.size, 0, none⟩ = some (.int .i64 ky) := box_at hb0 _ (Below.refl _ _) 0 _ rfl
  have x1 : W.cell? ⟨w.heap.size, 1, none⟩ = some (.string s) := box_at hb0 _ (Below.refl _ _) 1 _ rfl
  have x2 : W.cell? ⟨w.heap.size, 2, none⟩ = some (.bool nt) := box_at hb0 _ (Below.refl _ _) 2 _ rfl
  have x3 : W.cell? ⟨w.heap.size, 3, none⟩ = some (.bool ni) := box_at hb0 _ (Below.refl _ _) 3 _ rfl
  have x4 : W.cell? ⟨w.heap.size, 4, none⟩ = some (.slice A4 ops.length c4) := box_at hb0 _ (Below.refl _ _) 4 _ rfl
  have x5 : W.cell? ⟨w.heap.size, 5, none⟩ = some (.slice A5 asg.length c5) := box_at hb0 _ (Below.refl _ _) 5 _ rfl
  have x6 : W.cell? ⟨w.heap.size, 6, none⟩ = some (.slice A6 wds.length c6) := box_at hb0 _ (Below.refl _ _) 6 _ rfl
  have x7 : W.cell? ⟨w.heap.size, 7, none⟩ = some (.slice A7 rds.length c7) := box_at hb0 _ (Below.refl _ _) 7 _ rfl
  have x8 : W.cell? ⟨w.heap.size, 8, none⟩ = some (.slice A8 ars.length c8) := box_at hb0 _ (Below.refl _ _) 8 _ rfl
  have x9 : W.cell? ⟨w.heap.size, 9, none⟩ = some (.slice A9 kds.length c9) := box_at hb0 _ (Below.refl _ _) 9 _ rfl
  have y0 : W.cell? ⟨w.heap.size + 1, 0, none⟩ = some (.int .i64 kyx) := box_at hb1 _ (Below.refl _ _) 0 _ rfl
  have y1 : W.cell? ⟨w.heap.size + 1, 1, none⟩ = some (.string sx) := box_at hb1 _ (Below.refl _ _) 1 _ rfl
  have y2 : W.cell? ⟨w.heap.size + 1, 2, none⟩ = some (.bool ntx) := box_at hb1 _ (Below.refl _ _) 2 _ rfl
  have y3 : W.cell? ⟨w.heap.size + 1, 3, none⟩ = some (.bool nix) := box_at hb1 _ (Below.refl _ _) 3 _ rfl
  have y4 : W.cell? ⟨w.heap.size + 1, 4, none⟩ = some (.slice B4 opsx.length e4) := box_at hb1 _ (Below.refl _ _) 4 _ rfl
  have y5 : W.cell? ⟨w.heap.size + 1, 5, none⟩ = some (.slice B5 asgx.length e5) := box_at hb1 _ (Below.refl _ _) 5 _ rfl
  have y6 : W.cell? ⟨w.heap.size + 1, 6, none⟩ = some (.slice B6 wdsx.length e6) := box_at hb1 _ (Below.refl _ _) 6 _ rfl
  have y7 : W.cell? ⟨w.heap.size + 1, 7, none⟩ = some (.slice B7 rdsx.length e7) := box_at hb1 _ (Below.refl _ _) 7 _ rfl
  have y8 : W.cell? ⟨w.heap.size + 1, 8, none⟩ = some (.slice B8 arsx.length e8) := box_at hb1 _ (Below.refl _ _) 8 _ rfl
  have y9 : W.cell? ⟨w.heap.size + 1, 9, none⟩ = some (.slice B9 kdsx.length e9) := box_at hb1 _ (Below.refl _ _) 9 _ rfl
  have HGW := Lib.hid (old_of hG hbw)
  have HBW := Lib.hid hbw; have HG := Lib.hid hG; have IH := Lib.hid ih
  clear hbw hb0 hb1 hG ih x0 y0 x1 y1 x2 y2 x3 y3 x4 y4 x5 y5 x6 y6 x9 y9
  by_cases h1 : rds.length = rdsx.length
  case neg =>
    have E1 := Lib.hid (all2_ne (redirS (Nd.same f)) rds rdsx h1)
    have n1 : ((rds.length : Int) != (rdsx.length : Int)) = true := bne_iff_ne.2 (by omega)
    have n1' : (rds.length != rdsx.length) = true := bne_iff_ne.2 h1
    go_enter Tryz.func70, Tryz.ntmps70
    go_wp2_with fail
    go_ret
    exact ⟨ret_bool (by rw [E1.out]; rfl), HBW.out⟩
  have HL1 := Lib.hid h1
  by_cases h2 : ars.length = arsx.length
  case neg =>
    have E2 := Lib.hid (all2_ne (armS (Nd.same f)) ars arsx h2)
    have n1 : ((rds.length : Int) != (rdsx.length : Int)) = false := by rw [h1]; exact bne_self_eq_false _
    have n2 : ((ars.length : Int) != (arsx.length : Int)) = true := bne_iff_ne.2 (by omega)
    have n1' : (rds.length != rdsx.length) = false := by rw [h1]; exact bne_self_eq_false _
    have n2' : (ars.length != arsx.length) = true := bne_iff_ne.2 h2
    clear h1 h2
    go_enter Tryz.func70, Tryz.ntmps70
    go_wp2_with fail
    go_ret
    exact ⟨ret_bool (by rw [E2.out, Bool.and_false]), HBW.out⟩
  have HL2 := Lib.hid h2
  rw [← h1] at y7 hm7
  rw [← h2] at y8 hm8
  clear h1 h2
  go_enter Tryz.func70, Tryz.ntmps70
  go_wp2_with fail
  go_loopw [5] (fun i wr => ∃ (k : Nat), k ≤ rds.length ∧ i = .int .i64 k ∧ all2 (redirS (Nd.same f)) (rds.drop k) (rdsx.drop k) = all2 (redirS (Nd.same f)) rds rdsx ∧ Below W.heap.size W wr) (fun i _ => rds.length - (intOf i).toNat)
  case atStart => exact ⟨0, by omega, rfl, rfl, Below.refl _ _⟩
  case round =>
    obtain ⟨k, hk, rfl, hf, hb⟩ := hrel
    have HF := Lib.hid hf; have HB := Lib.hid hb
    have r7 := box_keep x7 hb; have t7 := box_keep y7 hb
    clear hf
    by_cases hlt : k < rds.length
    · have hlt' : k < rdsx.length := by rw [← HL1.out]; exact hlt
      obtain ⟨b, off, rfl, hg, hel⟩ := (HSR.out.onR HG.out HBW.out).el (by omega)
      obtain ⟨b', off', rfl, hg', hel'⟩ := (TSR.out.onR HG.out HBW.out).el (by omega)
      obtain ⟨us, hvl, hR0, hcell⟩ := hel k hlt
      obtain ⟨us', hvl', hR0', hcell'⟩ := hel' k hlt'
      have hR := hR0.below HGW.out hb
      have hR' := hR0'.below HGW.out hb
      have z := fun j u hj => (keep_of HGW.out hb _ hg).trans (hcell j u hj)
      have z' := fun j u hj => (keep_of HGW.out hb _ hg').trans (hcell' j u hj)
      have HGR := Lib.hid (old_of HGW.out hb)
      have HD := Lib.hid (all2_drop (redirS (Nd.same f)) rds rdsx k hlt hlt')
      generalize rds[k] = xk at *
      generalize rdsx[k] = yk at *
      obtain ⟨num, op, tw, here⟩ := xk
      obtain ⟨vt, rfl, _, _, hw⟩ := hR
      obtain ⟨Ap, np, cp, hvt⟩ := WdN.shape hw
      injection hvt with hvt
      subst hvt
      obtain ⟨num', op', tw', here'⟩ := yk
      obtain ⟨vt', rfl, _, _, hw'⟩ := hR'
      obtain ⟨Ap', np', cp', hvt'⟩ := WdN.shape hw'
      injection hvt' with hvt'
      subst hvt'
      have hww : WdN f G wr [.slice Ap np cp] tw := hw
      have hww' : WdN f G wr [.slice Ap' np' cp'] tw' := hw'
      have d0 : wr.cell? ⟨b, off + k * 4, none⟩ = some (.string num) := by simpa using z 0 _ rfl
      have d1 : wr.cell? ⟨b, off + k * 4 + 1, none⟩ = some (.int .i64 op) := by simpa using z 1 _ rfl
      have d2 : wr.cell? ⟨b, off + k * 4 + 2, none⟩ = some (.slice Ap np cp) := by simpa using z 2 _ rfl
      have d3 : wr.cell? ⟨b, off + k * 4 + 3, none⟩ = some (.string here) := by simpa using z 3 _ rfl
      have g0 : wr.cell? ⟨b', off' + k * 4, none⟩ = some (.string num') := by simpa using z' 0 _ rfl
      have g1 : wr.cell? ⟨b', off' + k * 4 + 1, none⟩ = some (.int .i64 op') := by simpa using z' 1 _ rfl
      have g2 : wr.cell? ⟨b', off' + k * 4 + 2, none⟩ = some (.slice Ap' np' cp') := by simpa using z' 2 _ rfl
      have g3 : wr.cell? ⟨b', off' + k * 4 + 3, none⟩ = some (.string here') := by simpa using z' 3 _ rfl
      have HK := Lib.hid (show ∀ X, Below wr.heap.size wr X → X.cell? ⟨w.heap.size, 7, none⟩ = some (.slice (some ⟨b, off, none⟩) rds.length c7) ∧ X.cell? ⟨w.heap.size + 1, 7, none⟩ = some (.slice (some ⟨b', off', none⟩) rds.length e7) ∧ X.cell? ⟨b, off + k * 4, none⟩ = some (.string num) ∧ X.cell? ⟨b, off + k * 4 + 1, none⟩ = some (.int .i64 op) ∧ X.cell? ⟨b, off + k * 4 + 2, none⟩ = some (.slice Ap np cp) ∧ X.cell? ⟨b, off + k * 4 + 3, none⟩ = some (.string here) ∧ X.cell? ⟨b', off' + k * 4, none⟩ = some (.string num') ∧ X.cell? ⟨b', off' + k * 4 + 1, none⟩ = some (.int .i64 op') ∧ X.cell? ⟨b', off' + k * 4 + 2, none⟩ = some (.slice Ap' np' cp') ∧ X.cell? ⟨b', off' + k * 4 + 3, none⟩ = some (.string here') from fun X hX => ⟨box_keep r7 hX, box_keep t7 hX, box_keep d0 hX, box_keep d1 hX, box_keep d2 hX, box_keep d3 hX, box_keep g0 hX, box_keep g1 hX, box_keep g2 hX, box_keep g3 hX⟩)
      have HX := Lib.hid (show ∀ X, Below wr.heap.size wr X → _ from fun X hX => sameParts_r f IH.out G X Ap Ap' np np' cp cp' tw tw' (old_of HGR.out hX) (hww.below HGR.out hX) (hww'.below HGR.out hX))
      clear z z' hel hel' hcell hcell' hvl hvl' hR0 hR0' hg hg' hb hw hw' hww hww' x7 y7
      go_wp2_with fail
      go_cut [6, 7] from 39 to 48 (fun v6 v7 wx => ∃ g6 g7 : Nat, v6 = .pointer (some ⟨g6, 0, none⟩) ∧ v7 = .pointer (some ⟨g7, 0, none⟩) ∧ Below wr.heap.size wr wx ∧ wx.cell? ⟨g6, 0, none⟩ = some (.string num) ∧ wx.cell? ⟨g6, 1, none⟩ = some (.int .i64 op) ∧ wx.cell? ⟨g6, 2, none⟩ = some (.slice Ap np cp) ∧ wx.cell? ⟨g6, 3, none⟩ = some (.string here) ∧ wx.cell? ⟨g7, 0, none⟩ = some (.string num') ∧ wx.cell? ⟨g7, 1, none⟩ = some (.int .i64 op') ∧ wx.cell? ⟨g7, 2, none⟩ = some (.slice Ap' np' cp') ∧ wx.cell? ⟨g7, 3, none⟩ = some (.string here'))
      case first =>
        go_region_held3 (fun X => X.cell? ⟨w.heap.size, 7, none⟩ = some (.slice (some ⟨b, off, none⟩) rds.length c7) ∧ X.cell? ⟨w.heap.size + 1, 7, none⟩ = some (.slice (some ⟨b', off', none⟩) rds.length e7) ∧ X.cell? ⟨b, off + k * 4, none⟩ = some (.string num) ∧ X.cell? ⟨b, off + k * 4 + 1, none⟩ = some (.int .i64 op) ∧ X.cell? ⟨b, off + k * 4 + 2, none⟩ = some (.slice Ap np cp) ∧ X.cell? ⟨b, off + k * 4 + 3, none⟩ = some (.string here) ∧ X.cell? ⟨b', off' + k * 4, none⟩ = some (.string num') ∧ X.cell? ⟨b', off' + k * 4 + 1, none⟩ = some (.int .i64 op') ∧ X.cell? ⟨b', off' + k * 4 + 2, none⟩ = some (.slice Ap' np' cp') ∧ X.cell? ⟨b', off' + k * 4 + 3, none⟩ = some (.string here'))
          (exact HK.out _ (by repeat (first | exact Below.refl _ _ | (with_reducible refine Below.drew ?_) | (with_reducible refine Below.grow ?_ _) | (with_reducible refine Below.setCell ?_ (by first | exact Nat.le_refl _ | (simp; done)) _))))
          (fail)
        all_goals
          go_wp2_with fail
          go_meet
          exact ⟨_, _, rfl, rfl, (by repeat (first | exact Below.refl _ _ | (with_reducible refine Below.drew ?_) | (with_reducible refine Below.grow ?_ _) | (with_reducible refine Below.setCell ?_ (by first | exact Nat.le_refl _ | (simp; done)) _))), by simp, by simp, by simp, by simp, by simp, by simp, by simp, by simp⟩
      case rest =>
        obtain ⟨g6, g7, rfl, rfl, hb6, a0, a1, a2, a3, f0, f1, f2, f3⟩ := hcut
        have HB6 := Lib.hid (HB.out.trans (hb6.mono HB.out.size))
        have HX6 := Lib.hid (HX.out _ hb6)
        clear hb6 r7 t7 d0 g0 d1 g1 d2 g2 d3 g3
        cases m1 : (num.toList == num'.toList)
        · have HQ := Lib.hid (show redirS (Nd.same f) ⟨num, op, tw, here⟩ ⟨num', op', tw', here'⟩ = false by simp only [redirS, m1, Bool.false_and])
          go_wp2_with fail
          go_ret
          exact ⟨ret_bool (by rw [← HF.out, HD.out, HQ.out]; rfl), HBW.out.trans (HB6.out.mono HBW.out.size)⟩
        cases m2 : (op == op')
        · have n2 : (op != op') = true := by rw [bne, m2]; rfl
          have HQ := Lib.hid (show redirS (Nd.same f) ⟨num, op, tw, here⟩ ⟨num', op', tw', here'⟩ = false by simp only [redirS, m2, Bool.false_and, Bool.and_false])
          go_wp2_with fail
          go_ret
          exact ⟨ret_bool (by rw [← HF.out, HD.out, HQ.out]; rfl), HBW.out.trans (HB6.out.mono HBW.out.size)⟩
        have n2 : (op != op') = false := by rw [bne, m2]; rfl
        cases m3 : (here.toList == here'.toList)
        · have HQ := Lib.hid (show redirS (Nd.same f) ⟨num, op, tw, here⟩ ⟨num', op', tw', here'⟩ = false by simp only [redirS, m3, Bool.false_and, Bool.and_false])
          go_wp2_with fail
          go_ret
          exact ⟨ret_bool (by rw [← HF.out, HD.out, HQ.out]; rfl), HBW.out.trans (HB6.out.mono HBW.out.size)⟩
        have HQ0 := Lib.hid (show redirS (Nd.same f) ⟨num, op, tw, here⟩ ⟨num', op', tw', here'⟩ = wordS (Nd.same f) tw tw' by simp only [redirS, m1, m2, m3, Bool.true_and])
        go_wp2_with fail
        refine HX6.out.mono ?_
        rintro e w1 ⟨he, hb⟩
        have HB7 := Lib.hid (HB6.out.trans (hb.mono HB6.out.size))
        clear hb a0 f0 a1 f1 a2 f2 a3 f3 m1 m2 m3 n2
        cases hq : wordS (Nd.same f) tw tw'
        · rw [hq] at he
          subst he
          have HQ := Lib.hid (HQ0.out.trans hq)
          clear hq
          go_wp2_with fail
          go_ret
          exact ⟨ret_bool (by rw [← HF.out, HD.out, HQ.out]; rfl), HBW.out.trans (HB7.out.mono HBW.out.size)⟩
        · rw [hq] at he
          subst he
          have HQ := Lib.hid (HQ0.out.trans hq)
          clear hq
          go_wp2_with fail
          go_roundw
          case rel => exact ⟨k + 1, by omega, by go_num, by rw [← HF.out, HD.out, HQ.out]; rfl, HB7.out⟩
          case measure => simp only [intOf]; omega
    · have HR1 := Lib.hid (HF.out.symm.trans (all2_end (redirS (Nd.same f)) rds rdsx k (by omega) (by rw [← HL1.out]; omega)))
      clear hb
      go_wp2_with fail
      go_loopw [8] (fun i wr => ∃ (k : Nat), k ≤ ars.length ∧ i = .int .i64 k ∧ all2 (armS (Nd.same f)) (ars.drop k) (arsx.drop k) = all2 (armS (Nd.same f)) ars arsx ∧ Below W.heap.size W wr) (fun i _ => ars.length - (intOf i).toNat)
      case atStart => exact ⟨0, by omega, rfl, rfl, HB.out⟩
      case round =>
        obtain ⟨k, hk, rfl, hf, hb⟩ := hrel
        have HF := Lib.hid hf; have HB := Lib.hid hb
        have r8 := box_keep x8 hb; have t8 := box_keep y8 hb
        clear hf
        by_cases hlt : k < ars.length
        · have hlt' : k < arsx.length := by rw [← HL2.out]; exact hlt
          obtain ⟨b, off, rfl, hg, hel⟩ := (HSM.out.onA HG.out HBW.out).el (by omega)
          obtain ⟨b', off', rfl, hg', hel'⟩ := (TSM.out.onA HG.out HBW.out).el (by omega)
          obtain ⟨us, hvl, hR0, hcell⟩ := hel k hlt
          obtain ⟨us', hvl', hR0', hcell'⟩ := hel' k hlt'
          have hR := hR0.below HGW.out hb
          have hR' := hR0'.below HGW.out hb
          have z := fun j u hj => (keep_of HGW.out hb _ hg).trans (hcell j u hj)
          have z' := fun j u hj => (keep_of HGW.out hb _ hg').trans (hcell' j u hj)
          have HGR := Lib.hid (old_of HGW.out hb)
          have HD := Lib.hid (all2_drop (armS (Nd.same f)) ars arsx k hlt hlt')
          generalize ars[k] = xk at *
          generalize arsx[k] = yk at *
          obtain ⟨ps, bd⟩ := xk
          obtain ⟨vp, bs1, rfl, _, hps, hbd⟩ := hR
          obtain ⟨P0, q0, rfl, hl0, hm0⟩ := SlAt.shape hps
          obtain ⟨ky0, s0, nt0, ni0, A40, n40, c40, A50, n50, c50, A60, n60, c60, A70, n70, c70, A80, n80, c80, A90, n90, c90, rfl⟩ := NdV.shape hbd
          obtain ⟨qs, be⟩ := yk
          obtain ⟨vq, bs2, rfl, _, hqs, hbe⟩ := hR'
          obtain ⟨Q0, u0, rfl, hl1, hm1⟩ := SlAt.shape hqs
          obtain ⟨ky1, s1, nt1, ni1, A41, n41, c41, A51, n51, c51, A61, n61, c61, A71, n71, c71, A81, n81, c81, A91, n91, c91, rfl⟩ := NdV.shape hbe
          simp only at hps hqs hbd hbe hcell hcell' z z'
          have HPS := Lib.hid hps; have HQS := Lib.hid hqs; have HBD := Lib.hid hbd; have HBE := Lib.hid hbe
          have HSA := Lib.hid (show armS (Nd.same f) ⟨ps, bd⟩ ⟨qs, be⟩ = (all2 (wordS (Nd.same f)) ps qs && Nd.same f bd be) from rfl)
          have gw := fun X : Gr wr => X.calls (sameWords_r f (sameParts_r f IH.out) G _ _ ps qs X.at_ (old_of HGR.out X.2) (HPS.out.onW HGR.out X.2) (HQS.out.onW HGR.out X.2))
          have gc := fun X : Gr wr => X.calls (IH.out G X.at_ _ _ bd be (old_of HGR.out X.2) (HBD.out.below HGR.out X.2) (HBE.out.below HGR.out X.2))
          generalize ps.length = n00 at *
          generalize qs.length = n01 at *
          have d0 : wr.cell? ⟨b, off + k * 11, none⟩ = some (.slice P0 n00 q0) := by simpa using z 0 _ rfl
          have d1 : wr.cell? ⟨b, off + k * 11 + 1, none⟩ = some (.int .i64 ky0) := by simpa using z 1 _ rfl
          have d2 : wr.cell? ⟨b, off + k * 11 + 2, none⟩ = some (.string s0) := by simpa using z 2 _ rfl
          have d3 : wr.cell? ⟨b, off + k * 11 + 3, none⟩ = some (.bool nt0) := by simpa using z 3 _ rfl
          have d4 : wr.cell? ⟨b, off + k * 11 + 4, none⟩ = some (.bool ni0) := by simpa using z 4 _ rfl
          have d5 : wr.cell? ⟨b, off + k * 11 + 5, none⟩ = some (.slice A40 n40 c40) := by simpa using z 5 _ rfl
          have d6 : wr.cell? ⟨b, off + k * 11 + 6, none⟩ = some (.slice A50 n50 c50) := by simpa using z 6 _ rfl
          have d7 : wr.cell? ⟨b, off + k * 11 + 7, none⟩ = some (.slice A60 n60 c60) := by simpa using z 7 _ rfl
          have d8 : wr.cell? ⟨b, off + k * 11 + 8, none⟩ = some (.slice A70 n70 c70) := by simpa using z 8 _ rfl
          have d9 : wr.cell? ⟨b, off + k * 11 + 9, none⟩ = some (.slice A80 n80 c80) := by simpa using z 9 _ rfl
          have d10 : wr.cell? ⟨b, off + k * 11 + 10, none⟩ = some (.slice A90 n90 c90) := by simpa using z 10 _ rfl
          have g0 : wr.cell? ⟨b', off' + k * 11, none⟩ = some (.slice Q0 n01 u0) := by simpa using z' 0 _ rfl
          have g1 : wr.cell? ⟨b', off' + k * 11 + 1, none⟩ = some (.int .i64 ky1) := by simpa using z' 1 _ rfl
          have g2 : wr.cell? ⟨b', off' + k * 11 + 2, none⟩ = some (.string s1) := by simpa using z' 2 _ rfl
          have g3 : wr.cell? ⟨b', off' + k * 11 + 3, none⟩ = some (.bool nt1) := by simpa using z' 3 _ rfl
          have g4 : wr.cell? ⟨b', off' + k * 11 + 4, none⟩ = some (.bool ni1) := by simpa using z' 4 _ rfl
          have g5 : wr.cell? ⟨b', off' + k * 11 + 5, none⟩ = some (.slice A41 n41 c41) := by simpa using z' 5 _ rfl
          have g6 : wr.cell? ⟨b', off' + k * 11 + 6, none⟩ = some (.slice A51 n51 c51) := by simpa using z' 6 _ rfl
          have g7 : wr.cell? ⟨b', off' + k * 11 + 7, none⟩ = some (.slice A61 n61 c61) := by simpa using z' 7 _ rfl
          have g8 : wr.cell? ⟨b', off' + k * 11 + 8, none⟩ = some (.slice A71 n71 c71) := by simpa using z' 8 _ rfl
          have g9 : wr.cell? ⟨b', off' + k * 11 + 9, none⟩ = some (.slice A81 n81 c81) := by simpa using z' 9 _ rfl
          have g10 : wr.cell? ⟨b', off' + k * 11 + 10, none⟩ = some (.slice A91 n91 c91) := by simpa using z' 10 _ rfl
          have er := fun X : Gr wr => X.cell _ _ r8; have et := fun X : Gr wr => X.cell _ _ t8
          have e0 := fun X : Gr wr => X.cell _ _ d0; have h0 := fun X : Gr wr => X.cell _ _ g0; have e1 := fun X : Gr wr => X.cell _ _ d1; have h1 := fun X : Gr wr => X.cell _ _ g1; have e2 := fun X : Gr wr => X.cell _ _ d2; have h2 := fun X : Gr wr => X.cell _ _ g2; have e3 := fun X : Gr wr => X.cell _ _ d3; have h3 := fun X : Gr wr => X.cell _ _ g3; have e4 := fun X : Gr wr => X.cell _ _ d4; have h4 := fun X : Gr wr => X.cell _ _ g4; have e5 := fun X : Gr wr => X.cell _ _ d5; have h5 := fun X : Gr wr => X.cell _ _ g5; have e6 := fun X : Gr wr => X.cell _ _ d6; have h6 := fun X : Gr wr => X.cell _ _ g6; have e7 := fun X : Gr wr => X.cell _ _ d7; have h7 := fun X : Gr wr => X.cell _ _ g7; have e8 := fun X : Gr wr => X.cell _ _ d8; have h8 := fun X : Gr wr => X.cell _ _ g8; have e9 := fun X : Gr wr => X.cell _ _ d9; have h9 := fun X : Gr wr => X.cell _ _ g9; have e10 := fun X : Gr wr => X.cell _ _ d10; have h10 := fun X : Gr wr => X.cell _ _ g10
          have hne : Nonempty (Gr wr) := ⟨⟨_, Below.refl _ _⟩⟩
          clear z z' hel hel' hcell hcell' hvl hvl' hR0 hR0' hg hg' hb hps hqs hbd hbe x8 y8
          unfold ag at gc
          cases hq1 : all2 (wordS (Nd.same f)) ps qs
          · rw [hq1] at gw
            have HQ := Lib.hid (HSA.out.trans (by rw [hq1]; rfl : _ = false))
            clear hq1
            go_wp2_with fail
            refine wp_region_class (S := Gr wr) Gr.at_ (by kernel_rfl) (by kernel_rfl) (Gr.drew _) ?_
            repeat (go_big_quiet_step (first | (with_reducible exact gw _) | (with_reducible exact gc _)))
            refine wpQuiet_nil ?_
            rintro X ⟨⟨X', hX⟩, hx⟩
            obtain rfl : X = X' := hx
            have HB9 := Lib.hid (HB.out.trans (hX.mono HB.out.size))
            clear hX gc gw hne er et r8 t8 d0 g0 e0 h0 d1 g1 e1 h1 d2 g2 e2 h2 d3 g3 e3 h3 d4 g4 e4 h4 d5 g5 e5 h5 d6 g6 e6 h6 d7 g7 e7 h7 d8 g8 e8 h8 d9 g9 e9 h9 d10 g10 e10 h10
            go_wp2_with fail
            go_ret
            exact ⟨ret_bool (by rw [HR1.out, ← HF.out, HD.out, HQ.out]; rfl), HBW.out.trans (HB9.out.mono HBW.out.size)⟩
          rw [hq1] at gw
          cases hq2 : Nd.same f bd be
          · rw [hq2] at gc
            have HQ := Lib.hid (HSA.out.trans (by rw [hq1, hq2]; rfl : _ = false))
            clear hq1 hq2
            go_wp2_with fail
            refine wp_region_class (S := Gr wr) Gr.at_ (by kernel_rfl) (by kernel_rfl) (Gr.drew _) ?_
            repeat (go_big_quiet_step (first | (with_reducible exact gw _) | (with_reducible exact gc _)))
            refine wpQuiet_nil ?_
            rintro X ⟨⟨X', hX⟩, hx⟩
            obtain rfl : X = X' := hx
            have HB9 := Lib.hid (HB.out.trans (hX.mono HB.out.size))
            clear hX gc gw hne er et r8 t8 d0 g0 e0 h0 d1 g1 e1 h1 d2 g2 e2 h2 d3 g3 e3 h3 d4 g4 e4 h4 d5 g5 e5 h5 d6 g6 e6 h6 d7 g7 e7 h7 d8 g8 e8 h8 d9 g9 e9 h9 d10 g10 e10 h10
            go_wp2_with fail
            go_ret
            exact ⟨ret_bool (by rw [HR1.out, ← HF.out, HD.out, HQ.out]; rfl), HBW.out.trans (HB9.out.mono HBW.out.size)⟩
          · rw [hq2] at gc
            have HQ := Lib.hid (HSA.out.trans (by rw [hq1, hq2]; rfl : _ = true))
            clear hq1 hq2
            go_wp2_with fail
            refine wp_region_class (S := Gr wr) Gr.at_ (by kernel_rfl) (by kernel_rfl) (Gr.drew _) ?_
            repeat (go_big_quiet_step (first | (with_reducible exact gw _) | (with_reducible exact gc _)))
            refine wpQuiet_nil ?_
            rintro X ⟨⟨X', hX⟩, hx⟩
            obtain rfl : X = X' := hx
            have HB9 := Lib.hid (HB.out.trans (hX.mono HB.out.size))
            clear hX gc gw hne er et r8 t8 d0 g0 e0 h0 d1 g1 e1 h1 d2 g2 e2 h2 d3 g3 e3 h3 d4 g4 e4 h4 d5 g5 e5 h5 d6 g6 e6 h6 d7 g7 e7 h7 d8 g8 e8 h8 d9 g9 e9 h9 d10 g10 e10 h10
            go_wp2_with fail
            go_roundw
            case rel => exact ⟨k + 1, by omega, by go_num, by rw [← HF.out, HD.out, HQ.out]; rfl, HB9.out⟩
            case measure => simp only [intOf]; omega
        · have HR2 := Lib.hid (HF.out.symm.trans (all2_end (armS (Nd.same f)) ars arsx k (by omega) (by rw [← HL2.out]; omega)))
          clear hb
          go_wp2_with fail
          go_ret
          exact ⟨ret_bool (by rw [HR1.out, HR2.out]; rfl), HBW.out.trans (HB.out.mono HBW.out.size)⟩
theorem sameF_mk2 {α : Type} (S : α → α → Bool) (ky kyx : Int) (s sx : ByteArray) (nt ntx ni nix : Bool) (ops opsx : List Int) (asg asgx wds wdsx : List (WdF α)) (rds rdsx : List (RdF α)) (ars arsx : List (ArF α)) (kds kdsx : List α) :
    sameF S (NdF.mk ky s nt ni ops asg wds rds ars kds) (NdF.mk kyx sx ntx nix opsx asgx wdsx rdsx arsx kdsx) =
      ((((((ky == kyx) && (s.toList == sx.toList)) && (nt == ntx)) && (ni == nix)) && all2 (fun x y : Int => x == y) ops opsx) && (all2 (wordS S) asg asgx && (all2 (wordS S) wds wdsx && ((all2 (redirS S) rds rdsx && all2 (armS S) ars arsx) && all2 S kds kdsx)))) := by
  rw [sameF_mk, ← Bool.and_assoc (all2 (redirS S) rds rdsx)]
set_option maxRecDepth 100000 in
set_option maxHeartbeats 8000000 in
theorem same_step_r (f : Nat) (ih : RSm f) (G : Nat → Prop) (w : World) (vs vs' : List Value) (x y : NdF (Nd f)) (hG : ∀ k, G k → k < w.heap.size) (hv : NdV (f + 1) G w vs x) (hv' : NdV (f + 1) G w vs' y) :
    Calls Tryz.prog 24 #[ag vs, ag vs'] w fun e w' => e = .returned (.bool (sameF (Nd.same f) x y)) ∧ Below w.heap.size w w' := by
  obtain ⟨ky, s, nt, ni, ops, asg, wds, rds, ars, kds⟩ := x
  obtain ⟨A4, c4, A5, c5, A6, c6, A7, c7, A8, c8, A9, c9, rfl, hns, hal, hl4, hl5, hl6, hl7, hl8, hl9, hso, hsa, hsw, hsr, hsm, hsk⟩ := NdV.open hv
  obtain ⟨kyx, sx, ntx, nix, opsx, asgx, wdsx, rdsx, arsx, kdsx⟩ := y
  obtain ⟨B4, e4, B5, e5, B6, e6, B7, e7, B8, e8, B9, e9, rfl, hns2, hal2, hm4, hm5, hm6, hm7, hm8, hm9, tso, tsa, tsw, tsr, tsm, tsk⟩ := NdV.open hv'
  have HSO := Lib.hid hso; have HSA := Lib.hid hsa; have HSW := Lib.hid hsw; have HSR := Lib.hid hsr; have HSM := Lib.hid hsm; have HSK := Lib.hid hsk
  have TSO := Lib.hid tso; have TSA := Lib.hid tsa; have TSW := Lib.hid tsw; have TSR := Lib.hid tsr; have TSM := Lib.hid tsm; have TSK := Lib.hid tsk
  have HV := Lib.hid hv; have HV' := Lib.hid hv'
  clear hso hsa hsw hsr hsm hsk hv tso tsa tsw tsr tsm tsk hv'
  show Calls Tryz.prog 24 #[.agg #[.int .i64 ky, .string s, .bool nt, .bool ni, .slice A4 ops.length c4, .slice A5 asg.length c5, .slice A6 wds.length c6, .slice A7 rds.length c7, .slice A8 ars.length c8, .slice A9 kds.length c9], .agg #[.int .i64 kyx, .string sx, .bool ntx, .bool nix, .slice B4 opsx.length e4, .slice B5 asgx.length e5, .slice B6 wdsx.length e6, .slice B7 rdsx.length e7, .slice B8 arsx.length e8, .slice B9 kdsx.length e9]] w _
  have hbw : Below w.heap.size w ((w.alloc (.cells #[.int .i64 ky, .string s, .bool nt, .bool ni, .slice A4 ops.length c4, .slice A5 asg.length c5, .slice A6 wds.length c6, .slice A7 rds.length c7, .slice A8 ars.length c8, .slice A9 kds.length c9] 28)).alloc (.cells #[.int .i64 kyx, .string sx, .bool ntx, .bool nix, .slice B4 opsx.length e4, .slice B5 asgx.length e5, .slice B6 wdsx.length e6, .slice B7 rdsx.length e7, .slice B8 arsx.length e8, .slice B9 kdsx.length e9] 28)) := ((Below.refl _ _).alloc (Nat.le_refl _) _).alloc (by simp) _
  obtain ⟨hb0, hb1⟩ := two_blocks w (.cells #[.int .i64 ky, .string s, .bool nt, .bool ni, .slice A4 ops.length c4, .slice A5 asg.length c5, .slice A6 wds.length c6, .slice A7 rds.length c7, .slice A8 ars.length c8, .slice A9 kds.length c9] 28) (.cells #[.int .i64 kyx, .string sx, .bool ntx, .bool nix, .slice B4 opsx.length e4, .slice B5 asgx.length e5, .slice B6 wdsx.length e6, .slice B7 rdsx.length e7, .slice B8 arsx.length e8, .slice B9 kdsx.length e9] 28)
  generalize hW : (w.alloc (.cells #[.int .i64 ky, .string s, .bool nt, .bool ni, .slice A4 ops.length c4, .slice A5 asg.length c5, .slice A6 wds.length c6, .slice A7 rds.length c7, .slice A8 ars.length c8, .slice A9 kds.length c9] 28)).alloc (.cells #[.int .i64 kyx, .string sx, .bool ntx, .bool nix, .slice B4 opsx.length e4, .slice B5 asgx.length e5, .slice B6 wdsx.length e6, .slice B7 rdsx.length e7, .slice B8 arsx.length e8, .slice B9 kdsx.length e9] 28) = W at *
  have x0 : W.cell? ⟨w.heap.size, 0, none⟩ = some (.int .i64 ky) := box_at hb0 _ (Below.refl _ _) 0 _ rfl
  have x1 : W.cell? ⟨w.heap.size, 1, none⟩ = some (.string s) := box_at hb0 _ (Below.refl _ _) 1 _ rfl
  have x2 : W.cell? ⟨w.heap.size, 2, none⟩ = some (.bool nt) := box_at hb0 _ (Below.refl _ _) 2 _ rfl
  have x3 : W.cell? ⟨w.heap.size, 3, none⟩ = some (.bool ni) := box_at hb0 _ (Below.refl _ _) 3 _ rfl
  have x4 : W.cell? ⟨w.heap.size, 4, none⟩ = some (.slice A4 ops.length c4) := box_at hb0 _ (Below.refl _ _) 4 _ rfl
  have x5 : W.cell? ⟨w.heap.size, 5, none⟩ = some (.slice A5 asg.length c5) := box_at hb0 _ (Below.refl _ _) 5 _ rfl
  have x6 : W.cell? ⟨w.heap.size, 6, none⟩ = some (.slice A6 wds.length c6) := box_at hb0 _ (Below.refl _ _) 6 _ rfl
  have x7 : W.cell? ⟨w.heap.size, 7, none⟩ = some (.slice A7 rds.length c7) := box_at hb0 _ (Below.refl _ _) 7 _ rfl
  have x8 : W.cell? ⟨w.heap.size, 8, none⟩ = some (.slice A8 ars.length c8) := box_at hb0 _ (Below.refl _ _) 8 _ rfl
  have x9 : W.cell? ⟨w.heap.size, 9, none⟩ = some (.slice A9 kds.length c9) := box_at hb0 _ (Below.refl _ _) 9 _ rfl
  have y0 : W.cell? ⟨w.heap.size + 1, 0, none⟩ = some (.int .i64 kyx) := box_at hb1 _ (Below.refl _ _) 0 _ rfl
  have y1 : W.cell? ⟨w.heap.size + 1, 1, none⟩ = some (.string sx) := box_at hb1 _ (Below.refl _ _) 1 _ rfl
  have y2 : W.cell? ⟨w.heap.size + 1, 2, none⟩ = some (.bool ntx) := box_at hb1 _ (Below.refl _ _) 2 _ rfl
  have y3 : W.cell? ⟨w.heap.size + 1, 3, none⟩ = some (.bool nix) := box_at hb1 _ (Below.refl _ _) 3 _ rfl
  have y4 : W.cell? ⟨w.heap.size + 1, 4, none⟩ = some (.slice B4 opsx.length e4) := box_at hb1 _ (Below.refl _ _) 4 _ rfl
  have y5 : W.cell? ⟨w.heap.size + 1, 5, none⟩ = some (.slice B5 asgx.length e5) := box_at hb1 _ (Below.refl _ _) 5 _ rfl
  have y6 : W.cell? ⟨w.heap.size + 1, 6, none⟩ = some (.slice B6 wdsx.length e6) := box_at hb1 _ (Below.refl _ _) 6 _ rfl
  have y7 : W.cell? ⟨w.heap.size + 1, 7, none⟩ = some (.slice B7 rdsx.length e7) := box_at hb1 _ (Below.refl _ _) 7 _ rfl
  have y8 : W.cell? ⟨w.heap.size + 1, 8, none⟩ = some (.slice B8 arsx.length e8) := box_at hb1 _ (Below.refl _ _) 8 _ rfl
  have y9 : W.cell? ⟨w.heap.size + 1, 9, none⟩ = some (.slice B9 kdsx.length e9) := box_at hb1 _ (Below.refl _ _) 9 _ rfl
  have HGW := Lib.hid (old_of hG hbw)
  have HBW := Lib.hid hbw; have HG := Lib.hid hG; have IH := Lib.hid ih
  clear hbw hb0 hb1 hG ih
  by_cases hk : ky = kyx
  case neg =>
    have K1 := Lib.hid (beq_false_of_ne hk)
    have k2 : (ky != kyx) = true := bne_iff_ne.2 hk
    go_enter Tryz.func24, Tryz.ntmps24
    go_wp2_with fail
    go_ret
    exact ⟨ret_bool (by rw [sameF_mk, K1.out]; rfl), HBW.out⟩
  have K1 := Lib.hid (beq_iff_eq.2 hk)
  have k2 : (ky != kyx) = false := by rw [bne, K1.out]; rfl
  clear hk
  cases m1 : (s.toList == sx.toList)
  · have M1 := Lib.hid m1
    go_enter Tryz.func24, Tryz.ntmps24
    go_wp2_with fail
    go_ret
    exact ⟨ret_bool (by rw [sameF_mk, K1.out, M1.out]; rfl), HBW.out⟩
  have M1 := Lib.hid m1
  by_cases hn : nt = ntx
  case neg =>
    have N1 := Lib.hid (beq_false_of_ne hn)
    have n2 : (nt != ntx) = true := bne_iff_ne.2 hn
    cases nt <;> cases ntx <;> first | exact absurd rfl hn | skip
    all_goals
      go_enter Tryz.func24, Tryz.ntmps24
      go_wp2_with fail
      go_ret
      exact ⟨ret_bool (by rw [sameF_mk, K1.out, M1.out]; rfl), HBW.out⟩
  have N1 := Lib.hid (beq_iff_eq.2 hn)
  by_cases hi : ni = nix
  case neg =>
    have HNE := Lib.hid hn
    cases ni <;> cases nix <;> first | exact absurd rfl hi | skip
    all_goals
      subst hn
      go_enter Tryz.func24, Tryz.ntmps24
      go_wp2_with fail
      go_ret
      exact ⟨ret_bool (by rw [sameF_mk, K1.out, M1.out, N1.out]; rfl), HBW.out⟩
  have I1 := Lib.hid (beq_iff_eq.2 hi)
  have HV2 := Lib.hid (show ∀ X, Below w.heap.size w X → NdV (f + 1) G X [.int .i64 ky, .string s, .bool nt, .bool ni, .slice A4 ops.length c4, .slice A5 asg.length c5, .slice A6 wds.length c6, .slice A7 rds.length c7, .slice A8 ars.length c8, .slice A9 kds.length c9] (NdF.mk ky s nt ni ops asg wds rds ars kds) from fun X hX => HV.out.below HG.out hX)
  have HV2' := Lib.hid (show ∀ X, Below w.heap.size w X → NdV (f + 1) G X [.int .i64 kyx, .string sx, .bool ntx, .bool nix, .slice B4 opsx.length e4, .slice B5 asgx.length e5, .slice B6 wdsx.length e6, .slice B7 rdsx.length e7, .slice B8 arsx.length e8, .slice B9 kdsx.length e9] (NdF.mk kyx sx ntx nix opsx asgx wdsx rdsx arsx kdsx) from fun X hX => HV'.out.below HG.out hX)
  clear HV HV'
  subst hn hi
  have HX0 := Lib.hid (ints_r G _ _ ops opsx W HGW.out (HSO.out.onI HG.out HBW.out) (TSO.out.onI HG.out HBW.out))
  go_enter Tryz.func24, Tryz.ntmps24
  go_wp2_with fail
  refine HX0.out.mono ?_
  rintro e w1 ⟨he, hb⟩
  have HB1 := Lib.hid (HBW.out.trans (hb.mono HBW.out.size))
  have p1_0 := box_keep x0 hb; have r1_0 := box_keep y0 hb; have p1_1 := box_keep x1 hb; have r1_1 := box_keep y1 hb; have p1_2 := box_keep x2 hb; have r1_2 := box_keep y2 hb; have p1_3 := box_keep x3 hb; have r1_3 := box_keep y3 hb; have p1_4 := box_keep x4 hb; have r1_4 := box_keep y4 hb; have p1_5 := box_keep x5 hb; have r1_5 := box_keep y5 hb; have p1_6 := box_keep x6 hb; have r1_6 := box_keep y6 hb; have p1_7 := box_keep x7 hb; have r1_7 := box_keep y7 hb; have p1_8 := box_keep x8 hb; have r1_8 := box_keep y8 hb; have p1_9 := box_keep x9 hb; have r1_9 := box_keep y9 hb
  clear hb x0 y0 x1 y1 x2 y2 x3 y3 x4 y4 x5 y5 x6 y6 x7 y7 x8 y8 x9 y9
  clear k2 m1
  cases q : all2 (fun x y : Int => x == y) ops opsx
  · rw [q] at he
    subst he
    have HQ0 := Lib.hid q; clear q
    go_wp2_with fail
    go_ret
    exact ⟨ret_bool (by rw [sameF_mk2, K1.out, M1.out, N1.out, I1.out, HQ0.out]; rfl), HB1.out⟩
  rw [q] at he
  subst he
  have HQ0 := Lib.hid q; clear q
  have HX1 := Lib.hid (sameWords_r f (sameParts_r f IH.out) G _ _ asg asgx w1 (old_of HG.out HB1.out) (HSA.out.onW HG.out HB1.out) (TSA.out.onW HG.out HB1.out))
  go_wp2_with fail
  refine HX1.out.mono ?_
  rintro e w2 ⟨he, hb⟩
  have HB2 := Lib.hid (HB1.out.trans (hb.mono HB1.out.size))
  have p2_0 := box_keep p1_0 hb; have r2_0 := box_keep r1_0 hb; have p2_1 := box_keep p1_1 hb; have r2_1 := box_keep r1_1 hb; have p2_2 := box_keep p1_2 hb; have r2_2 := box_keep r1_2 hb; have p2_3 := box_keep p1_3 hb; have r2_3 := box_keep r1_3 hb; have p2_4 := box_keep p1_4 hb; have r2_4 := box_keep r1_4 hb; have p2_5 := box_keep p1_5 hb; have r2_5 := box_keep r1_5 hb; have p2_6 := box_keep p1_6 hb; have r2_6 := box_keep r1_6 hb; have p2_7 := box_keep p1_7 hb; have r2_7 := box_keep r1_7 hb; have p2_8 := box_keep p1_8 hb; have r2_8 := box_keep r1_8 hb; have p2_9 := box_keep p1_9 hb; have r2_9 := box_keep r1_9 hb
  clear hb p1_0 r1_0 p1_1 r1_1 p1_2 r1_2 p1_3 r1_3 p1_4 r1_4 p1_5 r1_5 p1_6 r1_6 p1_7 r1_7 p1_8 r1_8 p1_9 r1_9
  cases q : all2 (wordS (Nd.same f)) asg asgx
  · rw [q] at he
    subst he
    have HQ1 := Lib.hid q; clear q
    go_wp2_with fail
    go_ret
    exact ⟨ret_bool (by rw [sameF_mk2, K1.out, M1.out, N1.out, I1.out, HQ0.out, HQ1.out]; rfl), HB2.out⟩
  rw [q] at he
  subst he
  have HQ1 := Lib.hid q; clear q
  have HX2 := Lib.hid (sameWords_r f (sameParts_r f IH.out) G _ _ wds wdsx w2 (old_of HG.out HB2.out) (HSW.out.onW HG.out HB2.out) (TSW.out.onW HG.out HB2.out))
  go_wp2_with fail
  refine HX2.out.mono ?_
  rintro e w3 ⟨he, hb⟩
  have HB3 := Lib.hid (HB2.out.trans (hb.mono HB2.out.size))
  have p3_0 := box_keep p2_0 hb; have r3_0 := box_keep r2_0 hb; have p3_1 := box_keep p2_1 hb; have r3_1 := box_keep r2_1 hb; have p3_2 := box_keep p2_2 hb; have r3_2 := box_keep r2_2 hb; have p3_3 := box_keep p2_3 hb; have r3_3 := box_keep r2_3 hb; have p3_4 := box_keep p2_4 hb; have r3_4 := box_keep r2_4 hb; have p3_5 := box_keep p2_5 hb; have r3_5 := box_keep r2_5 hb; have p3_6 := box_keep p2_6 hb; have r3_6 := box_keep r2_6 hb; have p3_7 := box_keep p2_7 hb; have r3_7 := box_keep r2_7 hb; have p3_8 := box_keep p2_8 hb; have r3_8 := box_keep r2_8 hb; have p3_9 := box_keep p2_9 hb; have r3_9 := box_keep r2_9 hb
  clear hb p2_0 r2_0 p2_1 r2_1 p2_2 r2_2 p2_3 r2_3 p2_4 r2_4 p2_5 r2_5 p2_6 r2_6 p2_7 r2_7 p2_8 r2_8 p2_9 r2_9
  cases q : all2 (wordS (Nd.same f)) wds wdsx
  · rw [q] at he
    subst he
    have HQ2 := Lib.hid q; clear q
    go_wp2_with fail
    go_ret
    exact ⟨ret_bool (by rw [sameF_mk2, K1.out, M1.out, N1.out, I1.out, HQ0.out, HQ1.out, HQ2.out]; rfl), HB3.out⟩
  rw [q] at he
  subst he
  have HQ2 := Lib.hid q; clear q
  have HX3 := Lib.hid (sameRest_r f IH.out G w3 _ _ _ _ (old_of HG.out HB3.out) (HV2.out _ HB3.out) (HV2'.out _ HB3.out))
  go_wp2_with fail
  refine HX3.out.mono ?_
  rintro e w4 ⟨he, hb⟩
  have HB4 := Lib.hid (HB3.out.trans (hb.mono HB3.out.size))
  have p4_0 := box_keep p3_0 hb; have r4_0 := box_keep r3_0 hb; have p4_1 := box_keep p3_1 hb; have r4_1 := box_keep r3_1 hb; have p4_2 := box_keep p3_2 hb; have r4_2 := box_keep r3_2 hb; have p4_3 := box_keep p3_3 hb; have r4_3 := box_keep r3_3 hb; have p4_4 := box_keep p3_4 hb; have r4_4 := box_keep r3_4 hb; have p4_5 := box_keep p3_5 hb; have r4_5 := box_keep r3_5 hb; have p4_6 := box_keep p3_6 hb; have r4_6 := box_keep r3_6 hb; have p4_7 := box_keep p3_7 hb; have r4_7 := box_keep r3_7 hb; have p4_8 := box_keep p3_8 hb; have r4_8 := box_keep r3_8 hb; have p4_9 := box_keep p3_9 hb; have r4_9 := box_keep r3_9 hb
  clear hb p3_0 r3_0 p3_1 r3_1 p3_2 r3_2 p3_3 r3_3 p3_4 r3_4 p3_5 r3_5 p3_6 r3_6 p3_7 r3_7 p3_8 r3_8 p3_9 r3_9
  cases q : (all2 (redirS (Nd.same f)) rds rdsx && all2 (armS (Nd.same f)) ars arsx)
  · rw [q] at he
    subst he
    have HQ3 := Lib.hid q; clear q
    go_wp2_with fail
    go_ret
    exact ⟨ret_bool (by rw [sameF_mk2, K1.out, M1.out, N1.out, I1.out, HQ0.out, HQ1.out, HQ2.out, HQ3.out]; rfl), HB4.out⟩
  rw [q] at he
  subst he
  have HQ3 := Lib.hid q; clear q
  have HX4 := Lib.hid (sameAll_r f IH.out G _ _ kds kdsx w4 (old_of HG.out HB4.out) (HSK.out.onN HG.out HB4.out) (TSK.out.onN HG.out HB4.out))
  go_wp2_with fail
  refine HX4.out.mono ?_
  rintro e w5 ⟨rfl, hb⟩
  have HB5 := Lib.hid (HB4.out.trans (hb.mono HB4.out.size))
  have p5_0 := box_keep p4_0 hb; have r5_0 := box_keep r4_0 hb; have p5_1 := box_keep p4_1 hb; have r5_1 := box_keep r4_1 hb; have p5_2 := box_keep p4_2 hb; have r5_2 := box_keep r4_2 hb; have p5_3 := box_keep p4_3 hb; have r5_3 := box_keep r4_3 hb; have p5_4 := box_keep p4_4 hb; have r5_4 := box_keep r4_4 hb; have p5_5 := box_keep p4_5 hb; have r5_5 := box_keep r4_5 hb; have p5_6 := box_keep p4_6 hb; have r5_6 := box_keep r4_6 hb; have p5_7 := box_keep p4_7 hb; have r5_7 := box_keep r4_7 hb; have p5_8 := box_keep p4_8 hb; have r5_8 := box_keep r4_8 hb; have p5_9 := box_keep p4_9 hb; have r5_9 := box_keep r4_9 hb
  clear hb p4_0 r4_0 p4_1 r4_1 p4_2 r4_2 p4_3 r4_3 p4_4 r4_4 p4_5 r4_5 p4_6 r4_6 p4_7 r4_7 p4_8 r4_8 p4_9 r4_9
  go_wp2_with fail
  go_ret
  exact ⟨ret_bool (by rw [sameF_mk2, K1.out, M1.out, N1.out, I1.out, HQ0.out, HQ1.out, HQ2.out, HQ3.out]; rfl), HB5.out⟩
theorem ref_same : ∀ f : Nat, RSm f
  | 0 => fun _ _ _ _ x => Empty.elim x
  | f + 1 => fun G w vs vs' x y hG hv hv' => same_step_r f (ref_same f) G w vs vs' x y hG hv hv'
end Go.Proofs.YtjpopekmbmcggaaGreatDoor
