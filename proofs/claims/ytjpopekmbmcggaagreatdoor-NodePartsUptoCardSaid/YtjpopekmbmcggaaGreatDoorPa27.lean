/- Towards nodeParts_card: NdSameW, NdSame. Merged from smaller texts by a program of the author's. -/
import Derived.Test.YtjpopekmbmcggaaGreatDoorPa26
import Derived.Test.YtjpopekmbmcggaaGreatDoorPa02
import Derived.Deep.RegionHeld3
namespace Go.Proofs.YtjpopekmbmcggaaGreatDoor
open Go.RowKit
set_option maxRecDepth 100000 in
set_option maxHeartbeats 8000000 in
theorem sameWord_p (f : Nat) (ih : PSm f) (G : Nat → Prop) (w : World) (vs vs' : List Value) (x y : WdF (Nd f)) (hG : ∀ k, G k → k < w.heap.size) (hv : WdN f G w vs x) (hv' : WdN f G w vs' y) :
    Calls Tryz.prog 62 #[ag vs, ag vs'] w fun e w' => e = .returned (.bool (wordS (Nd.same f) x y)) ∧ Below w.heap.size w w' := by
  obtain ⟨A, n, c, rfl⟩ := hv.shape
  obtain ⟨A', n', c', rfl⟩ := hv'.shape
  obtain ⟨rfl, hnc, hcm, hwt, hpt, -⟩ := hv.cmds
  obtain ⟨rfl, hnc', hcm', hwt', hpt', -⟩ := hv'.cmds
  show Calls Tryz.prog 62 #[.agg #[.slice A x.p.len c], .agg #[.slice A' y.p.len c']] w _
  have hbw : Below w.heap.size w ((w.alloc (.cells #[.slice A x.p.len c] 31)).alloc (.cells #[.slice A' y.p.len c'] 31)) := ((Below.refl _ _).alloc (Nat.le_refl _) _).alloc (by simp) _
  obtain ⟨b0, b1⟩ := two_blocks w (.cells #[.slice A x.p.len c] 31) (.cells #[.slice A' y.p.len c'] 31)
  generalize hW : ((w.alloc (.cells #[.slice A x.p.len c] 31)).alloc (.cells #[.slice A' y.p.len c'] 31)) = W at *
  have q0 := cell_one b0
  have q1 := cell_one b1
  have HV := Lib.hid (hv.below hG hbw); have HV' := Lib.hid (hv'.below hG hbw); have HG := Lib.hid (old_of hG hbw); have IH := Lib.hid ih; have HBW := Lib.hid hbw
  have HS := Lib.hid (show ∀ X, Below W.heap.size W X → X.cell? ⟨w.heap.size, 0, none⟩ = some (.slice A x.p.len c) ∧ X.cell? ⟨w.heap.size + 1, 0, none⟩ = some (.slice A' y.p.len c') from fun X hX => ⟨box_keep q0 hX, box_keep q1 hX⟩)
  have Fz := Lib.hid (show ∀ X, Below W.heap.size W X → Calls Tryz.prog 127 #[.agg #[.slice A x.p.len c], .agg #[.slice A' y.p.len c']] X fun e w' => e = .returned (.bool (x.p.same y.p)) ∧ Below W.heap.size W w' from fun X hX =>
    (psame_p x.p y.p A A' c c' G G X hwt hwt' (old_of HG.out hX) (old_of HG.out hX) (hpt.old hG (HBW.out.trans (hX.mono HBW.out.size))) (hpt'.old hG (HBW.out.trans (hX.mono HBW.out.size)))).mono fun _ _ ⟨h1, h2⟩ => ⟨h1, hX.trans (h2.mono hX.size)⟩)
  have FC := Lib.hid (show ∀ X, Below W.heap.size W X → Calls Tryz.prog 40 #[.agg #[.slice A x.p.len c]] X fun e w' => ∃ v, e = .returned v ∧ Crow X.heap.size w' v x.p.cmds ∧ Below W.heap.size W w' ∧ Below X.heap.size X w' from fun X hX =>
    (cmds_p x.p A c G X hwt (old_of HG.out hX) (hpt.old hG (HBW.out.trans (hX.mono HBW.out.size)))).mono fun _ _ ⟨v, h1, h2, h3⟩ => ⟨v, h1, h2, hX.trans (h3.mono hX.size), h3⟩)
  have FD := Lib.hid (show ∀ X, Below W.heap.size W X → Calls Tryz.prog 40 #[.agg #[.slice A' y.p.len c']] X fun e w' => ∃ v, e = .returned v ∧ Crow X.heap.size w' v y.p.cmds ∧ Below W.heap.size W w' ∧ Below X.heap.size X w' from fun X hX =>
    (cmds_p y.p A' c' G X hwt' (old_of HG.out hX) (hpt'.old hG (HBW.out.trans (hX.mono HBW.out.size)))).mono fun _ _ ⟨v, h1, h2, h3⟩ => ⟨v, h1, h2, hX.trans (h3.mono hX.size), h3⟩)
  have FE := Lib.hid (show ∀ X B B' va vb, Below W.heap.size W X → Crow B X va x.p.cmds → Crow B' X vb y.p.cmds → Calls Tryz.prog 128 #[va, vb, .func (.func 129) #[] #[]] X fun e w' => e = .returned (.bool (all2 (all2 (Nd.same f)) x.cmds y.cmds)) ∧ Below W.heap.size W w' from fun X B B' va vb hX h1 h2 =>
    (eqf_rows f IH.out G X B B' va vb x.p.cmds y.p.cmds x.cmds y.cmds (old_of HG.out hX) h1 h2 ((WdN.cmds (HV.out.below HG.out hX)).2.2.2.2.2) ((WdN.cmds (HV'.out.below HG.out hX)).2.2.2.2.2)).mono fun _ _ ⟨h3, h4⟩ => ⟨h3, hX.trans (h4.mono hX.size)⟩)
  have R0 := Lib.hid (show Below W.heap.size W W.drew from (Below.refl _ _).drew)
  clear hbw b0 b1 hv hv' hpt hpt' hG ih
  cases hsm : x.p.same y.p
  · have HSM := Lib.hid hsm
    rw [hsm] at Fz
    clear hsm
    go_enter Tryz.func62, Tryz.ntmps62
    go_wp2_with fail
    have g1 := fun X : Gr W => (Fz.out X.at_ X.2).mono (R' := fun e w' => e = .returned (.bool false) ∧ ∃ y : Gr W, w' = y.at_) fun _ w' ⟨h1, h2⟩ => ⟨h1, ⟨w', h2⟩, rfl⟩
    have y0 := fun X : Gr W => X.cell _ _ q0
    have y1 := fun X : Gr W => X.cell _ _ q1
    have hne : Nonempty (Gr W) := ⟨⟨_, Below.refl _ _⟩⟩
    refine wp_region_class (S := Gr W) Gr.at_ (by kernel_rfl) (by kernel_rfl) (Gr.drew _) ?_
    repeat (go_big_quiet_step (first | (with_reducible exact g1 _)))
    refine wpQuiet_nil ?_
    rintro X ⟨⟨X', hX⟩, hx⟩
    obtain rfl : X = X' := hx
    have bS := Lib.hid hX
    clear hX g1 y0 y1 hne
    go_wp2_with fail
    go_ret
    exact ⟨ret_bool (by rw [wordS, HSM.out]; rfl), HBW.out.trans (bS.out.mono HBW.out.size)⟩
  · have HSM := Lib.hid hsm
    rw [hsm] at Fz
    clear hsm
    go_enter Tryz.func62, Tryz.ntmps62
    go_wp2_with fail
    go_region_held3 (fun X => X.cell? ⟨w.heap.size, 0, none⟩ = some (.slice A x.p.len c) ∧ X.cell? ⟨w.heap.size + 1, 0, none⟩ = some (.slice A' y.p.len c'))
      (exact HS.out _ (by first | exact bE | exact bD | exact bC | exact bS | exact R0.out))
      (first
        | (go_at_call 127
           refine Calls.mono (Fz.out _ R0.out) ?_
           rintro e wS ⟨rfl, bS⟩
           dsimp only)
        | (go_at_call_of 40 (Value.agg #[.slice A x.p.len c])
           refine Calls.mono (FC.out _ bS) ?_
           rintro e wC ⟨vC, rfl, rC, bC, bC'⟩
           have RC := Lib.hid rC
           clear rC
           dsimp only)
        | (go_at_call_of 40 (Value.agg #[.slice A' y.p.len c'])
           refine Calls.mono (FD.out _ bC) ?_
           rintro e wD ⟨vD, rfl, rD, bD, bD'⟩
           have RD := Lib.hid rD
           have RC2 := Lib.hid (RC.out.below bD')
           clear rD
           dsimp only)
        | (go_at_call 128
           refine Calls.mono (FE.out _ _ _ _ _ bD RC2.out RD.out) ?_
           rintro e wE ⟨rfl, bE⟩
           dsimp only))
    all_goals
      go_wp2_with fail
      go_ret
      exact ⟨ret_bool (by rw [wordS, HSM.out]; rfl), HBW.out.trans (bE.mono HBW.out.size)⟩
end Go.Proofs.YtjpopekmbmcggaaGreatDoor
namespace Go.Proofs.YtjpopekmbmcggaaGreatDoor
open Go.RowKit
theorem enter_sameWord : Enters 62 := fun args w => by simp [callFunc, go_sem, Tryz.func62, Tryz.f62]
theorem enter_sameRedir : Enters 64 := fun args w => by simp [callFunc, go_sem, Tryz.func64, Tryz.f64]
theorem enter_sameArm : Enters 66 := fun args w => by simp [callFunc, go_sem, Tryz.func66, Tryz.f66]
theorem fn_sameWord {f : Nat} {G : Nat → Prop} {w : World} (ih : PSm f) (hG : ∀ k, G k → k < w.heap.size) : FnEq (WdN f G) w 62 (wordS (Nd.same f)) := fun X hX vs vs' x y hx hy => sameWord_p f ih G X vs vs' x y (old_of hG hX) hx hy
set_option maxRecDepth 100000 in
set_option maxHeartbeats 4000000 in
theorem sameRedir_p (f : Nat) (ih : PSm f) (G : Nat → Prop) (w : World) (vs vs' : List Value) (x y : RdF (Nd f)) (hG : ∀ k, G k → k < w.heap.size) (hv : RdN f G w vs x) (hv' : RdN f G w vs' y) :
    Calls Tryz.prog 64 #[ag vs, ag vs'] w fun e w' => e = .returned (.bool (redirS (Nd.same f) x y)) ∧ Below w.heap.size w w' := by
  obtain ⟨num, op, tw, here⟩ := x
  obtain ⟨vt, rfl, _, _, hw⟩ := hv
  obtain ⟨A, n, c, hvt⟩ := WdN.shape hw
  injection hvt with hvt
  subst hvt
  obtain ⟨num', op', tw', here'⟩ := y
  obtain ⟨vt', rfl, _, _, hw'⟩ := hv'
  obtain ⟨A', n', c', hvt'⟩ := WdN.shape hw'
  injection hvt' with hvt'
  subst hvt'
  have hww : WdN f G w [.slice A n c] tw := hw
  have hww' : WdN f G w [.slice A' n' c'] tw' := hw'
  show Calls Tryz.prog 64 #[.agg #[.string num, .int .i64 op, .slice A n c, .string here], .agg #[.string num', .int .i64 op', .slice A' n' c', .string here']] w _
  have hbw : Below w.heap.size w ((w.alloc (.cells #[.string num, .int .i64 op, .slice A n c, .string here] 33)).alloc (.cells #[.string num', .int .i64 op', .slice A' n' c', .string here'] 33)) := ((Below.refl _ _).alloc (Nat.le_refl _) _).alloc (by simp) _
  obtain ⟨hb0, hb1⟩ := two_blocks w (.cells #[.string num, .int .i64 op, .slice A n c, .string here] 33) (.cells #[.string num', .int .i64 op', .slice A' n' c', .string here'] 33)
  generalize hW : (w.alloc (.cells #[.string num, .int .i64 op, .slice A n c, .string here] 33)).alloc (.cells #[.string num', .int .i64 op', .slice A' n' c', .string here'] 33) = W at *
  have x0 : W.cell? ⟨w.heap.size, 0, none⟩ = some (.string num) := box_at hb0 _ (Below.refl _ _) 0 _ rfl
  have x1 : W.cell? ⟨w.heap.size, 1, none⟩ = some (.int .i64 op) := box_at hb0 _ (Below.refl _ _) 1 _ rfl
  have x2 : W.cell? ⟨w.heap.size, 2, none⟩ = some (.slice A n c) := box_at hb0 _ (Below.refl _ _) 2 _ rfl
  have x3 : W.cell? ⟨w.heap.size, 3, none⟩ = some (.string here) := box_at hb0 _ (Below.refl _ _) 3 _ rfl
  have y0 : W.cell? ⟨w.heap.size + 1, 0, none⟩ = some (.string num') := box_at hb1 _ (Below.refl _ _) 0 _ rfl
  have y1 : W.cell? ⟨w.heap.size + 1, 1, none⟩ = some (.int .i64 op') := box_at hb1 _ (Below.refl _ _) 1 _ rfl
  have y2 : W.cell? ⟨w.heap.size + 1, 2, none⟩ = some (.slice A' n' c') := box_at hb1 _ (Below.refl _ _) 2 _ rfl
  have y3 : W.cell? ⟨w.heap.size + 1, 3, none⟩ = some (.string here') := box_at hb1 _ (Below.refl _ _) 3 _ rfl
  have HGW := Lib.hid (old_of hG hbw)
  have HBW := Lib.hid hbw; have HG := Lib.hid hG; have IH := Lib.hid ih
  have HX := Lib.hid (sameWord_p f ih G W _ _ tw tw' HGW.out (hww.below hG hbw) (hww'.below hG hbw))
  clear hbw hb0 hb1 hG ih hw hw' hww hww'
  cases m1 : (num.toList == num'.toList)
  · have M1 := Lib.hid m1
    go_enter Tryz.func64, Tryz.ntmps64
    go_wp2_with fail
    go_ret
    exact ⟨ret_bool (by simp only [redirS, M1.out, Bool.false_and]), HBW.out⟩
  have M1 := Lib.hid m1
  cases m2 : (op == op')
  · have M2 := Lib.hid m2
    go_enter Tryz.func64, Tryz.ntmps64
    go_wp2_with fail
    go_ret
    exact ⟨ret_bool (by simp only [redirS, M1.out, M2.out, Bool.and_false, Bool.false_and]), HBW.out⟩
  have M2 := Lib.hid m2
  cases m3 : (here.toList == here'.toList)
  · have M3 := Lib.hid m3
    go_enter Tryz.func64, Tryz.ntmps64
    go_wp2_with fail
    go_ret
    exact ⟨ret_bool (by simp only [redirS, M1.out, M2.out, M3.out, Bool.and_false, Bool.false_and]), HBW.out⟩
  have M3 := Lib.hid m3
  go_enter Tryz.func64, Tryz.ntmps64
  go_wp2_with fail
  refine HX.out.mono ?_
  rintro e w1 ⟨rfl, hb⟩
  have HB := Lib.hid (HBW.out.trans (hb.mono HBW.out.size))
  clear hb x0 x1 x2 x3 y0 y1 y2 y3
  go_wp2_with fail
  go_ret
  exact ⟨ret_bool (by simp only [redirS, M1.out, M2.out, M3.out, Bool.true_and]), HB.out⟩
theorem fn_sameRedir {f : Nat} {G : Nat → Prop} {w : World} (ih : PSm f) (hG : ∀ k, G k → k < w.heap.size) : FnEq (RdN f G) w 64 (redirS (Nd.same f)) := fun X hX vs vs' x y hx hy => sameRedir_p f ih G X vs vs' x y (old_of hG hX) hx hy
set_option maxRecDepth 100000 in
set_option maxHeartbeats 4000000 in
theorem sameArm_p (f : Nat) (ih : PSm f) (G : Nat → Prop) (w : World) (vs vs' : List Value) (x y : ArF (Nd f)) (hG : ∀ k, G k → k < w.heap.size) (hv : ArN f G w vs x) (hv' : ArN f G w vs' y) :
    Calls Tryz.prog 66 #[ag vs, ag vs'] w fun e w' => e = .returned (.bool (armS (Nd.same f) x y)) ∧ Below w.heap.size w w' := by
  obtain ⟨ps, bd⟩ := x
  obtain ⟨vp, bs1, rfl, _, hps, hbd⟩ := hv
  obtain ⟨A0, c0, rfl, hl0, hm0⟩ := SlAt.shape hps
  obtain ⟨ky, s, nt, ni, A4, n4, c4, A5, n5, c5, A6, n6, c6, A7, n7, c7, A8, n8, c8, A9, n9, c9, rfl⟩ := NdV.shape hbd
  obtain ⟨qs, be⟩ := y
  obtain ⟨vq, bs2, rfl, _, hqs, hbe⟩ := hv'
  obtain ⟨B0, e0, rfl, hl1, hm1⟩ := SlAt.shape hqs
  obtain ⟨kyx, sx, ntx, nix, B4, m4, e4, B5, m5, e5, B6, m6, e6, B7, m7, e7, B8, m8, e8, B9, m9, e9, rfl⟩ := NdV.shape hbe
  simp only at hps hqs hbd hbe
  simp only
  show Calls Tryz.prog 66 #[.agg #[.slice A0 ps.length c0, .int .i64 ky, .string s, .bool nt, .bool ni, .slice A4 n4 c4, .slice A5 n5 c5, .slice A6 n6 c6, .slice A7 n7 c7, .slice A8 n8 c8, .slice A9 n9 c9], .agg #[.slice B0 qs.length e0, .int .i64 kyx, .string sx, .bool ntx, .bool nix, .slice B4 m4 e4, .slice B5 m5 e5, .slice B6 m6 e6, .slice B7 m7 e7, .slice B8 m8 e8, .slice B9 m9 e9]] w _
  have hbw : Below w.heap.size w ((w.alloc (.cells #[.slice A0 ps.length c0, .int .i64 ky, .string s, .bool nt, .bool ni, .slice A4 n4 c4, .slice A5 n5 c5, .slice A6 n6 c6, .slice A7 n7 c7, .slice A8 n8 c8, .slice A9 n9 c9] 54)).alloc (.cells #[.slice B0 qs.length e0, .int .i64 kyx, .string sx, .bool ntx, .bool nix, .slice B4 m4 e4, .slice B5 m5 e5, .slice B6 m6 e6, .slice B7 m7 e7, .slice B8 m8 e8, .slice B9 m9 e9] 54)) := ((Below.refl _ _).alloc (Nat.le_refl _) _).alloc (by simp) _
  obtain ⟨hb0, hb1⟩ := two_blocks w (.cells #[.slice A0 ps.length c0, .int .i64 ky, .string s, .bool nt, .bool ni, .slice A4 n4 c4, .slice A5 n5 c5, .slice A6 n6 c6, .slice A7 n7 c7, .slice A8 n8 c8, .slice A9 n9 c9] 54) (.cells #[.slice B0 qs.length e0, .int .i64 kyx, .string sx, .bool ntx, .bool nix, .slice B4 m4 e4, .slice B5 m5 e5, .slice B6 m6 e6, .slice B7 m7 e7, .slice B8 m8 e8, .slice B9 m9 e9] 54)
  generalize hW : (w.alloc (.cells #[.slice A0 ps.length c0, .int .i64 ky, .string s, .bool nt, .bool ni, .slice A4 n4 c4, .slice A5 n5 c5, .slice A6 n6 c6, .slice A7 n7 c7, .slice A8 n8 c8, .slice A9 n9 c9] 54)).alloc (.cells #[.slice B0 qs.length e0, .int .i64 kyx, .string sx, .bool ntx, .bool nix, .slice B4 m4 e4, .slice B5 m5 e5, .slice B6 m6 e6, .slice B7 m7 e7, .slice B8 m8 e8, .slice B9 m9 e9] 54) = W at *
  have x0 : W.cell? ⟨w.heap.size, 0, none⟩ = some (.slice A0 ps.length c0) := box_at hb0 _ (Below.refl _ _) 0 _ rfl
  have x1 : W.cell? ⟨w.heap.size, 1, none⟩ = some (.int .i64 ky) := box_at hb0 _ (Below.refl _ _) 1 _ rfl
  have x2 : W.cell? ⟨w.heap.size, 2, none⟩ = some (.string s) := box_at hb0 _ (Below.refl _ _) 2 _ rfl
  have x3 : W.cell? ⟨w.heap.size, 3, none⟩ = some (.bool nt) := box_at hb0 _ (Below.refl _ _) 3 _ rfl
  have x4 : W.cell? ⟨w.heap.size, 4, none⟩ = some (.bool ni) := box_at hb0 _ (Below.refl _ _) 4 _ rfl
  have x5 : W.cell? ⟨w.heap.size, 5, none⟩ = some (.slice A4 n4 c4) := box_at hb0 _ (Below.refl _ _) 5 _ rfl
  have x6 : W.cell? ⟨w.heap.size, 6, none⟩ = some (.slice A5 n5 c5) := box_at hb0 _ (Below.refl _ _) 6 _ rfl
  have x7 : W.cell? ⟨w.heap.size, 7, none⟩ = some (.slice A6 n6 c6) := box_at hb0 _ (Below.refl _ _) 7 _ rfl
  have x8 : W.cell? ⟨w.heap.size, 8, none⟩ = some (.slice A7 n7 c7) := box_at hb0 _ (Below.refl _ _) 8 _ rfl
  have x9 : W.cell? ⟨w.heap.size, 9, none⟩ = some (.slice A8 n8 c8) := box_at hb0 _ (Below.refl _ _) 9 _ rfl
  have x10 : W.cell? ⟨w.heap.size, 10, none⟩ = some (.slice A9 n9 c9) := box_at hb0 _ (Below.refl _ _) 10 _ rfl
  have y0 : W.cell? ⟨w.heap.size + 1, 0, none⟩ = some (.slice B0 qs.length e0) := box_at hb1 _ (Below.refl _ _) 0 _ rfl
  have y1 : W.cell? ⟨w.heap.size + 1, 1, none⟩ = some (.int .i64 kyx) := box_at hb1 _ (Below.refl _ _) 1 _ rfl
  have y2 : W.cell? ⟨w.heap.size + 1, 2, none⟩ = some (.string sx) := box_at hb1 _ (Below.refl _ _) 2 _ rfl
  have y3 : W.cell? ⟨w.heap.size + 1, 3, none⟩ = some (.bool ntx) := box_at hb1 _ (Below.refl _ _) 3 _ rfl
  have y4 : W.cell? ⟨w.heap.size + 1, 4, none⟩ = some (.bool nix) := box_at hb1 _ (Below.refl _ _) 4 _ rfl
  have y5 : W.cell? ⟨w.heap.size + 1, 5, none⟩ = some (.slice B4 m4 e4) := box_at hb1 _ (Below.refl _ _) 5 _ rfl
  have y6 : W.cell? ⟨w.heap.size + 1, 6, none⟩ = some (.slice B5 m5 e5) := box_at hb1 _ (Below.refl _ _) 6 _ rfl
  have y7 : W.cell? ⟨w.heap.size + 1, 7, none⟩ = some (.slice B6 m6 e6) := box_at hb1 _ (Below.refl _ _) 7 _ rfl
  have y8 : W.cell? ⟨w.heap.size + 1, 8, none⟩ = some (.slice B7 m7 e7) := box_at hb1 _ (Below.refl _ _) 8 _ rfl
  have y9 : W.cell? ⟨w.heap.size + 1, 9, none⟩ = some (.slice B8 m8 e8) := box_at hb1 _ (Below.refl _ _) 9 _ rfl
  have y10 : W.cell? ⟨w.heap.size + 1, 10, none⟩ = some (.slice B9 m9 e9) := box_at hb1 _ (Below.refl _ _) 10 _ rfl
  have HGW := Lib.hid (old_of hG hbw)
  have HBW := Lib.hid hbw; have HG := Lib.hid hG; have IH := Lib.hid ih
  have HBD := Lib.hid (hbd.below hG hbw); have HBE := Lib.hid (hbe.below hG hbw)
  have HX := Lib.hid (eqf_word f G 62 (wordS (Nd.same f)) _ _ ps qs W HGW.out (SlAt.onW hps hG hbw) (SlAt.onW hqs hG hbw) enter_sameWord (fn_sameWord ih HGW.out))
  clear hbw hb0 hb1 hG ih hps hqs hbd hbe
  go_enter Tryz.func66, Tryz.ntmps66
  go_wp2_with fail
  refine HX.out.mono ?_
  rintro e w1 ⟨he, hb⟩
  have HB1 := Lib.hid (HBW.out.trans (hb.mono HBW.out.size))
  have u1 := box_keep x1 hb; have v1 := box_keep y1 hb; have u2 := box_keep x2 hb; have v2 := box_keep y2 hb; have u3 := box_keep x3 hb; have v3 := box_keep y3 hb; have u4 := box_keep x4 hb; have v4 := box_keep y4 hb; have u5 := box_keep x5 hb; have v5 := box_keep y5 hb; have u6 := box_keep x6 hb; have v6 := box_keep y6 hb; have u7 := box_keep x7 hb; have v7 := box_keep y7 hb; have u8 := box_keep x8 hb; have v8 := box_keep y8 hb; have u9 := box_keep x9 hb; have v9 := box_keep y9 hb; have u10 := box_keep x10 hb; have v10 := box_keep y10 hb
  have HY := Lib.hid (IH.out G w1 _ _ bd be (old_of HGW.out hb) (HBD.out.below HGW.out hb) (HBE.out.below HGW.out hb))
  clear hb x0 y0 x1 y1 x2 y2 x3 y3 x4 y4 x5 y5 x6 y6 x7 y7 x8 y8 x9 y9 x10 y10
  cases q : all2 (wordS (Nd.same f)) ps qs
  · rw [q] at he
    subst he
    have HQ := Lib.hid q; clear q
    go_wp2_with fail
    go_ret
    exact ⟨ret_bool (by simp only [armS, HQ.out, Bool.false_and]), HB1.out⟩
  rw [q] at he
  subst he
  have HQ := Lib.hid q; clear q
  go_wp2_with fail
  refine HY.out.mono ?_
  rintro e w2 ⟨rfl, hb⟩
  have HB2 := Lib.hid (HB1.out.trans (hb.mono HB1.out.size))
  clear hb u1 v1 u2 v2 u3 v3 u4 v4 u5 v5 u6 v6 u7 v7 u8 v8 u9 v9 u10 v10
  go_wp2_with fail
  go_ret
  exact ⟨ret_bool (by simp only [armS, HQ.out, Bool.true_and]), HB2.out⟩
theorem fn_sameArm {f : Nat} {G : Nat → Prop} {w : World} (ih : PSm f) (hG : ∀ k, G k → k < w.heap.size) : FnEq (ArN f G) w 66 (armS (Nd.same f)) := fun X hX vs vs' x y hx hy => sameArm_p f ih G X vs vs' x y (old_of hG hX) hx hy
set_option maxRecDepth 100000 in
set_option maxHeartbeats 4000000 in
theorem ints_p (G : Nat → Prop) (v v' : Value) (xs ys : List Int) (w : World) (hG : ∀ k, G k → k < w.heap.size) (hs : SlAt G w 1 IntV v xs) (hs' : SlAt G w 1 IntV v' ys) :
    Calls Tryz.prog 60 #[v, v'] w fun e w' => e = .returned (.bool (all2 (fun x y : Int => x == y) xs ys)) ∧ Below w.heap.size w w' := by
  obtain ⟨A, c, rfl, hl, hm, hc⟩ := hs
  obtain ⟨A', c', rfl, hl', hm', hc'⟩ := hs'
  unfold maxLen at hm hm'
  have HC := Lib.hid hc; have HC' := Lib.hid hc'; have HG := Lib.hid hG
  clear hc hc' hG
  by_cases hll : xs.length = ys.length
  · have HLL := Lib.hid hll
    rw [← hll] at hl' ⊢
    clear hll
    go_enter Tryz.func60, Tryz.ntmps60
    go_wp2_with fail
    go_loopw [13] (fun i wr => ∃ (k : Nat), k ≤ xs.length ∧ i = .int .i64 k ∧ all2 (fun x y : Int => x == y) (xs.drop k) (ys.drop k) = all2 (fun x y : Int => x == y) xs ys ∧ Below w.heap.size w wr) (fun i _ => xs.length - (intOf i).toNat)
    case atStart => exact ⟨0, by omega, rfl, rfl, Below.refl _ _⟩
    case round =>
      obtain ⟨k, hk, rfl, hf, hb⟩ := hrel
      have HF := Lib.hid hf; have HB := Lib.hid hb
      clear hf
      by_cases hlt : k < xs.length
      · have hlt' : k < ys.length := by rw [← HLL.out]; exact hlt
        obtain ⟨b, off, rfl, hg, hel⟩ := HC.out (by omega)
        obtain ⟨b', off', rfl, hg', hel'⟩ := HC'.out (by omega)
        obtain ⟨vs, hvl, hR, hcell⟩ := hel k hlt
        obtain ⟨vs', hvl', hR', hcell'⟩ := hel' k hlt'
        obtain rfl : vs = [.int .i64 xs[k]] := hR
        obtain rfl : vs' = [.int .i64 ys[k]] := hR'
        have d0 : wr.cell? ⟨b, off + k, none⟩ = some (.int .i64 xs[k]) := by simpa using (keep_of HG.out hb _ hg).trans (hcell 0 _ rfl)
        have g0 : wr.cell? ⟨b', off' + k, none⟩ = some (.int .i64 ys[k]) := by simpa using (keep_of HG.out hb _ hg').trans (hcell' 0 _ rfl)
        have HD := Lib.hid (all2_drop (fun x y : Int => x == y) xs ys k hlt hlt')
        have hsz := Nat.lt_of_lt_of_le (HG.out b hg) hb.size
        clear hel hel' hcell hcell' hvl hvl' hg hg' hb hsz
        generalize xs[k] = xk at *
        generalize ys[k] = yk at *
        have HBD := Lib.hid HB.out.drew
        cases m1 : (xk == yk)
        · have n1 : (xk != yk) = true := by rw [bne, m1]; rfl
          have M1 := Lib.hid m1
          clear m1
          go_wp2_with fail
          go_quiet (fail)
          go_wp2_with fail
          go_ret
          exact ⟨ret_bool (by rw [← HF.out, HD.out, M1.out]; rfl), belowN HB.out _⟩
        · have n1 : (xk != yk) = false := by rw [bne, m1]; rfl
          have M1 := Lib.hid m1
          clear m1
          go_wp2_with fail
          go_quiet (fail)
          go_wp2_with fail
          go_roundw
          case rel => exact ⟨k + 1, by omega, by go_num, by rw [← HF.out, HD.out, M1.out]; rfl, belowN HB.out _⟩
          case measure => simp only [intOf]; omega
      · have HE2 := Lib.hid (all2_end (fun x y : Int => x == y) xs ys k (by omega) (by rw [← HLL.out]; omega))
        clear hb
        go_wp2_with fail
        go_ret
        exact ⟨ret_bool (by rw [← HF.out, HE2.out]), HB.out⟩
  · have HLL := Lib.hid (all2_ne (fun x y : Int => x == y) xs ys hll)
    have h1 : ((xs.length : Int) != (ys.length : Int)) = true := bne_iff_ne.2 (by omega)
    have h2 : (xs.length != ys.length) = true := bne_iff_ne.2 hll
    go_enter Tryz.func60, Tryz.ntmps60
    go_wp2_with fail
    go_ret
    exact ⟨ret_bool (by rw [HLL.out]), Below.refl _ _⟩
theorem sameF_mk {α : Type} (S : α → α → Bool) (ky kyx : Int) (s sx : ByteArray) (nt ntx ni nix : Bool) (ops opsx : List Int) (asg asgx wds wdsx : List (WdF α)) (rds rdsx : List (RdF α)) (ars arsx : List (ArF α)) (kds kdsx : List α) :
    sameF S (NdF.mk ky s nt ni ops asg wds rds ars kds) (NdF.mk kyx sx ntx nix opsx asgx wdsx rdsx arsx kdsx) =
      ((((((ky == kyx) && (s.toList == sx.toList)) && (nt == ntx)) && (ni == nix)) && all2 (fun x y : Int => x == y) ops opsx) && (all2 (wordS S) asg asgx && (all2 (wordS S) wds wdsx && (all2 (redirS S) rds rdsx && (all2 (armS S) ars arsx && all2 S kds kdsx))))) := rfl
set_option maxRecDepth 100000 in
set_option maxHeartbeats 8000000 in
theorem same_step (f : Nat) (ih : PSm f) (G : Nat → Prop) (w : World) (vs vs' : List Value) (x y : NdF (Nd f)) (hG : ∀ k, G k → k < w.heap.size) (hv : NdV (f + 1) G w vs x) (hv' : NdV (f + 1) G w vs' y) :
    Calls Tryz.prog 23 #[ag vs, ag vs'] w fun e w' => e = .returned (.bool (sameF (Nd.same f) x y)) ∧ Below w.heap.size w w' := by
  obtain ⟨ky, s, nt, ni, ops, asg, wds, rds, ars, kds⟩ := x
  obtain ⟨A4, c4, A5, c5, A6, c6, A7, c7, A8, c8, A9, c9, rfl, hns, hal, hl4, hl5, hl6, hl7, hl8, hl9, hso, hsa, hsw, hsr, hsm, hsk⟩ := NdV.open hv
  obtain ⟨kyx, sx, ntx, nix, opsx, asgx, wdsx, rdsx, arsx, kdsx⟩ := y
  obtain ⟨B4, e4, B5, e5, B6, e6, B7, e7, B8, e8, B9, e9, rfl, hns2, hal2, hm4, hm5, hm6, hm7, hm8, hm9, tso, tsa, tsw, tsr, tsm, tsk⟩ := NdV.open hv'
  have HSO := Lib.hid hso; have HSA := Lib.hid hsa; have HSW := Lib.hid hsw; have HSR := Lib.hid hsr; have HSM := Lib.hid hsm; have HSK := Lib.hid hsk
  have TSO := Lib.hid tso; have TSA := Lib.hid tsa; have TSW := Lib.hid tsw; have TSR := Lib.hid tsr; have TSM := Lib.hid tsm; have TSK := Lib.hid tsk
  clear hso hsa hsw hsr hsm hsk hv tso tsa tsw tsr tsm tsk hv'
  show Calls Tryz.prog 23 #[.agg #[.int .i64 ky, .string s, .bool nt, .bool ni, .slice A4 ops.length c4, .slice A5 asg.length c5, .slice A6 wds.length c6, .slice A7 rds.length c7, .slice A8 ars.length c8, .slice A9 kds.length c9], .agg #[.int .i64 kyx, .string sx, .bool ntx, .bool nix, .slice B4 opsx.length e4, .slice B5 asgx.length e5, .slice B6 wdsx.length e6, .slice B7 rdsx.length e7, .slice B8 arsx.length e8, .slice B9 kdsx.length e9]] w _
  have hbw : Below w.heap.size w ((w.alloc (.cells #[.int .i64 ky, .string s, .bool nt, .bool ni, .slice A4 ops.length c4, .slice A5 asg.length c5, .slice A6 wds.length c6, .slice A7 rds.length c7, .slice A8 ars.length c8, .slice A9 kds.length c9] 28)).alloc (.cells #[.int .i64 kyx, .string sx, .bool ntx, .bool nix, .slice B4 opsx.length e4, .slice B5 asgx.length e5, .slice B6 wdsx.length e6, .slice B7 rdsx.length e7, .slice B8 arsx.length e8, .slice B9 kdsx.length e9] 28)) := ((Below.refl _ _).alloc (Nat.le_refl _) _).alloc (by simp) _
  obtain ⟨hb0, hb1⟩ := two_blocks w (.cells #[.int .i64 ky, .string s, .bool nt, .bool ni, .slice A4 ops.length c4, .slice A5 asg.length c5, .slice A6 wds.length c6, .slice A7 rds.length c7, .slice A8 ars.length c8, .slice A9 kds.length c9] 28) (.cells #[.int .i64 kyx, .string sx, .bool ntx, .bool nix, .slice B4 opsx.length e4, .slice B5 asgx.length e5, .slice B6 wdsx.length e6, .slice B7 rdsx.length e7, .slice B8 arsx.length e8, .slice B9 kdsx.length e9] 28)
  generalize hW : (w.alloc (.cells #[.int .i64 ky, .string s, .bool nt, .bool ni, .slice A4 ops.length c4, .slice A5 asg.length c5, .slice A6 wds.length c6, .slice A7 rds.length c7, .slice A8 ars.length c8, .slice A9 kds.length c9] 28)).alloc (.cells #[.int .i64 kyx, .string sx, .bool ntx, .bool nix, .slice B4 opsx.length e4, .slice B5 asgx.length e5, .slice B6 wdsx.length e6, .slice B7 rdsx.length e7, .slice B8 arsx.length e8, .slice B9 kdsx.length e9] 28) = W at *
  have x0 : W.cell? ⟨w.heap.size, 0, none⟩ = some (.int .i64 ky) := box_at hb0 _ (Below.refl _ _) 0 _ rfl
  have x1 : W.cell? ⟨w.heap.size, 1, none⟩ = some (.string s) := box_at hb0 _ (Below.refl _ _) 1 _ rfl
  have x2 : W.cell? ⟨w.heap.size, 2, none⟩ = some (.bool nt) := box_at hb0 _ (Below.refl _ _) 2 _ rfl
  have x3 : W.cell? ⟨w.heap.size, 3, none⟩ = some (.bool ni) := box_at hb0 _ (Below.refl _ _) 3 _ rfl
  have x4 : W.cell? ⟨w.heap.size, 4, none⟩ = some (.slice A4 ops.length c4) := box_at hb0 _ (Below.refl _ _) 4 _ rfl
  have x5 : W.cell? ⟨w.heap.size, 5, none⟩ = some (.slice A5 asg.length c5) := box_at hb0 _ (Below.refl _ _) 5 _ rfl
  have x6 : W.cell? ⟨w.heap.size, 6, none⟩ = some (.slice A6 wds.length c6) := box_at hb0 _ (Below.refl _ _) 6 _ rfl
  have x7 : W.cell? ⟨w.heap.size, 7, none⟩ = some (.slice A7 rds.length c7) := box_at hb0 _ (Below.refl _ _) 7 _ rfl
  have x8 : W.cell? ⟨w.heap.size, 8, none⟩ = some (.slice A8 ars.length c8) := box_at hb0 _ (Below.refl _ _) 8 _ rfl
  have x9 : W.cell? ⟨w.heap.size, 9, none⟩ = some (.slice A9 kds.length c9) := box_at hb0 _ (Below.refl _ _) 9 _ rfl
  have y0 : W.cell? ⟨w.heap.size + 1, 0, none⟩ = some (.int .i64 kyx) := box_at hb1 _ (Below.refl _ _) 0 _ rfl
  have y1 : W.cell? ⟨w.heap.size + 1, 1, none⟩ = some (.string sx) := box_at hb1 _ (Below.refl _ _) 1 _ rfl
  have y2 : W.cell? ⟨w.heap.size + 1, 2, none⟩ = some (.bool ntx) := box_at hb1 _ (Below.refl _ _) 2 _ rfl
  have y3 : W.cell? ⟨w.heap.size + 1, 3, none⟩ = some (.bool nix) := box_at hb1 _ (Below.refl _ _) 3 _ rfl
  have y4 : W.cell? ⟨w.heap.size + 1, 4, none⟩ = some (.slice B4 opsx.length e4) := box_at hb1 _ (Below.refl _ _) 4 _ rfl
  have y5 : W.cell? ⟨w.heap.size + 1, 5, none⟩ = some (.slice B5 asgx.length e5) := box_at hb1 _ (Below.refl _ _) 5 _ rfl
  have y6 : W.cell? ⟨w.heap.size + 1, 6, none⟩ = some (.slice B6 wdsx.length e6) := box_at hb1 _ (Below.refl _ _) 6 _ rfl
  have y7 : W.cell? ⟨w.heap.size + 1, 7, none⟩ = some (.slice B7 rdsx.length e7) := box_at hb1 _ (Below.refl _ _) 7 _ rfl
  have y8 : W.cell? ⟨w.heap.size + 1, 8, none⟩ = some (.slice B8 arsx.length e8) := box_at hb1 _ (Below.refl _ _) 8 _ rfl
  have y9 : W.cell? ⟨w.heap.size + 1, 9, none⟩ = some (.slice B9 kdsx.length e9) := box_at hb1 _ (Below.refl _ _) 9 _ rfl
  have HGW := Lib.hid (old_of hG hbw)
  have HBW := Lib.hid hbw; have HG := Lib.hid hG; have IH := Lib.hid ih
  clear hbw hb0 hb1 hG ih
  by_cases hk : ky = kyx
  case neg =>
    have K1 := Lib.hid (beq_false_of_ne hk)
    have k2 : (ky != kyx) = true := bne_iff_ne.2 hk
    go_enter Tryz.func23, Tryz.ntmps23
    go_wp2_with fail
    go_ret
    exact ⟨ret_bool (by rw [sameF_mk, K1.out]; rfl), HBW.out⟩
  have K1 := Lib.hid (beq_iff_eq.2 hk)
  have k2 : (ky != kyx) = false := by rw [bne, K1.out]; rfl
  clear hk
  cases m1 : (s.toList == sx.toList)
  · have M1 := Lib.hid m1
    go_enter Tryz.func23, Tryz.ntmps23
    go_wp2_with fail
    go_ret
    exact ⟨ret_bool (by rw [sameF_mk, K1.out, M1.out]; rfl), HBW.out⟩
  have M1 := Lib.hid m1
  by_cases hn : nt = ntx
  case neg =>
    have N1 := Lib.hid (beq_false_of_ne hn)
    have n2 : (nt != ntx) = true := bne_iff_ne.2 hn
    cases nt <;> cases ntx <;> first | exact absurd rfl hn | skip
    all_goals
      go_enter Tryz.func23, Tryz.ntmps23
      go_wp2_with fail
      go_ret
      exact ⟨ret_bool (by rw [sameF_mk, K1.out, M1.out]; rfl), HBW.out⟩
  have N1 := Lib.hid (beq_iff_eq.2 hn)
  by_cases hi : ni = nix
  case neg =>
    subst hn
    cases ni <;> cases nix <;> first | exact absurd rfl hi | skip
    all_goals
      go_enter Tryz.func23, Tryz.ntmps23
      go_wp2_with fail
      go_ret
      exact ⟨ret_bool (by rw [sameF_mk, K1.out, M1.out, N1.out]; rfl), HBW.out⟩
  have I1 := Lib.hid (beq_iff_eq.2 hi)
  subst hn hi
  have HX0 := Lib.hid (ints_p G _ _ ops opsx W HGW.out (HSO.out.onI HG.out HBW.out) (TSO.out.onI HG.out HBW.out))
  go_enter Tryz.func23, Tryz.ntmps23
  go_wp2_with fail
  refine HX0.out.mono ?_
  rintro e w1 ⟨he, hb⟩
  have HB1 := Lib.hid (HBW.out.trans (hb.mono HBW.out.size))
  have p1_5 := box_keep x5 hb; have r1_5 := box_keep y5 hb; have p1_6 := box_keep x6 hb; have r1_6 := box_keep y6 hb; have p1_7 := box_keep x7 hb; have r1_7 := box_keep y7 hb; have p1_8 := box_keep x8 hb; have r1_8 := box_keep y8 hb; have p1_9 := box_keep x9 hb; have r1_9 := box_keep y9 hb
  clear hb x0 y0 x1 y1 x2 y2 x3 y3 x4 y4 x5 y5 x6 y6 x7 y7 x8 y8 x9 y9 k2 m1
  cases q : all2 (fun x y : Int => x == y) ops opsx
  · rw [q] at he
    subst he
    have HQ0 := Lib.hid q; clear q
    go_wp2_with fail
    go_ret
    exact ⟨ret_bool (by rw [sameF_mk, K1.out, M1.out, N1.out, I1.out, HQ0.out]; rfl), HB1.out⟩
  rw [q] at he
  subst he
  have HQ0 := Lib.hid q; clear q
  have HX1 := Lib.hid (eqf_word f G 62 (wordS (Nd.same f)) _ _ asg asgx w1 (old_of HG.out HB1.out) (HSA.out.onW HG.out HB1.out) (TSA.out.onW HG.out HB1.out) enter_sameWord (fn_sameWord IH.out (old_of HG.out HB1.out)))
  go_wp2_with fail
  refine HX1.out.mono ?_
  rintro e w2 ⟨he, hb⟩
  have HB2 := Lib.hid (HB1.out.trans (hb.mono HB1.out.size))
  have p2_5 := box_keep p1_5 hb; have r2_5 := box_keep r1_5 hb; have p2_6 := box_keep p1_6 hb; have r2_6 := box_keep r1_6 hb; have p2_7 := box_keep p1_7 hb; have r2_7 := box_keep r1_7 hb; have p2_8 := box_keep p1_8 hb; have r2_8 := box_keep r1_8 hb; have p2_9 := box_keep p1_9 hb; have r2_9 := box_keep r1_9 hb
  clear hb p1_5 r1_5 p1_6 r1_6 p1_7 r1_7 p1_8 r1_8 p1_9 r1_9
  cases q : all2 (wordS (Nd.same f)) asg asgx
  · rw [q] at he
    subst he
    have HQ1 := Lib.hid q; clear q
    go_wp2_with fail
    go_ret
    exact ⟨ret_bool (by rw [sameF_mk, K1.out, M1.out, N1.out, I1.out, HQ0.out, HQ1.out]; rfl), HB2.out⟩
  rw [q] at he
  subst he
  have HQ1 := Lib.hid q; clear q
  have HX2 := Lib.hid (eqf_word f G 62 (wordS (Nd.same f)) _ _ wds wdsx w2 (old_of HG.out HB2.out) (HSW.out.onW HG.out HB2.out) (TSW.out.onW HG.out HB2.out) enter_sameWord (fn_sameWord IH.out (old_of HG.out HB2.out)))
  go_wp2_with fail
  refine HX2.out.mono ?_
  rintro e w3 ⟨he, hb⟩
  have HB3 := Lib.hid (HB2.out.trans (hb.mono HB2.out.size))
  have p3_5 := box_keep p2_5 hb; have r3_5 := box_keep r2_5 hb; have p3_6 := box_keep p2_6 hb; have r3_6 := box_keep r2_6 hb; have p3_7 := box_keep p2_7 hb; have r3_7 := box_keep r2_7 hb; have p3_8 := box_keep p2_8 hb; have r3_8 := box_keep r2_8 hb; have p3_9 := box_keep p2_9 hb; have r3_9 := box_keep r2_9 hb
  clear hb p2_5 r2_5 p2_6 r2_6 p2_7 r2_7 p2_8 r2_8 p2_9 r2_9
  cases q : all2 (wordS (Nd.same f)) wds wdsx
  · rw [q] at he
    subst he
    have HQ2 := Lib.hid q; clear q
    go_wp2_with fail
    go_ret
    exact ⟨ret_bool (by rw [sameF_mk, K1.out, M1.out, N1.out, I1.out, HQ0.out, HQ1.out, HQ2.out]; rfl), HB3.out⟩
  rw [q] at he
  subst he
  have HQ2 := Lib.hid q; clear q
  have HX3 := Lib.hid (eqf_redir f G 64 (redirS (Nd.same f)) _ _ rds rdsx w3 (old_of HG.out HB3.out) (HSR.out.onR HG.out HB3.out) (TSR.out.onR HG.out HB3.out) enter_sameRedir (fn_sameRedir IH.out (old_of HG.out HB3.out)))
  go_wp2_with fail
  refine HX3.out.mono ?_
  rintro e w4 ⟨he, hb⟩
  have HB4 := Lib.hid (HB3.out.trans (hb.mono HB3.out.size))
  have p4_5 := box_keep p3_5 hb; have r4_5 := box_keep r3_5 hb; have p4_6 := box_keep p3_6 hb; have r4_6 := box_keep r3_6 hb; have p4_7 := box_keep p3_7 hb; have r4_7 := box_keep r3_7 hb; have p4_8 := box_keep p3_8 hb; have r4_8 := box_keep r3_8 hb; have p4_9 := box_keep p3_9 hb; have r4_9 := box_keep r3_9 hb
  clear hb p3_5 r3_5 p3_6 r3_6 p3_7 r3_7 p3_8 r3_8 p3_9 r3_9
  cases q : all2 (redirS (Nd.same f)) rds rdsx
  · rw [q] at he
    subst he
    have HQ3 := Lib.hid q; clear q
    go_wp2_with fail
    go_ret
    exact ⟨ret_bool (by rw [sameF_mk, K1.out, M1.out, N1.out, I1.out, HQ0.out, HQ1.out, HQ2.out, HQ3.out]; rfl), HB4.out⟩
  rw [q] at he
  subst he
  have HQ3 := Lib.hid q; clear q
  have HX4 := Lib.hid (eqf_arm f G 66 (armS (Nd.same f)) _ _ ars arsx w4 (old_of HG.out HB4.out) (HSM.out.onA HG.out HB4.out) (TSM.out.onA HG.out HB4.out) enter_sameArm (fn_sameArm IH.out (old_of HG.out HB4.out)))
  go_wp2_with fail
  refine HX4.out.mono ?_
  rintro e w5 ⟨he, hb⟩
  have HB5 := Lib.hid (HB4.out.trans (hb.mono HB4.out.size))
  have p5_5 := box_keep p4_5 hb; have r5_5 := box_keep r4_5 hb; have p5_6 := box_keep p4_6 hb; have r5_6 := box_keep r4_6 hb; have p5_7 := box_keep p4_7 hb; have r5_7 := box_keep r4_7 hb; have p5_8 := box_keep p4_8 hb; have r5_8 := box_keep r4_8 hb; have p5_9 := box_keep p4_9 hb; have r5_9 := box_keep r4_9 hb
  clear hb p4_5 r4_5 p4_6 r4_6 p4_7 r4_7 p4_8 r4_8 p4_9 r4_9
  cases q : all2 (armS (Nd.same f)) ars arsx
  · rw [q] at he
    subst he
    have HQ4 := Lib.hid q; clear q
    go_wp2_with fail
    go_ret
    exact ⟨ret_bool (by rw [sameF_mk, K1.out, M1.out, N1.out, I1.out, HQ0.out, HQ1.out, HQ2.out, HQ3.out, HQ4.out]; rfl), HB5.out⟩
  rw [q] at he
  subst he
  have HQ4 := Lib.hid q; clear q
  have HX5 := Lib.hid (eqf_node f G 23 (Nd.same f) _ _ kds kdsx w5 (old_of HG.out HB5.out) (HSK.out.onN HG.out HB5.out) (TSK.out.onN HG.out HB5.out) enter_Same (fn_Same IH.out (old_of HG.out HB5.out)))
  go_wp2_with fail
  refine HX5.out.mono ?_
  rintro e w6 ⟨rfl, hb⟩
  have HB6 := Lib.hid (HB5.out.trans (hb.mono HB5.out.size))
  have p6_5 := box_keep p5_5 hb; have r6_5 := box_keep r5_5 hb; have p6_6 := box_keep p5_6 hb; have r6_6 := box_keep r5_6 hb; have p6_7 := box_keep p5_7 hb; have r6_7 := box_keep r5_7 hb; have p6_8 := box_keep p5_8 hb; have r6_8 := box_keep r5_8 hb; have p6_9 := box_keep p5_9 hb; have r6_9 := box_keep r5_9 hb
  clear hb p5_5 r5_5 p5_6 r5_6 p5_7 r5_7 p5_8 r5_8 p5_9 r5_9
  go_wp2_with fail
  go_ret
  exact ⟨ret_bool (by rw [sameF_mk, K1.out, M1.out, N1.out, I1.out, HQ0.out, HQ1.out, HQ2.out, HQ3.out, HQ4.out]; rfl), HB6.out⟩
theorem prog_same : ∀ f : Nat, PSm f
  | 0 => fun _ _ _ _ x => Empty.elim x
  | f + 1 => fun G w vs vs' x y hG hv hv' => same_step f (prog_same f) G w vs vs' x y hG hv hv'
end Go.Proofs.YtjpopekmbmcggaaGreatDoor
