/- Towards nodeSame_card: NdSameW. Merged from smaller texts by a program of the author's. -/
import Derived.Test.YtjpopekmbmcggaaGreatDoorSa21
import Derived.Test.YtjpopekmbmcggaaGreatDoorSa02
import Derived.Deep.RegionHeld3
namespace Go.Proofs.YtjpopekmbmcggaaGreatDoor
open Go.RowKit
set_option maxRecDepth 100000 in
set_option maxHeartbeats 8000000 in
theorem sameWord_p (f : Nat) (ih : PSm f) (G : Nat → Prop) (w : World) (vs vs' : List Value) (x y : WdF (Nd f)) (hG : ∀ k, G k → k < w.heap.size) (hv : WdN f G w vs x) (hv' : WdN f G w vs' y) :
    Calls Tryz.prog 62 #[ag vs, ag vs'] w fun e w' => e = .returned (.bool (wordS (Nd.same f) x y)) ∧ Below w.heap.size w w' := by
  obtain ⟨A, n, c, rfl⟩ := hv.shape
  obtain ⟨A', n', c', rfl⟩ := hv'.shape
  obtain ⟨rfl, hnc, hcm, hwt, hpt, -⟩ := hv.cmds
  obtain ⟨rfl, hnc', hcm', hwt', hpt', -⟩ := hv'.cmds
  show Calls Tryz.prog 62 #[.agg #[.slice A x.p.len c], .agg #[.slice A' y.p.len c']] w _
  have hbw : Below w.heap.size w ((w.alloc (.cells #[.slice A x.p.len c] 31)).alloc (.cells #[.slice A' y.p.len c'] 31)) := ((Below.refl _ _).alloc (Nat.le_refl _) _).alloc (by simp) _
  obtain ⟨b0, b1⟩ := two_blocks w (.cells #[.slice A x.p.len c] 31) (.cells #[.slice A' y.p.len c'] 31)
  generalize hW : ((w.alloc (.cells #[.slice A x.p.len c] 31)).alloc (.cells #[.slice A' y.p.len c'] 31)) = W at *
  have q0 := cell_one b0
  have q1 := cell_one b1
  have HV := Lib.hid (hv.below hG hbw); have HV' := Lib.hid (hv'.below hG hbw); have HG := Lib.hid (old_of hG hbw); have IH := Lib.hid ih; have HBW := Lib.hid hbw
  have HS := Lib.hid (show ∀ X, Below W.heap.size W X → X.cell? ⟨w.heap.size, 0, none⟩ = some (.slice A x.p.len c) ∧ X.cell? ⟨w.heap.size + 1, 0, none⟩ = some (.slice A' y.p.len c') from fun X hX => ⟨box_keep q0 hX, box_keep q1 hX⟩)
  have Fz := Lib.hid (show ∀ X, Below W.heap.size W X → Calls Tryz.prog 127 #[.agg #[.slice A x.p.len c], .agg #[.slice A' y.p.len c']] X fun e w' => e = .returned (.bool (x.p.same y.p)) ∧ Below W.heap.size W w' from fun X hX =>
    (psame_p x.p y.p A A' c c' G G X hwt hwt' (old_of HG.out hX) (old_of HG.out hX) (hpt.old hG (HBW.out.trans (hX.mono HBW.out.size))) (hpt'.old hG (HBW.out.trans (hX.mono HBW.out.size)))).mono fun _ _ ⟨h1, h2⟩ => ⟨h1, hX.trans (h2.mono hX.size)⟩)
  have FC := Lib.hid (show ∀ X, Below W.heap.size W X → Calls Tryz.prog 40 #[.agg #[.slice A x.p.len c]] X fun e w' => ∃ v, e = .returned v ∧ Crow X.heap.size w' v x.p.cmds ∧ Below W.heap.size W w' ∧ Below X.heap.size X w' from fun X hX =>
    (cmds_p x.p A c G X hwt (old_of HG.out hX) (hpt.old hG (HBW.out.trans (hX.mono HBW.out.size)))).mono fun _ _ ⟨v, h1, h2, h3⟩ => ⟨v, h1, h2, hX.trans (h3.mono hX.size), h3⟩)
  have FD := Lib.hid (show ∀ X, Below W.heap.size W X → Calls Tryz.prog 40 #[.agg #[.slice A' y.p.len c']] X fun e w' => ∃ v, e = .returned v ∧ Crow X.heap.size w' v y.p.cmds ∧ Below W.heap.size W w' ∧ Below X.heap.size X w' from fun X hX =>
    (cmds_p y.p A' c' G X hwt' (old_of HG.out hX) (hpt'.old hG (HBW.out.trans (hX.mono HBW.out.size)))).mono fun _ _ ⟨v, h1, h2, h3⟩ => ⟨v, h1, h2, hX.trans (h3.mono hX.size), h3⟩)
  have FE := Lib.hid (show ∀ X B B' va vb, Below W.heap.size W X → Crow B X va x.p.cmds → Crow B' X vb y.p.cmds → Calls Tryz.prog 128 #[va, vb, .func (.func 129) #[] #[]] X fun e w' => e = .returned (.bool (all2 (all2 (Nd.same f)) x.cmds y.cmds)) ∧ Below W.heap.size W w' from fun X B B' va vb hX h1 h2 =>
    (eqf_rows f IH.out G X B B' va vb x.p.cmds y.p.cmds x.cmds y.cmds (old_of HG.out hX) h1 h2 ((WdN.cmds (HV.out.below HG.out hX)).2.2.2.2.2) ((WdN.cmds (HV'.out.below HG.out hX)).2.2.2.2.2)).mono fun _ _ ⟨h3, h4⟩ => ⟨h3, hX.trans (h4.mono hX.size)⟩)
  have R0 := Lib.hid (show Below W.heap.size W W.drew from (Below.refl _ _).drew)
  clear hbw b0 b1 hv hv' hpt hpt' hG ih
  cases hsm : x.p.same y.p
  · have HSM := Lib.hid hsm
    rw [hsm] at Fz
    clear hsm
    go_enter Tryz.func62, Tryz.ntmps62
    go_wp2_with fail
    have g1 := fun X : Gr W => (Fz.out X.at_ X.2).mono (R' := fun e w' => e = .returned (.bool false) ∧ ∃ y : Gr W, w' = y.at_) fun _ w' ⟨h1, h2⟩ => ⟨h1, ⟨w', h2⟩, rfl⟩
    have y0 := fun X : Gr W => X.cell _ _ q0
    have y1 := fun X : Gr W => X.cell _ _ q1
    have hne : Nonempty (Gr W) := ⟨⟨_, Below.refl _ _⟩⟩
    refine wp_region_class (S := Gr W) Gr.at_ (by kernel_rfl) (by kernel_rfl) (Gr.drew _) ?_
    repeat (go_big_quiet_step (first | (with_reducible exact g1 _)))
    refine wpQuiet_nil ?_
    rintro X ⟨⟨X', hX⟩, hx⟩
    obtain rfl : X = X' := hx
    have bS := Lib.hid hX
    clear hX g1 y0 y1 hne
    go_wp2_with fail
    go_ret
    exact ⟨ret_bool (by rw [wordS, HSM.out]; rfl), HBW.out.trans (bS.out.mono HBW.out.size)⟩
  · have HSM := Lib.hid hsm
    rw [hsm] at Fz
    clear hsm
    go_enter Tryz.func62, Tryz.ntmps62
    go_wp2_with fail
    go_region_held3 (fun X => X.cell? ⟨w.heap.size, 0, none⟩ = some (.slice A x.p.len c) ∧ X.cell? ⟨w.heap.size + 1, 0, none⟩ = some (.slice A' y.p.len c'))
      (exact HS.out _ (by first | exact bE | exact bD | exact bC | exact bS | exact R0.out))
      (first
        | (go_at_call 127
           refine Calls.mono (Fz.out _ R0.out) ?_
           rintro e wS ⟨rfl, bS⟩
           dsimp only)
        | (go_at_call_of 40 (Value.agg #[.slice A x.p.len c])
           refine Calls.mono (FC.out _ bS) ?_
           rintro e wC ⟨vC, rfl, rC, bC, bC'⟩
           have RC := Lib.hid rC
           clear rC
           dsimp only)
        | (go_at_call_of 40 (Value.agg #[.slice A' y.p.len c'])
           refine Calls.mono (FD.out _ bC) ?_
           rintro e wD ⟨vD, rfl, rD, bD, bD'⟩
           have RD := Lib.hid rD
           have RC2 := Lib.hid (RC.out.below bD')
           clear rD
           dsimp only)
        | (go_at_call 128
           refine Calls.mono (FE.out _ _ _ _ _ bD RC2.out RD.out) ?_
           rintro e wE ⟨rfl, bE⟩
           dsimp only))
    all_goals
      go_wp2_with fail
      go_ret
      exact ⟨ret_bool (by rw [wordS, HSM.out]; rfl), HBW.out.trans (bE.mono HBW.out.size)⟩
end Go.Proofs.YtjpopekmbmcggaaGreatDoor
