/- Towards nodeTells_card: NdCount, NdCountR. Merged from smaller texts by a program of the author's. -/
import Derived.Test.YtjpopekmbmcggaaGreatDoorTa29
import Derived.Test.YtjpopekmbmcggaaGreatDoorTa02
import Derived.IntWalk
namespace Go.Proofs.YtjpopekmbmcggaaGreatDoor
open Go.RowKit
theorem Gr.box {w : World} {b : Nat} {xs : List Value} {T : TypeId} (h : w.heap[b]? = some (.cells xs.toArray T (0, 0))) (x : Gr w) : ∀ j u, xs[j]? = some u → x.at_.cell? ⟨b, j, none⟩ = some u :=
  fun j u hj => x.cell _ _ (by simp [World.cell?, h, hj])
theorem wrap_add (a b : Nat) (h : a + b ≤ 4294967296) : IntKind.i64.wrap ((a : Int) + (b : Int)) = ((a + b : Nat) : Int) := by
  rw [IntWalk.i64_in _ (by omega)]
  omega
set_option maxRecDepth 100000 in
set_option maxHeartbeats 4000000 in
theorem count1_p (f : Nat) (ih : PCt f) (G : Nat → Prop) (w : World) (vs : List Value) (x : RdF (Nd f)) (hG : ∀ k, G k → k < w.heap.size) (hv : RdN f G w vs x) (hbd : insideN (Nd.count f) x.to ≤ 1073741824) :
    Calls Tryz.prog 55 #[ag vs] w fun e w' => e = .returned (.int .i64 (insideN (Nd.count f) x.to : Nat)) ∧ Below w.heap.size w w' := by
  obtain ⟨num, op, tw, here⟩ := x
  obtain ⟨vt, rfl, _, _, hw⟩ := hv
  obtain ⟨A2, n2, c2, hvt⟩ := WdN.shape hw
  injection hvt with hvt
  subst hvt
  have hww : WdN f G w [.slice A2 n2 c2] tw := hw
  simp only at hbd hww ⊢
  show Calls Tryz.prog 55 #[.agg #[.string num, .int .i64 op, .slice A2 n2 c2, .string here]] w _
  have hbw : Below w.heap.size w (w.alloc (.cells #[.string num, .int .i64 op, .slice A2 n2 c2, .string here] 33)) := (Below.refl _ _).alloc (Nat.le_refl _) _
  have hbx := heap_alloc_t w (.cells #[.string num, .int .i64 op, .slice A2 n2 c2, .string here] 33)
  have HX := Lib.hid (inside_p f ih G _ _ tw (old_of hG hbw) (hww.below hG hbw) hbd)
  generalize hW : w.alloc (.cells #[.string num, .int .i64 op, .slice A2 n2 c2, .string here] 33) = W at *
  have x2 : W.cell? ⟨w.heap.size, 2, none⟩ = some (.slice A2 n2 c2) := by simp [World.cell?, hbx]
  have HBW := Lib.hid hbw
  clear hbw hbx hw hww hG ih
  go_enter Tryz.func55, Tryz.ntmps55
  go_wp2_with fail
  refine HX.out.mono ?_
  rintro e w1 ⟨rfl, hb⟩
  have HB := Lib.hid (HBW.out.trans (hb.mono HBW.out.size))
  clear hb
  go_wp2_with fail
  go_ret
  exact ⟨rfl, HB.out⟩
theorem enter_count1 : Enters 55 := fun args w => by simp [callFunc, go_sem, Tryz.func55, Tryz.f55]
def armN {α : Type} (C : α → Nat) (a : ArF α) : Nat := tot (insideN C) a.pats + C a.body
set_option maxRecDepth 100000 in
set_option maxHeartbeats 4000000 in
theorem count2_p (f : Nat) (ih : PCt f) (G : Nat → Prop) (w : World) (vs : List Value) (x : ArF (Nd f)) (hG : ∀ k, G k → k < w.heap.size) (hv : ArN f G w vs x) (hbd : armN (Nd.count f) x ≤ 1073741824) :
    Calls Tryz.prog 57 #[ag vs] w fun e w' => e = .returned (.int .i64 (armN (Nd.count f) x : Nat)) ∧ Below w.heap.size w w' := by
  obtain ⟨ps, bd⟩ := x
  obtain ⟨vp, bs', rfl, hbl, hps, hbd'⟩ := hv
  obtain ⟨A0, c0, rfl, hl0, hm0⟩ := SlAt.shape hps
  obtain ⟨ky, s, nt, ni, A4, n4, c4, A5, n5, c5, A6, n6, c6, A7, n7, c7, A8, n8, c8, A9, n9, c9, rfl⟩ := NdV.shape hbd'
  simp only at hl0 hps hbd'
  unfold armN at *
  simp only at hbd ⊢
  show Calls Tryz.prog 57 #[.agg #[.slice A0 ps.length c0, .int .i64 ky, .string s, .bool nt, .bool ni, .slice A4 n4 c4, .slice A5 n5 c5, .slice A6 n6 c6, .slice A7 n7 c7, .slice A8 n8 c8, .slice A9 n9 c9]] w _
  have hbw : Below w.heap.size w (w.alloc (.cells #[.slice A0 ps.length c0, .int .i64 ky, .string s, .bool nt, .bool ni, .slice A4 n4 c4, .slice A5 n5 c5, .slice A6 n6 c6, .slice A7 n7 c7, .slice A8 n8 c8, .slice A9 n9 c9] 54)) := (Below.refl _ _).alloc (Nat.le_refl _) _
  have hb0 := heap_alloc_t w (.cells #[.slice A0 ps.length c0, .int .i64 ky, .string s, .bool nt, .bool ni, .slice A4 n4 c4, .slice A5 n5 c5, .slice A6 n6 c6, .slice A7 n7 c7, .slice A8 n8 c8, .slice A9 n9 c9] 54)
  generalize hW : w.alloc (.cells #[.slice A0 ps.length c0, .int .i64 ky, .string s, .bool nt, .bool ni, .slice A4 n4 c4, .slice A5 n5 c5, .slice A6 n6 c6, .slice A7 n7 c7, .slice A8 n8 c8, .slice A9 n9 c9] 54) = W at *
  have HPS := Lib.hid (SlAt.onW hps hG hbw); have HBD := Lib.hid (hbd'.below hG hbw); have HGW := Lib.hid (old_of hG hbw); have HBW := Lib.hid hbw; have IH := Lib.hid ih
  have g1 := fun x : Gr W => x.calls (sum_word f G 53 #[] (insideN (Nd.count f)) _ ps x.at_ (old_of HGW.out x.2) (SlAt.onW HPS.out HGW.out x.2) enter_inside (ct_inside IH.out (old_of HGW.out x.2)) (by omega))
  have g2 := fun x : Gr W => x.calls (IH.out G x.at_ _ bd (old_of HGW.out x.2) (HBD.out.below HGW.out x.2) (by omega))
  have hs := wrap_add (tot (insideN (Nd.count f)) ps) (Nd.count f bd) (by omega)
  have x0 := fun x : Gr W => Gr.box hb0 x 0 _ rfl
  have x1 := fun x : Gr W => Gr.box hb0 x 1 _ rfl
  have x2 := fun x : Gr W => Gr.box hb0 x 2 _ rfl
  have x3 := fun x : Gr W => Gr.box hb0 x 3 _ rfl
  have x4 := fun x : Gr W => Gr.box hb0 x 4 _ rfl
  have x5 := fun x : Gr W => Gr.box hb0 x 5 _ rfl
  have x6 := fun x : Gr W => Gr.box hb0 x 6 _ rfl
  have x7 := fun x : Gr W => Gr.box hb0 x 7 _ rfl
  have x8 := fun x : Gr W => Gr.box hb0 x 8 _ rfl
  have x9 := fun x : Gr W => Gr.box hb0 x 9 _ rfl
  have x10 := fun x : Gr W => Gr.box hb0 x 10 _ rfl
  have hne : Nonempty (Gr W) := ⟨⟨_, Below.refl _ _⟩⟩
  clear hps hbd' hbw hb0 hG ih hbl
  generalize tot (insideN (Nd.count f)) ps = a at *
  generalize Nd.count f bd = b at *
  unfold ag at g2
  go_enter Tryz.func57, Tryz.ntmps57
  go_wp2_with fail
  refine wp_region_class (S := Gr W) Gr.at_ (by kernel_rfl) (by kernel_rfl) (Gr.drew _) ?_
  repeat (go_big_quiet_step (first | (with_reducible exact g1 _) | (with_reducible exact g2 _)))
  refine wpQuiet_nil ?_
  rintro X ⟨⟨X', hX⟩, hx⟩
  obtain rfl : X = X' := hx
  have HB := Lib.hid (HBW.out.trans (hX.mono HBW.out.size))
  clear hX g1 g2 x0 x1 x2 x3 x4 x5 x6 x7 x8 x9 x10 hne
  go_wp2_with fail
  go_ret
  exact ⟨rfl, HB.out⟩
theorem enter_count2 : Enters 57 := fun args w => by simp [callFunc, go_sem, Tryz.func57, Tryz.f57]
theorem enter_Count : Enters 19 := fun args w => by simp [callFunc, go_sem, Tryz.func19, Tryz.f19]
theorem countF_eq {α : Type} (C : α → Nat) (ky : Int) (s : ByteArray) (nt ni : Bool) (ops : List Int) (asg wds : List (WdF α)) (rds : List (RdF α)) (ars : List (ArF α)) (kds : List α) :
    countF C (NdF.mk ky s nt ni ops asg wds rds ars kds) = 1 + tot C kds + tot (insideN C) asg + tot (insideN C) wds + tot (fun r => insideN C r.to) rds + tot (armN C) ars := rfl
set_option maxRecDepth 100000 in
set_option maxHeartbeats 4000000 in
theorem count_step (f : Nat) (ih : PCt f) (G : Nat → Prop) (w : World) (vs : List Value) (x : NdF (Nd f)) (hG : ∀ k, G k → k < w.heap.size) (hv : NdV (f + 1) G w vs x) (hbd : countF (Nd.count f) x ≤ 1073741824) :
    Calls Tryz.prog 19 #[ag vs] w fun e w' => e = .returned (.int .i64 (countF (Nd.count f) x : Nat)) ∧ Below w.heap.size w w' := by
  have IH := Lib.hid ih
  obtain ⟨ky, s, nt, ni, ops, asg, wds, rds, ars, kds⟩ := x
  obtain ⟨A4, c4, A5, c5, A6, c6, A7, c7, A8, c8, A9, c9, rfl, hns, hal, hl4, hl5, hl6, hl7, hl8, hl9, hso, hsa, hsw, hsr, hsm, hsk⟩ := NdV.open hv
  have HSO := Lib.hid hso; have HSA := Lib.hid hsa; have HSW := Lib.hid hsw; have HSR := Lib.hid hsr; have HSM := Lib.hid hsm; have HSK := Lib.hid hsk
  clear hso hsa hsw hsr hsm hsk hv
  show Calls Tryz.prog 19 #[.agg #[.int .i64 ky, .string s, .bool nt, .bool ni, .slice A4 ops.length c4, .slice A5 asg.length c5, .slice A6 wds.length c6, .slice A7 rds.length c7, .slice A8 ars.length c8, .slice A9 kds.length c9]] w _
  have hbw : Below w.heap.size w (w.alloc (.cells #[.int .i64 ky, .string s, .bool nt, .bool ni, .slice A4 ops.length c4, .slice A5 asg.length c5, .slice A6 wds.length c6, .slice A7 rds.length c7, .slice A8 ars.length c8, .slice A9 kds.length c9] 28)) := (Below.refl _ _).alloc (Nat.le_refl _) _
  have hb0 := heap_alloc_t w (.cells #[.int .i64 ky, .string s, .bool nt, .bool ni, .slice A4 ops.length c4, .slice A5 asg.length c5, .slice A6 wds.length c6, .slice A7 rds.length c7, .slice A8 ars.length c8, .slice A9 kds.length c9] 28)
  have hbb := heap_alloc_t w (.cells #[.int .i64 ky, .string s, .bool nt, .bool ni, .slice A4 ops.length c4, .slice A5 asg.length c5, .slice A6 wds.length c6, .slice A7 rds.length c7, .slice A8 ars.length c8, .slice A9 kds.length c9] 28)
  generalize hW : w.alloc (.cells #[.int .i64 ky, .string s, .bool nt, .bool ni, .slice A4 ops.length c4, .slice A5 asg.length c5, .slice A6 wds.length c6, .slice A7 rds.length c7, .slice A8 ars.length c8, .slice A9 kds.length c9] 28) = W at *
  have x0 : W.cell? ⟨w.heap.size, 0, none⟩ = some (.int .i64 ky) := by simp [World.cell?, hb0]
  have x1 : W.cell? ⟨w.heap.size, 1, none⟩ = some (.string s) := by simp [World.cell?, hb0]
  have x2 : W.cell? ⟨w.heap.size, 2, none⟩ = some (.bool nt) := by simp [World.cell?, hb0]
  have x3 : W.cell? ⟨w.heap.size, 3, none⟩ = some (.bool ni) := by simp [World.cell?, hb0]
  have x4 : W.cell? ⟨w.heap.size, 4, none⟩ = some (.slice A4 ops.length c4) := by simp [World.cell?, hb0]
  have x5 : W.cell? ⟨w.heap.size, 5, none⟩ = some (.slice A5 asg.length c5) := by simp [World.cell?, hb0]
  have x6 : W.cell? ⟨w.heap.size, 6, none⟩ = some (.slice A6 wds.length c6) := by simp [World.cell?, hb0]
  have x7 : W.cell? ⟨w.heap.size, 7, none⟩ = some (.slice A7 rds.length c7) := by simp [World.cell?, hb0]
  have x8 : W.cell? ⟨w.heap.size, 8, none⟩ = some (.slice A8 ars.length c8) := by simp [World.cell?, hb0]
  have x9 : W.cell? ⟨w.heap.size, 9, none⟩ = some (.slice A9 kds.length c9) := by simp [World.cell?, hb0]
  have HGW := Lib.hid (old_of hG hbw)
  have HBW := Lib.hid hbw; have HG := Lib.hid hG
  clear hbw hb0 hG ih
  rw [countF_eq] at hbd ⊢
  have g1 := fun x : Gr W => x.calls (sum_node f G 19 #[] (Nd.count f) _ kds x.at_ (old_of HGW.out x.2) (SlAt.onN (HSK.out.onN HG.out HBW.out) HGW.out x.2) enter_Count (fun X hX vs y hy hb => by rw [Array.append_empty]; exact IH.out G X vs y (old_of (old_of HGW.out x.2) hX) hy hb) (by omega))
  have g2 := fun x : Gr W => x.calls (sum_word f G 53 #[] (insideN (Nd.count f)) _ asg x.at_ (old_of HGW.out x.2) (SlAt.onW (HSA.out.onW HG.out HBW.out) HGW.out x.2) enter_inside (ct_inside IH.out (old_of HGW.out x.2)) (by omega))
  have g3 := fun x : Gr W => x.calls (sum_word f G 53 #[] (insideN (Nd.count f)) _ wds x.at_ (old_of HGW.out x.2) (SlAt.onW (HSW.out.onW HG.out HBW.out) HGW.out x.2) enter_inside (ct_inside IH.out (old_of HGW.out x.2)) (by omega))
  have g4 := fun x : Gr W => x.calls (sum_redir f G 55 #[] (fun r => insideN (Nd.count f) r.to) _ rds x.at_ (old_of HGW.out x.2) (SlAt.onR (HSR.out.onR HG.out HBW.out) HGW.out x.2) enter_count1 (fun X hX vs y hy hb => by rw [Array.append_empty]; exact count1_p f IH.out G X vs y (old_of (old_of HGW.out x.2) hX) hy hb) (by omega))
  have g5 := fun x : Gr W => x.calls (sum_arm f G 57 #[] (armN (Nd.count f)) _ ars x.at_ (old_of HGW.out x.2) (SlAt.onA (HSM.out.onA HG.out HBW.out) HGW.out x.2) enter_count2 (fun X hX vs y hy hb => by rw [Array.append_empty]; exact count2_p f IH.out G X vs y (old_of (old_of HGW.out x.2) hX) hy hb) (by omega))
  have y0 := fun x : Gr W => Gr.box hbb x 0 _ rfl
  have y1 := fun x : Gr W => Gr.box hbb x 1 _ rfl
  have y2 := fun x : Gr W => Gr.box hbb x 2 _ rfl
  have y3 := fun x : Gr W => Gr.box hbb x 3 _ rfl
  have y4 := fun x : Gr W => Gr.box hbb x 4 _ rfl
  have y5 := fun x : Gr W => Gr.box hbb x 5 _ rfl
  have y6 := fun x : Gr W => Gr.box hbb x 6 _ rfl
  have y7 := fun x : Gr W => Gr.box hbb x 7 _ rfl
  have y8 := fun x : Gr W => Gr.box hbb x 8 _ rfl
  have y9 := fun x : Gr W => Gr.box hbb x 9 _ rfl
  have hne : Nonempty (Gr W) := ⟨⟨_, Below.refl _ _⟩⟩
  clear hbb
  generalize tot (Nd.count f) kds = a1 at *
  generalize tot (insideN (Nd.count f)) asg = a2 at *
  generalize tot (insideN (Nd.count f)) wds = a3 at *
  generalize tot (fun r => insideN (Nd.count f) r.to) rds = a4 at *
  generalize tot (armN (Nd.count f)) ars = a5 at *
  have s1 : IntKind.i64.wrap ((1 : Int) + (a1 : Int)) = 1 + (a1 : Int) := IntWalk.i64_in _ (by omega)
  have s2 : IntKind.i64.wrap ((1 : Int) + (a1 : Int) + (a2 : Int)) = 1 + (a1 : Int) + (a2 : Int) := IntWalk.i64_in _ (by omega)
  have s3 : IntKind.i64.wrap ((1 : Int) + (a1 : Int) + (a2 : Int) + (a3 : Int)) = 1 + (a1 : Int) + (a2 : Int) + (a3 : Int) := IntWalk.i64_in _ (by omega)
  have s4 : IntKind.i64.wrap ((1 : Int) + (a1 : Int) + (a2 : Int) + (a3 : Int) + (a4 : Int)) = 1 + (a1 : Int) + (a2 : Int) + (a3 : Int) + (a4 : Int) := IntWalk.i64_in _ (by omega)
  have s5 : IntKind.i64.wrap ((1 : Int) + (a1 : Int) + (a2 : Int) + (a3 : Int) + (a4 : Int) + (a5 : Int)) = 1 + (a1 : Int) + (a2 : Int) + (a3 : Int) + (a4 : Int) + (a5 : Int) := IntWalk.i64_in _ (by omega)
  have HT := Lib.hid hbd
  clear hbd
  clear x0; clear x1; clear x2; clear x3; clear x4; clear x5; clear x6; clear x7; clear x8; clear x9
  go_enter Tryz.func19, Tryz.ntmps19
  go_wp2_with fail
  refine wp_region_class (S := Gr W) Gr.at_ (by kernel_rfl) (by kernel_rfl) (Gr.drew _) ?_
  repeat (go_big_quiet_step (first | (with_reducible exact g1 _) | (with_reducible exact g2 _) | (with_reducible exact g3 _) | (with_reducible exact g4 _) | (with_reducible exact g5 _)))
  refine wpQuiet_nil ?_
  rintro X ⟨⟨X', hX⟩, hx⟩
  obtain rfl : X = X' := hx
  have HB := Lib.hid (HBW.out.trans (hX.mono HBW.out.size))
  clear hX g1 g2 g3 g4 g5 y0 y1 y2 y3 y4 y5 y6 y7 y8 y9 hne
  go_wp2_with fail
  go_ret
  exact ⟨ret_int (by omega), HB.out⟩
theorem prog_count : ∀ f : Nat, PCt f
  | 0 => fun _ _ _ x => Empty.elim x
  | f + 1 => fun G w vs x hG hv hb => count_step f (prog_count f) G w vs x hG hv hb
end Go.Proofs.YtjpopekmbmcggaaGreatDoor
namespace Go.Proofs.YtjpopekmbmcggaaGreatDoor
open Go.RowKit
set_option maxRecDepth 100000 in
set_option maxHeartbeats 4000000 in
theorem rcount_step (f : Nat) (ih : RCt f) (G : Nat → Prop) (w : World) (vs : List Value) (x : NdF (Nd f)) (hG : ∀ k, G k → k < w.heap.size) (hv : NdV (f + 1) G w vs x) (hbd : countF (Nd.count f) x ≤ 1073741824) :
    Calls Tryz.prog 20 #[ag vs] w fun e w' => e = .returned (.int .i64 (countF (Nd.count f) x : Nat)) ∧ Below w.heap.size w w' := by
  have IH := Lib.hid ih
  obtain ⟨ky, s, nt, ni, ops, asg, wds, rds, ars, kds⟩ := x
  obtain ⟨A4, c4, A5, c5, A6, c6, A7, c7, A8, c8, A9, c9, rfl, hns, hal, hl4, hl5, hl6, hl7, hl8, hl9, hso, hsa, hsw, hsr, hsm, hsk⟩ := NdV.open hv
  have HSO := Lib.hid hso; have HSA := Lib.hid hsa; have HSW := Lib.hid hsw; have HSR := Lib.hid hsr; have HSM := Lib.hid hsm; have HSK := Lib.hid hsk
  clear hso hsa hsw hsr hsm hsk hv
  show Calls Tryz.prog 20 #[.agg #[.int .i64 ky, .string s, .bool nt, .bool ni, .slice A4 ops.length c4, .slice A5 asg.length c5, .slice A6 wds.length c6, .slice A7 rds.length c7, .slice A8 ars.length c8, .slice A9 kds.length c9]] w _
  have hbw : Below w.heap.size w (w.alloc (.cells #[.int .i64 ky, .string s, .bool nt, .bool ni, .slice A4 ops.length c4, .slice A5 asg.length c5, .slice A6 wds.length c6, .slice A7 rds.length c7, .slice A8 ars.length c8, .slice A9 kds.length c9] 28)) := (Below.refl _ _).alloc (Nat.le_refl _) _
  have hb0 := heap_alloc_t w (.cells #[.int .i64 ky, .string s, .bool nt, .bool ni, .slice A4 ops.length c4, .slice A5 asg.length c5, .slice A6 wds.length c6, .slice A7 rds.length c7, .slice A8 ars.length c8, .slice A9 kds.length c9] 28)
  have hbb := heap_alloc_t w (.cells #[.int .i64 ky, .string s, .bool nt, .bool ni, .slice A4 ops.length c4, .slice A5 asg.length c5, .slice A6 wds.length c6, .slice A7 rds.length c7, .slice A8 ars.length c8, .slice A9 kds.length c9] 28)
  generalize hW : w.alloc (.cells #[.int .i64 ky, .string s, .bool nt, .bool ni, .slice A4 ops.length c4, .slice A5 asg.length c5, .slice A6 wds.length c6, .slice A7 rds.length c7, .slice A8 ars.length c8, .slice A9 kds.length c9] 28) = W at *
  have x0 : W.cell? ⟨w.heap.size, 0, none⟩ = some (.int .i64 ky) := by simp [World.cell?, hb0]
  have x1 : W.cell? ⟨w.heap.size, 1, none⟩ = some (.string s) := by simp [World.cell?, hb0]
  have x2 : W.cell? ⟨w.heap.size, 2, none⟩ = some (.bool nt) := by simp [World.cell?, hb0]
  have x3 : W.cell? ⟨w.heap.size, 3, none⟩ = some (.bool ni) := by simp [World.cell?, hb0]
  have x4 : W.cell? ⟨w.heap.size, 4, none⟩ = some (.slice A4 ops.length c4) := by simp [World.cell?, hb0]
  have x5 : W.cell? ⟨w.heap.size, 5, none⟩ = some (.slice A5 asg.length c5) := by simp [World.cell?, hb0]
  have x6 : W.cell? ⟨w.heap.size, 6, none⟩ = some (.slice A6 wds.length c6) := by simp [World.cell?, hb0]
  have x7 : W.cell? ⟨w.heap.size, 7, none⟩ = some (.slice A7 rds.length c7) := by simp [World.cell?, hb0]
  have x8 : W.cell? ⟨w.heap.size, 8, none⟩ = some (.slice A8 ars.length c8) := by simp [World.cell?, hb0]
  have x9 : W.cell? ⟨w.heap.size, 9, none⟩ = some (.slice A9 kds.length c9) := by simp [World.cell?, hb0]
  have HGW := Lib.hid (old_of hG hbw)
  have HBW := Lib.hid hbw; have HG := Lib.hid hG
  clear hbw hb0 hG ih
  rw [countF_eq] at hbd ⊢
  have g1 := fun x : Gr W => x.calls (countAll_r f IH.out G _ kds x.at_ (old_of HGW.out x.2) (SlAt.onN (HSK.out.onN HG.out HBW.out) HGW.out x.2) (by omega))
  have g2 := fun x : Gr W => x.calls (countWords_r f IH.out G _ asg x.at_ (old_of HGW.out x.2) (SlAt.onW (HSA.out.onW HG.out HBW.out) HGW.out x.2) (by omega))
  have g3 := fun x : Gr W => x.calls (countWords_r f IH.out G _ wds x.at_ (old_of HGW.out x.2) (SlAt.onW (HSW.out.onW HG.out HBW.out) HGW.out x.2) (by omega))
  have y5 := fun x : Gr W => Gr.box hbb x 5 _ rfl; have y6 := fun x : Gr W => Gr.box hbb x 6 _ rfl; have y9 := fun x : Gr W => Gr.box hbb x 9 _ rfl
  have hne : Nonempty (Gr W) := ⟨⟨_, Below.refl _ _⟩⟩
  have HBX := Lib.hid (box_at hbb)
  clear hbb
  generalize tot (Nd.count f) kds = a1 at *
  generalize tot (insideN (Nd.count f)) asg = a2 at *
  generalize tot (insideN (Nd.count f)) wds = a3 at *
  have s1 : IntKind.i64.wrap ((1 : Int) + (a1 : Int)) = 1 + (a1 : Int) := IntWalk.i64_in _ (by omega)
  have s2 : IntKind.i64.wrap ((1 : Int) + (a1 : Int) + (a2 : Int)) = 1 + (a1 : Int) + (a2 : Int) := IntWalk.i64_in _ (by omega)
  have s3 : IntKind.i64.wrap ((1 : Int) + (a1 : Int) + (a2 : Int) + (a3 : Int)) = 1 + (a1 : Int) + (a2 : Int) + (a3 : Int) := IntWalk.i64_in _ (by omega)
  clear x0; clear x1; clear x2; clear x3; clear x4; clear x5; clear x6; clear x7; clear x8; clear x9
  go_enter Tryz.func20, Tryz.ntmps20
  go_wp2_with fail
  refine wp_region_class (S := Gr W) Gr.at_ (by kernel_rfl) (by kernel_rfl) (Gr.drew _) ?_
  repeat (go_big_quiet_step (first | (with_reducible exact g1 _) | (with_reducible exact g2 _) | (with_reducible exact g3 _)))
  refine wpQuiet_nil ?_
  rintro X ⟨⟨X', hX⟩, hx⟩
  obtain rfl : X = X' := hx
  have HX1 := Lib.hid hX
  have hs4 : (1 : Int) + (a1 : Int) + (a2 : Int) + (a3 : Int) = ((1 + a1 + a2 + a3 : Nat) : Int) := by omega
  clear hX g1 g2 g3 y5 y6 y9 hne s1 s2 s3
  rw [hs4]
  clear hs4
  obtain ⟨n0, hn0⟩ : ∃ n0, n0 = 1 + a1 + a2 + a3 := ⟨_, rfl⟩
  rw [← hn0] at hbd ⊢
  have HN0 := Lib.hid hn0
  clear hn0
  go_wp2_with fail
  go_loopw [3, 4] (fun n i wr => ∃ (k a : Nat), k ≤ rds.length ∧ i = .int .i64 k ∧ n = .int .i64 a ∧ a + tot (fun r => insideN (Nd.count f) r.to) (rds.drop k) = n0 + tot (fun r => insideN (Nd.count f) r.to) rds ∧ Below W.heap.size W wr) (fun _ i _ => rds.length - (intOf i).toNat)
  case atStart => exact ⟨0, n0, by omega, rfl, rfl, by rw [List.drop_zero], HX1.out⟩
  case round =>
    obtain ⟨k, a, hk, rfl, rfl, hf, hb⟩ := hrel
    have HB := Lib.hid hb
    have y7 := HBX.out wr hb 7 _ rfl
    by_cases hlt : k < rds.length
    · obtain ⟨A, c, hA, _, _, hel⟩ := HSR.out.onR HG.out HBW.out
      injection hA with hA1 _ hA2
      subst hA1 hA2
      obtain ⟨b, off, rfl, hg, hel⟩ := hel (by omega)
      obtain ⟨vs, hvl, hR, hcell⟩ := hel k hlt
      have hR' := hR.below HGW.out hb
      have hD := tot_drop (fun r : RdF (Nd f) => insideN (Nd.count f) r.to) rds k hlt
      have z := fun j u hj => (keep_of HGW.out hb _ hg).trans (hcell j u hj)
      generalize rds[k] = rd at *
      obtain ⟨num, op, tw, here⟩ := rd
      try simp only at hD
      obtain ⟨vt, rfl, _, _, hw⟩ := hR'
      obtain ⟨A2, n2, c2, hvt⟩ := WdN.shape hw
      injection hvt with hvt
      subst hvt
      have d2 : wr.cell? ⟨b, off + k * 4 + 2, none⟩ = some (.slice A2 n2 c2) := by simpa using z 2 _ rfl
      have hbr := (Below.refl wr.heap.size wr).alloc (Nat.le_refl _) (.cells #[.slice A2 n2 c2] 31)
      have hby := cell_one (heap_alloc_t wr (.cells #[.slice A2 n2 c2] 31))
      have hGr := old_of HGW.out hb
      have hlt2 : wr.heap.size < (wr.alloc (.cells #[.slice A2 n2 c2] 31)).heap.size := by simp
      have hw2 : WdV G wr (NdV f G wr) [.slice A2 n2 c2] tw := hw
      have hs1 : SlAt (fun j => G j ∨ j = wr.heap.size) (wr.alloc (.cells #[.slice A2 n2 c2] 31)) 1 (WdN f (fun j => G j ∨ j = wr.heap.size) (wr.alloc (.cells #[.slice A2 n2 c2] 31))) (.slice (some ⟨wr.heap.size, 0, none⟩) 1 1) [tw] :=
        ⟨_, 1, rfl, by simp, by decide, fun _ => ⟨wr.heap.size, 0, rfl, .inr rfl, fun i hi => ⟨[.slice A2 n2 c2], rfl, by
          obtain rfl : i = 0 := by simp at hi; omega
          exact WdV.keep (fun _ h => .inl h) (keep_of hGr hbr) (fun _ _ h => NdV.keep (fun _ h => .inl h) (keep_of hGr hbr) h) hw2, fun j u hj => by
          obtain rfl : i = 0 := by simp at hi; omega
          cases j with
          | zero =>
            have h : u = .slice A2 n2 c2 := by simpa using hj.symm
            rw [h]
            exact hby
          | succ j => simp at hj⟩⟩⟩
      have HX := Lib.hid (countWords_r f IH.out (fun j => G j ∨ j = wr.heap.size) _ [tw] _ (fun j hj => by rcases hj with h | h; exact Nat.lt_of_lt_of_le (hGr j h) hbr.size; rw [h]; exact hlt2) hs1 (by
        simp only [tot, Nat.add_zero]
        omega))
      simp only [tot, Nat.add_zero] at HX
      have HS := Lib.hid (show a + insideN (Nd.count f) tw + tot (fun r => insideN (Nd.count f) r.to) (rds.drop (k + 1)) = n0 + tot (fun r => insideN (Nd.count f) r.to) rds by omega)
      have h1 : a + insideN (Nd.count f) tw ≤ 1073741824 := by omega
      have HBR := Lib.hid (hb.trans (hbr.mono hb.size))
      clear z hel hcell hvl hR hg hw hw2 hs1 hbr hby hGr hf hD hb
      generalize insideN (Nd.count f) tw = cx at *
      go_wp2_with fail
      refine HX.out.mono ?_
      rintro e w1 ⟨rfl, hb1⟩
      have HB1 := Lib.hid (HBR.out.trans (hb1.mono HBR.out.size))
      clear hb1 y7 d2
      go_wp2_with fail
      go_roundw
      case rel => exact ⟨k + 1, a + cx, by omega, by go_num, by go_num, HS.out, HB1.out⟩
      case measure => simp only [intOf]; omega
    · have hE : a = n0 + tot (fun r => insideN (Nd.count f) r.to) rds := by rw [tot_end _ _ _ (by omega)] at hf; omega
      have HE := Lib.hid hE
      have hb2 : a + tot (armN (Nd.count f)) ars ≤ 1073741824 := by omega
      clear hf hb hE hbd
      obtain ⟨wo, rfl⟩ : ∃ wo : World, wo = wr := ⟨_, rfl⟩
      go_wp2_with fail
      go_loopw [3, 5] (fun n i wr => ∃ (k a2 : Nat), k ≤ ars.length ∧ i = .int .i64 k ∧ n = .int .i64 a2 ∧ a2 + tot (armN (Nd.count f)) (ars.drop k) = a + tot (armN (Nd.count f)) ars ∧ Below W.heap.size W wr) (fun _ i _ => ars.length - (intOf i).toNat)
      case atStart => exact ⟨0, a, by omega, rfl, rfl, by rw [List.drop_zero], HB.out⟩
      case round =>
        obtain ⟨k, a2, hk, rfl, rfl, hf, hb⟩ := hrel
        have HB2 := Lib.hid hb
        have y8' := HBX.out wr hb 8 _ rfl
        clear y7
        by_cases hlt : k < ars.length
        · obtain ⟨A, c, hA, _, _, hel⟩ := HSM.out.onA HG.out HBW.out
          injection hA with hA1 _ hA2
          subst hA1 hA2
          obtain ⟨b, off, rfl, hg, hel⟩ := hel (by omega)
          obtain ⟨vs, hvl, hR, hcell⟩ := hel k hlt
          have hR' := hR.below HGW.out hb
          have hD := tot_drop (armN (Nd.count f)) ars k hlt
          have z := fun j u hj => (keep_of HGW.out hb _ hg).trans (hcell j u hj)
          generalize ars[k] = ar at *
          obtain ⟨ps, bd⟩ := ar
          obtain ⟨vp, bs', rfl, hbl, hps, hbd'⟩ := hR'
          obtain ⟨A0, c0, rfl, hl0, hm0⟩ := SlAt.shape hps
          obtain ⟨kx, sx, ntx, nix, B4, m4, e4, B5, m5, e5, B6, m6, e6, B7, m7, e7, B8, m8, e8, B9, m9, e9, rfl⟩ := NdV.shape hbd'
          simp only at hl0 hps hbd'
          unfold armN at hD
          simp only at hD
          have d0 := fun y : Gr wr => y.cell ⟨b, off + k * 11, none⟩ (.slice A0 ps.length c0) (by simpa using z 0 _ rfl)
          have d1 := fun y : Gr wr => y.cell ⟨b, off + k * 11 + 1, none⟩ (.int .i64 kx) (by simpa using z 1 _ rfl)
          have d2 := fun y : Gr wr => y.cell ⟨b, off + k * 11 + 2, none⟩ (.string sx) (by simpa using z 2 _ rfl)
          have d3 := fun y : Gr wr => y.cell ⟨b, off + k * 11 + 3, none⟩ (.bool ntx) (by simpa using z 3 _ rfl)
          have d4 := fun y : Gr wr => y.cell ⟨b, off + k * 11 + 4, none⟩ (.bool nix) (by simpa using z 4 _ rfl)
          have d5 := fun y : Gr wr => y.cell ⟨b, off + k * 11 + 5, none⟩ (.slice B4 m4 e4) (by simpa using z 5 _ rfl)
          have d6 := fun y : Gr wr => y.cell ⟨b, off + k * 11 + 6, none⟩ (.slice B5 m5 e5) (by simpa using z 6 _ rfl)
          have d7 := fun y : Gr wr => y.cell ⟨b, off + k * 11 + 7, none⟩ (.slice B6 m6 e6) (by simpa using z 7 _ rfl)
          have d8 := fun y : Gr wr => y.cell ⟨b, off + k * 11 + 8, none⟩ (.slice B7 m7 e7) (by simpa using z 8 _ rfl)
          have d9 := fun y : Gr wr => y.cell ⟨b, off + k * 11 + 9, none⟩ (.slice B8 m8 e8) (by simpa using z 9 _ rfl)
          have d10 := fun y : Gr wr => y.cell ⟨b, off + k * 11 + 10, none⟩ (.slice B9 m9 e9) (by simpa using z 10 _ rfl)
          have hGr := old_of HGW.out hb
          have y8 := fun y : Gr wr => y.cell ⟨w.heap.size, 8, none⟩ _ y8'
          have HPS := Lib.hid hps; have HBD := Lib.hid hbd'; have HGR := Lib.hid hGr
          have g1 := fun y : Gr wr => y.calls (countWords_r f IH.out G _ ps y.at_ (old_of HGR.out y.2) (SlAt.onW HPS.out HGR.out y.2) (by unfold armN at *; omega))
          have g2 := fun y : Gr wr => y.calls (IH.out G y.at_ _ bd (old_of HGR.out y.2) (HBD.out.below HGR.out y.2) (by unfold armN at *; omega))
          have HS := Lib.hid (show a2 + (tot (insideN (Nd.count f)) ps + Nd.count f bd) + tot (armN (Nd.count f)) (ars.drop (k + 1)) = a + tot (armN (Nd.count f)) ars by unfold armN at *; omega)
          have h1 : a2 + (tot (insideN (Nd.count f)) ps + Nd.count f bd) ≤ 1073741824 := by unfold armN at *; omega
          have hne : Nonempty (Gr wr) := ⟨⟨_, Below.refl _ _⟩⟩
          clear z hel hcell hvl hR hg hps hbd' hGr hf hD hb hbl y8'
          unfold ag at g2
          generalize tot (insideN (Nd.count f)) ps = b1 at *
          generalize Nd.count f bd = b2 at *
          have s1 : IntKind.i64.wrap ((a2 : Int) + (b1 : Int)) = (a2 : Int) + (b1 : Int) := IntWalk.i64_in _ (by omega)
          have s2 : IntKind.i64.wrap ((a2 : Int) + (b1 : Int) + (b2 : Int)) = (a2 : Int) + (b1 : Int) + (b2 : Int) := IntWalk.i64_in _ (by omega)
          have y8w := y8 ⟨wr, Below.refl _ _⟩
          have y8w' : wr.cell? ⟨w.heap.size, 8, none⟩ = some (.slice (some ⟨b, off, none⟩) ars.length c8) := y8w
          clear y8w
          go_wp2_with fail
          refine wp_region_class (S := Gr wr) Gr.at_ (by kernel_rfl) (by kernel_rfl) (Gr.drew _) ?_
          repeat (go_big_quiet_step (first | (with_reducible exact g1 _) | (with_reducible exact g2 _)))
          refine wpQuiet_nil ?_
          rintro X ⟨⟨X', hX⟩, hx⟩
          obtain rfl : X = X' := hx
          have HB3 := Lib.hid (HB2.out.trans (hX.mono HB2.out.size))
          clear hX g1 g2 d0 d1 d2 d3 d4 d5 d6 d7 d8 d9 d10 y8 hne s1 s2 y8w'
          go_wp2_with fail
          go_roundw
          case rel => exact ⟨k + 1, a2 + (b1 + b2), by omega, by go_num, by congr 1; omega, HS.out, HB3.out⟩
          case measure => simp only [intOf]; omega
        · have HE2 := Lib.hid (show a2 = a + tot (armN (Nd.count f)) ars by rw [tot_end _ _ _ (by omega)] at hf; omega)
          clear hf hb
          go_wp2_with fail
          go_ret
          exact ⟨ret_int (by rw [HE2.out, HE.out, HN0.out]), HBW.out.trans (HB2.out.mono HBW.out.size)⟩
theorem ref_count : ∀ f : Nat, RCt f
  | 0 => fun _ _ _ x => Empty.elim x
  | f + 1 => fun G w vs x hG hv hb => rcount_step f (ref_count f) G w vs x hG hv hb
end Go.Proofs.YtjpopekmbmcggaaGreatDoor
