/- Towards nodeJoins_card: NdCount. Merged from smaller texts by a program of the author's. -/
import Derived.Test.YtjpopekmbmcggaaGreatDoorJ21
import Derived.Test.YtjpopekmbmcggaaGreatDoorJ02
import Derived.IntWalk
namespace Go.Proofs.YtjpopekmbmcggaaGreatDoor
open Go.RowKit
theorem Gr.box {w : World} {b : Nat} {xs : List Value} {T : TypeId} (h : w.heap[b]? = some (.cells xs.toArray T (0, 0))) (x : Gr w) : ∀ j u, xs[j]? = some u → x.at_.cell? ⟨b, j, none⟩ = some u :=
  fun j u hj => x.cell _ _ (by simp [World.cell?, h, hj])
theorem wrap_add (a b : Nat) (h : a + b ≤ 4294967296) : IntKind.i64.wrap ((a : Int) + (b : Int)) = ((a + b : Nat) : Int) := by
  rw [IntWalk.i64_in _ (by omega)]
  omega
set_option maxRecDepth 100000 in
set_option maxHeartbeats 4000000 in
theorem count1_p (f : Nat) (ih : PCt f) (G : Nat → Prop) (w : World) (vs : List Value) (x : RdF (Nd f)) (hG : ∀ k, G k → k < w.heap.size) (hv : RdN f G w vs x) (hbd : insideN (Nd.count f) x.to ≤ 1073741824) :
    Calls Tryz.prog 55 #[ag vs] w fun e w' => e = .returned (.int .i64 (insideN (Nd.count f) x.to : Nat)) ∧ Below w.heap.size w w' := by
  obtain ⟨num, op, tw, here⟩ := x
  obtain ⟨vt, rfl, _, _, hw⟩ := hv
  obtain ⟨A2, n2, c2, hvt⟩ := WdN.shape hw
  injection hvt with hvt
  subst hvt
  have hww : WdN f G w [.slice A2 n2 c2] tw := hw
  simp only at hbd hww ⊢
  show Calls Tryz.prog 55 #[.agg #[.string num, .int .i64 op, .slice A2 n2 c2, .string here]] w _
  have hbw : Below w.heap.size w (w.alloc (.cells #[.string num, .int .i64 op, .slice A2 n2 c2, .string here] 33)) := (Below.refl _ _).alloc (Nat.le_refl _) _
  have hbx := heap_alloc_t w (.cells #[.string num, .int .i64 op, .slice A2 n2 c2, .string here] 33)
  have HX := Lib.hid (inside_p f ih G _ _ tw (old_of hG hbw) (hww.below hG hbw) hbd)
  generalize hW : w.alloc (.cells #[.string num, .int .i64 op, .slice A2 n2 c2, .string here] 33) = W at *
  have x2 : W.cell? ⟨w.heap.size, 2, none⟩ = some (.slice A2 n2 c2) := by simp [World.cell?, hbx]
  have HBW := Lib.hid hbw
  clear hbw hbx hw hww hG ih
  go_enter Tryz.func55, Tryz.ntmps55
  go_wp2_with fail
  refine HX.out.mono ?_
  rintro e w1 ⟨rfl, hb⟩
  have HB := Lib.hid (HBW.out.trans (hb.mono HBW.out.size))
  clear hb
  go_wp2_with fail
  go_ret
  exact ⟨rfl, HB.out⟩
theorem enter_count1 : Enters 55 := fun args w => by simp [callFunc, go_sem, Tryz.func55, Tryz.f55]
def armN {α : Type} (C : α → Nat) (a : ArF α) : Nat := tot (insideN C) a.pats + C a.body
set_option maxRecDepth 100000 in
set_option maxHeartbeats 4000000 in
theorem count2_p (f : Nat) (ih : PCt f) (G : Nat → Prop) (w : World) (vs : List Value) (x : ArF (Nd f)) (hG : ∀ k, G k → k < w.heap.size) (hv : ArN f G w vs x) (hbd : armN (Nd.count f) x ≤ 1073741824) :
    Calls Tryz.prog 57 #[ag vs] w fun e w' => e = .returned (.int .i64 (armN (Nd.count f) x : Nat)) ∧ Below w.heap.size w w' := by
  obtain ⟨ps, bd⟩ := x
  obtain ⟨vp, bs', rfl, hbl, hps, hbd'⟩ := hv
  obtain ⟨A0, c0, rfl, hl0, hm0⟩ := SlAt.shape hps
  obtain ⟨ky, s, nt, ni, A4, n4, c4, A5, n5, c5, A6, n6, c6, A7, n7, c7, A8, n8, c8, A9, n9, c9, rfl⟩ := NdV.shape hbd'
  simp only at hl0 hps hbd'
  unfold armN at *
  simp only at hbd ⊢
  show Calls Tryz.prog 57 #[.agg #[.slice A0 ps.length c0, .int .i64 ky, .string s, .bool nt, .bool ni, .slice A4 n4 c4, .slice A5 n5 c5, .slice A6 n6 c6, .slice A7 n7 c7, .slice A8 n8 c8, .slice A9 n9 c9]] w _
  have hbw : Below w.heap.size w (w.alloc (.cells #[.slice A0 ps.length c0, .int .i64 ky, .string s, .bool nt, .bool ni, .slice A4 n4 c4, .slice A5 n5 c5, .slice A6 n6 c6, .slice A7 n7 c7, .slice A8 n8 c8, .slice A9 n9 c9] 54)) := (Below.refl _ _).alloc (Nat.le_refl _) _
  have hb0 := heap_alloc_t w (.cells #[.slice A0 ps.length c0, .int .i64 ky, .string s, .bool nt, .bool ni, .slice A4 n4 c4, .slice A5 n5 c5, .slice A6 n6 c6, .slice A7 n7 c7, .slice A8 n8 c8, .slice A9 n9 c9] 54)
  generalize hW : w.alloc (.cells #[.slice A0 ps.length c0, .int .i64 ky, .string s, .bool nt, .bool ni, .slice A4 n4 c4, .slice A5 n5 c5, .slice A6 n6 c6, .slice A7 n7 c7, .slice A8 n8 c8, .slice A9 n9 c9] 54) = W at *
  have HPS := Lib.hid (SlAt.onW hps hG hbw); have HBD := Lib.hid (hbd'.below hG hbw); have HGW := Lib.hid (old_of hG hbw); have HBW := Lib.hid hbw; have IH := Lib.hid ih
  have g1 := fun x : Gr W => x.calls (sum_word f G 53 #[] (insideN (Nd.count f)) _ ps x.at_ (old_of HGW.out x.2) (SlAt.onW HPS.out HGW.out x.2) enter_inside (ct_inside IH.out (old_of HGW.out x.2)) (by omega))
  have g2 := fun x : Gr W => x.calls (IH.out G x.at_ _ bd (old_of HGW.out x.2) (HBD.out.below HGW.out x.2) (by omega))
  have hs := wrap_add (tot (insideN (Nd.count f)) ps) (Nd.count f bd) (by omega)
  have x0 := fun x : Gr W => Gr.box hb0 x 0 _ rfl
  have x1 := fun x : Gr W => Gr.box hb0 x 1 _ rfl
  have x2 := fun x : Gr W => Gr.box hb0 x 2 _ rfl
  have x3 := fun x : Gr W => Gr.box hb0 x 3 _ rfl
  have x4 := fun x : Gr W => Gr.box hb0 x 4 _ rfl
  have x5 := fun x : Gr W => Gr.box hb0 x 5 _ rfl
  have x6 := fun x : Gr W => Gr.box hb0 x 6 _ rfl
  have x7 := fun x : Gr W => Gr.box hb0 x 7 _ rfl
  have x8 := fun x : Gr W => Gr.box hb0 x 8 _ rfl
  have x9 := fun x : Gr W => Gr.box hb0 x 9 _ rfl
  have x10 := fun x : Gr W => Gr.box hb0 x 10 _ rfl
  have hne : Nonempty (Gr W) := ⟨⟨_, Below.refl _ _⟩⟩
  clear hps hbd' hbw hb0 hG ih hbl
  generalize tot (insideN (Nd.count f)) ps = a at *
  generalize Nd.count f bd = b at *
  unfold ag at g2
  go_enter Tryz.func57, Tryz.ntmps57
  go_wp2_with fail
  refine wp_region_class (S := Gr W) Gr.at_ (by kernel_rfl) (by kernel_rfl) (Gr.drew _) ?_
  repeat (go_big_quiet_step (first | (with_reducible exact g1 _) | (with_reducible exact g2 _)))
  refine wpQuiet_nil ?_
  rintro X ⟨⟨X', hX⟩, hx⟩
  obtain rfl : X = X' := hx
  have HB := Lib.hid (HBW.out.trans (hX.mono HBW.out.size))
  clear hX g1 g2 x0 x1 x2 x3 x4 x5 x6 x7 x8 x9 x10 hne
  go_wp2_with fail
  go_ret
  exact ⟨rfl, HB.out⟩
theorem enter_count2 : Enters 57 := fun args w => by simp [callFunc, go_sem, Tryz.func57, Tryz.f57]
theorem enter_Count : Enters 19 := fun args w => by simp [callFunc, go_sem, Tryz.func19, Tryz.f19]
theorem countF_eq {α : Type} (C : α → Nat) (ky : Int) (s : ByteArray) (nt ni : Bool) (ops : List Int) (asg wds : List (WdF α)) (rds : List (RdF α)) (ars : List (ArF α)) (kds : List α) :
    countF C (NdF.mk ky s nt ni ops asg wds rds ars kds) = 1 + tot C kds + tot (insideN C) asg + tot (insideN C) wds + tot (fun r => insideN C r.to) rds + tot (armN C) ars := rfl
set_option maxRecDepth 100000 in
set_option maxHeartbeats 4000000 in
theorem count_step (f : Nat) (ih : PCt f) (G : Nat → Prop) (w : World) (vs : List Value) (x : NdF (Nd f)) (hG : ∀ k, G k → k < w.heap.size) (hv : NdV (f + 1) G w vs x) (hbd : countF (Nd.count f) x ≤ 1073741824) :
    Calls Tryz.prog 19 #[ag vs] w fun e w' => e = .returned (.int .i64 (countF (Nd.count f) x : Nat)) ∧ Below w.heap.size w w' := by
  have IH := Lib.hid ih
  obtain ⟨ky, s, nt, ni, ops, asg, wds, rds, ars, kds⟩ := x
  obtain ⟨A4, c4, A5, c5, A6, c6, A7, c7, A8, c8, A9, c9, rfl, hns, hal, hl4, hl5, hl6, hl7, hl8, hl9, hso, hsa, hsw, hsr, hsm, hsk⟩ := NdV.open hv
  have HSO := Lib.hid hso; have HSA := Lib.hid hsa; have HSW := Lib.hid hsw; have HSR := Lib.hid hsr; have HSM := Lib.hid hsm; have HSK := Lib.hid hsk
  clear hso hsa hsw hsr hsm hsk hv
  show Calls Tryz.prog 19 #[.agg #[.int .i64 ky, .string s, .bool nt, .bool ni, .slice A4 ops.length c4, .slice A5 asg.length c5, .slice A6 wds.length c6, .slice A7 rds.length c7, .slice A8 ars.length c8, .slice A9 kds.length c9]] w _
  have hbw : Below w.heap.size w (w.alloc (.cells #[.int .i64 ky, .string s, .bool nt, .bool ni, .slice A4 ops.length c4, .slice A5 asg.length c5, .slice A6 wds.length c6, .slice A7 rds.length c7, .slice A8 ars.length c8, .slice A9 kds.length c9] 28)) := (Below.refl _ _).alloc (Nat.le_refl _) _
  have hb0 := heap_alloc_t w (.cells #[.int .i64 ky, .string s, .bool nt, .bool ni, .slice A4 ops.length c4, .slice A5 asg.length c5, .slice A6 wds.length c6, .slice A7 rds.length c7, .slice A8 ars.length c8, .slice A9 kds.length c9] 28)
  have hbb := heap_alloc_t w (.cells #[.int .i64 ky, .string s, .bool nt, .bool ni, .slice A4 ops.length c4, .slice A5 asg.length c5, .slice A6 wds.length c6, .slice A7 rds.length c7, .slice A8 ars.length c8, .slice A9 kds.length c9] 28)
  generalize hW : w.alloc (.cells #[.int .i64 ky, .string s, .bool nt, .bool ni, .slice A4 ops.length c4, .slice A5 asg.length c5, .slice A6 wds.length c6, .slice A7 rds.length c7, .slice A8 ars.length c8, .slice A9 kds.length c9] 28) = W at *
  have x0 : W.cell? ⟨w.heap.size, 0, none⟩ = some (.int .i64 ky) := by simp [World.cell?, hb0]
  have x1 : W.cell? ⟨w.heap.size, 1, none⟩ = some (.string s) := by simp [World.cell?, hb0]
  have x2 : W.cell? ⟨w.heap.size, 2, none⟩ = some (.bool nt) := by simp [World.cell?, hb0]
  have x3 : W.cell? ⟨w.heap.size, 3, none⟩ = some (.bool ni) := by simp [World.cell?, hb0]
  have x4 : W.cell? ⟨w.heap.size, 4, none⟩ = some (.slice A4 ops.length c4) := by simp [World.cell?, hb0]
  have x5 : W.cell? ⟨w.heap.size, 5, none⟩ = some (.slice A5 asg.length c5) := by simp [World.cell?, hb0]
  have x6 : W.cell? ⟨w.heap.size, 6, none⟩ = some (.slice A6 wds.length c6) := by simp [World.cell?, hb0]
  have x7 : W.cell? ⟨w.heap.size, 7, none⟩ = some (.slice A7 rds.length c7) := by simp [World.cell?, hb0]
  have x8 : W.cell? ⟨w.heap.size, 8, none⟩ = some (.slice A8 ars.length c8) := by simp [World.cell?, hb0]
  have x9 : W.cell? ⟨w.heap.size, 9, none⟩ = some (.slice A9 kds.length c9) := by simp [World.cell?, hb0]
  have HGW := Lib.hid (old_of hG hbw)
  have HBW := Lib.hid hbw; have HG := Lib.hid hG
  clear hbw hb0 hG ih
  rw [countF_eq] at hbd ⊢
  have g1 := fun x : Gr W => x.calls (sum_node f G 19 #[] (Nd.count f) _ kds x.at_ (old_of HGW.out x.2) (SlAt.onN (HSK.out.onN HG.out HBW.out) HGW.out x.2) enter_Count (fun X hX vs y hy hb => by rw [Array.append_empty]; exact IH.out G X vs y (old_of (old_of HGW.out x.2) hX) hy hb) (by omega))
  have g2 := fun x : Gr W => x.calls (sum_word f G 53 #[] (insideN (Nd.count f)) _ asg x.at_ (old_of HGW.out x.2) (SlAt.onW (HSA.out.onW HG.out HBW.out) HGW.out x.2) enter_inside (ct_inside IH.out (old_of HGW.out x.2)) (by omega))
  have g3 := fun x : Gr W => x.calls (sum_word f G 53 #[] (insideN (Nd.count f)) _ wds x.at_ (old_of HGW.out x.2) (SlAt.onW (HSW.out.onW HG.out HBW.out) HGW.out x.2) enter_inside (ct_inside IH.out (old_of HGW.out x.2)) (by omega))
  have g4 := fun x : Gr W => x.calls (sum_redir f G 55 #[] (fun r => insideN (Nd.count f) r.to) _ rds x.at_ (old_of HGW.out x.2) (SlAt.onR (HSR.out.onR HG.out HBW.out) HGW.out x.2) enter_count1 (fun X hX vs y hy hb => by rw [Array.append_empty]; exact count1_p f IH.out G X vs y (old_of (old_of HGW.out x.2) hX) hy hb) (by omega))
  have g5 := fun x : Gr W => x.calls (sum_arm f G 57 #[] (armN (Nd.count f)) _ ars x.at_ (old_of HGW.out x.2) (SlAt.onA (HSM.out.onA HG.out HBW.out) HGW.out x.2) enter_count2 (fun X hX vs y hy hb => by rw [Array.append_empty]; exact count2_p f IH.out G X vs y (old_of (old_of HGW.out x.2) hX) hy hb) (by omega))
  have y0 := fun x : Gr W => Gr.box hbb x 0 _ rfl
  have y1 := fun x : Gr W => Gr.box hbb x 1 _ rfl
  have y2 := fun x : Gr W => Gr.box hbb x 2 _ rfl
  have y3 := fun x : Gr W => Gr.box hbb x 3 _ rfl
  have y4 := fun x : Gr W => Gr.box hbb x 4 _ rfl
  have y5 := fun x : Gr W => Gr.box hbb x 5 _ rfl
  have y6 := fun x : Gr W => Gr.box hbb x 6 _ rfl
  have y7 := fun x : Gr W => Gr.box hbb x 7 _ rfl
  have y8 := fun x : Gr W => Gr.box hbb x 8 _ rfl
  have y9 := fun x : Gr W => Gr.box hbb x 9 _ rfl
  have hne : Nonempty (Gr W) := ⟨⟨_, Below.refl _ _⟩⟩
  clear hbb
  generalize tot (Nd.count f) kds = a1 at *
  generalize tot (insideN (Nd.count f)) asg = a2 at *
  generalize tot (insideN (Nd.count f)) wds = a3 at *
  generalize tot (fun r => insideN (Nd.count f) r.to) rds = a4 at *
  generalize tot (armN (Nd.count f)) ars = a5 at *
  have s1 : IntKind.i64.wrap ((1 : Int) + (a1 : Int)) = 1 + (a1 : Int) := IntWalk.i64_in _ (by omega)
  have s2 : IntKind.i64.wrap ((1 : Int) + (a1 : Int) + (a2 : Int)) = 1 + (a1 : Int) + (a2 : Int) := IntWalk.i64_in _ (by omega)
  have s3 : IntKind.i64.wrap ((1 : Int) + (a1 : Int) + (a2 : Int) + (a3 : Int)) = 1 + (a1 : Int) + (a2 : Int) + (a3 : Int) := IntWalk.i64_in _ (by omega)
  have s4 : IntKind.i64.wrap ((1 : Int) + (a1 : Int) + (a2 : Int) + (a3 : Int) + (a4 : Int)) = 1 + (a1 : Int) + (a2 : Int) + (a3 : Int) + (a4 : Int) := IntWalk.i64_in _ (by omega)
  have s5 : IntKind.i64.wrap ((1 : Int) + (a1 : Int) + (a2 : Int) + (a3 : Int) + (a4 : Int) + (a5 : Int)) = 1 + (a1 : Int) + (a2 : Int) + (a3 : Int) + (a4 : Int) + (a5 : Int) := IntWalk.i64_in _ (by omega)
  have HT := Lib.hid hbd
  clear hbd
  clear x0; clear x1; clear x2; clear x3; clear x4; clear x5; clear x6; clear x7; clear x8; clear x9
  go_enter Tryz.func19, Tryz.ntmps19
  go_wp2_with fail
  refine wp_region_class (S := Gr W) Gr.at_ (by kernel_rfl) (by kernel_rfl) (Gr.drew _) ?_
  repeat (go_big_quiet_step (first | (with_reducible exact g1 _) | (with_reducible exact g2 _) | (with_reducible exact g3 _) | (with_reducible exact g4 _) | (with_reducible exact g5 _)))
  refine wpQuiet_nil ?_
  rintro X ⟨⟨X', hX⟩, hx⟩
  obtain rfl : X = X' := hx
  have HB := Lib.hid (HBW.out.trans (hX.mono HBW.out.size))
  clear hX g1 g2 g3 g4 g5 y0 y1 y2 y3 y4 y5 y6 y7 y8 y9 hne
  go_wp2_with fail
  go_ret
  exact ⟨ret_int (by omega), HB.out⟩
theorem prog_count : ∀ f : Nat, PCt f
  | 0 => fun _ _ _ x => Empty.elim x
  | f + 1 => fun G w vs x hG hv hb => count_step f (prog_count f) G w vs x hG hv hb
end Go.Proofs.YtjpopekmbmcggaaGreatDoor
