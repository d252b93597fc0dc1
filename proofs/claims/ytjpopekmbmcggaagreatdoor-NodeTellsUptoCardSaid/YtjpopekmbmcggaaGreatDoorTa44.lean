/- Towards nodeTells_card: NdRefRight, NdTells, NdTable. Merged from smaller texts by a program of the author's. -/
import Derived.Test.YtjpopekmbmcggaaGreatDoorTa41
import Derived.Test.YtjpopekmbmcggaaGreatDoorTa42
import Derived.Test.YtjpopekmbmcggaaGreatDoorTa43
import Derived.Test.YtjpopekmbmcggaaGreatDoorTa37
import Derived.Test.YtjpopekmbmcggaaGreatDoorTa13
import Derived.Test.YtjpopekmbmcggaaGreatDoorCards
import Derived.Test.YtjpopekmbmcggaaGreatDoorTie
import Derived.ProofKit
import Derived.OpenShut
import Derived.Deep.DeepHandedRow
import Derived.Lib.LaidTab
import Derived.SevenTiedAt
namespace Go.Proofs.YtjpopekmbmcggaaGreatDoor
open Go.RowKit
set_option maxRecDepth 100000 in
set_option maxHeartbeats 4000000 in
theorem rright_z (f : Nat) (ih : RRt f) (G : Nat → Prop) (w : World) (vs : List Value) (x : NdF (Nd f)) (hG : ∀ k, G k → k < w.heap.size) (hv : NdV (f + 1) G w vs x) (hk : x.k ≠ 1 ∧ x.k ≠ 2 ∧ x.k ≠ 3 ∧ x.k ≠ 4 ∧ x.k ≠ 5 ∧ x.k ≠ 6 ∧ x.k ≠ 7 ∧ x.k ≠ 8 ∧ x.k ≠ 9 ∧ x.k ≠ 10 ∧ x.k ≠ 11 ∧ x.k ≠ 12) :
    Calls Tryz.prog 38 #[ag vs] w fun e w' => e = .returned (.bool (rightF (Nd.vw f) x)) ∧ Below w.heap.size w w' := by
  obtain ⟨ky, s, nt, ni, ops, asg, wds, rds, ars, kds⟩ := x
  obtain ⟨A4, c4, A5, c5, A6, c6, A7, c7, A8, c8, A9, c9, rfl, hns, hal, hl4, hl5, hl6, hl7, hl8, hl9, hso, hsa, hsw, hsr, hsm, hsk⟩ := NdV.open hv
  have HSO := Lib.hid hso; have HSA := Lib.hid hsa; have HSW := Lib.hid hsw; have HSR := Lib.hid hsr; have HSM := Lib.hid hsm; have HSK := Lib.hid hsk
  have HV := Lib.hid hv
  clear hso hsa hsw hsr hsm hsk hv
  show Calls Tryz.prog 38 #[.agg #[.int .i64 ky, .string s, .bool nt, .bool ni, .slice A4 ops.length c4, .slice A5 asg.length c5, .slice A6 wds.length c6, .slice A7 rds.length c7, .slice A8 ars.length c8, .slice A9 kds.length c9]] w _
  have hbw : Below w.heap.size w (w.alloc (.cells #[.int .i64 ky, .string s, .bool nt, .bool ni, .slice A4 ops.length c4, .slice A5 asg.length c5, .slice A6 wds.length c6, .slice A7 rds.length c7, .slice A8 ars.length c8, .slice A9 kds.length c9] 28)) := (Below.refl _ _).alloc (Nat.le_refl _) _
  have hb0 := heap_alloc_t w (.cells #[.int .i64 ky, .string s, .bool nt, .bool ni, .slice A4 ops.length c4, .slice A5 asg.length c5, .slice A6 wds.length c6, .slice A7 rds.length c7, .slice A8 ars.length c8, .slice A9 kds.length c9] 28)
  generalize hW : w.alloc (.cells #[.int .i64 ky, .string s, .bool nt, .bool ni, .slice A4 ops.length c4, .slice A5 asg.length c5, .slice A6 wds.length c6, .slice A7 rds.length c7, .slice A8 ars.length c8, .slice A9 kds.length c9] 28) = W at *
  have x0 : W.cell? ⟨w.heap.size, 0, none⟩ = some (.int .i64 ky) := by simp [World.cell?, hb0]
  have x1 : W.cell? ⟨w.heap.size, 1, none⟩ = some (.string s) := by simp [World.cell?, hb0]
  have x2 : W.cell? ⟨w.heap.size, 2, none⟩ = some (.bool nt) := by simp [World.cell?, hb0]
  have x3 : W.cell? ⟨w.heap.size, 3, none⟩ = some (.bool ni) := by simp [World.cell?, hb0]
  have x4 : W.cell? ⟨w.heap.size, 4, none⟩ = some (.slice A4 ops.length c4) := by simp [World.cell?, hb0]
  have x5 : W.cell? ⟨w.heap.size, 5, none⟩ = some (.slice A5 asg.length c5) := by simp [World.cell?, hb0]
  have x6 : W.cell? ⟨w.heap.size, 6, none⟩ = some (.slice A6 wds.length c6) := by simp [World.cell?, hb0]
  have x7 : W.cell? ⟨w.heap.size, 7, none⟩ = some (.slice A7 rds.length c7) := by simp [World.cell?, hb0]
  have x8 : W.cell? ⟨w.heap.size, 8, none⟩ = some (.slice A8 ars.length c8) := by simp [World.cell?, hb0]
  have x9 : W.cell? ⟨w.heap.size, 9, none⟩ = some (.slice A9 kds.length c9) := by simp [World.cell?, hb0]
  have HGW := Lib.hid (old_of hG hbw)
  have HBW := Lib.hid hbw; have HG := Lib.hid hG
  have IH := Lib.hid ih
  clear hbw hb0 hG ih
  have RF := Lib.hid (rightF_none (Nd.vw f) (NdF.mk ky s nt ni ops asg wds rds ars kds) hk.1 hk.2.1 hk.2.2.1 hk.2.2.2.1 hk.2.2.2.2.1 hk.2.2.2.2.2.1 hk.2.2.2.2.2.2.1 hk.2.2.2.2.2.2.2.1 hk.2.2.2.2.2.2.2.2.1 hk.2.2.2.2.2.2.2.2.2.1 hk.2.2.2.2.2.2.2.2.2.2.1 hk.2.2.2.2.2.2.2.2.2.2.2)
  obtain ⟨k1, k2, k3, k4, k5, k6, k7, k8, k9, k10, k11, k12⟩ := hk
  have n3 : (ky != 3) = true := bne_iff_ne.2 k3
  have n7 : (ky != 7) = true := bne_iff_ne.2 k7
  replace k1 : (ky == 1) = false := beq_false_of_ne k1
  replace k2 : (ky == 2) = false := beq_false_of_ne k2
  replace k3 : (ky == 3) = false := beq_false_of_ne k3
  replace k4 : (ky == 4) = false := beq_false_of_ne k4
  replace k5 : (ky == 5) = false := beq_false_of_ne k5
  replace k6 : (ky == 6) = false := beq_false_of_ne k6
  replace k7 : (ky == 7) = false := beq_false_of_ne k7
  replace k8 : (ky == 8) = false := beq_false_of_ne k8
  replace k9 : (ky == 9) = false := beq_false_of_ne k9
  replace k10 : (ky == 10) = false := beq_false_of_ne k10
  replace k11 : (ky == 11) = false := beq_false_of_ne k11
  replace k12 : (ky == 12) = false := beq_false_of_ne k12
  cases nt
  case true =>
    go_enter Tryz.func38, Tryz.ntmps38
    go_wp2_with fail
    go_ret
    exact ⟨ret_bool (by rw [RF.out]), HBW.out⟩
  cases ni
  case true =>
    go_enter Tryz.func38, Tryz.ntmps38
    go_wp2_with fail
    go_ret
    exact ⟨ret_bool (by rw [RF.out]), HBW.out⟩
  go_enter Tryz.func38, Tryz.ntmps38
  have HX := Lib.hid (redirs_r f IH.out G _ rds W (old_of HG.out HBW.out) (HSR.out.onR HG.out HBW.out))
  go_wp2_with fail
  refine HX.out.mono ?_
  rintro e w1 ⟨he, hb⟩
  have HB1 := Lib.hid (HBW.out.trans (hb.mono HBW.out.size))
  have y1_0 := box_keep x0 hb; have y1_1 := box_keep x1 hb; have y1_2 := box_keep x2 hb; have y1_3 := box_keep x3 hb; have y1_4 := box_keep x4 hb; have y1_5 := box_keep x5 hb; have y1_6 := box_keep x6 hb; have y1_7 := box_keep x7 hb; have y1_8 := box_keep x8 hb; have y1_9 := box_keep x9 hb
  clear hb HX
  cases q : rds.all (redirB (Nd.vw f))
  · rw [q] at he
    subst he
    clear q
    go_wp2_with fail
    go_ret
    exact ⟨ret_bool (by rw [RF.out]), HB1.out⟩
  rw [q] at he
  subst he
  clear q
  have HX := Lib.hid (words_r f IH.out G _ wds w1 (old_of HG.out HB1.out) (HSW.out.onW HG.out HB1.out))
  go_wp2_with fail
  refine HX.out.mono ?_
  rintro e w2 ⟨he, hb⟩
  have HB2 := Lib.hid (HB1.out.trans (hb.mono HB1.out.size))
  have y2_0 := box_keep y1_0 hb; have y2_1 := box_keep y1_1 hb; have y2_2 := box_keep y1_2 hb; have y2_3 := box_keep y1_3 hb; have y2_4 := box_keep y1_4 hb; have y2_5 := box_keep y1_5 hb; have y2_6 := box_keep y1_6 hb; have y2_7 := box_keep y1_7 hb; have y2_8 := box_keep y1_8 hb; have y2_9 := box_keep y1_9 hb
  clear hb HX y1_0 y1_1 y1_2 y1_3 y1_4 y1_5 y1_6 y1_7 y1_8 y1_9
  cases q : wds.all (wordB (Nd.vw f))
  · rw [q] at he
    subst he
    clear q
    go_wp2_with fail
    go_ret
    exact ⟨ret_bool (by rw [RF.out]), HB2.out⟩
  rw [q] at he
  subst he
  clear q
  have HX := Lib.hid (words_r f IH.out G _ asg w2 (old_of HG.out HB2.out) (HSA.out.onW HG.out HB2.out))
  go_wp2_with fail
  refine HX.out.mono ?_
  rintro e w3 ⟨he, hb⟩
  have HB3 := Lib.hid (HB2.out.trans (hb.mono HB2.out.size))
  have y3_0 := box_keep y2_0 hb; have y3_1 := box_keep y2_1 hb; have y3_2 := box_keep y2_2 hb; have y3_3 := box_keep y2_3 hb; have y3_4 := box_keep y2_4 hb; have y3_5 := box_keep y2_5 hb; have y3_6 := box_keep y2_6 hb; have y3_7 := box_keep y2_7 hb; have y3_8 := box_keep y2_8 hb; have y3_9 := box_keep y2_9 hb
  clear hb HX y2_0 y2_1 y2_2 y2_3 y2_4 y2_5 y2_6 y2_7 y2_8 y2_9
  cases q : asg.all (wordB (Nd.vw f))
  · rw [q] at he
    subst he
    clear q
    go_wp2_with fail
    go_ret
    exact ⟨ret_bool (by rw [RF.out]), HB3.out⟩
  rw [q] at he
  subst he
  clear q
  go_wp2_with fail
  go_ret
  exact ⟨ret_bool (by rw [RF.out]), HB3.out⟩
theorem rright_all (f : Nat) (ih : RRt f) (ih2 : RRight f) : RRight (f + 1) := by
  intro G w vs x hG hv
  have hx : (Nd.vw (f + 1)).rt x = rightF (Nd.vw f) x := rfl
  rw [hx]
  by_cases hk1 : (x : NdF (Nd f)).k = 1
  · exact rright_1 f ih ih2 G w vs x hG hv hk1
  by_cases hk2 : (x : NdF (Nd f)).k = 2
  · exact rright_2 f ih ih2 G w vs x hG hv hk2
  by_cases hk3 : (x : NdF (Nd f)).k = 3
  · exact rright_3 f ih ih2 G w vs x hG hv hk3
  by_cases hk4 : (x : NdF (Nd f)).k = 4
  · exact rright_4 f ih ih2 G w vs x hG hv hk4
  by_cases hk5 : (x : NdF (Nd f)).k = 5
  · exact rright_5 f ih ih2 G w vs x hG hv hk5
  by_cases hk6 : (x : NdF (Nd f)).k = 6
  · exact rright_6 f ih ih2 G w vs x hG hv hk6
  by_cases hk7 : (x : NdF (Nd f)).k = 7
  · exact rright_7 f ih ih2 G w vs x hG hv hk7
  by_cases hk8 : (x : NdF (Nd f)).k = 8
  · exact rright_8 f ih ih2 G w vs x hG hv hk8
  by_cases hk9 : (x : NdF (Nd f)).k = 9
  · exact rright_9 f ih ih2 G w vs x hG hv hk9
  by_cases hk10 : (x : NdF (Nd f)).k = 10
  · exact rright_10 f ih ih2 G w vs x hG hv hk10
  by_cases hk11 : (x : NdF (Nd f)).k = 11
  · exact rright_11 f ih ih2 G w vs x hG hv hk11
  by_cases hk12 : (x : NdF (Nd f)).k = 12
  · exact rright_12 f ih ih2 G w vs x hG hv hk12
  exact rright_z f ih G w vs x hG hv ⟨hk1, hk2, hk3, hk4, hk5, hk6, hk7, hk8, hk9, hk10, hk11, hk12⟩
set_option maxRecDepth 100000 in
set_option maxHeartbeats 4000000 in
theorem RRight_all (f : Nat) (ih : RRight (f + 1)) : RRt (f + 1) := by
  intro G w vs x hG hv
  have hx : (Nd.vw (f + 1)).R x = (((x : NdF (Nd f)).k == 1) && (Nd.vw (f + 1)).rt x) := rfl
  rw [hx]
  have IH := Lib.hid ih
  have HV := Lib.hid hv
  clear ih hx
  generalize hr : (Nd.vw (f + 1)).rt x = r
  have HR := Lib.hid hr
  clear hr
  obtain ⟨ky, s, nt, ni, ops, asg, wds, rds, ars, kds⟩ := x
  obtain ⟨A4, c4, A5, c5, A6, c6, A7, c7, A8, c8, A9, c9, rfl, hns, hal, hl4, hl5, hl6, hl7, hl8, hl9, hso, hsa, hsw, hsr, hsm, hsk⟩ := NdV.open hv
  clear hso hsa hsw hsr hsm hsk hv
  show Calls Tryz.prog 14 #[.agg #[.int .i64 ky, .string s, .bool nt, .bool ni, .slice A4 ops.length c4, .slice A5 asg.length c5, .slice A6 wds.length c6, .slice A7 rds.length c7, .slice A8 ars.length c8, .slice A9 kds.length c9]] w _
  have hbw : Below w.heap.size w (w.alloc (.cells #[.int .i64 ky, .string s, .bool nt, .bool ni, .slice A4 ops.length c4, .slice A5 asg.length c5, .slice A6 wds.length c6, .slice A7 rds.length c7, .slice A8 ars.length c8, .slice A9 kds.length c9] 28)) := (Below.refl _ _).alloc (Nat.le_refl _) _
  have hb0 := heap_alloc_t w (.cells #[.int .i64 ky, .string s, .bool nt, .bool ni, .slice A4 ops.length c4, .slice A5 asg.length c5, .slice A6 wds.length c6, .slice A7 rds.length c7, .slice A8 ars.length c8, .slice A9 kds.length c9] 28)
  have HX := Lib.hid (IH.out G _ _ _ (old_of hG hbw) (HV.out.below hG hbw))
  rw [HR.out] at HX
  generalize hW : w.alloc (.cells #[.int .i64 ky, .string s, .bool nt, .bool ni, .slice A4 ops.length c4, .slice A5 asg.length c5, .slice A6 wds.length c6, .slice A7 rds.length c7, .slice A8 ars.length c8, .slice A9 kds.length c9] 28) = W at *
  have x0 : W.cell? ⟨w.heap.size, 0, none⟩ = some (.int .i64 ky) := by simp [World.cell?, hb0]
  have x1 : W.cell? ⟨w.heap.size, 1, none⟩ = some (.string s) := by simp [World.cell?, hb0]
  have x2 : W.cell? ⟨w.heap.size, 2, none⟩ = some (.bool nt) := by simp [World.cell?, hb0]
  have x3 : W.cell? ⟨w.heap.size, 3, none⟩ = some (.bool ni) := by simp [World.cell?, hb0]
  have x4 : W.cell? ⟨w.heap.size, 4, none⟩ = some (.slice A4 ops.length c4) := by simp [World.cell?, hb0]
  have x5 : W.cell? ⟨w.heap.size, 5, none⟩ = some (.slice A5 asg.length c5) := by simp [World.cell?, hb0]
  have x6 : W.cell? ⟨w.heap.size, 6, none⟩ = some (.slice A6 wds.length c6) := by simp [World.cell?, hb0]
  have x7 : W.cell? ⟨w.heap.size, 7, none⟩ = some (.slice A7 rds.length c7) := by simp [World.cell?, hb0]
  have x8 : W.cell? ⟨w.heap.size, 8, none⟩ = some (.slice A8 ars.length c8) := by simp [World.cell?, hb0]
  have x9 : W.cell? ⟨w.heap.size, 9, none⟩ = some (.slice A9 kds.length c9) := by simp [World.cell?, hb0]
  have HBW := Lib.hid hbw
  clear hbw hb0 hG
  simp only
  cases q : (ky == 1)
  · go_enter Tryz.func14, Tryz.ntmps14
    go_wp2_with fail
    go_ret
    exact ⟨rfl, HBW.out⟩
  · go_enter Tryz.func14, Tryz.ntmps14
    go_wp2_with fail
    refine HX.out.mono ?_
    rintro e w1 ⟨rfl, hb⟩
    have HB1 := Lib.hid (HBW.out.trans (hb.mono HBW.out.size))
    clear hb
    go_wp2_with fail
    go_ret
    exact ⟨rfl, HB1.out⟩
theorem ref_right : ∀ f : Nat, RRight f ∧ RRt f
  | 0 => ⟨fun _ _ _ x => Empty.elim x, fun _ _ _ x => Empty.elim x⟩
  | f + 1 =>
    have ih := ref_right f
    have h := rright_all f ih.2 ih.1
    ⟨h, RRight_all f h⟩
end Go.Proofs.YtjpopekmbmcggaaGreatDoor
namespace Go.Proofs.YtjpopekmbmcggaaGreatDoor
open Go.RowKit
theorem pick_tot {β : Type} (C : β → Nat) : ∀ (ks : List Int) (xs : List β), tot C (pick ks xs) ≤ tot C xs
  | [], xs => by simp [pick, tot]
  | _ :: _, [] => by simp [pick, tot]
  | k :: ks, x :: xs => by
    have := pick_tot C ks xs
    simp only [pick]
    split <;> simp only [tot] <;> omega
theorem inside_le {α : Type} {C W : α → Nat} (h : ∀ x, C x ≤ W x) (x : WdF α) : insideN C x ≤ wtW W x := by
  have h1 : tot (tot C) x.cmds ≤ tot (tot C) x.c := pick_tot _ _ _
  have h2 : tot (tot C) x.c ≤ tot (fun l => 1 + tot W l) x.c := tot_le (fun l => by have := tot_le h l; omega) _
  unfold insideN wtW
  omega
theorem Nd.count_le : ∀ (f : Nat) (x : Nd f), Nd.count f x ≤ Nd.wt f x
  | 0, x => Empty.elim x
  | f + 1, x => by
    have ih := Nd.count_le f
    obtain ⟨ky, s, nt, ni, ops, asg, wds, rds, ars, kds⟩ := x
    have h1 := tot_le ih kds
    have h2 : tot (insideN (Nd.count f)) asg ≤ tot (wtW (Nd.wt f)) asg := tot_le (inside_le ih) _
    have h3 : tot (insideN (Nd.count f)) wds ≤ tot (wtW (Nd.wt f)) wds := tot_le (inside_le ih) _
    have h4 : tot (fun r : RdF (Nd f) => insideN (Nd.count f) r.to) rds ≤ tot (wtR (Nd.wt f)) rds := tot_le (fun r => by have := inside_le ih r.to; unfold wtR; omega) _
    have h5 : tot (armN (Nd.count f)) ars ≤ tot (wtA (Nd.wt f)) ars := tot_le (fun a => by
      have h6 : tot (insideN (Nd.count f)) a.pats ≤ tot (wtW (Nd.wt f)) a.pats := tot_le (inside_le ih) _
      have := ih a.body
      unfold armN wtA
      omega) _
    show countF (Nd.count f) (NdF.mk ky s nt ni ops asg wds rds ars kds) ≤ wtF (Nd.wt f) (NdF.mk ky s nt ni ops asg wds rds ars kds)
    rw [countF_eq]
    unfold wtF
    simp only
    omega
theorem three_blocks3 (w : World) (o0 o1 o2 : Obj) : (((w.alloc o0).alloc o1).alloc o2).heap[w.heap.size]? = some o0 ∧ (((w.alloc o0).alloc o1).alloc o2).heap[w.heap.size + 1]? = some o1 ∧ (((w.alloc o0).alloc o1).alloc o2).heap[w.heap.size + 1 + 1]? = some o2 ∧ Below w.heap.size w (((w.alloc o0).alloc o1).alloc o2) := by
  have k0 := heap_alloc_t w o0
  have k1 := heap_alloc_t (w.alloc o0) o1
  have k2 := heap_alloc_t ((w.alloc o0).alloc o1) o2
  rw [show (w.alloc o0).heap.size = w.heap.size + 1 by simp] at k1
  rw [show ((w.alloc o0).alloc o1).heap.size = w.heap.size + 1 + 1 by simp] at k2
  exact ⟨up (up k0), up k1, k2, ((((Below.refl _ _).alloc (Nat.le_refl _) _).alloc (by simp) _).alloc (by simp; omega) _)⟩
set_option maxRecDepth 100000 in
set_option maxHeartbeats 16000000 in
theorem nodeTells_walk (f : Nat) (k : Int) (w : World) (vn vw vr : List Value) (n : Nd (f + 1)) (x : WdF (Nd f)) (r : RdF (Nd f)) (ht : RsvAt w) (hn : NdV (f + 1) (Old w) w vn n) (hx : WdN f (Old w) w vw x) (hr : RdN f (Old w) w vr r)
    (bn : Nd.wt (f + 1) n ≤ 268435456) (bx : wtW (Nd.wt f) x ≤ 268435456) (br : wtR (Nd.wt f) r ≤ 268435456) :
    Calls Tryz.prog 3 #[ag vn, ag vw, ag vr, .int .i64 k] w fun e w' => e = .returned (.bool true) ∧ Below w.heap.size w w' := by
  have hG : ∀ k, Old w k → k < w.heap.size := fun _ h => h
  obtain ⟨ky, s, nt, ni, A4, n4, c4, A5, n5, c5, A6, n6, c6, A7, n7, c7, A8, n8, c8, A9, n9, c9, rfl⟩ := hn.shape
  obtain ⟨A0, n0, c0, rfl⟩ := hx.shape
  have hr0 := hr
  obtain ⟨num, op, tw, here⟩ := r
  obtain ⟨vt, rfl, hnum, hhere, hrw⟩ := hr
  obtain ⟨A2, n2, c2, hvt⟩ := WdN.shape hrw
  injection hvt with hvt
  subst hvt
  have htw : WdN f (Old w) w [.slice A2 n2 c2] tw := hrw
  simp only at hnum hhere
  show Calls Tryz.prog 3 #[.agg #[.int .i64 ky, .string s, .bool nt, .bool ni, .slice A4 n4 c4, .slice A5 n5 c5, .slice A6 n6 c6, .slice A7 n7 c7, .slice A8 n8 c8, .slice A9 n9 c9], .agg #[.slice A0 n0 c0], .agg #[.string num, .int .i64 op, .slice A2 n2 c2, .string here], .int .i64 k] w _
  obtain ⟨q0, q1, q2, hbw⟩ := three_blocks3 w (.cells #[.int .i64 ky, .string s, .bool nt, .bool ni, .slice A4 n4 c4, .slice A5 n5 c5, .slice A6 n6 c6, .slice A7 n7 c7, .slice A8 n8 c8, .slice A9 n9 c9] 28) (.cells #[.slice A0 n0 c0] 31) (.cells #[.string num, .int .i64 op, .slice A2 n2 c2, .string here] 33)
  generalize hW : (((w.alloc (.cells #[.int .i64 ky, .string s, .bool nt, .bool ni, .slice A4 n4 c4, .slice A5 n5 c5, .slice A6 n6 c6, .slice A7 n7 c7, .slice A8 n8 c8, .slice A9 n9 c9] 28)).alloc (.cells #[.slice A0 n0 c0] 31)).alloc (.cells #[.string num, .int .i64 op, .slice A2 n2 c2, .string here] 33)) = W at *
  have a0_0 : W.cell? ⟨w.heap.size, 0, none⟩ = some (.int .i64 ky) := box_at q0 _ (Below.refl _ _) 0 _ rfl
  have a0_1 : W.cell? ⟨w.heap.size, 1, none⟩ = some (.string s) := box_at q0 _ (Below.refl _ _) 1 _ rfl
  have a0_2 : W.cell? ⟨w.heap.size, 2, none⟩ = some (.bool nt) := box_at q0 _ (Below.refl _ _) 2 _ rfl
  have a0_3 : W.cell? ⟨w.heap.size, 3, none⟩ = some (.bool ni) := box_at q0 _ (Below.refl _ _) 3 _ rfl
  have a0_4 : W.cell? ⟨w.heap.size, 4, none⟩ = some (.slice A4 n4 c4) := box_at q0 _ (Below.refl _ _) 4 _ rfl
  have a0_5 : W.cell? ⟨w.heap.size, 5, none⟩ = some (.slice A5 n5 c5) := box_at q0 _ (Below.refl _ _) 5 _ rfl
  have a0_6 : W.cell? ⟨w.heap.size, 6, none⟩ = some (.slice A6 n6 c6) := box_at q0 _ (Below.refl _ _) 6 _ rfl
  have a0_7 : W.cell? ⟨w.heap.size, 7, none⟩ = some (.slice A7 n7 c7) := box_at q0 _ (Below.refl _ _) 7 _ rfl
  have a0_8 : W.cell? ⟨w.heap.size, 8, none⟩ = some (.slice A8 n8 c8) := box_at q0 _ (Below.refl _ _) 8 _ rfl
  have a0_9 : W.cell? ⟨w.heap.size, 9, none⟩ = some (.slice A9 n9 c9) := box_at q0 _ (Below.refl _ _) 9 _ rfl
  have b0 : W.cell? ⟨w.heap.size + 1, 0, none⟩ = some (.slice A0 n0 c0) := box_at q1 _ (Below.refl _ _) 0 _ rfl
  have c0_0 : W.cell? ⟨w.heap.size + 1 + 1, 0, none⟩ = some (.string num) := box_at q2 _ (Below.refl _ _) 0 _ rfl
  have c0_1 : W.cell? ⟨w.heap.size + 1 + 1, 1, none⟩ = some (.int .i64 op) := box_at q2 _ (Below.refl _ _) 1 _ rfl
  have c0_2 : W.cell? ⟨w.heap.size + 1 + 1, 2, none⟩ = some (.slice A2 n2 c2) := box_at q2 _ (Below.refl _ _) 2 _ rfl
  have c0_3 : W.cell? ⟨w.heap.size + 1 + 1, 3, none⟩ = some (.string here) := box_at q2 _ (Below.refl _ _) 3 _ rfl
  have HN := Lib.hid (hn.below hG hbw); have HX := Lib.hid (hx.below hG hbw); have HR := Lib.hid (hr0.below hG hbw); have HTW := Lib.hid (htw.below hG hbw)
  have HG := Lib.hid (old_of hG hbw); have HT := Lib.hid ht; have HBW := Lib.hid hbw; have HB0 := Lib.hid (Below.refl W.heap.size W)
  have hcn := Nd.count_le (f + 1) n
  have hbt : wtW (Nd.wt f) tw ≤ 268435456 := by
    have h : 1 + num.size + here.size + wtW (Nd.wt f) tw ≤ 268435456 := br
    omega
  have hnh : num.size + here.size ≤ 268435456 := by
    have h : 1 + num.size + here.size + wtW (Nd.wt f) tw ≤ 268435456 := br
    omega
  clear hbw hn hx hr0 hrw htw ht q0 q1 q2 br
  go_enter Tryz.func3, Tryz.ntmps3
  have HX1 := Lib.hid (law_much (f + 1) _ W _ n (old_of HG.out HB0.out) HN.out bn)
  go_wp2_with fail
  refine HX1.out.mono ?_
  rintro e w1 ⟨rfl, hb⟩
  have HB1 := Lib.hid (HB0.out.trans (hb.mono HB0.out.size))
  have a1_0 := box_keep a0_0 hb; have a1_1 := box_keep a0_1 hb; have a1_2 := box_keep a0_2 hb; have a1_3 := box_keep a0_3 hb; have a1_4 := box_keep a0_4 hb; have a1_5 := box_keep a0_5 hb; have a1_6 := box_keep a0_6 hb; have a1_7 := box_keep a0_7 hb; have a1_8 := box_keep a0_8 hb; have a1_9 := box_keep a0_9 hb; have b1 := box_keep b0 hb; have c1_0 := box_keep c0_0 hb; have c1_1 := box_keep c0_1 hb; have c1_2 := box_keep c0_2 hb; have c1_3 := box_keep c0_3 hb
  clear hb a0_0 a0_1 a0_2 a0_3 a0_4 a0_5 a0_6 a0_7 a0_8 a0_9 b0 c0_0 c0_1 c0_2 c0_3
  generalize Nd.much (f + 1) n = m1 at *
  by_cases h1 : 600 < m1
  · have HAW := Lib.hid (awake32 w1 (HT.out.below (HBW.out.trans (HB1.out.mono HBW.out.size))))
    go_wp2_with fail
    refine HAW.out.mono ?_
    rintro e wa ⟨rfl, hb⟩
    have HBA := Lib.hid (HB1.out.trans (hb.mono HB1.out.size))
    clear hb
    go_wp2_with fail
    go_ret
    exact ⟨rfl, HBW.out.trans (HBA.out.mono HBW.out.size)⟩
  have HX2 := Lib.hid (muchWord_l f (law_much f) _ w1 _ x (old_of HG.out HB1.out) (HX.out.below HG.out HB1.out) bx)
  go_wp2_with fail
  refine HX2.out.mono ?_
  rintro e w2 ⟨rfl, hb⟩
  have HB2 := Lib.hid (HB1.out.trans (hb.mono HB1.out.size))
  have a2_0 := box_keep a1_0 hb; have a2_1 := box_keep a1_1 hb; have a2_2 := box_keep a1_2 hb; have a2_3 := box_keep a1_3 hb; have a2_4 := box_keep a1_4 hb; have a2_5 := box_keep a1_5 hb; have a2_6 := box_keep a1_6 hb; have a2_7 := box_keep a1_7 hb; have a2_8 := box_keep a1_8 hb; have a2_9 := box_keep a1_9 hb; have b2 := box_keep b1 hb; have c2_0 := box_keep c1_0 hb; have c2_1 := box_keep c1_1 hb; have c2_2 := box_keep c1_2 hb; have c2_3 := box_keep c1_3 hb
  clear hb a1_0 a1_1 a1_2 a1_3 a1_4 a1_5 a1_6 a1_7 a1_8 a1_9 b1 c1_0 c1_1 c1_2 c1_3
  generalize mWd (Nd.much f) x = m2 at *
  by_cases h2 : 300 < m2
  · have HAW := Lib.hid (awake32 w2 (HT.out.below (HBW.out.trans (HB2.out.mono HBW.out.size))))
    go_wp2_with fail
    refine HAW.out.mono ?_
    rintro e wa ⟨rfl, hb⟩
    have HBA := Lib.hid (HB2.out.trans (hb.mono HB2.out.size))
    clear hb
    go_wp2_with fail
    go_ret
    exact ⟨rfl, HBW.out.trans (HBA.out.mono HBW.out.size)⟩
  have HX3 := Lib.hid (muchWord_l f (law_much f) _ w2 _ tw (old_of HG.out HB2.out) (HTW.out.below HG.out HB2.out) hbt)
  go_wp2_with fail
  refine HX3.out.mono ?_
  rintro e w3 ⟨rfl, hb⟩
  have HB3 := Lib.hid (HB2.out.trans (hb.mono HB2.out.size))
  have a3_0 := box_keep a2_0 hb; have a3_1 := box_keep a2_1 hb; have a3_2 := box_keep a2_2 hb; have a3_3 := box_keep a2_3 hb; have a3_4 := box_keep a2_4 hb; have a3_5 := box_keep a2_5 hb; have a3_6 := box_keep a2_6 hb; have a3_7 := box_keep a2_7 hb; have a3_8 := box_keep a2_8 hb; have a3_9 := box_keep a2_9 hb; have b3 := box_keep b2 hb; have c3_0 := box_keep c2_0 hb; have c3_1 := box_keep c2_1 hb; have c3_2 := box_keep c2_2 hb; have c3_3 := box_keep c2_3 hb
  clear hb a2_0 a2_1 a2_2 a2_3 a2_4 a2_5 a2_6 a2_7 a2_8 a2_9 b2 c2_0 c2_1 c2_2 c2_3
  generalize mWd (Nd.much f) tw = m3 at *
  by_cases h3 : 300 < m3
  · have HAW := Lib.hid (awake32 w3 (HT.out.below (HBW.out.trans (HB3.out.mono HBW.out.size))))
    go_wp2_with fail
    refine HAW.out.mono ?_
    rintro e wa ⟨rfl, hb⟩
    have HBA := Lib.hid (HB3.out.trans (hb.mono HB3.out.size))
    clear hb
    go_wp2_with fail
    go_ret
    exact ⟨rfl, HBW.out.trans (HBA.out.mono HBW.out.size)⟩
  by_cases h4 : (1000 : Int) < (num.size : Int) + (here.size : Int)
  · have HAW := Lib.hid (awake32 w3 (HT.out.below (HBW.out.trans (HB3.out.mono HBW.out.size))))
    go_wp2_with fail
    refine HAW.out.mono ?_
    rintro e wa ⟨rfl, hb⟩
    have HBA := Lib.hid (HB3.out.trans (hb.mono HB3.out.size))
    clear hb
    go_wp2_with fail
    go_ret
    exact ⟨rfl, HBW.out.trans (HBA.out.mono HBW.out.size)⟩
  have HGW := Lib.hid (old_of HG.out HB3.out)
  have RSV := Lib.hid (HT.out.below (HBW.out.trans (HB3.out.mono HBW.out.size)))
  have HN3 := Lib.hid (HN.out.below HG.out HB3.out); have HX3' := Lib.hid (HX.out.below HG.out HB3.out); have HR3 := Lib.hid (HR.out.below HG.out HB3.out)
  have g1 := fun X : Gr w3 => X.calls ((prog_right (f + 1)).2.1 _ X.at_ _ n (old_of HGW.out X.2) (RSV.out.below X.2) (HN3.out.below HGW.out X.2))
  have g2 := fun X : Gr w3 => X.calls ((ref_right (f + 1)).2 _ X.at_ _ n (old_of HGW.out X.2) (HN3.out.below HGW.out X.2))
  have g3 := fun X : Gr w3 => X.calls (word_p f (prog_right f).2.1 _ X.at_ _ x (old_of HGW.out X.2) (RSV.out.below X.2) (HX3'.out.below HGW.out X.2))
  have g4 := fun X : Gr w3 => X.calls (word_r f (ref_right f).2 _ X.at_ _ x (old_of HGW.out X.2) (HX3'.out.below HGW.out X.2))
  have g5 := fun X : Gr w3 => X.calls (redir_n f (prog_right f).2.1 _ X.at_ _ _ (old_of HGW.out X.2) (RSV.out.below X.2) (HR3.out.below HGW.out X.2))
  have g6 := fun X : Gr w3 => X.calls (redir_m f (ref_right f).2 _ X.at_ _ _ (old_of HGW.out X.2) (HR3.out.below HGW.out X.2))
  have g7 := fun X : Gr w3 => X.calls (prog_count (f + 1) _ X.at_ _ n (old_of HGW.out X.2) (HN3.out.below HGW.out X.2) (by omega))
  have g8 := fun X : Gr w3 => X.calls (ref_count (f + 1) _ X.at_ _ n (old_of HGW.out X.2) (HN3.out.below HGW.out X.2) (by omega))
  have g9 := fun X : Gr w3 => X.calls (kind_p k X.at_)
  have g10 := fun X : Gr w3 => X.calls (kind_r k X.at_)
  have g11 := fun X : Gr w3 => X.calls (awake32 X.at_ (RSV.out.below X.2))
  have d0 := fun X : Gr w3 => X.cell _ _ a3_0
  have d1 := fun X : Gr w3 => X.cell _ _ a3_1
  have d2 := fun X : Gr w3 => X.cell _ _ a3_2
  have d3 := fun X : Gr w3 => X.cell _ _ a3_3
  have d4 := fun X : Gr w3 => X.cell _ _ a3_4
  have d5 := fun X : Gr w3 => X.cell _ _ a3_5
  have d6 := fun X : Gr w3 => X.cell _ _ a3_6
  have d7 := fun X : Gr w3 => X.cell _ _ a3_7
  have d8 := fun X : Gr w3 => X.cell _ _ a3_8
  have d9 := fun X : Gr w3 => X.cell _ _ a3_9
  have e0 := fun X : Gr w3 => X.cell _ _ b3
  have f0 := fun X : Gr w3 => X.cell _ _ c3_0
  have f1 := fun X : Gr w3 => X.cell _ _ c3_1
  have f2 := fun X : Gr w3 => X.cell _ _ c3_2
  have f3 := fun X : Gr w3 => X.cell _ _ c3_3
  have hne : Nonempty (Gr w3) := ⟨⟨_, Below.refl _ _⟩⟩
  unfold ag at g1 g2 g3 g4 g5 g6 g7 g8
  unfold bs at g9 g10
  clear hcn hbt
  generalize (Nd.vw (f + 1)).R n = r1 at *
  generalize wordB (Nd.vw f) x = r2 at *
  generalize redirB (Nd.vw f) ⟨num, op, tw, here⟩ = r3 at *
  generalize Nd.count (f + 1) n = r4 at *
  generalize kindN k = r5 at *
  go_wp2_with fail
  refine wp_region_class (S := Gr w3) Gr.at_ (by kernel_rfl) (by kernel_rfl) (Gr.drew _) ?_
  repeat (go_big_quiet_step (first | (with_reducible exact g1 _) | (with_reducible exact g2 _) | (with_reducible exact g3 _) | (with_reducible exact g4 _) | (with_reducible exact g5 _) | (with_reducible exact g6 _) | (with_reducible exact g7 _) | (with_reducible exact g8 _) | (with_reducible exact g9 _) | (with_reducible exact g10 _) | (with_reducible exact g11 _)))
  refine wpQuiet_nil ?_
  rintro X ⟨⟨X', hX⟩, hX2⟩
  obtain rfl : X = X' := hX2
  have HBX := Lib.hid (HB3.out.trans (hX.mono HB3.out.size))
  clear hX g1 g2 g3 g4 g5 g6 g7 g8 g9 g10 g11 d0 d1 d2 d3 d4 d5 d6 d7 d8 d9 e0 f0 f1 f2 f3 hne
  go_wp2_with fail
  go_ret
  exact ⟨rfl, HBW.out.trans (HBX.out.mono HBW.out.size)⟩
end Go.Proofs.YtjpopekmbmcggaaGreatDoor
namespace Go.Proofs.YtjpopekmbmcggaaGreatDoor
open Go.ChangeShapes Go.WideShapes Go.ChangeAt Go.RowKit
set_option linter.unusedVariables false
theorem own : ownKnob Tryz.prog.godebug = none := by kernel_rfl
theorem laidOut : laidOutB Tryz.prog = true := by kernel_rfl
theorem gRsv : Tryz.prog.globalNamed "conch/posix.reserved" = some 0 := by kernel_rfl
theorem tRsv : (Tryz.prog.globals[0]?).map (·.type) = some 158 := by kernel_rfl
theorem cStr : Tryz.prog.cellsOf 9 = 1 := by kernel_rfl
theorem cRsv : Tryz.prog.cellsOf 158 = 16 := by kernel_rfl
theorem cells_of_strs {H : Type} {enc : TypeId × Value → H} {P : Program} {w : World} {base : Nat} {sp : Nat → Bool} {held : Bool} {fuel : Nat} {t e : TypeId} {n : Nat} {cs : List Value} {zs : List (List UInt8)} {p : List MemPlace}
    (ht : P.underlying t = some (.array n e)) (he : P.underlying e = some .string) (hce : P.cellsOf e = 1) (hct : P.cellsOf t = n)
    (h : DataW.trod enc P w base sp held fuel t cs = some (.agg (zs.map fun z => .lit (.string z)), p)) : cs = zs.map bs := by
  cases fuel with
  | zero => simp [DataW.trod] at h
  | succ fuel =>
    simp only [DataW.trod, ht, hce, hct, Nat.mul_one] at h
    split at h
    · rename_i hl
      obtain ⟨xs, hm, hx⟩ := Option.map_eq_some_iff.1 h
      have hxs : xs.map (·.1) = zs.map fun z => (DataW.lit (.string z) : DataW H) := by
        have := congrArg Prod.fst hx
        simpa using this
      have hxl : xs.length = n := by simpa using Lib.mapM_length hm
      have hzl : zs.length = n := by
        have := congrArg List.length hxs
        simp at this
        omega
      apply List.ext_getElem?
      intro i
      by_cases hi : i < n
      · obtain ⟨b, hb, hf⟩ := Lib.mapM_at hm i i (by simp [hi])
        obtain ⟨z, hc, rfl, _⟩ := DataW.trod_string he hf
        have h1 : cs[i]? = some (.string z) := by
          have := congrArg (·[0]?) hc
          simpa [List.getElem?_take, List.getElem?_drop] using this
        have h2 : (xs.map (·.1))[i]? = some (DataW.lit (.string z.data.toList) : DataW H) := by simp [hb]
        rw [hxs] at h2
        simp only [List.getElem?_map, Option.map_eq_some_iff, DataW.lit.injEq, Lit.string.injEq] at h2
        obtain ⟨z', hz', rfl⟩ := h2
        rw [h1, List.getElem?_map, hz']
        show _ = some (Value.string ⟨z.data.toList.toArray⟩)
        rw [Lib.mk_data]
      · rw [List.getElem?_eq_none (by omega), List.getElem?_eq_none (by simp; omega)]
    · cases h
abbrev laidR : List (String × DataW Unit) := Rows.nodeTellsUptoRow.laid
theorem rsv_of_laid {W : World} (h : laidMetH Tryz.prog laidR W) : RsvAt W := by
  rw [MakeChecks.laidMetH_plain _ _ _ (by kernel_rfl)] at h
  obtain ⟨ps, ⟨g0, t0, cs0, f0, p0, q0, hg0, ht0, hv0, hd0, _⟩, _⟩ := h
  obtain rfl := Option.some.inj (gRsv.symm.trans hg0)
  obtain rfl := Option.some.inj (tRsv.symm.trans ht0)
  have e : (Rows.laid_conch_posix_reserved : DataW Unit) = .agg (rsvL.map fun z => .lit (.string z)) := rfl
  rw [e] at hd0
  have hcs := cells_of_strs Tryz.underlying158 Tryz.underlying9 cStr cRsv hd0
  have hc : cs0 = rsvVals := by
    apply Array.ext'
    rw [hcs]
    simp [rsvVals]
  unfold World.var? at hv0
  change (Tryz.prog.globalNamed "conch/posix.reserved").bind _ = _ at hv0
  rw [gRsv] at hv0
  simp only [Option.bind_some] at hv0
  unfold RsvAt
  split at hv0
  · rename_i cs t fr hh
    obtain rfl := Option.some.inj hv0
    rw [← hc]
    exact ⟨t, fr, hh⟩
  · cases hv0
noncomputable def laidWorld (os : Os) : World :=
  { World.holding Tryz.prog os ⟨#[], #[], []⟩ with heap := (World.holding Tryz.prog os ⟨#[], #[], []⟩).heap.modify 0 fun
      | .cells _ t frozen => .cells rsvVals t frozen
      | o => o }
set_option maxRecDepth 100000 in
theorem laid_met (os : Os) (args : Array Value) : laidMetH Tryz.prog laidR ((laidWorld os).forCall (fun _ _ => 0) ⟨#[], args, []⟩).memory := by
  rw [MakeChecks.laidMetH_plain _ _ _ (by kernel_rfl)]
  exact laidMet_of_run' 8 (by kernel_rfl) (by kernel_rfl)
end Go.Proofs.YtjpopekmbmcggaaGreatDoor
