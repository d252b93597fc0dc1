/- Towards nodeJoins_card: NdJoinsL. Merged from smaller texts by a program of the author's. -/
import Derived.Test.YtjpopekmbmcggaaGreatDoorJ08
import Derived.Test.YtjpopekmbmcggaaGreatDoorJ29
import Derived.Test.YtjpopekmbmcggaaGreatDoorJ28
import Derived.Test.YtjpopekmbmcggaaGreatDoorJ25
namespace Go.Proofs.YtjpopekmbmcggaaGreatDoor
open Go.RowKit
theorem wpAnyH_named {P : Program} {md : Region.Mode} {ops : Array Oper} {Q : Exit → Act → World → Prop} {S : World → Prop} (fuel : Nat) (listed : Array Bool) (A : Array Value) (d : List Deferred) (w : World)
    (h : ∀ (T : Nat → Array Bool → Array Value → World → Prop) (B : Array Value), T = (fun f l a X => wpAnyH P md ops Q S f l ⟨a, d⟩ X) → B = A → T fuel listed B w) : wpAnyH P md ops Q S fuel listed ⟨A, d⟩ w :=
  h _ _ rfl rfl
theorem len_tot {β : Type} {C : β → Nat} (h : ∀ x, 1 ≤ C x) : ∀ l : List β, l.length ≤ tot C l
  | [] => by simp [tot]
  | x :: l => by have := h x; have := len_tot h l; rw [List.length_cons, tot]; omega
theorem Nd.wt_one : ∀ (f : Nat) (x : Nd f), 1 ≤ Nd.wt f x
  | 0, x => Empty.elim x
  | f + 1, x => by show 1 ≤ wtF (Nd.wt f) x; unfold wtF; omega
theorem Nd.right_open {f : Nat} {x : Nd (f + 1)} (h : (Nd.vw (f + 1)).R x = true) : NdF.k x = 1 ∧ rightF (Nd.vw f) x = true := by
  unfold Vw.R at h
  rw [Bool.and_eq_true, beq_iff_eq] at h
  exact h
theorem joins_facts {f : Nat} (a b c : NdF (Nd f)) (hc : c = joinN a b) (ha : (Nd.vw (f + 1)).R a = true) (hb : (Nd.vw (f + 1)).R b = true) :
    (Nd.vw (f + 1)).R c = true ∧ Nd.count (f + 1) c + 1 = Nd.count (f + 1) a + Nd.count (f + 1) b := by
  subst hc
  obtain ⟨ka, ra⟩ := Nd.right_open (x := a) ha
  obtain ⟨kb, rb⟩ := Nd.right_open (x := b) hb
  have h1 : rightF (Nd.vw f) (joinN a b) = true := joins_right ka kb ra rb
  refine ⟨?_, joins_count ka kb ra rb⟩
  show ((joinN a b).k == 1 && rightF (Nd.vw f) (joinN a b)) = true
  rw [h1]
  rfl
set_option maxRecDepth 100000 in
set_option maxHeartbeats 64000000 in
theorem nodeJoins_walk (f : Nat) (w : World) (va vb : List Value) (a b : Nd (f + 1)) (ht : RsvAt w) (ha : NdV (f + 1) (Old w) w va a) (hbn : NdV (f + 1) (Old w) w vb b) (ba : Nd.wt (f + 1) a ≤ 268435456) (bb : Nd.wt (f + 1) b ≤ 268435456) :
    Calls Tryz.prog 6 #[ag va, ag vb] w fun e w' => e = .returned (.bool true) ∧ Below w.heap.size w w' := by
  have hG : ∀ k, Old w k → k < w.heap.size := fun _ h => h
  have hca : Nd.count (f + 1) a ≤ 268435456 := Nat.le_trans (Nd.count_le (f + 1) a) ba
  have hcb : Nd.count (f + 1) b ≤ 268435456 := Nat.le_trans (Nd.count_le (f + 1) b) bb
  have LMA := Lib.hid (fun (G : Nat → Prop) (X : World) (vs : List Value) (h1 : ∀ k, G k → k < X.heap.size) (h2 : NdV (f + 1) G X vs a) => law_much (f + 1) G X vs a h1 h2 ba)
  have LMB := Lib.hid (fun (G : Nat → Prop) (X : World) (vs : List Value) (h1 : ∀ k, G k → k < X.heap.size) (h2 : NdV (f + 1) G X vs b) => law_much (f + 1) G X vs b h1 h2 bb)
  have LCA := Lib.hid (fun (G : Nat → Prop) (X : World) (vs : List Value) (h1 : ∀ k, G k → k < X.heap.size) (h2 : NdV (f + 1) G X vs a) => prog_count (f + 1) G X vs a h1 h2 (by omega))
  have LCB := Lib.hid (fun (G : Nat → Prop) (X : World) (vs : List Value) (h1 : ∀ k, G k → k < X.heap.size) (h2 : NdV (f + 1) G X vs b) => prog_count (f + 1) G X vs b h1 h2 (by omega))
  generalize Nd.much (f + 1) a = ma at *
  generalize Nd.much (f + 1) b = mb at *
  have hna : ∃ na : NdF (Nd f), na = a := ⟨a, rfl⟩
  obtain ⟨na, hna⟩ := hna
  have hnb : ∃ nb : NdF (Nd f), nb = b := ⟨b, rfl⟩
  obtain ⟨nb, hnb⟩ := hnb
  have hwa : wtF (Nd.wt f) na ≤ 268435456 := by rw [hna]; exact ba
  have hwb : wtF (Nd.wt f) nb ≤ 268435456 := by rw [hnb]; exact bb
  have HA := Lib.hid ha; have HB := Lib.hid hbn
  obtain ⟨ky, s, nt, ni, ops, asg, wds, rds, ars, kds⟩ := na
  obtain ⟨kyx, sx, ntx, nix, opsx, asgx, wdsx, rdsx, arsx, kdsx⟩ := nb
  obtain ⟨A4, c4, A5, c5, A6, c6, A7, c7, A8, c8, A9, c9, rfl, hns, hal, hl4, hl5, hl6, hl7, hl8, hl9, hso, hsa, hsw, hsr, hsm, hsk⟩ := NdV.open (hna ▸ ha)
  obtain ⟨B4, e4, B5, e5, B6, e6, B7, e7, B8, e8, B9, e9, rfl, hns2, hal2, hm4, hm5, hm6, hm7, hm8, hm9, tso, tsa, tsw, tsr, tsm, tsk⟩ := NdV.open (hnb ▸ hbn)
  have hk1 := len_tot (Nd.wt_one f) kds; have hk2 := len_tot (Nd.wt_one f) kdsx
  unfold wtF at hwa hwb
  simp only at hwa hwb
  have hkl : kds.length + kdsx.length ≤ 1073741824 ∧ kds.length ≤ 1073741824 ∧ ops.length + opsx.length ≤ 1073741824 ∧ ops.length ≤ 1073741824 := by omega
  obtain ⟨nj, hnj⟩ : ∃ c : NdF (Nd f), c = NdF.mk 1 ByteArray.empty false false (ops ++ opsx) [] [] [] [] (kds ++ kdsx) := ⟨_, rfl⟩
  have HJ := Lib.hid (joins_facts a b nj (by rw [hnj, ← hna, ← hnb]; rfl))
  obtain ⟨hkl1, hkl2, hkl3, hkl4⟩ := hkl
  have HSO := Lib.hid hso; have HSK := Lib.hid hsk; have TSO := Lib.hid tso; have TSK := Lib.hid tsk
  have HNJ := Lib.hid hnj
  clear hso hsa hsw hsr hsm hsk tso tsa tsw tsr tsm tsk ha hbn hk1 hk2 hwa hwb ba bb hna hnb hnj
  show Calls Tryz.prog 6 #[.agg #[.int .i64 ky, .string s, .bool nt, .bool ni, .slice A4 ops.length c4, .slice A5 asg.length c5, .slice A6 wds.length c6, .slice A7 rds.length c7, .slice A8 ars.length c8, .slice A9 kds.length c9], .agg #[.int .i64 kyx, .string sx, .bool ntx, .bool nix, .slice B4 opsx.length e4, .slice B5 asgx.length e5, .slice B6 wdsx.length e6, .slice B7 rdsx.length e7, .slice B8 arsx.length e8, .slice B9 kdsx.length e9]] w _
  have hbw : Below w.heap.size w ((w.alloc (.cells #[.int .i64 ky, .string s, .bool nt, .bool ni, .slice A4 ops.length c4, .slice A5 asg.length c5, .slice A6 wds.length c6, .slice A7 rds.length c7, .slice A8 ars.length c8, .slice A9 kds.length c9] 28)).alloc (.cells #[.int .i64 kyx, .string sx, .bool ntx, .bool nix, .slice B4 opsx.length e4, .slice B5 asgx.length e5, .slice B6 wdsx.length e6, .slice B7 rdsx.length e7, .slice B8 arsx.length e8, .slice B9 kdsx.length e9] 28)) := ((Below.refl _ _).alloc (Nat.le_refl _) _).alloc (by simp) _
  obtain ⟨q0, q1⟩ := two_blocks w (.cells #[.int .i64 ky, .string s, .bool nt, .bool ni, .slice A4 ops.length c4, .slice A5 asg.length c5, .slice A6 wds.length c6, .slice A7 rds.length c7, .slice A8 ars.length c8, .slice A9 kds.length c9] 28) (.cells #[.int .i64 kyx, .string sx, .bool ntx, .bool nix, .slice B4 opsx.length e4, .slice B5 asgx.length e5, .slice B6 wdsx.length e6, .slice B7 rdsx.length e7, .slice B8 arsx.length e8, .slice B9 kdsx.length e9] 28)
  generalize hW : (w.alloc (.cells #[.int .i64 ky, .string s, .bool nt, .bool ni, .slice A4 ops.length c4, .slice A5 asg.length c5, .slice A6 wds.length c6, .slice A7 rds.length c7, .slice A8 ars.length c8, .slice A9 kds.length c9] 28)).alloc (.cells #[.int .i64 kyx, .string sx, .bool ntx, .bool nix, .slice B4 opsx.length e4, .slice B5 asgx.length e5, .slice B6 wdsx.length e6, .slice B7 rdsx.length e7, .slice B8 arsx.length e8, .slice B9 kdsx.length e9] 28) = W at *
  have a0_0 : W.cell? ⟨w.heap.size, 0, none⟩ = some (.int .i64 ky) := box_at q0 _ (Below.refl _ _) 0 _ rfl
  have a0_1 : W.cell? ⟨w.heap.size, 1, none⟩ = some (.string s) := box_at q0 _ (Below.refl _ _) 1 _ rfl
  have a0_2 : W.cell? ⟨w.heap.size, 2, none⟩ = some (.bool nt) := box_at q0 _ (Below.refl _ _) 2 _ rfl
  have a0_3 : W.cell? ⟨w.heap.size, 3, none⟩ = some (.bool ni) := box_at q0 _ (Below.refl _ _) 3 _ rfl
  have a0_4 : W.cell? ⟨w.heap.size, 4, none⟩ = some (.slice A4 ops.length c4) := box_at q0 _ (Below.refl _ _) 4 _ rfl
  have a0_5 : W.cell? ⟨w.heap.size, 5, none⟩ = some (.slice A5 asg.length c5) := box_at q0 _ (Below.refl _ _) 5 _ rfl
  have a0_6 : W.cell? ⟨w.heap.size, 6, none⟩ = some (.slice A6 wds.length c6) := box_at q0 _ (Below.refl _ _) 6 _ rfl
  have a0_7 : W.cell? ⟨w.heap.size, 7, none⟩ = some (.slice A7 rds.length c7) := box_at q0 _ (Below.refl _ _) 7 _ rfl
  have a0_8 : W.cell? ⟨w.heap.size, 8, none⟩ = some (.slice A8 ars.length c8) := box_at q0 _ (Below.refl _ _) 8 _ rfl
  have a0_9 : W.cell? ⟨w.heap.size, 9, none⟩ = some (.slice A9 kds.length c9) := box_at q0 _ (Below.refl _ _) 9 _ rfl
  have b0_0 : W.cell? ⟨w.heap.size + 1, 0, none⟩ = some (.int .i64 kyx) := box_at q1 _ (Below.refl _ _) 0 _ rfl
  have b0_1 : W.cell? ⟨w.heap.size + 1, 1, none⟩ = some (.string sx) := box_at q1 _ (Below.refl _ _) 1 _ rfl
  have b0_2 : W.cell? ⟨w.heap.size + 1, 2, none⟩ = some (.bool ntx) := box_at q1 _ (Below.refl _ _) 2 _ rfl
  have b0_3 : W.cell? ⟨w.heap.size + 1, 3, none⟩ = some (.bool nix) := box_at q1 _ (Below.refl _ _) 3 _ rfl
  have b0_4 : W.cell? ⟨w.heap.size + 1, 4, none⟩ = some (.slice B4 opsx.length e4) := box_at q1 _ (Below.refl _ _) 4 _ rfl
  have b0_5 : W.cell? ⟨w.heap.size + 1, 5, none⟩ = some (.slice B5 asgx.length e5) := box_at q1 _ (Below.refl _ _) 5 _ rfl
  have b0_6 : W.cell? ⟨w.heap.size + 1, 6, none⟩ = some (.slice B6 wdsx.length e6) := box_at q1 _ (Below.refl _ _) 6 _ rfl
  have b0_7 : W.cell? ⟨w.heap.size + 1, 7, none⟩ = some (.slice B7 rdsx.length e7) := box_at q1 _ (Below.refl _ _) 7 _ rfl
  have b0_8 : W.cell? ⟨w.heap.size + 1, 8, none⟩ = some (.slice B8 arsx.length e8) := box_at q1 _ (Below.refl _ _) 8 _ rfl
  have b0_9 : W.cell? ⟨w.heap.size + 1, 9, none⟩ = some (.slice B9 kdsx.length e9) := box_at q1 _ (Below.refl _ _) 9 _ rfl
  have HN := Lib.hid (HA.out.below hG hbw); have HM := Lib.hid (HB.out.below hG hbw)
  have HG0 := Lib.hid hG
  have HG := Lib.hid (old_of hG hbw); have HT := Lib.hid ht; have HBW := Lib.hid hbw; have HB0 := Lib.hid (Below.refl W.heap.size W)
  clear hbw ht q0 q1 hG
  go_enter Tryz.func6, Tryz.ntmps6
  have HX1 := Lib.hid (LMA.out _ W _ (old_of HG.out HB0.out) HN.out)
  go_wp2_with fail
  refine HX1.out.mono ?_
  rintro e w1 ⟨rfl, hb⟩
  have HB1 := Lib.hid (HB0.out.trans (hb.mono HB0.out.size))
  have a1_0 := box_keep a0_0 hb; have b1_0 := box_keep b0_0 hb; have a1_1 := box_keep a0_1 hb; have b1_1 := box_keep b0_1 hb; have a1_2 := box_keep a0_2 hb; have b1_2 := box_keep b0_2 hb; have a1_3 := box_keep a0_3 hb; have b1_3 := box_keep b0_3 hb; have a1_4 := box_keep a0_4 hb; have b1_4 := box_keep b0_4 hb; have a1_5 := box_keep a0_5 hb; have b1_5 := box_keep b0_5 hb; have a1_6 := box_keep a0_6 hb; have b1_6 := box_keep b0_6 hb; have a1_7 := box_keep a0_7 hb; have b1_7 := box_keep b0_7 hb; have a1_8 := box_keep a0_8 hb; have b1_8 := box_keep b0_8 hb; have a1_9 := box_keep a0_9 hb; have b1_9 := box_keep b0_9 hb
  clear hb a0_0 b0_0 a0_1 b0_1 a0_2 b0_2 a0_3 b0_3 a0_4 b0_4 a0_5 b0_5 a0_6 b0_6 a0_7 b0_7 a0_8 b0_8 a0_9 b0_9
  by_cases h1 : 300 < ma
  · have HAW := Lib.hid (awake32 w1 (HT.out.below (HBW.out.trans (HB1.out.mono HBW.out.size))))
    go_wp2_with fail
    refine HAW.out.mono ?_
    rintro e wa ⟨rfl, hb⟩
    have HBA := Lib.hid (HB1.out.trans (hb.mono HB1.out.size))
    clear hb
    go_wp2_with fail
    go_ret
    exact ⟨rfl, HBW.out.trans (HBA.out.mono HBW.out.size)⟩
  have HX2 := Lib.hid (LMB.out _ w1 _ (old_of HG.out HB1.out) (HM.out.below HG.out HB1.out))
  go_wp2_with fail
  refine HX2.out.mono ?_
  rintro e w2 ⟨rfl, hb⟩
  have HB2 := Lib.hid (HB1.out.trans (hb.mono HB1.out.size))
  have a2_0 := box_keep a1_0 hb; have b2_0 := box_keep b1_0 hb; have a2_1 := box_keep a1_1 hb; have b2_1 := box_keep b1_1 hb; have a2_2 := box_keep a1_2 hb; have b2_2 := box_keep b1_2 hb; have a2_3 := box_keep a1_3 hb; have b2_3 := box_keep b1_3 hb; have a2_4 := box_keep a1_4 hb; have b2_4 := box_keep b1_4 hb; have a2_5 := box_keep a1_5 hb; have b2_5 := box_keep b1_5 hb; have a2_6 := box_keep a1_6 hb; have b2_6 := box_keep b1_6 hb; have a2_7 := box_keep a1_7 hb; have b2_7 := box_keep b1_7 hb; have a2_8 := box_keep a1_8 hb; have b2_8 := box_keep b1_8 hb; have a2_9 := box_keep a1_9 hb; have b2_9 := box_keep b1_9 hb
  clear hb a1_0 b1_0 a1_1 b1_1 a1_2 b1_2 a1_3 b1_3 a1_4 b1_4 a1_5 b1_5 a1_6 b1_6 a1_7 b1_7 a1_8 b1_8 a1_9 b1_9
  by_cases h2 : 300 < mb
  · have HAW := Lib.hid (awake32 w2 (HT.out.below (HBW.out.trans (HB2.out.mono HBW.out.size))))
    go_wp2_with fail
    refine HAW.out.mono ?_
    rintro e wa ⟨rfl, hb⟩
    have HBA := Lib.hid (HB2.out.trans (hb.mono HB2.out.size))
    clear hb
    go_wp2_with fail
    go_ret
    exact ⟨rfl, HBW.out.trans (HBA.out.mono HBW.out.size)⟩
  have HX3 := Lib.hid ((prog_right (f + 1)).2.1 _ w2 _ _ (old_of HG.out HB2.out) (HT.out.below (HBW.out.trans (HB2.out.mono HBW.out.size))) (HN.out.below HG.out HB2.out))
  go_wp2_with fail
  refine HX3.out.mono ?_
  rintro e w3 ⟨he, hb⟩
  have HB3 := Lib.hid (HB2.out.trans (hb.mono HB2.out.size))
  have a3_0 := box_keep a2_0 hb; have b3_0 := box_keep b2_0 hb; have a3_1 := box_keep a2_1 hb; have b3_1 := box_keep b2_1 hb; have a3_2 := box_keep a2_2 hb; have b3_2 := box_keep b2_2 hb; have a3_3 := box_keep a2_3 hb; have b3_3 := box_keep b2_3 hb; have a3_4 := box_keep a2_4 hb; have b3_4 := box_keep b2_4 hb; have a3_5 := box_keep a2_5 hb; have b3_5 := box_keep b2_5 hb; have a3_6 := box_keep a2_6 hb; have b3_6 := box_keep b2_6 hb; have a3_7 := box_keep a2_7 hb; have b3_7 := box_keep b2_7 hb; have a3_8 := box_keep a2_8 hb; have b3_8 := box_keep b2_8 hb; have a3_9 := box_keep a2_9 hb; have b3_9 := box_keep b2_9 hb
  clear hb a2_0 b2_0 a2_1 b2_1 a2_2 b2_2 a2_3 b2_3 a2_4 b2_4 a2_5 b2_5 a2_6 b2_6 a2_7 b2_7 a2_8 b2_8 a2_9 b2_9
  cases hra : (Nd.vw (f + 1)).R a
  · rw [hra] at he
    subst he
    clear hra
    have HAW := Lib.hid (awake32 w3 (HT.out.below (HBW.out.trans (HB3.out.mono HBW.out.size))))
    go_wp2_with fail
    refine HAW.out.mono ?_
    rintro e wa ⟨rfl, hb⟩
    have HBA := Lib.hid (HB3.out.trans (hb.mono HB3.out.size))
    clear hb
    go_wp2_with fail
    go_ret
    exact ⟨rfl, HBW.out.trans (HBA.out.mono HBW.out.size)⟩
  rw [hra] at he
  subst he
  have HRA := Lib.hid hra
  clear hra
  have HX4 := Lib.hid ((prog_right (f + 1)).2.1 _ w3 _ _ (old_of HG.out HB3.out) (HT.out.below (HBW.out.trans (HB3.out.mono HBW.out.size))) (HM.out.below HG.out HB3.out))
  go_wp2_with fail
  refine HX4.out.mono ?_
  rintro e w4 ⟨he, hb⟩
  have HB4 := Lib.hid (HB3.out.trans (hb.mono HB3.out.size))
  have a4_0 := box_keep a3_0 hb; have b4_0 := box_keep b3_0 hb; have a4_1 := box_keep a3_1 hb; have b4_1 := box_keep b3_1 hb; have a4_2 := box_keep a3_2 hb; have b4_2 := box_keep b3_2 hb; have a4_3 := box_keep a3_3 hb; have b4_3 := box_keep b3_3 hb; have a4_4 := box_keep a3_4 hb; have b4_4 := box_keep b3_4 hb; have a4_5 := box_keep a3_5 hb; have b4_5 := box_keep b3_5 hb; have a4_6 := box_keep a3_6 hb; have b4_6 := box_keep b3_6 hb; have a4_7 := box_keep a3_7 hb; have b4_7 := box_keep b3_7 hb; have a4_8 := box_keep a3_8 hb; have b4_8 := box_keep b3_8 hb; have a4_9 := box_keep a3_9 hb; have b4_9 := box_keep b3_9 hb
  clear hb a3_0 b3_0 a3_1 b3_1 a3_2 b3_2 a3_3 b3_3 a3_4 b3_4 a3_5 b3_5 a3_6 b3_6 a3_7 b3_7 a3_8 b3_8 a3_9 b3_9
  cases hrb : (Nd.vw (f + 1)).R b
  · rw [hrb] at he
    subst he
    clear hrb
    have HAW := Lib.hid (awake32 w4 (HT.out.below (HBW.out.trans (HB4.out.mono HBW.out.size))))
    go_wp2_with fail
    refine HAW.out.mono ?_
    rintro e wa ⟨rfl, hb⟩
    have HBA := Lib.hid (HB4.out.trans (hb.mono HB4.out.size))
    clear hb
    go_wp2_with fail
    go_ret
    exact ⟨rfl, HBW.out.trans (HBA.out.mono HBW.out.size)⟩
  rw [hrb] at he
  subst he
  have HRB := Lib.hid hrb
  clear hrb
  have HW4 := Lib.hid (HBW.out.trans (HB4.out.mono HBW.out.size))
  have HG4 := Lib.hid (old_of HG0.out HW4.out)
  have HPK := Lib.hid (show ∀ X, Below w4.heap.size w4 X → SlAt (Old w) X 10 (NdV f (Old w) w4) (.slice A9 kds.length c9) kds from fun X hX => HSK.out.keep (fun _ h => h) (keep_of HG0.out (HW4.out.trans (hX.mono HW4.out.size))) fun _ _ h => h.below HG0.out HW4.out)
  have HPK2 := Lib.hid (show ∀ X, Below w4.heap.size w4 X → SlAt (Old w) X 10 (NdV f (Old w) w4) (.slice B9 kdsx.length e9) kdsx from fun X hX => TSK.out.keep (fun _ h => h) (keep_of HG0.out (HW4.out.trans (hX.mono HW4.out.size))) fun _ _ h => h.below HG0.out HW4.out)
  have HPO := Lib.hid (show ∀ X, Below w4.heap.size w4 X → SlAt (Old w) X 1 IntV (.slice A4 ops.length c4) ops from fun X hX => HSO.out.onI HG0.out (HW4.out.trans (hX.mono HW4.out.size)))
  have HPO2 := Lib.hid (show ∀ X, Below w4.heap.size w4 X → SlAt (Old w) X 1 IntV (.slice B4 opsx.length e4) opsx from fun X hX => TSO.out.onI HG0.out (HW4.out.trans (hX.mono HW4.out.size)))
  have HL1 := Lib.hid (show ([] : List (Nd f)).length + kds.length ≤ 1073741824 by simp; omega)
  have HL2 := Lib.hid (show (([] : List (Nd f)) ++ kds).length + kdsx.length ≤ 1073741824 by simp; omega)
  have HL3 := Lib.hid (show ([] : List Int).length + ops.length ≤ 1073741824 by simp; omega)
  have HL4 := Lib.hid (show (([] : List Int) ++ ops).length + opsx.length ≤ 1073741824 by simp; omega)
  have HK := Lib.hid (show ∀ X, Below w4.heap.size w4 X → X.cell? ⟨w.heap.size, 9, none⟩ = some (.slice A9 kds.length c9) ∧ X.cell? ⟨w.heap.size, 4, none⟩ = some (.slice A4 ops.length c4) ∧ X.cell? ⟨w.heap.size + 1, 9, none⟩ = some (.slice B9 kdsx.length e9) ∧ X.cell? ⟨w.heap.size + 1, 4, none⟩ = some (.slice B4 opsx.length e4) from fun X hX => ⟨box_keep a4_9 hX, box_keep a4_4 hX, box_keep b4_9 hX, box_keep b4_4 hX⟩)
  have HKA := Lib.hid (show ∀ X, Below w4.heap.size w4 X → X.cell? ⟨w.heap.size, 0, none⟩ = some (.int .i64 ky) ∧ X.cell? ⟨w.heap.size + 1, 0, none⟩ = some (.int .i64 kyx) ∧ X.cell? ⟨w.heap.size, 1, none⟩ = some (.string s) ∧ X.cell? ⟨w.heap.size + 1, 1, none⟩ = some (.string sx) ∧ X.cell? ⟨w.heap.size, 2, none⟩ = some (.bool nt) ∧ X.cell? ⟨w.heap.size + 1, 2, none⟩ = some (.bool ntx) ∧ X.cell? ⟨w.heap.size, 3, none⟩ = some (.bool ni) ∧ X.cell? ⟨w.heap.size + 1, 3, none⟩ = some (.bool nix) ∧ X.cell? ⟨w.heap.size, 4, none⟩ = some (.slice A4 ops.length c4) ∧ X.cell? ⟨w.heap.size + 1, 4, none⟩ = some (.slice B4 opsx.length e4) ∧ X.cell? ⟨w.heap.size, 5, none⟩ = some (.slice A5 asg.length c5) ∧ X.cell? ⟨w.heap.size + 1, 5, none⟩ = some (.slice B5 asgx.length e5) ∧ X.cell? ⟨w.heap.size, 6, none⟩ = some (.slice A6 wds.length c6) ∧ X.cell? ⟨w.heap.size + 1, 6, none⟩ = some (.slice B6 wdsx.length e6) ∧ X.cell? ⟨w.heap.size, 7, none⟩ = some (.slice A7 rds.length c7) ∧ X.cell? ⟨w.heap.size + 1, 7, none⟩ = some (.slice B7 rdsx.length e7) ∧ X.cell? ⟨w.heap.size, 8, none⟩ = some (.slice A8 ars.length c8) ∧ X.cell? ⟨w.heap.size + 1, 8, none⟩ = some (.slice B8 arsx.length e8) ∧ X.cell? ⟨w.heap.size, 9, none⟩ = some (.slice A9 kds.length c9) ∧ X.cell? ⟨w.heap.size + 1, 9, none⟩ = some (.slice B9 kdsx.length e9) from fun X hX => ⟨box_keep a4_0 hX, box_keep b4_0 hX, box_keep a4_1 hX, box_keep b4_1 hX, box_keep a4_2 hX, box_keep b4_2 hX, box_keep a4_3 hX, box_keep b4_3 hX, box_keep a4_4 hX, box_keep b4_4 hX, box_keep a4_5 hX, box_keep b4_5 hX, box_keep a4_6 hX, box_keep b4_6 hX, box_keep a4_7 hX, box_keep b4_7 hX, box_keep a4_8 hX, box_keep b4_8 hX, box_keep a4_9 hX, box_keep b4_9 hX⟩)
  clear a4_0 b4_0 a4_1 b4_1 a4_2 b4_2 a4_3 b4_3 a4_5 b4_5 a4_6 b4_6 a4_7 b4_7 a4_8 b4_8
  go_wp2_with fail
  go_cut [5] from 25 to 39 (fun v5 wx => ∃ g : Nat, v5 = .pointer (some ⟨g, 0, none⟩) ∧ Jfin w4 g ([] ++ kds ++ kdsx) ([] ++ ops ++ opsx) wx)
  case first =>
    have hj := Jn.first w4 (NdV f (Old w) w4)
    refine wp_region_held_drew (S := fun X => X.cell? ⟨w.heap.size, 9, none⟩ = some (.slice A9 kds.length c9) ∧ X.cell? ⟨w.heap.size, 4, none⟩ = some (.slice A4 ops.length c4) ∧ X.cell? ⟨w.heap.size + 1, 9, none⟩ = some (.slice B9 kdsx.length e9) ∧ X.cell? ⟨w.heap.size + 1, 4, none⟩ = some (.slice B4 opsx.length e4)) (by kernel_rfl) ?hs0 (fun hHeld => ?hr0)
    case hs0 => exact HK.out _ (by repeat (first | exact hj.below | exact Below.refl _ _ | (with_reducible refine Below.drew ?_) | (with_reducible refine Below.grow ?_ _) | (with_reducible refine Below.setCell ?_ (by first | exact (hj.al _ rfl).1 | (have := hj.below.size; simp; omega)) _)))
    case hr0 =>
      refine wpAnyH_take (i := 1) (oi := _) (v := ?v1) rfl (by kernel_rfl) (by kernel_rfl) (by kernel_rfl) (fun _ _ _ h => h) (Or.inl ⟨by rfl, ?hy1⟩) (by assumption) ?hr1
      case hy1 =>
        intro w hSw
        try dsimp only at hSw
        simp only [List.getElem_toArray, List.getElem_cons_succ, List.getElem_cons_zero]
        go_simp
        try with_reducible rfl
      simp only [List.getElem_toArray, List.getElem_cons_succ, List.getElem_cons_zero, Act.put, List.setIfInBounds_toArray, List.set_cons_zero, List.set_cons_succ]
      refine wpAnyH_take (i := 2) (oi := _) (v := ?v2) rfl (by kernel_rfl) (by kernel_rfl) (by kernel_rfl) (fun _ _ _ h => h) (Or.inl ⟨by rfl, ?hy2⟩) (by assumption) ?hr2
      case hy2 =>
        intro w hSw
        try dsimp only at hSw
        simp only [List.getElem_toArray, List.getElem_cons_succ, List.getElem_cons_zero]
        go_simp
        try with_reducible rfl
      simp only [List.getElem_toArray, List.getElem_cons_succ, List.getElem_cons_zero, Act.put, List.setIfInBounds_toArray, List.set_cons_zero, List.set_cons_succ]
      refine wpAnyH_take (i := 4) (oi := _) (v := ?v4) rfl (by kernel_rfl) (by kernel_rfl) (by kernel_rfl) (fun _ _ _ h => h) (Or.inl ⟨by rfl, ?hy4⟩) (by assumption) ?hr4
      case hy4 =>
        intro w hSw
        try dsimp only at hSw
        simp only [List.getElem_toArray, List.getElem_cons_succ, List.getElem_cons_zero]
        go_simp
        try with_reducible rfl
      simp only [List.getElem_toArray, List.getElem_cons_succ, List.getElem_cons_zero, Act.put, List.setIfInBounds_toArray, List.set_cons_zero, List.set_cons_succ]
      refine wpAnyH_take (i := 5) (oi := _) (v := ?v5) rfl (by kernel_rfl) (by kernel_rfl) (by kernel_rfl) (fun _ _ _ h => h) (Or.inl ⟨by rfl, ?hy5⟩) (by assumption) ?hr5
      case hy5 =>
        intro w hSw
        try dsimp only at hSw
        simp only [List.getElem_toArray, List.getElem_cons_succ, List.getElem_cons_zero]
        go_simp
        try with_reducible rfl
      simp only [List.getElem_toArray, List.getElem_cons_succ, List.getElem_cons_zero, Act.put, List.setIfInBounds_toArray, List.set_cons_zero, List.set_cons_succ]
      refine wpAnyH_take (i := 8) (oi := _) (v := ?v8) rfl (by kernel_rfl) (by kernel_rfl) (by kernel_rfl) (fun _ _ _ h => h) (Or.inl ⟨by rfl, ?hy8⟩) (by assumption) ?hr8
      case hy8 =>
        intro w hSw
        try dsimp only at hSw
        simp only [List.getElem_toArray, List.getElem_cons_succ, List.getElem_cons_zero]
        go_simp
        try with_reducible rfl
      simp only [List.getElem_toArray, List.getElem_cons_succ, List.getElem_cons_zero, Act.put, List.setIfInBounds_toArray, List.set_cons_zero, List.set_cons_succ]
      refine wpAnyH_take (i := 9) (oi := _) (v := ?v9) rfl (by kernel_rfl) (by kernel_rfl) (by kernel_rfl) (fun _ _ _ h => h) (Or.inl ⟨by rfl, ?hy9⟩) (by assumption) ?hr9
      case hy9 =>
        intro w hSw
        try dsimp only at hSw
        simp only [List.getElem_toArray, List.getElem_cons_succ, List.getElem_cons_zero]
        go_simp
        try with_reducible rfl
      simp only [List.getElem_toArray, List.getElem_cons_succ, List.getElem_cons_zero, Act.put, List.setIfInBounds_toArray, List.set_cons_zero, List.set_cons_succ]
      refine wpAnyH_take (i := 11) (oi := _) (v := ?v11) rfl (by kernel_rfl) (by kernel_rfl) (by kernel_rfl) (fun _ _ _ h => h) (Or.inl ⟨by rfl, ?hy11⟩) (by assumption) ?hr11
      case hy11 =>
        intro w hSw
        try dsimp only at hSw
        simp only [List.getElem_toArray, List.getElem_cons_succ, List.getElem_cons_zero]
        go_simp
        try with_reducible rfl
      simp only [List.getElem_toArray, List.getElem_cons_succ, List.getElem_cons_zero, Act.put, List.setIfInBounds_toArray, List.set_cons_zero, List.set_cons_succ]
      refine wpAnyH_take (i := 12) (oi := _) (v := ?v12) rfl (by kernel_rfl) (by kernel_rfl) (by kernel_rfl) (fun _ _ _ h => h) (Or.inl ⟨by rfl, ?hy12⟩) (by assumption) ?hr12
      case hy12 =>
        intro w hSw
        try dsimp only at hSw
        simp only [List.getElem_toArray, List.getElem_cons_succ, List.getElem_cons_zero]
        go_simp
        try with_reducible rfl
      simp only [List.getElem_toArray, List.getElem_cons_succ, List.getElem_cons_zero, Act.put, List.setIfInBounds_toArray, List.set_cons_zero, List.set_cons_succ]
      refine wpAnyH_named _ _ _ _ _ ?_
      intro TT A0 hTT hA0
      have HTT := Lib.hid hTT; have HA0 := Lib.hid hA0
      clear hTT hA0 hHeld
      replace hj := hj.dr
      have L331b : ∀ (v25 v28 : Value) (Ak : Option Addr) (nk ck : Nat) (v32 v35 : Value) (Ao : Option Addr) (no co : Nat) (ba : Nat) (X : World), Jn w4 (NdV f (Old w) w4) (some (.slice Ak nk ck, [] ++ kds ++ kdsx)) (some (.slice Ao no co, [] ++ ops ++ opsx)) (some ba) X → TT 1 #[true, true, true, true, true, true, true, true, true, true, true, true, true, true, true, true, false] ((((((((A0.setIfInBounds 25 (v25)).setIfInBounds 28 (v28)).setIfInBounds 31 (.slice Ak nk ck)).setIfInBounds 32 (v32)).setIfInBounds 35 (v35)).setIfInBounds 38 (.slice Ao no co)).setIfInBounds 5 (.pointer (some ⟨ba, 0, none⟩))).setIfInBounds 39 (.agg #[.int .i64 1, .string ⟨#[]⟩, .bool false, .bool false, .slice Ao no co, .slice none 0 0, .slice none 0 0, .slice none 0 0, .slice none 0 0, .slice Ak nk ck])) X := by
        intro v25 v28 Ak nk ck v32 v35 Ao no co ba X hj
        rw [HTT.out, HA0.out]
        simp only [List.setIfInBounds_toArray, List.set_cons_zero, List.set_cons_succ]
        obtain ⟨⟨z0, z1, z2, z3, z4, z5, z6, z7, z8, z9⟩, zf⟩ := hj.zeros
        have f0 := zf 0
        have f1 := zf 1
        have f2 := zf 2
        have f3 := zf 3
        have f4 := zf 4
        have f5 := zf 5
        have f6 := zf 6
        have f7 := zf 7
        have f8 := zf 8
        have f9 := zf 9
        clear zf
        refine wpAnyH_ready (rs := [16]) (by kernel_rfl) (by simp) ?_
        refine AllReadyH.cons (o := _) rfl (fun K hK => ?_) AllReadyH.nil
        simp only [List.getElem_toArray, List.getElem_cons_succ, List.getElem_cons_zero]
        go_simp
        refine hK.out _ _ ?_ (fun _ => ?_)
        · exact HK.out _ (((((((((((hj.below.setCell (hj.al _ rfl).1 _).setCell (hj.al _ rfl).1 _).setCell (hj.al _ rfl).1 _).setCell (hj.al _ rfl).1 _).setCell (hj.al _ rfl).1 _).setCell (hj.al _ rfl).1 _).setCell (hj.al _ rfl).1 _).setCell (hj.al _ rfl).1 _).setCell (hj.al _ rfl).1 _).setCell (hj.al _ rfl).1 _))
        refine wpAnyH_done (by kernel_rfl) ?_ _
        go_wp2_with fail
        go_meet
        refine ⟨_, rfl, Jn.fin HG4.out ?_⟩
        exact hj
      replace L331b := Lib.hid L331b
      have L330b : ∀ (v25 v28 : Value) (Ak : Option Addr) (nk ck : Nat) (v32 v35 : Value) (Ao : Option Addr) (no co : Nat)  (X : World), Jn w4 (NdV f (Old w) w4) (some (.slice Ak nk ck, [] ++ kds ++ kdsx)) (some (.slice Ao no co, [] ++ ops ++ opsx)) none X → TT 2 #[true, true, true, true, true, true, true, true, true, true, true, true, true, true, true, false, false] (((((((A0.setIfInBounds 25 (v25)).setIfInBounds 28 (v28)).setIfInBounds 31 (.slice Ak nk ck)).setIfInBounds 32 (v32)).setIfInBounds 35 (v35)).setIfInBounds 38 (.slice Ao no co)).setIfInBounds 39 (.agg #[.int .i64 1, .string ⟨#[]⟩, .bool false, .bool false, .slice Ao no co, .slice none 0 0, .slice none 0 0, .slice none 0 0, .slice none 0 0, .slice Ak nk ck])) X := by
        intro v25 v28 Ak nk ck v32 v35 Ao no co X hj
        rw [HTT.out, HA0.out]
        simp only [List.setIfInBounds_toArray, List.set_cons_zero, List.set_cons_succ]
        refine wpAnyH_ready (rs := [15]) (by kernel_rfl) (by simp) ?_
        refine AllReadyH.cons (o := _) rfl (fun K hK => ?_) ?_
        · simp only [List.getElem_toArray, List.getElem_cons_succ, List.getElem_cons_zero]
          go_simp
          refine hK.out _ _ ?_ (fun _ => ?_)
          · exact HK.out _ (hj.a0 _ rfl).below
          have h := L331b.out v25 v28 _ _ _ v32 v35 _ _ _ _ _ (hj.a0 _ rfl)
          rw [HTT.out, HA0.out] at h
          simp only [List.setIfInBounds_toArray, List.set_cons_zero, List.set_cons_succ] at h
          exact h
        exact AllReadyH.nil
      replace L330b := Lib.hid L330b
      have L331 : ∀ (v25 v28 : Value) (Ak : Option Addr) (nk ck : Nat) (v32 v35 : Value) (Ao : Option Addr) (no co : Nat) (ba : Nat) (X : World), Jn w4 (NdV f (Old w) w4) (some (.slice Ak nk ck, [] ++ kds ++ kdsx)) (some (.slice Ao no co, [] ++ ops ++ opsx)) (some ba) X → TT 2 #[true, true, true, true, true, true, true, true, true, true, true, true, true, true, false, true, false] (((((((A0.setIfInBounds 25 (v25)).setIfInBounds 28 (v28)).setIfInBounds 31 (.slice Ak nk ck)).setIfInBounds 32 (v32)).setIfInBounds 35 (v35)).setIfInBounds 38 (.slice Ao no co)).setIfInBounds 5 (.pointer (some ⟨ba, 0, none⟩))) X := by
        intro v25 v28 Ak nk ck v32 v35 Ao no co ba X hj
        rw [HTT.out, HA0.out]
        simp only [List.setIfInBounds_toArray, List.set_cons_zero, List.set_cons_succ]
        refine wpAnyH_take (i := 14) (oi := _) (v := ?v141) rfl (by kernel_rfl) (by kernel_rfl) (by kernel_rfl) (fun _ _ _ h => h) (Or.inl ⟨by rfl, ?hy141⟩) (HK.out _ hj.below) ?hr141
        case hy141 =>
          intro w hSw
          try dsimp only at hSw
          simp only [List.getElem_toArray, List.getElem_cons_succ, List.getElem_cons_zero]
          go_simp
          try with_reducible rfl
        have h := L331b.out v25 v28 _ _ _ v32 v35 _ _ _ _ _ (hj)
        rw [HTT.out, HA0.out] at h
        simp only [List.setIfInBounds_toArray, List.set_cons_zero, List.set_cons_succ] at h
        exact h
      replace L331 := Lib.hid L331
      have L330 : ∀ (v25 v28 : Value) (Ak : Option Addr) (nk ck : Nat) (v32 v35 : Value) (Ao : Option Addr) (no co : Nat)  (X : World), Jn w4 (NdV f (Old w) w4) (some (.slice Ak nk ck, [] ++ kds ++ kdsx)) (some (.slice Ao no co, [] ++ ops ++ opsx)) none X → TT 3 #[true, true, true, true, true, true, true, true, true, true, true, true, true, true, false, false, false] ((((((A0.setIfInBounds 25 (v25)).setIfInBounds 28 (v28)).setIfInBounds 31 (.slice Ak nk ck)).setIfInBounds 32 (v32)).setIfInBounds 35 (v35)).setIfInBounds 38 (.slice Ao no co)) X := by
        intro v25 v28 Ak nk ck v32 v35 Ao no co X hj
        rw [HTT.out, HA0.out]
        simp only [List.setIfInBounds_toArray, List.set_cons_zero, List.set_cons_succ]
        refine wpAnyH_take (i := 14) (oi := _) (v := ?v140) rfl (by kernel_rfl) (by kernel_rfl) (by kernel_rfl) (fun _ _ _ h => h) (Or.inl ⟨by rfl, ?hy140⟩) (HK.out _ hj.below) ?hr140
        case hy140 =>
          intro w hSw
          try dsimp only at hSw
          simp only [List.getElem_toArray, List.getElem_cons_succ, List.getElem_cons_zero]
          go_simp
          try with_reducible rfl
        have h := L330b.out v25 v28 _ _ _ v32 v35 _ _ _ _ (hj)
        rw [HTT.out, HA0.out] at h
        simp only [List.setIfInBounds_toArray, List.set_cons_zero, List.set_cons_succ] at h
        exact h
      replace L330 := Lib.hid L330
      have L321 : ∀ (v25 v28 : Value) (Ak : Option Addr) (nk ck : Nat) (v32 : Value) (Ao : Option Addr) (no co : Nat) (ba : Nat) (X : World), Jn w4 (NdV f (Old w) w4) (some (.slice Ak nk ck, [] ++ kds ++ kdsx)) (some (.slice Ao no co, [] ++ ops)) (some ba) X → TT 3 #[true, true, true, true, true, true, true, true, true, true, true, true, true, false, false, true, false] ((((((A0.setIfInBounds 25 (v25)).setIfInBounds 28 (v28)).setIfInBounds 31 (.slice Ak nk ck)).setIfInBounds 32 (v32)).setIfInBounds 35 (.slice Ao no co)).setIfInBounds 5 (.pointer (some ⟨ba, 0, none⟩))) X := by
        intro v25 v28 Ak nk ck v32 Ao no co ba X hj
        rw [HTT.out, HA0.out]
        simp only [List.setIfInBounds_toArray, List.set_cons_zero, List.set_cons_succ]
        refine wpAnyH_ready (rs := [13]) (by kernel_rfl) (by simp) ?_
        refine AllReadyH.cons (o := _) rfl (fun K hK => ?_) ?_
        · refine step_jo (xs := [] ++ ops) (ys := opsx) ?hgd_2 (.tmp 35) (.tmp 37) ?ho_2 ?hs_2 ?hx_2 hj HPO2.out HL4.out ?hK_2
          case ho_2 => rfl
          case hgd_2 => rfl
          case hx_2 => rfl
          case hs_2 => rfl
          intro A1 n1 c1 wk hjn
          refine hK.out _ _ ?_ (fun _ => ?_)
          · exact HK.out _ (hjn).below
          have h := L331.out v25 v28 _ _ _ v32 (.slice Ao no co) _ _ _ _ _ (hjn)
          rw [HTT.out, HA0.out] at h
          simp only [List.setIfInBounds_toArray, List.set_cons_zero, List.set_cons_succ] at h
          exact h
        exact AllReadyH.nil
      replace L321 := Lib.hid L321
      have L320 : ∀ (v25 v28 : Value) (Ak : Option Addr) (nk ck : Nat) (v32 : Value) (Ao : Option Addr) (no co : Nat)  (X : World), Jn w4 (NdV f (Old w) w4) (some (.slice Ak nk ck, [] ++ kds ++ kdsx)) (some (.slice Ao no co, [] ++ ops)) none X → TT 4 #[true, true, true, true, true, true, true, true, true, true, true, true, true, false, false, false, false] (((((A0.setIfInBounds 25 (v25)).setIfInBounds 28 (v28)).setIfInBounds 31 (.slice Ak nk ck)).setIfInBounds 32 (v32)).setIfInBounds 35 (.slice Ao no co)) X := by
        intro v25 v28 Ak nk ck v32 Ao no co X hj
        rw [HTT.out, HA0.out]
        simp only [List.setIfInBounds_toArray, List.set_cons_zero, List.set_cons_succ]
        refine wpAnyH_ready (rs := [13, 15]) (by kernel_rfl) (by simp) ?_
        refine AllReadyH.cons (o := _) rfl (fun K hK => ?_) ?_
        · refine step_jo (xs := [] ++ ops) (ys := opsx) ?hgd_3 (.tmp 35) (.tmp 37) ?ho_3 ?hs_3 ?hx_3 hj HPO2.out HL4.out ?hK_3
          case ho_3 => rfl
          case hgd_3 => rfl
          case hx_3 => rfl
          case hs_3 => rfl
          intro A1 n1 c1 wk hjn
          refine hK.out _ _ ?_ (fun _ => ?_)
          · exact HK.out _ (hjn).below
          have h := L330.out v25 v28 _ _ _ v32 (.slice Ao no co) _ _ _ _ (hjn)
          rw [HTT.out, HA0.out] at h
          simp only [List.setIfInBounds_toArray, List.set_cons_zero, List.set_cons_succ] at h
          exact h
        refine AllReadyH.cons (o := _) rfl (fun K hK => ?_) ?_
        · simp only [List.getElem_toArray, List.getElem_cons_succ, List.getElem_cons_zero]
          go_simp
          refine hK.out _ _ ?_ (fun _ => ?_)
          · exact HK.out _ (hj.a0 _ rfl).below
          have h := L321.out v25 v28 _ _ _ v32 _ _ _ _ _ (hj.a0 _ rfl)
          rw [HTT.out, HA0.out] at h
          simp only [List.setIfInBounds_toArray, List.set_cons_zero, List.set_cons_succ] at h
          exact h
        exact AllReadyH.nil
      replace L320 := Lib.hid L320
      have L311 : ∀ (v25 v28 : Value) (Ak : Option Addr) (nk ck : Nat) (bo : Nat) (ba : Nat) (X : World), Jn w4 (NdV f (Old w) w4) (some (.slice Ak nk ck, [] ++ kds ++ kdsx)) (some (.slice (some ⟨bo, 0, none⟩) 0 0, [])) (some ba) X → TT 4 #[true, true, true, true, true, true, true, true, true, true, false, true, true, false, false, true, false] (((((A0.setIfInBounds 25 (v25)).setIfInBounds 28 (v28)).setIfInBounds 31 (.slice Ak nk ck)).setIfInBounds 32 (.slice (some ⟨bo, 0, none⟩) 0 0)).setIfInBounds 5 (.pointer (some ⟨ba, 0, none⟩))) X := by
        intro v25 v28 Ak nk ck bo ba X hj
        rw [HTT.out, HA0.out]
        simp only [List.setIfInBounds_toArray, List.set_cons_zero, List.set_cons_succ]
        refine wpAnyH_ready (rs := [10]) (by kernel_rfl) (by simp) ?_
        refine AllReadyH.cons (o := _) rfl (fun K hK => ?_) ?_
        · refine step_jo (xs := []) (ys := ops) ?hgd_5 (.tmp 32) (.tmp 34) ?ho_5 ?hs_5 ?hx_5 hj HPO.out HL3.out ?hK_5
          case ho_5 => rfl
          case hgd_5 => rfl
          case hx_5 => rfl
          case hs_5 => rfl
          intro A1 n1 c1 wk hjn
          refine hK.out _ _ ?_ (fun _ => ?_)
          · exact HK.out _ (hjn).below
          have h := L321.out v25 v28 _ _ _ (.slice (some ⟨bo, 0, none⟩) 0 0) _ _ _ _ _ (hjn)
          rw [HTT.out, HA0.out] at h
          simp only [List.setIfInBounds_toArray, List.set_cons_zero, List.set_cons_succ] at h
          exact h
        exact AllReadyH.nil
      replace L311 := Lib.hid L311
      have L310 : ∀ (v25 v28 : Value) (Ak : Option Addr) (nk ck : Nat) (bo : Nat)  (X : World), Jn w4 (NdV f (Old w) w4) (some (.slice Ak nk ck, [] ++ kds ++ kdsx)) (some (.slice (some ⟨bo, 0, none⟩) 0 0, [])) none X → TT 5 #[true, true, true, true, true, true, true, true, true, true, false, true, true, false, false, false, false] ((((A0.setIfInBounds 25 (v25)).setIfInBounds 28 (v28)).setIfInBounds 31 (.slice Ak nk ck)).setIfInBounds 32 (.slice (some ⟨bo, 0, none⟩) 0 0)) X := by
        intro v25 v28 Ak nk ck bo X hj
        rw [HTT.out, HA0.out]
        simp only [List.setIfInBounds_toArray, List.set_cons_zero, List.set_cons_succ]
        refine wpAnyH_ready (rs := [10, 15]) (by kernel_rfl) (by simp) ?_
        refine AllReadyH.cons (o := _) rfl (fun K hK => ?_) ?_
        · refine step_jo (xs := []) (ys := ops) ?hgd_6 (.tmp 32) (.tmp 34) ?ho_6 ?hs_6 ?hx_6 hj HPO.out HL3.out ?hK_6
          case ho_6 => rfl
          case hgd_6 => rfl
          case hx_6 => rfl
          case hs_6 => rfl
          intro A1 n1 c1 wk hjn
          refine hK.out _ _ ?_ (fun _ => ?_)
          · exact HK.out _ (hjn).below
          have h := L320.out v25 v28 _ _ _ (.slice (some ⟨bo, 0, none⟩) 0 0) _ _ _ _ (hjn)
          rw [HTT.out, HA0.out] at h
          simp only [List.setIfInBounds_toArray, List.set_cons_zero, List.set_cons_succ] at h
          exact h
        refine AllReadyH.cons (o := _) rfl (fun K hK => ?_) ?_
        · simp only [List.getElem_toArray, List.getElem_cons_succ, List.getElem_cons_zero]
          go_simp
          refine hK.out _ _ ?_ (fun _ => ?_)
          · exact HK.out _ (hj.a0 _ rfl).below
          have h := L311.out v25 v28 _ _ _ bo _ _ (hj.a0 _ rfl)
          rw [HTT.out, HA0.out] at h
          simp only [List.setIfInBounds_toArray, List.set_cons_zero, List.set_cons_succ] at h
          exact h
        exact AllReadyH.nil
      replace L310 := Lib.hid L310
      have L301 : ∀ (v25 v28 : Value) (Ak : Option Addr) (nk ck : Nat)  (ba : Nat) (X : World), Jn w4 (NdV f (Old w) w4) (some (.slice Ak nk ck, [] ++ kds ++ kdsx)) none (some ba) X → TT 5 #[true, true, true, true, true, true, true, false, true, true, false, true, true, false, false, true, false] ((((A0.setIfInBounds 25 (v25)).setIfInBounds 28 (v28)).setIfInBounds 31 (.slice Ak nk ck)).setIfInBounds 5 (.pointer (some ⟨ba, 0, none⟩))) X := by
        intro v25 v28 Ak nk ck ba X hj
        rw [HTT.out, HA0.out]
        simp only [List.setIfInBounds_toArray, List.set_cons_zero, List.set_cons_succ]
        refine wpAnyH_ready (rs := [7]) (by kernel_rfl) (by simp) ?_
        refine AllReadyH.cons (o := _) rfl (fun K hK => ?_) ?_
        · simp only [List.getElem_toArray, List.getElem_cons_succ, List.getElem_cons_zero]
          go_simp
          refine hK.out _ _ ?_ (fun _ => ?_)
          · exact HK.out _ (hj.o0 _ rfl).below
          have h := L311.out v25 v28 _ _ _ _ _ _ (hj.o0 _ rfl)
          rw [HTT.out, HA0.out] at h
          simp only [List.setIfInBounds_toArray, List.set_cons_zero, List.set_cons_succ] at h
          exact h
        exact AllReadyH.nil
      replace L301 := Lib.hid L301
      have L211 : ∀ (v25 : Value) (Ak : Option Addr) (nk ck : Nat) (bo : Nat) (ba : Nat) (X : World), Jn w4 (NdV f (Old w) w4) (some (.slice Ak nk ck, [] ++ kds)) (some (.slice (some ⟨bo, 0, none⟩) 0 0, [])) (some ba) X → TT 5 #[true, true, true, true, true, true, false, true, true, true, false, true, true, false, false, true, false] ((((A0.setIfInBounds 25 (v25)).setIfInBounds 28 (.slice Ak nk ck)).setIfInBounds 32 (.slice (some ⟨bo, 0, none⟩) 0 0)).setIfInBounds 5 (.pointer (some ⟨ba, 0, none⟩))) X := by
        intro v25 Ak nk ck bo ba X hj
        rw [HTT.out, HA0.out]
        simp only [List.setIfInBounds_toArray, List.set_cons_zero, List.set_cons_succ]
        refine wpAnyH_ready (rs := [6]) (by kernel_rfl) (by simp) ?_
        refine AllReadyH.cons (o := _) rfl (fun K hK => ?_) ?_
        · refine step_jk (R := NdV f (Old w) w4) (xs := [] ++ kds) (ys := kdsx) ?hgd_9 (.tmp 28) (.tmp 30) ?ho_9 NdV.one ?hs_9 ?hx_9 hj HPK2.out HL2.out ?hK_9
          case ho_9 => rfl
          case hgd_9 => rfl
          case hx_9 => rfl
          case hs_9 => rfl
          intro A1 n1 c1 wk hjn
          refine hK.out _ _ ?_ (fun _ => ?_)
          · exact HK.out _ (hjn).below
          have h := L311.out v25 (.slice Ak nk ck) _ _ _ bo _ _ (hjn)
          rw [HTT.out, HA0.out] at h
          simp only [List.setIfInBounds_toArray, List.set_cons_zero, List.set_cons_succ] at h
          exact h
        exact AllReadyH.nil
      replace L211 := Lib.hid L211
      have L300 : ∀ (v25 v28 : Value) (Ak : Option Addr) (nk ck : Nat)   (X : World), Jn w4 (NdV f (Old w) w4) (some (.slice Ak nk ck, [] ++ kds ++ kdsx)) none none X → TT 6 #[true, true, true, true, true, true, true, false, true, true, false, true, true, false, false, false, false] (((A0.setIfInBounds 25 (v25)).setIfInBounds 28 (v28)).setIfInBounds 31 (.slice Ak nk ck)) X := by
        intro v25 v28 Ak nk ck X hj
        rw [HTT.out, HA0.out]
        simp only [List.setIfInBounds_toArray, List.set_cons_zero, List.set_cons_succ]
        refine wpAnyH_ready (rs := [7, 15]) (by kernel_rfl) (by simp) ?_
        refine AllReadyH.cons (o := _) rfl (fun K hK => ?_) ?_
        · simp only [List.getElem_toArray, List.getElem_cons_succ, List.getElem_cons_zero]
          go_simp
          refine hK.out _ _ ?_ (fun _ => ?_)
          · exact HK.out _ (hj.o0 _ rfl).below
          have h := L310.out v25 v28 _ _ _ _ _ (hj.o0 _ rfl)
          rw [HTT.out, HA0.out] at h
          simp only [List.setIfInBounds_toArray, List.set_cons_zero, List.set_cons_succ] at h
          exact h
        refine AllReadyH.cons (o := _) rfl (fun K hK => ?_) ?_
        · simp only [List.getElem_toArray, List.getElem_cons_succ, List.getElem_cons_zero]
          go_simp
          refine hK.out _ _ ?_ (fun _ => ?_)
          · exact HK.out _ (hj.a0 _ rfl).below
          have h := L301.out v25 v28 _ _ _ _ _ (hj.a0 _ rfl)
          rw [HTT.out, HA0.out] at h
          simp only [List.setIfInBounds_toArray, List.set_cons_zero, List.set_cons_succ] at h
          exact h
        exact AllReadyH.nil
      replace L300 := Lib.hid L300
      have L210 : ∀ (v25 : Value) (Ak : Option Addr) (nk ck : Nat) (bo : Nat)  (X : World), Jn w4 (NdV f (Old w) w4) (some (.slice Ak nk ck, [] ++ kds)) (some (.slice (some ⟨bo, 0, none⟩) 0 0, [])) none X → TT 6 #[true, true, true, true, true, true, false, true, true, true, false, true, true, false, false, false, false] (((A0.setIfInBounds 25 (v25)).setIfInBounds 28 (.slice Ak nk ck)).setIfInBounds 32 (.slice (some ⟨bo, 0, none⟩) 0 0)) X := by
        intro v25 Ak nk ck bo X hj
        rw [HTT.out, HA0.out]
        simp only [List.setIfInBounds_toArray, List.set_cons_zero, List.set_cons_succ]
        refine wpAnyH_ready (rs := [6, 15]) (by kernel_rfl) (by simp) ?_
        refine AllReadyH.cons (o := _) rfl (fun K hK => ?_) ?_
        · refine step_jk (R := NdV f (Old w) w4) (xs := [] ++ kds) (ys := kdsx) ?hgd_12 (.tmp 28) (.tmp 30) ?ho_12 NdV.one ?hs_12 ?hx_12 hj HPK2.out HL2.out ?hK_12
          case ho_12 => rfl
          case hgd_12 => rfl
          case hx_12 => rfl
          case hs_12 => rfl
          intro A1 n1 c1 wk hjn
          refine hK.out _ _ ?_ (fun _ => ?_)
          · exact HK.out _ (hjn).below
          have h := L310.out v25 (.slice Ak nk ck) _ _ _ bo _ (hjn)
          rw [HTT.out, HA0.out] at h
          simp only [List.setIfInBounds_toArray, List.set_cons_zero, List.set_cons_succ] at h
          exact h
        refine AllReadyH.cons (o := _) rfl (fun K hK => ?_) ?_
        · simp only [List.getElem_toArray, List.getElem_cons_succ, List.getElem_cons_zero]
          go_simp
          refine hK.out _ _ ?_ (fun _ => ?_)
          · exact HK.out _ (hj.a0 _ rfl).below
          have h := L211.out v25 _ _ _ bo _ _ (hj.a0 _ rfl)
          rw [HTT.out, HA0.out] at h
          simp only [List.setIfInBounds_toArray, List.set_cons_zero, List.set_cons_succ] at h
          exact h
        exact AllReadyH.nil
      replace L210 := Lib.hid L210
      have L201 : ∀ (v25 : Value) (Ak : Option Addr) (nk ck : Nat)  (ba : Nat) (X : World), Jn w4 (NdV f (Old w) w4) (some (.slice Ak nk ck, [] ++ kds)) none (some ba) X → TT 6 #[true, true, true, true, true, true, false, false, true, true, false, true, true, false, false, true, false] (((A0.setIfInBounds 25 (v25)).setIfInBounds 28 (.slice Ak nk ck)).setIfInBounds 5 (.pointer (some ⟨ba, 0, none⟩))) X := by
        intro v25 Ak nk ck ba X hj
        rw [HTT.out, HA0.out]
        simp only [List.setIfInBounds_toArray, List.set_cons_zero, List.set_cons_succ]
        refine wpAnyH_ready (rs := [6, 7]) (by kernel_rfl) (by simp) ?_
        refine AllReadyH.cons (o := _) rfl (fun K hK => ?_) ?_
        · refine step_jk (R := NdV f (Old w) w4) (xs := [] ++ kds) (ys := kdsx) ?hgd_14 (.tmp 28) (.tmp 30) ?ho_14 NdV.one ?hs_14 ?hx_14 hj HPK2.out HL2.out ?hK_14
          case ho_14 => rfl
          case hgd_14 => rfl
          case hx_14 => rfl
          case hs_14 => rfl
          intro A1 n1 c1 wk hjn
          refine hK.out _ _ ?_ (fun _ => ?_)
          · exact HK.out _ (hjn).below
          have h := L301.out v25 (.slice Ak nk ck) _ _ _ _ _ (hjn)
          rw [HTT.out, HA0.out] at h
          simp only [List.setIfInBounds_toArray, List.set_cons_zero, List.set_cons_succ] at h
          exact h
        refine AllReadyH.cons (o := _) rfl (fun K hK => ?_) ?_
        · simp only [List.getElem_toArray, List.getElem_cons_succ, List.getElem_cons_zero]
          go_simp
          refine hK.out _ _ ?_ (fun _ => ?_)
          · exact HK.out _ (hj.o0 _ rfl).below
          have h := L211.out v25 _ _ _ _ _ _ (hj.o0 _ rfl)
          rw [HTT.out, HA0.out] at h
          simp only [List.setIfInBounds_toArray, List.set_cons_zero, List.set_cons_succ] at h
          exact h
        exact AllReadyH.nil
      replace L201 := Lib.hid L201
      have L111 : ∀ (bk : Nat) (bo : Nat) (ba : Nat) (X : World), Jn w4 (NdV f (Old w) w4) (some (.slice (some ⟨bk, 0, none⟩) 0 0, [])) (some (.slice (some ⟨bo, 0, none⟩) 0 0, [])) (some ba) X → TT 6 #[true, true, true, false, true, true, false, true, true, true, false, true, true, false, false, true, false] (((A0.setIfInBounds 25 (.slice (some ⟨bk, 0, none⟩) 0 0)).setIfInBounds 32 (.slice (some ⟨bo, 0, none⟩) 0 0)).setIfInBounds 5 (.pointer (some ⟨ba, 0, none⟩))) X := by
        intro bk bo ba X hj
        rw [HTT.out, HA0.out]
        simp only [List.setIfInBounds_toArray, List.set_cons_zero, List.set_cons_succ]
        refine wpAnyH_ready (rs := [3]) (by kernel_rfl) (by simp) ?_
        refine AllReadyH.cons (o := _) rfl (fun K hK => ?_) ?_
        · refine step_jk (R := NdV f (Old w) w4) (xs := []) (ys := kds) ?hgd_16 (.tmp 25) (.tmp 27) ?ho_16 NdV.one ?hs_16 ?hx_16 hj HPK.out HL1.out ?hK_16
          case ho_16 => rfl
          case hgd_16 => rfl
          case hx_16 => rfl
          case hs_16 => rfl
          intro A1 n1 c1 wk hjn
          refine hK.out _ _ ?_ (fun _ => ?_)
          · exact HK.out _ (hjn).below
          have h := L211.out (.slice (some ⟨bk, 0, none⟩) 0 0) _ _ _ bo _ _ (hjn)
          rw [HTT.out, HA0.out] at h
          simp only [List.setIfInBounds_toArray, List.set_cons_zero, List.set_cons_succ] at h
          exact h
        exact AllReadyH.nil
      replace L111 := Lib.hid L111
      have L200 : ∀ (v25 : Value) (Ak : Option Addr) (nk ck : Nat)   (X : World), Jn w4 (NdV f (Old w) w4) (some (.slice Ak nk ck, [] ++ kds)) none none X → TT 7 #[true, true, true, true, true, true, false, false, true, true, false, true, true, false, false, false, false] ((A0.setIfInBounds 25 (v25)).setIfInBounds 28 (.slice Ak nk ck)) X := by
        intro v25 Ak nk ck X hj
        rw [HTT.out, HA0.out]
        simp only [List.setIfInBounds_toArray, List.set_cons_zero, List.set_cons_succ]
        refine wpAnyH_ready (rs := [6, 7, 15]) (by kernel_rfl) (by simp) ?_
        refine AllReadyH.cons (o := _) rfl (fun K hK => ?_) ?_
        · refine step_jk (R := NdV f (Old w) w4) (xs := [] ++ kds) (ys := kdsx) ?hgd_17 (.tmp 28) (.tmp 30) ?ho_17 NdV.one ?hs_17 ?hx_17 hj HPK2.out HL2.out ?hK_17
          case ho_17 => rfl
          case hgd_17 => rfl
          case hx_17 => rfl
          case hs_17 => rfl
          intro A1 n1 c1 wk hjn
          refine hK.out _ _ ?_ (fun _ => ?_)
          · exact HK.out _ (hjn).below
          have h := L300.out v25 (.slice Ak nk ck) _ _ _ _ (hjn)
          rw [HTT.out, HA0.out] at h
          simp only [List.setIfInBounds_toArray, List.set_cons_zero, List.set_cons_succ] at h
          exact h
        refine AllReadyH.cons (o := _) rfl (fun K hK => ?_) ?_
        · simp only [List.getElem_toArray, List.getElem_cons_succ, List.getElem_cons_zero]
          go_simp
          refine hK.out _ _ ?_ (fun _ => ?_)
          · exact HK.out _ (hj.o0 _ rfl).below
          have h := L210.out v25 _ _ _ _ _ (hj.o0 _ rfl)
          rw [HTT.out, HA0.out] at h
          simp only [List.setIfInBounds_toArray, List.set_cons_zero, List.set_cons_succ] at h
          exact h
        refine AllReadyH.cons (o := _) rfl (fun K hK => ?_) ?_
        · simp only [List.getElem_toArray, List.getElem_cons_succ, List.getElem_cons_zero]
          go_simp
          refine hK.out _ _ ?_ (fun _ => ?_)
          · exact HK.out _ (hj.a0 _ rfl).below
          have h := L201.out v25 _ _ _ _ _ (hj.a0 _ rfl)
          rw [HTT.out, HA0.out] at h
          simp only [List.setIfInBounds_toArray, List.set_cons_zero, List.set_cons_succ] at h
          exact h
        exact AllReadyH.nil
      replace L200 := Lib.hid L200
      have L110 : ∀ (bk : Nat) (bo : Nat)  (X : World), Jn w4 (NdV f (Old w) w4) (some (.slice (some ⟨bk, 0, none⟩) 0 0, [])) (some (.slice (some ⟨bo, 0, none⟩) 0 0, [])) none X → TT 7 #[true, true, true, false, true, true, false, true, true, true, false, true, true, false, false, false, false] ((A0.setIfInBounds 25 (.slice (some ⟨bk, 0, none⟩) 0 0)).setIfInBounds 32 (.slice (some ⟨bo, 0, none⟩) 0 0)) X := by
        intro bk bo X hj
        rw [HTT.out, HA0.out]
        simp only [List.setIfInBounds_toArray, List.set_cons_zero, List.set_cons_succ]
        refine wpAnyH_ready (rs := [3, 15]) (by kernel_rfl) (by simp) ?_
        refine AllReadyH.cons (o := _) rfl (fun K hK => ?_) ?_
        · refine step_jk (R := NdV f (Old w) w4) (xs := []) (ys := kds) ?hgd_20 (.tmp 25) (.tmp 27) ?ho_20 NdV.one ?hs_20 ?hx_20 hj HPK.out HL1.out ?hK_20
          case ho_20 => rfl
          case hgd_20 => rfl
          case hx_20 => rfl
          case hs_20 => rfl
          intro A1 n1 c1 wk hjn
          refine hK.out _ _ ?_ (fun _ => ?_)
          · exact HK.out _ (hjn).below
          have h := L210.out (.slice (some ⟨bk, 0, none⟩) 0 0) _ _ _ bo _ (hjn)
          rw [HTT.out, HA0.out] at h
          simp only [List.setIfInBounds_toArray, List.set_cons_zero, List.set_cons_succ] at h
          exact h
        refine AllReadyH.cons (o := _) rfl (fun K hK => ?_) ?_
        · simp only [List.getElem_toArray, List.getElem_cons_succ, List.getElem_cons_zero]
          go_simp
          refine hK.out _ _ ?_ (fun _ => ?_)
          · exact HK.out _ (hj.a0 _ rfl).below
          have h := L111.out bk bo _ _ (hj.a0 _ rfl)
          rw [HTT.out, HA0.out] at h
          simp only [List.setIfInBounds_toArray, List.set_cons_zero, List.set_cons_succ] at h
          exact h
        exact AllReadyH.nil
      replace L110 := Lib.hid L110
      have L101 : ∀ (bk : Nat)  (ba : Nat) (X : World), Jn w4 (NdV f (Old w) w4) (some (.slice (some ⟨bk, 0, none⟩) 0 0, [])) none (some ba) X → TT 7 #[true, true, true, false, true, true, false, false, true, true, false, true, true, false, false, true, false] ((A0.setIfInBounds 25 (.slice (some ⟨bk, 0, none⟩) 0 0)).setIfInBounds 5 (.pointer (some ⟨ba, 0, none⟩))) X := by
        intro bk ba X hj
        rw [HTT.out, HA0.out]
        simp only [List.setIfInBounds_toArray, List.set_cons_zero, List.set_cons_succ]
        refine wpAnyH_ready (rs := [3, 7]) (by kernel_rfl) (by simp) ?_
        refine AllReadyH.cons (o := _) rfl (fun K hK => ?_) ?_
        · refine step_jk (R := NdV f (Old w) w4) (xs := []) (ys := kds) ?hgd_22 (.tmp 25) (.tmp 27) ?ho_22 NdV.one ?hs_22 ?hx_22 hj HPK.out HL1.out ?hK_22
          case ho_22 => rfl
          case hgd_22 => rfl
          case hx_22 => rfl
          case hs_22 => rfl
          intro A1 n1 c1 wk hjn
          refine hK.out _ _ ?_ (fun _ => ?_)
          · exact HK.out _ (hjn).below
          have h := L201.out (.slice (some ⟨bk, 0, none⟩) 0 0) _ _ _ _ _ (hjn)
          rw [HTT.out, HA0.out] at h
          simp only [List.setIfInBounds_toArray, List.set_cons_zero, List.set_cons_succ] at h
          exact h
        refine AllReadyH.cons (o := _) rfl (fun K hK => ?_) ?_
        · simp only [List.getElem_toArray, List.getElem_cons_succ, List.getElem_cons_zero]
          go_simp
          refine hK.out _ _ ?_ (fun _ => ?_)
          · exact HK.out _ (hj.o0 _ rfl).below
          have h := L111.out bk _ _ _ (hj.o0 _ rfl)
          rw [HTT.out, HA0.out] at h
          simp only [List.setIfInBounds_toArray, List.set_cons_zero, List.set_cons_succ] at h
          exact h
        exact AllReadyH.nil
      replace L101 := Lib.hid L101
      have L011 : ∀  (bo : Nat) (ba : Nat) (X : World), Jn w4 (NdV f (Old w) w4) none (some (.slice (some ⟨bo, 0, none⟩) 0 0, [])) (some ba) X → TT 7 #[false, true, true, false, true, true, false, true, true, true, false, true, true, false, false, true, false] ((A0.setIfInBounds 32 (.slice (some ⟨bo, 0, none⟩) 0 0)).setIfInBounds 5 (.pointer (some ⟨ba, 0, none⟩))) X := by
        intro bo ba X hj
        rw [HTT.out, HA0.out]
        simp only [List.setIfInBounds_toArray, List.set_cons_zero, List.set_cons_succ]
        refine wpAnyH_ready (rs := [0]) (by kernel_rfl) (by simp) ?_
        refine AllReadyH.cons (o := _) rfl (fun K hK => ?_) ?_
        · simp only [List.getElem_toArray, List.getElem_cons_zero]
          go_simp
          refine hK.out _ _ ?_ (fun _ => ?_)
          · exact HK.out _ (hj.k0 _ rfl).below
          have h := L111.out _ bo _ _ (hj.k0 _ rfl)
          rw [HTT.out, HA0.out] at h
          simp only [List.setIfInBounds_toArray, List.set_cons_zero, List.set_cons_succ] at h
          exact h
        exact AllReadyH.nil
      replace L011 := Lib.hid L011
      have L100 : ∀ (bk : Nat)   (X : World), Jn w4 (NdV f (Old w) w4) (some (.slice (some ⟨bk, 0, none⟩) 0 0, [])) none none X → TT 8 #[true, true, true, false, true, true, false, false, true, true, false, true, true, false, false, false, false] (A0.setIfInBounds 25 (.slice (some ⟨bk, 0, none⟩) 0 0)) X := by
        intro bk X hj
        rw [HTT.out, HA0.out]
        simp only [List.setIfInBounds_toArray, List.set_cons_zero, List.set_cons_succ]
        refine wpAnyH_ready (rs := [3, 7, 15]) (by kernel_rfl) (by simp) ?_
        refine AllReadyH.cons (o := _) rfl (fun K hK => ?_) ?_
        · refine step_jk (R := NdV f (Old w) w4) (xs := []) (ys := kds) ?hgd_25 (.tmp 25) (.tmp 27) ?ho_25 NdV.one ?hs_25 ?hx_25 hj HPK.out HL1.out ?hK_25
          case ho_25 => rfl
          case hgd_25 => rfl
          case hx_25 => rfl
          case hs_25 => rfl
          intro A1 n1 c1 wk hjn
          refine hK.out _ _ ?_ (fun _ => ?_)
          · exact HK.out _ (hjn).below
          have h := L200.out (.slice (some ⟨bk, 0, none⟩) 0 0) _ _ _ _ (hjn)
          rw [HTT.out, HA0.out] at h
          simp only [List.setIfInBounds_toArray, List.set_cons_zero, List.set_cons_succ] at h
          exact h
        refine AllReadyH.cons (o := _) rfl (fun K hK => ?_) ?_
        · simp only [List.getElem_toArray, List.getElem_cons_succ, List.getElem_cons_zero]
          go_simp
          refine hK.out _ _ ?_ (fun _ => ?_)
          · exact HK.out _ (hj.o0 _ rfl).below
          have h := L110.out bk _ _ (hj.o0 _ rfl)
          rw [HTT.out, HA0.out] at h
          simp only [List.setIfInBounds_toArray, List.set_cons_zero, List.set_cons_succ] at h
          exact h
        refine AllReadyH.cons (o := _) rfl (fun K hK => ?_) ?_
        · simp only [List.getElem_toArray, List.getElem_cons_succ, List.getElem_cons_zero]
          go_simp
          refine hK.out _ _ ?_ (fun _ => ?_)
          · exact HK.out _ (hj.a0 _ rfl).below
          have h := L101.out bk _ _ (hj.a0 _ rfl)
          rw [HTT.out, HA0.out] at h
          simp only [List.setIfInBounds_toArray, List.set_cons_zero, List.set_cons_succ] at h
          exact h
        exact AllReadyH.nil
      replace L100 := Lib.hid L100
      have L010 : ∀  (bo : Nat)  (X : World), Jn w4 (NdV f (Old w) w4) none (some (.slice (some ⟨bo, 0, none⟩) 0 0, [])) none X → TT 8 #[false, true, true, false, true, true, false, true, true, true, false, true, true, false, false, false, false] (A0.setIfInBounds 32 (.slice (some ⟨bo, 0, none⟩) 0 0)) X := by
        intro bo X hj
        rw [HTT.out, HA0.out]
        simp only [List.setIfInBounds_toArray, List.set_cons_zero, List.set_cons_succ]
        refine wpAnyH_ready (rs := [0, 15]) (by kernel_rfl) (by simp) ?_
        refine AllReadyH.cons (o := _) rfl (fun K hK => ?_) ?_
        · simp only [List.getElem_toArray, List.getElem_cons_zero]
          go_simp
          refine hK.out _ _ ?_ (fun _ => ?_)
          · exact HK.out _ (hj.k0 _ rfl).below
          have h := L110.out _ bo _ (hj.k0 _ rfl)
          rw [HTT.out, HA0.out] at h
          simp only [List.setIfInBounds_toArray, List.set_cons_zero, List.set_cons_succ] at h
          exact h
        refine AllReadyH.cons (o := _) rfl (fun K hK => ?_) ?_
        · simp only [List.getElem_toArray, List.getElem_cons_succ, List.getElem_cons_zero]
          go_simp
          refine hK.out _ _ ?_ (fun _ => ?_)
          · exact HK.out _ (hj.a0 _ rfl).below
          have h := L011.out bo _ _ (hj.a0 _ rfl)
          rw [HTT.out, HA0.out] at h
          simp only [List.setIfInBounds_toArray, List.set_cons_zero, List.set_cons_succ] at h
          exact h
        exact AllReadyH.nil
      replace L010 := Lib.hid L010
      have L001 : ∀   (ba : Nat) (X : World), Jn w4 (NdV f (Old w) w4) none none (some ba) X → TT 8 #[false, true, true, false, true, true, false, false, true, true, false, true, true, false, false, true, false] (A0.setIfInBounds 5 (.pointer (some ⟨ba, 0, none⟩))) X := by
        intro ba X hj
        rw [HTT.out, HA0.out]
        simp only [List.setIfInBounds_toArray, List.set_cons_zero, List.set_cons_succ]
        refine wpAnyH_ready (rs := [0, 7]) (by kernel_rfl) (by simp) ?_
        refine AllReadyH.cons (o := _) rfl (fun K hK => ?_) ?_
        · simp only [List.getElem_toArray, List.getElem_cons_zero]
          go_simp
          refine hK.out _ _ ?_ (fun _ => ?_)
          · exact HK.out _ (hj.k0 _ rfl).below
          have h := L101.out _ _ _ (hj.k0 _ rfl)
          rw [HTT.out, HA0.out] at h
          simp only [List.setIfInBounds_toArray, List.set_cons_zero, List.set_cons_succ] at h
          exact h
        refine AllReadyH.cons (o := _) rfl (fun K hK => ?_) ?_
        · simp only [List.getElem_toArray, List.getElem_cons_succ, List.getElem_cons_zero]
          go_simp
          refine hK.out _ _ ?_ (fun _ => ?_)
          · exact HK.out _ (hj.o0 _ rfl).below
          have h := L011.out _ _ _ (hj.o0 _ rfl)
          rw [HTT.out, HA0.out] at h
          simp only [List.setIfInBounds_toArray, List.set_cons_zero, List.set_cons_succ] at h
          exact h
        exact AllReadyH.nil
      replace L001 := Lib.hid L001
      have L000 : ∀    (X : World), Jn w4 (NdV f (Old w) w4) none none none X → TT 9 #[false, true, true, false, true, true, false, false, true, true, false, true, true, false, false, false, false] (A0) X := by
        intro  X hj
        rw [HTT.out, HA0.out]
        refine wpAnyH_ready (rs := [0, 7, 15]) (by kernel_rfl) (by simp) ?_
        refine AllReadyH.cons (o := _) rfl (fun K hK => ?_) ?_
        · simp only [List.getElem_toArray, List.getElem_cons_zero]
          go_simp
          refine hK.out _ _ ?_ (fun _ => ?_)
          · exact HK.out _ (hj.k0 _ rfl).below
          have h := L100.out _ _ (hj.k0 _ rfl)
          rw [HTT.out, HA0.out] at h
          simp only [List.setIfInBounds_toArray, List.set_cons_zero, List.set_cons_succ] at h
          exact h
        refine AllReadyH.cons (o := _) rfl (fun K hK => ?_) ?_
        · simp only [List.getElem_toArray, List.getElem_cons_succ, List.getElem_cons_zero]
          go_simp
          refine hK.out _ _ ?_ (fun _ => ?_)
          · exact HK.out _ (hj.o0 _ rfl).below
          have h := L010.out _ _ (hj.o0 _ rfl)
          rw [HTT.out, HA0.out] at h
          simp only [List.setIfInBounds_toArray, List.set_cons_zero, List.set_cons_succ] at h
          exact h
        refine AllReadyH.cons (o := _) rfl (fun K hK => ?_) ?_
        · simp only [List.getElem_toArray, List.getElem_cons_succ, List.getElem_cons_zero]
          go_simp
          refine hK.out _ _ ?_ (fun _ => ?_)
          · exact HK.out _ (hj.a0 _ rfl).below
          have h := L001.out _ _ (hj.a0 _ rfl)
          rw [HTT.out, HA0.out] at h
          simp only [List.setIfInBounds_toArray, List.set_cons_zero, List.set_cons_succ] at h
          exact h
        exact AllReadyH.nil
      replace L000 := Lib.hid L000
      exact L000.out _ hj
  case rest =>
    obtain ⟨gn, rfl, Ao, co, Ak, ck, hb5, hblk, hnn⟩ := hcut
    simp only [List.nil_append] at hblk hnn
    rw [← HNJ.out] at hnn
    obtain ⟨nk, hnk⟩ : ∃ n : Nat, n = (kds ++ kdsx).length := ⟨_, rfl⟩
    obtain ⟨no, hno⟩ : ∃ n : Nat, n = (ops ++ opsx).length := ⟨_, rfl⟩
    rw [← hnk, ← hno] at hblk hnn
    clear hnk hno
    obtain ⟨hjr, hjc⟩ := HJ.out HRA.out HRB.out
    have HNN := Lib.hid hnn
    have HGX := Lib.hid (show ∀ k, Old wc k → k < wc.heap.size from fun _ h => h)
    have HB5 := Lib.hid (HB4.out.trans (hb5.mono HB4.out.size))
    have RSV := Lib.hid (HT.out.below (HBW.out.trans (HB5.out.mono HBW.out.size)))
    have HN5 := Lib.hid (HN.out.below HG.out HB5.out); have HM5 := Lib.hid (HM.out.below HG.out HB5.out)
    have HGW5 := Lib.hid (old_of HG.out HB5.out)
    obtain ⟨k0_a, k0_b, k1_a, k1_b, k2_a, k2_b, k3_a, k3_b, k4_a, k4_b, k5_a, k5_b, k6_a, k6_b, k7_a, k7_b, k8_a, k8_b, k9_a, k9_b⟩ := HKA.out _ hb5
    have k0_n : wc.cell? ⟨gn, 0, none⟩ = some (.int .i64 1) := cell_blk hblk 0 _ rfl
    have k1_n : wc.cell? ⟨gn, 1, none⟩ = some (.string ⟨#[]⟩) := cell_blk hblk 1 _ rfl
    have k2_n : wc.cell? ⟨gn, 2, none⟩ = some (.bool false) := cell_blk hblk 2 _ rfl
    have k3_n : wc.cell? ⟨gn, 3, none⟩ = some (.bool false) := cell_blk hblk 3 _ rfl
    have k4_n : wc.cell? ⟨gn, 4, none⟩ = some (.slice Ao no co) := cell_blk hblk 4 _ rfl
    have k5_n : wc.cell? ⟨gn, 5, none⟩ = some (.slice none 0 0) := cell_blk hblk 5 _ rfl
    have k6_n : wc.cell? ⟨gn, 6, none⟩ = some (.slice none 0 0) := cell_blk hblk 6 _ rfl
    have k7_n : wc.cell? ⟨gn, 7, none⟩ = some (.slice none 0 0) := cell_blk hblk 7 _ rfl
    have k8_n : wc.cell? ⟨gn, 8, none⟩ = some (.slice none 0 0) := cell_blk hblk 8 _ rfl
    have k9_n : wc.cell? ⟨gn, 9, none⟩ = some (.slice Ak nk ck) := cell_blk hblk 9 _ rfl
    have hci : ((Nd.count (f + 1) nj : Nat) : Int) = (Nd.count (f + 1) a : Int) + (Nd.count (f + 1) b : Int) - 1 := by omega
    have g1 := fun X : Gr wc => X.calls ((prog_right (f + 1)).2.1 _ X.at_ _ nj (old_of HGX.out X.2) (RSV.out.below X.2) (HNN.out.below HGX.out X.2))
    have g2 := fun X : Gr wc => X.calls (prog_count (f + 1) _ X.at_ _ nj (old_of HGX.out X.2) (HNN.out.below HGX.out X.2) (by omega))
    have g3 := fun X : Gr wc => X.calls (LCA.out _ X.at_ _ (old_of HGW5.out X.2) (HN5.out.below HGW5.out X.2))
    have g4 := fun X : Gr wc => X.calls (LCB.out _ X.at_ _ (old_of HGW5.out X.2) (HM5.out.below HGW5.out X.2))
    have g6 := fun X : Gr wc => X.calls (awake32 X.at_ (RSV.out.below X.2))
    have d0 := fun X : Gr wc => X.cell _ _ k0_a; have u0 := fun X : Gr wc => X.cell _ _ k0_b; have v0 := fun X : Gr wc => X.cell _ _ k0_n
    have d1 := fun X : Gr wc => X.cell _ _ k1_a; have u1 := fun X : Gr wc => X.cell _ _ k1_b; have v1 := fun X : Gr wc => X.cell _ _ k1_n
    have d2 := fun X : Gr wc => X.cell _ _ k2_a; have u2 := fun X : Gr wc => X.cell _ _ k2_b; have v2 := fun X : Gr wc => X.cell _ _ k2_n
    have d3 := fun X : Gr wc => X.cell _ _ k3_a; have u3 := fun X : Gr wc => X.cell _ _ k3_b; have v3 := fun X : Gr wc => X.cell _ _ k3_n
    have d4 := fun X : Gr wc => X.cell _ _ k4_a; have u4 := fun X : Gr wc => X.cell _ _ k4_b; have v4 := fun X : Gr wc => X.cell _ _ k4_n
    have d5 := fun X : Gr wc => X.cell _ _ k5_a; have u5 := fun X : Gr wc => X.cell _ _ k5_b; have v5 := fun X : Gr wc => X.cell _ _ k5_n
    have d6 := fun X : Gr wc => X.cell _ _ k6_a; have u6 := fun X : Gr wc => X.cell _ _ k6_b; have v6 := fun X : Gr wc => X.cell _ _ k6_n
    have d7 := fun X : Gr wc => X.cell _ _ k7_a; have u7 := fun X : Gr wc => X.cell _ _ k7_b; have v7 := fun X : Gr wc => X.cell _ _ k7_n
    have d8 := fun X : Gr wc => X.cell _ _ k8_a; have u8 := fun X : Gr wc => X.cell _ _ k8_b; have v8 := fun X : Gr wc => X.cell _ _ k8_n
    have d9 := fun X : Gr wc => X.cell _ _ k9_a; have u9 := fun X : Gr wc => X.cell _ _ k9_b; have v9 := fun X : Gr wc => X.cell _ _ k9_n
    have hne : Nonempty (Gr wc) := ⟨⟨_, Below.refl _ _⟩⟩
    rw [hjr] at g1
    rw [hci] at g2
    unfold ag at g1 g2 g3 g4
    clear hjr hjc hci hblk hnn HJ HN HM LCA LCB LMA LMB
    generalize Nd.count (f + 1) a = r3 at *
    generalize Nd.count (f + 1) b = r4 at *
    have s1 : IntKind.i64.wrap ((r3 : Int) + (r4 : Int)) = (r3 : Int) + (r4 : Int) := IntWalk.i64_in _ (by omega)
    have s2 : IntKind.i64.wrap ((r3 : Int) + (r4 : Int) - 1) = (r3 : Int) + (r4 : Int) - 1 := IntWalk.i64_in _ (by omega)
    go_wp2_with fail
    refine wp_region_class (S := Gr wc) Gr.at_ (by kernel_rfl) (by kernel_rfl) (Gr.drew _) ?_
    repeat (go_big_quiet_step (first | (with_reducible exact g1 _) | (with_reducible exact g2 _) | (with_reducible exact g3 _) | (with_reducible exact g4 _) | (with_reducible exact g6 _)))
    refine wpQuiet_nil ?_
    rintro X ⟨⟨X', hX⟩, hX2⟩
    obtain rfl : X = X' := hX2
    have HBX := Lib.hid (HB5.out.trans (hX.mono HB5.out.size))
    clear hX g1 g2 g3 g4 g6 d0 u0 v0 d1 u1 v1 d2 u2 v2 d3 u3 v3 d4 u4 v4 d5 u5 v5 d6 u6 v6 d7 u7 v7 d8 u8 v8 d9 u9 v9 hne
    go_wp2_with fail
    go_ret
    exact ⟨rfl, HBW.out.trans (HBX.out.mono HBW.out.size)⟩
end Go.Proofs.YtjpopekmbmcggaaGreatDoor
