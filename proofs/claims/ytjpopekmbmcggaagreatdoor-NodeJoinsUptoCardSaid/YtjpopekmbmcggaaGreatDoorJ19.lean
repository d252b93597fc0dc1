/- Towards nodeJoins_card: NdSimple. Merged from smaller texts by a program of the author's. -/
import Derived.Test.YtjpopekmbmcggaaGreatDoorJ18
namespace Go.Proofs.YtjpopekmbmcggaaGreatDoor
open Go.RowKit
theorem dec_cast (a b : Nat) : decide (0 < (a : Int) + (b : Int)) = decide (0 < a + b) := by
  by_cases h : 0 < a + b
  · rw [decide_eq_true h, decide_eq_true (by omega)]
  · rw [decide_eq_false h, decide_eq_false (by omega)]
theorem simpleB_nil {α : Type} (ky : Int) (s : ByteArray) (nt ni : Bool) (ops : List Int) (asg : List (WdF α)) (rds : List (RdF α)) (ars : List (ArF α)) (kds : List α) :
    simpleB (NdF.mk ky s nt ni ops asg [] rds ars kds) = ((asg.all fun x => x.p.asg.isSome) && decide (0 < asg.length + rds.length)) := rfl
theorem simpleB_cons {α : Type} (ky : Int) (s : ByteArray) (nt ni : Bool) (ops : List Int) (asg : List (WdF α)) (x : WdF α) (r : List (WdF α)) (rds : List (RdF α)) (ars : List (ArF α)) (kds : List α) :
    simpleB (NdF.mk ky s nt ni ops asg (x :: r) rds ars kds) = ((asg.all fun x => x.p.asg.isSome) && (!x.p.asg.isSome && (decide (0 < asg.length + rds.length) || !x.p.plt.isSome || (rsv (x.p.plt.getD []) == 0)))) := rfl
theorem SlAt.word0 {f : Nat} {G : Nat → Prop} {w : World} {A : Option Addr} {n c : Nat} {x : WdF (Nd f)} {r : List (WdF (Nd f))} (h : SlAt G w 1 (WdN f G w) (.slice A n c) (x :: r)) :
    ∃ (b off : Nat) (A0 : Option Addr) (c0 : Nat), A = some ⟨b, off, none⟩ ∧ w.cell? ⟨b, off, none⟩ = some (.slice A0 x.p.len c0) ∧ WdN f G w [.slice A0 x.p.len c0] x ∧ x.p.len ≤ c0 ∧ c0 ≤ maxLen ∧ x.p.wt ≤ 1073741823 ∧ PtsAt G w A0 0 x.p := by
  obtain ⟨A', c', hA, _, _, hel⟩ := h
  injection hA with hA1 hA2 hA3
  subst hA1
  obtain ⟨b, off, rfl, hg, hel⟩ := hel (by simp)
  obtain ⟨vs, hvl, hR, hcell⟩ := hel 0 (by simp)
  simp only [List.getElem_cons_zero] at hR
  have hR2 := hR
  obtain ⟨A0, c0, rfl, h2, h3, h4, h5, _⟩ := hR
  exact ⟨b, off, A0, c0, rfl, by simpa using hcell 0 _ rfl, hR2, h2, h3, h4, h5⟩
theorem SlAt.node0 {f : Nat} {G : Nat → Prop} {w : World} {A : Option Addr} {n c : Nat} {x : Nd f} {r : List (Nd f)} (h : SlAt G w 10 (NdV f G w) (.slice A n c) (x :: r)) :
    ∃ (b off : Nat) (ky : Int) (s : ByteArray) (nt ni : Bool) (A4 : Option Addr) (n4 c4 : Nat) (A5 : Option Addr) (n5 c5 : Nat) (A6 : Option Addr) (n6 c6 : Nat) (A7 : Option Addr) (n7 c7 : Nat) (A8 : Option Addr) (n8 c8 : Nat) (A9 : Option Addr) (n9 c9 : Nat), A = some ⟨b, off, none⟩ ∧ (w.cell? ⟨b, off, none⟩ = some (.int .i64 ky) ∧ w.cell? ⟨b, off + 1, none⟩ = some (.string s) ∧ w.cell? ⟨b, off + 2, none⟩ = some (.bool nt) ∧ w.cell? ⟨b, off + 3, none⟩ = some (.bool ni) ∧ w.cell? ⟨b, off + 4, none⟩ = some (.slice A4 n4 c4) ∧ w.cell? ⟨b, off + 5, none⟩ = some (.slice A5 n5 c5) ∧ w.cell? ⟨b, off + 6, none⟩ = some (.slice A6 n6 c6) ∧ w.cell? ⟨b, off + 7, none⟩ = some (.slice A7 n7 c7) ∧ w.cell? ⟨b, off + 8, none⟩ = some (.slice A8 n8 c8) ∧ w.cell? ⟨b, off + 9, none⟩ = some (.slice A9 n9 c9)) ∧ NdV f G w [.int .i64 ky, .string s, .bool nt, .bool ni, .slice A4 n4 c4, .slice A5 n5 c5, .slice A6 n6 c6, .slice A7 n7 c7, .slice A8 n8 c8, .slice A9 n9 c9] x := by
  obtain ⟨A', c', hA, _, _, hel⟩ := h
  injection hA with hA1 hA2 hA3
  subst hA1
  obtain ⟨b, off, rfl, hg, hel⟩ := hel (by simp)
  obtain ⟨vs, hvl, hR, hcell⟩ := hel 0 (by simp)
  simp only [List.getElem_cons_zero] at hR
  obtain ⟨ky, s, nt, ni, A4, n4, c4, A5, n5, c5, A6, n6, c6, A7, n7, c7, A8, n8, c8, A9, n9, c9, rfl⟩ := hR.shape
  exact ⟨b, off, ky, s, nt, ni, A4, n4, c4, A5, n5, c5, A6, n6, c6, A7, n7, c7, A8, n8, c8, A9, n9, c9, rfl, ⟨by simpa using hcell 0 _ rfl, by simpa using hcell 1 _ rfl, by simpa using hcell 2 _ rfl, by simpa using hcell 3 _ rfl, by simpa using hcell 4 _ rfl, by simpa using hcell 5 _ rfl, by simpa using hcell 6 _ rfl, by simpa using hcell 7 _ rfl, by simpa using hcell 8 _ rfl, by simpa using hcell 9 _ rfl⟩, hR⟩
set_option maxRecDepth 100000 in
set_option maxHeartbeats 4000000 in
theorem simple_p (f : Nat) (G : Nat → Prop) (w : World) (vs : List Value) (x : NdF (Nd f)) (hG : ∀ k, G k → k < w.heap.size) (ht : RsvAt w) (hv : NdV (f + 1) G w vs x) :
    Calls Tryz.prog 90 #[ag vs] w fun e w' => e = .returned (.bool (simpleB x)) ∧ Below w.heap.size w w' := by
  obtain ⟨ky, s, nt, ni, ops, asg, wds, rds, ars, kds⟩ := x
  obtain ⟨A4, c4, A5, c5, A6, c6, A7, c7, A8, c8, A9, c9, rfl, hns, hal, hl4, hl5, hl6, hl7, hl8, hl9, hso, hsa, hsw, hsr, hsm, hsk⟩ := NdV.open hv
  have HSO := Lib.hid hso; have HSA := Lib.hid hsa; have HSW := Lib.hid hsw; have HSR := Lib.hid hsr; have HSM := Lib.hid hsm; have HSK := Lib.hid hsk
  clear hso hsa hsw hsr hsm hsk hv
  show Calls Tryz.prog 90 #[.agg #[.int .i64 ky, .string s, .bool nt, .bool ni, .slice A4 ops.length c4, .slice A5 asg.length c5, .slice A6 wds.length c6, .slice A7 rds.length c7, .slice A8 ars.length c8, .slice A9 kds.length c9]] w _
  have hbw : Below w.heap.size w (w.alloc (.cells #[.int .i64 ky, .string s, .bool nt, .bool ni, .slice A4 ops.length c4, .slice A5 asg.length c5, .slice A6 wds.length c6, .slice A7 rds.length c7, .slice A8 ars.length c8, .slice A9 kds.length c9] 28)) := (Below.refl _ _).alloc (Nat.le_refl _) _
  have hb0 := heap_alloc_t w (.cells #[.int .i64 ky, .string s, .bool nt, .bool ni, .slice A4 ops.length c4, .slice A5 asg.length c5, .slice A6 wds.length c6, .slice A7 rds.length c7, .slice A8 ars.length c8, .slice A9 kds.length c9] 28)
  generalize hW : w.alloc (.cells #[.int .i64 ky, .string s, .bool nt, .bool ni, .slice A4 ops.length c4, .slice A5 asg.length c5, .slice A6 wds.length c6, .slice A7 rds.length c7, .slice A8 ars.length c8, .slice A9 kds.length c9] 28) = W at *
  have x0 : W.cell? ⟨w.heap.size, 0, none⟩ = some (.int .i64 ky) := by simp [World.cell?, hb0]
  have x1 : W.cell? ⟨w.heap.size, 1, none⟩ = some (.string s) := by simp [World.cell?, hb0]
  have x2 : W.cell? ⟨w.heap.size, 2, none⟩ = some (.bool nt) := by simp [World.cell?, hb0]
  have x3 : W.cell? ⟨w.heap.size, 3, none⟩ = some (.bool ni) := by simp [World.cell?, hb0]
  have x4 : W.cell? ⟨w.heap.size, 4, none⟩ = some (.slice A4 ops.length c4) := by simp [World.cell?, hb0]
  have x5 : W.cell? ⟨w.heap.size, 5, none⟩ = some (.slice A5 asg.length c5) := by simp [World.cell?, hb0]
  have x6 : W.cell? ⟨w.heap.size, 6, none⟩ = some (.slice A6 wds.length c6) := by simp [World.cell?, hb0]
  have x7 : W.cell? ⟨w.heap.size, 7, none⟩ = some (.slice A7 rds.length c7) := by simp [World.cell?, hb0]
  have x8 : W.cell? ⟨w.heap.size, 8, none⟩ = some (.slice A8 ars.length c8) := by simp [World.cell?, hb0]
  have x9 : W.cell? ⟨w.heap.size, 9, none⟩ = some (.slice A9 kds.length c9) := by simp [World.cell?, hb0]
  have HGW := Lib.hid (old_of hG hbw)
  have HBW := Lib.hid hbw; have HG := Lib.hid hG; have HT := Lib.hid ht
  clear hbw hb0 hG ht
  have HX := Lib.hid (all_word f G 141 #[] (fun x => x.p.asg.isSome) _ asg W HGW.out (HSA.out.onW HG.out HBW.out) enter_assigns (ok_assigns f HGW.out))
  go_enter Tryz.func90, Tryz.ntmps90
  go_wp2_with fail
  refine HX.out.mono ?_
  rintro e w1 ⟨he, hb⟩
  have HB1 := Lib.hid (HBW.out.trans (hb.mono HBW.out.size))
  have y5 := box_keep x5 hb; have y6 := box_keep x6 hb; have y7 := box_keep x7 hb
  clear hb
  cases qa : asg.all fun x => x.p.asg.isSome
  · rw [qa] at he
    subst he
    have HQA := Lib.hid qa; clear qa
    go_wp2_with fail
    go_ret
    exact ⟨ret_bool (by cases wds with
      | nil => rw [simpleB_nil, HQA.out]; rfl
      | cons x0 r => rw [simpleB_cons, HQA.out]; rfl), HB1.out⟩
  rw [qa] at he
  subst he
  have HQA := Lib.hid qa; clear qa
  cases wds with
  | nil =>
    go_wp2_with fail
    go_ret
    exact ⟨ret_bool (by rw [simpleB_nil, HQA.out, dec_cast]; rfl), HB1.out⟩
  | cons x0 r =>
    obtain ⟨b, off, A0, c0, rfl, z0, hw0, hnc, hcm, hwt, hpt⟩ := SlAt.word0 (HSW.out.onW HG.out HB1.out)
    have hpos : 0 < List.length (x0 :: r) := by simp
    have hne : ((List.length (x0 :: r) : Nat) : Int) ≠ 0 := by simp; omega
    have hz1 : (((List.length (x0 :: r) : Nat) : Int) == 0) = false := beq_false_of_ne hne
    have hz2 : (List.length (x0 :: r) == 0) = false := beq_false_of_ne (by omega)
    have HX2 := Lib.hid (uplain_p x0.p A0 c0 G w1 (by omega) (old_of HG.out HB1.out) hpt)
    have HW0 := Lib.hid hw0
    clear hpt hw0 hne
    generalize (x0 :: r).length = m at *
    go_wp2_with fail
    refine HX2.out.mono ?_
    rintro e w2 ⟨rfl, hb⟩
    have HB2 := Lib.hid (HB1.out.trans (hb.mono HB1.out.size))
    have v6 := box_keep y6 hb
    have z1 := box_keep z0 hb
    have HX3 := Lib.hid (assigns_p f G w2 _ x0 (old_of HG.out HB2.out) (HW0.out.below (old_of HG.out HB1.out) hb))
    clear hb y5 y6 y7 z0
    unfold bs
    go_wp2_with fail
    refine HX3.out.mono ?_
    rintro e w3 ⟨he, hb⟩
    have HB3 := Lib.hid (HB2.out.trans (hb.mono HB2.out.size))
    have HX4 := Lib.hid (rsv_p ⟨(x0.p.plt.getD []).toArray⟩ w3 (HT.out.below HB3.out))
    clear hb v6 z1
    cases q1 : x0.p.asg.isSome
    case true =>
      rw [q1] at he
      subst he
      have HQ1 := Lib.hid q1; clear q1
      go_wp2_with fail
      go_ret
      exact ⟨ret_bool (by rw [simpleB_cons, HQA.out, HQ1.out]; rfl), HB3.out⟩
    rw [q1] at he
    subst he
    have HQ1 := Lib.hid q1; clear q1
    cases q2 : decide (0 < (asg.length : Int) + (rds.length : Int))
    case true =>
      have HQ2 := Lib.hid (dec_cast _ _ ▸ q2)
      go_wp2_with fail
      go_ret
      exact ⟨ret_bool (by rw [simpleB_cons, HQA.out, HQ1.out, HQ2.out]; rfl), HB3.out⟩
    have HQ2 := Lib.hid (dec_cast _ _ ▸ q2)
    cases q3 : x0.p.plt.isSome
    · have HQ3 := Lib.hid q3
      go_wp2_with fail
      go_ret
      exact ⟨ret_bool (by rw [simpleB_cons, HQA.out, HQ1.out, HQ2.out, HQ3.out]; rfl), HB3.out⟩
    have HQ3 := Lib.hid q3
    go_wp2_with fail
    refine HX4.out.mono ?_
    rintro e w4 ⟨rfl, rfl⟩
    go_wp2_with fail
    go_ret
    exact ⟨ret_bool (by rw [simpleB_cons, HQA.out, HQ1.out, HQ2.out, HQ3.out]; rfl), HB3.out⟩
theorem armB_eq {α : Type} (v : Vw α) (ps : List (WdF α)) (b : α) : armB v ⟨ps, b⟩ = (decide (0 < ps.length) && (ps.all (wordB v) && (v.R b || ((v.kd b == 1) && v.on b)))) := by
  have e : (!ps.isEmpty) = decide (0 < ps.length) := by cases ps <;> simp
  unfold armB
  simp only
  rw [e, Bool.and_assoc]
set_option maxRecDepth 100000 in
set_option maxHeartbeats 4000000 in
theorem arm_p (f : Nat) (ih : PRt f) (ih2 : POn f) (G : Nat → Prop) (w : World) (vs : List Value) (x : ArF (Nd f)) (hG : ∀ k, G k → k < w.heap.size) (ht : RsvAt w) (hv : ArN f G w vs x) :
    Calls Tryz.prog 94 #[ag vs] w fun e w' => e = .returned (.bool (armB (Nd.vw f) x)) ∧ Below w.heap.size w w' := by
  obtain ⟨ps, bd⟩ := x
  obtain ⟨vp, bs', rfl, hbl, hps, hbd⟩ := hv
  obtain ⟨A0, c0, rfl, hl0, hm0⟩ := SlAt.shape hps
  obtain ⟨ky, s, nt, ni, A4, n4, c4, A5, n5, c5, A6, n6, c6, A7, n7, c7, A8, n8, c8, A9, n9, c9, rfl⟩ := NdV.shape hbd
  have hkd := NdV.kind hbd
  simp only at hl0 hps hbd hkd
  obtain ⟨n0, hn0⟩ : ∃ n0, n0 = ps.length := ⟨_, rfl⟩
  have HPS := Lib.hid hps; have HBD := Lib.hid hbd; have HKD := Lib.hid hkd
  simp only
  show Calls Tryz.prog 94 #[.agg #[.slice A0 ps.length c0, .int .i64 ky, .string s, .bool nt, .bool ni, .slice A4 n4 c4, .slice A5 n5 c5, .slice A6 n6 c6, .slice A7 n7 c7, .slice A8 n8 c8, .slice A9 n9 c9]] w _
  have hbw : Below w.heap.size w (w.alloc (.cells #[.slice A0 ps.length c0, .int .i64 ky, .string s, .bool nt, .bool ni, .slice A4 n4 c4, .slice A5 n5 c5, .slice A6 n6 c6, .slice A7 n7 c7, .slice A8 n8 c8, .slice A9 n9 c9] 54)) := (Below.refl _ _).alloc (Nat.le_refl _) _
  have hb0 := heap_alloc_t w (.cells #[.slice A0 ps.length c0, .int .i64 ky, .string s, .bool nt, .bool ni, .slice A4 n4 c4, .slice A5 n5 c5, .slice A6 n6 c6, .slice A7 n7 c7, .slice A8 n8 c8, .slice A9 n9 c9] 54)
  generalize hW : w.alloc (.cells #[.slice A0 ps.length c0, .int .i64 ky, .string s, .bool nt, .bool ni, .slice A4 n4 c4, .slice A5 n5 c5, .slice A6 n6 c6, .slice A7 n7 c7, .slice A8 n8 c8, .slice A9 n9 c9] 54) = W at *
  have x0 : W.cell? ⟨w.heap.size, 0, none⟩ = some (.slice A0 ps.length c0) := by simp [World.cell?, hb0]
  have x1 : W.cell? ⟨w.heap.size, 1, none⟩ = some (.int .i64 ky) := by simp [World.cell?, hb0]
  have x2 : W.cell? ⟨w.heap.size, 2, none⟩ = some (.string s) := by simp [World.cell?, hb0]
  have x3 : W.cell? ⟨w.heap.size, 3, none⟩ = some (.bool nt) := by simp [World.cell?, hb0]
  have x4 : W.cell? ⟨w.heap.size, 4, none⟩ = some (.bool ni) := by simp [World.cell?, hb0]
  have x5 : W.cell? ⟨w.heap.size, 5, none⟩ = some (.slice A4 n4 c4) := by simp [World.cell?, hb0]
  have x6 : W.cell? ⟨w.heap.size, 6, none⟩ = some (.slice A5 n5 c5) := by simp [World.cell?, hb0]
  have x7 : W.cell? ⟨w.heap.size, 7, none⟩ = some (.slice A6 n6 c6) := by simp [World.cell?, hb0]
  have x8 : W.cell? ⟨w.heap.size, 8, none⟩ = some (.slice A7 n7 c7) := by simp [World.cell?, hb0]
  have x9 : W.cell? ⟨w.heap.size, 9, none⟩ = some (.slice A8 n8 c8) := by simp [World.cell?, hb0]
  have x10 : W.cell? ⟨w.heap.size, 10, none⟩ = some (.slice A9 n9 c9) := by simp [World.cell?, hb0]
  have HGW := Lib.hid (old_of hG hbw)
  have HBW := Lib.hid hbw; have HG := Lib.hid hG; have HT := Lib.hid ht; have IH := Lib.hid ih; have IH2 := Lib.hid ih2
  have HM := Lib.hid hm0
  unfold maxLen at hm0
  clear hbw hb0 hG ht ih ih2 hps hbd hkd hn0 hbl
  by_cases hp : 0 < ps.length
  case neg =>
    have HP := Lib.hid (decide_eq_false hp)
    have hz : ps.length = 0 := by omega
    have hz1 : ((ps.length : Int) == 0) = true := by rw [hz]; rfl
    have hz2 : (ps.length == 0) = true := by rw [hz]; rfl
    clear hz
    go_enter Tryz.func94, Tryz.ntmps94
    go_wp2_with fail
    go_ret
    exact ⟨ret_bool (by rw [armB_eq, HP.out]; rfl), HBW.out⟩
  have HP := Lib.hid (decide_eq_true hp)
  have hz1 : ((ps.length : Int) == 0) = false := beq_false_of_ne (by omega)
  have hz2 : (ps.length == 0) = false := beq_false_of_ne (by omega)
  have HX := Lib.hid (all_word f G 15 #[] (wordB (Nd.vw f)) _ ps W HGW.out (HPS.out.keep (fun _ h => h) (keep_of HG.out HBW.out) fun _ _ h => WdN.below h HG.out HBW.out) enter_Word (ok_Word IH.out HGW.out (HT.out.below HBW.out)))
  go_enter Tryz.func94, Tryz.ntmps94
  go_wp2_with fail
  refine HX.out.mono ?_
  rintro e w1 ⟨he, hb⟩
  have HB1 := Lib.hid (HBW.out.trans (hb.mono HBW.out.size))
  have y1 := box_keep x1 hb; have y2 := box_keep x2 hb; have y3 := box_keep x3 hb; have y4 := box_keep x4 hb; have y5 := box_keep x5 hb; have y6 := box_keep x6 hb; have y7 := box_keep x7 hb; have y8 := box_keep x8 hb; have y9 := box_keep x9 hb; have y10 := box_keep x10 hb
  clear hb
  cases qa : ps.all (wordB (Nd.vw f))
  · rw [qa] at he
    subst he
    have HQA := Lib.hid qa; clear qa
    go_wp2_with fail
    go_ret
    exact ⟨ret_bool (by rw [armB_eq, HP.out, HQA.out]; rfl), HB1.out⟩
  rw [qa] at he
  subst he
  have HQA := Lib.hid qa; clear qa
  have HX2 := Lib.hid (IH.out G w1 _ bd (old_of HG.out HB1.out) (HT.out.below HB1.out) (HBD.out.below HG.out HB1.out))
  go_wp2_with fail
  refine HX2.out.mono ?_
  rintro e w2 ⟨he, hb⟩
  have HB2 := Lib.hid (HB1.out.trans (hb.mono HB1.out.size))
  have v1 := box_keep y1 hb; have v2 := box_keep y2 hb; have v3 := box_keep y3 hb; have v4 := box_keep y4 hb; have v5 := box_keep y5 hb; have v6 := box_keep y6 hb; have v7 := box_keep y7 hb; have v8 := box_keep y8 hb; have v9 := box_keep y9 hb; have v10 := box_keep y10 hb
  clear hb y1 y2 y3 y4 y5 y6 y7 y8 y9 y10
  cases qb : (Nd.vw f).R bd
  case true =>
    rw [qb] at he
    subst he
    have HQB := Lib.hid qb; clear qb
    go_wp2_with fail
    go_ret
    exact ⟨ret_bool (by rw [armB_eq, HP.out, HQA.out, HQB.out]; rfl), HB2.out⟩
  rw [qb] at he
  subst he
  have HQB := Lib.hid qb; clear qb
  cases qk : (ky == 1)
  · have HQK := Lib.hid qk
    go_wp2_with fail
    go_ret
    exact ⟨ret_bool (by rw [armB_eq, HP.out, HQA.out, HQB.out, HKD.out, HQK.out]; rfl), HB2.out⟩
  have HQK := Lib.hid qk
  have HX3 := Lib.hid (IH2.out G w2 _ bd (old_of HG.out HB2.out) (HT.out.below HB2.out) (HBD.out.below HG.out HB2.out))
  go_wp2_with fail
  refine HX3.out.mono ?_
  rintro e w3 ⟨rfl, hb⟩
  have HB3 := Lib.hid (HB2.out.trans (hb.mono HB2.out.size))
  clear hb
  go_wp2_with fail
  go_ret
  exact ⟨ret_bool (by rw [armB_eq, HP.out, HQA.out, HQB.out, HKD.out, HQK.out]; rfl), HB3.out⟩
theorem ok_arm {f : Nat} {G : Nat → Prop} {w : World} (ih : PRt f) (ih2 : POn f) (hG : ∀ k, G k → k < w.heap.size) (ht : RsvAt w) : FnOk (ArN f G) ag w 94 #[] (armB (Nd.vw f)) := fun X hX vs y hy => by
  rw [Array.append_empty]; exact arm_p f ih ih2 G X vs y (old_of hG hX) (ht.below hX) hy
theorem funcB_eq {α : Type} (v : Vw α) (ky : Int) (s : ByteArray) (nt ni : Bool) (ops : List Int) (asg wds : List (WdF α)) (rds : List (RdF α)) (ars : List (ArF α)) (kds : List α) :
    funcB v (NdF.mk ky s nt ni ops asg wds rds ars kds) = (Chr.name s.toList && ((rsv s.toList == 0) && (match kds with | [x] => decide (5 ≤ v.kd x) && (decide (v.kd x ≤ 11) && v.rt x) | _ => false))) := by
  unfold funcB
  simp only
  rw [Bool.and_assoc]
  congr 2
  cases kds with
  | nil => rfl
  | cons x r =>
    cases r with
    | nil => simp only [Bool.and_assoc]
    | cons => rfl
theorem funcB_one {α : Type} (v : Vw α) (ky : Int) (s : ByteArray) (nt ni : Bool) (ops : List Int) (asg wds : List (WdF α)) (rds : List (RdF α)) (ars : List (ArF α)) (x : α) :
    funcB v (NdF.mk ky s nt ni ops asg wds rds ars [x]) = (Chr.name s.toList && ((rsv s.toList == 0) && (decide (5 ≤ v.kd x) && (decide (v.kd x ≤ 11) && v.rt x)))) := by rw [funcB_eq]
set_option maxRecDepth 100000 in
set_option maxHeartbeats 4000000 in
theorem function_p (f : Nat) (ih : PRight f) (G : Nat → Prop) (w : World) (vs : List Value) (x : NdF (Nd f)) (hG : ∀ k, G k → k < w.heap.size) (ht : RsvAt w) (hv : NdV (f + 1) G w vs x) :
    Calls Tryz.prog 95 #[ag vs] w fun e w' => e = .returned (.bool (funcB (Nd.vw f) x)) ∧ Below w.heap.size w w' := by
  obtain ⟨ky, s, nt, ni, ops, asg, wds, rds, ars, kds⟩ := x
  obtain ⟨A4, c4, A5, c5, A6, c6, A7, c7, A8, c8, A9, c9, rfl, hns, hal, hl4, hl5, hl6, hl7, hl8, hl9, hso, hsa, hsw, hsr, hsm, hsk⟩ := NdV.open hv
  have HSO := Lib.hid hso; have HSA := Lib.hid hsa; have HSW := Lib.hid hsw; have HSR := Lib.hid hsr; have HSM := Lib.hid hsm; have HSK := Lib.hid hsk
  clear hso hsa hsw hsr hsm hsk hv
  show Calls Tryz.prog 95 #[.agg #[.int .i64 ky, .string s, .bool nt, .bool ni, .slice A4 ops.length c4, .slice A5 asg.length c5, .slice A6 wds.length c6, .slice A7 rds.length c7, .slice A8 ars.length c8, .slice A9 kds.length c9]] w _
  have hbw : Below w.heap.size w (w.alloc (.cells #[.int .i64 ky, .string s, .bool nt, .bool ni, .slice A4 ops.length c4, .slice A5 asg.length c5, .slice A6 wds.length c6, .slice A7 rds.length c7, .slice A8 ars.length c8, .slice A9 kds.length c9] 28)) := (Below.refl _ _).alloc (Nat.le_refl _) _
  have hb0 := heap_alloc_t w (.cells #[.int .i64 ky, .string s, .bool nt, .bool ni, .slice A4 ops.length c4, .slice A5 asg.length c5, .slice A6 wds.length c6, .slice A7 rds.length c7, .slice A8 ars.length c8, .slice A9 kds.length c9] 28)
  generalize hW : w.alloc (.cells #[.int .i64 ky, .string s, .bool nt, .bool ni, .slice A4 ops.length c4, .slice A5 asg.length c5, .slice A6 wds.length c6, .slice A7 rds.length c7, .slice A8 ars.length c8, .slice A9 kds.length c9] 28) = W at *
  have x0 : W.cell? ⟨w.heap.size, 0, none⟩ = some (.int .i64 ky) := by simp [World.cell?, hb0]
  have x1 : W.cell? ⟨w.heap.size, 1, none⟩ = some (.string s) := by simp [World.cell?, hb0]
  have x2 : W.cell? ⟨w.heap.size, 2, none⟩ = some (.bool nt) := by simp [World.cell?, hb0]
  have x3 : W.cell? ⟨w.heap.size, 3, none⟩ = some (.bool ni) := by simp [World.cell?, hb0]
  have x4 : W.cell? ⟨w.heap.size, 4, none⟩ = some (.slice A4 ops.length c4) := by simp [World.cell?, hb0]
  have x5 : W.cell? ⟨w.heap.size, 5, none⟩ = some (.slice A5 asg.length c5) := by simp [World.cell?, hb0]
  have x6 : W.cell? ⟨w.heap.size, 6, none⟩ = some (.slice A6 wds.length c6) := by simp [World.cell?, hb0]
  have x7 : W.cell? ⟨w.heap.size, 7, none⟩ = some (.slice A7 rds.length c7) := by simp [World.cell?, hb0]
  have x8 : W.cell? ⟨w.heap.size, 8, none⟩ = some (.slice A8 ars.length c8) := by simp [World.cell?, hb0]
  have x9 : W.cell? ⟨w.heap.size, 9, none⟩ = some (.slice A9 kds.length c9) := by simp [World.cell?, hb0]
  have HGW := Lib.hid (old_of hG hbw)
  have HBW := Lib.hid hbw; have HG := Lib.hid hG; have HT := Lib.hid ht
  clear hbw hb0 hG ht
  have IH := Lib.hid ih
  clear ih
  have HX := Lib.hid (name_p s W (by omega))
  go_enter Tryz.func95, Tryz.ntmps95
  go_wp2_with fail
  refine HX.out.mono ?_
  rintro e w1 ⟨he, hb⟩
  have HB1 := Lib.hid (HBW.out.trans (hb.mono HBW.out.size))
  have y1 := box_keep x1 hb; have y9 := box_keep x9 hb
  clear hb
  cases qa : Chr.name s.toList
  · rw [qa] at he
    subst he
    have HQA := Lib.hid qa; clear qa
    go_wp2_with fail
    go_ret
    exact ⟨ret_bool (by rw [funcB_eq, HQA.out]; rfl), HB1.out⟩
  rw [qa] at he
  subst he
  have HQA := Lib.hid qa; clear qa
  have HX2 := Lib.hid (rsv_p s w1 (HT.out.below HB1.out))
  go_wp2_with fail
  refine HX2.out.mono ?_
  rintro e w2 ⟨rfl, rfl⟩
  cases qb : (rsv s.toList == 0)
  · have HQB := Lib.hid qb
    have qb2 : (rsv s.toList != 0) = true := by simpa [bne] using qb
    go_wp2_with fail
    go_ret
    exact ⟨ret_bool (by rw [funcB_eq, HQA.out, HQB.out]; rfl), HB1.out⟩
  have HQB := Lib.hid qb
  have qb2 : (rsv s.toList != 0) = false := by simpa [bne] using qb
  cases kds with
  | nil =>
    go_wp2_with fail
    go_ret
    exact ⟨ret_bool (by rw [funcB_eq, HQA.out, HQB.out]; rfl), HB1.out⟩
  | cons x r =>
    cases r with
    | cons x2 r =>
      have hm1 : (((x :: x2 :: r).length : Int) != 1) = true := bne_iff_ne.2 (by simp only [List.length_cons]; omega)
      have hm2 : ((x :: x2 :: r).length != 1) = true := bne_iff_ne.2 (by simp only [List.length_cons]; omega)
      generalize (x :: x2 :: r).length = m at *
      go_wp2_with fail
      go_ret
      exact ⟨ret_bool (by rw [funcB_eq, HQA.out, HQB.out]; rfl), HB1.out⟩
    | nil =>
      obtain ⟨b, off, kx, sx, ntx, nix, B4, m4, d4, B5, m5, d5, B6, m6, d6, B7, m7, d7, B8, m8, d8, B9, m9, d9, rfl, ⟨z0, z1, z2, z3, z4, z5, z6, z7, z8, z9⟩, hnx⟩ := SlAt.node0 (HSK.out.onN HG.out HB1.out)
      have HKD := Lib.hid (NdV.kind hnx)
      have HX3 := Lib.hid (IH.out G w1 _ x (old_of HG.out HB1.out) (HT.out.below HB1.out) hnx)
      simp only [List.length_cons, List.length_nil, Nat.zero_add] at y9
      clear hnx
      by_cases h5 : 5 ≤ kx
      case neg =>
        have HD := Lib.hid (decide_eq_false h5)
        go_wp2_with fail
        go_ret
        exact ⟨ret_bool (by rw [funcB_one, HQA.out, HQB.out, HKD.out, HD.out]; rfl), HB1.out⟩
      have HD := Lib.hid (decide_eq_true h5)
      by_cases h11 : kx ≤ 11
      case neg =>
        have HD2 := Lib.hid (decide_eq_false h11)
        go_wp2_with fail
        go_ret
        exact ⟨ret_bool (by rw [funcB_one, HQA.out, HQB.out, HKD.out, HD.out, HD2.out]; rfl), HB1.out⟩
      have HD2 := Lib.hid (decide_eq_true h11)
      go_wp2_with fail
      refine HX3.out.mono ?_
      rintro e w3 ⟨rfl, hb⟩
      have HB3 := Lib.hid (HB1.out.trans (hb.mono HB1.out.size))
      clear hb z0 z1 z2 z3 z4 z5 z6 z7 z8 z9 y1 y9
      go_wp2_with fail
      go_ret
      exact ⟨ret_bool (by rw [funcB_one, HQA.out, HQB.out, HKD.out, HD.out, HD2.out]; rfl), HB3.out⟩
end Go.Proofs.YtjpopekmbmcggaaGreatDoor
