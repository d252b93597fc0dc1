/- Towards nodeTells_card: NdRefSimple. Merged from smaller texts by a program of the author's. -/
import Derived.Test.YtjpopekmbmcggaaGreatDoorTa39
namespace Go.Proofs.YtjpopekmbmcggaaGreatDoor
open Go.RowKit
set_option maxRecDepth 100000 in
set_option maxHeartbeats 4000000 in
theorem simple_r (f : Nat) (G : Nat → Prop) (w : World) (vs : List Value) (x : NdF (Nd f)) (hG : ∀ k, G k → k < w.heap.size) (hv : NdV (f + 1) G w vs x) :
    Calls Tryz.prog 101 #[ag vs] w fun e w' => e = .returned (.bool (simpleB x)) ∧ Below w.heap.size w w' := by
  obtain ⟨ky, s, nt, ni, ops, asg, wds, rds, ars, kds⟩ := x
  obtain ⟨A4, c4, A5, c5, A6, c6, A7, c7, A8, c8, A9, c9, rfl, hns, hal, hl4, hl5, hl6, hl7, hl8, hl9, hso, hsa, hsw, hsr, hsm, hsk⟩ := NdV.open hv
  have HSO := Lib.hid hso; have HSA := Lib.hid hsa; have HSW := Lib.hid hsw; have HSR := Lib.hid hsr; have HSM := Lib.hid hsm; have HSK := Lib.hid hsk
  clear hso hsa hsw hsr hsm hsk hv
  show Calls Tryz.prog 101 #[.agg #[.int .i64 ky, .string s, .bool nt, .bool ni, .slice A4 ops.length c4, .slice A5 asg.length c5, .slice A6 wds.length c6, .slice A7 rds.length c7, .slice A8 ars.length c8, .slice A9 kds.length c9]] w _
  have hbw : Below w.heap.size w (w.alloc (.cells #[.int .i64 ky, .string s, .bool nt, .bool ni, .slice A4 ops.length c4, .slice A5 asg.length c5, .slice A6 wds.length c6, .slice A7 rds.length c7, .slice A8 ars.length c8, .slice A9 kds.length c9] 28)) := (Below.refl _ _).alloc (Nat.le_refl _) _
  have hb0 := heap_alloc_t w (.cells #[.int .i64 ky, .string s, .bool nt, .bool ni, .slice A4 ops.length c4, .slice A5 asg.length c5, .slice A6 wds.length c6, .slice A7 rds.length c7, .slice A8 ars.length c8, .slice A9 kds.length c9] 28)
  generalize hW : w.alloc (.cells #[.int .i64 ky, .string s, .bool nt, .bool ni, .slice A4 ops.length c4, .slice A5 asg.length c5, .slice A6 wds.length c6, .slice A7 rds.length c7, .slice A8 ars.length c8, .slice A9 kds.length c9] 28) = W at *
  have x0 : W.cell? ⟨w.heap.size, 0, none⟩ = some (.int .i64 ky) := by simp [World.cell?, hb0]
  have x1 : W.cell? ⟨w.heap.size, 1, none⟩ = some (.string s) := by simp [World.cell?, hb0]
  have x2 : W.cell? ⟨w.heap.size, 2, none⟩ = some (.bool nt) := by simp [World.cell?, hb0]
  have x3 : W.cell? ⟨w.heap.size, 3, none⟩ = some (.bool ni) := by simp [World.cell?, hb0]
  have x4 : W.cell? ⟨w.heap.size, 4, none⟩ = some (.slice A4 ops.length c4) := by simp [World.cell?, hb0]
  have x5 : W.cell? ⟨w.heap.size, 5, none⟩ = some (.slice A5 asg.length c5) := by simp [World.cell?, hb0]
  have x6 : W.cell? ⟨w.heap.size, 6, none⟩ = some (.slice A6 wds.length c6) := by simp [World.cell?, hb0]
  have x7 : W.cell? ⟨w.heap.size, 7, none⟩ = some (.slice A7 rds.length c7) := by simp [World.cell?, hb0]
  have x8 : W.cell? ⟨w.heap.size, 8, none⟩ = some (.slice A8 ars.length c8) := by simp [World.cell?, hb0]
  have x9 : W.cell? ⟨w.heap.size, 9, none⟩ = some (.slice A9 kds.length c9) := by simp [World.cell?, hb0]
  have HGW := Lib.hid (old_of hG hbw)
  have HBW := Lib.hid hbw; have HG := Lib.hid hG
  clear hbw hb0 hG
  go_enter Tryz.func101, Tryz.ntmps101
  go_wp2_with fail
  go_loopw [3] (fun i wr => ∃ (k : Nat), k ≤ asg.length ∧ i = .int .i64 k ∧ ((asg.drop k).all fun x => x.p.asg.isSome) = (asg.all fun x => x.p.asg.isSome) ∧ Below W.heap.size W wr) (fun i _ => asg.length - (intOf i).toNat)
  case atStart => exact ⟨0, by omega, rfl, rfl, Below.refl _ _⟩
  case round =>
    obtain ⟨k, hk, rfl, hf, hb⟩ := hrel
    have HF := Lib.hid hf; have HB := Lib.hid hb
    have y5 := box_keep x5 hb; have y6 := box_keep x6 hb; have y7 := box_keep x7 hb
    clear hf hb
    by_cases hlt : k < asg.length
    · obtain ⟨A, c, hA, _, _, hel⟩ := HSA.out.onW HG.out HBW.out
      injection hA with hA1 _ hA2
      subst hA1 hA2
      obtain ⟨b, off, rfl, hg, hel⟩ := hel (by omega)
      obtain ⟨vs, hvl, hR, hcell⟩ := hel k hlt
      have hR' := hR.below HGW.out HB.out
      obtain ⟨A0, c0, rfl, hnc, hcm, hwt, hpt, -⟩ := hR'
      have z0 : wr.cell? ⟨b, off + k, none⟩ = some (.slice A0 (asg[k]).p.len c0) := by simpa using (keep_of HGW.out HB.out _ hg).trans (hcell 0 _ rfl)
      have HX := Lib.hid (rassign_any (asg[k]).p A0 c0 G wr (old_of HGW.out HB.out) hpt hnc hwt hcm)
      have HD := Lib.hid (all_drop (fun x : WdF (Nd f) => x.p.asg.isSome) asg k hlt)
      clear hel hcell hvl hR hg hpt
      go_wp2_with fail
      refine HX.out.mono ?_
      rintro e w1 ⟨v, he, hr, hb1⟩
      obtain ⟨A2, c2, rfl, _⟩ := hr.at_
      have HB1 := Lib.hid ((HB.out.trans (hb1.mono HB.out.size)))
      clear hb1 hr y5 y6 y7 z0
      cases hq : (asg[k]).p.asg.isSome
      · rw [hq] at he
        subst he
        have HQ := Lib.hid hq
        clear hq
        go_wp2_with fail
        go_ret
        exact ⟨ret_bool (by cases wds with
          | nil => rw [simpleB_nil, ← HF.out, HD.out, HQ.out]; rfl
          | cons x0 r => rw [simpleB_cons, ← HF.out, HD.out, HQ.out]; rfl), HBW.out.trans ((HB1.out.alloc HB1.out.size _).mono HBW.out.size)⟩
      · rw [hq] at he
        subst he
        have HQ := Lib.hid hq
        clear hq
        go_wp2_with fail
        go_roundw
        case rel => exact ⟨k + 1, by omega, by go_num, by rw [← HF.out, HD.out, HQ.out]; rfl, HB1.out.alloc HB1.out.size _⟩
        case measure => simp only [intOf]; omega
    · have HE := Lib.hid (all_end (fun x : WdF (Nd f) => x.p.asg.isSome) asg k (by omega))
      have HQA := Lib.hid (show (asg.all fun x => x.p.asg.isSome) = true by rw [← HF.out, HE.out])
      have HB1 := Lib.hid (HBW.out.trans (HB.out.mono HBW.out.size))
      cases wds with
      | nil =>
        go_wp2_with fail
        go_ret
        exact ⟨ret_bool (by rw [simpleB_nil, HQA.out, dec_cast]; rfl), HB1.out⟩
      | cons x0 r =>
        obtain ⟨b, off, A0, c0, rfl, z0, hw0, hnc, hcm, hwt, hpt⟩ := SlAt.word0 (HSW.out.onW HG.out HB1.out)
        have hpos : 0 < List.length (x0 :: r) := by simp
        have hne : ((List.length (x0 :: r) : Nat) : Int) ≠ 0 := by simp; omega
        have hz1 : (((List.length (x0 :: r) : Nat) : Int) == 0) = false := beq_false_of_ne hne
        have hz2 : (List.length (x0 :: r) == 0) = false := beq_false_of_ne (by omega)
        have HX2 := Lib.hid (rassign_any x0.p A0 c0 G wr (old_of HG.out HB1.out) hpt hnc hwt hcm)
        have HPT := Lib.hid hpt
        clear hpt hw0 hne
        generalize (x0 :: r).length = m at *
        go_wp2_with fail
        refine HX2.out.mono ?_
        rintro e w2 ⟨v, he, hr, hb⟩
        obtain ⟨A2, c2, rfl, _⟩ := hr.at_
        have hb' := hb.alloc hb.size (.cells #[.slice A2 x0.p.asgR.len c2] 31)
        have HB2 := Lib.hid (HB1.out.trans (hb'.mono HB1.out.size))
        have v5 := box_keep y5 hb'; have v6 := box_keep y6 hb'; have v7 := box_keep y7 hb'
        have z1 := box_keep z0 hb'
        have HX3 := Lib.hid (rplain_r x0.p A0 c0 G _ (by omega) (old_of HG.out HB2.out) (HPT.out.old (old_of HG.out HB1.out) hb'))
        clear hb hb' hr y5 y6 y7 z0
        cases q1 : x0.p.asg.isSome
        case true =>
          rw [q1] at he
          subst he
          have HQ1 := Lib.hid q1; clear q1
          go_wp2_with fail
          go_ret
          exact ⟨ret_bool (by rw [simpleB_cons, HQA.out, HQ1.out]; rfl), HB2.out⟩
        rw [q1] at he
        subst he
        have HQ1 := Lib.hid q1; clear q1
        go_wp2_with fail
        refine HX3.out.mono ?_
        rintro e w3 ⟨rfl, hb⟩
        have HB3 := Lib.hid (HB2.out.trans (hb.mono HB2.out.size))
        have u5 := box_keep v5 hb; have u7 := box_keep v7 hb
        clear hb v5 v6 v7 z1
        unfold bs
        cases q3 : x0.p.plt.isSome
        · have HQ3 := Lib.hid q3
          go_wp2_with fail
          go_ret
          exact ⟨ret_bool (by rw [simpleB_cons, HQA.out, HQ1.out, HQ3.out]; simp), HB3.out⟩
        have HQ3 := Lib.hid q3
        have HX4 := Lib.hid (rsv_r ⟨(x0.p.plt.getD []).toArray⟩ w3)
        go_wp2_with fail
        refine HX4.out.mono ?_
        rintro e w4 ⟨rfl, hb⟩
        have HB4 := Lib.hid (HB3.out.trans (hb.mono HB3.out.size))
        have t5 := box_keep u5 hb; have t7 := box_keep u7 hb
        clear hb u5 u7
        simp only [list_mk]
        cases q4 : (rsv (x0.p.plt.getD []) == 0)
        · have HQ4 := Lib.hid q4
          go_wp2_with fail
          go_ret
          exact ⟨ret_bool (by rw [simpleB_cons, HQA.out, HQ1.out, HQ3.out, HQ4.out, dec_cast]; simp), HB4.out⟩
        · have HQ4 := Lib.hid q4
          go_wp2_with fail
          go_ret
          exact ⟨ret_bool (by rw [simpleB_cons, HQA.out, HQ1.out, HQ3.out, HQ4.out]; simp), HB4.out⟩
theorem onlyB_none {α : Type} (v : Vw α) (ky : Int) (s : ByteArray) (nt ni : Bool) (ops : List Int) (asg wds : List (WdF α)) (rds : List (RdF α)) (ars : List (ArF α)) (kds : List α) :
    ((ky == 1) && onlyB v none7 (NdF.mk ky s nt ni ops asg wds rds ars kds)) = ((ky == 1) && (!decide (0 < kds.length) && (emptyB true true true true true true s ops asg wds rds ars && (!nt && !ni)))) := by
  by_cases hk : ky = 1
  · subst hk
    unfold onlyB
    rw [show none7 = ⟨false, false, false, false, false, false, false⟩ from rfl, bareB_eq]
    have h3 : ∀ b : Bool, (!uB b ((1 : Int) != 3)) = !b := fun b => by cases b <;> rfl
    have h7 : ∀ b : Bool, (!uB b ((1 : Int) != 7)) = !b := fun b => by cases b <;> rfl
    unfold emptyB
    simp only [Bool.not_or, tS_f, tL_f, rS_t, rL_t, h3, h7]
    cases rds with
    | cons => simp
    | nil =>
      cases wds with
      | cons => simp
      | nil =>
        cases asg with
        | cons => simp
        | nil =>
          simp only [List.all_nil, Bool.and_true]
          ac_rfl
  · rw [beq_false_of_ne hk]; rfl
theorem arm_info {f : Nat} {G : Nat → Prop} {w : World} {vs : List Value} {x : Nd f} (hG : ∀ k, G k → k < w.heap.size) (hv : NdV f G w vs x) :
    ∃ (ky : Int) (s : ByteArray) (nt ni : Bool) (A4 : Option Addr) (n4 c4 : Nat) (A5 : Option Addr) (n5 c5 : Nat) (A6 : Option Addr) (n6 c6 : Nat) (A7 : Option Addr) (n7 c7 : Nat) (A8 : Option Addr) (n8 c8 : Nat) (A9 : Option Addr) (n9 c9 : Nat) (EB : Bool), vs = [.int .i64 ky, .string s, .bool nt, .bool ni, .slice A4 n4 c4, .slice A5 n5 c5, .slice A6 n6 c6, .slice A7 n7 c7, .slice A8 n8 c8, .slice A9 n9 c9] ∧ (Nd.vw f).kd x = ky ∧ n9 ≤ 9223372036854775807 ∧ ((ky == 1) && (Nd.vw f).on x) = ((ky == 1) && (!decide (0 < n9) && (EB && (!nt && !ni)))) ∧
      ∀ X, Below w.heap.size w X → Calls Tryz.prog 98 #[.agg #[.int .i64 ky, .string s, .bool nt, .bool ni, .slice A4 n4 c4, .slice A5 n5 c5, .slice A6 n6 c6, .slice A7 n7 c7, .slice A8 n8 c8, .slice A9 n9 c9], .bool true, .bool true, .bool true, .bool true, .bool true, .bool true] X fun e w' => e = .returned (.bool EB) ∧ Below X.heap.size X w' := by
  cases f with
  | zero => exact hv.elim
  | succ f =>
    obtain ⟨ky, s, nt, ni, ops, asg, wds, rds, ars, kds⟩ := x
    have hv' := hv
    obtain ⟨A4, c4, A5, c5, A6, c6, A7, c7, A8, c8, A9, c9, rfl, hns, hal, hl4, hl5, hl6, hl7, hl8, hl9, hso, hsa, hsw, hsr, hsm, hsk⟩ := NdV.open hv'
    exact ⟨ky, s, nt, ni, A4, _, c4, A5, _, c5, A6, _, c6, A7, _, c7, A8, _, c8, A9, _, c9, _, rfl, rfl, hl9, onlyB_none (Nd.vw f) ky s nt ni ops asg wds rds ars kds, fun X hX => empty_r f true true true true true true G X _ _ (old_of hG hX) (hv.below hG hX)⟩
set_option maxRecDepth 100000 in
set_option maxHeartbeats 4000000 in
theorem arms_r (f : Nat) (ih : RRt f) (G : Nat → Prop) (v : Value) (xs : List (ArF (Nd f))) (w : World) (hG : ∀ k, G k → k < w.heap.size) (hs : SlAt G w 11 (ArN f G w) v xs) :
    Calls Tryz.prog 104 #[v] w fun e w' => e = .returned (.bool (xs.all (armB (Nd.vw f)))) ∧ Below w.heap.size w w' := by
  obtain ⟨A, c, rfl, hl, hm, hc⟩ := hs
  unfold maxLen at hm
  have HC := Lib.hid hc; have HG := Lib.hid hG; have IH := Lib.hid ih
  clear hc hG ih
  go_enter Tryz.func104, Tryz.ntmps104
  go_wp2_with fail
  go_loopw [3] (fun i wr => ∃ (k : Nat), k ≤ xs.length ∧ i = .int .i64 k ∧ (xs.drop k).all (armB (Nd.vw f)) = xs.all (armB (Nd.vw f)) ∧ Below w.heap.size w wr) (fun i _ => xs.length - (intOf i).toNat)
  case atStart => exact ⟨0, by omega, rfl, rfl, Below.refl _ _⟩
  case round =>
    obtain ⟨k, hk, rfl, hf, hb⟩ := hrel
    have HF := Lib.hid hf; have HB := Lib.hid hb
    clear hf hb
    by_cases hlt : k < xs.length
    · obtain ⟨b, off, rfl, hg, hel⟩ := HC.out (by omega)
      obtain ⟨vs, hvl, hR, hcell⟩ := hel k hlt
      have hR' := hR.below HG.out HB.out
      have HD := Lib.hid (all_drop (armB (Nd.vw f)) xs k hlt)
      generalize hxk : xs[k] = a at *
      obtain ⟨ps, bd⟩ := a
      obtain ⟨vp, bs', rfl, hbl, hps, hbd⟩ := hR'
      simp only at hps hbd
      obtain ⟨A0, c0, rfl, hl0, hm0⟩ := SlAt.shape hps
      have hGr := old_of HG.out HB.out
      obtain ⟨ky, s, nt, ni, A4, n4, c4, A5, n5, c5, A6, n6, c6, A7, n7, c7, A8, n8, c8, A9, n9, c9, EB, rfl, hkd, hn9, hon, hemp⟩ := arm_info hGr hbd
      have z := fun j u hj => (keep_of HG.out HB.out _ hg).trans (hcell j u hj)
      have d0 : wr.cell? ⟨b, off + k * 11, none⟩ = some (.slice A0 ps.length c0) := by simpa using z 0 _ rfl
      have d1 : wr.cell? ⟨b, off + k * 11 + 1, none⟩ = some (.int .i64 ky) := by simpa using z 1 _ rfl
      have d2 : wr.cell? ⟨b, off + k * 11 + 2, none⟩ = some (.string s) := by simpa using z 2 _ rfl
      have d3 : wr.cell? ⟨b, off + k * 11 + 3, none⟩ = some (.bool nt) := by simpa using z 3 _ rfl
      have d4 : wr.cell? ⟨b, off + k * 11 + 4, none⟩ = some (.bool ni) := by simpa using z 4 _ rfl
      have d5 : wr.cell? ⟨b, off + k * 11 + 5, none⟩ = some (.slice A4 n4 c4) := by simpa using z 5 _ rfl
      have d6 : wr.cell? ⟨b, off + k * 11 + 6, none⟩ = some (.slice A5 n5 c5) := by simpa using z 6 _ rfl
      have d7 : wr.cell? ⟨b, off + k * 11 + 7, none⟩ = some (.slice A6 n6 c6) := by simpa using z 7 _ rfl
      have d8 : wr.cell? ⟨b, off + k * 11 + 8, none⟩ = some (.slice A7 n7 c7) := by simpa using z 8 _ rfl
      have d9 : wr.cell? ⟨b, off + k * 11 + 9, none⟩ = some (.slice A8 n8 c8) := by simpa using z 9 _ rfl
      have d10 : wr.cell? ⟨b, off + k * 11 + 10, none⟩ = some (.slice A9 n9 c9) := by simpa using z 10 _ rfl
      have hbr := (Below.refl wr.heap.size wr).alloc (Nat.le_refl _) (.cells #[.int .i64 ky, .string s, .bool nt, .bool ni, .slice A4 n4 c4, .slice A5 n5 c5, .slice A6 n6 c6, .slice A7 n7 c7, .slice A8 n8 c8, .slice A9 n9 c9] 28)
      have hbx := heap_alloc_t wr (.cells #[.int .i64 ky, .string s, .bool nt, .bool ni, .slice A4 n4 c4, .slice A5 n5 c5, .slice A6 n6 c6, .slice A7 n7 c7, .slice A8 n8 c8, .slice A9 n9 c9] 28)
      have e0 := box_keep d0 hbr
      have x0 : (wr.alloc (.cells #[.int .i64 ky, .string s, .bool nt, .bool ni, .slice A4 n4 c4, .slice A5 n5 c5, .slice A6 n6 c6, .slice A7 n7 c7, .slice A8 n8 c8, .slice A9 n9 c9] 28)).cell? ⟨wr.heap.size, 0, none⟩ = some (.int .i64 ky) := box_at hbx _ (Below.refl _ _) 0 _ rfl
      have x1 : (wr.alloc (.cells #[.int .i64 ky, .string s, .bool nt, .bool ni, .slice A4 n4 c4, .slice A5 n5 c5, .slice A6 n6 c6, .slice A7 n7 c7, .slice A8 n8 c8, .slice A9 n9 c9] 28)).cell? ⟨wr.heap.size, 1, none⟩ = some (.string s) := box_at hbx _ (Below.refl _ _) 1 _ rfl
      have x2 : (wr.alloc (.cells #[.int .i64 ky, .string s, .bool nt, .bool ni, .slice A4 n4 c4, .slice A5 n5 c5, .slice A6 n6 c6, .slice A7 n7 c7, .slice A8 n8 c8, .slice A9 n9 c9] 28)).cell? ⟨wr.heap.size, 2, none⟩ = some (.bool nt) := box_at hbx _ (Below.refl _ _) 2 _ rfl
      have x3 : (wr.alloc (.cells #[.int .i64 ky, .string s, .bool nt, .bool ni, .slice A4 n4 c4, .slice A5 n5 c5, .slice A6 n6 c6, .slice A7 n7 c7, .slice A8 n8 c8, .slice A9 n9 c9] 28)).cell? ⟨wr.heap.size, 3, none⟩ = some (.bool ni) := box_at hbx _ (Below.refl _ _) 3 _ rfl
      have x4 : (wr.alloc (.cells #[.int .i64 ky, .string s, .bool nt, .bool ni, .slice A4 n4 c4, .slice A5 n5 c5, .slice A6 n6 c6, .slice A7 n7 c7, .slice A8 n8 c8, .slice A9 n9 c9] 28)).cell? ⟨wr.heap.size, 4, none⟩ = some (.slice A4 n4 c4) := box_at hbx _ (Below.refl _ _) 4 _ rfl
      have x5 : (wr.alloc (.cells #[.int .i64 ky, .string s, .bool nt, .bool ni, .slice A4 n4 c4, .slice A5 n5 c5, .slice A6 n6 c6, .slice A7 n7 c7, .slice A8 n8 c8, .slice A9 n9 c9] 28)).cell? ⟨wr.heap.size, 5, none⟩ = some (.slice A5 n5 c5) := box_at hbx _ (Below.refl _ _) 5 _ rfl
      have x6 : (wr.alloc (.cells #[.int .i64 ky, .string s, .bool nt, .bool ni, .slice A4 n4 c4, .slice A5 n5 c5, .slice A6 n6 c6, .slice A7 n7 c7, .slice A8 n8 c8, .slice A9 n9 c9] 28)).cell? ⟨wr.heap.size, 6, none⟩ = some (.slice A6 n6 c6) := box_at hbx _ (Below.refl _ _) 6 _ rfl
      have x7 : (wr.alloc (.cells #[.int .i64 ky, .string s, .bool nt, .bool ni, .slice A4 n4 c4, .slice A5 n5 c5, .slice A6 n6 c6, .slice A7 n7 c7, .slice A8 n8 c8, .slice A9 n9 c9] 28)).cell? ⟨wr.heap.size, 7, none⟩ = some (.slice A7 n7 c7) := box_at hbx _ (Below.refl _ _) 7 _ rfl
      have x8 : (wr.alloc (.cells #[.int .i64 ky, .string s, .bool nt, .bool ni, .slice A4 n4 c4, .slice A5 n5 c5, .slice A6 n6 c6, .slice A7 n7 c7, .slice A8 n8 c8, .slice A9 n9 c9] 28)).cell? ⟨wr.heap.size, 8, none⟩ = some (.slice A8 n8 c8) := box_at hbx _ (Below.refl _ _) 8 _ rfl
      have x9 : (wr.alloc (.cells #[.int .i64 ky, .string s, .bool nt, .bool ni, .slice A4 n4 c4, .slice A5 n5 c5, .slice A6 n6 c6, .slice A7 n7 c7, .slice A8 n8 c8, .slice A9 n9 c9] 28)).cell? ⟨wr.heap.size, 9, none⟩ = some (.slice A9 n9 c9) := box_at hbx _ (Below.refl _ _) 9 _ rfl
      have HX := Lib.hid (words_r f IH.out G _ ps _ (old_of hGr hbr) (SlAt.onW hps hGr hbr))
      have HON := Lib.hid hon; have HKD := Lib.hid hkd; have HEM := Lib.hid hemp; have HBD := Lib.hid hbd; have HGR := Lib.hid hGr; have HBR := Lib.hid hbr
      unfold maxLen at hm0
      have HEQ := Lib.hid (armB_eq (Nd.vw f) ps bd)
      clear z hel hcell hvl hR hg hps hbd hon hkd hemp hGr hbr hbx hxk hbl
      by_cases hp : 0 < ps.length
      case neg =>
        have HP := Lib.hid (decide_eq_false hp)
        have hz : ps.length = 0 := by omega
        have hz1 : ((ps.length : Int) == 0) = true := by rw [hz]; rfl
        have hz2 : (ps.length == 0) = true := by rw [hz]; rfl
        clear hz
        go_wp2_with fail
        go_ret
        exact ⟨ret_bool (by rw [← HF.out, HD.out, HEQ.out, HP.out]; rfl), HB.out.trans (HBR.out.mono HB.out.size)⟩
      have HP := Lib.hid (decide_eq_true hp)
      have hz1 : ((ps.length : Int) == 0) = false := beq_false_of_ne (by omega)
      have hz2 : (ps.length == 0) = false := beq_false_of_ne (by omega)
      go_wp2_with fail
      refine HX.out.mono ?_
      rintro e w1 ⟨he, hb1⟩
      have HB1 := Lib.hid (HBR.out.trans (hb1.mono HBR.out.size))
      have y0 := box_keep x0 hb1; have y1 := box_keep x1 hb1; have y2 := box_keep x2 hb1; have y3 := box_keep x3 hb1; have y4 := box_keep x4 hb1; have y5 := box_keep x5 hb1; have y6 := box_keep x6 hb1; have y7 := box_keep x7 hb1; have y8 := box_keep x8 hb1; have y9 := box_keep x9 hb1
      clear hb1 x0 x1 x2 x3 x4 x5 x6 x7 x8 x9 d0 d1 d2 d3 d4 d5 d6 d7 d8 d9 d10 e0
      cases qa : ps.all (wordB (Nd.vw f))
      · rw [qa] at he
        subst he
        have HQA := Lib.hid qa; clear qa
        go_wp2_with fail
        go_ret
        exact ⟨ret_bool (by rw [← HF.out, HD.out, HEQ.out, HP.out, HQA.out]; rfl), HB.out.trans (HB1.out.mono HB.out.size)⟩
      rw [qa] at he
      subst he
      have HQA := Lib.hid qa; clear qa
      have HX2 := Lib.hid (IH.out G w1 _ bd (old_of HGR.out HB1.out) (HBD.out.below HGR.out HB1.out))
      go_wp2_with fail
      refine HX2.out.mono ?_
      rintro e w2 ⟨he, hb2⟩
      have HB2 := Lib.hid (HB1.out.trans (hb2.mono HB1.out.size))
      have t0 := box_keep y0 hb2; have t1 := box_keep y1 hb2; have t2 := box_keep y2 hb2; have t3 := box_keep y3 hb2; have t4 := box_keep y4 hb2; have t5 := box_keep y5 hb2; have t6 := box_keep y6 hb2; have t7 := box_keep y7 hb2; have t8 := box_keep y8 hb2; have t9 := box_keep y9 hb2
      clear hb2 y0 y1 y2 y3 y4 y5 y6 y7 y8 y9
      cases qb : (Nd.vw f).R bd
      case true =>
        rw [qb] at he
        subst he
        have HQB := Lib.hid qb; clear qb
        go_wp2_with fail
        go_roundw
        case rel => exact ⟨k + 1, by omega, by go_num, by rw [← HF.out, HD.out, HEQ.out, HP.out, HQA.out, HQB.out]; rfl, HB.out.trans (HB2.out.mono HB.out.size)⟩
        case measure => simp only [intOf]; omega
      rw [qb] at he
      subst he
      have HQB := Lib.hid qb; clear qb
      cases qk : (ky == 1)
      · have HQK := Lib.hid qk
        have qk2 : (ky != 1) = true := by rw [bne, qk]; rfl
        go_wp2_with fail
        go_ret
        exact ⟨ret_bool (by rw [← HF.out, HD.out, HEQ.out, HP.out, HQA.out, HQB.out, HKD.out, HQK.out]; rfl), HB.out.trans (HB2.out.mono HB.out.size)⟩
      have HQK := Lib.hid qk
      have qk2 : (ky != 1) = false := by rw [bne, qk]; rfl
      cases q9 : decide (0 < n9)
      case true =>
        have HQ9 := Lib.hid q9
        go_wp2_with fail
        go_ret
        exact ⟨ret_bool (by rw [← HF.out, HD.out, HEQ.out, HP.out, HQA.out, HQB.out, HKD.out, HON.out, HQK.out, HQ9.out]; rfl), HB.out.trans (HB2.out.mono HB.out.size)⟩
      have HQ9 := Lib.hid q9
      have HX3 := Lib.hid (HEM.out w2 HB2.out)
      go_wp2_with fail
      refine HX3.out.mono ?_
      rintro e w3 ⟨he, hb3⟩
      have HB3 := Lib.hid (HB2.out.trans (hb3.mono HB2.out.size))
      have u0 := box_keep t0 hb3; have u1 := box_keep t1 hb3; have u2 := box_keep t2 hb3; have u3 := box_keep t3 hb3; have u4 := box_keep t4 hb3; have u5 := box_keep t5 hb3; have u6 := box_keep t6 hb3; have u7 := box_keep t7 hb3; have u8 := box_keep t8 hb3; have u9 := box_keep t9 hb3
      clear hb3 t0 t1 t2 t3 t4 t5 t6 t7 t8 t9
      cases EB
      case false =>
        subst he
        go_wp2_with fail
        go_ret
        exact ⟨ret_bool (by rw [← HF.out, HD.out, HEQ.out, HP.out, HQA.out, HQB.out, HKD.out, HON.out, HQK.out, HQ9.out]; rfl), HB.out.trans (HB3.out.mono HB.out.size)⟩
      subst he
      cases nt
      case true =>
        go_wp2_with fail
        go_ret
        exact ⟨ret_bool (by rw [← HF.out, HD.out, HEQ.out, HP.out, HQA.out, HQB.out, HKD.out, HON.out, HQK.out, HQ9.out]; rfl), HB.out.trans (HB3.out.mono HB.out.size)⟩
      cases ni
      case true =>
        go_wp2_with fail
        go_ret
        exact ⟨ret_bool (by rw [← HF.out, HD.out, HEQ.out, HP.out, HQA.out, HQB.out, HKD.out, HON.out, HQK.out, HQ9.out]; rfl), HB.out.trans (HB3.out.mono HB.out.size)⟩
      go_wp2_with fail
      go_roundw
      case rel => exact ⟨k + 1, by omega, by go_num, by rw [← HF.out, HD.out, HEQ.out, HP.out, HQA.out, HQB.out, HKD.out, HON.out, HQK.out, HQ9.out]; rfl, HB.out.trans (HB3.out.mono HB.out.size)⟩
      case measure => simp only [intOf]; omega
    · have HE := Lib.hid (all_end (armB (Nd.vw f)) xs k (by omega))
      go_wp2_with fail
      go_ret
      exact ⟨ret_bool (by rw [← HF.out, HE.out]), HB.out⟩
end Go.Proofs.YtjpopekmbmcggaaGreatDoor
