/- Towards nodeTells_card: ProgRight, RefRight, NdWord. Merged from smaller texts by a program of the author's. -/
import Derived.Test.YtjpopekmbmcggaaGreatDoorTa20
import Derived.Test.YtjpopekmbmcggaaGreatDoorTa13
namespace Go.Proofs.YtjpopekmbmcggaaGreatDoor
open Go.RowKit
set_option maxRecDepth 100000 in
set_option maxHeartbeats 400000 in
theorem right_p (l : Pts) (A : Option Addr) (c : Nat) (G : Nat → Prop) (w : World) (hwt : l.wt ≤ 1073741824) (hG : ∀ k, G k → k < w.heap.size) (hp : PtsAt G w A 0 l) :
    Calls Tryz.prog 39 #[.agg #[.slice A l.len c]] w fun e w' => e = .returned (.bool l.right) ∧ Below w.heap.size w w' := by
  have hw0 : Below w.heap.size w (w.alloc (.cells #[.slice A l.len c] 31)) := (Below.refl _ _).alloc (Nat.le_refl _) _
  have hbox := heap_alloc_new w (.cells #[.slice A l.len c] 31)
  have hp0 := hp.old hG hw0
  have hG0 : ∀ g, G g → g < (w.alloc (.cells #[.slice A l.len c] 31)).heap.size := fun g hg => by have := hG g hg; simp; omega
  have hlw := Pts.len_wt l
  have HW0 := Lib.hid hw0; have HBX := Lib.hid hbox; have HP := Lib.hid hp0; have HG0 := Lib.hid hG0
  clear hw0 hbox hp hp0 hG hG0
  cases hl0 : ((l.len : Int) == 0)
  · have hln : (l.len == 0) = false := by rw [beq_eq_false_iff_ne] at hl0 ⊢; omega
    have HL0 := Lib.hid hl0
    cases ha : l.allP 0 none
    · have HA := Lib.hid ha
      have HF := Lib.hid (show l.right = false by unfold Pts.right; rw [ha]; simp)
      go_enter Tryz.func39, Tryz.ntmps39
      go_wp2_with fail
      refine (all_q (l.deep + 1) 0 l A c G _ (by omega) (by omega) hwt HG0.out HP.out).mono ?_
      rintro e w1 ⟨rfl, hb1⟩
      rw [HA.out]
      have hbox1 := (hb1.block w.heap.size (by simp)).trans HBX.out
      have q0 : w1.cell? ⟨w.heap.size, 0, none⟩ = some (.slice A l.len c) := by simp [World.cell?, hbox1]
      have hpn := HP.out.old HG0.out hb1
      have HB1 := Lib.hid (HW0.out.trans (hb1.mono HW0.out.size))
      clear hb1 hbox1
      clear hpn
      go_wp2
      go_ret
      exact ⟨by rw [HF.out]; rfl, HB1.out⟩
    · have HA := Lib.hid ha
      have hc := pts_cons hl0
      obtain ⟨k, t, o, kids, cm, r, hl⟩ := hc
      cases hk : (k != 1)
      · obtain rfl : k = 1 := by simpa using hk
        have hne : t.toList ≠ [] := by
          have := HA.out
          rw [hl] at this
          simp only [Pts.allP, Bool.and_eq_true] at this
          exact (oneB_lit this.1.1).1
        have hpos : 0 < t.size := by rw [size_list]; exact List.length_pos_iff.2 hne
        have hposz : (0 : Int) < (t.size : Int) := by omega
        have hhd : hd0 t.toList = t[0] := hd0_get t hpos
        clear hne hk
        cases h35 : ((t[0].toNat : Int) != 35)
        · have h35n : (t[0] == 35) = true := by rw [beq_iff_eq]; exact UInt8.toNat_inj.1 (by have := bne_eq_false_iff_eq.1 h35; show _ = 35; omega)
          have HF0 := Lib.hid (show (!(hd0 l.headT == 35)) = false by rw [hl, Pts.headT, hhd, h35n]; rfl)
          have HF1 := Lib.hid (show (l.headK == 1) = true by rw [hl]; rfl)
          have HF := Lib.hid (show l.right = false by unfold Pts.right; rw [hln, HA.out, HF0.out, HF1.out]; rfl)
          go_enter Tryz.func39, Tryz.ntmps39
          clear ha hl0 hln hhd h35n
          subst hl
          go_wp2_with fail
          refine (all_q ((Pts.cons 1 t o kids cm r).deep + 1) 0 (Pts.cons 1 t o kids cm r) A c G _ (by omega) (by omega) hwt HG0.out HP.out).mono ?_
          rintro e w1 ⟨rfl, hb1⟩
          rw [HA.out]
          have hbox1 := (hb1.block w.heap.size (by simp)).trans HBX.out
          have q0 : w1.cell? ⟨w.heap.size, 0, none⟩ = some (.slice A (Pts.cons 1 t o kids cm r).len c) := by simp [World.cell?, hbox1]
          have hpn := HP.out.old HG0.out hb1
          have HB1 := Lib.hid (HW0.out.trans (hb1.mono HW0.out.size))
          clear hb1 hbox1
          obtain ⟨b, off, Ak, ck, rfl, _, c0, c1, _⟩ := hpn
          simp only [Nat.zero_mul, Nat.add_zero] at c0 c1
          have hlz : (0 : Int) < ((Pts.cons 1 t o kids cm r).len : Int) := by simp only [Pts.len]; omega
          go_wp2
          go_ret
          exact ⟨by rw [HF.out]; rfl, HB1.out⟩
        · have h35n : (t[0] == 35) = false := by rw [beq_eq_false_iff_ne]; intro e; exact (bne_iff_ne.1 h35) (by rw [e]; rfl)
          have HF0 := Lib.hid (show (!(hd0 l.headT == 35)) = true by rw [hl, Pts.headT, hhd, h35n]; rfl)
          have HF1 := Lib.hid (show (l.headK == 1) = true by rw [hl]; rfl)
          have HF := Lib.hid (show l.right = true by unfold Pts.right; rw [hln, HA.out, HF0.out, HF1.out]; rfl)
          go_enter Tryz.func39, Tryz.ntmps39
          clear ha hl0 hln hhd h35n
          subst hl
          go_wp2_with fail
          refine (all_q ((Pts.cons 1 t o kids cm r).deep + 1) 0 (Pts.cons 1 t o kids cm r) A c G _ (by omega) (by omega) hwt HG0.out HP.out).mono ?_
          rintro e w1 ⟨rfl, hb1⟩
          rw [HA.out]
          have hbox1 := (hb1.block w.heap.size (by simp)).trans HBX.out
          have q0 : w1.cell? ⟨w.heap.size, 0, none⟩ = some (.slice A (Pts.cons 1 t o kids cm r).len c) := by simp [World.cell?, hbox1]
          have hpn := HP.out.old HG0.out hb1
          have HB1 := Lib.hid (HW0.out.trans (hb1.mono HW0.out.size))
          clear hb1 hbox1
          obtain ⟨b, off, Ak, ck, rfl, _, c0, c1, _⟩ := hpn
          simp only [Nat.zero_mul, Nat.add_zero] at c0 c1
          have hlz : (0 : Int) < ((Pts.cons 1 t o kids cm r).len : Int) := by simp only [Pts.len]; omega
          go_wp2
          go_ret
          exact ⟨by rw [HF.out]; rfl, HB1.out⟩
      · have HF1 := Lib.hid (show (!(l.headK == 1)) = true by rw [hl, Pts.headK]; exact hk)
        have HF := Lib.hid (show l.right = true by unfold Pts.right; rw [hln, HA.out, HF1.out]; simp)
        go_enter Tryz.func39, Tryz.ntmps39
        clear ha hl0 hln
        subst hl
        go_wp2_with fail
        refine (all_q ((Pts.cons k t o kids cm r).deep + 1) 0 (Pts.cons k t o kids cm r) A c G _ (by omega) (by omega) hwt HG0.out HP.out).mono ?_
        rintro e w1 ⟨rfl, hb1⟩
        rw [HA.out]
        have hbox1 := (hb1.block w.heap.size (by simp)).trans HBX.out
        have q0 : w1.cell? ⟨w.heap.size, 0, none⟩ = some (.slice A (Pts.cons k t o kids cm r).len c) := by simp [World.cell?, hbox1]
        have hpn := HP.out.old HG0.out hb1
        have HB1 := Lib.hid (HW0.out.trans (hb1.mono HW0.out.size))
        clear hb1 hbox1
        obtain ⟨b, off, Ak, ck, rfl, _, c0, c1, _⟩ := hpn
        simp only [Nat.zero_mul, Nat.add_zero] at c0 c1
        have hlz : (0 : Int) < ((Pts.cons k t o kids cm r).len : Int) := by simp only [Pts.len]; omega
        go_wp2
        go_ret
        exact ⟨by rw [HF.out]; rfl, HB1.out⟩
  · have hln : (l.len == 0) = true := by rw [beq_iff_eq] at hl0 ⊢; omega
    have HF := Lib.hid (show l.right = false by unfold Pts.right; rw [hln]; simp)
    go_enter Tryz.func39, Tryz.ntmps39
    clear hln
    go_wp2
    go_ret
    exact ⟨by rw [HF.out]; rfl, HW0.out⟩
end Go.Proofs.YtjpopekmbmcggaaGreatDoor
namespace Go.Proofs.YtjpopekmbmcggaaGreatDoor
open Go.RowKit
set_option maxRecDepth 100000 in
set_option maxHeartbeats 400000 in
theorem right_r (l : Pts) (A : Option Addr) (c : Nat) (G : Nat → Prop) (w : World) (hwt : l.wt ≤ 1099511627776) (hG : ∀ k, G k → k < w.heap.size) (hp : PtsAt G w A 0 l) :
    Calls Tryz.prog 42 #[.agg #[.slice A l.len c]] w fun e w' => e = .returned (.bool l.right) ∧ Below w.heap.size w w' := by
  have hw0 : Below w.heap.size w (w.alloc (.cells #[.slice A l.len c] 31)) := (Below.refl _ _).alloc (Nat.le_refl _) _
  have hbox := heap_alloc_new w (.cells #[.slice A l.len c] 31)
  have hp0 := hp.old hG hw0
  have hG0 : ∀ g, G g → g < (w.alloc (.cells #[.slice A l.len c] 31)).heap.size := fun g hg => by have := hG g hg; simp; omega
  have hlw := Pts.len_wt l
  have HW0 := Lib.hid hw0; have HBX := Lib.hid hbox; have HP := Lib.hid hp0; have HG0 := Lib.hid hG0
  clear hw0 hbox hp hp0 hG hG0
  cases hl0 : ((l.len : Int) == 0)
  · have hln : (l.len == 0) = false := by rw [beq_eq_false_iff_ne] at hl0 ⊢; omega
    have HL0 := Lib.hid hl0
    cases ha : l.allP 0 none
    · have HA := Lib.hid ha
      have HF := Lib.hid (show l.right = false by unfold Pts.right; rw [ha]; simp)
      go_enter Tryz.func42, Tryz.ntmps42
      go_wp2_with fail
      refine (all_r (l.deep + 1) 0 l A c G _ (by omega) (by omega) hwt HG0.out HP.out).mono ?_
      rintro e w1 ⟨rfl, hb1⟩
      rw [HA.out]
      have hbox1 := (hb1.block w.heap.size (by simp)).trans HBX.out
      have q0 : w1.cell? ⟨w.heap.size, 0, none⟩ = some (.slice A l.len c) := by simp [World.cell?, hbox1]
      have hpn := HP.out.old HG0.out hb1
      have HB1 := Lib.hid (HW0.out.trans (hb1.mono HW0.out.size))
      clear hb1 hbox1
      clear hpn
      go_wp2
      go_ret
      exact ⟨by rw [HF.out]; rfl, HB1.out⟩
    · have HA := Lib.hid ha
      have hc := pts_cons hl0
      obtain ⟨k, t, o, kids, cm, r, hl⟩ := hc
      cases hk : (k != 1)
      · obtain rfl : k = 1 := by simpa using hk
        have hne : t.toList ≠ [] := by
          have := HA.out
          rw [hl] at this
          simp only [Pts.allP, Bool.and_eq_true] at this
          exact (oneB_lit this.1.1).1
        have hpos : 0 < t.size := by rw [size_list]; exact List.length_pos_iff.2 hne
        have hposz : (0 : Int) < (t.size : Int) := by omega
        have hhd : hd0 t.toList = t[0] := hd0_get t hpos
        clear hne hk
        cases h35 : ((t[0].toNat : Int) != 35)
        · have h35n : (t[0] == 35) = true := by rw [beq_iff_eq]; exact UInt8.toNat_inj.1 (by have := bne_eq_false_iff_eq.1 h35; show _ = 35; omega)
          have HF0 := Lib.hid (show (!(hd0 l.headT == 35)) = false by rw [hl, Pts.headT, hhd, h35n]; rfl)
          have HF1 := Lib.hid (show (l.headK == 1) = true by rw [hl]; rfl)
          have HF := Lib.hid (show l.right = false by unfold Pts.right; rw [hln, HA.out, HF0.out, HF1.out]; rfl)
          go_enter Tryz.func42, Tryz.ntmps42
          clear ha hl0 hln hhd h35n
          subst hl
          go_wp2_with fail
          refine (all_r ((Pts.cons 1 t o kids cm r).deep + 1) 0 (Pts.cons 1 t o kids cm r) A c G _ (by omega) (by omega) hwt HG0.out HP.out).mono ?_
          rintro e w1 ⟨rfl, hb1⟩
          rw [HA.out]
          have hbox1 := (hb1.block w.heap.size (by simp)).trans HBX.out
          have q0 : w1.cell? ⟨w.heap.size, 0, none⟩ = some (.slice A (Pts.cons 1 t o kids cm r).len c) := by simp [World.cell?, hbox1]
          have hpn := HP.out.old HG0.out hb1
          have HB1 := Lib.hid (HW0.out.trans (hb1.mono HW0.out.size))
          clear hb1 hbox1
          obtain ⟨b, off, Ak, ck, rfl, _, c0, c1, _⟩ := hpn
          simp only [Nat.zero_mul, Nat.add_zero] at c0 c1
          have hlz : (0 : Int) < ((Pts.cons 1 t o kids cm r).len : Int) := by simp only [Pts.len]; omega
          go_wp2
          go_ret
          exact ⟨by rw [HF.out]; rfl, HB1.out⟩
        · have h35n : (t[0] == 35) = false := by rw [beq_eq_false_iff_ne]; intro e; exact (bne_iff_ne.1 h35) (by rw [e]; rfl)
          have HF0 := Lib.hid (show (!(hd0 l.headT == 35)) = true by rw [hl, Pts.headT, hhd, h35n]; rfl)
          have HF1 := Lib.hid (show (l.headK == 1) = true by rw [hl]; rfl)
          have HF := Lib.hid (show l.right = true by unfold Pts.right; rw [hln, HA.out, HF0.out, HF1.out]; rfl)
          go_enter Tryz.func42, Tryz.ntmps42
          clear ha hl0 hln hhd h35n
          subst hl
          go_wp2_with fail
          refine (all_r ((Pts.cons 1 t o kids cm r).deep + 1) 0 (Pts.cons 1 t o kids cm r) A c G _ (by omega) (by omega) hwt HG0.out HP.out).mono ?_
          rintro e w1 ⟨rfl, hb1⟩
          rw [HA.out]
          have hbox1 := (hb1.block w.heap.size (by simp)).trans HBX.out
          have q0 : w1.cell? ⟨w.heap.size, 0, none⟩ = some (.slice A (Pts.cons 1 t o kids cm r).len c) := by simp [World.cell?, hbox1]
          have hpn := HP.out.old HG0.out hb1
          have HB1 := Lib.hid (HW0.out.trans (hb1.mono HW0.out.size))
          clear hb1 hbox1
          obtain ⟨b, off, Ak, ck, rfl, _, c0, c1, _⟩ := hpn
          simp only [Nat.zero_mul, Nat.add_zero] at c0 c1
          have hlz : (0 : Int) < ((Pts.cons 1 t o kids cm r).len : Int) := by simp only [Pts.len]; omega
          go_wp2
          go_ret
          exact ⟨by rw [HF.out]; rfl, HB1.out⟩
      · have HF1 := Lib.hid (show (!(l.headK == 1)) = true by rw [hl, Pts.headK]; exact hk)
        have HF := Lib.hid (show l.right = true by unfold Pts.right; rw [hln, HA.out, HF1.out]; simp)
        go_enter Tryz.func42, Tryz.ntmps42
        clear ha hl0 hln
        subst hl
        go_wp2_with fail
        refine (all_r ((Pts.cons k t o kids cm r).deep + 1) 0 (Pts.cons k t o kids cm r) A c G _ (by omega) (by omega) hwt HG0.out HP.out).mono ?_
        rintro e w1 ⟨rfl, hb1⟩
        rw [HA.out]
        have hbox1 := (hb1.block w.heap.size (by simp)).trans HBX.out
        have q0 : w1.cell? ⟨w.heap.size, 0, none⟩ = some (.slice A (Pts.cons k t o kids cm r).len c) := by simp [World.cell?, hbox1]
        have hpn := HP.out.old HG0.out hb1
        have HB1 := Lib.hid (HW0.out.trans (hb1.mono HW0.out.size))
        clear hb1 hbox1
        obtain ⟨b, off, Ak, ck, rfl, _, c0, c1, _⟩ := hpn
        simp only [Nat.zero_mul, Nat.add_zero] at c0 c1
        have hlz : (0 : Int) < ((Pts.cons k t o kids cm r).len : Int) := by simp only [Pts.len]; omega
        go_wp2
        go_ret
        exact ⟨by rw [HF.out]; rfl, HB1.out⟩
  · have hln : (l.len == 0) = true := by rw [beq_iff_eq] at hl0 ⊢; omega
    have HF := Lib.hid (show l.right = false by unfold Pts.right; rw [hln]; simp)
    go_enter Tryz.func42, Tryz.ntmps42
    clear hln
    go_wp2
    go_ret
    exact ⟨by rw [HF.out]; rfl, HW0.out⟩
end Go.Proofs.YtjpopekmbmcggaaGreatDoor
namespace Go.Proofs.YtjpopekmbmcggaaGreatDoor
open Go.RowKit
def PRt (f : Nat) : Prop := ∀ (G : Nat → Prop) (w : World) (vs : List Value) (x : Nd f), (∀ k, G k → k < w.heap.size) → RsvAt w → NdV f G w vs x →
  Calls Tryz.prog 13 #[ag vs] w fun e w' => e = .returned (.bool ((Nd.vw f).R x)) ∧ Below w.heap.size w w'
def RRt (f : Nat) : Prop := ∀ (G : Nat → Prop) (w : World) (vs : List Value) (x : Nd f), (∀ k, G k → k < w.heap.size) → NdV f G w vs x →
  Calls Tryz.prog 14 #[ag vs] w fun e w' => e = .returned (.bool ((Nd.vw f).R x)) ∧ Below w.heap.size w w'
theorem enter_Right : Enters 13 := fun args w => by simp [callFunc, go_sem, Tryz.func13, Tryz.f13]
theorem WdN.cmds {f : Nat} {G : Nat → Prop} {w : World} {A : Option Addr} {n c : Nat} {x : WdF (Nd f)} (h : WdN f G w [.slice A n c] x) :
    n = x.p.len ∧ n ≤ c ∧ c ≤ maxLen ∧ x.p.wt ≤ 1073741824 ∧ PtsAt G w A 0 x.p ∧ All2 (fun cm l => SlAt G w 10 (NdV f G w) cm.val l) x.p.cmds x.cmds := by
  obtain ⟨A', c', h1, h2, h3, h4, h5, h6⟩ := h
  injection h1 with h1
  injection h1 with e1 e2 e3
  subst e1 e2 e3
  refine ⟨rfl, h2, h3, by omega, h5, ?_⟩
  rw [Pts.cmds_pick]
  exact h6.pick _
theorem all_drop {β : Type} (p : β → Bool) (xs : List β) (k : Nat) (h : k < xs.length) : (xs.drop k).all p = (p xs[k] && (xs.drop (k + 1)).all p) := by rw [drop_one xs k h, List.all_cons]
theorem all_end {β : Type} (p : β → Bool) (xs : List β) (k : Nat) (h : xs.length ≤ k) : (xs.drop k).all p = true := by rw [List.drop_eq_nil_of_le h]; rfl
theorem Crow.look {B : Nat} {w : World} {v : Value} {l : List Cm} (h : Crow B w v l) : ∃ A c, v = .slice A l.length c ∧ l.length ≤ c ∧ c ≤ maxLen ∧ ∀ k (hk : k < l.length), ∃ g, A = some ⟨g, 0, none⟩ ∧ w.cell? ⟨g, k, none⟩ = some (l[k]).val := by
  obtain ⟨A, c, rfl, h1, h2⟩ := h.shape
  refine ⟨A, c, rfl, h1, h2, fun k hk => ?_⟩
  rcases h.2 with ⟨hv, h0⟩ | ⟨g, cap, cur, hv, _⟩
  · omega
  · obtain rfl : A = some ⟨g, 0, none⟩ := by injection hv
    refine ⟨g, rfl, ?_⟩
    have := h.cells k (l[k]).val (by simp [hk])
    rwa [show (⟨g, 0, none⟩ : Addr).add k = ⟨g, k, none⟩ by rw [add_at, Nat.zero_add]] at this
theorem wordB_no {α : Type} {v : Vw α} {x : WdF α} (h : x.p.right = false) : wordB v x = false := by rw [wordB, h]; rfl
theorem wordB_yes {α : Type} {v : Vw α} {x : WdF α} (h : x.p.right = true) : wordB v x = x.cmds.all fun l => l.all v.R := by rw [wordB, h]; rfl
set_option maxRecDepth 100000 in
set_option maxHeartbeats 4000000 in
theorem word_p (f : Nat) (ih : PRt f) (G : Nat → Prop) (w : World) (vs : List Value) (x : WdF (Nd f)) (hG : ∀ k, G k → k < w.heap.size) (ht : RsvAt w) (hv : WdN f G w vs x) :
    Calls Tryz.prog 15 #[ag vs] w fun e w' => e = .returned (.bool (wordB (Nd.vw f) x)) ∧ Below w.heap.size w w' := by
  obtain ⟨A, n, c, rfl⟩ := hv.shape
  have hb0 : Below w.heap.size w (w.alloc (.cells #[.slice A n c] 31)) := (Below.refl _ _).alloc (Nat.le_refl _) _
  have q0 := cell_one (heap_alloc_t w (.cells #[.slice A n c] 31))
  have HG1 := Lib.hid (fun k (h : G k) => Nat.lt_of_lt_of_le (hG k h) hb0.size)
  obtain ⟨rfl, hnc, hcm, hwt, hpt, -⟩ := hv.cmds
  have HP := Lib.hid (hpt.old hG hb0)
  have HV := Lib.hid hv; have HG := Lib.hid hG; have HT := Lib.hid ht; have IH := Lib.hid ih; have HB0 := Lib.hid hb0
  have HX := Lib.hid (right_p x.p A c G _ hwt HG1.out HP.out)
  clear hb0 hpt hv hG ht ih
  show Calls Tryz.prog 15 #[.agg #[.slice A x.p.len c]] w _
  go_enter Tryz.func15, Tryz.ntmps15
  go_wp2_with fail
  refine HX.out.mono ?_
  rintro e w1 ⟨he, hb1⟩
  have HB1 := Lib.hid (HB0.out.trans (hb1.mono HB0.out.size))
  cases hq : x.p.right
  · rw [hq] at he
    subst he
    have HQ := Lib.hid hq
    clear hq hb1
    go_wp2_with fail
    go_ret
    exact ⟨ret_bool (by rw [wordB_no HQ.out]), HB1.out⟩
  rw [hq] at he
  subst he
  have q1 : w1.cell? ⟨w.heap.size, 0, none⟩ = some (.slice A x.p.len c) := (hb1.cell (p := ⟨w.heap.size, 0, none⟩) (by simp)).trans q0
  have HX2 := Lib.hid (cmds_p x.p A c G w1 hwt (fun k hk => Nat.lt_of_lt_of_le (HG1.out k hk) hb1.size) (HP.out.old HG1.out hb1))
  have HQ := Lib.hid (wordB_yes (v := Nd.vw f) hq)
  clear hq hb1 q0
  go_wp2_with fail
  refine HX2.out.mono ?_
  rintro e w2 ⟨v, rfl, hcr, hb2⟩
  have HB2 := Lib.hid (HB1.out.trans (hb2.mono HB1.out.size))
  obtain ⟨A2, c2, rfl, hl2, hm2, hk2⟩ := hcr.look
  have HK := Lib.hid hk2
  have HLN := Lib.hid (show x.p.cmds.length = x.cmds.length from (HV.out.cmds).2.2.2.2.2.len)
  unfold maxLen at hm2
  clear hb2 hcr hk2 q1
  go_wp2_with fail
  go_loopw [11] (fun i wr => ∃ (k : Nat), k ≤ x.p.cmds.length ∧ i = .int .i64 k ∧ ((x.cmds.drop k).all fun l => l.all (Nd.vw f).R) = (x.cmds.all fun l => l.all (Nd.vw f).R) ∧ Below w2.heap.size w2 wr) (fun i _ => x.p.cmds.length - (intOf i).toNat)
  case atStart => exact ⟨0, by omega, rfl, rfl, Below.refl _ _⟩
  case round =>
    obtain ⟨k, hk, rfl, hf, hb⟩ := hrel
    have HF := Lib.hid hf; have HB := Lib.hid hb
    clear hf
    by_cases hlt : k < x.p.cmds.length
    · obtain ⟨g, rfl, z0⟩ := HK.out k hlt
      have z1 : wr.cell? ⟨g, k, none⟩ = some (.slice (x.p.cmds[k]).a (x.p.cmds[k]).n (x.p.cmds[k]).c) := (World.cell?_of_block (hb.block g (cell_lt z0))).trans z0
      have hbw := HB2.out.trans (hb.mono HB2.out.size)
      have hlt2 : k < x.cmds.length := by rw [← HLN.out]; exact hlt
      have hs := ((HV.out.below HG.out hbw).cmds).2.2.2.2.2.get k hlt hlt2
      have HC := Lib.hid (all_node f G 13 #[] (Nd.vw f).R _ (x.cmds[k]) wr (fun j hj => Nat.lt_of_lt_of_le (HG.out j hj) hbw.size) hs enter_Right (fun X hX vs y hy => by
        rw [Array.append_empty]
        exact IH.out G X vs y (fun j hj => Nat.lt_of_lt_of_le (Nat.lt_of_lt_of_le (HG.out j hj) hbw.size) hX.size) ((HT.out.below hbw).below hX) hy))
      have HD := Lib.hid (all_drop (fun l : List (Nd f) => l.all (Nd.vw f).R) x.cmds k hlt2)
      clear z0 hs hbw hb
      go_wp2_with fail
      refine HC.out.mono ?_
      rintro e w3 ⟨he, hb3⟩
      have HB3 := Lib.hid (HB.out.trans (hb3.mono HB.out.size))
      clear hb3 z1
      cases hq : (x.cmds[k]).all (Nd.vw f).R
      · rw [hq] at he
        subst he
        have HQ2 := Lib.hid hq
        clear hq
        go_wp2_with fail
        go_ret
        exact ⟨ret_bool (by rw [HQ.out, ← HF.out, HD.out, HQ2.out]; rfl), HB2.out.trans (HB3.out.mono HB2.out.size)⟩
      · rw [hq] at he
        subst he
        have HQ2 := Lib.hid hq
        clear hq
        go_wp2_with fail
        go_roundw
        case rel => exact ⟨k + 1, by omega, by go_num, by rw [← HF.out, HD.out, HQ2.out]; rfl, HB3.out⟩
        case measure => simp only [intOf]; omega
    · have HE := Lib.hid (all_end (fun l : List (Nd f) => l.all (Nd.vw f).R) x.cmds k (by rw [← HLN.out]; omega))
      clear hb
      go_wp2_with fail
      go_ret
      exact ⟨ret_bool (by rw [HQ.out, ← HF.out, HE.out]), HB2.out.trans (HB.out.mono HB2.out.size)⟩
set_option maxRecDepth 100000 in
set_option maxHeartbeats 4000000 in
theorem word_r (f : Nat) (ih : RRt f) (G : Nat → Prop) (w : World) (vs : List Value) (x : WdF (Nd f)) (hG : ∀ k, G k → k < w.heap.size) (hv : WdN f G w vs x) :
    Calls Tryz.prog 16 #[ag vs] w fun e w' => e = .returned (.bool (wordB (Nd.vw f) x)) ∧ Below w.heap.size w w' := by
  obtain ⟨A, n, c, rfl⟩ := hv.shape
  have hb0 : Below w.heap.size w (w.alloc (.cells #[.slice A n c] 31)) := (Below.refl _ _).alloc (Nat.le_refl _) _
  have q0 := cell_one (heap_alloc_t w (.cells #[.slice A n c] 31))
  have HG1 := Lib.hid (fun k (h : G k) => Nat.lt_of_lt_of_le (hG k h) hb0.size)
  obtain ⟨rfl, hnc, hcm, hwt, hpt, -⟩ := hv.cmds
  have HP := Lib.hid (hpt.old hG hb0)
  have HV := Lib.hid hv; have HG := Lib.hid hG; have IH := Lib.hid ih; have HB0 := Lib.hid hb0
  have HX := Lib.hid (right_r x.p A c G _ (by omega) HG1.out HP.out)
  clear hb0 hpt hv hG ih
  show Calls Tryz.prog 16 #[.agg #[.slice A x.p.len c]] w _
  go_enter Tryz.func16, Tryz.ntmps16
  go_wp2_with fail
  refine HX.out.mono ?_
  rintro e w1 ⟨he, hb1⟩
  have HB1 := Lib.hid (HB0.out.trans (hb1.mono HB0.out.size))
  cases hq : x.p.right
  · rw [hq] at he
    subst he
    have HQ := Lib.hid hq
    clear hq hb1
    go_wp2_with fail
    go_ret
    exact ⟨ret_bool (by rw [wordB_no HQ.out]), HB1.out⟩
  rw [hq] at he
  subst he
  have q1 : w1.cell? ⟨w.heap.size, 0, none⟩ = some (.slice A x.p.len c) := (hb1.cell (p := ⟨w.heap.size, 0, none⟩) (by simp)).trans q0
  have HX2 := Lib.hid (cmds_r x.p A c G w1 hwt (fun k hk => Nat.lt_of_lt_of_le (HG1.out k hk) hb1.size) (HP.out.old HG1.out hb1))
  have HQ := Lib.hid (wordB_yes (v := Nd.vw f) hq)
  clear hq hb1 q0
  go_wp2_with fail
  refine HX2.out.mono ?_
  rintro e w2 ⟨v, rfl, hcr, hb2⟩
  have HB2 := Lib.hid (HB1.out.trans (hb2.mono HB1.out.size))
  obtain ⟨A2, c2, rfl, hl2, hm2, hk2⟩ := hcr.look
  have HK := Lib.hid hk2
  have HLN := Lib.hid (show x.p.cmds.length = x.cmds.length from (HV.out.cmds).2.2.2.2.2.len)
  unfold maxLen at hm2
  clear hb2 hcr hk2 q1
  go_wp2_with fail
  go_loopw [4, 5] (fun i _ wr => ∃ (k : Nat), k ≤ x.p.cmds.length ∧ i = .int .i64 k ∧ ((x.cmds.drop k).all fun l => l.all (Nd.vw f).R) = (x.cmds.all fun l => l.all (Nd.vw f).R) ∧ Below w2.heap.size w2 wr) (fun i _ _ => x.p.cmds.length - (intOf i).toNat)
  case atStart => exact ⟨0, by omega, rfl, rfl, Below.refl _ _⟩
  case round =>
    obtain ⟨k, hk, rfl, hf, hb⟩ := hrel
    have HF := Lib.hid hf; have HB := Lib.hid hb
    clear hf
    by_cases hlt : k < x.p.cmds.length
    · obtain ⟨g, rfl, z0⟩ := HK.out k hlt
      have hbw := HB2.out.trans (hb.mono HB2.out.size)
      have hlt2 : k < x.cmds.length := by rw [← HLN.out]; exact hlt
      have hs := ((HV.out.below HG.out hbw).cmds).2.2.2.2.2.get k hlt hlt2
      obtain ⟨A3, c3, hv3, hl3, hm3, hk3⟩ := hs
      have hgk := cell_lt z0
      have HZ := Lib.hid (show ∀ X, Below w2.heap.size w2 X → X.cell? ⟨g, k, none⟩ = some (.slice A3 (x.cmds[k]).length c3) from fun X hX => by rw [← hv3]; exact (World.cell?_of_block (hX.block g hgk)).trans z0)
      have HD := Lib.hid (all_drop (fun l : List (Nd f) => l.all (Nd.vw f).R) x.cmds k hlt2)
      have z1 := HZ.out wr hb
      have HK3 := Lib.hid hk3
      have HBW := Lib.hid hbw
      unfold maxLen at hm3
      clear z0 hk3 hv3 hb hbw hgk
      obtain ⟨wo, rfl⟩ : ∃ wo : World, wo = wr := ⟨_, rfl⟩
      go_wp2_with fail
      go_loopw [5] (fun i wx => ∃ (j : Nat), j ≤ (x.cmds[k]).length ∧ i = .int .i64 j ∧ (((x.cmds[k]).drop j).all (Nd.vw f).R) = ((x.cmds[k]).all (Nd.vw f).R) ∧ Below wo.heap.size wo wx) (fun i _ => (x.cmds[k]).length - (intOf i).toNat)
      case atStart => exact ⟨0, by omega, rfl, rfl, Below.refl _ _⟩
      case round =>
        obtain ⟨j, hj, rfl, hf2, hbx⟩ := hrel
        have HF2 := Lib.hid hf2; have HBX := Lib.hid (HB.out.trans (hbx.mono HB.out.size)); have HBO := Lib.hid hbx
        clear hf2
        have z2 := HZ.out _ HBX.out
        clear z1
        by_cases hlt3 : j < (x.cmds[k]).length
        · obtain ⟨b, off, rfl, hg, hel⟩ := HK3.out (by omega)
          obtain ⟨vs, hvl, hR, hcell⟩ := hel j hlt3
          have hG3 : ∀ m, G m → m < wo.heap.size := fun m hm => Nat.lt_of_lt_of_le (HG.out m hm) HBW.out.size
          have hR' := hR.below hG3 hbx
          obtain ⟨ky, s, nt, ni, A4, n4, c4, A5, n5, c5, A6, n6, c6, A7, n7, c7, A8, n8, c8, A9, n9, c9, rfl⟩ := hR'.shape
          have z := fun j u hj => (keep_of hG3 hbx _ hg).trans (hcell j u hj)
          have d0 : wr.cell? ⟨b, off + j * 10, none⟩ = some (.int .i64 ky) := by simpa using z 0 _ rfl
          have d1 : wr.cell? ⟨b, off + j * 10 + 1, none⟩ = some (.string s) := by simpa using z 1 _ rfl
          have d2 : wr.cell? ⟨b, off + j * 10 + 2, none⟩ = some (.bool nt) := by simpa using z 2 _ rfl
          have d3 : wr.cell? ⟨b, off + j * 10 + 3, none⟩ = some (.bool ni) := by simpa using z 3 _ rfl
          have d4 : wr.cell? ⟨b, off + j * 10 + 4, none⟩ = some (.slice A4 n4 c4) := by simpa using z 4 _ rfl
          have d5 : wr.cell? ⟨b, off + j * 10 + 5, none⟩ = some (.slice A5 n5 c5) := by simpa using z 5 _ rfl
          have d6 : wr.cell? ⟨b, off + j * 10 + 6, none⟩ = some (.slice A6 n6 c6) := by simpa using z 6 _ rfl
          have d7 : wr.cell? ⟨b, off + j * 10 + 7, none⟩ = some (.slice A7 n7 c7) := by simpa using z 7 _ rfl
          have d8 : wr.cell? ⟨b, off + j * 10 + 8, none⟩ = some (.slice A8 n8 c8) := by simpa using z 8 _ rfl
          have d9 : wr.cell? ⟨b, off + j * 10 + 9, none⟩ = some (.slice A9 n9 c9) := by simpa using z 9 _ rfl
          have HC := Lib.hid (IH.out G wr _ _ (fun m hm => Nat.lt_of_lt_of_le (hG3 m hm) hbx.size) hR')
          have HD2 := Lib.hid (all_drop (Nd.vw f).R (x.cmds[k]) j hlt3)
          clear z hel hcell hvl hR hR' hg hG3 hbx
          go_wp2_with fail
          refine HC.out.mono ?_
          rintro e w4 ⟨he, hb4⟩
          have HB4 := Lib.hid (HBO.out.trans (hb4.mono HBO.out.size))
          clear hb4 d0 d1 d2 d3 d4 d5 d6 d7 d8 d9 z2
          cases hq : (Nd.vw f).R (x.cmds[k])[j]
          · rw [hq] at he
            subst he
            have HQ2 := Lib.hid hq
            clear hq
            go_wp2_with fail
            go_ret
            exact ⟨ret_bool (by rw [HQ.out, ← HF.out, HD.out, ← HF2.out, HD2.out, HQ2.out]; rfl), HB2.out.trans ((HB.out.trans (HB4.out.mono HB.out.size)).mono HB2.out.size)⟩
          · rw [hq] at he
            subst he
            have HQ2 := Lib.hid hq
            clear hq
            go_wp2_with fail
            go_roundw
            case rel => exact ⟨j + 1, by omega, by go_num, by rw [← HF2.out, HD2.out, HQ2.out]; rfl, HB4.out⟩
            case measure => simp only [intOf]; omega
        · have HE := Lib.hid (all_end (Nd.vw f).R (x.cmds[k]) j (by omega))
          clear hbx
          go_wp2_with fail
          go_roundw
          case rel => exact ⟨k + 1, by omega, by go_num, by rw [← HF.out, HD.out, ← HF2.out, HE.out]; rfl, HBX.out⟩
          case measure => simp only [intOf]; omega
    · have HE := Lib.hid (all_end (fun l : List (Nd f) => l.all (Nd.vw f).R) x.cmds k (by rw [← HLN.out]; omega))
      clear hb
      go_wp2_with fail
      go_ret
      exact ⟨ret_bool (by rw [HQ.out, ← HF.out, HE.out]), HB2.out.trans (HB.out.mono HB2.out.size)⟩
end Go.Proofs.YtjpopekmbmcggaaGreatDoor
