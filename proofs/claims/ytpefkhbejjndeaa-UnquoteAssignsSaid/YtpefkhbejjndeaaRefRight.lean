/- What conchref24.Right answers. -/
import Derived.Test.YtpefkhbejjndeaaRefAll
namespace Go.Proofs.Ytpefkhbejjndeaa
open Go.RowKit

set_option maxRecDepth 100000 in
set_option maxHeartbeats 400000 in
theorem right_r (l : Pts) (A : Option Addr) (c : Nat) (G : Nat → Prop) (w : World) (hwt : l.mx ≤ 562949953421312) (hG : ∀ k, G k → k < w.heap.size) (hp : PtsAt G w A 0 l) :
    Calls Try.prog 29 #[.agg #[.slice A l.len c]] w fun e w' => e = .returned (.bool l.right) ∧ Below w.heap.size w w' := by
  have hw0 : Below w.heap.size w (w.alloc (.cells #[.slice A l.len c] 33)) := (Below.refl _ _).alloc (Nat.le_refl _) _
  have hbox := heap_alloc_new w (.cells #[.slice A l.len c] 33)
  have hp0 := hp.old hG hw0
  have hG0 : ∀ g, G g → g < (w.alloc (.cells #[.slice A l.len c] 33)).heap.size := fun g hg => by have := hG g hg; simp; omega
  have hlw := Pts.len_mx l
  have HW0 := Lib.hid hw0; have HBX := Lib.hid hbox; have HP := Lib.hid hp0; have HG0 := Lib.hid hG0
  clear hw0 hbox hp hp0 hG hG0
  cases hl0 : ((l.len : Int) == 0)
  · have hln : (l.len == 0) = false := by rw [beq_eq_false_iff_ne] at hl0 ⊢; omega
    have HL0 := Lib.hid hl0
    cases ha : l.allP 0 none
    · have HA := Lib.hid ha
      have HF := Lib.hid (show l.right = false by unfold Pts.right; rw [ha]; simp)
      go_enter Try.func29, Try.ntmps29
      go_wp2_with fail
      refine (all_r (l.deep + 1) 0 l A c G _ (by omega) (by omega) hwt HG0.out HP.out).mono ?_
      rintro e w1 ⟨rfl, hb1⟩
      rw [HA.out]
      have hbox1 := (hb1.block w.heap.size (by simp)).trans HBX.out
      have q0 : w1.cell? ⟨w.heap.size, 0, none⟩ = some (.slice A l.len c) := by simp [World.cell?, hbox1]
      have hpn := HP.out.old HG0.out hb1
      have HB1 := Lib.hid (HW0.out.trans (hb1.mono HW0.out.size))
      clear hb1 hbox1
      clear hpn
      go_wp2
      go_ret
      exact ⟨by rw [HF.out]; rfl, HB1.out⟩
    · have HA := Lib.hid ha
      have hc := pts_cons hl0
      obtain ⟨k, t, o, kids, cm, r, hl⟩ := hc
      cases hk : (k != 1)
      · obtain rfl : k = 1 := by simpa using hk
        have hne : t.toList ≠ [] := by
          have := HA.out
          rw [hl] at this
          simp only [Pts.allP, Bool.and_eq_true] at this
          exact (oneB_lit this.1.1).1
        have hpos : 0 < t.size := by rw [size_list]; exact List.length_pos_iff.2 hne
        have hposz : (0 : Int) < (t.size : Int) := by omega
        have hhd : hd0 t.toList = t[0] := hd0_get t hpos
        clear hne hk
        cases h35 : ((t[0].toNat : Int) != 35)
        · have h35n : (t[0] == 35) = true := by rw [beq_iff_eq]; exact UInt8.toNat_inj.1 (by have := bne_eq_false_iff_eq.1 h35; show _ = 35; omega)
          have HF0 := Lib.hid (show (!(hd0 l.headT == 35)) = false by rw [hl, Pts.headT, hhd, h35n]; rfl)
          have HF1 := Lib.hid (show (l.headK == 1) = true by rw [hl]; rfl)
          have HF := Lib.hid (show l.right = false by unfold Pts.right; rw [hln, HA.out, HF0.out, HF1.out]; rfl)
          go_enter Try.func29, Try.ntmps29
          clear ha hl0 hln hhd h35n
          subst hl
          go_wp2_with fail
          refine (all_r ((Pts.cons 1 t o kids cm r).deep + 1) 0 (Pts.cons 1 t o kids cm r) A c G _ (by omega) (by omega) hwt HG0.out HP.out).mono ?_
          rintro e w1 ⟨rfl, hb1⟩
          rw [HA.out]
          have hbox1 := (hb1.block w.heap.size (by simp)).trans HBX.out
          have q0 : w1.cell? ⟨w.heap.size, 0, none⟩ = some (.slice A (Pts.cons 1 t o kids cm r).len c) := by simp [World.cell?, hbox1]
          have hpn := HP.out.old HG0.out hb1
          have HB1 := Lib.hid (HW0.out.trans (hb1.mono HW0.out.size))
          clear hb1 hbox1
          obtain ⟨b, off, Ak, ck, rfl, _, c0, c1, _⟩ := hpn
          simp only [Nat.zero_mul, Nat.add_zero] at c0 c1
          have hlz : (0 : Int) < ((Pts.cons 1 t o kids cm r).len : Int) := by simp only [Pts.len]; omega
          go_wp2
          go_ret
          exact ⟨by rw [HF.out]; rfl, HB1.out⟩
        · have h35n : (t[0] == 35) = false := by rw [beq_eq_false_iff_ne]; intro e; exact (bne_iff_ne.1 h35) (by rw [e]; rfl)
          have HF0 := Lib.hid (show (!(hd0 l.headT == 35)) = true by rw [hl, Pts.headT, hhd, h35n]; rfl)
          have HF1 := Lib.hid (show (l.headK == 1) = true by rw [hl]; rfl)
          have HF := Lib.hid (show l.right = true by unfold Pts.right; rw [hln, HA.out, HF0.out, HF1.out]; rfl)
          go_enter Try.func29, Try.ntmps29
          clear ha hl0 hln hhd h35n
          subst hl
          go_wp2_with fail
          refine (all_r ((Pts.cons 1 t o kids cm r).deep + 1) 0 (Pts.cons 1 t o kids cm r) A c G _ (by omega) (by omega) hwt HG0.out HP.out).mono ?_
          rintro e w1 ⟨rfl, hb1⟩
          rw [HA.out]
          have hbox1 := (hb1.block w.heap.size (by simp)).trans HBX.out
          have q0 : w1.cell? ⟨w.heap.size, 0, none⟩ = some (.slice A (Pts.cons 1 t o kids cm r).len c) := by simp [World.cell?, hbox1]
          have hpn := HP.out.old HG0.out hb1
          have HB1 := Lib.hid (HW0.out.trans (hb1.mono HW0.out.size))
          clear hb1 hbox1
          obtain ⟨b, off, Ak, ck, rfl, _, c0, c1, _⟩ := hpn
          simp only [Nat.zero_mul, Nat.add_zero] at c0 c1
          have hlz : (0 : Int) < ((Pts.cons 1 t o kids cm r).len : Int) := by simp only [Pts.len]; omega
          go_wp2
          go_ret
          exact ⟨by rw [HF.out]; rfl, HB1.out⟩
      · have HF1 := Lib.hid (show (!(l.headK == 1)) = true by rw [hl, Pts.headK]; exact hk)
        have HF := Lib.hid (show l.right = true by unfold Pts.right; rw [hln, HA.out, HF1.out]; simp)
        go_enter Try.func29, Try.ntmps29
        clear ha hl0 hln
        subst hl
        go_wp2_with fail
        refine (all_r ((Pts.cons k t o kids cm r).deep + 1) 0 (Pts.cons k t o kids cm r) A c G _ (by omega) (by omega) hwt HG0.out HP.out).mono ?_
        rintro e w1 ⟨rfl, hb1⟩
        rw [HA.out]
        have hbox1 := (hb1.block w.heap.size (by simp)).trans HBX.out
        have q0 : w1.cell? ⟨w.heap.size, 0, none⟩ = some (.slice A (Pts.cons k t o kids cm r).len c) := by simp [World.cell?, hbox1]
        have hpn := HP.out.old HG0.out hb1
        have HB1 := Lib.hid (HW0.out.trans (hb1.mono HW0.out.size))
        clear hb1 hbox1
        obtain ⟨b, off, Ak, ck, rfl, _, c0, c1, _⟩ := hpn
        simp only [Nat.zero_mul, Nat.add_zero] at c0 c1
        have hlz : (0 : Int) < ((Pts.cons k t o kids cm r).len : Int) := by simp only [Pts.len]; omega
        go_wp2
        go_ret
        exact ⟨by rw [HF.out]; rfl, HB1.out⟩
  · have hln : (l.len == 0) = true := by rw [beq_iff_eq] at hl0 ⊢; omega
    have HF := Lib.hid (show l.right = false by unfold Pts.right; rw [hln]; simp)
    go_enter Try.func29, Try.ntmps29
    clear hln
    go_wp2
    go_ret
    exact ⟨by rw [HF.out]; rfl, HW0.out⟩
end Go.Proofs.Ytpefkhbejjndeaa
