/- What conchref24.one answers, given what All does at parts less deep. -/
import Derived.Test.YtpefkhbejjndeaaRefParam
namespace Go.Proofs.Ytpefkhbejjndeaa
open Go.RowKit

theorem param_r' (n : Nat) (IH : AllR n) (k : Int) (t o : ByteArray) (kids : Pts) (A : Option Addr) (c : Nat) (cm : Cm) (G : Nat → Prop) (w : World) (hd : kids.deep < n) (hts : t.size ≤ 562949953421312) (hwt : kids.mx ≤ 562949953421312) (hG : ∀ k, G k → k < w.heap.size) (hp : PtsAt G w A 0 kids) :
    Calls Try.prog 102 #[.agg #[.int .i64 k, .string t, .string o, .slice A kids.len c, .slice cm.a cm.n cm.c]] w fun e w' => e = .returned (.bool (paramB t.toList o.toList kids.len kids.headK kids.headT (kids.allP 2 none))) ∧ Below w.heap.size w w' := param_r n IH k t o kids A c cm G w hd hts hwt hG hp
theorem literal_r (p : Nat) (hp : p ≤ 2) (s : ByteArray) (w : World) (hm : s.size ≤ 562949953421312) : Calls Try.prog 99 #[.string s, .int .i64 p] w fun e w' => e = .returned (.bool (litB p s.toList)) ∧ w = w' := by
  have h : p = 0 ∨ p = 1 ∨ p = 2 := by omega
  rcases h with rfl | rfl | rfl
  · exact literal_r0 s w hm
  · exact literal_r1 s w hm
  · exact literal_r2 s w hm

set_option maxRecDepth 100000 in
set_option maxHeartbeats 8000000 in
theorem one_r (n : Nat) (IH : AllR n) (p : Nat) (hp2 : p ≤ 2) (k : Int) (t o : ByteArray) (kids : Pts) (A : Option Addr) (c : Nat) (cm : Cm) (G : Nat → Prop) (w : World) (hd : kids.deep < n) (hts : t.size ≤ 562949953421312) (hwt : kids.mx ≤ 562949953421312) (hG : ∀ k, G k → k < w.heap.size) (hp : PtsAt G w A 0 kids) :
    Calls Try.prog 85 #[.agg #[.int .i64 k, .string t, .string o, .slice A kids.len c, cm.val], .int .i64 p] w fun e w' => e = .returned (.bool (oneB p k t.toList o.toList kids.len cm.n kids.headK kids.headT (kids.allP 1 none) (kids.allP 2 none))) ∧ Below w.heap.size w w' := by
  have hcm : cm.val = .slice cm.a cm.n cm.c := rfl
  have HIH := Lib.hid IH; clear IH
  have hw0 : Below w.heap.size w (w.alloc (.cells #[.int .i64 k, .string t, .string o, .slice A kids.len c, .slice cm.a cm.n cm.c] 41)) := (Below.refl _ _).alloc (Nat.le_refl _) _
  have hbox := heap_alloc_new w (.cells #[.int .i64 k, .string t, .string o, .slice A kids.len c, .slice cm.a cm.n cm.c] 41)
  have hp0 := hp.old hG hw0
  have hlt0 : w.heap.size < (w.alloc (.cells #[.int .i64 k, .string t, .string o, .slice A kids.len c, .slice cm.a cm.n cm.c] 41)).heap.size := by simp
  have hG0 : ∀ g, G g → g < (w.alloc (.cells #[.int .i64 k, .string t, .string o, .slice A kids.len c, .slice cm.a cm.n cm.c] 41)).heap.size := fun g hg => by have := hG g hg; omega
  have HW0 := Lib.hid hw0; have HBX := Lib.hid hbox; have HP := Lib.hid hp0; have HG0 := Lib.hid hG0; have HT := Lib.hid hts
  clear hw0 hbox hp hp0 hG hG0 hlt0 hts
  cases hk5 : (k != 5)
  · obtain rfl : k = 5 := by simpa using hk5
    by_cases hcN : 0 < cm.n
    · have hc : decide (0 < cm.n) = true := decide_eq_true hcN
      have HPL := Lib.hid (show plain1 5 o.toList kids.len cm.n = true by unfold plain1; rw [hc]; rfl)
      have HF := Lib.hid (show oneB p 5 t.toList o.toList kids.len cm.n kids.headK kids.headT (kids.allP 1 none) (kids.allP 2 none) = false by unfold oneB; rw [HPL.out]; rfl)
      rw [hcm]
      clear hcm hd hwt
      go_enter Try.func85, Try.ntmps85
      go_wp2
      go_ret
      exact ⟨by rw [HF.out]; rfl, HW0.out⟩
    · have hc : decide (0 < cm.n) = false := decide_eq_false hcN
      have HPL := Lib.hid (show plain1 5 o.toList kids.len cm.n = false by unfold plain1; rw [hc]; rfl)
      have HF := Lib.hid (show oneB p 5 t.toList o.toList kids.len cm.n kids.headK kids.headT (kids.allP 1 none) (kids.allP 2 none) = paramB t.toList o.toList kids.len kids.headK kids.headT (kids.allP 2 none) by unfold oneB; rw [HPL.out]; rfl)
      rw [hcm]
      clear hcm
      go_enter Try.func85, Try.ntmps85
      go_wp2_with fail
      refine (param_r' n HIH.out 5 t o kids A c cm G _ hd HT.out hwt HG0.out HP.out).mono ?_
      rintro e w1 ⟨rfl, hb1⟩
      have HB1 := Lib.hid hb1
      clear hb1
      go_wp2
      go_ret
      exact ⟨by rw [HF.out]; rfl, (HW0.out.trans (HB1.out.mono HW0.out.size))⟩
  · cases ho : o.toList.isEmpty
    · have HPL := Lib.hid (show plain1 k o.toList kids.len cm.n = true by unfold plain1; rw [hk5, ho]; rfl)
      have HF := Lib.hid (show oneB p k t.toList o.toList kids.len cm.n kids.headK kids.headT (kids.allP 1 none) (kids.allP 2 none) = false by unfold oneB; rw [HPL.out]; rfl)
      rw [hcm]
      clear hcm hd hwt
      go_enter Try.func85, Try.ntmps85
      go_wp2
      go_ret
      exact ⟨by rw [HF.out]; rfl, HW0.out⟩
    · cases hk4 : (k != 4)
      · obtain rfl : k = 4 := by simpa using hk4
        by_cases hcN : 0 < cm.n
        · have hc : decide (0 < cm.n) = true := decide_eq_true hcN
          have HPL := Lib.hid (show plain1 4 o.toList kids.len cm.n = true by unfold plain1; rw [ho, hc]; rfl)
          have HF := Lib.hid (show oneB p 4 t.toList o.toList kids.len cm.n kids.headK kids.headT (kids.allP 1 none) (kids.allP 2 none) = false by unfold oneB; rw [HPL.out]; rfl)
          rw [hcm]
          clear hcm hd hwt
          go_enter Try.func85, Try.ntmps85
          go_wp2
          go_ret
          exact ⟨by rw [HF.out]; rfl, HW0.out⟩
        · have hc : decide (0 < cm.n) = false := decide_eq_false hcN
          have HPL := Lib.hid (show plain1 4 o.toList kids.len cm.n = false by unfold plain1; rw [ho, hc]; rfl)
          cases hp1 : ((p : Int) != 1)
          · have hp1n : (p != 1) = false := by rw [bne_eq_false_iff_eq] at hp1 ⊢; omega
            have HF := Lib.hid (show oneB p 4 t.toList o.toList kids.len cm.n kids.headK kids.headT (kids.allP 1 none) (kids.allP 2 none) = false by unfold oneB; rw [HPL.out]; simp [hp1n])
            rw [hcm]
            clear hcm hd hwt hp1n
            go_enter Try.func85, Try.ntmps85
            go_wp2
            go_ret
            exact ⟨by rw [HF.out]; rfl, HW0.out⟩
          · have hp1n : (p != 1) = true := by rw [bne_iff_ne] at hp1 ⊢; omega
            cases ht : t.toList.isEmpty
            · have HF := Lib.hid (show oneB p 4 t.toList o.toList kids.len cm.n kids.headK kids.headT (kids.allP 1 none) (kids.allP 2 none) = false by unfold oneB; rw [HPL.out]; simp [hp1n, ht])
              rw [hcm]
              clear hcm hd hwt hp1n
              go_enter Try.func85, Try.ntmps85
              go_wp2
              go_ret
              exact ⟨by rw [HF.out]; rfl, HW0.out⟩
            · have HF := Lib.hid (show oneB p 4 t.toList o.toList kids.len cm.n kids.headK kids.headT (kids.allP 1 none) (kids.allP 2 none) = kids.allP 1 none by unfold oneB; rw [HPL.out]; simp [hp1n, ht])
              rw [hcm]
              clear hcm hp1n
              go_enter Try.func85, Try.ntmps85
              go_wp2_with fail
              refine (HIH.out 1 kids A c G _ (by omega) hd hwt HG0.out HP.out).mono ?_
              rintro e w1 ⟨rfl, hb1⟩
              have HB1 := Lib.hid hb1
              clear hb1
              go_wp2
              go_ret
              exact ⟨by rw [HF.out]; rfl, (HW0.out.trans (HB1.out.mono HW0.out.size))⟩
      · by_cases hklN : 0 < kids.len
        · have hkl : decide (0 < kids.len) = true := decide_eq_true hklN
          have HPL := Lib.hid (show plain1 k o.toList kids.len cm.n = true by unfold plain1; rw [hk5, ho, hk4, hkl]; rfl)
          have HF := Lib.hid (show oneB p k t.toList o.toList kids.len cm.n kids.headK kids.headT (kids.allP 1 none) (kids.allP 2 none) = false by unfold oneB; rw [HPL.out]; rfl)
          rw [hcm]
          clear hcm hd hwt
          go_enter Try.func85, Try.ntmps85
          go_wp2
          go_ret
          exact ⟨by rw [HF.out]; rfl, HW0.out⟩
        · have hkl : decide (0 < kids.len) = false := decide_eq_false hklN
          cases hk6 : (k != 6)
          · obtain rfl : k = 6 := by simpa using hk6
            have HPL := Lib.hid (show plain1 6 o.toList kids.len cm.n = false by unfold plain1; rw [ho, hkl]; rfl)
            have HF := Lib.hid (show oneB p 6 t.toList o.toList kids.len cm.n kids.headK kids.headT (kids.allP 1 none) (kids.allP 2 none) = t.toList.isEmpty by unfold oneB; rw [HPL.out]; rfl)
            rw [hcm]
            clear hcm hd hwt
            go_enter Try.func85, Try.ntmps85
            go_wp2
            go_ret
            exact ⟨by rw [HF.out]; rfl, HW0.out⟩
          · by_cases hcN : 0 < cm.n
            · have hc : decide (0 < cm.n) = true := decide_eq_true hcN
              have HPL := Lib.hid (show plain1 k o.toList kids.len cm.n = true by unfold plain1; rw [hk5, ho, hk4, hkl, hk6, hc]; rfl)
              have HF := Lib.hid (show oneB p k t.toList o.toList kids.len cm.n kids.headK kids.headT (kids.allP 1 none) (kids.allP 2 none) = false by unfold oneB; rw [HPL.out]; rfl)
              rw [hcm]
              clear hcm hd hwt
              go_enter Try.func85, Try.ntmps85
              go_wp2
              go_ret
              exact ⟨by rw [HF.out]; rfl, HW0.out⟩
            · have hc : decide (0 < cm.n) = false := decide_eq_false hcN
              by_cases k1 : k = 1
              · subst k1
                have HPL := Lib.hid (show plain1 1 o.toList kids.len cm.n = false by unfold plain1; rw [ho, hkl, hc]; rfl)
                have HF := Lib.hid (show oneB p 1 t.toList o.toList kids.len cm.n kids.headK kids.headT (kids.allP 1 none) (kids.allP 2 none) = litB p t.toList by unfold oneB; rw [HPL.out]; rfl)
                rw [hcm]
                clear hcm hd hwt
                go_enter Try.func85, Try.ntmps85
                go_wp2_with fail
                refine (literal_r p hp2 t _ HT.out).mono ?_
                rintro e w1 ⟨rfl, rfl⟩
                go_wp2
                go_ret
                exact ⟨by rw [HF.out]; rfl, HW0.out⟩
              · by_cases k2 : k = 2
                · subst k2
                  have HPL := Lib.hid (show plain1 2 o.toList kids.len cm.n = false by unfold plain1; rw [ho, hkl, hc]; rfl)
                  by_cases h1 : t.size = 1
                  · have hs1 : ((t.size : Int) == 1) = true := by rw [beq_iff_eq]; omega
                    have hs0 : (0 : Int) < (t.size : Int) := by omega
                    have hs2 : 0 < t.size := by omega
                    have hlen : (t.toList.length == 1) = true := by rw [← size_list, h1]; rfl
                    have hhd : hd0 t.toList = t[0] := hd0_get t hs2
                    cases h0 : ((t[0].toNat : Int) != 0)
                    · have h0n : (t[0] == 0) = true := by rw [beq_iff_eq]; exact UInt8.toNat_inj.1 (by have := bne_eq_false_iff_eq.1 h0; show _ = 0; omega)
                      have HF := Lib.hid (show oneB p 2 t.toList o.toList kids.len cm.n kids.headK kids.headT (kids.allP 1 none) (kids.allP 2 none) = false by unfold oneB; rw [HPL.out, hlen, hhd, h0n]; rfl)
                      rw [hcm]
                      clear hcm hd hwt hlen hhd h0n h1
                      go_enter Try.func85, Try.ntmps85
                      go_wp2
                      go_ret
                      exact ⟨by rw [HF.out]; rfl, HW0.out⟩
                    · have h0n : (t[0] == 0) = false := by rw [beq_eq_false_iff_ne]; intro e; exact (bne_iff_ne.1 h0) (by rw [e]; rfl)
                      cases h10 : ((t[0].toNat : Int) != 10)
                      · have h10n : (t[0] == 10) = true := by rw [beq_iff_eq]; exact UInt8.toNat_inj.1 (by have := bne_eq_false_iff_eq.1 h10; show _ = 10; omega)
                        have HF := Lib.hid (show oneB p 2 t.toList o.toList kids.len cm.n kids.headK kids.headT (kids.allP 1 none) (kids.allP 2 none) = false by unfold oneB; rw [HPL.out, hlen, hhd, h0n, h10n]; rfl)
                        rw [hcm]
                        clear hcm hd hwt hlen hhd h0n h10n h1
                        go_enter Try.func85, Try.ntmps85
                        go_wp2
                        go_ret
                        exact ⟨by rw [HF.out]; rfl, HW0.out⟩
                      · have h10n : (t[0] == 10) = false := by rw [beq_eq_false_iff_ne]; intro e; exact (bne_iff_ne.1 h10) (by rw [e]; rfl)
                        cases hp1 : ((p : Int) != 1)
                        · have hp1n : (p != 1) = false := by rw [bne_eq_false_iff_eq] at hp1 ⊢; omega
                          have HF := Lib.hid (show oneB p 2 t.toList o.toList kids.len cm.n kids.headK kids.headT (kids.allP 1 none) (kids.allP 2 none) = special24 (t[0].toNat : Int) by unfold oneB; rw [HPL.out, hhd, h0n, h10n, hlen, hp1n]; rfl)
                          rw [hcm]
                          clear hcm hd hwt hlen hhd h0n h10n hp1n h1
                          go_enter Try.func85, Try.ntmps85
                          go_wp2_with fail
                          refine (special24_r t[0].toNat _).mono ?_
                          rintro e w1 ⟨rfl, rfl⟩
                          go_wp2
                          go_ret
                          exact ⟨by rw [HF.out]; rfl, HW0.out⟩
                        · have hp1n : (p != 1) = true := by rw [bne_iff_ne] at hp1 ⊢; omega
                          have HF := Lib.hid (show oneB p 2 t.toList o.toList kids.len cm.n kids.headK kids.headT (kids.allP 1 none) (kids.allP 2 none) = true by unfold oneB; rw [HPL.out, hhd, h0n, h10n, hlen, hp1n]; rfl)
                          rw [hcm]
                          clear hcm hd hwt hlen hhd h0n h10n hp1n h1
                          go_enter Try.func85, Try.ntmps85
                          go_wp2
                          go_ret
                          exact ⟨by rw [HF.out]; rfl, HW0.out⟩
                  · have hs1 : ((t.size : Int) == 1) = false := by rw [beq_eq_false_iff_ne]; omega
                    have hlen : (t.toList.length == 1) = false := by rw [← size_list]; exact beq_eq_false_iff_ne.2 h1
                    have HF := Lib.hid (show oneB p 2 t.toList o.toList kids.len cm.n kids.headK kids.headT (kids.allP 1 none) (kids.allP 2 none) = false by unfold oneB; rw [HPL.out, hlen]; rfl)
                    rw [hcm]
                    clear hcm hd hwt hlen h1
                    go_enter Try.func85, Try.ntmps85
                    go_wp2
                    go_ret
                    exact ⟨by rw [HF.out]; rfl, HW0.out⟩
                · by_cases k3 : k = 3
                  · subst k3
                    have HPL := Lib.hid (show plain1 3 o.toList kids.len cm.n = false by unfold plain1; rw [ho, hkl, hc]; rfl)
                    cases hp1 : ((p : Int) != 1)
                    · have hp1n : (p != 1) = false := by rw [bne_eq_false_iff_eq] at hp1 ⊢; omega
                      have HF := Lib.hid (show oneB p 3 t.toList o.toList kids.len cm.n kids.headK kids.headT (kids.allP 1 none) (kids.allP 2 none) = false by unfold oneB; rw [HPL.out, hp1n]; rfl)
                      rw [hcm]
                      clear hcm hd hwt hp1n
                      go_enter Try.func85, Try.ntmps85
                      go_wp2
                      go_ret
                      exact ⟨by rw [HF.out]; rfl, HW0.out⟩
                    · have hp1n : (p != 1) = true := by rw [bne_iff_ne] at hp1 ⊢; omega
                      have HF := Lib.hid (show oneB p 3 t.toList o.toList kids.len cm.n kids.headK kids.headT (kids.allP 1 none) (kids.allP 2 none) = clearB 39 t.toList by unfold oneB; rw [HPL.out, hp1n]; rfl)
                      rw [hcm]
                      clear hcm hd hwt hp1n
                      go_enter Try.func85, Try.ntmps85
                      go_wp2_with fail
                      refine (clear_r t 39 _ HT.out).mono ?_
                      rintro e w1 ⟨rfl, rfl⟩
                      go_wp2
                      go_ret
                      exact ⟨by rw [HF.out]; rfl, HW0.out⟩
                  · by_cases k7 : k = 7
                    · subst k7
                      have HPL := Lib.hid (show plain1 7 o.toList kids.len cm.n = false by unfold plain1; rw [ho, hkl, hc]; rfl)
                      have HF := Lib.hid (show oneB p 7 t.toList o.toList kids.len cm.n kids.headK kids.headT (kids.allP 1 none) (kids.allP 2 none) = arithGo 0 t.toList by unfold oneB; rw [HPL.out]; rfl)
                      rw [hcm]
                      clear hcm hd hwt
                      go_enter Try.func85, Try.ntmps85
                      go_wp2_with fail
                      refine (arith_r t _ HT.out).mono ?_
                      rintro e w1 ⟨rfl, rfl⟩
                      go_wp2
                      go_ret
                      exact ⟨by rw [HF.out]; rfl, HW0.out⟩
                    · have b1 : (k == 1) = false := beq_eq_false_iff_ne.2 k1
                      have b2 : (k == 2) = false := beq_eq_false_iff_ne.2 k2
                      have b3 : (k == 3) = false := beq_eq_false_iff_ne.2 k3
                      have b7 : (k == 7) = false := beq_eq_false_iff_ne.2 k7
                      have b4 : (k == 4) = false := by rw [beq_eq_false_iff_ne]; exact bne_iff_ne.1 hk4
                      have b5 : (k == 5) = false := by rw [beq_eq_false_iff_ne]; exact bne_iff_ne.1 hk5
                      have b6 : (k == 6) = false := by rw [beq_eq_false_iff_ne]; exact bne_iff_ne.1 hk6
                      clear k1 k2 k3 k7
                      have HPL := Lib.hid (show plain1 k o.toList kids.len cm.n = false by unfold plain1; rw [hk5, ho, hk4, hkl, hk6, hc]; rfl)
                      have HF := Lib.hid (show oneB p k t.toList o.toList kids.len cm.n kids.headK kids.headT (kids.allP 1 none) (kids.allP 2 none) = false by unfold oneB; rw [HPL.out, b1, b2, b3, b4, b5, b6, b7]; rfl)
                      rw [hcm]
                      clear hcm hd hwt
                      go_enter Try.func85, Try.ntmps85
                      go_wp2
                      go_ret
                      exact ⟨by rw [HF.out]; rfl, HW0.out⟩
end Go.Proofs.Ytpefkhbejjndeaa
