/- Towards nodeJoins_card: ProgAll, ProgRight, NdWord, NdCm32. Merged from smaller texts by a program of the author's. -/
import Derived.Test.YtjpopekmbmcggaaGreatDoorJ13
import Derived.Test.YtjpopekmbmcggaaGreatDoorJ02
import Derived.Test.YtjpopekmbmcggaaGreatDoorJ08
import Derived.Test.YtjpopekmbmcggaaGreatDoorJ09
namespace Go.Proofs.YtjpopekmbmcggaaGreatDoor
open Go.RowKit
set_option maxRecDepth 100000 in
set_option maxHeartbeats 8000000 in
theorem allq_step (n : Nat) (ih : AllQ n) : AllQ (n + 1) := by
  intro p l A c G w hp2 hd hwt hG hp
  have IH := Lib.hid ih; clear ih
  have hlw := Pts.len_wt l
  have HG := Lib.hid hG; have HP := Lib.hid hp; clear hG hp
  go_enter Tryz.func106, Tryz.ntmps106
  go_wp2
  go_loopw [9] (fun i wr => ∃ (k : Nat) (pv : Option (List UInt8)), k ≤ l.len ∧ i = .int .i64 k ∧ Pts.allP p pv (l.drop k) = l.allP p none ∧ PvAt l k pv ∧ Below w.heap.size w wr) (fun i _ => l.len - (intOf i).toNat)
  case atStart => exact ⟨0, none, by omega, rfl, by rw [Pts.drop_zero], .inl ⟨rfl, rfl⟩, Below.refl _ _⟩
  case round =>
    obtain ⟨k, pv, hk, rfl, hf, hpv, hb⟩ := hrel
    have HF := Lib.hid hf; have HB := Lib.hid hb; clear hf hb
    by_cases hlt : k < l.len
    · obtain ⟨pk, t, o, kids, cm, r, hdr⟩ := Pts.drop_cons k l hlt
      have hpw := HP.out.old HG.out HB.out
      have hp' := hpw.at_ k
      rw [hdr, Nat.zero_add] at hp'
      obtain ⟨b, off, Ak, ck, rfl, hgb, c0, c1, c2, c3, c4, hkl, hpk, _⟩ := hp'
      have hwd := Pts.wt_drop k l
      rw [hdr, Pts.wt] at hwd
      have hkd := Pts.deep_drop k l hdr
      have hG' : ∀ g, G g → g < wr.heap.size := fun g hg => Nat.lt_of_lt_of_le (HG.out g hg) HB.out.size
      have hts : t.size ≤ 1073741824 := by omega
      have hkwt : kids.wt ≤ 1073741824 := by omega
      have hkdn : kids.deep < n := by omega
      have HD := Lib.hid hdr
      have HPW := Lib.hid hpw
      unfold Cm.val at c4
      have hb0 : Below wr.heap.size wr (wr.alloc (.cells #[.int .i64 pk, .string t, .string o, .slice Ak kids.len ck, .slice cm.a cm.n cm.c] 50)) := (Below.refl _ _).alloc (Nat.le_refl _) _
      have hx0 := heap_alloc_new wr (.cells #[.int .i64 pk, .string t, .string o, .slice Ak kids.len ck, .slice cm.a cm.n cm.c] 50)
      have hc1 : ∀ x : Gr (wr.alloc (.cells #[.int .i64 pk, .string t, .string o, .slice Ak kids.len ck, .slice cm.a cm.n cm.c] 50)), Calls Tryz.prog 150 #[.int .i64 p, .agg #[.int .i64 pk, .string t, .string o, .slice Ak kids.len ck, .slice cm.a cm.n cm.c]] x.at_ fun e w' => e = .returned (.bool (oneB p pk t.toList o.toList kids.len cm.n kids.headK kids.headT (kids.allP 1 none) (kids.allP 2 none))) ∧ ∃ y : Gr (wr.alloc (.cells #[.int .i64 pk, .string t, .string o, .slice Ak kids.len ck, .slice cm.a cm.n cm.c] 50)), w' = y.at_ := fun x => by
        have hbx : Below wr.heap.size wr x.at_ := hb0.trans (x.2.mono (by simp))
        exact x.calls (one_p n IH.out p hp2 pk t o kids Ak ck cm G x.at_ hkdn hts hkwt (fun g hg => Nat.lt_of_lt_of_le (hG' g hg) hbx.size) (hpk.old hG' hbx))
      have hx : ∀ x : Gr (wr.alloc (.cells #[.int .i64 pk, .string t, .string o, .slice Ak kids.len ck, .slice cm.a cm.n cm.c] 50)), x.at_.cell? ⟨wr.heap.size, 0, none⟩ = some (.int .i64 pk) ∧ x.at_.cell? ⟨wr.heap.size, 1, none⟩ = some (.string t) ∧ x.at_.cell? ⟨wr.heap.size, 2, none⟩ = some (.string o) ∧ x.at_.cell? ⟨wr.heap.size, 3, none⟩ = some (.slice Ak kids.len ck) ∧ x.at_.cell? ⟨wr.heap.size, 4, none⟩ = some (.slice cm.a cm.n cm.c) := fun x => box_cells ((x.2.block wr.heap.size (by simp)).trans hx0)
      have hne : Nonempty (Gr (wr.alloc (.cells #[.int .i64 pk, .string t, .string o, .slice Ak kids.len ck, .slice cm.a cm.n cm.c] 50))) := ⟨⟨_, Below.refl _ _⟩⟩
      have HBN := Lib.hid (show ∀ x : Gr (wr.alloc (.cells #[.int .i64 pk, .string t, .string o, .slice Ak kids.len ck, .slice cm.a cm.n cm.c] 50)), Below w.heap.size w x.at_ from fun x => HB.out.trans ((hb0.trans (x.2.mono (by simp))).mono HB.out.size))
      have HKP := Lib.hid hpk; have HG' := Lib.hid hG'
      have x0 := fun x => (hx x).1; have x1 := fun x => (hx x).2.1; have x2 := fun x => (hx x).2.2.1; have x3 := fun x => (hx x).2.2.2.1; have x4 := fun x => (hx x).2.2.2.2
      clear hpk hdr hwd hkd hgb hpw hx hx0 hb0 hG'
      cases h1 : oneB p pk t.toList o.toList kids.len cm.n kids.headK kids.headT (kids.allP 1 none) (kids.allP 2 none)
      · have H1 := Lib.hid h1; clear h1 hpv
        have HR := Lib.hid (show l.allP p none = false by rw [← HF.out, HD.out, Pts.allP]; rw [H1.out]; rfl)
        rw [H1.out] at hc1
        go_wp2_with fail
        refine wp_region_class (S := Gr (wr.alloc (.cells #[.int .i64 pk, .string t, .string o, .slice Ak kids.len ck, .slice cm.a cm.n cm.c] 50))) Gr.at_ (by kernel_rfl) (by kernel_rfl) (Gr.drew _) ?_
        repeat (go_big_quiet_step (first | (with_reducible exact hc1 _)))
        refine wpQuiet_nil ?_
        rintro X ⟨X', hX⟩
        have HBX := Lib.hid (HBN.out X'); clear hne hc1 x0 x1 x2 x3 x4
        revert HBX
        rw [← hX]
        clear hX HBN X'
        intro HBX
        go_wp2
        go_ret
        exact ⟨by rw [HR.out]; rfl, HBX.out⟩
      · have H1 := Lib.hid h1; clear h1
        by_cases hk0 : k = 0
        · have hpv0 : pv = none := by
            rcases hpv with ⟨_, h⟩ | ⟨j, _, _, _, _, _, _, h, _⟩
            · exact h
            · omega
          subst hk0
          subst hpv0
          clear hpv
          simp only [Nat.zero_mul, Nat.add_zero] at c0 c1 c2 c3 c4
          have HR := Lib.hid (show Pts.allP p (if pk = 1 then some t.toList else none) (l.drop (0 + 1)) = l.allP p none by rw [Pts.drop_succ 0 l HD.out, ← HF.out, HD.out, Pts.allP]; rw [H1.out]; simp [meetB])
          have HNE := Lib.hid (show pk = 1 → t.toList ≠ [] from fun e => by subst e; exact (oneB_lit H1.out).1)
          rw [H1.out] at hc1
          go_wp2_with fail
          refine wp_region_class (S := Gr (wr.alloc (.cells #[.int .i64 pk, .string t, .string o, .slice Ak kids.len ck, .slice cm.a cm.n cm.c] 50))) Gr.at_ (by kernel_rfl) (by kernel_rfl) (Gr.drew _) ?_
          repeat (go_big_quiet_step (first | (with_reducible exact hc1 _)))
          refine wpQuiet_nil ?_
          rintro X ⟨X', hX⟩
          have HBX := Lib.hid (HBN.out X'); clear hne hc1 x0 x1 x2 x3 x4
          revert HBX
          rw [← hX]
          clear hX HBN X'
          intro HBX
          go_wp2
          go_roundw
          case rel => exact ⟨0 + 1, _, by omega, by go_num, HR.out, .inr ⟨0, pk, t, o, kids, cm, r, rfl, HD.out, rfl, HNE.out⟩, HBX.out⟩
          case measure => simp only [intOf]; omega
        · obtain ⟨j, pk', t', o', kids', cm', r', hkj, hdj, rfl, hne'⟩ := hpv.resolve_left (fun h => hk0 h.1)
          obtain rfl : j = k - 1 := by omega
          have hj0 : (0 : Int) ≤ (k : Int) - 1 := by omega
          have hj1 : (k : Int) - 1 < (l.len : Int) := by omega
          have hj2 : ((k : Int) - 1).toNat = k - 1 := by omega
          have hjp : (0 : Int) < (k : Int) := by omega
          have hjd : decide ((0 : Int) < (k : Int)) = true := decide_eq_true hjp
          have hjn : 0 < k := by omega
          have htj := Pts.wt_drop (k - 1) l
          rw [hdj, Pts.wt] at htj
          have hts' : t'.size ≤ 1099511627776 := by omega
          have hpj := HPW.out.at_ (k - 1)
          rw [hdj, Nat.zero_add] at hpj
          obtain ⟨b3, off3, Ak3, ck3, hAA, hg3, g0, g1, g2, g3, g4, _⟩ := hpj
          injection hAA with hAA
          injection hAA with e1 e2
          subst e1 e2
          have HM := Lib.hid (show (if pk' = 1 then some t'.toList else none) = pvOf pk' t'.toList from rfl)
          unfold Cm.val at g4
          have hgl : ∀ (p : Addr) (v : Value), wr.cell? p = some v → ∀ x : Gr (wr.alloc (.cells #[.int .i64 pk, .string t, .string o, .slice Ak kids.len ck, .slice cm.a cm.n cm.c] 50)), x.at_.cell? p = some v := fun p v h x => x.cell _ _ ((World.cell?_alloc_lt wr _ p (cell_lt h)).trans h)
          have y0 := hgl _ _ g0; have y1 := hgl _ _ g1; have y2 := hgl _ _ g2; have y3 := hgl _ _ g3; have y4 := hgl _ _ g4
          have hc2 : ∀ x : Gr (wr.alloc (.cells #[.int .i64 pk, .string t, .string o, .slice Ak kids.len ck, .slice cm.a cm.n cm.c] 50)), Calls Tryz.prog 151 #[.agg #[.int .i64 pk', .string t', .string o', .slice Ak3 kids'.len ck3, .slice cm'.a cm'.n cm'.c], .agg #[.int .i64 pk, .string t, .string o, .slice Ak kids.len ck, .slice cm.a cm.n cm.c]] x.at_ fun e w' => e = .returned (.bool (meetB (pvOf pk' t'.toList) pk)) ∧ ∃ y : Gr (wr.alloc (.cells #[.int .i64 pk, .string t, .string o, .slice Ak kids.len ck, .slice cm.a cm.n cm.c] 50)), w' = y.at_ := fun x => x.calls (meet_p pk' t' o' kids'.len Ak3 ck3 cm' pk t o kids.len Ak ck cm x.at_ hts')
          clear hgl g0 g1 g2 g3 g4 hkj hdj hne' hpv htj hg3
          cases hm : meetB (pvOf pk' t'.toList) pk
          · have HMM := Lib.hid hm; rw [hm] at hc2; clear hm
            have HR := Lib.hid (show l.allP p none = false by rw [← HF.out, HD.out, Pts.allP]; rw [H1.out, HM.out, HMM.out]; rfl)
            rw [H1.out] at hc1
            go_wp2_with fail
            refine wp_region_class (S := Gr (wr.alloc (.cells #[.int .i64 pk, .string t, .string o, .slice Ak kids.len ck, .slice cm.a cm.n cm.c] 50))) Gr.at_ (by kernel_rfl) (by kernel_rfl) (Gr.drew _) ?_
            repeat (go_big_quiet_step (first | (with_reducible exact hc1 _) | (with_reducible exact hc2 _)))
            refine wpQuiet_nil ?_
            rintro X ⟨X', hX⟩
            have HBX := Lib.hid (HBN.out X'); clear hne hc1 x0 x1 x2 x3 x4
            revert HBX
            rw [← hX]
            clear hX HBN X'
            intro HBX
            go_wp2
            go_ret
            exact ⟨by rw [HR.out]; rfl, HBX.out⟩
          · have HMM := Lib.hid hm; rw [hm] at hc2; clear hm
            have HR := Lib.hid (show Pts.allP p (if pk = 1 then some t.toList else none) (l.drop (k + 1)) = l.allP p none by rw [Pts.drop_succ k l HD.out, ← HF.out, HD.out, Pts.allP]; rw [H1.out, HM.out, HMM.out]; rfl)
            have HNE := Lib.hid (show pk = 1 → t.toList ≠ [] from fun e => by subst e; exact (oneB_lit H1.out).1)
            rw [H1.out] at hc1
            go_wp2_with fail
            refine wp_region_class (S := Gr (wr.alloc (.cells #[.int .i64 pk, .string t, .string o, .slice Ak kids.len ck, .slice cm.a cm.n cm.c] 50))) Gr.at_ (by kernel_rfl) (by kernel_rfl) (Gr.drew _) ?_
            repeat (go_big_quiet_step (first | (with_reducible exact hc1 _) | (with_reducible exact hc2 _)))
            refine wpQuiet_nil ?_
            rintro X ⟨X', hX⟩
            have HBX := Lib.hid (HBN.out X'); clear hne hc1 x0 x1 x2 x3 x4
            revert HBX
            rw [← hX]
            clear hX HBN X'
            intro HBX
            go_wp2
            go_roundw
            case rel => exact ⟨k + 1, _, by omega, by go_num, HR.out, .inr ⟨k, pk, t, o, kids, cm, r, rfl, HD.out, rfl, HNE.out⟩, HBX.out⟩
            case measure => simp only [intOf]; omega
    · have HR := Lib.hid (show l.allP p none = true by rw [← HF.out]; exact allP_nil p pv l k hlt)
      go_wp2
      go_ret
      exact ⟨by rw [HR.out]; rfl, HB.out⟩
theorem all_q : ∀ n, AllQ n
  | 0 => fun _ _ _ _ _ _ _ h => absurd h (by omega)
  | n + 1 => allq_step n (all_q n)
end Go.Proofs.YtjpopekmbmcggaaGreatDoor
namespace Go.Proofs.YtjpopekmbmcggaaGreatDoor
open Go.RowKit
set_option maxRecDepth 100000 in
set_option maxHeartbeats 400000 in
theorem right_p (l : Pts) (A : Option Addr) (c : Nat) (G : Nat → Prop) (w : World) (hwt : l.wt ≤ 1073741824) (hG : ∀ k, G k → k < w.heap.size) (hp : PtsAt G w A 0 l) :
    Calls Tryz.prog 39 #[.agg #[.slice A l.len c]] w fun e w' => e = .returned (.bool l.right) ∧ Below w.heap.size w w' := by
  have hw0 : Below w.heap.size w (w.alloc (.cells #[.slice A l.len c] 31)) := (Below.refl _ _).alloc (Nat.le_refl _) _
  have hbox := heap_alloc_new w (.cells #[.slice A l.len c] 31)
  have hp0 := hp.old hG hw0
  have hG0 : ∀ g, G g → g < (w.alloc (.cells #[.slice A l.len c] 31)).heap.size := fun g hg => by have := hG g hg; simp; omega
  have hlw := Pts.len_wt l
  have HW0 := Lib.hid hw0; have HBX := Lib.hid hbox; have HP := Lib.hid hp0; have HG0 := Lib.hid hG0
  clear hw0 hbox hp hp0 hG hG0
  cases hl0 : ((l.len : Int) == 0)
  · have hln : (l.len == 0) = false := by rw [beq_eq_false_iff_ne] at hl0 ⊢; omega
    have HL0 := Lib.hid hl0
    cases ha : l.allP 0 none
    · have HA := Lib.hid ha
      have HF := Lib.hid (show l.right = false by unfold Pts.right; rw [ha]; simp)
      go_enter Tryz.func39, Tryz.ntmps39
      go_wp2_with fail
      refine (all_q (l.deep + 1) 0 l A c G _ (by omega) (by omega) hwt HG0.out HP.out).mono ?_
      rintro e w1 ⟨rfl, hb1⟩
      rw [HA.out]
      have hbox1 := (hb1.block w.heap.size (by simp)).trans HBX.out
      have q0 : w1.cell? ⟨w.heap.size, 0, none⟩ = some (.slice A l.len c) := by simp [World.cell?, hbox1]
      have hpn := HP.out.old HG0.out hb1
      have HB1 := Lib.hid (HW0.out.trans (hb1.mono HW0.out.size))
      clear hb1 hbox1
      clear hpn
      go_wp2
      go_ret
      exact ⟨by rw [HF.out]; rfl, HB1.out⟩
    · have HA := Lib.hid ha
      have hc := pts_cons hl0
      obtain ⟨k, t, o, kids, cm, r, hl⟩ := hc
      cases hk : (k != 1)
      · obtain rfl : k = 1 := by simpa using hk
        have hne : t.toList ≠ [] := by
          have := HA.out
          rw [hl] at this
          simp only [Pts.allP, Bool.and_eq_true] at this
          exact (oneB_lit this.1.1).1
        have hpos : 0 < t.size := by rw [size_list]; exact List.length_pos_iff.2 hne
        have hposz : (0 : Int) < (t.size : Int) := by omega
        have hhd : hd0 t.toList = t[0] := hd0_get t hpos
        clear hne hk
        cases h35 : ((t[0].toNat : Int) != 35)
        · have h35n : (t[0] == 35) = true := by rw [beq_iff_eq]; exact UInt8.toNat_inj.1 (by have := bne_eq_false_iff_eq.1 h35; show _ = 35; omega)
          have HF0 := Lib.hid (show (!(hd0 l.headT == 35)) = false by rw [hl, Pts.headT, hhd, h35n]; rfl)
          have HF1 := Lib.hid (show (l.headK == 1) = true by rw [hl]; rfl)
          have HF := Lib.hid (show l.right = false by unfold Pts.right; rw [hln, HA.out, HF0.out, HF1.out]; rfl)
          go_enter Tryz.func39, Tryz.ntmps39
          clear ha hl0 hln hhd h35n
          subst hl
          go_wp2_with fail
          refine (all_q ((Pts.cons 1 t o kids cm r).deep + 1) 0 (Pts.cons 1 t o kids cm r) A c G _ (by omega) (by omega) hwt HG0.out HP.out).mono ?_
          rintro e w1 ⟨rfl, hb1⟩
          rw [HA.out]
          have hbox1 := (hb1.block w.heap.size (by simp)).trans HBX.out
          have q0 : w1.cell? ⟨w.heap.size, 0, none⟩ = some (.slice A (Pts.cons 1 t o kids cm r).len c) := by simp [World.cell?, hbox1]
          have hpn := HP.out.old HG0.out hb1
          have HB1 := Lib.hid (HW0.out.trans (hb1.mono HW0.out.size))
          clear hb1 hbox1
          obtain ⟨b, off, Ak, ck, rfl, _, c0, c1, _⟩ := hpn
          simp only [Nat.zero_mul, Nat.add_zero] at c0 c1
          have hlz : (0 : Int) < ((Pts.cons 1 t o kids cm r).len : Int) := by simp only [Pts.len]; omega
          go_wp2
          go_ret
          exact ⟨by rw [HF.out]; rfl, HB1.out⟩
        · have h35n : (t[0] == 35) = false := by rw [beq_eq_false_iff_ne]; intro e; exact (bne_iff_ne.1 h35) (by rw [e]; rfl)
          have HF0 := Lib.hid (show (!(hd0 l.headT == 35)) = true by rw [hl, Pts.headT, hhd, h35n]; rfl)
          have HF1 := Lib.hid (show (l.headK == 1) = true by rw [hl]; rfl)
          have HF := Lib.hid (show l.right = true by unfold Pts.right; rw [hln, HA.out, HF0.out, HF1.out]; rfl)
          go_enter Tryz.func39, Tryz.ntmps39
          clear ha hl0 hln hhd h35n
          subst hl
          go_wp2_with fail
          refine (all_q ((Pts.cons 1 t o kids cm r).deep + 1) 0 (Pts.cons 1 t o kids cm r) A c G _ (by omega) (by omega) hwt HG0.out HP.out).mono ?_
          rintro e w1 ⟨rfl, hb1⟩
          rw [HA.out]
          have hbox1 := (hb1.block w.heap.size (by simp)).trans HBX.out
          have q0 : w1.cell? ⟨w.heap.size, 0, none⟩ = some (.slice A (Pts.cons 1 t o kids cm r).len c) := by simp [World.cell?, hbox1]
          have hpn := HP.out.old HG0.out hb1
          have HB1 := Lib.hid (HW0.out.trans (hb1.mono HW0.out.size))
          clear hb1 hbox1
          obtain ⟨b, off, Ak, ck, rfl, _, c0, c1, _⟩ := hpn
          simp only [Nat.zero_mul, Nat.add_zero] at c0 c1
          have hlz : (0 : Int) < ((Pts.cons 1 t o kids cm r).len : Int) := by simp only [Pts.len]; omega
          go_wp2
          go_ret
          exact ⟨by rw [HF.out]; rfl, HB1.out⟩
      · have HF1 := Lib.hid (show (!(l.headK == 1)) = true by rw [hl, Pts.headK]; exact hk)
        have HF := Lib.hid (show l.right = true by unfold Pts.right; rw [hln, HA.out, HF1.out]; simp)
        go_enter Tryz.func39, Tryz.ntmps39
        clear ha hl0 hln
        subst hl
        go_wp2_with fail
        refine (all_q ((Pts.cons k t o kids cm r).deep + 1) 0 (Pts.cons k t o kids cm r) A c G _ (by omega) (by omega) hwt HG0.out HP.out).mono ?_
        rintro e w1 ⟨rfl, hb1⟩
        rw [HA.out]
        have hbox1 := (hb1.block w.heap.size (by simp)).trans HBX.out
        have q0 : w1.cell? ⟨w.heap.size, 0, none⟩ = some (.slice A (Pts.cons k t o kids cm r).len c) := by simp [World.cell?, hbox1]
        have hpn := HP.out.old HG0.out hb1
        have HB1 := Lib.hid (HW0.out.trans (hb1.mono HW0.out.size))
        clear hb1 hbox1
        obtain ⟨b, off, Ak, ck, rfl, _, c0, c1, _⟩ := hpn
        simp only [Nat.zero_mul, Nat.add_zero] at c0 c1
        have hlz : (0 : Int) < ((Pts.cons k t o kids cm r).len : Int) := by simp only [Pts.len]; omega
        go_wp2
        go_ret
        exact ⟨by rw [HF.out]; rfl, HB1.out⟩
  · have hln : (l.len == 0) = true := by rw [beq_iff_eq] at hl0 ⊢; omega
    have HF := Lib.hid (show l.right = false by unfold Pts.right; rw [hln]; simp)
    go_enter Tryz.func39, Tryz.ntmps39
    clear hln
    go_wp2
    go_ret
    exact ⟨by rw [HF.out]; rfl, HW0.out⟩
end Go.Proofs.YtjpopekmbmcggaaGreatDoor
namespace Go.Proofs.YtjpopekmbmcggaaGreatDoor
open Go.RowKit
def PRt (f : Nat) : Prop := ∀ (G : Nat → Prop) (w : World) (vs : List Value) (x : Nd f), (∀ k, G k → k < w.heap.size) → RsvAt w → NdV f G w vs x →
  Calls Tryz.prog 13 #[ag vs] w fun e w' => e = .returned (.bool ((Nd.vw f).R x)) ∧ Below w.heap.size w w'
theorem enter_Right : Enters 13 := fun args w => by simp [callFunc, go_sem, Tryz.func13, Tryz.f13]
theorem WdN.cmds {f : Nat} {G : Nat → Prop} {w : World} {A : Option Addr} {n c : Nat} {x : WdF (Nd f)} (h : WdN f G w [.slice A n c] x) :
    n = x.p.len ∧ n ≤ c ∧ c ≤ maxLen ∧ x.p.wt ≤ 1073741824 ∧ PtsAt G w A 0 x.p ∧ All2 (fun cm l => SlAt G w 10 (NdV f G w) cm.val l) x.p.cmds x.cmds := by
  obtain ⟨A', c', h1, h2, h3, h4, h5, h6⟩ := h
  injection h1 with h1
  injection h1 with e1 e2 e3
  subst e1 e2 e3
  refine ⟨rfl, h2, h3, by omega, h5, ?_⟩
  rw [Pts.cmds_pick]
  exact h6.pick _
theorem all_drop {β : Type} (p : β → Bool) (xs : List β) (k : Nat) (h : k < xs.length) : (xs.drop k).all p = (p xs[k] && (xs.drop (k + 1)).all p) := by rw [drop_one xs k h, List.all_cons]
theorem all_end {β : Type} (p : β → Bool) (xs : List β) (k : Nat) (h : xs.length ≤ k) : (xs.drop k).all p = true := by rw [List.drop_eq_nil_of_le h]; rfl
theorem Crow.look {B : Nat} {w : World} {v : Value} {l : List Cm} (h : Crow B w v l) : ∃ A c, v = .slice A l.length c ∧ l.length ≤ c ∧ c ≤ maxLen ∧ ∀ k (hk : k < l.length), ∃ g, A = some ⟨g, 0, none⟩ ∧ w.cell? ⟨g, k, none⟩ = some (l[k]).val := by
  obtain ⟨A, c, rfl, h1, h2⟩ := h.shape
  refine ⟨A, c, rfl, h1, h2, fun k hk => ?_⟩
  rcases h.2 with ⟨hv, h0⟩ | ⟨g, cap, cur, hv, _⟩
  · omega
  · obtain rfl : A = some ⟨g, 0, none⟩ := by injection hv
    refine ⟨g, rfl, ?_⟩
    have := h.cells k (l[k]).val (by simp [hk])
    rwa [show (⟨g, 0, none⟩ : Addr).add k = ⟨g, k, none⟩ by rw [add_at, Nat.zero_add]] at this
theorem wordB_no {α : Type} {v : Vw α} {x : WdF α} (h : x.p.right = false) : wordB v x = false := by rw [wordB, h]; rfl
theorem wordB_yes {α : Type} {v : Vw α} {x : WdF α} (h : x.p.right = true) : wordB v x = x.cmds.all fun l => l.all v.R := by rw [wordB, h]; rfl
set_option maxRecDepth 100000 in
set_option maxHeartbeats 4000000 in
theorem word_p (f : Nat) (ih : PRt f) (G : Nat → Prop) (w : World) (vs : List Value) (x : WdF (Nd f)) (hG : ∀ k, G k → k < w.heap.size) (ht : RsvAt w) (hv : WdN f G w vs x) :
    Calls Tryz.prog 15 #[ag vs] w fun e w' => e = .returned (.bool (wordB (Nd.vw f) x)) ∧ Below w.heap.size w w' := by
  obtain ⟨A, n, c, rfl⟩ := hv.shape
  have hb0 : Below w.heap.size w (w.alloc (.cells #[.slice A n c] 31)) := (Below.refl _ _).alloc (Nat.le_refl _) _
  have q0 := cell_one (heap_alloc_t w (.cells #[.slice A n c] 31))
  have HG1 := Lib.hid (fun k (h : G k) => Nat.lt_of_lt_of_le (hG k h) hb0.size)
  obtain ⟨rfl, hnc, hcm, hwt, hpt, -⟩ := hv.cmds
  have HP := Lib.hid (hpt.old hG hb0)
  have HV := Lib.hid hv; have HG := Lib.hid hG; have HT := Lib.hid ht; have IH := Lib.hid ih; have HB0 := Lib.hid hb0
  have HX := Lib.hid (right_p x.p A c G _ hwt HG1.out HP.out)
  clear hb0 hpt hv hG ht ih
  show Calls Tryz.prog 15 #[.agg #[.slice A x.p.len c]] w _
  go_enter Tryz.func15, Tryz.ntmps15
  go_wp2_with fail
  refine HX.out.mono ?_
  rintro e w1 ⟨he, hb1⟩
  have HB1 := Lib.hid (HB0.out.trans (hb1.mono HB0.out.size))
  cases hq : x.p.right
  · rw [hq] at he
    subst he
    have HQ := Lib.hid hq
    clear hq hb1
    go_wp2_with fail
    go_ret
    exact ⟨ret_bool (by rw [wordB_no HQ.out]), HB1.out⟩
  rw [hq] at he
  subst he
  have q1 : w1.cell? ⟨w.heap.size, 0, none⟩ = some (.slice A x.p.len c) := (hb1.cell (p := ⟨w.heap.size, 0, none⟩) (by simp)).trans q0
  have HX2 := Lib.hid (cmds_p x.p A c G w1 hwt (fun k hk => Nat.lt_of_lt_of_le (HG1.out k hk) hb1.size) (HP.out.old HG1.out hb1))
  have HQ := Lib.hid (wordB_yes (v := Nd.vw f) hq)
  clear hq hb1 q0
  go_wp2_with fail
  refine HX2.out.mono ?_
  rintro e w2 ⟨v, rfl, hcr, hb2⟩
  have HB2 := Lib.hid (HB1.out.trans (hb2.mono HB1.out.size))
  obtain ⟨A2, c2, rfl, hl2, hm2, hk2⟩ := hcr.look
  have HK := Lib.hid hk2
  have HLN := Lib.hid (show x.p.cmds.length = x.cmds.length from (HV.out.cmds).2.2.2.2.2.len)
  unfold maxLen at hm2
  clear hb2 hcr hk2 q1
  go_wp2_with fail
  go_loopw [11] (fun i wr => ∃ (k : Nat), k ≤ x.p.cmds.length ∧ i = .int .i64 k ∧ ((x.cmds.drop k).all fun l => l.all (Nd.vw f).R) = (x.cmds.all fun l => l.all (Nd.vw f).R) ∧ Below w2.heap.size w2 wr) (fun i _ => x.p.cmds.length - (intOf i).toNat)
  case atStart => exact ⟨0, by omega, rfl, rfl, Below.refl _ _⟩
  case round =>
    obtain ⟨k, hk, rfl, hf, hb⟩ := hrel
    have HF := Lib.hid hf; have HB := Lib.hid hb
    clear hf
    by_cases hlt : k < x.p.cmds.length
    · obtain ⟨g, rfl, z0⟩ := HK.out k hlt
      have z1 : wr.cell? ⟨g, k, none⟩ = some (.slice (x.p.cmds[k]).a (x.p.cmds[k]).n (x.p.cmds[k]).c) := (World.cell?_of_block (hb.block g (cell_lt z0))).trans z0
      have hbw := HB2.out.trans (hb.mono HB2.out.size)
      have hlt2 : k < x.cmds.length := by rw [← HLN.out]; exact hlt
      have hs := ((HV.out.below HG.out hbw).cmds).2.2.2.2.2.get k hlt hlt2
      have HC := Lib.hid (all_node f G 13 #[] (Nd.vw f).R _ (x.cmds[k]) wr (fun j hj => Nat.lt_of_lt_of_le (HG.out j hj) hbw.size) hs enter_Right (fun X hX vs y hy => by
        rw [Array.append_empty]
        exact IH.out G X vs y (fun j hj => Nat.lt_of_lt_of_le (Nat.lt_of_lt_of_le (HG.out j hj) hbw.size) hX.size) ((HT.out.below hbw).below hX) hy))
      have HD := Lib.hid (all_drop (fun l : List (Nd f) => l.all (Nd.vw f).R) x.cmds k hlt2)
      clear z0 hs hbw hb
      go_wp2_with fail
      refine HC.out.mono ?_
      rintro e w3 ⟨he, hb3⟩
      have HB3 := Lib.hid (HB.out.trans (hb3.mono HB.out.size))
      clear hb3 z1
      cases hq : (x.cmds[k]).all (Nd.vw f).R
      · rw [hq] at he
        subst he
        have HQ2 := Lib.hid hq
        clear hq
        go_wp2_with fail
        go_ret
        exact ⟨ret_bool (by rw [HQ.out, ← HF.out, HD.out, HQ2.out]; rfl), HB2.out.trans (HB3.out.mono HB2.out.size)⟩
      · rw [hq] at he
        subst he
        have HQ2 := Lib.hid hq
        clear hq
        go_wp2_with fail
        go_roundw
        case rel => exact ⟨k + 1, by omega, by go_num, by rw [← HF.out, HD.out, HQ2.out]; rfl, HB3.out⟩
        case measure => simp only [intOf]; omega
    · have HE := Lib.hid (all_end (fun l : List (Nd f) => l.all (Nd.vw f).R) x.cmds k (by rw [← HLN.out]; omega))
      clear hb
      go_wp2_with fail
      go_ret
      exact ⟨ret_bool (by rw [HQ.out, ← HF.out, HE.out]), HB2.out.trans (HB.out.mono HB2.out.size)⟩
end Go.Proofs.YtjpopekmbmcggaaGreatDoor
namespace Go.Proofs.YtjpopekmbmcggaaGreatDoor
open Go.RowKit
attribute [local go_sem ↓] wp_append_wr
namespace Pts
def msk : Pts → Bool → Nat → List Bool
  | nil, _, _ => []
  | cons _ _ _ kids cm rest, on, i => (on && decide (i < 1000) && decide (0 < cm.n)) :: (kids.msk (on && decide (i < 1000)) 0 ++ rest.msk on (i + 1))
theorem msk_len : ∀ (l : Pts) (on : Bool) (i : Nat), (l.msk on i).length = l.allc.length
  | nil, _, _ => rfl
  | cons _ _ _ kids _ rest, on, i => by rw [msk, allc]; simp [msk_len kids, msk_len rest]
end Pts
def pickM {β : Type} : List Bool → List β → List β
  | b :: ks, x :: xs => if b then x :: pickM ks xs else pickM ks xs
  | _, _ => []
theorem pickM_app {β : Type} : ∀ (ks : List Bool) (xs : List β) (ks' : List Bool) (xs' : List β), ks.length = xs.length → pickM (ks ++ ks') (xs ++ xs') = pickM ks xs ++ pickM ks' xs'
  | [], [], _, _, _ => rfl
  | k :: ks, x :: xs, ks', xs', h => by
    have ih := pickM_app ks xs ks' xs' (by simpa using h)
    simp only [List.cons_append, pickM]
    split <;> simp [ih]
  | [], _ :: _, _, _, h => by simp at h
  | _ :: _, [], _, _, h => by simp at h
theorem All2.pickM {α β : Type} {R : α → β → Prop} : ∀ (ks : List Bool) {l : List α} {m : List β}, All2 R l m → All2 R (pickM ks l) (pickM ks m)
  | [], _, _, _ => trivial
  | k :: ks, [], [], _ => trivial
  | k :: ks, _ :: _, _ :: _, h => by
    simp only [YtjpopekmbmcggaaGreatDoor.pickM]
    split
    · exact ⟨h.1, All2.pickM ks h.2⟩
    · exact All2.pickM ks h.2
  | _ :: _, [], _ :: _, h => h.elim
  | _ :: _, _ :: _, [], h => h.elim
theorem pickM_tot {β : Type} (C : β → Nat) : ∀ (ks : List Bool) (xs : List β), tot C (pickM ks xs) ≤ tot C xs
  | [], xs => by simp [pickM, tot]
  | _ :: _, [] => by simp [pickM, tot]
  | k :: ks, x :: xs => by
    have := pickM_tot C ks xs
    simp only [pickM]
    split <;> simp only [tot] <;> omega
namespace Pts
def cm32 (l : Pts) (i : Nat) : List Cm := pickM (l.msk true i) l.allc
theorem off_nil : ∀ (l : Pts) (i : Nat), pickM (l.msk false i) l.allc = []
  | nil, _ => rfl
  | cons _ _ _ kids cm rest, i => by
    rw [msk, allc]
    simp only [Bool.false_and, pickM]
    rw [if_neg (by simp), pickM_app _ _ _ _ (msk_len _ _ _), off_nil kids, off_nil rest]
    rfl
theorem cm32_lt (k : Int) (t o : ByteArray) (kids : Pts) (cm : Cm) (r : Pts) (i : Nat) (h : i < 1000) : (cons k t o kids cm r).cm32 i = (if 0 < cm.n then [cm] else []) ++ kids.cm32 0 ++ r.cm32 (i + 1) := by
  unfold cm32
  rw [msk, allc]
  simp only [decide_eq_true h, Bool.true_and, pickM]
  rw [pickM_app _ _ _ _ (msk_len _ _ _)]
  by_cases h2 : 0 < cm.n <;> simp [h2]
theorem cm32_ge : ∀ (l : Pts) (i : Nat), 1000 ≤ i → l.cm32 i = []
  | nil, _, _ => rfl
  | cons _ _ _ kids cm rest, i, h => by
    have ih := cm32_ge rest (i + 1) (by omega)
    unfold cm32 at *
    rw [msk, allc]
    simp only [decide_eq_false (show ¬ i < 1000 by omega), Bool.true_and, Bool.false_and, pickM]
    rw [if_neg (by simp), pickM_app _ _ _ _ (msk_len _ _ _), off_nil kids, ih]
    rfl
theorem pickM_len {β : Type} : ∀ (ks : List Bool) (xs : List β), (pickM ks xs).length ≤ xs.length
  | [], _ => by simp [pickM]
  | _ :: _, [] => by simp [pickM]
  | k :: ks, x :: xs => by
    have := pickM_len ks xs
    simp only [pickM]
    split <;> simp only [List.length_cons] <;> omega
theorem allc_count : ∀ l : Pts, l.allc.length = l.count
  | nil => rfl
  | cons _ _ _ kids _ rest => by rw [allc, count]; simp [allc_count kids, allc_count rest]; omega
theorem cm32_count (l : Pts) (i : Nat) : (l.cm32 i).length ≤ l.count := by
  rw [← allc_count]
  exact pickM_len _ _
end Pts
set_option maxRecDepth 100000 in
set_option maxHeartbeats 1000000 in
theorem cm32_any : ∀ (n : Nat) (l : Pts) (G : Nat → Prop) (A : Option Addr) (c : Nat) (w : World), l.deep < n → l.wt ≤ 1073741824 → (∀ k, G k → k < w.heap.size) → PtsAt G w A 0 l →
    Calls Tryz.prog 36 #[.slice A l.len c] w fun e w' => ∃ v, e = .returned v ∧ Crow w.heap.size w' v (l.cm32 0) ∧ Below w.heap.size w w' := by
  intro n
  induction n with
  | zero => intro l _ _ _ _ h; omega
  | succ n ih =>
    intro l G A c w hd hwt hG hp
    have hlw := Pts.len_wt l
    have hcw := Pts.count_wt l
    have hcc := Pts.cm32_count l 0
    have IH := Lib.hid ih; clear ih
    have HG := Lib.hid hG; have HP := Lib.hid hp; clear hG hp
    go_enter Tryz.func36, Tryz.ntmps36
    go_wp2
    go_loopw [3, 4] (fun s i wr => ∃ (k : Nat) (done : List Cm), k ≤ l.len ∧ i = .int .i64 k ∧ Crow w.heap.size wr s done ∧ done ++ (l.drop k).cm32 k = l.cm32 0 ∧ Below w.heap.size w wr) (fun _ i _ => l.len - (intOf i).toNat)
    case atStart => exact ⟨0, [], by omega, rfl, Crow.nothing, by rw [Pts.drop_zero]; rfl, Below.refl _ _⟩
    case round =>
      obtain ⟨k, done, hk, rfl, hr, hf, hb⟩ := hrel
      have hdl : done.length ≤ 1073741824 := by
        have := congrArg List.length hf
        rw [List.length_append] at this
        omega
      have HF := Lib.hid hf; have HB := Lib.hid hb; have HR := Lib.hid hr; clear hf hb hr
      by_cases hlt : k < l.len ∧ k < 1000
      · obtain ⟨pk, t, o, kids, cm, r, hdr⟩ := Pts.drop_cons k l hlt.1
        have hp' := (HP.out.old HG.out HB.out).at_ k
        rw [hdr, Nat.zero_add] at hp'
        obtain ⟨b, off, Ak, ck, rfl, hg, c0, c1, c2, c3, c4, hl, h1, h2⟩ := hp'
        have hwd := Pts.wt_drop k l
        rw [hdr, Pts.wt] at hwd
        have hkw := Pts.count_wt kids
        have hkc := Pts.cm32_count kids 0
        have hkd := Pts.deep_drop k l hdr
        have hG' : ∀ g, G g → g < wr.heap.size := fun g hg => Nat.lt_of_lt_of_le (HG.out g hg) HB.out.size
        have HD := Lib.hid hdr; clear hdr h2
        have HK := Lib.hid h1
        have HGW := Lib.hid hG'
        have HGB := Lib.hid (HG.out b hg)
        clear h1 hG' hg
        unfold Cm.val at c4
        have hlt1 := hlt.1; have hlt2 := hlt.2
        have HLT := Lib.hid hlt; clear hlt
        by_cases h6 : 0 < cm.n
        · have H6 := Lib.hid h6
          have hx := HR.out.below ((Below.refl _ _).alloc (Nat.le_refl _) (.cells #[.slice cm.a cm.n cm.c] 26))
          have hnew := word_cell (heap_alloc_new wr (.cells #[.slice cm.a cm.n cm.c] 26))
          obtain ⟨v1, w1, hrun1, hown1, hgr1, _⟩ := hx.append [cm] ⟨wr.heap.size, 0, none⟩ 1 (fun j u hj => by
            match j, hj with
            | 0, hj => simp only [List.map_cons, List.map_nil, List.getElem?_cons_zero, Option.some.injEq] at hj; subst hj; exact hnew
            | j + 1, hj => simp at hj) (by simp; omega) (by simp; have := HB.out.size; omega)
          rw [show [cm].length = 1 from rfl] at hrun1
          have hb1 : Below w.heap.size w w1 := (HB.out.alloc HB.out.size _).grown hgr1 (by simp; have := HB.out.size; omega) (fun g hg => (hx.lt hg).1)
          have q3 : w1.cell? ⟨b, off + k * 5 + 3, none⟩ = some (.slice Ak kids.len ck) := by
            have e1 := HB.out.cell (p := ⟨b, off + k * 5 + 3, none⟩) HGB.out
            have e2 := hb1.cell (p := ⟨b, off + k * 5 + 3, none⟩) HGB.out
            rw [e2, ← e1]
            exact c3
          have HK1 := Lib.hid (show PtsAt G w1 Ak 0 kids from HK.out.keep fun p hp => (hb1.cell (HG.out _ hp)).trans (HB.out.cell (HG.out _ hp)).symm)
          have HG1 := Lib.hid (show ∀ g, G g → g < w1.heap.size from fun g hg => Nat.lt_of_lt_of_le (HG.out g hg) hb1.size)
          have HO1 := Lib.hid hown1
          have HB1 := Lib.hid hb1
          clear hx hnew hown1 hgr1 hb1
          go_wp2_with fail
          refine (IH.out kids G Ak ck w1 (by omega) (by omega) HG1.out HK1.out).mono ?_
          rintro e w2 ⟨v2, rfl, hr2, hb2⟩
          have ho2 := HO1.out.below hb2
          obtain ⟨v3, w3, hrun3, hown3, hgr3⟩ := ho2.joins hr2 (by simp; omega) (Nat.le_trans HB1.out.size hb2.size)
          have HB3 := Lib.hid (((HB1.out.trans (hb2.mono HB1.out.size))).grown hgr3 (Nat.le_trans HB1.out.size hb2.size) (fun g hg => (ho2.lt hg).1))
          have HO3 := Lib.hid hown3
          clear hr2 hb2 ho2 hown3 hgr3 hrun1 q3 c0 c1 c2 c3 c4
          go_wp2
          go_roundw
          case rel =>
            refine ⟨k + 1, done ++ [cm] ++ kids.cm32 0, by omega, by go_num, HO3.out, ?_, HB3.out⟩
            rw [Pts.drop_succ k l HD.out, ← HF.out, HD.out, Pts.cm32_lt _ _ _ _ _ _ _ HLT.out.2, if_pos H6.out]
            simp
          case measure => simp only [intOf]; omega
        · have H6 := Lib.hid h6
          obtain hz : cm.n = 0 := by omega
          have hz2 : decide (0 < cm.n) = false := decide_eq_false h6
          clear h6 hz
          go_wp2_with fail
          refine (IH.out kids G Ak ck wr (by omega) (by omega) HGW.out HK.out).mono ?_
          rintro e w2 ⟨v2, rfl, hr2, hb2⟩
          have ho2 := HR.out.below hb2
          obtain ⟨v3, w3, hrun3, hown3, hgr3⟩ := ho2.joins hr2 (by omega) (Nat.le_trans HB.out.size hb2.size)
          have HB3 := Lib.hid (((HB.out.trans (hb2.mono HB.out.size))).grown hgr3 (Nat.le_trans HB.out.size hb2.size) (fun g hg => (ho2.lt hg).1))
          have HO3 := Lib.hid hown3
          clear hr2 hb2 ho2 hown3 hgr3 c0 c1 c2 c3 c4
          go_wp2
          go_roundw
          case rel =>
            refine ⟨k + 1, done ++ kids.cm32 0, by omega, by go_num, HO3.out, ?_, HB3.out⟩
            rw [Pts.drop_succ k l HD.out, ← HF.out, HD.out, Pts.cm32_lt _ _ _ _ _ _ _ HLT.out.2, if_neg H6.out]
            simp
          case measure => simp only [intOf]; omega
      · have HE := Lib.hid (show (l.drop k).cm32 k = [] by
          by_cases hk1 : k < l.len
          · exact Pts.cm32_ge _ _ (by omega)
          · rw [Pts.drop_end k l (by omega)]; rfl)
        by_cases hk1 : k < l.len
        · have hk2 : ¬ k < 1000 := by omega
          clear hlt
          go_wp2_with fail
          go_ret
          refine ⟨_, rfl, ?_, HB.out⟩
          have h := HF.out
          rw [HE.out, List.append_nil] at h
          rw [← h]
          exact HR.out
        · clear hlt
          go_wp2_with fail
          go_ret
          refine ⟨_, rfl, ?_, HB.out⟩
          have h := HF.out
          rw [HE.out, List.append_nil] at h
          rw [← h]
          exact HR.out
theorem cm32_r (l : Pts) (A : Option Addr) (c : Nat) (G : Nat → Prop) (w : World) (hwt : l.wt ≤ 1073741824) (hG : ∀ k, G k → k < w.heap.size) (hp : PtsAt G w A 0 l) :
    Calls Tryz.prog 36 #[.slice A l.len c] w fun e w' => ∃ v, e = .returned v ∧ Crow w.heap.size w' v (l.cm32 0) ∧ Below w.heap.size w w' := cm32_any (l.deep + 1) l G A c w (by omega) hwt hG hp
end Go.Proofs.YtjpopekmbmcggaaGreatDoor
