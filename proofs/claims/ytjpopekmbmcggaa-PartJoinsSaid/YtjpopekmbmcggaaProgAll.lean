/- What part's all and Right answer. -/
import Derived.Test.YtjpopekmbmcggaaProgOne
import Derived.Test.YtjpopekmbmcggaaRefAll
import Derived.Test.YtjpopekmbmcggaaGr
namespace Go.Proofs.Ytjpopekmbmcggaa
open Go.RowKit

set_option maxRecDepth 100000 in
set_option maxHeartbeats 8000000 in
theorem allq_step (n : Nat) (ih : AllQ n) : AllQ (n + 1) := by
  intro p l A c G w hp2 hd hwt hG hp
  have IH := Lib.hid ih; clear ih
  have hlw := Pts.len_mx l
  have HG := Lib.hid hG; have HP := Lib.hid hp; clear hG hp
  go_enter Try.func21, Try.ntmps21
  go_wp2
  go_loopw [9] (fun i wr => ∃ (k : Nat) (pv : Option (List UInt8)), k ≤ l.len ∧ i = .int .i64 k ∧ Pts.allP p pv (l.drop k) = l.allP p none ∧ PvAt l k pv ∧ Below w.heap.size w wr) (fun i _ => l.len - (intOf i).toNat)
  case atStart => exact ⟨0, none, by omega, rfl, by rw [Pts.drop_zero], .inl ⟨rfl, rfl⟩, Below.refl _ _⟩
  case round =>
    obtain ⟨k, pv, hk, rfl, hf, hpv, hb⟩ := hrel
    have HF := Lib.hid hf; have HB := Lib.hid hb; clear hf hb
    by_cases hlt : k < l.len
    · obtain ⟨pk, t, o, kids, cm, r, hdr⟩ := Pts.drop_cons k l hlt
      have hpw := HP.out.old HG.out HB.out
      have hp' := hpw.at_ k
      rw [hdr, Nat.zero_add] at hp'
      obtain ⟨b, off, Ak, ck, rfl, hgb, c0, c1, c2, c3, c4, hkl, hpk, _⟩ := hp'
      have hwd := Pts.mx_at k l hdr
      have hkd := Pts.deep_drop k l hdr
      have hG' : ∀ g, G g → g < wr.heap.size := fun g hg => Nat.lt_of_lt_of_le (HG.out g hg) HB.out.size
      have hts : t.size ≤ 562949953421312 := by omega
      have hkwt : kids.mx ≤ 562949953421312 := by omega
      have hkdn : kids.deep < n := by omega
      have HD := Lib.hid hdr
      have HPW := Lib.hid hpw
      unfold Cm.val at c4
      have hb0 : Below wr.heap.size wr (wr.alloc (.cells #[.int .i64 pk, .string t, .string o, .slice Ak kids.len ck, .slice cm.a cm.n cm.c] 37)) := (Below.refl _ _).alloc (Nat.le_refl _) _
      have hx0 := heap_alloc_new wr (.cells #[.int .i64 pk, .string t, .string o, .slice Ak kids.len ck, .slice cm.a cm.n cm.c] 37)
      have hc1 : ∀ x : Gr (wr.alloc (.cells #[.int .i64 pk, .string t, .string o, .slice Ak kids.len ck, .slice cm.a cm.n cm.c] 37)), Calls Try.prog 28 #[.int .i64 p, .agg #[.int .i64 pk, .string t, .string o, .slice Ak kids.len ck, .slice cm.a cm.n cm.c]] x.at_ fun e w' => e = .returned (.bool (oneB p pk t.toList o.toList kids.len cm.n kids.headK kids.headT (kids.allP 1 none) (kids.allP 2 none))) ∧ ∃ y : Gr (wr.alloc (.cells #[.int .i64 pk, .string t, .string o, .slice Ak kids.len ck, .slice cm.a cm.n cm.c] 37)), w' = y.at_ := fun x => by
        have hbx : Below wr.heap.size wr x.at_ := hb0.trans (x.2.mono (by simp))
        exact x.calls (one_p n IH.out p hp2 pk t o kids Ak ck cm G x.at_ hkdn hts hkwt (fun g hg => Nat.lt_of_lt_of_le (hG' g hg) hbx.size) (hpk.old hG' hbx))
      have hx : ∀ x : Gr (wr.alloc (.cells #[.int .i64 pk, .string t, .string o, .slice Ak kids.len ck, .slice cm.a cm.n cm.c] 37)), x.at_.cell? ⟨wr.heap.size, 0, none⟩ = some (.int .i64 pk) ∧ x.at_.cell? ⟨wr.heap.size, 1, none⟩ = some (.string t) ∧ x.at_.cell? ⟨wr.heap.size, 2, none⟩ = some (.string o) ∧ x.at_.cell? ⟨wr.heap.size, 3, none⟩ = some (.slice Ak kids.len ck) ∧ x.at_.cell? ⟨wr.heap.size, 4, none⟩ = some (.slice cm.a cm.n cm.c) := fun x => box_cells ((x.2.block wr.heap.size (by simp)).trans hx0)
      have hne : Nonempty (Gr (wr.alloc (.cells #[.int .i64 pk, .string t, .string o, .slice Ak kids.len ck, .slice cm.a cm.n cm.c] 37))) := ⟨⟨_, Below.refl _ _⟩⟩
      have HBN := Lib.hid (show ∀ x : Gr (wr.alloc (.cells #[.int .i64 pk, .string t, .string o, .slice Ak kids.len ck, .slice cm.a cm.n cm.c] 37)), Below w.heap.size w x.at_ from fun x => HB.out.trans ((hb0.trans (x.2.mono (by simp))).mono HB.out.size))
      have HKP := Lib.hid hpk; have HG' := Lib.hid hG'
      have x0 := fun x => (hx x).1; have x1 := fun x => (hx x).2.1; have x2 := fun x => (hx x).2.2.1; have x3 := fun x => (hx x).2.2.2.1; have x4 := fun x => (hx x).2.2.2.2
      clear hpk hdr hwd hkd hgb hpw hx hx0 hb0 hG'
      cases h1 : oneB p pk t.toList o.toList kids.len cm.n kids.headK kids.headT (kids.allP 1 none) (kids.allP 2 none)
      · have H1 := Lib.hid h1; clear h1 hpv
        have HR := Lib.hid (show l.allP p none = false by rw [← HF.out, HD.out, Pts.allP]; rw [H1.out]; rfl)
        rw [H1.out] at hc1
        go_wp2_with fail
        refine wp_region_class (S := Gr (wr.alloc (.cells #[.int .i64 pk, .string t, .string o, .slice Ak kids.len ck, .slice cm.a cm.n cm.c] 37))) Gr.at_ (by kernel_rfl) (by kernel_rfl) (Gr.drew _) ?_
        repeat (go_big_quiet_step (first | (with_reducible exact hc1 _)))
        refine wpQuiet_nil ?_
        rintro X ⟨X', hX⟩
        have HBX := Lib.hid (HBN.out X'); clear hne hc1 x0 x1 x2 x3 x4
        revert HBX
        rw [← hX]
        clear hX HBN X'
        intro HBX
        go_wp2
        go_ret
        exact ⟨by rw [HR.out]; rfl, HBX.out⟩
      · have H1 := Lib.hid h1; clear h1
        by_cases hk0 : k = 0
        · have hpv0 : pv = none := by
            rcases hpv with ⟨_, h⟩ | ⟨j, _, _, _, _, _, _, h, _⟩
            · exact h
            · omega
          subst hk0
          subst hpv0
          clear hpv
          simp only [Nat.zero_mul, Nat.add_zero] at c0 c1 c2 c3 c4
          have HR := Lib.hid (show Pts.allP p (if pk = 1 then some t.toList else none) (l.drop (0 + 1)) = l.allP p none by rw [Pts.drop_succ 0 l HD.out, ← HF.out, HD.out, Pts.allP]; rw [H1.out]; simp [meetB])
          have HNE := Lib.hid (show pk = 1 → t.toList ≠ [] from fun e => by subst e; exact (oneB_lit H1.out).1)
          rw [H1.out] at hc1
          go_wp2_with fail
          refine wp_region_class (S := Gr (wr.alloc (.cells #[.int .i64 pk, .string t, .string o, .slice Ak kids.len ck, .slice cm.a cm.n cm.c] 37))) Gr.at_ (by kernel_rfl) (by kernel_rfl) (Gr.drew _) ?_
          repeat (go_big_quiet_step (first | (with_reducible exact hc1 _)))
          refine wpQuiet_nil ?_
          rintro X ⟨X', hX⟩
          have HBX := Lib.hid (HBN.out X'); clear hne hc1 x0 x1 x2 x3 x4
          revert HBX
          rw [← hX]
          clear hX HBN X'
          intro HBX
          go_wp2
          go_roundw
          case rel => exact ⟨0 + 1, _, by omega, by go_num, HR.out, .inr ⟨0, pk, t, o, kids, cm, r, rfl, HD.out, rfl, HNE.out⟩, HBX.out⟩
          case measure => simp only [intOf]; omega
        · obtain ⟨j, pk', t', o', kids', cm', r', hkj, hdj, rfl, hne'⟩ := hpv.resolve_left (fun h => hk0 h.1)
          obtain rfl : j = k - 1 := by omega
          have hj0 : (0 : Int) ≤ (k : Int) - 1 := by omega
          have hj1 : (k : Int) - 1 < (l.len : Int) := by omega
          have hj2 : ((k : Int) - 1).toNat = k - 1 := by omega
          have hjp : (0 : Int) < (k : Int) := by omega
          have hjd : decide ((0 : Int) < (k : Int)) = true := decide_eq_true hjp
          have hjn : 0 < k := by omega
          have htj := Pts.mx_at (k - 1) l hdj
          have hts' : t'.size ≤ 562949953421312 := by omega
          have hpj := HPW.out.at_ (k - 1)
          rw [hdj, Nat.zero_add] at hpj
          obtain ⟨b3, off3, Ak3, ck3, hAA, hg3, g0, g1, g2, g3, g4, _⟩ := hpj
          injection hAA with hAA
          injection hAA with e1 e2
          subst e1 e2
          have HM := Lib.hid (show (if pk' = 1 then some t'.toList else none) = pvOf pk' t'.toList from rfl)
          unfold Cm.val at g4
          have hgl : ∀ (p : Addr) (v : Value), wr.cell? p = some v → ∀ x : Gr (wr.alloc (.cells #[.int .i64 pk, .string t, .string o, .slice Ak kids.len ck, .slice cm.a cm.n cm.c] 37)), x.at_.cell? p = some v := fun p v h x => x.cell _ _ ((World.cell?_alloc_lt wr _ p (cell_lt h)).trans h)
          have y0 := hgl _ _ g0; have y1 := hgl _ _ g1; have y2 := hgl _ _ g2; have y3 := hgl _ _ g3; have y4 := hgl _ _ g4
          have hc2 : ∀ x : Gr (wr.alloc (.cells #[.int .i64 pk, .string t, .string o, .slice Ak kids.len ck, .slice cm.a cm.n cm.c] 37)), Calls Try.prog 29 #[.agg #[.int .i64 pk', .string t', .string o', .slice Ak3 kids'.len ck3, .slice cm'.a cm'.n cm'.c], .agg #[.int .i64 pk, .string t, .string o, .slice Ak kids.len ck, .slice cm.a cm.n cm.c]] x.at_ fun e w' => e = .returned (.bool (meetB (pvOf pk' t'.toList) pk)) ∧ ∃ y : Gr (wr.alloc (.cells #[.int .i64 pk, .string t, .string o, .slice Ak kids.len ck, .slice cm.a cm.n cm.c] 37)), w' = y.at_ := fun x => x.calls (meet_p pk' t' o' kids'.len Ak3 ck3 cm' pk t o kids.len Ak ck cm x.at_ hts')
          clear hgl g0 g1 g2 g3 g4 hkj hdj hne' hpv htj hg3
          cases hm : meetB (pvOf pk' t'.toList) pk
          · have HMM := Lib.hid hm; rw [hm] at hc2; clear hm
            have HR := Lib.hid (show l.allP p none = false by rw [← HF.out, HD.out, Pts.allP]; rw [H1.out, HM.out, HMM.out]; rfl)
            rw [H1.out] at hc1
            go_wp2_with fail
            refine wp_region_class (S := Gr (wr.alloc (.cells #[.int .i64 pk, .string t, .string o, .slice Ak kids.len ck, .slice cm.a cm.n cm.c] 37))) Gr.at_ (by kernel_rfl) (by kernel_rfl) (Gr.drew _) ?_
            repeat (go_big_quiet_step (first | (with_reducible exact hc1 _) | (with_reducible exact hc2 _)))
            refine wpQuiet_nil ?_
            rintro X ⟨X', hX⟩
            have HBX := Lib.hid (HBN.out X'); clear hne hc1 x0 x1 x2 x3 x4
            revert HBX
            rw [← hX]
            clear hX HBN X'
            intro HBX
            go_wp2
            go_ret
            exact ⟨by rw [HR.out]; rfl, HBX.out⟩
          · have HMM := Lib.hid hm; rw [hm] at hc2; clear hm
            have HR := Lib.hid (show Pts.allP p (if pk = 1 then some t.toList else none) (l.drop (k + 1)) = l.allP p none by rw [Pts.drop_succ k l HD.out, ← HF.out, HD.out, Pts.allP]; rw [H1.out, HM.out, HMM.out]; rfl)
            have HNE := Lib.hid (show pk = 1 → t.toList ≠ [] from fun e => by subst e; exact (oneB_lit H1.out).1)
            rw [H1.out] at hc1
            go_wp2_with fail
            refine wp_region_class (S := Gr (wr.alloc (.cells #[.int .i64 pk, .string t, .string o, .slice Ak kids.len ck, .slice cm.a cm.n cm.c] 37))) Gr.at_ (by kernel_rfl) (by kernel_rfl) (Gr.drew _) ?_
            repeat (go_big_quiet_step (first | (with_reducible exact hc1 _) | (with_reducible exact hc2 _)))
            refine wpQuiet_nil ?_
            rintro X ⟨X', hX⟩
            have HBX := Lib.hid (HBN.out X'); clear hne hc1 x0 x1 x2 x3 x4
            revert HBX
            rw [← hX]
            clear hX HBN X'
            intro HBX
            go_wp2
            go_roundw
            case rel => exact ⟨k + 1, _, by omega, by go_num, HR.out, .inr ⟨k, pk, t, o, kids, cm, r, rfl, HD.out, rfl, HNE.out⟩, HBX.out⟩
            case measure => simp only [intOf]; omega
    · have HR := Lib.hid (show l.allP p none = true by rw [← HF.out]; exact allP_nil p pv l k hlt)
      go_wp2
      go_ret
      exact ⟨by rw [HR.out]; rfl, HB.out⟩

theorem all_q : ∀ n, AllQ n
  | 0 => fun _ _ _ _ _ _ _ h => absurd h (by omega)
  | n + 1 => allq_step n (all_q n)
end Go.Proofs.Ytjpopekmbmcggaa
