/- What conchref24.All and Right answer. -/
import Derived.Test.YtpefkhbejjndeaaRefOne
namespace Go.Proofs.Ytpefkhbejjndeaa
open Go.RowKit

/-- What stands ahead of place k, if it is a literal. -/
def PvAt (l : Pts) (k : Nat) (pv : Option (List UInt8)) : Prop :=
  (k = 0 ∧ pv = none) ∨ ∃ j pk t o kids cm r, k = j + 1 ∧ l.drop j = .cons pk t o kids cm r ∧ pv = (if pk = 1 then some t.toList else none) ∧ (pk = 1 → t.toList ≠ [])
theorem ld0_get (s : ByteArray) (h : 0 < s.size) : ld0 s.toList = s[s.size - 1] := by
  have hl : s.toList.getLast? = some (s[s.size - 1]'(by omega)) := by
    rw [List.getLast?_eq_getElem?, ← size_list]; exact get?_list s _ (by omega)
  unfold ld0
  rw [← List.head?_reverse] at hl
  cases hr : s.toList.reverse with
  | nil => rw [hr] at hl; simp at hl
  | cons a r => rw [hr] at hl; simp at hl; simpa [hd0] using hl
theorem one_r' (n : Nat) (IH : AllR n) (p : Nat) (hp2 : p ≤ 2) (k : Int) (t o : ByteArray) (kids : Pts) (A : Option Addr) (c : Nat) (cm : Cm) (G : Nat → Prop) (w : World) (hd : kids.deep < n) (hts : t.size ≤ 562949953421312) (hwt : kids.mx ≤ 562949953421312) (hG : ∀ k, G k → k < w.heap.size) (hp : PtsAt G w A 0 kids) :
    Calls Try.prog 85 #[.agg #[.int .i64 k, .string t, .string o, .slice A kids.len c, .slice cm.a cm.n cm.c], .int .i64 p] w fun e w' => e = .returned (.bool (oneB p k t.toList o.toList kids.len cm.n kids.headK kids.headT (kids.allP 1 none) (kids.allP 2 none))) ∧ Below w.heap.size w w' := one_r n IH p hp2 k t o kids A c cm G w hd hts hwt hG hp
theorem allP_nil (p : Nat) (pv : Option (List UInt8)) (l : Pts) (k : Nat) (h : ¬ k < l.len) : Pts.allP p pv (l.drop k) = true := by rw [Pts.drop_end k l (by omega)]; rfl

set_option maxRecDepth 100000 in
set_option maxHeartbeats 8000000 in
theorem all_r : ∀ n, AllR n := by
  intro n
  induction n with
  | zero => intro p l A c G w _ h; omega
  | succ n ih =>
    intro p l A c G w hp2 hd hwt hG hp
    have IH := Lib.hid ih; clear ih
    have hlw := Pts.len_mx l
    have HG := Lib.hid hG; have HP := Lib.hid hp; clear hG hp
    go_enter Try.func62, Try.ntmps62
    go_wp2
    go_loopw [5] (fun i wr => ∃ (k : Nat) (pv : Option (List UInt8)), k ≤ l.len ∧ i = .int .i64 k ∧ Pts.allP p pv (l.drop k) = l.allP p none ∧ PvAt l k pv ∧ Below w.heap.size w wr) (fun i _ => l.len - (intOf i).toNat)
    case atStart => exact ⟨0, none, by omega, rfl, by rw [Pts.drop_zero], .inl ⟨rfl, rfl⟩, Below.refl _ _⟩
    case round =>
      obtain ⟨k, pv, hk, rfl, hf, hpv, hb⟩ := hrel
      have HF := Lib.hid hf; have HB := Lib.hid hb; clear hf hb
      by_cases hlt : k < l.len
      · obtain ⟨pk, t, o, kids, cm, r, hdr⟩ := Pts.drop_cons k l hlt
        have hpw := HP.out.old HG.out HB.out
        have hp' := hpw.at_ k
        rw [hdr, Nat.zero_add] at hp'
        obtain ⟨b, off, Ak, ck, rfl, hgb, c0, c1, c2, c3, c4, hkl, hpk, _⟩ := hp'
        have hwd := Pts.mx_at k l hdr
        have hkd := Pts.deep_drop k l hdr
        have HG' := Lib.hid (show ∀ g, G g → g < wr.heap.size from fun g hg => Nat.lt_of_lt_of_le (HG.out g hg) HB.out.size)
        have hts : t.size ≤ 562949953421312 := by omega
        have hkwt : kids.mx ≤ 562949953421312 := by omega
        have hkdn : kids.deep < n := by omega
        have HKP := Lib.hid hpk; have HGB := Lib.hid hgb; have HD := Lib.hid hdr
        unfold Cm.val at c4
        clear hpk hdr hwd hkd hgb hpw
        cases h1 : oneB p pk t.toList o.toList kids.len cm.n kids.headK kids.headT (kids.allP 1 none) (kids.allP 2 none)
        · have H1 := Lib.hid h1; clear h1
          have HR := Lib.hid (show l.allP p none = false by rw [← HF.out, HD.out, Pts.allP]; rw [H1.out]; rfl)
          go_wp2_with fail
          refine (one_r' n IH.out p hp2 pk t o kids Ak ck cm G _ hkdn hts hkwt HG'.out HKP.out).mono ?_
          rintro e w1 ⟨rfl, hb1⟩
          rw [H1.out]
          have hbn := HB.out.trans (hb1.mono HB.out.size)
          have HBN := Lib.hid hbn
          have hpn := HP.out.old HG.out hbn
          have hpn' := hpn.at_ k
          rw [HD.out, Nat.zero_add] at hpn'
          obtain ⟨b2, off2, Ak2, ck2, hAA, _, d0, d1, _⟩ := hpn'
          injection hAA with hAA
          injection hAA with e1 e2
          subst e1 e2
          have HPN := Lib.hid hpn
          clear hb1 hbn
          clear hpn c0 c1 c2 c3 c4
          go_wp2
          go_ret
          exact ⟨by rw [HR.out]; rfl, HBN.out⟩
        · have H1 := Lib.hid h1; clear h1
          by_cases hk0 : k = 0
          · have hpv0 : pv = none := by
              rcases hpv with ⟨_, h⟩ | ⟨j, _, _, _, _, _, _, h, _⟩
              · exact h
              · omega
            subst hk0
            subst hpv0
            clear hpv
            simp only [Nat.zero_mul, Nat.add_zero] at c0 c1 c2 c3 c4
            have HR := Lib.hid (show Pts.allP p (if pk = 1 then some t.toList else none) (l.drop (0 + 1)) = l.allP p none by rw [Pts.drop_succ 0 l HD.out, ← HF.out, HD.out, Pts.allP]; rw [H1.out]; simp [meetB])
            have HNE := Lib.hid (show pk = 1 → t.toList ≠ [] from fun e => by subst e; exact (oneB_lit H1.out).1)
            go_wp2_with fail
            refine (one_r' n IH.out p hp2 pk t o kids Ak ck cm G _ hkdn hts hkwt HG'.out HKP.out).mono ?_
            rintro e w1 ⟨rfl, hb1⟩
            rw [H1.out]
            have hbn := HB.out.trans (hb1.mono HB.out.size)
            have HBN := Lib.hid hbn
            have hpn := HP.out.old HG.out hbn
            have hpn' := hpn.at_ 0
            rw [HD.out, Nat.zero_add] at hpn'
            obtain ⟨b2, off2, Ak2, ck2, hAA, _, d0, d1, _⟩ := hpn'
            injection hAA with hAA
            injection hAA with e1 e2
            subst e1 e2
            have HPN := Lib.hid hpn
            clear hb1 hbn
            clear hpn c0 c1 c2 c3 c4
            go_wp2
            go_roundw
            case rel => exact ⟨0 + 1, _, by omega, by go_num, HR.out, .inr ⟨0, pk, t, o, kids, cm, r, rfl, HD.out, rfl, HNE.out⟩, HBN.out⟩
            case measure => simp only [intOf]; omega
          · obtain ⟨j, pk', t', o', kids', cm', r', hkj, hdj, rfl, hne'⟩ := hpv.resolve_left (fun h => hk0 h.1)
            obtain rfl : j = k - 1 := by omega
            have HDJ := Lib.hid hdj
            have hjz : ((k : Int) == 0) = false := by rw [beq_eq_false_iff_ne]; omega
            have hj0 : (0 : Int) ≤ (k : Int) - 1 := by omega
            have hj1 : (k : Int) - 1 < (l.len : Int) := by omega
            have hj2 : ((k : Int) - 1).toNat = k - 1 := by omega
            clear hkj
            clear hdj hpv hk0
            cases mk : (pk' != 1)
            · obtain rfl : pk' = 1 := by simpa using mk
              have hpos : 0 < t'.size := by rw [size_list]; exact List.length_pos_iff.2 (hne' rfl)
              have hp0 : 0 < t'.size := hpos
              have hp1 : (0 : Int) ≤ (t'.size : Int) - 1 := by omega
              have hp3 : (t'.size : Int) - 1 < (t'.size : Int) := by omega
              have hp4 : ((t'.size : Int) - 1).toNat = t'.size - 1 := by omega
              have htj := Pts.mx_at (k - 1) l HDJ.out
              have hts' : (t'.size : Int) ≤ 562949953421312 := by omega
              have HPV := Lib.hid (show (if (1 : Int) = 1 then some t'.toList else none) = some t'.toList from rfl)
              clear hne' mk htj hpos
              cases m1 : (pk == 1)
              · cases ml : ((t'[t'.size - 1].toNat : Int) == 36)
                · have mlb : (t'[t'.size - 1] == 36) = false := by rw [beq_eq_false_iff_ne]; intro e; exact (beq_eq_false_iff_ne.1 ml) (by rw [e]; rfl)
                  have HLD := Lib.hid (show (ld0 t'.toList == 36) = false by rw [ld0_get t' hp0]; exact mlb)
                  clear mlb
                  have HR := Lib.hid (show Pts.allP p (if pk = 1 then some t.toList else none) (l.drop (k + 1)) = l.allP p none by rw [Pts.drop_succ k l HD.out, ← HF.out, HD.out, Pts.allP]; rw [H1.out, HPV.out]; simp [meetB, m1, HLD.out])
                  have HNE := Lib.hid (show pk = 1 → t.toList ≠ [] from fun e => by subst e; exact (oneB_lit H1.out).1)
                  go_wp2_with fail
                  refine (one_r' n IH.out p hp2 pk t o kids Ak ck cm G _ hkdn hts hkwt HG'.out HKP.out).mono ?_
                  rintro e w1 ⟨rfl, hb1⟩
                  rw [H1.out]
                  have hbn := HB.out.trans (hb1.mono HB.out.size)
                  have HBN := Lib.hid hbn
                  have hpn := HP.out.old HG.out hbn
                  have hpn' := hpn.at_ k
                  rw [HD.out, Nat.zero_add] at hpn'
                  obtain ⟨b2, off2, Ak2, ck2, hAA, _, d0, d1, _⟩ := hpn'
                  injection hAA with hAA
                  injection hAA with e1 e2
                  subst e1 e2
                  have HPN := Lib.hid hpn
                  clear hb1 hbn
                  have hpj := HPN.out.at_ (k - 1)
                  rw [HDJ.out, Nat.zero_add] at hpj
                  obtain ⟨b3, off3, Ak3, ck3, hAA, _, g0, g1, _⟩ := hpj
                  injection hAA with hAA
                  injection hAA with e1 e2
                  subst e1 e2
                  clear hpn c0 c1 c2 c3 c4

                  go_wp2
                  go_roundw
                  case rel => exact ⟨k + 1, _, by omega, by go_num, HR.out, .inr ⟨k, pk, t, o, kids, cm, r, rfl, HD.out, rfl, HNE.out⟩, HBN.out⟩
                  case measure => simp only [intOf]; omega
                · have mlb : (t'[t'.size - 1] == 36) = true := by rw [beq_iff_eq]; exact UInt8.toNat_inj.1 (by have := beq_iff_eq.1 ml; show _ = 36; omega)
                  have HLD := Lib.hid (show (ld0 t'.toList == 36) = true by rw [ld0_get t' hp0]; exact mlb)
                  clear mlb
                  cases m5 : (pk == 5)
                  · cases m6 : (pk == 6)
                    · cases m7 : (pk == 7)
                      · have HR := Lib.hid (show Pts.allP p (if pk = 1 then some t.toList else none) (l.drop (k + 1)) = l.allP p none by rw [Pts.drop_succ k l HD.out, ← HF.out, HD.out, Pts.allP]; rw [H1.out, HPV.out]; simp [meetB, m1, HLD.out, m5, m6, m7])
                        have HNE := Lib.hid (show pk = 1 → t.toList ≠ [] from fun e => by subst e; exact (oneB_lit H1.out).1)
                        go_wp2_with fail
                        refine (one_r' n IH.out p hp2 pk t o kids Ak ck cm G _ hkdn hts hkwt HG'.out HKP.out).mono ?_
                        rintro e w1 ⟨rfl, hb1⟩
                        rw [H1.out]
                        have hbn := HB.out.trans (hb1.mono HB.out.size)
                        have HBN := Lib.hid hbn
                        have hpn := HP.out.old HG.out hbn
                        have hpn' := hpn.at_ k
                        rw [HD.out, Nat.zero_add] at hpn'
                        obtain ⟨b2, off2, Ak2, ck2, hAA, _, d0, d1, _⟩ := hpn'
                        injection hAA with hAA
                        injection hAA with e1 e2
                        subst e1 e2
                        have HPN := Lib.hid hpn
                        clear hb1 hbn
                        have hpj := HPN.out.at_ (k - 1)
                        rw [HDJ.out, Nat.zero_add] at hpj
                        obtain ⟨b3, off3, Ak3, ck3, hAA, _, g0, g1, _⟩ := hpj
                        injection hAA with hAA
                        injection hAA with e1 e2
                        subst e1 e2
                        clear hpn c0 c1 c2 c3 c4

                        go_wp2
                        go_roundw
                        case rel => exact ⟨k + 1, _, by omega, by go_num, HR.out, .inr ⟨k, pk, t, o, kids, cm, r, rfl, HD.out, rfl, HNE.out⟩, HBN.out⟩
                        case measure => simp only [intOf]; omega
                      · have HR := Lib.hid (show l.allP p none = false by rw [← HF.out, HD.out, Pts.allP]; rw [H1.out, HPV.out]; simp [meetB, m1, HLD.out, m5, m6, m7])
                        go_wp2_with fail
                        refine (one_r' n IH.out p hp2 pk t o kids Ak ck cm G _ hkdn hts hkwt HG'.out HKP.out).mono ?_
                        rintro e w1 ⟨rfl, hb1⟩
                        rw [H1.out]
                        have hbn := HB.out.trans (hb1.mono HB.out.size)
                        have HBN := Lib.hid hbn
                        have hpn := HP.out.old HG.out hbn
                        have hpn' := hpn.at_ k
                        rw [HD.out, Nat.zero_add] at hpn'
                        obtain ⟨b2, off2, Ak2, ck2, hAA, _, d0, d1, _⟩ := hpn'
                        injection hAA with hAA
                        injection hAA with e1 e2
                        subst e1 e2
                        have HPN := Lib.hid hpn
                        clear hb1 hbn
                        have hpj := HPN.out.at_ (k - 1)
                        rw [HDJ.out, Nat.zero_add] at hpj
                        obtain ⟨b3, off3, Ak3, ck3, hAA, _, g0, g1, _⟩ := hpj
                        injection hAA with hAA
                        injection hAA with e1 e2
                        subst e1 e2
                        clear hpn c0 c1 c2 c3 c4

                        go_wp2
                        go_ret
                        exact ⟨by rw [HR.out]; rfl, HBN.out⟩
                    · have HR := Lib.hid (show l.allP p none = false by rw [← HF.out, HD.out, Pts.allP]; rw [H1.out, HPV.out]; simp [meetB, m1, HLD.out, m5, m6])
                      go_wp2_with fail
                      refine (one_r' n IH.out p hp2 pk t o kids Ak ck cm G _ hkdn hts hkwt HG'.out HKP.out).mono ?_
                      rintro e w1 ⟨rfl, hb1⟩
                      rw [H1.out]
                      have hbn := HB.out.trans (hb1.mono HB.out.size)
                      have HBN := Lib.hid hbn
                      have hpn := HP.out.old HG.out hbn
                      have hpn' := hpn.at_ k
                      rw [HD.out, Nat.zero_add] at hpn'
                      obtain ⟨b2, off2, Ak2, ck2, hAA, _, d0, d1, _⟩ := hpn'
                      injection hAA with hAA
                      injection hAA with e1 e2
                      subst e1 e2
                      have HPN := Lib.hid hpn
                      clear hb1 hbn
                      have hpj := HPN.out.at_ (k - 1)
                      rw [HDJ.out, Nat.zero_add] at hpj
                      obtain ⟨b3, off3, Ak3, ck3, hAA, _, g0, g1, _⟩ := hpj
                      injection hAA with hAA
                      injection hAA with e1 e2
                      subst e1 e2
                      clear hpn c0 c1 c2 c3 c4

                      go_wp2
                      go_ret
                      exact ⟨by rw [HR.out]; rfl, HBN.out⟩
                  · have HR := Lib.hid (show l.allP p none = false by rw [← HF.out, HD.out, Pts.allP]; rw [H1.out, HPV.out]; simp [meetB, m1, HLD.out, m5])
                    go_wp2_with fail
                    refine (one_r' n IH.out p hp2 pk t o kids Ak ck cm G _ hkdn hts hkwt HG'.out HKP.out).mono ?_
                    rintro e w1 ⟨rfl, hb1⟩
                    rw [H1.out]
                    have hbn := HB.out.trans (hb1.mono HB.out.size)
                    have HBN := Lib.hid hbn
                    have hpn := HP.out.old HG.out hbn
                    have hpn' := hpn.at_ k
                    rw [HD.out, Nat.zero_add] at hpn'
                    obtain ⟨b2, off2, Ak2, ck2, hAA, _, d0, d1, _⟩ := hpn'
                    injection hAA with hAA
                    injection hAA with e1 e2
                    subst e1 e2
                    have HPN := Lib.hid hpn
                    clear hb1 hbn
                    have hpj := HPN.out.at_ (k - 1)
                    rw [HDJ.out, Nat.zero_add] at hpj
                    obtain ⟨b3, off3, Ak3, ck3, hAA, _, g0, g1, _⟩ := hpj
                    injection hAA with hAA
                    injection hAA with e1 e2
                    subst e1 e2
                    clear hpn c0 c1 c2 c3 c4

                    go_wp2
                    go_ret
                    exact ⟨by rw [HR.out]; rfl, HBN.out⟩
              · have HR := Lib.hid (show l.allP p none = false by rw [← HF.out, HD.out, Pts.allP]; rw [H1.out, HPV.out]; simp [meetB, m1])
                go_wp2_with fail
                refine (one_r' n IH.out p hp2 pk t o kids Ak ck cm G _ hkdn hts hkwt HG'.out HKP.out).mono ?_
                rintro e w1 ⟨rfl, hb1⟩
                rw [H1.out]
                have hbn := HB.out.trans (hb1.mono HB.out.size)
                have HBN := Lib.hid hbn
                have hpn := HP.out.old HG.out hbn
                have hpn' := hpn.at_ k
                rw [HD.out, Nat.zero_add] at hpn'
                obtain ⟨b2, off2, Ak2, ck2, hAA, _, d0, d1, _⟩ := hpn'
                injection hAA with hAA
                injection hAA with e1 e2
                subst e1 e2
                have HPN := Lib.hid hpn
                clear hb1 hbn
                have hpj := HPN.out.at_ (k - 1)
                rw [HDJ.out, Nat.zero_add] at hpj
                obtain ⟨b3, off3, Ak3, ck3, hAA, _, g0, g1, _⟩ := hpj
                injection hAA with hAA
                injection hAA with e1 e2
                subst e1 e2
                clear hpn c0 c1 c2 c3 c4

                go_wp2
                go_ret
                exact ⟨by rw [HR.out]; rfl, HBN.out⟩
            · have HPV := Lib.hid (show (if pk' = 1 then some t'.toList else none) = (none : Option (List UInt8)) from if_neg (bne_iff_ne.1 mk))
              clear hne'
              have HR := Lib.hid (show Pts.allP p (if pk = 1 then some t.toList else none) (l.drop (k + 1)) = l.allP p none by rw [Pts.drop_succ k l HD.out, ← HF.out, HD.out, Pts.allP]; rw [H1.out, HPV.out]; simp [meetB])
              have HNE := Lib.hid (show pk = 1 → t.toList ≠ [] from fun e => by subst e; exact (oneB_lit H1.out).1)
              go_wp2_with fail
              refine (one_r' n IH.out p hp2 pk t o kids Ak ck cm G _ hkdn hts hkwt HG'.out HKP.out).mono ?_
              rintro e w1 ⟨rfl, hb1⟩
              rw [H1.out]
              have hbn := HB.out.trans (hb1.mono HB.out.size)
              have HBN := Lib.hid hbn
              have hpn := HP.out.old HG.out hbn
              have hpn' := hpn.at_ k
              rw [HD.out, Nat.zero_add] at hpn'
              obtain ⟨b2, off2, Ak2, ck2, hAA, _, d0, d1, _⟩ := hpn'
              injection hAA with hAA
              injection hAA with e1 e2
              subst e1 e2
              have HPN := Lib.hid hpn
              clear hb1 hbn
              have hpj := HPN.out.at_ (k - 1)
              rw [HDJ.out, Nat.zero_add] at hpj
              obtain ⟨b3, off3, Ak3, ck3, hAA, _, g0, g1, _⟩ := hpj
              injection hAA with hAA
              injection hAA with e1 e2
              subst e1 e2
              clear hpn c0 c1 c2 c3 c4

              go_wp2
              go_roundw
              case rel => exact ⟨k + 1, _, by omega, by go_num, HR.out, .inr ⟨k, pk, t, o, kids, cm, r, rfl, HD.out, rfl, HNE.out⟩, HBN.out⟩
              case measure => simp only [intOf]; omega
      · have HR := Lib.hid (show l.allP p none = true by rw [← HF.out]; exact allP_nil p pv l k hlt)
        go_wp2
        go_ret
        exact ⟨by rw [HR.out]; rfl, HB.out⟩

end Go.Proofs.Ytpefkhbejjndeaa
