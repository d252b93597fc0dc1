/- What conchref24.param answers, given what All does at parts less deep. -/
import Derived.Test.YtpefkhbejjndeaaRefOp
import Derived.Test.YtpefkhbejjndeaaPtsMem
import Derived.BigQuiet
import Derived.Deep.QuietTactic
namespace Go.Proofs.Ytpefkhbejjndeaa
open Go.RowKit

/-- What conchref24.All answers, at parts less than n deep. -/
def AllR (n : Nat) : Prop := ∀ (p : Nat) (l : Pts) (A : Option Addr) (c : Nat) (G : Nat → Prop) (w : World), p ≤ 2 → l.deep < n → l.mx ≤ 562949953421312 → (∀ k, G k → k < w.heap.size) → PtsAt G w A 0 l →
  Calls Try.prog 62 #[.slice A l.len c, .int .i64 p] w fun e w' => e = .returned (.bool (l.allP p none)) ∧ Below w.heap.size w w'

theorem hd0_get (s : ByteArray) (h : 0 < s.size) : hd0 s.toList = s[0] := by
  have := get?_list s 0 h
  cases hl : s.toList with
  | nil => rw [hl] at this; simp at this
  | cons a l => rw [hl] at this; simp at this; simpa [hd0] using this
theorem box_cells {Y : World} {b : Nat} {T : TypeId} {v0 v1 v2 v3 v4 : Value} (h : Y.heap[b]? = some (.cells #[v0, v1, v2, v3, v4] T (0, 0))) :
    Y.cell? ⟨b, 0, none⟩ = some v0 ∧ Y.cell? ⟨b, 1, none⟩ = some v1 ∧ Y.cell? ⟨b, 2, none⟩ = some v2 ∧ Y.cell? ⟨b, 3, none⟩ = some v3 ∧ Y.cell? ⟨b, 4, none⟩ = some v4 :=
  ⟨by simp [World.cell?, h], by simp [World.cell?, h], by simp [World.cell?, h], by simp [World.cell?, h], by simp [World.cell?, h]⟩
theorem PtsAt.old {G : Nat → Prop} {w w' : World} {A : Option Addr} {i : Nat} {l : Pts} (h : PtsAt G w A i l) (hG : ∀ k, G k → k < w.heap.size) (hb : Below w.heap.size w w') : PtsAt G w' A i l := h.keep fun _ hp => World.cell?_of_block (hb.block _ (hG _ hp))
theorem pts_cons {l : Pts} (h : ((l.len : Int) == 0) = false) : ∃ k t o kids cm r, l = .cons k t o kids cm r := by
  cases l with
  | nil => cases h
  | cons k t o kids cm r => exact ⟨k, t, o, kids, cm, r, rfl⟩
theorem pts_nil {l : Pts} (h : ((l.len : Int) == 0) = true) : l.len = 0 := by simpa using h

set_option maxRecDepth 100000 in
set_option maxHeartbeats 8000000 in
theorem param_r (n : Nat) (IH : AllR n) (k : Int) (t o : ByteArray) (kids : Pts) (A : Option Addr) (c : Nat) (cm : Cm) (G : Nat → Prop) (w : World) (hd : kids.deep < n) (hts : t.size ≤ 562949953421312) (hwt : kids.mx ≤ 562949953421312) (hG : ∀ k, G k → k < w.heap.size) (hp : PtsAt G w A 0 kids) :
    Calls Try.prog 102 #[.agg #[.int .i64 k, .string t, .string o, .slice A kids.len c, cm.val]] w fun e w' => e = .returned (.bool (paramB t.toList o.toList kids.len kids.headK kids.headT (kids.allP 2 none))) ∧ Below w.heap.size w w' := by
  have hcm : cm.val = .slice cm.a cm.n cm.c := rfl
  rw [hcm]
  have HIH := Lib.hid IH; clear IH
  have hw0 : Below w.heap.size w (w.alloc (.cells #[.int .i64 k, .string t, .string o, .slice A kids.len c, .slice cm.a cm.n cm.c] 41)) := (Below.refl _ _).alloc (Nat.le_refl _) _
  have hbox := heap_alloc_new w (.cells #[.int .i64 k, .string t, .string o, .slice A kids.len c, .slice cm.a cm.n cm.c] 41)
  have hp0 := hp.old hG hw0
  have hlt0 : w.heap.size < (w.alloc (.cells #[.int .i64 k, .string t, .string o, .slice A kids.len c, .slice cm.a cm.n cm.c] 41)).heap.size := by simp
  have hG0 : ∀ g, G g → g < (w.alloc (.cells #[.int .i64 k, .string t, .string o, .slice A kids.len c, .slice cm.a cm.n cm.c] 41)).heap.size := fun g hg => by have := hG g hg; omega
  have HW0 := Lib.hid hw0; have HBX := Lib.hid hbox; have HP := Lib.hid hp0; have HG0 := Lib.hid hG0; have HT := Lib.hid hts
  clear hw0 hbox hp hp0 hG hG0 hcm hlt0 hts
  cases hN : Chr.name t.toList
  · cases hD : Chr.digits t.toList
    · by_cases h1 : t.size = 1
      · have hs1 : ((t.size : Int) != 1) = false := by rw [bne_eq_false_iff_eq]; omega
        have hs0 : (0 : Int) < (t.size : Int) := by omega
        have hs2 : 0 < t.size := by omega
        have hlen : t.toList.length = 1 := by rw [← size_list]; exact h1
        have hhd : hd0 t.toList = t[0] := hd0_get t hs2
        cases hS : Chr.special t[0].toNat
        · have HNA := Lib.hid (show (!namedB t.toList) = true by unfold namedB; rw [hN, hD, hlen, hhd, hS]; rfl)
          have HN := Lib.hid hN; have HD := Lib.hid hD; have HS := Lib.hid hS; clear hN hD hS hlen hhd h1
          have HF := Lib.hid (show paramB t.toList o.toList kids.len kids.headK kids.headT (kids.allP 2 none) = false by unfold paramB; rw [HNA.out]; rfl)
          clear hd hwt
          go_enter Try.func102, Try.ntmps102
          go_wp2_with fail
          refine (name_r t _ (by have := HT.out; omega)).mono ?_
          rintro e w1 ⟨rfl, rfl⟩
          rw [HN.out]
          go_wp2_with fail
          refine (digits_r t _ (by have := HT.out; omega)).mono ?_
          rintro e w1 ⟨rfl, rfl⟩
          rw [HD.out]
          go_wp2_with fail
          refine (special_r t[0].toNat _).mono ?_
          rintro e w1 ⟨rfl, rfl⟩
          rw [HS.out]
          go_wp2
          go_ret
          exact ⟨by rw [HF.out]; rfl, HW0.out⟩
        · have HNA := Lib.hid (show (!namedB t.toList) = false by unfold namedB; rw [hN, hD, hlen, hhd, hS]; rfl)
          have HN := Lib.hid hN; have HD := Lib.hid hD; have HS := Lib.hid hS; clear hN hD hS hlen hhd h1
          by_cases o0 : o = ⟨#[]⟩
          · subst o0
            have HF := Lib.hid (show paramB t.toList (⟨#[]⟩ : ByteArray).toList kids.len kids.headK kids.headT (kids.allP 2 none) = ((kids.len : Int) == 0) by rw [show (⟨#[]⟩ : ByteArray).toList = [] from list_mk []]; unfold paramB; rw [HNA.out]; rfl)
            clear hd hwt
            go_enter Try.func102, Try.ntmps102
            go_wp2_with fail
            refine (name_r t _ (by have := HT.out; omega)).mono ?_
            rintro e w1 ⟨rfl, rfl⟩
            rw [HN.out]
            go_wp2_with fail
            refine (digits_r t _ (by have := HT.out; omega)).mono ?_
            rintro e w1 ⟨rfl, rfl⟩
            rw [HD.out]
            go_wp2_with fail
            refine (special_r t[0].toNat _).mono ?_
            rintro e w1 ⟨rfl, rfl⟩
            rw [HS.out]
            go_wp2
            go_ret
            exact ⟨by rw [HF.out]; rfl, HW0.out⟩
          · by_cases o1 : o = ⟨#[108, 101, 110]⟩
            · subst o1
              have HF := Lib.hid (show paramB t.toList (⟨#[108, 101, 110]⟩ : ByteArray).toList kids.len kids.headK kids.headT (kids.allP 2 none) = ((kids.len : Int) == 0) by rw [show (⟨#[108, 101, 110]⟩ : ByteArray).toList = [108, 101, 110] from list_mk [108, 101, 110]]; unfold paramB; rw [HNA.out]; rfl)
              clear hd hwt
              go_enter Try.func102, Try.ntmps102
              go_wp2_with fail
              refine (name_r t _ (by have := HT.out; omega)).mono ?_
              rintro e w1 ⟨rfl, rfl⟩
              rw [HN.out]
              go_wp2_with fail
              refine (digits_r t _ (by have := HT.out; omega)).mono ?_
              rintro e w1 ⟨rfl, rfl⟩
              rw [HD.out]
              go_wp2_with fail
              refine (special_r t[0].toNat _).mono ?_
              rintro e w1 ⟨rfl, rfl⟩
              rw [HS.out]
              go_wp2
              go_ret
              exact ⟨by rw [HF.out]; rfl, HW0.out⟩
            · have o0b : o.toList.isEmpty = false := by have : o.toList ≠ [] := fun e => o0 (ext_list (by rw [e]; exact (list_mk []).symm)); simpa using this
              have o1b : (o.toList == [108, 101, 110]) = false := beq_eq_false_iff_ne.2 fun e => o1 (ext_list (by rw [e]; exact (list_mk [108, 101, 110]).symm))
              have o0c : (o.toList == []) = false := beq_eq_false_iff_ne.2 fun e => o0 (ext_list (by rw [e]; exact (list_mk []).symm))
              clear o0 o1
              cases hop : opB o.toList
              · have HF := Lib.hid (show paramB t.toList o.toList kids.len kids.headK kids.headT (kids.allP 2 none) = false by unfold paramB; rw [HNA.out]; simp [o0c, o1b, hop])
                have HOP := Lib.hid hop; clear hop o0c hd hwt
                go_enter Try.func102, Try.ntmps102
                go_wp2_with fail
                refine (name_r t _ (by have := HT.out; omega)).mono ?_
                rintro e w1 ⟨rfl, rfl⟩
                rw [HN.out]
                go_wp2_with fail
                refine (digits_r t _ (by have := HT.out; omega)).mono ?_
                rintro e w1 ⟨rfl, rfl⟩
                rw [HD.out]
                go_wp2_with fail
                refine (special_r t[0].toNat _).mono ?_
                rintro e w1 ⟨rfl, rfl⟩
                rw [HS.out]
                go_wp2_with fail
                refine (op_r _ _).mono ?_
                rintro e w1 ⟨rfl, hb1⟩
                rw [HOP.out]
                have hbox1 := (hb1.block w.heap.size (by simp)).trans HBX.out
                obtain ⟨q0, q1, q2, q3, q4⟩ := box_cells hbox1
                have HP1 := Lib.hid (HP.out.old HG0.out hb1)
                have HG1 := Lib.hid (show ∀ g, G g → g < w1.heap.size from fun g hg => Nat.lt_of_lt_of_le (HG0.out g hg) hb1.size)
                have hlt1 : w.heap.size < w1.heap.size := (Array.getElem?_eq_some_iff.1 hbox1).1
                have HX1 := Lib.hid hbox1
                have HB1 := Lib.hid hb1
                clear hb1 hbox1
                go_wp2
                go_ret
                exact ⟨by rw [HF.out]; rfl, (HW0.out.trans (HB1.out.mono HW0.out.size))⟩
              · cases h35 : (t.toList == [35])
                · cases hall : kids.allP 2 none
                  · have HF := Lib.hid (show paramB t.toList o.toList kids.len kids.headK kids.headT (kids.allP 2 none) = false by unfold paramB; rw [HNA.out]; simp [o0c, o1b, hop, h35, hall])
                    have HOP := Lib.hid hop; have HALL := Lib.hid hall; clear hop hall o0c
                    go_enter Try.func102, Try.ntmps102
                    go_wp2_with fail
                    refine (name_r t _ (by have := HT.out; omega)).mono ?_
                    rintro e w1 ⟨rfl, rfl⟩
                    rw [HN.out]
                    go_wp2_with fail
                    refine (digits_r t _ (by have := HT.out; omega)).mono ?_
                    rintro e w1 ⟨rfl, rfl⟩
                    rw [HD.out]
                    go_wp2_with fail
                    refine (special_r t[0].toNat _).mono ?_
                    rintro e w1 ⟨rfl, rfl⟩
                    rw [HS.out]
                    go_wp2_with fail
                    refine (op_r _ _).mono ?_
                    rintro e w1 ⟨rfl, hb1⟩
                    rw [HOP.out]
                    have hbox1 := (hb1.block w.heap.size (by simp)).trans HBX.out
                    obtain ⟨q0, q1, q2, q3, q4⟩ := box_cells hbox1
                    have HP1 := Lib.hid (HP.out.old HG0.out hb1)
                    have HG1 := Lib.hid (show ∀ g, G g → g < w1.heap.size from fun g hg => Nat.lt_of_lt_of_le (HG0.out g hg) hb1.size)
                    have hlt1 : w.heap.size < w1.heap.size := (Array.getElem?_eq_some_iff.1 hbox1).1
                    have HX1 := Lib.hid hbox1
                    have HB1 := Lib.hid hb1
                    clear hb1 hbox1
                    go_wp2_with fail
                    refine (HIH.out 2 kids A c G _ (by omega) hd hwt HG1.out HP1.out).mono ?_
                    rintro e w2 ⟨rfl, hb2⟩
                    rw [HALL.out]
                    try rw [HALL.out] at HF
                    have hbox2 := (hb2.block w.heap.size hlt1).trans HX1.out
                    clear q0 q1 q2 q3 q4
                    obtain ⟨q0, q1, q2, q3, q4⟩ := box_cells hbox2
                    have HP2 := Lib.hid (HP1.out.old HG1.out hb2)
                    have HB2 := Lib.hid (HB1.out.trans (hb2.mono HB1.out.size))
                    clear hb2 hbox2
                    go_wp2
                    go_ret
                    exact ⟨by rw [HF.out]; rfl, (HW0.out.trans (HB2.out.mono HW0.out.size))⟩
                  · by_cases o2 : o = ⟨#[37]⟩
                    · subst o2
                      cases kl0 : ((kids.len : Int) == 0)
                      · have HOP' := Lib.hid (show opB [37] = true from rfl)
                        have HOP := Lib.hid hop; have HALL := Lib.hid hall; clear hop hall o0b o1b o0c
                        have HKL := Lib.hid kl0
                        go_enter Try.func102, Try.ntmps102
                        go_wp2_with fail
                        refine (name_r t _ (by have := HT.out; omega)).mono ?_
                        rintro e w1 ⟨rfl, rfl⟩
                        rw [HN.out]
                        go_wp2_with fail
                        refine (digits_r t _ (by have := HT.out; omega)).mono ?_
                        rintro e w1 ⟨rfl, rfl⟩
                        rw [HD.out]
                        go_wp2_with fail
                        refine (special_r t[0].toNat _).mono ?_
                        rintro e w1 ⟨rfl, rfl⟩
                        rw [HS.out]
                        go_wp2_with fail
                        refine (op_r _ _).mono ?_
                        rintro e w1 ⟨rfl, hb1⟩
                        rw [HOP.out]
                        have hbox1 := (hb1.block w.heap.size (by simp)).trans HBX.out
                        obtain ⟨q0, q1, q2, q3, q4⟩ := box_cells hbox1
                        have HP1 := Lib.hid (HP.out.old HG0.out hb1)
                        have HG1 := Lib.hid (show ∀ g, G g → g < w1.heap.size from fun g hg => Nat.lt_of_lt_of_le (HG0.out g hg) hb1.size)
                        have hlt1 : w.heap.size < w1.heap.size := (Array.getElem?_eq_some_iff.1 hbox1).1
                        have HX1 := Lib.hid hbox1
                        have HB1 := Lib.hid hb1
                        clear hb1 hbox1
                        go_wp2_with fail
                        refine (HIH.out 2 kids A c G _ (by omega) hd hwt HG1.out HP1.out).mono ?_
                        rintro e w2 ⟨rfl, hb2⟩
                        rw [HALL.out]
                        try rw [HALL.out] at HF
                        have hbox2 := (hb2.block w.heap.size hlt1).trans HX1.out
                        clear q0 q1 q2 q3 q4
                        obtain ⟨q0, q1, q2, q3, q4⟩ := box_cells hbox2
                        have HP2 := Lib.hid (HP1.out.old HG1.out hb2)
                        have HB2 := Lib.hid (HB1.out.trans (hb2.mono HB1.out.size))
                        clear hb2 hbox2
                        go_wp2_with fail
                        obtain ⟨kk, kt, ko, kkids, kcm, krest, rfl⟩ := pts_cons HKL.out
                        obtain ⟨kb, koff, kA, kc, rfl, hkG, kc0, kc1, kc2, kc3, kc4, _⟩ := HP2.out
                        simp only [Nat.zero_mul, Nat.add_zero] at kc0 kc1
                        clear kc2 kc3 kc4 kl0 hkG
                        have hlz : (0 : Int) < ((Pts.cons kk kt ko kkids kcm krest).len : Int) := by simp only [Pts.len]; omega
                        cases hkn : (kk != 1)
                        · obtain rfl : kk = 1 := by simpa using hkn
                          have hne : kt.toList ≠ [] := by
                            have := HALL.out
                            simp only [Pts.allP, Bool.and_eq_true] at this
                            exact (oneB_lit this.1.1).1
                          have hpos : 0 < kt.size := by rw [size_list]; exact List.length_pos_iff.2 hne
                          have hposz : (0 : Int) < (kt.size : Int) := by omega
                          have hhd2 : hd0 kt.toList = kt[0] := hd0_get kt hpos
                          have HH2 := Lib.hid hhd2
                          clear hne hkn hhd2
                          cases hcmp : ((kt[0].toNat : Int) != 37)
                          · have hcmp2 : ((kt[0].toNat : Int) != ((((⟨#[37]⟩ : ByteArray))[0]'(by decide)).toNat : Int)) = false := hcmp
                            have hq : (hd0 kt.toList == 37) = true := by rw [HH2.out, beq_iff_eq]; exact UInt8.toNat_inj.1 (by have := bne_eq_false_iff_eq.1 hcmp; show _ = 37; omega)
                            have HQ := Lib.hid hq; clear hq
                            have HF := Lib.hid (show paramB t.toList (⟨#[37]⟩ : ByteArray).toList (Pts.cons 1 kt ko kkids kcm krest).len (Pts.cons 1 kt ko kkids kcm krest).headK (Pts.cons 1 kt ko kkids kcm krest).headT true = false by unfold paramB; rw [HNA.out, show (⟨#[37]⟩ : ByteArray).toList = [37] from list_mk [37], HOP'.out]; simp only [h35, Pts.headK, Pts.headT, Pts.len, show hd0 [37] = 37 from rfl, HQ.out]; rfl)
                            go_wp2_with fail
                            go_quiet (fail)
                            go_wp2
                            go_ret
                            exact ⟨by rw [HF.out]; rfl, belowN (HW0.out.trans (HB2.out.mono HW0.out.size)) _⟩
                          · have hcmp2 : ((kt[0].toNat : Int) != ((((⟨#[37]⟩ : ByteArray))[0]'(by decide)).toNat : Int)) = true := hcmp
                            have hq : (hd0 kt.toList == 37) = false := by rw [HH2.out, beq_eq_false_iff_ne]; intro e; exact (bne_iff_ne.1 hcmp) (by rw [e]; rfl)
                            have HQ := Lib.hid hq; clear hq
                            have HF := Lib.hid (show paramB t.toList (⟨#[37]⟩ : ByteArray).toList (Pts.cons 1 kt ko kkids kcm krest).len (Pts.cons 1 kt ko kkids kcm krest).headK (Pts.cons 1 kt ko kkids kcm krest).headT true = true by unfold paramB; rw [HNA.out, show (⟨#[37]⟩ : ByteArray).toList = [37] from list_mk [37], HOP'.out]; simp only [h35, Pts.headK, Pts.headT, Pts.len, show hd0 [37] = 37 from rfl, HQ.out]; simp)
                            go_wp2_with fail
                            go_quiet (fail)
                            go_wp2
                            go_ret
                            exact ⟨by rw [HF.out]; rfl, belowN (HW0.out.trans (HB2.out.mono HW0.out.size)) _⟩
                        · have HF := Lib.hid (show paramB t.toList (⟨#[37]⟩ : ByteArray).toList (Pts.cons kk kt ko kkids kcm krest).len (Pts.cons kk kt ko kkids kcm krest).headK (Pts.cons kk kt ko kkids kcm krest).headT true = true by unfold paramB; rw [HNA.out, show (⟨#[37]⟩ : ByteArray).toList = [37] from list_mk [37], HOP'.out]; simp only [h35, Pts.headK, hkn]; simp)
                          go_wp2_with fail
                          go_quiet (fail)
                          go_wp2
                          go_ret
                          exact ⟨by rw [HF.out]; rfl, belowN (HW0.out.trans (HB2.out.mono HW0.out.size)) _⟩
                      · have HF := Lib.hid (show paramB t.toList (⟨#[37]⟩ : ByteArray).toList kids.len kids.headK kids.headT (kids.allP 2 none) = true by unfold paramB; rw [HNA.out]; rw [show (⟨#[37]⟩ : ByteArray).toList = [37] from list_mk [37]] at hop ⊢; simp [show opB [37] = true from rfl, h35, hall, kl0])
                        have HOP := Lib.hid hop; have HALL := Lib.hid hall; clear hop hall o0b o1b o0c
                        go_enter Try.func102, Try.ntmps102
                        go_wp2_with fail
                        refine (name_r t _ (by have := HT.out; omega)).mono ?_
                        rintro e w1 ⟨rfl, rfl⟩
                        rw [HN.out]
                        go_wp2_with fail
                        refine (digits_r t _ (by have := HT.out; omega)).mono ?_
                        rintro e w1 ⟨rfl, rfl⟩
                        rw [HD.out]
                        go_wp2_with fail
                        refine (special_r t[0].toNat _).mono ?_
                        rintro e w1 ⟨rfl, rfl⟩
                        rw [HS.out]
                        go_wp2_with fail
                        refine (op_r _ _).mono ?_
                        rintro e w1 ⟨rfl, hb1⟩
                        rw [HOP.out]
                        have hbox1 := (hb1.block w.heap.size (by simp)).trans HBX.out
                        obtain ⟨q0, q1, q2, q3, q4⟩ := box_cells hbox1
                        have HP1 := Lib.hid (HP.out.old HG0.out hb1)
                        have HG1 := Lib.hid (show ∀ g, G g → g < w1.heap.size from fun g hg => Nat.lt_of_lt_of_le (HG0.out g hg) hb1.size)
                        have hlt1 : w.heap.size < w1.heap.size := (Array.getElem?_eq_some_iff.1 hbox1).1
                        have HX1 := Lib.hid hbox1
                        have HB1 := Lib.hid hb1
                        clear hb1 hbox1
                        go_wp2_with fail
                        refine (HIH.out 2 kids A c G _ (by omega) hd hwt HG1.out HP1.out).mono ?_
                        rintro e w2 ⟨rfl, hb2⟩
                        rw [HALL.out]
                        try rw [HALL.out] at HF
                        have hbox2 := (hb2.block w.heap.size hlt1).trans HX1.out
                        clear q0 q1 q2 q3 q4
                        obtain ⟨q0, q1, q2, q3, q4⟩ := box_cells hbox2
                        have HP2 := Lib.hid (HP1.out.old HG1.out hb2)
                        have HB2 := Lib.hid (HB1.out.trans (hb2.mono HB1.out.size))
                        clear hb2 hbox2
                        go_wp2
                        go_ret
                        exact ⟨by rw [HF.out]; rfl, (HW0.out.trans (HB2.out.mono HW0.out.size))⟩
                    · by_cases o3 : o = ⟨#[35]⟩
                      · subst o3
                        cases kl0 : ((kids.len : Int) == 0)
                        · have HOP' := Lib.hid (show opB [35] = true from rfl)
                          have HOP := Lib.hid hop; have HALL := Lib.hid hall; clear hop hall o0b o1b o0c
                          have HKL := Lib.hid kl0
                          go_enter Try.func102, Try.ntmps102
                          go_wp2_with fail
                          refine (name_r t _ (by have := HT.out; omega)).mono ?_
                          rintro e w1 ⟨rfl, rfl⟩
                          rw [HN.out]
                          go_wp2_with fail
                          refine (digits_r t _ (by have := HT.out; omega)).mono ?_
                          rintro e w1 ⟨rfl, rfl⟩
                          rw [HD.out]
                          go_wp2_with fail
                          refine (special_r t[0].toNat _).mono ?_
                          rintro e w1 ⟨rfl, rfl⟩
                          rw [HS.out]
                          go_wp2_with fail
                          refine (op_r _ _).mono ?_
                          rintro e w1 ⟨rfl, hb1⟩
                          rw [HOP.out]
                          have hbox1 := (hb1.block w.heap.size (by simp)).trans HBX.out
                          obtain ⟨q0, q1, q2, q3, q4⟩ := box_cells hbox1
                          have HP1 := Lib.hid (HP.out.old HG0.out hb1)
                          have HG1 := Lib.hid (show ∀ g, G g → g < w1.heap.size from fun g hg => Nat.lt_of_lt_of_le (HG0.out g hg) hb1.size)
                          have hlt1 : w.heap.size < w1.heap.size := (Array.getElem?_eq_some_iff.1 hbox1).1
                          have HX1 := Lib.hid hbox1
                          have HB1 := Lib.hid hb1
                          clear hb1 hbox1
                          go_wp2_with fail
                          refine (HIH.out 2 kids A c G _ (by omega) hd hwt HG1.out HP1.out).mono ?_
                          rintro e w2 ⟨rfl, hb2⟩
                          rw [HALL.out]
                          try rw [HALL.out] at HF
                          have hbox2 := (hb2.block w.heap.size hlt1).trans HX1.out
                          clear q0 q1 q2 q3 q4
                          obtain ⟨q0, q1, q2, q3, q4⟩ := box_cells hbox2
                          have HP2 := Lib.hid (HP1.out.old HG1.out hb2)
                          have HB2 := Lib.hid (HB1.out.trans (hb2.mono HB1.out.size))
                          clear hb2 hbox2
                          go_wp2_with fail
                          obtain ⟨kk, kt, ko, kkids, kcm, krest, rfl⟩ := pts_cons HKL.out
                          obtain ⟨kb, koff, kA, kc, rfl, hkG, kc0, kc1, kc2, kc3, kc4, _⟩ := HP2.out
                          simp only [Nat.zero_mul, Nat.add_zero] at kc0 kc1
                          clear kc2 kc3 kc4 kl0 hkG
                          have hlz : (0 : Int) < ((Pts.cons kk kt ko kkids kcm krest).len : Int) := by simp only [Pts.len]; omega
                          cases hkn : (kk != 1)
                          · obtain rfl : kk = 1 := by simpa using hkn
                            have hne : kt.toList ≠ [] := by
                              have := HALL.out
                              simp only [Pts.allP, Bool.and_eq_true] at this
                              exact (oneB_lit this.1.1).1
                            have hpos : 0 < kt.size := by rw [size_list]; exact List.length_pos_iff.2 hne
                            have hposz : (0 : Int) < (kt.size : Int) := by omega
                            have hhd2 : hd0 kt.toList = kt[0] := hd0_get kt hpos
                            have HH2 := Lib.hid hhd2
                            clear hne hkn hhd2
                            cases hcmp : ((kt[0].toNat : Int) != 35)
                            · have hcmp2 : ((kt[0].toNat : Int) != ((((⟨#[35]⟩ : ByteArray))[0]'(by decide)).toNat : Int)) = false := hcmp
                              have hq : (hd0 kt.toList == 35) = true := by rw [HH2.out, beq_iff_eq]; exact UInt8.toNat_inj.1 (by have := bne_eq_false_iff_eq.1 hcmp; show _ = 35; omega)
                              have HQ := Lib.hid hq; clear hq
                              have HF := Lib.hid (show paramB t.toList (⟨#[35]⟩ : ByteArray).toList (Pts.cons 1 kt ko kkids kcm krest).len (Pts.cons 1 kt ko kkids kcm krest).headK (Pts.cons 1 kt ko kkids kcm krest).headT true = false by unfold paramB; rw [HNA.out, show (⟨#[35]⟩ : ByteArray).toList = [35] from list_mk [35], HOP'.out]; simp only [h35, Pts.headK, Pts.headT, Pts.len, show hd0 [35] = 35 from rfl, HQ.out]; rfl)
                              go_wp2_with fail
                              go_quiet (fail)
                              go_wp2
                              go_ret
                              exact ⟨by rw [HF.out]; rfl, belowN (HW0.out.trans (HB2.out.mono HW0.out.size)) _⟩
                            · have hcmp2 : ((kt[0].toNat : Int) != ((((⟨#[35]⟩ : ByteArray))[0]'(by decide)).toNat : Int)) = true := hcmp
                              have hq : (hd0 kt.toList == 35) = false := by rw [HH2.out, beq_eq_false_iff_ne]; intro e; exact (bne_iff_ne.1 hcmp) (by rw [e]; rfl)
                              have HQ := Lib.hid hq; clear hq
                              have HF := Lib.hid (show paramB t.toList (⟨#[35]⟩ : ByteArray).toList (Pts.cons 1 kt ko kkids kcm krest).len (Pts.cons 1 kt ko kkids kcm krest).headK (Pts.cons 1 kt ko kkids kcm krest).headT true = true by unfold paramB; rw [HNA.out, show (⟨#[35]⟩ : ByteArray).toList = [35] from list_mk [35], HOP'.out]; simp only [h35, Pts.headK, Pts.headT, Pts.len, show hd0 [35] = 35 from rfl, HQ.out]; simp)
                              go_wp2_with fail
                              go_quiet (fail)
                              go_wp2
                              go_ret
                              exact ⟨by rw [HF.out]; rfl, belowN (HW0.out.trans (HB2.out.mono HW0.out.size)) _⟩
                          · have HF := Lib.hid (show paramB t.toList (⟨#[35]⟩ : ByteArray).toList (Pts.cons kk kt ko kkids kcm krest).len (Pts.cons kk kt ko kkids kcm krest).headK (Pts.cons kk kt ko kkids kcm krest).headT true = true by unfold paramB; rw [HNA.out, show (⟨#[35]⟩ : ByteArray).toList = [35] from list_mk [35], HOP'.out]; simp only [h35, Pts.headK, hkn]; simp)
                            go_wp2_with fail
                            go_quiet (fail)
                            go_wp2
                            go_ret
                            exact ⟨by rw [HF.out]; rfl, belowN (HW0.out.trans (HB2.out.mono HW0.out.size)) _⟩
                        · have HF := Lib.hid (show paramB t.toList (⟨#[35]⟩ : ByteArray).toList kids.len kids.headK kids.headT (kids.allP 2 none) = true by unfold paramB; rw [HNA.out]; rw [show (⟨#[35]⟩ : ByteArray).toList = [35] from list_mk [35]] at hop ⊢; simp [show opB [35] = true from rfl, h35, hall, kl0])
                          have HOP := Lib.hid hop; have HALL := Lib.hid hall; clear hop hall o0b o1b o0c
                          go_enter Try.func102, Try.ntmps102
                          go_wp2_with fail
                          refine (name_r t _ (by have := HT.out; omega)).mono ?_
                          rintro e w1 ⟨rfl, rfl⟩
                          rw [HN.out]
                          go_wp2_with fail
                          refine (digits_r t _ (by have := HT.out; omega)).mono ?_
                          rintro e w1 ⟨rfl, rfl⟩
                          rw [HD.out]
                          go_wp2_with fail
                          refine (special_r t[0].toNat _).mono ?_
                          rintro e w1 ⟨rfl, rfl⟩
                          rw [HS.out]
                          go_wp2_with fail
                          refine (op_r _ _).mono ?_
                          rintro e w1 ⟨rfl, hb1⟩
                          rw [HOP.out]
                          have hbox1 := (hb1.block w.heap.size (by simp)).trans HBX.out
                          obtain ⟨q0, q1, q2, q3, q4⟩ := box_cells hbox1
                          have HP1 := Lib.hid (HP.out.old HG0.out hb1)
                          have HG1 := Lib.hid (show ∀ g, G g → g < w1.heap.size from fun g hg => Nat.lt_of_lt_of_le (HG0.out g hg) hb1.size)
                          have hlt1 : w.heap.size < w1.heap.size := (Array.getElem?_eq_some_iff.1 hbox1).1
                          have HX1 := Lib.hid hbox1
                          have HB1 := Lib.hid hb1
                          clear hb1 hbox1
                          go_wp2_with fail
                          refine (HIH.out 2 kids A c G _ (by omega) hd hwt HG1.out HP1.out).mono ?_
                          rintro e w2 ⟨rfl, hb2⟩
                          rw [HALL.out]
                          try rw [HALL.out] at HF
                          have hbox2 := (hb2.block w.heap.size hlt1).trans HX1.out
                          clear q0 q1 q2 q3 q4
                          obtain ⟨q0, q1, q2, q3, q4⟩ := box_cells hbox2
                          have HP2 := Lib.hid (HP1.out.old HG1.out hb2)
                          have HB2 := Lib.hid (HB1.out.trans (hb2.mono HB1.out.size))
                          clear hb2 hbox2
                          go_wp2
                          go_ret
                          exact ⟨by rw [HF.out]; rfl, (HW0.out.trans (HB2.out.mono HW0.out.size))⟩
                      · have o2b : (o.toList == [37]) = false := beq_eq_false_iff_ne.2 fun e => o2 (ext_list (by rw [e]; exact (list_mk [37]).symm))
                        have o3b : (o.toList == [35]) = false := beq_eq_false_iff_ne.2 fun e => o3 (ext_list (by rw [e]; exact (list_mk [35]).symm))
                        have o2c : (!(o.toList == [37])) = true := by rw [o2b]; rfl
                        have o3c : (!(o.toList == [35])) = true := by rw [o3b]; rfl
                        have HF := Lib.hid (show paramB t.toList o.toList kids.len kids.headK kids.headT (kids.allP 2 none) = true by unfold paramB; rw [HNA.out]; simp [o0c, o1b, hop, h35, hall, o2b, o3b])
                        have HOP := Lib.hid hop; have HALL := Lib.hid hall; clear hop hall o0c
                        go_enter Try.func102, Try.ntmps102
                        go_wp2_with fail
                        refine (name_r t _ (by have := HT.out; omega)).mono ?_
                        rintro e w1 ⟨rfl, rfl⟩
                        rw [HN.out]
                        go_wp2_with fail
                        refine (digits_r t _ (by have := HT.out; omega)).mono ?_
                        rintro e w1 ⟨rfl, rfl⟩
                        rw [HD.out]
                        go_wp2_with fail
                        refine (special_r t[0].toNat _).mono ?_
                        rintro e w1 ⟨rfl, rfl⟩
                        rw [HS.out]
                        go_wp2_with fail
                        refine (op_r _ _).mono ?_
                        rintro e w1 ⟨rfl, hb1⟩
                        rw [HOP.out]
                        have hbox1 := (hb1.block w.heap.size (by simp)).trans HBX.out
                        obtain ⟨q0, q1, q2, q3, q4⟩ := box_cells hbox1
                        have HP1 := Lib.hid (HP.out.old HG0.out hb1)
                        have HG1 := Lib.hid (show ∀ g, G g → g < w1.heap.size from fun g hg => Nat.lt_of_lt_of_le (HG0.out g hg) hb1.size)
                        have hlt1 : w.heap.size < w1.heap.size := (Array.getElem?_eq_some_iff.1 hbox1).1
                        have HX1 := Lib.hid hbox1
                        have HB1 := Lib.hid hb1
                        clear hb1 hbox1
                        go_wp2_with fail
                        refine (HIH.out 2 kids A c G _ (by omega) hd hwt HG1.out HP1.out).mono ?_
                        rintro e w2 ⟨rfl, hb2⟩
                        rw [HALL.out]
                        try rw [HALL.out] at HF
                        have hbox2 := (hb2.block w.heap.size hlt1).trans HX1.out
                        clear q0 q1 q2 q3 q4
                        obtain ⟨q0, q1, q2, q3, q4⟩ := box_cells hbox2
                        have HP2 := Lib.hid (HP1.out.old HG1.out hb2)
                        have HB2 := Lib.hid (HB1.out.trans (hb2.mono HB1.out.size))
                        clear hb2 hbox2
                        go_wp2
                        go_ret
                        exact ⟨by rw [HF.out]; rfl, (HW0.out.trans (HB2.out.mono HW0.out.size))⟩
                · have HF := Lib.hid (show paramB t.toList o.toList kids.len kids.headK kids.headT (kids.allP 2 none) = false by unfold paramB; rw [HNA.out]; simp [o0c, o1b, hop, h35])
                  have HOP := Lib.hid hop; clear hop o0c hd hwt
                  go_enter Try.func102, Try.ntmps102
                  go_wp2_with fail
                  refine (name_r t _ (by have := HT.out; omega)).mono ?_
                  rintro e w1 ⟨rfl, rfl⟩
                  rw [HN.out]
                  go_wp2_with fail
                  refine (digits_r t _ (by have := HT.out; omega)).mono ?_
                  rintro e w1 ⟨rfl, rfl⟩
                  rw [HD.out]
                  go_wp2_with fail
                  refine (special_r t[0].toNat _).mono ?_
                  rintro e w1 ⟨rfl, rfl⟩
                  rw [HS.out]
                  go_wp2_with fail
                  refine (op_r _ _).mono ?_
                  rintro e w1 ⟨rfl, hb1⟩
                  rw [HOP.out]
                  have hbox1 := (hb1.block w.heap.size (by simp)).trans HBX.out
                  obtain ⟨q0, q1, q2, q3, q4⟩ := box_cells hbox1
                  have HP1 := Lib.hid (HP.out.old HG0.out hb1)
                  have HG1 := Lib.hid (show ∀ g, G g → g < w1.heap.size from fun g hg => Nat.lt_of_lt_of_le (HG0.out g hg) hb1.size)
                  have hlt1 : w.heap.size < w1.heap.size := (Array.getElem?_eq_some_iff.1 hbox1).1
                  have HX1 := Lib.hid hbox1
                  have HB1 := Lib.hid hb1
                  clear hb1 hbox1
                  go_wp2
                  go_ret
                  exact ⟨by rw [HF.out]; rfl, (HW0.out.trans (HB1.out.mono HW0.out.size))⟩
      · have hs1 : ((t.size : Int) != 1) = true := by rw [bne_iff_ne]; omega
        have hlen : (t.toList.length == 1) = false := by rw [← size_list]; exact beq_eq_false_iff_ne.2 h1
        have HNA := Lib.hid (show (!namedB t.toList) = true by unfold namedB; simp [hN, hD, hlen])
        have HN := Lib.hid hN; have HD := Lib.hid hD; clear hN hD; clear hlen
        have HF := Lib.hid (show paramB t.toList o.toList kids.len kids.headK kids.headT (kids.allP 2 none) = false by unfold paramB; rw [HNA.out]; rfl)
        clear hd hwt
        go_enter Try.func102, Try.ntmps102
        go_wp2_with fail
        refine (name_r t _ (by have := HT.out; omega)).mono ?_
        rintro e w1 ⟨rfl, rfl⟩
        rw [HN.out]
        go_wp2_with fail
        refine (digits_r t _ (by have := HT.out; omega)).mono ?_
        rintro e w1 ⟨rfl, rfl⟩
        rw [HD.out]
        go_wp2
        go_ret
        exact ⟨by rw [HF.out]; rfl, HW0.out⟩
    · have HNA := Lib.hid (show (!namedB t.toList) = false by unfold namedB; simp [hD])
      have HN := Lib.hid hN; have HD := Lib.hid hD; clear hN hD
      by_cases o0 : o = ⟨#[]⟩
      · subst o0
        have HF := Lib.hid (show paramB t.toList (⟨#[]⟩ : ByteArray).toList kids.len kids.headK kids.headT (kids.allP 2 none) = ((kids.len : Int) == 0) by rw [show (⟨#[]⟩ : ByteArray).toList = [] from list_mk []]; unfold paramB; rw [HNA.out]; rfl)
        clear hd hwt
        go_enter Try.func102, Try.ntmps102
        go_wp2_with fail
        refine (name_r t _ (by have := HT.out; omega)).mono ?_
        rintro e w1 ⟨rfl, rfl⟩
        rw [HN.out]
        go_wp2_with fail
        refine (digits_r t _ (by have := HT.out; omega)).mono ?_
        rintro e w1 ⟨rfl, rfl⟩
        rw [HD.out]
        go_wp2
        go_ret
        exact ⟨by rw [HF.out]; rfl, HW0.out⟩
      · by_cases o1 : o = ⟨#[108, 101, 110]⟩
        · subst o1
          have HF := Lib.hid (show paramB t.toList (⟨#[108, 101, 110]⟩ : ByteArray).toList kids.len kids.headK kids.headT (kids.allP 2 none) = ((kids.len : Int) == 0) by rw [show (⟨#[108, 101, 110]⟩ : ByteArray).toList = [108, 101, 110] from list_mk [108, 101, 110]]; unfold paramB; rw [HNA.out]; rfl)
          clear hd hwt
          go_enter Try.func102, Try.ntmps102
          go_wp2_with fail
          refine (name_r t _ (by have := HT.out; omega)).mono ?_
          rintro e w1 ⟨rfl, rfl⟩
          rw [HN.out]
          go_wp2_with fail
          refine (digits_r t _ (by have := HT.out; omega)).mono ?_
          rintro e w1 ⟨rfl, rfl⟩
          rw [HD.out]
          go_wp2
          go_ret
          exact ⟨by rw [HF.out]; rfl, HW0.out⟩
        · have o0b : o.toList.isEmpty = false := by have : o.toList ≠ [] := fun e => o0 (ext_list (by rw [e]; exact (list_mk []).symm)); simpa using this
          have o1b : (o.toList == [108, 101, 110]) = false := beq_eq_false_iff_ne.2 fun e => o1 (ext_list (by rw [e]; exact (list_mk [108, 101, 110]).symm))
          have o0c : (o.toList == []) = false := beq_eq_false_iff_ne.2 fun e => o0 (ext_list (by rw [e]; exact (list_mk []).symm))
          clear o0 o1
          cases hop : opB o.toList
          · have HF := Lib.hid (show paramB t.toList o.toList kids.len kids.headK kids.headT (kids.allP 2 none) = false by unfold paramB; rw [HNA.out]; simp [o0c, o1b, hop])
            have HOP := Lib.hid hop; clear hop o0c hd hwt
            go_enter Try.func102, Try.ntmps102
            go_wp2_with fail
            refine (name_r t _ (by have := HT.out; omega)).mono ?_
            rintro e w1 ⟨rfl, rfl⟩
            rw [HN.out]
            go_wp2_with fail
            refine (digits_r t _ (by have := HT.out; omega)).mono ?_
            rintro e w1 ⟨rfl, rfl⟩
            rw [HD.out]
            go_wp2_with fail
            refine (op_r _ _).mono ?_
            rintro e w1 ⟨rfl, hb1⟩
            rw [HOP.out]
            have hbox1 := (hb1.block w.heap.size (by simp)).trans HBX.out
            obtain ⟨q0, q1, q2, q3, q4⟩ := box_cells hbox1
            have HP1 := Lib.hid (HP.out.old HG0.out hb1)
            have HG1 := Lib.hid (show ∀ g, G g → g < w1.heap.size from fun g hg => Nat.lt_of_lt_of_le (HG0.out g hg) hb1.size)
            have hlt1 : w.heap.size < w1.heap.size := (Array.getElem?_eq_some_iff.1 hbox1).1
            have HX1 := Lib.hid hbox1
            have HB1 := Lib.hid hb1
            clear hb1 hbox1
            go_wp2
            go_ret
            exact ⟨by rw [HF.out]; rfl, (HW0.out.trans (HB1.out.mono HW0.out.size))⟩
          · cases h35 : (t.toList == [35])
            · cases hall : kids.allP 2 none
              · have HF := Lib.hid (show paramB t.toList o.toList kids.len kids.headK kids.headT (kids.allP 2 none) = false by unfold paramB; rw [HNA.out]; simp [o0c, o1b, hop, h35, hall])
                have HOP := Lib.hid hop; have HALL := Lib.hid hall; clear hop hall o0c
                go_enter Try.func102, Try.ntmps102
                go_wp2_with fail
                refine (name_r t _ (by have := HT.out; omega)).mono ?_
                rintro e w1 ⟨rfl, rfl⟩
                rw [HN.out]
                go_wp2_with fail
                refine (digits_r t _ (by have := HT.out; omega)).mono ?_
                rintro e w1 ⟨rfl, rfl⟩
                rw [HD.out]
                go_wp2_with fail
                refine (op_r _ _).mono ?_
                rintro e w1 ⟨rfl, hb1⟩
                rw [HOP.out]
                have hbox1 := (hb1.block w.heap.size (by simp)).trans HBX.out
                obtain ⟨q0, q1, q2, q3, q4⟩ := box_cells hbox1
                have HP1 := Lib.hid (HP.out.old HG0.out hb1)
                have HG1 := Lib.hid (show ∀ g, G g → g < w1.heap.size from fun g hg => Nat.lt_of_lt_of_le (HG0.out g hg) hb1.size)
                have hlt1 : w.heap.size < w1.heap.size := (Array.getElem?_eq_some_iff.1 hbox1).1
                have HX1 := Lib.hid hbox1
                have HB1 := Lib.hid hb1
                clear hb1 hbox1
                go_wp2_with fail
                refine (HIH.out 2 kids A c G _ (by omega) hd hwt HG1.out HP1.out).mono ?_
                rintro e w2 ⟨rfl, hb2⟩
                rw [HALL.out]
                try rw [HALL.out] at HF
                have hbox2 := (hb2.block w.heap.size hlt1).trans HX1.out
                clear q0 q1 q2 q3 q4
                obtain ⟨q0, q1, q2, q3, q4⟩ := box_cells hbox2
                have HP2 := Lib.hid (HP1.out.old HG1.out hb2)
                have HB2 := Lib.hid (HB1.out.trans (hb2.mono HB1.out.size))
                clear hb2 hbox2
                go_wp2
                go_ret
                exact ⟨by rw [HF.out]; rfl, (HW0.out.trans (HB2.out.mono HW0.out.size))⟩
              · by_cases o2 : o = ⟨#[37]⟩
                · subst o2
                  cases kl0 : ((kids.len : Int) == 0)
                  · have HOP' := Lib.hid (show opB [37] = true from rfl)
                    have HOP := Lib.hid hop; have HALL := Lib.hid hall; clear hop hall o0b o1b o0c
                    have HKL := Lib.hid kl0
                    go_enter Try.func102, Try.ntmps102
                    go_wp2_with fail
                    refine (name_r t _ (by have := HT.out; omega)).mono ?_
                    rintro e w1 ⟨rfl, rfl⟩
                    rw [HN.out]
                    go_wp2_with fail
                    refine (digits_r t _ (by have := HT.out; omega)).mono ?_
                    rintro e w1 ⟨rfl, rfl⟩
                    rw [HD.out]
                    go_wp2_with fail
                    refine (op_r _ _).mono ?_
                    rintro e w1 ⟨rfl, hb1⟩
                    rw [HOP.out]
                    have hbox1 := (hb1.block w.heap.size (by simp)).trans HBX.out
                    obtain ⟨q0, q1, q2, q3, q4⟩ := box_cells hbox1
                    have HP1 := Lib.hid (HP.out.old HG0.out hb1)
                    have HG1 := Lib.hid (show ∀ g, G g → g < w1.heap.size from fun g hg => Nat.lt_of_lt_of_le (HG0.out g hg) hb1.size)
                    have hlt1 : w.heap.size < w1.heap.size := (Array.getElem?_eq_some_iff.1 hbox1).1
                    have HX1 := Lib.hid hbox1
                    have HB1 := Lib.hid hb1
                    clear hb1 hbox1
                    go_wp2_with fail
                    refine (HIH.out 2 kids A c G _ (by omega) hd hwt HG1.out HP1.out).mono ?_
                    rintro e w2 ⟨rfl, hb2⟩
                    rw [HALL.out]
                    try rw [HALL.out] at HF
                    have hbox2 := (hb2.block w.heap.size hlt1).trans HX1.out
                    clear q0 q1 q2 q3 q4
                    obtain ⟨q0, q1, q2, q3, q4⟩ := box_cells hbox2
                    have HP2 := Lib.hid (HP1.out.old HG1.out hb2)
                    have HB2 := Lib.hid (HB1.out.trans (hb2.mono HB1.out.size))
                    clear hb2 hbox2
                    go_wp2_with fail
                    obtain ⟨kk, kt, ko, kkids, kcm, krest, rfl⟩ := pts_cons HKL.out
                    obtain ⟨kb, koff, kA, kc, rfl, hkG, kc0, kc1, kc2, kc3, kc4, _⟩ := HP2.out
                    simp only [Nat.zero_mul, Nat.add_zero] at kc0 kc1
                    clear kc2 kc3 kc4 kl0 hkG
                    have hlz : (0 : Int) < ((Pts.cons kk kt ko kkids kcm krest).len : Int) := by simp only [Pts.len]; omega
                    cases hkn : (kk != 1)
                    · obtain rfl : kk = 1 := by simpa using hkn
                      have hne : kt.toList ≠ [] := by
                        have := HALL.out
                        simp only [Pts.allP, Bool.and_eq_true] at this
                        exact (oneB_lit this.1.1).1
                      have hpos : 0 < kt.size := by rw [size_list]; exact List.length_pos_iff.2 hne
                      have hposz : (0 : Int) < (kt.size : Int) := by omega
                      have hhd2 : hd0 kt.toList = kt[0] := hd0_get kt hpos
                      have HH2 := Lib.hid hhd2
                      clear hne hkn hhd2
                      cases hcmp : ((kt[0].toNat : Int) != 37)
                      · have hcmp2 : ((kt[0].toNat : Int) != ((((⟨#[37]⟩ : ByteArray))[0]'(by decide)).toNat : Int)) = false := hcmp
                        have hq : (hd0 kt.toList == 37) = true := by rw [HH2.out, beq_iff_eq]; exact UInt8.toNat_inj.1 (by have := bne_eq_false_iff_eq.1 hcmp; show _ = 37; omega)
                        have HQ := Lib.hid hq; clear hq
                        have HF := Lib.hid (show paramB t.toList (⟨#[37]⟩ : ByteArray).toList (Pts.cons 1 kt ko kkids kcm krest).len (Pts.cons 1 kt ko kkids kcm krest).headK (Pts.cons 1 kt ko kkids kcm krest).headT true = false by unfold paramB; rw [HNA.out, show (⟨#[37]⟩ : ByteArray).toList = [37] from list_mk [37], HOP'.out]; simp only [h35, Pts.headK, Pts.headT, Pts.len, show hd0 [37] = 37 from rfl, HQ.out]; rfl)
                        go_wp2_with fail
                        go_quiet (fail)
                        go_wp2
                        go_ret
                        exact ⟨by rw [HF.out]; rfl, belowN (HW0.out.trans (HB2.out.mono HW0.out.size)) _⟩
                      · have hcmp2 : ((kt[0].toNat : Int) != ((((⟨#[37]⟩ : ByteArray))[0]'(by decide)).toNat : Int)) = true := hcmp
                        have hq : (hd0 kt.toList == 37) = false := by rw [HH2.out, beq_eq_false_iff_ne]; intro e; exact (bne_iff_ne.1 hcmp) (by rw [e]; rfl)
                        have HQ := Lib.hid hq; clear hq
                        have HF := Lib.hid (show paramB t.toList (⟨#[37]⟩ : ByteArray).toList (Pts.cons 1 kt ko kkids kcm krest).len (Pts.cons 1 kt ko kkids kcm krest).headK (Pts.cons 1 kt ko kkids kcm krest).headT true = true by unfold paramB; rw [HNA.out, show (⟨#[37]⟩ : ByteArray).toList = [37] from list_mk [37], HOP'.out]; simp only [h35, Pts.headK, Pts.headT, Pts.len, show hd0 [37] = 37 from rfl, HQ.out]; simp)
                        go_wp2_with fail
                        go_quiet (fail)
                        go_wp2
                        go_ret
                        exact ⟨by rw [HF.out]; rfl, belowN (HW0.out.trans (HB2.out.mono HW0.out.size)) _⟩
                    · have HF := Lib.hid (show paramB t.toList (⟨#[37]⟩ : ByteArray).toList (Pts.cons kk kt ko kkids kcm krest).len (Pts.cons kk kt ko kkids kcm krest).headK (Pts.cons kk kt ko kkids kcm krest).headT true = true by unfold paramB; rw [HNA.out, show (⟨#[37]⟩ : ByteArray).toList = [37] from list_mk [37], HOP'.out]; simp only [h35, Pts.headK, hkn]; simp)
                      go_wp2_with fail
                      go_quiet (fail)
                      go_wp2
                      go_ret
                      exact ⟨by rw [HF.out]; rfl, belowN (HW0.out.trans (HB2.out.mono HW0.out.size)) _⟩
                  · have HF := Lib.hid (show paramB t.toList (⟨#[37]⟩ : ByteArray).toList kids.len kids.headK kids.headT (kids.allP 2 none) = true by unfold paramB; rw [HNA.out]; rw [show (⟨#[37]⟩ : ByteArray).toList = [37] from list_mk [37]] at hop ⊢; simp [show opB [37] = true from rfl, h35, hall, kl0])
                    have HOP := Lib.hid hop; have HALL := Lib.hid hall; clear hop hall o0b o1b o0c
                    go_enter Try.func102, Try.ntmps102
                    go_wp2_with fail
                    refine (name_r t _ (by have := HT.out; omega)).mono ?_
                    rintro e w1 ⟨rfl, rfl⟩
                    rw [HN.out]
                    go_wp2_with fail
                    refine (digits_r t _ (by have := HT.out; omega)).mono ?_
                    rintro e w1 ⟨rfl, rfl⟩
                    rw [HD.out]
                    go_wp2_with fail
                    refine (op_r _ _).mono ?_
                    rintro e w1 ⟨rfl, hb1⟩
                    rw [HOP.out]
                    have hbox1 := (hb1.block w.heap.size (by simp)).trans HBX.out
                    obtain ⟨q0, q1, q2, q3, q4⟩ := box_cells hbox1
                    have HP1 := Lib.hid (HP.out.old HG0.out hb1)
                    have HG1 := Lib.hid (show ∀ g, G g → g < w1.heap.size from fun g hg => Nat.lt_of_lt_of_le (HG0.out g hg) hb1.size)
                    have hlt1 : w.heap.size < w1.heap.size := (Array.getElem?_eq_some_iff.1 hbox1).1
                    have HX1 := Lib.hid hbox1
                    have HB1 := Lib.hid hb1
                    clear hb1 hbox1
                    go_wp2_with fail
                    refine (HIH.out 2 kids A c G _ (by omega) hd hwt HG1.out HP1.out).mono ?_
                    rintro e w2 ⟨rfl, hb2⟩
                    rw [HALL.out]
                    try rw [HALL.out] at HF
                    have hbox2 := (hb2.block w.heap.size hlt1).trans HX1.out
                    clear q0 q1 q2 q3 q4
                    obtain ⟨q0, q1, q2, q3, q4⟩ := box_cells hbox2
                    have HP2 := Lib.hid (HP1.out.old HG1.out hb2)
                    have HB2 := Lib.hid (HB1.out.trans (hb2.mono HB1.out.size))
                    clear hb2 hbox2
                    go_wp2
                    go_ret
                    exact ⟨by rw [HF.out]; rfl, (HW0.out.trans (HB2.out.mono HW0.out.size))⟩
                · by_cases o3 : o = ⟨#[35]⟩
                  · subst o3
                    cases kl0 : ((kids.len : Int) == 0)
                    · have HOP' := Lib.hid (show opB [35] = true from rfl)
                      have HOP := Lib.hid hop; have HALL := Lib.hid hall; clear hop hall o0b o1b o0c
                      have HKL := Lib.hid kl0
                      go_enter Try.func102, Try.ntmps102
                      go_wp2_with fail
                      refine (name_r t _ (by have := HT.out; omega)).mono ?_
                      rintro e w1 ⟨rfl, rfl⟩
                      rw [HN.out]
                      go_wp2_with fail
                      refine (digits_r t _ (by have := HT.out; omega)).mono ?_
                      rintro e w1 ⟨rfl, rfl⟩
                      rw [HD.out]
                      go_wp2_with fail
                      refine (op_r _ _).mono ?_
                      rintro e w1 ⟨rfl, hb1⟩
                      rw [HOP.out]
                      have hbox1 := (hb1.block w.heap.size (by simp)).trans HBX.out
                      obtain ⟨q0, q1, q2, q3, q4⟩ := box_cells hbox1
                      have HP1 := Lib.hid (HP.out.old HG0.out hb1)
                      have HG1 := Lib.hid (show ∀ g, G g → g < w1.heap.size from fun g hg => Nat.lt_of_lt_of_le (HG0.out g hg) hb1.size)
                      have hlt1 : w.heap.size < w1.heap.size := (Array.getElem?_eq_some_iff.1 hbox1).1
                      have HX1 := Lib.hid hbox1
                      have HB1 := Lib.hid hb1
                      clear hb1 hbox1
                      go_wp2_with fail
                      refine (HIH.out 2 kids A c G _ (by omega) hd hwt HG1.out HP1.out).mono ?_
                      rintro e w2 ⟨rfl, hb2⟩
                      rw [HALL.out]
                      try rw [HALL.out] at HF
                      have hbox2 := (hb2.block w.heap.size hlt1).trans HX1.out
                      clear q0 q1 q2 q3 q4
                      obtain ⟨q0, q1, q2, q3, q4⟩ := box_cells hbox2
                      have HP2 := Lib.hid (HP1.out.old HG1.out hb2)
                      have HB2 := Lib.hid (HB1.out.trans (hb2.mono HB1.out.size))
                      clear hb2 hbox2
                      go_wp2_with fail
                      obtain ⟨kk, kt, ko, kkids, kcm, krest, rfl⟩ := pts_cons HKL.out
                      obtain ⟨kb, koff, kA, kc, rfl, hkG, kc0, kc1, kc2, kc3, kc4, _⟩ := HP2.out
                      simp only [Nat.zero_mul, Nat.add_zero] at kc0 kc1
                      clear kc2 kc3 kc4 kl0 hkG
                      have hlz : (0 : Int) < ((Pts.cons kk kt ko kkids kcm krest).len : Int) := by simp only [Pts.len]; omega
                      cases hkn : (kk != 1)
                      · obtain rfl : kk = 1 := by simpa using hkn
                        have hne : kt.toList ≠ [] := by
                          have := HALL.out
                          simp only [Pts.allP, Bool.and_eq_true] at this
                          exact (oneB_lit this.1.1).1
                        have hpos : 0 < kt.size := by rw [size_list]; exact List.length_pos_iff.2 hne
                        have hposz : (0 : Int) < (kt.size : Int) := by omega
                        have hhd2 : hd0 kt.toList = kt[0] := hd0_get kt hpos
                        have HH2 := Lib.hid hhd2
                        clear hne hkn hhd2
                        cases hcmp : ((kt[0].toNat : Int) != 35)
                        · have hcmp2 : ((kt[0].toNat : Int) != ((((⟨#[35]⟩ : ByteArray))[0]'(by decide)).toNat : Int)) = false := hcmp
                          have hq : (hd0 kt.toList == 35) = true := by rw [HH2.out, beq_iff_eq]; exact UInt8.toNat_inj.1 (by have := bne_eq_false_iff_eq.1 hcmp; show _ = 35; omega)
                          have HQ := Lib.hid hq; clear hq
                          have HF := Lib.hid (show paramB t.toList (⟨#[35]⟩ : ByteArray).toList (Pts.cons 1 kt ko kkids kcm krest).len (Pts.cons 1 kt ko kkids kcm krest).headK (Pts.cons 1 kt ko kkids kcm krest).headT true = false by unfold paramB; rw [HNA.out, show (⟨#[35]⟩ : ByteArray).toList = [35] from list_mk [35], HOP'.out]; simp only [h35, Pts.headK, Pts.headT, Pts.len, show hd0 [35] = 35 from rfl, HQ.out]; rfl)
                          go_wp2_with fail
                          go_quiet (fail)
                          go_wp2
                          go_ret
                          exact ⟨by rw [HF.out]; rfl, belowN (HW0.out.trans (HB2.out.mono HW0.out.size)) _⟩
                        · have hcmp2 : ((kt[0].toNat : Int) != ((((⟨#[35]⟩ : ByteArray))[0]'(by decide)).toNat : Int)) = true := hcmp
                          have hq : (hd0 kt.toList == 35) = false := by rw [HH2.out, beq_eq_false_iff_ne]; intro e; exact (bne_iff_ne.1 hcmp) (by rw [e]; rfl)
                          have HQ := Lib.hid hq; clear hq
                          have HF := Lib.hid (show paramB t.toList (⟨#[35]⟩ : ByteArray).toList (Pts.cons 1 kt ko kkids kcm krest).len (Pts.cons 1 kt ko kkids kcm krest).headK (Pts.cons 1 kt ko kkids kcm krest).headT true = true by unfold paramB; rw [HNA.out, show (⟨#[35]⟩ : ByteArray).toList = [35] from list_mk [35], HOP'.out]; simp only [h35, Pts.headK, Pts.headT, Pts.len, show hd0 [35] = 35 from rfl, HQ.out]; simp)
                          go_wp2_with fail
                          go_quiet (fail)
                          go_wp2
                          go_ret
                          exact ⟨by rw [HF.out]; rfl, belowN (HW0.out.trans (HB2.out.mono HW0.out.size)) _⟩
                      · have HF := Lib.hid (show paramB t.toList (⟨#[35]⟩ : ByteArray).toList (Pts.cons kk kt ko kkids kcm krest).len (Pts.cons kk kt ko kkids kcm krest).headK (Pts.cons kk kt ko kkids kcm krest).headT true = true by unfold paramB; rw [HNA.out, show (⟨#[35]⟩ : ByteArray).toList = [35] from list_mk [35], HOP'.out]; simp only [h35, Pts.headK, hkn]; simp)
                        go_wp2_with fail
                        go_quiet (fail)
                        go_wp2
                        go_ret
                        exact ⟨by rw [HF.out]; rfl, belowN (HW0.out.trans (HB2.out.mono HW0.out.size)) _⟩
                    · have HF := Lib.hid (show paramB t.toList (⟨#[35]⟩ : ByteArray).toList kids.len kids.headK kids.headT (kids.allP 2 none) = true by unfold paramB; rw [HNA.out]; rw [show (⟨#[35]⟩ : ByteArray).toList = [35] from list_mk [35]] at hop ⊢; simp [show opB [35] = true from rfl, h35, hall, kl0])
                      have HOP := Lib.hid hop; have HALL := Lib.hid hall; clear hop hall o0b o1b o0c
                      go_enter Try.func102, Try.ntmps102
                      go_wp2_with fail
                      refine (name_r t _ (by have := HT.out; omega)).mono ?_
                      rintro e w1 ⟨rfl, rfl⟩
                      rw [HN.out]
                      go_wp2_with fail
                      refine (digits_r t _ (by have := HT.out; omega)).mono ?_
                      rintro e w1 ⟨rfl, rfl⟩
                      rw [HD.out]
                      go_wp2_with fail
                      refine (op_r _ _).mono ?_
                      rintro e w1 ⟨rfl, hb1⟩
                      rw [HOP.out]
                      have hbox1 := (hb1.block w.heap.size (by simp)).trans HBX.out
                      obtain ⟨q0, q1, q2, q3, q4⟩ := box_cells hbox1
                      have HP1 := Lib.hid (HP.out.old HG0.out hb1)
                      have HG1 := Lib.hid (show ∀ g, G g → g < w1.heap.size from fun g hg => Nat.lt_of_lt_of_le (HG0.out g hg) hb1.size)
                      have hlt1 : w.heap.size < w1.heap.size := (Array.getElem?_eq_some_iff.1 hbox1).1
                      have HX1 := Lib.hid hbox1
                      have HB1 := Lib.hid hb1
                      clear hb1 hbox1
                      go_wp2_with fail
                      refine (HIH.out 2 kids A c G _ (by omega) hd hwt HG1.out HP1.out).mono ?_
                      rintro e w2 ⟨rfl, hb2⟩
                      rw [HALL.out]
                      try rw [HALL.out] at HF
                      have hbox2 := (hb2.block w.heap.size hlt1).trans HX1.out
                      clear q0 q1 q2 q3 q4
                      obtain ⟨q0, q1, q2, q3, q4⟩ := box_cells hbox2
                      have HP2 := Lib.hid (HP1.out.old HG1.out hb2)
                      have HB2 := Lib.hid (HB1.out.trans (hb2.mono HB1.out.size))
                      clear hb2 hbox2
                      go_wp2
                      go_ret
                      exact ⟨by rw [HF.out]; rfl, (HW0.out.trans (HB2.out.mono HW0.out.size))⟩
                  · have o2b : (o.toList == [37]) = false := beq_eq_false_iff_ne.2 fun e => o2 (ext_list (by rw [e]; exact (list_mk [37]).symm))
                    have o3b : (o.toList == [35]) = false := beq_eq_false_iff_ne.2 fun e => o3 (ext_list (by rw [e]; exact (list_mk [35]).symm))
                    have o2c : (!(o.toList == [37])) = true := by rw [o2b]; rfl
                    have o3c : (!(o.toList == [35])) = true := by rw [o3b]; rfl
                    have HF := Lib.hid (show paramB t.toList o.toList kids.len kids.headK kids.headT (kids.allP 2 none) = true by unfold paramB; rw [HNA.out]; simp [o0c, o1b, hop, h35, hall, o2b, o3b])
                    have HOP := Lib.hid hop; have HALL := Lib.hid hall; clear hop hall o0c
                    go_enter Try.func102, Try.ntmps102
                    go_wp2_with fail
                    refine (name_r t _ (by have := HT.out; omega)).mono ?_
                    rintro e w1 ⟨rfl, rfl⟩
                    rw [HN.out]
                    go_wp2_with fail
                    refine (digits_r t _ (by have := HT.out; omega)).mono ?_
                    rintro e w1 ⟨rfl, rfl⟩
                    rw [HD.out]
                    go_wp2_with fail
                    refine (op_r _ _).mono ?_
                    rintro e w1 ⟨rfl, hb1⟩
                    rw [HOP.out]
                    have hbox1 := (hb1.block w.heap.size (by simp)).trans HBX.out
                    obtain ⟨q0, q1, q2, q3, q4⟩ := box_cells hbox1
                    have HP1 := Lib.hid (HP.out.old HG0.out hb1)
                    have HG1 := Lib.hid (show ∀ g, G g → g < w1.heap.size from fun g hg => Nat.lt_of_lt_of_le (HG0.out g hg) hb1.size)
                    have hlt1 : w.heap.size < w1.heap.size := (Array.getElem?_eq_some_iff.1 hbox1).1
                    have HX1 := Lib.hid hbox1
                    have HB1 := Lib.hid hb1
                    clear hb1 hbox1
                    go_wp2_with fail
                    refine (HIH.out 2 kids A c G _ (by omega) hd hwt HG1.out HP1.out).mono ?_
                    rintro e w2 ⟨rfl, hb2⟩
                    rw [HALL.out]
                    try rw [HALL.out] at HF
                    have hbox2 := (hb2.block w.heap.size hlt1).trans HX1.out
                    clear q0 q1 q2 q3 q4
                    obtain ⟨q0, q1, q2, q3, q4⟩ := box_cells hbox2
                    have HP2 := Lib.hid (HP1.out.old HG1.out hb2)
                    have HB2 := Lib.hid (HB1.out.trans (hb2.mono HB1.out.size))
                    clear hb2 hbox2
                    go_wp2
                    go_ret
                    exact ⟨by rw [HF.out]; rfl, (HW0.out.trans (HB2.out.mono HW0.out.size))⟩
            · have HF := Lib.hid (show paramB t.toList o.toList kids.len kids.headK kids.headT (kids.allP 2 none) = false by unfold paramB; rw [HNA.out]; simp [o0c, o1b, hop, h35])
              have HOP := Lib.hid hop; clear hop o0c hd hwt
              go_enter Try.func102, Try.ntmps102
              go_wp2_with fail
              refine (name_r t _ (by have := HT.out; omega)).mono ?_
              rintro e w1 ⟨rfl, rfl⟩
              rw [HN.out]
              go_wp2_with fail
              refine (digits_r t _ (by have := HT.out; omega)).mono ?_
              rintro e w1 ⟨rfl, rfl⟩
              rw [HD.out]
              go_wp2_with fail
              refine (op_r _ _).mono ?_
              rintro e w1 ⟨rfl, hb1⟩
              rw [HOP.out]
              have hbox1 := (hb1.block w.heap.size (by simp)).trans HBX.out
              obtain ⟨q0, q1, q2, q3, q4⟩ := box_cells hbox1
              have HP1 := Lib.hid (HP.out.old HG0.out hb1)
              have HG1 := Lib.hid (show ∀ g, G g → g < w1.heap.size from fun g hg => Nat.lt_of_lt_of_le (HG0.out g hg) hb1.size)
              have hlt1 : w.heap.size < w1.heap.size := (Array.getElem?_eq_some_iff.1 hbox1).1
              have HX1 := Lib.hid hbox1
              have HB1 := Lib.hid hb1
              clear hb1 hbox1
              go_wp2
              go_ret
              exact ⟨by rw [HF.out]; rfl, (HW0.out.trans (HB1.out.mono HW0.out.size))⟩
  · have HNA := Lib.hid (show (!namedB t.toList) = false by unfold namedB; simp [hN])
    have HN := Lib.hid hN; clear hN
    by_cases o0 : o = ⟨#[]⟩
    · subst o0
      have HF := Lib.hid (show paramB t.toList (⟨#[]⟩ : ByteArray).toList kids.len kids.headK kids.headT (kids.allP 2 none) = ((kids.len : Int) == 0) by rw [show (⟨#[]⟩ : ByteArray).toList = [] from list_mk []]; unfold paramB; rw [HNA.out]; rfl)
      clear hd hwt
      go_enter Try.func102, Try.ntmps102
      go_wp2_with fail
      refine (name_r t _ (by have := HT.out; omega)).mono ?_
      rintro e w1 ⟨rfl, rfl⟩
      rw [HN.out]
      go_wp2
      go_ret
      exact ⟨by rw [HF.out]; rfl, HW0.out⟩
    · by_cases o1 : o = ⟨#[108, 101, 110]⟩
      · subst o1
        have HF := Lib.hid (show paramB t.toList (⟨#[108, 101, 110]⟩ : ByteArray).toList kids.len kids.headK kids.headT (kids.allP 2 none) = ((kids.len : Int) == 0) by rw [show (⟨#[108, 101, 110]⟩ : ByteArray).toList = [108, 101, 110] from list_mk [108, 101, 110]]; unfold paramB; rw [HNA.out]; rfl)
        clear hd hwt
        go_enter Try.func102, Try.ntmps102
        go_wp2_with fail
        refine (name_r t _ (by have := HT.out; omega)).mono ?_
        rintro e w1 ⟨rfl, rfl⟩
        rw [HN.out]
        go_wp2
        go_ret
        exact ⟨by rw [HF.out]; rfl, HW0.out⟩
      · have o0b : o.toList.isEmpty = false := by have : o.toList ≠ [] := fun e => o0 (ext_list (by rw [e]; exact (list_mk []).symm)); simpa using this
        have o1b : (o.toList == [108, 101, 110]) = false := beq_eq_false_iff_ne.2 fun e => o1 (ext_list (by rw [e]; exact (list_mk [108, 101, 110]).symm))
        have o0c : (o.toList == []) = false := beq_eq_false_iff_ne.2 fun e => o0 (ext_list (by rw [e]; exact (list_mk []).symm))
        clear o0 o1
        cases hop : opB o.toList
        · have HF := Lib.hid (show paramB t.toList o.toList kids.len kids.headK kids.headT (kids.allP 2 none) = false by unfold paramB; rw [HNA.out]; simp [o0c, o1b, hop])
          have HOP := Lib.hid hop; clear hop o0c hd hwt
          go_enter Try.func102, Try.ntmps102
          go_wp2_with fail
          refine (name_r t _ (by have := HT.out; omega)).mono ?_
          rintro e w1 ⟨rfl, rfl⟩
          rw [HN.out]
          go_wp2_with fail
          refine (op_r _ _).mono ?_
          rintro e w1 ⟨rfl, hb1⟩
          rw [HOP.out]
          have hbox1 := (hb1.block w.heap.size (by simp)).trans HBX.out
          obtain ⟨q0, q1, q2, q3, q4⟩ := box_cells hbox1
          have HP1 := Lib.hid (HP.out.old HG0.out hb1)
          have HG1 := Lib.hid (show ∀ g, G g → g < w1.heap.size from fun g hg => Nat.lt_of_lt_of_le (HG0.out g hg) hb1.size)
          have hlt1 : w.heap.size < w1.heap.size := (Array.getElem?_eq_some_iff.1 hbox1).1
          have HX1 := Lib.hid hbox1
          have HB1 := Lib.hid hb1
          clear hb1 hbox1
          go_wp2
          go_ret
          exact ⟨by rw [HF.out]; rfl, (HW0.out.trans (HB1.out.mono HW0.out.size))⟩
        · cases h35 : (t.toList == [35])
          · cases hall : kids.allP 2 none
            · have HF := Lib.hid (show paramB t.toList o.toList kids.len kids.headK kids.headT (kids.allP 2 none) = false by unfold paramB; rw [HNA.out]; simp [o0c, o1b, hop, h35, hall])
              have HOP := Lib.hid hop; have HALL := Lib.hid hall; clear hop hall o0c
              go_enter Try.func102, Try.ntmps102
              go_wp2_with fail
              refine (name_r t _ (by have := HT.out; omega)).mono ?_
              rintro e w1 ⟨rfl, rfl⟩
              rw [HN.out]
              go_wp2_with fail
              refine (op_r _ _).mono ?_
              rintro e w1 ⟨rfl, hb1⟩
              rw [HOP.out]
              have hbox1 := (hb1.block w.heap.size (by simp)).trans HBX.out
              obtain ⟨q0, q1, q2, q3, q4⟩ := box_cells hbox1
              have HP1 := Lib.hid (HP.out.old HG0.out hb1)
              have HG1 := Lib.hid (show ∀ g, G g → g < w1.heap.size from fun g hg => Nat.lt_of_lt_of_le (HG0.out g hg) hb1.size)
              have hlt1 : w.heap.size < w1.heap.size := (Array.getElem?_eq_some_iff.1 hbox1).1
              have HX1 := Lib.hid hbox1
              have HB1 := Lib.hid hb1
              clear hb1 hbox1
              go_wp2_with fail
              refine (HIH.out 2 kids A c G _ (by omega) hd hwt HG1.out HP1.out).mono ?_
              rintro e w2 ⟨rfl, hb2⟩
              rw [HALL.out]
              try rw [HALL.out] at HF
              have hbox2 := (hb2.block w.heap.size hlt1).trans HX1.out
              clear q0 q1 q2 q3 q4
              obtain ⟨q0, q1, q2, q3, q4⟩ := box_cells hbox2
              have HP2 := Lib.hid (HP1.out.old HG1.out hb2)
              have HB2 := Lib.hid (HB1.out.trans (hb2.mono HB1.out.size))
              clear hb2 hbox2
              go_wp2
              go_ret
              exact ⟨by rw [HF.out]; rfl, (HW0.out.trans (HB2.out.mono HW0.out.size))⟩
            · by_cases o2 : o = ⟨#[37]⟩
              · subst o2
                cases kl0 : ((kids.len : Int) == 0)
                · have HOP' := Lib.hid (show opB [37] = true from rfl)
                  have HOP := Lib.hid hop; have HALL := Lib.hid hall; clear hop hall o0b o1b o0c
                  have HKL := Lib.hid kl0
                  go_enter Try.func102, Try.ntmps102
                  go_wp2_with fail
                  refine (name_r t _ (by have := HT.out; omega)).mono ?_
                  rintro e w1 ⟨rfl, rfl⟩
                  rw [HN.out]
                  go_wp2_with fail
                  refine (op_r _ _).mono ?_
                  rintro e w1 ⟨rfl, hb1⟩
                  rw [HOP.out]
                  have hbox1 := (hb1.block w.heap.size (by simp)).trans HBX.out
                  obtain ⟨q0, q1, q2, q3, q4⟩ := box_cells hbox1
                  have HP1 := Lib.hid (HP.out.old HG0.out hb1)
                  have HG1 := Lib.hid (show ∀ g, G g → g < w1.heap.size from fun g hg => Nat.lt_of_lt_of_le (HG0.out g hg) hb1.size)
                  have hlt1 : w.heap.size < w1.heap.size := (Array.getElem?_eq_some_iff.1 hbox1).1
                  have HX1 := Lib.hid hbox1
                  have HB1 := Lib.hid hb1
                  clear hb1 hbox1
                  go_wp2_with fail
                  refine (HIH.out 2 kids A c G _ (by omega) hd hwt HG1.out HP1.out).mono ?_
                  rintro e w2 ⟨rfl, hb2⟩
                  rw [HALL.out]
                  try rw [HALL.out] at HF
                  have hbox2 := (hb2.block w.heap.size hlt1).trans HX1.out
                  clear q0 q1 q2 q3 q4
                  obtain ⟨q0, q1, q2, q3, q4⟩ := box_cells hbox2
                  have HP2 := Lib.hid (HP1.out.old HG1.out hb2)
                  have HB2 := Lib.hid (HB1.out.trans (hb2.mono HB1.out.size))
                  clear hb2 hbox2
                  go_wp2_with fail
                  obtain ⟨kk, kt, ko, kkids, kcm, krest, rfl⟩ := pts_cons HKL.out
                  obtain ⟨kb, koff, kA, kc, rfl, hkG, kc0, kc1, kc2, kc3, kc4, _⟩ := HP2.out
                  simp only [Nat.zero_mul, Nat.add_zero] at kc0 kc1
                  clear kc2 kc3 kc4 kl0 hkG
                  have hlz : (0 : Int) < ((Pts.cons kk kt ko kkids kcm krest).len : Int) := by simp only [Pts.len]; omega
                  cases hkn : (kk != 1)
                  · obtain rfl : kk = 1 := by simpa using hkn
                    have hne : kt.toList ≠ [] := by
                      have := HALL.out
                      simp only [Pts.allP, Bool.and_eq_true] at this
                      exact (oneB_lit this.1.1).1
                    have hpos : 0 < kt.size := by rw [size_list]; exact List.length_pos_iff.2 hne
                    have hposz : (0 : Int) < (kt.size : Int) := by omega
                    have hhd2 : hd0 kt.toList = kt[0] := hd0_get kt hpos
                    have HH2 := Lib.hid hhd2
                    clear hne hkn hhd2
                    cases hcmp : ((kt[0].toNat : Int) != 37)
                    · have hcmp2 : ((kt[0].toNat : Int) != ((((⟨#[37]⟩ : ByteArray))[0]'(by decide)).toNat : Int)) = false := hcmp
                      have hq : (hd0 kt.toList == 37) = true := by rw [HH2.out, beq_iff_eq]; exact UInt8.toNat_inj.1 (by have := bne_eq_false_iff_eq.1 hcmp; show _ = 37; omega)
                      have HQ := Lib.hid hq; clear hq
                      have HF := Lib.hid (show paramB t.toList (⟨#[37]⟩ : ByteArray).toList (Pts.cons 1 kt ko kkids kcm krest).len (Pts.cons 1 kt ko kkids kcm krest).headK (Pts.cons 1 kt ko kkids kcm krest).headT true = false by unfold paramB; rw [HNA.out, show (⟨#[37]⟩ : ByteArray).toList = [37] from list_mk [37], HOP'.out]; simp only [h35, Pts.headK, Pts.headT, Pts.len, show hd0 [37] = 37 from rfl, HQ.out]; rfl)
                      go_wp2_with fail
                      go_quiet (fail)
                      go_wp2
                      go_ret
                      exact ⟨by rw [HF.out]; rfl, belowN (HW0.out.trans (HB2.out.mono HW0.out.size)) _⟩
                    · have hcmp2 : ((kt[0].toNat : Int) != ((((⟨#[37]⟩ : ByteArray))[0]'(by decide)).toNat : Int)) = true := hcmp
                      have hq : (hd0 kt.toList == 37) = false := by rw [HH2.out, beq_eq_false_iff_ne]; intro e; exact (bne_iff_ne.1 hcmp) (by rw [e]; rfl)
                      have HQ := Lib.hid hq; clear hq
                      have HF := Lib.hid (show paramB t.toList (⟨#[37]⟩ : ByteArray).toList (Pts.cons 1 kt ko kkids kcm krest).len (Pts.cons 1 kt ko kkids kcm krest).headK (Pts.cons 1 kt ko kkids kcm krest).headT true = true by unfold paramB; rw [HNA.out, show (⟨#[37]⟩ : ByteArray).toList = [37] from list_mk [37], HOP'.out]; simp only [h35, Pts.headK, Pts.headT, Pts.len, show hd0 [37] = 37 from rfl, HQ.out]; simp)
                      go_wp2_with fail
                      go_quiet (fail)
                      go_wp2
                      go_ret
                      exact ⟨by rw [HF.out]; rfl, belowN (HW0.out.trans (HB2.out.mono HW0.out.size)) _⟩
                  · have HF := Lib.hid (show paramB t.toList (⟨#[37]⟩ : ByteArray).toList (Pts.cons kk kt ko kkids kcm krest).len (Pts.cons kk kt ko kkids kcm krest).headK (Pts.cons kk kt ko kkids kcm krest).headT true = true by unfold paramB; rw [HNA.out, show (⟨#[37]⟩ : ByteArray).toList = [37] from list_mk [37], HOP'.out]; simp only [h35, Pts.headK, hkn]; simp)
                    go_wp2_with fail
                    go_quiet (fail)
                    go_wp2
                    go_ret
                    exact ⟨by rw [HF.out]; rfl, belowN (HW0.out.trans (HB2.out.mono HW0.out.size)) _⟩
                · have HF := Lib.hid (show paramB t.toList (⟨#[37]⟩ : ByteArray).toList kids.len kids.headK kids.headT (kids.allP 2 none) = true by unfold paramB; rw [HNA.out]; rw [show (⟨#[37]⟩ : ByteArray).toList = [37] from list_mk [37]] at hop ⊢; simp [show opB [37] = true from rfl, h35, hall, kl0])
                  have HOP := Lib.hid hop; have HALL := Lib.hid hall; clear hop hall o0b o1b o0c
                  go_enter Try.func102, Try.ntmps102
                  go_wp2_with fail
                  refine (name_r t _ (by have := HT.out; omega)).mono ?_
                  rintro e w1 ⟨rfl, rfl⟩
                  rw [HN.out]
                  go_wp2_with fail
                  refine (op_r _ _).mono ?_
                  rintro e w1 ⟨rfl, hb1⟩
                  rw [HOP.out]
                  have hbox1 := (hb1.block w.heap.size (by simp)).trans HBX.out
                  obtain ⟨q0, q1, q2, q3, q4⟩ := box_cells hbox1
                  have HP1 := Lib.hid (HP.out.old HG0.out hb1)
                  have HG1 := Lib.hid (show ∀ g, G g → g < w1.heap.size from fun g hg => Nat.lt_of_lt_of_le (HG0.out g hg) hb1.size)
                  have hlt1 : w.heap.size < w1.heap.size := (Array.getElem?_eq_some_iff.1 hbox1).1
                  have HX1 := Lib.hid hbox1
                  have HB1 := Lib.hid hb1
                  clear hb1 hbox1
                  go_wp2_with fail
                  refine (HIH.out 2 kids A c G _ (by omega) hd hwt HG1.out HP1.out).mono ?_
                  rintro e w2 ⟨rfl, hb2⟩
                  rw [HALL.out]
                  try rw [HALL.out] at HF
                  have hbox2 := (hb2.block w.heap.size hlt1).trans HX1.out
                  clear q0 q1 q2 q3 q4
                  obtain ⟨q0, q1, q2, q3, q4⟩ := box_cells hbox2
                  have HP2 := Lib.hid (HP1.out.old HG1.out hb2)
                  have HB2 := Lib.hid (HB1.out.trans (hb2.mono HB1.out.size))
                  clear hb2 hbox2
                  go_wp2
                  go_ret
                  exact ⟨by rw [HF.out]; rfl, (HW0.out.trans (HB2.out.mono HW0.out.size))⟩
              · by_cases o3 : o = ⟨#[35]⟩
                · subst o3
                  cases kl0 : ((kids.len : Int) == 0)
                  · have HOP' := Lib.hid (show opB [35] = true from rfl)
                    have HOP := Lib.hid hop; have HALL := Lib.hid hall; clear hop hall o0b o1b o0c
                    have HKL := Lib.hid kl0
                    go_enter Try.func102, Try.ntmps102
                    go_wp2_with fail
                    refine (name_r t _ (by have := HT.out; omega)).mono ?_
                    rintro e w1 ⟨rfl, rfl⟩
                    rw [HN.out]
                    go_wp2_with fail
                    refine (op_r _ _).mono ?_
                    rintro e w1 ⟨rfl, hb1⟩
                    rw [HOP.out]
                    have hbox1 := (hb1.block w.heap.size (by simp)).trans HBX.out
                    obtain ⟨q0, q1, q2, q3, q4⟩ := box_cells hbox1
                    have HP1 := Lib.hid (HP.out.old HG0.out hb1)
                    have HG1 := Lib.hid (show ∀ g, G g → g < w1.heap.size from fun g hg => Nat.lt_of_lt_of_le (HG0.out g hg) hb1.size)
                    have hlt1 : w.heap.size < w1.heap.size := (Array.getElem?_eq_some_iff.1 hbox1).1
                    have HX1 := Lib.hid hbox1
                    have HB1 := Lib.hid hb1
                    clear hb1 hbox1
                    go_wp2_with fail
                    refine (HIH.out 2 kids A c G _ (by omega) hd hwt HG1.out HP1.out).mono ?_
                    rintro e w2 ⟨rfl, hb2⟩
                    rw [HALL.out]
                    try rw [HALL.out] at HF
                    have hbox2 := (hb2.block w.heap.size hlt1).trans HX1.out
                    clear q0 q1 q2 q3 q4
                    obtain ⟨q0, q1, q2, q3, q4⟩ := box_cells hbox2
                    have HP2 := Lib.hid (HP1.out.old HG1.out hb2)
                    have HB2 := Lib.hid (HB1.out.trans (hb2.mono HB1.out.size))
                    clear hb2 hbox2
                    go_wp2_with fail
                    obtain ⟨kk, kt, ko, kkids, kcm, krest, rfl⟩ := pts_cons HKL.out
                    obtain ⟨kb, koff, kA, kc, rfl, hkG, kc0, kc1, kc2, kc3, kc4, _⟩ := HP2.out
                    simp only [Nat.zero_mul, Nat.add_zero] at kc0 kc1
                    clear kc2 kc3 kc4 kl0 hkG
                    have hlz : (0 : Int) < ((Pts.cons kk kt ko kkids kcm krest).len : Int) := by simp only [Pts.len]; omega
                    cases hkn : (kk != 1)
                    · obtain rfl : kk = 1 := by simpa using hkn
                      have hne : kt.toList ≠ [] := by
                        have := HALL.out
                        simp only [Pts.allP, Bool.and_eq_true] at this
                        exact (oneB_lit this.1.1).1
                      have hpos : 0 < kt.size := by rw [size_list]; exact List.length_pos_iff.2 hne
                      have hposz : (0 : Int) < (kt.size : Int) := by omega
                      have hhd2 : hd0 kt.toList = kt[0] := hd0_get kt hpos
                      have HH2 := Lib.hid hhd2
                      clear hne hkn hhd2
                      cases hcmp : ((kt[0].toNat : Int) != 35)
                      · have hcmp2 : ((kt[0].toNat : Int) != ((((⟨#[35]⟩ : ByteArray))[0]'(by decide)).toNat : Int)) = false := hcmp
                        have hq : (hd0 kt.toList == 35) = true := by rw [HH2.out, beq_iff_eq]; exact UInt8.toNat_inj.1 (by have := bne_eq_false_iff_eq.1 hcmp; show _ = 35; omega)
                        have HQ := Lib.hid hq; clear hq
                        have HF := Lib.hid (show paramB t.toList (⟨#[35]⟩ : ByteArray).toList (Pts.cons 1 kt ko kkids kcm krest).len (Pts.cons 1 kt ko kkids kcm krest).headK (Pts.cons 1 kt ko kkids kcm krest).headT true = false by unfold paramB; rw [HNA.out, show (⟨#[35]⟩ : ByteArray).toList = [35] from list_mk [35], HOP'.out]; simp only [h35, Pts.headK, Pts.headT, Pts.len, show hd0 [35] = 35 from rfl, HQ.out]; rfl)
                        go_wp2_with fail
                        go_quiet (fail)
                        go_wp2
                        go_ret
                        exact ⟨by rw [HF.out]; rfl, belowN (HW0.out.trans (HB2.out.mono HW0.out.size)) _⟩
                      · have hcmp2 : ((kt[0].toNat : Int) != ((((⟨#[35]⟩ : ByteArray))[0]'(by decide)).toNat : Int)) = true := hcmp
                        have hq : (hd0 kt.toList == 35) = false := by rw [HH2.out, beq_eq_false_iff_ne]; intro e; exact (bne_iff_ne.1 hcmp) (by rw [e]; rfl)
                        have HQ := Lib.hid hq; clear hq
                        have HF := Lib.hid (show paramB t.toList (⟨#[35]⟩ : ByteArray).toList (Pts.cons 1 kt ko kkids kcm krest).len (Pts.cons 1 kt ko kkids kcm krest).headK (Pts.cons 1 kt ko kkids kcm krest).headT true = true by unfold paramB; rw [HNA.out, show (⟨#[35]⟩ : ByteArray).toList = [35] from list_mk [35], HOP'.out]; simp only [h35, Pts.headK, Pts.headT, Pts.len, show hd0 [35] = 35 from rfl, HQ.out]; simp)
                        go_wp2_with fail
                        go_quiet (fail)
                        go_wp2
                        go_ret
                        exact ⟨by rw [HF.out]; rfl, belowN (HW0.out.trans (HB2.out.mono HW0.out.size)) _⟩
                    · have HF := Lib.hid (show paramB t.toList (⟨#[35]⟩ : ByteArray).toList (Pts.cons kk kt ko kkids kcm krest).len (Pts.cons kk kt ko kkids kcm krest).headK (Pts.cons kk kt ko kkids kcm krest).headT true = true by unfold paramB; rw [HNA.out, show (⟨#[35]⟩ : ByteArray).toList = [35] from list_mk [35], HOP'.out]; simp only [h35, Pts.headK, hkn]; simp)
                      go_wp2_with fail
                      go_quiet (fail)
                      go_wp2
                      go_ret
                      exact ⟨by rw [HF.out]; rfl, belowN (HW0.out.trans (HB2.out.mono HW0.out.size)) _⟩
                  · have HF := Lib.hid (show paramB t.toList (⟨#[35]⟩ : ByteArray).toList kids.len kids.headK kids.headT (kids.allP 2 none) = true by unfold paramB; rw [HNA.out]; rw [show (⟨#[35]⟩ : ByteArray).toList = [35] from list_mk [35]] at hop ⊢; simp [show opB [35] = true from rfl, h35, hall, kl0])
                    have HOP := Lib.hid hop; have HALL := Lib.hid hall; clear hop hall o0b o1b o0c
                    go_enter Try.func102, Try.ntmps102
                    go_wp2_with fail
                    refine (name_r t _ (by have := HT.out; omega)).mono ?_
                    rintro e w1 ⟨rfl, rfl⟩
                    rw [HN.out]
                    go_wp2_with fail
                    refine (op_r _ _).mono ?_
                    rintro e w1 ⟨rfl, hb1⟩
                    rw [HOP.out]
                    have hbox1 := (hb1.block w.heap.size (by simp)).trans HBX.out
                    obtain ⟨q0, q1, q2, q3, q4⟩ := box_cells hbox1
                    have HP1 := Lib.hid (HP.out.old HG0.out hb1)
                    have HG1 := Lib.hid (show ∀ g, G g → g < w1.heap.size from fun g hg => Nat.lt_of_lt_of_le (HG0.out g hg) hb1.size)
                    have hlt1 : w.heap.size < w1.heap.size := (Array.getElem?_eq_some_iff.1 hbox1).1
                    have HX1 := Lib.hid hbox1
                    have HB1 := Lib.hid hb1
                    clear hb1 hbox1
                    go_wp2_with fail
                    refine (HIH.out 2 kids A c G _ (by omega) hd hwt HG1.out HP1.out).mono ?_
                    rintro e w2 ⟨rfl, hb2⟩
                    rw [HALL.out]
                    try rw [HALL.out] at HF
                    have hbox2 := (hb2.block w.heap.size hlt1).trans HX1.out
                    clear q0 q1 q2 q3 q4
                    obtain ⟨q0, q1, q2, q3, q4⟩ := box_cells hbox2
                    have HP2 := Lib.hid (HP1.out.old HG1.out hb2)
                    have HB2 := Lib.hid (HB1.out.trans (hb2.mono HB1.out.size))
                    clear hb2 hbox2
                    go_wp2
                    go_ret
                    exact ⟨by rw [HF.out]; rfl, (HW0.out.trans (HB2.out.mono HW0.out.size))⟩
                · have o2b : (o.toList == [37]) = false := beq_eq_false_iff_ne.2 fun e => o2 (ext_list (by rw [e]; exact (list_mk [37]).symm))
                  have o3b : (o.toList == [35]) = false := beq_eq_false_iff_ne.2 fun e => o3 (ext_list (by rw [e]; exact (list_mk [35]).symm))
                  have o2c : (!(o.toList == [37])) = true := by rw [o2b]; rfl
                  have o3c : (!(o.toList == [35])) = true := by rw [o3b]; rfl
                  have HF := Lib.hid (show paramB t.toList o.toList kids.len kids.headK kids.headT (kids.allP 2 none) = true by unfold paramB; rw [HNA.out]; simp [o0c, o1b, hop, h35, hall, o2b, o3b])
                  have HOP := Lib.hid hop; have HALL := Lib.hid hall; clear hop hall o0c
                  go_enter Try.func102, Try.ntmps102
                  go_wp2_with fail
                  refine (name_r t _ (by have := HT.out; omega)).mono ?_
                  rintro e w1 ⟨rfl, rfl⟩
                  rw [HN.out]
                  go_wp2_with fail
                  refine (op_r _ _).mono ?_
                  rintro e w1 ⟨rfl, hb1⟩
                  rw [HOP.out]
                  have hbox1 := (hb1.block w.heap.size (by simp)).trans HBX.out
                  obtain ⟨q0, q1, q2, q3, q4⟩ := box_cells hbox1
                  have HP1 := Lib.hid (HP.out.old HG0.out hb1)
                  have HG1 := Lib.hid (show ∀ g, G g → g < w1.heap.size from fun g hg => Nat.lt_of_lt_of_le (HG0.out g hg) hb1.size)
                  have hlt1 : w.heap.size < w1.heap.size := (Array.getElem?_eq_some_iff.1 hbox1).1
                  have HX1 := Lib.hid hbox1
                  have HB1 := Lib.hid hb1
                  clear hb1 hbox1
                  go_wp2_with fail
                  refine (HIH.out 2 kids A c G _ (by omega) hd hwt HG1.out HP1.out).mono ?_
                  rintro e w2 ⟨rfl, hb2⟩
                  rw [HALL.out]
                  try rw [HALL.out] at HF
                  have hbox2 := (hb2.block w.heap.size hlt1).trans HX1.out
                  clear q0 q1 q2 q3 q4
                  obtain ⟨q0, q1, q2, q3, q4⟩ := box_cells hbox2
                  have HP2 := Lib.hid (HP1.out.old HG1.out hb2)
                  have HB2 := Lib.hid (HB1.out.trans (hb2.mono HB1.out.size))
                  clear hb2 hbox2
                  go_wp2
                  go_ret
                  exact ⟨by rw [HF.out]; rfl, (HW0.out.trans (HB2.out.mono HW0.out.size))⟩
          · have HF := Lib.hid (show paramB t.toList o.toList kids.len kids.headK kids.headT (kids.allP 2 none) = false by unfold paramB; rw [HNA.out]; simp [o0c, o1b, hop, h35])
            have HOP := Lib.hid hop; clear hop o0c hd hwt
            go_enter Try.func102, Try.ntmps102
            go_wp2_with fail
            refine (name_r t _ (by have := HT.out; omega)).mono ?_
            rintro e w1 ⟨rfl, rfl⟩
            rw [HN.out]
            go_wp2_with fail
            refine (op_r _ _).mono ?_
            rintro e w1 ⟨rfl, hb1⟩
            rw [HOP.out]
            have hbox1 := (hb1.block w.heap.size (by simp)).trans HBX.out
            obtain ⟨q0, q1, q2, q3, q4⟩ := box_cells hbox1
            have HP1 := Lib.hid (HP.out.old HG0.out hb1)
            have HG1 := Lib.hid (show ∀ g, G g → g < w1.heap.size from fun g hg => Nat.lt_of_lt_of_le (HG0.out g hg) hb1.size)
            have hlt1 : w.heap.size < w1.heap.size := (Array.getElem?_eq_some_iff.1 hbox1).1
            have HX1 := Lib.hid hbox1
            have HB1 := Lib.hid hb1
            clear hb1 hbox1
            go_wp2
            go_ret
            exact ⟨by rw [HF.out]; rfl, (HW0.out.trans (HB1.out.mono HW0.out.size))⟩
end Go.Proofs.Ytpefkhbejjndeaa
