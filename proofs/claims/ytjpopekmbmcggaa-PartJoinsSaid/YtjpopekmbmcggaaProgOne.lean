/- What part's one answers, given what all does at parts less deep. -/
import Derived.Test.YtjpopekmbmcggaaProgPart
import Derived.Test.YtjpopekmbmcggaaQuoteWide
namespace Go.Proofs.Ytjpopekmbmcggaa
open Go.RowKit

/-- Is a part right at a place, as part asks? -/
def oneQ (p : Nat) (k : Int) (t o : List UInt8) (kl cn : Nat) (hk : Int) (ht : List UInt8) (aD aB : Bool) : Bool :=
  if !plainQ k t o kl cn then false
  else if k == 1 then litB p t
  else if k == 2 then (t.length == 1) && !(t == [0]) && !(t == [10]) && (p != 1 || special24 (hd0 t).toNat)
  else if k == 3 then p != 1 && !anyQ t
  else if k == 4 then p != 1 && aD
  else if k == 5 then paramB t o kl hk ht aB
  else if k == 6 then true
  else if k == 7 then arithGo 0 t
  else false
theorem clear_any (l : List UInt8) : clearB 39 l = !anyQ l := by
  unfold clearB anyQ
  induction l with
  | nil => rfl
  | cons c l ih =>
    rw [List.all_cons, List.any_cons, ih]
    have h0 : ((c.toNat : Int) == 0) = (c == 0) := by
      rw [Bool.eq_iff_iff, beq_iff_eq, beq_iff_eq]
      exact ⟨fun e => UInt8.toNat_inj.1 (show _ = 0 by omega), fun e => by rw [e]; rfl⟩
    have h1 : ((c.toNat : Int) == 39) = (c == 39) := by
      rw [Bool.eq_iff_iff, beq_iff_eq, beq_iff_eq]
      exact ⟨fun e => UInt8.toNat_inj.1 (show _ = 39 by omega), fun e => by rw [e]; rfl⟩
    rw [h0, h1]
    cases (c == 0) <;> cases (c == 39) <;> simp
theorem oneQ_eq (p : Nat) (k : Int) (t o : List UInt8) (kl cn : Nat) (hk : Int) (ht : List UInt8) (aD aB : Bool) : oneB p k t o kl cn hk ht aD aB = oneQ p k t o kl cn hk ht aD aB := by
  have hkl : ((kl : Int) == 0) = !decide (0 < kl) := by cases kl <;> simp <;> omega
  have hcn : ((cn : Int) == 0) = !decide (0 < cn) := by cases cn <;> simp <;> omega
  have esc : ((t.length == 1) && !((hd0 t) == 0) && !((hd0 t) == 10) && (p != 1 || special24 (hd0 t).toNat)) = ((t.length == 1) && !(t == [0]) && !(t == [10]) && (p != 1 || special24 (hd0 t).toNat)) := by
    match t with
    | [] => rfl
    | [c] =>
      have h0 : ([c] == [(0 : UInt8)]) = (c == 0) := by simp
      have h1 : ([c] == [(10 : UInt8)]) = (c == 10) := by simp
      rw [h0, h1]; rfl
    | _ :: _ :: _ => simp
  unfold oneB oneQ plain1 plainQ
  rw [hkl, hcn, esc, clear_any]
  by_cases h1 : k = 1
  · subst h1; cases o.isEmpty <;> cases decide (0 < kl) <;> cases decide (0 < cn) <;> simp
  by_cases h2 : k = 2
  · subst h2; cases o.isEmpty <;> cases decide (0 < kl) <;> cases decide (0 < cn) <;> simp
  by_cases h3 : k = 3
  · subst h3; cases o.isEmpty <;> cases decide (0 < kl) <;> cases decide (0 < cn) <;> simp
  by_cases h4 : k = 4
  · subst h4; cases o.isEmpty <;> cases t.isEmpty <;> cases decide (0 < cn) <;> simp
  by_cases h5 : k = 5
  · subst h5; cases decide (0 < cn) <;> simp
  by_cases h6 : k = 6
  · subst h6; cases o.isEmpty <;> cases t.isEmpty <;> cases decide (0 < kl) <;> simp
  by_cases h7 : k = 7
  · subst h7; cases o.isEmpty <;> cases decide (0 < kl) <;> cases decide (0 < cn) <;> simp
  · simp [h1, h2, h3, h4, h5, h6, h7]


set_option maxRecDepth 100000 in
set_option maxHeartbeats 8000000 in
theorem one_p (n : Nat) (IH : AllQ n) (p : Nat) (hp2 : p ≤ 2) (k : Int) (t o : ByteArray) (kids : Pts) (A : Option Addr) (c : Nat) (cm : Cm) (G : Nat → Prop) (w : World) (hd : kids.deep < n) (hts : t.size ≤ 562949953421312) (hwt : kids.mx ≤ 562949953421312) (hG : ∀ k, G k → k < w.heap.size) (hp : PtsAt G w A 0 kids) :
    Calls Try.prog 28 #[.int .i64 p, .agg #[.int .i64 k, .string t, .string o, .slice A kids.len c, .slice cm.a cm.n cm.c]] w fun e w' => e = .returned (.bool (oneB p k t.toList o.toList kids.len cm.n kids.headK kids.headT (kids.allP 1 none) (kids.allP 2 none))) ∧ Below w.heap.size w w' := by
  have HIH := Lib.hid IH; clear IH
  have hw0 : Below w.heap.size w (w.alloc (.cells #[.int .i64 k, .string t, .string o, .slice A kids.len c, .slice cm.a cm.n cm.c] 37)) := (Below.refl _ _).alloc (Nat.le_refl _) _
  have hbox := heap_alloc_new w (.cells #[.int .i64 k, .string t, .string o, .slice A kids.len c, .slice cm.a cm.n cm.c] 37)
  have hp0 := hp.old hG hw0
  have hG0 : ∀ g, G g → g < (w.alloc (.cells #[.int .i64 k, .string t, .string o, .slice A kids.len c, .slice cm.a cm.n cm.c] 37)).heap.size := fun g hg => by have := hG g hg; simp; omega
  have HW0 := Lib.hid hw0; have HBX := Lib.hid hbox; have HP := Lib.hid hp0; have HG0 := Lib.hid hG0; have HT := Lib.hid hts
  have HEQ := Lib.hid (oneQ_eq p k t.toList o.toList kids.len cm.n kids.headK kids.headT (kids.allP 1 none) (kids.allP 2 none))
  clear hw0 hbox hp hp0 hG hG0 hts
  cases hp0 : plainQ k t.toList o.toList kids.len cm.n
  · have hpl : (!plainQ k t.toList o.toList kids.len cm.n) = true := by rw [hp0]; rfl
    have HPL := Lib.hid hp0; clear hp0
    have HF := Lib.hid (show oneQ p k t.toList o.toList kids.len cm.n kids.headK kids.headT (kids.allP 1 none) (kids.allP 2 none) = false by unfold oneQ; rw [hpl]; rfl)
    clear hpl hd hwt
    go_enter Try.func28, Try.ntmps28
    go_wp2_with fail
    refine (plain_q k t o kids A c cm _).mono ?_
    rintro e w1 ⟨rfl, hb1⟩
    rw [HPL.out]
    have hbox1 := (hb1.block w.heap.size (by simp)).trans HBX.out
    obtain ⟨q0, q1, q2, q3, q4⟩ := box_cells hbox1
    have HP1 := Lib.hid (HP.out.old HG0.out hb1)
    have HG1 := Lib.hid (show ∀ g, G g → g < w1.heap.size from fun g hg => Nat.lt_of_lt_of_le (HG0.out g hg) hb1.size)
    have hlt1 : w.heap.size < w1.heap.size := (Array.getElem?_eq_some_iff.1 hbox1).1
    have HB1 := Lib.hid hb1
    clear hb1 hbox1
    go_wp2
    go_ret
    exact ⟨by rw [HEQ.out, HF.out]; rfl, (HW0.out.trans (HB1.out.mono HW0.out.size))⟩
  · have hpl : (!plainQ k t.toList o.toList kids.len cm.n) = false := by rw [hp0]; rfl
    have HPL := Lib.hid hp0; clear hp0
    by_cases k1 : k = 1
    · subst k1
      have HF := Lib.hid (show oneQ p 1 t.toList o.toList kids.len cm.n kids.headK kids.headT (kids.allP 1 none) (kids.allP 2 none) = litB p t.toList by unfold oneQ; rw [hpl]; rfl)
      clear hpl hd hwt
      go_enter Try.func28, Try.ntmps28
      go_wp2_with fail
      refine (plain_q 1 t o kids A c cm _).mono ?_
      rintro e w1 ⟨rfl, hb1⟩
      rw [HPL.out]
      have hbox1 := (hb1.block w.heap.size (by simp)).trans HBX.out
      obtain ⟨q0, q1, q2, q3, q4⟩ := box_cells hbox1
      have HP1 := Lib.hid (HP.out.old HG0.out hb1)
      have HG1 := Lib.hid (show ∀ g, G g → g < w1.heap.size from fun g hg => Nat.lt_of_lt_of_le (HG0.out g hg) hb1.size)
      have hlt1 : w.heap.size < w1.heap.size := (Array.getElem?_eq_some_iff.1 hbox1).1
      have HB1 := Lib.hid hb1
      clear hb1 hbox1
      go_wp2_with fail
      refine (literal_p p hp2 t _ (by have := HT.out; omega)).mono ?_
      rintro e w2 ⟨rfl, rfl⟩
      go_wp2
      go_ret
      exact ⟨by rw [HEQ.out, HF.out]; rfl, (HW0.out.trans (HB1.out.mono HW0.out.size))⟩
    · by_cases k2 : k = 2
      · subst k2
        by_cases h1 : t.size = 1
        · have hs1 : ((t.size : Int) == 1) = true := by rw [beq_iff_eq]; omega
          have hs0 : (0 : Int) < (t.size : Int) := by omega
          have hs2 : 0 < t.size := by omega
          have hlen : (t.toList.length == 1) = true := by rw [← size_list, h1]; rfl
          have hhd : hd0 t.toList = t[0] := hd0_get t hs2
          cases z0 : (t.toList == [0])
          · cases z1 : (t.toList == [10])
            · cases hp1 : ((p : Int) != 1)
              · have hp1n : (p != 1) = false := by rw [bne_eq_false_iff_eq] at hp1 ⊢; omega
                have HF := Lib.hid (show oneQ p 2 t.toList o.toList kids.len cm.n kids.headK kids.headT (kids.allP 1 none) (kids.allP 2 none) = special24 (t[0].toNat : Int) by unfold oneQ; rw [hpl]; simp only [hlen, z0, z1, hp1n, hhd]; rfl)
                clear hpl hd hwt hlen hhd hp1n h1
                go_enter Try.func28, Try.ntmps28
                go_wp2_with fail
                refine (plain_q 2 t o kids A c cm _).mono ?_
                rintro e w1 ⟨rfl, hb1⟩
                rw [HPL.out]
                have hbox1 := (hb1.block w.heap.size (by simp)).trans HBX.out
                obtain ⟨q0, q1, q2, q3, q4⟩ := box_cells hbox1
                have HP1 := Lib.hid (HP.out.old HG0.out hb1)
                have HG1 := Lib.hid (show ∀ g, G g → g < w1.heap.size from fun g hg => Nat.lt_of_lt_of_le (HG0.out g hg) hb1.size)
                have hlt1 : w.heap.size < w1.heap.size := (Array.getElem?_eq_some_iff.1 hbox1).1
                have HB1 := Lib.hid hb1
                clear hb1 hbox1
                go_wp2_with fail
                refine (quotable_p t[0].toNat (byte_lt t 0 hs2) _).mono ?_
                rintro e w2 ⟨rfl, rfl⟩
                go_wp2
                go_ret
                exact ⟨by rw [HEQ.out, HF.out]; rfl, (HW0.out.trans (HB1.out.mono HW0.out.size))⟩
              · have hp1n : (p != 1) = true := by rw [bne_iff_ne] at hp1 ⊢; omega
                have HF := Lib.hid (show oneQ p 2 t.toList o.toList kids.len cm.n kids.headK kids.headT (kids.allP 1 none) (kids.allP 2 none) = true by unfold oneQ; rw [hpl]; simp only [hlen, z0, z1, hp1n]; rfl)
                clear hpl hd hwt hlen hhd hp1n h1
                go_enter Try.func28, Try.ntmps28
                go_wp2_with fail
                refine (plain_q 2 t o kids A c cm _).mono ?_
                rintro e w1 ⟨rfl, hb1⟩
                rw [HPL.out]
                have hbox1 := (hb1.block w.heap.size (by simp)).trans HBX.out
                obtain ⟨q0, q1, q2, q3, q4⟩ := box_cells hbox1
                have HP1 := Lib.hid (HP.out.old HG0.out hb1)
                have HG1 := Lib.hid (show ∀ g, G g → g < w1.heap.size from fun g hg => Nat.lt_of_lt_of_le (HG0.out g hg) hb1.size)
                have hlt1 : w.heap.size < w1.heap.size := (Array.getElem?_eq_some_iff.1 hbox1).1
                have HB1 := Lib.hid hb1
                clear hb1 hbox1
                go_wp2
                go_ret
                exact ⟨by rw [HEQ.out, HF.out]; rfl, (HW0.out.trans (HB1.out.mono HW0.out.size))⟩
            · have HF := Lib.hid (show oneQ p 2 t.toList o.toList kids.len cm.n kids.headK kids.headT (kids.allP 1 none) (kids.allP 2 none) = false by unfold oneQ; rw [hpl]; simp only [hlen, z0, z1]; rfl)
              clear hpl hd hwt hlen hhd h1
              go_enter Try.func28, Try.ntmps28
              go_wp2_with fail
              refine (plain_q 2 t o kids A c cm _).mono ?_
              rintro e w1 ⟨rfl, hb1⟩
              rw [HPL.out]
              have hbox1 := (hb1.block w.heap.size (by simp)).trans HBX.out
              obtain ⟨q0, q1, q2, q3, q4⟩ := box_cells hbox1
              have HP1 := Lib.hid (HP.out.old HG0.out hb1)
              have HG1 := Lib.hid (show ∀ g, G g → g < w1.heap.size from fun g hg => Nat.lt_of_lt_of_le (HG0.out g hg) hb1.size)
              have hlt1 : w.heap.size < w1.heap.size := (Array.getElem?_eq_some_iff.1 hbox1).1
              have HB1 := Lib.hid hb1
              clear hb1 hbox1
              go_wp2
              go_ret
              exact ⟨by rw [HEQ.out, HF.out]; rfl, (HW0.out.trans (HB1.out.mono HW0.out.size))⟩
          · have HF := Lib.hid (show oneQ p 2 t.toList o.toList kids.len cm.n kids.headK kids.headT (kids.allP 1 none) (kids.allP 2 none) = false by unfold oneQ; rw [hpl]; simp only [hlen, z0]; rfl)
            clear hpl hd hwt hlen hhd h1
            go_enter Try.func28, Try.ntmps28
            go_wp2_with fail
            refine (plain_q 2 t o kids A c cm _).mono ?_
            rintro e w1 ⟨rfl, hb1⟩
            rw [HPL.out]
            have hbox1 := (hb1.block w.heap.size (by simp)).trans HBX.out
            obtain ⟨q0, q1, q2, q3, q4⟩ := box_cells hbox1
            have HP1 := Lib.hid (HP.out.old HG0.out hb1)
            have HG1 := Lib.hid (show ∀ g, G g → g < w1.heap.size from fun g hg => Nat.lt_of_lt_of_le (HG0.out g hg) hb1.size)
            have hlt1 : w.heap.size < w1.heap.size := (Array.getElem?_eq_some_iff.1 hbox1).1
            have HB1 := Lib.hid hb1
            clear hb1 hbox1
            go_wp2
            go_ret
            exact ⟨by rw [HEQ.out, HF.out]; rfl, (HW0.out.trans (HB1.out.mono HW0.out.size))⟩
        · have hs1 : ((t.size : Int) == 1) = false := by rw [beq_eq_false_iff_ne]; omega
          have hlen : (t.toList.length == 1) = false := by rw [← size_list]; exact beq_eq_false_iff_ne.2 h1
          have HF := Lib.hid (show oneQ p 2 t.toList o.toList kids.len cm.n kids.headK kids.headT (kids.allP 1 none) (kids.allP 2 none) = false by unfold oneQ; rw [hpl]; simp only [hlen]; rfl)
          clear hpl hd hwt hlen h1
          go_enter Try.func28, Try.ntmps28
          go_wp2_with fail
          refine (plain_q 2 t o kids A c cm _).mono ?_
          rintro e w1 ⟨rfl, hb1⟩
          rw [HPL.out]
          have hbox1 := (hb1.block w.heap.size (by simp)).trans HBX.out
          obtain ⟨q0, q1, q2, q3, q4⟩ := box_cells hbox1
          have HP1 := Lib.hid (HP.out.old HG0.out hb1)
          have HG1 := Lib.hid (show ∀ g, G g → g < w1.heap.size from fun g hg => Nat.lt_of_lt_of_le (HG0.out g hg) hb1.size)
          have hlt1 : w.heap.size < w1.heap.size := (Array.getElem?_eq_some_iff.1 hbox1).1
          have HB1 := Lib.hid hb1
          clear hb1 hbox1
          go_wp2
          go_ret
          exact ⟨by rw [HEQ.out, HF.out]; rfl, (HW0.out.trans (HB1.out.mono HW0.out.size))⟩
      · by_cases k3 : k = 3
        · subst k3
          cases hp1 : ((p : Int) != 1)
          · have hp1n : (p != 1) = false := by rw [bne_eq_false_iff_eq] at hp1 ⊢; omega
            have HF := Lib.hid (show oneQ p 3 t.toList o.toList kids.len cm.n kids.headK kids.headT (kids.allP 1 none) (kids.allP 2 none) = false by unfold oneQ; rw [hpl]; simp only [hp1n]; rfl)
            clear hpl hd hwt hp1n
            go_enter Try.func28, Try.ntmps28
            go_wp2_with fail
            refine (plain_q 3 t o kids A c cm _).mono ?_
            rintro e w1 ⟨rfl, hb1⟩
            rw [HPL.out]
            have hbox1 := (hb1.block w.heap.size (by simp)).trans HBX.out
            obtain ⟨q0, q1, q2, q3, q4⟩ := box_cells hbox1
            have HP1 := Lib.hid (HP.out.old HG0.out hb1)
            have HG1 := Lib.hid (show ∀ g, G g → g < w1.heap.size from fun g hg => Nat.lt_of_lt_of_le (HG0.out g hg) hb1.size)
            have hlt1 : w.heap.size < w1.heap.size := (Array.getElem?_eq_some_iff.1 hbox1).1
            have HB1 := Lib.hid hb1
            clear hb1 hbox1
            go_wp2
            go_ret
            exact ⟨by rw [HEQ.out, HF.out]; rfl, (HW0.out.trans (HB1.out.mono HW0.out.size))⟩
          · have hp1n : (p != 1) = true := by rw [bne_iff_ne] at hp1 ⊢; omega
            have HF := Lib.hid (show oneQ p 3 t.toList o.toList kids.len cm.n kids.headK kids.headT (kids.allP 1 none) (kids.allP 2 none) = (!anyQ t.toList) by unfold oneQ; rw [hpl]; simp only [hp1n]; rfl)
            clear hpl hd hwt hp1n
            go_enter Try.func28, Try.ntmps28
            go_wp2_with fail
            refine (plain_q 3 t o kids A c cm _).mono ?_
            rintro e w1 ⟨rfl, hb1⟩
            rw [HPL.out]
            have hbox1 := (hb1.block w.heap.size (by simp)).trans HBX.out
            obtain ⟨q0, q1, q2, q3, q4⟩ := box_cells hbox1
            have HP1 := Lib.hid (HP.out.old HG0.out hb1)
            have HG1 := Lib.hid (show ∀ g, G g → g < w1.heap.size from fun g hg => Nat.lt_of_lt_of_le (HG0.out g hg) hb1.size)
            have hlt1 : w.heap.size < w1.heap.size := (Array.getElem?_eq_some_iff.1 hbox1).1
            have HB1 := Lib.hid hb1
            clear hb1 hbox1
            go_wp2_with fail
            refine (containsAny_wide t _ (by have := HT.out; omega)).mono ?_
            rintro e w2 ⟨rfl, hb2⟩
            have HB2 := Lib.hid (hb2.mono HB1.out.size); clear hb2
            go_wp2
            go_ret
            exact ⟨by rw [HEQ.out, HF.out]; rfl, (HW0.out.trans ((HB1.out.trans HB2.out).mono HW0.out.size))⟩
        · by_cases k4 : k = 4
          · subst k4
            cases hp1 : ((p : Int) != 1)
            · have hp1n : (p != 1) = false := by rw [bne_eq_false_iff_eq] at hp1 ⊢; omega
              have HF := Lib.hid (show oneQ p 4 t.toList o.toList kids.len cm.n kids.headK kids.headT (kids.allP 1 none) (kids.allP 2 none) = false by unfold oneQ; rw [hpl]; simp only [hp1n]; rfl)
              clear hpl hd hwt hp1n
              go_enter Try.func28, Try.ntmps28
              go_wp2_with fail
              refine (plain_q 4 t o kids A c cm _).mono ?_
              rintro e w1 ⟨rfl, hb1⟩
              rw [HPL.out]
              have hbox1 := (hb1.block w.heap.size (by simp)).trans HBX.out
              obtain ⟨q0, q1, q2, q3, q4⟩ := box_cells hbox1
              have HP1 := Lib.hid (HP.out.old HG0.out hb1)
              have HG1 := Lib.hid (show ∀ g, G g → g < w1.heap.size from fun g hg => Nat.lt_of_lt_of_le (HG0.out g hg) hb1.size)
              have hlt1 : w.heap.size < w1.heap.size := (Array.getElem?_eq_some_iff.1 hbox1).1
              have HB1 := Lib.hid hb1
              clear hb1 hbox1
              go_wp2
              go_ret
              exact ⟨by rw [HEQ.out, HF.out]; rfl, (HW0.out.trans (HB1.out.mono HW0.out.size))⟩
            · have hp1n : (p != 1) = true := by rw [bne_iff_ne] at hp1 ⊢; omega
              have HF := Lib.hid (show oneQ p 4 t.toList o.toList kids.len cm.n kids.headK kids.headT (kids.allP 1 none) (kids.allP 2 none) = kids.allP 1 none by unfold oneQ; rw [hpl]; simp only [hp1n]; rfl)
              clear hpl hp1n
              go_enter Try.func28, Try.ntmps28
              go_wp2_with fail
              refine (plain_q 4 t o kids A c cm _).mono ?_
              rintro e w1 ⟨rfl, hb1⟩
              rw [HPL.out]
              have hbox1 := (hb1.block w.heap.size (by simp)).trans HBX.out
              obtain ⟨q0, q1, q2, q3, q4⟩ := box_cells hbox1
              have HP1 := Lib.hid (HP.out.old HG0.out hb1)
              have HG1 := Lib.hid (show ∀ g, G g → g < w1.heap.size from fun g hg => Nat.lt_of_lt_of_le (HG0.out g hg) hb1.size)
              have hlt1 : w.heap.size < w1.heap.size := (Array.getElem?_eq_some_iff.1 hbox1).1
              have HB1 := Lib.hid hb1
              clear hb1 hbox1
              go_wp2_with fail
              refine (HIH.out 1 kids A c G _ (by omega) hd hwt HG1.out HP1.out).mono ?_
              rintro e w2 ⟨rfl, hb2⟩
              have HB2 := Lib.hid (hb2.mono HB1.out.size); clear hb2
              go_wp2
              go_ret
              exact ⟨by rw [HEQ.out, HF.out]; rfl, (HW0.out.trans ((HB1.out.trans HB2.out).mono HW0.out.size))⟩
          · by_cases k5 : k = 5
            · subst k5
              have HF := Lib.hid (show oneQ p 5 t.toList o.toList kids.len cm.n kids.headK kids.headT (kids.allP 1 none) (kids.allP 2 none) = paramB t.toList o.toList kids.len kids.headK kids.headT (kids.allP 2 none) by unfold oneQ; rw [hpl]; rfl)
              clear hpl 
              go_enter Try.func28, Try.ntmps28
              go_wp2_with fail
              refine (plain_q 5 t o kids A c cm _).mono ?_
              rintro e w1 ⟨rfl, hb1⟩
              rw [HPL.out]
              have hbox1 := (hb1.block w.heap.size (by simp)).trans HBX.out
              obtain ⟨q0, q1, q2, q3, q4⟩ := box_cells hbox1
              have HP1 := Lib.hid (HP.out.old HG0.out hb1)
              have HG1 := Lib.hid (show ∀ g, G g → g < w1.heap.size from fun g hg => Nat.lt_of_lt_of_le (HG0.out g hg) hb1.size)
              have hlt1 : w.heap.size < w1.heap.size := (Array.getElem?_eq_some_iff.1 hbox1).1
              have HB1 := Lib.hid hb1
              clear hb1 hbox1
              go_wp2_with fail
              refine (param_p n HIH.out 5 t o kids A c cm G _ hd (by have := HT.out; omega) hwt HG1.out HP1.out).mono ?_
              rintro e w2 ⟨rfl, hb2⟩
              have HB2 := Lib.hid (hb2.mono HB1.out.size); clear hb2
              go_wp2
              go_ret
              exact ⟨by rw [HEQ.out, HF.out]; rfl, (HW0.out.trans ((HB1.out.trans HB2.out).mono HW0.out.size))⟩
            · by_cases k6 : k = 6
              · subst k6
                have HF := Lib.hid (show oneQ p 6 t.toList o.toList kids.len cm.n kids.headK kids.headT (kids.allP 1 none) (kids.allP 2 none) = true by unfold oneQ; rw [hpl]; rfl)
                clear hpl hd hwt
                go_enter Try.func28, Try.ntmps28
                go_wp2_with fail
                refine (plain_q 6 t o kids A c cm _).mono ?_
                rintro e w1 ⟨rfl, hb1⟩
                rw [HPL.out]
                have hbox1 := (hb1.block w.heap.size (by simp)).trans HBX.out
                obtain ⟨q0, q1, q2, q3, q4⟩ := box_cells hbox1
                have HP1 := Lib.hid (HP.out.old HG0.out hb1)
                have HG1 := Lib.hid (show ∀ g, G g → g < w1.heap.size from fun g hg => Nat.lt_of_lt_of_le (HG0.out g hg) hb1.size)
                have hlt1 : w.heap.size < w1.heap.size := (Array.getElem?_eq_some_iff.1 hbox1).1
                have HB1 := Lib.hid hb1
                clear hb1 hbox1
                go_wp2
                go_ret
                exact ⟨by rw [HEQ.out, HF.out]; rfl, (HW0.out.trans (HB1.out.mono HW0.out.size))⟩
              · by_cases k7 : k = 7
                · subst k7
                  have HF := Lib.hid (show oneQ p 7 t.toList o.toList kids.len cm.n kids.headK kids.headT (kids.allP 1 none) (kids.allP 2 none) = arithGo 0 t.toList by unfold oneQ; rw [hpl]; rfl)
                  clear hpl hd hwt
                  go_enter Try.func28, Try.ntmps28
                  go_wp2_with fail
                  refine (plain_q 7 t o kids A c cm _).mono ?_
                  rintro e w1 ⟨rfl, hb1⟩
                  rw [HPL.out]
                  have hbox1 := (hb1.block w.heap.size (by simp)).trans HBX.out
                  obtain ⟨q0, q1, q2, q3, q4⟩ := box_cells hbox1
                  have HP1 := Lib.hid (HP.out.old HG0.out hb1)
                  have HG1 := Lib.hid (show ∀ g, G g → g < w1.heap.size from fun g hg => Nat.lt_of_lt_of_le (HG0.out g hg) hb1.size)
                  have hlt1 : w.heap.size < w1.heap.size := (Array.getElem?_eq_some_iff.1 hbox1).1
                  have HB1 := Lib.hid hb1
                  clear hb1 hbox1
                  go_wp2_with fail
                  refine (arith_p t _ (by have := HT.out; omega)).mono ?_
                  rintro e w2 ⟨rfl, rfl⟩
                  go_wp2
                  go_ret
                  exact ⟨by rw [HEQ.out, HF.out]; rfl, (HW0.out.trans (HB1.out.mono HW0.out.size))⟩
                · have b1 : (k == 1) = false := beq_eq_false_iff_ne.2 k1
                  have b2 : (k == 2) = false := beq_eq_false_iff_ne.2 k2
                  have b3 : (k == 3) = false := beq_eq_false_iff_ne.2 k3
                  have b4 : (k == 4) = false := beq_eq_false_iff_ne.2 k4
                  have b5 : (k == 5) = false := beq_eq_false_iff_ne.2 k5
                  have b6 : (k == 6) = false := beq_eq_false_iff_ne.2 k6
                  have b7 : (k == 7) = false := beq_eq_false_iff_ne.2 k7
                  clear k1 k2 k3 k4 k5 k6 k7
                  have HF := Lib.hid (show oneQ p k t.toList o.toList kids.len cm.n kids.headK kids.headT (kids.allP 1 none) (kids.allP 2 none) = false by unfold oneQ; rw [hpl]; simp only [b1, b2, b3, b4, b5, b6, b7]; rfl)
                  clear hpl hd hwt
                  go_enter Try.func28, Try.ntmps28
                  go_wp2_with fail
                  refine (plain_q k t o kids A c cm _).mono ?_
                  rintro e w1 ⟨rfl, hb1⟩
                  rw [HPL.out]
                  have hbox1 := (hb1.block w.heap.size (by simp)).trans HBX.out
                  obtain ⟨q0, q1, q2, q3, q4⟩ := box_cells hbox1
                  have HP1 := Lib.hid (HP.out.old HG0.out hb1)
                  have HG1 := Lib.hid (show ∀ g, G g → g < w1.heap.size from fun g hg => Nat.lt_of_lt_of_le (HG0.out g hg) hb1.size)
                  have hlt1 : w.heap.size < w1.heap.size := (Array.getElem?_eq_some_iff.1 hbox1).1
                  have HB1 := Lib.hid hb1
                  clear hb1 hbox1
                  go_wp2
                  go_ret
                  exact ⟨by rw [HEQ.out, HF.out]; rfl, (HW0.out.trans (HB1.out.mono HW0.out.size))⟩
end Go.Proofs.Ytjpopekmbmcggaa
