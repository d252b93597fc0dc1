/- The walk of conchlaw28.HereBack. -/
import Derived.Test.YtpefkhbejjndeaaHereFed
import Derived.Test.YtpefkhbejjndeaaHereRef
import Derived.Test.YtpefkhbejjndeaaGr
namespace Go.Proofs.Ytpefkhbejjndeaa
open Go.RowKit

theorem Gr.call' {P : Program} {f : FuncId} {args : Array Value} {w : World} {v : Value} (h : ∀ X : World, Calls P f args X fun e w' => e = .returned v ∧ Below X.heap.size X w') (x : Gr w) : Calls P f args x.at_ fun e w' => e = .returned v ∧ ∃ y : Gr w, w' = y.at_ :=
  x.calls (h x.at_)

set_option maxRecDepth 100000 in
set_option maxHeartbeats 8000000 in
theorem hereBack_walk (e s : ByteArray) (t : Bool) (w : World) :
    Calls Try.prog 10 #[.agg #[.string e, .bool t], .string s] w fun r w' => r = .returned (.bool true) ∧ Below w.heap.size w w' := by
  by_cases he : e.size ≤ 500
  · have hez : decide ((500 : Int) < (e.size : Int)) = false := decide_eq_false (by omega)
    by_cases hs : s.size ≤ 1000
    · have hsz : decide ((1000 : Int) < (s.size : Int)) = false := decide_eq_false (by omega)
      have m1 := fun X => may_any e s t X (by omega) (by omega)
      have m2 := fun X => refMay_any e s t X (by omega) (by omega)
      have s1 := fun X => show_any e s t X (by omega)
      have s2 := fun X => refShow_any e s t X (by omega)
      have r1 := fun X => right_any e t X (by omega)
      have M1 := Lib.hid m1; have M2 := Lib.hid m2; have S1 := Lib.hid s1; have S2 := Lib.hid s2; have R1 := Lib.hid r1
      clear m1 m2 s1 s2 r1
      go_enter Try.func10, Try.ntmps10
      go_wp2_with fail
      have hbk := heap_alloc_new w (.cells #[.string e, .bool t] 52)
      have hcA : ∀ x : Gr (w.alloc (.cells #[.string e, .bool t] 52)), x.at_.cell? ⟨w.heap.size, 0, none⟩ = some (.string e) := fun x => x.cell _ _ (by simp)
      have hcB : ∀ x : Gr (w.alloc (.cells #[.string e, .bool t] 52)), x.at_.cell? ⟨w.heap.size, 1, none⟩ = some (.bool t) := fun x => x.cell _ _ (by simp)
      have c1 := Gr.call' (w := w.alloc (.cells #[.string e, .bool t] 52)) M1.out
      have c2 := Gr.call' (w := w.alloc (.cells #[.string e, .bool t] 52)) M2.out
      have c3 := Gr.call' (w := w.alloc (.cells #[.string e, .bool t] 52)) S1.out
      have c4 := Gr.call' (w := w.alloc (.cells #[.string e, .bool t] 52)) S2.out
      have hne : Nonempty (Gr (w.alloc (.cells #[.string e, .bool t] 52))) := ⟨⟨_, Below.refl _ _⟩⟩
      unfold bs at c3 c4
      refine wp_region_class (S := Gr (w.alloc (.cells #[.string e, .bool t] 52))) Gr.at_ (by kernel_rfl) (by kernel_rfl) (Gr.drew _) ?_
      repeat (go_big_quiet_step (first | (with_reducible exact c1 _) | (with_reducible exact c2 _) | (with_reducible exact c3 _) | (with_reducible exact c4 _)))
      refine wpQuiet_nil ?_
      rintro X ⟨⟨X', hX⟩, hx⟩
      obtain rfl : X = X' := hx
      have hcAll : ∀ Y, Below (w.alloc (.cells #[.string e, .bool t] 52)).heap.size (w.alloc (.cells #[.string e, .bool t] 52)) Y → Y.cell? ⟨w.heap.size, 0, none⟩ = some (.string e) ∧ Y.cell? ⟨w.heap.size, 1, none⟩ = some (.bool t) := fun Y hY => ⟨hcA ⟨Y, hY⟩, hcB ⟨Y, hY⟩⟩
      have HC := Lib.hid hcAll
      have hfinal : ∀ Y, Below (w.alloc (.cells #[.string e, .bool t] 52)).heap.size (w.alloc (.cells #[.string e, .bool t] 52)) Y → Below w.heap.size w Y := fun Y hY => ((Below.refl _ _).alloc (Nat.le_refl _) _).trans (hY.mono (by simp))
      have HFI := Lib.hid hfinal
      have HX := Lib.hid hX
      clear hX hcA hcB c1 c2 c3 c4 hne hcAll hfinal hbk
      obtain ⟨q0, q1⟩ := HC.out _ HX.out
      go_wp2_with fail
      refine (R1.out _).mono ?_
      rintro r w2 ⟨rfl, b2⟩
      have HY := Lib.hid (HX.out.trans (b2.mono HX.out.size)); clear b2 q0 q1
      obtain ⟨q0, q1⟩ := HC.out _ HY.out
      cases hrb : rightB e.toList t
      · have hm0 : mayB e.toList t s.toList = false := by unfold mayB; rw [hrb]; rfl
        have HM0 := Lib.hid hm0; clear hm0 hrb
        go_wp2_with fail
        refine (M1.out _).mono ?_
        rintro r w3 ⟨rfl, b3⟩
        rw [HM0.out]
        have HZ := Lib.hid (HY.out.trans (b3.mono HY.out.size)); clear b3 q0 q1
        go_wp2_with fail
        refine (awake28 _).mono ?_
        rintro r w4 ⟨rfl, b4⟩
        have HZ4 := Lib.hid (HZ.out.trans (b4.mono HZ.out.size)); clear b4
        go_wp2
        go_ret
        exact ⟨rfl, HFI.out _ HZ4.out⟩
      · have hback := back e.toList t s.toList hrb
        obtain ⟨S, hS, hSl⟩ : ∃ S : ByteArray, bs (s.toList ++ e.toList ++ [10]) = .string S ∧ S.toList = s.toList ++ e.toList ++ [10] := ⟨_, rfl, list_mk _⟩
        have hSz : S.size = s.size + e.size + 1 := by rw [size_list S, hSl, size_list s, size_list e]; simp; omega
        obtain ⟨sg, n, acc, hrun⟩ : ∃ sg n acc, run e.toList t [] [] S.toList = (sg, n, acc) := ⟨_, _, _, rfl⟩
        rw [← hSl, hrun, ← size_list, ← size_list] at hback
        rw [hS] at S1
        have hfed := fun X => fed_any e S t X (by omega) (by omega) hrb sg n acc hrun
        have HFE := Lib.hid hfed; have HBA := Lib.hid hback; have HSZ := Lib.hid hSz
        clear hfed hback hS hSl hrun hrb hSz
        go_wp2_with fail
        refine (S1.out _).mono ?_
        rintro r w3 ⟨rfl, b3⟩
        have HZ := Lib.hid (HY.out.trans (b3.mono HY.out.size)); clear b3 q0 q1
        obtain ⟨q0, q1⟩ := HC.out _ HZ.out
        go_wp2_with fail
        refine (HFE.out _).mono ?_
        rintro r w4 ⟨⟨b, rfl, ls, cur, sm, hrd, hacc, hl1, hl2⟩, b4⟩
        have HZ4 := Lib.hid (HZ.out.trans (b4.mono HZ.out.size)); clear b4 q0 q1
        obtain ⟨q0, q1⟩ := HC.out _ HZ4.out
        have HRD := Lib.hid hrd; clear hrd
        have HL1 := Lib.hid hl1; have HL2 := Lib.hid hl2; have HAC := Lib.hid hacc; clear hl1 hl2 hacc
        by_cases hsg : sg = 1
        · subst hsg
          go_wp2_with fail
          refine (text_ends _ HRD.out (by have := HL2.out; have := HSZ.out; omega) (by have := HL1.out; have := HSZ.out; omega)).mono ?_
          rintro r w5 ⟨rfl, b5⟩
          rw [HAC.out]
          have HZ5 := Lib.hid (HZ4.out.trans (b5.mono HZ4.out.size)); clear b5 q0 q1
          obtain ⟨q0, q1⟩ := HC.out _ HZ5.out
          go_wp2_with fail
          refine (M1.out _).mono ?_
          rintro r w6 ⟨rfl, b6⟩
          have HZ6 := Lib.hid (HZ5.out.trans (b6.mono HZ5.out.size)); clear b6 q0 q1
          have hS1 : (1 : Int) ≤ (S.size : Int) := by have := HSZ.out; omega
          have hS2 : (S.size : Int) ≤ 2000 := by have := HSZ.out; omega
          have hsp : ((S.size : Int) - 1) = ((s.size + e.size : Nat) : Int) := by have := HSZ.out; omega
          by_cases hn : n = s.size + e.size
          · have hnb : ((n : Int) == (S.size : Int) - 1) = true := by rw [beq_iff_eq, hsp, hn]
            by_cases ha : acc = s.toList
            · have hm1 : mayB e.toList t s.toList = true := HBA.out.2 (by rw [hn, ha])
              have hab : (acc == s.toList) = true := beq_iff_eq.2 ha
              have hab2 : ((⟨acc.toArray⟩ : ByteArray).toList == s.toList) = true := by rw [list_mk acc]; exact hab
              have HM1 := Lib.hid hm1; have HSP := Lib.hid hsp; clear hsp hm1 hn ha
              rw [HM1.out]
              simp only [bs]
              go_wp2_with fail
              refine (awake28 _).mono ?_
              rintro r w7 ⟨rfl, b7⟩
              have HZ7 := Lib.hid (HZ6.out.trans (b7.mono HZ6.out.size)); clear b7
              go_wp2
              go_ret
              exact ⟨rfl, HFI.out _ HZ7.out⟩
            · have hm1 : mayB e.toList t s.toList = false := by
                cases h : mayB e.toList t s.toList
                · rfl
                · exact absurd (by have := HBA.out.1 h; simpa using (Prod.ext_iff.1 (Prod.ext_iff.1 this).2).2) ha
              have hab : (acc == s.toList) = false := beq_eq_false_iff_ne.2 ha
              have hab2 : ((⟨acc.toArray⟩ : ByteArray).toList == s.toList) = false := by rw [list_mk acc]; exact hab
              have HM1 := Lib.hid hm1; have HSP := Lib.hid hsp; clear hsp hm1 hn ha
              rw [HM1.out]
              simp only [bs]
              go_wp2_with fail
              refine (awake28 _).mono ?_
              rintro r w7 ⟨rfl, b7⟩
              have HZ7 := Lib.hid (HZ6.out.trans (b7.mono HZ6.out.size)); clear b7
              go_wp2
              go_ret
              exact ⟨rfl, HFI.out _ HZ7.out⟩
          · have hnb : ((n : Int) == (S.size : Int) - 1) = false := by rw [beq_eq_false_iff_ne, hsp]; omega
            have hm1 : mayB e.toList t s.toList = false := by
              cases h : mayB e.toList t s.toList
              · rfl
              · exact absurd (by have := HBA.out.1 h; simpa using (Prod.ext_iff.1 (Prod.ext_iff.1 this).2).1) hn
            have HM1 := Lib.hid hm1; have HSP := Lib.hid hsp; clear hsp hm1 hn
            rw [HM1.out]
            simp only [bs]
            go_wp2_with fail
            refine (awake28 _).mono ?_
            rintro r w7 ⟨rfl, b7⟩
            have HZ7 := Lib.hid (HZ6.out.trans (b7.mono HZ6.out.size)); clear b7
            go_wp2
            go_ret
            exact ⟨rfl, HFI.out _ HZ7.out⟩
        · have hsgb : (((sg : Nat) : Int) == 1) = false := beq_eq_false_iff_ne.2 (by omega)
          have hm0 : mayB e.toList t s.toList = false := by
            cases h : mayB e.toList t s.toList
            · rfl
            · exact absurd (by have := HBA.out.1 h; simpa using (Prod.ext_iff.1 this).1) hsg
          have HM0 := Lib.hid hm0; clear hm0
          go_wp2_with fail
          refine (text_not _ HRD.out (by omega)).mono ?_
          rintro r w5 ⟨rfl, rfl⟩
          go_wp2_with fail
          refine (M1.out _).mono ?_
          rintro r w6 ⟨rfl, b6⟩
          rw [HM0.out]
          have HZ6 := Lib.hid (HZ4.out.trans (b6.mono HZ4.out.size)); clear b6 q0 q1
          go_wp2_with fail
          refine (awake28 _).mono ?_
          rintro r w7 ⟨rfl, b7⟩
          have HZ7 := Lib.hid (HZ6.out.trans (b7.mono HZ6.out.size)); clear b7
          go_wp2
          go_ret
          exact ⟨rfl, HFI.out _ HZ7.out⟩
    · have hsz : decide ((1000 : Int) < (s.size : Int)) = true := decide_eq_true (by omega)
      go_enter Try.func10, Try.ntmps10
      go_wp2_with fail
      refine (awake28 _).mono ?_
      rintro r w1 ⟨rfl, hb⟩
      have HB := Lib.hid hb; clear hb
      go_wp2
      go_ret
      exact ⟨rfl, ((Below.refl _ _).alloc (Nat.le_refl _) _).trans (HB.out.mono (by simp))⟩
  · have hez : decide ((500 : Int) < (e.size : Int)) = true := decide_eq_true (by omega)
    go_enter Try.func10, Try.ntmps10
    go_wp2_with fail
    refine (awake28 _).mono ?_
    rintro r w1 ⟨rfl, hb⟩
    have HB := Lib.hid hb; clear hb
    go_wp2
    go_ret
    exact ⟨rfl, ((Below.refl _ _).alloc (Nat.le_refl _) _).trans (HB.out.mono (by simp))⟩
end Go.Proofs.Ytpefkhbejjndeaa
