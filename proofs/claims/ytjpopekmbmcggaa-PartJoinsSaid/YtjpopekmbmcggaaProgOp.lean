/- What part answers of parameters' names and operators, of arithmetic, of what a part may have, of what meets. -/
import Derived.Test.YtjpopekmbmcggaaProgLit
import Derived.Test.YtjpopekmbmcggaaRefOne
import Derived.Lib.Strings
namespace Go.Proofs.Ytjpopekmbmcggaa
open Go.RowKit

set_option maxRecDepth 100000 in
set_option maxHeartbeats 4000000 in
theorem named_p (t : ByteArray) (w : World) (hm : t.size ≤ 562949953421312) : Calls Try.prog 47 #[.string t] w fun e w' => e = .returned (.bool (namedB t.toList)) ∧ Below w.heap.size w w' := by
  cases hN : Chr.name t.toList
  · have HN := Lib.hid hN
    cases hD : Chr.digits t.toList
    · have HD := Lib.hid hD
      by_cases h1 : t.size = 1
      · have hs1 : ((t.size : Int) == 1) = true := by rw [beq_iff_eq]; omega
        have hs0 : (0 : Int) < (t.size : Int) := by omega
        have hs2 : 0 < t.size := by omega
        have hlen : (t.toList.length == 1) = true := by rw [← size_list, h1]; rfl
        have hhd : hd0 t.toList = t[0] := hd0_get t hs2
        cases hS : Chr.special t[0].toNat
        · have HS := Lib.hid hS
          have HF := Lib.hid (show namedB t.toList = false by unfold namedB; rw [hN, hD, hlen, hhd, hS]; rfl)
          clear hN
          go_enter Try.func47, Try.ntmps47
          clear hD hlen hhd hS h1
          go_wp2_with fail
          refine (name_p t _ (by omega)).mono ?_
          rintro e w1 ⟨rfl, hb1⟩
          rw [HN.out]
          have HB1 := Lib.hid hb1; clear hb1
          go_wp2_with fail
          refine (digits_p t _ (by omega)).mono ?_
          rintro e w2 ⟨rfl, hb2⟩
          rw [HD.out]
          have HB2 := Lib.hid (HB1.out.trans (hb2.mono HB1.out.size)); clear hb2
          go_wp2_with fail
          refine (special_p t[0].toNat (byte_lt t 0 hs2) _).mono ?_
          rintro e w3 ⟨rfl, rfl⟩
          rw [HS.out]
          go_wp2
          go_ret
          exact ⟨by rw [HF.out]; rfl, HB2.out⟩
        · have HS := Lib.hid hS
          have HF := Lib.hid (show namedB t.toList = true by unfold namedB; rw [hN, hD, hlen, hhd, hS]; rfl)
          clear hN
          go_enter Try.func47, Try.ntmps47
          clear hD hlen hhd hS h1
          go_wp2_with fail
          refine (name_p t _ (by omega)).mono ?_
          rintro e w1 ⟨rfl, hb1⟩
          rw [HN.out]
          have HB1 := Lib.hid hb1; clear hb1
          go_wp2_with fail
          refine (digits_p t _ (by omega)).mono ?_
          rintro e w2 ⟨rfl, hb2⟩
          rw [HD.out]
          have HB2 := Lib.hid (HB1.out.trans (hb2.mono HB1.out.size)); clear hb2
          go_wp2_with fail
          refine (special_p t[0].toNat (byte_lt t 0 hs2) _).mono ?_
          rintro e w3 ⟨rfl, rfl⟩
          rw [HS.out]
          go_wp2
          go_ret
          exact ⟨by rw [HF.out]; rfl, HB2.out⟩
      · have hs1 : ((t.size : Int) == 1) = false := by rw [beq_eq_false_iff_ne]; omega
        have hlen : (t.toList.length == 1) = false := by rw [← size_list]; exact beq_eq_false_iff_ne.2 h1
        have HF := Lib.hid (show namedB t.toList = false by unfold namedB; rw [hN, hD, hlen]; rfl)
        clear hN
        go_enter Try.func47, Try.ntmps47
        clear hD hlen h1
        go_wp2_with fail
        refine (name_p t _ (by omega)).mono ?_
        rintro e w1 ⟨rfl, hb1⟩
        rw [HN.out]
        have HB1 := Lib.hid hb1; clear hb1
        go_wp2_with fail
        refine (digits_p t _ (by omega)).mono ?_
        rintro e w2 ⟨rfl, hb2⟩
        rw [HD.out]
        have HB2 := Lib.hid (HB1.out.trans (hb2.mono HB1.out.size)); clear hb2
        go_wp2
        go_ret
        exact ⟨by rw [HF.out]; rfl, HB2.out⟩
    · have HD := Lib.hid hD
      have HF := Lib.hid (show namedB t.toList = true by unfold namedB; rw [hN, hD]; rfl)
      clear hN
      go_enter Try.func47, Try.ntmps47
      clear hD
      go_wp2_with fail
      refine (name_p t _ (by omega)).mono ?_
      rintro e w1 ⟨rfl, hb1⟩
      rw [HN.out]
      have HB1 := Lib.hid hb1; clear hb1
      go_wp2_with fail
      refine (digits_p t _ (by omega)).mono ?_
      rintro e w2 ⟨rfl, hb2⟩
      rw [HD.out]
      have HB2 := Lib.hid (HB1.out.trans (hb2.mono HB1.out.size)); clear hb2
      go_wp2
      go_ret
      exact ⟨by rw [HF.out]; rfl, HB2.out⟩
  · have HN := Lib.hid hN
    have HF := Lib.hid (show namedB t.toList = true by unfold namedB; rw [hN]; rfl)
    clear hN
    go_enter Try.func47, Try.ntmps47
    go_wp2_with fail
    refine (name_p t _ (by omega)).mono ?_
    rintro e w1 ⟨rfl, hb1⟩
    rw [HN.out]
    have HB1 := Lib.hid hb1; clear hb1
    go_wp2
    go_ret
    exact ⟨by rw [HF.out]; rfl, HB1.out⟩

theorem trim_ne (l v : List UInt8) (h1 : ¬ l = v) (h2 : ¬ l = 58 :: v) : Lib.trimPrefix l [58] ≠ v := by
  unfold Lib.trimPrefix Lib.hasPrefix
  cases l with
  | nil => exact h1
  | cons c l =>
    by_cases hc : (58 : UInt8) = c
    · subst hc
      simp [List.isPrefixOf]
      intro e; exact h2 (by rw [e])
    · have : (58 == c) = false := beq_eq_false_iff_ne.2 hc
      simp [List.isPrefixOf, this]
      exact h1
set_option maxRecDepth 100000 in
set_option maxHeartbeats 4000000 in
theorem operator_p (o : ByteArray) (w : World) : Calls Try.prog 48 #[.string o] w fun e w' => e = .returned (.bool (opB o.toList)) ∧ w = w' := by
  by_cases o58_45 : o = ⟨#[58, 45]⟩
  · subst o58_45
    have HF := Lib.hid (show opB (⟨#[58, 45]⟩ : ByteArray).toList = true by rw [show (⟨#[58, 45]⟩ : ByteArray).toList = [58, 45] from list_mk [58, 45]]; rfl)
    go_enter Try.func48, Try.ntmps48
    go_wp2_with fail
    refine (Try.strings_TrimPrefix _ ⟨#[58]⟩ _).mono ?_
    rintro e w1 ⟨rfl, rfl⟩
    rw [show (⟨(Lib.trimPrefix (⟨#[58, 45]⟩ : ByteArray).data.toList (⟨#[58]⟩ : ByteArray).data.toList).toArray⟩ : ByteArray) = ⟨#[45]⟩ from rfl]
    go_wp2
    go_ret
    exact ⟨by rw [HF.out]; rfl, rfl⟩
  · by_cases o45 : o = ⟨#[45]⟩
    · subst o45
      have HF := Lib.hid (show opB (⟨#[45]⟩ : ByteArray).toList = true by rw [show (⟨#[45]⟩ : ByteArray).toList = [45] from list_mk [45]]; rfl)
      go_enter Try.func48, Try.ntmps48
      go_wp2_with fail
      refine (Try.strings_TrimPrefix _ ⟨#[58]⟩ _).mono ?_
      rintro e w1 ⟨rfl, rfl⟩
      rw [show (⟨(Lib.trimPrefix (⟨#[45]⟩ : ByteArray).data.toList (⟨#[58]⟩ : ByteArray).data.toList).toArray⟩ : ByteArray) = ⟨#[45]⟩ from rfl]
      go_wp2
      go_ret
      exact ⟨by rw [HF.out]; rfl, rfl⟩
    · by_cases o58_61 : o = ⟨#[58, 61]⟩
      · subst o58_61
        have HF := Lib.hid (show opB (⟨#[58, 61]⟩ : ByteArray).toList = true by rw [show (⟨#[58, 61]⟩ : ByteArray).toList = [58, 61] from list_mk [58, 61]]; rfl)
        go_enter Try.func48, Try.ntmps48
        go_wp2_with fail
        refine (Try.strings_TrimPrefix _ ⟨#[58]⟩ _).mono ?_
        rintro e w1 ⟨rfl, rfl⟩
        rw [show (⟨(Lib.trimPrefix (⟨#[58, 61]⟩ : ByteArray).data.toList (⟨#[58]⟩ : ByteArray).data.toList).toArray⟩ : ByteArray) = ⟨#[61]⟩ from rfl]
        go_wp2
        go_ret
        exact ⟨by rw [HF.out]; rfl, rfl⟩
      · by_cases o61 : o = ⟨#[61]⟩
        · subst o61
          have HF := Lib.hid (show opB (⟨#[61]⟩ : ByteArray).toList = true by rw [show (⟨#[61]⟩ : ByteArray).toList = [61] from list_mk [61]]; rfl)
          go_enter Try.func48, Try.ntmps48
          go_wp2_with fail
          refine (Try.strings_TrimPrefix _ ⟨#[58]⟩ _).mono ?_
          rintro e w1 ⟨rfl, rfl⟩
          rw [show (⟨(Lib.trimPrefix (⟨#[61]⟩ : ByteArray).data.toList (⟨#[58]⟩ : ByteArray).data.toList).toArray⟩ : ByteArray) = ⟨#[61]⟩ from rfl]
          go_wp2
          go_ret
          exact ⟨by rw [HF.out]; rfl, rfl⟩
        · by_cases o58_63 : o = ⟨#[58, 63]⟩
          · subst o58_63
            have HF := Lib.hid (show opB (⟨#[58, 63]⟩ : ByteArray).toList = true by rw [show (⟨#[58, 63]⟩ : ByteArray).toList = [58, 63] from list_mk [58, 63]]; rfl)
            go_enter Try.func48, Try.ntmps48
            go_wp2_with fail
            refine (Try.strings_TrimPrefix _ ⟨#[58]⟩ _).mono ?_
            rintro e w1 ⟨rfl, rfl⟩
            rw [show (⟨(Lib.trimPrefix (⟨#[58, 63]⟩ : ByteArray).data.toList (⟨#[58]⟩ : ByteArray).data.toList).toArray⟩ : ByteArray) = ⟨#[63]⟩ from rfl]
            go_wp2
            go_ret
            exact ⟨by rw [HF.out]; rfl, rfl⟩
          · by_cases o63 : o = ⟨#[63]⟩
            · subst o63
              have HF := Lib.hid (show opB (⟨#[63]⟩ : ByteArray).toList = true by rw [show (⟨#[63]⟩ : ByteArray).toList = [63] from list_mk [63]]; rfl)
              go_enter Try.func48, Try.ntmps48
              go_wp2_with fail
              refine (Try.strings_TrimPrefix _ ⟨#[58]⟩ _).mono ?_
              rintro e w1 ⟨rfl, rfl⟩
              rw [show (⟨(Lib.trimPrefix (⟨#[63]⟩ : ByteArray).data.toList (⟨#[58]⟩ : ByteArray).data.toList).toArray⟩ : ByteArray) = ⟨#[63]⟩ from rfl]
              go_wp2
              go_ret
              exact ⟨by rw [HF.out]; rfl, rfl⟩
            · by_cases o58_43 : o = ⟨#[58, 43]⟩
              · subst o58_43
                have HF := Lib.hid (show opB (⟨#[58, 43]⟩ : ByteArray).toList = true by rw [show (⟨#[58, 43]⟩ : ByteArray).toList = [58, 43] from list_mk [58, 43]]; rfl)
                go_enter Try.func48, Try.ntmps48
                go_wp2_with fail
                refine (Try.strings_TrimPrefix _ ⟨#[58]⟩ _).mono ?_
                rintro e w1 ⟨rfl, rfl⟩
                rw [show (⟨(Lib.trimPrefix (⟨#[58, 43]⟩ : ByteArray).data.toList (⟨#[58]⟩ : ByteArray).data.toList).toArray⟩ : ByteArray) = ⟨#[43]⟩ from rfl]
                go_wp2
                go_ret
                exact ⟨by rw [HF.out]; rfl, rfl⟩
              · by_cases o43 : o = ⟨#[43]⟩
                · subst o43
                  have HF := Lib.hid (show opB (⟨#[43]⟩ : ByteArray).toList = true by rw [show (⟨#[43]⟩ : ByteArray).toList = [43] from list_mk [43]]; rfl)
                  go_enter Try.func48, Try.ntmps48
                  go_wp2_with fail
                  refine (Try.strings_TrimPrefix _ ⟨#[58]⟩ _).mono ?_
                  rintro e w1 ⟨rfl, rfl⟩
                  rw [show (⟨(Lib.trimPrefix (⟨#[43]⟩ : ByteArray).data.toList (⟨#[58]⟩ : ByteArray).data.toList).toArray⟩ : ByteArray) = ⟨#[43]⟩ from rfl]
                  go_wp2
                  go_ret
                  exact ⟨by rw [HF.out]; rfl, rfl⟩
                · by_cases o37 : o = ⟨#[37]⟩
                  · subst o37
                    have HF := Lib.hid (show opB (⟨#[37]⟩ : ByteArray).toList = true by rw [show (⟨#[37]⟩ : ByteArray).toList = [37] from list_mk [37]]; rfl)
                    go_enter Try.func48, Try.ntmps48
                    go_wp2_with fail
                    refine (Try.strings_TrimPrefix _ ⟨#[58]⟩ _).mono ?_
                    rintro e w1 ⟨rfl, rfl⟩
                    rw [show (⟨(Lib.trimPrefix (⟨#[37]⟩ : ByteArray).data.toList (⟨#[58]⟩ : ByteArray).data.toList).toArray⟩ : ByteArray) = ⟨#[37]⟩ from rfl]
                    go_wp2
                    go_ret
                    exact ⟨by rw [HF.out]; rfl, rfl⟩
                  · by_cases o37_37 : o = ⟨#[37, 37]⟩
                    · subst o37_37
                      have HF := Lib.hid (show opB (⟨#[37, 37]⟩ : ByteArray).toList = true by rw [show (⟨#[37, 37]⟩ : ByteArray).toList = [37, 37] from list_mk [37, 37]]; rfl)
                      go_enter Try.func48, Try.ntmps48
                      go_wp2_with fail
                      refine (Try.strings_TrimPrefix _ ⟨#[58]⟩ _).mono ?_
                      rintro e w1 ⟨rfl, rfl⟩
                      rw [show (⟨(Lib.trimPrefix (⟨#[37, 37]⟩ : ByteArray).data.toList (⟨#[58]⟩ : ByteArray).data.toList).toArray⟩ : ByteArray) = ⟨#[37, 37]⟩ from rfl]
                      go_wp2
                      go_ret
                      exact ⟨by rw [HF.out]; rfl, rfl⟩
                    · by_cases o35 : o = ⟨#[35]⟩
                      · subst o35
                        have HF := Lib.hid (show opB (⟨#[35]⟩ : ByteArray).toList = true by rw [show (⟨#[35]⟩ : ByteArray).toList = [35] from list_mk [35]]; rfl)
                        go_enter Try.func48, Try.ntmps48
                        go_wp2_with fail
                        refine (Try.strings_TrimPrefix _ ⟨#[58]⟩ _).mono ?_
                        rintro e w1 ⟨rfl, rfl⟩
                        rw [show (⟨(Lib.trimPrefix (⟨#[35]⟩ : ByteArray).data.toList (⟨#[58]⟩ : ByteArray).data.toList).toArray⟩ : ByteArray) = ⟨#[35]⟩ from rfl]
                        go_wp2
                        go_ret
                        exact ⟨by rw [HF.out]; rfl, rfl⟩
                      · by_cases o35_35 : o = ⟨#[35, 35]⟩
                        · subst o35_35
                          have HF := Lib.hid (show opB (⟨#[35, 35]⟩ : ByteArray).toList = true by rw [show (⟨#[35, 35]⟩ : ByteArray).toList = [35, 35] from list_mk [35, 35]]; rfl)
                          go_enter Try.func48, Try.ntmps48
                          go_wp2_with fail
                          refine (Try.strings_TrimPrefix _ ⟨#[58]⟩ _).mono ?_
                          rintro e w1 ⟨rfl, rfl⟩
                          rw [show (⟨(Lib.trimPrefix (⟨#[35, 35]⟩ : ByteArray).data.toList (⟨#[58]⟩ : ByteArray).data.toList).toArray⟩ : ByteArray) = ⟨#[35, 35]⟩ from rfl]
                          go_wp2
                          go_ret
                          exact ⟨by rw [HF.out]; rfl, rfl⟩
                        · have n58_45 : ¬ o.toList = [58, 45] := fun e => o58_45 (ext_list (by rw [e]; exact (list_mk [58, 45]).symm))
                          have n45 : ¬ o.toList = [45] := fun e => o45 (ext_list (by rw [e]; exact (list_mk [45]).symm))
                          have n58_61 : ¬ o.toList = [58, 61] := fun e => o58_61 (ext_list (by rw [e]; exact (list_mk [58, 61]).symm))
                          have n61 : ¬ o.toList = [61] := fun e => o61 (ext_list (by rw [e]; exact (list_mk [61]).symm))
                          have n58_63 : ¬ o.toList = [58, 63] := fun e => o58_63 (ext_list (by rw [e]; exact (list_mk [58, 63]).symm))
                          have n63 : ¬ o.toList = [63] := fun e => o63 (ext_list (by rw [e]; exact (list_mk [63]).symm))
                          have n58_43 : ¬ o.toList = [58, 43] := fun e => o58_43 (ext_list (by rw [e]; exact (list_mk [58, 43]).symm))
                          have n43 : ¬ o.toList = [43] := fun e => o43 (ext_list (by rw [e]; exact (list_mk [43]).symm))
                          have n37 : ¬ o.toList = [37] := fun e => o37 (ext_list (by rw [e]; exact (list_mk [37]).symm))
                          have n37_37 : ¬ o.toList = [37, 37] := fun e => o37_37 (ext_list (by rw [e]; exact (list_mk [37, 37]).symm))
                          have n35 : ¬ o.toList = [35] := fun e => o35 (ext_list (by rw [e]; exact (list_mk [35]).symm))
                          have n35_35 : ¬ o.toList = [35, 35] := fun e => o35_35 (ext_list (by rw [e]; exact (list_mk [35, 35]).symm))
                          have u58_45 : ([58, 45] == o.toList) = false := beq_eq_false_iff_ne.2 fun e => n58_45 e.symm
                          have u45 : ([45] == o.toList) = false := beq_eq_false_iff_ne.2 fun e => n45 e.symm
                          have u58_61 : ([58, 61] == o.toList) = false := beq_eq_false_iff_ne.2 fun e => n58_61 e.symm
                          have u61 : ([61] == o.toList) = false := beq_eq_false_iff_ne.2 fun e => n61 e.symm
                          have u58_63 : ([58, 63] == o.toList) = false := beq_eq_false_iff_ne.2 fun e => n58_63 e.symm
                          have u63 : ([63] == o.toList) = false := beq_eq_false_iff_ne.2 fun e => n63 e.symm
                          have u58_43 : ([58, 43] == o.toList) = false := beq_eq_false_iff_ne.2 fun e => n58_43 e.symm
                          have u43 : ([43] == o.toList) = false := beq_eq_false_iff_ne.2 fun e => n43 e.symm
                          have u37 : ([37] == o.toList) = false := beq_eq_false_iff_ne.2 fun e => n37 e.symm
                          have u37_37 : ([37, 37] == o.toList) = false := beq_eq_false_iff_ne.2 fun e => n37_37 e.symm
                          have u35 : ([35] == o.toList) = false := beq_eq_false_iff_ne.2 fun e => n35 e.symm
                          have u35_35 : ([35, 35] == o.toList) = false := beq_eq_false_iff_ne.2 fun e => n35_35 e.symm
                          have HF := Lib.hid (show opB o.toList = false by unfold opB opsL; simp only [List.any_cons, List.any_nil, u58_45, u45, u58_61, u61, u58_63, u63, u58_43, u43, u37, u37_37, u35, u35_35]; rfl)
                          clear u58_45 u45 u58_61 u61 u58_63 u63 u58_43 u43 u37 u37_37 u35 u35_35
                          have trim : ∀ v : List UInt8, ¬ o.toList = v → ¬ o.toList = 58 :: v → ((⟨(Lib.trimPrefix o.data.toList (⟨#[58]⟩ : ByteArray).data.toList).toArray⟩ : ByteArray).toList == v) = false := fun v h1 h2 => by
                            rw [beq_eq_false_iff_ne, list_mk, ← Lib.toList_data, show (⟨#[58]⟩ : ByteArray).data.toList = [58] from rfl]
                            exact trim_ne o.toList v h1 h2
                          have q45 := trim [45] n45 n58_45
                          have q61 := trim [61] n61 n58_61
                          have q63 := trim [63] n63 n58_63
                          have q43 := trim [43] n43 n58_43
                          have r37 : (o.toList == [37]) = false := beq_eq_false_iff_ne.2 n37
                          have r37_37 : (o.toList == [37, 37]) = false := beq_eq_false_iff_ne.2 n37_37
                          have r35 : (o.toList == [35]) = false := beq_eq_false_iff_ne.2 n35
                          have r35_35 : (o.toList == [35, 35]) = false := beq_eq_false_iff_ne.2 n35_35
                          clear trim n58_45 n45 n58_61 n61 n58_63 n63 n58_43 n43 n37 n37_37 n35 n35_35 o58_45 o45 o58_61 o61 o58_63 o63 o58_43 o43 o37 o37_37 o35 o35_35
                          go_enter Try.func48, Try.ntmps48
                          go_wp2_with fail
                          refine (Try.strings_TrimPrefix _ ⟨#[58]⟩ _).mono ?_
                          rintro e w1 ⟨rfl, rfl⟩
                          generalize (⟨(Lib.trimPrefix o.data.toList (⟨#[58]⟩ : ByteArray).data.toList).toArray⟩ : ByteArray) = z at *
                          go_wp2
                          go_ret
                          exact ⟨by rw [HF.out]; rfl, rfl⟩

end Go.Proofs.Ytjpopekmbmcggaa
