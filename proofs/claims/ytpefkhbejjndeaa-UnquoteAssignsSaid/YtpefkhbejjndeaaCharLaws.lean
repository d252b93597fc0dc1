/- The program's Assign, awake, and the three laws on characters, walked. -/
import Derived.Test.YtpefkhbejjndeaaCharRef
import Derived.Test.YtpefkhbejjndeaaCharPlain2
import Derived.Deep.RegionWith
import Derived.Laws.BytesArg
namespace Go.Proofs.Ytpefkhbejjndeaa
open Go.RowKit

theorem chain {W w w' : World} (h : Below W.heap.size W w) (k : Below w.heap.size w w') : Below W.heap.size W w' := h.trans (k.mono h.size)
def BoolBelow (b : Bool) (w : World) (e : Ending) (w' : World) : Prop := e = .returned (.bool b) ∧ Below w.heap.size w w'

theorem indexByte_61 (s : ByteArray) (w : World) : Calls Try.prog 55 #[.string s, .int .u8 61] w fun e w' => e = .returned (.int .i64 (Lib.indexByte s.toList 61)) ∧ w = w' := indexByte_p s 61 w

set_option maxRecDepth 100000 in
set_option maxHeartbeats 2000000 in
theorem assign_p (s : ByteArray) (w : World) (hm : s.size ≤ 9223372036854775807) : Calls Try.prog 23 #[.string s] w fun e w' => e = .returned (.int .i64 (Chr.assign s.toList)) ∧ Below w.heap.size w w' := by
  have HA := Lib.hid (Chr.assign_eq s.toList)
  have hge := Lib.indexByte_ge s.toList 61
  have hlt := Chr.indexByte_lt 61 s.toList
  rw [← size_list] at hlt
  by_cases hi : Lib.indexByte s.toList 61 = -1
  · have HI := Lib.hid hi
    clear hge hlt
    go_enter Try.func23, Try.ntmps23
    go_wp2_with (go_at_call 55; refine (indexByte_61 _ _).mono ?_; rintro e w' ⟨rfl, rfl⟩)
    go_ret
    refine ⟨ret_int ?_, Below.refl _ _⟩
    rw [HA.out, if_pos HI.out]
  · obtain ⟨k, hk⟩ : ∃ k : Nat, Lib.indexByte s.toList 61 = k := ⟨(Lib.indexByte s.toList 61).toNat, by omega⟩
    have hks : k ≤ s.size := by rcases hlt with h | h <;> omega
    have HK := Lib.hid hk
    clear hi hge hlt
    have hsz : (s.extract 0 k).size ≤ 9223372036854775807 := by rw [size_list, take_list, List.length_take]; omega
    have HS := Lib.hid hsz; clear hsz
    cases hn : Chr.name (s.toList.take k)
    all_goals
      have HN := Lib.hid hn
      go_enter Try.func23, Try.ntmps23
      go_wp2_with (first
        | (go_at_call 55; refine (indexByte_61 _ _).mono ?_; rintro e w' ⟨rfl, rfl⟩)
        | (go_at_call 17; refine (name_p _ _ HS.out).mono ?_; rintro e w' ⟨rfl, hb⟩; rw [take_list]))
      go_ret
      refine ⟨ret_int ?_, hb⟩
      rw [HA.out, HK.out, if_neg (by omega), Int.toNat_natCast, HN.out]
      rfl

theorem lit_class (w : World) : Calls Try.prog 13 #[.int .u8 97] w fun e w' => e = .returned (.int .i64 4) ∧ w = w' := class_p 97 (by omega) w
theorem lit_name (w : World) : Calls Try.prog 17 #[.string ⟨#[97, 49]⟩] w fun e w' => e = .returned (.bool true) ∧ Below w.heap.size w w' := (name_p _ w (by decide)).mono fun e w' h => by
  rw [list_mk] at h; exact h
theorem lit_digits (w : World) : Calls Try.prog 19 #[.string ⟨#[49, 50]⟩] w fun e w' => e = .returned (.bool true) ∧ Below w.heap.size w w' := (digits_p _ w (by decide)).mono fun e w' h => by
  rw [list_mk] at h; exact h
theorem lit_plain (w : World) : Calls Try.prog 21 #[.string ⟨#[97, 61, 98]⟩] w fun e w' => e = .returned (.bool true) ∧ w = w' := (plain_p _ w (by decide)).mono fun e w' h => by
  rw [list_mk] at h; exact h
theorem lit_special (w : World) : Calls Try.prog 15 #[.int .u8 64] w fun e w' => e = .returned (.bool true) ∧ w = w' := special_p 64 (by omega) w
theorem lit_assign (w : World) : Calls Try.prog 23 #[.string ⟨#[97, 61, 98]⟩] w fun e w' => e = .returned (.int .i64 1) ∧ Below w.heap.size w w' := (assign_p _ w (by decide)).mono fun e w' h => by
  rw [list_mk] at h; exact h

set_option maxRecDepth 100000 in
set_option maxHeartbeats 2000000 in
theorem awake01 (w : World) : Calls Try.prog 12 #[] w (BoolBelow true w) := by
  go_enter Try.func12, Try.ntmps12
  go_wp2_with fail
  refine (lit_class _).mono ?_; rintro e w' ⟨rfl, rfl⟩
  go_wp2_with fail
  refine (lit_name _).mono ?_; rintro e w1 ⟨rfl, hb1⟩
  go_wp2_with fail
  refine (lit_digits _).mono ?_; rintro e w2 ⟨rfl, hb2⟩
  go_wp2_with fail
  refine (lit_plain _).mono ?_; rintro e w' ⟨rfl, rfl⟩
  go_wp2_with fail
  refine (lit_special _).mono ?_; rintro e w' ⟨rfl, rfl⟩
  go_wp2_with fail
  refine (lit_assign _).mono ?_; rintro e w3 ⟨rfl, hb3⟩
  go_wp2_with fail
  go_ret
  exact ⟨rfl, chain (chain hb1 hb2) hb3⟩

set_option maxRecDepth 100000 in
set_option maxHeartbeats 2000000 in
theorem charTells_walk (c : Nat) (hc : c < 256) (s : ByteArray) (w : World) : Calls Try.prog 3 #[.int .u8 (c : Int), .string s] w (BoolBelow true w) := by
  by_cases hs : 2000 < s.size
  · go_enter Try.func3, Try.ntmps3
    go_wp2_with fail
    refine (awake01 _).mono ?_; rintro e w1 ⟨rfl, hb1⟩
    go_wp2_with fail
    go_ret
    exact ⟨rfl, hb1⟩
  · have hm : s.size ≤ 9223372036854775807 := by omega
    go_enter Try.func3, Try.ntmps3
    go_wp2_with fail
    refine (class_p _ hc _).mono ?_; rintro e w' ⟨rfl, rfl⟩
    go_wp2_with fail
    refine (class_r _ hc _).mono ?_; rintro e w' ⟨rfl, rfl⟩
    go_wp2_with fail
    refine (special_p _ hc _).mono ?_; rintro e w' ⟨rfl, rfl⟩
    go_wp2_with fail
    refine (special_r _ _).mono ?_; rintro e w' ⟨rfl, rfl⟩
    go_wp2_with fail
    refine (name_p _ _ hm).mono ?_; rintro e w1 ⟨rfl, hb1⟩
    go_wp2_with fail
    refine (name_r _ _ hm).mono ?_; rintro e w' ⟨rfl, rfl⟩
    go_wp2_with fail
    refine (digits_p _ _ hm).mono ?_; rintro e w2 ⟨rfl, hb2⟩
    go_wp2_with fail
    refine (digits_r _ _ hm).mono ?_; rintro e w' ⟨rfl, rfl⟩
    go_wp2_with fail
    refine (plain_p _ _ hm).mono ?_; rintro e w' ⟨rfl, rfl⟩
    go_wp2_with fail
    refine (plain_r _ _ hm).mono ?_; rintro e w' ⟨rfl, rfl⟩
    go_wp2_with fail
    refine (assign_p _ _ hm).mono ?_; rintro e w3 ⟨rfl, hb3⟩
    go_wp2_with fail
    refine (assign_r _ _ hm).mono ?_; rintro e w' ⟨rfl, rfl⟩
    go_wp2_with fail
    refine (awake01 _).mono ?_; rintro e w4 ⟨rfl, hb4⟩
    go_wp2_with fail
    go_ret
    exact ⟨rfl, chain (chain (chain hb1 hb2) hb3) hb4⟩

set_option maxRecDepth 100000 in
set_option maxHeartbeats 2000000 in
theorem charAssigns_walk (s t : ByteArray) (w : World) : Calls Try.prog 5 #[.string s, .string t] w (BoolBelow true w) := by
  by_cases hs : 1000 < s.size
  · go_enter Try.func5, Try.ntmps5
    go_wp2_with fail
    refine (awake01 _).mono ?_; rintro e w1 ⟨rfl, hb1⟩
    go_wp2_with fail
    go_ret
    exact ⟨rfl, hb1⟩
  · by_cases ht : 1000 < t.size
    · go_enter Try.func5, Try.ntmps5
      go_wp2_with fail
      refine (awake01 _).mono ?_; rintro e w1 ⟨rfl, hb1⟩
      go_wp2_with fail
      go_ret
      exact ⟨rfl, hb1⟩
    · have hsz : (s ++ ByteArray.mk #[61] ++ t).size ≤ 9223372036854775807 := by simp only [ByteArray.size_append, ByteArray.size_mk']; simp; omega
      have HS := Lib.hid hsz; clear hsz
      have hms : s.size ≤ 9223372036854775807 := by omega
      have hl : (s ++ ByteArray.mk #[61] ++ t).toList = s.toList ++ [61] ++ t.toList := by rw [append_list, append_list, list_mk [61]]
      have HL := Lib.hid hl; clear hl
      cases hn : Chr.name s.toList
      · rcases Chr.assign_other (t := t.toList) hn with ha | ⟨k, ha, hk, hnk⟩
        · have HA := Lib.hid ha; clear ha
          go_enter Try.func5, Try.ntmps5
          go_wp2_with fail
          refine (assign_p _ _ HS.out).mono ?_; rintro e w1 ⟨rfl, hb1⟩; rw [HL.out, HA.out]
          go_wp2_with fail
          refine (name_p _ _ hms).mono ?_; rintro e w2 ⟨rfl, hb2⟩
          go_wp2_with fail
          refine (awake01 _).mono ?_; rintro e w3 ⟨rfl, hb3⟩
          go_wp2_with fail
          go_ret
          exact ⟨rfl, chain (chain hb1 hb2) hb3⟩
        · rw [← size_list] at hk
          have HA := Lib.hid ha; clear ha
          have hsk : (s.extract 0 k).size ≤ 9223372036854775807 := by rw [size_list, take_list, List.length_take]; omega
          have HK := Lib.hid hsk; clear hsk
          go_enter Try.func5, Try.ntmps5
          go_wp2_with fail
          refine (assign_p _ _ HS.out).mono ?_; rintro e w1 ⟨rfl, hb1⟩; rw [HL.out, HA.out]
          go_wp2_with fail
          refine (name_p _ _ hms).mono ?_; rintro e w2 ⟨rfl, hb2⟩
          go_wp2_with fail
          refine (name_p _ _ HK.out).mono ?_; rintro e w3 ⟨rfl, hb3⟩; rw [take_list]
          go_wp2_with fail
          refine (awake01 _).mono ?_; rintro e w4 ⟨rfl, hb4⟩
          go_wp2_with fail
          go_ret
          exact ⟨rfl, chain (chain (chain hb1 hb2) hb3) hb4⟩
      · have ha := Chr.assign_name (t := t.toList) hn
        rw [← size_list] at ha
        have HA := Lib.hid ha; clear ha
        go_enter Try.func5, Try.ntmps5
        go_wp2_with fail
        refine (assign_p _ _ HS.out).mono ?_; rintro e w1 ⟨rfl, hb1⟩; rw [HL.out, HA.out]
        go_wp2_with fail
        refine (name_p _ _ hms).mono ?_; rintro e w2 ⟨rfl, hb2⟩
        go_wp2_with fail
        refine (awake01 _).mono ?_; rintro e w3 ⟨rfl, hb3⟩
        go_wp2_with fail
        go_ret
        exact ⟨rfl, chain (chain hb1 hb2) hb3⟩

theorem one_byte (c : Nat) (W : World) : (convert 28 9 (.slice (some ⟨W.heap.size, 0, none⟩) 1 1)).run Try.prog (W.alloc (.cells #[.int .u8 (c : Int)] 5)) = .ok (.string (ByteArray.mk #[UInt8.ofNat c])) (W.alloc (.cells #[.int .u8 (c : Int)] 5)) := by
  refine run_convert_bytes_arg (P := Try.prog) _ 28 5 Try.underlying28 Try.underlying5 W.heap.size 0 1 1 [(c : Int)] rfl ?_ 9 Try.underlying9
  intro i hi
  obtain rfl : i = 0 := by omega
  simp

set_option maxRecDepth 100000 in
set_option maxHeartbeats 2000000 in
theorem charJoins_walk (s t : ByteArray) (c : Nat) (hc : c < 256) (w : World) : Calls Try.prog 4 #[.string s, .string t, .int .u8 (c : Int)] w (BoolBelow true w) := by
  by_cases hs : 1000 < s.size
  · go_enter Try.func4, Try.ntmps4
    go_wp2_with fail
    refine (awake01 _).mono ?_; rintro e w1 ⟨rfl, hb1⟩
    go_wp2_with fail
    go_ret
    exact ⟨rfl, hb1⟩
  by_cases ht : 1000 < t.size
  · go_enter Try.func4, Try.ntmps4
    go_wp2_with fail
    refine (awake01 _).mono ?_; rintro e w1 ⟨rfl, hb1⟩
    go_wp2_with fail
    go_ret
    exact ⟨rfl, hb1⟩
  have hms : s.size ≤ 9223372036854775807 := by omega
  have hmt : t.size ≤ 9223372036854775807 := by omega
  have hsz : (s ++ t).size ≤ 9223372036854775807 := by simp only [ByteArray.size_append]; omega
  have HS := Lib.hid hsz; clear hsz
  have hsc : (s ++ ByteArray.mk #[UInt8.ofNat c] ++ t).size ≤ 9223372036854775807 := by simp only [ByteArray.size_append, ByteArray.size_mk']; simp; omega
  have HSC := Lib.hid hsc; clear hsc
  have HLC := Lib.hid (show (s ++ ByteArray.mk #[UInt8.ofNat c] ++ t).toList = s.toList ++ [UInt8.ofNat c] ++ t.toList by rw [append_list, append_list, list_mk [UInt8.ofNat c]])
  have h3 : (Chr.name s.toList = false) ∨ (Chr.name s.toList = true ∧ Chr.name t.toList = true ∧ Chr.name (s.toList ++ t.toList) = true) ∨
      (Chr.name s.toList = true ∧ Chr.name t.toList = false ∧ Chr.digits t.toList = true ∧ Chr.name (s.toList ++ t.toList) = true) ∨ (Chr.name s.toList = true ∧ Chr.name t.toList = false ∧ Chr.digits t.toList = false) := by
    cases hns : Chr.name s.toList
    · exact .inl rfl
    · cases hnt : Chr.name t.toList
      · cases hdt : Chr.digits t.toList
        · exact .inr (.inr (.inr ⟨rfl, rfl, rfl⟩))
        · exact .inr (.inr (.inl ⟨rfl, rfl, rfl, Chr.name_append hns (.inr hdt)⟩))
      · exact .inr (.inl ⟨rfl, rfl, Chr.name_append hns (.inl hnt)⟩)
  have h8 : (Chr.name s.toList = true ∧ Chr.plain s.toList = true) ∨ (Chr.name s.toList = false ∧ Chr.digits s.toList = true ∧ Chr.plain s.toList = true) ∨ (Chr.name s.toList = false ∧ Chr.digits s.toList = false ∧ Chr.plain s.toList = true) ∨ (Chr.name s.toList = false ∧ Chr.digits s.toList = false ∧ Chr.plain s.toList = false) := by
    cases hns : Chr.name s.toList
    · cases hds : Chr.digits s.toList
      · cases hps : Chr.plain s.toList
        · exact .inr (.inr (.inr ⟨rfl, rfl, rfl⟩))
        · exact .inr (.inr (.inl ⟨rfl, rfl, rfl⟩))
      · exact .inr (.inl ⟨rfl, rfl, Chr.digits_plain hds⟩)
    · exact .inl ⟨rfl, Chr.name_plain hns⟩
  have h9 : Chr.plain t.toList = false ∨ (Chr.plain t.toList = true ∧ (Chr.plain s.toList = true → Chr.plain (s.toList ++ t.toList) = true)) := by
    cases hpt : Chr.plain t.toList
    · exact .inl rfl
    · exact .inr ⟨rfl, fun h => Chr.plain_append h hpt⟩
  have H8 := Lib.hid h8; clear h8
  have H9 := Lib.hid h9; clear h9
  have hcl : (((Chr.cls c : Nat) : Int) != 3) = false ∨ (((Chr.cls c : Nat) : Int) != 3) = true ∧ (((Chr.cls c : Nat) : Int) != 4) = false ∨ (((Chr.cls c : Nat) : Int) != 3) = true ∧ (((Chr.cls c : Nat) : Int) != 4) = true ∧ (((Chr.cls c : Nat) : Int) != 8) = false ∨
      ((((Chr.cls c : Nat) : Int) != 3) = true ∧ (((Chr.cls c : Nat) : Int) != 4) = true ∧ (((Chr.cls c : Nat) : Int) != 8) = true ∧ Chr.plain (s.toList ++ [UInt8.ofNat c] ++ t.toList) = false) := by
    have e3 : (((Chr.cls c : Nat) : Int) != 3) = (Chr.cls c != 3) := cls_ne _ 3
    have e4 : (((Chr.cls c : Nat) : Int) != 4) = (Chr.cls c != 4) := cls_ne _ 4
    have e8 : (((Chr.cls c : Nat) : Int) != 8) = (Chr.cls c != 8) := cls_ne _ 8
    rw [e3, e4, e8]
    cases h3 : Chr.cls c != 3
    · exact .inl rfl
    · cases h4 : Chr.cls c != 4
      · exact .inr (.inl ⟨rfl, rfl⟩)
      · cases h8 : Chr.cls c != 8
        · exact .inr (.inr (.inl ⟨rfl, rfl, rfl⟩))
        · refine .inr (.inr (.inr ⟨rfl, rfl, rfl, Chr.plain_sign ?_⟩))
          have ec : (UInt8.ofNat c).toNat = c := by rw [UInt8.toNat_ofNat']; omega
          rw [ec]
          unfold Chr.okPlain
          simp [bne] at h3 h4 h8
          simp [h3, h4, h8]
  have HCL := Lib.hid hcl; clear hcl
  rcases h3 with hns | ⟨hns, hnt, hnst⟩ | ⟨hns, hnt, hdt, hnst⟩ | ⟨hns, hnt, hdt⟩
  all_goals
    have hB : Below w.heap.size w w := Below.refl _ _
    go_enter Try.func4, Try.ntmps4
    go_wp2_with fail
    refine (name_p _ _ hms).mono ?_; rintro e w1 ⟨rfl, hb⟩
    replace hB := chain hB hb; clear hb
    go_wp2_with (first
      | (go_at_call_of 17 (Value.string t); refine (name_p _ _ hmt).mono ?_; rintro e w1 ⟨rfl, hb⟩; replace hB := chain hB hb; clear hb)
      | (go_at_call_of 17 (Value.string (s ++ t)); refine (name_p _ _ HS.out).mono ?_; rintro e w1 ⟨rfl, hb⟩; replace hB := chain hB hb; clear hb; rw [append_list])
      | (go_at_call 19; refine (digits_p _ _ hmt).mono ?_; rintro e w1 ⟨rfl, hb⟩; replace hB := chain hB hb; clear hb))
    refine (class_p _ hc _).mono ?_; rintro e w' ⟨rfl, rfl⟩
    rcases HCL.out with h3 | ⟨h3, h4⟩ | ⟨h3, h4, h8⟩ | ⟨h3, h4, h8, hpc⟩
    all_goals
      try have HPC := Lib.hid hpc
      have hcv := one_byte c
      go_wp2_with (go_at_call_of 21 (Value.string (s ++ ByteArray.mk #[UInt8.ofNat c] ++ t)); refine (plain_p _ _ HSC.out).mono ?_; rintro e w' ⟨rfl, rfl⟩; rw [HLC.out, HPC.out])
      clear hcv
      refine (name_p _ _ hms).mono ?_; rintro e w1 ⟨rfl, hb⟩
      replace hB := chain (by first | exact hB | exact hB.alloc hB.size _) hb; clear hb
      rcases H8.out with ⟨g1, g3⟩ | ⟨g1, g2, g3⟩ | ⟨g1, g2, g3⟩ | ⟨g1, g2, g3⟩
      all_goals first | (rw [hns] at g1; cases g1; done) | skip
      all_goals clear g1
      all_goals rcases H9.out with g4 | ⟨g4, g5⟩
      all_goals
        try replace g5 := g5 g3
        go_wp2_with (first
          | (go_at_call 19; refine (digits_p _ _ hms).mono ?_; rintro e w1 ⟨rfl, hb⟩; replace hB := chain hB hb; clear hb)
          | (go_at_call_of 21 (Value.string s); refine (plain_p _ _ hms).mono ?_; rintro e w' ⟨rfl, rfl⟩)
          | (go_at_call_of 21 (Value.string t); refine (plain_p _ _ hmt).mono ?_; rintro e w' ⟨rfl, rfl⟩)
          | (go_at_call_of 21 (Value.string (s ++ t)); refine (plain_p _ _ HS.out).mono ?_; rintro e w' ⟨rfl, rfl⟩; rw [append_list])
          | (go_at_call 12; refine (awake01 _).mono ?_; rintro e w1 ⟨rfl, hb⟩; replace hB := chain hB hb; clear hb))
        go_ret
        exact ⟨rfl, hB⟩
end Go.Proofs.Ytpefkhbejjndeaa
