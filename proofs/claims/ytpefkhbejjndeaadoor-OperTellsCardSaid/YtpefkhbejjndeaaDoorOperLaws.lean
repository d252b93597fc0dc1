/- The two laws on operators, walked. -/
import Derived.Test.YtpefkhbejjndeaaDoorOperAwake
import Derived.Test.YtpefkhbejjndeaaDoorOperPlain3
namespace Go.Proofs.YtpefkhbejjndeaaDoor
open Go.RowKit

set_option maxHeartbeats 2000000 in
theorem tells_walk (op : Int) (s : ByteArray) (w : World) (ht : TextsAt w) : Calls Tryd.prog 3 #[.int .i64 op, .string s] w (BoolBelow true w) := by
  by_cases hs : 1000 < s.size
  · go_enter Tryd.func3, Tryd.ntmps3
    go_wp2_with fail
    refine (awake_p _ ht).mono ?_; rintro e w1 ⟨rfl, hb1⟩
    go_wp2_with fail
    go_ret
    exact ⟨rfl, hb1⟩
  · go_enter Tryd.func3, Tryd.ntmps3
    go_wp2_with fail
    refine (text_p _ _ ht).mono ?_; rintro e w' ⟨rfl, rfl⟩; unfold bs
    go_wp2_with fail
    refine (text_r _ _).mono ?_; rintro e w' ⟨rfl, rfl⟩; unfold bs
    go_wp2_with fail
    refine (find_p _ _ ht).mono ?_; rintro e w' ⟨rfl, rfl⟩
    go_wp2_with fail
    refine (find_r _ _).mono ?_; rintro e w' ⟨rfl, rfl⟩
    go_wp2_with fail
    refine (more_p _ _ ht).mono ?_; rintro e w1 ⟨A1, c1, rfl, hr1, hc1, hb1⟩
    have ht1 := ht.below hb1
    go_wp2_with fail
    refine (more_r _ _).mono ?_; rintro e w2 ⟨A2, c2, rfl, hr2, hc2, hb2⟩
    have ht2 := ht1.below hb2
    go_wp2_with fail
    refine (ints_r _ _ _ _ _ _ _ _ (hr1.below hb2) hr2 ?_).mono ?_
    · exact Ope.more_len _
    rintro e w3 ⟨rfl, hb3⟩
    have ht3 := ht2.below hb3
    go_wp2_with fail
    refine (long_p _ _ ht3).mono ?_; rintro e w' ⟨rfl, rfl⟩
    go_wp2_with fail
    refine (long_r _ _).mono ?_; rintro e w' ⟨rfl, rfl⟩
    go_wp2_with fail
    refine (whole_p _ _ ht3).mono ?_; rintro e w4 ⟨rfl, hb4⟩
    have ht4 := ht3.below hb4
    go_wp2_with fail
    refine (whole_r _ _).mono ?_; rintro e w5 ⟨rfl, hb5⟩
    have ht5 := ht4.below hb5
    go_wp2_with fail
    refine (redir_p _ _).mono ?_; rintro e w' ⟨rfl, rfl⟩
    go_wp2_with fail
    refine (redir_r _ _).mono ?_; rintro e w' ⟨rfl, rfl⟩
    go_wp2_with fail
    refine (awake_p _ ht5).mono ?_; rintro e w6 ⟨rfl, hb6⟩
    go_wp2_with fail
    go_ret
    refine ⟨rfl, ?_⟩
    have s1 := hb1.size
    have s2 := hb2.size
    have s3 := hb3.size
    have s4 := hb4.size
    have s5 := hb5.size
    exact ((((hb1.trans (hb2.mono (by omega))).trans (hb3.mono (by omega))).trans (hb4.mono (by omega))).trans (hb5.mono (by omega))).trans (hb6.mono (by omega))

set_option maxHeartbeats 2000000 in
theorem begins_walk (op : Int) (n : Nat) (hn : n ≤ 255) (s : ByteArray) (w : World) (ht : TextsAt w) : Calls Tryd.prog 4 #[.int .i64 op, .int .u8 (n : Int), .string s] w (BoolBelow true w) := by
  by_cases hs : 1000 < s.size
  · go_enter Tryd.func4, Tryd.ntmps4
    go_wp2_with fail
    refine (awake_p _ ht).mono ?_; rintro e w1 ⟨rfl, hb1⟩
    go_wp2_with fail
    go_ret
    exact ⟨rfl, hb1⟩
  · by_cases h0 : (Ope.txtI op).isEmpty = true
    · go_enter Tryd.func4, Tryd.ntmps4
      go_wp2_with fail
      refine (text_p _ _ ht).mono ?_; rintro e w' ⟨rfl, rfl⟩; unfold bs
      go_wp2_with fail
      refine (awake_p _ ht).mono ?_; rintro e w1 ⟨rfl, hb1⟩
      go_wp2_with fail
      go_ret
      exact ⟨rfl, hb1⟩
    · obtain ⟨k, rfl, h1, h2⟩ : ∃ k : Nat, op = k ∧ 1 ≤ k ∧ k ≤ 17 := Ope.txtI_some h0
      have hlen := Ope.txt_pos k h1 h2
      have hlen3 := Ope.txt_len k
      have hm0 : 0 ≤ (n : Int) % ((Ope.txt k).length : Int) := Int.emod_nonneg _ (by omega)
      have hm1 : (n : Int) % ((Ope.txt k).length : Int) < ((Ope.txt k).length : Int) := Int.emod_lt_of_pos _ (by omega)
      go_enter Tryd.func4, Tryd.ntmps4
      go_wp2_with fail
      refine (text_p _ _ ht).mono ?_; rintro e w' ⟨rfl, rfl⟩; rw [txtI_at]; unfold bs
      have HB := Lib.hid (Ope.find_begin k (n % (Ope.txt k).length) h1 h2 (Nat.mod_lt _ (by omega)))
      have HL := Lib.hid (Ope.long_behind k h1 h2 s.toList)
      have HM := Lib.hid (Ope.more_begin k (n % (Ope.txt k).length) h1 h2 (Nat.mod_lt _ (by omega)))
      have htl : (Ope.txt (Ope.long (Ope.txt k ++ s.toList))).length ≤ 3 := Ope.txt_len _
      have hml := Ope.more_len (Ope.txt k)
      have hml2 := Ope.more_len ((Ope.txt k).take (1 + n % (Ope.txt k).length))
      go_wp2_with fail
      refine (find_p _ _ ht).mono ?_; rintro e w' ⟨rfl, rfl⟩; rw [list_mk, Ope.find_at k h1 h2]
      go_wp2_with fail
      refine (find_p _ _ ht).mono ?_; rintro e w' ⟨rfl, rfl⟩; rw [take_list, list_mk]
      have hfb : (((Ope.find ((Ope.txt k).take (1 + n % (Ope.txt k).length)) : Nat) : Int) != 0) = true := by rw [ne_zero, bne_iff_ne]; exact HB.out
      go_wp2_with fail
      clear hfb
      refine (long_p _ _ ht).mono ?_; rintro e w' ⟨rfl, rfl⟩; rw [list_mk, Ope.long_at k h1 h2]
      go_wp2_with fail
      refine (long_p _ _ ht).mono ?_; rintro e w' ⟨rfl, rfl⟩; rw [append_list, list_mk]
      go_wp2_with fail
      refine (text_p _ _ ht).mono ?_; rintro e w' ⟨rfl, rfl⟩; rw [txtI_at]; unfold bs
      have hl : (Ope.txt k).length ≤ (Ope.txt (Ope.long (Ope.txt k ++ s.toList))).length := HL.out
      go_wp2_with fail
      refine (more_p _ _ ht).mono ?_; rintro e w1 ⟨A1, c1, rfl, hr1, hc1, hb1⟩; rw [take_list, list_mk]
      have ht1 := ht.below hb1
      go_wp2_with fail
      refine (more_p _ _ ht1).mono ?_; rintro e w2 ⟨A2, c2, rfl, hr2, hc2, hb2⟩; rw [list_mk]
      have ht2 := ht1.below hb2
      have hm : (Ope.more (Ope.txt k)).length ≤ (Ope.more ((Ope.txt k).take (1 + n % (Ope.txt k).length))).length := HM.out
      go_wp2_with fail
      refine (awake_p _ ht2).mono ?_; rintro e w3 ⟨rfl, hb3⟩
      go_wp2_with fail
      go_ret
      refine ⟨rfl, ?_⟩
      have s1 := hb1.size
      have s2 := hb2.size
      exact (hb1.trans (hb2.mono (by omega))).trans (hb3.mono (by omega))
end Go.Proofs.YtpefkhbejjndeaaDoor
