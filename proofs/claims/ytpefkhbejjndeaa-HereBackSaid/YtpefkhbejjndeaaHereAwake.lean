/- The walk of conchlaw28's awake, and of HereNone. -/
import Derived.Test.YtpefkhbejjndeaaHereMay
namespace Go.Proofs.Ytpefkhbejjndeaa
open Go.RowKit

def bE : ByteArray := ⟨#[69]⟩
theorem bE_list : bE.toList = [69] := list_mk [69]
theorem bE_has : bE.size < 4294967281 := by decide
def bN : ByteArray := ⟨#[10]⟩
theorem bN_list : bN.toList = [10] := list_mk [10]
theorem bN_has : bN.size < 4294967281 := by decide
def bA : ByteArray := ⟨#[97, 10]⟩
theorem bA_list : bA.toList = [97, 10] := list_mk [97, 10]

set_option maxRecDepth 100000 in
set_option maxHeartbeats 4000000 in
theorem awake28 (w : World) : Calls Try.prog 44 #[] w fun r w' => r = .returned (.bool true) ∧ Below w.heap.size w w' := by
  have hn := fun X B hB => new_yes bE false X bE_has (by rw [bE_list]; rfl) B hB
  have hm := fun X => may_any bE bA false X (by decide) bE_has
  have hn0 := fun X => new_no bN false X bN_has (by rw [bN_list]; rfl)
  have hmv : mayB bE.toList false bA.toList = true := by rw [bE_list, bA_list]; rfl
  rw [hmv] at hm
  have HN := Lib.hid hn; have HM := Lib.hid hm; have HN0 := Lib.hid hn0; clear hn hm hn0 hmv
  go_enter Try.func44, Try.ntmps44
  go_wp2_with fail
  refine (HN.out _ w.heap.size (Nat.le_refl _)).mono ?_
  rintro r w1 ⟨⟨b, rfl, h1⟩, b1⟩
  have H1 := Lib.hid h1; have B1 := Lib.hid b1; clear h1 b1
  go_wp2_with fail
  refine (feed_byte 97 97 (by rfl) _ H1.out (by decide) (by decide) (.inl (by decide)) (by decide) B1.out.size).mono ?_
  rintro r w2 ⟨rfl, h2, b2⟩
  have H2 := Lib.hid h2; have B2 := Lib.hid (B1.out.trans b2); clear h2 b2 H1 B1
  go_wp2_with fail
  refine (feed_goes _ H2.out (by rw [bE_list]; decide) (by decide) (by decide) B2.out.size).mono ?_
  rintro r w3 ⟨rfl, h3, b3⟩
  have H3 := Lib.hid h3; have B3 := Lib.hid (B2.out.trans b3); clear h3 b3 H2 B2
  go_wp2_with fail
  refine (feed_byte 69 69 (by rfl) _ H3.out (by decide) (by decide) (.inl (by decide)) (by decide) B3.out.size).mono ?_
  rintro r w4 ⟨rfl, h4, b4⟩
  have H4 := Lib.hid h4; have B4 := Lib.hid (B3.out.trans b4); clear h4 b4 H3 B3
  go_wp2_with fail
  refine (feed_ends _ H4.out (by rw [bE_list]; rfl)).mono ?_
  rintro r w5 ⟨rfl, h5, b5⟩
  have H5 := Lib.hid h5; have B5 := Lib.hid (B4.out.trans b5); clear h5 b5 H4 B4
  go_wp2_with fail
  refine (show Calls Try.prog _ _ _ (fun r w' => r = .returned (.tuple #[.string ⟨#[97, 10]⟩, .bool true]) ∧ Below _ _ w') from text_ends _ H5.out (by decide) (by decide)).mono ?_
  rintro r w6 ⟨rfl, b6⟩
  have B6 := Lib.hid (B5.out.trans (b6.mono B5.out.size)); clear b6 B5
  go_wp2_with fail
  refine (HM.out _).mono ?_
  rintro r w7 ⟨rfl, b7⟩
  have B7 := Lib.hid (B6.out.trans (b7.mono B6.out.size)); clear b7 B6
  go_wp2_with fail
  refine (HN0.out _).mono ?_
  rintro r w8 ⟨rfl, b8⟩
  have B8 := Lib.hid (B7.out.trans (b8.mono B7.out.size)); clear b8 B7
  go_wp2
  go_ret
  exact ⟨rfl, B8.out⟩

set_option maxRecDepth 100000 in
set_option maxHeartbeats 4000000 in
theorem hereNone_walk (n : Int) (w : World) : Calls Try.prog 11 #[.int .u8 n] w fun r w' => r = .returned (.bool true) ∧ Below w.heap.size w w' := by
  go_enter Try.func11, Try.ntmps11
  go_wp2_with fail
  refine (text_none _).mono ?_
  rintro r w1 ⟨rfl, rfl⟩
  go_wp2_with fail
  refine (feed_none _ _).mono ?_
  rintro r w1 ⟨rfl, rfl⟩
  go_wp2_with fail
  refine (rest_none _).mono ?_
  rintro r w1 ⟨rfl, rfl⟩
  go_wp2_with fail
  refine (awake28 _).mono ?_
  rintro r w1 ⟨rfl, hb⟩
  have HB := Lib.hid hb; clear hb
  go_wp2
  go_ret
  exact ⟨rfl, HB.out⟩
end Go.Proofs.Ytpefkhbejjndeaa
