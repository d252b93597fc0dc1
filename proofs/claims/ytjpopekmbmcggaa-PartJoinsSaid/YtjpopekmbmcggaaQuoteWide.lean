/- strings.ContainsAny of NUL and single quote, in a text of any length. -/
import Derived.Test.YtjpopekmbmcggaaQuoteRune
import Derived.Deep.WholeRow
namespace Go.Proofs.Ytjpopekmbmcggaa
open Go.RowKit

set_option maxRecDepth 1000000 in
set_option maxHeartbeats 8000000 in
/-- strings.IndexAny, where the set is used: more than 8 bytes. -/
theorem indexAny_wide (s : ByteArray) (w : World) (h8 : 8 < s.size) (hs : s.size ≤ 562949953421312) :
    Calls Try.prog 46 #[.string s, .string bZN] w fun e w' => (∃ n : Int, e = .returned (.int .i64 n) ∧ decide (0 ≤ n) = anyQ s.toList) ∧ Below w.heap.size w w' := by
  have hz := (zero_of_info info256).1
  have hM := Try.strings_makeASCIISet hz bZN w (by decide) (fun j b hb => by
    match j, hb with
    | 0, hb => simp [bZN] at hb; subst hb; decide
    | 1, hb => simp [bZN] at hb; subst hb; decide
    | j + 2, hb => simp [bZN] at hb)
  obtain ⟨S, hS⟩ : ∃ S, Lib.setCells bZN.data.toList = S := ⟨_, rfl⟩
  obtain ⟨X, hX⟩ : ∃ X, (w.alloc (.cells S 63)).alloc (.cells S 63) = X := ⟨_, rfl⟩
  have hsc : (storeCells ⟨w.heap.size + 1, 0, none⟩ S.toList 0).run Try.prog ((w.alloc (.cells S 63)).alloc (.cells Try.zeroCells63 63)) = .ok () X := by
    rw [show Try.zeroCells63 = Array.replicate 256 (.bool false) by kernel_rfl]
    have := run_storeCells_new (P := Try.prog) (w.alloc (.cells S 63)) 63 (Array.replicate 256 (.bool false)) S (by rw [← hS, Lib.setCells_size]; kernel_rfl) (by rw [← hS, Lib.setCells_size, Array.size_replicate]) (by rw [← hS]; exact Lib.setCells_one _)
    rw [hX] at this
    simpa using this
  have hcell : ∀ x : UInt8, X.cell? ⟨w.heap.size + 1, x.toNat, none⟩ = some (.bool (x == 0 || x == 39)) := fun x => by
    rw [← hX, World.cell?_alloc_at _ _ _ _ (by simp), ← hS, Lib.setCells_at]
    congr 2
    rw [show bZN.data.toList = [0, 39] from rfl]
    simp
    rfl
  have hBX : Below w.heap.size w X := by rw [← hX]; exact ((Below.refl _ _).alloc (Nat.le_refl _) _).alloc (by simp) _
  have hsz : S.size = 256 := by rw [← hS]; exact Lib.setCells_size _
  rw [hS] at hM
  have h8z : decide ((8 : Int) < (s.size : Int)) = true := decide_eq_true (by omega)
  have H8 := Lib.hid h8z; have HM := Lib.hid hM; have HC := Lib.hid hcell; have HBX := Lib.hid hBX; have HSC := Lib.hid hsc
  clear h8z hM hcell hBX hX hS hsc hz
  have hbz : bZN.size = 2 := rfl
  have hbl : bZN.toList.isEmpty = false := by rw [show bZN.toList = [0, 39] from list_mk [0, 39]]; rfl
  go_enter Try.func46, Try.ntmps46
  go_wp2_with fail
  refine (Try.strings_shouldUseASCIISet _ _).mono ?_
  rintro e w1 ⟨rfl, rfl⟩
  rw [H8.out]
  go_wp2_with fail
  refine HM.out.mono ?_
  rintro e w2 ⟨rfl, rfl⟩
  go_wp2
  simp only [Result.andThen, HSC.out]
  rw [Oper.upon_skip]
  go_wp2
  go_loopw [8] (fun i wr => ∃ k : Nat, k ≤ s.size ∧ i = .int .i64 k ∧ X = wr ∧ NoneTo s.toList k) (fun i _ => s.size - (intOf i).toNat)
  case atStart => exact ⟨0, by omega, rfl, rfl, rfl⟩
  case round =>
    obtain ⟨k, hk, rfl, rfl, hno⟩ := hrel
    have HNO := Lib.hid hno
    clear hno
    by_cases hlt : k < s.size
    · have hiz : (k : Int) < (s.size : Int) := by omega
      obtain ⟨x, hx⟩ : ∃ x : UInt8, s[k]'hlt = x := ⟨_, rfl⟩
      have hcx := HC.out x
      have HXX := Lib.hid hx
      cases hh : (x == 0 || x == 39)
      · have HH := Lib.hid hh
        rw [hh] at hcx
        go_wp2_with fail
        refine (Try.asciiSet_contains _ x _ _ hcx).mono ?_
        rintro e w3 ⟨rfl, rfl⟩
        go_wp2
        go_roundw
        case rel => exact ⟨k + 1, by omega, by go_num, trivial, noneTo_step s k 1 (by omega) HNO.out (fun j hj hj' => by
          obtain rfl : j = 0 := by omega
          have := HH.out
          rw [← HXX.out] at this
          exact this)⟩
        case measure => simp only [intOf]; omega
      · have HH := Lib.hid hh
        rw [hh] at hcx
        go_wp2_with fail
        refine (Try.asciiSet_contains _ x _ _ hcx).mono ?_
        rintro e w3 ⟨rfl, rfl⟩
        go_wp2
        go_ret
        exact ⟨⟨k, rfl, by rw [some_at s k hlt (by rw [HXX.out]; exact HH.out)]; exact decide_eq_true (by omega)⟩, HBX.out⟩
    · go_wp2
      go_ret
      exact ⟨⟨-1, rfl, by rw [noneTo_end s k (by omega) HNO.out]; rfl⟩, HBX.out⟩

set_option maxRecDepth 100000 in
set_option maxHeartbeats 1000000 in
theorem containsAny_wide (s : ByteArray) (w : World) (hs : s.size ≤ 562949953421312) :
    Calls Try.prog 34 #[.string s, .string ⟨#[0, 39]⟩] w fun e w' => e = .returned (.bool (anyQ s.toList)) ∧ Below w.heap.size w w' := by
  have HI := Lib.hid (show Calls Try.prog 46 #[.string s, .string bZN] w fun e w' => (∃ n : Int, e = .returned (.int .i64 n) ∧ decide (0 ≤ n) = anyQ s.toList) ∧ Below w.heap.size w w' from by
    by_cases h8 : s.size ≤ 8
    · exact indexAny_short s w h8
    · exact indexAny_wide s w (by omega) hs)
  go_enter Try.func34, Try.ntmps34
  go_wp2_with fail
  refine HI.out.mono ?_
  rintro e w' ⟨⟨n, rfl, hn⟩, hb⟩
  have HN := Lib.hid hn; have HB := Lib.hid hb; clear hn hb
  go_wp2
  go_ret
  exact ⟨by rw [← HN.out]; rfl, HB.out⟩
end Go.Proofs.Ytjpopekmbmcggaa
