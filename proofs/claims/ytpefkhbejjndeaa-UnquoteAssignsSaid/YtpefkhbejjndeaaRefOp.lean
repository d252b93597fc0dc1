/- What conchref24.op answers. -/
import Derived.Test.YtpefkhbejjndeaaRefLit
namespace Go.Proofs.Ytpefkhbejjndeaa
open Go.RowKit

def opsCells : Array Value := #[.string ⟨#[58, 45]⟩, .string ⟨#[45]⟩, .string ⟨#[58, 61]⟩, .string ⟨#[61]⟩, .string ⟨#[58, 63]⟩, .string ⟨#[63]⟩, .string ⟨#[58, 43]⟩, .string ⟨#[43]⟩, .string ⟨#[37]⟩, .string ⟨#[37, 37]⟩, .string ⟨#[35]⟩, .string ⟨#[35, 35]⟩]
theorem opsCells_at (k : Nat) (h : k < 12) : ∃ x : ByteArray, opsCells[k]? = some (.string x) ∧ opsL[k]? = some x.toList := by
  match k, h with
  | 0, _ => exact ⟨⟨#[58, 45]⟩, rfl, by rw [show (⟨#[58, 45]⟩ : ByteArray).toList = [58, 45] from list_mk [58, 45]]; rfl⟩
  | 1, _ => exact ⟨⟨#[45]⟩, rfl, by rw [show (⟨#[45]⟩ : ByteArray).toList = [45] from list_mk [45]]; rfl⟩
  | 2, _ => exact ⟨⟨#[58, 61]⟩, rfl, by rw [show (⟨#[58, 61]⟩ : ByteArray).toList = [58, 61] from list_mk [58, 61]]; rfl⟩
  | 3, _ => exact ⟨⟨#[61]⟩, rfl, by rw [show (⟨#[61]⟩ : ByteArray).toList = [61] from list_mk [61]]; rfl⟩
  | 4, _ => exact ⟨⟨#[58, 63]⟩, rfl, by rw [show (⟨#[58, 63]⟩ : ByteArray).toList = [58, 63] from list_mk [58, 63]]; rfl⟩
  | 5, _ => exact ⟨⟨#[63]⟩, rfl, by rw [show (⟨#[63]⟩ : ByteArray).toList = [63] from list_mk [63]]; rfl⟩
  | 6, _ => exact ⟨⟨#[58, 43]⟩, rfl, by rw [show (⟨#[58, 43]⟩ : ByteArray).toList = [58, 43] from list_mk [58, 43]]; rfl⟩
  | 7, _ => exact ⟨⟨#[43]⟩, rfl, by rw [show (⟨#[43]⟩ : ByteArray).toList = [43] from list_mk [43]]; rfl⟩
  | 8, _ => exact ⟨⟨#[37]⟩, rfl, by rw [show (⟨#[37]⟩ : ByteArray).toList = [37] from list_mk [37]]; rfl⟩
  | 9, _ => exact ⟨⟨#[37, 37]⟩, rfl, by rw [show (⟨#[37, 37]⟩ : ByteArray).toList = [37, 37] from list_mk [37, 37]]; rfl⟩
  | 10, _ => exact ⟨⟨#[35]⟩, rfl, by rw [show (⟨#[35]⟩ : ByteArray).toList = [35] from list_mk [35]]; rfl⟩
  | 11, _ => exact ⟨⟨#[35, 35]⟩, rfl, by rw [show (⟨#[35, 35]⟩ : ByteArray).toList = [35, 35] from list_mk [35, 35]]; rfl⟩

set_option maxRecDepth 100000 in
set_option maxHeartbeats 8000000 in
theorem ops_r (w : World) : Calls Try.prog 121 #[] w fun e w' => e = .returned (.slice (some ⟨w.heap.size, 0, none⟩) 12 12) ∧ w' = w.alloc (.cells opsCells 9) := by
  go_enter Try.func121, Try.ntmps121
  go_wp2
  go_ret
  exact ⟨rfl, rfl⟩

set_option maxRecDepth 100000 in
set_option maxHeartbeats 8000000 in
theorem op_r (s : ByteArray) (w : World) : Calls Try.prog 113 #[.string s] w fun e w' => e = .returned (.bool (opB s.toList)) ∧ Below w.heap.size w w' := by
  go_enter Try.func113, Try.ntmps113
  go_wp2_with fail
  refine (ops_r _).mono ?_
  rintro e w1 ⟨rfl, rfl⟩
  have hbk := heap_alloc_new w (.cells opsCells 9)
  have hcell : ∀ k, k < 12 → ∃ x : ByteArray, (w.alloc (.cells opsCells 9)).cell? ⟨w.heap.size, k, none⟩ = some (.string x) ∧ opsL[k]? = some x.toList := fun k hk => by
    obtain ⟨x, h1, h2⟩ := opsCells_at k hk
    exact ⟨x, by simp only [World.cell?, hbk]; exact h1, h2⟩
  have HC := Lib.hid hcell
  have HBE := Lib.hid ((Below.refl w.heap.size w).alloc (Nat.le_refl _) (.cells opsCells 9))
  clear hcell hbk
  revert HC HBE
  generalize w.alloc (.cells opsCells 9) = X
  intro HC HBE
  go_wp2
  go_loop [4] (fun i => ∃ k : Nat, k ≤ 12 ∧ i = .int .i64 k ∧ (opsL.take k).any (· == s.toList) = false) (fun i => 12 - (intOf i).toNat)
  case atStart => exact ⟨0, by omega, rfl, rfl⟩
  case round =>
    obtain ⟨k, hk, rfl, hl⟩ := hrel
    have HL := Lib.hid hl; clear hl
    by_cases hlt : k < 12
    · obtain ⟨x, hx, hox⟩ := HC.out k hlt
      have hlz : decide ((k : Int) < 12) = true := decide_eq_true (by omega)
      have hkn : k < opsL.length := hlt
      have hge : opsL[k] = x.toList := by
        have := List.getElem?_eq_getElem hkn
        rw [hox] at this
        exact (Option.some.inj this).symm
      cases hq : (x.toList == s.toList)
      · have hn : (opsL.take (k + 1)).any (· == s.toList) = false := by
          rw [List.take_succ_eq_append_getElem hkn, List.any_append, HL.out, hge]
          simp [hq]
        have HNN := Lib.hid hn; clear hn hge hox
        go_wp2
        go_round
        case rel => exact ⟨k + 1, by omega, by go_num, HNN.out⟩
        case measure => simp only [intOf]; omega
      · have hn : opB s.toList = true := by
          unfold opB
          rw [List.any_eq_true]
          exact ⟨x.toList, List.mem_of_getElem? hox, hq⟩
        have HNN := Lib.hid hn; clear hn hge hox
        go_wp2
        go_ret
        exact ⟨by rw [HNN.out]; rfl, HBE.out⟩
    · have hlz : decide ((k : Int) < 12) = false := decide_eq_false (by omega)
      have hn : opB s.toList = false := by
        have := HL.out
        rwa [List.take_of_length_le (by show 12 ≤ k; omega)] at this
      have HNN := Lib.hid hn; clear hn
      go_wp2
      go_ret
      exact ⟨by rw [HNN.out]; rfl, HBE.out⟩
end Go.Proofs.Ytpefkhbejjndeaa
