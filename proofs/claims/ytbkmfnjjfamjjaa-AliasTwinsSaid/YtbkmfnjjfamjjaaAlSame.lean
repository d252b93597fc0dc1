/- The document's Same at two readings of one list: it is true. -/
import Derived.Test.YtbkmfnjjfamjjaaAlUnset
import Derived.Laws.StructEq
namespace Go.Proofs.Ytbkmfnjjfamjjaa
open Go.RowKit

theorem neq_alias (n v : ByteArray) (w : World) : (binOp .neq 49 (.agg #[.string n, .string v]) (.agg #[.string n, .string v])).run Try.prog w = .ok (.bool false) w := by
  have hS : Try.prog.underlying 49 = some (.struct (Try.prog.fieldsOf 49)) := by kernel_rfl
  have hp : Try.prog.stoodInHeld 49 = false := by kernel_rfl
  have a3 := Try.isAgg9
  have z3 := Try.sizeOf9
  have u3 := Try.underlying9
  rw [run_neq_struct, show (10000 : Nat) = 9999 + 1 from rfl, run_equalIn_agg w 9999 49 _ _ hS hp]
  simp only [Program.fieldsOf, Try.underlying49]
  go_simp

set_option maxRecDepth 100000 in
set_option maxHeartbeats 2000000 in
theorem same_r36 (L : Al) (A A' : Option Addr) (c c' : Nat) (w : World) (h : AlAt w A L) (h' : AlAt w A' L) (hL : L.length ≤ 1099511627776) : Calls Try.prog 16 #[.slice A L.length c, .slice A' L.length c'] w fun e w' => e = .returned (.bool true) ∧ ∃ m, w' = w.drewN m := by
  have hgt : Try.prog.eqGuardType Try.prog.depth 49 = false := by kernel_rfl
  go_enter Try.func16, Try.ntmps16
  go_wp2
  go_loopw [5] (fun i wr => ∃ (k q : Nat), k ≤ L.length ∧ i = .int .i64 k ∧ wr = w.drewN q) (fun i _ => L.length - (intOf i).toNat)
  case atStart => exact ⟨0, 0, by omega, rfl, rfl⟩
  case round =>
    obtain ⟨k, q, hk, rfl, rfl⟩ := hrel
    by_cases hlt : k < L.length
    · obtain ⟨b, off, rfl, z1, z2⟩ := h k L[k] (List.getElem?_eq_getElem hlt)
      obtain ⟨b', off', rfl, y1, y2⟩ := h' k L[k] (List.getElem?_eq_getElem hlt)
      generalize L[k] = p at *
      obtain ⟨pn, pv⟩ := p
      have hne := neq_alias pn pv
      have H := Lib.hid h; have H' := Lib.hid h'
      clear h h'
      have hlti : (k : Int) < (L.length : Int) := by omega
      go_wp2_with fail
      go_quiet (fail)
      go_wp2_with fail
      go_roundw
      case rel => exact ⟨k + 1, _, by omega, by go_num, rfl⟩
      case measure => simp only [intOf]; omega
    · go_wp2_with fail
      go_ret
      exact ⟨rfl, _, rfl⟩
end Go.Proofs.Ytbkmfnjjfamjjaa
