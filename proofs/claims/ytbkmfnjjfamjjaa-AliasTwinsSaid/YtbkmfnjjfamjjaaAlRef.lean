/- The document's table, walked: has, Get, Unset, Set, Same. -/
import Derived.Test.YtbkmfnjjfamjjaaAlGet
import Derived.LoopTactic
import Derived.Outline
namespace Go.Proofs.Ytbkmfnjjfamjjaa
open Go.RowKit

theorem hit_to (s pn pv : ByteArray) : Al.hit s (pn, pv) = (pn.toList == s.toList) := by unfold Al.hit; rw [Lib.toList_data, Lib.toList_data]
/-- The document's table. -/
def RTab (w : World) (h : Nat) (L : Al) : Prop := ∃ v, w.heap[h]? = some (.cells #[v] 28 (0, 0)) ∧ Arow (h + 1) w v L

set_option maxRecDepth 100000 in
set_option maxHeartbeats 1000000 in
theorem get_r (h : Nat) (L : Al) (s : ByteArray) (w : World) (hr : RTab w h L) (hL : L.length ≤ 1099511627776) : Calls Try.prog 14 #[.pointer (some ⟨h, 0, none⟩), .string s] w fun e w' => e = .returned (.tuple #[.string ((L.val s).getD ⟨#[]⟩), .bool (L.has s)]) ∧ w = w' := by
  obtain ⟨v, hh, ha⟩ := hr
  obtain ⟨A, c, rfl, hc, hm, hat⟩ := ha.shape
  have c0 : w.cell? ⟨h, 0, none⟩ = some (.slice A L.length c) := by simp [World.cell?, hh]
  clear ha hh
  go_enter Try.func14, Try.ntmps14
  go_wp2
  go_loop [6] (fun i => ∃ k : Nat, k ≤ L.length ∧ i = .int .i64 k ∧ Al.val (L.drop k) s = Al.val L s ∧ Al.has (L.drop k) s = Al.has L s) (fun i => L.length - (intOf i).toNat)
  case atStart => exact ⟨0, by omega, rfl, by rw [List.drop_zero], by rw [List.drop_zero]⟩
  case round =>
    obtain ⟨k, hk, rfl, hv, hh⟩ := hrel
    by_cases hlt : k < L.length
    · obtain ⟨b, off, rfl, z1, z2⟩ := hat k L[k] (List.getElem?_eq_getElem hlt)
      rw [List.drop_eq_getElem_cons hlt] at hv hh
      rw [Al.val_cons] at hv
      rw [Al.has_cons] at hh
      generalize L[k] = p at *
      obtain ⟨pn, pv⟩ := p
      rw [hit_to] at hv hh
      have HV := Lib.hid hv; have HH := Lib.hid hh
      clear hv hh hat
      cases hq : (pn.toList == s.toList)
      · have HQ := Lib.hid hq
        go_wp2_with fail
        go_round
        case rel => exact ⟨k + 1, by omega, by go_num, by rw [← HV.out, HQ.out]; rfl, by rw [← HH.out, HQ.out]; rfl⟩
        case measure => simp only [intOf]; omega
      · have HQ := Lib.hid hq
        go_wp2_with fail
        go_ret2
        have h1 := HV.out
        have h2 := HH.out
        rw [HQ.out] at h1 h2
        exact ⟨by rw [← h1, ← h2]; rfl, rfl⟩
    · have hd : L.drop k = [] := List.drop_eq_nil_of_le (by omega)
      rw [hd] at hv hh
      have HV := Lib.hid hv; have HH := Lib.hid hh
      clear hv hh hat hd
      go_wp2_with fail
      go_ret2
      exact ⟨by rw [← HV.out, ← HH.out]; rfl, rfl⟩

theorem any_step (s : ByteArray) (k : Nat) (h : k < s.size) : (s.toList.drop k).any (· == 0) = ((s[k] == 0) || (s.toList.drop (k + 1)).any (· == 0)) := by
  rw [List.drop_eq_getElem_cons (by rw [← size_list]; exact h), List.any_cons, get_list s k h]

set_option maxRecDepth 100000 in
set_option maxHeartbeats 1000000 in
theorem has_r (s : ByteArray) (w : World) (hm : s.size ≤ 9223372036854775807) : Calls Try.prog 23 #[.string s] w fun e w' => e = .returned (.bool (nul s)) ∧ w = w' := by
  go_enter Try.func23, Try.ntmps23
  go_wp2
  go_loop [3] (fun i => ∃ k : Nat, k ≤ s.size ∧ i = .int .i64 k ∧ (s.toList.drop k).any (· == 0) = nul s) (fun i => s.size - (intOf i).toNat)
  case atStart => exact ⟨0, by omega, rfl, by rw [List.drop_zero, Lib.toList_data]; rfl⟩
  case round =>
    obtain ⟨k, hk, rfl, hf⟩ := hrel
    by_cases hlt : k < s.size
    · rw [any_step s k hlt] at hf
      have HF := Lib.hid hf; clear hf
      cases hz : ((s[k].toNat : Int) == 0)
      · have HZ := Lib.hid (show (s[k] == 0) = false by rw [beq_eq_false_iff_ne]; intro e; rw [e] at hz; simp at hz)
        go_wp2_with fail
        go_round
        case rel => exact ⟨k + 1, by omega, by go_num, by rw [← HF.out, HZ.out, Bool.false_or]⟩
        case measure => simp only [intOf]; omega
      · have HZ := Lib.hid (show (s[k] == 0) = true by rw [beq_iff_eq]; exact UInt8.toNat_inj.1 (by have := eq_of_beq hz; show _ = 0; omega))
        go_wp2_with fail
        go_ret
        exact ⟨ret_bool (by rw [← HF.out, HZ.out, Bool.true_or]), rfl⟩
    · have HF := Lib.hid hf; clear hf
      go_wp2_with fail
      go_ret
      exact ⟨ret_bool (by rw [← HF.out, List.drop_eq_nil_of_le (by rw [← size_list]; omega)]; rfl), rfl⟩
end Go.Proofs.Ytbkmfnjjfamjjaa
