/- conchlaw28.Fed: a reader that took a text's bytes. -/
import Derived.Test.YtpefkhbejjndeaaHereAwake
namespace Go.Proofs.Ytpefkhbejjndeaa
open Go.RowKit

set_option maxRecDepth 100000 in
set_option maxHeartbeats 1000000 in
theorem refShow_any (e s : ByteArray) (t : Bool) (w : World) (h : s.size + e.size ≤ 1099511627776) : Calls Try.prog 48 #[.agg #[.string e, .bool t], .string s] w fun r w' => r = .returned (bs (s.toList ++ e.toList ++ [10])) ∧ Below w.heap.size w w' := by
  have hfin : (⟨(s.toList ++ e.toList ++ [10]).toArray⟩ : ByteArray) = s ++ e ++ ⟨#[10]⟩ := ext_list (by rw [list_mk, append_list, append_list, show (⟨#[10]⟩ : ByteArray).toList = [10] from list_mk [10]])
  have HF := Lib.hid hfin; clear hfin
  have ha : ∀ X : World, (Op.stringOp .add s e).run Try.prog X = .ok (.string (s ++ e)) X := fun X => run_string_add_sum (P := Try.prog) X s e (by omega)
  have hb : ∀ X : World, (Op.stringOp .add (s ++ e) ⟨#[10]⟩).run Try.prog X = .ok (.string (s ++ e ++ ⟨#[10]⟩)) X := fun X => run_string_add_sum (P := Try.prog) X (s ++ e) ⟨#[10]⟩ (by
    have h1 : (s ++ e).size = s.size + e.size := by simp
    have h2 : (⟨#[10]⟩ : ByteArray).size = 1 := rfl
    omega)
  go_enter Try.func48, Try.ntmps48
  go_wp2
  go_ret
  exact ⟨by unfold bs; rw [HF.out]; rfl, (Below.refl _ _).alloc (Nat.le_refl _) _⟩

theorem drop_cons' (s : ByteArray) (k : Nat) (h : k < s.size) : s.toList.drop k = s[k] :: s.toList.drop (k + 1) := by
  rw [List.drop_eq_getElem_cons (by rw [← size_list]; exact h), get_list s k h]
/-- How far a run has come: k bytes, the text acc, the line cur. -/
def RunAt (e : List UInt8) (t : Bool) (s : List UInt8) (k : Nat) (acc cur : List UInt8) : Prop :=
  run e t [] [] s = ((run e t acc cur (s.drop k)).1, (run e t acc cur (s.drop k)).2.1 + k, (run e t acc cur (s.drop k)).2.2)
section
variable {e acc cur : List UInt8} {t : Bool} {s : ByteArray} {k : Nat}
theorem RunAt.zero : RunAt e t s.toList 0 [] [] := by unfold RunAt; simp
theorem RunAt.ended (h : RunAt e t s.toList k acc cur) (hk : ¬ k < s.size) (hk2 : k ≤ s.size) : run e t [] [] s.toList = (0, s.size, acc) := by
  unfold RunAt at h
  rw [List.drop_of_length_le (by rw [← size_list]; omega)] at h
  rw [h]; simp [run]; omega
theorem RunAt.nul (h : RunAt e t s.toList k acc cur) (hk : k < s.size) (hc : s[k] = 0) : run e t [] [] s.toList = (3, k, acc) := by
  unfold RunAt at h
  rw [drop_cons' s k hk, hc] at h
  rw [h]; simp [run]
theorem RunAt.over (h : RunAt e t s.toList k acc cur) (hk : k < s.size) (hc : s[k] = 10) (he : cur = e) : run e t [] [] s.toList = (1, k, acc) := by
  unfold RunAt at h
  rw [drop_cons' s k hk, hc] at h
  rw [h]; simp [run, he]
theorem RunAt.line (h : RunAt e t s.toList k acc cur) (hk : k < s.size) (hc : s[k] = 10) (he : ¬ cur = e) : RunAt e t s.toList (k + 1) (acc ++ cur ++ [10]) [] := by
  unfold RunAt at h ⊢
  rw [h, drop_cons' s k hk, hc, run, if_neg (by decide), if_pos rfl, if_neg he]
  simp only [Prod.mk.injEq, true_and, and_true]
  omega
theorem RunAt.byte (h : RunAt e t s.toList k acc cur) (hk : k < s.size) (h0 : ¬ s[k] = 0) (h1 : ¬ s[k] = 10) : RunAt e t s.toList (k + 1) acc (fdL t s[k] cur) := by
  unfold RunAt at h ⊢
  rw [h, drop_cons' s k hk, run, if_neg h0, if_neg h1]
  simp only [Prod.mk.injEq, true_and, and_true]
  omega
end

/-- What a reader is, behind k bytes. -/
def FedAt (B b : Nat) (e : ByteArray) (t : Bool) (s : ByteArray) (k : Nat) (w : World) : Prop :=
  ∃ ls cur sm, Rd B b e t ls cur sm 0 w ∧ RunAt e.toList t s.toList k ls.flatten cur ∧ ls.length ≤ k ∧ ls.flatten.length + cur.length ≤ k
/-- .. at its end. -/
def FedEnd (B b : Nat) (e : ByteArray) (t : Bool) (s : ByteArray) (sg : Int) (acc : List UInt8) (w : World) : Prop :=
  ∃ ls cur sm, Rd B b e t ls cur sm sg w ∧ ls.flatten = acc ∧ ls.length ≤ s.size ∧ ls.flatten.length ≤ s.size

set_option maxRecDepth 100000 in
set_option maxHeartbeats 8000000 in
theorem fed_any (e s : ByteArray) (t : Bool) (w : World) (hs : s.size ≤ 1048576) (he : e.size < 4294967281) (hr : rightB e.toList t = true) (sg n : Nat) (acc : List UInt8) (hrun : run e.toList t [] [] s.toList = (sg, n, acc)) :
    Calls Try.prog 50 #[.agg #[.string e, .bool t], .string s] w fun r w' => (∃ b, r = .returned (.tuple #[.pointer (some ⟨b, 0, none⟩), .int .i64 n, .int .i64 sg]) ∧ FedEnd w.heap.size b e t s sg acc w') ∧ Below w.heap.size w w' := by
  have hn := fun X B hB => new_yes e t X he hr B hB
  have HN := Lib.hid hn; have HRU := Lib.hid hrun; clear hn he hr hrun
  go_enter Try.func50, Try.ntmps50
  go_wp2_with fail
  refine (HN.out _ w.heap.size (by simp)).mono ?_
  rintro r w1 ⟨⟨b, rfl, h1⟩, b1⟩
  have hb0 : Below w.heap.size w w1 := ((Below.refl _ _).alloc (Nat.le_refl _) _).trans (b1.mono (by simp))
  have H1 := Lib.hid h1; have B1 := Lib.hid hb0; clear h1 b1 hb0
  go_wp2
  go_loopw [8] (fun i wr => ∃ k : Nat, k ≤ s.size ∧ i = .int .i64 k ∧ FedAt w.heap.size b e t s k wr ∧ Below w.heap.size w wr) (fun i _ => s.size - (intOf i).toNat)
  case atStart => exact ⟨0, by omega, rfl, ⟨[], [], false, H1.out, RunAt.zero, by simp, by simp⟩, B1.out⟩
  case round =>
    obtain ⟨k, hk, rfl, ⟨ls, cur, sm, hrd, hra, hl1, hl2⟩, hb⟩ := hrel
    have HRD := Lib.hid hrd; have HRA := Lib.hid hra; have HB := Lib.hid hb; have HL1 := Lib.hid hl1; have HL2 := Lib.hid hl2
    clear hrd hra hb hl1 hl2
    by_cases hlt : k < s.size
    · by_cases h0 : s[k] = 0
      · have hv : (s[k].toNat : Int) = 0 := by rw [h0]; rfl
        have hres := HRU.out.symm.trans (HRA.out.nul hlt h0)
        obtain ⟨rfl, rfl, rfl⟩ : sg = 3 ∧ n = k ∧ acc = ls.flatten := by simpa using hres
        clear hres h0
        go_wp2_with fail
        refine (feed_zero _ HRD.out).mono ?_
        rintro r w2 ⟨rfl, h2, b2⟩
        have H2 := Lib.hid h2; have B2 := Lib.hid b2; clear h2 b2
        go_wp2
        go_ret3
        exact ⟨⟨b, rfl, ls, cur, sm, H2.out, rfl, by have := HL1.out; omega, by have := HL2.out; omega⟩, HB.out.trans B2.out⟩
      · by_cases h10 : s[k] = 10
        · have hv : (s[k].toNat : Int) = 10 := by rw [h10]; rfl
          by_cases hce : cur = e.toList
          · have hres := HRU.out.symm.trans (HRA.out.over hlt h10 hce)
            obtain ⟨rfl, rfl, rfl⟩ : sg = 1 ∧ n = k ∧ acc = ls.flatten := by simpa using hres
            have HCE := Lib.hid hce
            clear hres h0 h10 hce
            go_wp2_with fail
            refine (feed_ends _ HRD.out HCE.out).mono ?_
            rintro r w2 ⟨rfl, h2, b2⟩
            have H2 := Lib.hid h2; have B2 := Lib.hid b2; clear h2 b2
            go_wp2
            go_ret3
            exact ⟨⟨b, rfl, ls, cur, sm, H2.out, rfl, by have := HL1.out; omega, by have := HL2.out; omega⟩, HB.out.trans B2.out⟩
          · have hra2 := HRA.out.line hlt h10 hce
            have HRA2 := Lib.hid hra2; have HCE := Lib.hid hce
            clear hra2 h0 h10 hce
            go_wp2_with fail
            refine (feed_goes _ HRD.out HCE.out (by have := HL2.out; omega) (by have := HL1.out; omega) HB.out.size).mono ?_
            rintro r w2 ⟨rfl, h2, b2⟩
            have H2 := Lib.hid h2; have B2 := Lib.hid b2; clear h2 b2
            go_wp2
            go_roundw
            case rel => exact ⟨k + 1, by omega, by go_num, ⟨_, _, _, H2.out, by simpa using HRA2.out, by have := HL1.out; simp; omega, by have := HL2.out; simp only [List.flatten_append, List.flatten_cons, List.flatten_nil, List.length_append, List.length_cons, List.length_nil]; omega⟩, HB.out.trans B2.out⟩
            case measure => simp only [intOf]; omega
        · have hra2 := HRA.out.byte hlt h0 h10
          by_cases hk9 : s[k] ≠ 9 ∨ t = false ∨ cur ≠ []
          · rw [show fdL t s[k] cur = cur ++ [s[k]] from if_pos hk9] at hra2
            have HRA2 := Lib.hid hra2; have H0 := Lib.hid h0; have H10 := Lib.hid h10; have HK := Lib.hid hk9
            clear hra2 h0 h10 hk9
            go_wp2_with fail
            refine (feed_byte s[k] _ rfl _ HRD.out H0.out H10.out HK.out (by have := HL2.out; omega) HB.out.size).mono ?_
            rintro r w2 ⟨rfl, h2, b2⟩
            have H2 := Lib.hid h2; have B2 := Lib.hid b2; clear h2 b2
            go_wp2
            go_roundw
            case rel => exact ⟨k + 1, by omega, by go_num, ⟨_, _, _, H2.out, HRA2.out, by have := HL1.out; omega, by have := HL2.out; simp only [List.length_append, List.length_cons, List.length_nil]; omega⟩, HB.out.trans B2.out⟩
            case measure => simp only [intOf]; omega
          · rw [show fdL t s[k] cur = cur from if_neg hk9] at hra2
            obtain ⟨h9, rfl, rfl⟩ : s[k] = 9 ∧ t = true ∧ cur = [] := by
              simp only [not_or, Decidable.not_not] at hk9
              exact ⟨hk9.1, by cases t; exact absurd rfl hk9.2.1; rfl, hk9.2.2⟩
            have hv : (s[k].toNat : Int) = 9 := by rw [h9]; rfl
            have HRA2 := Lib.hid hra2
            clear hra2 h0 h10 hk9 h9
            go_wp2_with fail
            refine (feed_tab _ HRD.out).mono ?_
            rintro r w2 ⟨rfl, h2, b2⟩
            have H2 := Lib.hid h2; have B2 := Lib.hid b2; clear h2 b2
            go_wp2
            go_roundw
            case rel => exact ⟨k + 1, by omega, by go_num, ⟨_, _, _, H2.out, HRA2.out, by have := HL1.out; omega, by have := HL2.out; simp only [List.length_nil] at this ⊢; omega⟩, HB.out.trans B2.out⟩
            case measure => simp only [intOf]; omega
    · have hres := HRU.out.symm.trans (HRA.out.ended hlt hk)
      obtain ⟨rfl, rfl, rfl⟩ : sg = 0 ∧ n = s.size ∧ acc = ls.flatten := by simpa using hres
      clear hres
      go_wp2
      go_ret3
      exact ⟨⟨b, rfl, ls, cur, sm, HRD.out, rfl, by have := HL1.out; omega, by have := HL2.out; omega⟩, HB.out⟩
end Go.Proofs.Ytpefkhbejjndeaa
