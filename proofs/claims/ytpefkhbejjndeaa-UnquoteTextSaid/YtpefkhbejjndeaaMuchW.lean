/- conchlaw24.Much, walked at words of any size: the sum as far as an int holds it; it only reads. -/
import Derived.Test.YtpefkhbejjndeaaMuch
namespace Go.Proofs.Ytpefkhbejjndeaa
open Go.RowKit

namespace Pts
/-- What conchlaw24.Much answers, turned round where an int ends. -/
def muchLoopW : Pts → Int → Int
  | nil, n => n
  | cons _ t o kids cm rest, n => if n ≤ 1000 then muchLoopW rest (wrap64 (n + (t.size : Int) / 10 + (o.size : Int) / 10 + (cm.n : Int) + muchLoopW kids (kids.len : Int))) else n
def muchW (l : Pts) : Int := muchLoopW l (l.len : Int)
theorem muchLoopW_in : ∀ (l : Pts) (n : Int), -9223372036854775808 ≤ n ∧ n ≤ 9223372036854775807 → -9223372036854775808 ≤ muchLoopW l n ∧ muchLoopW l n ≤ 9223372036854775807
  | nil, n, h => by rw [muchLoopW]; exact h
  | cons k t o kids cm rest, n, h => by
    rw [muchLoopW]
    split
    · exact muchLoopW_in rest _ (by unfold wrap64; omega)
    · exact h
/-- What is little by that count has few parts side by side. -/
theorem muchW_len {l : Pts} (h : l.muchW ≤ 1000) : l.len ≤ 1000 := by
  unfold muchW at h
  cases l with
  | nil => exact Nat.zero_le _
  | cons k t o kids cm rest =>
    rw [muchLoopW] at h
    split at h
    · rename_i h1; omega
    · omega
end Pts

set_option maxRecDepth 100000 in
set_option maxHeartbeats 1000000 in
theorem much_any_w : ∀ (n : Nat) (l : Pts) (G : Nat → Prop) (A : Option Addr) (c : Nat) (w : World), l.deep < n → l.mx ≤ 562949953421312 → PtsAt G w A 0 l →
    Calls Try.prog 25 #[.slice A l.len c] w fun e w' => e = .returned (.int .i64 l.muchW) ∧ ∃ m, w' = w.drewN m := by
  intro n
  induction n with
  | zero => intro l _ _ _ _ h; omega
  | succ n ih =>
    intro l G A c w hd hwt hp
    have hlw := Pts.len_mx l
    have IH := Lib.hid ih; clear ih
    go_enter Try.func25, Try.ntmps25
    go_wp2_with fail
    go_loopw [3, 4] (fun s i wr => ∃ (k q : Nat) (m : Int), k ≤ l.len ∧ i = .int .i64 k ∧ s = .int .i64 m ∧ wr = w.drewN q ∧ Pts.muchLoopW (l.drop k) m = l.muchW ∧ -9223372036854775808 ≤ m ∧ m ≤ 9223372036854775807) (fun _ i _ => l.len - (intOf i).toNat)
    case atStart => exact ⟨0, 0, l.len, by omega, rfl, rfl, rfl, by rw [Pts.drop_zero]; rfl, by omega, by omega⟩
    case round =>
      obtain ⟨k, q, m, hk, rfl, rfl, rfl, hf, hm0, hm⟩ := hrel
      have HF := Lib.hid hf; clear hf
      by_cases hlt : k < l.len
      · obtain ⟨pk, t, o, kids, cm, r, hdr⟩ := Pts.drop_cons k l hlt
        have hp' := hp.at_ k
        rw [hdr, Nat.zero_add] at hp'
        obtain ⟨b, off, Ak, ck, rfl, hG, c0, c1, c2, c3, c4, hl, h1, h2⟩ := hp'
        unfold Cm.val at c4
        have hwd := Pts.mx_at k l hdr
        have hkw := Pts.len_mx kids
        have hkd := Pts.deep_drop k l hdr
        have HD := Lib.hid hdr; clear hdr
        by_cases hm1 : m ≤ 1000
        · obtain ⟨u, hu⟩ : ∃ u, kids.muchW = u := ⟨_, rfl⟩
          obtain ⟨W, hW⟩ : ∃ W, wrap64 (m + (t.size : Int) / 10 + (o.size : Int) / 10 + (cm.n : Int) + u) = W := ⟨_, rfl⟩
          have hWr : -9223372036854775808 ≤ W ∧ W ≤ 9223372036854775807 := by rw [← hW]; unfold wrap64; omega
          have HU := Lib.hid hu; have HWW := Lib.hid hW; have HWR := Lib.hid hWr
          clear hu hWr hW
          have IHK := IH.out kids G Ak ck
          rw [HU.out] at IHK
          have IHK := Lib.hid IHK
          have hW := HWW.out
          go_wp2_with fail
          go_quiet ((go_at_call 25; exact quietN (IHK.out _ (by omega) (by omega) (h1.drewN _))))
          go_wp2_with fail
          go_roundw
          case rel =>
            refine ⟨k + 1, _, W, by omega, by go_num, ?_, rfl, ?_, HWR.out.1, HWR.out.2⟩
            · first | rfl | (rw [← HWW.out]; done) | (rw [← HWW.out]; rfl)
            rw [Pts.drop_succ k l HD.out, ← HF.out, HD.out, Pts.muchLoopW, if_pos hm1]
            rw [← HWW.out, ← HU.out]
            rfl
          case measure => simp only [intOf]; omega
        · go_wp2_with fail
          go_ret
          refine ⟨ret_int ?_, _, rfl⟩
          rw [← HF.out, HD.out, Pts.muchLoopW, if_neg (by omega)]
      · go_wp2_with fail
        go_ret
        refine ⟨ret_int ?_, _, rfl⟩
        rw [← HF.out, Pts.drop_end k l (by omega), Pts.muchLoopW]

/-- conchlaw24.Much, at a word's value. -/
theorem much_w (l : Pts) (G : Nat → Prop) (A : Option Addr) (c : Nat) (w : World) (hwt : l.mx ≤ 562949953421312) (hp : PtsAt G w A 0 l) :
    Calls Try.prog 25 #[.slice A l.len c] w fun e w' => e = .returned (.int .i64 l.muchW) ∧ ∃ m, w' = w.drewN m := much_any_w (l.deep + 1) l G A c w (by omega) hwt hp
end Go.Proofs.Ytpefkhbejjndeaa
