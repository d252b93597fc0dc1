/- conchlaw24.Much, walked: how much a word has; it only reads. -/
import Derived.Test.YtpefkhbejjndeaaPtsMem
import Derived.BigQuiet
import Derived.Deep.QuietTactic
namespace Go.Proofs.Ytpefkhbejjndeaa
open Go.RowKit

/-- A quiet call inside a region that has drawn before. -/
theorem quietN {P : Program} {f : FuncId} {args : Array Value} {w : World} {a n : Nat} {v : Value}
    (h : Calls P f args (w.drewN (a + n)) fun e w' => e = .returned v ∧ ∃ m, w' = (w.drewN (a + n)).drewN m) :
    Calls P f args (w.drewN (a + n)) fun e w'' => e = .returned v ∧ ∃ m, w'' = w.drewN (a + m) :=
  h.mono fun _ _ ⟨he, m, hm⟩ => ⟨he, n + m, by rw [hm, World.drewN_drewN, Nat.add_assoc]⟩
set_option maxRecDepth 100000 in
set_option maxHeartbeats 1000000 in
theorem much_any : ∀ (n : Nat) (l : Pts) (G : Nat → Prop) (A : Option Addr) (c : Nat) (w : World), l.deep < n → l.wt ≤ 1099511627776 → PtsAt G w A 0 l →
    Calls Try.prog 25 #[.slice A l.len c] w fun e w' => e = .returned (.int .i64 (l.much : Nat)) ∧ ∃ m, w' = w.drewN m := by
  intro n
  induction n with
  | zero => intro l _ _ _ _ h; omega
  | succ n ih =>
    intro l G A c w hd hwt hp
    have hlw := Pts.len_wt l
    have IH := Lib.hid ih; clear ih
    go_enter Try.func25, Try.ntmps25
    go_wp2_with fail
    go_loopw [3, 4] (fun s i wr => ∃ (k m q : Nat), k ≤ l.len ∧ i = .int .i64 k ∧ s = .int .i64 m ∧ wr = w.drewN q ∧ Pts.muchLoop (l.drop k) m = l.much ∧ m ≤ 1099511627776 * 2) (fun _ i _ => l.len - (intOf i).toNat)
    case atStart => exact ⟨0, l.len, 0, by omega, rfl, rfl, rfl, by rw [Pts.drop_zero]; rfl, by omega⟩
    case round =>
      obtain ⟨k, m, q, hk, rfl, rfl, rfl, hf, hm⟩ := hrel
      have HF := Lib.hid hf; clear hf
      by_cases hlt : k < l.len
      · obtain ⟨pk, t, o, kids, cm, r, hdr⟩ := Pts.drop_cons k l hlt
        have hp' := hp.at_ k
        rw [hdr, Nat.zero_add] at hp'
        obtain ⟨b, off, Ak, ck, rfl, hG, c0, c1, c2, c3, c4, hl, h1, h2⟩ := hp'
        unfold Cm.val at c4
        have hwd := Pts.wt_drop k l
        rw [hdr, Pts.wt] at hwd
        have hkw := Pts.len_wt kids
        have hkm := Pts.much_le kids
        have hkd := Pts.deep_drop k l hdr
        have HD := Lib.hid hdr; clear hdr
        by_cases hm1 : m ≤ 1000
        · go_wp2_with fail
          go_quiet ((go_at_call 25; exact quietN (IH.out kids G Ak ck _ (by omega) (by omega) (h1.drewN _))))
          go_wp2_with fail
          go_roundw
          case rel =>
            refine ⟨k + 1, m + t.size / 10 + o.size / 10 + cm.n + kids.much, _, by omega, by go_num, by go_num, rfl, ?_, by omega⟩
            rw [Pts.drop_succ k l HD.out, ← HF.out, HD.out, Pts.muchLoop, if_pos hm1]
            rfl
          case measure => simp only [intOf]; omega
        · go_wp2_with fail
          go_ret
          refine ⟨ret_int ?_, _, rfl⟩
          rw [← HF.out, HD.out, Pts.muchLoop, if_neg hm1]
      · go_wp2_with fail
        go_ret
        refine ⟨ret_int ?_, _, rfl⟩
        rw [← HF.out, Pts.drop_end k l (by omega), Pts.muchLoop]

/-- conchlaw24.Much, at a word's value. -/
theorem much_p (l : Pts) (G : Nat → Prop) (A : Option Addr) (c : Nat) (w : World) (hwt : l.wt ≤ 1099511627776) (hp : PtsAt G w A 0 l) :
    Calls Try.prog 25 #[.slice A l.len c] w fun e w' => e = .returned (.int .i64 (l.much : Nat)) ∧ ∃ m, w' = w.drewN m := much_any (l.deep + 1) l G A c w (by omega) hwt hp
end Go.Proofs.Ytpefkhbejjndeaa
