/- unquote.Quoted: walked. -/
import Derived.Test.YtpefkhbejjndeaaRefParam
import Derived.Test.YtpefkhbejjndeaaBase
import Derived.LoopTactic
import Derived.Outline
namespace Go.Proofs.Ytpefkhbejjndeaa
open Go.RowKit

def qB (k : Int) : Bool := k == 2 || k == 3 || k == 4
def Pts.quoted : Pts → Bool
  | .nil => false
  | .cons k _ _ _ _ r => qB k || r.quoted

set_option maxRecDepth 100000 in
set_option maxHeartbeats 1000000 in
theorem quoted1_p (k : Int) (t o : ByteArray) (Ak : Option Addr) (n ck : Nat) (cm : Cm) (w : World) :
    Calls Try.prog 68 #[.agg #[.int .i64 k, .string t, .string o, .slice Ak n ck, .slice cm.a cm.n cm.c]] w fun e w' => e = .returned (.bool (qB k)) ∧ Below w.heap.size w w' := by
  have hb : Below w.heap.size w (w.alloc (.cells #[.int .i64 k, .string t, .string o, .slice Ak n ck, .slice cm.a cm.n cm.c] 41)) := (Below.refl _ _).alloc (Nat.le_refl _) _
  have HB := Lib.hid hb
  clear hb
  have HQ := Lib.hid (show qB k = (k == 2 || k == 3 || k == 4) from rfl)
  cases m2 : (k == 2)
  · cases m3 : (k == 3)
    · cases m4 : (k == 4)
      all_goals
        go_enter Try.func68, Try.ntmps68
        go_wp2
        go_ret
        exact ⟨ret_bool (by rw [HQ.out, m2, m3, m4]; rfl), HB.out⟩
    · go_enter Try.func68, Try.ntmps68
      go_wp2
      go_ret
      exact ⟨ret_bool (by rw [HQ.out, m2, m3]; rfl), HB.out⟩
  · go_enter Try.func68, Try.ntmps68
    go_wp2
    go_ret
    exact ⟨ret_bool (by rw [HQ.out, m2]; rfl), HB.out⟩

set_option maxRecDepth 100000 in
set_option maxHeartbeats 1000000 in
theorem index_p (l : Pts) (A : Option Addr) (c : Nat) (G : Nat → Prop) (w : World) (hwt : l.wt ≤ 1073741824) (hG : ∀ k, G k → k < w.heap.size) (hp : PtsAt G w A 0 l) :
    Calls Try.prog 89 #[.slice A l.len c, .func (.func 68) #[] #[]] w fun e w' => ∃ r : Int, e = .returned (.int .i64 r) ∧ decide (0 ≤ r) = l.quoted ∧ Below w.heap.size w w' := by
  have hlw := Pts.len_wt l
  have HP := Lib.hid hp; have HG := Lib.hid hG
  clear hp hG
  go_enter Try.func89, Try.ntmps89
  go_wp2
  go_loopw [8] (fun i wr => ∃ (k : Nat), k ≤ l.len ∧ i = .int .i64 k ∧ (l.drop k).quoted = l.quoted ∧ Below w.heap.size w wr) (fun i _ => l.len - (intOf i).toNat)
  case atStart => exact ⟨0, by omega, rfl, by rw [Pts.drop_zero], Below.refl _ _⟩
  case round =>
    obtain ⟨k, hk, rfl, hf, hb⟩ := hrel
    have HF := Lib.hid hf; have HB := Lib.hid hb
    clear hf hb
    by_cases hlt : k < l.len
    · obtain ⟨pk, t, o, kids, cm, r, hdr⟩ := Pts.drop_cons k l hlt
      have hp' := (HP.out.old HG.out HB.out).at_ k
      rw [hdr, Nat.zero_add] at hp'
      obtain ⟨b, off, Ak, ck, rfl, hg, c0, c1, c2, c3, c4, hl, h1, h2⟩ := hp'
      have HD := Lib.hid hdr; clear hdr hl h1 h2
      unfold Cm.val at c4
      go_wp2_with fail
      refine (quoted1_p pk t o Ak kids.len ck cm _).mono ?_
      rintro e w1 ⟨he, hb1⟩
      have HB1 := Lib.hid (HB.out.trans (hb1.mono HB.out.size))
      clear hb1 c0 c1 c2 c3 c4
      cases hq : qB pk
      · rw [hq] at he
        subst he
        have HQ := Lib.hid hq
        go_wp2_with fail
        go_roundw
        case rel =>
          refine ⟨k + 1, by omega, by go_num, ?_, HB1.out⟩
          have h := HF.out
          rw [HD.out, Pts.quoted, HQ.out, Bool.false_or] at h
          rw [Pts.drop_succ k l HD.out]
          exact h
        case measure => simp only [intOf]; omega
      · rw [hq] at he
        subst he
        have HQ := Lib.hid hq
        go_wp2_with fail
        go_ret
        refine ⟨(k : Int), rfl, ?_, HB1.out⟩
        rw [← HF.out, HD.out, Pts.quoted, HQ.out, Bool.true_or]
        exact decide_eq_true (by omega)
    · have HE := Lib.hid (Pts.drop_end k l (by omega))
      go_wp2_with fail
      go_ret
      refine ⟨-1, rfl, ?_, HB.out⟩
      rw [← HF.out, HE.out]
      rfl

set_option maxRecDepth 100000 in
set_option maxHeartbeats 1000000 in
theorem contains_p (l : Pts) (A : Option Addr) (c : Nat) (G : Nat → Prop) (w : World) (hwt : l.wt ≤ 1073741824) (hG : ∀ k, G k → k < w.heap.size) (hp : PtsAt G w A 0 l) :
    Calls Try.prog 67 #[.slice A l.len c, .func (.func 68) #[] #[]] w fun e w' => e = .returned (.bool l.quoted) ∧ Below w.heap.size w w' := by
  have HX := Lib.hid (index_p l A c G w hwt hG hp)
  clear hG hp
  go_enter Try.func67, Try.ntmps67
  go_wp2_with fail
  refine HX.out.mono ?_
  rintro e w1 ⟨r, rfl, hq, hb⟩
  have HQ := Lib.hid hq
  clear hq
  go_wp2_with fail
  go_ret
  exact ⟨ret_bool HQ.out, hb⟩
set_option maxRecDepth 100000 in
set_option maxHeartbeats 1000000 in
theorem quoted_p (l : Pts) (A : Option Addr) (c : Nat) (G : Nat → Prop) (w : World) (hwt : l.wt ≤ 1073741824) (hG : ∀ k, G k → k < w.heap.size) (hp : PtsAt G w A 0 l) :
    Calls Try.prog 38 #[.agg #[.slice A l.len c]] w fun e w' => e = .returned (.bool l.quoted) ∧ Below w.heap.size w w' := by
  have hb : Below w.heap.size w (w.alloc (.cells #[.slice A l.len c] 33)) := (Below.refl _ _).alloc (Nat.le_refl _) _
  have HB := Lib.hid hb; have HP := Lib.hid (hp.old hG hb)
  have HG := Lib.hid (show ∀ k, G k → k < (w.alloc (.cells #[.slice A l.len c] 33)).heap.size from fun k hk => Nat.lt_of_lt_of_le (hG k hk) hb.size)
  clear hb hp hG
  go_enter Try.func38, Try.ntmps38
  go_wp2_with fail
  refine (contains_p l A c G _ hwt HG.out HP.out).mono ?_
  rintro e w1 ⟨rfl, hb⟩
  go_wp2_with fail
  go_ret
  exact ⟨rfl, HB.out.trans (hb.mono HB.out.size)⟩
end Go.Proofs.Ytpefkhbejjndeaa
