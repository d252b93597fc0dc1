/- The document's answers: conchref27.Text, Plain, Quoted; conchref04.Same: walked. -/
import Derived.Test.YtpefkhbejjndeaaUqShowAt
import Derived.Test.YtpefkhbejjndeaaUqQuoted
namespace Go.Proofs.Ytpefkhbejjndeaa
open Go.RowKit

/-- conchref27.text, of words of depth below n. -/
def RtAt (n : Nat) : Prop := ∀ (l : Pts) (G : Nat → Prop) (A : Option Addr) (c : Nat) (w : World), l.deep < n → l.wt ≤ 1073741824 → PtsAt G w A 0 l →
  Calls Try.prog 66 #[.slice A l.len c] w fun e w' => e = .returned (.tuple #[bs (l.utx.getD []), .bool l.utx.isSome]) ∧ w = w'

set_option maxRecDepth 100000 in
set_option maxHeartbeats 8000000 in
theorem rtext_at : ∀ n : Nat, RtAt n := by
  intro n
  induction n with
  | zero => intro l _ _ _ _ h; omega
  | succ n ih =>
    intro l G A c w hd hwt hp
    have hlw := Pts.len_wt l
    have IH := Lib.hid ih; have HP := Lib.hid hp
    clear ih hp
    go_enter Try.func66, Try.ntmps66
    go_wp2
    go_loopw [4, 5] (fun s i wr => ∃ (k : Nat) (pre : List UInt8), k ≤ l.len ∧ s = bs pre ∧ i = .int .i64 k ∧ l.utx = (l.drop k).utx.map (pre ++ ·) ∧ pre.length + (l.drop k).wt ≤ l.wt ∧ w = wr) (fun _ i _ => l.len - (intOf i).toNat)
    case atStart => exact ⟨0, [], by omega, rfl, rfl, by rw [Pts.drop_zero]; cases l.utx <;> simp, by rw [Pts.drop_zero]; simp, rfl⟩
    case round =>
      obtain ⟨k, pre, hk, rfl, rfl, hf, hl0, rfl⟩ := hrel
      have HF := Lib.hid hf; have HL := Lib.hid hl0
      clear hf
      unfold bs
      by_cases hlt : k < l.len
      · obtain ⟨pk, t, o, kids, cm, r, hdr⟩ := Pts.drop_cons k l hlt
        have hp' := HP.out.at_ k
        rw [hdr, Nat.zero_add] at hp'
        obtain ⟨bb, off, Ak, ck, rfl, hg, c0, c1, c2, c3, c4, hl, h1, h2⟩ := hp'
        rw [hdr, Pts.wt] at hl0
        have hkd := Pts.deep_drop k l hdr
        have HD := Lib.hid hdr
        have HK1 := Lib.hid h1
        clear hdr hl h2 h1 c4 c2
        obtain ⟨tl, rfl⟩ : ∃ tl : List UInt8, t = ⟨tl.toArray⟩ := ⟨t.toList, by rw [mk_list]⟩
        have htl := size_lit tl
        have hT : (⟨tl.toArray⟩ : ByteArray).toList = tl := by rw [Lib.toList_data]
        have HT := Lib.hid hT
        clear hT
        cases m1 : (pk == 1)
        · cases m2 : (pk == 2)
          · cases m3 : (pk == 3)
            · have h123 : ¬ (pk = 1 ∨ pk = 2 ∨ pk = 3) := by
                have a1 := beq_eq_false_iff_ne.1 m1; have a2 := beq_eq_false_iff_ne.1 m2; have a3 := beq_eq_false_iff_ne.1 m3
                omega
              have H123 := Lib.hid h123
              clear h123
              cases m4 : (pk == 4)
              · have HN4 := Lib.hid (show ¬ pk = 4 from beq_eq_false_iff_ne.1 m4)
                go_wp2_with fail
                go_ret2
                have hno : l.utx = none := by rw [HF.out, HD.out, Pts.utx, if_neg H123.out, if_neg HN4.out]; rfl
                exact ⟨by rw [hno]; rfl, rfl⟩
              · have H4 := Lib.hid (show pk = 4 from by simpa using m4)
                have hadd : ∀ x, kids.utx = some x → (Op.stringOp .add ⟨pre.toArray⟩ ⟨x.toArray⟩).run Try.prog w = .ok (.string ⟨(pre ++ x).toArray⟩) w := fun x hx => adds pre x (by have := Pts.utx_len kids x hx; omega) w
                have HADD := Lib.hid hadd
                clear hadd
                go_wp2_with fail
                refine (IH.out kids G Ak ck w (by omega) (by omega) HK1.out).mono ?_
                rintro e w1 ⟨rfl, rfl⟩
                cases hku : kids.utx with
                | none =>
                  have HU := Lib.hid hku
                  simp only [Option.isSome_none, Option.getD_none]
                  unfold bs
                  go_wp2_with fail
                  go_ret2
                  have hno : l.utx = none := by rw [HF.out, HD.out, Pts.utx, if_neg H123.out, if_pos H4.out, HU.out]; rfl
                  exact ⟨by rw [hno]; rfl, rfl⟩
                | some sk =>
                  have hadd := HADD.out sk hku
                  have HU := Lib.hid hku
                  simp only [Option.isSome_some, Option.getD_some]
                  unfold bs
                  go_wp2_with fail
                  go_roundw
                  case rel =>
                    refine ⟨k + 1, pre ++ sk, by omega, rfl, by go_num, ?_, ?_, trivial⟩
                    · have h := HF.out
                      rw [HD.out, Pts.utx, if_neg H123.out, if_pos H4.out, HU.out] at h
                      rw [Pts.drop_succ k l HD.out, h]
                      cases r.utx <;> simp
                    · rw [Pts.drop_succ k l HD.out, List.length_append]
                      have h5 := Pts.utx_len kids sk HU.out
                      have := HL.out
                      rw [HD.out, Pts.wt] at this
                      omega
                  case measure => simp only [intOf]; omega
            · have HM := Lib.hid (show pk = 1 ∨ pk = 2 ∨ pk = 3 from .inr (.inr (by simpa using m3)))
              have hadd := adds pre tl (by omega) w
              go_wp2_with fail
              go_roundw
              case rel =>
                refine ⟨k + 1, pre ++ tl, by omega, rfl, by go_num, ?_, ?_, trivial⟩
                · have h := HF.out
                  rw [HD.out, Pts.utx, if_pos HM.out, HT.out] at h
                  rw [Pts.drop_succ k l HD.out, h]
                  cases r.utx <;> simp
                · rw [Pts.drop_succ k l HD.out, List.length_append]
                  have := HL.out
                  rw [HD.out, Pts.wt, size_lit] at this
                  omega
              case measure => simp only [intOf]; omega
          · have HM := Lib.hid (show pk = 1 ∨ pk = 2 ∨ pk = 3 from .inr (.inl (by simpa using m2)))
            have hadd := adds pre tl (by omega) w
            go_wp2_with fail
            go_roundw
            case rel =>
              refine ⟨k + 1, pre ++ tl, by omega, rfl, by go_num, ?_, ?_, trivial⟩
              · have h := HF.out
                rw [HD.out, Pts.utx, if_pos HM.out, HT.out] at h
                rw [Pts.drop_succ k l HD.out, h]
                cases r.utx <;> simp
              · rw [Pts.drop_succ k l HD.out, List.length_append]
                have := HL.out
                rw [HD.out, Pts.wt, size_lit] at this
                omega
            case measure => simp only [intOf]; omega
        · have HM := Lib.hid (show pk = 1 ∨ pk = 2 ∨ pk = 3 from .inl (by simpa using m1))
          have hadd := adds pre tl (by omega) w
          go_wp2_with fail
          go_roundw
          case rel =>
            refine ⟨k + 1, pre ++ tl, by omega, rfl, by go_num, ?_, ?_, trivial⟩
            · have h := HF.out
              rw [HD.out, Pts.utx, if_pos HM.out, HT.out] at h
              rw [Pts.drop_succ k l HD.out, h]
              cases r.utx <;> simp
            · rw [Pts.drop_succ k l HD.out, List.length_append]
              have := HL.out
              rw [HD.out, Pts.wt, size_lit] at this
              omega
          case measure => simp only [intOf]; omega
      · have HE := Lib.hid (Pts.drop_end k l (by omega))
        go_wp2_with fail
        go_ret2
        have hs : l.utx = some pre := by rw [HF.out, HE.out]; simp [Pts.utx]
        exact ⟨by rw [hs]; rfl, rfl⟩

set_option maxRecDepth 100000 in
set_option maxHeartbeats 1000000 in
theorem rtext_r (l : Pts) (A : Option Addr) (c : Nat) (G : Nat → Prop) (w : World) (hwt : l.wt ≤ 1073741824) (hG : ∀ k, G k → k < w.heap.size) (hp : PtsAt G w A 0 l) :
    Calls Try.prog 34 #[.agg #[.slice A l.len c]] w fun e w' => e = .returned (.tuple #[bs (l.utx.getD []), .bool l.utx.isSome]) ∧ Below w.heap.size w w' := by
  have hb : Below w.heap.size w (w.alloc (.cells #[.slice A l.len c] 33)) := (Below.refl _ _).alloc (Nat.le_refl _) _
  have hC := rtext_at (l.deep + 1) l G A c (w.alloc (.cells #[.slice A l.len c] 33)) (by omega) hwt (hp.old hG hb)
  have HC := Lib.hid hC; have HB := Lib.hid hb
  clear hC hb hp hG
  go_enter Try.func34, Try.ntmps34
  go_wp2_with fail
  refine HC.out.mono ?_
  rintro e w1 ⟨rfl, rfl⟩
  unfold bs
  go_wp2_with fail
  go_ret2
  exact ⟨rfl, HB.out⟩

set_option maxRecDepth 100000 in
set_option maxHeartbeats 1000000 in
theorem rplain_r (l : Pts) (A : Option Addr) (c : Nat) (G : Nat → Prop) (w : World) (hwt : l.wt ≤ 1073741824) (hG : ∀ k, G k → k < w.heap.size) (hp : PtsAt G w A 0 l) :
    Calls Try.prog 36 #[.agg #[.slice A l.len c]] w fun e w' => e = .returned (.tuple #[bs (l.plt.getD []), .bool l.plt.isSome]) ∧ Below w.heap.size w w' := by
  have hb : Below w.heap.size w (w.alloc (.cells #[.slice A l.len c] 33)) := (Below.refl _ _).alloc (Nat.le_refl _) _
  have HB := Lib.hid hb
  have hlw := Pts.len_wt l
  have HP := Lib.hid (hp.old hG hb)
  clear hb hp hG
  cases l with
  | nil =>
    go_enter Try.func36, Try.ntmps36
    rw [show Pts.len .nil = 0 from rfl]
    go_wp2_with fail
    go_ret2
    exact ⟨rfl, HB.out⟩
  | cons k t o kids cm r =>
    cases r with
    | cons k2 t2 o2 kids2 cm2 r2 =>
      have hlen : ((((Pts.cons k t o kids cm (.cons k2 t2 o2 kids2 cm2 r2)).len : Nat) : Int) != 1) = true := by simp [Pts.len]; omega
      generalize (Pts.cons k t o kids cm (.cons k2 t2 o2 kids2 cm2 r2)).len = n at *
      go_enter Try.func36, Try.ntmps36
      go_wp2_with fail
      go_ret2
      exact ⟨rfl, HB.out⟩
    | nil =>
      obtain ⟨bb, off, Ak, ck, rfl, hg, c0, c1, c2, c3, c4, hl, h1, h2⟩ := HP.out
      rw [show (Pts.cons k t o kids cm .nil).len = 1 from rfl] at *
      simp only [Nat.zero_mul, Nat.add_zero] at c0 c1
      obtain ⟨tl, rfl⟩ : ∃ tl : List UInt8, t = ⟨tl.toArray⟩ := ⟨t.toList, by rw [mk_list]⟩
      cases m1 : (k == 1)
      · have H1 := Lib.hid (show ¬ k = 1 from beq_eq_false_iff_ne.1 m1)
        go_enter Try.func36, Try.ntmps36
        go_wp2_with fail
        go_ret2
        exact ⟨by rw [Pts.plt, if_neg H1.out]; rfl, HB.out⟩
      · have H1 := Lib.hid (show k = 1 from by simpa using m1)
        go_enter Try.func36, Try.ntmps36
        go_wp2_with fail
        go_ret2
        exact ⟨by rw [Pts.plt, if_pos H1.out, Lib.toList_data]; rfl, HB.out⟩

set_option maxRecDepth 100000 in
set_option maxHeartbeats 4000000 in
theorem rquoted_r (l : Pts) (A : Option Addr) (c : Nat) (G : Nat → Prop) (w : World) (hwt : l.wt ≤ 1073741824) (hG : ∀ k, G k → k < w.heap.size) (hp : PtsAt G w A 0 l) :
    Calls Try.prog 39 #[.agg #[.slice A l.len c]] w fun e w' => e = .returned (.bool l.quoted) ∧ Below w.heap.size w w' := by
  have hb : Below w.heap.size w (w.alloc (.cells #[.slice A l.len c] 33)) := (Below.refl _ _).alloc (Nat.le_refl _) _
  have HB := Lib.hid hb
  have hlw := Pts.len_wt l
  have HP := Lib.hid (hp.old hG hb)
  have q0 : (w.alloc (.cells #[.slice A l.len c] 33)).cell? ⟨w.heap.size, 0, none⟩ = some (.slice A l.len c) := by simp
  clear hb hp hG
  go_enter Try.func39, Try.ntmps39
  go_wp2
  generalize hW : w.alloc _ = W at *
  clear hW
  go_loopw [3] (fun i wr => ∃ (k : Nat), k ≤ l.len ∧ i = .int .i64 k ∧ l.quoted = (l.drop k).quoted ∧ W = wr) (fun i _ => l.len - (intOf i).toNat)
  case atStart => exact ⟨0, by omega, rfl, by rw [Pts.drop_zero], rfl⟩
  case round =>
    obtain ⟨k, hk, rfl, hf, rfl⟩ := hrel
    have HF := Lib.hid hf
    clear hf
    by_cases hlt : k < l.len
    · obtain ⟨pk, t, o, kids, cm, r, hdr⟩ := Pts.drop_cons k l hlt
      have hp' := HP.out.at_ k
      rw [hdr, Nat.zero_add] at hp'
      obtain ⟨bb, off, Ak, ck, rfl, hg, c0, c1, c2, c3, c4, hl, h1, h2⟩ := hp'
      have HD := Lib.hid hdr
      clear hdr hl h2 h1 c4 c2 c1 c3
      have HQ := Lib.hid (show l.quoted = (qB pk || r.quoted) from by rw [HF.out, HD.out]; rfl)
      cases m2 : (pk == 2)
      · cases m3 : (pk == 3)
        · cases m4 : (pk == 4)
          · have HQB := Lib.hid (show qB pk = false from by unfold qB; rw [m2, m3, m4]; rfl)
            go_wp2_with fail
            go_roundw
            case rel => exact ⟨k + 1, by omega, by go_num, by rw [HQ.out, HQB.out, Pts.drop_succ k l HD.out, Bool.false_or], trivial⟩
            case measure => simp only [intOf]; omega
          · have HQB := Lib.hid (show qB pk = true from by unfold qB; rw [m2, m3, m4]; rfl)
            go_wp2_with fail
            go_ret
            exact ⟨ret_bool (by rw [HQ.out, HQB.out, Bool.true_or]), HB.out⟩
        · have HQB := Lib.hid (show qB pk = true from by unfold qB; rw [m2, m3]; rfl)
          go_wp2_with fail
          go_ret
          exact ⟨ret_bool (by rw [HQ.out, HQB.out, Bool.true_or]), HB.out⟩
      · have HQB := Lib.hid (show qB pk = true from by unfold qB; rw [m2]; rfl)
        go_wp2_with fail
        go_ret
        exact ⟨ret_bool (by rw [HQ.out, HQB.out, Bool.true_or]), HB.out⟩
    · have HE := Lib.hid (Pts.drop_end k l (by omega))
      go_wp2_with fail
      go_ret
      exact ⟨ret_bool (by rw [HF.out, HE.out]; rfl), HB.out⟩
end Go.Proofs.Ytpefkhbejjndeaa
