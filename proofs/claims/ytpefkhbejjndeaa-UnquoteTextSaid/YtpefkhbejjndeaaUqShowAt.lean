/- conchref25.show, conchref25.Show of a word that has a text without quotes, no texts of commands; unquote.Plain: walked. -/
import Derived.Test.YtpefkhbejjndeaaUqShow
namespace Go.Proofs.Ytpefkhbejjndeaa
open Go.RowKit

set_option maxRecDepth 100000 in
set_option maxHeartbeats 4000000 in
theorem show25_at : ∀ n : Nat, ShAt n := by
  intro n
  induction n with
  | zero => intro l _ _ _ _ h; omega
  | succ n ih =>
    intro l G A c w hd hwt hu hG hp
    have hlw := Pts.len_wt l
    have hsl := Pts.sht_len l
    have IH := Lib.hid ih; have HG := Lib.hid hG; have HP := Lib.hid hp; have HU0 := Lib.hid hu
    clear ih hG hp hu
    go_enter Try.func71, Try.ntmps71
    go_wp2
    go_loopw [1, 6, 7] (fun cm s i wr => ∃ (k : Nat) (pre : List UInt8), k ≤ l.len ∧ cm = .slice none 0 0 ∧ s = bs pre ∧ i = .int .i64 k ∧ l.sht = pre ++ (l.drop k).sht ∧ (l.drop k).utx.isSome = true ∧ Below w.heap.size w wr) (fun _ _ i _ => l.len - (intOf i).toNat)
    case atStart => exact ⟨0, [], by omega, rfl, rfl, rfl, by rw [Pts.drop_zero]; rfl, by rw [Pts.drop_zero]; exact HU0.out, Below.refl _ _⟩
    case round =>
      obtain ⟨k, pre, hk, rfl, rfl, rfl, hs, hus, hb⟩ := hrel
      have hls : pre.length ≤ l.sht.length := by rw [hs, List.length_append]; omega
      have HS := Lib.hid hs; have HB := Lib.hid hb
      clear hs hb
      by_cases hlt : k < l.len
      · obtain ⟨pk, t, o, kids, cm, r, hdr⟩ := Pts.drop_cons k l hlt
        have hwd := Pts.wt_drop k l
        rw [hdr, Pts.wt] at hwd
        have hp' := (HP.out.old HG.out HB.out).at_ k
        rw [hdr, Nat.zero_add] at hp'
        obtain ⟨bb, off, Ak, ck, rfl, hg, c0, c1, c2, c3, c4, hl, h1, h2⟩ := hp'
        have hkd := Pts.deep_drop k l hdr
        rw [hdr] at hus
        obtain ⟨hur, hkk⟩ := Pts.utx_cons hus
        have HD := Lib.hid hdr; have HUR := Lib.hid hur; have HKK := Lib.hid hkk
        have HK1 := Lib.hid h1
        have HGW := Lib.hid (show ∀ j, G j → j < wr.heap.size from fun j hj => Nat.lt_of_lt_of_le (HG.out j hj) HB.out.size)
        clear hdr hl h2 hus hur hkk h1
        unfold Cm.val at c4
        have hrow : l.sht = pre ++ one25 pk t kids ++ (l.drop (k + 1)).sht := by
          have he : (Pts.cons pk t o kids cm r).sht = one25 pk t kids ++ r.sht := by rw [Pts.sht]; rfl
          rw [HS.out, HD.out, Pts.drop_succ k l HD.out, he, List.append_assoc]
        have hol : (pre ++ one25 pk t kids).length ≤ l.sht.length := by have := congrArg List.length hrow; simp only [List.length_append] at this ⊢; omega
        have h1 := adds pre (one25 pk t kids) (by rw [← List.length_append]; omega)
        have HROW := Lib.hid hrow
        clear hrow
        have hts := size_list t
        go_wp2_with fail
        refine (one25_r n IH.out pk t o kids Ak ck cm G wr HKK.out (by omega) (by omega) (by omega) HGW.out HK1.out).mono ?_
        rintro e w1 ⟨rfl, hb1⟩
        have HB1 := Lib.hid (HB.out.trans (hb1.mono HB.out.size))
        clear hb1
        unfold bs
        go_wp2_with fail
        go_roundw
        case rel =>
          refine ⟨k + 1, pre ++ one25 pk t kids, by omega, rfl, rfl, by go_num, HROW.out, by rw [Pts.drop_succ k l HD.out]; exact HUR.out, HB1.out⟩
        case measure => simp only [intOf]; omega
      · have HE := Lib.hid (Pts.drop_end k l (by omega))
        unfold bs
        go_wp2_with fail
        go_ret2
        have he : l.sht = pre := by rw [HS.out, HE.out]; simp [Pts.sht]
        exact ⟨by rw [he]; rfl, HB.out⟩

set_option maxRecDepth 100000 in
set_option maxHeartbeats 1000000 in
theorem show25_p (l : Pts) (A : Option Addr) (c : Nat) (G : Nat → Prop) (w : World) (hwt : l.wt ≤ 1073741824) (hu : l.utx.isSome = true) (hG : ∀ k, G k → k < w.heap.size) (hp : PtsAt G w A 0 l) :
    Calls Try.prog 43 #[.agg #[.slice A l.len c], .slice none 0 0] w fun e w' => e = .returned (bs l.sht) ∧ Below w.heap.size w w' := by
  have hb : Below w.heap.size w (w.alloc (.cells #[.slice A l.len c] 33)) := (Below.refl _ _).alloc (Nat.le_refl _) _
  have hC := show25_at (l.deep + 1) l G A c (w.alloc (.cells #[.slice A l.len c] 33)) (by omega) hwt hu (fun j hj => Nat.lt_of_lt_of_le (hG j hj) hb.size) (hp.old hG hb)
  have HC := Lib.hid hC; have HB := Lib.hid hb
  clear hC hb hp hG
  go_enter Try.func43, Try.ntmps43
  go_wp2_with fail
  refine HC.out.mono ?_
  rintro e w1 ⟨rfl, hb1⟩
  have HB1 := Lib.hid (HB.out.trans (hb1.mono HB.out.size))
  clear hb1
  unfold bs
  go_wp2_with fail
  go_ret
  exact ⟨rfl, HB1.out⟩

/-- A plain word's text. -/
def Pts.plt : Pts → Option (List UInt8)
  | .cons k t _ _ _ .nil => if k = 1 then some t.toList else none
  | _ => none

set_option maxRecDepth 100000 in
set_option maxHeartbeats 1000000 in
theorem uplain_p (l : Pts) (A : Option Addr) (c : Nat) (G : Nat → Prop) (w : World) (hwt : l.len ≤ 140737488355328) (hG : ∀ k, G k → k < w.heap.size) (hp : PtsAt G w A 0 l) :
    Calls Try.prog 35 #[.agg #[.slice A l.len c]] w fun e w' => e = .returned (.tuple #[bs (l.plt.getD []), .bool l.plt.isSome]) ∧ Below w.heap.size w w' := by
  have hb : Below w.heap.size w (w.alloc (.cells #[.slice A l.len c] 33)) := (Below.refl _ _).alloc (Nat.le_refl _) _
  have HB := Lib.hid hb
  have HP := Lib.hid (hp.old hG hb)
  clear hb hp hG
  cases l with
  | nil =>
    go_enter Try.func35, Try.ntmps35
    rw [show Pts.len .nil = 0 from rfl]
    go_wp2_with fail
    go_ret2
    exact ⟨rfl, HB.out⟩
  | cons k t o kids cm r =>
    cases r with
    | cons k2 t2 o2 kids2 cm2 r2 =>
      have hl2 : ((Pts.cons k t o kids cm (.cons k2 t2 o2 kids2 cm2 r2)).len == 1) = false := by simp [Pts.len]
      have hlen : ((((Pts.cons k t o kids cm (.cons k2 t2 o2 kids2 cm2 r2)).len : Nat) : Int) == 1) = false := by simp [Pts.len]; omega
      generalize (Pts.cons k t o kids cm (.cons k2 t2 o2 kids2 cm2 r2)).len = n at *
      go_enter Try.func35, Try.ntmps35
      go_wp2_with fail
      go_ret2
      exact ⟨rfl, HB.out⟩
    | nil =>
      obtain ⟨bb, off, Ak, ck, rfl, hg, c0, c1, c2, c3, c4, hl, h1, h2⟩ := HP.out
      rw [show (Pts.cons k t o kids cm .nil).len = 1 from rfl] at *
      simp only [Nat.zero_mul, Nat.add_zero] at c0 c1
      obtain ⟨tl, rfl⟩ : ∃ tl : List UInt8, t = ⟨tl.toArray⟩ := ⟨t.toList, by rw [mk_list]⟩
      cases m1 : (k == 1)
      · have H1 := Lib.hid (show ¬ k = 1 from beq_eq_false_iff_ne.1 m1)
        go_enter Try.func35, Try.ntmps35
        go_wp2_with fail
        go_ret2
        exact ⟨by rw [Pts.plt, if_neg H1.out]; rfl, HB.out⟩
      · have H1 := Lib.hid (show k = 1 from by simpa using m1)
        go_enter Try.func35, Try.ntmps35
        go_wp2_with fail
        go_ret2
        exact ⟨by rw [Pts.plt, if_pos H1.out, Lib.toList_data]; rfl, HB.out⟩
end Go.Proofs.Ytpefkhbejjndeaa
