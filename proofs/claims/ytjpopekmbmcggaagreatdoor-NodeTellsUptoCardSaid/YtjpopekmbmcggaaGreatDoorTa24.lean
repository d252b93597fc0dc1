/- Towards nodeTells_card: UqRefs, OperPlain, OperWalks, NdRedir, Much. Merged from smaller texts by a program of the author's. -/
import Derived.Test.YtjpopekmbmcggaaGreatDoorTa11
import Derived.Test.YtjpopekmbmcggaaGreatDoorTa23
import Derived.Test.YtjpopekmbmcggaaGreatDoorTa01
import Derived.BigQuiet
import Derived.Deep.QuietTactic
import Derived.Test.YtjpopekmbmcggaaGreatDoorTa21
import Derived.Test.YtjpopekmbmcggaaGreatDoorTa04
namespace Go.Proofs.YtjpopekmbmcggaaGreatDoor
open Go.RowKit
def RtAt (n : Nat) : Prop := ∀ (l : Pts) (G : Nat → Prop) (A : Option Addr) (c : Nat) (w : World), l.deep < n → l.wt ≤ 1073741824 → PtsAt G w A 0 l →
  Calls Tryz.prog 123 #[.slice A l.len c] w fun e w' => e = .returned (.tuple #[bs (l.utx.getD []), .bool l.utx.isSome]) ∧ w = w'
set_option maxRecDepth 100000 in
set_option maxHeartbeats 8000000 in
theorem rtext_at : ∀ n : Nat, RtAt n := by
  intro n
  induction n with
  | zero => intro l _ _ _ _ h; omega
  | succ n ih =>
    intro l G A c w hd hwt hp
    have hlw := Pts.len_wt l
    have IH := Lib.hid ih; have HP := Lib.hid hp
    clear ih hp
    go_enter Tryz.func123, Tryz.ntmps123
    go_wp2
    go_loopw [4, 5] (fun s i wr => ∃ (k : Nat) (pre : List UInt8), k ≤ l.len ∧ s = bs pre ∧ i = .int .i64 k ∧ l.utx = (l.drop k).utx.map (pre ++ ·) ∧ pre.length + (l.drop k).wt ≤ l.wt ∧ w = wr) (fun _ i _ => l.len - (intOf i).toNat)
    case atStart => exact ⟨0, [], by omega, rfl, rfl, by rw [Pts.drop_zero]; cases l.utx <;> simp, by rw [Pts.drop_zero]; simp, rfl⟩
    case round =>
      obtain ⟨k, pre, hk, rfl, rfl, hf, hl0, rfl⟩ := hrel
      have HF := Lib.hid hf; have HL := Lib.hid hl0
      clear hf
      unfold bs
      by_cases hlt : k < l.len
      · obtain ⟨pk, t, o, kids, cm, r, hdr⟩ := Pts.drop_cons k l hlt
        have hp' := HP.out.at_ k
        rw [hdr, Nat.zero_add] at hp'
        obtain ⟨bb, off, Ak, ck, rfl, hg, c0, c1, c2, c3, c4, hl, h1, h2⟩ := hp'
        rw [hdr, Pts.wt] at hl0
        have hkd := Pts.deep_drop k l hdr
        have HD := Lib.hid hdr
        have HK1 := Lib.hid h1
        clear hdr hl h2 h1 c4 c2
        obtain ⟨tl, rfl⟩ : ∃ tl : List UInt8, t = ⟨tl.toArray⟩ := ⟨t.toList, by rw [mk_list]⟩
        have htl := size_lit tl
        have hT : (⟨tl.toArray⟩ : ByteArray).toList = tl := by rw [Lib.toList_data]
        have HT := Lib.hid hT
        clear hT
        cases m1 : (pk == 1)
        · cases m2 : (pk == 2)
          · cases m3 : (pk == 3)
            · have h123 : ¬ (pk = 1 ∨ pk = 2 ∨ pk = 3) := by
                have a1 := beq_eq_false_iff_ne.1 m1; have a2 := beq_eq_false_iff_ne.1 m2; have a3 := beq_eq_false_iff_ne.1 m3
                omega
              have H123 := Lib.hid h123
              clear h123
              cases m4 : (pk == 4)
              · have HN4 := Lib.hid (show ¬ pk = 4 from beq_eq_false_iff_ne.1 m4)
                go_wp2_with fail
                go_ret2
                have hno : l.utx = none := by rw [HF.out, HD.out, Pts.utx, if_neg H123.out, if_neg HN4.out]; rfl
                exact ⟨by rw [hno]; rfl, rfl⟩
              · have H4 := Lib.hid (show pk = 4 from by simpa using m4)
                have hadd : ∀ x, kids.utx = some x → (Op.stringOp .add ⟨pre.toArray⟩ ⟨x.toArray⟩).run Tryz.prog w = .ok (.string ⟨(pre ++ x).toArray⟩) w := fun x hx => adds pre x (by have := Pts.utx_len kids x hx; omega) w
                have HADD := Lib.hid hadd
                clear hadd
                go_wp2_with fail
                refine (IH.out kids G Ak ck w (by omega) (by omega) HK1.out).mono ?_
                rintro e w1 ⟨rfl, rfl⟩
                cases hku : kids.utx with
                | none =>
                  have HU := Lib.hid hku
                  simp only [Option.isSome_none, Option.getD_none]
                  unfold bs
                  go_wp2_with fail
                  go_ret2
                  have hno : l.utx = none := by rw [HF.out, HD.out, Pts.utx, if_neg H123.out, if_pos H4.out, HU.out]; rfl
                  exact ⟨by rw [hno]; rfl, rfl⟩
                | some sk =>
                  have hadd := HADD.out sk hku
                  have HU := Lib.hid hku
                  simp only [Option.isSome_some, Option.getD_some]
                  unfold bs
                  go_wp2_with fail
                  go_roundw
                  case rel =>
                    refine ⟨k + 1, pre ++ sk, by omega, rfl, by go_num, ?_, ?_, trivial⟩
                    · have h := HF.out
                      rw [HD.out, Pts.utx, if_neg H123.out, if_pos H4.out, HU.out] at h
                      rw [Pts.drop_succ k l HD.out, h]
                      cases r.utx <;> simp
                    · rw [Pts.drop_succ k l HD.out, List.length_append]
                      have h5 := Pts.utx_len kids sk HU.out
                      have := HL.out
                      rw [HD.out, Pts.wt] at this
                      omega
                  case measure => simp only [intOf]; omega
            · have HM := Lib.hid (show pk = 1 ∨ pk = 2 ∨ pk = 3 from .inr (.inr (by simpa using m3)))
              have hadd := adds pre tl (by omega) w
              go_wp2_with fail
              go_roundw
              case rel =>
                refine ⟨k + 1, pre ++ tl, by omega, rfl, by go_num, ?_, ?_, trivial⟩
                · have h := HF.out
                  rw [HD.out, Pts.utx, if_pos HM.out, HT.out] at h
                  rw [Pts.drop_succ k l HD.out, h]
                  cases r.utx <;> simp
                · rw [Pts.drop_succ k l HD.out, List.length_append]
                  have := HL.out
                  rw [HD.out, Pts.wt, size_lit] at this
                  omega
              case measure => simp only [intOf]; omega
          · have HM := Lib.hid (show pk = 1 ∨ pk = 2 ∨ pk = 3 from .inr (.inl (by simpa using m2)))
            have hadd := adds pre tl (by omega) w
            go_wp2_with fail
            go_roundw
            case rel =>
              refine ⟨k + 1, pre ++ tl, by omega, rfl, by go_num, ?_, ?_, trivial⟩
              · have h := HF.out
                rw [HD.out, Pts.utx, if_pos HM.out, HT.out] at h
                rw [Pts.drop_succ k l HD.out, h]
                cases r.utx <;> simp
              · rw [Pts.drop_succ k l HD.out, List.length_append]
                have := HL.out
                rw [HD.out, Pts.wt, size_lit] at this
                omega
            case measure => simp only [intOf]; omega
        · have HM := Lib.hid (show pk = 1 ∨ pk = 2 ∨ pk = 3 from .inl (by simpa using m1))
          have hadd := adds pre tl (by omega) w
          go_wp2_with fail
          go_roundw
          case rel =>
            refine ⟨k + 1, pre ++ tl, by omega, rfl, by go_num, ?_, ?_, trivial⟩
            · have h := HF.out
              rw [HD.out, Pts.utx, if_pos HM.out, HT.out] at h
              rw [Pts.drop_succ k l HD.out, h]
              cases r.utx <;> simp
            · rw [Pts.drop_succ k l HD.out, List.length_append]
              have := HL.out
              rw [HD.out, Pts.wt, size_lit] at this
              omega
          case measure => simp only [intOf]; omega
      · have HE := Lib.hid (Pts.drop_end k l (by omega))
        go_wp2_with fail
        go_ret2
        have hs : l.utx = some pre := by rw [HF.out, HE.out]; simp [Pts.utx]
        exact ⟨by rw [hs]; rfl, rfl⟩
set_option maxRecDepth 100000 in
set_option maxHeartbeats 1000000 in
theorem rtext_r (l : Pts) (A : Option Addr) (c : Nat) (G : Nat → Prop) (w : World) (hwt : l.wt ≤ 1073741824) (hG : ∀ k, G k → k < w.heap.size) (hp : PtsAt G w A 0 l) :
    Calls Tryz.prog 49 #[.agg #[.slice A l.len c]] w fun e w' => e = .returned (.tuple #[bs (l.utx.getD []), .bool l.utx.isSome]) ∧ Below w.heap.size w w' := by
  have hb : Below w.heap.size w (w.alloc (.cells #[.slice A l.len c] 31)) := (Below.refl _ _).alloc (Nat.le_refl _) _
  have hC := rtext_at (l.deep + 1) l G A c (w.alloc (.cells #[.slice A l.len c] 31)) (by omega) hwt (hp.old hG hb)
  have HC := Lib.hid hC; have HB := Lib.hid hb
  clear hC hb hp hG
  go_enter Tryz.func49, Tryz.ntmps49
  go_wp2_with fail
  refine HC.out.mono ?_
  rintro e w1 ⟨rfl, rfl⟩
  unfold bs
  go_wp2_with fail
  go_ret2
  exact ⟨rfl, HB.out⟩
set_option maxRecDepth 100000 in
set_option maxHeartbeats 1000000 in
theorem rplain_r (l : Pts) (A : Option Addr) (c : Nat) (G : Nat → Prop) (w : World) (hwt : l.wt ≤ 1073741824) (hG : ∀ k, G k → k < w.heap.size) (hp : PtsAt G w A 0 l) :
    Calls Tryz.prog 148 #[.agg #[.slice A l.len c]] w fun e w' => e = .returned (.tuple #[bs (l.plt.getD []), .bool l.plt.isSome]) ∧ Below w.heap.size w w' := by
  have hb : Below w.heap.size w (w.alloc (.cells #[.slice A l.len c] 31)) := (Below.refl _ _).alloc (Nat.le_refl _) _
  have HB := Lib.hid hb
  have hlw := Pts.len_wt l
  have HP := Lib.hid (hp.old hG hb)
  clear hb hp hG
  cases l with
  | nil =>
    go_enter Tryz.func148, Tryz.ntmps148
    rw [show Pts.len .nil = 0 from rfl]
    go_wp2_with fail
    go_ret2
    exact ⟨rfl, HB.out⟩
  | cons k t o kids cm r =>
    cases r with
    | cons k2 t2 o2 kids2 cm2 r2 =>
      have hlen : ((((Pts.cons k t o kids cm (.cons k2 t2 o2 kids2 cm2 r2)).len : Nat) : Int) != 1) = true := by simp [Pts.len]; omega
      generalize (Pts.cons k t o kids cm (.cons k2 t2 o2 kids2 cm2 r2)).len = n at *
      go_enter Tryz.func148, Tryz.ntmps148
      go_wp2_with fail
      go_ret2
      exact ⟨rfl, HB.out⟩
    | nil =>
      obtain ⟨bb, off, Ak, ck, rfl, hg, c0, c1, c2, c3, c4, hl, h1, h2⟩ := HP.out
      rw [show (Pts.cons k t o kids cm .nil).len = 1 from rfl] at *
      simp only [Nat.zero_mul, Nat.add_zero] at c0 c1
      obtain ⟨tl, rfl⟩ : ∃ tl : List UInt8, t = ⟨tl.toArray⟩ := ⟨t.toList, by rw [mk_list]⟩
      cases m1 : (k == 1)
      · have H1 := Lib.hid (show ¬ k = 1 from beq_eq_false_iff_ne.1 m1)
        go_enter Tryz.func148, Tryz.ntmps148
        go_wp2_with fail
        go_ret2
        exact ⟨by rw [Pts.plt, if_neg H1.out]; rfl, HB.out⟩
      · have H1 := Lib.hid (show k = 1 from by simpa using m1)
        go_enter Tryz.func148, Tryz.ntmps148
        go_wp2_with fail
        go_ret2
        exact ⟨by rw [Pts.plt, if_pos H1.out, Lib.toList_data]; rfl, HB.out⟩
end Go.Proofs.YtjpopekmbmcggaaGreatDoor
namespace Go.Proofs.YtjpopekmbmcggaaGreatDoor.Ope
def texts : List (List UInt8) := [[], [38, 38], [124, 124], [59, 59], [59], [38], [124], [40], [41], [60], [62], [62, 62], [60, 60], [60, 60, 45], [60, 38], [62, 38], [60, 62], [62, 124]]
def txt (k : Nat) : List UInt8 := texts.getD k []
def findFrom (l : List UInt8) : Nat → Nat → Nat
  | _, 0 => 0
  | k, n + 1 => if txt k == l then k else findFrom l (k + 1) n
def find (l : List UInt8) : Nat := findFrom l 1 17
def moreFrom (l : List UInt8) : Nat → Nat → List Nat
  | _, 0 => []
  | k, n + 1 => if l.isPrefixOf (txt k) then k :: moreFrom l (k + 1) n else moreFrom l (k + 1) n
def more (l : List UInt8) : List Nat := moreFrom l 1 17
def whole (l : List UInt8) : Bool := find l != 0 && (more l).length == 1
def redir (op : Int) : Bool := decide (9 ≤ op) && decide (op ≤ 17)
end Go.Proofs.YtjpopekmbmcggaaGreatDoor.Ope
namespace Go.Proofs.YtjpopekmbmcggaaGreatDoor
open Go.RowKit
def textVals : Array Value := (Ope.texts.map bs).toArray
def TextsAt (w : World) : Prop := ∃ t fr, w.heap[2]? = some (.cells textVals t fr)
theorem TextsAt.below {w w' : World} (h : TextsAt w) (hb : Below w.heap.size w w') : TextsAt w' := by
  obtain ⟨t, fr, hg⟩ := h
  exact ⟨t, fr, (hb.block 2 (Array.getElem?_eq_some_iff.1 hg).1).trans hg⟩
set_option maxHeartbeats 400000 in
theorem redir_r (op : Int) (w : World) : Calls Tryz.prog 48 #[.int .i64 op] w fun e w' => e = .returned (.bool (Ope.redir op)) ∧ w = w' := by
  go_enter Tryz.func48, Tryz.ntmps48
  go_wp2
  all_goals go_ret
  · exact ⟨ret_bool (by have h : 9 ≤ op := by assumption
                        simp [Ope.redir, h]), rfl⟩
  · exact ⟨ret_bool (by have h : op < 9 := by assumption
                        simp [Ope.redir]; omega), rfl⟩
end Go.Proofs.YtjpopekmbmcggaaGreatDoor
namespace Go.Proofs.YtjpopekmbmcggaaGreatDoor
open Go.RowKit
theorem box_keep {W X : World} {b j : Nat} {v : Value} (h : W.cell? ⟨b, j, none⟩ = some v) (hX : Below W.heap.size W X) : X.cell? ⟨b, j, none⟩ = some v := (World.cell?_of_block (hX.block b (cell_lt h))).trans h
theorem digits_rb (s : ByteArray) (w : World) (hm : s.size ≤ 9223372036854775807) : Calls Tryz.prog 47 #[.string s] w fun e w' => e = .returned (.bool (Chr.digits s.toList)) ∧ Below w.heap.size w w' := (digits_r s w hm).mono fun _ _ ⟨h, e⟩ => ⟨h, by rw [← e]; exact Below.refl _ _⟩
theorem redir_rb (op : Int) (w : World) : Calls Tryz.prog 48 #[.int .i64 op] w fun e w' => e = .returned (.bool (Ope.redir op)) ∧ Below w.heap.size w w' := (redir_r op w).mono fun _ _ ⟨h, e⟩ => ⟨h, by rw [← e]; exact Below.refl _ _⟩
def hereB (op : Int) (u : Option (List UInt8)) (l : List UInt8) : Bool := if op = 12 ∨ op = 13 then (match u with | none => false | some s => mayB s (op == 13) l) else l.isEmpty
theorem redirB_eq {α : Type} (v : Vw α) (num here : ByteArray) (op : Int) (to : WdF α) : redirB v ⟨num, op, to, here⟩ = (((num.toList.isEmpty || Chr.digits num.toList) && Ope.redir op) && (wordB v to && hereB op to.p.utx here.toList)) := by
  unfold redirB hereB Ope.redir
  simp only [Bool.and_assoc]
  rfl
theorem hereB_other {op : Int} {u : Option (List UInt8)} {l : List UInt8} (h : ¬ op = 12) (h2 : ¬ op = 13) : hereB op u l = l.isEmpty := by unfold hereB; exact if_neg (by omega)
theorem utx_size {l : Pts} {s : List UInt8} (h : l.utx = some s) (hw : l.wt ≤ 1073741824) : (⟨s.toArray⟩ : ByteArray).size ≤ 1073741824 := by
  have := Pts.utx_len l s h
  show s.length ≤ _
  omega
set_option maxRecDepth 100000 in
set_option maxHeartbeats 8000000 in
theorem redir_n (f : Nat) (ih : PRt f) (G : Nat → Prop) (w : World) (vs : List Value) (x : RdF (Nd f)) (hG : ∀ k, G k → k < w.heap.size) (ht : RsvAt w) (hv : RdN f G w vs x) :
    Calls Tryz.prog 17 #[ag vs] w fun e w' => e = .returned (.bool (redirB (Nd.vw f) x)) ∧ Below w.heap.size w w' := by
  obtain ⟨num, op, to, here⟩ := x
  obtain ⟨vt, rfl, hnum, hhere, hv⟩ := hv
  obtain ⟨A, n, c, hvt⟩ := WdN.shape hv
  injection hvt with hvt
  subst hvt
  have hvv : WdN f G w [.slice A n c] to := hv
  obtain ⟨rfl, hnc, hcm, hwt, hpt, -⟩ := hvv.cmds
  simp only at hnum hhere hnc hcm hwt hpt hvv
  show Calls Tryz.prog 17 #[.agg #[.string num, .int .i64 op, .slice A to.p.len c, .string here]] w _
  have hbw : Below w.heap.size w (w.alloc (.cells #[.string num, .int .i64 op, .slice A to.p.len c, .string here] 33)) := (Below.refl _ _).alloc (Nat.le_refl _) _
  have hbx := heap_alloc_t w (.cells #[.string num, .int .i64 op, .slice A to.p.len c, .string here] 33)
  generalize hW : w.alloc (.cells #[.string num, .int .i64 op, .slice A to.p.len c, .string here] 33) = W at *
  have x0 : W.cell? ⟨w.heap.size, 0, none⟩ = some (.string num) := by simp [World.cell?, hbx]
  have x1 : W.cell? ⟨w.heap.size, 1, none⟩ = some (.int .i64 op) := by simp [World.cell?, hbx]
  have x2 : W.cell? ⟨w.heap.size, 2, none⟩ = some (.slice A to.p.len c) := by simp [World.cell?, hbx]
  have x3 : W.cell? ⟨w.heap.size, 3, none⟩ = some (.string here) := by simp [World.cell?, hbx]
  have HGW := Lib.hid (fun k (h : G k) => Nat.lt_of_lt_of_le (hG k h) hbw.size)
  have HGG := Lib.hid (fun X (hX : Below W.heap.size W X) k (h : G k) => Nat.lt_of_lt_of_le (Nat.lt_of_lt_of_le (hG k h) hbw.size) hX.size)
  have HPT := Lib.hid (hpt.old hG hbw)
  have HBW := Lib.hid hbw; have HB0 := Lib.hid (Below.refl W.heap.size W); have HG := Lib.hid hG; have HV := Lib.hid hvv; have IH := Lib.hid ih; have HT := Lib.hid ht
  clear hbw hbx hG hv hvv ih hpt ht
  cases hn : num.toList.isEmpty
  case' false =>
    go_enter Tryz.func17, Tryz.ntmps17
    go_wp2_with fail
    refine (digits_p num _ (by omega)).mono ?_
    rintro e wd ⟨he, hb⟩
    have HBc := Lib.hid (HB0.out.trans (hb.mono HB0.out.size))
    have y0 := box_keep x0 HBc.out; have y1 := box_keep x1 HBc.out; have y2 := box_keep x2 HBc.out; have y3 := box_keep x3 HBc.out
    clear hb
    cases hd : Chr.digits num.toList
    · rw [hd] at he
      subst he
      have HNUM := Lib.hid (show (num.toList.isEmpty || Chr.digits num.toList) = false by rw [hn, hd]; rfl)
      clear hd
      go_wp2_with fail
      go_ret
      exact ⟨ret_bool (by rw [redirB_eq, HNUM.out]; rfl), HBW.out.trans (HBc.out.mono HBW.out.size)⟩
    rw [hd] at he
    subst he
    have HNUM := Lib.hid (show (num.toList.isEmpty || Chr.digits num.toList) = true by rw [hn, hd]; rfl)
    clear hd
  case' true =>
    go_enter Tryz.func17, Tryz.ntmps17
    have HBc := HB0
    have y0 := x0; have y1 := x1; have y2 := x2; have y3 := x3
    have HNUM := Lib.hid (show (num.toList.isEmpty || Chr.digits num.toList) = true by rw [hn]; rfl)
  all_goals
    cases hop : Ope.redir op
    · have HOP := Lib.hid hop
      by_cases h9 : op < 9
      · clear hop
        go_wp2_with fail
        go_ret
        exact ⟨ret_bool (by rw [redirB_eq, HNUM.out, HOP.out]; rfl), HBW.out.trans (HBc.out.mono HBW.out.size)⟩
      · have h17 : 17 < op := by
          simp only [Ope.redir, Bool.and_eq_false_iff, decide_eq_false_iff_not] at hop
          omega
        clear hop
        go_wp2_with fail
        go_ret
        exact ⟨ret_bool (by rw [redirB_eq, HNUM.out, HOP.out]; rfl), HBW.out.trans (HBc.out.mono HBW.out.size)⟩
    have h9 : 9 ≤ op := by
      simp only [Ope.redir, Bool.and_eq_true, decide_eq_true_eq] at hop
      omega
    have h17 : op ≤ 17 := by
      simp only [Ope.redir, Bool.and_eq_true, decide_eq_true_eq] at hop
      omega
    have HOP := Lib.hid hop
    have HBq := Lib.hid HBc.out
    have v0 := y0; have v1 := y1; have v2 := y2; have v3 := y3
    clear hop y0 y1 y2 y3
    go_wp2_with fail
    refine (word_p f IH.out G _ _ to (HGG.out _ HBq.out) (HT.out.below (HBW.out.trans (HBq.out.mono HBW.out.size))) (HV.out.below HG.out (HBW.out.trans (HBq.out.mono HBW.out.size)))).mono ?_
    rintro e wc ⟨he, hb⟩
    have HBr := Lib.hid (HBq.out.trans (hb.mono HBq.out.size))
    have u0 := box_keep x0 HBr.out; have u1 := box_keep x1 HBr.out; have u2 := box_keep x2 HBr.out; have u3 := box_keep x3 HBr.out
    clear hb v0 v1 v2 v3
    cases hwd : wordB (Nd.vw f) to
    · rw [hwd] at he
      subst he
      have HWD := Lib.hid hwd
      clear hwd
      go_wp2_with fail
      go_ret
      exact ⟨ret_bool (by rw [redirB_eq, HNUM.out, HOP.out, HWD.out]; rfl), HBW.out.trans (HBr.out.mono HBW.out.size)⟩
    rw [hwd] at he
    subst he
    have HWD := Lib.hid hwd
    clear hwd
    by_cases h12 : op = 12
    · subst h12
      go_wp2_with fail
      refine (utext_p to.p A c G _ hwt (HGG.out _ HBr.out) (HPT.out.old HGW.out HBr.out)).mono ?_
      rintro e wt ⟨he, hb⟩
      have HBs := Lib.hid (HBr.out.trans (hb.mono HBr.out.size))
      have t0 := box_keep x0 HBs.out; have t1 := box_keep x1 HBs.out; have t2 := box_keep x2 HBs.out; have t3 := box_keep x3 HBs.out
      clear hb u0 u1 u2 u3
      cases hu : to.p.utx with
      | none =>
        rw [hu] at he
        subst he
        have HU := Lib.hid hu
        clear hu
        simp only [Option.isSome_none]
        go_wp2_with fail
        go_ret
        exact ⟨ret_bool (by rw [redirB_eq, HNUM.out, HOP.out, HWD.out, HU.out]; rfl), HBW.out.trans (HBs.out.mono HBW.out.size)⟩
      | some us =>
        rw [hu] at he
        subst he
        have HU := Lib.hid hu
        clear hu
        simp only [Option.isSome_some, Option.getD_some]
        unfold bs
        go_wp2_with fail
        refine (may_any _ here false _ (by omega) (by have := utx_size HU.out hwt; omega)).mono ?_
        rintro e wm ⟨rfl, hb⟩
        have HBm := Lib.hid (HBs.out.trans (hb.mono HBs.out.size))
        clear hb t0 t1 t2 t3
        go_wp2_with fail
        go_ret
        exact ⟨ret_bool (by rw [redirB_eq, HNUM.out, HOP.out, HWD.out, HU.out, list_mk]; rfl), HBW.out.trans (HBm.out.mono HBW.out.size)⟩
    by_cases h13 : op = 13
    · subst h13
      go_wp2_with fail
      refine (utext_p to.p A c G _ hwt (HGG.out _ HBr.out) (HPT.out.old HGW.out HBr.out)).mono ?_
      rintro e wt ⟨he, hb⟩
      have HBs := Lib.hid (HBr.out.trans (hb.mono HBr.out.size))
      have t0 := box_keep x0 HBs.out; have t1 := box_keep x1 HBs.out; have t2 := box_keep x2 HBs.out; have t3 := box_keep x3 HBs.out
      clear hb u0 u1 u2 u3
      cases hu : to.p.utx with
      | none =>
        rw [hu] at he
        subst he
        have HU := Lib.hid hu
        clear hu
        simp only [Option.isSome_none]
        go_wp2_with fail
        go_ret
        exact ⟨ret_bool (by rw [redirB_eq, HNUM.out, HOP.out, HWD.out, HU.out]; rfl), HBW.out.trans (HBs.out.mono HBW.out.size)⟩
      | some us =>
        rw [hu] at he
        subst he
        have HU := Lib.hid hu
        clear hu
        simp only [Option.isSome_some, Option.getD_some]
        unfold bs
        go_wp2_with fail
        refine (may_any _ here true _ (by omega) (by have := utx_size HU.out hwt; omega)).mono ?_
        rintro e wm ⟨rfl, hb⟩
        have HBm := Lib.hid (HBs.out.trans (hb.mono HBs.out.size))
        clear hb t0 t1 t2 t3
        go_wp2_with fail
        go_ret
        exact ⟨ret_bool (by rw [redirB_eq, HNUM.out, HOP.out, HWD.out, HU.out, list_mk]; rfl), HBW.out.trans (HBm.out.mono HBW.out.size)⟩
    have n12 : (op != 12) = true := bne_iff_ne.2 h12
    have n13 : (op != 13) = true := bne_iff_ne.2 h13
    have HN := Lib.hid (And.intro h12 h13)
    clear h12 h13
    go_wp2_with fail
    go_ret
    exact ⟨ret_bool (by rw [redirB_eq, HNUM.out, HOP.out, HWD.out, hereB_other HN.out.1 HN.out.2]; rfl), HBW.out.trans (HBr.out.mono HBW.out.size)⟩
set_option maxRecDepth 100000 in
set_option maxHeartbeats 8000000 in
theorem redir_m (f : Nat) (ih : RRt f) (G : Nat → Prop) (w : World) (vs : List Value) (x : RdF (Nd f)) (hG : ∀ k, G k → k < w.heap.size) (hv : RdN f G w vs x) :
    Calls Tryz.prog 18 #[ag vs] w fun e w' => e = .returned (.bool (redirB (Nd.vw f) x)) ∧ Below w.heap.size w w' := by
  obtain ⟨num, op, to, here⟩ := x
  obtain ⟨vt, rfl, hnum, hhere, hv⟩ := hv
  obtain ⟨A, n, c, hvt⟩ := WdN.shape hv
  injection hvt with hvt
  subst hvt
  have hvv : WdN f G w [.slice A n c] to := hv
  obtain ⟨rfl, hnc, hcm, hwt, hpt, -⟩ := hvv.cmds
  simp only at hnum hhere hnc hcm hwt hpt hvv
  show Calls Tryz.prog 18 #[.agg #[.string num, .int .i64 op, .slice A to.p.len c, .string here]] w _
  have hbw : Below w.heap.size w (w.alloc (.cells #[.string num, .int .i64 op, .slice A to.p.len c, .string here] 33)) := (Below.refl _ _).alloc (Nat.le_refl _) _
  have hbx := heap_alloc_t w (.cells #[.string num, .int .i64 op, .slice A to.p.len c, .string here] 33)
  generalize hW : w.alloc (.cells #[.string num, .int .i64 op, .slice A to.p.len c, .string here] 33) = W at *
  have x0 : W.cell? ⟨w.heap.size, 0, none⟩ = some (.string num) := by simp [World.cell?, hbx]
  have x1 : W.cell? ⟨w.heap.size, 1, none⟩ = some (.int .i64 op) := by simp [World.cell?, hbx]
  have x2 : W.cell? ⟨w.heap.size, 2, none⟩ = some (.slice A to.p.len c) := by simp [World.cell?, hbx]
  have x3 : W.cell? ⟨w.heap.size, 3, none⟩ = some (.string here) := by simp [World.cell?, hbx]
  have HGW := Lib.hid (fun k (h : G k) => Nat.lt_of_lt_of_le (hG k h) hbw.size)
  have HGG := Lib.hid (fun X (hX : Below W.heap.size W X) k (h : G k) => Nat.lt_of_lt_of_le (Nat.lt_of_lt_of_le (hG k h) hbw.size) hX.size)
  have HPT := Lib.hid (hpt.old hG hbw)
  have HBW := Lib.hid hbw; have HB0 := Lib.hid (Below.refl W.heap.size W); have HG := Lib.hid hG; have HV := Lib.hid hvv; have IH := Lib.hid ih
  clear hbw hbx hG hv hvv ih hpt
  cases hn : num.toList.isEmpty
  case' false =>
    go_enter Tryz.func18, Tryz.ntmps18
    go_wp2_with fail
    refine (digits_rb num _ (by omega)).mono ?_
    rintro e wd ⟨he, hb⟩
    have HBc := Lib.hid (HB0.out.trans (hb.mono HB0.out.size))
    have y0 := box_keep x0 HBc.out; have y1 := box_keep x1 HBc.out; have y2 := box_keep x2 HBc.out; have y3 := box_keep x3 HBc.out
    clear hb
    cases hd : Chr.digits num.toList
    · rw [hd] at he
      subst he
      have HNUM := Lib.hid (show (num.toList.isEmpty || Chr.digits num.toList) = false by rw [hn, hd]; rfl)
      clear hd
      go_wp2_with fail
      go_ret
      exact ⟨ret_bool (by rw [redirB_eq, HNUM.out]; rfl), HBW.out.trans (HBc.out.mono HBW.out.size)⟩
    rw [hd] at he
    subst he
    have HNUM := Lib.hid (show (num.toList.isEmpty || Chr.digits num.toList) = true by rw [hn, hd]; rfl)
    clear hd
  case' true =>
    go_enter Tryz.func18, Tryz.ntmps18
    have HBc := HB0
    have y0 := x0; have y1 := x1; have y2 := x2; have y3 := x3
    have HNUM := Lib.hid (show (num.toList.isEmpty || Chr.digits num.toList) = true by rw [hn]; rfl)
  all_goals
    go_wp2_with fail
    refine (redir_rb op _).mono ?_
    rintro e wo ⟨he, hb⟩
    have HBq := Lib.hid (HBc.out.trans (hb.mono HBc.out.size))
    have v0 := box_keep x0 HBq.out; have v1 := box_keep x1 HBq.out; have v2 := box_keep x2 HBq.out; have v3 := box_keep x3 HBq.out
    clear hb y0 y1 y2 y3
    cases hop : Ope.redir op
    · rw [hop] at he
      subst he
      have HOP := Lib.hid hop
      clear hop
      go_wp2_with fail
      go_ret
      exact ⟨ret_bool (by rw [redirB_eq, HNUM.out, HOP.out]; rfl), HBW.out.trans (HBq.out.mono HBW.out.size)⟩
    rw [hop] at he
    subst he
    have HOP := Lib.hid hop
    clear hop
    go_wp2_with fail
    refine (word_r f IH.out G _ _ to (HGG.out _ HBq.out) (HV.out.below HG.out (HBW.out.trans (HBq.out.mono HBW.out.size)))).mono ?_
    rintro e wc ⟨he, hb⟩
    have HBr := Lib.hid (HBq.out.trans (hb.mono HBq.out.size))
    have u0 := box_keep x0 HBr.out; have u1 := box_keep x1 HBr.out; have u2 := box_keep x2 HBr.out; have u3 := box_keep x3 HBr.out
    clear hb v0 v1 v2 v3
    cases hwd : wordB (Nd.vw f) to
    · rw [hwd] at he
      subst he
      have HWD := Lib.hid hwd
      clear hwd
      go_wp2_with fail
      go_ret
      exact ⟨ret_bool (by rw [redirB_eq, HNUM.out, HOP.out, HWD.out]; rfl), HBW.out.trans (HBr.out.mono HBW.out.size)⟩
    rw [hwd] at he
    subst he
    have HWD := Lib.hid hwd
    clear hwd
    by_cases h12 : op = 12
    · subst h12
      go_wp2_with fail
      refine (rtext_r to.p A c G _ hwt (HGG.out _ HBr.out) (HPT.out.old HGW.out HBr.out)).mono ?_
      rintro e wt ⟨he, hb⟩
      have HBs := Lib.hid (HBr.out.trans (hb.mono HBr.out.size))
      have t0 := box_keep x0 HBs.out; have t1 := box_keep x1 HBs.out; have t2 := box_keep x2 HBs.out; have t3 := box_keep x3 HBs.out
      clear hb u0 u1 u2 u3
      cases hu : to.p.utx with
      | none =>
        rw [hu] at he
        subst he
        have HU := Lib.hid hu
        clear hu
        simp only [Option.isSome_none]
        go_wp2_with fail
        go_ret
        exact ⟨ret_bool (by rw [redirB_eq, HNUM.out, HOP.out, HWD.out, HU.out]; rfl), HBW.out.trans (HBs.out.mono HBW.out.size)⟩
      | some us =>
        rw [hu] at he
        subst he
        have HU := Lib.hid hu
        clear hu
        simp only [Option.isSome_some, Option.getD_some]
        unfold bs
        go_wp2_with fail
        refine (refMay_any _ here false _ (by omega) (by have := utx_size HU.out hwt; omega)).mono ?_
        rintro e wm ⟨rfl, hb⟩
        have HBm := Lib.hid (HBs.out.trans (hb.mono HBs.out.size))
        clear hb t0 t1 t2 t3
        go_wp2_with fail
        go_ret
        exact ⟨ret_bool (by rw [redirB_eq, HNUM.out, HOP.out, HWD.out, HU.out, list_mk]; rfl), HBW.out.trans (HBm.out.mono HBW.out.size)⟩
    by_cases h13 : op = 13
    · subst h13
      go_wp2_with fail
      refine (rtext_r to.p A c G _ hwt (HGG.out _ HBr.out) (HPT.out.old HGW.out HBr.out)).mono ?_
      rintro e wt ⟨he, hb⟩
      have HBs := Lib.hid (HBr.out.trans (hb.mono HBr.out.size))
      have t0 := box_keep x0 HBs.out; have t1 := box_keep x1 HBs.out; have t2 := box_keep x2 HBs.out; have t3 := box_keep x3 HBs.out
      clear hb u0 u1 u2 u3
      cases hu : to.p.utx with
      | none =>
        rw [hu] at he
        subst he
        have HU := Lib.hid hu
        clear hu
        simp only [Option.isSome_none]
        go_wp2_with fail
        go_ret
        exact ⟨ret_bool (by rw [redirB_eq, HNUM.out, HOP.out, HWD.out, HU.out]; rfl), HBW.out.trans (HBs.out.mono HBW.out.size)⟩
      | some us =>
        rw [hu] at he
        subst he
        have HU := Lib.hid hu
        clear hu
        simp only [Option.isSome_some, Option.getD_some]
        unfold bs
        go_wp2_with fail
        refine (refMay_any _ here true _ (by omega) (by have := utx_size HU.out hwt; omega)).mono ?_
        rintro e wm ⟨rfl, hb⟩
        have HBm := Lib.hid (HBs.out.trans (hb.mono HBs.out.size))
        clear hb t0 t1 t2 t3
        go_wp2_with fail
        go_ret
        exact ⟨ret_bool (by rw [redirB_eq, HNUM.out, HOP.out, HWD.out, HU.out, list_mk]; rfl), HBW.out.trans (HBm.out.mono HBW.out.size)⟩
    have n12 : (op != 12) = true := bne_iff_ne.2 h12
    have n13 : (op != 13) = true := bne_iff_ne.2 h13
    have HN := Lib.hid (And.intro h12 h13)
    clear h12 h13
    go_wp2_with fail
    go_ret
    exact ⟨ret_bool (by rw [redirB_eq, HNUM.out, HOP.out, HWD.out, hereB_other HN.out.1 HN.out.2]; rfl), HBW.out.trans (HBr.out.mono HBW.out.size)⟩
end Go.Proofs.YtjpopekmbmcggaaGreatDoor
namespace Go.Proofs.YtjpopekmbmcggaaGreatDoor
open Go.RowKit
theorem quietN {P : Program} {f : FuncId} {args : Array Value} {w : World} {a n : Nat} {v : Value}
    (h : Calls P f args (w.drewN (a + n)) fun e w' => e = .returned v ∧ ∃ m, w' = (w.drewN (a + n)).drewN m) :
    Calls P f args (w.drewN (a + n)) fun e w'' => e = .returned v ∧ ∃ m, w'' = w.drewN (a + m) :=
  h.mono fun _ _ ⟨he, m, hm⟩ => ⟨he, n + m, by rw [hm, World.drewN_drewN, Nat.add_assoc]⟩
set_option maxRecDepth 100000 in
set_option maxHeartbeats 1000000 in
theorem much_any : ∀ (n : Nat) (l : Pts) (G : Nat → Prop) (A : Option Addr) (c : Nat) (w : World), l.deep < n → l.wt ≤ 1099511627776 → PtsAt G w A 0 l →
    Calls Tryz.prog 35 #[.slice A l.len c] w fun e w' => e = .returned (.int .i64 (l.much : Nat)) ∧ ∃ m, w' = w.drewN m := by
  intro n
  induction n with
  | zero => intro l _ _ _ _ h; omega
  | succ n ih =>
    intro l G A c w hd hwt hp
    have hlw := Pts.len_wt l
    have IH := Lib.hid ih; clear ih
    go_enter Tryz.func35, Tryz.ntmps35
    go_wp2_with fail
    go_loopw [3, 4] (fun s i wr => ∃ (k m q : Nat), k ≤ l.len ∧ i = .int .i64 k ∧ s = .int .i64 m ∧ wr = w.drewN q ∧ Pts.muchLoop (l.drop k) m = l.much ∧ m ≤ 1099511627776 * 2) (fun _ i _ => l.len - (intOf i).toNat)
    case atStart => exact ⟨0, l.len, 0, by omega, rfl, rfl, rfl, by rw [Pts.drop_zero]; rfl, by omega⟩
    case round =>
      obtain ⟨k, m, q, hk, rfl, rfl, rfl, hf, hm⟩ := hrel
      have HF := Lib.hid hf; clear hf
      by_cases hlt : k < l.len
      · obtain ⟨pk, t, o, kids, cm, r, hdr⟩ := Pts.drop_cons k l hlt
        have hp' := hp.at_ k
        rw [hdr, Nat.zero_add] at hp'
        obtain ⟨b, off, Ak, ck, rfl, hG, c0, c1, c2, c3, c4, hl, h1, h2⟩ := hp'
        unfold Cm.val at c4
        have hwd := Pts.wt_drop k l
        rw [hdr, Pts.wt] at hwd
        have hkw := Pts.len_wt kids
        have hkm := Pts.much_le kids
        have hkd := Pts.deep_drop k l hdr
        have HD := Lib.hid hdr; clear hdr
        by_cases hm1 : m ≤ 1000
        · go_wp2_with fail
          go_quiet ((go_at_call 35; exact quietN (IH.out kids G Ak ck _ (by omega) (by omega) (h1.drewN _))))
          go_wp2_with fail
          go_roundw
          case rel =>
            refine ⟨k + 1, m + t.size / 10 + o.size / 10 + cm.n + kids.much, _, by omega, by go_num, by go_num, rfl, ?_, by omega⟩
            rw [Pts.drop_succ k l HD.out, ← HF.out, HD.out, Pts.muchLoop, if_pos hm1]
            rfl
          case measure => simp only [intOf]; omega
        · go_wp2_with fail
          go_ret
          refine ⟨ret_int ?_, _, rfl⟩
          rw [← HF.out, HD.out, Pts.muchLoop, if_neg hm1]
      · go_wp2_with fail
        go_ret
        refine ⟨ret_int ?_, _, rfl⟩
        rw [← HF.out, Pts.drop_end k l (by omega), Pts.muchLoop]
theorem much_p (l : Pts) (G : Nat → Prop) (A : Option Addr) (c : Nat) (w : World) (hwt : l.wt ≤ 1099511627776) (hp : PtsAt G w A 0 l) :
    Calls Tryz.prog 35 #[.slice A l.len c] w fun e w' => e = .returned (.int .i64 (l.much : Nat)) ∧ ∃ m, w' = w.drewN m := much_any (l.deep + 1) l G A c w (by omega) hwt hp
end Go.Proofs.YtjpopekmbmcggaaGreatDoor
