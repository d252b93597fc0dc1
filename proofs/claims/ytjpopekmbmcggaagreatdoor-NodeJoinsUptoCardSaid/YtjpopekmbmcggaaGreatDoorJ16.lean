/- Towards nodeJoins_card: NdRedir, Much, NdSame0. Merged from smaller texts by a program of the author's. -/
import Derived.Test.YtjpopekmbmcggaaGreatDoorJ14
import Derived.Test.YtjpopekmbmcggaaGreatDoorJ15
import Derived.Test.YtjpopekmbmcggaaGreatDoorJ03
import Derived.Test.YtjpopekmbmcggaaGreatDoorJ01
import Derived.BigQuiet
import Derived.Deep.QuietTactic
import Derived.Test.YtjpopekmbmcggaaGreatDoorJ07
import Derived.Test.YtjpopekmbmcggaaGreatDoorJ09
namespace Go.Proofs.YtjpopekmbmcggaaGreatDoor
open Go.RowKit
theorem box_keep {W X : World} {b j : Nat} {v : Value} (h : W.cell? ⟨b, j, none⟩ = some v) (hX : Below W.heap.size W X) : X.cell? ⟨b, j, none⟩ = some v := (World.cell?_of_block (hX.block b (cell_lt h))).trans h
def hereB (op : Int) (u : Option (List UInt8)) (l : List UInt8) : Bool := if op = 12 ∨ op = 13 then (match u with | none => false | some s => mayB s (op == 13) l) else l.isEmpty
theorem redirB_eq {α : Type} (v : Vw α) (num here : ByteArray) (op : Int) (tz : WdF α) : redirB v ⟨num, op, tz, here⟩ = (((num.toList.isEmpty || Chr.digits num.toList) && Ope.redir op) && (wordB v tz && hereB op tz.p.utx here.toList)) := by
  unfold redirB hereB Ope.redir
  simp only [Bool.and_assoc]
  rfl
theorem hereB_other {op : Int} {u : Option (List UInt8)} {l : List UInt8} (h : ¬ op = 12) (h2 : ¬ op = 13) : hereB op u l = l.isEmpty := by unfold hereB; exact if_neg (by omega)
theorem utx_size {l : Pts} {s : List UInt8} (h : l.utx = some s) (hw : l.wt ≤ 1073741824) : (⟨s.toArray⟩ : ByteArray).size ≤ 1073741824 := by
  have := Pts.utx_len l s h
  show s.length ≤ _
  omega
set_option maxRecDepth 100000 in
set_option maxHeartbeats 8000000 in
theorem redir_n (f : Nat) (ih : PRt f) (G : Nat → Prop) (w : World) (vs : List Value) (x : RdF (Nd f)) (hG : ∀ k, G k → k < w.heap.size) (ht : RsvAt w) (hv : RdN f G w vs x) :
    Calls Tryz.prog 17 #[ag vs] w fun e w' => e = .returned (.bool (redirB (Nd.vw f) x)) ∧ Below w.heap.size w w' := by
  obtain ⟨num, op, tz, here⟩ := x
  obtain ⟨vt, rfl, hnum, hhere, hv⟩ := hv
  obtain ⟨A, n, c, hvt⟩ := WdN.shape hv
  injection hvt with hvt
  subst hvt
  have hvv : WdN f G w [.slice A n c] tz := hv
  obtain ⟨rfl, hnc, hcm, hwt, hpt, -⟩ := hvv.cmds
  simp only at hnum hhere hnc hcm hwt hpt hvv
  show Calls Tryz.prog 17 #[.agg #[.string num, .int .i64 op, .slice A tz.p.len c, .string here]] w _
  have hbw : Below w.heap.size w (w.alloc (.cells #[.string num, .int .i64 op, .slice A tz.p.len c, .string here] 33)) := (Below.refl _ _).alloc (Nat.le_refl _) _
  have hbx := heap_alloc_t w (.cells #[.string num, .int .i64 op, .slice A tz.p.len c, .string here] 33)
  generalize hW : w.alloc (.cells #[.string num, .int .i64 op, .slice A tz.p.len c, .string here] 33) = W at *
  have x0 : W.cell? ⟨w.heap.size, 0, none⟩ = some (.string num) := by simp [World.cell?, hbx]
  have x1 : W.cell? ⟨w.heap.size, 1, none⟩ = some (.int .i64 op) := by simp [World.cell?, hbx]
  have x2 : W.cell? ⟨w.heap.size, 2, none⟩ = some (.slice A tz.p.len c) := by simp [World.cell?, hbx]
  have x3 : W.cell? ⟨w.heap.size, 3, none⟩ = some (.string here) := by simp [World.cell?, hbx]
  have HGW := Lib.hid (fun k (h : G k) => Nat.lt_of_lt_of_le (hG k h) hbw.size)
  have HGG := Lib.hid (fun X (hX : Below W.heap.size W X) k (h : G k) => Nat.lt_of_lt_of_le (Nat.lt_of_lt_of_le (hG k h) hbw.size) hX.size)
  have HPT := Lib.hid (hpt.old hG hbw)
  have HBW := Lib.hid hbw; have HB0 := Lib.hid (Below.refl W.heap.size W); have HG := Lib.hid hG; have HV := Lib.hid hvv; have IH := Lib.hid ih; have HT := Lib.hid ht
  clear hbw hbx hG hv hvv ih hpt ht
  cases hn : num.toList.isEmpty
  case' false =>
    go_enter Tryz.func17, Tryz.ntmps17
    go_wp2_with fail
    refine (digits_p num _ (by omega)).mono ?_
    rintro e wd ⟨he, hb⟩
    have HBc := Lib.hid (HB0.out.trans (hb.mono HB0.out.size))
    have y0 := box_keep x0 HBc.out; have y1 := box_keep x1 HBc.out; have y2 := box_keep x2 HBc.out; have y3 := box_keep x3 HBc.out
    clear hb
    cases hd : Chr.digits num.toList
    · rw [hd] at he
      subst he
      have HNUM := Lib.hid (show (num.toList.isEmpty || Chr.digits num.toList) = false by rw [hn, hd]; rfl)
      clear hd
      go_wp2_with fail
      go_ret
      exact ⟨ret_bool (by rw [redirB_eq, HNUM.out]; rfl), HBW.out.trans (HBc.out.mono HBW.out.size)⟩
    rw [hd] at he
    subst he
    have HNUM := Lib.hid (show (num.toList.isEmpty || Chr.digits num.toList) = true by rw [hn, hd]; rfl)
    clear hd
  case' true =>
    go_enter Tryz.func17, Tryz.ntmps17
    have HBc := HB0
    have y0 := x0; have y1 := x1; have y2 := x2; have y3 := x3
    have HNUM := Lib.hid (show (num.toList.isEmpty || Chr.digits num.toList) = true by rw [hn]; rfl)
  all_goals
    cases hop : Ope.redir op
    · have HOP := Lib.hid hop
      by_cases h9 : op < 9
      · clear hop
        go_wp2_with fail
        go_ret
        exact ⟨ret_bool (by rw [redirB_eq, HNUM.out, HOP.out]; rfl), HBW.out.trans (HBc.out.mono HBW.out.size)⟩
      · have h17 : 17 < op := by
          simp only [Ope.redir, Bool.and_eq_false_iff, decide_eq_false_iff_not] at hop
          omega
        clear hop
        go_wp2_with fail
        go_ret
        exact ⟨ret_bool (by rw [redirB_eq, HNUM.out, HOP.out]; rfl), HBW.out.trans (HBc.out.mono HBW.out.size)⟩
    have h9 : 9 ≤ op := by
      simp only [Ope.redir, Bool.and_eq_true, decide_eq_true_eq] at hop
      omega
    have h17 : op ≤ 17 := by
      simp only [Ope.redir, Bool.and_eq_true, decide_eq_true_eq] at hop
      omega
    have HOP := Lib.hid hop
    have HBq := Lib.hid HBc.out
    have v0 := y0; have v1 := y1; have v2 := y2; have v3 := y3
    clear hop y0 y1 y2 y3
    go_wp2_with fail
    refine (word_p f IH.out G _ _ tz (HGG.out _ HBq.out) (HT.out.below (HBW.out.trans (HBq.out.mono HBW.out.size))) (HV.out.below HG.out (HBW.out.trans (HBq.out.mono HBW.out.size)))).mono ?_
    rintro e wc ⟨he, hb⟩
    have HBr := Lib.hid (HBq.out.trans (hb.mono HBq.out.size))
    have u0 := box_keep x0 HBr.out; have u1 := box_keep x1 HBr.out; have u2 := box_keep x2 HBr.out; have u3 := box_keep x3 HBr.out
    clear hb v0 v1 v2 v3
    cases hwd : wordB (Nd.vw f) tz
    · rw [hwd] at he
      subst he
      have HWD := Lib.hid hwd
      clear hwd
      go_wp2_with fail
      go_ret
      exact ⟨ret_bool (by rw [redirB_eq, HNUM.out, HOP.out, HWD.out]; rfl), HBW.out.trans (HBr.out.mono HBW.out.size)⟩
    rw [hwd] at he
    subst he
    have HWD := Lib.hid hwd
    clear hwd
    by_cases h12 : op = 12
    · subst h12
      go_wp2_with fail
      refine (utext_p tz.p A c G _ hwt (HGG.out _ HBr.out) (HPT.out.old HGW.out HBr.out)).mono ?_
      rintro e wt ⟨he, hb⟩
      have HBs := Lib.hid (HBr.out.trans (hb.mono HBr.out.size))
      have t0 := box_keep x0 HBs.out; have t1 := box_keep x1 HBs.out; have t2 := box_keep x2 HBs.out; have t3 := box_keep x3 HBs.out
      clear hb u0 u1 u2 u3
      cases hu : tz.p.utx with
      | none =>
        rw [hu] at he
        subst he
        have HU := Lib.hid hu
        clear hu
        simp only [Option.isSome_none]
        go_wp2_with fail
        go_ret
        exact ⟨ret_bool (by rw [redirB_eq, HNUM.out, HOP.out, HWD.out, HU.out]; rfl), HBW.out.trans (HBs.out.mono HBW.out.size)⟩
      | some us =>
        rw [hu] at he
        subst he
        have HU := Lib.hid hu
        clear hu
        simp only [Option.isSome_some, Option.getD_some]
        unfold bs
        go_wp2_with fail
        refine (may_any _ here false _ (by omega) (by have := utx_size HU.out hwt; omega)).mono ?_
        rintro e wm ⟨rfl, hb⟩
        have HBm := Lib.hid (HBs.out.trans (hb.mono HBs.out.size))
        clear hb t0 t1 t2 t3
        go_wp2_with fail
        go_ret
        exact ⟨ret_bool (by rw [redirB_eq, HNUM.out, HOP.out, HWD.out, HU.out, list_mk]; rfl), HBW.out.trans (HBm.out.mono HBW.out.size)⟩
    by_cases h13 : op = 13
    · subst h13
      go_wp2_with fail
      refine (utext_p tz.p A c G _ hwt (HGG.out _ HBr.out) (HPT.out.old HGW.out HBr.out)).mono ?_
      rintro e wt ⟨he, hb⟩
      have HBs := Lib.hid (HBr.out.trans (hb.mono HBr.out.size))
      have t0 := box_keep x0 HBs.out; have t1 := box_keep x1 HBs.out; have t2 := box_keep x2 HBs.out; have t3 := box_keep x3 HBs.out
      clear hb u0 u1 u2 u3
      cases hu : tz.p.utx with
      | none =>
        rw [hu] at he
        subst he
        have HU := Lib.hid hu
        clear hu
        simp only [Option.isSome_none]
        go_wp2_with fail
        go_ret
        exact ⟨ret_bool (by rw [redirB_eq, HNUM.out, HOP.out, HWD.out, HU.out]; rfl), HBW.out.trans (HBs.out.mono HBW.out.size)⟩
      | some us =>
        rw [hu] at he
        subst he
        have HU := Lib.hid hu
        clear hu
        simp only [Option.isSome_some, Option.getD_some]
        unfold bs
        go_wp2_with fail
        refine (may_any _ here true _ (by omega) (by have := utx_size HU.out hwt; omega)).mono ?_
        rintro e wm ⟨rfl, hb⟩
        have HBm := Lib.hid (HBs.out.trans (hb.mono HBs.out.size))
        clear hb t0 t1 t2 t3
        go_wp2_with fail
        go_ret
        exact ⟨ret_bool (by rw [redirB_eq, HNUM.out, HOP.out, HWD.out, HU.out, list_mk]; rfl), HBW.out.trans (HBm.out.mono HBW.out.size)⟩
    have n12 : (op != 12) = true := bne_iff_ne.2 h12
    have n13 : (op != 13) = true := bne_iff_ne.2 h13
    have HN := Lib.hid (And.intro h12 h13)
    clear h12 h13
    go_wp2_with fail
    go_ret
    exact ⟨ret_bool (by rw [redirB_eq, HNUM.out, HOP.out, HWD.out, hereB_other HN.out.1 HN.out.2]; rfl), HBW.out.trans (HBr.out.mono HBW.out.size)⟩
end Go.Proofs.YtjpopekmbmcggaaGreatDoor
namespace Go.Proofs.YtjpopekmbmcggaaGreatDoor
open Go.RowKit
theorem quietN {P : Program} {f : FuncId} {args : Array Value} {w : World} {a n : Nat} {v : Value}
    (h : Calls P f args (w.drewN (a + n)) fun e w' => e = .returned v ∧ ∃ m, w' = (w.drewN (a + n)).drewN m) :
    Calls P f args (w.drewN (a + n)) fun e w'' => e = .returned v ∧ ∃ m, w'' = w.drewN (a + m) :=
  h.mono fun _ _ ⟨he, m, hm⟩ => ⟨he, n + m, by rw [hm, World.drewN_drewN, Nat.add_assoc]⟩
set_option maxRecDepth 100000 in
set_option maxHeartbeats 1000000 in
theorem much_any : ∀ (n : Nat) (l : Pts) (G : Nat → Prop) (A : Option Addr) (c : Nat) (w : World), l.deep < n → l.wt ≤ 1099511627776 → PtsAt G w A 0 l →
    Calls Tryz.prog 35 #[.slice A l.len c] w fun e w' => e = .returned (.int .i64 (l.much : Nat)) ∧ ∃ m, w' = w.drewN m := by
  intro n
  induction n with
  | zero => intro l _ _ _ _ h; omega
  | succ n ih =>
    intro l G A c w hd hwt hp
    have hlw := Pts.len_wt l
    have IH := Lib.hid ih; clear ih
    go_enter Tryz.func35, Tryz.ntmps35
    go_wp2_with fail
    go_loopw [3, 4] (fun s i wr => ∃ (k m q : Nat), k ≤ l.len ∧ i = .int .i64 k ∧ s = .int .i64 m ∧ wr = w.drewN q ∧ Pts.muchLoop (l.drop k) m = l.much ∧ m ≤ 1099511627776 * 2) (fun _ i _ => l.len - (intOf i).toNat)
    case atStart => exact ⟨0, l.len, 0, by omega, rfl, rfl, rfl, by rw [Pts.drop_zero]; rfl, by omega⟩
    case round =>
      obtain ⟨k, m, q, hk, rfl, rfl, rfl, hf, hm⟩ := hrel
      have HF := Lib.hid hf; clear hf
      by_cases hlt : k < l.len
      · obtain ⟨pk, t, o, kids, cm, r, hdr⟩ := Pts.drop_cons k l hlt
        have hp' := hp.at_ k
        rw [hdr, Nat.zero_add] at hp'
        obtain ⟨b, off, Ak, ck, rfl, hG, c0, c1, c2, c3, c4, hl, h1, h2⟩ := hp'
        unfold Cm.val at c4
        have hwd := Pts.wt_drop k l
        rw [hdr, Pts.wt] at hwd
        have hkw := Pts.len_wt kids
        have hkm := Pts.much_le kids
        have hkd := Pts.deep_drop k l hdr
        have HD := Lib.hid hdr; clear hdr
        by_cases hm1 : m ≤ 1000
        · go_wp2_with fail
          go_quiet ((go_at_call 35; exact quietN (IH.out kids G Ak ck _ (by omega) (by omega) (h1.drewN _))))
          go_wp2_with fail
          go_roundw
          case rel =>
            refine ⟨k + 1, m + t.size / 10 + o.size / 10 + cm.n + kids.much, _, by omega, by go_num, by go_num, rfl, ?_, by omega⟩
            rw [Pts.drop_succ k l HD.out, ← HF.out, HD.out, Pts.muchLoop, if_pos hm1]
            rfl
          case measure => simp only [intOf]; omega
        · go_wp2_with fail
          go_ret
          refine ⟨ret_int ?_, _, rfl⟩
          rw [← HF.out, HD.out, Pts.muchLoop, if_neg hm1]
      · go_wp2_with fail
        go_ret
        refine ⟨ret_int ?_, _, rfl⟩
        rw [← HF.out, Pts.drop_end k l (by omega), Pts.muchLoop]
theorem much_p (l : Pts) (G : Nat → Prop) (A : Option Addr) (c : Nat) (w : World) (hwt : l.wt ≤ 1099511627776) (hp : PtsAt G w A 0 l) :
    Calls Tryz.prog 35 #[.slice A l.len c] w fun e w' => e = .returned (.int .i64 (l.much : Nat)) ∧ ∃ m, w' = w.drewN m := much_any (l.deep + 1) l G A c w (by omega) hwt hp
end Go.Proofs.YtjpopekmbmcggaaGreatDoor
namespace Go.Proofs.YtjpopekmbmcggaaGreatDoor
open Go.RowKit
theorem Pts.same_drop : ∀ (i : Nat) (l m : Pts) {k k' : Int} {t o t' o' : ByteArray} {kids r kids' r' : Pts} {cm cm' : Cm}, l.drop i = .cons k t o kids cm r → m.drop i = .cons k' t' o' kids' cm' r' →
    (l.drop i).same (m.drop i) = (((k == k') && (t.toList == t'.toList) && (o.toList == o'.toList) && kids.same kids') && (l.drop (i + 1)).same (m.drop (i + 1))) := by
  intro i l m k k' t o t' o' kids r kids' r' cm cm' h h'
  rw [Pts.drop_succ i l h, Pts.drop_succ i m h', h, h', Pts.same]
theorem Pts.same_end (l m : Pts) (i : Nat) (h : l.len ≤ i) (h' : m.len ≤ i) : (l.drop i).same (m.drop i) = true := by
  rw [Pts.drop_end i l h, Pts.drop_end i m h']; rfl
theorem Pts.same_ne (l m : Pts) (h : ¬ l.len = m.len) : l.same m = false := by
  cases hs : l.same m
  · rfl
  · exact absurd (Pts.same_len l m hs) h
theorem two_blocks (w : World) (o0 o1 : Obj) : ((w.alloc o0).alloc o1).heap[w.heap.size]? = some o0 ∧ ((w.alloc o0).alloc o1).heap[w.heap.size + 1]? = some o1 := by
  have s1 : (w.alloc o0).heap.size = w.heap.size + 1 := by simp
  refine ⟨(Below.heap_alloc _ _ _ (by omega)).trans (heap_alloc_new w o0), ?_⟩
  rw [← s1]
  exact heap_alloc_new _ o1
def EqP (n : Nat) : Prop := ∀ (l l' : Pts) (G G' : Nat → Prop) (A A' : Option Addr) (c c' : Nat) (w : World), l.deep < n → l.wt ≤ 1073741824 → l'.wt ≤ 1073741824 → (∀ k, G k → k < w.heap.size) → (∀ k, G' k → k < w.heap.size) → PtsAt G w A 0 l → PtsAt G' w A' 0 l' →
  Calls Tryz.prog 159 #[.slice A l.len c, .slice A' l'.len c', .func (.func 160) #[] #[]] w fun e w' => e = .returned (.bool (l.same l')) ∧ Below w.heap.size w w'
set_option maxRecDepth 100000 in
set_option maxHeartbeats 4000000 in
theorem psame_one (n : Nat) (ih : EqP n) (pk pk' : Int) (t o t' o' : ByteArray) (kids kids' : Pts) (Ak Ak' : Option Addr) (ck ck' : Nat) (cm cm' : Cm) (G G' : Nat → Prop) (w : World) (hd : kids.deep < n) (hwt : kids.wt ≤ 1073741824) (hwt' : kids'.wt ≤ 1073741824)
    (hG : ∀ k, G k → k < w.heap.size) (hG' : ∀ k, G' k → k < w.heap.size) (hp : PtsAt G w Ak 0 kids) (hp' : PtsAt G' w Ak' 0 kids') :
    Calls Tryz.prog 160 #[.agg #[.int .i64 pk, .string t, .string o, .slice Ak kids.len ck, .slice cm.a cm.n cm.c], .agg #[.int .i64 pk', .string t', .string o', .slice Ak' kids'.len ck', .slice cm'.a cm'.n cm'.c]] w fun e w' =>
      e = .returned (.bool ((pk == pk') && (t.toList == t'.toList) && (o.toList == o'.toList) && kids.same kids')) ∧ Below w.heap.size w w' := by
  obtain ⟨b0, b1⟩ := two_blocks w (.cells #[.int .i64 pk, .string t, .string o, .slice Ak kids.len ck, .slice cm.a cm.n cm.c] 50) (.cells #[.int .i64 pk', .string t', .string o', .slice Ak' kids'.len ck', .slice cm'.a cm'.n cm'.c] 50)
  have hb : Below w.heap.size w ((w.alloc (.cells #[.int .i64 pk, .string t, .string o, .slice Ak kids.len ck, .slice cm.a cm.n cm.c] 50)).alloc (.cells #[.int .i64 pk', .string t', .string o', .slice Ak' kids'.len ck', .slice cm'.a cm'.n cm'.c] 50)) := ((Below.refl _ _).alloc (Nat.le_refl _) _).alloc (by simp) _
  obtain ⟨x0, x1, x2, x3, x4⟩ := box_cells b0
  obtain ⟨y0, y1, y2, y3, y4⟩ := box_cells b1
  have HB := Lib.hid hb
  have HP := Lib.hid (hp.old hG hb); have HP' := Lib.hid (hp'.old hG' hb)
  have HGG := Lib.hid (fun k (h : G k) => Nat.lt_of_lt_of_le (hG k h) hb.size); have HGG' := Lib.hid (fun k (h : G' k) => Nat.lt_of_lt_of_le (hG' k h) hb.size)
  have IH := Lib.hid ih
  clear hp hp' hG hG' hb b0 b1 ih x4 y4
  cases m1 : (pk == pk')
  · go_enter Tryz.func160, Tryz.ntmps160
    go_wp2_with fail
    go_ret
    exact ⟨rfl, HB.out⟩
  cases m2 : (t.toList == t'.toList)
  · go_enter Tryz.func160, Tryz.ntmps160
    go_wp2_with fail
    go_ret
    exact ⟨rfl, HB.out⟩
  cases m3 : (o.toList == o'.toList)
  · go_enter Tryz.func160, Tryz.ntmps160
    go_wp2_with fail
    go_ret
    exact ⟨rfl, HB.out⟩
  go_enter Tryz.func160, Tryz.ntmps160
  go_wp2_with fail
  refine (IH.out kids kids' G G' Ak Ak' ck ck' _ hd hwt hwt' HGG.out HGG'.out HP.out HP'.out).mono ?_
  rintro e w1 ⟨rfl, hb1⟩
  have HB1 := Lib.hid (HB.out.trans (hb1.mono HB.out.size))
  clear hb1 x0 x1 x2 x3 y0 y1 y2 y3
  go_wp2_with fail
  go_ret
  exact ⟨rfl, HB1.out⟩
set_option maxRecDepth 100000 in
set_option maxHeartbeats 4000000 in
theorem eqp_step (n : Nat) (ih : EqP n) : EqP (n + 1) := by
  intro l l' G G' A A' c c' w hd hwt hwt' hG hG' hp hp'
  have hlw := Pts.len_wt l
  have hlw' := Pts.len_wt l'
  have IH := Lib.hid ih; have HG := Lib.hid hG; have HG' := Lib.hid hG'; have HP := Lib.hid hp; have HP' := Lib.hid hp'
  clear ih hG hG' hp hp'
  by_cases hll : l.len = l'.len
  · have HLL := Lib.hid hll
    rw [← hll]
    clear hll
    go_enter Tryz.func159, Tryz.ntmps159
    go_wp2_with fail
    go_loopw [17] (fun i wr => ∃ (k : Nat), k ≤ l.len ∧ i = .int .i64 k ∧ (l.drop k).same (l'.drop k) = l.same l' ∧ Below w.heap.size w wr) (fun i _ => l.len - (intOf i).toNat)
    case atStart => exact ⟨0, by omega, rfl, by rw [Pts.drop_zero, Pts.drop_zero], Below.refl _ _⟩
    case round =>
      obtain ⟨k, hk, rfl, hf, hb⟩ := hrel
      have HB := Lib.hid hb; have HF := Lib.hid hf
      clear hf
      by_cases hlt : k < l.len
      · obtain ⟨pk, t, o, kids, cm, r, hdr⟩ := Pts.drop_cons k l hlt
        obtain ⟨pk', t', o', kids', cm', r', hdr'⟩ := Pts.drop_cons k l' (by rw [← HLL.out]; exact hlt)
        have hq := (HP.out.old HG.out hb).at_ k
        rw [hdr, Nat.zero_add] at hq
        obtain ⟨b, off, Ak, ck, rfl, hg, c0, c1, c2, c3, c4, hl, h1, h2⟩ := hq
        have hq' := (HP'.out.old HG'.out hb).at_ k
        rw [hdr', Nat.zero_add] at hq'
        obtain ⟨b', off', Ak', ck', rfl, hg', d0, d1, d2, d3, d4, hl', h1', h2'⟩ := hq'
        have hwd := Pts.wt_drop k l
        rw [hdr, Pts.wt] at hwd
        have hwd' := Pts.wt_drop k l'
        rw [hdr', Pts.wt] at hwd'
        have hkd := Pts.deep_drop k l hdr
        have HS := Lib.hid (Pts.same_drop k l l' hdr hdr')
        unfold Cm.val at c4 d4
        have hlb : b < wr.heap.size := Nat.lt_of_lt_of_le (HG.out b hg) hb.size
        have hlb' : b' < wr.heap.size := Nat.lt_of_lt_of_le (HG'.out b' hg') hb.size
        have hb1 : Below wr.heap.size wr (wr.alloc (.cells #[.int .i64 pk, .string t, .string o, .slice Ak kids.len ck, .slice cm.a cm.n cm.c] 50)) := (Below.refl _ _).alloc (Nat.le_refl _) _
        have z0 : (wr.alloc (.cells #[.int .i64 pk, .string t, .string o, .slice Ak kids.len ck, .slice cm.a cm.n cm.c] 50)).cell? ⟨b', off' + k * 5, none⟩ = some (.int .i64 pk') := (hb1.cell (p := ⟨b', off' + k * 5, none⟩) hlb').trans d0
        have z1 : (wr.alloc (.cells #[.int .i64 pk, .string t, .string o, .slice Ak kids.len ck, .slice cm.a cm.n cm.c] 50)).cell? ⟨b', off' + k * 5 + 1, none⟩ = some (.string t') := (hb1.cell (p := ⟨b', off' + k * 5 + 1, none⟩) hlb').trans d1
        have z2 : (wr.alloc (.cells #[.int .i64 pk, .string t, .string o, .slice Ak kids.len ck, .slice cm.a cm.n cm.c] 50)).cell? ⟨b', off' + k * 5 + 2, none⟩ = some (.string o') := (hb1.cell (p := ⟨b', off' + k * 5 + 2, none⟩) hlb').trans d2
        have z3 : (wr.alloc (.cells #[.int .i64 pk, .string t, .string o, .slice Ak kids.len ck, .slice cm.a cm.n cm.c] 50)).cell? ⟨b', off' + k * 5 + 3, none⟩ = some (.slice Ak' kids'.len ck') := (hb1.cell (p := ⟨b', off' + k * 5 + 3, none⟩) hlb').trans d3
        have z4 : (wr.alloc (.cells #[.int .i64 pk, .string t, .string o, .slice Ak kids.len ck, .slice cm.a cm.n cm.c] 50)).cell? ⟨b', off' + k * 5 + 4, none⟩ = some (.slice cm'.a cm'.n cm'.c) := (hb1.cell (p := ⟨b', off' + k * 5 + 4, none⟩) hlb').trans d4
        have hb2 := hb1.alloc hb1.size (.cells #[.int .i64 pk', .string t', .string o', .slice Ak' kids'.len ck', .slice cm'.a cm'.n cm'.c] 50)
        obtain ⟨e0, e1⟩ := two_blocks wr (.cells #[.int .i64 pk, .string t, .string o, .slice Ak kids.len ck, .slice cm.a cm.n cm.c] 50) (.cells #[.int .i64 pk', .string t', .string o', .slice Ak' kids'.len ck', .slice cm'.a cm'.n cm'.c] 50)
        obtain ⟨x0, x1, x2, x3, x4⟩ := box_cells e0
        obtain ⟨y0, y1, y2, y3, y4⟩ := box_cells e1
        have HK := Lib.hid (h1.old (fun g hg => Nat.lt_of_lt_of_le (HG.out g hg) hb.size) hb2)
        have HK' := Lib.hid (h1'.old (fun g hg => Nat.lt_of_lt_of_le (HG'.out g hg) hb.size) hb2)
        have HB2 := Lib.hid (hb.trans (hb2.mono hb.size))
        have HGG := Lib.hid (fun g (h : G g) => Nat.lt_of_lt_of_le (Nat.lt_of_lt_of_le (HG.out g h) hb.size) hb2.size)
        have HGG' := Lib.hid (fun g (h : G' g) => Nat.lt_of_lt_of_le (Nat.lt_of_lt_of_le (HG'.out g h) hb.size) hb2.size)
        clear hdr hdr' h2 h2' h1 h1' hb hb1 hb2 e0 e1 hlb hlb' hg hg'
        go_wp2_with fail
        refine (psame_one n IH.out pk pk' t o t' o' kids kids' Ak Ak' ck ck' cm cm' G G' _ (by omega) (by omega) (by omega) HGG.out HGG'.out HK.out HK'.out).mono ?_
        rintro e w1 ⟨he, hb3⟩
        have HB3 := Lib.hid (HB2.out.trans (hb3.mono HB2.out.size))
        clear hb3 x0 x1 x2 x3 x4 y0 y1 y2 y3 y4 z0 z1 z2 z3 z4 c0 c1 c2 c3 c4 d0 d1 d2 d3 d4
        cases hq : ((pk == pk') && (t.toList == t'.toList) && (o.toList == o'.toList) && kids.same kids')
        · rw [hq] at he
          subst he
          have HQ := Lib.hid hq
          clear hq
          go_wp2_with fail
          go_ret
          exact ⟨ret_bool (by rw [← HF.out, HS.out, HQ.out]; rfl), HB3.out⟩
        · rw [hq] at he
          subst he
          have HQ := Lib.hid hq
          clear hq
          go_wp2_with fail
          go_roundw
          case rel => exact ⟨k + 1, by omega, by go_num, by rw [← HF.out, HS.out, HQ.out]; rfl, HB3.out⟩
          case measure => simp only [intOf]; omega
      · clear hb
        have HE := Lib.hid (Pts.same_end l l' k (by omega) (by rw [← HLL.out]; omega))
        go_wp2_with fail
        go_ret
        exact ⟨ret_bool (by rw [← HF.out, HE.out]), HB.out⟩
  · have HLL := Lib.hid (Pts.same_ne l l' hll)
    have h1 : ((l.len : Int) != (l'.len : Int)) = true := bne_iff_ne.2 (by omega)
    have h2 : (l.len != l'.len) = true := bne_iff_ne.2 hll
    go_enter Tryz.func159, Tryz.ntmps159
    go_wp2_with fail
    go_ret
    exact ⟨ret_bool (by rw [HLL.out]), Below.refl _ _⟩
theorem eqp_all : ∀ n, EqP n
  | 0 => fun _ _ _ _ _ _ _ _ _ h => absurd h (Nat.not_lt_zero _)
  | n + 1 => eqp_step n (eqp_all n)
set_option maxRecDepth 100000 in
set_option maxHeartbeats 1000000 in
theorem psame_p (l l' : Pts) (A A' : Option Addr) (c c' : Nat) (G G' : Nat → Prop) (w : World) (hwt : l.wt ≤ 1073741824) (hwt' : l'.wt ≤ 1073741824) (hG : ∀ k, G k → k < w.heap.size) (hG' : ∀ k, G' k → k < w.heap.size) (hp : PtsAt G w A 0 l) (hp' : PtsAt G' w A' 0 l') :
    Calls Tryz.prog 127 #[.agg #[.slice A l.len c], .agg #[.slice A' l'.len c']] w fun e w' => e = .returned (.bool (l.same l')) ∧ Below w.heap.size w w' := by
  obtain ⟨b0, b1⟩ := two_blocks w (.cells #[.slice A l.len c] 31) (.cells #[.slice A' l'.len c'] 31)
  have hb : Below w.heap.size w ((w.alloc (.cells #[.slice A l.len c] 31)).alloc (.cells #[.slice A' l'.len c'] 31)) := ((Below.refl _ _).alloc (Nat.le_refl _) _).alloc (by simp) _
  have q0 := word_cell b0
  have q1 := word_cell b1
  have HB := Lib.hid hb
  have HP := Lib.hid (hp.old hG hb); have HP' := Lib.hid (hp'.old hG' hb)
  have HGG := Lib.hid (fun k (h : G k) => Nat.lt_of_lt_of_le (hG k h) hb.size); have HGG' := Lib.hid (fun k (h : G' k) => Nat.lt_of_lt_of_le (hG' k h) hb.size)
  clear hp hp' hG hG' hb b0 b1
  go_enter Tryz.func127, Tryz.ntmps127
  go_wp2_with fail
  refine (eqp_all (l.deep + 1) l l' G G' A A' c c' _ (by omega) hwt hwt' HGG.out HGG'.out HP.out HP'.out).mono ?_
  rintro e w1 ⟨rfl, hb1⟩
  have HB1 := Lib.hid (HB.out.trans (hb1.mono HB.out.size))
  clear hb1 q0 q1
  go_wp2
  go_ret
  exact ⟨rfl, HB1.out⟩
end Go.Proofs.YtjpopekmbmcggaaGreatDoor
