/- Texts in one: GtP1, GtP2, GtP3. -/
import Derived.Test.YtpidmmfjcghmeaaGreatTs05
namespace Go.Proofs.YtpidmmfjcghmeaaGreat
open Go.RowKit
attribute [local go_sem ↓] wp_append_wr

set_option maxRecDepth 100000 in
set_option maxHeartbeats 4000000 in
theorem top_p (G : Nat → Prop) (w : World) (vs : List Value) (g : Gm) (hG : ∀ k, G k → k < w.heap.size) (hg : GmV G w vs g) (hl : g.top ≤ 9223372036854775807):
    Calls Tryz.prog 86 #[ag vs] w fun e w' => e = .returned (.int .i64 g.top) ∧ Below w.heap.size w w' := by
  obtain ⟨A0, c0, A1, c1, A2, c2, rfl, hb, hx⟩ := GBox.start hG hg
  show Calls Tryz.prog 86 #[.agg #[.slice A0 g.terms.length c0, .slice A1 g.nons.length c1, .slice A2 g.rules.length c2, .int .i64 g.start]] w _
  generalize hW : w.alloc (.cells #[.slice A0 g.terms.length c0, .slice A1 g.nons.length c1, .slice A2 g.rules.length c2, .int .i64 g.start] 25) = W at *
  obtain ⟨x0, x1, x2, x3⟩ := hx.cells
  have HB := Lib.hid hb; have HX := Lib.hid hx
  clear hb hx hG hg
  have e1 : IntKind.i64.wrap ((g.terms.length : Int) + (g.nons.length : Int)) = (g.top : Int) := by
    rw [IntWalk.i64_in _ (by unfold Gm.top at hl; omega)]
    unfold Gm.top
    omega
  clear hl HX
  go_enter Tryz.func86, Tryz.ntmps86
  go_wp2_with fail
  go_ret
  exact ⟨rfl, HB.out⟩

set_option maxRecDepth 100000 in
set_option maxHeartbeats 4000000 in
theorem term_p (G : Nat → Prop) (w : World) (vs : List Value) (g : Gm) (s : Int)(hG : ∀ k, G k → k < w.heap.size) (hg : GmV G w vs g) :
    Calls Tryz.prog 92 #[ag vs, .int .i64 s] w fun e w' => e = .returned (.bool (decide (g.T s))) ∧ Below w.heap.size w w' := by
  obtain ⟨A0, c0, A1, c1, A2, c2, rfl, hb, hx⟩ := GBox.start hG hg
  show Calls Tryz.prog 92 #[.agg #[.slice A0 g.terms.length c0, .slice A1 g.nons.length c1, .slice A2 g.rules.length c2, .int .i64 g.start], .int .i64 s] w _
  generalize hW : w.alloc (.cells #[.slice A0 g.terms.length c0, .slice A1 g.nons.length c1, .slice A2 g.rules.length c2, .int .i64 g.start] 25) = W at *
  obtain ⟨x0, x1, x2, x3⟩ := hx.cells
  have HB := Lib.hid hb; have HX := Lib.hid hx
  clear hb hx hG hg
  have HT := Lib.hid (dec_T g s)
  clear HX
  go_enter Tryz.func92, Tryz.ntmps92
  by_cases h1 : 1 ≤ s
  · by_cases h2 : s ≤ (g.terms.length : Int)
    · go_wp2_with fail
      go_ret
      exact ⟨ret_bool (by rw [HT.out]; simp; omega), HB.out⟩
    · go_wp2_with fail
      go_ret
      exact ⟨ret_bool (by rw [HT.out]; simp; omega), HB.out⟩
  · go_wp2_with fail
    go_ret
    exact ⟨ret_bool (by rw [HT.out]; simp; omega), HB.out⟩

set_option maxRecDepth 100000 in
set_option maxHeartbeats 4000000 in
theorem non_p (G : Nat → Prop) (w : World) (vs : List Value) (g : Gm) (s : Int)(hG : ∀ k, G k → k < w.heap.size) (hg : GmV G w vs g) (hl : g.top ≤ 9223372036854775807):
    Calls Tryz.prog 81 #[ag vs, .int .i64 s] w fun e w' => e = .returned (.bool (decide (g.N s))) ∧ Below w.heap.size w w' := by
  obtain ⟨A0, c0, A1, c1, A2, c2, rfl, hb, hx⟩ := GBox.start hG hg
  show Calls Tryz.prog 81 #[.agg #[.slice A0 g.terms.length c0, .slice A1 g.nons.length c1, .slice A2 g.rules.length c2, .int .i64 g.start], .int .i64 s] w _
  generalize hW : w.alloc (.cells #[.slice A0 g.terms.length c0, .slice A1 g.nons.length c1, .slice A2 g.rules.length c2, .int .i64 g.start] 25) = W at *
  obtain ⟨x0, x1, x2, x3⟩ := hx.cells
  have HB := Lib.hid hb; have HX := Lib.hid hx
  clear hb hx hG hg
  have HT := Lib.hid (dec_N g s)
  have HL := Lib.hid hl
  clear hl
  go_enter Tryz.func81, Tryz.ntmps81
  by_cases h1 : (g.terms.length : Int) < s
  · go_wp2_with fail
    refine (top_p G _ _ g HX.out.old HX.out.gm HL.out).mono ?_
    rintro e w1 ⟨rfl, hb1⟩
    by_cases h2 : s ≤ (g.top : Int)
    · go_wp2_with fail
      go_ret
      exact ⟨ret_bool (by rw [HT.out]; simp; omega), HB.out.trans (hb1.mono HB.out.size)⟩
    · go_wp2_with fail
      go_ret
      exact ⟨ret_bool (by rw [HT.out]; simp; omega), HB.out.trans (hb1.mono HB.out.size)⟩
  · go_wp2_with fail
    go_ret
    exact ⟨ret_bool (by rw [HT.out]; simp; omega), HB.out⟩

set_option maxRecDepth 100000 in
set_option maxHeartbeats 4000000 in
theorem of_p (G : Nat → Prop) (w : World) (vs : List Value) (g : Gm) (s : Int)(hG : ∀ k, G k → k < w.heap.size) (hg : GmV G w vs g) (hl : g.rules.length ≤ 1099511627775):
    Calls Tryz.prog 87 #[ag vs, .int .i64 s] w fun e w' => ∃ v, e = .returned v ∧ Ints w.heap.size w' v (ofR s g.rules 0) ∧ Below w.heap.size w w' := by
  obtain ⟨A0, c0, A1, c1, A2, c2, rfl, hb, hx⟩ := GBox.start hG hg
  show Calls Tryz.prog 87 #[.agg #[.slice A0 g.terms.length c0, .slice A1 g.nons.length c1, .slice A2 g.rules.length c2, .int .i64 g.start], .int .i64 s] w _
  generalize hW : w.alloc (.cells #[.slice A0 g.terms.length c0, .slice A1 g.nons.length c1, .slice A2 g.rules.length c2, .int .i64 g.start] 25) = W at *
  obtain ⟨x0, x1, x2, x3⟩ := hx.cells
  have HB := Lib.hid hb; have HX := Lib.hid hx
  clear hb hx hG hg
  go_enter Tryz.func87, Tryz.ntmps87
  go_wp2
  go_loopw [5, 11] (fun o i wr => ∃ (k : Nat) (l : List Int), k ≤ g.rules.length ∧ i = .int .i64 k ∧ Ints W.heap.size wr o l ∧ l.length ≤ k ∧ l ++ ofR s (g.rules.drop k) k = ofR s g.rules 0 ∧ Below W.heap.size W wr) (fun _ i _ => g.rules.length - (intOf i).toNat)
  case atStart => exact ⟨0, [], by omega, rfl, Nrow.nil _ _ _ _ _, by simp, rfl, Below.refl _ _⟩
  case round =>
    obtain ⟨k, l, hk, rfl, ho, hll, hi, hb⟩ := hrel
    obtain ⟨Ao, co, rfl⟩ := ho.shape
    clear x0 x1 x2 x3
    by_cases hlt : k < g.rules.length
    · have hx := HX.out.on hb
      obtain ⟨bb, off, Ar, cr, rfl, z0, z1, zi⟩ := hx.rule hlt
      have hb2 : Below wr.heap.size wr (wr.alloc (.cells #[.int .i64 g.rules[k].1, .slice Ar g.rules[k].2.length cr] 64)) := (Below.refl _ _).alloc (Nat.le_refl _) _
      have q := heap_alloc_t wr (.cells #[.int .i64 g.rules[k].1, .slice Ar g.rules[k].2.length cr] 64)
      rw [drop_one _ k hlt, ofR] at hi
      have HO := Lib.hid (Ints.below ho hb2); have HBR := Lib.hid (hb.trans (hb2.mono hb.size))
      clear zi hx ho hb
      revert hi z0 z1 q hb2 HO HBR
      generalize g.rules[k] = r
      obtain ⟨r1, r2⟩ := r
      dsimp only
      intro hi z0 z1 hb2 q HO HBR
      generalize hV : wr.alloc (.cells #[.int .i64 r1, .slice Ar r2.length cr] 64) = V at *
      have y0 := cell_box q 0 _ rfl; have y1 := cell_box q 1 _ rfl
      clear q hb2
      by_cases hs : r1 = s
      · subst hs
        rw [if_pos rfl] at hi
        obtain ⟨v', w', hrun, ho', hb'⟩ := HO.out.push (k : Int) (by omega) HBR.out.size
        have HO2 := Lib.hid ho'; have HB2 := Lib.hid hb'; have HI := Lib.hid hi
        clear ho' hb' hi
        go_wp2_with fail
        go_roundw
        case rel => exact ⟨k + 1, l ++ [(k : Int)], by omega, by go_num, HO2.out, by simp; omega, by rw [List.append_assoc]; exact HI.out, HBR.out.trans HB2.out⟩
        case measure => simp only [intOf]; omega
      · rw [if_neg hs] at hi
        have HI := Lib.hid hi
        clear hi
        go_wp2_with fail
        go_roundw
        case rel => exact ⟨k + 1, l, by omega, by go_num, HO.out, by omega, HI.out, HBR.out⟩
        case measure => simp only [intOf]; omega
    · have HE := Lib.hid (show ofR s g.rules 0 = l by rw [← hi, List.drop_eq_nil_of_le (by omega)]; simp [ofR])
      have HO := Lib.hid ho; have HBR := Lib.hid hb
      clear hi ho hb
      go_wp2_with fail
      go_ret
      exact ⟨_, rfl, by rw [HE.out]; exact Nrow.lower HO.out HB.out.size, HB.out.trans (HBR.out.mono HB.out.size)⟩
end Go.Proofs.YtpidmmfjcghmeaaGreat
namespace Go.Proofs.YtpidmmfjcghmeaaGreat
open Go.RowKit

set_option maxRecDepth 100000 in
set_option maxHeartbeats 4000000 in
theorem equal_p (G : Nat → Prop) (w : World) (A1 A2 : Option Addr) (n1 n2 c1 c2 : Nat) (a b : List Int) (ha : IntsAt G w (.slice A1 n1 c1) a) (hb : IntsAt G w (.slice A2 n2 c2) b) :
    Calls Tryz.prog 150 #[.slice A1 n1 c1, .slice A2 n2 c2] w fun e w' => e = .returned (.bool (decide (a = b))) ∧ ∃ m, w' = w.drewN m := by
  have l1 := SlAt.len ha
  have l2 := SlAt.len hb
  have HA := Lib.hid ha; have HB := Lib.hid hb
  have hm := l1.2
  have HL1 := Lib.hid l1.1; have HL2 := Lib.hid l2.1
  clear ha hb l1 l2
  go_enter Tryz.func150, Tryz.ntmps150
  by_cases hl : n1 = n2
  case neg =>
    have he := Lib.hid (decide_eq_false (show ¬ a = b from fun h => hl (by rw [HL1.out, HL2.out, h])))
    go_wp2_with fail
    go_ret
    exact ⟨ret_bool he.out.symm, 0, rfl⟩
  subst hl
  go_wp2
  go_loopw [13] (fun i wr => ∃ (k q : Nat), k ≤ n1 ∧ i = .int .i64 k ∧ (a.drop k = b.drop k ↔ a = b) ∧ wr = w.drewN q) (fun i _ => n1 - (intOf i).toNat)
  case atStart => exact ⟨0, 0, by omega, rfl, Iff.rfl, rfl⟩
  case round =>
    obtain ⟨k, q, hk, rfl, hi, rfl⟩ := hrel
    by_cases hlt : k < n1
    · have hlt1 : k < a.length := by have := HL1.out; omega
      have hlt2 : k < b.length := by have := HL2.out; omega
      obtain ⟨b1, o1, rfl, z1⟩ := HA.out.get hlt1
      obtain ⟨b2, o2, rfl, z2⟩ := HB.out.get hlt2
      rw [drop_one a k hlt1, drop_one b k hlt2] at hi
      have HI := Lib.hid hi
      clear hi
      revert HI z1 z2
      generalize a[k] = x
      generalize b[k] = y
      intro z1 z2 HI
      by_cases hxy : x = y
      · subst hxy
        have HI2 := Lib.hid (show a.drop (k + 1) = b.drop (k + 1) ↔ a = b by have := HI.out; rw [List.cons.injEq] at this; simpa using this)
        clear HI
        go_wp2_with fail
        go_quiet (fail)
        go_wp2_with fail
        go_roundw
        case rel => exact ⟨k + 1, _, by omega, by go_num, HI2.out, rfl⟩
        case measure => simp only [intOf]; omega
      · have he := Lib.hid (decide_eq_false (show ¬ a = b from fun h => hxy (by have := HI.out.2 h; injection this)))
        go_wp2_with fail
        go_quiet (fail)
        go_wp2_with fail
        go_ret
        exact ⟨ret_bool he.out.symm, q + nq, World.drewN_drewN ..⟩
    · have he := Lib.hid (decide_eq_true (hi.1 (by rw [List.drop_eq_nil_of_le (by have := HL1.out; omega), List.drop_eq_nil_of_le (by have := HL2.out; omega)])))
      clear hi
      go_wp2_with fail
      go_ret
      exact ⟨ret_bool he.out.symm, q, rfl⟩

set_option maxRecDepth 100000 in
set_option maxHeartbeats 4000000 in
theorem samerule_p (G : Nat → Prop) (w : World) (vs us : List Value) (a b : Int × List Int) (hG : ∀ k, G k → k < w.heap.size) (ha : RuV G w vs a) (hb : RuV G w us b) :
    Calls Tryz.prog 85 #[ag vs, ag us] w fun e w' => e = .returned (.bool (decide (a = b))) ∧ Below w.heap.size w w' := by
  obtain ⟨Aa, ca, rfl, _, _⟩ := ha.shape
  obtain ⟨Ab, cb, rfl, _, _⟩ := hb.shape
  have hb1 : Below w.heap.size w (w.alloc (.cells #[.int .i64 a.1, .slice Aa a.2.length ca] 64)) := (Below.refl _ _).alloc (Nat.le_refl _) _
  have hb2 : Below w.heap.size w ((w.alloc (.cells #[.int .i64 a.1, .slice Aa a.2.length ca] 64)).alloc (.cells #[.int .i64 b.1, .slice Ab b.2.length cb] 64)) := hb1.alloc (by simp) _
  have q0 := up (heap_alloc_t w (.cells #[.int .i64 a.1, .slice Aa a.2.length ca] 64)) (o := .cells #[.int .i64 b.1, .slice Ab b.2.length cb] 64)
  have q1 := heap_alloc_t (w.alloc (.cells #[.int .i64 a.1, .slice Aa a.2.length ca] 64)) (.cells #[.int .i64 b.1, .slice Ab b.2.length cb] 64)
  rw [show (w.alloc (.cells #[.int .i64 a.1, .slice Aa a.2.length ca] 64)).heap.size = w.heap.size + 1 by simp] at q1
  show Calls Tryz.prog 85 #[.agg #[.int .i64 a.1, .slice Aa a.2.length ca], .agg #[.int .i64 b.1, .slice Ab b.2.length cb]] w _
  generalize hW : (w.alloc (.cells #[.int .i64 a.1, .slice Aa a.2.length ca] 64)).alloc (.cells #[.int .i64 b.1, .slice Ab b.2.length cb] 64) = W at *
  have y0 := cell_box q0 0 _ rfl; have y1 := cell_box q0 1 _ rfl
  have z0 := cell_box q1 0 _ rfl; have z1 := cell_box q1 1 _ rfl
  obtain ⟨va, ea, ia⟩ := ha
  injection ea with _ ea
  injection ea with ea _
  subst ea
  obtain ⟨vb, eb, ib⟩ := hb
  injection eb with _ eb
  injection eb with eb _
  subst eb
  have HI := Lib.hid (equal_p G W _ _ _ _ _ _ a.2 b.2 (IntsAt.below hG hb2 ia) (IntsAt.below hG hb2 ib))
  have HB := Lib.hid hb2
  have HE := Lib.hid (show decide (a = b) = (decide (a.1 = b.1) && decide (a.2 = b.2)) by rw [Bool.eq_iff_iff]; simp [Prod.ext_iff])
  clear hb1 hb2 q0 q1 ia ib hG
  obtain ⟨a1, a2⟩ := a
  obtain ⟨b1, b2⟩ := b
  dsimp only at *
  go_enter Tryz.func85, Tryz.ntmps85
  by_cases h1 : a1 = b1
  · subst h1
    go_wp2_with fail
    refine (HI.out).mono ?_
    rintro e w1 ⟨rfl, m, rfl⟩
    go_wp2_with fail
    go_ret
    exact ⟨ret_bool (by rw [HE.out]; simp), belowN HB.out m⟩
  · go_wp2_with fail
    go_ret
    exact ⟨by first | rfl | (rw [HE.out, decide_eq_false h1]; rfl), HB.out⟩

set_option maxRecDepth 100000 in
set_option maxHeartbeats 4000000 in
theorem plain_p6 (s : List UInt8) (w : World) (hm : s.length ≤ 9223372036854775800) :
    Calls Tryz.prog 78 #[bs s] w fun e w' => e = .returned (.bool (nameB s)) ∧ Below w.heap.size w w' := by
  have HC := Lib.hid (name_p ⟨s.toArray⟩ w (by rw [size_list, list_mk]; omega))
  rw [list_mk] at HC
  unfold bs
  have HD := Lib.hid (show nameB s = (Chr.name s && decide (s.length ≤ 24)) from rfl)
  go_enter Tryz.func78, Tryz.ntmps78
  by_cases hl : s.length ≤ 24
  · have hd := Lib.hid (decide_eq_true hl)
    have hl2 : (s.length : Int) ≤ 24 := by omega
    go_wp2_with fail
    refine (HC.out).mono ?_
    rintro e w1 ⟨rfl, hb⟩
    go_wp2_with fail
    go_ret
    exact ⟨ret_bool (by rw [HD.out, hd.out, Bool.and_true]), hb⟩
  · have hd := Lib.hid (decide_eq_false hl)
    have hl2 : ¬ (s.length : Int) ≤ 24 := by omega
    go_wp2_with fail
    go_ret
    exact ⟨ret_bool (by rw [HD.out, hd.out, Bool.and_false]), Below.refl _ _⟩

set_option maxRecDepth 100000 in
set_option maxHeartbeats 4000000 in
theorem name_p6 (G : Nat → Prop) (w : World) (vs : List Value) (g : Gm) (m : Nat)(hG : ∀ k, G k → k < w.heap.size) (hg : GmV G w vs g) (hl : g.top ≤ 1099511627775) (hk : m < g.names.length):
    Calls Tryz.prog 93 #[ag vs, .int .i64 ((m : Int) + 1)] w fun e w' => e = .returned (bs g.names[m]) ∧ Below w.heap.size w w' := by
  obtain ⟨A0, c0, A1, c1, A2, c2, rfl, hb, hx⟩ := GBox.start hG hg
  show Calls Tryz.prog 93 #[.agg #[.slice A0 g.terms.length c0, .slice A1 g.nons.length c1, .slice A2 g.rules.length c2, .int .i64 g.start], .int .i64 ((m : Int) + 1)] w _
  generalize hW : w.alloc (.cells #[.slice A0 g.terms.length c0, .slice A1 g.nons.length c1, .slice A2 g.rules.length c2, .int .i64 g.start] 25) = W at *
  obtain ⟨x0, x1, x2, x3⟩ := hx.cells
  have HB := Lib.hid hb; have HX := Lib.hid hx
  clear hb hx hG hg
  have h3 := term_p G; have h4 := non_p G
  unfold ag at h3 h4
  have H3 := Lib.hid h3; have H4 := Lib.hid h4; have HL := Lib.hid hl
  have hne : ¬ (m : Int) + 1 = 0 := by omega
  have hml : m ≤ 1099511627775 := by have := names_len g; omega
  have hmt : m < g.top := by have := names_len g; omega
  have hs1 : (m : Int) + 1 - 1 = (m : Int) := by omega
  clear h3 h4 hl
  go_enter Tryz.func93, Tryz.ntmps93
  go_wp2_with fail
  refine (H3.out _ _ g ((m : Int) + 1) HX.out.old HX.out.gm).mono ?_
  rintro e w1 ⟨rfl, hb1⟩
  have HX1 := Lib.hid (HX.out.on hb1)
  have HB1 := Lib.hid (HB.out.trans (hb1.mono HB.out.size))
  clear x0 x1 x2 x3 hb1
  obtain ⟨x0, x1, x2, x3⟩ := HX1.out.cells
  by_cases hT : m < g.terms.length
  · obtain ⟨bb, off, rfl, z⟩ := HX1.out.term hT
    have he := Lib.hid (show g.names[m] = g.terms[m] from List.getElem_append_left hT)
    rw [decide_eq_true (show g.T ((m : Int) + 1) by unfold Gm.T; omega)]
    go_wp2_with fail
    go_ret
    exact ⟨by rw [he.out]; rfl, HB1.out⟩
  · rw [decide_eq_false (show ¬ g.T ((m : Int) + 1) by unfold Gm.T; omega)]
    go_wp2_with fail
    refine (H4.out _ _ g ((m : Int) + 1) HX1.out.old HX1.out.gm (by have := HL.out; omega)).mono ?_
    rintro e w2 ⟨rfl, hb1⟩
    have HX2 := Lib.hid (HX1.out.on hb1)
    have HB2 := Lib.hid (HB1.out.trans (hb1.mono HB1.out.size))
    clear x0 x1 x2 x3 hb1
    obtain ⟨x0, x1, x2, x3⟩ := HX2.out.cells
    rw [decide_eq_true (show g.N ((m : Int) + 1) by unfold Gm.N; omega)]
    have hkn : m - g.terms.length < g.nons.length := by unfold Gm.top at hmt; omega
    obtain ⟨bb, off, rfl, z⟩ := HX2.out.non hkn
    have he := Lib.hid (show g.names[m] = g.nons[m - g.terms.length] from List.getElem_append_right (by omega))
    have hs2 : (m : Int) - (g.terms.length : Int) = ((m - g.terms.length : Nat) : Int) := by omega
    go_wp2_with fail
    go_ret
    exact ⟨by rw [he.out]; rfl, HB2.out⟩
end Go.Proofs.YtpidmmfjcghmeaaGreat
namespace Go.Proofs.YtpidmmfjcghmeaaGreat
open Go.RowKit

theorem enter_c1 : Enters 74 := fun args w => by simp [callFunc, go_sem, Tryz.func74, Tryz.f74]
theorem enter_c2 : Enters 77 := fun args w => by simp [callFunc, go_sem, Tryz.func77, Tryz.f77]
theorem enter_c3 : Enters 82 := fun args w => by simp [callFunc, go_sem, Tryz.func82, Tryz.f82]
theorem enter_pl : Enters 78 := fun args w => by simp [callFunc, go_sem, Tryz.func78, Tryz.f78]
theorem enter_sr : Enters 85 := fun args w => by simp [callFunc, go_sem, Tryz.func85, Tryz.f85]
theorem enter_k1 : Enters 148 := fun args w => by simp [callFunc, go_sem, Tryz.func148, Tryz.f148]

set_option maxRecDepth 100000 in
set_option maxHeartbeats 4000000 in
theorem c1_p (G : Nat → Prop) (w : World) (vs : List Value) (r : Int × List Int) (hr : RuV G w vs r) :
    Calls Tryz.prog 74 #[ag vs] w fun e w' => e = .returned (.bool (decide (r.2.length ≤ 8))) ∧ Below w.heap.size w w' := by
  obtain ⟨A, c, rfl, _, _⟩ := hr.shape
  have hb : Below w.heap.size w (w.alloc (.cells #[.int .i64 r.1, .slice A r.2.length c] 64)) := (Below.refl _ _).alloc (Nat.le_refl _) _
  have q := heap_alloc_t w (.cells #[.int .i64 r.1, .slice A r.2.length c] 64)
  show Calls Tryz.prog 74 #[.agg #[.int .i64 r.1, .slice A r.2.length c]] w _
  generalize hW : w.alloc (.cells #[.int .i64 r.1, .slice A r.2.length c] 64) = W at *
  have y0 := cell_box q 0 _ rfl; have y1 := cell_box q 1 _ rfl
  have HB := Lib.hid hb
  have hd := Lib.hid (dle r.2.length 8)
  clear hb q hr
  go_enter Tryz.func74, Tryz.ntmps74
  go_wp2_with fail
  go_ret
  exact ⟨ret_bool hd.out, HB.out⟩

set_option maxRecDepth 100000 in
set_option maxHeartbeats 4000000 in
theorem c2_p (s : List UInt8) (w : World) (hm : s.length ≤ 1099511627776) (ht : termB s = true) :
    Calls Tryz.prog 77 #[bs s] w fun e w' => e = .returned (.bool true) ∧ Below w.heap.size w w' := by
  have HP := Lib.hid (plain_p6 s w (by omega))
  have HQ := Lib.hid (fun X (h : quotedB s = true) => Quoted_p ⟨s.toArray⟩ X (by rw [size_list, list_mk]; omega) (by rw [list_mk]; exact h))
  unfold termB at ht
  unfold bs at HP ⊢
  go_enter Tryz.func77, Tryz.ntmps77
  go_wp2_with fail
  refine (HP.out).mono ?_
  rintro e w1 ⟨rfl, hb⟩
  cases hn : nameB s
  · rw [hn, Bool.false_or] at ht
    have HT := Lib.hid ht
    have HB := Lib.hid hb
    clear ht hb
    go_wp2_with fail
    refine (HQ.out _ HT.out).mono ?_
    rintro e w2 ⟨rfl, rfl⟩
    go_wp2_with fail
    go_ret
    exact ⟨rfl, HB.out⟩
  · go_wp2_with fail
    go_ret
    exact ⟨rfl, hb⟩

set_option maxRecDepth 100000 in
set_option maxHeartbeats 4000000 in
theorem known1_p (G : Nat → Prop) (X : World) (b : Nat) (A0 : Option Addr) (c0 : Nat) (A1 : Option Addr) (c1 : Nat) (A2 : Option Addr) (c2 : Nat) (g : Gm) (s : Int) (w : World) (hw : w = X) (hx : GBox G X b A0 c0 A1 c1 A2 c2 g) (hl : g.top ≤ 9223372036854775807) :
    Calls Tryz.prog 148 #[.int .i64 s, .pointer (some ⟨b, 0, none⟩)] w fun e w' => e = .returned (.bool (symB g s)) ∧ Below w.heap.size w w' := by
  subst hw
  have h3 := term_p G; have h4 := non_p G
  unfold ag at h3 h4
  have H3 := Lib.hid h3; have H4 := Lib.hid h4; have HL := Lib.hid hl; have HX := Lib.hid hx
  have HS := Lib.hid (show symB g s = (decide (g.T s) || decide (g.N s)) from rfl)
  obtain ⟨x0, x1, x2, x3⟩ := hx.cells
  clear h3 h4 hl hx
  go_enter Tryz.func148, Tryz.ntmps148
  go_wp2_with fail
  refine (H3.out _ _ g s HX.out.old HX.out.gm).mono ?_
  rintro e w1 ⟨rfl, hb1⟩
  have HX1 := Lib.hid (HX.out.on hb1)
  have HB1 := Lib.hid hb1
  clear x0 x1 x2 x3 hb1
  obtain ⟨x0, x1, x2, x3⟩ := HX1.out.cells
  generalize decide (g.T s) = d at HS
  cases d
  · go_wp2_with fail
    refine (H4.out _ _ g s HX1.out.old HX1.out.gm HL.out).mono ?_
    rintro e w2 ⟨rfl, hb1⟩
    have HB2 := Lib.hid (HB1.out.trans (hb1.mono HB1.out.size))
    clear x0 x1 x2 x3 hb1
    go_wp2_with fail
    go_ret
    exact ⟨ret_bool (by rw [HS.out]; rfl), HB2.out⟩
  · go_wp2_with fail
    go_ret
    exact ⟨ret_bool (by rw [HS.out]; rfl), HB1.out⟩
end Go.Proofs.YtpidmmfjcghmeaaGreat
