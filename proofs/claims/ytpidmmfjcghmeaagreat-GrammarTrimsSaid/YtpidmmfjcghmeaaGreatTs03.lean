/- Texts in one: GtRef2, GtRef3, GtRef4. -/
import Derived.Test.YtpidmmfjcghmeaaGreatTs02
import Derived.BigRegion
namespace Go.Proofs.YtpidmmfjcghmeaaGreat
open Go.RowKit
attribute [local go_sem ↓] wp_append_wr

theorem SlAt.len {β : Type} {G : Nat → Prop} {w : World} {sz : Nat} {R : List Value → β → Prop} {A : Option Addr} {n c : Nat} {xs : List β} (h : SlAt G w sz R (.slice A n c) xs) : n = xs.length ∧ n ≤ 9223372036854775807 := by
  obtain ⟨A', c', e, h2, h3, _⟩ := h
  injection e with _ e _
  unfold maxLen at h3
  exact ⟨e, by omega⟩
theorem dlt (k n : Nat) : decide ((k : Int) < (n : Int)) = decide (k < n) := by rw [Bool.eq_iff_iff, decide_eq_true_iff, decide_eq_true_iff]; omega
theorem IntsAt.drewN {G : Nat → Prop} {w : World} {v : Value} {l : List Int} (h : IntsAt G w v l) (q : Nat) : IntsAt G (w.drewN q) v l := h

set_option maxRecDepth 100000 in
set_option maxHeartbeats 4000000 in
theorem ints_r (G : Nat → Prop) (w : World) (A1 A2 : Option Addr) (n1 n2 c1 c2 : Nat) (a b : List Int) (ha : IntsAt G w (.slice A1 n1 c1) a) (hb : IntsAt G w (.slice A2 n2 c2) b) :
    Calls Tryz.prog 139 #[.slice A1 n1 c1, .slice A2 n2 c2] w fun e w' => e = .returned (.bool (decide (a = b))) ∧ ∃ m, w' = w.drewN m := by
  have l1 := SlAt.len ha
  have l2 := SlAt.len hb
  have HA := Lib.hid ha; have HB := Lib.hid hb
  have hm := l1.2
  have HL1 := Lib.hid l1.1; have HL2 := Lib.hid l2.1
  clear ha hb l1 l2
  go_enter Tryz.func139, Tryz.ntmps139
  by_cases hl : n1 = n2
  case neg =>
    have he := Lib.hid (decide_eq_false (show ¬ a = b from fun h => hl (by rw [HL1.out, HL2.out, h])))
    go_wp2_with fail
    go_ret
    exact ⟨ret_bool he.out.symm, 0, rfl⟩
  subst hl
  go_wp2
  go_loopw [5] (fun i wr => ∃ (k q : Nat), k ≤ n1 ∧ i = .int .i64 k ∧ (a.drop k = b.drop k ↔ a = b) ∧ wr = w.drewN q) (fun i _ => n1 - (intOf i).toNat)
  case atStart => exact ⟨0, 0, by omega, rfl, Iff.rfl, rfl⟩
  case round =>
    obtain ⟨k, q, hk, rfl, hi, rfl⟩ := hrel
    by_cases hlt : k < n1
    · have hlt1 : k < a.length := by have := HL1.out; omega
      have hlt2 : k < b.length := by have := HL2.out; omega
      obtain ⟨b1, o1, rfl, z1⟩ := HA.out.get hlt1
      obtain ⟨b2, o2, rfl, z2⟩ := HB.out.get hlt2
      rw [drop_one a k hlt1, drop_one b k hlt2] at hi
      have HI := Lib.hid hi
      clear hi
      revert HI z1 z2
      generalize a[k] = x
      generalize b[k] = y
      intro z1 z2 HI
      by_cases hxy : x = y
      · subst hxy
        have HI2 := Lib.hid (show a.drop (k + 1) = b.drop (k + 1) ↔ a = b by have := HI.out; rw [List.cons.injEq] at this; simpa using this)
        clear HI
        go_wp2_with fail
        go_quiet (fail)
        go_wp2_with fail
        go_roundw
        case rel => exact ⟨k + 1, _, by omega, by go_num, HI2.out, rfl⟩
        case measure => simp only [intOf]; omega
      · have he := Lib.hid (decide_eq_false (show ¬ a = b from fun h => hxy (by have := HI.out.2 h; injection this)))
        go_wp2_with fail
        go_quiet (fail)
        go_wp2_with fail
        go_ret
        exact ⟨ret_bool he.out.symm, q + nq, World.drewN_drewN ..⟩
    · have he := Lib.hid (decide_eq_true (hi.1 (by rw [List.drop_eq_nil_of_le (by have := HL1.out; omega), List.drop_eq_nil_of_le (by have := HL2.out; omega)])))
      clear hi
      go_wp2_with fail
      go_ret
      exact ⟨ret_bool he.out.symm, q, rfl⟩

set_option maxRecDepth 100000 in
set_option maxHeartbeats 4000000 in
theorem place_r (G : Nat → Prop) (w : World) (A : Option Addr) (n c : Nat) (l : List (List UInt8)) (s : List UInt8) (ha : StrsAt G w (.slice A n c) l) :
    Calls Tryz.prog 37 #[.slice A n c, bs s] w fun e w' => e = .returned (.int .i64 (fidx (fun x => x == s) l 0)) ∧ w' = w := by
  have l1 := SlAt.len ha
  have HA := Lib.hid ha
  have hm := l1.2
  have HL := Lib.hid l1.1
  clear ha l1
  unfold bs
  obtain ⟨S, hS⟩ : ∃ S : ByteArray, S = ⟨s.toArray⟩ := ⟨_, rfl⟩
  rw [← hS]
  have HS := Lib.hid (show S.toList = s by rw [hS, list_mk])
  clear hS
  go_enter Tryz.func37, Tryz.ntmps37
  go_wp2
  go_loopw [5] (fun i wr => ∃ (k : Nat), k ≤ n ∧ i = .int .i64 k ∧ fidx (fun x => x == s) (l.drop k) k = fidx (fun x => x == s) l 0 ∧ wr = w) (fun i _ => n - (intOf i).toNat)
  case atStart => exact ⟨0, by omega, rfl, rfl, rfl⟩
  case round =>
    obtain ⟨k, hk, rfl, hi, rfl⟩ := hrel
    by_cases hlt : k < n
    · have hlt1 : k < l.length := by have := HL.out; omega
      obtain ⟨b1, o1, rfl, z1⟩ := HA.out.get hlt1
      rw [drop_one l k hlt1, fidx] at hi
      unfold bs at z1
      obtain ⟨X, hX⟩ : ∃ X : ByteArray, X = ⟨l[k].toArray⟩ := ⟨_, rfl⟩
      rw [← hX] at z1
      rw [show l[k] = X.toList by rw [hX, list_mk], ← HS.out] at hi
      have HI := Lib.hid hi
      clear hi hX
      cases hq : (X.toList == S.toList)
      · have HI2 := Lib.hid (show fidx (fun x => x == s) (l.drop (k + 1)) (k + 1) = fidx (fun x => x == s) l 0 by have := HI.out; rwa [if_neg (by rw [hq]; decide), HS.out] at this)
        clear HI
        go_wp2_with fail
        go_roundw
        case rel => exact ⟨k + 1, by omega, by go_num, HI2.out, trivial⟩
        case measure => simp only [intOf]; omega
      · have he := Lib.hid (show (k : Int) = fidx (fun x => x == s) l 0 by have := HI.out; rwa [if_pos hq, HS.out] at this)
        clear HI
        go_wp2_with fail
        go_ret
        exact ⟨ret_int he.out, rfl⟩
    · have he := Lib.hid (show fidx (fun x => x == s) l 0 = -1 by rw [← hi, List.drop_eq_nil_of_le (by have := HL.out; omega)]; rfl)
      clear hi
      go_wp2_with fail
      go_ret
      exact ⟨ret_int he.out.symm, rfl⟩

set_option maxRecDepth 100000 in
set_option maxHeartbeats 4000000 in
theorem many_r (G : Nat → Prop) (w : World) (vs : List Value) (g : Gm) (hG : ∀ k, G k → k < w.heap.size) (hg : GmV G w vs g) :
    Calls Tryz.prog 23 #[ag vs] w fun e w' => e = .returned (.bool (g.rules.any (fun r => decide (8 < r.2.length)) || decide (120 < g.terms.length) || decide (120 < g.nons.length) || decide (300 < g.rules.length))) ∧ Below w.heap.size w w' := by
  obtain ⟨A0, c0, A1, c1, A2, c2, rfl, hb, hx⟩ := GBox.start hG hg
  show Calls Tryz.prog 23 #[.agg #[.slice A0 g.terms.length c0, .slice A1 g.nons.length c1, .slice A2 g.rules.length c2, .int .i64 g.start]] w _
  generalize hW : w.alloc (.cells #[.slice A0 g.terms.length c0, .slice A1 g.nons.length c1, .slice A2 g.rules.length c2, .int .i64 g.start] 25) = W at *
  obtain ⟨x0, x1, x2, x3⟩ := hx.cells
  have HB := Lib.hid hb; have HX := Lib.hid hx
  clear hb hx hG hg
  have HL := Lib.hid HX.out.lens
  go_enter Tryz.func23, Tryz.ntmps23
  go_wp2
  go_loopw [3] (fun i wr => ∃ (k : Nat), k ≤ g.rules.length ∧ i = .int .i64 k ∧ (g.rules.drop k).any (fun r => decide (8 < r.2.length)) = g.rules.any (fun r => decide (8 < r.2.length)) ∧ wr = W) (fun i _ => g.rules.length - (intOf i).toNat)
  case atStart => exact ⟨0, by omega, rfl, rfl, rfl⟩
  case round =>
    obtain ⟨k, hk, rfl, hi, rfl⟩ := hrel
    by_cases hlt : k < g.rules.length
    · obtain ⟨bb, off, Ar, cr, rfl, z0, z1, zi⟩ := HX.out.rule hlt
      have hm := zi.len.2
      rw [drop_one g.rules k hlt, List.any_cons] at hi
      have HI := Lib.hid hi
      have hml := HL.out.2.2
      clear hi zi
      by_cases h8 : 8 < g.rules[k].2.length
      · have HI2 := Lib.hid (show g.rules.any (fun r => decide (8 < r.2.length)) = true by rw [← HI.out, decide_eq_true h8]; rfl)
        clear HI
        go_wp2_with fail
        go_ret
        exact ⟨by first | rfl | (simp [HI2.out]; done) | (rw [HI2.out]; rfl), HB.out⟩
      · have HI2 := Lib.hid (show (g.rules.drop (k + 1)).any (fun r => decide (8 < r.2.length)) = g.rules.any (fun r => decide (8 < r.2.length)) by rw [← HI.out, decide_eq_false h8, Bool.false_or])
        clear HI
        go_wp2_with fail
        go_roundw
        case rel => exact ⟨k + 1, by omega, by go_num, HI2.out, by first | rfl | trivial⟩
        case measure => simp only [intOf]; omega
    · have he := Lib.hid (show g.rules.any (fun r => decide (8 < r.2.length)) = false by rw [← hi, List.drop_eq_nil_of_le (by omega)]; rfl)
      clear hi
      have e1 := Lib.hid (dlt 120 g.terms.length); have e2 := Lib.hid (dlt 120 g.nons.length); have e3 := Lib.hid (dlt 300 g.rules.length)
      by_cases h1 : 120 < g.terms.length
      · go_wp2_with fail
        go_ret
        exact ⟨by first | rfl | (simp [he.out]; done), HB.out⟩
      by_cases h2 : 120 < g.nons.length
      · go_wp2_with fail
        go_ret
        exact ⟨by first | rfl | (simp [he.out]; done), HB.out⟩
      go_wp2_with fail
      go_ret
      exact ⟨ret_bool (by rw [he.out, Bool.false_or, ← e1.out, ← e2.out, ← e3.out]; rfl), HB.out⟩
end Go.Proofs.YtpidmmfjcghmeaaGreat
namespace Go.Proofs.YtpidmmfjcghmeaaGreat
open Go.RowKit
attribute [local go_sem ↓] wp_append_wr

section
variable {β : Type} [DecidableEq β] {l : List β} {i : Nat}
omit [DecidableEq β] in
theorem take_one (h : i < l.length) : l.take (i + 1) = l.take i ++ [l[i]] := by rw [List.take_append_getElem h]
omit [DecidableEq β] in
theorem nd_step (h : i < l.length) (hn : (l.take i).Nodup) (hm : l[i] ∉ l.take i) : (l.take (i + 1)).Nodup := by
  rw [take_one h, List.nodup_append]
  exact ⟨hn, by simp, fun a ha b hb e => by rw [List.mem_singleton] at hb; subst hb; subst e; exact hm ha⟩
omit [DecidableEq β] in
theorem nd_not (h : i < l.length) (hm : l[i] ∈ l.take i) : ¬ l.Nodup := fun hn => by
  have h1 : (l.take (i + 1)).Nodup := hn.sublist (List.take_sublist _ _)
  rw [take_one h, List.nodup_append] at h1
  exact h1.2.2 _ hm _ (by simp) rfl
omit [DecidableEq β] in
theorem not_mem_take_succ {x : β} {k : Nat} (h : k < l.length) (hm : x ∉ l.take k) (hx : ¬ x = l[k]) : x ∉ l.take (k + 1) := by
  rw [take_one h, List.mem_append, List.mem_singleton]
  exact fun h => h.elim hm hx
omit [DecidableEq β] in
theorem mem_take_of {x : β} {k i : Nat} (h : k < i) (hk : k < l.length) (hx : x = l[k]) : x ∈ l.take i := by
  rw [hx, List.mem_take_iff_getElem]
  exact ⟨k, by omega, rfl⟩
end
theorem up {W : World} {o : Obj} {k : Nat} {x : Obj} (h : W.heap[k]? = some x) : (W.alloc o).heap[k]? = some x := (Below.heap_alloc _ _ _ (Array.getElem?_eq_some_iff.1 h).1).trans h
/-- The numbers of the rules of a left side. -/
def ofR (s : Int) : List (Int × List Int) → Nat → List Int
  | [], _ => []
  | r :: l, k => if r.1 = s then (k : Int) :: ofR s l (k + 1) else ofR s l (k + 1)
theorem ofR_nil (s : Int) : ∀ (l : List (Int × List Int)) (k : Nat), ofR s l k = [] ↔ ∀ r ∈ l, r.1 ≠ s
  | [], _ => by simp [ofR]
  | r :: l, k => by
    rw [ofR]
    by_cases h : r.1 = s
    · rw [if_pos h]; simp [h]
    · rw [if_neg h, ofR_nil s l]; simp [h]
theorem ofR_len (s : Int) : ∀ (l : List (Int × List Int)) (k : Nat), (ofR s l k).length ≤ l.length
  | [], _ => Nat.le_refl _
  | r :: l, k => by
    rw [ofR]
    have := ofR_len s l (k + 1)
    split <;> simp <;> omega
theorem fidx_mem {β : Type} [BEq β] [LawfulBEq β] (l : List β) (s : β) (k : Nat) : (0 ≤ fidx (fun x => x == s) l k) ↔ s ∈ l := by
  have h := fidx_any (fun x => x == s) l k
  rw [Bool.eq_iff_iff, decide_eq_true_iff, List.any_eq_true] at h
  rw [h]
  simp

set_option maxRecDepth 100000 in
set_option maxHeartbeats 4000000 in
theorem samerule_r (G : Nat → Prop) (w : World) (vs us : List Value) (a b : Int × List Int) (hG : ∀ k, G k → k < w.heap.size) (ha : RuV G w vs a) (hb : RuV G w us b) :
    Calls Tryz.prog 73 #[ag vs, ag us] w fun e w' => e = .returned (.bool (decide (a = b))) ∧ Below w.heap.size w w' := by
  obtain ⟨Aa, ca, rfl, _, _⟩ := ha.shape
  obtain ⟨Ab, cb, rfl, _, _⟩ := hb.shape
  have hb1 : Below w.heap.size w (w.alloc (.cells #[.int .i64 a.1, .slice Aa a.2.length ca] 64)) := (Below.refl _ _).alloc (Nat.le_refl _) _
  have hb2 : Below w.heap.size w ((w.alloc (.cells #[.int .i64 a.1, .slice Aa a.2.length ca] 64)).alloc (.cells #[.int .i64 b.1, .slice Ab b.2.length cb] 64)) := hb1.alloc (by simp) _
  have q0 := up (heap_alloc_t w (.cells #[.int .i64 a.1, .slice Aa a.2.length ca] 64)) (o := .cells #[.int .i64 b.1, .slice Ab b.2.length cb] 64)
  have q1 := heap_alloc_t (w.alloc (.cells #[.int .i64 a.1, .slice Aa a.2.length ca] 64)) (.cells #[.int .i64 b.1, .slice Ab b.2.length cb] 64)
  rw [show (w.alloc (.cells #[.int .i64 a.1, .slice Aa a.2.length ca] 64)).heap.size = w.heap.size + 1 by simp] at q1
  show Calls Tryz.prog 73 #[.agg #[.int .i64 a.1, .slice Aa a.2.length ca], .agg #[.int .i64 b.1, .slice Ab b.2.length cb]] w _
  generalize hW : (w.alloc (.cells #[.int .i64 a.1, .slice Aa a.2.length ca] 64)).alloc (.cells #[.int .i64 b.1, .slice Ab b.2.length cb] 64) = W at *
  have y0 := cell_box q0 0 _ rfl; have y1 := cell_box q0 1 _ rfl
  have z0 := cell_box q1 0 _ rfl; have z1 := cell_box q1 1 _ rfl
  obtain ⟨va, ea, ia⟩ := ha
  injection ea with _ ea
  injection ea with ea _
  subst ea
  obtain ⟨vb, eb, ib⟩ := hb
  injection eb with _ eb
  injection eb with eb _
  subst eb
  have HI := Lib.hid (ints_r G W _ _ _ _ _ _ a.2 b.2 (IntsAt.below hG hb2 ia) (IntsAt.below hG hb2 ib))
  have HB := Lib.hid hb2
  have HE := Lib.hid (show decide (a = b) = (decide (a.1 = b.1) && decide (a.2 = b.2)) by rw [Bool.eq_iff_iff]; simp [Prod.ext_iff])
  clear hb1 hb2 q0 q1 ia ib hG
  obtain ⟨a1, a2⟩ := a
  obtain ⟨b1, b2⟩ := b
  dsimp only at *
  go_enter Tryz.func73, Tryz.ntmps73
  by_cases h1 : a1 = b1
  · subst h1
    go_wp2_with fail
    refine (HI.out).mono ?_
    rintro e w1 ⟨rfl, m, rfl⟩
    go_wp2_with fail
    go_ret
    exact ⟨ret_bool (by rw [HE.out]; simp), belowN HB.out m⟩
  · go_wp2_with fail
    go_ret
    exact ⟨by first | rfl | (rw [HE.out, decide_eq_false h1]; rfl), HB.out⟩

set_option maxRecDepth 100000 in
set_option maxHeartbeats 4000000 in
theorem of_r (G : Nat → Prop) (w : World) (vs : List Value) (g : Gm) (s : Int)(hG : ∀ k, G k → k < w.heap.size) (hg : GmV G w vs g) (hl : g.rules.length ≤ 1099511627775):
    Calls Tryz.prog 29 #[ag vs, .int .i64 s] w fun e w' => ∃ v, e = .returned v ∧ Ints w.heap.size w' v (ofR s g.rules 0) ∧ Below w.heap.size w w' := by
  obtain ⟨A0, c0, A1, c1, A2, c2, rfl, hb, hx⟩ := GBox.start hG hg
  show Calls Tryz.prog 29 #[.agg #[.slice A0 g.terms.length c0, .slice A1 g.nons.length c1, .slice A2 g.rules.length c2, .int .i64 g.start], .int .i64 s] w _
  generalize hW : w.alloc (.cells #[.slice A0 g.terms.length c0, .slice A1 g.nons.length c1, .slice A2 g.rules.length c2, .int .i64 g.start] 25) = W at *
  obtain ⟨x0, x1, x2, x3⟩ := hx.cells
  have HB := Lib.hid hb; have HX := Lib.hid hx
  clear hb hx hG hg
  go_enter Tryz.func29, Tryz.ntmps29
  go_wp2
  go_loopw [5, 6] (fun o i wr => ∃ (k : Nat) (l : List Int), k ≤ g.rules.length ∧ i = .int .i64 k ∧ Ints W.heap.size wr o l ∧ l.length ≤ k ∧ l ++ ofR s (g.rules.drop k) k = ofR s g.rules 0 ∧ Below W.heap.size W wr) (fun _ i _ => g.rules.length - (intOf i).toNat)
  case atStart => exact ⟨0, [], by omega, rfl, Nrow.nil _ _ _ _ _, by simp, rfl, Below.refl _ _⟩
  case round =>
    obtain ⟨k, l, hk, rfl, ho, hll, hi, hb⟩ := hrel
    obtain ⟨Ao, co, rfl⟩ := ho.shape
    have HO := Lib.hid ho; have HBR := Lib.hid hb
    have HXR := Lib.hid (HX.out.on hb)
    clear x0 x1 x2 x3
    obtain ⟨x0, x1, x2, x3⟩ := HXR.out.cells
    clear ho hb
    by_cases hlt : k < g.rules.length
    · obtain ⟨bb, off, Ar, cr, rfl, z0, z1, zi⟩ := HXR.out.rule hlt
      rw [drop_one _ k hlt, ofR] at hi
      clear zi
      by_cases hs : g.rules[k].1 = s
      · rw [if_pos hs] at hi
        obtain ⟨v', w', hrun, ho', hb'⟩ := HO.out.push (k : Int) (by omega) HBR.out.size
        have HO2 := Lib.hid ho'; have HB2 := Lib.hid hb'; have HI := Lib.hid hi
        clear ho' hb' hi
        subst hs
        go_wp2_with fail
        go_roundw
        case rel => exact ⟨k + 1, l ++ [(k : Int)], by omega, by go_num, HO2.out, by simp; omega, by rw [List.append_assoc]; exact HI.out, HBR.out.trans HB2.out⟩
        case measure => simp only [intOf]; omega
      · rw [if_neg hs] at hi
        have HI := Lib.hid hi
        clear hi
        go_wp2_with fail
        go_roundw
        case rel => exact ⟨k + 1, l, by omega, by go_num, HO.out, by omega, HI.out, HBR.out⟩
        case measure => simp only [intOf]; omega
    · have HE := Lib.hid (show ofR s g.rules 0 = l by rw [← hi, List.drop_eq_nil_of_le (by omega)]; simp [ofR])
      clear hi
      go_wp2_with fail
      go_ret
      exact ⟨_, rfl, by rw [HE.out]; exact Nrow.lower HO.out HB.out.size, HB.out.trans (HBR.out.mono HB.out.size)⟩

set_option maxRecDepth 100000 in
set_option maxHeartbeats 4000000 in
theorem unlike_r (G : Nat → Prop) (w : World) (vs : List Value) (g : Gm) (hG : ∀ k, G k → k < w.heap.size) (hg : GmV G w vs g) :
    Calls Tryz.prog 28 #[ag vs] w fun e w' => e = .returned (.bool (decide g.rules.Nodup)) ∧ Below w.heap.size w w' := by
  obtain ⟨A0, c0, A1, c1, A2, c2, rfl, hb, hx⟩ := GBox.start hG hg
  show Calls Tryz.prog 28 #[.agg #[.slice A0 g.terms.length c0, .slice A1 g.nons.length c1, .slice A2 g.rules.length c2, .int .i64 g.start]] w _
  generalize hW : w.alloc (.cells #[.slice A0 g.terms.length c0, .slice A1 g.nons.length c1, .slice A2 g.rules.length c2, .int .i64 g.start] 25) = W at *
  obtain ⟨x0, x1, x2, x3⟩ := hx.cells
  have HB := Lib.hid hb; have HX := Lib.hid hx
  clear hb hx hG hg
  have HL := Lib.hid HX.out.lens
  go_enter Tryz.func28, Tryz.ntmps28
  go_wp2
  go_loopw [3] (fun i wr => ∃ (k : Nat), k ≤ g.rules.length ∧ i = .int .i64 k ∧ (g.rules.take k).Nodup ∧ Below W.heap.size W wr) (fun i _ => g.rules.length - (intOf i).toNat)
  case atStart => exact ⟨0, by omega, rfl, by simp, Below.refl _ _⟩
  case round =>
    obtain ⟨k, hk, rfl, hi, hb⟩ := hrel
    have HBR := Lib.hid hb; have HI := Lib.hid hi
    have HXR := Lib.hid (HX.out.on hb)
    clear x0 x1 x2 x3
    obtain ⟨x0, x1, x2, x3⟩ := HXR.out.cells
    have hml := HL.out.2.2
    clear hb hi
    by_cases hlt : k < g.rules.length
    · go_wp2
      go_loopw [4] (fun i wr => ∃ (j : Nat), j ≤ k ∧ i = .int .i64 j ∧ g.rules[k] ∉ g.rules.take j ∧ Below W.heap.size W wr) (fun i _ => k - (intOf i).toNat)
      case atStart => exact ⟨0, by omega, rfl, by simp, HBR.out⟩
      case round =>
        obtain ⟨j, hj, rfl, hi, hb⟩ := hrel
        have HBQ := Lib.hid hb; have HJ := Lib.hid hi
        have HXQ := Lib.hid (HX.out.on hb)
        clear x0 x1 x2 x3
        obtain ⟨x0, x1, x2, x3⟩ := HXQ.out.cells
        clear hb hi
        by_cases hjk : j < k
        · have hjl : j < g.rules.length := by omega
          obtain ⟨bb, off, Ak, ck, eA, z0, z1, zi⟩ := HXQ.out.rule hlt
          obtain ⟨bb', off', Aj, cj, eA', y0, y1, yi⟩ := HXQ.out.rule hjl
          subst eA
          injection eA' with eA'
          injection eA' with e1 e2
          subst e1 e2
          have p := fun Y : Gr wr => Y.calls (samerule_r G Y.at_ [.int .i64 g.rules[k].1, .slice Ak g.rules[k].2.length ck] [.int .i64 g.rules[j].1, .slice Aj g.rules[j].2.length cj] g.rules[k] g.rules[j] (old_of HXQ.out.old Y.2) (RuV.below HXQ.out.old Y.2 ⟨_, rfl, zi⟩) (RuV.below HXQ.out.old Y.2 ⟨_, rfl, yi⟩))
          unfold ag at p
          have hq0 : (decide (g.rules[k] = g.rules[j]) = true → ¬ g.rules.Nodup) ∧ (decide (g.rules[k] = g.rules[j]) = false → g.rules[k] ∉ g.rules.take (j + 1)) :=
            ⟨fun h => nd_not hlt (mem_take_of hjk hjl (of_decide_eq_true h)), fun h => not_mem_take_succ hjl HJ.out (of_decide_eq_false h)⟩
          generalize decide (g.rules[k] = g.rules[j]) = q at p hq0
          have HQ := Lib.hid hq0
          clear hq0
          have f2 := fun Y : Gr wr => Y.cell _ _ x2
          have fk0 := fun Y : Gr wr => Y.cell _ _ z0; have fk1 := fun Y : Gr wr => Y.cell _ _ z1
          have fj0 := fun Y : Gr wr => Y.cell _ _ y0; have fj1 := fun Y : Gr wr => Y.cell _ _ y1
          have hne : Nonempty (Gr wr) := ⟨⟨_, Below.refl _ _⟩⟩
          clear zi yi z0 z1 y0 y1 x0 x1 x2 x3 HJ
          revert p HQ fk0 fk1 fj0 fj1
          generalize g.rules[k] = rk
          generalize g.rules[j] = rj
          obtain ⟨k1, k2⟩ := rk
          obtain ⟨j1, j2⟩ := rj
          dsimp only
          intro p HQ fk0 fk1 fj0 fj1
          go_wp2_with fail
          refine wp_region_class (S := Gr wr) Gr.at_ (by kernel_rfl) (by kernel_rfl) (Gr.drew _) ?_
          repeat (go_big_quiet_step (with_reducible exact p _))
          refine wpQuiet_nil ?_
          rintro wy ⟨⟨wy', hY⟩, hY2⟩
          obtain rfl : wy = wy' := hY2
          clear p f2 fk0 fk1 fj0 fj1 hne
          have HBY := Lib.hid (HBQ.out.trans (hY.mono HBQ.out.size))
          clear hY
          cases q
          · have he := Lib.hid (HQ.out.2 rfl)
            clear HQ
            go_wp2_with fail
            go_roundw
            case rel => exact ⟨j + 1, by omega, by go_num, he.out, HBY.out⟩
            case measure => simp only [intOf]; omega
          · have he := Lib.hid (decide_eq_false (HQ.out.1 rfl))
            clear HQ
            go_wp2_with fail
            go_ret
            exact ⟨by first | (rw [he.out]; done) | (rw [he.out]; rfl), HB.out.trans (HBY.out.mono HB.out.size)⟩
        · have he := Lib.hid (show (g.rules.take (k + 1)).Nodup by
            have hjk : j = k := by omega
            have := HJ.out
            rw [hjk] at this
            exact nd_step hlt HI.out this)
          go_wp2_with fail
          go_roundw
          case rel => exact ⟨k + 1, by omega, by go_num, he.out, HBQ.out⟩
          case measure => simp only [intOf]; omega
    · have he := Lib.hid (decide_eq_true (show g.rules.Nodup by have := HI.out; rwa [List.take_of_length_le (by omega)] at this))
      go_wp2_with fail
      go_ret
      exact ⟨by first | (rw [he.out]; done) | (rw [he.out]; rfl), HB.out.trans (HBR.out.mono HB.out.size)⟩
end Go.Proofs.YtpidmmfjcghmeaaGreat
namespace Go.Proofs.YtpidmmfjcghmeaaGreat
open Go.RowKit
attribute [local go_sem ↓] wp_append_wr

set_option maxRecDepth 100000 in
set_option maxHeartbeats 4000000 in
theorem names_r (G : Nat → Prop) (w : World) (vs : List Value) (g : Gm) (hG : ∀ k, G k → k < w.heap.size) (hg : GmV G w vs g) (hl : g.top ≤ 1099511627775):
    Calls Tryz.prog 26 #[ag vs] w fun e w' => ∃ v, e = .returned v ∧ Strs w.heap.size w' v g.names ∧ Below w.heap.size w w' := by
  obtain ⟨A0, c0, A1, c1, A2, c2, rfl, hb, hx⟩ := GBox.start hG hg
  show Calls Tryz.prog 26 #[.agg #[.slice A0 g.terms.length c0, .slice A1 g.nons.length c1, .slice A2 g.rules.length c2, .int .i64 g.start]] w _
  generalize hW : w.alloc (.cells #[.slice A0 g.terms.length c0, .slice A1 g.nons.length c1, .slice A2 g.rules.length c2, .int .i64 g.start] 25) = W at *
  obtain ⟨x0, x1, x2, x3⟩ := hx.cells
  have HB := Lib.hid hb; have HX := Lib.hid hx
  clear hb hx hG hg
  unfold Gm.top at hl
  have hba : Below W.heap.size W (W.drew.alloc (.cells #[] 9)) := ((Below.refl _ _).drew).alloc (by simp) _
  have hn0 : Strs W.heap.size (W.drew.alloc (.cells #[] 9)) (.slice (some ⟨W.heap.size, 0, none⟩) 0 0) [] := by
    have := Nrow.fresh (T := 9) (sz := 1) W.drew (B := W.heap.size) (by simp) StrV
    unfold Strs
    simpa using this
  obtain ⟨v1, w1, hr1, hs1, hb1⟩ := hn0.add (StrsAt.below HX.out.old hba HX.out.ht) (by simp; omega) hba.size
  rw [List.nil_append] at hs1
  obtain ⟨A3, c3, rfl⟩ := hs1.shape
  have hbb := hba.trans hb1
  obtain ⟨v2, w2, hr2, hs2, hb2⟩ := hs1.add (StrsAt.below HX.out.old hbb HX.out.hn) (by omega) hbb.size
  have y1 := box_keep x1 hbb
  have z0 := box_keep x0 hba; have z1 := box_keep x1 hba
  obtain ⟨A4, c4, rfl⟩ := hs2.shape
  rw [List.length_append] at hs2 hr2
  have HS2 := Lib.hid hs2; have HB2 := Lib.hid (hbb.trans hb2)
  rw [show W.drew.alloc (.cells #[] 9) = (W.alloc (.cells #[] 9)).drew from rfl] at hr1 z0 z1
  clear hn0 hs1 hs2 hb1 hb2 hba hbb HX
  go_enter Tryz.func26, Tryz.ntmps26
  go_wp2
  go_region
  go_wp2
  go_ret
  exact ⟨_, rfl, Nrow.lower HS2.out HB.out.size, HB.out.trans (HB2.out.mono HB.out.size)⟩

set_option maxRecDepth 100000 in
set_option maxHeartbeats 4000000 in
theorem once_r (G : Nat → Prop) (w : World) (A : Option Addr) (n c : Nat) (l : List (List UInt8)) (hG : ∀ k, G k → k < w.heap.size) (ha : StrsAt G w (.slice A n c) l) :
    Calls Tryz.prog 25 #[.slice A n c] w fun e w' => e = .returned (.bool (decide l.Nodup)) ∧ Below w.heap.size w w' := by
  have l1 := SlAt.len ha
  have HA := Lib.hid ha
  have hm := l1.2
  have HL := Lib.hid l1.1
  have HG := Lib.hid hG
  clear ha l1 hG
  go_enter Tryz.func25, Tryz.ntmps25
  go_wp2
  go_loopw [3] (fun i wr => ∃ (k : Nat), k ≤ n ∧ i = .int .i64 k ∧ (l.take k).Nodup ∧ Below w.heap.size w wr) (fun i _ => n - (intOf i).toNat)
  case atStart => exact ⟨0, by omega, rfl, by simp, Below.refl _ _⟩
  case round =>
    obtain ⟨k, hk, rfl, hi, hb⟩ := hrel
    have HBR := Lib.hid hb
    have HAR := Lib.hid (StrsAt.below HG.out hb HA.out)
    clear hb
    have HI := Lib.hid hi
    clear hi
    by_cases hlt : k < n
    · have hlt1 : k < l.length := by have := HL.out; omega
      obtain ⟨b1, o1, rfl, z1⟩ := HAR.out.get hlt1
      have hsub : StrsAt G wr (.slice (some ⟨b1, o1, none⟩) k c) (l.take k) := by
        obtain ⟨A', c', e, h2, h3, h4⟩ := HAR.out
        injection e with e1 e2 e3
        subst e1 e3
        refine ⟨_, _, by rw [List.length_take]; congr 1; omega, by rw [List.length_take]; omega, h3, fun hn => ?_⟩
        obtain ⟨b, off, e, hg, hel⟩ := h4 (by omega)
        refine ⟨b, off, e, hg, fun i hi => ?_⟩
        rw [List.length_take] at hi
        obtain ⟨vs, h5, h6, h7⟩ := hel i (by omega)
        exact ⟨vs, h5, by rw [List.getElem_take]; exact h6, h7⟩
      have hq0 : (decide (0 ≤ fidx (fun x => x == l[k]) (l.take k) 0) = true → ¬ l.Nodup) ∧ (decide (0 ≤ fidx (fun x => x == l[k]) (l.take k) 0) = false → (l.take (k + 1)).Nodup) :=
        ⟨fun h => nd_not hlt1 ((fidx_mem _ _ _).1 (of_decide_eq_true h)), fun h => nd_step hlt1 HI.out (fun hm => of_decide_eq_false h ((fidx_mem _ _ _).2 hm))⟩
      have p := fun Y : Gr wr => Y.calls ((place_r G Y.at_ _ _ _ _ l[k] (StrsAt.below (old_of HG.out HBR.out) Y.2 hsub)).mono fun _ w' h => (⟨h.1, h.2 ▸ Below.refl _ _⟩ : _ ∧ Below Y.at_.heap.size Y.at_ w'))
      have f1 := fun Y : Gr wr => Y.cell _ _ z1
      have hne : Nonempty (Gr wr) := ⟨⟨_, Below.refl _ _⟩⟩
      have HQ := Lib.hid hq0
      clear hq0 hsub z1
      revert p HQ f1
      generalize fidx (fun x => x == l[k]) (l.take k) 0 = r
      generalize l[k] = x
      unfold bs
      intro p f1 HQ
      have hk0 : (0 : Int) ≤ (k : Int) := by omega
      have hk1 : (k : Int) ≤ (c : Int) := by have := HL.out; have := HA.out; obtain ⟨_, c', e, h2, _⟩ := this; injection e with _ _ e; omega
      have hk2 : k ≤ c := by omega
      go_wp2_with fail
      refine wp_region_class (S := Gr wr) Gr.at_ (by kernel_rfl) (by kernel_rfl) (Gr.drew _) ?_
      repeat (go_big_quiet_step (with_reducible exact p _))
      refine wpQuiet_nil ?_
      rintro wy ⟨⟨wy', hY⟩, hY2⟩
      obtain rfl : wy = wy' := hY2
      have HBY := Lib.hid (HBR.out.trans (hY.mono HBR.out.size))
      clear p f1 hne hY
      cases hr : decide (0 ≤ r)
      · have he := Lib.hid (HQ.out.2 hr)
        have hr2 := of_decide_eq_false hr
        clear hr HQ
        go_wp2_with fail
        go_roundw
        case rel => exact ⟨k + 1, by omega, by go_num, he.out, HBY.out⟩
        case measure => simp only [intOf]; omega
      · have he := Lib.hid (decide_eq_false (HQ.out.1 hr))
        have hr2 := of_decide_eq_true hr
        clear hr HQ
        go_wp2_with fail
        go_ret
        exact ⟨by first | (rw [he.out]; done) | (rw [he.out]; rfl), HBY.out⟩
    · have he := Lib.hid (decide_eq_true (show l.Nodup by have := HI.out; rwa [List.take_of_length_le (by have := HL.out; omega)] at this))
      go_wp2_with fail
      go_ret
      exact ⟨by first | (rw [he.out]; done) | (rw [he.out]; rfl), HBR.out⟩
end Go.Proofs.YtpidmmfjcghmeaaGreat
