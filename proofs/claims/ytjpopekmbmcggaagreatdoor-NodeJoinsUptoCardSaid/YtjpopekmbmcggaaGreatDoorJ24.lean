/- Towards nodeJoins_card: NdEq. Merged from smaller texts by a program of the author's. -/
import Derived.Test.YtjpopekmbmcggaaGreatDoorJ20
import Derived.Test.YtjpopekmbmcggaaGreatDoorJ16
namespace Go.Proofs.YtjpopekmbmcggaaGreatDoor
open Go.RowKit
theorem all2_len {α β : Type} (p : α → β → Bool) : ∀ (l : List α) (m : List β), all2 p l m = true → l.length = m.length
  | [], [], _ => rfl
  | _ :: l, _ :: m, h => by
    rw [all2, Bool.and_eq_true] at h
    rw [List.length_cons, List.length_cons, all2_len p l m h.2]
  | [], _ :: _, h => by simp [all2] at h
  | _ :: _, [], h => by simp [all2] at h
theorem all2_ne {α β : Type} (p : α → β → Bool) (l : List α) (m : List β) (h : ¬ l.length = m.length) : all2 p l m = false := by
  cases hs : all2 p l m
  · rfl
  · exact absurd (all2_len p l m hs) h
theorem all2_drop {α β : Type} (p : α → β → Bool) (l : List α) (m : List β) (k : Nat) (h : k < l.length) (h2 : k < m.length) : all2 p (l.drop k) (m.drop k) = (p l[k] m[k] && all2 p (l.drop (k + 1)) (m.drop (k + 1))) := by
  rw [drop_one l k h, drop_one m k h2, all2]
theorem all2_end {α β : Type} (p : α → β → Bool) (l : List α) (m : List β) (k : Nat) (h : l.length ≤ k) (h2 : m.length ≤ k) : all2 p (l.drop k) (m.drop k) = true := by
  rw [List.drop_eq_nil_of_le h, List.drop_eq_nil_of_le h2, all2]
def FnEq {β : Type} (R : World → List Value → β → Prop) (w : World) (fn : Nat) (p : β → β → Bool) : Prop :=
  ∀ X, Below w.heap.size w X → ∀ vs vs' x y, R X vs x → R X vs' y → Calls Tryz.prog fn #[ag vs, ag vs'] X fun e w' => e = .returned (.bool (p x y)) ∧ Below X.heap.size X w'
set_option maxRecDepth 100000 in
set_option maxHeartbeats 8000000 in
theorem eqf_word (f : Nat) (G : Nat → Prop) (fn : Nat) (p : WdF (Nd f) → WdF (Nd f) → Bool) (v v' : Value) (xs ys : List (WdF (Nd f))) (w : World) (hG : ∀ k, G k → k < w.heap.size) (hs : SlAt G w 1 (WdN f G w) v xs) (hs' : SlAt G w 1 (WdN f G w) v' ys) (hent : Enters fn) (hst : FnEq (WdN f G) w fn p) :
    Calls Tryz.prog 61 #[v, v', .func (.func fn) #[] #[]] w fun e w' => e = .returned (.bool (all2 p xs ys)) ∧ Below w.heap.size w w' := by
  obtain ⟨A, c, rfl, hl, hm, hc⟩ := hs
  obtain ⟨A', c', rfl, hl', hm', hc'⟩ := hs'
  unfold maxLen at hm hm'
  have HC := Lib.hid hc; have HC' := Lib.hid hc'; have HG := Lib.hid hG; have HE := Lib.hid hent; have HST := Lib.hid hst
  clear hc hc' hG hent hst
  by_cases hll : xs.length = ys.length
  · have HLL := Lib.hid hll
    rw [← hll] at hl' ⊢
    clear hll
    go_enter Tryz.func61, Tryz.ntmps61
    go_wp2_with fail
    go_loopw [17] (fun i wr => ∃ (k : Nat), k ≤ xs.length ∧ i = .int .i64 k ∧ all2 p (xs.drop k) (ys.drop k) = all2 p xs ys ∧ Below w.heap.size w wr) (fun i _ => xs.length - (intOf i).toNat)
    case atStart => exact ⟨0, by omega, rfl, rfl, Below.refl _ _⟩
    case round =>
      obtain ⟨k, hk, rfl, hf, hb⟩ := hrel
      have HF := Lib.hid hf; have HB := Lib.hid hb
      clear hf
      by_cases hlt : k < xs.length
      · have hlt' : k < ys.length := by rw [← HLL.out]; exact hlt
        obtain ⟨b, off, rfl, hg, hel⟩ := HC.out (by omega)
        obtain ⟨b', off', rfl, hg', hel'⟩ := HC'.out (by omega)
        obtain ⟨vs, hvl, hR, hcell⟩ := hel k hlt
        obtain ⟨vs', hvl', hR', hcell'⟩ := hel' k hlt'
        have hRr := hR.below HG.out hb
        have hRr' := hR'.below HG.out hb
        obtain ⟨A0, n0, c0, rfl⟩ := hRr.shape
        obtain ⟨B0, m0, e0, rfl⟩ := hRr'.shape
        have hb1 : Below wr.heap.size wr (wr.alloc (.cells #[.slice A0 n0 c0] 31)) := (Below.refl _ _).alloc (Nat.le_refl _) _
        have hb2 := hb1.alloc hb1.size (.cells #[.slice B0 m0 e0] 31)
        have z := fun j u hj => (keep_of HG.out hb _ hg).trans (hcell j u hj)
        have z2 := fun j u hj => (keep_of (old_of HG.out hb) hb1 _ hg').trans ((keep_of HG.out hb _ hg').trans (hcell' j u hj))
        have d0 : wr.cell? ⟨b, off + k, none⟩ = some (.slice A0 n0 c0) := by simpa using z 0 _ rfl
        have g0 : (wr.alloc (.cells #[.slice A0 n0 c0] 31)).cell? ⟨b', off' + k, none⟩ = some (.slice B0 m0 e0) := by simpa using z2 0 _ rfl
        obtain ⟨hbe0, hbe1⟩ := two_blocks wr (.cells #[.slice A0 n0 c0] 31) (.cells #[.slice B0 m0 e0] 31)
        have x0 : ((wr.alloc (.cells #[.slice A0 n0 c0] 31)).alloc (.cells #[.slice B0 m0 e0] 31)).cell? ⟨wr.heap.size, 0, none⟩ = some (.slice A0 n0 c0) := box_at hbe0 _ (Below.refl _ _) 0 _ rfl
        have y0 : ((wr.alloc (.cells #[.slice A0 n0 c0] 31)).alloc (.cells #[.slice B0 m0 e0] 31)).cell? ⟨wr.heap.size + 1, 0, none⟩ = some (.slice B0 m0 e0) := box_at hbe1 _ (Below.refl _ _) 0 _ rfl
        have HX := Lib.hid (HST.out _ (hb.trans (hb2.mono hb.size)) _ _ _ _ (hRr.below (old_of HG.out hb) hb2) (hRr'.below (old_of HG.out hb) hb2))
        have HB2 := Lib.hid (hb.trans (hb2.mono hb.size))
        have HD := Lib.hid (all2_drop p xs ys k hlt hlt')
        clear z z2 hel hel' hcell hcell' hvl hvl' hR hR' hRr hRr' hg hg' hb hb1 hb2 hbe0 hbe1
        go_wp2_with fail
        rw [HE.out, Oper.upon_enter]
        refine HX.out.mono ?_
        rintro e w1 ⟨he, hb3⟩
        have HB3 := Lib.hid (HB2.out.trans (hb3.mono HB2.out.size))
        clear hb3 x0 y0 d0 g0
        cases hq : p xs[k] ys[k]
        · rw [hq] at he
          subst he
          have HQ := Lib.hid hq
          clear hq
          go_wp2_with fail
          go_ret
          exact ⟨ret_bool (by rw [← HF.out, HD.out, HQ.out]; rfl), HB3.out⟩
        · rw [hq] at he
          subst he
          have HQ := Lib.hid hq
          clear hq
          go_wp2_with fail
          go_roundw
          case rel => exact ⟨k + 1, by omega, by go_num, by rw [← HF.out, HD.out, HQ.out]; rfl, HB3.out⟩
          case measure => simp only [intOf]; omega
      · have HE2 := Lib.hid (all2_end p xs ys k (by omega) (by rw [← HLL.out]; omega))
        clear hb
        go_wp2_with fail
        go_ret
        exact ⟨ret_bool (by rw [← HF.out, HE2.out]), HB.out⟩
  · have HLL := Lib.hid (all2_ne p xs ys hll)
    have h1 : ((xs.length : Int) != (ys.length : Int)) = true := bne_iff_ne.2 (by omega)
    have h2 : (xs.length != ys.length) = true := bne_iff_ne.2 hll
    go_enter Tryz.func61, Tryz.ntmps61
    go_wp2_with fail
    go_ret
    exact ⟨ret_bool (by rw [HLL.out]), Below.refl _ _⟩
set_option maxRecDepth 100000 in
set_option maxHeartbeats 8000000 in
theorem eqf_redir (f : Nat) (G : Nat → Prop) (fn : Nat) (p : RdF (Nd f) → RdF (Nd f) → Bool) (v v' : Value) (xs ys : List (RdF (Nd f))) (w : World) (hG : ∀ k, G k → k < w.heap.size) (hs : SlAt G w 4 (RdN f G w) v xs) (hs' : SlAt G w 4 (RdN f G w) v' ys) (hent : Enters fn) (hst : FnEq (RdN f G) w fn p) :
    Calls Tryz.prog 63 #[v, v', .func (.func fn) #[] #[]] w fun e w' => e = .returned (.bool (all2 p xs ys)) ∧ Below w.heap.size w w' := by
  obtain ⟨A, c, rfl, hl, hm, hc⟩ := hs
  obtain ⟨A', c', rfl, hl', hm', hc'⟩ := hs'
  unfold maxLen at hm hm'
  have HC := Lib.hid hc; have HC' := Lib.hid hc'; have HG := Lib.hid hG; have HE := Lib.hid hent; have HST := Lib.hid hst
  clear hc hc' hG hent hst
  by_cases hll : xs.length = ys.length
  · have HLL := Lib.hid hll
    rw [← hll] at hl' ⊢
    clear hll
    go_enter Tryz.func63, Tryz.ntmps63
    go_wp2_with fail
    go_loopw [17] (fun i wr => ∃ (k : Nat), k ≤ xs.length ∧ i = .int .i64 k ∧ all2 p (xs.drop k) (ys.drop k) = all2 p xs ys ∧ Below w.heap.size w wr) (fun i _ => xs.length - (intOf i).toNat)
    case atStart => exact ⟨0, by omega, rfl, rfl, Below.refl _ _⟩
    case round =>
      obtain ⟨k, hk, rfl, hf, hb⟩ := hrel
      have HF := Lib.hid hf; have HB := Lib.hid hb
      clear hf
      by_cases hlt : k < xs.length
      · have hlt' : k < ys.length := by rw [← HLL.out]; exact hlt
        obtain ⟨b, off, rfl, hg, hel⟩ := HC.out (by omega)
        obtain ⟨b', off', rfl, hg', hel'⟩ := HC'.out (by omega)
        obtain ⟨vs, hvl, hR, hcell⟩ := hel k hlt
        obtain ⟨vs', hvl', hR', hcell'⟩ := hel' k hlt'
        have hRr := hR.below HG.out hb
        have hRr' := hR'.below HG.out hb
        obtain ⟨s, o, A2, n2, c2, sh, rfl⟩ := hRr.shape
        obtain ⟨sx, ox, B2, m2, e2, shx, rfl⟩ := hRr'.shape
        have hb1 : Below wr.heap.size wr (wr.alloc (.cells #[.string s, .int .i64 o, .slice A2 n2 c2, .string sh] 33)) := (Below.refl _ _).alloc (Nat.le_refl _) _
        have hb2 := hb1.alloc hb1.size (.cells #[.string sx, .int .i64 ox, .slice B2 m2 e2, .string shx] 33)
        have z := fun j u hj => (keep_of HG.out hb _ hg).trans (hcell j u hj)
        have z2 := fun j u hj => (keep_of (old_of HG.out hb) hb1 _ hg').trans ((keep_of HG.out hb _ hg').trans (hcell' j u hj))
        have d0 : wr.cell? ⟨b, off + k * 4, none⟩ = some (.string s) := by simpa using z 0 _ rfl
        have d1 : wr.cell? ⟨b, off + k * 4 + 1, none⟩ = some (.int .i64 o) := by simpa using z 1 _ rfl
        have d2 : wr.cell? ⟨b, off + k * 4 + 2, none⟩ = some (.slice A2 n2 c2) := by simpa using z 2 _ rfl
        have d3 : wr.cell? ⟨b, off + k * 4 + 3, none⟩ = some (.string sh) := by simpa using z 3 _ rfl
        have g0 : (wr.alloc (.cells #[.string s, .int .i64 o, .slice A2 n2 c2, .string sh] 33)).cell? ⟨b', off' + k * 4, none⟩ = some (.string sx) := by simpa using z2 0 _ rfl
        have g1 : (wr.alloc (.cells #[.string s, .int .i64 o, .slice A2 n2 c2, .string sh] 33)).cell? ⟨b', off' + k * 4 + 1, none⟩ = some (.int .i64 ox) := by simpa using z2 1 _ rfl
        have g2 : (wr.alloc (.cells #[.string s, .int .i64 o, .slice A2 n2 c2, .string sh] 33)).cell? ⟨b', off' + k * 4 + 2, none⟩ = some (.slice B2 m2 e2) := by simpa using z2 2 _ rfl
        have g3 : (wr.alloc (.cells #[.string s, .int .i64 o, .slice A2 n2 c2, .string sh] 33)).cell? ⟨b', off' + k * 4 + 3, none⟩ = some (.string shx) := by simpa using z2 3 _ rfl
        obtain ⟨hbe0, hbe1⟩ := two_blocks wr (.cells #[.string s, .int .i64 o, .slice A2 n2 c2, .string sh] 33) (.cells #[.string sx, .int .i64 ox, .slice B2 m2 e2, .string shx] 33)
        have x0 : ((wr.alloc (.cells #[.string s, .int .i64 o, .slice A2 n2 c2, .string sh] 33)).alloc (.cells #[.string sx, .int .i64 ox, .slice B2 m2 e2, .string shx] 33)).cell? ⟨wr.heap.size, 0, none⟩ = some (.string s) := box_at hbe0 _ (Below.refl _ _) 0 _ rfl
        have x1 : ((wr.alloc (.cells #[.string s, .int .i64 o, .slice A2 n2 c2, .string sh] 33)).alloc (.cells #[.string sx, .int .i64 ox, .slice B2 m2 e2, .string shx] 33)).cell? ⟨wr.heap.size, 1, none⟩ = some (.int .i64 o) := box_at hbe0 _ (Below.refl _ _) 1 _ rfl
        have x2 : ((wr.alloc (.cells #[.string s, .int .i64 o, .slice A2 n2 c2, .string sh] 33)).alloc (.cells #[.string sx, .int .i64 ox, .slice B2 m2 e2, .string shx] 33)).cell? ⟨wr.heap.size, 2, none⟩ = some (.slice A2 n2 c2) := box_at hbe0 _ (Below.refl _ _) 2 _ rfl
        have x3 : ((wr.alloc (.cells #[.string s, .int .i64 o, .slice A2 n2 c2, .string sh] 33)).alloc (.cells #[.string sx, .int .i64 ox, .slice B2 m2 e2, .string shx] 33)).cell? ⟨wr.heap.size, 3, none⟩ = some (.string sh) := box_at hbe0 _ (Below.refl _ _) 3 _ rfl
        have y0 : ((wr.alloc (.cells #[.string s, .int .i64 o, .slice A2 n2 c2, .string sh] 33)).alloc (.cells #[.string sx, .int .i64 ox, .slice B2 m2 e2, .string shx] 33)).cell? ⟨wr.heap.size + 1, 0, none⟩ = some (.string sx) := box_at hbe1 _ (Below.refl _ _) 0 _ rfl
        have y1 : ((wr.alloc (.cells #[.string s, .int .i64 o, .slice A2 n2 c2, .string sh] 33)).alloc (.cells #[.string sx, .int .i64 ox, .slice B2 m2 e2, .string shx] 33)).cell? ⟨wr.heap.size + 1, 1, none⟩ = some (.int .i64 ox) := box_at hbe1 _ (Below.refl _ _) 1 _ rfl
        have y2 : ((wr.alloc (.cells #[.string s, .int .i64 o, .slice A2 n2 c2, .string sh] 33)).alloc (.cells #[.string sx, .int .i64 ox, .slice B2 m2 e2, .string shx] 33)).cell? ⟨wr.heap.size + 1, 2, none⟩ = some (.slice B2 m2 e2) := box_at hbe1 _ (Below.refl _ _) 2 _ rfl
        have y3 : ((wr.alloc (.cells #[.string s, .int .i64 o, .slice A2 n2 c2, .string sh] 33)).alloc (.cells #[.string sx, .int .i64 ox, .slice B2 m2 e2, .string shx] 33)).cell? ⟨wr.heap.size + 1, 3, none⟩ = some (.string shx) := box_at hbe1 _ (Below.refl _ _) 3 _ rfl
        have HX := Lib.hid (HST.out _ (hb.trans (hb2.mono hb.size)) _ _ _ _ (hRr.below (old_of HG.out hb) hb2) (hRr'.below (old_of HG.out hb) hb2))
        have HB2 := Lib.hid (hb.trans (hb2.mono hb.size))
        have HD := Lib.hid (all2_drop p xs ys k hlt hlt')
        clear z z2 hel hel' hcell hcell' hvl hvl' hR hR' hRr hRr' hg hg' hb hb1 hb2 hbe0 hbe1
        go_wp2_with fail
        rw [HE.out, Oper.upon_enter]
        refine HX.out.mono ?_
        rintro e w1 ⟨he, hb3⟩
        have HB3 := Lib.hid (HB2.out.trans (hb3.mono HB2.out.size))
        clear hb3 x0 y0 d0 g0 x1 y1 d1 g1 x2 y2 d2 g2 x3 y3 d3 g3
        cases hq : p xs[k] ys[k]
        · rw [hq] at he
          subst he
          have HQ := Lib.hid hq
          clear hq
          go_wp2_with fail
          go_ret
          exact ⟨ret_bool (by rw [← HF.out, HD.out, HQ.out]; rfl), HB3.out⟩
        · rw [hq] at he
          subst he
          have HQ := Lib.hid hq
          clear hq
          go_wp2_with fail
          go_roundw
          case rel => exact ⟨k + 1, by omega, by go_num, by rw [← HF.out, HD.out, HQ.out]; rfl, HB3.out⟩
          case measure => simp only [intOf]; omega
      · have HE2 := Lib.hid (all2_end p xs ys k (by omega) (by rw [← HLL.out]; omega))
        clear hb
        go_wp2_with fail
        go_ret
        exact ⟨ret_bool (by rw [← HF.out, HE2.out]), HB.out⟩
  · have HLL := Lib.hid (all2_ne p xs ys hll)
    have h1 : ((xs.length : Int) != (ys.length : Int)) = true := bne_iff_ne.2 (by omega)
    have h2 : (xs.length != ys.length) = true := bne_iff_ne.2 hll
    go_enter Tryz.func63, Tryz.ntmps63
    go_wp2_with fail
    go_ret
    exact ⟨ret_bool (by rw [HLL.out]), Below.refl _ _⟩
set_option maxRecDepth 100000 in
set_option maxHeartbeats 8000000 in
theorem eqf_node (f : Nat) (G : Nat → Prop) (fn : Nat) (p : Nd f → Nd f → Bool) (v v' : Value) (xs ys : List (Nd f)) (w : World) (hG : ∀ k, G k → k < w.heap.size) (hs : SlAt G w 10 (NdV f G w) v xs) (hs' : SlAt G w 10 (NdV f G w) v' ys) (hent : Enters fn) (hst : FnEq (NdV f G) w fn p) :
    Calls Tryz.prog 67 #[v, v', .func (.func fn) #[] #[]] w fun e w' => e = .returned (.bool (all2 p xs ys)) ∧ Below w.heap.size w w' := by
  obtain ⟨A, c, rfl, hl, hm, hc⟩ := hs
  obtain ⟨A', c', rfl, hl', hm', hc'⟩ := hs'
  unfold maxLen at hm hm'
  have HC := Lib.hid hc; have HC' := Lib.hid hc'; have HG := Lib.hid hG; have HE := Lib.hid hent; have HST := Lib.hid hst
  clear hc hc' hG hent hst
  by_cases hll : xs.length = ys.length
  · have HLL := Lib.hid hll
    rw [← hll] at hl' ⊢
    clear hll
    go_enter Tryz.func67, Tryz.ntmps67
    go_wp2_with fail
    go_loopw [17] (fun i wr => ∃ (k : Nat), k ≤ xs.length ∧ i = .int .i64 k ∧ all2 p (xs.drop k) (ys.drop k) = all2 p xs ys ∧ Below w.heap.size w wr) (fun i _ => xs.length - (intOf i).toNat)
    case atStart => exact ⟨0, by omega, rfl, rfl, Below.refl _ _⟩
    case round =>
      obtain ⟨k, hk, rfl, hf, hb⟩ := hrel
      have HF := Lib.hid hf; have HB := Lib.hid hb
      clear hf
      by_cases hlt : k < xs.length
      · have hlt' : k < ys.length := by rw [← HLL.out]; exact hlt
        obtain ⟨b, off, rfl, hg, hel⟩ := HC.out (by omega)
        obtain ⟨b', off', rfl, hg', hel'⟩ := HC'.out (by omega)
        obtain ⟨vs, hvl, hR, hcell⟩ := hel k hlt
        obtain ⟨vs', hvl', hR', hcell'⟩ := hel' k hlt'
        have hRr := hR.below HG.out hb
        have hRr' := hR'.below HG.out hb
        obtain ⟨ky, s, nt, ni, A4, n4, c4, A5, n5, c5, A6, n6, c6, A7, n7, c7, A8, n8, c8, A9, n9, c9, rfl⟩ := hRr.shape
        obtain ⟨kyx, sx, ntx, nix, B4, m4, e4, B5, m5, e5, B6, m6, e6, B7, m7, e7, B8, m8, e8, B9, m9, e9, rfl⟩ := hRr'.shape
        have hb1 : Below wr.heap.size wr (wr.alloc (.cells #[.int .i64 ky, .string s, .bool nt, .bool ni, .slice A4 n4 c4, .slice A5 n5 c5, .slice A6 n6 c6, .slice A7 n7 c7, .slice A8 n8 c8, .slice A9 n9 c9] 28)) := (Below.refl _ _).alloc (Nat.le_refl _) _
        have hb2 := hb1.alloc hb1.size (.cells #[.int .i64 kyx, .string sx, .bool ntx, .bool nix, .slice B4 m4 e4, .slice B5 m5 e5, .slice B6 m6 e6, .slice B7 m7 e7, .slice B8 m8 e8, .slice B9 m9 e9] 28)
        have z := fun j u hj => (keep_of HG.out hb _ hg).trans (hcell j u hj)
        have z2 := fun j u hj => (keep_of (old_of HG.out hb) hb1 _ hg').trans ((keep_of HG.out hb _ hg').trans (hcell' j u hj))
        have d0 : wr.cell? ⟨b, off + k * 10, none⟩ = some (.int .i64 ky) := by simpa using z 0 _ rfl
        have d1 : wr.cell? ⟨b, off + k * 10 + 1, none⟩ = some (.string s) := by simpa using z 1 _ rfl
        have d2 : wr.cell? ⟨b, off + k * 10 + 2, none⟩ = some (.bool nt) := by simpa using z 2 _ rfl
        have d3 : wr.cell? ⟨b, off + k * 10 + 3, none⟩ = some (.bool ni) := by simpa using z 3 _ rfl
        have d4 : wr.cell? ⟨b, off + k * 10 + 4, none⟩ = some (.slice A4 n4 c4) := by simpa using z 4 _ rfl
        have d5 : wr.cell? ⟨b, off + k * 10 + 5, none⟩ = some (.slice A5 n5 c5) := by simpa using z 5 _ rfl
        have d6 : wr.cell? ⟨b, off + k * 10 + 6, none⟩ = some (.slice A6 n6 c6) := by simpa using z 6 _ rfl
        have d7 : wr.cell? ⟨b, off + k * 10 + 7, none⟩ = some (.slice A7 n7 c7) := by simpa using z 7 _ rfl
        have d8 : wr.cell? ⟨b, off + k * 10 + 8, none⟩ = some (.slice A8 n8 c8) := by simpa using z 8 _ rfl
        have d9 : wr.cell? ⟨b, off + k * 10 + 9, none⟩ = some (.slice A9 n9 c9) := by simpa using z 9 _ rfl
        have g0 : (wr.alloc (.cells #[.int .i64 ky, .string s, .bool nt, .bool ni, .slice A4 n4 c4, .slice A5 n5 c5, .slice A6 n6 c6, .slice A7 n7 c7, .slice A8 n8 c8, .slice A9 n9 c9] 28)).cell? ⟨b', off' + k * 10, none⟩ = some (.int .i64 kyx) := by simpa using z2 0 _ rfl
        have g1 : (wr.alloc (.cells #[.int .i64 ky, .string s, .bool nt, .bool ni, .slice A4 n4 c4, .slice A5 n5 c5, .slice A6 n6 c6, .slice A7 n7 c7, .slice A8 n8 c8, .slice A9 n9 c9] 28)).cell? ⟨b', off' + k * 10 + 1, none⟩ = some (.string sx) := by simpa using z2 1 _ rfl
        have g2 : (wr.alloc (.cells #[.int .i64 ky, .string s, .bool nt, .bool ni, .slice A4 n4 c4, .slice A5 n5 c5, .slice A6 n6 c6, .slice A7 n7 c7, .slice A8 n8 c8, .slice A9 n9 c9] 28)).cell? ⟨b', off' + k * 10 + 2, none⟩ = some (.bool ntx) := by simpa using z2 2 _ rfl
        have g3 : (wr.alloc (.cells #[.int .i64 ky, .string s, .bool nt, .bool ni, .slice A4 n4 c4, .slice A5 n5 c5, .slice A6 n6 c6, .slice A7 n7 c7, .slice A8 n8 c8, .slice A9 n9 c9] 28)).cell? ⟨b', off' + k * 10 + 3, none⟩ = some (.bool nix) := by simpa using z2 3 _ rfl
        have g4 : (wr.alloc (.cells #[.int .i64 ky, .string s, .bool nt, .bool ni, .slice A4 n4 c4, .slice A5 n5 c5, .slice A6 n6 c6, .slice A7 n7 c7, .slice A8 n8 c8, .slice A9 n9 c9] 28)).cell? ⟨b', off' + k * 10 + 4, none⟩ = some (.slice B4 m4 e4) := by simpa using z2 4 _ rfl
        have g5 : (wr.alloc (.cells #[.int .i64 ky, .string s, .bool nt, .bool ni, .slice A4 n4 c4, .slice A5 n5 c5, .slice A6 n6 c6, .slice A7 n7 c7, .slice A8 n8 c8, .slice A9 n9 c9] 28)).cell? ⟨b', off' + k * 10 + 5, none⟩ = some (.slice B5 m5 e5) := by simpa using z2 5 _ rfl
        have g6 : (wr.alloc (.cells #[.int .i64 ky, .string s, .bool nt, .bool ni, .slice A4 n4 c4, .slice A5 n5 c5, .slice A6 n6 c6, .slice A7 n7 c7, .slice A8 n8 c8, .slice A9 n9 c9] 28)).cell? ⟨b', off' + k * 10 + 6, none⟩ = some (.slice B6 m6 e6) := by simpa using z2 6 _ rfl
        have g7 : (wr.alloc (.cells #[.int .i64 ky, .string s, .bool nt, .bool ni, .slice A4 n4 c4, .slice A5 n5 c5, .slice A6 n6 c6, .slice A7 n7 c7, .slice A8 n8 c8, .slice A9 n9 c9] 28)).cell? ⟨b', off' + k * 10 + 7, none⟩ = some (.slice B7 m7 e7) := by simpa using z2 7 _ rfl
        have g8 : (wr.alloc (.cells #[.int .i64 ky, .string s, .bool nt, .bool ni, .slice A4 n4 c4, .slice A5 n5 c5, .slice A6 n6 c6, .slice A7 n7 c7, .slice A8 n8 c8, .slice A9 n9 c9] 28)).cell? ⟨b', off' + k * 10 + 8, none⟩ = some (.slice B8 m8 e8) := by simpa using z2 8 _ rfl
        have g9 : (wr.alloc (.cells #[.int .i64 ky, .string s, .bool nt, .bool ni, .slice A4 n4 c4, .slice A5 n5 c5, .slice A6 n6 c6, .slice A7 n7 c7, .slice A8 n8 c8, .slice A9 n9 c9] 28)).cell? ⟨b', off' + k * 10 + 9, none⟩ = some (.slice B9 m9 e9) := by simpa using z2 9 _ rfl
        obtain ⟨hbe0, hbe1⟩ := two_blocks wr (.cells #[.int .i64 ky, .string s, .bool nt, .bool ni, .slice A4 n4 c4, .slice A5 n5 c5, .slice A6 n6 c6, .slice A7 n7 c7, .slice A8 n8 c8, .slice A9 n9 c9] 28) (.cells #[.int .i64 kyx, .string sx, .bool ntx, .bool nix, .slice B4 m4 e4, .slice B5 m5 e5, .slice B6 m6 e6, .slice B7 m7 e7, .slice B8 m8 e8, .slice B9 m9 e9] 28)
        have x0 : ((wr.alloc (.cells #[.int .i64 ky, .string s, .bool nt, .bool ni, .slice A4 n4 c4, .slice A5 n5 c5, .slice A6 n6 c6, .slice A7 n7 c7, .slice A8 n8 c8, .slice A9 n9 c9] 28)).alloc (.cells #[.int .i64 kyx, .string sx, .bool ntx, .bool nix, .slice B4 m4 e4, .slice B5 m5 e5, .slice B6 m6 e6, .slice B7 m7 e7, .slice B8 m8 e8, .slice B9 m9 e9] 28)).cell? ⟨wr.heap.size, 0, none⟩ = some (.int .i64 ky) := box_at hbe0 _ (Below.refl _ _) 0 _ rfl
        have x1 : ((wr.alloc (.cells #[.int .i64 ky, .string s, .bool nt, .bool ni, .slice A4 n4 c4, .slice A5 n5 c5, .slice A6 n6 c6, .slice A7 n7 c7, .slice A8 n8 c8, .slice A9 n9 c9] 28)).alloc (.cells #[.int .i64 kyx, .string sx, .bool ntx, .bool nix, .slice B4 m4 e4, .slice B5 m5 e5, .slice B6 m6 e6, .slice B7 m7 e7, .slice B8 m8 e8, .slice B9 m9 e9] 28)).cell? ⟨wr.heap.size, 1, none⟩ = some (.string s) := box_at hbe0 _ (Below.refl _ _) 1 _ rfl
        have x2 : ((wr.alloc (.cells #[.int .i64 ky, .string s, .bool nt, .bool ni, .slice A4 n4 c4, .slice A5 n5 c5, .slice A6 n6 c6, .slice A7 n7 c7, .slice A8 n8 c8, .slice A9 n9 c9] 28)).alloc (.cells #[.int .i64 kyx, .string sx, .bool ntx, .bool nix, .slice B4 m4 e4, .slice B5 m5 e5, .slice B6 m6 e6, .slice B7 m7 e7, .slice B8 m8 e8, .slice B9 m9 e9] 28)).cell? ⟨wr.heap.size, 2, none⟩ = some (.bool nt) := box_at hbe0 _ (Below.refl _ _) 2 _ rfl
        have x3 : ((wr.alloc (.cells #[.int .i64 ky, .string s, .bool nt, .bool ni, .slice A4 n4 c4, .slice A5 n5 c5, .slice A6 n6 c6, .slice A7 n7 c7, .slice A8 n8 c8, .slice A9 n9 c9] 28)).alloc (.cells #[.int .i64 kyx, .string sx, .bool ntx, .bool nix, .slice B4 m4 e4, .slice B5 m5 e5, .slice B6 m6 e6, .slice B7 m7 e7, .slice B8 m8 e8, .slice B9 m9 e9] 28)).cell? ⟨wr.heap.size, 3, none⟩ = some (.bool ni) := box_at hbe0 _ (Below.refl _ _) 3 _ rfl
        have x4 : ((wr.alloc (.cells #[.int .i64 ky, .string s, .bool nt, .bool ni, .slice A4 n4 c4, .slice A5 n5 c5, .slice A6 n6 c6, .slice A7 n7 c7, .slice A8 n8 c8, .slice A9 n9 c9] 28)).alloc (.cells #[.int .i64 kyx, .string sx, .bool ntx, .bool nix, .slice B4 m4 e4, .slice B5 m5 e5, .slice B6 m6 e6, .slice B7 m7 e7, .slice B8 m8 e8, .slice B9 m9 e9] 28)).cell? ⟨wr.heap.size, 4, none⟩ = some (.slice A4 n4 c4) := box_at hbe0 _ (Below.refl _ _) 4 _ rfl
        have x5 : ((wr.alloc (.cells #[.int .i64 ky, .string s, .bool nt, .bool ni, .slice A4 n4 c4, .slice A5 n5 c5, .slice A6 n6 c6, .slice A7 n7 c7, .slice A8 n8 c8, .slice A9 n9 c9] 28)).alloc (.cells #[.int .i64 kyx, .string sx, .bool ntx, .bool nix, .slice B4 m4 e4, .slice B5 m5 e5, .slice B6 m6 e6, .slice B7 m7 e7, .slice B8 m8 e8, .slice B9 m9 e9] 28)).cell? ⟨wr.heap.size, 5, none⟩ = some (.slice A5 n5 c5) := box_at hbe0 _ (Below.refl _ _) 5 _ rfl
        have x6 : ((wr.alloc (.cells #[.int .i64 ky, .string s, .bool nt, .bool ni, .slice A4 n4 c4, .slice A5 n5 c5, .slice A6 n6 c6, .slice A7 n7 c7, .slice A8 n8 c8, .slice A9 n9 c9] 28)).alloc (.cells #[.int .i64 kyx, .string sx, .bool ntx, .bool nix, .slice B4 m4 e4, .slice B5 m5 e5, .slice B6 m6 e6, .slice B7 m7 e7, .slice B8 m8 e8, .slice B9 m9 e9] 28)).cell? ⟨wr.heap.size, 6, none⟩ = some (.slice A6 n6 c6) := box_at hbe0 _ (Below.refl _ _) 6 _ rfl
        have x7 : ((wr.alloc (.cells #[.int .i64 ky, .string s, .bool nt, .bool ni, .slice A4 n4 c4, .slice A5 n5 c5, .slice A6 n6 c6, .slice A7 n7 c7, .slice A8 n8 c8, .slice A9 n9 c9] 28)).alloc (.cells #[.int .i64 kyx, .string sx, .bool ntx, .bool nix, .slice B4 m4 e4, .slice B5 m5 e5, .slice B6 m6 e6, .slice B7 m7 e7, .slice B8 m8 e8, .slice B9 m9 e9] 28)).cell? ⟨wr.heap.size, 7, none⟩ = some (.slice A7 n7 c7) := box_at hbe0 _ (Below.refl _ _) 7 _ rfl
        have x8 : ((wr.alloc (.cells #[.int .i64 ky, .string s, .bool nt, .bool ni, .slice A4 n4 c4, .slice A5 n5 c5, .slice A6 n6 c6, .slice A7 n7 c7, .slice A8 n8 c8, .slice A9 n9 c9] 28)).alloc (.cells #[.int .i64 kyx, .string sx, .bool ntx, .bool nix, .slice B4 m4 e4, .slice B5 m5 e5, .slice B6 m6 e6, .slice B7 m7 e7, .slice B8 m8 e8, .slice B9 m9 e9] 28)).cell? ⟨wr.heap.size, 8, none⟩ = some (.slice A8 n8 c8) := box_at hbe0 _ (Below.refl _ _) 8 _ rfl
        have x9 : ((wr.alloc (.cells #[.int .i64 ky, .string s, .bool nt, .bool ni, .slice A4 n4 c4, .slice A5 n5 c5, .slice A6 n6 c6, .slice A7 n7 c7, .slice A8 n8 c8, .slice A9 n9 c9] 28)).alloc (.cells #[.int .i64 kyx, .string sx, .bool ntx, .bool nix, .slice B4 m4 e4, .slice B5 m5 e5, .slice B6 m6 e6, .slice B7 m7 e7, .slice B8 m8 e8, .slice B9 m9 e9] 28)).cell? ⟨wr.heap.size, 9, none⟩ = some (.slice A9 n9 c9) := box_at hbe0 _ (Below.refl _ _) 9 _ rfl
        have y0 : ((wr.alloc (.cells #[.int .i64 ky, .string s, .bool nt, .bool ni, .slice A4 n4 c4, .slice A5 n5 c5, .slice A6 n6 c6, .slice A7 n7 c7, .slice A8 n8 c8, .slice A9 n9 c9] 28)).alloc (.cells #[.int .i64 kyx, .string sx, .bool ntx, .bool nix, .slice B4 m4 e4, .slice B5 m5 e5, .slice B6 m6 e6, .slice B7 m7 e7, .slice B8 m8 e8, .slice B9 m9 e9] 28)).cell? ⟨wr.heap.size + 1, 0, none⟩ = some (.int .i64 kyx) := box_at hbe1 _ (Below.refl _ _) 0 _ rfl
        have y1 : ((wr.alloc (.cells #[.int .i64 ky, .string s, .bool nt, .bool ni, .slice A4 n4 c4, .slice A5 n5 c5, .slice A6 n6 c6, .slice A7 n7 c7, .slice A8 n8 c8, .slice A9 n9 c9] 28)).alloc (.cells #[.int .i64 kyx, .string sx, .bool ntx, .bool nix, .slice B4 m4 e4, .slice B5 m5 e5, .slice B6 m6 e6, .slice B7 m7 e7, .slice B8 m8 e8, .slice B9 m9 e9] 28)).cell? ⟨wr.heap.size + 1, 1, none⟩ = some (.string sx) := box_at hbe1 _ (Below.refl _ _) 1 _ rfl
        have y2 : ((wr.alloc (.cells #[.int .i64 ky, .string s, .bool nt, .bool ni, .slice A4 n4 c4, .slice A5 n5 c5, .slice A6 n6 c6, .slice A7 n7 c7, .slice A8 n8 c8, .slice A9 n9 c9] 28)).alloc (.cells #[.int .i64 kyx, .string sx, .bool ntx, .bool nix, .slice B4 m4 e4, .slice B5 m5 e5, .slice B6 m6 e6, .slice B7 m7 e7, .slice B8 m8 e8, .slice B9 m9 e9] 28)).cell? ⟨wr.heap.size + 1, 2, none⟩ = some (.bool ntx) := box_at hbe1 _ (Below.refl _ _) 2 _ rfl
        have y3 : ((wr.alloc (.cells #[.int .i64 ky, .string s, .bool nt, .bool ni, .slice A4 n4 c4, .slice A5 n5 c5, .slice A6 n6 c6, .slice A7 n7 c7, .slice A8 n8 c8, .slice A9 n9 c9] 28)).alloc (.cells #[.int .i64 kyx, .string sx, .bool ntx, .bool nix, .slice B4 m4 e4, .slice B5 m5 e5, .slice B6 m6 e6, .slice B7 m7 e7, .slice B8 m8 e8, .slice B9 m9 e9] 28)).cell? ⟨wr.heap.size + 1, 3, none⟩ = some (.bool nix) := box_at hbe1 _ (Below.refl _ _) 3 _ rfl
        have y4 : ((wr.alloc (.cells #[.int .i64 ky, .string s, .bool nt, .bool ni, .slice A4 n4 c4, .slice A5 n5 c5, .slice A6 n6 c6, .slice A7 n7 c7, .slice A8 n8 c8, .slice A9 n9 c9] 28)).alloc (.cells #[.int .i64 kyx, .string sx, .bool ntx, .bool nix, .slice B4 m4 e4, .slice B5 m5 e5, .slice B6 m6 e6, .slice B7 m7 e7, .slice B8 m8 e8, .slice B9 m9 e9] 28)).cell? ⟨wr.heap.size + 1, 4, none⟩ = some (.slice B4 m4 e4) := box_at hbe1 _ (Below.refl _ _) 4 _ rfl
        have y5 : ((wr.alloc (.cells #[.int .i64 ky, .string s, .bool nt, .bool ni, .slice A4 n4 c4, .slice A5 n5 c5, .slice A6 n6 c6, .slice A7 n7 c7, .slice A8 n8 c8, .slice A9 n9 c9] 28)).alloc (.cells #[.int .i64 kyx, .string sx, .bool ntx, .bool nix, .slice B4 m4 e4, .slice B5 m5 e5, .slice B6 m6 e6, .slice B7 m7 e7, .slice B8 m8 e8, .slice B9 m9 e9] 28)).cell? ⟨wr.heap.size + 1, 5, none⟩ = some (.slice B5 m5 e5) := box_at hbe1 _ (Below.refl _ _) 5 _ rfl
        have y6 : ((wr.alloc (.cells #[.int .i64 ky, .string s, .bool nt, .bool ni, .slice A4 n4 c4, .slice A5 n5 c5, .slice A6 n6 c6, .slice A7 n7 c7, .slice A8 n8 c8, .slice A9 n9 c9] 28)).alloc (.cells #[.int .i64 kyx, .string sx, .bool ntx, .bool nix, .slice B4 m4 e4, .slice B5 m5 e5, .slice B6 m6 e6, .slice B7 m7 e7, .slice B8 m8 e8, .slice B9 m9 e9] 28)).cell? ⟨wr.heap.size + 1, 6, none⟩ = some (.slice B6 m6 e6) := box_at hbe1 _ (Below.refl _ _) 6 _ rfl
        have y7 : ((wr.alloc (.cells #[.int .i64 ky, .string s, .bool nt, .bool ni, .slice A4 n4 c4, .slice A5 n5 c5, .slice A6 n6 c6, .slice A7 n7 c7, .slice A8 n8 c8, .slice A9 n9 c9] 28)).alloc (.cells #[.int .i64 kyx, .string sx, .bool ntx, .bool nix, .slice B4 m4 e4, .slice B5 m5 e5, .slice B6 m6 e6, .slice B7 m7 e7, .slice B8 m8 e8, .slice B9 m9 e9] 28)).cell? ⟨wr.heap.size + 1, 7, none⟩ = some (.slice B7 m7 e7) := box_at hbe1 _ (Below.refl _ _) 7 _ rfl
        have y8 : ((wr.alloc (.cells #[.int .i64 ky, .string s, .bool nt, .bool ni, .slice A4 n4 c4, .slice A5 n5 c5, .slice A6 n6 c6, .slice A7 n7 c7, .slice A8 n8 c8, .slice A9 n9 c9] 28)).alloc (.cells #[.int .i64 kyx, .string sx, .bool ntx, .bool nix, .slice B4 m4 e4, .slice B5 m5 e5, .slice B6 m6 e6, .slice B7 m7 e7, .slice B8 m8 e8, .slice B9 m9 e9] 28)).cell? ⟨wr.heap.size + 1, 8, none⟩ = some (.slice B8 m8 e8) := box_at hbe1 _ (Below.refl _ _) 8 _ rfl
        have y9 : ((wr.alloc (.cells #[.int .i64 ky, .string s, .bool nt, .bool ni, .slice A4 n4 c4, .slice A5 n5 c5, .slice A6 n6 c6, .slice A7 n7 c7, .slice A8 n8 c8, .slice A9 n9 c9] 28)).alloc (.cells #[.int .i64 kyx, .string sx, .bool ntx, .bool nix, .slice B4 m4 e4, .slice B5 m5 e5, .slice B6 m6 e6, .slice B7 m7 e7, .slice B8 m8 e8, .slice B9 m9 e9] 28)).cell? ⟨wr.heap.size + 1, 9, none⟩ = some (.slice B9 m9 e9) := box_at hbe1 _ (Below.refl _ _) 9 _ rfl
        have HX := Lib.hid (HST.out _ (hb.trans (hb2.mono hb.size)) _ _ _ _ (hRr.below (old_of HG.out hb) hb2) (hRr'.below (old_of HG.out hb) hb2))
        have HB2 := Lib.hid (hb.trans (hb2.mono hb.size))
        have HD := Lib.hid (all2_drop p xs ys k hlt hlt')
        clear z z2 hel hel' hcell hcell' hvl hvl' hR hR' hRr hRr' hg hg' hb hb1 hb2 hbe0 hbe1
        go_wp2_with fail
        rw [HE.out, Oper.upon_enter]
        refine HX.out.mono ?_
        rintro e w1 ⟨he, hb3⟩
        have HB3 := Lib.hid (HB2.out.trans (hb3.mono HB2.out.size))
        clear hb3 x0 y0 d0 g0 x1 y1 d1 g1 x2 y2 d2 g2 x3 y3 d3 g3 x4 y4 d4 g4 x5 y5 d5 g5 x6 y6 d6 g6 x7 y7 d7 g7 x8 y8 d8 g8 x9 y9 d9 g9
        cases hq : p xs[k] ys[k]
        · rw [hq] at he
          subst he
          have HQ := Lib.hid hq
          clear hq
          go_wp2_with fail
          go_ret
          exact ⟨ret_bool (by rw [← HF.out, HD.out, HQ.out]; rfl), HB3.out⟩
        · rw [hq] at he
          subst he
          have HQ := Lib.hid hq
          clear hq
          go_wp2_with fail
          go_roundw
          case rel => exact ⟨k + 1, by omega, by go_num, by rw [← HF.out, HD.out, HQ.out]; rfl, HB3.out⟩
          case measure => simp only [intOf]; omega
      · have HE2 := Lib.hid (all2_end p xs ys k (by omega) (by rw [← HLL.out]; omega))
        clear hb
        go_wp2_with fail
        go_ret
        exact ⟨ret_bool (by rw [← HF.out, HE2.out]), HB.out⟩
  · have HLL := Lib.hid (all2_ne p xs ys hll)
    have h1 : ((xs.length : Int) != (ys.length : Int)) = true := bne_iff_ne.2 (by omega)
    have h2 : (xs.length != ys.length) = true := bne_iff_ne.2 hll
    go_enter Tryz.func67, Tryz.ntmps67
    go_wp2_with fail
    go_ret
    exact ⟨ret_bool (by rw [HLL.out]), Below.refl _ _⟩
set_option maxRecDepth 100000 in
set_option maxHeartbeats 8000000 in
theorem eqf_arm (f : Nat) (G : Nat → Prop) (fn : Nat) (p : ArF (Nd f) → ArF (Nd f) → Bool) (v v' : Value) (xs ys : List (ArF (Nd f))) (w : World) (hG : ∀ k, G k → k < w.heap.size) (hs : SlAt G w 11 (ArN f G w) v xs) (hs' : SlAt G w 11 (ArN f G w) v' ys) (hent : Enters fn) (hst : FnEq (ArN f G) w fn p) :
    Calls Tryz.prog 65 #[v, v', .func (.func fn) #[] #[]] w fun e w' => e = .returned (.bool (all2 p xs ys)) ∧ Below w.heap.size w w' := by
  obtain ⟨A, c, rfl, hl, hm, hc⟩ := hs
  obtain ⟨A', c', rfl, hl', hm', hc'⟩ := hs'
  unfold maxLen at hm hm'
  have HC := Lib.hid hc; have HC' := Lib.hid hc'; have HG := Lib.hid hG; have HE := Lib.hid hent; have HST := Lib.hid hst
  clear hc hc' hG hent hst
  by_cases hll : xs.length = ys.length
  · have HLL := Lib.hid hll
    rw [← hll] at hl' ⊢
    clear hll
    go_enter Tryz.func65, Tryz.ntmps65
    go_wp2_with fail
    go_loopw [17] (fun i wr => ∃ (k : Nat), k ≤ xs.length ∧ i = .int .i64 k ∧ all2 p (xs.drop k) (ys.drop k) = all2 p xs ys ∧ Below w.heap.size w wr) (fun i _ => xs.length - (intOf i).toNat)
    case atStart => exact ⟨0, by omega, rfl, rfl, Below.refl _ _⟩
    case round =>
      obtain ⟨k, hk, rfl, hf, hb⟩ := hrel
      have HF := Lib.hid hf; have HB := Lib.hid hb
      clear hf
      by_cases hlt : k < xs.length
      · have hlt' : k < ys.length := by rw [← HLL.out]; exact hlt
        obtain ⟨b, off, rfl, hg, hel⟩ := HC.out (by omega)
        obtain ⟨b', off', rfl, hg', hel'⟩ := HC'.out (by omega)
        obtain ⟨vs, hvl, hR, hcell⟩ := hel k hlt
        obtain ⟨vs', hvl', hR', hcell'⟩ := hel' k hlt'
        have hRr := hR.below HG.out hb
        have hRr' := hR'.below HG.out hb
        obtain ⟨A0, n0, c0, ky, s, nt, ni, A14, n14, c14, A15, n15, c15, A16, n16, c16, A17, n17, c17, A18, n18, c18, A19, n19, c19, rfl⟩ := hRr.shape
        obtain ⟨B0, m0, e0, kyx, sx, ntx, nix, B14, m14, e14, B15, m15, e15, B16, m16, e16, B17, m17, e17, B18, m18, e18, B19, m19, e19, rfl⟩ := hRr'.shape
        have hb1 : Below wr.heap.size wr (wr.alloc (.cells #[.slice A0 n0 c0, .int .i64 ky, .string s, .bool nt, .bool ni, .slice A14 n14 c14, .slice A15 n15 c15, .slice A16 n16 c16, .slice A17 n17 c17, .slice A18 n18 c18, .slice A19 n19 c19] 54)) := (Below.refl _ _).alloc (Nat.le_refl _) _
        have hb2 := hb1.alloc hb1.size (.cells #[.slice B0 m0 e0, .int .i64 kyx, .string sx, .bool ntx, .bool nix, .slice B14 m14 e14, .slice B15 m15 e15, .slice B16 m16 e16, .slice B17 m17 e17, .slice B18 m18 e18, .slice B19 m19 e19] 54)
        have z := fun j u hj => (keep_of HG.out hb _ hg).trans (hcell j u hj)
        have z2 := fun j u hj => (keep_of (old_of HG.out hb) hb1 _ hg').trans ((keep_of HG.out hb _ hg').trans (hcell' j u hj))
        have d0 : wr.cell? ⟨b, off + k * 11, none⟩ = some (.slice A0 n0 c0) := by simpa using z 0 _ rfl
        have d1 : wr.cell? ⟨b, off + k * 11 + 1, none⟩ = some (.int .i64 ky) := by simpa using z 1 _ rfl
        have d2 : wr.cell? ⟨b, off + k * 11 + 2, none⟩ = some (.string s) := by simpa using z 2 _ rfl
        have d3 : wr.cell? ⟨b, off + k * 11 + 3, none⟩ = some (.bool nt) := by simpa using z 3 _ rfl
        have d4 : wr.cell? ⟨b, off + k * 11 + 4, none⟩ = some (.bool ni) := by simpa using z 4 _ rfl
        have d5 : wr.cell? ⟨b, off + k * 11 + 5, none⟩ = some (.slice A14 n14 c14) := by simpa using z 5 _ rfl
        have d6 : wr.cell? ⟨b, off + k * 11 + 6, none⟩ = some (.slice A15 n15 c15) := by simpa using z 6 _ rfl
        have d7 : wr.cell? ⟨b, off + k * 11 + 7, none⟩ = some (.slice A16 n16 c16) := by simpa using z 7 _ rfl
        have d8 : wr.cell? ⟨b, off + k * 11 + 8, none⟩ = some (.slice A17 n17 c17) := by simpa using z 8 _ rfl
        have d9 : wr.cell? ⟨b, off + k * 11 + 9, none⟩ = some (.slice A18 n18 c18) := by simpa using z 9 _ rfl
        have d10 : wr.cell? ⟨b, off + k * 11 + 10, none⟩ = some (.slice A19 n19 c19) := by simpa using z 10 _ rfl
        have g0 : (wr.alloc (.cells #[.slice A0 n0 c0, .int .i64 ky, .string s, .bool nt, .bool ni, .slice A14 n14 c14, .slice A15 n15 c15, .slice A16 n16 c16, .slice A17 n17 c17, .slice A18 n18 c18, .slice A19 n19 c19] 54)).cell? ⟨b', off' + k * 11, none⟩ = some (.slice B0 m0 e0) := by simpa using z2 0 _ rfl
        have g1 : (wr.alloc (.cells #[.slice A0 n0 c0, .int .i64 ky, .string s, .bool nt, .bool ni, .slice A14 n14 c14, .slice A15 n15 c15, .slice A16 n16 c16, .slice A17 n17 c17, .slice A18 n18 c18, .slice A19 n19 c19] 54)).cell? ⟨b', off' + k * 11 + 1, none⟩ = some (.int .i64 kyx) := by simpa using z2 1 _ rfl
        have g2 : (wr.alloc (.cells #[.slice A0 n0 c0, .int .i64 ky, .string s, .bool nt, .bool ni, .slice A14 n14 c14, .slice A15 n15 c15, .slice A16 n16 c16, .slice A17 n17 c17, .slice A18 n18 c18, .slice A19 n19 c19] 54)).cell? ⟨b', off' + k * 11 + 2, none⟩ = some (.string sx) := by simpa using z2 2 _ rfl
        have g3 : (wr.alloc (.cells #[.slice A0 n0 c0, .int .i64 ky, .string s, .bool nt, .bool ni, .slice A14 n14 c14, .slice A15 n15 c15, .slice A16 n16 c16, .slice A17 n17 c17, .slice A18 n18 c18, .slice A19 n19 c19] 54)).cell? ⟨b', off' + k * 11 + 3, none⟩ = some (.bool ntx) := by simpa using z2 3 _ rfl
        have g4 : (wr.alloc (.cells #[.slice A0 n0 c0, .int .i64 ky, .string s, .bool nt, .bool ni, .slice A14 n14 c14, .slice A15 n15 c15, .slice A16 n16 c16, .slice A17 n17 c17, .slice A18 n18 c18, .slice A19 n19 c19] 54)).cell? ⟨b', off' + k * 11 + 4, none⟩ = some (.bool nix) := by simpa using z2 4 _ rfl
        have g5 : (wr.alloc (.cells #[.slice A0 n0 c0, .int .i64 ky, .string s, .bool nt, .bool ni, .slice A14 n14 c14, .slice A15 n15 c15, .slice A16 n16 c16, .slice A17 n17 c17, .slice A18 n18 c18, .slice A19 n19 c19] 54)).cell? ⟨b', off' + k * 11 + 5, none⟩ = some (.slice B14 m14 e14) := by simpa using z2 5 _ rfl
        have g6 : (wr.alloc (.cells #[.slice A0 n0 c0, .int .i64 ky, .string s, .bool nt, .bool ni, .slice A14 n14 c14, .slice A15 n15 c15, .slice A16 n16 c16, .slice A17 n17 c17, .slice A18 n18 c18, .slice A19 n19 c19] 54)).cell? ⟨b', off' + k * 11 + 6, none⟩ = some (.slice B15 m15 e15) := by simpa using z2 6 _ rfl
        have g7 : (wr.alloc (.cells #[.slice A0 n0 c0, .int .i64 ky, .string s, .bool nt, .bool ni, .slice A14 n14 c14, .slice A15 n15 c15, .slice A16 n16 c16, .slice A17 n17 c17, .slice A18 n18 c18, .slice A19 n19 c19] 54)).cell? ⟨b', off' + k * 11 + 7, none⟩ = some (.slice B16 m16 e16) := by simpa using z2 7 _ rfl
        have g8 : (wr.alloc (.cells #[.slice A0 n0 c0, .int .i64 ky, .string s, .bool nt, .bool ni, .slice A14 n14 c14, .slice A15 n15 c15, .slice A16 n16 c16, .slice A17 n17 c17, .slice A18 n18 c18, .slice A19 n19 c19] 54)).cell? ⟨b', off' + k * 11 + 8, none⟩ = some (.slice B17 m17 e17) := by simpa using z2 8 _ rfl
        have g9 : (wr.alloc (.cells #[.slice A0 n0 c0, .int .i64 ky, .string s, .bool nt, .bool ni, .slice A14 n14 c14, .slice A15 n15 c15, .slice A16 n16 c16, .slice A17 n17 c17, .slice A18 n18 c18, .slice A19 n19 c19] 54)).cell? ⟨b', off' + k * 11 + 9, none⟩ = some (.slice B18 m18 e18) := by simpa using z2 9 _ rfl
        have g10 : (wr.alloc (.cells #[.slice A0 n0 c0, .int .i64 ky, .string s, .bool nt, .bool ni, .slice A14 n14 c14, .slice A15 n15 c15, .slice A16 n16 c16, .slice A17 n17 c17, .slice A18 n18 c18, .slice A19 n19 c19] 54)).cell? ⟨b', off' + k * 11 + 10, none⟩ = some (.slice B19 m19 e19) := by simpa using z2 10 _ rfl
        obtain ⟨hbe0, hbe1⟩ := two_blocks wr (.cells #[.slice A0 n0 c0, .int .i64 ky, .string s, .bool nt, .bool ni, .slice A14 n14 c14, .slice A15 n15 c15, .slice A16 n16 c16, .slice A17 n17 c17, .slice A18 n18 c18, .slice A19 n19 c19] 54) (.cells #[.slice B0 m0 e0, .int .i64 kyx, .string sx, .bool ntx, .bool nix, .slice B14 m14 e14, .slice B15 m15 e15, .slice B16 m16 e16, .slice B17 m17 e17, .slice B18 m18 e18, .slice B19 m19 e19] 54)
        have x0 : ((wr.alloc (.cells #[.slice A0 n0 c0, .int .i64 ky, .string s, .bool nt, .bool ni, .slice A14 n14 c14, .slice A15 n15 c15, .slice A16 n16 c16, .slice A17 n17 c17, .slice A18 n18 c18, .slice A19 n19 c19] 54)).alloc (.cells #[.slice B0 m0 e0, .int .i64 kyx, .string sx, .bool ntx, .bool nix, .slice B14 m14 e14, .slice B15 m15 e15, .slice B16 m16 e16, .slice B17 m17 e17, .slice B18 m18 e18, .slice B19 m19 e19] 54)).cell? ⟨wr.heap.size, 0, none⟩ = some (.slice A0 n0 c0) := box_at hbe0 _ (Below.refl _ _) 0 _ rfl
        have x1 : ((wr.alloc (.cells #[.slice A0 n0 c0, .int .i64 ky, .string s, .bool nt, .bool ni, .slice A14 n14 c14, .slice A15 n15 c15, .slice A16 n16 c16, .slice A17 n17 c17, .slice A18 n18 c18, .slice A19 n19 c19] 54)).alloc (.cells #[.slice B0 m0 e0, .int .i64 kyx, .string sx, .bool ntx, .bool nix, .slice B14 m14 e14, .slice B15 m15 e15, .slice B16 m16 e16, .slice B17 m17 e17, .slice B18 m18 e18, .slice B19 m19 e19] 54)).cell? ⟨wr.heap.size, 1, none⟩ = some (.int .i64 ky) := box_at hbe0 _ (Below.refl _ _) 1 _ rfl
        have x2 : ((wr.alloc (.cells #[.slice A0 n0 c0, .int .i64 ky, .string s, .bool nt, .bool ni, .slice A14 n14 c14, .slice A15 n15 c15, .slice A16 n16 c16, .slice A17 n17 c17, .slice A18 n18 c18, .slice A19 n19 c19] 54)).alloc (.cells #[.slice B0 m0 e0, .int .i64 kyx, .string sx, .bool ntx, .bool nix, .slice B14 m14 e14, .slice B15 m15 e15, .slice B16 m16 e16, .slice B17 m17 e17, .slice B18 m18 e18, .slice B19 m19 e19] 54)).cell? ⟨wr.heap.size, 2, none⟩ = some (.string s) := box_at hbe0 _ (Below.refl _ _) 2 _ rfl
        have x3 : ((wr.alloc (.cells #[.slice A0 n0 c0, .int .i64 ky, .string s, .bool nt, .bool ni, .slice A14 n14 c14, .slice A15 n15 c15, .slice A16 n16 c16, .slice A17 n17 c17, .slice A18 n18 c18, .slice A19 n19 c19] 54)).alloc (.cells #[.slice B0 m0 e0, .int .i64 kyx, .string sx, .bool ntx, .bool nix, .slice B14 m14 e14, .slice B15 m15 e15, .slice B16 m16 e16, .slice B17 m17 e17, .slice B18 m18 e18, .slice B19 m19 e19] 54)).cell? ⟨wr.heap.size, 3, none⟩ = some (.bool nt) := box_at hbe0 _ (Below.refl _ _) 3 _ rfl
        have x4 : ((wr.alloc (.cells #[.slice A0 n0 c0, .int .i64 ky, .string s, .bool nt, .bool ni, .slice A14 n14 c14, .slice A15 n15 c15, .slice A16 n16 c16, .slice A17 n17 c17, .slice A18 n18 c18, .slice A19 n19 c19] 54)).alloc (.cells #[.slice B0 m0 e0, .int .i64 kyx, .string sx, .bool ntx, .bool nix, .slice B14 m14 e14, .slice B15 m15 e15, .slice B16 m16 e16, .slice B17 m17 e17, .slice B18 m18 e18, .slice B19 m19 e19] 54)).cell? ⟨wr.heap.size, 4, none⟩ = some (.bool ni) := box_at hbe0 _ (Below.refl _ _) 4 _ rfl
        have x5 : ((wr.alloc (.cells #[.slice A0 n0 c0, .int .i64 ky, .string s, .bool nt, .bool ni, .slice A14 n14 c14, .slice A15 n15 c15, .slice A16 n16 c16, .slice A17 n17 c17, .slice A18 n18 c18, .slice A19 n19 c19] 54)).alloc (.cells #[.slice B0 m0 e0, .int .i64 kyx, .string sx, .bool ntx, .bool nix, .slice B14 m14 e14, .slice B15 m15 e15, .slice B16 m16 e16, .slice B17 m17 e17, .slice B18 m18 e18, .slice B19 m19 e19] 54)).cell? ⟨wr.heap.size, 5, none⟩ = some (.slice A14 n14 c14) := box_at hbe0 _ (Below.refl _ _) 5 _ rfl
        have x6 : ((wr.alloc (.cells #[.slice A0 n0 c0, .int .i64 ky, .string s, .bool nt, .bool ni, .slice A14 n14 c14, .slice A15 n15 c15, .slice A16 n16 c16, .slice A17 n17 c17, .slice A18 n18 c18, .slice A19 n19 c19] 54)).alloc (.cells #[.slice B0 m0 e0, .int .i64 kyx, .string sx, .bool ntx, .bool nix, .slice B14 m14 e14, .slice B15 m15 e15, .slice B16 m16 e16, .slice B17 m17 e17, .slice B18 m18 e18, .slice B19 m19 e19] 54)).cell? ⟨wr.heap.size, 6, none⟩ = some (.slice A15 n15 c15) := box_at hbe0 _ (Below.refl _ _) 6 _ rfl
        have x7 : ((wr.alloc (.cells #[.slice A0 n0 c0, .int .i64 ky, .string s, .bool nt, .bool ni, .slice A14 n14 c14, .slice A15 n15 c15, .slice A16 n16 c16, .slice A17 n17 c17, .slice A18 n18 c18, .slice A19 n19 c19] 54)).alloc (.cells #[.slice B0 m0 e0, .int .i64 kyx, .string sx, .bool ntx, .bool nix, .slice B14 m14 e14, .slice B15 m15 e15, .slice B16 m16 e16, .slice B17 m17 e17, .slice B18 m18 e18, .slice B19 m19 e19] 54)).cell? ⟨wr.heap.size, 7, none⟩ = some (.slice A16 n16 c16) := box_at hbe0 _ (Below.refl _ _) 7 _ rfl
        have x8 : ((wr.alloc (.cells #[.slice A0 n0 c0, .int .i64 ky, .string s, .bool nt, .bool ni, .slice A14 n14 c14, .slice A15 n15 c15, .slice A16 n16 c16, .slice A17 n17 c17, .slice A18 n18 c18, .slice A19 n19 c19] 54)).alloc (.cells #[.slice B0 m0 e0, .int .i64 kyx, .string sx, .bool ntx, .bool nix, .slice B14 m14 e14, .slice B15 m15 e15, .slice B16 m16 e16, .slice B17 m17 e17, .slice B18 m18 e18, .slice B19 m19 e19] 54)).cell? ⟨wr.heap.size, 8, none⟩ = some (.slice A17 n17 c17) := box_at hbe0 _ (Below.refl _ _) 8 _ rfl
        have x9 : ((wr.alloc (.cells #[.slice A0 n0 c0, .int .i64 ky, .string s, .bool nt, .bool ni, .slice A14 n14 c14, .slice A15 n15 c15, .slice A16 n16 c16, .slice A17 n17 c17, .slice A18 n18 c18, .slice A19 n19 c19] 54)).alloc (.cells #[.slice B0 m0 e0, .int .i64 kyx, .string sx, .bool ntx, .bool nix, .slice B14 m14 e14, .slice B15 m15 e15, .slice B16 m16 e16, .slice B17 m17 e17, .slice B18 m18 e18, .slice B19 m19 e19] 54)).cell? ⟨wr.heap.size, 9, none⟩ = some (.slice A18 n18 c18) := box_at hbe0 _ (Below.refl _ _) 9 _ rfl
        have x10 : ((wr.alloc (.cells #[.slice A0 n0 c0, .int .i64 ky, .string s, .bool nt, .bool ni, .slice A14 n14 c14, .slice A15 n15 c15, .slice A16 n16 c16, .slice A17 n17 c17, .slice A18 n18 c18, .slice A19 n19 c19] 54)).alloc (.cells #[.slice B0 m0 e0, .int .i64 kyx, .string sx, .bool ntx, .bool nix, .slice B14 m14 e14, .slice B15 m15 e15, .slice B16 m16 e16, .slice B17 m17 e17, .slice B18 m18 e18, .slice B19 m19 e19] 54)).cell? ⟨wr.heap.size, 10, none⟩ = some (.slice A19 n19 c19) := box_at hbe0 _ (Below.refl _ _) 10 _ rfl
        have y0 : ((wr.alloc (.cells #[.slice A0 n0 c0, .int .i64 ky, .string s, .bool nt, .bool ni, .slice A14 n14 c14, .slice A15 n15 c15, .slice A16 n16 c16, .slice A17 n17 c17, .slice A18 n18 c18, .slice A19 n19 c19] 54)).alloc (.cells #[.slice B0 m0 e0, .int .i64 kyx, .string sx, .bool ntx, .bool nix, .slice B14 m14 e14, .slice B15 m15 e15, .slice B16 m16 e16, .slice B17 m17 e17, .slice B18 m18 e18, .slice B19 m19 e19] 54)).cell? ⟨wr.heap.size + 1, 0, none⟩ = some (.slice B0 m0 e0) := box_at hbe1 _ (Below.refl _ _) 0 _ rfl
        have y1 : ((wr.alloc (.cells #[.slice A0 n0 c0, .int .i64 ky, .string s, .bool nt, .bool ni, .slice A14 n14 c14, .slice A15 n15 c15, .slice A16 n16 c16, .slice A17 n17 c17, .slice A18 n18 c18, .slice A19 n19 c19] 54)).alloc (.cells #[.slice B0 m0 e0, .int .i64 kyx, .string sx, .bool ntx, .bool nix, .slice B14 m14 e14, .slice B15 m15 e15, .slice B16 m16 e16, .slice B17 m17 e17, .slice B18 m18 e18, .slice B19 m19 e19] 54)).cell? ⟨wr.heap.size + 1, 1, none⟩ = some (.int .i64 kyx) := box_at hbe1 _ (Below.refl _ _) 1 _ rfl
        have y2 : ((wr.alloc (.cells #[.slice A0 n0 c0, .int .i64 ky, .string s, .bool nt, .bool ni, .slice A14 n14 c14, .slice A15 n15 c15, .slice A16 n16 c16, .slice A17 n17 c17, .slice A18 n18 c18, .slice A19 n19 c19] 54)).alloc (.cells #[.slice B0 m0 e0, .int .i64 kyx, .string sx, .bool ntx, .bool nix, .slice B14 m14 e14, .slice B15 m15 e15, .slice B16 m16 e16, .slice B17 m17 e17, .slice B18 m18 e18, .slice B19 m19 e19] 54)).cell? ⟨wr.heap.size + 1, 2, none⟩ = some (.string sx) := box_at hbe1 _ (Below.refl _ _) 2 _ rfl
        have y3 : ((wr.alloc (.cells #[.slice A0 n0 c0, .int .i64 ky, .string s, .bool nt, .bool ni, .slice A14 n14 c14, .slice A15 n15 c15, .slice A16 n16 c16, .slice A17 n17 c17, .slice A18 n18 c18, .slice A19 n19 c19] 54)).alloc (.cells #[.slice B0 m0 e0, .int .i64 kyx, .string sx, .bool ntx, .bool nix, .slice B14 m14 e14, .slice B15 m15 e15, .slice B16 m16 e16, .slice B17 m17 e17, .slice B18 m18 e18, .slice B19 m19 e19] 54)).cell? ⟨wr.heap.size + 1, 3, none⟩ = some (.bool ntx) := box_at hbe1 _ (Below.refl _ _) 3 _ rfl
        have y4 : ((wr.alloc (.cells #[.slice A0 n0 c0, .int .i64 ky, .string s, .bool nt, .bool ni, .slice A14 n14 c14, .slice A15 n15 c15, .slice A16 n16 c16, .slice A17 n17 c17, .slice A18 n18 c18, .slice A19 n19 c19] 54)).alloc (.cells #[.slice B0 m0 e0, .int .i64 kyx, .string sx, .bool ntx, .bool nix, .slice B14 m14 e14, .slice B15 m15 e15, .slice B16 m16 e16, .slice B17 m17 e17, .slice B18 m18 e18, .slice B19 m19 e19] 54)).cell? ⟨wr.heap.size + 1, 4, none⟩ = some (.bool nix) := box_at hbe1 _ (Below.refl _ _) 4 _ rfl
        have y5 : ((wr.alloc (.cells #[.slice A0 n0 c0, .int .i64 ky, .string s, .bool nt, .bool ni, .slice A14 n14 c14, .slice A15 n15 c15, .slice A16 n16 c16, .slice A17 n17 c17, .slice A18 n18 c18, .slice A19 n19 c19] 54)).alloc (.cells #[.slice B0 m0 e0, .int .i64 kyx, .string sx, .bool ntx, .bool nix, .slice B14 m14 e14, .slice B15 m15 e15, .slice B16 m16 e16, .slice B17 m17 e17, .slice B18 m18 e18, .slice B19 m19 e19] 54)).cell? ⟨wr.heap.size + 1, 5, none⟩ = some (.slice B14 m14 e14) := box_at hbe1 _ (Below.refl _ _) 5 _ rfl
        have y6 : ((wr.alloc (.cells #[.slice A0 n0 c0, .int .i64 ky, .string s, .bool nt, .bool ni, .slice A14 n14 c14, .slice A15 n15 c15, .slice A16 n16 c16, .slice A17 n17 c17, .slice A18 n18 c18, .slice A19 n19 c19] 54)).alloc (.cells #[.slice B0 m0 e0, .int .i64 kyx, .string sx, .bool ntx, .bool nix, .slice B14 m14 e14, .slice B15 m15 e15, .slice B16 m16 e16, .slice B17 m17 e17, .slice B18 m18 e18, .slice B19 m19 e19] 54)).cell? ⟨wr.heap.size + 1, 6, none⟩ = some (.slice B15 m15 e15) := box_at hbe1 _ (Below.refl _ _) 6 _ rfl
        have y7 : ((wr.alloc (.cells #[.slice A0 n0 c0, .int .i64 ky, .string s, .bool nt, .bool ni, .slice A14 n14 c14, .slice A15 n15 c15, .slice A16 n16 c16, .slice A17 n17 c17, .slice A18 n18 c18, .slice A19 n19 c19] 54)).alloc (.cells #[.slice B0 m0 e0, .int .i64 kyx, .string sx, .bool ntx, .bool nix, .slice B14 m14 e14, .slice B15 m15 e15, .slice B16 m16 e16, .slice B17 m17 e17, .slice B18 m18 e18, .slice B19 m19 e19] 54)).cell? ⟨wr.heap.size + 1, 7, none⟩ = some (.slice B16 m16 e16) := box_at hbe1 _ (Below.refl _ _) 7 _ rfl
        have y8 : ((wr.alloc (.cells #[.slice A0 n0 c0, .int .i64 ky, .string s, .bool nt, .bool ni, .slice A14 n14 c14, .slice A15 n15 c15, .slice A16 n16 c16, .slice A17 n17 c17, .slice A18 n18 c18, .slice A19 n19 c19] 54)).alloc (.cells #[.slice B0 m0 e0, .int .i64 kyx, .string sx, .bool ntx, .bool nix, .slice B14 m14 e14, .slice B15 m15 e15, .slice B16 m16 e16, .slice B17 m17 e17, .slice B18 m18 e18, .slice B19 m19 e19] 54)).cell? ⟨wr.heap.size + 1, 8, none⟩ = some (.slice B17 m17 e17) := box_at hbe1 _ (Below.refl _ _) 8 _ rfl
        have y9 : ((wr.alloc (.cells #[.slice A0 n0 c0, .int .i64 ky, .string s, .bool nt, .bool ni, .slice A14 n14 c14, .slice A15 n15 c15, .slice A16 n16 c16, .slice A17 n17 c17, .slice A18 n18 c18, .slice A19 n19 c19] 54)).alloc (.cells #[.slice B0 m0 e0, .int .i64 kyx, .string sx, .bool ntx, .bool nix, .slice B14 m14 e14, .slice B15 m15 e15, .slice B16 m16 e16, .slice B17 m17 e17, .slice B18 m18 e18, .slice B19 m19 e19] 54)).cell? ⟨wr.heap.size + 1, 9, none⟩ = some (.slice B18 m18 e18) := box_at hbe1 _ (Below.refl _ _) 9 _ rfl
        have y10 : ((wr.alloc (.cells #[.slice A0 n0 c0, .int .i64 ky, .string s, .bool nt, .bool ni, .slice A14 n14 c14, .slice A15 n15 c15, .slice A16 n16 c16, .slice A17 n17 c17, .slice A18 n18 c18, .slice A19 n19 c19] 54)).alloc (.cells #[.slice B0 m0 e0, .int .i64 kyx, .string sx, .bool ntx, .bool nix, .slice B14 m14 e14, .slice B15 m15 e15, .slice B16 m16 e16, .slice B17 m17 e17, .slice B18 m18 e18, .slice B19 m19 e19] 54)).cell? ⟨wr.heap.size + 1, 10, none⟩ = some (.slice B19 m19 e19) := box_at hbe1 _ (Below.refl _ _) 10 _ rfl
        have HX := Lib.hid (HST.out _ (hb.trans (hb2.mono hb.size)) _ _ _ _ (hRr.below (old_of HG.out hb) hb2) (hRr'.below (old_of HG.out hb) hb2))
        have HB2 := Lib.hid (hb.trans (hb2.mono hb.size))
        have HD := Lib.hid (all2_drop p xs ys k hlt hlt')
        clear z z2 hel hel' hcell hcell' hvl hvl' hR hR' hRr hRr' hg hg' hb hb1 hb2 hbe0 hbe1
        go_wp2_with fail
        rw [HE.out, Oper.upon_enter]
        refine HX.out.mono ?_
        rintro e w1 ⟨he, hb3⟩
        have HB3 := Lib.hid (HB2.out.trans (hb3.mono HB2.out.size))
        clear hb3 x0 y0 d0 g0 x1 y1 d1 g1 x2 y2 d2 g2 x3 y3 d3 g3 x4 y4 d4 g4 x5 y5 d5 g5 x6 y6 d6 g6 x7 y7 d7 g7 x8 y8 d8 g8 x9 y9 d9 g9 x10 y10 d10 g10
        cases hq : p xs[k] ys[k]
        · rw [hq] at he
          subst he
          have HQ := Lib.hid hq
          clear hq
          go_wp2_with fail
          go_ret
          exact ⟨ret_bool (by rw [← HF.out, HD.out, HQ.out]; rfl), HB3.out⟩
        · rw [hq] at he
          subst he
          have HQ := Lib.hid hq
          clear hq
          go_wp2_with fail
          go_roundw
          case rel => exact ⟨k + 1, by omega, by go_num, by rw [← HF.out, HD.out, HQ.out]; rfl, HB3.out⟩
          case measure => simp only [intOf]; omega
      · have HE2 := Lib.hid (all2_end p xs ys k (by omega) (by rw [← HLL.out]; omega))
        clear hb
        go_wp2_with fail
        go_ret
        exact ⟨ret_bool (by rw [← HF.out, HE2.out]), HB.out⟩
  · have HLL := Lib.hid (all2_ne p xs ys hll)
    have h1 : ((xs.length : Int) != (ys.length : Int)) = true := bne_iff_ne.2 (by omega)
    have h2 : (xs.length != ys.length) = true := bne_iff_ne.2 hll
    go_enter Tryz.func65, Tryz.ntmps65
    go_wp2_with fail
    go_ret
    exact ⟨ret_bool (by rw [HLL.out]), Below.refl _ _⟩
def PSm (f : Nat) : Prop := ∀ (G : Nat → Prop) (w : World) (vs vs' : List Value) (x y : Nd f), (∀ k, G k → k < w.heap.size) → NdV f G w vs x → NdV f G w vs' y →
  Calls Tryz.prog 23 #[ag vs, ag vs'] w fun e w' => e = .returned (.bool (Nd.same f x y)) ∧ Below w.heap.size w w'
theorem enter_Same : Enters 23 := fun args w => by simp [callFunc, go_sem, Tryz.func23, Tryz.f23]
theorem fn_Same {f : Nat} {G : Nat → Prop} {w : World} (ih : PSm f) (hG : ∀ k, G k → k < w.heap.size) : FnEq (NdV f G) w 23 (Nd.same f) := fun X hX vs vs' x y hx hy => ih G X vs vs' x y (old_of hG hX) hx hy
set_option maxRecDepth 100000 in
set_option maxHeartbeats 4000000 in
theorem sameList_p (f : Nat) (ih : PSm f) (G : Nat → Prop) (w : World) (v v' : Value) (xs ys : List (Nd f)) (hG : ∀ k, G k → k < w.heap.size) (hs : SlAt G w 10 (NdV f G w) v xs) (hs' : SlAt G w 10 (NdV f G w) v' ys) :
    Calls Tryz.prog 129 #[v, v'] w fun e w' => e = .returned (.bool (all2 (Nd.same f) xs ys)) ∧ Below w.heap.size w w' := by
  have HX := Lib.hid (eqf_node f G 23 (Nd.same f) v v' xs ys w hG hs hs' enter_Same (fn_Same ih hG))
  clear hs hs' hG ih
  go_enter Tryz.func129, Tryz.ntmps129
  go_wp2_with fail
  refine HX.out.mono ?_
  rintro e w1 ⟨rfl, hb⟩
  go_wp2_with fail
  go_ret
  exact ⟨rfl, hb⟩
set_option maxRecDepth 100000 in
set_option maxHeartbeats 4000000 in
theorem eqf_rows (f : Nat) (ih : PSm f) (G : Nat → Prop) (w : World) (B B' : Nat) (v v' : Value) (l m : List Cm) (ls ms : List (List (Nd f))) (hG : ∀ k, G k → k < w.heap.size) (hr : Crow B w v l) (hr' : Crow B' w v' m)
    (hs : All2 (fun cm l => SlAt G w 10 (NdV f G w) cm.val l) l ls) (hs' : All2 (fun cm l => SlAt G w 10 (NdV f G w) cm.val l) m ms) :
    Calls Tryz.prog 128 #[v, v', .func (.func 129) #[] #[]] w fun e w' => e = .returned (.bool (all2 (all2 (Nd.same f)) ls ms)) ∧ Below w.heap.size w w' := by
  obtain ⟨A, c, rfl, hl, hm, hk⟩ := hr.look
  obtain ⟨A', c', rfl, hl', hm', hk'⟩ := hr'.look
  unfold maxLen at hm hm'
  have HL := Lib.hid hs.len; have HL' := Lib.hid hs'.len
  have HK := Lib.hid hk; have HK' := Lib.hid hk'; have HG := Lib.hid hG; have IH := Lib.hid ih; have HS := Lib.hid hs; have HS' := Lib.hid hs'
  clear hk hk' hG ih hs hs' hr hr'
  by_cases hll : l.length = m.length
  · have HLL := Lib.hid hll
    rw [← hll] at hl' ⊢
    clear hll
    go_enter Tryz.func128, Tryz.ntmps128
    go_wp2_with fail
    go_loopw [17] (fun i wr => ∃ (k : Nat), k ≤ l.length ∧ i = .int .i64 k ∧ all2 (all2 (Nd.same f)) (ls.drop k) (ms.drop k) = all2 (all2 (Nd.same f)) ls ms ∧ Below w.heap.size w wr) (fun i _ => l.length - (intOf i).toNat)
    case atStart => exact ⟨0, by omega, rfl, rfl, Below.refl _ _⟩
    case round =>
      obtain ⟨k, hk, rfl, hf, hb⟩ := hrel
      have HF := Lib.hid hf; have HB := Lib.hid hb
      clear hf
      by_cases hlt : k < l.length
      · have hlt' : k < m.length := by rw [← HLL.out]; exact hlt
        have hl1 : k < ls.length := by rw [← HL.out]; exact hlt
        have hl2 : k < ms.length := by rw [← HL'.out]; exact hlt'
        obtain ⟨g, rfl, z0⟩ := HK.out k hlt
        obtain ⟨g', rfl, z0'⟩ := HK'.out k hlt'
        have z1 : wr.cell? ⟨g, k, none⟩ = some (.slice (l[k]).a (l[k]).n (l[k]).c) := (World.cell?_of_block (hb.block g (cell_lt z0))).trans z0
        have z2 : wr.cell? ⟨g', k, none⟩ = some (.slice (m[k]).a (m[k]).n (m[k]).c) := (World.cell?_of_block (hb.block g' (cell_lt z0'))).trans z0'
        have HX := Lib.hid (sameList_p f IH.out G wr (.slice (l[k]).a (l[k]).n (l[k]).c) (.slice (m[k]).a (m[k]).n (m[k]).c) ls[k] ms[k] (old_of HG.out hb) ((HS.out.get k hlt hl1).onN HG.out hb) ((HS'.out.get k hlt' hl2).onN HG.out hb))
        have HD := Lib.hid (all2_drop (all2 (Nd.same f)) ls ms k hl1 hl2)
        clear z0 z0' hb
        go_wp2_with fail
        refine HX.out.mono ?_
        rintro e w1 ⟨he, hb3⟩
        have HB3 := Lib.hid (HB.out.trans (hb3.mono HB.out.size))
        clear hb3 z1 z2
        cases hq : all2 (Nd.same f) ls[k] ms[k]
        · rw [hq] at he
          subst he
          have HQ := Lib.hid hq
          clear hq
          go_wp2_with fail
          go_ret
          exact ⟨ret_bool (by rw [← HF.out, HD.out, HQ.out]; rfl), HB3.out⟩
        · rw [hq] at he
          subst he
          have HQ := Lib.hid hq
          clear hq
          go_wp2_with fail
          go_roundw
          case rel => exact ⟨k + 1, by omega, by go_num, by rw [← HF.out, HD.out, HQ.out]; rfl, HB3.out⟩
          case measure => simp only [intOf]; omega
      · have HE2 := Lib.hid (all2_end (all2 (Nd.same f)) ls ms k (by rw [← HL.out]; omega) (by rw [← HL'.out, ← HLL.out]; omega))
        clear hb
        go_wp2_with fail
        go_ret
        exact ⟨ret_bool (by rw [← HF.out, HE2.out]), HB.out⟩
  · have HLL := Lib.hid (all2_ne (all2 (Nd.same f)) ls ms (by rw [← HL.out, ← HL'.out]; exact hll))
    have h1 : ((l.length : Int) != (m.length : Int)) = true := bne_iff_ne.2 (by omega)
    have h2 : (l.length != m.length) = true := bne_iff_ne.2 hll
    go_enter Tryz.func128, Tryz.ntmps128
    go_wp2_with fail
    go_ret
    exact ⟨ret_bool (by rw [HLL.out]), Below.refl _ _⟩
end Go.Proofs.YtjpopekmbmcggaaGreatDoor
