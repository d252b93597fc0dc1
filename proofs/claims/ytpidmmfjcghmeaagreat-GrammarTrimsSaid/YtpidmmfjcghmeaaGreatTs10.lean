/- Texts in one: GtL3, GtL4. -/
import Derived.Test.YtpidmmfjcghmeaaGreatTs09
namespace Go.Proofs.YtpidmmfjcghmeaaGreat
open Go.RowKit

theorem flat_ints : ∀ {us : List (List Value)} {l : List Int}, Flat 1 IntV us l → us.flatten = l.map (Value.int .i64)
  | [], [], _ => rfl
  | [], _ :: _, h => h.elim
  | _ :: _, [], h => h.elim
  | vs :: us, x :: l, h => by
    have e : vs = [.int .i64 x] := h.1.2
    rw [List.flatten_cons, flat_ints h.2, e, List.map_cons]
    rfl
theorem flat_of_ints : ∀ l : List Int, ∃ us, Flat 1 IntV us l ∧ us.flatten = l.map (Value.int .i64)
  | [] => ⟨[], trivial, rfl⟩
  | x :: l => by
    obtain ⟨us, h1, h2⟩ := flat_of_ints l
    exact ⟨[.int .i64 x] :: us, ⟨⟨rfl, rfl⟩, h1⟩, by rw [List.flatten_cons, h2]; rfl⟩
theorem Ints.row {B : Nat} {w : World} {v : Value} {l : List Int} (h : Ints B w v l) : w.ownsRow B 3 1 v l.length (l.map (Value.int .i64)) := by
  obtain ⟨us, h1, h2⟩ := h
  rw [← flat_ints h1]
  exact h2
theorem Ints.of_row {B : Nat} {w : World} {v : Value} {l : List Int} (h : w.ownsRow B 3 1 v l.length (l.map (Value.int .i64))) : Ints B w v l := by
  obtain ⟨us, h1, h2⟩ := flat_of_ints l
  exact ⟨us, h1, by rw [h2]; exact h⟩
theorem Ints.pop {B : Nat} {w : World} {A : Option Addr} {c : Nat} {l : List Int} {x : Int} (h : Ints B w (.slice A (l.length + 1) c) (l ++ [x])) : Ints B w (.slice A l.length c) l := by
  have h2 := h.row
  refine Ints.of_row ⟨by simp, ?_⟩
  rcases h2.2 with ⟨e, _⟩ | ⟨g, cap, cur, e, h3, h4, h5, h6, h7, h8⟩
  · injection e with _ e _; omega
  · injection e with e1 e2 e3
    subst e1 e3
    rw [List.length_append] at h5
    refine .inr ⟨g, c, cur, rfl, h3, h4, by omega, h6, h7, ?_⟩
    have h9 := congrArg (List.take (l.length * 1)) h8
    rw [List.take_take, List.map_append, List.length_append, List.take_append_of_le_length (by simp)] at h9
    rw [show min (l.length * 1) ((l.length + [x].length) * 1) = l.length * 1 by simp] at h9
    rw [h9, Nat.mul_one]
    exact List.take_of_length_le (by simp)
/-- Pushed: what other blocks keep; where the row lies then. -/
theorem Ints.push2 {B : Nat} {w : World} {v : Value} {xs : List Int} (x : Int) (h : Ints B w v xs) (hl : xs.length + 1 ≤ 1099511627776) (hB : B ≤ w.heap.size) : ∃ v' w', WrA Tryz.prog #[26, 26] 26 #[v, .slice (some ⟨w.heap.size, 0, none⟩) 1 1] (w.alloc (.cells #[.int .i64 x] 3)) = .ok v' w' ∧ Ints B w' v' (xs ++ [x]) ∧ Below B w w' ∧
    (∀ j, j < w.heap.size → v.ownBlock ≠ some j → w'.heap[j]? = w.heap[j]? ∧ v'.ownBlock ≠ some j) := by
  have hb : Below w.heap.size w (w.alloc (.cells #[.int .i64 x] 3)) := (Below.refl _ _).alloc (Nat.le_refl _) _
  have q := heap_alloc_t w (.cells #[.int .i64 x] 3)
  have hx : SlAt (fun _ => True) (w.alloc (.cells #[.int .i64 x] 3)) 1 IntV (.slice (some ⟨w.heap.size, 0, none⟩) 1 1) [x] :=
    ⟨_, _, rfl, Nat.le_refl _, by unfold maxLen; omega, fun _ => ⟨_, _, rfl, trivial, fun i hi => by
      obtain rfl : i = 0 := by simpa using hi
      exact ⟨[.int .i64 x], rfl, rfl, fun j u hj => by simpa using cell_box q j u (by simpa using hj)⟩⟩⟩
  obtain ⟨v', w', h1, h2, h3, h4⟩ := Nrow.append 26 Tryz.underlying26 info_intN rfl (by decide) IntV.one 26 (Nrow.below h hb) hx (by simp; omega) (by unfold maxLen; simp; omega) (Nat.le_trans hB hb.size)
  refine ⟨v', w', h1, h2, (hb.mono hB).trans ((Below.refl B _).grown h3 (Nat.le_trans hB hb.size) fun k e => (Nrow.lt (Nrow.below h hb) e).1), fun j hj hne => ⟨?_, ?_⟩⟩
  · exact (h3.block j (Nat.lt_of_lt_of_le hj hb.size) (fun e => hne e.symm)).trans (hb.block j hj)
  · intro e
    rcases h4 with h4 | h4
    · exact hne (h4.symm.trans e)
    · rw [h4] at e
      have := Option.some.inj e
      have := hb.size
      simp at *
      omega
theorem Ints.keepH {B : Nat} {w w' : World} {v : Value} {l : List Int} (h : Ints B w v l) (hv : ∀ g, v.ownBlock = some g → w'.heap[g]? = w.heap[g]?) : Ints B w' v l := Nrow.keep h hv
def lenV : Value → Nat
  | .slice _ n _ => n
  | _ => 0
/-- A set is that of what is reached. -/
def IsReach (g : Gm) (X : Nat) : Prop := (∀ i : Nat, X.testBit i = true → g.Reach i) ∧ ∀ s, g.Reach s → X.testBit s.toNat = true
theorem isReach_of {g : Gm} {X : Nat} (h1 : ∀ i : Nat, X.testBit i = true → g.Reach i) (h0 : X.testBit g.start.toNat = true) (h2 : ∀ r ∈ g.rules, X.testBit r.1.toNat = true → ∀ s ∈ r.2, X.testBit s.toNat = true) : IsReach g X :=
  ⟨h1, fun s h => by
    induction h with
    | start => exact h0
    | step hr _ hs ih => exact h2 _ hr ih _ hs⟩
/-- The rules of a left side, by their numbers. -/
theorem ofR_mem (s : Int) : ∀ (l : List (Int × List Int)) (k : Nat) (x : Int), x ∈ ofR s l k → ∃ i : Nat, x = ((k + i : Nat) : Int) ∧ ∃ h : i < l.length, l[i].1 = s
  | [], _, _, h => by simp [ofR] at h
  | r :: l, k, x, h => by
    rw [ofR] at h
    have rest : x ∈ ofR s l (k + 1) → ∃ i : Nat, x = ((k + i : Nat) : Int) ∧ ∃ h : i < (r :: l).length, (r :: l)[i].1 = s := fun h => by
      obtain ⟨i, e, hi, e2⟩ := ofR_mem s l (k + 1) x h
      exact ⟨i + 1, by omega, by simpa using hi, by simpa using e2⟩
    split at h
    · rename_i hr
      rcases List.mem_cons.1 h with rfl | h
      · exact ⟨0, rfl, by simp, by simpa using hr⟩
      · exact rest h
    · exact rest h
theorem ofR_all (s : Int) : ∀ (l : List (Int × List Int)) (k : Nat) (i : Nat) (h : i < l.length), l[i].1 = s → ((k + i : Nat) : Int) ∈ ofR s l k
  | r :: l, k, 0, _, e => by
    rw [ofR, if_pos (by simpa using e)]
    exact List.mem_cons_self ..
  | r :: l, k, i + 1, h, e => by
    rw [ofR]
    have := ofR_all s l (k + 1) i (by simpa using h) (by simpa using e)
    rw [show k + 1 + i = k + (i + 1) by omega] at this
    split
    · exact List.mem_cons_of_mem _ this
    · exact this
end Go.Proofs.YtpidmmfjcghmeaaGreat
namespace Go.Proofs.YtpidmmfjcghmeaaGreat
open Go.RowKit
attribute [local go_sem ↓] wp_append_wr

/-- The worklist's state in memory: the row of what is to be done, the set; a list (of v5, as it lay at w5) that stays. -/
structure RW (B b bw n : Nat) (w1 w5 : World) (v5 : Value) (w : World) (tv : Value) (X : Nat) (l : List Int) : Prop where
  row : Ints B w tv l
  set : BSet w b bw n X
  bel : Below w1.heap.size w1 w
  sz : B ≤ w.heap.size
  of : ∀ j, v5.ownBlock = some j → B ≤ j ∧ j < w.heap.size ∧ w.heap[j]? = w5.heap[j]? ∧ tv.ownBlock ≠ some j
section
variable {B b bw n : Nat} {w1 w5 : World} {v5 : Value} {w w' : World} {tv : Value} {X X' : Nat} {l : List Int}
theorem RW.put (h : RW B b bw n w1 w5 v5 w tv X l) (hbw : bw < B) (h1 : w1.heap.size ≤ bw) (hs : BSet w' b bw n X') (hd : Wd1 bw w w') : RW B b bw n w1 w5 v5 w' tv X' l := by
  refine ⟨h.row.keepH fun j e => hd.heap ?_, hs, h.bel.trans (hd.below h1), by rw [hd.size]; exact h.sz, fun j e => ?_⟩
  · have := (Nrow.lt h.row e).1
    omega
  · obtain ⟨k1, k2, k3, k4⟩ := h.of j e
    exact ⟨k1, by rw [hd.size]; exact k2, (hd.heap (by omega)).trans k3, k4⟩
theorem RW.push (x : Int) (h : RW B b bw n w1 w5 v5 w tv X l) (hb : b < B) (hbw : bw < B) (h1 : w1.heap.size ≤ B) (hl : l.length ≤ 1000) :
    ∃ v' w', WrA Tryz.prog #[26, 26] 26 #[tv, .slice (some ⟨w.heap.size, 0, none⟩) 1 1] (w.alloc (.cells #[.int .i64 x] 3)) = .ok v' w' ∧ RW B b bw n w1 w5 v5 w' v' X (l ++ [x]) := by
  obtain ⟨v', w', k1, k2, k3, k4⟩ := h.row.push2 x (by omega) h.sz
  refine ⟨v', w', k1, k2, h.set.keep (k3.block b hb) (k3.block bw hbw), h.bel.trans (k3.mono h1), Nat.le_trans h.sz k3.size, fun j e => ?_⟩
  obtain ⟨m1, m2, m3, m4⟩ := h.of j e
  obtain ⟨m5, m6⟩ := k4 j m2 m4
  exact ⟨m1, Nat.lt_of_lt_of_le m2 k3.size, m5.trans m3, m6⟩
theorem RW.below (h : RW B b bw n w1 w5 v5 w tv X l) (hb : Below w.heap.size w w') : RW B b bw n w1 w5 v5 w' tv X l :=
  ⟨h.row.below hb, h.set.below hb, h.bel.trans (hb.mono h.bel.size), Nat.le_trans h.sz hb.size, fun j e => by
    obtain ⟨m1, m2, m3, m4⟩ := h.of j e
    exact ⟨m1, Nat.lt_of_lt_of_le m2 hb.size, (hb.block j m2).trans m3, m4⟩⟩
end
/-- What is known of the set and of what is to be done. -/
structure RI (g : Gm) (n X : Nat) (l : List Int) : Prop where
  snd : ∀ i : Nat, X.testBit i = true → g.Reach i
  todo : ∀ s ∈ l, g.Reach s
  st : X.testBit g.start.toNat = true
  len : l.length + zr X n ≤ 65
def Clo (X : Nat) (r : Int × List Int) : Prop := ∀ s ∈ r.2, X.testBit s.toNat = true
theorem zr_le (X : Nat) : ∀ n, zr X n ≤ n
  | 0 => Nat.le_refl _
  | n + 1 => by
    have := zr_le X n
    rw [zr]
    split <;> omega
theorem Clo.put {X i : Nat} {r : Int × List Int} (h : Clo X r) : Clo (X ||| 2 ^ i) r := fun s hs => by rw [or_bit, h s hs]; rfl
theorem RI.put {g : Gm} {n X i : Nat} {l : List Int} (h : RI g n X l) (hr : g.Reach (i : Int)) (hi : X.testBit i = false) (hn : i < n) : RI g n (X ||| 2 ^ i) (l ++ [(i : Int)]) where
  snd j hj := by
    rw [or_bit, Bool.or_eq_true, decide_eq_true_iff] at hj
    rcases hj with hj | rfl
    · exact h.snd j hj
    · exact hr
  todo s hs := by
    rcases List.mem_append.1 hs with hs | hs
    · exact h.todo s hs
    · rw [List.mem_singleton] at hs; subst hs; exact hr
  st := by rw [or_bit, h.st]; rfl
  len := by
    have := zr_put hi n hn
    have := h.len
    rw [List.length_append, List.length_singleton]
    omega

set_option maxRecDepth 100000 in
set_option maxHeartbeats 4000000 in
theorem reached_p (G : Nat → Prop) (w : World) (vs : List Value) (g : Gm) (hG : ∀ k, G k → k < w.heap.size) (hg : GmV G w vs g) (hk : g.Known) (hlr : g.rules.length ≤ 1000) (hlx : ∀ r ∈ g.rules, r.2.length ≤ 1000) (hl : g.top ≤ 63):
    Calls Tryz.prog 35 #[ag vs] w fun e w' => SetPost w (g.top + 1) (IsReach g) e w' := by
  obtain ⟨A0, c0, A1, c1, A2, c2, rfl, hb, hx⟩ := GBox.start hG hg
  show Calls Tryz.prog 35 #[.agg #[.slice A0 g.terms.length c0, .slice A1 g.nons.length c1, .slice A2 g.rules.length c2, .int .i64 g.start]] w _
  generalize hW : w.alloc (.cells #[.slice A0 g.terms.length c0, .slice A1 g.nons.length c1, .slice A2 g.rules.length c2, .int .i64 g.start] 25) = W at *
  obtain ⟨x0, x1, x2, x3⟩ := hx.cells
  have HB := Lib.hid hb; have HX := Lib.hid hx; have HG := Lib.hid hG
  clear hb hx hG hg
  have h3 := top_p G; have h4 := of_p G
  unfold ag at h3 h4
  have H3 := Lib.hid h3; have H4 := Lib.hid h4; have HK := Lib.hid hk; have HLX := Lib.hid hlx
  obtain ⟨i0, hi0⟩ : ∃ i0 : Nat, g.start = (i0 : Int) := by
    have := hk.st
    unfold Gm.N at this
    exact ⟨g.start.toNat, by omega⟩
  have hi0l : 1 ≤ i0 ∧ i0 ≤ g.top := by have := hk.st; unfold Gm.N at this; omega
  have HI0 := Lib.hid hi0; have HI0L := Lib.hid hi0l
  clear h3 h4 hk hlx hi0 hi0l
  go_enter Tryz.func35, Tryz.ntmps35
  go_wp2_with fail
  refine (H3.out _ _ g HX.out.old HX.out.gm (by omega)).mono ?_
  rintro e w1 ⟨rfl, hb1⟩
  have HX1 := Lib.hid (HX.out.on hb1)
  have HB1 := Lib.hid (HB.out.trans (hb1.mono HB.out.size))
  clear x0 x1 x2 x3 hb1
  obtain ⟨x0, x1, x2, x3⟩ := HX1.out.cells
  have HN := Lib.hid (new_p (g.top + 1) w1 (by omega) (by omega))
  obtain ⟨n, hn⟩ : ∃ n, n = g.top + 1 := ⟨_, rfl⟩
  have hn1 : (g.top : Int) + 1 = (n : Int) := by omega
  rw [← hn] at HN
  have HNN := Lib.hid hn
  clear hn
  go_wp2_with fail
  refine (HN.out).mono ?_
  rintro e w2 ⟨⟨b, bw, rfl, hb0, hbw, hs⟩, hb1⟩
  have HP := put_p b bw n 0 i0 w2 hs (by have := HI0L.out; have := HNN.out; omega)
  rw [Nat.zero_testBit, Nat.zero_or, ← HI0.out] at HP
  have HX2 := Lib.hid (HX1.out.on hb1)
  have HPH := Lib.hid HP
  have HBw := Lib.hid hbw; have HBo := Lib.hid hb0; have HE2 := Lib.hid hb1
  have HBl := Lib.hid hs.lt
  have HSZ2 := Lib.hid hb1.size
  clear x0 x1 x2 x3 HP hb0 hbw hs hb1
  obtain ⟨x0, x1, x2, x3⟩ := HX2.out.cells
  go_wp2_with fail
  refine (HPH.out).mono ?_
  rintro e w3 ⟨rfl, hs3, hd3⟩
  have HE3 := Lib.hid (HE2.out.trans (hd3.below HBw.out))
  have HB3 := Lib.hid (show b < w3.heap.size ∧ bw < w3.heap.size ∧ w1.heap.size ≤ w3.heap.size by rw [hd3.size]; exact ⟨HBl.out.1, HBl.out.2, HSZ2.out⟩)
  have HX3 := Lib.hid (HX1.out.on HE3.out)
  have HS3 := Lib.hid hs3
  clear x0 x1 x2 x3 hs3 hd3
  obtain ⟨x0, x1, x2, x3⟩ := HX3.out.cells
  have hbv : Below w3.heap.size w3 (w3.alloc (.cells #[.int .i64 g.start] 3)) := (Below.refl _ _).alloc (Nat.le_refl _) _
  have q := heap_alloc_t w3 (.cells #[.int .i64 g.start] 3)
  have hrow : Ints w3.heap.size (w3.alloc (.cells #[.int .i64 g.start] 3)) (.slice (some ⟨w3.heap.size, 0, none⟩) 1 1) [g.start] :=
    ⟨[[.int .i64 g.start]], ⟨⟨rfl, rfl⟩, trivial⟩, rfl, .inr ⟨w3.heap.size, 1, #[.int .i64 g.start], rfl, Nat.le_refl _, q, Nat.le_refl _, by unfold maxLen; omega, rfl, rfl⟩⟩
  have HRW := Lib.hid (show RW w3.heap.size b bw n w1 w3 (.slice none 0 0) (w3.alloc (.cells #[.int .i64 g.start] 3)) (.slice (some ⟨w3.heap.size, 0, none⟩) 1 1) (2 ^ i0) [g.start] from
    ⟨hrow, HS3.out.below hbv, HE3.out.trans (hbv.mono HB3.out.2.2), hbv.size, fun j e => by cases e⟩)
  have HRI := Lib.hid (show RI g n (2 ^ i0) [g.start] from
    ⟨fun i hi => by
      rw [Nat.testBit_two_pow, decide_eq_true_iff] at hi
      subst hi
      rw [← HI0.out]
      exact .start, fun s hs => by rw [List.mem_singleton] at hs; subst hs; exact .start, by rw [HI0.out, Int.toNat_natCast]; exact Nat.testBit_two_pow_self, by
      have := zr_le (2 ^ i0) n
      have := HNN.out
      simp
      omega⟩)
  have HCL := Lib.hid (show ∀ r ∈ g.rules, (2 ^ i0).testBit r.1.toNat = true → r.1 ∉ [g.start] → Clo (2 ^ i0) r from fun r hr h1 h2 => by
    rw [Nat.testBit_two_pow, decide_eq_true_iff] at h1
    have h3 := HK.out.left r hr
    unfold Gm.N at h3
    exact absurd (List.mem_singleton.2 (show r.1 = g.start by rw [HI0.out]; omega)) h2)
  clear hbv q hrow
  generalize hV4 : w3.alloc (.cells #[.int .i64 g.start] 3) = V4 at *
  clear x0 x1 x2 x3
  obtain ⟨x0, x1, x2, x3⟩ := HX3.out.cells
  go_wp2
  go_loopw [4] (fun tv wr => ∃ (X : Nat) (l : List Int), RW w3.heap.size b bw n w1 w3 (.slice none 0 0) wr tv X l ∧ RI g n X l ∧ ∀ r ∈ g.rules, X.testBit r.1.toNat = true → r.1 ∉ l → Clo X r) (fun tv wr => lenV tv + zr (wordOf wr bw) n)
  case atStart => exact ⟨_, _, HRW.out, HRI.out, HCL.out⟩
  case round =>
    obtain ⟨X, l, hrw, hri, hcl⟩ := hrel
    obtain ⟨At, ct, rfl⟩ := hrw.row.shape
    have HRWr := Lib.hid hrw; have HRIr := Lib.hid hri; have HCLr := Lib.hid hcl
    have HXR := Lib.hid (HX1.out.on hrw.bel)
    clear hrw hri hcl x0 x1 x2 x3
    obtain ⟨x0, x1, x2, x3⟩ := HXR.out.cells
    rcases List.eq_nil_or_concat l with hl0 | ⟨l1, a, hl0⟩
    · subst hl0
      have he := Lib.hid (isReach_of HRIr.out.snd HRIr.out.st (fun r hr hb => HCLr.out r hr hb (by simp)))
      have HF := Lib.hid (show BSet wr b bw (g.top + 1) X by rw [← HNN.out]; exact HRWr.out.set)
      have HBY := Lib.hid HRWr.out.bel
      go_wp2_with fail
      go_ret
      exact ⟨⟨b, bw, X, rfl, Nat.le_trans HB1.out.size HBo.out, Nat.le_trans HB1.out.size HBw.out, HF.out, he.out⟩, HB1.out.trans (HBY.out.mono HB1.out.size)⟩
    · rw [List.concat_eq_append] at hl0
      subst hl0
      have hlen : (l1 ++ [a]).length = l1.length + 1 := by simp
      have hget : (l1 ++ [a])[l1.length]'(by omega) = a := by simp
      rw [hlen] at HRWr ⊢
      obtain ⟨bb, off, rfl, z⟩ := IntsAt.get HRWr.out.row.at_ (k := l1.length) (by omega)
      rw [hget] at z
      have hl65 := HRIr.out.len
      rw [hlen] at hl65
      have hw1 : ((l1.length : Int) + 1 - 1) = (l1.length : Int) := by omega
      have hpop := HRWr.out.row.pop
      have hcap : l1.length + 1 ≤ ct := by obtain ⟨_, _, e, h2, _⟩ := Nrow.shape HRWr.out.row; injection e with _ _ e; omega
      have hci : (l1.length : Int) ≤ (ct : Int) := by omega
      have hci0 : (0 : Int) ≤ (l1.length : Int) := by omega
      have HPOP := Lib.hid hpop
      have HRA := Lib.hid (HRIr.out.todo a (by simp))
      have HOF := Lib.hid (H4.out wr _ g a HXR.out.old HXR.out.gm (by omega))
      clear hpop hlen hget
      go_wp2_with fail
      refine (HOF.out).mono ?_
      rintro e w5 ⟨v5, rfl, ho, hb5⟩
      obtain ⟨A5, c5, rfl⟩ := ho.shape
      have hbl5 := HRWr.out.bel.trans (hb5.mono HRWr.out.bel.size)
      have HR5 := Lib.hid (show RW w3.heap.size b bw n w1 w5 (.slice A5 (ofR a g.rules 0).length c5) w5 (.slice (some ⟨bb, off, none⟩) l1.length ct) X l1 from
        ⟨HPOP.out.below hb5, HRWr.out.set.below hb5, hbl5, Nat.le_trans HRWr.out.sz hb5.size, fun j e => by
          have k1 := Nrow.lt ho e
          refine ⟨Nat.le_trans HRWr.out.sz k1.1, k1.2, rfl, fun e2 => ?_⟩
          have k2 := (Nrow.lt HPOP.out e2).2
          omega⟩)
      have HO5 := Lib.hid ho
      have HI5 := Lib.hid (show RI g n X l1 from ⟨HRIr.out.snd, fun s hs => HRIr.out.todo s (List.mem_append_left _ hs), HRIr.out.st, by omega⟩)
      have HC5 := Lib.hid (show ∀ r ∈ g.rules, X.testBit r.1.toNat = true → r.1 ∉ l1 → r.1 ≠ a → Clo X r from fun r hr h1 h2 h3 => HCLr.out r hr h1 (fun hm => by
        rcases List.mem_append.1 hm with hm | hm
        · exact h2 hm
        · exact h3 (List.mem_singleton.1 hm)))
      have HM0 := Lib.hid (show lenV (.slice (some ⟨bb, off, none⟩) (l1.length + 1) ct) + zr (wordOf wr bw) n = l1.length + 1 + zr X n by rw [wordOf_eq HRWr.out.set]; rfl)
      have HOL := Lib.hid (show (ofR a g.rules 0).length ≤ 1000 from Nat.le_trans (ofR_len a g.rules 0) hlr)
      clear ho hb5 hbl5 z x0 x1 x2 x3
      obtain ⟨ofl, hofl⟩ : ∃ ofl, ofl = ofR a g.rules 0 := ⟨_, rfl⟩
      rw [← hofl] at HR5 HO5 HOL ⊢
      have HOFL := Lib.hid hofl
      have hofb := HOL.out
      clear hofl
      go_wp2
      go_loopw [4, 39] (fun tv iv wq => ∃ (k : Nat) (Y : Nat) (l : List Int), iv = .int .i64 k ∧ k ≤ ofl.length ∧ RW w3.heap.size b bw n w1 w5 (.slice A5 ofl.length c5) wq tv Y l ∧ RI g n Y l ∧ (∀ r ∈ g.rules, Y.testBit r.1.toNat = true → r.1 ∉ l → r.1 ≠ a → Clo Y r) ∧ (∀ x ∈ ofl.take k, ∀ r, g.rules[x.toNat]? = some r → Clo Y r) ∧ l.length + zr Y n = l1.length + zr X n) (fun _ iv _ => ofl.length - (intOf iv).toNat)
      case atStart => exact ⟨0, X, l1, rfl, by omega, HR5.out, HI5.out, HC5.out, by simp, rfl⟩
      case round =>
        obtain ⟨k, Y, l, rfl, hk, hrw, hri, hc1, hc2, hme⟩ := hrel
        obtain ⟨At, ct, rfl⟩ := hrw.row.shape
        have HRWk := Lib.hid hrw; have HRIk := Lib.hid hri; have HC1k := Lib.hid hc1; have HC2k := Lib.hid hc2; have HMk := Lib.hid hme
        have HXk := Lib.hid (HX1.out.on hrw.bel)
        clear hrw hri hc1 hc2 hme
        obtain ⟨x0, x1, x2, x3⟩ := HXk.out.cells
        by_cases hlt : k < ofl.length
        · have hok := (HO5.out.keepH (w' := wr) fun j e => (HRWk.out.of j e).2.2.1).at_
          obtain ⟨b5, o5, e5, z5⟩ := IntsAt.get hok hlt
          obtain ⟨ix, hix, hixl, hixa⟩ := ofR_mem a g.rules 0 ofl[k] (by rw [← HOFL.out]; exact List.getElem_mem hlt)
          rw [Nat.zero_add] at hix
          have HTK := Lib.hid (take_one hlt)
          rw [hix] at z5 HTK
          obtain ⟨br, orr, Ar, cr, er, z0, z1, zi⟩ := HXk.out.rule hixl
          have HMEM := Lib.hid (List.getElem_mem hixl)
          have HGR := Lib.hid (List.getElem?_eq_getElem hixl)
          have HRL := Lib.hid (HLX.out _ HMEM.out)
          subst e5 er
          revert z0 z1 zi HMEM HGR HRL hixa
          generalize g.rules[ix] = rk
          obtain ⟨ra, rb⟩ := rk
          dsimp only
          intro hra z0 z1 zi HMEM HGR HRL
          subst hra
          have hrl := HRL.out
          have hixl2 : ix < g.rules.length := hixl
          have HZI := Lib.hid zi
          clear zi hok hix z0
          go_wp2
          go_loopw [4, 50] (fun tv iv wq => ∃ (j : Nat) (Z : Nat) (l : List Int), iv = .int .i64 j ∧ j ≤ rb.length ∧ RW w3.heap.size b bw n w1 w5 (.slice (some ⟨b5, o5, none⟩) ofl.length c5) wq tv Z l ∧ RI g n Z l ∧ (∀ r ∈ g.rules, Z.testBit r.1.toNat = true → r.1 ∉ l → r.1 ≠ ra → Clo Z r) ∧ (∀ x ∈ ofl.take k, ∀ r, g.rules[x.toNat]? = some r → Clo Z r) ∧ (∀ s ∈ rb.take j, Z.testBit s.toNat = true) ∧ l.length + zr Z n = l1.length + zr X n) (fun _ iv _ => rb.length - (intOf iv).toNat)
          case atStart => exact ⟨0, Y, l, rfl, by omega, HRWk.out, HRIk.out, HC1k.out, HC2k.out, by simp, HMk.out⟩
          case round =>
            obtain ⟨j, Z, lz, rfl, hj, hrw, hri, hc1, hc2, hc3, hme⟩ := hrel
            obtain ⟨At2, ct2, rfl⟩ := hrw.row.shape
            have hzq := IntsAt.keep (G' := G) (fun _ h => h) (fun p hp => (hrw.bel.cell (HX1.out.old _ hp)).trans (HRWk.out.bel.cell (HX1.out.old _ hp)).symm) HZI.out
            have HRWj := Lib.hid hrw; have HRIj := Lib.hid hri; have HC1j := Lib.hid hc1; have HC2j := Lib.hid hc2; have HC3j := Lib.hid hc3; have HMj := Lib.hid hme
            clear hrw hri hc1 hc2 hc3 hme x0 x1 x2 x3 z1 z5
            by_cases hjl : j < rb.length
            · obtain ⟨b6, o6, e6, z6⟩ := IntsAt.get hzq hjl
              have hmem := List.getElem_mem hjl
              obtain ⟨si, hsi⟩ : ∃ si : Nat, rb[j] = (si : Int) := by
                rcases HK.out.right _ HMEM.out _ hmem with h | h
                · unfold Gm.T at h; exact ⟨rb[j].toNat, by omega⟩
                · unfold Gm.N at h; exact ⟨rb[j].toNat, by omega⟩
              have hsn : si < n := by
                have h2 := Gm.mem_T_le (HK.out.right _ HMEM.out _ hmem)
                have := HNN.out
                omega
              have HRS := Lib.hid (show g.Reach (si : Int) from hsi ▸ Gm.Reach.step HMEM.out HRA.out hmem)
              have HTJ := Lib.hid (take_one hjl)
              rw [hsi] at z6 HTJ
              subst e6
              have HPU := Lib.hid (put_p b bw n Z si wr HRWj.out.set hsn)
              have hl65 := HRIj.out.len
              clear hmem hsi hzq
              cases hbit : Z.testBit si
              · rw [hbit] at HPU
                have HBT := Lib.hid hbit
                clear hbit
                go_wp2_with fail
                refine (HPU.out).mono ?_
                rintro e w6 ⟨rfl, hs6, hd6⟩
                have hrw6 := HRWj.out.put HB3.out.2.1 HBw.out hs6 hd6
                obtain ⟨v7, w7, hrun, hrw7⟩ := hrw6.push (si : Int) HB3.out.1 HB3.out.2.1 HB3.out.2.2 (by omega)
                have HR7 := Lib.hid hrw7
                have HI7 := Lib.hid (HRIj.out.put HRS.out HBT.out hsn)
                have HZ7 := Lib.hid (zr_put HBT.out n hsn)
                clear hs6 hd6 hrw6 hrw7 z6
                go_wp2_with fail
                go_roundw
                case rel =>
                  refine ⟨j + 1, Z ||| 2 ^ si, lz ++ [(si : Int)], by go_num, by omega, HR7.out, HI7.out, fun r hr h1 h2 h3 => ?_, fun x hx r hr => (HC2j.out x hx r hr).put, fun s hs => ?_, ?_⟩
                  · rw [or_bit, Bool.or_eq_true, decide_eq_true_iff] at h1
                    rcases h1 with h1 | h1
                    · exact (HC1j.out r hr h1 (fun h => h2 (List.mem_append_left _ h)) h3).put
                    · have h4 := HK.out.left r hr
                      unfold Gm.N at h4
                      exact absurd (List.mem_append_right _ (List.mem_singleton.2 (show r.1 = (si : Int) by omega))) h2
                  · rw [HTJ.out, List.mem_append, List.mem_singleton] at hs
                    rw [or_bit, Bool.or_eq_true, decide_eq_true_iff]
                    rcases hs with hs | rfl
                    · exact .inl (HC3j.out s hs)
                    · exact .inr (by simp)
                  · have h1 := HMj.out
                    have h2 := HZ7.out
                    rw [List.length_append, List.length_singleton]
                    omega
                case measure => simp only [intOf]; omega
              · rw [hbit] at HPU
                have HBT := Lib.hid hbit
                clear hbit
                go_wp2_with fail
                refine (HPU.out).mono ?_
                rintro e w6 ⟨rfl, hs6, hd6⟩
                rw [or_same HBT.out] at hs6
                have HR6 := Lib.hid (HRWj.out.put HB3.out.2.1 HBw.out hs6 hd6)
                clear hs6 hd6 z6
                go_wp2_with fail
                go_roundw
                case rel =>
                  refine ⟨j + 1, Z, lz, by go_num, by omega, HR6.out, HRIj.out, HC1j.out, HC2j.out, fun s hs => ?_, HMj.out⟩
                  rw [HTJ.out, List.mem_append, List.mem_singleton] at hs
                  rcases hs with hs | rfl
                  · exact HC3j.out s hs
                  · rw [Int.toNat_natCast]; exact HBT.out
                case measure => simp only [intOf]; omega
            · have HC2' := Lib.hid (show ∀ x ∈ ofl.take (k + 1), ∀ r, g.rules[x.toNat]? = some r → Clo Z r from fun x hx r hr => by
                rw [HTK.out, List.mem_append, List.mem_singleton] at hx
                rcases hx with hx | rfl
                · exact HC2j.out x hx r hr
                · rw [Int.toNat_natCast, HGR.out] at hr
                  injection hr with hr
                  subst hr
                  exact fun s hs => HC3j.out s (by rw [List.take_of_length_le (by omega)]; exact hs))
              clear hzq
              go_wp2_with fail
              go_roundw
              case rel => exact ⟨k + 1, Z, lz, by go_num, by omega, HRWj.out, HRIj.out, HC1j.out, HC2'.out, HMj.out⟩
              case measure => simp only [intOf]; omega
        · have HCLn := Lib.hid (show ∀ r ∈ g.rules, Y.testBit r.1.toNat = true → r.1 ∉ l → Clo Y r from fun r hr h1 h2 => by
            by_cases h3 : r.1 = a
            · obtain ⟨ix, hix, e⟩ := List.getElem_of_mem hr
              have h4 := ofR_all a g.rules 0 ix hix (by rw [e]; exact h3)
              rw [← HOFL.out, Nat.zero_add] at h4
              exact HC2k.out _ (by rw [List.take_of_length_le (by omega)]; exact h4) r (by rw [Int.toNat_natCast, List.getElem?_eq_getElem hix, e])
            · exact HC1k.out r hr h1 h2 h3)
          have HRn := Lib.hid (show RW w3.heap.size b bw n w1 w3 (.slice none 0 0) wr (.slice At l.length ct) Y l from ⟨HRWk.out.row, HRWk.out.set, HRWk.out.bel, HRWk.out.sz, fun j e => by cases e⟩)
          go_wp2_with fail
          go_roundw
          case rel => exact ⟨Y, l, HRn.out, HRIk.out, HCLn.out⟩
          case measure =>
            rw [HM0.out, wordOf_eq HRWk.out.set]
            have := HMk.out
            simp only [lenV]
            omega
end Go.Proofs.YtpidmmfjcghmeaaGreat
