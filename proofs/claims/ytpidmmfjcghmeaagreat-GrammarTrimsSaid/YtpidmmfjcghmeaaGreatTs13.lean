/- Texts in one: GtRul, GtL5, RegLast. -/
import Derived.Test.YtpidmmfjcghmeaaGreatTs10
import Derived.Deep.DeepCutAuto
import Derived.Deep.RegionHeld3
import Derived.Deep.RegionWith
import Derived.Test.YtpidmmfjcghmeaaGreatTs01
import Derived.Deep.RegionHeld
namespace Go.Proofs.YtpidmmfjcghmeaaGreat
open Go.RowKit

theorem Nrow.keepR {β : Type} {B : Nat} {T : TypeId} {sz : Nat} {R R' : List Value → β → Prop} {w : World} {v : Value} {xs : List β} (h : Nrow B T sz R w v xs) (hR : ∀ vs x, R vs x → R' vs x) : Nrow B T sz R' w v xs := by
  obtain ⟨us, hf, ho⟩ := h
  exact ⟨us, All2.mono (fun vs x h => ⟨h.1, hR vs x h.2⟩) hf, ho⟩
def NewBut (B : Nat) (w : World) (v : Value) (g : Nat) : Prop := B ≤ g ∧ g < w.heap.size ∧ v.ownBlock ≠ some g
/-- Rules; what they hold lies in blocks of the call's own, too. -/
def Rus (B : Nat) (w : World) (v : Value) (l : List (Int × List Int)) : Prop := Nrow B 64 2 (RuV (NewBut B w v) w) w v l
theorem Rus.nil (B : Nat) (w : World) : Rus B w (.slice none 0 0) [] := Nrow.nil _ _ _ _ _
theorem Rus.keep {B : Nat} {w w' : World} {v : Value} {l : List (Int × List Int)} (h : Rus B w v l) (hk : ∀ k, B ≤ k → k < w.heap.size → w'.heap[k]? = w.heap[k]?) (hs : w.heap.size ≤ w'.heap.size) : Rus B w' v l :=
  (Nrow.keep h fun g hg => hk g (Nrow.lt h hg).1 (Nrow.lt h hg).2).keepR fun _ _ hr => hr.keep (fun _ hk => ⟨hk.1, Nat.lt_of_lt_of_le hk.2.1 hs, hk.2.2⟩) fun _ hp => World.cell?_of_block (hk _ hp.1 hp.2.1)
theorem Rus.below {B : Nat} {w w' : World} {v : Value} {l : List (Int × List Int)} (h : Rus B w v l) (hb : Below w.heap.size w w') : Rus B w' v l := h.keep (fun k _ hl => hb.block k hl) hb.size
theorem Rus.at_ {B : Nat} {w : World} {v : Value} {l : List (Int × List Int)} (h : Rus B w v l) : RusAt (fun k => B ≤ k ∧ k < w.heap.size) w v l := by
  have h2 : Nrow B 64 2 (RuV (fun k => B ≤ k ∧ k < w.heap.size) w) w v l := Nrow.keepR h fun _ _ hr => hr.keep (fun _ hk => ⟨hk.1, hk.2.1⟩) fun _ _ => rfl
  exact h2.look fun g hg => Nrow.lt h hg
theorem Rus.push {B : Nat} {w wy : World} {v : Value} {l : List (Int × List Int)} {G : Nat → Prop} {vx : Value} (x : Int × List Int) (h : Rus B w v l) (hb : Below w.heap.size w wy) (hx : SlAt G wy 1 IntV vx x.2) (hG : ∀ k, G k → w.heap.size ≤ k ∧ k < wy.heap.size) (hl : l.length + 1 ≤ 1099511627776) (hB : B ≤ w.heap.size) :
    ∃ v' w', WrA Tryz.prog #[23, 23] 23 #[v, .slice (some ⟨wy.heap.size, 0, none⟩) 1 1] (wy.alloc (.cells #[.int .i64 x.1, vx] 64)) = .ok v' w' ∧ Rus B w' v' (l ++ [x]) ∧ Below B wy w' ∧
      (∀ k, k < wy.heap.size → v.ownBlock ≠ some k → w'.heap[k]? = wy.heap[k]? ∧ v'.ownBlock ≠ some k) := by
  have hb1 : Below wy.heap.size wy (wy.alloc (.cells #[.int .i64 x.1, vx] 64)) := (Below.refl _ _).alloc (Nat.le_refl _) _
  have q := heap_alloc_t wy (.cells #[.int .i64 x.1, vx] 64)
  have hsz : (wy.alloc (.cells #[.int .i64 x.1, vx] 64)).heap.size = wy.heap.size + 1 := by simp
  generalize hW : wy.alloc (.cells #[.int .i64 x.1, vx] 64) = w2 at *
  have hb2 : Below w.heap.size w w2 := hb.trans (hb1.mono hb.size)
  have hold : Nrow B 64 2 (RuV (NewBut B w2 v) w2) w2 v l := Rus.below h hb2
  have hnew : RuV (NewBut B w2 v) w2 [.int .i64 x.1, vx] x := ⟨vx, rfl, SlAt.keep hx (fun k hk => by
    obtain ⟨h1, h2⟩ := hG k hk
    refine ⟨Nat.le_trans hB h1, by omega, fun e => ?_⟩
    have := (Nrow.lt h e).2
    omega) (fun p hp => World.cell?_of_block (hb1.block _ (hG _ hp).2)) fun _ _ h => h⟩
  have hxs : SlAt (fun _ => True) w2 2 (RuV (NewBut B w2 v) w2) (.slice (some ⟨wy.heap.size, 0, none⟩) 1 1) [x] :=
    ⟨_, _, rfl, Nat.le_refl _, by unfold maxLen; omega, fun _ => ⟨_, _, rfl, trivial, fun i hi => by
      obtain rfl : i = 0 := by simpa using hi
      exact ⟨_, rfl, hnew, fun j u hj => by simpa using cell_box q j u (by simpa using hj)⟩⟩⟩
  have hB2 : B ≤ w2.heap.size := Nat.le_trans hB hb2.size
  obtain ⟨v', w', h1, h2, h3, h4⟩ := hold.append 23 Tryz.underlying23 info_ruN rfl (by decide) RuV.one 23 hxs (by simp; omega) (by unfold maxLen; simp; omega) hB2
  have hown : ∀ k, k < w2.heap.size → v.ownBlock ≠ some k → v'.ownBlock ≠ some k := fun k hk hne e => by
    rcases h4 with h4 | h4
    · exact hne (h4 ▸ e)
    · rw [h4] at e; injection e with e; omega
  refine ⟨v', w', h1, Nrow.keepR h2 fun _ _ hr => hr.keep (fun k hk => ⟨hk.1, Nat.lt_of_lt_of_le hk.2.1 h3.size, hown k hk.2.1 hk.2.2⟩) fun p hp => World.cell?_of_block (h3.block _ hp.2.1 fun e => hp.2.2 e.symm), ?_, fun k hk hne => ?_⟩
  · exact (hb1.mono (Nat.le_trans hB hb.size)).trans ((Below.refl B w2).grown h3 hB2 fun k e => (Nrow.lt h e).1)
  · exact ⟨(h3.block k (by omega) fun e => hne e.symm).trans (hb1.block k hk), hown k (by omega) hne⟩
/-- A text more: what other blocks keep; where the row lies then. -/
theorem Strs.push2 {B : Nat} {w : World} {v : Value} {xs : List (List UInt8)} (x : List UInt8) (h : Strs B w v xs) (hl : xs.length + 1 ≤ 1099511627776) (hB : B ≤ w.heap.size) : ∃ v' w', WrA Tryz.prog #[22, 22] 22 #[v, .slice (some ⟨w.heap.size, 0, none⟩) 1 1] (w.alloc (.cells #[bs x] 9)) = .ok v' w' ∧ Strs B w' v' (xs ++ [x]) ∧ Below B w w' ∧
    (∀ j, j < w.heap.size → v.ownBlock ≠ some j → w'.heap[j]? = w.heap[j]? ∧ v'.ownBlock ≠ some j) := by
  have hb : Below w.heap.size w (w.alloc (.cells #[bs x] 9)) := (Below.refl _ _).alloc (Nat.le_refl _) _
  have q := heap_alloc_t w (.cells #[bs x] 9)
  have hx : StrsAt (fun _ => True) (w.alloc (.cells #[bs x] 9)) (.slice (some ⟨w.heap.size, 0, none⟩) 1 1) [x] :=
    ⟨_, _, rfl, Nat.le_refl _, by unfold maxLen; omega, fun _ => ⟨_, _, rfl, trivial, fun i hi => by
      obtain rfl : i = 0 := by simpa using hi
      exact ⟨[bs x], rfl, rfl, fun j u hj => by simpa using cell_box q j u (by simpa using hj)⟩⟩⟩
  obtain ⟨v', w', h1, h2, h3, h4⟩ := Nrow.append 22 Tryz.underlying22 info_strN rfl (by decide) StrV.one 22 (Nrow.below h hb) hx (by simp; omega) (by unfold maxLen; simp; omega) (Nat.le_trans hB hb.size)
  refine ⟨v', w', h1, h2, (hb.mono hB).trans ((Below.refl B _).grown h3 (Nat.le_trans hB hb.size) fun k e => (Nrow.lt h e).1), fun j hj hne => ⟨(h3.block j (Nat.lt_of_lt_of_le hj hb.size) fun e => hne e.symm).trans (hb.block j hj), fun e => ?_⟩⟩
  rcases h4 with h4 | h4
  · exact hne (h4 ▸ e)
  · rw [h4] at e; injection e with e; have := hb.size; omega

/-- The new numbers, by the old ones. -/
def nowF (l : List Int) (j : Nat) : Int := if (j : Int) ∈ l then Gm.pos l j else 0
theorem nowF_nil (j : Nat) : nowF [] j = 0 := by simp [nowF]
theorem nowF_mem {l : List Int} {j : Nat} (h : (j : Int) ∈ l) : nowF l j = Gm.pos l j := if_pos h
theorem nowF_snoc {l : List Int} {m : Nat} (hm : (m : Int) ∉ l) (j : Nat) : nowF (l ++ [(m : Int)]) j = if j = m then (l.length : Int) + 1 else nowF l j := by
  unfold nowF Gm.pos
  by_cases e : j = m
  · subst e
    rw [if_pos rfl, if_pos (by simp), List.idxOf_append, if_neg hm, List.idxOf_cons_self]
    simp
  · rw [if_neg e]
    by_cases h : (j : Int) ∈ l
    · rw [if_pos (by simp [h]), if_pos h, List.idxOf_append, if_pos h]
    · have e2 : ¬ (j : Int) = (m : Int) := fun h => e (by omega)
      rw [if_neg (by simp [h, e2]), if_neg h]
end Go.Proofs.YtpidmmfjcghmeaaGreat
namespace Go.Proofs.YtpidmmfjcghmeaaGreat
open Go.RowKit
attribute [local go_sem ↓] wp_append_wr

theorem mem_bitsF (X : Nat) (s : Int) : ∀ n i, s ∈ bitsF X n i ↔ ∃ j : Nat, s = (j : Int) ∧ i ≤ j ∧ j < i + n ∧ X.testBit j = true
  | 0, i => by
    rw [bitsF]
    constructor
    · intro h; cases h
    · rintro ⟨j, _, h1, h2, _⟩; omega
  | n + 1, i => by
    rw [bitsF]
    have ih := mem_bitsF X s n (i + 1)
    by_cases hb : X.testBit i = true
    · rw [if_pos hb, List.mem_cons, ih]
      constructor
      · rintro (rfl | ⟨j, h1, h2, h3, h4⟩)
        · exact ⟨i, rfl, Nat.le_refl _, by omega, hb⟩
        · exact ⟨j, h1, by omega, by omega, h4⟩
      · rintro ⟨j, h1, h2, h3, h4⟩
        by_cases e : j = i
        · subst e; exact .inl h1
        · exact .inr ⟨j, h1, by omega, by omega, h4⟩
    · rw [if_neg hb, ih]
      constructor
      · rintro ⟨j, h1, h2, h3, h4⟩; exact ⟨j, h1, by omega, by omega, h4⟩
      · rintro ⟨j, h1, h2, h3, h4⟩
        have e : j ≠ i := fun e => hb (e ▸ h4)
        exact ⟨j, h1, by omega, by omega, h4⟩
theorem bitsF_up (X : Nat) : ∀ n i, (bitsF X n i).Pairwise (· < ·)
  | 0, _ => by rw [bitsF]; exact .nil
  | n + 1, i => by
    rw [bitsF]
    split
    · refine List.pairwise_cons.2 ⟨fun s hs => ?_, bitsF_up X n (i + 1)⟩
      obtain ⟨j, rfl, h, _⟩ := (mem_bitsF X s n (i + 1)).1 hs
      omega
    · exact bitsF_up X n (i + 1)
theorem bitsF_len (X : Nat) : ∀ n i, (bitsF X n i).length ≤ n
  | 0, _ => by rw [bitsF]; exact Nat.le_refl _
  | n + 1, i => by
    rw [bitsF]
    have := bitsF_len X n (i + 1)
    split
    · rw [List.length_cons]; omega
    · omega
theorem heap_set {w : World} {k : Nat} {cs : Array Value} {T : TypeId} {fz : Nat × Nat} (hh : w.heap[k]? = some (.cells cs T fz)) (i : Nat) (v : Value) : (w.setCell ⟨k, i, none⟩ v).heap[k]? = some (.cells (cs.setIfInBounds i v) T fz) := by
  simp [World.setCell, Array.getElem?_modify, hh]
/-- A new grammar's names, so far. -/
structure On (g : Gm) (bo bn n N b0 : Nat) (w0 w5 w : World) (vt vn : Value) (l : List Int) : Prop where
  out : w.heap[bo]? = some (.cells #[vt, vn, .slice none 0 0, .int .i64 0] 25 (0, 0))
  t : Strs N w vt ((l.filter fun s => decide (g.T s)).map g.name)
  nn : Strs N w vn ((l.filter fun s => !decide (g.T s)).map g.name)
  apart : ∀ j, vt.ownBlock = some j → vn.ownBlock ≠ some j
  now : w.rowIs bn 3 n (fun j => .int .i64 (nowF l j))
  same : ∀ k, k < N → k ≠ bo → k ≠ bn → w.heap[k]? = w5.heap[k]?
  bel : Below b0 w0 w
  sz : N ≤ w.heap.size
/-- .. behind the store of one number. -/
structure Om (g : Gm) (bo bn n N b0 : Nat) (w0 w5 w : World) (vt vn : Value) (l : List Int) (x : Int) : Prop where
  out : w.heap[bo]? = some (.cells #[vt, vn, .slice none 0 0, .int .i64 0] 25 (0, 0))
  t : Strs N w vt ((l.filter fun s => decide (g.T s)).map g.name)
  nn : Strs N w vn ((l.filter fun s => !decide (g.T s)).map g.name)
  apart : ∀ j, vt.ownBlock = some j → vn.ownBlock ≠ some j
  now : w.rowIs bn 3 n (fun j => .int .i64 (nowF (l ++ [x]) j))
  same : ∀ k, k < N → k ≠ bo → k ≠ bn → w.heap[k]? = w5.heap[k]?
  bel : Below b0 w0 w
  sz : N ≤ w.heap.size
section
variable {g : Gm} {bo bn n N b0 : Nat} {w0 w5 w w' : World} {vt vn : Value} {l : List Int} {x : Int}
theorem On.put {m : Nat} (h : On g bo bn n N b0 w0 w5 w vt vn l) (hm : (m : Int) ∉ l) (h1 : bn ≠ bo) (h2 : bn < N) (h3 : b0 ≤ bn) :
    Om g bo bn n N b0 w0 w5 (w.setCell ⟨bn, m, none⟩ (.int .i64 ((l.length : Int) + 1))) vt vn l (m : Int) := by
  have e : ∀ k, k ≠ bn → (w.setCell ⟨bn, m, none⟩ (.int .i64 ((l.length : Int) + 1))).heap[k]? = w.heap[k]? := fun k hk => Below.heap_setCell _ _ _ _ hk
  refine ⟨(e _ h1.symm).trans h.out, h.t.keep fun j hj => e _ ?_, h.nn.keep fun j hj => e _ ?_, h.apart, (h.now.set m _).congr fun j _ => ?_, fun k hk k1 k2 => (e k k2).trans (h.same k hk k1 k2), h.bel.setCell h3 _, by simpa using h.sz⟩
  · have := (Nrow.lt h.t hj).1; omega
  · have := (Nrow.lt h.nn hj).1; omega
  · rw [nowF_snoc hm]
    split <;> rfl
theorem Om.below (h : Om g bo bn n N b0 w0 w5 w vt vn l x) (hb : Below w.heap.size w w') (h1 : bo < N) (h2 : bn < N) (h3 : b0 ≤ w.heap.size) : Om g bo bn n N b0 w0 w5 w' vt vn l x := by
  have hz := h.sz
  refine ⟨(hb.block _ (by omega)).trans h.out, h.t.below hb, h.nn.below hb, h.apart, h.now.of_block (hb.block _ (by omega)), fun k hk k1 k2 => (hb.block _ (by omega)).trans (h.same k hk k1 k2), h.bel.trans (hb.mono h3), Nat.le_trans hz hb.size⟩
/-- A terminal's name is appended, the slice laid into its field. -/
theorem Om.addT {w8 : World} {v8 : Value} (h : Om g bo bn n N b0 w0 w5 w vt vn l x) (h1 : bo < N) (h2 : bn < N) (h0 : b0 ≤ bo) (hne : bo ≠ bn) (hx : g.T x) (hs : Strs N w8 v8 ((l.filter fun s => decide (g.T s)).map g.name ++ [g.name x])) (hb : Below N w w8)
    (hk : ∀ j, j < w.heap.size → vt.ownBlock ≠ some j → w8.heap[j]? = w.heap[j]? ∧ v8.ownBlock ≠ some j) : On g bo bn n N b0 w0 w5 (w8.setCell ⟨bo, 0, none⟩ v8) v8 vn (l ++ [x]) := by
  have hz := h.sz
  have e : ∀ k, k ≠ bo → (w8.setCell ⟨bo, 0, none⟩ v8).heap[k]? = w8.heap[k]? := fun k hk => Below.heap_setCell _ _ _ _ hk
  have hnT : ∀ k, k < N → vt.ownBlock ≠ some k := fun k hk e => by have := (Nrow.lt h.t e).1; omega
  have hq : w8.heap[bo]? = some (.cells #[vt, vn, .slice none 0 0, .int .i64 0] 25 (0, 0)) := (hk bo (by omega) (hnT bo h1)).1.trans h.out
  have hbk := fun k (hk : k < N) (k1 : k ≠ bo) => (e k k1).trans (hb.block k hk)
  refine ⟨?_, ?_, ?_, fun j hj hj2 => ?_, (h.now.of_block (hbk bn h2 (Ne.symm hne))), fun k hk k1 k2 => (hbk k hk k1).trans (h.same k hk k1 k2), ?_, ?_⟩
  · exact heap_set hq _ _
  · rw [List.filter_append, List.filter_cons_of_pos (by simpa using hx), List.filter_nil, List.map_append]
    exact hs.keep fun j hj => e j (by have := (Nrow.lt hs hj).1; omega)
  · rw [List.filter_append, List.filter_cons_of_neg (by simpa using hx), List.filter_nil, List.append_nil]
    exact h.nn.keep fun j hj => by
      have h5 := Nrow.lt h.nn hj
      exact (e j (by omega)).trans (hk j h5.2 fun e2 => h.apart j e2 hj).1
  · have h5 := Nrow.lt h.nn hj2
    exact (hk j h5.2 fun e2 => h.apart j e2 hj2).2 hj
  · exact (h.bel.trans (hb.mono (by omega))).setCell h0 _
  · have := hb.size; simp; omega
theorem Om.addN {w8 : World} {v8 : Value} (h : Om g bo bn n N b0 w0 w5 w vt vn l x) (h1 : bo < N) (h2 : bn < N) (h0 : b0 ≤ bo) (hne : bo ≠ bn) (hx : ¬ g.T x) (hs : Strs N w8 v8 ((l.filter fun s => !decide (g.T s)).map g.name ++ [g.name x])) (hb : Below N w w8)
    (hk : ∀ j, j < w.heap.size → vn.ownBlock ≠ some j → w8.heap[j]? = w.heap[j]? ∧ v8.ownBlock ≠ some j) : On g bo bn n N b0 w0 w5 (w8.setCell ⟨bo, 1, none⟩ v8) vt v8 (l ++ [x]) := by
  have hz := h.sz
  have e : ∀ k, k ≠ bo → (w8.setCell ⟨bo, 1, none⟩ v8).heap[k]? = w8.heap[k]? := fun k hk => Below.heap_setCell _ _ _ _ hk
  have hnT : ∀ k, k < N → vn.ownBlock ≠ some k := fun k hk e => by have := (Nrow.lt h.nn e).1; omega
  have hq : w8.heap[bo]? = some (.cells #[vt, vn, .slice none 0 0, .int .i64 0] 25 (0, 0)) := (hk bo (by omega) (hnT bo h1)).1.trans h.out
  have hbk := fun k (hk : k < N) (k1 : k ≠ bo) => (e k k1).trans (hb.block k hk)
  refine ⟨?_, ?_, ?_, fun j hj hj2 => ?_, (h.now.of_block (hbk bn h2 (Ne.symm hne))), fun k hk k1 k2 => (hbk k hk k1).trans (h.same k hk k1 k2), ?_, ?_⟩
  · exact heap_set hq _ _
  · rw [List.filter_append, List.filter_cons_of_neg (by simpa using hx), List.filter_nil, List.append_nil]
    exact h.t.keep fun j hj => by
      have h5 := Nrow.lt h.t hj
      exact (e j (by omega)).trans (hk j h5.2 fun e2 => h.apart j hj e2).1
  · rw [List.filter_append, List.filter_cons_of_pos (by simpa using hx), List.filter_nil, List.map_append]
    exact hs.keep fun j hj => e j (by have := (Nrow.lt hs hj).1; omega)
  · have h5 := Nrow.lt h.t hj
    exact (hk j h5.2 fun e2 => h.apart j hj e2).2 hj2
  · exact (h.bel.trans (hb.mono (by omega))).setCell h0 _
  · have := hb.size; simp; omega
end
end Go.Proofs.YtpidmmfjcghmeaaGreat
namespace Go.Proofs.YtpidmmfjcghmeaaGreat
open Go

section
variable {P : Program} {md : Region.Mode} {ops : Array Oper} {Q : Exit → Act → World → Prop} {S : World → Prop} {L : Nat}
/-- What is left of the region, in whatever order; behind each operation but number L the world meets S. -/
def AnyL (P : Program) (md : Region.Mode) (ops : Array Oper) (Q : Exit → Act → World → Prop) (S : World → Prop) (L : Nat) : Nat → Array Bool → Act → World → Prop
  | 0, ls, a, w => Region.ready md ops ls = [] ∧ Q .normal a w
  | n + 1, ls, a, w => (Region.ready md ops ls = [] → Q .normal a w) ∧ ∀ i ∈ Region.ready md ops ls, wpOp P ops Q i (fun a' w' => (i ≠ L → S w') ∧ AnyL P md ops Q S L n (ls.setIfInBounds i true) a' w') a w
/-- Does number L wait for number i? -/
def waitsOn (md : Region.Mode) (ops : Array Oper) (L i : Nat) : Bool := ((ops[L]?).map fun o => o.after.any fun e => Region.binds md e && e.on == i).getD false
theorem AnyL.any : ∀ (n : Nat) (ls : Array Bool) (a : Act) (w : World), AnyL P md ops Q S L n ls a w → wpAny P md ops Q n ls a w := by
  intro n
  induction n with
  | zero => exact fun _ _ _ h => h
  | succ n ih => exact fun ls a w h => ⟨h.1, fun i hi => wpOp_mono (fun a' w' h' => ih _ a' w' h'.2) (h.2 i hi)⟩
theorem AnyL.start {id : Nat} {a : Act} {w : World} (L : Nat) (S : World → Prop) (hm : P.follows .mixedOrders = true) (hS : S w.drew) (h : S w.drew → AnyL P .any ops Q S L ops.size (Array.replicate ops.size false) a w.drew) : (Code.region id ops true).wp P Q a w :=
  wp_region_any hm (AnyL.any _ _ _ _ (h hS))
theorem AnyL.done {ls : Array Bool} {a : Act} {w : World} (hr : Region.ready md ops ls = []) (h : Q .normal a w) : ∀ n, AnyL P md ops Q S L n ls a w
  | 0 => ⟨hr, h⟩
  | _ + 1 => ⟨fun _ => h, fun i hi => by rw [hr] at hi; cases hi⟩
/-- One operation alone may come up: not the last one. -/
theorem AnyL.one {i n : Nat} {o : Oper} {ls : Array Bool} {a : Act} {w : World} (hr : Region.ready md ops ls = [i]) (ho : ops[i]? = some o)
    (h : ∀ K : Act → World → Prop, Shut (∀ a w, S w → (S w → AnyL P md ops Q S L n (ls.setIfInBounds i true) a w) → K a w) → if Region.wanted o (yielded ops a.tmps) = true then Oper.wp P o a w K Q else K (a.put o.dst undef) w) : AnyL P md ops Q S L (n + 1) ls a w :=
  ⟨fun h0 => (by rw [hr] at h0; cases h0), fun j hj => by
    rw [hr, List.mem_singleton] at hj
    subst hj
    exact wpOp_step ho fun K hK => h K fun a w hS hW => hK a w ⟨fun _ => hS, hW hS⟩⟩
/-- .. the last one. -/
theorem AnyL.last {n : Nat} {o : Oper} {ls : Array Bool} {a : Act} {w : World} (hr : Region.ready md ops ls = [L]) (ho : ops[L]? = some o)
    (h : ∀ K : Act → World → Prop, Shut (∀ a w, AnyL P md ops Q S L n (ls.setIfInBounds L true) a w → K a w) → if Region.wanted o (yielded ops a.tmps) = true then Oper.wp P o a w K Q else K (a.put o.dst undef) w) : AnyL P md ops Q S L (n + 1) ls a w :=
  ⟨fun h0 => (by rw [hr] at h0; cases h0), fun j hj => by
    rw [hr, List.mem_singleton] at hj
    subst hj
    exact wpOp_step ho fun K hK => h K fun a w hW => hK a w ⟨fun e => absurd rfl e, hW⟩⟩
theorem waits_ready {i : Nat} {ls : Array Bool} (hw : waitsOn md ops L i = true) (hi : i ∈ Region.ready md ops ls) : ¬ L ∈ Region.ready md ops ls := by
  intro hL
  obtain ⟨_, oL, ho, hall⟩ := mem_ready.1 hL
  unfold waitsOn at hw
  rw [ho] at hw
  simp only [Option.map_some, Option.getD_some] at hw
  obtain ⟨e, he, hb⟩ := Array.any_eq_true'.1 hw
  rw [Bool.and_eq_true, beq_iff_eq] at hb
  have h1 := hall e he hb.1
  have h0 := (mem_ready.1 hi).1
  rw [hb.2] at h1
  rcases Nat.lt_or_ge i ls.size with h' | h'
  · simp [h'] at h0 h1; rw [h0] at h1; cases h1
  · simp [Array.getElem?_eq_none h'] at h1
/-- What yields its value in every world that meets S is taken first, if number L waits for it. -/
theorem AnyL.take {i n : Nat} {oi : Oper} {v : Value} {ls : Array Bool} {a : Act} {w : World} (hi : ops[i]? = some oi) (hs : Region.noSelect ops = true) (hf : Region.free md ops ls i = true) (hr : (Region.ready md ops ls).contains i = true) (hw : waitsOn md ops L i = true)
    (hQ : ∀ c a w, Q (.panic c) (a.put oi.dst v) w → Q (.panic c) a w) (hy : YieldsIf P ops S oi v a) (hS : S w) (h : AnyL P md ops Q S L n (ls.setIfInBounds i true) (a.put oi.dst v) w) : AnyL P md ops Q S L (n + 1) ls a w := by
  have main : ∀ (n : Nat) (ls : Array Bool) (a : Act) (w : World), (∀ j oj, ops[j]? = some oj → j ≠ i → ls.getD j true = false → (∀ e ∈ oj.after, Region.binds md e = true → e.on ≠ i) → oi.apart ops oj = true) →
      i ∈ Region.ready md ops ls → YieldsIf P ops S oi v a → S w → AnyL P md ops Q S L n (ls.setIfInBounds i true) (a.put oi.dst v) w → AnyL P md ops Q S L (n + 1) ls a w := by
    intro n
    induction n with
    | zero =>
      intro ls a w _ hr hy hS H
      refine ⟨fun h => (by rw [h] at hr; cases hr), fun j hj => ?_⟩
      by_cases e : j = i
      · rw [e]; exact hy.wpOp hi hS ⟨fun _ => hS, H⟩
      · have := ready_mono hj e
        rw [H.1] at this
        cases this
    | succ n ih =>
      intro ls a w hap hr hy hS H
      refine ⟨fun h => (by rw [h] at hr; cases hr), fun j hj => ?_⟩
      by_cases e : j = i
      · rw [e]; exact hy.wpOp hi hS ⟨fun _ => hS, H⟩
      have hjL : j ≠ L := fun h => waits_ready hw hr (h ▸ hj)
      obtain ⟨hun, oj, hoj, hall⟩ := mem_ready.1 hj
      have hno : ∀ e ∈ oj.after, Region.binds md e = true → e.on ≠ i := fun e he hb heq => by
        have h1 := hall e he hb
        have h0 := (mem_ready.1 hr).1
        rw [heq] at h1
        rcases Nat.lt_or_ge i ls.size with h' | h'
        · simp [h'] at h0 h1; rw [h0] at h1; cases h1
        · simp [Array.getElem?_eq_none h'] at h1
      have h2 := wpOp_putIf hoj (hap j oj hoj e hun hno) (fun cs b => Region.noSelect_spec hs i oi cs b hi) (fun cs b => Region.noSelect_spec hs j oj cs b hoj) hQ hy (H.2 j (ready_mono hj e))
      refine wpOp_mono (fun a' w' h3 => ⟨h3.2.1, ih (ls.setIfInBounds j true) a' w' (fun k ok hk hki hu hn => ?_) (ready_mono hr (Ne.symm e)) h3.1 (h3.2.1 hjL) ?_⟩) h2
      · refine hap k ok hk hki ?_ hn
        by_cases hjk : j = k
        · rw [← hjk]; exact hun
        · rw [getD_set_ne true hjk] at hu; exact hu
      · rw [Array.setIfInBounds_comm _ _ e]
        exact h3.2.2
  exact main n ls a w (Region.free_spec hi hf) (by simpa using hr) hy hS h
end
end Go.Proofs.YtpidmmfjcghmeaaGreat
