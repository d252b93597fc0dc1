/- Towards nodeJoins_card: NdRow, NdJoinP, ProwStep, NdJoinR, NdRsv. Merged from smaller texts by a program of the author's. -/
import Derived.Test.YtjpopekmbmcggaaGreatDoorJ07
import Derived.Test.YtjpopekmbmcggaaGreatDoorJ01
import Derived.Maps.AppendAt
import Derived.Deep.Upon
import Derived.Deep.OwnRows
import Derived.Below
import Derived.Test.YtjpopekmbmcggaaGreatDoorJ06
import Derived.Test.YtjpopekmbmcggaaGreatDoorJ02
import Derived.Deep.RegionHeld3
import Derived.Deep.DeepCutAuto
import Derived.Test.YtjpopekmbmcggaaGreatDoorJ04
namespace Go.Proofs.YtjpopekmbmcggaaGreatDoor
open Go.RowKit
def Flat {β : Type} (sz : Nat) (R : List Value → β → Prop) : List (List Value) → List β → Prop := All2 fun vs x => vs.length = sz ∧ R vs x
section
variable {β : Type} {sz : Nat} {R : List Value → β → Prop}
theorem Flat.len : ∀ {us : List (List Value)} {xs : List β}, Flat sz R us xs → us.flatten.length = xs.length * sz
  | [], [], _ => by simp
  | [], _ :: _, h => h.elim
  | _ :: _, [], h => h.elim
  | vs :: us, x :: xs, h => by
    have := Flat.len (us := us) (xs := xs) h.2
    rw [List.flatten_cons, List.length_append, this, h.1.1, List.length_cons, Nat.add_mul]
    omega
theorem Flat.app : ∀ {us : List (List Value)} {xs : List β} {ts : List (List Value)} {ys : List β}, Flat sz R us xs → Flat sz R ts ys → Flat sz R (us ++ ts) (xs ++ ys)
  | [], [], _, _, _, k => k
  | [], _ :: _, _, _, h, _ => h.elim
  | _ :: _, [], _, _, h, _ => h.elim
  | _ :: _, _ :: _, _, _, h, k => ⟨h.1, Flat.app h.2 k⟩
theorem Flat.get : ∀ {us : List (List Value)} {xs : List β}, Flat sz R us xs → ∀ i (h : i < xs.length), ∃ vs, vs.length = sz ∧ R vs xs[i] ∧ ∀ j u, vs[j]? = some u → us.flatten[i * sz + j]? = some u
  | [], [], _, i, h => absurd h (Nat.not_lt_zero i)
  | [], _ :: _, h, _, _ => h.elim
  | _ :: _, [], h, _, _ => h.elim
  | vs :: us, x :: xs, h, 0, _ => ⟨vs, h.1.1, h.1.2, fun j u hj => by
      have hl := (List.getElem?_eq_some_iff.1 hj).1
      rw [Nat.zero_mul, Nat.zero_add, List.flatten_cons, List.getElem?_append_left hl]; exact hj⟩
  | vs :: us, x :: xs, h, i + 1, hi => by
    obtain ⟨ts, h1, h2, h3⟩ := Flat.get h.2 i (by simpa using hi)
    refine ⟨ts, h1, by simpa using h2, fun j u hj => ?_⟩
    have e := h.1.1
    rw [List.flatten_cons, List.getElem?_append_right (by rw [Nat.add_mul]; omega), show (i + 1) * sz + j - vs.length = i * sz + j by rw [Nat.add_mul]; omega]
    exact h3 j u hj
theorem Flat.all {P : Value → Prop} (hP : ∀ vs x, R vs x → ∀ u ∈ vs, P u) : ∀ {us : List (List Value)} {xs : List β}, Flat sz R us xs → ∀ u ∈ us.flatten, P u
  | [], [], _, u, hu => by simp at hu
  | [], _ :: _, h, _, _ => h.elim
  | _ :: _, [], h, _, _ => h.elim
  | vs :: us, x :: xs, h, u, hu => by
    rw [List.flatten_cons, List.mem_append] at hu
    rcases hu with hu | hu
    · exact hP _ _ h.1.2 u hu
    · exact Flat.all hP h.2 u hu
theorem flat_of {w : World} {b : Nat} : ∀ (xs : List β) (off : Nat), (∀ i (h : i < xs.length), ∃ vs : List Value, vs.length = sz ∧ R vs xs[i] ∧ ∀ j u, vs[j]? = some u → w.cell? ⟨b, off + i * sz + j, none⟩ = some u) →
    ∃ us, Flat sz R us xs ∧ ∀ j u, us.flatten[j]? = some u → w.cell? ⟨b, off + j, none⟩ = some u
  | [], off, _ => ⟨[], trivial, fun j u h => by simp at h⟩
  | x :: xs, off, h => by
    obtain ⟨vs, h1, h2, h3⟩ := h 0 (by simp)
    obtain ⟨us, k1, k2⟩ := flat_of xs (off + sz) fun i hi => by
      obtain ⟨ts, t1, t2, t3⟩ := h (i + 1) (by simpa using hi)
      refine ⟨ts, t1, by simpa using t2, fun j u hj => ?_⟩
      rw [show off + sz + i * sz + j = off + (i + 1) * sz + j by rw [Nat.add_mul]; omega]
      exact t3 j u hj
    refine ⟨vs :: us, ⟨⟨h1, by simpa using h2⟩, k1⟩, fun j u hj => ?_⟩
    rw [List.flatten_cons] at hj
    by_cases hl : j < vs.length
    · rw [List.getElem?_append_left hl] at hj
      have := h3 j u hj
      rw [Nat.zero_mul, Nat.add_zero] at this
      exact this
    · rw [List.getElem?_append_right (by omega)] at hj
      have := k2 _ u hj
      rw [show off + sz + (j - vs.length) = off + j by omega] at this
      exact this
theorem SlAt.flat {G : Nat → Prop} {w : World} {v : Value} {xs : List β} (h : SlAt G w sz R v xs) :
    ∃ us, Flat sz R us xs ∧ ∃ A c, v = .slice A xs.length c ∧ xs.length ≤ c ∧ c ≤ maxLen ∧ (0 < xs.length → ∃ b off, A = some ⟨b, off, none⟩ ∧ G b ∧ ∀ j u, us.flatten[j]? = some u → w.cell? ⟨b, off + j, none⟩ = some u) := by
  obtain ⟨A, c, h1, h2, h3, h4⟩ := h
  by_cases hn : 0 < xs.length
  · obtain ⟨b, off, h5, h6, h7⟩ := h4 hn
    obtain ⟨us, k1, k2⟩ := flat_of xs off h7
    exact ⟨us, k1, A, c, h1, h2, h3, fun _ => ⟨b, off, h5, h6, k2⟩⟩
  · obtain rfl : xs = [] := List.eq_nil_of_length_eq_zero (by omega)
    exact ⟨[], trivial, A, c, h1, h2, h3, fun h => absurd h hn⟩
end
theorem cell_blk {w : World} {k : Nat} {cs : Array Value} {T : TypeId} {fz : Nat × Nat} (hh : w.heap[k]? = some (.cells cs T fz)) (i : Nat) (v : Value) (hi : cs[i]? = some v) : w.cell? ⟨k, i, none⟩ = some v := by
  simp only [World.cell?, hh]
  exact hi
def Nrow {β : Type} (B : Nat) (T : TypeId) (sz : Nat) (R : List Value → β → Prop) (w : World) (v : Value) (xs : List β) : Prop := ∃ us, Flat sz R us xs ∧ w.ownsRow B T sz v xs.length us.flatten
section
variable {β : Type} {B : Nat} {T : TypeId} {sz : Nat} {R : List Value → β → Prop} {w w' : World} {v : Value} {xs ys : List β}
theorem Nrow.look (h : Nrow B T sz R w v xs) {G : Nat → Prop} (hG : ∀ g, v.ownBlock = some g → G g) : SlAt G w sz R v xs := by
  obtain ⟨us, hf, _, ho⟩ := h
  rcases ho with ⟨rfl, hn⟩ | ⟨g, cap, cur, rfl, hB, hh, hc, hm, hcs, htake⟩
  · exact ⟨none, 0, by rw [hn], by omega, Nat.zero_le _, fun h => by omega⟩
  · refine ⟨some ⟨g, 0, none⟩, cap, rfl, hc, hm, fun _ => ⟨g, 0, rfl, hG g rfl, fun i hi => ?_⟩⟩
    obtain ⟨vs, h1, h2, h3⟩ := hf.get i hi
    refine ⟨vs, h1, h2, fun j u hj => ?_⟩
    have h4 := h3 j u hj
    rw [← htake] at h4
    have h5 : i * sz + j < xs.length * sz := by
      have := (List.getElem?_eq_some_iff.1 h4).1
      rw [List.length_take] at this
      omega
    rw [List.getElem?_take_of_lt h5] at h4
    rw [Nat.zero_add]
    simp only [World.cell?, hh]
    simpa using h4
theorem Nrow.shape (h : Nrow B T sz R w v xs) : ∃ A c, v = .slice A xs.length c ∧ xs.length ≤ c ∧ c ≤ maxLen := (h.look (G := fun _ => True) fun _ _ => trivial).shape
theorem Nrow.lt (h : Nrow B T sz R w v xs) {g : Nat} (hg : v.ownBlock = some g) : B ≤ g ∧ g < w.heap.size := by
  obtain ⟨us, hf, _, ho⟩ := h
  rcases ho with ⟨rfl, _⟩ | ⟨g', cap, cur, rfl, hB, hh, _⟩
  · simp [Value.ownBlock] at hg
  · simp [Value.ownBlock] at hg
    subst hg
    exact ⟨hB, (Array.getElem?_eq_some_iff.1 hh).1⟩
theorem Nrow.keep (h : Nrow B T sz R w v xs) (hv : ∀ g, v.ownBlock = some g → w'.heap[g]? = w.heap[g]?) : Nrow B T sz R w' v xs := by
  obtain ⟨us, hf, hl, ho⟩ := h
  refine ⟨us, hf, hl, ?_⟩
  rcases ho with h0 | ⟨g, cap, cur, rfl, hB, hh, hrest⟩
  · exact .inl h0
  · exact .inr ⟨g, cap, cur, rfl, hB, (hv g rfl).trans hh, hrest⟩
theorem Nrow.below (h : Nrow B T sz R w v xs) (hb : Below w.heap.size w w') : Nrow B T sz R w' v xs := h.keep fun _ hg => hb.block _ (h.lt hg).2
theorem Nrow.fresh (w : World) (hB : B ≤ w.heap.size) (Rr : List Value → β → Prop) : Nrow B T sz Rr (w.alloc (.cells #[] T)) (.slice (some ⟨w.heap.size, 0, none⟩) 0 0) [] :=
  ⟨[], trivial, by simp, .inr ⟨w.heap.size, 0, #[], rfl, hB, heap_alloc_t w _, Nat.le_refl _, Nat.zero_le _, by simp, by simp⟩⟩
theorem Nrow.started {g : Nat} (hB : B ≤ g) (hh : w.heap[g]? = some (.cells #[] T (0, 0))) (Rr : List Value → β → Prop) : Nrow B T sz Rr w (.slice (some ⟨g, 0, none⟩) 0 0) [] :=
  ⟨[], trivial, by simp, .inr ⟨g, 0, #[], rfl, hB, hh, Nat.le_refl _, Nat.zero_le _, by simp, by simp⟩⟩
theorem Nrow.append (t : TypeId) {z : Value} {bytes : Nat} (hu : Tryz.prog.underlying t = some (.slice T)) (hi : (Tryz.prog.info? T).map (fun i => (i.zero, i.size, i.bytes)) = some (some z, sz, bytes)) (hzs : z.cells.size = sz) (hsz : 0 < sz)
    (hone : ∀ vs x, R vs x → ∀ u ∈ vs, u.oneCell' = true) (ty : TypeId) {G : Nat → Prop} {v2 : Value} (h : Nrow B T sz R w v xs) (hx : SlAt G w sz R v2 ys) (hlen : (xs.length + ys.length) * bytes ≤ 140737488355328) (hmx : xs.length + ys.length ≤ maxLen) (hB : B ≤ w.heap.size) :
    ∃ v' w', WrA Tryz.prog #[t, t] ty #[v, v2] w = .ok v' w' ∧ Nrow B T sz R w' v' (xs ++ ys) ∧ w.grownBy w' v.ownBlock ∧ (v'.ownBlock = v.ownBlock ∨ v'.ownBlock = some w.heap.size) := by
  obtain ⟨i0, hi0, hz0, hz1, hz2⟩ := info_parts hi
  obtain ⟨ts, hf2, A, c, rfl, hc, hm, hcell⟩ := hx.flat
  by_cases hz : ys.length = 0
  · obtain rfl : ys = [] := List.eq_nil_of_length_eq_zero hz
    obtain ⟨A1, c1, rfl, hl1, hm1⟩ := h.shape
    refine ⟨_, w, WrA.of (run_append_nothing w _ _ _ _ i0 hu hi0 A1 xs.length c1 hl1 _ ?_), by rw [List.append_nil]; exact h, ⟨rfl, rfl, rfl, Nat.le_refl _, fun _ _ _ => rfl⟩, .inl rfl⟩
    cases A with
    | none => exact Src.ofNil w hu c
    | some a => exact Src.ofSlice w hu a 0 c [] (by simp) (fun j u hj => by simp at hj) (fun u hu => by cases hu)
  · obtain ⟨b, off, rfl, _, hcl⟩ := hcell (by omega)
    obtain ⟨us, hf, hown⟩ := h
    obtain ⟨v', w', hrun, hown', hgr, hnil, hat⟩ := run_append_own_at (P := Tryz.prog) (w := w) B t ty _ i0 _ sz bytes hu hi0 hz0 hz1 hz2 hzs hsz v xs.length us.flatten hown ⟨b, off, none⟩ ys.length c ts.flatten hf2.len
      (fun j u hj => by rw [show (⟨b, off, none⟩ : Addr).add j = ⟨b, off + j, none⟩ by unfold Addr.add; split <;> simp_all]; exact hcl j u hj) (Flat.all hone hf2) hmx hlen hB
    refine ⟨v', w', WrA.of hrun, ⟨us ++ ts, hf.app hf2, ?_⟩, hgr, hat⟩
    rw [List.length_append, List.flatten_append]
    exact hown'
end
theorem info_nodeN : (Tryz.prog.info? 28).map (fun i => (i.zero, i.size, i.bytes)) = some (some (.agg #[.int .i64 0, .string ⟨#[]⟩, .bool false, .bool false, .slice none 0 0, .slice none 0 0, .slice none 0 0, .slice none 0 0, .slice none 0 0, .slice none 0 0]), 10, 176) := by kernel_rfl
theorem info_intN : (Tryz.prog.info? 3).map (fun i => (i.zero, i.size, i.bytes)) = some (some (.int .i64 0), 1, 8) := by kernel_rfl
theorem NdV.one {f : Nat} {G : Nat → Prop} {w : World} : ∀ (vs : List Value) (x : Nd f), NdV f G w vs x → ∀ u ∈ vs, u.oneCell' = true := by
  intro vs x h u hu
  obtain ⟨ky, s, nt, ni, A4, n4, c4, A5, n5, c5, A6, n6, c6, A7, n7, c7, A8, n8, c8, A9, n9, c9, rfl⟩ := h.shape
  simp only [List.mem_cons, List.not_mem_nil, or_false] at hu
  rcases hu with rfl | rfl | rfl | rfl | rfl | rfl | rfl | rfl | rfl | rfl <;> rfl
theorem IntV.one : ∀ (vs : List Value) (x : Int), IntV vs x → ∀ u ∈ vs, u.oneCell' = true := by
  rintro vs x rfl u hu
  simp only [List.mem_cons, List.not_mem_nil, or_false] at hu
  subst hu
  rfl
end Go.Proofs.YtjpopekmbmcggaaGreatDoor
namespace Go.Proofs.YtjpopekmbmcggaaGreatDoor
def joinN {α : Type} (a b : NdF α) : NdF α := ⟨1, ByteArray.empty, false, false, a.ops ++ b.ops, [], [], [], [], a.kids ++ b.kids⟩
theorem tot_append {α : Type} (p : α → Nat) : ∀ l m : List α, tot p (l ++ m) = tot p l + tot p m
  | [], m => by simp [tot]
  | a :: l, m => by rw [List.cons_append, tot, tot, tot_append p l m]; omega
section
variable {α : Type} {v : Vw α} {C : α → Nat} {a b n : NdF α}
theorem list_open (hk : n.k = 1) (h : rightF v n = true) : n.assigns = [] ∧ n.words = [] ∧ n.redirs = [] ∧ n.arms = [] ∧ 1 ≤ n.kids.length ∧ n.kids.all (fun x => decide (2 ≤ v.kd x) && v.rt x) = true ∧ n.ops.length = n.kids.length ∧ n.ops.all (fun k => (k == 1) || (k == 2)) = true := by
  unfold rightF at h
  rw [if_pos hk] at h
  unfold onlyB bareB kidsB opsB at h
  simp only [Bool.and_eq_true, Bool.false_or, List.isEmpty_iff, beq_iff_eq, decide_eq_true_eq] at h
  obtain ⟨⟨⟨⟨⟨⟨⟨⟨⟨⟨_, _⟩, h1⟩, h2⟩, h3⟩, h4⟩, _⟩, _⟩, _⟩, _⟩, ⟨h5, h6⟩, h7, h8⟩ := h
  exact ⟨h1, h2, h3, h4, h5, h6, h7, h8⟩
theorem joins_right (ha : a.k = 1) (hb : b.k = 1) (ra : rightF v a = true) (rb : rightF v b = true) : rightF v (joinN a b) = true := by
  obtain ⟨_, _, _, _, a5, a6, a7, a8⟩ := list_open ha ra
  obtain ⟨_, _, _, _, b5, b6, b7, b8⟩ := list_open hb rb
  unfold rightF
  rw [if_pos (show (joinN a b).k = 1 from rfl)]
  have h1 : onlyB v ⟨false, true, false, false, false, false, true⟩ (joinN a b) = true := by
    unfold onlyB bareB joinN
    simp
  have h2 : kidsB v 1 2 (joinN a b) = true := by
    unfold kidsB joinN
    simp only [List.length_append, List.all_append, a6, b6]
    simp only [Bool.and_true, decide_eq_true_eq]
    omega
  have h3 : opsB (joinN a b).kids.length (joinN a b) = true := by
    unfold opsB joinN
    simp only [List.length_append, List.all_append, a7, b7, a8, b8]
    simp
  rw [h1, h2, h3]
  rfl
theorem joins_count (ha : a.k = 1) (hb : b.k = 1) (ra : rightF v a = true) (rb : rightF v b = true) : countF C (joinN a b) + 1 = countF C a + countF C b := by
  obtain ⟨a1, a2, a3, a4, _⟩ := list_open ha ra
  obtain ⟨b1, b2, b3, b4, _⟩ := list_open hb rb
  unfold countF joinN
  rw [a1, a2, a3, a4, b1, b2, b3, b4]
  simp only [tot, tot_append]
  omega
end
end Go.Proofs.YtjpopekmbmcggaaGreatDoor
namespace Go.Proofs.YtjpopekmbmcggaaGreatDoor
open Go.RowKit
theorem Below.grow {w w' : World} (h : Below w.heap.size w w') (o : Obj) : Below w.heap.size w (w'.alloc o) := h.alloc h.size o
end Go.Proofs.YtjpopekmbmcggaaGreatDoor
namespace Go.Proofs.YtjpopekmbmcggaaGreatDoor
open Go.RowKit
def zeroN : Array Value := #[.int .i64 0, .string ⟨#[]⟩, .bool false, .bool false, .slice none 0 0, .slice none 0 0, .slice none 0 0, .slice none 0 0, .slice none 0 0, .slice none 0 0]
structure Jn {β : Type} (W : World) (R : List Value → β → Prop) (k : Option (Value × List β)) (o : Option (Value × List Int)) (g : Option Nat) (w : World) : Prop where
  below : Below W.heap.size W w
  kd : ∀ v xs, k = some (v, xs) → Nrow W.heap.size 28 10 R w v xs
  od : ∀ v xs, o = some (v, xs) → Nrow W.heap.size 3 1 IntV w v xs
  al : ∀ b, g = some b → W.heap.size ≤ b ∧ w.heap[b]? = some (.cells zeroN 28 (0, 0)) ∧ ∀ v xs, k = some (v, xs) → v.ownBlock ≠ some b
section
variable {β : Type} {W w w' : World} {R : List Value → β → Prop} {k : Option (Value × List β)} {o : Option (Value × List Int)} {g : Option Nat}
theorem Jn.grow (h : Jn W R k o g w) (hb : Below w.heap.size w w') : Jn W R k o g w' where
  below := h.below.trans (hb.mono h.below.size)
  kd v xs e := (h.kd v xs e).below hb
  od v xs e := (h.od v xs e).below hb
  al b e := by
    obtain ⟨h1, h2, h3⟩ := h.al b e
    exact ⟨h1, (hb.block b (Array.getElem?_eq_some_iff.1 h2).1).trans h2, h3⟩
theorem Jn.start (W : World) (R : List Value → β → Prop) : Jn W R none none none W.drew :=
  ⟨(Below.refl _ _).drew, (fun _ _ e => absurd e (by simp)), (fun _ _ e => absurd e (by simp)), (fun _ e => absurd e (by simp))⟩
theorem Jn.first (W : World) (R : List Value → β → Prop) : Jn W R none none none W :=
  ⟨Below.refl _ _, (fun _ _ e => absurd e (by simp)), (fun _ _ e => absurd e (by simp)), (fun _ e => absurd e (by simp))⟩
theorem Jn.dr (h : Jn W R k o g w) : Jn W R k o g w.drew := h.grow (Below.refl _ _).drew
theorem Jn.k0 (h : Jn W R none o g w) (b : Nat) (hb : b = w.heap.size) : Jn W R (some (.slice (some ⟨b, 0, none⟩) 0 0, [])) o g (w.alloc (.cells #[] 28)) := by
  subst hb
  have h' := h.grow (w' := w.alloc (.cells #[] 28)) ((Below.refl _ _).alloc (Nat.le_refl _) _)
  exact ⟨h'.below, fun v xs e => by cases e; exact Nrow.fresh w h.below.size R, h'.od, fun b e => by
    obtain ⟨h1, h2, _⟩ := h'.al b e
    have h3 := (Array.getElem?_eq_some_iff.1 (h.al b e).2.1).1
    refine ⟨h1, h2, fun v xs e => ?_⟩
    cases e
    intro e
    have e2 : w.heap.size = b := by simpa [Value.ownBlock] using e
    omega⟩
theorem Jn.o0 (h : Jn W R k none g w) (b : Nat) (hb : b = w.heap.size) : Jn W R k (some (.slice (some ⟨b, 0, none⟩) 0 0, [])) g (w.alloc (.cells #[] 3)) := by
  subst hb
  have h' := h.grow (w' := w.alloc (.cells #[] 3)) ((Below.refl _ _).alloc (Nat.le_refl _) _)
  exact ⟨h'.below, h'.kd, fun v xs e => by cases e; exact Nrow.fresh w h.below.size IntV, h'.al⟩
theorem Jn.a0 (h : Jn W R k o none w) (b : Nat) (hb : b = w.heap.size) : Jn W R k o (some b) (w.alloc (.cells zeroN 28)) := by
  subst hb
  have h' := h.grow (w' := w.alloc (.cells zeroN 28)) ((Below.refl _ _).alloc (Nat.le_refl _) _)
  exact ⟨h'.below, h'.kd, h'.od, fun b e => by
    cases e
    refine ⟨h.below.size, heap_alloc_t w _, fun v xs e hv => ?_⟩
    have := ((h.kd v xs e).lt hv).2
    omega⟩
theorem Jn.kapp {v v' : Value} {xs ys : List β} (h : Jn W R (some (v, xs)) o g w) (h1 : Nrow W.heap.size 28 10 R w' v' ys) (h2 : w.grownBy w' v.ownBlock) (h3 : v'.ownBlock = v.ownBlock ∨ v'.ownBlock = some w.heap.size) : Jn W R (some (v', ys)) o g w' := by
  have hk := h.kd v xs rfl
  refine ⟨⟨h2.os.trans h.below.os, h2.tape.trans h.below.tape, h2.output.trans h.below.output, Nat.le_trans h.below.size h2.size, fun i hi => (h2.block i (Nat.lt_of_lt_of_le hi h.below.size) fun e => ?_).trans (h.below.block i hi)⟩, fun u zs e => by cases e; exact h1, fun u zs e => (h.od u zs e).keep fun i hi => ?_, fun b e => ?_⟩
  · have := (hk.lt e.symm).1; omega
  · have ho := (h.od u zs e)
    refine h2.block i (ho.lt hi).2 fun e2 => ?_
    obtain ⟨us, _, _, hr⟩ := ho
    obtain ⟨us2, _, _, hr2⟩ := hk
    rcases hr with ⟨rfl, _⟩ | ⟨i', _, cur, rfl, _, hh, _⟩
    · simp [Value.ownBlock] at hi
    rcases hr2 with ⟨rfl, _⟩ | ⟨i2, _, cur2, rfl, _, hh2, _⟩
    · simp [Value.ownBlock] at e2
    simp [Value.ownBlock] at hi e2
    subst hi e2
    rw [hh] at hh2
    injection hh2 with hh2
    injection hh2 with _ hh2
    exact absurd hh2 (by decide)
  · obtain ⟨a1, a2, a3⟩ := h.al b e
    have hlt := (Array.getElem?_eq_some_iff.1 a2).1
    refine ⟨a1, (h2.block b hlt fun e => a3 v xs rfl e.symm).trans a2, fun u zs e => ?_⟩
    cases e
    intro hb
    rcases h3 with h3 | h3
    · exact a3 v xs rfl (h3 ▸ hb)
    · rw [h3] at hb
      have : w.heap.size = b := by simpa using hb
      omega
theorem Jn.oapp {v v' : Value} {xs ys : List Int} (h : Jn W R k (some (v, xs)) g w) (h1 : Nrow W.heap.size 3 1 IntV w' v' ys) (h2 : w.grownBy w' v.ownBlock) : Jn W R k (some (v', ys)) g w' := by
  have hk := h.od v xs rfl
  have hne : ∀ (i : Nat) (cur : Array Value), w.heap[i]? = some (.cells cur 28 (0, 0)) → some i ≠ v.ownBlock := fun i cur hh e2 => by
    obtain ⟨us2, _, _, hr2⟩ := hk
    rcases hr2 with ⟨rfl, _⟩ | ⟨i2, _, cur2, rfl, _, hh2, _⟩
    · simp [Value.ownBlock] at e2
    simp [Value.ownBlock] at e2
    subst e2
    rw [hh] at hh2
    injection hh2 with hh2
    injection hh2 with _ hh2
    exact absurd hh2 (by decide)
  refine ⟨⟨h2.os.trans h.below.os, h2.tape.trans h.below.tape, h2.output.trans h.below.output, Nat.le_trans h.below.size h2.size, fun i hi => (h2.block i (Nat.lt_of_lt_of_le hi h.below.size) fun e => ?_).trans (h.below.block i hi)⟩, fun u zs e => (h.kd u zs e).keep fun i hi => ?_, fun u zs e => by cases e; exact h1, fun b e => ?_⟩
  · have := (hk.lt e.symm).1; omega
  · have ho := (h.kd u zs e)
    refine h2.block i (ho.lt hi).2 ?_
    obtain ⟨us, _, _, hr⟩ := ho
    rcases hr with ⟨rfl, _⟩ | ⟨i', _, cur, rfl, _, hh, _⟩
    · simp [Value.ownBlock] at hi
    simp [Value.ownBlock] at hi
    subst hi
    exact hne _ _ hh
  · obtain ⟨a1, a2, a3⟩ := h.al b e
    exact ⟨a1, (h2.block b (Array.getElem?_eq_some_iff.1 a2).1 (hne b _ a2)).trans a2, a3⟩
theorem Jn.zeros {b : Nat} (h : Jn W R k o (some b) w) : (w.cell? ⟨b, 0, none⟩ = some (.int .i64 0) ∧ w.cell? ⟨b, 1, none⟩ = some (.string ⟨#[]⟩) ∧ w.cell? ⟨b, 2, none⟩ = some (.bool false) ∧ w.cell? ⟨b, 3, none⟩ = some (.bool false) ∧
      w.cell? ⟨b, 4, none⟩ = some (.slice none 0 0) ∧ w.cell? ⟨b, 5, none⟩ = some (.slice none 0 0) ∧ w.cell? ⟨b, 6, none⟩ = some (.slice none 0 0) ∧ w.cell? ⟨b, 7, none⟩ = some (.slice none 0 0) ∧ w.cell? ⟨b, 8, none⟩ = some (.slice none 0 0) ∧ w.cell? ⟨b, 9, none⟩ = some (.slice none 0 0)) ∧
    ∀ j, w.frozen? ⟨b, j, none⟩ = false := by
  obtain ⟨_, h2, _⟩ := h.al b rfl
  unfold zeroN at h2
  exact ⟨⟨cell_blk h2 0 _ rfl, cell_blk h2 1 _ rfl, cell_blk h2 2 _ rfl, cell_blk h2 3 _ rfl, cell_blk h2 4 _ rfl, cell_blk h2 5 _ rfl, cell_blk h2 6 _ rfl, cell_blk h2 7 _ rfl, cell_blk h2 8 _ rfl, cell_blk h2 9 _ rfl⟩, fun j => by simp [World.frozen?, h2]⟩
end
section
variable {β : Type} {W : World} {R : List Value → β → Prop}
theorem step_jk {ops : Array Oper} {op : Oper} {a : Act} {w : World} {K : Act → World → Prop} {Q : Exit → Act → World → Prop} {E : Prop} (hgd : op.guard = none) (s x : Operand)
    (ho : op.op = .call { callee := .builtin .append, args := #[s, x], argTypes := #[26, 26] }) (hone : ∀ vs x, R vs x → ∀ u ∈ vs, u.oneCell' = true)
    {v v2 : Value} {xs ys : List β} {o : Option (Value × List Int)} {g : Option Nat} {G : Nat → Prop} (hs : a.eval s = v) (hx : a.eval x = v2) (h : Jn W R (some (v, xs)) o g w) (hp : ∀ X, Below W.heap.size W X → SlAt G X 10 R v2 ys) (hlen : xs.length + ys.length ≤ 1073741824)
    (hK : ∀ A' n' c' w', Jn W R (some (.slice A' n' c', xs ++ ys)) o g w' → K (a.put op.dst (.slice A' n' c')) w') :
    if Region.wanted op (yielded ops a.tmps) = true then Oper.wp Tryz.prog op a w K Q else E := by
  have hw : Region.wanted op (yielded ops a.tmps) = true := by simp [Region.wanted, hgd]
  rw [if_pos hw]
  obtain ⟨v', w', hr, h2, h3, h4⟩ := (h.kd v xs rfl).append 26 Tryz.underlying26 info_nodeN (by decide) (by decide) hone op.type (hp w h.below) (by omega) (by unfold maxLen; omega) h.below.size
  have hj := h.kapp h2 h3 h4
  obtain ⟨A', c', rfl, _⟩ := h2.shape
  unfold WrA at hr
  unfold Oper.wp execOp
  simp only [ho, resolve, invoke, builtin, Sem.run_bind, Sem.run_pure, Result.andThen_ok, List.map_toArray, List.map_cons, List.map_nil, hs, hx, hr]
  exact hK A' _ c' w' hj
theorem step_jo {ops : Array Oper} {op : Oper} {a : Act} {w : World} {K : Act → World → Prop} {Q : Exit → Act → World → Prop} {E : Prop} (hgd : op.guard = none) (s x : Operand)
    (ho : op.op = .call { callee := .builtin .append, args := #[s, x], argTypes := #[22, 22] })
    {v v2 : Value} {xs ys : List Int} {k : Option (Value × List β)} {g : Option Nat} {G : Nat → Prop} (hs : a.eval s = v) (hx : a.eval x = v2) (h : Jn W R k (some (v, xs)) g w) (hp : ∀ X, Below W.heap.size W X → SlAt G X 1 IntV v2 ys) (hlen : xs.length + ys.length ≤ 1073741824)
    (hK : ∀ A' n' c' w', Jn W R k (some (.slice A' n' c', xs ++ ys)) g w' → K (a.put op.dst (.slice A' n' c')) w') :
    if Region.wanted op (yielded ops a.tmps) = true then Oper.wp Tryz.prog op a w K Q else E := by
  have hw : Region.wanted op (yielded ops a.tmps) = true := by simp [Region.wanted, hgd]
  rw [if_pos hw]
  obtain ⟨v', w', hr, h2, h3, _⟩ := (h.od v xs rfl).append 22 Tryz.underlying22 info_intN (by decide) (by decide) IntV.one op.type (hp w h.below) (by omega) (by unfold maxLen; omega) h.below.size
  have hj := h.oapp h2 h3
  obtain ⟨A', c', rfl, _⟩ := h2.shape
  unfold WrA at hr
  unfold Oper.wp execOp
  simp only [ho, resolve, invoke, builtin, Sem.run_bind, Sem.run_pure, Result.andThen_ok, List.map_toArray, List.map_cons, List.map_nil, hs, hx, hr]
  exact hK A' _ c' w' hj
end
def Jfin {f : Nat} (W : World) (b : Nat) (xs : List (Nd f)) (ys : List Int) (w : World) : Prop :=
  ∃ A c A' c', Below W.heap.size W w ∧ w.heap[b]? = some (.cells #[.int .i64 1, .string ⟨#[]⟩, .bool false, .bool false, .slice A ys.length c, .slice none 0 0, .slice none 0 0, .slice none 0 0, .slice none 0 0, .slice A' xs.length c'] 28 (0, 0)) ∧
    NdV (f + 1) (Old w) w [.int .i64 1, .string ⟨#[]⟩, .bool false, .bool false, .slice A ys.length c, .slice none 0 0, .slice none 0 0, .slice none 0 0, .slice none 0 0, .slice A' xs.length c'] (NdF.mk 1 ByteArray.empty false false ys [] [] [] [] xs)
theorem set_block {w : World} {b : Nat} {cs : Array Value} {T : TypeId} {fz : Nat × Nat} (h : w.heap[b]? = some (.cells cs T fz)) (j : Nat) (u : Value) : (w.setCell ⟨b, j, none⟩ u).heap[b]? = some (.cells (cs.setIfInBounds j u) T fz) := by
  simp [World.setCell, Array.getElem?_modify, h]
structure Sb (b : Nat) (w w' : World) : Prop where
  os : w'.os = w.os
  tape : w'.tape = w.tape
  output : w'.output = w.output
  size : w'.heap.size = w.heap.size
  oth : ∀ i, i ≠ b → w'.heap[i]? = w.heap[i]?
theorem Sb.refl (b : Nat) (w : World) : Sb b w w := ⟨rfl, rfl, rfl, rfl, fun _ _ => rfl⟩
theorem Sb.set {b : Nat} {w w' : World} (h : Sb b w w') (j : Nat) (u : Value) : Sb b w (w'.setCell ⟨b, j, none⟩ u) :=
  ⟨h.os, h.tape, h.output, by simp [World.setCell, h.size], fun i hi => (Below.heap_setCell _ _ _ _ hi).trans (h.oth i hi)⟩
set_option maxHeartbeats 2000000 in
theorem Jn.fin {f : Nat} {W w : World} {G : Nat → Prop} {b : Nat} {A A' : Option Addr} {n n' c c' : Nat} {xs : List (Nd f)} {ys : List Int} (hG : ∀ k, G k → k < W.heap.size) (h : Jn W (NdV f G W) (some (.slice A' n' c', xs)) (some (.slice A n c, ys)) (some b) w) :
    Jfin W b xs ys ((((((((((w.setCell ⟨b, 0, none⟩ (.int .i64 1)).setCell ⟨b, 1, none⟩ (.string ⟨#[]⟩)).setCell ⟨b, 2, none⟩ (.bool false)).setCell ⟨b, 3, none⟩ (.bool false)).setCell ⟨b, 4, none⟩ (.slice A n c)).setCell ⟨b, 5, none⟩ (.slice none 0 0)).setCell ⟨b, 6, none⟩ (.slice none 0 0)).setCell ⟨b, 7, none⟩ (.slice none 0 0)).setCell ⟨b, 8, none⟩ (.slice none 0 0)).setCell ⟨b, 9, none⟩ (.slice A' n' c')) := by
  obtain ⟨a1, a2, a3⟩ := h.al b rfl
  have hk := h.kd _ _ rfl
  have ho := h.od _ _ rfl
  obtain rfl : n' = xs.length := by
    obtain ⟨_, _, e, _⟩ := hk.shape
    injection e
  obtain rfl : n = ys.length := by
    obtain ⟨_, _, e, _⟩ := ho.shape
    injection e
  have hs : Sb b w ((((((((((w.setCell ⟨b, 0, none⟩ (.int .i64 1)).setCell ⟨b, 1, none⟩ (.string ⟨#[]⟩)).setCell ⟨b, 2, none⟩ (.bool false)).setCell ⟨b, 3, none⟩ (.bool false)).setCell ⟨b, 4, none⟩ (.slice A ys.length c)).setCell ⟨b, 5, none⟩ (.slice none 0 0)).setCell ⟨b, 6, none⟩ (.slice none 0 0)).setCell ⟨b, 7, none⟩ (.slice none 0 0)).setCell ⟨b, 8, none⟩ (.slice none 0 0)).setCell ⟨b, 9, none⟩ (.slice A' xs.length c')) :=
    (((((((((Sb.refl b w |>.set 0 _).set 1 _).set 2 _).set 3 _).set 4 _).set 5 _).set 6 _).set 7 _).set 8 _).set 9 _
  have hblk := set_block (set_block (set_block (set_block (set_block (set_block (set_block (set_block (set_block (set_block a2 0 (.int .i64 1)) 1 (.string ⟨#[]⟩)) 2 (.bool false)) 3 (.bool false)) 4 (.slice A ys.length c)) 5 (.slice none 0 0)) 6 (.slice none 0 0)) 7 (.slice none 0 0)) 8 (.slice none 0 0)) 9 (.slice A' xs.length c')
  generalize ((((((((((w.setCell ⟨b, 0, none⟩ (.int .i64 1)).setCell ⟨b, 1, none⟩ (.string ⟨#[]⟩)).setCell ⟨b, 2, none⟩ (.bool false)).setCell ⟨b, 3, none⟩ (.bool false)).setCell ⟨b, 4, none⟩ (.slice A ys.length c)).setCell ⟨b, 5, none⟩ (.slice none 0 0)).setCell ⟨b, 6, none⟩ (.slice none 0 0)).setCell ⟨b, 7, none⟩ (.slice none 0 0)).setCell ⟨b, 8, none⟩ (.slice none 0 0)).setCell ⟨b, 9, none⟩ (.slice A' xs.length c')) = w' at *
  have hoth := hs.oth
  have hb : Below W.heap.size W w' := ⟨hs.os.trans h.below.os, hs.tape.trans h.below.tape, hs.output.trans h.below.output, by rw [hs.size]; exact h.below.size, fun i hi => (hoth i (by omega)).trans (h.below.block i hi)⟩
  have hk' : Nrow W.heap.size 28 10 (NdV f G W) w' (.slice A' xs.length c') xs := hk.keep fun i hi => hoth i fun e => a3 _ _ rfl (e ▸ hi)
  have ho' : Nrow W.heap.size 3 1 IntV w' (.slice A ys.length c) ys := ho.keep fun i hi => hoth i fun e => by
    subst e
    obtain ⟨us, _, _, hr⟩ := ho
    rcases hr with ⟨e, _⟩ | ⟨i', _, cur, e, _, hh, _⟩
    · injection e with e1; subst e1; simp [Value.ownBlock] at hi
    · injection e with e1; subst e1
      simp [Value.ownBlock] at hi
      subst hi
      rw [a2] at hh
      injection hh with hh
      injection hh with _ hh
      exact absurd hh (by decide)
  have hsk : SlAt (Old w') w' 10 (NdV f G W) (.slice A' xs.length c') xs := hk'.look fun g hg => (hk'.lt hg).2
  have hsk' : SlAt (Old w') w' 10 (NdV f (Old w') w') (.slice A' xs.length c') xs := hsk.keep (fun _ h => h) (fun _ _ => rfl) fun vs x hx => hx.keep (fun k hk => Nat.lt_of_lt_of_le (hG k hk) hb.size) fun p hp => World.cell?_of_block (hb.block _ (hG _ hp))
  have hso : SlAt (Old w') w' 1 IntV (.slice A ys.length c) ys := ho'.look fun g hg => (ho'.lt hg).2
  have nl : ∀ {γ : Type} {sz : Nat} {Rr : List Value → γ → Prop}, SlAt (Old w') w' sz Rr (.slice none 0 0) [] := ⟨none, 0, rfl, Nat.le_refl _, Nat.zero_le _, fun h => absurd h (Nat.lt_irrefl _)⟩
  exact ⟨A, c, A', c', hb, hblk, _, _, _, _, _, _, rfl, ⟨show ByteArray.empty.size ≤ _ by decide, by simp⟩, hso, nl, nl, nl, nl, hsk'⟩
end Go.Proofs.YtjpopekmbmcggaaGreatDoor
namespace Go.Proofs.YtjpopekmbmcggaaGreatDoor
open Go.RowKit
def rsvVals : Array Value := (rsvL.map bs).toArray
def RsvAt (w : World) : Prop := ∃ t fr, w.heap[0]? = some (.cells rsvVals t fr)
theorem RsvAt.below {w w' : World} (h : RsvAt w) (hb : Below w.heap.size w w') : RsvAt w' := by
  obtain ⟨t, fr, hg⟩ := h
  exact ⟨t, fr, (hb.block 0 (Array.getElem?_eq_some_iff.1 hg).1).trans hg⟩
def rsvT (k : Nat) : List UInt8 := rsvL.getD k []
theorem cell_rsv (k : Nat) (h : k < 16) {w : World} (ht : RsvAt w) : w.cell? ⟨0, k, none⟩ = some (bs (rsvT k)) := by
  obtain ⟨t, fr, hg⟩ := ht
  rw [cell_of_row w 0 k rsvVals t fr hg]
  have : ∀ k : Fin 16, rsvVals[k.val]? = some (bs (rsvT k.val)) := fun k => by
    unfold rsvVals rsvT
    have hl : k.val < rsvL.length := by simp [rsvL]
    simp [List.getD, List.getElem?_eq_getElem hl]
  exact this ⟨k, h⟩
theorem rsvGo_drop (s : List UInt8) : ∀ k, k < 16 → rsvGo s (rsvL.drop k) (23 + k) = if rsvT k = s then (23 : Int) + k else rsvGo s (rsvL.drop (k + 1)) (23 + ((k + 1 : Nat) : Int)) := by
  have : ∀ k : Fin 16, rsvL.drop k.val = rsvT k.val :: rsvL.drop (k.val + 1) := by decide
  intro k hk
  rw [this ⟨k, hk⟩, rsvGo]
  simp only [Int.natCast_add, Int.natCast_one, ← Int.add_assoc]
set_option maxRecDepth 100000 in
set_option maxHeartbeats 1000000 in
theorem rsv_p (s : ByteArray) (w : World) (ht : RsvAt w) : Calls Tryz.prog 143 #[.string s] w fun e w' => e = .returned (.int .i64 (rsv s.toList)) ∧ w = w' := by
  have HT := Lib.hid ht
  clear ht
  go_enter Tryz.func143, Tryz.ntmps143
  go_wp2
  go_loop [4] (fun i => ∃ k : Nat, k ≤ 16 ∧ i = .int .i64 k ∧ rsvGo s.toList (rsvL.drop k) (23 + k) = rsv s.toList) (fun i => 16 - (intOf i).toNat)
  case atStart => exact ⟨0, by omega, rfl, rfl⟩
  case round =>
    obtain ⟨k, hk, rfl, hf⟩ := hrel
    have H := Lib.hid hf; clear hf
    by_cases hlt : k < 16
    · have hc := cell_rsv k hlt HT.out
      unfold bs at hc
      have HD := Lib.hid (rsvGo_drop s.toList k hlt)
      cases he : rsvT k == s.toList
      · have HE := Lib.hid (show ¬ rsvT k = s.toList from fun h => by simp [h] at he)
        go_wp2
        go_round
        case rel => exact ⟨k + 1, by omega, by go_num, by rw [← H.out, HD.out, if_neg HE.out]⟩
        case measure => simp only [intOf]; omega
      · have HE := Lib.hid (show rsvT k = s.toList from by simpa using he)
        go_wp2
        go_ret
        exact ⟨ret_int (by rw [← H.out, HD.out, if_pos HE.out]), rfl⟩
    · obtain rfl : k = 16 := by omega
      go_wp2
      go_ret
      exact ⟨ret_int (by rw [← H.out]; rfl), rfl⟩
end Go.Proofs.YtjpopekmbmcggaaGreatDoor
