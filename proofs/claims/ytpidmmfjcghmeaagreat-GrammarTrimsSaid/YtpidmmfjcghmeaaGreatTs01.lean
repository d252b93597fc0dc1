/- Texts in one: Base, GtPlain, Gr, Wr, GtMem. -/
import Derived.Test.YtpidmmfjcghmeaaGreatRows
import Derived.WalkKit
import Derived.WalkSpells
import Derived.WalkLawsBesides
import Derived.Lib.Hide
import Derived.Lib.Strings
import Derived.Maps.AppendAt
import Derived.Deep.AppendLies
import Derived.Deep.Draws
import Derived.BigQuiet
import Derived.Laws.EntriesVeiled
import Derived.LoopTactic
import Derived.Outline
import Derived.Deep.Upon
import Derived.Deep.OwnRows
import Derived.Below
namespace Go.Proofs.YtpidmmfjcghmeaaGreat
open Go.RowKit

/-- A string value out of a list of bytes. -/
def bs (l : List UInt8) : Value := .string ⟨l.toArray⟩

theorem ret_int {k : IntKind} {a b : Int} (h : a = b) : Ending.returned (.int k a) = .returned (.int k b) := by rw [h]
theorem ret_bool {a b : Bool} (h : a = b) : Ending.returned (.bool a) = .returned (.bool b) := by rw [h]
theorem ret_str {a b : ByteArray} (h : a = b) : Ending.returned (.string a) = .returned (.string b) := by rw [h]

theorem size_list (s : ByteArray) : s.size = s.toList.length := by rw [Lib.toList_data]; exact Lib.size_eq s
theorem ext_list {s t : ByteArray} (h : s.toList = t.toList) : s = t := by
  rw [Lib.toList_data, Lib.toList_data] at h
  rw [← Lib.mk_data s, ← Lib.mk_data t, h]
theorem mk_list (s : ByteArray) : (⟨s.toList.toArray⟩ : ByteArray) = s := by rw [Lib.toList_data, Lib.mk_data]
theorem list_mk (l : List UInt8) : (⟨l.toArray⟩ : ByteArray).toList = l := ByteArray.toList_mk l
theorem empty_list : ByteArray.empty.toList = [] := list_mk []
theorem empty_iff (s : ByteArray) : s = ByteArray.empty ↔ s.toList = [] := ⟨fun e => by rw [e, empty_list], fun e => ext_list (by rw [e, empty_list])⟩
theorem extract_list (s : ByteArray) (a b : Nat) : (s.extract a b).toList = (s.toList.drop a).take (b - a) := by rw [Lib.extract_toList, Lib.toList_data]
theorem take_list (s : ByteArray) (b : Nat) : (s.extract 0 b).toList = s.toList.take b := by rw [extract_list]; simp
theorem drop_list (s : ByteArray) (a : Nat) : (s.extract a s.size).toList = s.toList.drop a := by
  rw [extract_list, size_list]; exact List.take_of_length_le (by simp)
theorem append_list (s t : ByteArray) : (s ++ t).toList = s.toList ++ t.toList := by
  rw [Lib.toList_data, Lib.toList_data, Lib.toList_data]; simp [ByteArray.data_append]
theorem get_list (s : ByteArray) (i : Nat) (h : i < s.size) : s.toList[i]'(by rw [← size_list]; exact h) = s[i] := by
  have e := Lib.toList_data s
  simp only [e]
  rfl
theorem get?_list (s : ByteArray) (i : Nat) (h : i < s.size) : s.toList[i]? = some s[i] := by
  rw [← get_list s i h]; exact List.getElem?_eq_getElem _

theorem block_add (a : Addr) (n : Nat) : (a.add n).block = a.block := by unfold Addr.add; split <;> rfl
theorem add_add' (a : Addr) (i j : Nat) : (a.add i).add j = a.add (i + j) := by
  unfold Addr.add
  by_cases hi : i = 0 <;> by_cases hj : j = 0 <;> simp [hi, hj, Nat.add_assoc]

/-- 'Row w B size A n xs': the slice with address A and n elements (size cells each) reads as the cells xs, in a block below B. -/
def Row (w : World) (B size : Nat) (A : Option Addr) (n : Nat) (xs : List Value) : Prop :=
  xs.length = n * size ∧ (0 < n → ∃ ad, A = some ad ∧ ad.block < B ∧ ∀ j u, xs[j]? = some u → w.cell? (ad.add j) = some u)

section
variable {w w' : World} {B B' size n : Nat} {A : Option Addr} {xs : List Value}
theorem Row.nil : Row w B size A 0 [] := ⟨by simp, fun h => absurd h (by omega)⟩
theorem Row.keep (h : Row w B size A n xs) (hk : ∀ p : Addr, p.block < B → w'.cell? p = w.cell? p) : Row w' B size A n xs :=
  ⟨h.1, fun hn => by
    obtain ⟨ad, e, hb, hc⟩ := h.2 hn
    exact ⟨ad, e, hb, fun j u hu => (hk _ (by rw [block_add]; exact hb)).trans (hc j u hu)⟩⟩
theorem Row.more (h : Row w B size A n xs) (hB : B ≤ B') : Row w B' size A n xs :=
  ⟨h.1, fun hn => by
    obtain ⟨ad, e, hb, hc⟩ := h.2 hn
    exact ⟨ad, e, by omega, hc⟩⟩
theorem Row.below (h : Row w B size A n xs) (hb : Below B w w') : Row w' B size A n xs := h.keep fun _ hp => hb.cell hp
theorem Row.alloc (h : Row w B size A n xs) (hB : B ≤ w.heap.size) (o : Obj) : Row (w.alloc o) B size A n xs := h.keep fun p hp => World.cell?_alloc_lt w o p (by omega)
theorem Row.drew (h : Row w B size A n xs) : Row w.drew B size A n xs := h
/-- The one cell of element k (elements of one cell). -/
theorem Row.at1 {k : Nat} (h : Row w B 1 A n xs) (hk : k < n) : ∃ ad u, A = some ad ∧ ad.block < B ∧ xs[k]? = some u ∧ w.cell? (ad.add k) = some u := by
  obtain ⟨ad, e, hb, hc⟩ := h.2 (by omega)
  have hl : k < xs.length := by have := h.1; omega
  exact ⟨ad, xs[k], e, hb, List.getElem?_eq_getElem hl, hc k _ (List.getElem?_eq_getElem hl)⟩
theorem Row.of_own {base : Nat} {e : TypeId} {c : Nat} (h : w.ownsRow base e size (.slice A n c) n xs) : Row w w.heap.size size A n xs := by
  refine ⟨h.1, fun hn => ?_⟩
  rcases h.2 with ⟨_, h0⟩ | ⟨g, cap, cur, hv, hb, hg, _⟩
  · omega
  · have hA : A = some ⟨g, 0, none⟩ := by injection hv
    subst hA
    exact ⟨_, rfl, (Array.getElem?_eq_some_iff.1 hg).1, h.cells (g := g) rfl⟩
end

/-- What an owned row's value looks like. -/
theorem own_shape {w : World} {base size n : Nat} {e : TypeId} {v : Value} {xs : List Value} (h : w.ownsRow base e size v n xs) : ∃ A c, v = .slice A n c ∧ n ≤ c ∧ c ≤ maxLen := by
  rcases h.2 with ⟨rfl, rfl⟩ | ⟨g, cap, cur, rfl, _, _, h1, h2, _⟩
  · exact ⟨none, 0, rfl, Nat.le_refl _, by simp [maxLen]⟩
  · exact ⟨_, cap, rfl, h1, h2⟩

/-- Behind a contract that ends in 'Below': old cells and old marks read as before. -/
theorem bcell {W w1 : World} (hb : Below W.heap.size W w1) : (∀ b o, b < W.heap.size → w1.cell? ⟨b, o, none⟩ = W.cell? ⟨b, o, none⟩) ∧ (∀ b o, b < W.heap.size → w1.frozen? ⟨b, o, none⟩ = W.frozen? ⟨b, o, none⟩) :=
  ⟨fun b o h => hb.cell (p := ⟨b, o, none⟩) h, fun b o h => hb.frozen (p := ⟨b, o, none⟩) h⟩

theorem belowN {B : Nat} {a w : World} (h : Below B a w) (n : Nat) : Below B a (w.drewN n) := ⟨h.os, h.tape, h.output, h.size, h.block⟩

end Go.Proofs.YtpidmmfjcghmeaaGreat
namespace Go.Proofs.YtpidmmfjcghmeaaGreat

/-- A grammar: the terminals' names, the nonterminals', the start, the rules. -/
structure Gm where
  terms : List (List UInt8)
  nons : List (List UInt8)
  start : Int
  rules : List (Int × List Int)
namespace Gm
variable (g : Gm)
def top : Nat := g.terms.length + g.nons.length
def T (s : Int) : Prop := 1 ≤ s ∧ s ≤ (g.terms.length : Int)
def N (s : Int) : Prop := (g.terms.length : Int) < s ∧ s ≤ (g.top : Int)
instance (s : Int) : Decidable (g.T s) := by unfold T; infer_instance
instance (s : Int) : Decidable (g.N s) := by unfold N; infer_instance
def names : List (List UInt8) := g.terms ++ g.nons
def name (s : Int) : List UInt8 := g.names.getD (s - 1).toNat []
/-- A list of terminals is derived from symbols. -/
inductive Der : List Int → List Int → Prop
  | nil : Der [] []
  | term {s : Int} {a w : List Int} : g.T s → Der a w → Der (s :: a) (s :: w)
  | rule {A : Int} {b a u v : List Int} : (A, b) ∈ g.rules → Der b u → Der a v → Der (A :: a) (u ++ v)
inductive Reach : Int → Prop
  | start : Reach g.start
  | step {A : Int} {b : List Int} {s : Int} : (A, b) ∈ g.rules → Reach A → s ∈ b → Reach s
/-- All symbols are there. -/
structure Known : Prop where
  st : g.N g.start
  left : ∀ r ∈ g.rules, g.N r.1
  right : ∀ r ∈ g.rules, ∀ s ∈ r.2, g.T s ∨ g.N s
variable {g}
theorem Der.app {a b u v : List Int} (h : g.Der a u) (k : g.Der b v) : g.Der (a ++ b) (u ++ v) := by
  induction h with
  | nil => exact k
  | term ht _ ih => exact .term ht ih
  | rule hr h1 _ _ ih => rw [List.cons_append, List.append_assoc]; exact .rule hr h1 ih
theorem Der.nil_inv {w : List Int} (h : g.Der [] w) : w = [] := by
  cases h; rfl
theorem Der.split : ∀ {c w : List Int}, g.Der c w → ∀ a b, c = a ++ b → ∃ u v, w = u ++ v ∧ g.Der a u ∧ g.Der b v := by
  intro c w h
  induction h with
  | nil =>
    intro a b e
    obtain ⟨rfl, rfl⟩ := List.append_eq_nil_iff.1 e.symm
    exact ⟨[], [], rfl, .nil, .nil⟩
  | @term s c w ht h ih =>
    intro a b e
    cases a with
    | nil => exact ⟨[], _, rfl, .nil, by rw [show b = s :: c from e.symm]; exact .term ht h⟩
    | cons x a =>
      injection e with e1 e2
      subst e1
      obtain ⟨u, v, rfl, h1, h2⟩ := ih a b e2
      exact ⟨s :: u, v, rfl, .term ht h1, h2⟩
  | @rule A bb c u0 v0 hr h1 h2 _ ih =>
    intro a b e
    cases a with
    | nil => exact ⟨[], _, rfl, .nil, by rw [show b = A :: c from e.symm]; exact .rule hr h1 h2⟩
    | cons x a =>
      injection e with e1 e2
      subst e1
      obtain ⟨u, v, rfl, k1, k2⟩ := ih a b e2
      exact ⟨u0 ++ u, v, by rw [List.append_assoc], .rule hr h1 k1, k2⟩
theorem Der.mem {a w : List Int} (h : g.Der a w) {s : Int} (hs : s ∈ a) : ∃ u, g.Der [s] u := by
  obtain ⟨x, y, rfl⟩ := List.append_of_mem hs
  obtain ⟨_, v, _, _, h2⟩ := h.split x (s :: y) rfl
  obtain ⟨u, _, _, h3, _⟩ := h2.split [s] y rfl
  exact ⟨u, h3⟩
theorem Der.one {s : Int} {a w : List Int} (h : g.Der (s :: a) w) : ∃ u v, w = u ++ v ∧ g.Der [s] u ∧ g.Der a v := h.split [s] a rfl
theorem Der.terms {a w : List Int} (h : g.Der a w) : ∀ t ∈ w, g.T t := by
  induction h with
  | nil => intro t ht; cases ht
  | term hs _ ih => intro t ht; rcases List.mem_cons.1 ht with rfl | ht; exact hs; exact ih t ht
  | rule _ _ _ ih1 ih2 => intro t ht; rcases List.mem_append.1 ht with ht | ht; exact ih1 t ht; exact ih2 t ht
theorem not_T_of_N {s : Int} (h : g.N s) : ¬ g.T s := fun k => by unfold N at h; unfold T at k; omega
theorem Der.of_rule {A : Int} {u : List Int} (hA : g.N A) : g.Der [A] u ↔ ∃ b, (A, b) ∈ g.rules ∧ g.Der b u := by
  constructor
  · intro h
    cases h with
    | term ht _ => exact absurd ht (not_T_of_N hA)
    | rule hr h1 h2 => cases h2; exact ⟨_, hr, by rw [List.append_nil]; exact h1⟩
  · rintro ⟨b, hr, h⟩
    have := Der.rule hr h .nil
    rwa [List.append_nil] at this
theorem Der.of_term (hk : g.Known) {s : Int} {u : List Int} (hs : g.T s) : g.Der [s] u ↔ u = [s] := by
  constructor
  · intro h
    cases h with
    | term _ h2 => cases h2; rfl
    | rule hr _ _ => exact absurd hs (not_T_of_N (hk.left _ hr))
  · rintro rfl
    exact .term hs .nil

/-- Some of the rules alone. -/
def cut (g : Gm) (keep : Int × List Int → Bool) : Gm := { g with rules := g.rules.filter keep }
theorem der_cut {keep : Int × List Int → Bool} (h : ∀ r ∈ g.rules, (∃ u, g.Der r.2 u) → keep r = true) {a w : List Int} : g.Der a w ↔ (g.cut keep).Der a w := by
  constructor
  · intro k
    induction k with
    | nil => exact .nil
    | term hs _ ih => exact .term hs ih
    | rule hr h1 _ ih1 ih2 => exact .rule (List.mem_filter.2 ⟨hr, h _ hr ⟨_, h1⟩⟩) ih1 ih2
  · intro k
    induction k with
    | nil => exact .nil
    | term hs _ ih => exact .term hs ih
    | rule hr _ _ ih1 ih2 => exact .rule (List.mem_filter.1 hr).1 ih1 ih2
theorem Known.cut (hk : g.Known) (keep : Int × List Int → Bool) : (g.cut keep).Known :=
  ⟨hk.st, fun r hr => hk.left r (List.mem_filter.1 hr).1, fun r hr => hk.right r (List.mem_filter.1 hr).1⟩
theorem Reach.sym (hk : g.Known) {s : Int} (h : g.Reach s) : g.T s ∨ g.N s := by
  cases h with
  | start => exact .inr hk.st
  | step hr _ hs => exact hk.right _ hr _ hs
theorem Der.reach {a w : List Int} (h : g.Der a w) : (∀ s ∈ a, g.Reach s) → ∀ t ∈ w, g.Reach t := by
  induction h with
  | nil => intro _ t ht; cases ht
  | term _ _ ih =>
    intro ha t ht
    rcases List.mem_cons.1 ht with rfl | ht
    · exact ha _ (List.mem_cons_self ..)
    · exact ih (fun s hs => ha s (List.mem_cons_of_mem _ hs)) t ht
  | rule hr _ _ ih1 ih2 =>
    intro ha t ht
    rcases List.mem_append.1 ht with ht | ht
    · exact ih1 (fun s hs => .step hr (ha _ (List.mem_cons_self ..)) hs) t ht
    · exact ih2 (fun s hs => ha s (List.mem_cons_of_mem _ hs)) t ht

/-- A symbol's place in a list, from 1 on. -/
def pos (R : List Int) (s : Int) : Int := (R.idxOf s : Int) + 1
/-- Some symbols alone. -/
def only (g : Gm) (R : List Int) : Gm where
  terms := (R.filter fun s => decide (g.T s)).map g.name
  nons := (R.filter fun s => !decide (g.T s)).map g.name
  start := pos R g.start
  rules := (g.rules.filter fun r => R.contains r.1).map fun r => (pos R r.1, r.2.map (pos R))
/-- What a list of symbols is asked to be: rising, just those that are reached. -/
structure Just (g : Gm) (R : List Int) : Prop where
  up : R.Pairwise (· < ·)
  iff : ∀ s, s ∈ R ↔ g.Reach s
theorem two_parts {p : Int → Bool} : ∀ {l : List Int}, l.Pairwise (fun a b => p b = true → p a = true) → l = l.filter p ++ l.filter (fun s => !p s)
  | [], _ => rfl
  | x :: l, h => by
    rw [List.pairwise_cons] at h
    cases hx : p x
    · have hn : ∀ y ∈ l, p y = false := fun y hy => by
        cases hy2 : p y with
        | false => rfl
        | true => rw [h.1 y hy hy2] at hx; cases hx
      rw [List.filter_cons_of_neg (by simp [hx]), List.filter_cons_of_pos (by simp [hx]), show l.filter p = [] from List.filter_eq_nil_iff.2 fun y hy => by simp [hn y hy],
        show l.filter (fun s => !p s) = l from List.filter_eq_self.2 fun y hy => by simp [hn y hy]]
      rfl
    · rw [List.filter_cons_of_pos hx, List.filter_cons_of_neg (by simp [hx]), List.cons_append, ← two_parts h.2]
theorem mem_T_le {s : Int} (h : g.T s ∨ g.N s) : 1 ≤ s ∧ s ≤ (g.top : Int) := by
  unfold T N top at *
  omega
section
variable {R : List Int} (hk : g.Known) (hR : g.Just R)
include hk hR
theorem Just.sym {s : Int} (h : s ∈ R) : g.T s ∨ g.N s := ((hR.iff s).1 h).sym hk
theorem Just.parts : R = (R.filter fun s => decide (g.T s)) ++ (R.filter fun s => !decide (g.T s)) := by
  refine two_parts ((List.Pairwise.imp_of_mem (fun {a b} ha hb hab => ?_) hR.up))
  intro h
  have h1 := hR.sym hk ha
  simp only [decide_eq_true_eq] at h ⊢
  unfold T N at *
  omega
omit hk in
theorem Just.nodup : R.Nodup := hR.up.imp fun h => by omega
omit hk hR in
theorem pos_inj {s t : Int} (hs : s ∈ R) (ht : t ∈ R) (h : pos R s = pos R t) : s = t := by
  unfold pos at h
  have h1 : R.idxOf s = R.idxOf t := by omega
  have h2 := List.getElem_idxOf (List.idxOf_lt_length_iff.2 hs)
  have h3 := List.getElem_idxOf (List.idxOf_lt_length_iff.2 ht)
  rw [← h2, ← h3]
  simp [h1]
theorem Just.len : (g.only R).terms.length + (g.only R).nons.length = R.length := by
  have h := congrArg List.length (hR.parts hk)
  rw [List.length_append] at h
  simp only [only, List.length_map]
  omega
/-- A place among the terminals, just if it is a terminal. -/
theorem Just.pos_T {s : Int} (hs : s ∈ R) : (g.only R).T (pos R s) ↔ g.T s := by
  have hp := hR.parts hk
  have hl : (g.only R).terms.length = (R.filter fun s => decide (g.T s)).length := by simp [only]
  unfold T pos
  rw [hl]
  constructor
  · intro h
    have hlt : R.idxOf s < (R.filter fun s => decide (g.T s)).length := by omega
    have h2 := List.getElem_idxOf (List.idxOf_lt_length_iff.2 hs)
    have h3 : R[R.idxOf s]'(List.idxOf_lt_length_iff.2 hs) ∈ R.filter fun s => decide (g.T s) := by
      have : ∀ (A B : List Int) (i : Nat) (h : i < R.length), R = A ++ B → i < A.length → R[i] ∈ A := fun A B i h e hi => by
        subst e
        rw [List.getElem_append_left hi]
        exact List.getElem_mem hi
      exact this _ _ _ _ hp hlt
    rw [h2] at h3
    exact of_decide_eq_true (List.mem_filter.1 h3).2
  · intro h
    have hm : s ∈ R.filter fun s => decide (g.T s) := List.mem_filter.2 ⟨hs, decide_eq_true h⟩
    have : R.idxOf s < (R.filter fun s => decide (g.T s)).length := by
      have h3 : R.idxOf s = (R.filter fun s => decide (g.T s)).idxOf s := by
        conv => lhs; rw [hp]
        rw [List.idxOf_append, if_pos hm]
      rw [h3]
      exact List.idxOf_lt_length_iff.2 hm
    omega
theorem Just.pos_N {s : Int} (hs : s ∈ R) : (g.only R).N (pos R s) ↔ g.N s := by
  have h1 := hR.pos_T hk hs
  have h2 := hR.sym hk hs
  have h3 := hR.len hk
  have h4 : pos R s ≤ (R.length : Int) := by
    have := List.idxOf_lt_length_iff.2 hs
    unfold pos
    omega
  have h5 : (1 : Int) ≤ pos R s := by unfold pos; omega
  unfold T N top at *
  omega
omit hk in
theorem Just.right {r : Int × List Int} (hr : r ∈ g.rules) (hl : r.1 ∈ R) : ∀ s ∈ r.2, s ∈ R := fun s hs => (hR.iff s).2 (.step (A := r.1) (b := r.2) hr ((hR.iff _).1 hl) hs)
omit hk hR in
theorem mem_only {q : Int × List Int} : q ∈ (g.only R).rules ↔ ∃ r ∈ g.rules, r.1 ∈ R ∧ q = (pos R r.1, r.2.map (pos R)) := by
  simp only [only, List.mem_map, List.mem_filter, List.contains_iff_mem]
  constructor
  · rintro ⟨r, ⟨h1, h2⟩, rfl⟩; exact ⟨r, h1, h2, rfl⟩
  · rintro ⟨r, h1, h2, rfl⟩; exact ⟨r, ⟨h1, h2⟩, rfl⟩
omit hk hR in
theorem map_inj : ∀ {a b : List Int}, (∀ s ∈ a, s ∈ R) → (∀ s ∈ b, s ∈ R) → a.map (pos R) = b.map (pos R) → a = b
  | [], [], _, _, _ => rfl
  | [], _ :: _, _, _, h => by simp at h
  | _ :: _, [], _, _, h => by simp at h
  | x :: a, y :: b, ha, hb, h => by
    rw [List.map_cons, List.map_cons] at h
    injection h with h1 h2
    rw [pos_inj (ha x (List.mem_cons_self ..)) (hb y (List.mem_cons_self ..)) h1, map_inj (fun s hs => ha s (List.mem_cons_of_mem _ hs)) (fun s hs => hb s (List.mem_cons_of_mem _ hs)) h2]
theorem Just.der {a w : List Int} (h : g.Der a w) : (∀ s ∈ a, s ∈ R) → (g.only R).Der (a.map (pos R)) (w.map (pos R)) := by
  induction h with
  | nil => intro _; exact .nil
  | term hs _ ih =>
    intro ha
    exact .term ((hR.pos_T hk (ha _ (List.mem_cons_self ..))).2 hs) (ih fun s hs => ha s (List.mem_cons_of_mem _ hs))
  | @rule A b a u v hr _ _ ih1 ih2 =>
    intro ha
    have hA := ha A (List.mem_cons_self ..)
    rw [List.map_append, List.map_cons]
    exact .rule (mem_only.2 ⟨(A, b), hr, hA, rfl⟩) (ih1 (hR.right hr hA)) (ih2 fun s hs => ha s (List.mem_cons_of_mem _ hs))
theorem Just.der' {a' w' : List Int} (h : (g.only R).Der a' w') : ∀ a, a' = a.map (pos R) → (∀ s ∈ a, s ∈ R) → ∃ w, w' = w.map (pos R) ∧ g.Der a w := by
  induction h with
  | nil =>
    intro a e _
    obtain rfl := List.map_eq_nil_iff.1 e.symm
    exact ⟨[], rfl, .nil⟩
  | term hs _ ih =>
    intro a e ha
    cases a with
    | nil => cases e
    | cons s a =>
      injection e with e1 e2
      subst e1
      obtain ⟨w, rfl, hw⟩ := ih a e2 fun s hs => ha s (List.mem_cons_of_mem _ hs)
      exact ⟨s :: w, rfl, .term ((hR.pos_T hk (ha s (List.mem_cons_self ..))).1 hs) hw⟩
  | rule hr _ _ ih1 ih2 =>
    intro a e ha
    cases a with
    | nil => cases e
    | cons s a =>
      injection e with e1 e2
      obtain ⟨⟨A, b⟩, h1, h2, h3⟩ := mem_only.1 hr
      injection h3 with h3 h4
      obtain rfl : s = A := pos_inj (ha s (List.mem_cons_self ..)) h2 (e1.symm.trans h3)
      obtain ⟨u, rfl, hu⟩ := ih1 b h4 (hR.right h1 h2)
      obtain ⟨v, rfl, hv⟩ := ih2 a e2 fun s hs => ha s (List.mem_cons_of_mem _ hs)
      exact ⟨u ++ v, by rw [List.map_append], .rule h1 hu hv⟩
/-- A list all of which is reached: derived just if its places are. -/
theorem Just.word {l : List Int} (hl : ∀ s ∈ l, s ∈ R) : g.Der [g.start] l ↔ (g.only R).Der [(g.only R).start] (l.map (pos R)) := by
  have hs : ∀ s ∈ [g.start], s ∈ R := fun s hs => by rw [List.mem_singleton] at hs; subst hs; exact (hR.iff _).2 .start
  constructor
  · intro h; exact hR.der hk h hs
  · intro h
    obtain ⟨w, e, hw⟩ := hR.der' hk h [g.start] rfl hs
    have := map_inj hl (fun s hm => (hR.iff s).2 (hw.reach (fun s k => (hR.iff s).1 (hs s k)) s hm)) e
    rwa [this]
theorem Just.known : (g.only R).Known where
  st := (hR.pos_N hk ((hR.iff _).2 .start)).2 hk.st
  left r hr := by
    obtain ⟨q, h1, h2, rfl⟩ := mem_only.1 hr
    exact (hR.pos_N hk h2).2 (hk.left q h1)
  right r hr s hs := by
    obtain ⟨q, h1, h2, rfl⟩ := mem_only.1 hr
    obtain ⟨t, ht, rfl⟩ := List.mem_map.1 hs
    have hm := hR.right h1 h2 t ht
    exact (hk.right q h1 t ht).imp (hR.pos_T hk hm).2 (hR.pos_N hk hm).2
/-- Each symbol of it is a place. -/
theorem Just.is_pos {s : Int} (hs : (g.only R).T s ∨ (g.only R).N s) : ∃ t ∈ R, s = pos R t := by
  have h1 := mem_T_le hs
  have h2 := hR.len hk
  unfold top at h1
  have hlt : (s - 1).toNat < R.length := by omega
  refine ⟨R[(s - 1).toNat], List.getElem_mem hlt, ?_⟩
  unfold pos
  have := hR.nodup.idxOf_getElem (s - 1).toNat hlt
  rw [this]
  omega
omit hk in
theorem Just.reach {s : Int} (h : g.Reach s) : (g.only R).Reach (pos R s) := by
  induction h with
  | start => exact .start
  | @step A b s hr hA hs ih => exact .step (mem_only.2 ⟨(A, b), hr, (hR.iff _).2 hA, rfl⟩) ih (List.mem_map.2 ⟨s, hs, rfl⟩)
theorem Just.all_reached {s : Int} (hs : (g.only R).T s ∨ (g.only R).N s) : (g.only R).Reach s := by
  obtain ⟨t, ht, rfl⟩ := hR.is_pos hk hs
  exact hR.reach ((hR.iff t).1 ht)
theorem Just.productive (hp : ∀ s, g.Reach s → g.N s → ∃ w, g.Der [s] w) {s : Int} (hs : (g.only R).N s) : ∃ w, (g.only R).Der [s] w := by
  obtain ⟨t, ht, rfl⟩ := hR.is_pos hk (.inr hs)
  obtain ⟨w, hw⟩ := hp t ((hR.iff t).1 ht) ((hR.pos_N hk ht).1 hs)
  exact ⟨_, hR.der hk hw fun s h => by rw [List.mem_singleton] at h; subst h; exact ht⟩
theorem Just.names : (g.only R).names = R.map g.name := by
  conv => rhs; rw [hR.parts hk]
  rw [List.map_append]
  rfl
end
theorem name_inj (hn : g.names.Nodup) {s t : Int} (hs : g.T s ∨ g.N s) (ht : g.T t ∨ g.N t) (h : g.name s = g.name t) : s = t := by
  have h1 := mem_T_le hs
  have h2 := mem_T_le ht
  have hl : g.names.length = g.top := by simp [names, top]
  unfold name at h
  have k1 : (s - 1).toNat < g.names.length := by omega
  have k2 : (t - 1).toNat < g.names.length := by omega
  rw [List.getD_eq_getElem?_getD, List.getD_eq_getElem?_getD, List.getElem?_eq_getElem k1, List.getElem?_eq_getElem k2] at h
  simp only [Option.getD_some] at h
  have hp := List.pairwise_iff_getElem.1 hn
  rcases Nat.lt_trichotomy (s - 1).toNat (t - 1).toNat with hlt | heq | hgt
  · exact absurd h (hp _ _ k1 k2 hlt)
  · omega
  · exact absurd h.symm (hp _ _ k2 k1 hgt)
section
variable {R : List Int} (hk : g.Known) (hR : g.Just R) (hn : g.names.Nodup)
include hk hR hn
theorem Just.names_nodup : (g.only R).names.Nodup := by
  rw [hR.names hk]
  refine List.pairwise_map.2 (List.Pairwise.imp_of_mem (fun {a b} ha hb hab e => hab ?_) hR.nodup)
  exact name_inj hn (hR.sym hk ha) (hR.sym hk hb) e
/-- A terminal's name is found at its place, or not at all. -/
theorem Just.find {s : Int} (hs : g.T s ∨ g.N s) : (g.only R).names.idxOf (g.name s) = if s ∈ R then R.idxOf s else R.length := by
  rw [hR.names hk]
  have key : ∀ l : List Int, (∀ t ∈ l, g.T t ∨ g.N t) → (l.map g.name).idxOf (g.name s) = if s ∈ l then l.idxOf s else l.length := by
    intro l hl
    induction l with
    | nil => simp
    | cons x l ih =>
      have ih := ih fun t ht => hl t (List.mem_cons_of_mem _ ht)
      rw [List.map_cons, List.idxOf_cons]
      by_cases hx : x = s
      · subst hx; simp
      · have hne : g.name x ≠ g.name s := fun e => hx (name_inj hn (hl x (List.mem_cons_self ..)) hs e)
        rw [List.idxOf_cons, beq_false_of_ne hne, beq_false_of_ne hx, cond_false, cond_false, ih]
        have hm : s ∈ x :: l ↔ s ∈ l := by simp [Ne.symm hx]
        by_cases h : s ∈ l
        · rw [if_pos h, if_pos (hm.2 h)]
        · rw [if_neg h, if_neg (fun k => h (hm.1 k)), List.length_cons]
  exact key R fun t ht => hR.sym hk ht
end
end Gm
namespace Gm
/-- A grammar that may be: so many names and rules at most, names of their form, each once, all symbols there, no rule twice, each nonterminal with a rule. -/
structure Wf (pt pn : List UInt8 → Prop) (mt mn mr mx : Nat) (g : Gm) : Prop where
  lt : g.terms.length ≤ mt
  ln : g.nons.length ≤ mn
  lr : g.rules.length ≤ mr
  lx : ∀ r ∈ g.rules, r.2.length ≤ mx
  ft : ∀ s ∈ g.terms, pt s
  fn : ∀ s ∈ g.nons, pn s
  nd : g.names.Nodup
  kn : g.Known
  ul : g.rules.Nodup
  has : ∀ s, g.N s → ∃ r ∈ g.rules, r.1 = s
theorem up_len : ∀ (l : List Int) (a b : Int), l.Pairwise (· < ·) → (∀ s ∈ l, a < s ∧ s ≤ b) → a ≤ b → (l.length : Int) ≤ b - a
  | [], a, b, _, _, hab => by simp; omega
  | x :: l, a, b, h, hl, hab => by
    rw [List.pairwise_cons] at h
    have h1 := hl x (List.mem_cons_self ..)
    have := up_len l x b h.2 (fun s hs => ⟨h.1 s hs, (hl s (List.mem_cons_of_mem _ hs)).2⟩) h1.2
    rw [List.length_cons]
    omega
theorem name_T {g : Gm} {s : Int} (h : g.T s) : g.name s ∈ g.terms := by
  unfold T at h
  have k : (s - 1).toNat < g.terms.length := by omega
  unfold name names
  rw [List.getD_eq_getElem?_getD, List.getElem?_append_left k, List.getElem?_eq_getElem k]
  exact List.getElem_mem k
theorem name_N {g : Gm} {s : Int} (h : g.N s) : g.name s ∈ g.nons := by
  unfold N top at h
  have k : (s - 1).toNat - g.terms.length < g.nons.length := by omega
  unfold name names
  rw [List.getD_eq_getElem?_getD, List.getElem?_append_right (by omega), List.getElem?_eq_getElem k]
  exact List.getElem_mem k
theorem cut_name {g : Gm} (keep : Int × List Int → Bool) : (g.cut keep).name = g.name := rfl
/-- Trimmed: it may be, too. -/
theorem Wf.trim {pt pn : List UInt8 → Prop} {mt mn mr mx : Nat} {g : Gm} (h : Wf pt pn mt mn mr mx g) {keep : Int × List Int → Bool} {R : List Int} (hR : (g.cut keep).Just R)
    (hp : ∀ s, (g.cut keep).Reach s → (g.cut keep).N s → ∃ w, (g.cut keep).Der [s] w) : Wf pt pn mt mn mr mx ((g.cut keep).only R) := by
  have hk := h.kn.cut keep
  have e1 : ((g.cut keep).only R).terms = (R.filter fun s => decide (g.T s)).map g.name := rfl
  have e2 : ((g.cut keep).only R).nons = (R.filter fun s => !decide (g.T s)).map g.name := rfl
  have hup : ∀ p : Int → Bool, (R.filter p).Pairwise (· < ·) := fun p => hR.up.sublist List.filter_sublist
  have hN : ∀ s ∈ R.filter fun s => !decide (g.T s), g.N s := fun s hs => by
    have h1 := List.mem_filter.1 hs
    have h2 : ¬ g.T s := by simpa using h1.2
    exact (hR.sym hk h1.1).resolve_left h2
  have hr : ((g.cut keep).only R).rules.length ≤ g.rules.length := by
    simp only [only, List.length_map]
    exact Nat.le_trans (List.length_filter_le _ _) (List.length_filter_le _ _)
  refine ⟨?_, ?_, Nat.le_trans hr h.lr, ?_, ?_, ?_, hR.names_nodup hk h.nd, hR.known hk, ?_, ?_⟩
  · have := up_len _ 0 g.terms.length (hup fun s => decide (g.T s)) (fun s hs => by
      have h1 : g.T s := of_decide_eq_true (List.mem_filter.1 hs).2
      unfold T at h1
      omega) (by omega)
    rw [e1, List.length_map]
    have := h.lt
    omega
  · have := up_len _ g.terms.length g.top (hup fun s => !decide (g.T s)) (fun s hs => by
      have h1 := hN s hs
      unfold N at h1
      omega) (by unfold top; omega)
    rw [e2, List.length_map]
    have := h.ln
    have ht : g.top = g.terms.length + g.nons.length := rfl
    omega
  · intro r hr
    obtain ⟨q, h1, _, rfl⟩ := mem_only.1 hr
    rw [List.length_map]
    exact h.lx q (List.mem_filter.1 h1).1
  · intro s hs
    rw [e1] at hs
    obtain ⟨t, ht, rfl⟩ := List.mem_map.1 hs
    exact h.ft _ (name_T (of_decide_eq_true (List.mem_filter.1 ht).2))
  · intro s hs
    rw [e2] at hs
    obtain ⟨t, ht, rfl⟩ := List.mem_map.1 hs
    exact h.fn _ (name_N (hN t ht))
  · have hu : (g.cut keep).rules.Nodup := h.ul.sublist List.filter_sublist
    refine List.pairwise_map.2 (List.Pairwise.imp_of_mem (fun {a b} ha hb hab e => hab ?_) (hu.sublist (List.filter_sublist (p := fun r : Int × List Int => R.contains r.1))))
    have ha' := List.mem_filter.1 ha
    have hb' := List.mem_filter.1 hb
    have ma : a.1 ∈ R := by simpa using ha'.2
    have mb : b.1 ∈ R := by simpa using hb'.2
    injection e with e1 e2
    have k1 := pos_inj ma mb e1
    have k2 := map_inj (hR.right ha'.1 ma) (hR.right hb'.1 mb) e2
    obtain ⟨a1, a2⟩ := a
    obtain ⟨b1, b2⟩ := b
    simp only at k1 k2
    rw [k1, k2]
  · intro s hs
    obtain ⟨w, hw⟩ := hR.productive hk hp hs
    obtain ⟨b, hb, _⟩ := (Der.of_rule hs).1 hw
    exact ⟨_, hb, rfl⟩

/-- A part of a list. -/
def seg (l : List Int) (i j : Nat) : List Int := (l.drop i).take (j - i)
/-- Is the list between two places derived from symbols, by a chart? -/
def Span (D : Int → Nat → Nat → Prop) : List Int → Nat → Nat → Prop
  | [], i, j => i = j
  | x :: r, i, j => ∃ m, i ≤ m ∧ m ≤ j ∧ D x i m ∧ Span D r m j
theorem seg_len {l : List Int} {i j : Nat} (hij : i ≤ j) (hj : j ≤ l.length) : (seg l i j).length = j - i := by
  unfold seg
  rw [List.length_take, List.length_drop]
  omega
theorem seg_app {l : List Int} {i m j : Nat} (h1 : i ≤ m) (h2 : m ≤ j) (_ : j ≤ l.length) : seg l i m ++ seg l m j = seg l i j := by
  unfold seg
  have : l.drop m = (l.drop i).drop (m - i) := by rw [List.drop_drop]; congr 1; omega
  rw [this, show j - i = (m - i) + (j - m) by omega, List.take_add]
theorem seg_one {l : List Int} {i : Nat} (h : i < l.length) : seg l i (i + 1) = [l[i]] := by
  unfold seg
  rw [show i + 1 - i = 1 by omega, List.drop_eq_getElem_cons h]
  rfl
/-- What a chart says is so. -/
theorem span_sound {g : Gm} {l : List Int} {D : Int → Nat → Nat → Prop} (hD : ∀ s i j, i ≤ j → j ≤ l.length → D s i j → g.Der [s] (seg l i j)) : ∀ (a : List Int) (i j : Nat), i ≤ j → j ≤ l.length → Span D a i j → g.Der a (seg l i j)
  | [], _, _, _, _, h => by
    obtain rfl := (show _ = _ from h)
    unfold seg
    rw [Nat.sub_self, List.take_zero]
    exact .nil
  | x :: r, i, j, hij, hj, ⟨m, h1, h2, h3, h4⟩ => have _ := hij; seg_app h1 h2 hj ▸ (hD x i m h1 (Nat.le_trans h2 hj) h3).app (span_sound hD r m j h2 hj h4)
/-- A chart to which no rule adds says all that is so. -/
theorem span_complete {g : Gm} {l : List Int} {D : Int → Nat → Nat → Prop} (h0 : ∀ (i : Nat) (h : i < l.length), g.T l[i] → D l[i] i (i + 1))
    (hc : ∀ r ∈ g.rules, ∀ i j, i ≤ j → j ≤ l.length → Span D r.2 i j → D r.1 i j) {a w : List Int} (h : g.Der a w) : ∀ i j, i ≤ j → j ≤ l.length → seg l i j = w → Span D a i j := by
  induction h with
  | nil =>
    intro i j hij hj e
    have := seg_len hij hj
    rw [e] at this
    simp at this
    show i = j
    omega
  | @term s a w hs _ ih =>
    intro i j hij hj e
    have hl := seg_len hij hj
    rw [e, List.length_cons] at hl
    have hi : i < l.length := by omega
    have h1 := seg_app (l := l) (i := i) (m := i + 1) (j := j) (by omega) (by omega) hj
    rw [e, seg_one hi] at h1
    injection h1 with h1 h2
    subst h1
    exact ⟨i + 1, by omega, by omega, h0 i hi hs, ih _ _ (by omega) hj h2⟩
  | @rule A b a u v hr _ _ ih1 ih2 =>
    intro i j hij hj e
    have hl := seg_len hij hj
    rw [e, List.length_append] at hl
    have h1 := seg_app (l := l) (i := i) (m := i + u.length) (j := j) (by omega) (by omega) hj
    rw [e] at h1
    have h2 := List.append_inj h1 (by rw [seg_len (by omega) (by omega)]; omega)
    exact ⟨i + u.length, by omega, by omega, hc _ hr _ _ (by omega) (by omega) (ih1 _ _ (by omega) (by omega) h2.1), ih2 _ _ (by omega) hj h2.2⟩
end Gm
namespace Gm
/-- Has it a word? -/
def Prod (g : Gm) (s : Int) : Prop := ∃ w, g.Der [s] w
/-- A rule all of whose nonterminals have words. -/
def Fine (g : Gm) (r : Int × List Int) : Prop := ∀ s ∈ r.2, g.N s → g.Prod s
noncomputable def keep (g : Gm) (r : Int × List Int) : Bool := @decide (g.Fine r) (Classical.propDecidable _)
noncomputable def live (g : Gm) : Gm := g.cut g.keep
theorem live_der {g : Gm} {a w : List Int} : g.Der a w ↔ g.live.Der a w :=
  der_cut fun _ _ ⟨_, hu⟩ => @decide_eq_true _ (Classical.propDecidable _) fun _ hs _ => hu.mem hs
theorem live_prod {g : Gm} (h0 : g.Prod g.start) {s : Int} (h : g.live.Reach s) (hN : g.live.N s) : ∃ w, g.live.Der [s] w := by
  have : g.Prod s := by
    cases h with
    | start => exact h0
    | step hr _ hs =>
      have h1 := @of_decide_eq_true _ (Classical.propDecidable _) (List.mem_filter.1 hr).2
      exact h1 _ hs hN
  obtain ⟨w, hw⟩ := this
  exact ⟨w, live_der.1 hw⟩
/-- What is reached, rising. -/
noncomputable def reached (g : Gm) : List Int := ((List.range g.top).map fun (i : Nat) => (i : Int) + 1).filter fun s => @decide (g.Reach s) (Classical.propDecidable _)
theorem reached_just {g : Gm} (hk : g.Known) : g.Just g.reached where
  up := by
    refine List.Pairwise.sublist List.filter_sublist ?_
    rw [List.pairwise_map]
    exact (List.pairwise_lt_range).imp fun h => by omega
  iff s := by
    unfold reached
    rw [List.mem_filter, List.mem_map]
    constructor
    · intro h; exact @of_decide_eq_true _ (Classical.propDecidable _) h.2
    · intro h
      have := mem_T_le (h.sym hk)
      exact ⟨⟨(s - 1).toNat, List.mem_range.2 (by omega), by omega⟩, @decide_eq_true _ (Classical.propDecidable _) h⟩
/-- Of use alone. -/
noncomputable def trim (g : Gm) : Gm := g.live.only g.live.reached
theorem live_just {g : Gm} (hk : g.Known) : g.live.Just g.live.reached := reached_just (hk.cut _)
/-- A list one of whose terminals is not in it has no tree. -/
theorem trim_not {g : Gm} (hk : g.Known) {l : List Int} {t : Int} (ht : t ∈ l) (h : t ∉ g.live.reached) : ¬ g.Der [g.start] l := fun hd =>
  h (((live_just hk).iff t).2 ((live_der.1 hd).reach (fun s hs => by rw [List.mem_singleton] at hs; subst hs; exact .start) t ht))
theorem trim_word {g : Gm} (hk : g.Known) {l : List Int} (h : ∀ t ∈ l, t ∈ g.live.reached) : g.Der [g.start] l ↔ g.trim.Der [g.trim.start] (l.map (pos g.live.reached)) :=
  live_der.trans ((live_just hk).word (hk.cut _) h)
theorem trim_wf {pt pn : List UInt8 → Prop} {mt mn mr mx : Nat} {g : Gm} (h : Wf pt pn mt mn mr mx g) (h0 : g.Prod g.start) : Wf pt pn mt mn mr mx g.trim :=
  h.trim (live_just h.kn) fun _ => live_prod h0
theorem trim_live {g : Gm} (hk : g.Known) (h0 : g.Prod g.start) {s : Int} (hs : g.trim.T s ∨ g.trim.N s) : g.trim.Reach s ∧ (g.trim.N s → g.trim.Prod s) :=
  ⟨(live_just hk).all_reached (hk.cut _) hs, fun hN => (live_just hk).productive (hk.cut _) (fun _ => live_prod h0) hN⟩
theorem trim_find {g : Gm} (hk : g.Known) (hn : g.names.Nodup) {s : Int} (hs : g.T s ∨ g.N s) : g.trim.names.idxOf (g.name s) = if s ∈ g.live.reached then g.live.reached.idxOf s else g.live.reached.length :=
  (live_just hk).find (hk.cut _) hn hs
end Gm
end Go.Proofs.YtpidmmfjcghmeaaGreat
namespace Go.Proofs.YtpidmmfjcghmeaaGreat
open Go.RowKit

section
variable {P : Program}
theorem wp_region_class {id : Nat} {Q : Exit → Act → World → Prop} {a : Act} {w : World} {l : List Oper} {S : Type} (f : S → World) (hm : P.follows .mixedOrders = true) (hB : Region.lexB .any l.toArray = true)
    (hC : ∃ x, w.drew = f x) (h : wpQuiet P l.toArray (fun w' => ∃ x, w' = f x) (fun a' => ∀ w', (∃ x, w' = f x) → Q .normal a' w') l a) : (Code.region id l.toArray true).wp P Q a w :=
  wp_region_quiet (C := fun w' => ∃ x, w' = f x) hm hB hC (by simpa using h)
end

/-- The worlds grown from w. -/
def Gr (w : World) : Type := { w' : World // Below w.heap.size w w' }
def Gr.at_ {w : World} (x : Gr w) : World := x.1
theorem cell_lt {w : World} {p : Addr} {v : Value} (h : w.cell? p = some v) : p.block < w.heap.size := by
  unfold World.cell? at h
  split at h
  · rename_i hc
    exact (Array.getElem?_eq_some_iff.1 hc).1
  · exact absurd h (by simp)
theorem Gr.cell {w : World} (x : Gr w) (p : Addr) (v : Value) (h : w.cell? p = some v) : x.at_.cell? p = some v := by
  rw [← h]
  exact World.cell?_of_block (x.2.block _ (cell_lt h))
theorem Gr.drew (w : World) : ∃ x : Gr w, w.drew = x.at_ := ⟨⟨w.drew, (Below.refl _ _).drew⟩, rfl⟩
/-- A call in a grown world. -/
theorem Gr.calls {P : Program} {f : FuncId} {args : Array Value} {w : World} (x : Gr w) {v : Value}
    (h : Calls P f args x.at_ fun e w' => e = .returned v ∧ Below x.at_.heap.size x.at_ w') : Calls P f args x.at_ fun e w' => e = .returned v ∧ ∃ y : Gr w, w' = y.at_ :=
  h.mono fun _ w' ⟨he, hb⟩ => ⟨he, ⟨⟨w', x.2.trans ⟨hb.os, hb.tape, hb.output, hb.size, fun k hk => hb.block k (Nat.lt_of_lt_of_le hk x.2.size)⟩⟩, rfl⟩⟩
end Go.Proofs.YtpidmmfjcghmeaaGreat
namespace Go.Proofs.YtpidmmfjcghmeaaGreat
open Go.RowKit

def WrA (P : Program) (ts : Array TypeId) (ty : TypeId) (vs : Array Value) (w : World) : Result Value := (Builtin.append_ ts ty vs).run P w

theorem wp_append_wr {P : Program} {d : Option Tmp} {s x : Operand} {t t' ty : TypeId} {pos : String} {af : Array Edge} {g : Option (Nat × Bool)} {a : Act} {w : World} {K : Act → World → Prop} {Q : Exit → Act → World → Prop} :
    Oper.wp P ⟨d, .call ⟨.builtin .append, #[s, x], #[t, t']⟩, ty, pos, af, g⟩ a w K Q =
      Oper.upon P ⟨d, .call ⟨.builtin .append, #[s, x], #[t, t']⟩, ty, pos, af, g⟩ a K Q ((WrA P #[t, t'] ty #[a.eval s, a.eval x] w).andThen fun v w' => .ok (.value v) w') := by
  unfold Oper.wp execOp WrA
  simp only [resolve, invoke, builtin, Sem.run_bind, Sem.run_pure, Result.andThen_ok, List.map_toArray, List.map_cons, List.map_nil]
theorem WrA.of {P : Program} {ts : Array TypeId} {ty : TypeId} {vs : Array Value} {w w' : World} {v : Value} (h : (Builtin.append_ ts ty vs).run P w = .ok v w') : WrA P ts ty vs w = .ok v w' := h
end Go.Proofs.YtpidmmfjcghmeaaGreat
namespace Go.Proofs.YtpidmmfjcghmeaaGreat
open Go.RowKit

def All2 {α β : Type} (R : α → β → Prop) : List α → List β → Prop
  | [], [] => True
  | a :: l, b :: m => R a b ∧ All2 R l m
  | _, _ => False
namespace All2
variable {α β : Type} {R S : α → β → Prop}
theorem len : ∀ {l : List α} {m : List β}, All2 R l m → l.length = m.length
  | [], [], _ => rfl
  | _ :: _, _ :: _, h => by simp [len h.2]
  | [], _ :: _, h => h.elim
  | _ :: _, [], h => h.elim
theorem mono (hRS : ∀ a b, R a b → S a b) : ∀ {l : List α} {m : List β}, All2 R l m → All2 S l m
  | [], [], _ => trivial
  | _ :: _, _ :: _, h => ⟨hRS _ _ h.1, mono hRS h.2⟩
  | [], _ :: _, h => h.elim
  | _ :: _, [], h => h.elim
theorem get : ∀ {l : List α} {m : List β} (_ : All2 R l m) (i : Nat) (h1 : i < l.length) (h2 : i < m.length), R l[i] m[i]
  | _ :: _, _ :: _, h, 0, _, _ => h.1
  | _ :: _, _ :: _, h, i + 1, h1, h2 => get h.2 i (by simpa using h1) (by simpa using h2)
  | [], _, _, _, h1, _ => by simp at h1
  | _ :: _, [], h, _, _, _ => h.elim
end All2
def Old (w : World) (k : Nat) : Prop := k < w.heap.size
theorem heap_alloc_t (w : World) (o : Obj) : (w.alloc o).heap[w.heap.size]? = some o := Array.getElem?_push_size
def ag (vs : List Value) : Value := .agg vs.toArray
/-- A slice: from its address on lie elements of sz cells each, each as R says. -/
def SlAt {β : Type} (G : Nat → Prop) (w : World) (sz : Nat) (R : List Value → β → Prop) (v : Value) (xs : List β) : Prop :=
  ∃ A c, v = .slice A xs.length c ∧ xs.length ≤ c ∧ c ≤ maxLen ∧ (0 < xs.length → ∃ b off, A = some ⟨b, off, none⟩ ∧ G b ∧
    ∀ i (h : i < xs.length), ∃ vs : List Value, vs.length = sz ∧ R vs xs[i] ∧ ∀ j u, vs[j]? = some u → w.cell? ⟨b, off + i * sz + j, none⟩ = some u)

theorem SlAt.keep {β : Type} {G G' : Nat → Prop} {w w' : World} {sz : Nat} {R R' : List Value → β → Prop} {v : Value} {xs : List β} (h : SlAt G w sz R v xs) (hG : ∀ k, G k → G' k) (hk : ∀ p : Addr, G p.block → w'.cell? p = w.cell? p) (hR : ∀ vs x, R vs x → R' vs x) : SlAt G' w' sz R' v xs := by
  obtain ⟨A, c, h1, h2, h3, h4⟩ := h
  refine ⟨A, c, h1, h2, h3, fun hn => ?_⟩
  obtain ⟨b, off, h5, h6, h7⟩ := h4 hn
  refine ⟨b, off, h5, hG _ h6, fun i hi => ?_⟩
  obtain ⟨vs, h8, h9, h10⟩ := h7 i hi
  exact ⟨vs, h8, hR _ _ h9, fun j u hj => (hk _ h6).trans (h10 j u hj)⟩

def IntV (vs : List Value) (n : Int) : Prop := vs = [.int .i64 n]
theorem SlAt.shape {β : Type} {G : Nat → Prop} {w : World} {sz : Nat} {R : List Value → β → Prop} {v : Value} {xs : List β} (h : SlAt G w sz R v xs) : ∃ A c, v = .slice A xs.length c ∧ xs.length ≤ c ∧ c ≤ maxLen := by
  obtain ⟨A, c, h1, h2, h3, _⟩ := h
  exact ⟨A, c, h1, h2, h3⟩
theorem SlAt.nil0 {β : Type} {G : Nat → Prop} {w : World} {sz : Nat} {R : List Value → β → Prop} : SlAt G w sz R (.slice none 0 0) [] := ⟨none, 0, rfl, Nat.le_refl _, Nat.zero_le _, fun h => absurd h (Nat.lt_irrefl 0)⟩
/-- One element's one cell. -/
theorem SlAt.cell1 {β : Type} {G : Nat → Prop} {w : World} {R : List Value → β → Prop} {A : Option Addr} {n c : Nat} {xs : List β} (h : SlAt G w 1 R (.slice A n c) xs) {k : Nat} (hk : k < xs.length) :
    ∃ b off u, A = some ⟨b, off, none⟩ ∧ G b ∧ R [u] xs[k] ∧ w.cell? ⟨b, off + k, none⟩ = some u := by
  obtain ⟨A', c', e, _, _, h4⟩ := h
  injection e with e1 _ _
  subst e1
  obtain ⟨b, off, rfl, hg, h5⟩ := h4 (by omega)
  obtain ⟨vs, h6, h7, h8⟩ := h5 k hk
  match vs, h6 with
  | [u], _ => exact ⟨b, off, u, rfl, hg, h7, by simpa using h8 0 u rfl⟩
def StrV (vs : List Value) (s : List UInt8) : Prop := vs = [bs s]
section
variable (G : Nat → Prop) (w : World)
def IntsAt (v : Value) (l : List Int) : Prop := SlAt G w 1 IntV v l
def StrsAt (v : Value) (l : List (List UInt8)) : Prop := SlAt G w 1 StrV v l
/-- A rule. -/
def RuV (vs : List Value) (r : Int × List Int) : Prop := ∃ v, vs = [.int .i64 r.1, v] ∧ SlAt G w 1 IntV v r.2
def RusAt (v : Value) (l : List (Int × List Int)) : Prop := SlAt G w 2 (RuV G w) v l
/-- A grammar. -/
def GmV (vs : List Value) (g : Gm) : Prop := ∃ vt vn vr, vs = [vt, vn, vr, .int .i64 g.start] ∧ StrsAt G w vt g.terms ∧ StrsAt G w vn g.nons ∧ RusAt G w vr g.rules
end
section
variable {G G' : Nat → Prop} {w w' : World} (hG : ∀ k, G k → G' k) (hk : ∀ p : Addr, G p.block → w'.cell? p = w.cell? p)
include hG hk
theorem IntsAt.keep {v : Value} {l : List Int} (h : IntsAt G w v l) : IntsAt G' w' v l := SlAt.keep h hG hk fun _ _ h => h
theorem StrsAt.keep {v : Value} {l : List (List UInt8)} (h : StrsAt G w v l) : StrsAt G' w' v l := SlAt.keep h hG hk fun _ _ h => h
theorem RuV.keep {vs : List Value} {r : Int × List Int} (h : RuV G w vs r) : RuV G' w' vs r := by
  obtain ⟨v, h1, h2⟩ := h
  exact ⟨v, h1, h2.keep hG hk fun _ _ h => h⟩
theorem RusAt.keep {v : Value} {l : List (Int × List Int)} (h : RusAt G w v l) : RusAt G' w' v l := SlAt.keep h hG hk fun _ _ h => h.keep hG hk
theorem GmV.keep {vs : List Value} {g : Gm} (h : GmV G w vs g) : GmV G' w' vs g := by
  obtain ⟨vt, vn, vr, h1, h2, h3, h4⟩ := h
  exact ⟨vt, vn, vr, h1, h2.keep hG hk, h3.keep hG hk, h4.keep hG hk⟩
end
theorem keep_of {G : Nat → Prop} {w w' : World} (hG : ∀ k, G k → k < w.heap.size) (hb : Below w.heap.size w w') : ∀ p : Addr, G p.block → w'.cell? p = w.cell? p := fun _ hp => World.cell?_of_block (hb.block _ (hG _ hp))
theorem old_of {G : Nat → Prop} {w w' : World} (hG : ∀ k, G k → k < w.heap.size) (hb : Below w.heap.size w w') : ∀ k, G k → k < w'.heap.size := fun k hk => Nat.lt_of_lt_of_le (hG k hk) hb.size
section
variable {G : Nat → Prop} {w w' : World} (hG : ∀ k, G k → k < w.heap.size) (hb : Below w.heap.size w w')
include hG hb
theorem IntsAt.below {v : Value} {l : List Int} (h : IntsAt G w v l) : IntsAt G w' v l := h.keep (fun _ h => h) (keep_of hG hb)
theorem StrsAt.below {v : Value} {l : List (List UInt8)} (h : StrsAt G w v l) : StrsAt G w' v l := h.keep (fun _ h => h) (keep_of hG hb)
theorem RuV.below {vs : List Value} {r : Int × List Int} (h : RuV G w vs r) : RuV G w' vs r := h.keep (fun _ h => h) (keep_of hG hb)
theorem RusAt.below {v : Value} {l : List (Int × List Int)} (h : RusAt G w v l) : RusAt G w' v l := h.keep (fun _ h => h) (keep_of hG hb)
theorem GmV.below {vs : List Value} {g : Gm} (h : GmV G w vs g) : GmV G w' vs g := h.keep (fun _ h => h) (keep_of hG hb)
end
theorem RuV.shape {G : Nat → Prop} {w : World} {vs : List Value} {r : Int × List Int} (h : RuV G w vs r) : ∃ A c, vs = [.int .i64 r.1, .slice A r.2.length c] ∧ r.2.length ≤ c ∧ c ≤ maxLen := by
  obtain ⟨v, rfl, h2⟩ := h
  obtain ⟨A, c, rfl, h3, h4⟩ := h2.shape
  exact ⟨A, c, rfl, h3, h4⟩
theorem GmV.shape {G : Nat → Prop} {w : World} {vs : List Value} {g : Gm} (h : GmV G w vs g) : ∃ A0 c0 A1 c1 A2 c2, vs = [.slice A0 g.terms.length c0, .slice A1 g.nons.length c1, .slice A2 g.rules.length c2, .int .i64 g.start] ∧
    StrsAt G w (.slice A0 g.terms.length c0) g.terms ∧ StrsAt G w (.slice A1 g.nons.length c1) g.nons ∧ RusAt G w (.slice A2 g.rules.length c2) g.rules := by
  obtain ⟨vt, vn, vr, rfl, h2, h3, h4⟩ := h
  obtain ⟨A0, c0, rfl, _⟩ := SlAt.shape h2
  obtain ⟨A1, c1, rfl, _⟩ := SlAt.shape h3
  obtain ⟨A2, c2, rfl, _⟩ := SlAt.shape h4
  exact ⟨A0, c0, A1, c1, A2, c2, rfl, h2, h3, h4⟩

/-- The cells of elements, one behind the other. -/
def Flat {β : Type} (sz : Nat) (R : List Value → β → Prop) : List (List Value) → List β → Prop := All2 fun vs x => vs.length = sz ∧ R vs x
section
variable {β : Type} {sz : Nat} {R : List Value → β → Prop}
theorem Flat.len : ∀ {us : List (List Value)} {xs : List β}, Flat sz R us xs → us.flatten.length = xs.length * sz
  | [], [], _ => by simp
  | [], _ :: _, h => h.elim
  | _ :: _, [], h => h.elim
  | vs :: us, x :: xs, h => by
    have := Flat.len (us := us) (xs := xs) h.2
    rw [List.flatten_cons, List.length_append, this, h.1.1, List.length_cons, Nat.add_mul]
    omega
theorem Flat.app : ∀ {us : List (List Value)} {xs : List β} {ts : List (List Value)} {ys : List β}, Flat sz R us xs → Flat sz R ts ys → Flat sz R (us ++ ts) (xs ++ ys)
  | [], [], _, _, _, k => k
  | [], _ :: _, _, _, h, _ => h.elim
  | _ :: _, [], _, _, h, _ => h.elim
  | _ :: _, _ :: _, _, _, h, k => ⟨h.1, Flat.app h.2 k⟩
theorem Flat.get : ∀ {us : List (List Value)} {xs : List β}, Flat sz R us xs → ∀ i (h : i < xs.length), ∃ vs, vs.length = sz ∧ R vs xs[i] ∧ ∀ j u, vs[j]? = some u → us.flatten[i * sz + j]? = some u
  | [], [], _, i, h => absurd h (Nat.not_lt_zero i)
  | [], _ :: _, h, _, _ => h.elim
  | _ :: _, [], h, _, _ => h.elim
  | vs :: us, x :: xs, h, 0, _ => ⟨vs, h.1.1, h.1.2, fun j u hj => by
      have hl := (List.getElem?_eq_some_iff.1 hj).1
      rw [Nat.zero_mul, Nat.zero_add, List.flatten_cons, List.getElem?_append_left hl]; exact hj⟩
  | vs :: us, x :: xs, h, i + 1, hi => by
    obtain ⟨ts, h1, h2, h3⟩ := Flat.get h.2 i (by simpa using hi)
    refine ⟨ts, h1, by simpa using h2, fun j u hj => ?_⟩
    have e := h.1.1
    rw [List.flatten_cons, List.getElem?_append_right (by rw [Nat.add_mul]; omega), show (i + 1) * sz + j - vs.length = i * sz + j by rw [Nat.add_mul]; omega]
    exact h3 j u hj
theorem Flat.all {P : Value → Prop} (hP : ∀ vs x, R vs x → ∀ u ∈ vs, P u) : ∀ {us : List (List Value)} {xs : List β}, Flat sz R us xs → ∀ u ∈ us.flatten, P u
  | [], [], _, u, hu => by simp at hu
  | [], _ :: _, h, _, _ => h.elim
  | _ :: _, [], h, _, _ => h.elim
  | vs :: us, x :: xs, h, u, hu => by
    rw [List.flatten_cons, List.mem_append] at hu
    rcases hu with hu | hu
    · exact hP _ _ h.1.2 u hu
    · exact Flat.all hP h.2 u hu
theorem flat_of {w : World} {b : Nat} : ∀ (xs : List β) (off : Nat), (∀ i (h : i < xs.length), ∃ vs : List Value, vs.length = sz ∧ R vs xs[i] ∧ ∀ j u, vs[j]? = some u → w.cell? ⟨b, off + i * sz + j, none⟩ = some u) →
    ∃ us, Flat sz R us xs ∧ ∀ j u, us.flatten[j]? = some u → w.cell? ⟨b, off + j, none⟩ = some u
  | [], off, _ => ⟨[], trivial, fun j u h => by simp at h⟩
  | x :: xs, off, h => by
    obtain ⟨vs, h1, h2, h3⟩ := h 0 (by simp)
    obtain ⟨us, k1, k2⟩ := flat_of xs (off + sz) fun i hi => by
      obtain ⟨ts, t1, t2, t3⟩ := h (i + 1) (by simpa using hi)
      refine ⟨ts, t1, by simpa using t2, fun j u hj => ?_⟩
      rw [show off + sz + i * sz + j = off + (i + 1) * sz + j by rw [Nat.add_mul]; omega]
      exact t3 j u hj
    refine ⟨vs :: us, ⟨⟨h1, by simpa using h2⟩, k1⟩, fun j u hj => ?_⟩
    rw [List.flatten_cons] at hj
    by_cases hl : j < vs.length
    · rw [List.getElem?_append_left hl] at hj
      have := h3 j u hj
      rw [Nat.zero_mul, Nat.add_zero] at this
      exact this
    · rw [List.getElem?_append_right (by omega)] at hj
      have := k2 _ u hj
      rw [show off + sz + (j - vs.length) = off + j by omega] at this
      exact this
theorem SlAt.flat {G : Nat → Prop} {w : World} {v : Value} {xs : List β} (h : SlAt G w sz R v xs) :
    ∃ us, Flat sz R us xs ∧ ∃ A c, v = .slice A xs.length c ∧ xs.length ≤ c ∧ c ≤ maxLen ∧ (0 < xs.length → ∃ b off, A = some ⟨b, off, none⟩ ∧ G b ∧ ∀ j u, us.flatten[j]? = some u → w.cell? ⟨b, off + j, none⟩ = some u) := by
  obtain ⟨A, c, h1, h2, h3, h4⟩ := h
  by_cases hn : 0 < xs.length
  · obtain ⟨b, off, h5, h6, h7⟩ := h4 hn
    obtain ⟨us, k1, k2⟩ := flat_of xs off h7
    exact ⟨us, k1, A, c, h1, h2, h3, fun _ => ⟨b, off, h5, h6, k2⟩⟩
  · obtain rfl : xs = [] := List.eq_nil_of_length_eq_zero (by omega)
    exact ⟨[], trivial, A, c, h1, h2, h3, fun h => absurd h hn⟩
end

theorem cell_blk {w : World} {k : Nat} {cs : Array Value} {T : TypeId} {fz : Nat × Nat} (hh : w.heap[k]? = some (.cells cs T fz)) (i : Nat) (v : Value) (hi : cs[i]? = some v) : w.cell? ⟨k, i, none⟩ = some v := by
  simp only [World.cell?, hh]
  exact hi
/-- A row of the call's own: elements of sz cells, each as R says. -/
def Nrow {β : Type} (B : Nat) (T : TypeId) (sz : Nat) (R : List Value → β → Prop) (w : World) (v : Value) (xs : List β) : Prop := ∃ us, Flat sz R us xs ∧ w.ownsRow B T sz v xs.length us.flatten
section
variable {β : Type} {B : Nat} {T : TypeId} {sz : Nat} {R : List Value → β → Prop} {w w' : World} {v : Value} {xs ys : List β}
theorem Nrow.look (h : Nrow B T sz R w v xs) {G : Nat → Prop} (hG : ∀ g, v.ownBlock = some g → G g) : SlAt G w sz R v xs := by
  obtain ⟨us, hf, _, ho⟩ := h
  rcases ho with ⟨rfl, hn⟩ | ⟨g, cap, cur, rfl, hB, hh, hc, hm, hcs, htake⟩
  · exact ⟨none, 0, by rw [hn], by omega, Nat.zero_le _, fun h => by omega⟩
  · refine ⟨some ⟨g, 0, none⟩, cap, rfl, hc, hm, fun _ => ⟨g, 0, rfl, hG g rfl, fun i hi => ?_⟩⟩
    obtain ⟨vs, h1, h2, h3⟩ := hf.get i hi
    refine ⟨vs, h1, h2, fun j u hj => ?_⟩
    have h4 := h3 j u hj
    rw [← htake] at h4
    have h5 : i * sz + j < xs.length * sz := by
      have := (List.getElem?_eq_some_iff.1 h4).1
      rw [List.length_take] at this
      omega
    rw [List.getElem?_take_of_lt h5] at h4
    rw [Nat.zero_add]
    simp only [World.cell?, hh]
    simpa using h4
theorem Nrow.shape (h : Nrow B T sz R w v xs) : ∃ A c, v = .slice A xs.length c ∧ xs.length ≤ c ∧ c ≤ maxLen := (h.look (G := fun _ => True) fun _ _ => trivial).shape
theorem Nrow.lt (h : Nrow B T sz R w v xs) {g : Nat} (hg : v.ownBlock = some g) : B ≤ g ∧ g < w.heap.size := by
  obtain ⟨us, hf, _, ho⟩ := h
  rcases ho with ⟨rfl, _⟩ | ⟨g', cap, cur, rfl, hB, hh, _⟩
  · simp [Value.ownBlock] at hg
  · simp [Value.ownBlock] at hg
    subst hg
    exact ⟨hB, (Array.getElem?_eq_some_iff.1 hh).1⟩
theorem Nrow.keep (h : Nrow B T sz R w v xs) (hv : ∀ g, v.ownBlock = some g → w'.heap[g]? = w.heap[g]?) : Nrow B T sz R w' v xs := by
  obtain ⟨us, hf, hl, ho⟩ := h
  refine ⟨us, hf, hl, ?_⟩
  rcases ho with h0 | ⟨g, cap, cur, rfl, hB, hh, hrest⟩
  · exact .inl h0
  · exact .inr ⟨g, cap, cur, rfl, hB, (hv g rfl).trans hh, hrest⟩
theorem Nrow.below (h : Nrow B T sz R w v xs) (hb : Below w.heap.size w w') : Nrow B T sz R w' v xs := h.keep fun _ hg => hb.block _ (h.lt hg).2
theorem Nrow.fresh (w : World) (hB : B ≤ w.heap.size) (Rr : List Value → β → Prop) : Nrow B T sz Rr (w.alloc (.cells #[] T)) (.slice (some ⟨w.heap.size, 0, none⟩) 0 0) [] :=
  ⟨[], trivial, by simp, .inr ⟨w.heap.size, 0, #[], rfl, hB, heap_alloc_t w _, Nat.le_refl _, Nat.zero_le _, by simp, by simp⟩⟩
theorem Nrow.started {g : Nat} (hB : B ≤ g) (hh : w.heap[g]? = some (.cells #[] T (0, 0))) (Rr : List Value → β → Prop) : Nrow B T sz Rr w (.slice (some ⟨g, 0, none⟩) 0 0) [] :=
  ⟨[], trivial, by simp, .inr ⟨g, 0, #[], rfl, hB, hh, Nat.le_refl _, Nat.zero_le _, by simp, by simp⟩⟩
/-- What append makes. -/
theorem Nrow.append (t : TypeId) {z : Value} {bytes : Nat} (hu : Tryz.prog.underlying t = some (.slice T)) (hi : (Tryz.prog.info? T).map (fun i => (i.zero, i.size, i.bytes)) = some (some z, sz, bytes)) (hzs : z.cells.size = sz) (hsz : 0 < sz)
    (hone : ∀ vs x, R vs x → ∀ u ∈ vs, u.oneCell' = true) (ty : TypeId) {G : Nat → Prop} {v2 : Value} (h : Nrow B T sz R w v xs) (hx : SlAt G w sz R v2 ys) (hlen : (xs.length + ys.length) * bytes ≤ 140737488355328) (hmx : xs.length + ys.length ≤ maxLen) (hB : B ≤ w.heap.size) :
    ∃ v' w', WrA Tryz.prog #[t, t] ty #[v, v2] w = .ok v' w' ∧ Nrow B T sz R w' v' (xs ++ ys) ∧ w.grownBy w' v.ownBlock ∧ (v'.ownBlock = v.ownBlock ∨ v'.ownBlock = some w.heap.size) := by
  obtain ⟨i0, hi0, hz0, hz1, hz2⟩ := info_parts hi
  obtain ⟨ts, hf2, A, c, rfl, hc, hm, hcell⟩ := hx.flat
  by_cases hz : ys.length = 0
  · obtain rfl : ys = [] := List.eq_nil_of_length_eq_zero hz
    obtain ⟨A1, c1, rfl, hl1, hm1⟩ := h.shape
    refine ⟨_, w, WrA.of (run_append_nothing w _ _ _ _ i0 hu hi0 A1 xs.length c1 hl1 _ ?_), by rw [List.append_nil]; exact h, ⟨rfl, rfl, rfl, Nat.le_refl _, fun _ _ _ => rfl⟩, .inl rfl⟩
    cases A with
    | none => exact Src.ofNil w hu c
    | some a => exact Src.ofSlice w hu a 0 c [] (by simp) (fun j u hj => by simp at hj) (fun u hu => by cases hu)
  · obtain ⟨b, off, rfl, _, hcl⟩ := hcell (by omega)
    obtain ⟨us, hf, hown⟩ := h
    obtain ⟨v', w', hrun, hown', hgr, hnil, hat⟩ := run_append_own_at (P := Tryz.prog) (w := w) B t ty _ i0 _ sz bytes hu hi0 hz0 hz1 hz2 hzs hsz v xs.length us.flatten hown ⟨b, off, none⟩ ys.length c ts.flatten hf2.len
      (fun j u hj => by rw [show (⟨b, off, none⟩ : Addr).add j = ⟨b, off + j, none⟩ by unfold Addr.add; split <;> simp_all]; exact hcl j u hj) (Flat.all hone hf2) hmx hlen hB
    refine ⟨v', w', WrA.of hrun, ⟨us ++ ts, hf.app hf2, ?_⟩, hgr, hat⟩
    rw [List.length_append, List.flatten_append]
    exact hown'
end
theorem info_intN : (Tryz.prog.info? 3).map (fun i => (i.zero, i.size, i.bytes)) = some (some (.int .i64 0), 1, 8) := by kernel_rfl
theorem info_strN : (Tryz.prog.info? 9).map (fun i => (i.zero, i.size, i.bytes)) = some (some (.string ⟨#[]⟩), 1, 16) := by kernel_rfl
theorem info_ruN : (Tryz.prog.info? 64).map (fun i => (i.zero, i.size, i.bytes)) = some (some (.agg #[.int .i64 0, .slice none 0 0]), 2, 32) := by kernel_rfl
theorem IntV.one : ∀ (vs : List Value) (x : Int), IntV vs x → ∀ u ∈ vs, u.oneCell' = true := by
  rintro vs x rfl u hu
  simp only [List.mem_cons, List.not_mem_nil, or_false] at hu
  subst hu
  rfl
theorem StrV.one : ∀ (vs : List Value) (x : List UInt8), StrV vs x → ∀ u ∈ vs, u.oneCell' = true := by
  rintro vs x rfl u hu
  simp only [List.mem_cons, List.not_mem_nil, or_false] at hu
  subst hu
  rfl
theorem RuV.one {G : Nat → Prop} {w : World} : ∀ (vs : List Value) (x : Int × List Int), RuV G w vs x → ∀ u ∈ vs, u.oneCell' = true := by
  intro vs x h u hu
  obtain ⟨A, c, rfl, _⟩ := h.shape
  simp only [List.mem_cons, List.not_mem_nil, or_false] at hu
  rcases hu with rfl | rfl <;> rfl
end Go.Proofs.YtpidmmfjcghmeaaGreat
