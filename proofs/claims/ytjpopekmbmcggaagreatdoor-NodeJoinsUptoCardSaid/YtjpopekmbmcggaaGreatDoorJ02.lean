/- Towards nodeJoins_card: CmdsRow, Gr, Class, PtsRow, PtsRead, UqCopy. Merged from smaller texts by a program of the author's. -/
import Derived.Test.YtjpopekmbmcggaaGreatDoorJ01
import Derived.Deep.Upon
import Derived.BigQuiet
import Derived.Maps.AppendAt
import Derived.Deep.Slices
import Derived.Deep.Fields
import Derived.ChangeSame
import Derived.Lib.SmallJoins
import Derived.Laws.CopyRow
import Derived.Lib.AppendZerosOnto
import Derived.Deep.RegionHeld3
import Derived.BigRegion
namespace Go.Proofs.YtjpopekmbmcggaaGreatDoor
open Go.RowKit
namespace Pts
def cmds : Pts → List Cm
  | nil => []
  | cons k _ _ kids cm rest => (if k = 6 then [cm] else []) ++ kids.cmds ++ rest.cmds
end Pts
def Crow (B : Nat) (w : World) (v : Value) (l : List Cm) : Prop := w.ownsRow B 26 1 v l.length (l.map Cm.val)
theorem info_node : (Tryz.prog.info? 26).map (fun i => (i.zero, i.size, i.bytes)) = some (some (.slice none 0 0), 1, 24) := by kernel_rfl
section
variable {B : Nat} {w w' : World} {v : Value} {l m : List Cm}
theorem Crow.nothing : Crow B w (.slice none 0 0) [] := ⟨rfl, .inl ⟨rfl, rfl⟩⟩
theorem Crow.shape (h : Crow B w v l) : ∃ A c, v = .slice A l.length c ∧ l.length ≤ c ∧ c ≤ maxLen := own_shape h
theorem Crow.lt (h : Crow B w v l) {g : Nat} (hg : v.ownBlock = some g) : B ≤ g ∧ g < w.heap.size := by
  rcases h.2 with ⟨rfl, _⟩ | ⟨g', cap, cur, rfl, hb, hh, _⟩
  · simp [Value.ownBlock] at hg
  · simp [Value.ownBlock] at hg
    subst hg
    exact ⟨hb, (Array.getElem?_eq_some_iff.1 hh).1⟩
theorem Crow.keep (h : Crow B w v l) (hv : ∀ g, v.ownBlock = some g → w'.heap[g]? = w.heap[g]?) : Crow B w' v l := by
  refine ⟨h.1, ?_⟩
  rcases h.2 with h0 | ⟨g, cap, cur, rfl, hB, hh, hrest⟩
  · exact .inl h0
  · exact .inr ⟨g, cap, cur, rfl, hB, (hv g rfl).trans hh, hrest⟩
theorem Crow.below (h : Crow B w v l) (hb : Below w.heap.size w w') : Crow B w' v l := h.keep fun _ hg => hb.block _ (h.lt hg).2
theorem Crow.cells {a : Addr} {c : Nat} (h : Crow B w (.slice (some a) l.length c) l) (j : Nat) (u : Value) (hj : (l.map Cm.val)[j]? = some u) : w.cell? (a.add j) = some u := by
  rcases h.2 with ⟨h0, _⟩ | ⟨g, cap, cur, hv, hB, hh, _⟩
  · cases h0
  · have ha : a = ⟨g, 0, none⟩ := by injection hv with h1; injection h1
    subst ha
    exact World.ownsRow.cells h (g := g) rfl j u hj
theorem Crow.append (h : Crow B w v l) (m : List Cm) (ad : Addr) (c : Nat) (hx : ∀ j u, (m.map Cm.val)[j]? = some u → w.cell? (ad.add j) = some u) (hlen : l.length + m.length ≤ 1099511627776) (hB : B ≤ w.heap.size) :
    ∃ v' w', WrA Tryz.prog #[56, 56] 56 #[v, .slice (some ad) m.length c] w = .ok v' w' ∧ Crow B w' v' (l ++ m) ∧ w.grownBy w' v.ownBlock ∧ (v'.ownBlock = v.ownBlock ∨ v'.ownBlock = some w.heap.size) := by
  obtain ⟨i0, hi, hz0, hz1, hz2⟩ := info_parts info_node
  obtain ⟨v', w', hrun, hown, hg, _, hat⟩ := run_append_own_at (P := Tryz.prog) (w := w) B 56 56 26 i0 (.slice none 0 0) 1 24 Tryz.underlying56 hi hz0 hz1 hz2 rfl (by decide) v l.length (l.map Cm.val) h ad m.length c (m.map Cm.val) (by simp) hx
    (by intro u hu; obtain ⟨x, _, rfl⟩ := List.mem_map.1 hu; rfl) (by unfold maxLen; omega) (by omega) hB
  refine ⟨v', w', WrA.of hrun, ?_, hg, hat⟩
  unfold Crow
  rw [List.length_append, List.map_append]
  exact hown
theorem Crow.append_nil (h : Crow B w v l) (c : Nat) : WrA Tryz.prog #[56, 56] 56 #[v, .slice none 0 c] w = .ok v w := by
  obtain ⟨i0, hi, hz0, hz1, hz2⟩ := info_parts info_node
  obtain ⟨A1, c1, rfl, hl1, hm1⟩ := h.shape
  exact WrA.of (run_append_nothing w _ _ _ _ i0 Tryz.underlying56 hi A1 l.length c1 hl1 _ (Src.ofNil w Tryz.underlying56 c))
end
end Go.Proofs.YtjpopekmbmcggaaGreatDoor
namespace Go.Proofs.YtjpopekmbmcggaaGreatDoor
open Go.RowKit
section
variable {P : Program}
theorem wp_region_class {id : Nat} {Q : Exit → Act → World → Prop} {a : Act} {w : World} {l : List Oper} {S : Type} (f : S → World) (hm : P.follows .mixedOrders = true) (hB : Region.lexB .any l.toArray = true)
    (hC : ∃ x, w.drew = f x) (h : wpQuiet P l.toArray (fun w' => ∃ x, w' = f x) (fun a' => ∀ w', (∃ x, w' = f x) → Q .normal a' w') l a) : (Code.region id l.toArray true).wp P Q a w :=
  wp_region_quiet (C := fun w' => ∃ x, w' = f x) hm hB hC (by simpa using h)
end
def Gr (w : World) : Type := { w' : World // Below w.heap.size w w' }
def Gr.at_ {w : World} (x : Gr w) : World := x.1
theorem cell_lt {w : World} {p : Addr} {v : Value} (h : w.cell? p = some v) : p.block < w.heap.size := by
  unfold World.cell? at h
  split at h
  · rename_i hc
    exact (Array.getElem?_eq_some_iff.1 hc).1
  · exact absurd h (by simp)
theorem Gr.cell {w : World} (x : Gr w) (p : Addr) (v : Value) (h : w.cell? p = some v) : x.at_.cell? p = some v := by
  rw [← h]
  exact World.cell?_of_block (x.2.block _ (cell_lt h))
theorem Gr.drew (w : World) : ∃ x : Gr w, w.drew = x.at_ := ⟨⟨w.drew, (Below.refl _ _).drew⟩, rfl⟩
theorem Gr.calls {P : Program} {f : FuncId} {args : Array Value} {w : World} (x : Gr w) {v : Value}
    (h : Calls P f args x.at_ fun e w' => e = .returned v ∧ Below x.at_.heap.size x.at_ w') : Calls P f args x.at_ fun e w' => e = .returned v ∧ ∃ y : Gr w, w' = y.at_ :=
  h.mono fun _ w' ⟨he, hb⟩ => ⟨he, ⟨⟨w', x.2.trans ⟨hb.os, hb.tape, hb.output, hb.size, fun k hk => hb.block k (Nat.lt_of_lt_of_le hk x.2.size)⟩⟩, rfl⟩⟩
end Go.Proofs.YtjpopekmbmcggaaGreatDoor
namespace Go.Proofs.YtjpopekmbmcggaaGreatDoor
open Go.RowKit
def PtsRow (G : Nat → Prop) (w : World) (xs : List Value) : Pts → Prop
  | .nil => xs = []
  | .cons k t o kids cm rest => ∃ (Ak : Option Addr) (ck : Nat) (r : List Value), xs = .int .i64 k :: .string t :: .string o :: .slice Ak kids.len ck :: cm.val :: r ∧ kids.len ≤ ck ∧ PtsAt G w Ak 0 kids ∧ PtsRow G w r rest
theorem PtsRow.len {G : Nat → Prop} {w : World} : ∀ {l : Pts} {xs : List Value}, PtsRow G w xs l → xs.length = l.len * 5
  | .nil, xs, h => by rw [show xs = [] from h]; rfl
  | .cons k t o kids cm rest, xs, h => by
    obtain ⟨Ak, ck, r, rfl, _, _, hr⟩ := h
    have := PtsRow.len hr
    simp only [List.length_cons, Pts.len]
    omega
theorem PtsRow.keep {G : Nat → Prop} {w w' : World} (hk : ∀ p : Addr, G p.block → w'.cell? p = w.cell? p) : ∀ {l : Pts} {xs : List Value}, PtsRow G w xs l → PtsRow G w' xs l
  | .nil, _, h => h
  | .cons k t o kids cm rest, xs, h => by
    obtain ⟨Ak, ck, r, rfl, hl, hp, hr⟩ := h
    exact ⟨Ak, ck, r, rfl, hl, hp.keep hk, hr.keep hk⟩
theorem PtsRow.more {G G' : Nat → Prop} {w : World} (hG : ∀ k, G k → G' k) : ∀ {l : Pts} {xs : List Value}, PtsRow G w xs l → PtsRow G' w xs l
  | .nil, _, h => h
  | .cons k t o kids cm rest, xs, h => by
    obtain ⟨Ak, ck, r, rfl, hl, hp, hr⟩ := h
    exact ⟨Ak, ck, r, rfl, hl, hp.more hG, hr.more hG⟩
theorem PtsRow.app {G : Nat → Prop} {w : World} {l2 : Pts} {ys : List Value} (hy : PtsRow G w ys l2) : ∀ {l : Pts} {xs : List Value}, PtsRow G w xs l → PtsRow G w (xs ++ ys) (l.app l2)
  | .nil, xs, h => by rw [show xs = [] from h]; exact hy
  | .cons k t o kids cm rest, xs, h => by
    obtain ⟨Ak, ck, r, rfl, hl, hp, hr⟩ := h
    exact ⟨Ak, ck, r ++ ys, rfl, hl, hp, PtsRow.app hy hr⟩
theorem PtsRow.one {G : Nat → Prop} {w : World} : ∀ {l : Pts} {xs : List Value}, PtsRow G w xs l → ∀ u ∈ xs, u.oneCell' = true
  | .nil, xs, h => by rw [show xs = [] from h]; intro u hu; cases hu
  | .cons k t o kids cm rest, xs, h => by
    obtain ⟨Ak, ck, r, rfl, hl, hp, hr⟩ := h
    intro u hu
    simp only [List.mem_cons] at hu
    rcases hu with rfl | rfl | rfl | rfl | rfl | hu
    · rfl
    · rfl
    · rfl
    · rfl
    · rfl
    · exact PtsRow.one hr u hu
theorem PtsAt.row {G : Nat → Prop} {w : World} {b off : Nat} : ∀ {l : Pts} {i : Nat}, PtsAt G w (some ⟨b, off, none⟩) i l → ∃ xs, PtsRow G w xs l ∧ ∀ j u, xs[j]? = some u → w.cell? ⟨b, off + i * 5 + j, none⟩ = some u
  | .nil, i, _ => ⟨[], rfl, fun _ _ h => by simp at h⟩
  | .cons k t o kids cm rest, i, h => by
    obtain ⟨b', off', Ak, ck, hA, hG, c0, c1, c2, c3, c4, hl, h1, h2⟩ := h
    injection hA with hA
    injection hA with e1 e2
    subst e1 e2
    obtain ⟨xs, hr, hc⟩ := h2.row
    refine ⟨.int .i64 k :: .string t :: .string o :: .slice Ak kids.len ck :: cm.val :: xs, ⟨Ak, ck, xs, rfl, hl, h1, hr⟩, fun j u hj => ?_⟩
    match j, hj with
    | 0, hj => simp only [List.getElem?_cons_zero, Option.some.injEq] at hj; subst hj; exact c0
    | 1, hj => simp only [List.getElem?_cons_succ, List.getElem?_cons_zero, Option.some.injEq] at hj; subst hj; exact c1
    | 2, hj => simp only [List.getElem?_cons_succ, List.getElem?_cons_zero, Option.some.injEq] at hj; subst hj; exact c2
    | 3, hj => simp only [List.getElem?_cons_succ, List.getElem?_cons_zero, Option.some.injEq] at hj; subst hj; exact c3
    | 4, hj => simp only [List.getElem?_cons_succ, List.getElem?_cons_zero, Option.some.injEq] at hj; subst hj; exact c4
    | j + 5, hj =>
      simp only [List.getElem?_cons_succ] at hj
      have := hc j u hj
      rw [show off + i * 5 + (j + 5) = off + (i + 1) * 5 + j by omega]
      exact this
theorem PtsRow.at_ {G : Nat → Prop} {w : World} {b off : Nat} (hb : G b) : ∀ {l : Pts} {xs : List Value} {i : Nat}, PtsRow G w xs l → (∀ j u, xs[j]? = some u → w.cell? ⟨b, off + i * 5 + j, none⟩ = some u) → PtsAt G w (some ⟨b, off, none⟩) i l
  | .nil, _, _, _, _ => trivial
  | .cons k t o kids cm rest, xs, i, h, hc => by
    obtain ⟨Ak, ck, r, rfl, hl, hp, hr⟩ := h
    refine ⟨b, off, Ak, ck, rfl, hb, hc 0 _ rfl, hc 1 _ rfl, hc 2 _ rfl, hc 3 _ rfl, hc 4 _ rfl, hl, hp, PtsRow.at_ hb hr fun j u hj => ?_⟩
    have := hc (j + 5) u (by simpa using hj)
    rw [show off + i * 5 + (j + 5) = off + (i + 1) * 5 + j by omega] at this
    exact this
end Go.Proofs.YtjpopekmbmcggaaGreatDoor
namespace Go.Proofs.YtjpopekmbmcggaaGreatDoor
open Go.RowKit
theorem info_part : (Tryz.prog.info? 50).map (fun i => (i.zero, i.size, i.bytes)) = some (some (.agg #[.int .i64 0, .string ⟨#[]⟩, .string ⟨#[]⟩, .slice none 0 0, .slice none 0 0]), 5, 88) := by kernel_rfl
theorem add_at (b off n : Nat) : (⟨b, off, none⟩ : Addr).add n = ⟨b, off + n, none⟩ := by
  unfold Addr.add
  split
  · rename_i h; subst h; rfl
  · rfl
def Prow (G : Nat → Prop) (B : Nat) (w : World) (v : Value) (l : Pts) : Prop := ∃ xs, w.ownsRow B 50 5 v l.len xs ∧ PtsRow G w xs l
section
variable {G : Nat → Prop} {B : Nat} {w w' : World} {v : Value} {l l2 : Pts}
theorem Prow.nothing : Prow G B w (.slice none 0 0) .nil := ⟨[], ⟨rfl, .inl ⟨rfl, rfl⟩⟩, rfl⟩
theorem Prow.fresh {g : Nat} {xs : List Value} (hB : B ≤ g) (hh : w.heap[g]? = some (.cells xs.toArray 50 (0, 0))) (hr : PtsRow G w xs l) (hm : l.len ≤ maxLen) : Prow G B w (.slice (some ⟨g, 0, none⟩) l.len l.len) l := by
  refine ⟨xs, ⟨hr.len, .inr ⟨g, l.len, xs.toArray, rfl, hB, hh, Nat.le_refl _, hm, by simpa using hr.len, ?_⟩⟩, hr⟩
  rw [← hr.len]
  simp
theorem Prow.at_ (h : Prow G B w v l) : ∃ A c, v = .slice A l.len c ∧ l.len ≤ c ∧ c ≤ maxLen ∧ PtsAt (fun k => G k ∨ v.ownBlock = some k) w A 0 l := by
  obtain ⟨xs, ⟨hxl, hv⟩, hr⟩ := h
  rcases hv with ⟨rfl, hn⟩ | ⟨g, cap, cur, rfl, hB, hh, hc, hm, hcs, htake⟩
  · refine ⟨none, 0, by rw [hn], by omega, Nat.zero_le _, ?_⟩
    cases l with
    | nil => trivial
    | cons => simp [Pts.len] at hn
  · refine ⟨some ⟨g, 0, none⟩, cap, rfl, hc, hm, (hr.more fun k hk => .inl hk).at_ (.inr rfl) fun j u hj => ?_⟩
    rw [← htake] at hj
    have hlt : j < l.len * 5 := by
      have := (List.getElem?_eq_some_iff.1 hj).1
      rw [List.length_take] at this
      omega
    rw [List.getElem?_take_of_lt hlt] at hj
    simp only [World.cell?, hh]
    simpa using hj
theorem Prow.lt (h : Prow G B w v l) {g : Nat} (hg : v.ownBlock = some g) : B ≤ g ∧ g < w.heap.size := by
  obtain ⟨xs, ⟨hxl, hv⟩, hr⟩ := h
  rcases hv with ⟨rfl, _⟩ | ⟨g', cap, cur, rfl, hB, hh, _⟩
  · simp [Value.ownBlock] at hg
  · simp [Value.ownBlock] at hg
    subst hg
    exact ⟨hB, (Array.getElem?_eq_some_iff.1 hh).1⟩
theorem Prow.keep (h : Prow G B w v l) (hG : ∀ p : Addr, G p.block → w'.cell? p = w.cell? p) (hv : ∀ g, v.ownBlock = some g → w'.heap[g]? = w.heap[g]?) : Prow G B w' v l := by
  obtain ⟨xs, ⟨hxl, ho⟩, hr⟩ := h
  refine ⟨xs, ⟨hxl, ?_⟩, hr.keep hG⟩
  rcases ho with ho | ⟨g, cap, cur, rfl, hB, hh, hrest⟩
  · exact .inl ho
  · exact .inr ⟨g, cap, cur, rfl, hB, (hv g rfl).trans hh, hrest⟩
theorem Prow.below (h : Prow G B w v l) (hG : ∀ k, G k → k < w.heap.size) (hb : Below w.heap.size w w') : Prow G B w' v l :=
  h.keep (fun _ hp => World.cell?_of_block (hb.block _ (hG _ hp))) fun _ hg => hb.block _ (h.lt hg).2
theorem Prow.append {A : Option Addr} {c : Nat} {G2 : Nat → Prop} (ty : TypeId) (h : Prow G B w v l) (hp : PtsAt G2 w A 0 l2) (hG2 : ∀ k, G2 k → G k) (hG : ∀ k, G k → k < B) (hlen : l.len + l2.len ≤ 1099511627776) (hB : B ≤ w.heap.size) (hc : l2.len ≤ c) :
    ∃ v' w', (Builtin.append_ #[29, 29] ty #[v, .slice A l2.len c]).run Tryz.prog w = .ok v' w' ∧ Prow G B w' v' (l.app l2) ∧ w.grownBy w' v.ownBlock ∧ (v'.ownBlock = v.ownBlock ∨ v'.ownBlock = some w.heap.size) := by
  obtain ⟨i0, hi, hz0, hz1, hz2⟩ := info_parts info_part
  have h0 := h
  obtain ⟨xs, hown, hr⟩ := h
  by_cases hz : l2.len = 0
  · obtain rfl : l2 = .nil := by
      cases l2 with
      | nil => rfl
      | cons => simp [Pts.len] at hz
    obtain ⟨A1, c1, rfl, hl1, hm1, _⟩ := h0.at_
    refine ⟨_, w, run_append_nothing w _ _ ty _ i0 Tryz.underlying29 hi A1 l.len c1 hl1 _ ?_, by rw [Pts.app_nil]; exact ⟨xs, hown, hr⟩, ⟨rfl, rfl, rfl, Nat.le_refl _, fun _ _ _ => rfl⟩, .inl rfl⟩
    cases A with
    | none => exact Src.ofNil w Tryz.underlying29 c
    | some a => exact Src.ofSlice w Tryz.underlying29 a 0 c [] (by simp) (fun j u hj => by simp at hj) (fun u hu => by cases hu)
  · obtain ⟨b, off, rfl⟩ : ∃ b off, A = some ⟨b, off, none⟩ := by
      cases l2 with
      | nil => exact absurd rfl hz
      | cons => obtain ⟨b, off, _, _, hA, _⟩ := hp; exact ⟨b, off, hA⟩
    obtain ⟨ys, hys, hyc⟩ := hp.row
    obtain ⟨v', w', hrun, hown', hgr, hnil, hat⟩ := run_append_own_at (P := Tryz.prog) (w := w) B _ ty _ i0 _ 5 88 Tryz.underlying29 hi hz0 hz1 hz2 rfl (by omega) v l.len xs hown ⟨b, off, none⟩ l2.len c ys hys.len
      (fun j u hj => by have := hyc j u hj; rw [add_at]; simpa using this) hys.one (by unfold maxLen; omega) (by omega) hB
    refine ⟨v', w', hrun, ?_, hgr, hat⟩
    have hkeep : ∀ p : Addr, G p.block → w'.cell? p = w.cell? p := fun p hp => by
      have hlt := hG _ hp
      refine World.cell?_of_block (hgr.block _ (by omega) fun e => ?_)
      have := h0.lt e.symm
      omega
    refine ⟨xs ++ ys, ?_, ((hys.more hG2).app hr).keep hkeep⟩
    rw [Pts.len_app]
    exact hown'
end
end Go.Proofs.YtjpopekmbmcggaaGreatDoor
namespace Go.Proofs.YtjpopekmbmcggaaGreatDoor
open Go.RowKit Go.ChangeShapes Go.WideShapes Go.Deep
section
variable {H : Type} {enc : TypeId × Value → H} {P : Program} {w : World} {base : Nat} {spare : Nat → Bool} {held : Bool}
theorem open_structs {t e : TypeId} {fs : Array Field} {fuel : Nat} {cs : List Value} {x : DataW H × List MemPlace} (ht : P.underlying t = some (.slice e)) (he : P.underlying e = some (.struct fs))
    (hone : oneCellFields P fs = true) (hC : P.cellsOf e = fs.size) (h : DataW.trod enc P w base spare held fuel t cs = some x) :
    (cs = [.slice none 0 0] ∧ x.1 = .nil) ∨
    ∃ (a : Addr) (len cap : Nat) (D : Nat → DataW H) (sp : List (DataW H)), cs = [.slice (some a) len cap] ∧ len ≤ cap ∧ cap ≤ maxLen ∧ x.1 = .slice ((List.range len).map D) sp ∧
      ∀ i, i < len → ∃ (ys : List (DataW H × List MemPlace)) (n : Nat), D i = .agg (ys.map (·.1)) ∧ ys.length = fs.size ∧
        ∀ (j : Nat) (f : Field), fs[j]? = some f → ∃ (v : Value) (y : DataW H × List MemPlace), w.cell? (a.add (i * fs.size + j)) = some v ∧ ys[j]? = some y ∧ DataW.trod enc P w base spare held n f.type [v] = some y := by
  rcases open_slice ht h with h0 | ⟨a, len, cap, m, n, D, Pl, hcs, hb, hl, hm, hmm, hx, hi⟩
  · exact .inl ⟨h0.1, by rw [h0.2]⟩
  · refine .inr ⟨a, len, cap, D, _, hcs, hl, hm, by rw [hx], fun i hil => ?_⟩
    have him : i < m := by rw [hmm]; split <;> omega
    obtain ⟨cs', hc, ht'⟩ := hi i him
    rw [hC] at hc
    obtain ⟨ys, n', hn', hy, hlen, hyl, hf⟩ := DataW.trod_struct he ht'
    obtain ⟨_, hcl, hat⟩ := World.cells?_some hc
    simp only [Prod.mk.injEq] at hy
    refine ⟨ys, n', hy.1, hyl, fun j f hj => ?_⟩
    obtain ⟨ho, hk⟩ := hone_of hone j f hj
    have hjl : j < fs.size := (Array.getElem?_eq_some_iff.1 hj).1
    have hcell := hat j hjl
    have hv : cs'[j]? = some (cs'[j]'(by omega)) := List.getElem?_eq_getElem (by omega)
    have h1 := hf j f hj
    rw [ho, hk] at h1
    have hone' : (cs'.drop j).take 1 = [cs'[j]'(by omega)] := by
      rw [List.drop_eq_getElem_cons (by omega)]
      rfl
    rw [hone'] at h1
    have hys : ys[j]? = some (ys[j]'(by omega)) := List.getElem?_eq_getElem (by omega)
    refine ⟨_, _, ?_, hys, h1.trans hys⟩
    rw [← Go.Deep.add_add, hcell, hv]
end
section
variable {H : Type}
theorem bulk_pos (d : DataW H) : 1 ≤ Rows.uptoBulk d := by
  cases d with
  | lit l => cases l <;> simp [Rows.uptoBulk]
  | nil => simp [Rows.uptoBulk]
  | ptr d => simp [Rows.uptoBulk]
  | slice elems spare => simp [Rows.uptoBulk]
  | agg parts => simp [Rows.uptoBulk]
  | iface t d => simp [Rows.uptoBulk]
  | map entries => simp [Rows.uptoBulk]
  | held h => simp [Rows.uptoBulk]
end
def Old (w : World) (k : Nat) : Prop := k < w.heap.size
theorem spot_of {w : World} {a : Addr} {v : Value} (h : w.cell? a = some v) : a.spot = none ∧ a.block < w.heap.size := by
  unfold World.cell? at h
  split at h
  · rename_i c _ _ hc
    refine ⟨?_, (Array.getElem?_eq_some_iff.1 hc).1⟩
    split at h
    · exact absurd h (by simp)
    · rename_i hs; simpa using hs
  · exact absurd h (by simp)
theorem bulk_mem {H : Type} {d : DataW H} : ∀ {l : List (DataW H)}, d ∈ l → Rows.uptoBulk d ≤ Rows.uptoBulkAll l
  | [], h => by cases h
  | y :: r, h => by
    simp only [Rows.uptoBulkAll]
    rcases List.mem_cons.1 h with e | e
    · subst e; omega
    · have := bulk_mem e; omega
theorem add_none (b off n : Nat) : (⟨b, off, none⟩ : Addr).add n = ⟨b, off + n, none⟩ := by
  unfold Addr.add
  split
  · rename_i h; subst h; rfl
  · rfl
section
variable {H : Type} {enc : TypeId × Value → H} {w : World} {base : Nat} {spare : Nat → Bool} {held : Bool}
end
end Go.Proofs.YtjpopekmbmcggaaGreatDoor
namespace Go.Proofs.YtjpopekmbmcggaaGreatDoor
open Go.RowKit
def CpA (P : Program) (ts : Array TypeId) (ty : TypeId) (vs : Array Value) (w : World) : Result Value := (Builtin.copy_ ts ty vs).run P w
theorem wp_copy_wr {P : Program} {d : Option Tmp} {s x : Operand} {t t' ty : TypeId} {pos : String} {af : Array Edge} {g : Option (Nat × Bool)} {a : Act} {w : World} {K : Act → World → Prop} {Q : Exit → Act → World → Prop} :
    Oper.wp P ⟨d, .call ⟨.builtin .copy, #[s, x], #[t, t']⟩, ty, pos, af, g⟩ a w K Q =
      Oper.upon P ⟨d, .call ⟨.builtin .copy, #[s, x], #[t, t']⟩, ty, pos, af, g⟩ a K Q ((CpA P #[t, t'] ty #[a.eval s, a.eval x] w).andThen fun v w' => .ok (.value v) w') := by
  unfold Oper.wp execOp CpA
  simp only [resolve, invoke, builtin, Sem.run_bind, Sem.run_pure, Result.andThen_ok, List.map_toArray, List.map_cons, List.map_nil]
theorem run_copy_rowK {P : Program} (w : World) (dT sT ty elem : TypeId) (size g o dLen dCap : Nat) (a : Addr) (sLen sCap : Nat) (cur : Array Value) (t : TypeId) (cs : List Value)
    (hu : P.underlying dT = some (.slice elem)) (hs : (P.info? elem).map (·.size) = some size)
    (hg : w.heap[g]? = some (.cells cur t (0, 0))) (hn : cs.length = Nat.min sLen dLen * size)
    (hsrc : ∀ j v, cs[j]? = some v → w.cell? (a.add j) = some v) (hfit : o + cs.length ≤ cur.size) (h1 : ∀ v ∈ cs, v.oneCell' = true) :
    CpA P #[dT, sT] ty #[.slice (some ⟨g, o, none⟩) dLen dCap, .slice (some a) sLen sCap] w =
      .ok (goInt (Nat.min sLen dLen)) (w.setRow g (cur.toList.take o ++ cs ++ cur.toList.drop (o + cs.length)).toArray) := by
  have hl := run_loadCells_list (P := P) w a cs hsrc
  have hst := run_storeCells_at P g o t cs 0 cur w hg (by simpa using hfit) h1
  unfold CpA
  cases hq : P.info? elem with
  | none => simp [hq] at hs
  | some i =>
    have hi : i.size = size := by simpa [hq] using hs
    simp [Builtin.copy_, run_underlying hu, Builtin.lenOf, Builtin.firstCells, sizeOf, typeInfo, hq, hi, ← hn, hl, hst]
theorem heap_alloc (w : World) (o : Obj) : (w.alloc o).heap[w.heap.size]? = some o := Array.getElem?_push_size
theorem Prow.start {G : Nat → Prop} {B : Nat} {w : World} {g : Nat} (hB : B ≤ g) (hh : w.heap[g]? = some (.cells #[] 50 (0, 0))) : Prow G B w (.slice (some ⟨g, 0, none⟩) 0 0) .nil :=
  ⟨[], ⟨rfl, .inr ⟨g, 0, #[], rfl, hB, hh, Nat.le_refl _, Nat.zero_le _, rfl, rfl⟩⟩, rfl⟩
attribute [local go_sem ↓] wp_append_wr
set_option maxRecDepth 100000 in
set_option maxHeartbeats 2000000 in
theorem clone_p (l : Pts) (A : Option Addr) (c : Nat) (G : Nat → Prop) (w : World) (hG : ∀ k, G k → k < w.heap.size) (hp : PtsAt G w A 0 l) (hc : l.len ≤ c) (hwt : l.len ≤ 1099511627776) (hn : A = none → l.len = 0 ∧ c = 0) :
    Calls Tryz.prog 212 #[.slice A l.len c] w fun e w' => ∃ v, e = .returned v ∧ Prow G w.heap.size w' v l ∧ Below w.heap.size w w' := by
  have q31 : ∀ (w : World) (a : Option Addr) (n c : Nat), (binOp .eql 29 (.slice a n c) (.slice none 0 0)).run Tryz.prog w = .ok (.bool a.isNone) w := fun w a n c => Lib.run_eql_slice_nil w _ _ a n c 0 0 Tryz.underlying29
  cases A with
  | none =>
    obtain ⟨h0, rfl⟩ := hn rfl
    have hl : l = .nil := by
      cases l with
      | nil => rfl
      | cons => simp [Pts.len] at h0
    subst hl
    rw [show (Pts.nil).len = 0 from rfl]
    go_enter Tryz.func212, Tryz.ntmps212
    go_wp2
    go_ret
    exact ⟨_, rfl, Prow.nothing, Below.refl _ _⟩
  | some a =>
    have hb : Below w.heap.size w (w.alloc (.cells #[] 50)) := (Below.refl _ _).alloc (Nat.le_refl _) _
    have h0 := Prow.start (G := G) (B := w.heap.size) (Nat.le_refl _) (heap_alloc w (.cells #[] 50))
    obtain ⟨v', w', hr, h2, h3, _⟩ := h0.append 29 (hp.keep fun p hp' => World.cell?_of_block (hb.block _ (hG _ hp'))) (fun _ h => h) hG (by show 0 + l.len ≤ _; omega) hb.size hc
    have hr' := WrA.of hr
    have H2 := Lib.hid h2
    have HB := Lib.hid (hb.grown h3 hb.size (fun k hk => (h0.lt hk).1))
    clear h2 h3 h0 hr hn
    go_enter Tryz.func212, Tryz.ntmps212
    go_wp2_with fail
    go_ret
    exact ⟨v', rfl, H2.out, HB.out⟩
end Go.Proofs.YtjpopekmbmcggaaGreatDoor
