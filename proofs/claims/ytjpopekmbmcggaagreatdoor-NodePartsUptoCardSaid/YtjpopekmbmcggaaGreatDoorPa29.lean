/- What is proved: of what is right all words and redirections are right, in all of it, and what has one that is not is not (arguments of bulk at most 1048576; the tables begin as the program's text lays them, which the card ties). -/
import Derived.Test.YtjpopekmbmcggaaGreatDoorPa23
import Derived.Test.YtjpopekmbmcggaaGreatDoorPa02
import Derived.Test.YtjpopekmbmcggaaGreatDoorPa28
import Derived.Test.YtjpopekmbmcggaaGreatDoorPa08
import Derived.Test.YtjpopekmbmcggaaGreatDoorCards
import Derived.Test.YtjpopekmbmcggaaGreatDoorTie
import Derived.ProofKit
import Derived.OpenShut
import Derived.Deep.DeepHandedRow
import Derived.Lib.LaidTab
import Derived.SevenTiedAt
import Derived.ShutString
import Derived.ChangeOld
import Derived.Below
import Derived.Carry
import Derived.JoinedCond
import Derived.WalkKit
namespace Go.Proofs.YtjpopekmbmcggaaGreatDoor
open Go.RowKit Go.ChangeShapes Go.WideShapes Go.Deep
theorem All2.app {α β : Type} {R : α → β → Prop} : ∀ {l : List α} {m : List β} {l' : List α} {m' : List β}, All2 R l m → All2 R l' m' → All2 R (l ++ l') (m ++ m')
  | [], [], _, _, _, h => h
  | _ :: _, _ :: _, _, _, h, h' => ⟨h.1, All2.app h.2 h'⟩
  | [], _ :: _, _, _, h, _ => h.elim
  | _ :: _, [], _, _, h, _ => h.elim
theorem tot_app {β : Type} (C : β → Nat) : ∀ l m : List β, tot C (l ++ m) = tot C l + tot C m
  | [], m => by simp [tot]
  | x :: l, m => by rw [List.cons_append, tot, tot, tot_app C l m]; omega
section
variable {H : Type} {enc : TypeId × Value → H} {w : World} {base : Nat} {spare : Nat → Bool} {held : Bool}
theorem read_list {β : Type} {t e : TypeId} {sz : Nat} (ht : Tryz.prog.underlying t = some (.slice e)) (hC : Tryz.prog.cellsOf e = sz) (hsz : 0 < sz) (R : List Value → β → Prop) (Wt : β → Nat) (B : Nat)
    (hel : ∀ (fuel : Nat) (cs : List Value) (y : DataW H × List MemPlace), cs.length = sz → DataW.trod enc Tryz.prog w base spare held fuel e cs = some y → Rows.uptoBulk y.1 ≤ B → ∃ x, R cs x ∧ Wt x + 1 ≤ 2 * Rows.uptoBulk y.1)
    (fuel : Nat) (cs : List Value) (x : DataW H × List MemPlace) (h : DataW.trod enc Tryz.prog w base spare held fuel t cs = some x) (hB : Rows.uptoBulk x.1 ≤ B + 1) :
    ∃ (xs : List β) (v : Value), cs = [v] ∧ SlAt (Old w) w sz R v xs ∧ xs.length + tot Wt xs + 2 ≤ 2 * Rows.uptoBulk x.1 := by
  rcases open_slice ht h with ⟨hcs, hx⟩ | ⟨a, len, cap, m, n, D, Pl, hcs, hb, hl, hm, hmm, hx, hi⟩
  · refine ⟨[], .slice none 0 0, hcs, SlAt.nil0, ?_⟩
    have := bulk_pos x.1
    simp only [List.length_nil, tot]
    omega
  · have hcell : ∀ i, i < len → ∃ cs', cs'.length = sz ∧ (∀ j u, cs'[j]? = some u → w.cell? (a.add (i * sz + j)) = some u) ∧ DataW.trod enc Tryz.prog w base spare held n e cs' = some (D i, Pl i) := fun i hil => by
      obtain ⟨cs', hc, ht'⟩ := hi i (by rw [hmm]; split <;> omega)
      rw [hC] at hc
      obtain ⟨_, hcl, hat⟩ := World.cells?_some hc
      refine ⟨cs', hcl, fun j u hj => ?_, ht'⟩
      have hjl : j < sz := by
        have := (List.getElem?_eq_some_iff.1 hj).1
        omega
      rw [← Go.Deep.add_add, hat j hjl, hj]
    have hbk : Rows.uptoBulkAll ((List.range len).map D) + 1 ≤ Rows.uptoBulk x.1 := by
      rw [hx]
      simp only [Rows.uptoBulk]
      omega
    have key : ∀ (k i : Nat), i + k = len → ∃ xs : List β, xs.length = k ∧ (∀ j (hj : j < xs.length), ∃ vs : List Value, vs.length = sz ∧ R vs xs[j] ∧ ∀ q u, vs[q]? = some u → w.cell? (a.add ((i + j) * sz + q)) = some u) ∧
        xs.length + tot Wt xs ≤ 2 * Rows.uptoBulkAll ((List.range' i k).map D) := by
      intro k
      induction k with
      | zero => exact fun i _ => ⟨[], rfl, fun j hj => by simp at hj, by simp [tot]⟩
      | succ k ih =>
        intro i hik
        obtain ⟨r, hrl, hrc, hrw⟩ := ih (i + 1) (by omega)
        obtain ⟨cs', hcl, hcc, hct⟩ := hcell i (by omega)
        have hDb : Rows.uptoBulk (D i) ≤ B := by
          have : Rows.uptoBulk (D i) ≤ Rows.uptoBulkAll ((List.range len).map D) := bulk_mem (List.mem_map.2 ⟨i, List.mem_range.2 (by omega), rfl⟩)
          omega
        obtain ⟨x0, hx0, hw0⟩ := hel n cs' _ hcl hct hDb
        refine ⟨x0 :: r, by simp [hrl], fun j hj => ?_, ?_⟩
        · cases j with
          | zero => exact ⟨cs', hcl, hx0, by simpa using hcc⟩
          | succ j =>
            obtain ⟨vs, h1, h2, h3⟩ := hrc j (by simpa using hj)
            exact ⟨vs, h1, h2, fun q u hq => by rw [show i + (j + 1) = i + 1 + j by omega]; exact h3 q u hq⟩
        · rw [List.range'_succ, List.map_cons]
          simp only [Rows.uptoBulkAll, List.length_cons, tot]
          simp only at hw0
          omega
    obtain ⟨xs, hxl, hxc, hxw⟩ := key len 0 (by omega)
    refine ⟨xs, .slice (some a) len cap, hcs, ⟨some a, cap, by rw [hxl], by omega, hm, fun hpos => ?_⟩, ?_⟩
    · obtain ⟨b, off, rfl⟩ : ∃ b off, a = ⟨b, off, none⟩ := by
        obtain ⟨vs, h1, _, h3⟩ := hxc 0 hpos
        have hv0 : vs[0]? = some (vs[0]'(by omega)) := List.getElem?_eq_getElem (by omega)
        have c0 := h3 0 _ hv0
        obtain ⟨b, off, sp⟩ := a
        have hs : sp = none := by
          simp only [Nat.zero_add, Nat.zero_mul] at c0
          exact (spot_of c0).1
        exact ⟨b, off, by rw [hs]⟩
      refine ⟨b, off, rfl, ?_, fun i hi2 => ?_⟩
      · obtain ⟨vs, h1, _, h3⟩ := hxc 0 hpos
        have hv0 : vs[0]? = some (vs[0]'(by omega)) := List.getElem?_eq_getElem (by omega)
        have c0 := h3 0 _ hv0
        rw [add_none] at c0
        exact (spot_of c0).2
      · obtain ⟨vs, h1, h2, h3⟩ := hxc i hi2
        refine ⟨vs, h1, h2, fun j u hj => ?_⟩
        have := h3 j u hj
        rw [add_none, Nat.zero_add] at this
        rw [Nat.add_assoc]
        exact this
    · rw [← List.range_eq_range'] at hxw
      omega
def CRd (enc : TypeId × Value → H) (w : World) (base : Nat) (spare : Nat → Bool) (held : Bool) (f : Nat) : Prop := ∀ (fuel : Nat) (cs : List Value) (x : DataW H × List MemPlace), Rows.uptoBulk x.1 ≤ f → DataW.trod enc Tryz.prog w base spare held fuel 26 cs = some x →
  ∃ (xs : List (Nd f)) (v : Value), cs = [v] ∧ SlAt (Old w) w 10 (NdV f (Old w) w) v xs ∧ xs.length + tot (Nd.wt f) xs + 2 ≤ 2 * Rows.uptoBulk x.1
theorem read_parts2 (f : Nat) (hC : CRd enc w base spare held f) : ∀ (N : Nat) (fuel : Nat) (cs : List Value) (x : DataW H × List MemPlace), Rows.uptoBulk x.1 ≤ N → N ≤ f + 1 → DataW.trod enc Tryz.prog w base spare held fuel 29 cs = some x →
    ∃ (l : Pts) (A : Option Addr) (c : Nat) (cc : List (List (Nd f))), cs = [.slice A l.len c] ∧ l.len ≤ c ∧ c ≤ maxLen ∧ PtsAt (Old w) w A 0 l ∧ All2 (fun cm l => SlAt (Old w) w 10 (NdV f (Old w) w) cm.val l) l.allc cc ∧
      l.wt + tot (fun l => 1 + tot (Nd.wt f) l) cc + 2 ≤ 2 * Rows.uptoBulk x.1 := by
  intro N
  induction N with
  | zero => intro _ _ x h; have := bulk_pos x.1; omega
  | succ N ih =>
    intro fuel cs x hN hNf h
    rcases open_structs Tryz.underlying29 Tryz.underlying50 (by kernel_rfl) (by kernel_rfl) h with ⟨hcs, hx⟩ | ⟨a, len, cap, D, sp, hcs, hl, hm, hx, hi⟩
    · refine ⟨.nil, none, 0, [], hcs, Nat.le_refl _, Nat.zero_le _, trivial, trivial, ?_⟩
      have := bulk_pos x.1
      simp only [Pts.wt, tot]
      omega
    · by_cases hz : len = 0
      · subst hz
        refine ⟨.nil, some a, cap, [], hcs, Nat.zero_le _, hm, trivial, trivial, ?_⟩
        have := bulk_pos x.1
        simp only [Pts.wt, tot]
        omega
      obtain ⟨b, off, rfl⟩ : ∃ b off, a = ⟨b, off, none⟩ := by
        obtain ⟨_, _, _, _, hf⟩ := hi 0 (by omega)
        obtain ⟨v0, y0, c0, _⟩ := hf 0 _ rfl
        obtain ⟨b, off, sp⟩ := a
        have hs : sp = none := by
          rw [Nat.zero_mul] at c0
          exact (spot_of c0).1
        exact ⟨b, off, by rw [hs]⟩
      have key : ∀ (n i : Nat), i + n = len → ∃ (l : Pts) (cc : List (List (Nd f))), l.len = n ∧ PtsAt (Old w) w (some ⟨b, off, none⟩) i l ∧ All2 (fun cm l => SlAt (Old w) w 10 (NdV f (Old w) w) cm.val l) l.allc cc ∧
          l.wt + tot (fun l => 1 + tot (Nd.wt f) l) cc ≤ 2 * Rows.uptoBulkAll ((List.range' i n).map D) := by
        intro n
        induction n with
        | zero => intro i _; exact ⟨.nil, [], rfl, trivial, trivial, Nat.zero_le _⟩
        | succ n ihn =>
          intro i hin
          obtain ⟨r, rc, hrl, hrp, hra, hrw⟩ := ihn (i + 1) (by omega)
          obtain ⟨ys, m, hD, hyl, hf⟩ := hi i (by omega)
          have hDb : Rows.uptoBulk (D i) ≤ N := by
            have : Rows.uptoBulk (D i) ≤ Rows.uptoBulkAll ((List.range len).map D) := bulk_mem (List.mem_map.2 ⟨i, List.mem_range.2 (by omega), rfl⟩)
            rw [hx] at hN
            simp only [Rows.uptoBulk] at hN
            omega
          obtain ⟨v0, y0, c0, e0, t0⟩ := hf 0 _ rfl
          obtain ⟨v1, y1, c1, e1, t1⟩ := hf 1 _ rfl
          obtain ⟨v2, y2, c2, e2, t2⟩ := hf 2 _ rfl
          obtain ⟨v3, y3, c3, e3, t3⟩ := hf 3 _ rfl
          obtain ⟨v4, y4, c4, e4, t4⟩ := hf 4 _ rfl
          match ys, hyl with
          | [z0, z1, z2, z3, z4], _ =>
            simp only [List.getElem?_cons_zero, List.getElem?_cons_succ, Option.some.injEq] at e0 e1 e2 e3 e4
            subst e0 e1 e2 e3 e4
            simp only [List.map_cons, List.map_nil] at hD
            obtain ⟨k, hv0, hy0, _⟩ := DataW.trod_int Tryz.underlying3 t0
            obtain ⟨t, hv1, hy1, _⟩ := DataW.trod_string Tryz.underlying9 t1
            obtain ⟨o, hv2, hy2, _⟩ := DataW.trod_string Tryz.underlying9 t2
            have hb : Rows.uptoBulk (D i) = 1 + (t.size + 1) + (o.size + 1) + Rows.uptoBulk z3.1 + Rows.uptoBulk z4.1 + 1 := by
              rw [hD]
              simp only [Rows.uptoBulk, Rows.uptoBulkAll, hy0, hy1, hy2]
              have a1 : t.data.toList.length = t.size := by rw [Array.length_toList]; rfl
              have a2 : o.data.toList.length = o.size := by rw [Array.length_toList]; rfl
              omega
            obtain ⟨kids, Ak, ck, kc, hv3, hkl, hkm, hkp, hka, hkw⟩ := ih m _ z3 (by omega) (by omega) t3
            obtain ⟨cl, vc, hv4, hsl, hcw⟩ := hC m _ z4 (by omega) t4
            obtain ⟨Ac, nc, rfl, _⟩ := hsl.shape
            simp only [List.cons.injEq, and_true] at hv0 hv1 hv2 hv3 hv4
            subst hv0 hv1 hv2 hv3 hv4
            rw [add_none] at c0 c1 c2 c3 c4
            refine ⟨.cons k t o kids ⟨Ac, cl.length, nc⟩ r, cl :: (kc ++ rc), by rw [Pts.len, hrl], ⟨b, off, Ak, ck, rfl, (spot_of c0).2, c0, c1, c2, c3, c4, hkl, hkp, hrp⟩, ⟨hsl, All2.app hka hra⟩, ?_⟩
            rw [List.range'_succ, List.map_cons]
            simp only [Rows.uptoBulkAll, Pts.wt, tot, tot_app]
            omega
      obtain ⟨l, cc, hll, hlp, hla, hlw⟩ := key len 0 (by omega)
      refine ⟨l, some ⟨b, off, none⟩, cap, cc, by rw [hcs, hll], by omega, hm, hlp, hla, ?_⟩
      rw [hx]
      rw [← List.range_eq_range'] at hlw
      simp only [Rows.uptoBulk]
      omega
theorem list1 {β : Type} (l : List β) (h : l.length = 1) : ∃ a, l = [a] := by
  match l, h with
  | [a], _ => exact ⟨a, rfl⟩
theorem str_len (t : ByteArray) : t.data.toList.length = t.size := by rw [Array.length_toList]; rfl
theorem read_wd (f : Nat) (hf : f ≤ 2097152) (hC : CRd enc w base spare held f) (fuel : Nat) (cs : List Value) (y : DataW H × List MemPlace) (hl : cs.length = 1) (h : DataW.trod enc Tryz.prog w base spare held fuel 31 cs = some y) (hB : Rows.uptoBulk y.1 ≤ f + 1) :
    ∃ x : WdF (Nd f), WdN f (Old w) w cs x ∧ wtW (Nd.wt f) x + 1 ≤ 2 * Rows.uptoBulk y.1 := by
  obtain ⟨v, rfl⟩ := list1 cs hl
  obtain ⟨xs, n, _, hx, _, hlen, hg⟩ := DataW.trod_struct Tryz.underlying31 h
  match xs, hlen with
  | [y0], _ =>
    have h0 : DataW.trod enc Tryz.prog w base spare held n 29 ([v].take (Tryz.prog.cellsOf 29)) = some y0 := hg 0 _ rfl
    rw [show Tryz.prog.cellsOf 29 = 1 by kernel_rfl] at h0
    have hy : Rows.uptoBulk y.1 = Rows.uptoBulk y0.1 + 1 := by
      rw [hx]
      simp only [List.map_cons, List.map_nil, Rows.uptoBulk, Rows.uptoBulkAll, Nat.add_zero]
    obtain ⟨l, A, c, cc, hv, h1, h2, h3, h4, h5⟩ := read_parts2 f hC _ _ _ y0 (Nat.le_refl _) (by omega) h0
    refine ⟨⟨l, cc⟩, ⟨A, c, hv, h1, h2, by simp only; omega, h3, h4⟩, ?_⟩
    unfold wtW
    simp only
    omega
theorem read_rd (f : Nat) (hf : f ≤ 2097152) (hC : CRd enc w base spare held f) (fuel : Nat) (cs : List Value) (y : DataW H × List MemPlace) (hl : cs.length = 4) (h : DataW.trod enc Tryz.prog w base spare held fuel 33 cs = some y) (hB : Rows.uptoBulk y.1 ≤ f + 1) :
    ∃ x : RdF (Nd f), RdN f (Old w) w cs x ∧ wtR (Nd.wt f) x + 1 ≤ 2 * Rows.uptoBulk y.1 := by
  match cs, hl with
  | [c0, c1, c2, c3], _ =>
    obtain ⟨xs, n, _, hx, _, hlen, hg⟩ := DataW.trod_struct Tryz.underlying33 h
    match xs, hlen with
    | [y0, y1, y2, y3], _ =>
      have h0 : DataW.trod enc Tryz.prog w base spare held n 9 ([c0, c1, c2, c3].take (Tryz.prog.cellsOf 9)) = some y0 := hg 0 _ rfl
      have h1 : DataW.trod enc Tryz.prog w base spare held n 3 ([c1, c2, c3].take (Tryz.prog.cellsOf 3)) = some y1 := hg 1 _ rfl
      have h2 : DataW.trod enc Tryz.prog w base spare held n 31 ([c2, c3].take (Tryz.prog.cellsOf 31)) = some y2 := hg 2 _ rfl
      have h3 : DataW.trod enc Tryz.prog w base spare held n 9 ([c3].take (Tryz.prog.cellsOf 9)) = some y3 := hg 3 _ rfl
      rw [show Tryz.prog.cellsOf 9 = 1 by kernel_rfl] at h0 h3
      rw [show Tryz.prog.cellsOf 3 = 1 by kernel_rfl] at h1
      rw [show Tryz.prog.cellsOf 31 = 1 by kernel_rfl] at h2
      obtain ⟨num, hv0, hy0, _⟩ := DataW.trod_string Tryz.underlying9 h0
      obtain ⟨op, hv1, hy1, _⟩ := DataW.trod_int Tryz.underlying3 h1
      obtain ⟨here, hv3, hy3, _⟩ := DataW.trod_string Tryz.underlying9 h3
      have hy : Rows.uptoBulk y.1 = (num.size + 1) + 1 + Rows.uptoBulk y2.1 + (here.size + 1) + 1 := by
        rw [hx]
        simp only [List.map_cons, List.map_nil, Rows.uptoBulk, Rows.uptoBulkAll, hy0, hy1, hy3, str_len]
        omega
      obtain ⟨x, hxx, hw⟩ := read_wd f hf hC n _ y2 rfl h2 (by omega)
      obtain rfl : c0 = .string num := (List.cons.inj hv0).1
      obtain rfl : c1 = .int .i64 op := (List.cons.inj hv1).1
      obtain rfl : c3 = .string here := (List.cons.inj hv3).1
      refine ⟨⟨num, op, x, here⟩, ⟨c2, rfl, by simp only; omega, by simp only; omega, hxx⟩, ?_⟩
      unfold wtR
      simp only
      omega
theorem read_node (f : Nat) (hf : f ≤ 2097152) (hC : CRd enc w base spare held f)
    (hA : ∀ (fuel : Nat) (cs : List Value) (y : DataW H × List MemPlace), cs.length = 11 → DataW.trod enc Tryz.prog w base spare held fuel 54 cs = some y → Rows.uptoBulk y.1 ≤ f → ∃ x : ArF (Nd f), ArN f (Old w) w cs x ∧ wtA (Nd.wt f) x + 1 ≤ 2 * Rows.uptoBulk y.1)
    (fuel : Nat) (cs : List Value) (y : DataW H × List MemPlace) (hl : cs.length = 10) (h : DataW.trod enc Tryz.prog w base spare held fuel 28 cs = some y) (hB : Rows.uptoBulk y.1 ≤ f + 1) :
    ∃ x : NdF (Nd f), NdV (f + 1) (Old w) w cs x ∧ wtF (Nd.wt f) x + 1 ≤ 2 * Rows.uptoBulk y.1 := by
  match cs, hl with
  | [c0, c1, c2, c3, c4, c5, c6, c7, c8, c9], _ =>
    obtain ⟨xs, n, _, hx, _, hlen, hg⟩ := DataW.trod_struct Tryz.underlying28 h
    match xs, hlen with
    | [y0, y1, y2, y3, y4, y5, y6, y7, y8, y9], _ =>
      have h0 : DataW.trod enc Tryz.prog w base spare held n 3 ([c0, c1, c2, c3, c4, c5, c6, c7, c8, c9].take (Tryz.prog.cellsOf 3)) = some y0 := hg 0 _ rfl
      have h1 : DataW.trod enc Tryz.prog w base spare held n 9 ([c1, c2, c3, c4, c5, c6, c7, c8, c9].take (Tryz.prog.cellsOf 9)) = some y1 := hg 1 _ rfl
      have h2 : DataW.trod enc Tryz.prog w base spare held n 4 ([c2, c3, c4, c5, c6, c7, c8, c9].take (Tryz.prog.cellsOf 4)) = some y2 := hg 2 _ rfl
      have h3 : DataW.trod enc Tryz.prog w base spare held n 4 ([c3, c4, c5, c6, c7, c8, c9].take (Tryz.prog.cellsOf 4)) = some y3 := hg 3 _ rfl
      have h4 : DataW.trod enc Tryz.prog w base spare held n 22 ([c4, c5, c6, c7, c8, c9].take (Tryz.prog.cellsOf 22)) = some y4 := hg 4 _ rfl
      have h5 : DataW.trod enc Tryz.prog w base spare held n 23 ([c5, c6, c7, c8, c9].take (Tryz.prog.cellsOf 23)) = some y5 := hg 5 _ rfl
      have h6 : DataW.trod enc Tryz.prog w base spare held n 23 ([c6, c7, c8, c9].take (Tryz.prog.cellsOf 23)) = some y6 := hg 6 _ rfl
      have h7 : DataW.trod enc Tryz.prog w base spare held n 24 ([c7, c8, c9].take (Tryz.prog.cellsOf 24)) = some y7 := hg 7 _ rfl
      have h8 : DataW.trod enc Tryz.prog w base spare held n 25 ([c8, c9].take (Tryz.prog.cellsOf 25)) = some y8 := hg 8 _ rfl
      have h9 : DataW.trod enc Tryz.prog w base spare held n 26 ([c9].take (Tryz.prog.cellsOf 26)) = some y9 := hg 9 _ rfl
      rw [show Tryz.prog.cellsOf 3 = 1 by kernel_rfl] at h0
      rw [show Tryz.prog.cellsOf 9 = 1 by kernel_rfl] at h1
      rw [show Tryz.prog.cellsOf 4 = 1 by kernel_rfl] at h2 h3
      rw [show Tryz.prog.cellsOf 22 = 1 by kernel_rfl] at h4
      rw [show Tryz.prog.cellsOf 23 = 1 by kernel_rfl] at h5 h6
      rw [show Tryz.prog.cellsOf 24 = 1 by kernel_rfl] at h7
      rw [show Tryz.prog.cellsOf 25 = 1 by kernel_rfl] at h8
      rw [show Tryz.prog.cellsOf 26 = 1 by kernel_rfl] at h9
      obtain ⟨k, hv0, hy0, _⟩ := DataW.trod_int Tryz.underlying3 h0
      obtain ⟨s, hv1, hy1, _⟩ := DataW.trod_string Tryz.underlying9 h1
      obtain ⟨nt, hv2, hy2⟩ := DataW.trod_bool Tryz.underlying4 h2
      obtain ⟨ni, hv3, hy3⟩ := DataW.trod_bool Tryz.underlying4 h3
      have hy : Rows.uptoBulk y.1 = 1 + (s.size + 1) + 1 + 1 + Rows.uptoBulk y4.1 + Rows.uptoBulk y5.1 + Rows.uptoBulk y6.1 + Rows.uptoBulk y7.1 + Rows.uptoBulk y8.1 + Rows.uptoBulk y9.1 + 1 := by
        rw [hx]
        simp only [List.map_cons, List.map_nil, Rows.uptoBulk, Rows.uptoBulkAll, hy0, hy1, hy2, hy3, str_len]
        omega
      have b4 := bulk_pos y4.1; have b5 := bulk_pos y5.1; have b6 := bulk_pos y6.1; have b7 := bulk_pos y7.1; have b8 := bulk_pos y8.1; have b9 := bulk_pos y9.1
      obtain ⟨ops, w4, q4, s4, r4⟩ := read_list Tryz.underlying22 (sz := 1) (by kernel_rfl) (by omega) IntV (fun _ => 0) f (fun fuel cs y hl h hB => by
        obtain ⟨k, hv, hy, _⟩ := DataW.trod_int Tryz.underlying3 h
        exact ⟨k, hv, by have := bulk_pos y.1; omega⟩) n _ y4 h4 (by omega)
      obtain ⟨asg, w5, q5, s5, r5⟩ := read_list Tryz.underlying23 (sz := 1) (by kernel_rfl) (by omega) (WdN f (Old w) w) (wtW (Nd.wt f)) f (fun fuel cs y hl h hB => read_wd f hf hC fuel cs y hl h (by omega)) n _ y5 h5 (by omega)
      obtain ⟨wds, w6, q6, s6, r6⟩ := read_list Tryz.underlying23 (sz := 1) (by kernel_rfl) (by omega) (WdN f (Old w) w) (wtW (Nd.wt f)) f (fun fuel cs y hl h hB => read_wd f hf hC fuel cs y hl h (by omega)) n _ y6 h6 (by omega)
      obtain ⟨rds, w7, q7, s7, r7⟩ := read_list Tryz.underlying24 (sz := 4) (by kernel_rfl) (by omega) (RdN f (Old w) w) (wtR (Nd.wt f)) f (fun fuel cs y hl h hB => read_rd f hf hC fuel cs y hl h (by omega)) n _ y7 h7 (by omega)
      obtain ⟨ars, w8, q8, s8, r8⟩ := read_list Tryz.underlying25 (sz := 11) (by kernel_rfl) (by omega) (ArN f (Old w) w) (wtA (Nd.wt f)) f (fun fuel cs y hl h hB => hA fuel cs y hl h hB) n _ y8 h8 (by omega)
      obtain ⟨kds, w9, q9, s9, r9⟩ := hC n _ y9 (by omega) h9
      obtain rfl : c0 = .int .i64 k := (List.cons.inj hv0).1
      obtain rfl : c1 = .string s := (List.cons.inj hv1).1
      obtain rfl : c2 = .bool nt := (List.cons.inj hv2).1
      obtain rfl : c3 = .bool ni := (List.cons.inj hv3).1
      obtain rfl : c4 = w4 := (List.cons.inj q4).1
      obtain rfl : c5 = w5 := (List.cons.inj q5).1
      obtain rfl : c6 = w6 := (List.cons.inj q6).1
      obtain rfl : c7 = w7 := (List.cons.inj q7).1
      obtain rfl : c8 = w8 := (List.cons.inj q8).1
      obtain rfl : c9 = w9 := (List.cons.inj q9).1
      refine ⟨NdF.mk k s nt ni ops asg wds rds ars kds, ⟨c4, c5, c6, c7, c8, c9, rfl, ⟨by simp only; omega, by simp only; omega⟩, s4, s5, s6, s7, s8, s9⟩, ?_⟩
      unfold wtF
      simp only
      omega
theorem read_all : ∀ f : Nat, f ≤ 2097152 → CRd enc w base spare held f ∧
    ∀ (fuel : Nat) (cs : List Value) (y : DataW H × List MemPlace), cs.length = 11 → DataW.trod enc Tryz.prog w base spare held fuel 54 cs = some y → Rows.uptoBulk y.1 ≤ f → ∃ x : ArF (Nd f), ArN f (Old w) w cs x ∧ wtA (Nd.wt f) x + 1 ≤ 2 * Rows.uptoBulk y.1 := by
  intro f
  induction f with
  | zero => exact fun _ => ⟨fun _ _ x h => by have := bulk_pos x.1; omega, fun _ _ y _ _ h => by have := bulk_pos y.1; omega⟩
  | succ f ih =>
    intro hf
    obtain ⟨hC, hA⟩ := ih (by omega)
    have hN : ∀ (fuel : Nat) (cs : List Value) (y : DataW H × List MemPlace), cs.length = 10 → DataW.trod enc Tryz.prog w base spare held fuel 28 cs = some y → Rows.uptoBulk y.1 ≤ f + 1 → ∃ x : Nd (f + 1), NdV (f + 1) (Old w) w cs x ∧ Nd.wt (f + 1) x + 1 ≤ 2 * Rows.uptoBulk y.1 :=
      fun fuel cs y hl h hB => read_node f (by omega) hC hA fuel cs y hl h hB
    have hC1 : CRd enc w base spare held (f + 1) := fun fuel cs x hB h => read_list Tryz.underlying26 (sz := 10) (by kernel_rfl) (by omega) (NdV (f + 1) (Old w) w) (Nd.wt (f + 1)) (f + 1) hN fuel cs x h (by omega)
    refine ⟨hC1, fun fuel cs y hl h hB => ?_⟩
    match cs, hl with
    | [c0, c1, c2, c3, c4, c5, c6, c7, c8, c9, c10], _ =>
      obtain ⟨xs, n, _, hx, _, hlen, hg⟩ := DataW.trod_struct Tryz.underlying54 h
      match xs, hlen with
      | [y0, y1], _ =>
        have h0 : DataW.trod enc Tryz.prog w base spare held n 23 ([c0, c1, c2, c3, c4, c5, c6, c7, c8, c9, c10].take (Tryz.prog.cellsOf 23)) = some y0 := hg 0 _ rfl
        have h1 : DataW.trod enc Tryz.prog w base spare held n 28 ([c1, c2, c3, c4, c5, c6, c7, c8, c9, c10].take (Tryz.prog.cellsOf 28)) = some y1 := hg 1 _ rfl
        rw [show Tryz.prog.cellsOf 23 = 1 by kernel_rfl] at h0
        rw [show Tryz.prog.cellsOf 28 = 10 by kernel_rfl] at h1
        have hy : Rows.uptoBulk y.1 = Rows.uptoBulk y0.1 + Rows.uptoBulk y1.1 + 1 := by
          rw [hx]
          simp only [List.map_cons, List.map_nil, Rows.uptoBulk, Rows.uptoBulkAll]
          omega
        obtain ⟨ps, v0, q0, s0, r0⟩ := read_list Tryz.underlying23 (sz := 1) (by kernel_rfl) (by omega) (WdN (f + 1) (Old w) w) (wtW (Nd.wt (f + 1))) (f + 1) (fun fuel cs y hl h hB => read_wd (f + 1) hf hC1 fuel cs y hl h (by omega)) n _ y0 h0 (by omega)
        obtain ⟨bd, sb, rb⟩ := hN n _ y1 rfl h1 (by omega)
        obtain rfl : c0 = v0 := (List.cons.inj q0).1
        refine ⟨⟨ps, bd⟩, ⟨c0, _, rfl, rfl, s0, sb⟩, ?_⟩
        unfold wtA
        simp only
        omega
set_option maxRecDepth 100000 in
theorem read_nodeV {r : Reach} {b0 : Nat} {v : Value} {d : DataW H} {ps : List MemPlace} (f : Nat) (hf : f ≤ 2097152) (hv : Value.okWide Tryz.prog w r b0 28 v) (h : DataW.Trod enc Tryz.prog w base spare held 28 v d ps) (hB : Rows.uptoBulk d ≤ f + 1) :
    ∃ (vs : List Value) (x : Nd (f + 1)), v = ag vs ∧ NdV (f + 1) (Old w) w vs x ∧ Nd.wt (f + 1) x + 1 ≤ 2 * Rows.uptoBulk d := by
  obtain ⟨cs, rfl, hsz⟩ := okWide_struct Tryz.underlying28 hv
  obtain ⟨l⟩ := cs
  obtain ⟨fuel, hfu⟩ := h
  obtain ⟨hC, hA⟩ := read_all (enc := enc) (w := w) (base := base) (spare := spare) (held := held) f hf
  obtain ⟨x, h1, h2⟩ := read_node f hf hC hA fuel l _ (hsz.trans (show Tryz.prog.cellsOf 28 = 10 by kernel_rfl)) hfu hB
  exact ⟨l, x, rfl, h1, h2⟩
end
end Go.Proofs.YtjpopekmbmcggaaGreatDoor
namespace Go.Proofs.YtjpopekmbmcggaaGreatDoor
open Go.ChangeShapes Go.WideShapes Go.ChangeAt Go.RowKit
set_option linter.unusedVariables false
theorem own : ownKnob Tryz.prog.godebug = none := by kernel_rfl
theorem laidOut : laidOutB Tryz.prog = true := by kernel_rfl
theorem gRsv : Tryz.prog.globalNamed "conch/posix.reserved" = some 0 := by kernel_rfl
theorem tRsv : (Tryz.prog.globals[0]?).map (·.type) = some 158 := by kernel_rfl
theorem cStr : Tryz.prog.cellsOf 9 = 1 := by kernel_rfl
theorem cRsv : Tryz.prog.cellsOf 158 = 16 := by kernel_rfl
theorem cells_of_strs {H : Type} {enc : TypeId × Value → H} {P : Program} {w : World} {base : Nat} {sp : Nat → Bool} {held : Bool} {fuel : Nat} {t e : TypeId} {n : Nat} {cs : List Value} {zs : List (List UInt8)} {p : List MemPlace}
    (ht : P.underlying t = some (.array n e)) (he : P.underlying e = some .string) (hce : P.cellsOf e = 1) (hct : P.cellsOf t = n)
    (h : DataW.trod enc P w base sp held fuel t cs = some (.agg (zs.map fun z => .lit (.string z)), p)) : cs = zs.map bs := by
  cases fuel with
  | zero => simp [DataW.trod] at h
  | succ fuel =>
    simp only [DataW.trod, ht, hce, hct, Nat.mul_one] at h
    split at h
    · rename_i hl
      obtain ⟨xs, hm, hx⟩ := Option.map_eq_some_iff.1 h
      have hxs : xs.map (·.1) = zs.map fun z => (DataW.lit (.string z) : DataW H) := by
        have := congrArg Prod.fst hx
        simpa using this
      have hxl : xs.length = n := by simpa using Lib.mapM_length hm
      have hzl : zs.length = n := by
        have := congrArg List.length hxs
        simp at this
        omega
      apply List.ext_getElem?
      intro i
      by_cases hi : i < n
      · obtain ⟨b, hb, hf⟩ := Lib.mapM_at hm i i (by simp [hi])
        obtain ⟨z, hc, rfl, _⟩ := DataW.trod_string he hf
        have h1 : cs[i]? = some (.string z) := by
          have := congrArg (·[0]?) hc
          simpa [List.getElem?_take, List.getElem?_drop] using this
        have h2 : (xs.map (·.1))[i]? = some (DataW.lit (.string z.data.toList) : DataW H) := by simp [hb]
        rw [hxs] at h2
        simp only [List.getElem?_map, Option.map_eq_some_iff, DataW.lit.injEq, Lit.string.injEq] at h2
        obtain ⟨z', hz', rfl⟩ := h2
        rw [h1, List.getElem?_map, hz']
        show _ = some (Value.string ⟨z.data.toList.toArray⟩)
        rw [Lib.mk_data]
      · rw [List.getElem?_eq_none (by omega), List.getElem?_eq_none (by simp; omega)]
    · cases h
abbrev laidR : List (String × DataW Unit) := Rows.nodeTellsUptoRow.laid
theorem rsv_of_laid {W : World} (h : laidMetH Tryz.prog laidR W) : RsvAt W := by
  rw [MakeChecks.laidMetH_plain _ _ _ (by kernel_rfl)] at h
  obtain ⟨ps, ⟨g0, t0, cs0, f0, p0, q0, hg0, ht0, hv0, hd0, _⟩, _⟩ := h
  obtain rfl := Option.some.inj (gRsv.symm.trans hg0)
  obtain rfl := Option.some.inj (tRsv.symm.trans ht0)
  have e : (Rows.laid_conch_posix_reserved : DataW Unit) = .agg (rsvL.map fun z => .lit (.string z)) := rfl
  rw [e] at hd0
  have hcs := cells_of_strs Tryz.underlying158 Tryz.underlying9 cStr cRsv hd0
  have hc : cs0 = rsvVals := by
    apply Array.ext'
    rw [hcs]
    simp [rsvVals]
  unfold World.var? at hv0
  change (Tryz.prog.globalNamed "conch/posix.reserved").bind _ = _ at hv0
  rw [gRsv] at hv0
  simp only [Option.bind_some] at hv0
  unfold RsvAt
  split at hv0
  · rename_i cs t fr hh
    obtain rfl := Option.some.inj hv0
    rw [← hc]
    exact ⟨t, fr, hh⟩
  · cases hv0
noncomputable def laidWorld (os : Os) : World :=
  { World.holding Tryz.prog os ⟨#[], #[], []⟩ with heap := (World.holding Tryz.prog os ⟨#[], #[], []⟩).heap.modify 0 fun
      | .cells _ t frozen => .cells rsvVals t frozen
      | o => o }
set_option maxRecDepth 100000 in
theorem laid_met (os : Os) (args : Array Value) : laidMetH Tryz.prog laidR ((laidWorld os).forCall (fun _ _ => 0) ⟨#[], args, []⟩).memory := by
  rw [MakeChecks.laidMetH_plain _ _ _ (by kernel_rfl)]
  exact laidMet_of_run' 8 (by kernel_rfl) (by kernel_rfl)
end Go.Proofs.YtjpopekmbmcggaaGreatDoor
namespace Go.Proofs.YtjpopekmbmcggaaGreatDoor
open Go.ChangeShapes Go.WideShapes Go.ChangeAt Go.RowKit
open Go.ChangeMaps (open_string shut_string)
set_option linter.unusedVariables false
set_option maxRecDepth 100000 in
theorem nodeParts_reads (os : Os) {H : Type} (enc : TypeId × Value → H) : ∃ places, DataW.whole enc Tryz.prog ((laidWorld os).forCall (fun _ _ => 0) ⟨#[], #[.agg #[.int .i64 0, .string ByteArray.empty, .bool false, .bool false, .slice none 0 0, .slice none 0 0, .slice none 0 0, .slice none 0 0, .slice none 0 0, .slice none 0 0]], []⟩).memory Tryz.f5.params.toList Rows.nodePartsSpec.vars false (#[.agg #[.int .i64 0, .string ByteArray.empty, .bool false, .bool false, .slice none 0 0, .slice none 0 0, .slice none 0 0, .slice none 0 0, .slice none 0 0, .slice none 0 0]] : Array Value).toList 8 = some ([.agg [.lit (.int .i64 0), .lit (.string []), .lit (.bool false), .lit (.bool false), .nil, .nil, .nil, .nil, .nil, .nil]], [], places) :=
  ⟨[], by kernel_rfl⟩
set_option maxRecDepth 100000 in
theorem nodeParts_contract (H : Type) (enc : TypeId × Value → H) (W : World) (base : Nat) (args : Array Value) (ds gs : List (DataW H)) (before : List MemPlace)
    (hval0 : ∀ (j : Nat) t v, Tryz.f5.params[j]? = some t → args[j]? = some v → Value.okWide Tryz.prog W .any base t v)
    (hW : DataW.Whole enc Tryz.prog Tryz.f5.params.toList Rows.nodePartsSpec.vars false W args.toList ds gs before) (hL : laidMetH Tryz.prog laidR W) (hk : Rows.uptoSmall H (ds ++ gs) = true) :
    Calls Tryz.prog 5 args W fun e W' => ∃ v, e = .returned v ∧ Rows.nodePartsSpec.post enc Tryz.prog Tryz.f5 false true false false W args v W' := by
  have hval : ∀ (j : Nat) t v, Tryz.f5.params[j]? = some t → args[j]? = some v → Value.okWide Tryz.prog W .any base t v := hval0
  have hW' := hW
  obtain ⟨p, q, hA0, hV, rfl, hfz, hnd⟩ := hW
  have hA : DataW.TrodAll enc Tryz.prog W 0 (fun _ => true) true Tryz.f5.params.toList args.toList ds p := hA0
  rw [Tryz.params5] at hA hval
  obtain ⟨v0, vs0, d0, ds0, p0, q0, hargs, rfl, rfl, h0, r0⟩ := trodAll_cons hA
  obtain ⟨rfl, rfl, rfl⟩ := trodAll_nil r0
  obtain rfl : args = #[v0] := by cases args; simp_all
  obtain ⟨rfl, rfl⟩ := trodVars_none hV
  have hlt := fun x hx => hW'.lt x hx
  have hlt0 : ∀ x ∈ p0, x.block < W.heap.size := fun x hx => by simpa using hlt x (List.mem_append.2 (.inl (List.mem_append.2 (.inl hx))))
  obtain ⟨f, hf⟩ : ∃ f : Nat, f = 1048576 := ⟨_, rfl⟩
  have hbk : Rows.uptoBulk d0 ≤ f := by
    have h : Rows.uptoBulkAll ([d0] ++ []) ≤ 1048576 := of_decide_eq_true hk
    rw [hf]
    simpa only [List.cons_append, List.nil_append, Rows.uptoBulkAll, Nat.add_zero] using h
  have h0k := h0
  obtain ⟨z0, n, rfl, hv0, hw0⟩ := read_nodeV f (by omega) (hval 0 28 v0 rfl rfl) h0 (by omega)
  have ht := rsv_of_laid hL
  clear hA0 hval0
  refine (nodeParts_walk f W z0 n ht hv0 (by omega)).mono fun e W' ⟨he, bel⟩ => ?_
  subst he
  exact ⟨_, rfl, _, _, _, [], _, [], hW', trodAll_mk1 (shut_bool Tryz.underlying4 _), (trodAll_cons_mk (Below.trod laidOut (by kernel_rfl) (of_decide_eq_true (by kernel_rfl)) h0k bel hlt0) trodAll_mk0), rfl, bel.frame _, fun h => by cases h⟩
set_option maxRecDepth 100000 in
theorem nodeParts_lifted (os : Os) (started : os.Started) (H : Type) (enc : TypeId × Value → H) (F : Stop.Interp) :
    ReturnsInHanded {} Tryz.checked os 5 .any ((Rows.OpenSpec.upto Rows.nodePartsSpec).preRow enc Tryz.prog Tryz.f5 Rows.nodePartsUptoRow.domain false Rows.nodePartsUptoRow.laid) (((Rows.OpenSpec.upto Rows.nodePartsSpec).at F).post enc Tryz.prog Tryz.f5 false true false false) := by
  obtain ⟨places, hx⟩ := nodeParts_reads os enc
  refine returnsInHanded_of_row (C := Tryz.checked) (s := Rows.OpenSpec.upto Rows.nodePartsSpec) own started (by kernel_rfl) Tryz.func5
    (witness_row_at (enc := enc) (C := Tryz.checked) false (laidWorld os) #[.agg #[.int .i64 0, .string ByteArray.empty, .bool false, .bool false, .slice none 0 0, .slice none 0 0, .slice none 0 0, .slice none 0 0, .slice none 0 0, .slice none 0 0]] rfl (by kernel_rfl) (by kernel_rfl) (by kernel_rfl)
      (OpenSpec.preRow_of_cond 8 hx (by kernel_rfl) (fun k hk => by cases hk; kernel_rfl) (by kernel_rfl) (laid_met os _))) ?_
  intro W base args ds gs before hval hW _ hcond _ hL _ _
  exact nodeParts_contract H enc W base args ds gs before hval hW hL (hcond _ rfl)
theorem nodeParts_upto : Rows.NodePartsUptoSaid :=
  OpenClaim.holds_of_cond 5 Tryz.f5 rfl rfl rfl rfl rfl rfl rfl ⟨rfl, rfl, rfl, rfl, rfl⟩ rfl rfl rfl rfl rfl (by kernel_rfl) Tryz.func5 (by kernel_rfl)
    (of_decide_eq_true (by kernel_rfl)) (by unfold Func.isWrapper; first | (rw [if_pos (by decide +kernel)]; kernel_rfl) | (rw [if_neg (by decide +kernel)]; exact ⟨rfl, rfl⟩))
    (fun os started H enc _ F => by rw [OpenClaim.pre_eq_preRow]; exact nodeParts_lifted os started H enc F)
theorem nodeParts_card : Rows.NodePartsUptoCardSaid :=
  Claim7.holds_tied_plain_at .later [] [.data] true Rows.nodePartsUptoCard.stood.harness false
    nodeParts_upto (fun _ h => by cases h) (by kernel_rfl) (fun _ h => by cases h) nodePartsUpto_row_tie rfl ⟨rfl, rfl⟩ (by kernel_rfl) rfl
    (fun f fn hf hfn => by
      obtain rfl : f = 5 := Option.some.inj ((show Tryz.prog.funcNamed Rows.nodePartsUptoRow.func = some 5 by kernel_rfl).symm.trans hf) |>.symm
      obtain rfl : fn = Tryz.f5 := (Option.some.inj (Tryz.func5.symm.trans hfn)).symm
      exact ⟨by kernel_rfl, fun j t ht => by
        rw [Tryz.params5] at ht
        have hm : t ∈ [28] := by simpa using Array.mem_of_getElem? ht
        have hall : ([28].all fun u => !Tryz.prog.wantsStandIn u) = true := by kernel_rfl
        exact (show Tryz.prog.wantsStandIn t = false by simpa using List.all_eq_true.1 hall t hm)⟩)
    (by kernel_rfl)
#print axioms nodeParts_card
end Go.Proofs.YtjpopekmbmcggaaGreatDoor
