/- The document's Unset, walked. -/
import Derived.Test.YtbkmfnjjfamjjaaAlRef
import Derived.BigRegion
import Derived.Deep.RegionHeld3
namespace Go.Proofs.Ytbkmfnjjfamjjaa
open Go.RowKit
attribute [local go_sem ↓] wp_append_wr

theorem Arow.start {B : Nat} {w : World} {g : Nat} (hB : B ≤ g) (hh : w.heap[g]? = some (.cells #[] 49 (0, 0))) : Arow B w (.slice (some ⟨g, 0, none⟩) 0 0) [] :=
  ⟨rfl, .inr ⟨g, 0, #[], rfl, hB, hh, Nat.le_refl _, Nat.zero_le _, rfl, rfl⟩⟩
theorem AlAt.take {w : World} {A : Option Addr} {L : Al} (h : AlAt w A L) (k : Nat) : AlAt w A (L.take k) := fun i p hp => by
  have hi := (List.getElem?_eq_some_iff.1 hp).1
  rw [List.length_take] at hi
  rw [List.getElem?_take_of_lt (by omega)] at hp
  exact h i p hp
theorem AlAt.drop {w : World} {b off : Nat} {L : Al} (h : AlAt w (some ⟨b, off, none⟩) L) (k : Nat) : AlAt w (some ⟨b, off + k * 2, none⟩) (L.drop k) := fun i p hp => by
  rw [List.getElem?_drop] at hp
  obtain ⟨b', off', e, h1, h2⟩ := h _ p hp
  cases e
  exact ⟨b, off + k * 2, rfl, by rw [show off + k * 2 + i * 2 = off + (k + i) * 2 by omega]; exact h1, by rw [show off + k * 2 + i * 2 + 1 = off + (k + i) * 2 + 1 by omega]; exact h2⟩
theorem AlAt.none {w : World} {A : Option Addr} {L : Al} (h : L = []) : AlAt w A L := fun i p hp => by subst h; simp at hp
theorem AlAt.drew {w : World} {A : Option Addr} {L : Al} (h : AlAt w A L) : AlAt w.drew A L := h
theorem cell_of {w : World} {g : Nat} {v : Value} {T : TypeId} (h : w.heap[g]? = some (.cells #[v] T (0, 0))) : w.cell? ⟨g, 0, none⟩ = some v ∧ w.frozen? ⟨g, 0, none⟩ = false := ⟨by simp [World.cell?, h], by simp [World.frozen?, h]⟩
theorem heap_set1 {w : World} {g : Nat} {u0 u : Value} {T : TypeId} (h : w.heap[g]? = some (.cells #[u0] T (0, 0))) : (w.setCell ⟨g, 0, none⟩ u).heap[g]? = some (.cells #[u] T (0, 0)) := by
  simp [World.setCell, Array.getElem?_modify, h]
/-- A row of the call's own, stored in the document's table. -/
theorem RTab.store {w : World} {h : Nat} {u v : Value} {L : Al} (hh : w.heap[h]? = some (.cells #[u] 28 (0, 0))) (ha : Arow (h + 1) w v L) : RTab (w.setCell ⟨h, 0, none⟩ v) h L :=
  ⟨v, heap_set1 hh, ha.keep fun g hg => Below.heap_setCell _ _ _ _ (by have := (ha.lt hg).1; show g ≠ h; omega)⟩

theorem grow_set {w w2 : World} {h : Nat} {u : Value} (hb : Below w.heap.size w w2) : w.grownBy (w2.setCell ⟨h, 0, none⟩ u) (some h) :=
  ⟨hb.os, hb.tape, hb.output, by simpa using hb.size, fun k hk hne => (Below.heap_setCell _ _ _ _ (by intro e; exact hne (by rw [e]))).trans (hb.block k hk)⟩

set_option maxRecDepth 100000 in
set_option maxHeartbeats 4000000 in
theorem unset_r (h : Nat) (L : Al) (s : ByteArray) (w : World) (hr : RTab w h L) (hri : L.Rising) (hL : L.length ≤ 1099511627776) : Calls Try.prog 12 #[.pointer (some ⟨h, 0, none⟩), .string s] w fun e w' => e = .returned (.bool (L.has s)) ∧ RTab w' h (L.del s) ∧ w.grownBy w' (some h) := by
  have HR := Lib.hid hr
  have HRI := Lib.hid hri
  obtain ⟨v, hh, ha⟩ := hr
  obtain ⟨A, c, rfl, hc, hm, hat⟩ := ha.shape
  have c0 : w.cell? ⟨h, 0, none⟩ = some (.slice A L.length c) := by simp [World.cell?, hh]
  have HH := Lib.hid hh; have HAT := Lib.hid hat; have HA := Lib.hid ha
  have hlt : h < w.heap.size := (Array.getElem?_eq_some_iff.1 hh).1
  clear ha hh hat hri
  go_enter Try.func12, Try.ntmps12
  go_wp2
  go_loop [5] (fun i => ∃ k : Nat, k ≤ L.length ∧ i = .int .i64 k ∧ Al.has (L.drop k) s = Al.has L s) (fun i => L.length - (intOf i).toNat)
  case atStart => exact ⟨0, by omega, rfl, by rw [List.drop_zero]⟩
  case round =>
    obtain ⟨k, hk, rfl, hf⟩ := hrel
    by_cases hlt : k < L.length
    · have hdk := List.drop_eq_getElem_cons hlt
      obtain ⟨b, off, rfl, z1, z2⟩ := HAT.out k L[k] (List.getElem?_eq_getElem hlt)
      rw [hdk] at hf
      rw [Al.has_cons] at hf
      generalize L[k] = p at *
      obtain ⟨pn, pv⟩ := p
      have HIT := Lib.hid (hit_to s pn pv)
      have HD := Lib.hid hdk
      have HF := Lib.hid hf
      clear hf z2 hdk
      cases hq : (pn.toList == s.toList)
      · have HQ := Lib.hid hq
        go_wp2_with fail
        go_round
        case rel => exact ⟨k + 1, by omega, by go_num, by rw [← HF.out, HIT.out, HQ.out]; rfl⟩
        case measure => simp only [intOf]; omega
      · have HQ := Lib.hid hq
        have n0 := World.new_ne w ⟨h, 0, none⟩ c0
        have hbw : b < w.heap.size := block_lt_of_cell z1
        -- the two appends
        have hX0 : (w.alloc (.cells #[] 49)).drew.heap[w.heap.size]? = some (.cells #[] 49 (0, 0)) := heap_alloc w _
        have hB0 : Below w.heap.size w (w.alloc (.cells #[] 49)).drew := ((Below.refl _ _).alloc (Nat.le_refl _) _).drew
        have hAT0 : AlAt (w.alloc (.cells #[] 49)).drew (some ⟨b, off, none⟩) L := HAT.out.keep fun a b' ha hb' => by cases ha; subst hb'; exact hB0.block _ hbw
        obtain ⟨v1, w1, hrun1, hown1, hgr1, hat1⟩ := (Arow.start (B := w.heap.size) (Nat.le_refl _) hX0).append (hAT0.take k) (c := c) (by rw [List.length_take]; simp; omega) (by simp) (by rw [List.length_take]; omega)
        rw [show (L.take k).length = k by rw [List.length_take]; omega] at hrun1
        have hB1 : Below w.heap.size w w1 := hB0.grown hgr1 (by simp) (fun g hg => ((Arow.start (B := w.heap.size) (Nat.le_refl _) hX0).lt hg).1)
        have hA1 : AlAt w1 (some ⟨b, off, none⟩) L := HAT.out.keep fun a b' ha hb' => by cases ha; subst hb'; exact hB1.block _ hbw
        have q1 : w1.cell? ⟨h, 0, none⟩ = some (.slice (some ⟨b, off, none⟩) L.length c) := (World.cell?_of_block (hB1.block h (by omega))).trans c0
        have HHW := Lib.hid HR.out
        have HB1 := Lib.hid hB1
        have hi0 : (0 : Int) ≤ (k : Int) := by omega
        have hi1 : (k : Int) ≤ (c : Int) := by omega
        have hi2 : (k : Int) + 1 ≤ (L.length : Int) := by omega
        have hi3 : (k : Int) < (L.length : Int) := by omega
        have hi4 : (0 : Int) ≤ (k : Int) + 1 := by omega
        have hwr : IntKind.i64.wrap ((k : Int) + 1) = (k : Int) + 1 := by rw [IntKind.wrap_i64]; omega
        have hi5 : ((k : Int) + 1).toNat = k + 1 := by omega
        have hdel : [] ++ L.take k ++ L.drop (k + 1) = L.del s := by rw [List.nil_append, Al.del_at k L _ HRI.out HD.out (by rw [HIT.out]; exact hq)]
        have HDE := Lib.hid hdel
        have HHS := Lib.hid (show L.has s = true by rw [← HF.out, HIT.out, hq]; rfl)
        by_cases hck : c = k + 1
        · have hd0 : L.drop (k + 1) = [] := List.drop_eq_nil_of_le (by omega)
          obtain ⟨v2, w2, hrun2, hown2, hgr2, hat2⟩ := hown1.append (M := L.drop (k + 1)) (A := some ⟨b, off, none⟩) (c := 0) (AlAt.none hd0) (by rw [List.nil_append, List.length_take, List.length_drop]; omega) hB1.size (by rw [hd0]; exact Nat.le_refl _)
          rw [hd0, show ([] : Al).length = 0 from rfl] at hrun2
          rw [hdel] at hown2
          obtain ⟨A2, c2, rfl, hc2, hm2, hat3⟩ := hown2.shape
          have hB2 : Below w.heap.size w w2 := hB1.grown hgr2 hB1.size (fun g hg => (hown1.lt hg).1)
          have hh2 := (hB2.block h (by omega)).trans HH.out
          obtain ⟨q2, f2⟩ := cell_of hh2
          have H2 := Lib.hid hown2; have HB2 := Lib.hid hB2; have HH2 := Lib.hid hh2
          have hLn : L.length - (k + 1) = 0 := by omega
          subst hck
          clear hat3 hown1 hown2 hgr1 hgr2 hat1 hat2 hB1 hB2 hA1 hX0 hB0 hAT0 hh2 hbw hdel hd0
          go_wp2_with fail
          go_region
          go_wp2
          go_ret
          exact ⟨ret_bool HHS.out.symm, RTab.store HH2.out (H2.out.base (by omega)), grow_set HB2.out⟩
        · have hlen2 : (L.drop (k + 1)).length = L.length - (k + 1) := List.length_drop
          obtain ⟨v2, w2, hrun2, hown2, hgr2, hat2⟩ := hown1.append (hA1.drop (k + 1)) (c := c - (k + 1)) (by rw [List.nil_append, List.length_take, List.length_drop]; omega) hB1.size (by rw [List.length_drop]; omega)
          rw [hlen2] at hrun2
          rw [hdel] at hown2
          obtain ⟨A2, c2, rfl, hc2, hm2, hat3⟩ := hown2.shape
          clear hat3
          have hB2 : Below w.heap.size w w2 := hB1.grown hgr2 hB1.size (fun g hg => (hown1.lt hg).1)
          have hh2 := (hB2.block h (by omega)).trans HH.out
          obtain ⟨q2, f2⟩ := cell_of hh2
          have H2 := Lib.hid hown2; have HB2 := Lib.hid hB2; have HH2 := Lib.hid hh2; have HC := Lib.hid hck
          have hcl1 : c - (k + 1) ≠ 0 := by omega
          clear hown1 hown2 hgr1 hgr2 hat1 hat2 hB1 hB2 hA1 hX0 hB0 hAT0 hh2 hlen2 hbw hdel
          go_wp2_with fail
          go_region
          go_wp2
          go_ret
          exact ⟨ret_bool HHS.out.symm, RTab.store HH2.out (H2.out.base (by omega)), grow_set HB2.out⟩
    · rw [List.drop_eq_nil_of_le (by omega)] at hf
      have HF := Lib.hid hf; clear hf
      go_wp2_with fail
      go_ret
      have hno : L.has s = false := by rw [← HF.out]; rfl
      exact ⟨ret_bool hno.symm, by rw [Al.del_none hno]; exact HR.out, World.grownBy.refl _ _⟩
end Go.Proofs.Ytbkmfnjjfamjjaa
