/- Towards nodeJoins_card: UqAssign, RefLit, RefParam, UqAsg. Merged from smaller texts by a program of the author's. -/
import Derived.Test.YtjpopekmbmcggaaGreatDoorJ03
import Derived.Test.YtjpopekmbmcggaaGreatDoorJ01
import Derived.LoopTactic
import Derived.BigQuiet
import Derived.Deep.QuietTactic
import Derived.Laws.OwnMore
import Derived.BigRegion
namespace Go.Proofs.YtjpopekmbmcggaaGreatDoor
open Go.RowKit
attribute [local go_sem ↓] wp_append_wr
theorem PtsAt.shift {G : Nat → Prop} {w : World} {b off : Nat} : ∀ {l : Pts} {i : Nat}, PtsAt G w (some ⟨b, off, none⟩) (i + 1) l → PtsAt G w (some ⟨b, off + 5, none⟩) i l
  | .nil, _, _ => trivial
  | .cons k t o kids cm rest, i, h => by
    obtain ⟨b', off', Ak, ck, hA, hG, c0, c1, c2, c3, c4, hl, h1, h2⟩ := h
    injection hA with hA
    injection hA with e1 e2
    subst e1 e2
    rw [show off + (i + 1) * 5 = off + 5 + i * 5 by omega] at c0 c1 c2 c3 c4
    exact ⟨b, off + 5, Ak, ck, rfl, hG, c0, c1, c2, c3, c4, hl, h1, h2.shift⟩
theorem Pts.nil_of_len {l : Pts} (h : l.len = 0) : l = .nil := by
  cases l with
  | nil => rfl
  | cons => simp [Pts.len] at h
def uRest (t : ByteArray) (k : Nat) (rest : Pts) : Pts := if k + 1 < t.size then Pts.lit (t.extract (k + 1) t.size) rest else rest
set_option maxRecDepth 100000 in
set_option maxHeartbeats 4000000 in
theorem uassign_some (t o : ByteArray) (kids rest : Pts) (cm : Cm) (k : Nat) (hk : Chr.assign t.toList = (k : Int)) (hkt : k < t.size) (A : Option Addr) (c : Nat) (G : Nat → Prop) (w : World) (hG : ∀ j, G j → j < w.heap.size) (hp : PtsAt G w A 0 (.cons 1 t o kids cm rest)) (hc : rest.len + 1 ≤ c) (hwt : rest.len ≤ 1073741823) (hts : t.size ≤ 1099511627776) (hcm : c ≤ maxLen) :
    Calls Tryz.prog 176 #[.agg #[.slice A (rest.len + 1) c]] w fun e w' => ∃ v, e = .returned (.tuple #[.string (t.extract 0 k), .agg #[v], .bool true]) ∧ Prow G w.heap.size w' v (uRest t k rest) ∧ Below w.heap.size w w' := by
  obtain ⟨b, off, Ak, ck, rfl, hGb, c0, c1, _, _, _, _, _, hrest⟩ := hp
  simp only [Nat.zero_mul, Nat.add_zero] at c0 c1
  have hrs := hrest.shift
  generalize hW : (w.alloc (.cells #[.slice (some ⟨b, off, none⟩) (rest.len + 1) c] 31)).alloc (.cells #[.slice none 0 0] 31) = W
  have hbW : Below w.heap.size w W := by rw [← hW]; exact ((Below.refl _ _).alloc (Nat.le_refl _) _).alloc (by simp) _
  have q0 : W.cell? ⟨w.heap.size, 0, none⟩ = some (.slice (some ⟨b, off, none⟩) (rest.len + 1) c) := by rw [← hW]; simp
  have q1 : W.heap[w.heap.size + 1]? = some (.cells #[.slice none 0 0] 31 (0, 0)) := by
    rw [← hW]
    have := heap_alloc (w.alloc (.cells #[.slice (some ⟨b, off, none⟩) (rest.len + 1) c] 31)) (.cells #[.slice none 0 0] 31)
    simpa using this
  have hsW : W.heap.size = w.heap.size + 2 := by rw [← hW]; simp
  have hbw : b < w.heap.size := hG b hGb
  have z0 := (World.cell?_of_block (hbW.block b hbw)).trans c0
  have z1 := (World.cell?_of_block (hbW.block b hbw)).trans c1
  have HRS := Lib.hid hrs; have HBW := Lib.hid hbW; have HQ1 := Lib.hid q1; have HSW := Lib.hid hsW; have HG := Lib.hid hG
  have HK := Lib.hid hk
  clear hrs hbW q1 hrest hsW hG hk c0 c1
  have hl0 : ¬ ((rest.len : Int) + 1 = 0) := by omega
  have hl1 : (0 : Int) < (rest.len : Int) + 1 := by omega
  go_enter Tryz.func176, Tryz.ntmps176
  go_wp2_with fail
  refine (assign_p t _ (by omega)).mono ?_
  rintro e w2 ⟨he, hb2⟩
  rw [HK.out] at he
  subst he
  have hsW := HSW.out
  have hs2 : w.heap.size + 2 ≤ w2.heap.size := by have := hb2.size; omega
  have p0 := (World.cell?_of_block (hb2.block w.heap.size (by omega))).trans q0
  have hk0 : (0 : Int) ≤ (k : Int) := by omega
  have hki : (k : Int) ≤ (t.size : Int) := by omega
  have hk1 : (k : Int) + 1 ≤ (t.size : Int) := by omega
  have htsi : (t.size : Int) ≤ 1099511627776 := by omega
  have hwk : IntKind.i64.wrap ((k : Int) + 1) = (k : Int) + 1 := by rw [IntKind.wrap_i64]; omega
  have hci : (1 : Int) ≤ (c : Int) := by omega
  have hcmi : (c : Int) ≤ 9223372036854775807 := by unfold maxLen at hcm; omega
  have hto : ((k : Int) + 1).toNat = k + 1 := by omega
  clear hW q0 z0 z1
  by_cases hc1 : c = 1
  · subst hc1
    go_wp2_with fail
    have hcl := clone_p rest (some ⟨b, off, none⟩) 0 G w2 (fun j hj => by have := HG.out j hj; omega) (by rw [show rest = .nil from Pts.nil_of_len (by omega)]; trivial) (by omega) (by omega) (fun h => by cases h)
    rw [show rest.len = 0 by omega] at hcl
    refine hcl.mono ?_
    rintro e w3 ⟨v3, rfl, hP3, hb3⟩
    by_cases hlt : k + 1 < t.size
    · have hlti : (k : Int) + 1 < (t.size : Int) := by omega
      have hX : Below w3.heap.size w3 (w3.alloc (.cells (litPs (t.extract (k + 1) t.size)).toArray 50)) := (Below.refl _ _).alloc (Nat.le_refl _) _
      have hins := insert0 rest (t.extract (k + 1) t.size) v3 w3.heap.size w2.heap.size G _ (hP3.below (fun j hj => by have := HG.out j hj; have := hb3.size; omega) hX) (heap_alloc w3 _) (fun e => by have := (hP3.lt e).2; omega) (fun j hj => by have := HG.out j hj; omega) (by have := hb3.size; simp; omega) (by omega)
      obtain ⟨A3, c3, rfl, hl3, hm3, _⟩ := hP3.at_
      unfold litPs at hins
      have HINS := Lib.hid hins
      have HU := Lib.hid (show uRest t k rest = Pts.lit (t.extract (k + 1) t.size) rest from if_pos hlt)
      clear hins hP3
      go_wp2_with fail
      refine HINS.out.mono ?_
      rintro e w9 ⟨v9, rfl, hP, hbi⟩
      have hb9 : Below W.heap.size W w9 := ((hb2.trans (hb3.mono hb2.size)).alloc (by have := hb2.size; have := hb3.size; omega) _).trans (hbi.mono hb2.size)
      clear hbi
      obtain ⟨A9, c9, rfl, hl9, hm9, _⟩ := hP.at_
      have hh9 := (hb9.block (w.heap.size + 1) (by omega)).trans HQ1.out
      have q9 : w9.cell? ⟨w.heap.size + 1, 0, none⟩ = some (.slice none 0 0) := by simp [World.cell?, hh9]
      have f9 : w9.frozen? ⟨w.heap.size + 1, 0, none⟩ = false := by simp [World.frozen?, hh9]
      have hbF : Below w.heap.size w (w9.setCell ⟨w.heap.size + 1, 0, none⟩ (.slice A9 (Pts.lit (t.extract (k + 1) t.size) rest).len c9)) := (HBW.out.trans (hb9.mono HBW.out.size)).setCell (by show w.heap.size ≤ w.heap.size + 1; omega) _
      have hPF : Prow G w.heap.size (w9.setCell ⟨w.heap.size + 1, 0, none⟩ (.slice A9 (Pts.lit (t.extract (k + 1) t.size) rest).len c9)) (.slice A9 (Pts.lit (t.extract (k + 1) t.size) rest).len c9) (Pts.lit (t.extract (k + 1) t.size) rest) := by
        have hP0 : Prow G w.heap.size w9 (.slice A9 (Pts.lit (t.extract (k + 1) t.size) rest).len c9) (Pts.lit (t.extract (k + 1) t.size) rest) := by
          obtain ⟨xs, ⟨h1, h2⟩, h3⟩ := hP
          refine ⟨xs, ⟨h1, ?_⟩, h3⟩
          rcases h2 with h2 | ⟨g, cap, cur, e, hBg, hr⟩
          · exact .inl h2
          · exact .inr ⟨g, cap, cur, e, by omega, hr⟩
        refine hP0.keep (fun p hp => World.cell?_of_block (Below.heap_setCell _ _ _ _ ?_)) fun g hg => Below.heap_setCell _ _ _ _ ?_
        · have := HG.out _ hp
          show p.block ≠ w.heap.size + 1
          omega
        · have := (hP.lt hg).1
          show g ≠ w.heap.size + 1
          omega
      have hres : (w9.setCell ⟨w.heap.size + 1, 0, none⟩ (.slice A9 (Pts.lit (t.extract (k + 1) t.size) rest).len c9)).cell? ⟨w.heap.size + 1, 0, none⟩ = some (.slice A9 (Pts.lit (t.extract (k + 1) t.size) rest).len c9) := by simp [World.cell?, World.setCell, Array.getElem?_modify, hh9]
      have HPF := Lib.hid hPF; have HBF := Lib.hid hbF
      clear hPF hbF hP hb9 hh9
      go_wp2_with fail
      refine bodyPost_ret (v := .tuple #[.string (t.extract 0 k), .agg #[.slice A9 (Pts.lit (t.extract (k + 1) t.size) rest).len c9], .bool true]) (by simp [results, Tryz.results176, go_sem, hres]) rfl ?_
      exact ⟨_, rfl, by rw [HU.out]; exact HPF.out, HBF.out⟩
    · have hlti : ¬ (k : Int) + 1 < (t.size : Int) := by omega
      have HU := Lib.hid (show uRest t k rest = rest from if_neg hlt)
      have hb9 : Below W.heap.size W w3 := hb2.trans (hb3.mono hb2.size)
      have hP := hP3
      clear hP3
      revert hP hb9
      generalize w3 = w9
      intro hb9 hP
      obtain ⟨A9, c9, rfl, hl9, hm9, _⟩ := hP.at_
      have hh9 := (hb9.block (w.heap.size + 1) (by omega)).trans HQ1.out
      have q9 : w9.cell? ⟨w.heap.size + 1, 0, none⟩ = some (.slice none 0 0) := by simp [World.cell?, hh9]
      have f9 : w9.frozen? ⟨w.heap.size + 1, 0, none⟩ = false := by simp [World.frozen?, hh9]
      have hbF : Below w.heap.size w (w9.setCell ⟨w.heap.size + 1, 0, none⟩ (.slice A9 rest.len c9)) := (HBW.out.trans (hb9.mono HBW.out.size)).setCell (by show w.heap.size ≤ w.heap.size + 1; omega) _
      have hPF : Prow G w.heap.size (w9.setCell ⟨w.heap.size + 1, 0, none⟩ (.slice A9 rest.len c9)) (.slice A9 rest.len c9) rest := by
        have hP0 : Prow G w.heap.size w9 (.slice A9 rest.len c9) rest := by
          obtain ⟨xs, ⟨h1, h2⟩, h3⟩ := hP
          refine ⟨xs, ⟨h1, ?_⟩, h3⟩
          rcases h2 with h2 | ⟨g, cap, cur, e, hBg, hr⟩
          · exact .inl h2
          · exact .inr ⟨g, cap, cur, e, by omega, hr⟩
        refine hP0.keep (fun p hp => World.cell?_of_block (Below.heap_setCell _ _ _ _ ?_)) fun g hg => Below.heap_setCell _ _ _ _ ?_
        · have := HG.out _ hp
          show p.block ≠ w.heap.size + 1
          omega
        · have := (hP.lt hg).1
          show g ≠ w.heap.size + 1
          omega
      have hres : (w9.setCell ⟨w.heap.size + 1, 0, none⟩ (.slice A9 rest.len c9)).cell? ⟨w.heap.size + 1, 0, none⟩ = some (.slice A9 rest.len c9) := by simp [World.cell?, World.setCell, Array.getElem?_modify, hh9]
      have HPF := Lib.hid hPF; have HBF := Lib.hid hbF
      clear hPF hbF hP hb9 hh9
      go_wp2_with fail
      refine bodyPost_ret (v := .tuple #[.string (t.extract 0 k), .agg #[.slice A9 rest.len c9], .bool true]) (by simp [results, Tryz.results176, go_sem, hres]) rfl ?_
      exact ⟨_, rfl, by rw [HU.out]; exact HPF.out, HBF.out⟩
  · go_wp2_with fail
    refine (clone_p rest (some ⟨b, off + 5, none⟩) (c - 1) G w2 (fun j hj => by have := HG.out j hj; omega) (HRS.out.keep fun p hp => World.cell?_of_block ((HBW.out.trans (hb2.mono HBW.out.size)).block _ (HG.out _ hp))) (by omega) (by omega) (fun h => by cases h)).mono ?_
    rintro e w3 ⟨v3, rfl, hP3, hb3⟩
    by_cases hlt : k + 1 < t.size
    · have hlti : (k : Int) + 1 < (t.size : Int) := by omega
      have hX : Below w3.heap.size w3 (w3.alloc (.cells (litPs (t.extract (k + 1) t.size)).toArray 50)) := (Below.refl _ _).alloc (Nat.le_refl _) _
      have hins := insert0 rest (t.extract (k + 1) t.size) v3 w3.heap.size w2.heap.size G _ (hP3.below (fun j hj => by have := HG.out j hj; have := hb3.size; omega) hX) (heap_alloc w3 _) (fun e => by have := (hP3.lt e).2; omega) (fun j hj => by have := HG.out j hj; omega) (by have := hb3.size; simp; omega) (by omega)
      obtain ⟨A3, c3, rfl, hl3, hm3, _⟩ := hP3.at_
      unfold litPs at hins
      have HINS := Lib.hid hins
      have HU := Lib.hid (show uRest t k rest = Pts.lit (t.extract (k + 1) t.size) rest from if_pos hlt)
      clear hins hP3
      go_wp2_with fail
      refine HINS.out.mono ?_
      rintro e w9 ⟨v9, rfl, hP, hbi⟩
      have hb9 : Below W.heap.size W w9 := ((hb2.trans (hb3.mono hb2.size)).alloc (by have := hb2.size; have := hb3.size; omega) _).trans (hbi.mono hb2.size)
      clear hbi
      obtain ⟨A9, c9, rfl, hl9, hm9, _⟩ := hP.at_
      have hh9 := (hb9.block (w.heap.size + 1) (by omega)).trans HQ1.out
      have q9 : w9.cell? ⟨w.heap.size + 1, 0, none⟩ = some (.slice none 0 0) := by simp [World.cell?, hh9]
      have f9 : w9.frozen? ⟨w.heap.size + 1, 0, none⟩ = false := by simp [World.frozen?, hh9]
      have hbF : Below w.heap.size w (w9.setCell ⟨w.heap.size + 1, 0, none⟩ (.slice A9 (Pts.lit (t.extract (k + 1) t.size) rest).len c9)) := (HBW.out.trans (hb9.mono HBW.out.size)).setCell (by show w.heap.size ≤ w.heap.size + 1; omega) _
      have hPF : Prow G w.heap.size (w9.setCell ⟨w.heap.size + 1, 0, none⟩ (.slice A9 (Pts.lit (t.extract (k + 1) t.size) rest).len c9)) (.slice A9 (Pts.lit (t.extract (k + 1) t.size) rest).len c9) (Pts.lit (t.extract (k + 1) t.size) rest) := by
        have hP0 : Prow G w.heap.size w9 (.slice A9 (Pts.lit (t.extract (k + 1) t.size) rest).len c9) (Pts.lit (t.extract (k + 1) t.size) rest) := by
          obtain ⟨xs, ⟨h1, h2⟩, h3⟩ := hP
          refine ⟨xs, ⟨h1, ?_⟩, h3⟩
          rcases h2 with h2 | ⟨g, cap, cur, e, hBg, hr⟩
          · exact .inl h2
          · exact .inr ⟨g, cap, cur, e, by omega, hr⟩
        refine hP0.keep (fun p hp => World.cell?_of_block (Below.heap_setCell _ _ _ _ ?_)) fun g hg => Below.heap_setCell _ _ _ _ ?_
        · have := HG.out _ hp
          show p.block ≠ w.heap.size + 1
          omega
        · have := (hP.lt hg).1
          show g ≠ w.heap.size + 1
          omega
      have hres : (w9.setCell ⟨w.heap.size + 1, 0, none⟩ (.slice A9 (Pts.lit (t.extract (k + 1) t.size) rest).len c9)).cell? ⟨w.heap.size + 1, 0, none⟩ = some (.slice A9 (Pts.lit (t.extract (k + 1) t.size) rest).len c9) := by simp [World.cell?, World.setCell, Array.getElem?_modify, hh9]
      have HPF := Lib.hid hPF; have HBF := Lib.hid hbF
      clear hPF hbF hP hb9 hh9
      go_wp2_with fail
      refine bodyPost_ret (v := .tuple #[.string (t.extract 0 k), .agg #[.slice A9 (Pts.lit (t.extract (k + 1) t.size) rest).len c9], .bool true]) (by simp [results, Tryz.results176, go_sem, hres]) rfl ?_
      exact ⟨_, rfl, by rw [HU.out]; exact HPF.out, HBF.out⟩
    · have hlti : ¬ (k : Int) + 1 < (t.size : Int) := by omega
      have HU := Lib.hid (show uRest t k rest = rest from if_neg hlt)
      have hb9 : Below W.heap.size W w3 := hb2.trans (hb3.mono hb2.size)
      have hP := hP3
      clear hP3
      revert hP hb9
      generalize w3 = w9
      intro hb9 hP
      obtain ⟨A9, c9, rfl, hl9, hm9, _⟩ := hP.at_
      have hh9 := (hb9.block (w.heap.size + 1) (by omega)).trans HQ1.out
      have q9 : w9.cell? ⟨w.heap.size + 1, 0, none⟩ = some (.slice none 0 0) := by simp [World.cell?, hh9]
      have f9 : w9.frozen? ⟨w.heap.size + 1, 0, none⟩ = false := by simp [World.frozen?, hh9]
      have hbF : Below w.heap.size w (w9.setCell ⟨w.heap.size + 1, 0, none⟩ (.slice A9 rest.len c9)) := (HBW.out.trans (hb9.mono HBW.out.size)).setCell (by show w.heap.size ≤ w.heap.size + 1; omega) _
      have hPF : Prow G w.heap.size (w9.setCell ⟨w.heap.size + 1, 0, none⟩ (.slice A9 rest.len c9)) (.slice A9 rest.len c9) rest := by
        have hP0 : Prow G w.heap.size w9 (.slice A9 rest.len c9) rest := by
          obtain ⟨xs, ⟨h1, h2⟩, h3⟩ := hP
          refine ⟨xs, ⟨h1, ?_⟩, h3⟩
          rcases h2 with h2 | ⟨g, cap, cur, e, hBg, hr⟩
          · exact .inl h2
          · exact .inr ⟨g, cap, cur, e, by omega, hr⟩
        refine hP0.keep (fun p hp => World.cell?_of_block (Below.heap_setCell _ _ _ _ ?_)) fun g hg => Below.heap_setCell _ _ _ _ ?_
        · have := HG.out _ hp
          show p.block ≠ w.heap.size + 1
          omega
        · have := (hP.lt hg).1
          show g ≠ w.heap.size + 1
          omega
      have hres : (w9.setCell ⟨w.heap.size + 1, 0, none⟩ (.slice A9 rest.len c9)).cell? ⟨w.heap.size + 1, 0, none⟩ = some (.slice A9 rest.len c9) := by simp [World.cell?, World.setCell, Array.getElem?_modify, hh9]
      have HPF := Lib.hid hPF; have HBF := Lib.hid hbF
      clear hPF hbF hP hb9 hh9
      go_wp2_with fail
      refine bodyPost_ret (v := .tuple #[.string (t.extract 0 k), .agg #[.slice A9 rest.len c9], .bool true]) (by simp [results, Tryz.results176, go_sem, hres]) rfl ?_
      exact ⟨_, rfl, by rw [HU.out]; exact HPF.out, HBF.out⟩
end Go.Proofs.YtjpopekmbmcggaaGreatDoor
namespace Go.Proofs.YtjpopekmbmcggaaGreatDoor
open Go.RowKit
theorem drop_cons'' (s : ByteArray) (k : Nat) (h : k < s.size) : s.toList.drop k = s[k] :: s.toList.drop (k + 1) := by
  rw [List.drop_eq_getElem_cons (by rw [← size_list]; exact h), get_list s k h]
theorem drop_head (s : ByteArray) (k : Nat) (h : k < s.size) : (s.toList.drop k).head? = some s[k] := by rw [drop_cons'' s k h]; rfl
theorem drop_none (s : ByteArray) (k : Nat) (h : ¬ k < s.size) : s.toList.drop k = [] := List.drop_of_length_le (by rw [← size_list]; omega)
end Go.Proofs.YtjpopekmbmcggaaGreatDoor
namespace Go.Proofs.YtjpopekmbmcggaaGreatDoor
open Go.RowKit
theorem hd0_get (s : ByteArray) (h : 0 < s.size) : hd0 s.toList = s[0] := by
  have := get?_list s 0 h
  cases hl : s.toList with
  | nil => rw [hl] at this; simp at this
  | cons a l => rw [hl] at this; simp at this; simpa [hd0] using this
theorem box_cells {Y : World} {b : Nat} {T : TypeId} {v0 v1 v2 v3 v4 : Value} (h : Y.heap[b]? = some (.cells #[v0, v1, v2, v3, v4] T (0, 0))) :
    Y.cell? ⟨b, 0, none⟩ = some v0 ∧ Y.cell? ⟨b, 1, none⟩ = some v1 ∧ Y.cell? ⟨b, 2, none⟩ = some v2 ∧ Y.cell? ⟨b, 3, none⟩ = some v3 ∧ Y.cell? ⟨b, 4, none⟩ = some v4 :=
  ⟨by simp [World.cell?, h], by simp [World.cell?, h], by simp [World.cell?, h], by simp [World.cell?, h], by simp [World.cell?, h]⟩
theorem PtsAt.old {G : Nat → Prop} {w w' : World} {A : Option Addr} {i : Nat} {l : Pts} (h : PtsAt G w A i l) (hG : ∀ k, G k → k < w.heap.size) (hb : Below w.heap.size w w') : PtsAt G w' A i l := h.keep fun _ hp => World.cell?_of_block (hb.block _ (hG _ hp))
theorem pts_cons {l : Pts} (h : ((l.len : Int) == 0) = false) : ∃ k t o kids cm r, l = .cons k t o kids cm r := by
  cases l with
  | nil => cases h
  | cons k t o kids cm r => exact ⟨k, t, o, kids, cm, r, rfl⟩
end Go.Proofs.YtjpopekmbmcggaaGreatDoor
namespace Go.Proofs.YtjpopekmbmcggaaGreatDoor
open Go.RowKit
attribute [local go_sem ↓] wp_append_wr
theorem Chr.assign_range_from (l : List UInt8) : ∀ (n i : Nat), Chr.assignFrom l i n = -1 ∨ ∃ k : Nat, Chr.assignFrom l i n = (k : Int) ∧ k < i + n := by
  intro n
  induction n with
  | zero => intro i; exact .inl rfl
  | succ n ih =>
    intro i
    rw [Chr.assignFrom]
    by_cases h : (l.getD i 0).toNat = 61
    · rw [if_pos h]
      by_cases h2 : Chr.name (l.take i) = true
      · rw [if_pos h2]; exact .inr ⟨i, rfl, by omega⟩
      · rw [if_neg h2]; exact .inl rfl
    · rw [if_neg h]
      rcases ih (i + 1) with h1 | ⟨k, h1, h2⟩
      · exact .inl h1
      · exact .inr ⟨k, h1, by omega⟩
theorem Chr.assign_range (l : List UInt8) : Chr.assign l = -1 ∨ ∃ k : Nat, Chr.assign l = (k : Int) ∧ k < l.length := by
  have := Chr.assign_range_from l l.length 0
  rw [Nat.zero_add] at this
  exact this
def Pts.asg : Pts → Option (ByteArray × Pts)
  | .nil => none
  | .cons k t _ _ _ rest => if k = 1 ∧ 0 ≤ Chr.assign t.toList then some (t.extract 0 (Chr.assign t.toList).toNat, uRest t (Chr.assign t.toList).toNat rest) else none
def Pts.asgN (l : Pts) : ByteArray := (l.asg.map (·.1)).getD ⟨#[]⟩
def Pts.asgR (l : Pts) : Pts := (l.asg.map (·.2)).getD .nil
set_option maxRecDepth 100000 in
set_option maxHeartbeats 4000000 in
theorem uassign_none (l : Pts) (h : l.asg = none) (A : Option Addr) (c : Nat) (G : Nat → Prop) (w : World) (hG : ∀ j, G j → j < w.heap.size) (hp : PtsAt G w A 0 l) (hwt : l.wt ≤ 1073741823) :
    Calls Tryz.prog 176 #[.agg #[.slice A l.len c]] w fun e w' => e = .returned (.tuple #[.string ⟨#[]⟩, .agg #[.slice none 0 0], .bool false]) ∧ Below w.heap.size w w' := by
  have hlw := Pts.len_wt l
  generalize hW : (w.alloc (.cells #[.slice A l.len c] 31)).alloc (.cells #[.slice none 0 0] 31) = W
  have hbW : Below w.heap.size w W := by rw [← hW]; exact ((Below.refl _ _).alloc (Nat.le_refl _) _).alloc (by simp) _
  have q0 : W.cell? ⟨w.heap.size, 0, none⟩ = some (.slice A l.len c) := by rw [← hW]; simp
  have q1 : W.heap[w.heap.size + 1]? = some (.cells #[.slice none 0 0] 31 (0, 0)) := by
    rw [← hW]
    have := heap_alloc (w.alloc (.cells #[.slice A l.len c] 31)) (.cells #[.slice none 0 0] 31)
    simpa using this
  have hsW : W.heap.size = w.heap.size + 2 := by rw [← hW]; simp
  have HP := Lib.hid (hp.old hG hbW)
  have HBW := Lib.hid hbW; have HQ1 := Lib.hid q1; have HSW := Lib.hid hsW
  have HBF := Lib.hid (show Below w.heap.size w (W.setCell ⟨w.heap.size + 1, 0, none⟩ (.slice none 0 0)) from hbW.setCell (by show w.heap.size ≤ w.heap.size + 1; omega) _)
  have hh9 := q1
  clear hp hG hbW q1 hsW
  cases l with
  | nil =>
    rw [show Pts.len .nil = 0 from rfl] at *
    go_enter Tryz.func176, Tryz.ntmps176
    have q9 : W.cell? ⟨w.heap.size + 1, 0, none⟩ = some (.slice none 0 0) := by simp [World.cell?, hh9]
    have f9 : W.frozen? ⟨w.heap.size + 1, 0, none⟩ = false := by simp [World.frozen?, hh9]
    have hres : (W.setCell ⟨w.heap.size + 1, 0, none⟩ (.slice none 0 0)).cell? ⟨w.heap.size + 1, 0, none⟩ = some (.slice none 0 0) := by simp [World.cell?, World.setCell, Array.getElem?_modify, hh9]
    clear hh9
    go_wp2_with fail
    refine bodyPost_ret (v := .tuple #[.string ⟨#[]⟩, .agg #[.slice none 0 0], .bool false]) (by simp [results, Tryz.results176, go_sem, hres]) rfl ?_
    exact ⟨rfl, HBF.out⟩
  | cons k t o kids cm rest =>
    obtain ⟨b, off, Ak, ck, rfl, hGb, c0, c1, _, _, _, _, _, hrest⟩ := HP.out
    simp only [Nat.zero_mul, Nat.add_zero] at c0 c1
    rw [show (Pts.cons k t o kids cm rest).len = rest.len + 1 from rfl] at *
    rw [Pts.wt] at hwt
    have hl0 : ¬ ((rest.len : Int) + 1 = 0) := by omega
    have hl1 : (0 : Int) < (rest.len : Int) + 1 := by omega
    by_cases hk : k = 1
    · have hk1 : (k == 1) = true := by rw [hk]; rfl
      subst hk
      have hn : Chr.assign t.toList = -1 := by
        rcases Chr.assign_range t.toList with h1 | ⟨q, h1, _⟩
        · exact h1
        · have h : (if (1 : Int) = 1 ∧ 0 ≤ Chr.assign t.toList then some (t.extract 0 (Chr.assign t.toList).toNat, uRest t (Chr.assign t.toList).toNat rest) else none) = none := h
          rw [if_pos ⟨rfl, by omega⟩] at h
          cases h
      have HN := Lib.hid hn
      clear hn h hh9 hrest
      go_enter Tryz.func176, Tryz.ntmps176
      go_wp2_with fail
      refine (assign_p t _ (by omega)).mono ?_
      rintro e w2 ⟨he, hb2⟩
      rw [HN.out] at he
      subst he
      have hh9 := (hb2.block (w.heap.size + 1) (by have := HSW.out; omega)).trans HQ1.out
      have hbF : Below w.heap.size w (w2.setCell ⟨w.heap.size + 1, 0, none⟩ (.slice none 0 0)) := (HBW.out.trans (hb2.mono HBW.out.size)).setCell (by show w.heap.size ≤ w.heap.size + 1; omega) _
      have q9 : w2.cell? ⟨w.heap.size + 1, 0, none⟩ = some (.slice none 0 0) := by simp [World.cell?, hh9]
      have f9 : w2.frozen? ⟨w.heap.size + 1, 0, none⟩ = false := by simp [World.frozen?, hh9]
      have hres : (w2.setCell ⟨w.heap.size + 1, 0, none⟩ (.slice none 0 0)).cell? ⟨w.heap.size + 1, 0, none⟩ = some (.slice none 0 0) := by simp [World.cell?, World.setCell, Array.getElem?_modify, hh9]
      clear hh9
      go_wp2_with fail
      refine bodyPost_ret (v := .tuple #[.string ⟨#[]⟩, .agg #[.slice none 0 0], .bool false]) (by simp [results, Tryz.results176, go_sem, hres]) rfl ?_
      exact ⟨rfl, hbF⟩
    · have hk1 : (k != 1) = true := by simpa using hk
      clear h hrest
      go_enter Tryz.func176, Tryz.ntmps176
      have q9 : W.cell? ⟨w.heap.size + 1, 0, none⟩ = some (.slice none 0 0) := by simp [World.cell?, hh9]
      have f9 : W.frozen? ⟨w.heap.size + 1, 0, none⟩ = false := by simp [World.frozen?, hh9]
      have hres : (W.setCell ⟨w.heap.size + 1, 0, none⟩ (.slice none 0 0)).cell? ⟨w.heap.size + 1, 0, none⟩ = some (.slice none 0 0) := by simp [World.cell?, World.setCell, Array.getElem?_modify, hh9]
      clear hh9
      go_wp2_with fail
      refine bodyPost_ret (v := .tuple #[.string ⟨#[]⟩, .agg #[.slice none 0 0], .bool false]) (by simp [results, Tryz.results176, go_sem, hres]) rfl ?_
      exact ⟨rfl, HBF.out⟩
theorem uassign_any (l : Pts) (A : Option Addr) (c : Nat) (G : Nat → Prop) (w : World) (hG : ∀ j, G j → j < w.heap.size) (hp : PtsAt G w A 0 l) (hc : l.len ≤ c) (hwt : l.wt ≤ 1073741823) (hcm : c ≤ maxLen) :
    Calls Tryz.prog 176 #[.agg #[.slice A l.len c]] w fun e w' => ∃ v, e = .returned (.tuple #[.string l.asgN, .agg #[v], .bool l.asg.isSome]) ∧ Prow G w.heap.size w' v l.asgR ∧ Below w.heap.size w w' := by
  cases h : l.asg with
  | none =>
    refine (uassign_none l h A c G w hG hp hwt).mono ?_
    rintro e w' ⟨he, hb⟩
    refine ⟨.slice none 0 0, ?_, ?_, hb⟩
    · rw [he]; unfold Pts.asgN; rw [h]; rfl
    · unfold Pts.asgR; rw [h]; exact Prow.nothing
  | some q =>
    obtain ⟨k, t, o, kids, cm, rest, rfl⟩ : ∃ k t o kids cm rest, l = .cons k t o kids cm rest := by
      cases l with
      | nil => cases h
      | cons k t o kids cm rest => exact ⟨_, _, _, _, _, _, rfl⟩
    have h0 := h
    have hq : (if k = 1 ∧ 0 ≤ Chr.assign t.toList then some (t.extract 0 (Chr.assign t.toList).toNat, uRest t (Chr.assign t.toList).toNat rest) else none) = some q := h
    by_cases hk : k = 1 ∧ 0 ≤ Chr.assign t.toList
    · rw [if_pos hk] at hq
      obtain ⟨rfl, hk2⟩ := hk
      rcases Chr.assign_range t.toList with h1 | ⟨m, h1, h2⟩
      · omega
      · have hlw := Pts.len_wt rest
        rw [Pts.wt] at hwt
        rw [h1, Int.toNat_natCast] at hq
        rw [← size_list] at h2
        refine (uassign_some t o kids rest cm m h1 h2 A c G w hG hp hc (by omega) (by omega) hcm).mono ?_
        rintro e w' ⟨v, he, hP, hb⟩
        refine ⟨v, ?_, ?_, hb⟩
        · rw [he]; unfold Pts.asgN; rw [h0, ← hq]; rfl
        · unfold Pts.asgR; rw [h0, ← hq]; exact hP
    · rw [if_neg hk] at hq; cases hq
end Go.Proofs.YtjpopekmbmcggaaGreatDoor
