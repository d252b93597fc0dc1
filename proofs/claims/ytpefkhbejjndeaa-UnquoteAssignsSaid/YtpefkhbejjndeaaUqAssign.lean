/- unquote.Assign of a word that begins with an assignment: walked. -/
import Derived.Test.YtpefkhbejjndeaaUqInsert
import Derived.Test.YtpefkhbejjndeaaCharLaws
namespace Go.Proofs.Ytpefkhbejjndeaa
open Go.RowKit
attribute [local go_sem ↓] wp_append_wr

theorem PtsAt.shift {G : Nat → Prop} {w : World} {b off : Nat} : ∀ {l : Pts} {i : Nat}, PtsAt G w (some ⟨b, off, none⟩) (i + 1) l → PtsAt G w (some ⟨b, off + 5, none⟩) i l
  | .nil, _, _ => trivial
  | .cons k t o kids cm rest, i, h => by
    obtain ⟨b', off', Ak, ck, hA, hG, c0, c1, c2, c3, c4, hl, h1, h2⟩ := h
    injection hA with hA
    injection hA with e1 e2
    subst e1 e2
    rw [show off + (i + 1) * 5 = off + 5 + i * 5 by omega] at c0 c1 c2 c3 c4
    exact ⟨b, off + 5, Ak, ck, rfl, hG, c0, c1, c2, c3, c4, hl, h1, h2.shift⟩

theorem Pts.nil_of_len {l : Pts} (h : l.len = 0) : l = .nil := by
  cases l with
  | nil => rfl
  | cons => simp [Pts.len] at h
/-- What is left of the first literal. -/
def uRest (t : ByteArray) (k : Nat) (rest : Pts) : Pts := if k + 1 < t.size then Pts.lit (t.extract (k + 1) t.size) rest else rest

set_option maxRecDepth 100000 in
set_option maxHeartbeats 4000000 in
theorem uassign_some (t o : ByteArray) (kids rest : Pts) (cm : Cm) (k : Nat) (hk : Chr.assign t.toList = (k : Int)) (hkt : k < t.size) (A : Option Addr) (c : Nat) (G : Nat → Prop) (w : World) (hG : ∀ j, G j → j < w.heap.size) (hp : PtsAt G w A 0 (.cons 1 t o kids cm rest)) (hc : rest.len + 1 ≤ c) (hwt : rest.len ≤ 1073741823) (hts : t.size ≤ 562949953421312) (hcm : c ≤ maxLen) :
    Calls Try.prog 31 #[.agg #[.slice A (rest.len + 1) c]] w fun e w' => ∃ v, e = .returned (.tuple #[.string (t.extract 0 k), .agg #[v], .bool true]) ∧ Prow G w.heap.size w' v (uRest t k rest) ∧ Below w.heap.size w w' := by
  obtain ⟨b, off, Ak, ck, rfl, hGb, c0, c1, _, _, _, _, _, hrest⟩ := hp
  simp only [Nat.zero_mul, Nat.add_zero] at c0 c1
  have hrs := hrest.shift
  generalize hW : (w.alloc (.cells #[.slice (some ⟨b, off, none⟩) (rest.len + 1) c] 33)).alloc (.cells #[.slice none 0 0] 33) = W
  have hbW : Below w.heap.size w W := by rw [← hW]; exact ((Below.refl _ _).alloc (Nat.le_refl _) _).alloc (by simp) _
  have q0 : W.cell? ⟨w.heap.size, 0, none⟩ = some (.slice (some ⟨b, off, none⟩) (rest.len + 1) c) := by rw [← hW]; simp
  have q1 : W.heap[w.heap.size + 1]? = some (.cells #[.slice none 0 0] 33 (0, 0)) := by
    rw [← hW]
    have := heap_alloc (w.alloc (.cells #[.slice (some ⟨b, off, none⟩) (rest.len + 1) c] 33)) (.cells #[.slice none 0 0] 33)
    simpa using this
  have hsW : W.heap.size = w.heap.size + 2 := by rw [← hW]; simp
  have hbw : b < w.heap.size := hG b hGb
  have z0 := (World.cell?_of_block (hbW.block b hbw)).trans c0
  have z1 := (World.cell?_of_block (hbW.block b hbw)).trans c1
  have HRS := Lib.hid hrs; have HBW := Lib.hid hbW; have HQ1 := Lib.hid q1; have HSW := Lib.hid hsW; have HG := Lib.hid hG
  have HK := Lib.hid hk
  clear hrs hbW q1 hrest hsW hG hk c0 c1
  have hl0 : ¬ ((rest.len : Int) + 1 = 0) := by omega
  have hl1 : (0 : Int) < (rest.len : Int) + 1 := by omega
  go_enter Try.func31, Try.ntmps31
  go_wp2_with fail
  refine (assign_p t _ (by omega)).mono ?_
  rintro e w2 ⟨he, hb2⟩
  rw [HK.out] at he
  subst he
  have hsW := HSW.out
  have hs2 : w.heap.size + 2 ≤ w2.heap.size := by have := hb2.size; omega
  have p0 := (World.cell?_of_block (hb2.block w.heap.size (by omega))).trans q0
  have hk0 : (0 : Int) ≤ (k : Int) := by omega
  have hki : (k : Int) ≤ (t.size : Int) := by omega
  have hk1 : (k : Int) + 1 ≤ (t.size : Int) := by omega
  have htsi : (t.size : Int) ≤ 562949953421312 := by omega
  have hwk : IntKind.i64.wrap ((k : Int) + 1) = (k : Int) + 1 := by rw [IntKind.wrap_i64]; omega
  have hci : (1 : Int) ≤ (c : Int) := by omega
  have hcmi : (c : Int) ≤ 9223372036854775807 := by unfold maxLen at hcm; omega
  have hto : ((k : Int) + 1).toNat = k + 1 := by omega
  clear hW q0 z0 z1
  by_cases hc1 : c = 1
  · subst hc1
    go_wp2_with fail
    have hcl := clone_p rest (some ⟨b, off, none⟩) 0 G w2 (fun j hj => by have := HG.out j hj; omega) (by rw [show rest = .nil from Pts.nil_of_len (by omega)]; trivial) (by omega) (by omega) (fun h => by cases h)
    rw [show rest.len = 0 by omega] at hcl
    refine hcl.mono ?_
    rintro e w3 ⟨v3, rfl, hP3, hb3⟩
    by_cases hlt : k + 1 < t.size
    · have hlti : (k : Int) + 1 < (t.size : Int) := by omega
      have hX : Below w3.heap.size w3 (w3.alloc (.cells (litPs (t.extract (k + 1) t.size)).toArray 41)) := (Below.refl _ _).alloc (Nat.le_refl _) _
      have hins := insert0 rest (t.extract (k + 1) t.size) v3 w3.heap.size w2.heap.size G _ (hP3.below (fun j hj => by have := HG.out j hj; have := hb3.size; omega) hX) (heap_alloc w3 _) (fun e => by have := (hP3.lt e).2; omega) (fun j hj => by have := HG.out j hj; omega) (by have := hb3.size; simp; omega) (by omega)
      obtain ⟨A3, c3, rfl, hl3, hm3, _⟩ := hP3.at_
      unfold litPs at hins
      have HINS := Lib.hid hins
      have HU := Lib.hid (show uRest t k rest = Pts.lit (t.extract (k + 1) t.size) rest from if_pos hlt)
      clear hins hP3
      go_wp2_with fail
      refine HINS.out.mono ?_
      rintro e w9 ⟨v9, rfl, hP, hbi⟩
      have hb9 : Below W.heap.size W w9 := ((hb2.trans (hb3.mono hb2.size)).alloc (by have := hb2.size; have := hb3.size; omega) _).trans (hbi.mono hb2.size)
      clear hbi
      obtain ⟨A9, c9, rfl, hl9, hm9, _⟩ := hP.at_
      have hh9 := (hb9.block (w.heap.size + 1) (by omega)).trans HQ1.out
      have q9 : w9.cell? ⟨w.heap.size + 1, 0, none⟩ = some (.slice none 0 0) := by simp [World.cell?, hh9]
      have f9 : w9.frozen? ⟨w.heap.size + 1, 0, none⟩ = false := by simp [World.frozen?, hh9]
      have hbF : Below w.heap.size w (w9.setCell ⟨w.heap.size + 1, 0, none⟩ (.slice A9 (Pts.lit (t.extract (k + 1) t.size) rest).len c9)) := (HBW.out.trans (hb9.mono HBW.out.size)).setCell (by show w.heap.size ≤ w.heap.size + 1; omega) _
      have hPF : Prow G w.heap.size (w9.setCell ⟨w.heap.size + 1, 0, none⟩ (.slice A9 (Pts.lit (t.extract (k + 1) t.size) rest).len c9)) (.slice A9 (Pts.lit (t.extract (k + 1) t.size) rest).len c9) (Pts.lit (t.extract (k + 1) t.size) rest) := by
        have hP0 : Prow G w.heap.size w9 (.slice A9 (Pts.lit (t.extract (k + 1) t.size) rest).len c9) (Pts.lit (t.extract (k + 1) t.size) rest) := by
          obtain ⟨xs, ⟨h1, h2⟩, h3⟩ := hP
          refine ⟨xs, ⟨h1, ?_⟩, h3⟩
          rcases h2 with h2 | ⟨g, cap, cur, e, hBg, hr⟩
          · exact .inl h2
          · exact .inr ⟨g, cap, cur, e, by omega, hr⟩
        refine hP0.keep (fun p hp => World.cell?_of_block (Below.heap_setCell _ _ _ _ ?_)) fun g hg => Below.heap_setCell _ _ _ _ ?_
        · have := HG.out _ hp
          show p.block ≠ w.heap.size + 1
          omega
        · have := (hP.lt hg).1
          show g ≠ w.heap.size + 1
          omega
      have hres : (w9.setCell ⟨w.heap.size + 1, 0, none⟩ (.slice A9 (Pts.lit (t.extract (k + 1) t.size) rest).len c9)).cell? ⟨w.heap.size + 1, 0, none⟩ = some (.slice A9 (Pts.lit (t.extract (k + 1) t.size) rest).len c9) := by simp [World.cell?, World.setCell, Array.getElem?_modify, hh9]
      have HPF := Lib.hid hPF; have HBF := Lib.hid hbF
      clear hPF hbF hP hb9 hh9
      go_wp2_with fail
      refine bodyPost_ret (v := .tuple #[.string (t.extract 0 k), .agg #[.slice A9 (Pts.lit (t.extract (k + 1) t.size) rest).len c9], .bool true]) (by simp [results, Try.results31, go_sem, hres]) rfl ?_
      exact ⟨_, rfl, by rw [HU.out]; exact HPF.out, HBF.out⟩
    · have hlti : ¬ (k : Int) + 1 < (t.size : Int) := by omega
      have HU := Lib.hid (show uRest t k rest = rest from if_neg hlt)
      have hb9 : Below W.heap.size W w3 := hb2.trans (hb3.mono hb2.size)
      have hP := hP3
      clear hP3
      revert hP hb9
      generalize w3 = w9
      intro hb9 hP
      obtain ⟨A9, c9, rfl, hl9, hm9, _⟩ := hP.at_
      have hh9 := (hb9.block (w.heap.size + 1) (by omega)).trans HQ1.out
      have q9 : w9.cell? ⟨w.heap.size + 1, 0, none⟩ = some (.slice none 0 0) := by simp [World.cell?, hh9]
      have f9 : w9.frozen? ⟨w.heap.size + 1, 0, none⟩ = false := by simp [World.frozen?, hh9]
      have hbF : Below w.heap.size w (w9.setCell ⟨w.heap.size + 1, 0, none⟩ (.slice A9 rest.len c9)) := (HBW.out.trans (hb9.mono HBW.out.size)).setCell (by show w.heap.size ≤ w.heap.size + 1; omega) _
      have hPF : Prow G w.heap.size (w9.setCell ⟨w.heap.size + 1, 0, none⟩ (.slice A9 rest.len c9)) (.slice A9 rest.len c9) rest := by
        have hP0 : Prow G w.heap.size w9 (.slice A9 rest.len c9) rest := by
          obtain ⟨xs, ⟨h1, h2⟩, h3⟩ := hP
          refine ⟨xs, ⟨h1, ?_⟩, h3⟩
          rcases h2 with h2 | ⟨g, cap, cur, e, hBg, hr⟩
          · exact .inl h2
          · exact .inr ⟨g, cap, cur, e, by omega, hr⟩
        refine hP0.keep (fun p hp => World.cell?_of_block (Below.heap_setCell _ _ _ _ ?_)) fun g hg => Below.heap_setCell _ _ _ _ ?_
        · have := HG.out _ hp
          show p.block ≠ w.heap.size + 1
          omega
        · have := (hP.lt hg).1
          show g ≠ w.heap.size + 1
          omega
      have hres : (w9.setCell ⟨w.heap.size + 1, 0, none⟩ (.slice A9 rest.len c9)).cell? ⟨w.heap.size + 1, 0, none⟩ = some (.slice A9 rest.len c9) := by simp [World.cell?, World.setCell, Array.getElem?_modify, hh9]
      have HPF := Lib.hid hPF; have HBF := Lib.hid hbF
      clear hPF hbF hP hb9 hh9
      go_wp2_with fail
      refine bodyPost_ret (v := .tuple #[.string (t.extract 0 k), .agg #[.slice A9 rest.len c9], .bool true]) (by simp [results, Try.results31, go_sem, hres]) rfl ?_
      exact ⟨_, rfl, by rw [HU.out]; exact HPF.out, HBF.out⟩
  · go_wp2_with fail
    refine (clone_p rest (some ⟨b, off + 5, none⟩) (c - 1) G w2 (fun j hj => by have := HG.out j hj; omega) (HRS.out.keep fun p hp => World.cell?_of_block ((HBW.out.trans (hb2.mono HBW.out.size)).block _ (HG.out _ hp))) (by omega) (by omega) (fun h => by cases h)).mono ?_
    rintro e w3 ⟨v3, rfl, hP3, hb3⟩
    by_cases hlt : k + 1 < t.size
    · have hlti : (k : Int) + 1 < (t.size : Int) := by omega
      have hX : Below w3.heap.size w3 (w3.alloc (.cells (litPs (t.extract (k + 1) t.size)).toArray 41)) := (Below.refl _ _).alloc (Nat.le_refl _) _
      have hins := insert0 rest (t.extract (k + 1) t.size) v3 w3.heap.size w2.heap.size G _ (hP3.below (fun j hj => by have := HG.out j hj; have := hb3.size; omega) hX) (heap_alloc w3 _) (fun e => by have := (hP3.lt e).2; omega) (fun j hj => by have := HG.out j hj; omega) (by have := hb3.size; simp; omega) (by omega)
      obtain ⟨A3, c3, rfl, hl3, hm3, _⟩ := hP3.at_
      unfold litPs at hins
      have HINS := Lib.hid hins
      have HU := Lib.hid (show uRest t k rest = Pts.lit (t.extract (k + 1) t.size) rest from if_pos hlt)
      clear hins hP3
      go_wp2_with fail
      refine HINS.out.mono ?_
      rintro e w9 ⟨v9, rfl, hP, hbi⟩
      have hb9 : Below W.heap.size W w9 := ((hb2.trans (hb3.mono hb2.size)).alloc (by have := hb2.size; have := hb3.size; omega) _).trans (hbi.mono hb2.size)
      clear hbi
      obtain ⟨A9, c9, rfl, hl9, hm9, _⟩ := hP.at_
      have hh9 := (hb9.block (w.heap.size + 1) (by omega)).trans HQ1.out
      have q9 : w9.cell? ⟨w.heap.size + 1, 0, none⟩ = some (.slice none 0 0) := by simp [World.cell?, hh9]
      have f9 : w9.frozen? ⟨w.heap.size + 1, 0, none⟩ = false := by simp [World.frozen?, hh9]
      have hbF : Below w.heap.size w (w9.setCell ⟨w.heap.size + 1, 0, none⟩ (.slice A9 (Pts.lit (t.extract (k + 1) t.size) rest).len c9)) := (HBW.out.trans (hb9.mono HBW.out.size)).setCell (by show w.heap.size ≤ w.heap.size + 1; omega) _
      have hPF : Prow G w.heap.size (w9.setCell ⟨w.heap.size + 1, 0, none⟩ (.slice A9 (Pts.lit (t.extract (k + 1) t.size) rest).len c9)) (.slice A9 (Pts.lit (t.extract (k + 1) t.size) rest).len c9) (Pts.lit (t.extract (k + 1) t.size) rest) := by
        have hP0 : Prow G w.heap.size w9 (.slice A9 (Pts.lit (t.extract (k + 1) t.size) rest).len c9) (Pts.lit (t.extract (k + 1) t.size) rest) := by
          obtain ⟨xs, ⟨h1, h2⟩, h3⟩ := hP
          refine ⟨xs, ⟨h1, ?_⟩, h3⟩
          rcases h2 with h2 | ⟨g, cap, cur, e, hBg, hr⟩
          · exact .inl h2
          · exact .inr ⟨g, cap, cur, e, by omega, hr⟩
        refine hP0.keep (fun p hp => World.cell?_of_block (Below.heap_setCell _ _ _ _ ?_)) fun g hg => Below.heap_setCell _ _ _ _ ?_
        · have := HG.out _ hp
          show p.block ≠ w.heap.size + 1
          omega
        · have := (hP.lt hg).1
          show g ≠ w.heap.size + 1
          omega
      have hres : (w9.setCell ⟨w.heap.size + 1, 0, none⟩ (.slice A9 (Pts.lit (t.extract (k + 1) t.size) rest).len c9)).cell? ⟨w.heap.size + 1, 0, none⟩ = some (.slice A9 (Pts.lit (t.extract (k + 1) t.size) rest).len c9) := by simp [World.cell?, World.setCell, Array.getElem?_modify, hh9]
      have HPF := Lib.hid hPF; have HBF := Lib.hid hbF
      clear hPF hbF hP hb9 hh9
      go_wp2_with fail
      refine bodyPost_ret (v := .tuple #[.string (t.extract 0 k), .agg #[.slice A9 (Pts.lit (t.extract (k + 1) t.size) rest).len c9], .bool true]) (by simp [results, Try.results31, go_sem, hres]) rfl ?_
      exact ⟨_, rfl, by rw [HU.out]; exact HPF.out, HBF.out⟩
    · have hlti : ¬ (k : Int) + 1 < (t.size : Int) := by omega
      have HU := Lib.hid (show uRest t k rest = rest from if_neg hlt)
      have hb9 : Below W.heap.size W w3 := hb2.trans (hb3.mono hb2.size)
      have hP := hP3
      clear hP3
      revert hP hb9
      generalize w3 = w9
      intro hb9 hP
      obtain ⟨A9, c9, rfl, hl9, hm9, _⟩ := hP.at_
      have hh9 := (hb9.block (w.heap.size + 1) (by omega)).trans HQ1.out
      have q9 : w9.cell? ⟨w.heap.size + 1, 0, none⟩ = some (.slice none 0 0) := by simp [World.cell?, hh9]
      have f9 : w9.frozen? ⟨w.heap.size + 1, 0, none⟩ = false := by simp [World.frozen?, hh9]
      have hbF : Below w.heap.size w (w9.setCell ⟨w.heap.size + 1, 0, none⟩ (.slice A9 rest.len c9)) := (HBW.out.trans (hb9.mono HBW.out.size)).setCell (by show w.heap.size ≤ w.heap.size + 1; omega) _
      have hPF : Prow G w.heap.size (w9.setCell ⟨w.heap.size + 1, 0, none⟩ (.slice A9 rest.len c9)) (.slice A9 rest.len c9) rest := by
        have hP0 : Prow G w.heap.size w9 (.slice A9 rest.len c9) rest := by
          obtain ⟨xs, ⟨h1, h2⟩, h3⟩ := hP
          refine ⟨xs, ⟨h1, ?_⟩, h3⟩
          rcases h2 with h2 | ⟨g, cap, cur, e, hBg, hr⟩
          · exact .inl h2
          · exact .inr ⟨g, cap, cur, e, by omega, hr⟩
        refine hP0.keep (fun p hp => World.cell?_of_block (Below.heap_setCell _ _ _ _ ?_)) fun g hg => Below.heap_setCell _ _ _ _ ?_
        · have := HG.out _ hp
          show p.block ≠ w.heap.size + 1
          omega
        · have := (hP.lt hg).1
          show g ≠ w.heap.size + 1
          omega
      have hres : (w9.setCell ⟨w.heap.size + 1, 0, none⟩ (.slice A9 rest.len c9)).cell? ⟨w.heap.size + 1, 0, none⟩ = some (.slice A9 rest.len c9) := by simp [World.cell?, World.setCell, Array.getElem?_modify, hh9]
      have HPF := Lib.hid hPF; have HBF := Lib.hid hbF
      clear hPF hbF hP hb9 hh9
      go_wp2_with fail
      refine bodyPost_ret (v := .tuple #[.string (t.extract 0 k), .agg #[.slice A9 rest.len c9], .bool true]) (by simp [results, Try.results31, go_sem, hres]) rfl ?_
      exact ⟨_, rfl, by rw [HU.out]; exact HPF.out, HBF.out⟩
end Go.Proofs.Ytpefkhbejjndeaa
