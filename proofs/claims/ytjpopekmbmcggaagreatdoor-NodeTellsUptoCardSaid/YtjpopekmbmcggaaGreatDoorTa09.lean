/- Towards nodeTells_card: UqAsg. Merged from smaller texts by a program of the author's. -/
import Derived.Test.YtjpopekmbmcggaaGreatDoorTa05
import Derived.Test.YtjpopekmbmcggaaGreatDoorTa04
import Derived.Test.YtjpopekmbmcggaaGreatDoorTa08
import Derived.Laws.OwnMore
import Derived.BigRegion
namespace Go.Proofs.YtjpopekmbmcggaaGreatDoor
open Go.RowKit
attribute [local go_sem ↓] wp_append_wr
theorem Chr.assign_range_from (l : List UInt8) : ∀ (n i : Nat), Chr.assignFrom l i n = -1 ∨ ∃ k : Nat, Chr.assignFrom l i n = (k : Int) ∧ k < i + n := by
  intro n
  induction n with
  | zero => intro i; exact .inl rfl
  | succ n ih =>
    intro i
    rw [Chr.assignFrom]
    by_cases h : (l.getD i 0).toNat = 61
    · rw [if_pos h]
      by_cases h2 : Chr.name (l.take i) = true
      · rw [if_pos h2]; exact .inr ⟨i, rfl, by omega⟩
      · rw [if_neg h2]; exact .inl rfl
    · rw [if_neg h]
      rcases ih (i + 1) with h1 | ⟨k, h1, h2⟩
      · exact .inl h1
      · exact .inr ⟨k, h1, by omega⟩
theorem Chr.assign_range (l : List UInt8) : Chr.assign l = -1 ∨ ∃ k : Nat, Chr.assign l = (k : Int) ∧ k < l.length := by
  have := Chr.assign_range_from l l.length 0
  rw [Nat.zero_add] at this
  exact this
def Pts.asg : Pts → Option (ByteArray × Pts)
  | .nil => none
  | .cons k t _ _ _ rest => if k = 1 ∧ 0 ≤ Chr.assign t.toList then some (t.extract 0 (Chr.assign t.toList).toNat, uRest t (Chr.assign t.toList).toNat rest) else none
def Pts.asgN (l : Pts) : ByteArray := (l.asg.map (·.1)).getD ⟨#[]⟩
def Pts.asgR (l : Pts) : Pts := (l.asg.map (·.2)).getD .nil
theorem lit_alone {G : Nat → Prop} (t : ByteArray) (w : World) :
    ∃ v' w', WrA Tryz.prog #[29, 29] 29 #[.slice none 0 0, .slice (some ⟨w.heap.size, 0, none⟩) 1 1] (w.alloc (.cells (litPs t).toArray 50)) = .ok v' w' ∧ Prow G w.heap.size w' v' (Pts.lit t .nil) ∧ Below w.heap.size w w' := by
  obtain ⟨i0, hi, hz0, hz1, hz2⟩ := info_parts info_part
  have hb : Below w.heap.size w (w.alloc (.cells (litPs t).toArray 50)) := (Below.refl _ _).alloc (Nat.le_refl _) _
  obtain ⟨v', w', h1, r1, r2, _⟩ := run_append_own (P := Tryz.prog) (w.alloc (.cells (litPs t).toArray 50)) w.heap.size 29 29 50 i0 _ 5 88 Tryz.underlying29 hi hz0 hz1 hz2 rfl (by decide) (.slice none 0 0) 0 [] (World.ownsRow_nil _ _ _ _) ⟨w.heap.size, 0, none⟩ 1 1 (litPs t) rfl (litPs_at (heap_alloc w _)) (litPs_one t) (by unfold maxLen; omega) (by omega) hb.size
  exact ⟨v', w', h1, ⟨litPs t, r1, litPs_row G w' t (l := .nil) (xs := []) rfl⟩, hb.grown r2 hb.size (fun j hj => by simp [Value.ownBlock] at hj)⟩
set_option maxRecDepth 100000 in
set_option maxHeartbeats 4000000 in
theorem uassign_none (l : Pts) (h : l.asg = none) (A : Option Addr) (c : Nat) (G : Nat → Prop) (w : World) (hG : ∀ j, G j → j < w.heap.size) (hp : PtsAt G w A 0 l) (hwt : l.wt ≤ 1073741823) :
    Calls Tryz.prog 176 #[.agg #[.slice A l.len c]] w fun e w' => e = .returned (.tuple #[.string ⟨#[]⟩, .agg #[.slice none 0 0], .bool false]) ∧ Below w.heap.size w w' := by
  have hlw := Pts.len_wt l
  generalize hW : (w.alloc (.cells #[.slice A l.len c] 31)).alloc (.cells #[.slice none 0 0] 31) = W
  have hbW : Below w.heap.size w W := by rw [← hW]; exact ((Below.refl _ _).alloc (Nat.le_refl _) _).alloc (by simp) _
  have q0 : W.cell? ⟨w.heap.size, 0, none⟩ = some (.slice A l.len c) := by rw [← hW]; simp
  have q1 : W.heap[w.heap.size + 1]? = some (.cells #[.slice none 0 0] 31 (0, 0)) := by
    rw [← hW]
    have := heap_alloc (w.alloc (.cells #[.slice A l.len c] 31)) (.cells #[.slice none 0 0] 31)
    simpa using this
  have hsW : W.heap.size = w.heap.size + 2 := by rw [← hW]; simp
  have HP := Lib.hid (hp.old hG hbW)
  have HBW := Lib.hid hbW; have HQ1 := Lib.hid q1; have HSW := Lib.hid hsW
  have HBF := Lib.hid (show Below w.heap.size w (W.setCell ⟨w.heap.size + 1, 0, none⟩ (.slice none 0 0)) from hbW.setCell (by show w.heap.size ≤ w.heap.size + 1; omega) _)
  have hh9 := q1
  clear hp hG hbW q1 hsW
  cases l with
  | nil =>
    rw [show Pts.len .nil = 0 from rfl] at *
    go_enter Tryz.func176, Tryz.ntmps176
    have q9 : W.cell? ⟨w.heap.size + 1, 0, none⟩ = some (.slice none 0 0) := by simp [World.cell?, hh9]
    have f9 : W.frozen? ⟨w.heap.size + 1, 0, none⟩ = false := by simp [World.frozen?, hh9]
    have hres : (W.setCell ⟨w.heap.size + 1, 0, none⟩ (.slice none 0 0)).cell? ⟨w.heap.size + 1, 0, none⟩ = some (.slice none 0 0) := by simp [World.cell?, World.setCell, Array.getElem?_modify, hh9]
    clear hh9
    go_wp2_with fail
    refine bodyPost_ret (v := .tuple #[.string ⟨#[]⟩, .agg #[.slice none 0 0], .bool false]) (by simp [results, Tryz.results176, go_sem, hres]) rfl ?_
    exact ⟨rfl, HBF.out⟩
  | cons k t o kids cm rest =>
    obtain ⟨b, off, Ak, ck, rfl, hGb, c0, c1, _, _, _, _, _, hrest⟩ := HP.out
    simp only [Nat.zero_mul, Nat.add_zero] at c0 c1
    rw [show (Pts.cons k t o kids cm rest).len = rest.len + 1 from rfl] at *
    rw [Pts.wt] at hwt
    have hl0 : ¬ ((rest.len : Int) + 1 = 0) := by omega
    have hl1 : (0 : Int) < (rest.len : Int) + 1 := by omega
    by_cases hk : k = 1
    · have hk1 : (k == 1) = true := by rw [hk]; rfl
      subst hk
      have hn : Chr.assign t.toList = -1 := by
        rcases Chr.assign_range t.toList with h1 | ⟨q, h1, _⟩
        · exact h1
        · have h : (if (1 : Int) = 1 ∧ 0 ≤ Chr.assign t.toList then some (t.extract 0 (Chr.assign t.toList).toNat, uRest t (Chr.assign t.toList).toNat rest) else none) = none := h
          rw [if_pos ⟨rfl, by omega⟩] at h
          cases h
      have HN := Lib.hid hn
      clear hn h hh9 hrest
      go_enter Tryz.func176, Tryz.ntmps176
      go_wp2_with fail
      refine (assign_p t _ (by omega)).mono ?_
      rintro e w2 ⟨he, hb2⟩
      rw [HN.out] at he
      subst he
      have hh9 := (hb2.block (w.heap.size + 1) (by have := HSW.out; omega)).trans HQ1.out
      have hbF : Below w.heap.size w (w2.setCell ⟨w.heap.size + 1, 0, none⟩ (.slice none 0 0)) := (HBW.out.trans (hb2.mono HBW.out.size)).setCell (by show w.heap.size ≤ w.heap.size + 1; omega) _
      have q9 : w2.cell? ⟨w.heap.size + 1, 0, none⟩ = some (.slice none 0 0) := by simp [World.cell?, hh9]
      have f9 : w2.frozen? ⟨w.heap.size + 1, 0, none⟩ = false := by simp [World.frozen?, hh9]
      have hres : (w2.setCell ⟨w.heap.size + 1, 0, none⟩ (.slice none 0 0)).cell? ⟨w.heap.size + 1, 0, none⟩ = some (.slice none 0 0) := by simp [World.cell?, World.setCell, Array.getElem?_modify, hh9]
      clear hh9
      go_wp2_with fail
      refine bodyPost_ret (v := .tuple #[.string ⟨#[]⟩, .agg #[.slice none 0 0], .bool false]) (by simp [results, Tryz.results176, go_sem, hres]) rfl ?_
      exact ⟨rfl, hbF⟩
    · have hk1 : (k != 1) = true := by simpa using hk
      clear h hrest
      go_enter Tryz.func176, Tryz.ntmps176
      have q9 : W.cell? ⟨w.heap.size + 1, 0, none⟩ = some (.slice none 0 0) := by simp [World.cell?, hh9]
      have f9 : W.frozen? ⟨w.heap.size + 1, 0, none⟩ = false := by simp [World.frozen?, hh9]
      have hres : (W.setCell ⟨w.heap.size + 1, 0, none⟩ (.slice none 0 0)).cell? ⟨w.heap.size + 1, 0, none⟩ = some (.slice none 0 0) := by simp [World.cell?, World.setCell, Array.getElem?_modify, hh9]
      clear hh9
      go_wp2_with fail
      refine bodyPost_ret (v := .tuple #[.string ⟨#[]⟩, .agg #[.slice none 0 0], .bool false]) (by simp [results, Tryz.results176, go_sem, hres]) rfl ?_
      exact ⟨rfl, HBF.out⟩
set_option maxRecDepth 100000 in
set_option maxHeartbeats 4000000 in
theorem rassign_none (l : Pts) (h : l.asg = none) (A : Option Addr) (c : Nat) (G : Nat → Prop) (w : World) (hG : ∀ j, G j → j < w.heap.size) (hp : PtsAt G w A 0 l) (hwt : l.wt ≤ 1073741823) :
    Calls Tryz.prog 147 #[.agg #[.slice A l.len c]] w fun e w' => e = .returned (.tuple #[.string ⟨#[]⟩, .agg #[.slice none 0 0], .bool false]) ∧ Below w.heap.size w w' := by
  have hlw := Pts.len_wt l
  generalize hW : (w.alloc (.cells #[.slice A l.len c] 31)).alloc (.cells #[.slice none 0 0] 31) = W
  have hbW : Below w.heap.size w W := by rw [← hW]; exact ((Below.refl _ _).alloc (Nat.le_refl _) _).alloc (by simp) _
  have q0 : W.cell? ⟨w.heap.size, 0, none⟩ = some (.slice A l.len c) := by rw [← hW]; simp
  have q1 : W.heap[w.heap.size + 1]? = some (.cells #[.slice none 0 0] 31 (0, 0)) := by
    rw [← hW]
    have := heap_alloc (w.alloc (.cells #[.slice A l.len c] 31)) (.cells #[.slice none 0 0] 31)
    simpa using this
  have hsW : W.heap.size = w.heap.size + 2 := by rw [← hW]; simp
  have HP := Lib.hid (hp.old hG hbW)
  have HBW := Lib.hid hbW; have HQ1 := Lib.hid q1; have HSW := Lib.hid hsW
  have HBF := Lib.hid (show Below w.heap.size w (W.setCell ⟨w.heap.size + 1, 0, none⟩ (.slice none 0 0)) from hbW.setCell (by show w.heap.size ≤ w.heap.size + 1; omega) _)
  have hh9 := q1
  clear hp hG hbW q1 hsW
  cases l with
  | nil =>
    rw [show Pts.len .nil = 0 from rfl] at *
    go_enter Tryz.func147, Tryz.ntmps147
    have q9 : W.cell? ⟨w.heap.size + 1, 0, none⟩ = some (.slice none 0 0) := by simp [World.cell?, hh9]
    have f9 : W.frozen? ⟨w.heap.size + 1, 0, none⟩ = false := by simp [World.frozen?, hh9]
    have hres : (W.setCell ⟨w.heap.size + 1, 0, none⟩ (.slice none 0 0)).cell? ⟨w.heap.size + 1, 0, none⟩ = some (.slice none 0 0) := by simp [World.cell?, World.setCell, Array.getElem?_modify, hh9]
    clear hh9
    go_wp2_with fail
    refine bodyPost_ret (v := .tuple #[.string ⟨#[]⟩, .agg #[.slice none 0 0], .bool false]) (by simp [results, Tryz.results147, go_sem, hres]) rfl ?_
    exact ⟨rfl, HBF.out⟩
  | cons k t o kids cm rest =>
    obtain ⟨b, off, Ak, ck, rfl, hGb, c0, c1, _, _, _, _, _, hrest⟩ := HP.out
    simp only [Nat.zero_mul, Nat.add_zero] at c0 c1
    rw [show (Pts.cons k t o kids cm rest).len = rest.len + 1 from rfl] at *
    rw [Pts.wt] at hwt
    have hl0 : ¬ ((rest.len : Int) + 1 = 0) := by omega
    have hl1 : (0 : Int) < (rest.len : Int) + 1 := by omega
    by_cases hk : k = 1
    · have hk1 : (k == 1) = true := by rw [hk]; rfl
      subst hk
      have hn : Chr.assign t.toList = -1 := by
        rcases Chr.assign_range t.toList with h1 | ⟨q, h1, _⟩
        · exact h1
        · have h : (if (1 : Int) = 1 ∧ 0 ≤ Chr.assign t.toList then some (t.extract 0 (Chr.assign t.toList).toNat, uRest t (Chr.assign t.toList).toNat rest) else none) = none := h
          rw [if_pos ⟨rfl, by omega⟩] at h
          cases h
      have HN := Lib.hid hn
      clear hn h hh9 hrest
      go_enter Tryz.func147, Tryz.ntmps147
      go_wp2_with fail
      refine (assign_r t _ (by omega)).mono ?_
      rintro e w2 ⟨he, rfl⟩
      rw [HN.out] at he
      subst he
      have hh9 := HQ1.out
      have hbF : Below w.heap.size w (W.setCell ⟨w.heap.size + 1, 0, none⟩ (.slice none 0 0)) := HBW.out.setCell (by show w.heap.size ≤ w.heap.size + 1; omega) _
      have q9 : W.cell? ⟨w.heap.size + 1, 0, none⟩ = some (.slice none 0 0) := by simp [World.cell?, hh9]
      have f9 : W.frozen? ⟨w.heap.size + 1, 0, none⟩ = false := by simp [World.frozen?, hh9]
      have hres : (W.setCell ⟨w.heap.size + 1, 0, none⟩ (.slice none 0 0)).cell? ⟨w.heap.size + 1, 0, none⟩ = some (.slice none 0 0) := by simp [World.cell?, World.setCell, Array.getElem?_modify, hh9]
      clear hh9
      go_wp2_with fail
      refine bodyPost_ret (v := .tuple #[.string ⟨#[]⟩, .agg #[.slice none 0 0], .bool false]) (by simp [results, Tryz.results147, go_sem, hres]) rfl ?_
      exact ⟨rfl, hbF⟩
    · have hk1 : (k != 1) = true := by simpa using hk
      clear h hrest
      go_enter Tryz.func147, Tryz.ntmps147
      have q9 : W.cell? ⟨w.heap.size + 1, 0, none⟩ = some (.slice none 0 0) := by simp [World.cell?, hh9]
      have f9 : W.frozen? ⟨w.heap.size + 1, 0, none⟩ = false := by simp [World.frozen?, hh9]
      have hres : (W.setCell ⟨w.heap.size + 1, 0, none⟩ (.slice none 0 0)).cell? ⟨w.heap.size + 1, 0, none⟩ = some (.slice none 0 0) := by simp [World.cell?, World.setCell, Array.getElem?_modify, hh9]
      clear hh9
      go_wp2_with fail
      refine bodyPost_ret (v := .tuple #[.string ⟨#[]⟩, .agg #[.slice none 0 0], .bool false]) (by simp [results, Tryz.results147, go_sem, hres]) rfl ?_
      exact ⟨rfl, HBF.out⟩
set_option maxRecDepth 100000 in
set_option maxHeartbeats 8000000 in
theorem rassign_some (t o : ByteArray) (kids rest : Pts) (cm : Cm) (k : Nat) (hk : Chr.assign t.toList = (k : Int)) (hkt : k < t.size) (A : Option Addr) (c : Nat) (G : Nat → Prop) (w : World) (hG : ∀ j, G j → j < w.heap.size) (hp : PtsAt G w A 0 (.cons 1 t o kids cm rest)) (hc : rest.len + 1 ≤ c) (hwt : rest.len ≤ 1073741823) (hts : t.size ≤ 1099511627776) (hcm : c ≤ maxLen) :
    Calls Tryz.prog 147 #[.agg #[.slice A (rest.len + 1) c]] w fun e w' => ∃ v, e = .returned (.tuple #[.string (t.extract 0 k), .agg #[v], .bool true]) ∧ Prow G w.heap.size w' v (uRest t k rest) ∧ Below w.heap.size w w' := by
  obtain ⟨b, off, Ak, ck, rfl, hGb, c0, c1, _, _, _, _, _, hrest⟩ := hp
  simp only [Nat.zero_mul, Nat.add_zero] at c0 c1
  have hrs := hrest.shift
  generalize hW : (w.alloc (.cells #[.slice (some ⟨b, off, none⟩) (rest.len + 1) c] 31)).alloc (.cells #[.slice none 0 0] 31) = W
  have hbW : Below w.heap.size w W := by rw [← hW]; exact ((Below.refl _ _).alloc (Nat.le_refl _) _).alloc (by simp) _
  have q0 : W.cell? ⟨w.heap.size, 0, none⟩ = some (.slice (some ⟨b, off, none⟩) (rest.len + 1) c) := by rw [← hW]; simp
  have q1 : W.heap[w.heap.size + 1]? = some (.cells #[.slice none 0 0] 31 (0, 0)) := by
    rw [← hW]
    have := heap_alloc (w.alloc (.cells #[.slice (some ⟨b, off, none⟩) (rest.len + 1) c] 31)) (.cells #[.slice none 0 0] 31)
    simpa using this
  have hsW : W.heap.size = w.heap.size + 2 := by rw [← hW]; simp
  have hbw : b < w.heap.size := hG b hGb
  have z0 := (World.cell?_of_block (hbW.block b hbw)).trans c0
  have z1 := (World.cell?_of_block (hbW.block b hbw)).trans c1
  have HRS := Lib.hid hrs; have HBW := Lib.hid hbW; have HQ1 := Lib.hid q1; have HSW := Lib.hid hsW; have HG := Lib.hid hG
  have HK := Lib.hid hk
  clear hrs hbW q1 hrest hsW hG hk c0 c1
  have hl0 : ¬ ((rest.len : Int) + 1 = 0) := by omega
  have hl1 : (0 : Int) < (rest.len : Int) + 1 := by omega
  go_enter Tryz.func147, Tryz.ntmps147
  go_wp2_with fail
  refine (assign_r t _ (by omega)).mono ?_
  rintro e w2 ⟨he, rfl⟩
  rw [HK.out] at he
  subst he
  have hk0 : (0 : Int) ≤ (k : Int) := by omega
  have hki : (k : Int) ≤ (t.size : Int) := by omega
  have hk1 : (k : Int) + 1 ≤ (t.size : Int) := by omega
  have htsi : (t.size : Int) ≤ 1099511627776 := by omega
  have hwk : IntKind.i64.wrap ((k : Int) + 1) = (k : Int) + 1 := by rw [IntKind.wrap_i64]; omega
  have hci : (1 : Int) ≤ (c : Int) := by omega
  have hcmi : (c : Int) ≤ 9223372036854775807 := by unfold maxLen at hcm; omega
  have hto : ((k : Int) + 1).toNat = k + 1 := by omega
  have hGW : ∀ j, G j → j < W.heap.size := fun j hj => by have := HG.out j hj; have := HSW.out; omega
  have HGW := Lib.hid hGW
  clear hW z0 z1 hGW
  by_cases hc1 : c = 1
  · subst hc1
    by_cases hlt : k + 1 < t.size
    · have hlti : (k : Int) + 1 < (t.size : Int) := by omega
      have HU := Lib.hid (show uRest t k rest = Pts.lit (t.extract (k + 1) t.size) rest from if_pos hlt)
      obtain ⟨v8, w8, hrun8, hP8, hb8⟩ := lit_alone (G := G) (t.extract (k + 1) t.size) W
      have g8 := hP8
      have hb8d : Below W.heap.size W w8.drew := hb8.drew
      obtain ⟨v9, w9, hrun9, hP, g9, _⟩ := (hP8.keep (w' := w8.drew) (fun _ _ => rfl) (fun _ _ => rfl)).append (l2 := rest) (A := (some ⟨b, off, none⟩)) (c := 0) (G2 := G) 29 (by rw [show rest = .nil from Pts.nil_of_len (by omega)]; trivial) (fun _ h => h) HGW.out (by show 1 + rest.len ≤ _; omega) hb8d.size (by omega)
      rw [show (Pts.lit (t.extract (k + 1) t.size) .nil).app rest = Pts.lit (t.extract (k + 1) t.size) rest from rfl] at hP
      have hb9 : Below W.heap.size W w9 := hb8d.grown g9 hb8d.size (fun j hj => (hP8.lt hj).1)
      have d0 := (World.cell?_of_block (hb8.block w.heap.size (by have := HSW.out; omega))).trans q0
      obtain ⟨A8, c8, rfl, _, _, _⟩ := hP8.at_
      rw [show (Pts.lit (t.extract (k + 1) t.size) .nil).len = 1 from rfl] at hrun9 hrun8
      have hr9 := WrA.of hrun9
      have hr8 := hrun8
      unfold litPs at hr8
      clear hrun8 hrun9 hP8 g8 g9 hb8 hb8d
      rw [show rest.len = 0 by omega] at hr9
      have hh9 := (hb9.block (w.heap.size + 1) (by have := HSW.out; omega)).trans HQ1.out
      have q9 : w9.cell? ⟨w.heap.size + 1, 0, none⟩ = some (.slice none 0 0) := by simp [World.cell?, hh9]
      have f9 : w9.frozen? ⟨w.heap.size + 1, 0, none⟩ = false := by simp [World.frozen?, hh9]
      obtain ⟨A9, c9, rfl, hl9, hm9, _⟩ := hP.at_
      have hbF : Below w.heap.size w (w9.setCell ⟨w.heap.size + 1, 0, none⟩ (.slice A9 (Pts.lit (t.extract (k + 1) t.size) rest).len c9)) := (HBW.out.trans (hb9.mono HBW.out.size)).setCell (by show w.heap.size ≤ w.heap.size + 1; omega) _
      have hPF : Prow G w.heap.size (w9.setCell ⟨w.heap.size + 1, 0, none⟩ (.slice A9 (Pts.lit (t.extract (k + 1) t.size) rest).len c9)) (.slice A9 (Pts.lit (t.extract (k + 1) t.size) rest).len c9) (Pts.lit (t.extract (k + 1) t.size) rest) := by
        have hP0 : Prow G w.heap.size w9 (.slice A9 (Pts.lit (t.extract (k + 1) t.size) rest).len c9) (Pts.lit (t.extract (k + 1) t.size) rest) := by
          obtain ⟨xs, ⟨h1, h2⟩, h3⟩ := hP
          refine ⟨xs, ⟨h1, ?_⟩, h3⟩
          rcases h2 with h2 | ⟨g, cap, cur, e, hBg, hr⟩
          · exact .inl h2
          · exact .inr ⟨g, cap, cur, e, by have := HSW.out; omega, hr⟩
        refine hP0.keep (fun p hp => World.cell?_of_block (Below.heap_setCell _ _ _ _ ?_)) fun g hg => Below.heap_setCell _ _ _ _ ?_
        · have := HG.out _ hp
          show p.block ≠ w.heap.size + 1
          omega
        · have := (hP.lt hg).1
          have := HSW.out
          show g ≠ w.heap.size + 1
          omega
      have hres : (w9.setCell ⟨w.heap.size + 1, 0, none⟩ (.slice A9 (Pts.lit (t.extract (k + 1) t.size) rest).len c9)).cell? ⟨w.heap.size + 1, 0, none⟩ = some (.slice A9 (Pts.lit (t.extract (k + 1) t.size) rest).len c9) := by simp [World.cell?, World.setCell, Array.getElem?_modify, hh9]
      have HPF := Lib.hid hPF; have HBF := Lib.hid hbF
      clear hPF hbF hP hb9 hh9
      go_wp2_with fail
      go_region
      go_wp2_with fail
      refine bodyPost_ret (v := .tuple #[.string (t.extract 0 k), .agg #[.slice A9 (Pts.lit (t.extract (k + 1) t.size) rest).len c9], .bool true]) (by simp [results, Tryz.results147, go_sem, hres]) rfl ?_
      exact ⟨_, rfl, by rw [HU.out]; exact HPF.out, HBF.out⟩
    · have hlti : ¬ (k : Int) + 1 < (t.size : Int) := by omega
      have HU := Lib.hid (show uRest t k rest = rest from if_neg hlt)
      obtain ⟨v9, w9, hrun9, hP, g9, _⟩ := (Prow.nothing (G := G) (B := W.heap.size) (w := W.drew)).append (l2 := rest) (A := (some ⟨b, off, none⟩)) (c := 0) (G2 := G) 29 (by rw [show rest = .nil from Pts.nil_of_len (by omega)]; trivial) (fun _ h => h) HGW.out (by show 0 + rest.len ≤ _; omega) (by simp) (by omega)
      rw [show Pts.nil.app rest = rest from rfl] at hP
      have hb9 : Below W.heap.size W w9 := (Below.refl W.heap.size W).drew.grown g9 (by simp) (fun j hj => by simp [Value.ownBlock] at hj)
      have hr9 := WrA.of hrun9
      clear hrun9 g9
      rw [show rest.len = 0 by omega] at hr9
      have hh9 := (hb9.block (w.heap.size + 1) (by have := HSW.out; omega)).trans HQ1.out
      have q9 : w9.cell? ⟨w.heap.size + 1, 0, none⟩ = some (.slice none 0 0) := by simp [World.cell?, hh9]
      have f9 : w9.frozen? ⟨w.heap.size + 1, 0, none⟩ = false := by simp [World.frozen?, hh9]
      obtain ⟨A9, c9, rfl, hl9, hm9, _⟩ := hP.at_
      have hbF : Below w.heap.size w (w9.setCell ⟨w.heap.size + 1, 0, none⟩ (.slice A9 (rest).len c9)) := (HBW.out.trans (hb9.mono HBW.out.size)).setCell (by show w.heap.size ≤ w.heap.size + 1; omega) _
      have hPF : Prow G w.heap.size (w9.setCell ⟨w.heap.size + 1, 0, none⟩ (.slice A9 (rest).len c9)) (.slice A9 (rest).len c9) (rest) := by
        have hP0 : Prow G w.heap.size w9 (.slice A9 (rest).len c9) (rest) := by
          obtain ⟨xs, ⟨h1, h2⟩, h3⟩ := hP
          refine ⟨xs, ⟨h1, ?_⟩, h3⟩
          rcases h2 with h2 | ⟨g, cap, cur, e, hBg, hr⟩
          · exact .inl h2
          · exact .inr ⟨g, cap, cur, e, by have := HSW.out; omega, hr⟩
        refine hP0.keep (fun p hp => World.cell?_of_block (Below.heap_setCell _ _ _ _ ?_)) fun g hg => Below.heap_setCell _ _ _ _ ?_
        · have := HG.out _ hp
          show p.block ≠ w.heap.size + 1
          omega
        · have := (hP.lt hg).1
          have := HSW.out
          show g ≠ w.heap.size + 1
          omega
      have hres : (w9.setCell ⟨w.heap.size + 1, 0, none⟩ (.slice A9 (rest).len c9)).cell? ⟨w.heap.size + 1, 0, none⟩ = some (.slice A9 (rest).len c9) := by simp [World.cell?, World.setCell, Array.getElem?_modify, hh9]
      have HPF := Lib.hid hPF; have HBF := Lib.hid hbF
      clear hPF hbF hP hb9 hh9
      go_wp2_with fail
      go_region
      go_wp2_with fail
      refine bodyPost_ret (v := .tuple #[.string (t.extract 0 k), .agg #[.slice A9 (rest).len c9], .bool true]) (by simp [results, Tryz.results147, go_sem, hres]) rfl ?_
      exact ⟨_, rfl, by rw [HU.out]; exact HPF.out, HBF.out⟩
  · have hcn : c - 1 ≠ 0 := by omega
    by_cases hlt : k + 1 < t.size
    · have hlti : (k : Int) + 1 < (t.size : Int) := by omega
      have HU := Lib.hid (show uRest t k rest = Pts.lit (t.extract (k + 1) t.size) rest from if_pos hlt)
      obtain ⟨v8, w8, hrun8, hP8, hb8⟩ := lit_alone (G := G) (t.extract (k + 1) t.size) W
      have g8 := hP8
      have hb8d : Below W.heap.size W w8.drew := hb8.drew
      obtain ⟨v9, w9, hrun9, hP, g9, _⟩ := (hP8.keep (w' := w8.drew) (fun _ _ => rfl) (fun _ _ => rfl)).append (l2 := rest) (A := (some ⟨b, off + 5, none⟩)) (c := (c - 1)) (G2 := G) 29 (HRS.out.old HG.out (HBW.out.trans ((hb8.drew).mono HBW.out.size))) (fun _ h => h) HGW.out (by show 1 + rest.len ≤ _; omega) hb8d.size (by omega)
      rw [show (Pts.lit (t.extract (k + 1) t.size) .nil).app rest = Pts.lit (t.extract (k + 1) t.size) rest from rfl] at hP
      have hb9 : Below W.heap.size W w9 := hb8d.grown g9 hb8d.size (fun j hj => (hP8.lt hj).1)
      have d0 := (World.cell?_of_block (hb8.block w.heap.size (by have := HSW.out; omega))).trans q0
      obtain ⟨A8, c8, rfl, _, _, _⟩ := hP8.at_
      rw [show (Pts.lit (t.extract (k + 1) t.size) .nil).len = 1 from rfl] at hrun9 hrun8
      have hr9 := WrA.of hrun9
      have hr8 := hrun8
      unfold litPs at hr8
      clear hrun8 hrun9 hP8 g8 g9 hb8 hb8d
      have hh9 := (hb9.block (w.heap.size + 1) (by have := HSW.out; omega)).trans HQ1.out
      have q9 : w9.cell? ⟨w.heap.size + 1, 0, none⟩ = some (.slice none 0 0) := by simp [World.cell?, hh9]
      have f9 : w9.frozen? ⟨w.heap.size + 1, 0, none⟩ = false := by simp [World.frozen?, hh9]
      obtain ⟨A9, c9, rfl, hl9, hm9, _⟩ := hP.at_
      have hbF : Below w.heap.size w (w9.setCell ⟨w.heap.size + 1, 0, none⟩ (.slice A9 (Pts.lit (t.extract (k + 1) t.size) rest).len c9)) := (HBW.out.trans (hb9.mono HBW.out.size)).setCell (by show w.heap.size ≤ w.heap.size + 1; omega) _
      have hPF : Prow G w.heap.size (w9.setCell ⟨w.heap.size + 1, 0, none⟩ (.slice A9 (Pts.lit (t.extract (k + 1) t.size) rest).len c9)) (.slice A9 (Pts.lit (t.extract (k + 1) t.size) rest).len c9) (Pts.lit (t.extract (k + 1) t.size) rest) := by
        have hP0 : Prow G w.heap.size w9 (.slice A9 (Pts.lit (t.extract (k + 1) t.size) rest).len c9) (Pts.lit (t.extract (k + 1) t.size) rest) := by
          obtain ⟨xs, ⟨h1, h2⟩, h3⟩ := hP
          refine ⟨xs, ⟨h1, ?_⟩, h3⟩
          rcases h2 with h2 | ⟨g, cap, cur, e, hBg, hr⟩
          · exact .inl h2
          · exact .inr ⟨g, cap, cur, e, by have := HSW.out; omega, hr⟩
        refine hP0.keep (fun p hp => World.cell?_of_block (Below.heap_setCell _ _ _ _ ?_)) fun g hg => Below.heap_setCell _ _ _ _ ?_
        · have := HG.out _ hp
          show p.block ≠ w.heap.size + 1
          omega
        · have := (hP.lt hg).1
          have := HSW.out
          show g ≠ w.heap.size + 1
          omega
      have hres : (w9.setCell ⟨w.heap.size + 1, 0, none⟩ (.slice A9 (Pts.lit (t.extract (k + 1) t.size) rest).len c9)).cell? ⟨w.heap.size + 1, 0, none⟩ = some (.slice A9 (Pts.lit (t.extract (k + 1) t.size) rest).len c9) := by simp [World.cell?, World.setCell, Array.getElem?_modify, hh9]
      have HPF := Lib.hid hPF; have HBF := Lib.hid hbF
      clear hPF hbF hP hb9 hh9
      go_wp2_with fail
      go_region
      go_wp2_with fail
      refine bodyPost_ret (v := .tuple #[.string (t.extract 0 k), .agg #[.slice A9 (Pts.lit (t.extract (k + 1) t.size) rest).len c9], .bool true]) (by simp [results, Tryz.results147, go_sem, hres]) rfl ?_
      exact ⟨_, rfl, by rw [HU.out]; exact HPF.out, HBF.out⟩
    · have hlti : ¬ (k : Int) + 1 < (t.size : Int) := by omega
      have HU := Lib.hid (show uRest t k rest = rest from if_neg hlt)
      obtain ⟨v9, w9, hrun9, hP, g9, _⟩ := (Prow.nothing (G := G) (B := W.heap.size) (w := W.drew)).append (l2 := rest) (A := (some ⟨b, off + 5, none⟩)) (c := (c - 1)) (G2 := G) 29 (HRS.out.old HG.out HBW.out.drew) (fun _ h => h) HGW.out (by show 0 + rest.len ≤ _; omega) (by simp) (by omega)
      rw [show Pts.nil.app rest = rest from rfl] at hP
      have hb9 : Below W.heap.size W w9 := (Below.refl W.heap.size W).drew.grown g9 (by simp) (fun j hj => by simp [Value.ownBlock] at hj)
      have hr9 := WrA.of hrun9
      clear hrun9 g9
      have hh9 := (hb9.block (w.heap.size + 1) (by have := HSW.out; omega)).trans HQ1.out
      have q9 : w9.cell? ⟨w.heap.size + 1, 0, none⟩ = some (.slice none 0 0) := by simp [World.cell?, hh9]
      have f9 : w9.frozen? ⟨w.heap.size + 1, 0, none⟩ = false := by simp [World.frozen?, hh9]
      obtain ⟨A9, c9, rfl, hl9, hm9, _⟩ := hP.at_
      have hbF : Below w.heap.size w (w9.setCell ⟨w.heap.size + 1, 0, none⟩ (.slice A9 (rest).len c9)) := (HBW.out.trans (hb9.mono HBW.out.size)).setCell (by show w.heap.size ≤ w.heap.size + 1; omega) _
      have hPF : Prow G w.heap.size (w9.setCell ⟨w.heap.size + 1, 0, none⟩ (.slice A9 (rest).len c9)) (.slice A9 (rest).len c9) (rest) := by
        have hP0 : Prow G w.heap.size w9 (.slice A9 (rest).len c9) (rest) := by
          obtain ⟨xs, ⟨h1, h2⟩, h3⟩ := hP
          refine ⟨xs, ⟨h1, ?_⟩, h3⟩
          rcases h2 with h2 | ⟨g, cap, cur, e, hBg, hr⟩
          · exact .inl h2
          · exact .inr ⟨g, cap, cur, e, by have := HSW.out; omega, hr⟩
        refine hP0.keep (fun p hp => World.cell?_of_block (Below.heap_setCell _ _ _ _ ?_)) fun g hg => Below.heap_setCell _ _ _ _ ?_
        · have := HG.out _ hp
          show p.block ≠ w.heap.size + 1
          omega
        · have := (hP.lt hg).1
          have := HSW.out
          show g ≠ w.heap.size + 1
          omega
      have hres : (w9.setCell ⟨w.heap.size + 1, 0, none⟩ (.slice A9 (rest).len c9)).cell? ⟨w.heap.size + 1, 0, none⟩ = some (.slice A9 (rest).len c9) := by simp [World.cell?, World.setCell, Array.getElem?_modify, hh9]
      have HPF := Lib.hid hPF; have HBF := Lib.hid hbF
      clear hPF hbF hP hb9 hh9
      go_wp2_with fail
      go_region
      go_wp2_with fail
      refine bodyPost_ret (v := .tuple #[.string (t.extract 0 k), .agg #[.slice A9 (rest).len c9], .bool true]) (by simp [results, Tryz.results147, go_sem, hres]) rfl ?_
      exact ⟨_, rfl, by rw [HU.out]; exact HPF.out, HBF.out⟩
theorem uassign_any (l : Pts) (A : Option Addr) (c : Nat) (G : Nat → Prop) (w : World) (hG : ∀ j, G j → j < w.heap.size) (hp : PtsAt G w A 0 l) (hc : l.len ≤ c) (hwt : l.wt ≤ 1073741823) (hcm : c ≤ maxLen) :
    Calls Tryz.prog 176 #[.agg #[.slice A l.len c]] w fun e w' => ∃ v, e = .returned (.tuple #[.string l.asgN, .agg #[v], .bool l.asg.isSome]) ∧ Prow G w.heap.size w' v l.asgR ∧ Below w.heap.size w w' := by
  cases h : l.asg with
  | none =>
    refine (uassign_none l h A c G w hG hp hwt).mono ?_
    rintro e w' ⟨he, hb⟩
    refine ⟨.slice none 0 0, ?_, ?_, hb⟩
    · rw [he]; unfold Pts.asgN; rw [h]; rfl
    · unfold Pts.asgR; rw [h]; exact Prow.nothing
  | some q =>
    obtain ⟨k, t, o, kids, cm, rest, rfl⟩ : ∃ k t o kids cm rest, l = .cons k t o kids cm rest := by
      cases l with
      | nil => cases h
      | cons k t o kids cm rest => exact ⟨_, _, _, _, _, _, rfl⟩
    have h0 := h
    have hq : (if k = 1 ∧ 0 ≤ Chr.assign t.toList then some (t.extract 0 (Chr.assign t.toList).toNat, uRest t (Chr.assign t.toList).toNat rest) else none) = some q := h
    by_cases hk : k = 1 ∧ 0 ≤ Chr.assign t.toList
    · rw [if_pos hk] at hq
      obtain ⟨rfl, hk2⟩ := hk
      rcases Chr.assign_range t.toList with h1 | ⟨m, h1, h2⟩
      · omega
      · have hlw := Pts.len_wt rest
        rw [Pts.wt] at hwt
        rw [h1, Int.toNat_natCast] at hq
        rw [← size_list] at h2
        refine (uassign_some t o kids rest cm m h1 h2 A c G w hG hp hc (by omega) (by omega) hcm).mono ?_
        rintro e w' ⟨v, he, hP, hb⟩
        refine ⟨v, ?_, ?_, hb⟩
        · rw [he]; unfold Pts.asgN; rw [h0, ← hq]; rfl
        · unfold Pts.asgR; rw [h0, ← hq]; exact hP
    · rw [if_neg hk] at hq; cases hq
theorem rassign_any (l : Pts) (A : Option Addr) (c : Nat) (G : Nat → Prop) (w : World) (hG : ∀ j, G j → j < w.heap.size) (hp : PtsAt G w A 0 l) (hc : l.len ≤ c) (hwt : l.wt ≤ 1073741823) (hcm : c ≤ maxLen) :
    Calls Tryz.prog 147 #[.agg #[.slice A l.len c]] w fun e w' => ∃ v, e = .returned (.tuple #[.string l.asgN, .agg #[v], .bool l.asg.isSome]) ∧ Prow G w.heap.size w' v l.asgR ∧ Below w.heap.size w w' := by
  cases h : l.asg with
  | none =>
    refine (rassign_none l h A c G w hG hp hwt).mono ?_
    rintro e w' ⟨he, hb⟩
    refine ⟨.slice none 0 0, ?_, ?_, hb⟩
    · rw [he]; unfold Pts.asgN; rw [h]; rfl
    · unfold Pts.asgR; rw [h]; exact Prow.nothing
  | some q =>
    obtain ⟨k, t, o, kids, cm, rest, rfl⟩ : ∃ k t o kids cm rest, l = .cons k t o kids cm rest := by
      cases l with
      | nil => cases h
      | cons k t o kids cm rest => exact ⟨_, _, _, _, _, _, rfl⟩
    have h0 := h
    have hq : (if k = 1 ∧ 0 ≤ Chr.assign t.toList then some (t.extract 0 (Chr.assign t.toList).toNat, uRest t (Chr.assign t.toList).toNat rest) else none) = some q := h
    by_cases hk : k = 1 ∧ 0 ≤ Chr.assign t.toList
    · rw [if_pos hk] at hq
      obtain ⟨rfl, hk2⟩ := hk
      rcases Chr.assign_range t.toList with h1 | ⟨m, h1, h2⟩
      · omega
      · have hlw := Pts.len_wt rest
        rw [Pts.wt] at hwt
        rw [h1, Int.toNat_natCast] at hq
        rw [← size_list] at h2
        refine (rassign_some t o kids rest cm m h1 h2 A c G w hG hp hc (by omega) (by omega) hcm).mono ?_
        rintro e w' ⟨v, he, hP, hb⟩
        refine ⟨v, ?_, ?_, hb⟩
        · rw [he]; unfold Pts.asgN; rw [h0, ← hq]; rfl
        · unfold Pts.asgR; rw [h0, ← hq]; exact hP
    · rw [if_neg hk] at hq; cases hq
end Go.Proofs.YtjpopekmbmcggaaGreatDoor
