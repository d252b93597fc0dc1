/- conchlaw27.UnquoteTells, walked: true, whatever the word (of bounded bulk). -/
import Derived.Test.YtpefkhbejjndeaaUqPlain
import Derived.Test.YtpefkhbejjndeaaUqRefs
import Derived.Test.YtpefkhbejjndeaaUqRNames
import Derived.Test.YtpefkhbejjndeaaUqAsg
import Derived.Test.YtpefkhbejjndeaaMuch
import Derived.Deep.RegionHeld3
import Derived.Deep.DeepCutAuto
namespace Go.Proofs.Ytpefkhbejjndeaa
open Go.RowKit

set_option maxRecDepth 100000 in
theorem run_field_word (a : Option Addr) (n c : Nat) (X : World) : (Instr.field 33 (.agg #[.slice a n c]) 0).run Try.prog X = .ok (.slice a n c) X := by rfl
theorem Pts.asgR_wt (l : Pts) : l.asgR.wt ≤ l.wt := by
  unfold Pts.asgR
  cases l with
  | nil => exact Nat.le_refl _
  | cons k t o kids cm rest =>
    show (((if k = 1 ∧ 0 ≤ Chr.assign t.toList then some (t.extract 0 (Chr.assign t.toList).toNat, uRest t (Chr.assign t.toList).toNat rest) else none : Option (ByteArray × Pts)).map (·.2)).getD Pts.nil).wt ≤ _
    by_cases h : k = 1 ∧ 0 ≤ Chr.assign t.toList
    · rw [if_pos h]
      show (uRest t (Chr.assign t.toList).toNat rest).wt ≤ _
      unfold uRest
      split
      · rw [Pts.wt]
        show 1 + (t.extract _ _).size + 0 + 0 + 0 + rest.wt ≤ _
        have : (t.extract ((Chr.assign t.toList).toNat + 1) t.size).size ≤ t.size := by rw [ByteArray.size_extract]; omega
        omega
      · rw [Pts.wt]; omega
    · rw [if_neg h]
      show (0 : Nat) ≤ _
      omega

set_option maxRecDepth 100000 in
set_option maxHeartbeats 8000000 in
theorem unquoteTells_walk (l : Pts) (A : Option Addr) (c : Nat) (w : World) (hp : PtsAt (Old w) w A 0 l) (hc : l.len ≤ c) (hcm : c ≤ maxLen) (hwt : l.wt ≤ 2097152) :
    Calls Try.prog 8 #[.agg #[.slice A l.len c]] w fun e w' => e = .returned (.bool true) ∧ Below w.heap.size w w' := by
  have hm := Pts.much_le l
  have hlw := Pts.len_wt l
  have hrw := Pts.asgR_wt l
  have hnw := Pts.nms_wt l
  go_enter Try.func8, Try.ntmps8
  go_wp2_with fail
  generalize hW : World.alloc _ _ = W
  have hbW : Below w.heap.size w W := by rw [← hW]; exact (Below.refl _ _).alloc (Nat.le_refl _) _
  have hsz : W.heap.size = w.heap.size + 1 := by rw [← hW]; simp
  have q0 : W.cell? ⟨w.heap.size, 0, none⟩ = some (.slice A l.len c) := by rw [← hW]; simp
  have hpW := hp.old (fun _ h => h) hbW
  clear hW
  refine (much_p l _ A c W (by omega) hpW).mono ?_
  rintro e w2 ⟨rfl, m, rfl⟩
  have hb2 := belowN hbW m
  have q2 : (W.drewN m).cell? ⟨w.heap.size, 0, none⟩ = some (.slice A l.len c) := by simpa using q0
  have hs2 : (W.drewN m).heap.size = w.heap.size + 1 := by simpa using hsz
  clear hbW hsz q0 hpW
  revert hb2 q2 hs2
  generalize W.drewN m = W2
  intro hb2 q2 hs2
  have HP := Lib.hid hp
  clear hp
  by_cases h1 : l.much ≤ 300
  · have hs3 : w.heap.size + 1 ≤ W2.heap.size := by omega
    have HBW := Lib.hid hb2
    have HPW := Lib.hid (HP.out.old (fun _ h => h) hb2)
    clear hb2 hs2
    go_wp2_with fail
    refine (utext_p l A c (Old w) W2 (by omega) (fun k (hk : k < w.heap.size) => by omega) HPW.out).mono ?_
    rintro e w4 ⟨rfl, hb4⟩
    have hbw4 := HBW.out.trans (hb4.mono HBW.out.size)
    have d4 := (World.cell?_of_block (hb4.block w.heap.size (by omega))).trans q2
    have hs4 : w.heap.size + 1 ≤ w4.heap.size := by have := hb4.size; omega
    have HPW4 := Lib.hid (HP.out.old (fun _ h => h) hbw4)
    have HBW4 := Lib.hid hbw4
    clear hb4 q2 hs3 HBW HPW hbw4
    unfold bs
    go_wp2_with fail
    refine (rtext_r l A c (Old w) w4 (by omega) (fun k (hk : k < w.heap.size) => by omega) HPW4.out).mono ?_
    rintro e w5 ⟨rfl, hb5⟩
    have hbw5 := HBW4.out.trans (hb5.mono HBW4.out.size)
    have d5 := (World.cell?_of_block (hb5.block w.heap.size (by omega))).trans d4
    have hs5 : w.heap.size + 1 ≤ w5.heap.size := by have := hb5.size; omega
    have HPW5 := Lib.hid (HP.out.old (fun _ h => h) hbw5)
    have HBW5 := Lib.hid hbw5
    clear hb5 d4 hs4 HBW4 HPW4 hbw5
    unfold bs
    go_wp2_with fail
    refine (uplain_p l A c (Old w) w5 (by omega) (fun k (hk : k < w.heap.size) => by omega) HPW5.out).mono ?_
    rintro e w6 ⟨rfl, hb6⟩
    have hbw6 := HBW5.out.trans (hb6.mono HBW5.out.size)
    have d6 := (World.cell?_of_block (hb6.block w.heap.size (by omega))).trans d5
    have hs6 : w.heap.size + 1 ≤ w6.heap.size := by have := hb6.size; omega
    have HPW6 := Lib.hid (HP.out.old (fun _ h => h) hbw6)
    have HBW6 := Lib.hid hbw6
    clear hb6 d5 hs5 HBW5 HPW5 hbw6
    unfold bs
    go_wp2_with fail
    refine (rplain_r l A c (Old w) w6 (by omega) (fun k (hk : k < w.heap.size) => by omega) HPW6.out).mono ?_
    rintro e w7 ⟨rfl, hb7⟩
    have hbw7 := HBW6.out.trans (hb7.mono HBW6.out.size)
    have d7 := (World.cell?_of_block (hb7.block w.heap.size (by omega))).trans d6
    have hs7 : w.heap.size + 1 ≤ w7.heap.size := by have := hb7.size; omega
    have HPW7 := Lib.hid (HP.out.old (fun _ h => h) hbw7)
    have HBW7 := Lib.hid hbw7
    clear hb7 d6 hs6 HBW6 HPW6 hbw7
    unfold bs
    go_wp2_with fail
    refine (uassign_any l A c (Old w) w7 (fun k (hk : k < w.heap.size) => by omega) HPW7.out hc (by omega) hcm).mono ?_
    rintro e w8 ⟨v, rfl, hP, hb8⟩
    obtain ⟨A6, c6, rfl, hl6, hm6, hat6⟩ := hP.at_
    have hG6 : ∀ j, (Old w j ∨ (Value.slice A6 l.asgR.len c6).ownBlock = some j) → j < w8.heap.size := fun j hj => by
      rcases hj with hj | hj
      · have : j < w.heap.size := hj
        have := hb8.size
        omega
      · exact (hP.lt hj).2
    have HPA := Lib.hid hat6; have HGA := Lib.hid hG6
    have hbw8 := HBW7.out.trans (hb8.mono HBW7.out.size)
    have d8 := (World.cell?_of_block (hb8.block w.heap.size (by omega))).trans d7
    have hs8 : w.heap.size + 1 ≤ w8.heap.size := by have := hb8.size; omega
    have HBW8 := Lib.hid hbw8
    clear hb8 d7 hs7 HBW7 HPW7 hbw8 hP hat6 hG6 hl6 hm6
    have hX9 : Below w8.heap.size w8 (w8.alloc (.cells #[.slice A6 l.asgR.len c6] 33)) := (Below.refl _ _).alloc (Nat.le_refl _) _
    have e9 : (w8.alloc (.cells #[.slice A6 l.asgR.len c6] 33)).cell? ⟨w8.heap.size, 0, none⟩ = some (.slice A6 l.asgR.len c6) := by simp
    have d9 := (World.cell?_of_block (hX9.block w.heap.size (by omega))).trans d8
    have hsX : (w8.alloc (.cells #[.slice A6 l.asgR.len c6] 33)).heap.size = w8.heap.size + 1 := by simp
    have HPA9 := Lib.hid (HPA.out.old HGA.out hX9)
    have HBW9 := Lib.hid (HBW8.out.trans (hX9.mono HBW8.out.size))
    have HPW9 := Lib.hid (HP.out.old (fun _ h => h) HBW9.out)
    have HGA9 := Lib.hid (show ∀ j, (Old w j ∨ (Value.slice A6 l.asgR.len c6).ownBlock = some j) → j < (w8.alloc (.cells #[.slice A6 l.asgR.len c6] 33)).heap.size from fun j hj => Nat.lt_of_lt_of_le (HGA.out j hj) hX9.size)
    clear hX9 HBW8 HPA HGA
    go_wp2_with fail
    refine (rassign_any l A c (Old w) _ (fun k (hk : k < w.heap.size) => by have := hsX; omega) HPW9.out hc (by omega) hcm).mono ?_
    rintro e w10 ⟨v, rfl, hP, hb10⟩
    obtain ⟨A7, c7, rfl, hl7, hm7, hat7⟩ := hP.at_
    have hG7 : ∀ j, (Old w j ∨ (Value.slice A7 l.asgR.len c7).ownBlock = some j) → j < w10.heap.size := fun j hj => by
      rcases hj with hj | hj
      · have : j < w.heap.size := hj
        have := hb10.size
        have := hsX
        omega
      · exact (hP.lt hj).2
    have hbw10 := HBW9.out.trans (hb10.mono HBW9.out.size)
    have d10 := (World.cell?_of_block (hb10.block w.heap.size (by have := hsX; omega))).trans d9
    have e10 := (World.cell?_of_block (hb10.block w8.heap.size (by have := hsX; omega))).trans e9
    have hs10 : w8.heap.size + 1 ≤ w10.heap.size := by have := hb10.size; have := hsX; omega
    have hpa10 := HPA9.out.old HGA9.out hb10
    generalize l.asgN = nn at *
    have hX11 : Below w10.heap.size w10 (w10.alloc (.cells #[.slice A7 l.asgR.len c7] 33)) := (Below.refl _ _).alloc (Nat.le_refl _) _
    have f11 : (w10.alloc (.cells #[.slice A7 l.asgR.len c7] 33)).cell? ⟨w10.heap.size, 0, none⟩ = some (.slice A7 l.asgR.len c7) := by simp
    have d11 := (World.cell?_of_block (hX11.block w.heap.size (by omega))).trans d10
    have e11 := (World.cell?_of_block (hX11.block w8.heap.size (by omega))).trans e10
    have hsY : (w10.alloc (.cells #[.slice A7 l.asgR.len c7] 33)).heap.size = w10.heap.size + 1 := by simp
    have hpa11 := hpa10.old (fun j hj => Nat.lt_of_lt_of_le (HGA9.out j hj) hb10.size) hX11
    have hpb11 := hat7.old hG7 hX11
    have hbw11 := hbw10.trans (hX11.mono hbw10.size)
    have HGA11 := Lib.hid (show ∀ j, (Old w j ∨ (Value.slice A6 l.asgR.len c6).ownBlock = some j) → j < (w10.alloc (.cells #[.slice A7 l.asgR.len c7] 33)).heap.size from fun j hj => Nat.lt_of_lt_of_le (Nat.lt_of_lt_of_le (HGA9.out j hj) hb10.size) hX11.size)
    have HGB11 := Lib.hid (show ∀ j, (Old w j ∨ (Value.slice A7 l.asgR.len c7).ownBlock = some j) → j < (w10.alloc (.cells #[.slice A7 l.asgR.len c7] 33)).heap.size from fun j hj => Nat.lt_of_lt_of_le (hG7 j hj) hX11.size)
    have HPA := Lib.hid hpa11; have HPB := Lib.hid hpb11; have HBY := Lib.hid hbw11
    have HS := Lib.hid (show ∀ X, Below (w10.alloc (.cells #[.slice A7 l.asgR.len c7] 33)).heap.size (w10.alloc (.cells #[.slice A7 l.asgR.len c7] 33)) X → X.cell? ⟨w.heap.size, 0, none⟩ = some (.slice A l.len c) ∧ X.cell? ⟨w8.heap.size, 0, none⟩ = some (.slice A6 l.asgR.len c6) ∧ X.cell? ⟨w10.heap.size, 0, none⟩ = some (.slice A7 l.asgR.len c7) from fun X hX =>
      ⟨(World.cell?_of_block (hX.block w.heap.size (by omega))).trans d11, (World.cell?_of_block (hX.block w8.heap.size (by omega))).trans e11, (World.cell?_of_block (hX.block w10.heap.size (by omega))).trans f11⟩)
    have HSZ := Lib.hid (show w.heap.size ≤ (w10.alloc (.cells #[.slice A7 l.asgR.len c7] 33)).heap.size from hbw11.size)
    clear hP hat7 hG7 hb10 hbw10 d9 d10 e9 e10 hpa10 hX11 d11 e11 f11 hpa11 hpb11 hbw11 HPA9 HGA9 HBW9 HPW9 hl7 hm7 d8
    go_wp2_with fail
    clear hsX hs8 hs10 h1 hsY
    revert HGA11 HGB11 HPA HPB HBY HS HSZ
    generalize w10.alloc (.cells #[.slice A7 l.asgR.len c7] 33) = Y
    intro HGA11 HGB11 HPA HPB HBY HS HSZ
    have hP : ∀ X, Below Y.heap.size Y X → PtsAt (Old w) X A 0 l ∧ (∀ k, Old w k → k < X.heap.size) := fun X hX => by
      have hbX : Below w.heap.size w X := HBY.out.trans (hX.mono HBY.out.size)
      exact ⟨HP.out.old (fun _ h => h) hbX, fun k hk => Nat.lt_of_lt_of_le hk hbX.size⟩
    have GS := Lib.hid (show ∀ X, Below Y.heap.size Y X → Calls Try.prog 32 #[.slice A6 l.asgR.len c6, .slice A7 l.asgR.len c7] X fun e w' => e = .returned (.bool true) ∧ Below Y.heap.size Y w' from fun X hX =>
      (same_r l.asgR l.asgR A6 A7 c6 c7 _ _ X (by omega) rfl (HPA.out.old HGA11.out hX) (HPB.out.old HGB11.out hX)).mono fun e w' ⟨he, m, hm⟩ => ⟨he, by rw [hm]; exact belowN hX m⟩)
    have GQ := Lib.hid (show ∀ X, Below Y.heap.size Y X → Calls Try.prog 38 #[.agg #[.slice A l.len c]] X fun e w' => e = .returned (.bool l.quoted) ∧ Below Y.heap.size Y w' from fun X hX =>
      (quoted_p l A c _ X (by omega) (hP X hX).2 (hP X hX).1).mono fun e w' ⟨he, hb⟩ => ⟨he, hX.trans (hb.mono hX.size)⟩)
    have Gq := Lib.hid (show ∀ X, Below Y.heap.size Y X → Calls Try.prog 39 #[.agg #[.slice A l.len c]] X fun e w' => e = .returned (.bool l.quoted) ∧ Below Y.heap.size Y w' from fun X hX =>
      (rquoted_r l A c _ X (by omega) (hP X hX).2 (hP X hX).1).mono fun e w' ⟨he, hb⟩ => ⟨he, hX.trans (hb.mono hX.size)⟩)
    have GN := Lib.hid (show ∀ X, Below Y.heap.size Y X → Calls Try.prog 41 #[.agg #[.slice A l.len c]] X fun e w' => ∃ v, e = .returned v ∧ Srow Y.heap.size w' v l.nms ∧ Below Y.heap.size Y w' from fun X hX =>
      (names_p l A c _ X (by omega) (hP X hX).2 (hP X hX).1).mono fun e w' ⟨v, he, hr, _, hb⟩ => ⟨v, he, Srow.lower hr hX.size, hX.trans (hb.mono hX.size)⟩)
    have Gn := Lib.hid (show ∀ X v0, Below Y.heap.size Y X → Srow Y.heap.size X v0 l.nms → Calls Try.prog 42 #[.agg #[.slice A l.len c]] X fun e w' => ∃ v, e = .returned v ∧ Srow Y.heap.size w' v0 l.nms ∧ Srow Y.heap.size w' v l.nms ∧ Below Y.heap.size Y w' from fun X v0 hX h0 =>
      (rnames_r l A c _ X (by omega) (hP X hX).2 (hP X hX).1).mono fun e w' ⟨v, he, hr, hb⟩ => ⟨v, he, h0.keep hb, hr.lower hX.size, hX.trans (hb.mono hX.size)⟩)
    have G4 := Lib.hid (show ∀ X v1 v2, Below Y.heap.size Y X → Srow Y.heap.size X v1 l.nms → Srow Y.heap.size X v2 l.nms → Calls Try.prog 40 #[v1, v2] X fun e w' => e = .returned (.bool true) ∧ Below Y.heap.size Y w' from fun X v1 v2 hX h1 h2 => by
      obtain ⟨A1, c1, rfl, _, _, k1⟩ := h1.look
      obtain ⟨A2, c2, rfl, _, _, k2⟩ := h2.look
      exact (same04_r l.nms A1 A2 c1 c2 X (by omega) k1 k2).mono fun e w' ⟨he, m, hm⟩ => ⟨he, by rw [hm]; exact belowN hX m⟩)
    have GA := Lib.hid (show ∀ X, Below Y.heap.size Y X → Calls Try.prog 30 #[] X fun e w' => e = .returned (.bool true) ∧ Below Y.heap.size Y w' from fun X hX =>
      (awake27 X).mono fun e w' ⟨he, hb⟩ => ⟨he, hX.trans (hb.mono hX.size)⟩)
    have R1 := Lib.hid (show Below Y.heap.size Y Y.drew from (Below.refl _ _).drew)
    have HFW := run_field_word
    clear hP HGA11 HGB11 HPA HPB HSZ
    generalize (l.utx.getD []).toArray = s1
    generalize l.utx.isSome = o1
    generalize (l.plt.getD []).toArray = s2
    generalize l.plt.isSome = o2
    generalize l.asg.isSome = o3
    go_region_held3 (fun X => X.cell? ⟨w.heap.size, 0, none⟩ = some (.slice A l.len c) ∧ X.cell? ⟨w8.heap.size, 0, none⟩ = some (.slice A6 l.asgR.len c6) ∧ X.cell? ⟨w10.heap.size, 0, none⟩ = some (.slice A7 l.asgR.len c7))
      (exact HS.out _ (by first | exact bA | exact b4 | exact bn | exact bN | exact bq | exact bQ | exact bS | exact R1.out))
      (first
        | (go_at_call 32
           refine Calls.mono (GS.out _ R1.out) ?_
           rintro e y1 ⟨rfl, bS⟩
           dsimp only)
        | (go_at_call 38
           refine Calls.mono (GQ.out _ bS) ?_
           rintro e y2 ⟨rfl, bQ⟩
           dsimp only)
        | (go_at_call 39
           refine Calls.mono (Gq.out _ bQ) ?_
           rintro e y3 ⟨rfl, bq⟩
           dsimp only)
        | (go_at_call 41
           refine Calls.mono (GN.out _ bq) ?_
           rintro e y4 ⟨vN, rfl, rN, bN⟩
           have RN := Lib.hid rN
           clear rN
           dsimp only)
        | (go_at_call 42
           refine Calls.mono (Gn.out _ vN bN RN.out) ?_
           rintro e y5 ⟨vn, rfl, rN, rn, bn⟩
           have RM := Lib.hid rN
           have Rn := Lib.hid rn
           clear rN rn
           dsimp only)
        | (go_at_call 40
           refine Calls.mono (G4.out _ vN vn bn RM.out Rn.out) ?_
           rintro e y6 ⟨rfl, b4⟩
           dsimp only)
        | (go_at_call 30
           refine Calls.mono (GA.out _ b4) ?_
           rintro e y7 ⟨rfl, bA⟩
           dsimp only))
    go_wp2
    go_ret
    exact ⟨rfl, HBY.out.trans (bA.mono HBY.out.size)⟩
  · go_wp2_with fail
    refine (awake27 _).mono ?_
    rintro e w3 ⟨rfl, hb3⟩
    go_wp2_with fail
    go_ret
    exact ⟨rfl, hb2.trans (hb3.mono hb2.size)⟩
end Go.Proofs.Ytpefkhbejjndeaa
