/- conchlaw24.PartTells, walked: true, whatever the word (of bounded bulk). -/
import Derived.Test.YtjpopekmbmcggaaAwake24
import Derived.Test.YtjpopekmbmcggaaRefBare
import Derived.Test.YtjpopekmbmcggaaRefCmds
import Derived.Test.YtjpopekmbmcggaaRefRight
import Derived.Test.YtjpopekmbmcggaaMuch
import Derived.Deep.DeepCutAuto
namespace Go.Proofs.Ytjpopekmbmcggaa
open Go.RowKit

theorem run_field_word (a : Option Addr) (n c : Nat) (X : World) : (Instr.field 24 (.agg #[.slice a n c]) 0).run Try.prog X = .ok (.slice a n c) X := by rfl

/-- A row of commands' slices, looked at. -/
theorem Crow.look {B : Nat} {w : World} {v : Value} {l : List Cm} (h : Crow B w v l) : ∃ A c, v = .slice A l.length c ∧ l.length ≤ c ∧ c ≤ maxLen ∧ ∀ k (hk : k < l.length), ∃ g, A = some ⟨g, 0, none⟩ ∧ w.cell? ⟨g, k, none⟩ = some (l[k]).val := by
  obtain ⟨A, c, rfl, h1, h2⟩ := h.shape
  refine ⟨A, c, rfl, h1, h2, fun k hk => ?_⟩
  rcases h.2 with ⟨hv, h0⟩ | ⟨g, cap, cur, hv, _⟩
  · omega
  · obtain rfl : A = some ⟨g, 0, none⟩ := by injection hv
    refine ⟨g, rfl, ?_⟩
    have := h.cells k (l[k]).val (by simp [hk])
    rwa [show (⟨g, 0, none⟩ : Addr).add k = ⟨g, k, none⟩ by rw [add_at, Nat.zero_add]] at this

set_option maxRecDepth 100000 in
set_option maxHeartbeats 8000000 in
theorem partTells_walk (l : Pts) (A : Option Addr) (c : Nat) (w : World) (hp : PtsAt (Old w) w A 0 l) (hwt : l.wt ≤ 2097152) :
    Calls Try.prog 3 #[.agg #[.slice A l.len c]] w fun e w' => e = .returned (.bool true) ∧ Below w.heap.size w w' := by
  have hb : Below w.heap.size w (w.alloc (.cells #[.slice A l.len c] 24)) := (Below.refl _ _).alloc (Nat.le_refl _) _
  have q0 := word_cell (heap_alloc_new w (.cells #[.slice A l.len c] 24))
  have hsz : (w.alloc (.cells #[.slice A l.len c] 24)).heap.size = w.heap.size + 1 := by simp
  have HP := Lib.hid (hp.old (fun _ h => h) hb)
  have hm := Pts.much_le l
  generalize hW : w.alloc (.cells #[.slice A l.len c] 24) = W at *
  go_enter Try.func3, Try.ntmps3
  go_wp2_with fail
  refine (much_p l _ A c W (by omega) HP.out).mono ?_
  rintro e w2 ⟨rfl, m, rfl⟩
  have hb2 := belowN hb m
  have hq2 : (W.drewN m).cell? ⟨w.heap.size, 0, none⟩ = some (.slice A l.len c) := by simpa using q0
  have hs2 : (W.drewN m).heap.size = w.heap.size + 1 := by simpa using hsz
  clear hb q0 hsz hW HP
  revert hb2 hq2 hs2
  generalize W.drewN m = W2
  intro hb2 hq2 hs2
  by_cases h1 : l.much ≤ 300
  · have HS2 := Lib.hid hs2
    have hS : ∀ X, Below W2.heap.size W2 X → X.cell? ⟨w.heap.size, 0, none⟩ = some (.slice A l.len c) := fun X hX => (World.cell?_of_block (hX.block w.heap.size (by rw [HS2.out]; omega))).trans hq2
    have hP : ∀ X, Below W2.heap.size W2 X → PtsAt (Old w) X A 0 l ∧ (∀ k, Old w k → k < X.heap.size) ∧ Below w.heap.size w X := fun X hX => by
      have hbX : Below w.heap.size w X := hb2.trans (hX.mono hb2.size)
      exact ⟨hp.old (fun _ h => h) hbX, fun k hk => Nat.lt_of_lt_of_le hk hbX.size, hbX⟩
    have HS := Lib.hid hS; have HPX := Lib.hid hP; have HB2 := Lib.hid hb2
    have FP := Lib.hid (show ∀ X, Below W2.heap.size W2 X → Calls Try.prog 7 #[.agg #[.slice A l.len c]] X fun e w' => ∃ v, e = .returned v ∧ Crow w.heap.size w' v l.cmds ∧ Below W2.heap.size W2 w' ∧ Below X.heap.size X w' from fun X hX =>
      (cmds_p l A c _ X (by omega) (hP X hX).2.1 (hP X hX).1).mono fun e w' ⟨v, he, hr, hb⟩ => ⟨v, he, ⟨hr.1, by rcases hr.2 with h0 | ⟨g, cap, cur, e1, e2, e3⟩; exact .inl h0; exact .inr ⟨g, cap, cur, e1, Nat.le_trans (hP X hX).2.2.size e2, e3⟩⟩, hX.trans (hb.mono hX.size), hb⟩)
    have FQ := Lib.hid (show ∀ X, Below W2.heap.size W2 X → Calls Try.prog 8 #[.slice A l.len c] X fun e w' => ∃ v, e = .returned v ∧ Crow w.heap.size w' v l.cmds ∧ Below W2.heap.size W2 w' ∧ Below X.heap.size X w' from fun X hX =>
      (cmds_r l A c _ X (by omega) (hP X hX).2.1 (hP X hX).1).mono fun e w' ⟨v, he, hr, hb⟩ => ⟨v, he, ⟨hr.1, by rcases hr.2 with h0 | ⟨g, cap, cur, e1, e2, e3⟩; exact .inl h0; exact .inr ⟨g, cap, cur, e1, Nat.le_trans (hP X hX).2.2.size e2, e3⟩⟩, hX.trans (hb.mono hX.size), hb⟩)
    clear hS hP hb2 hs2
    go_wp2_with fail
    have R0 := Lib.hid (show Below W2.heap.size W2 W2.drew from (Below.refl _ _).drew)
    go_cut [3, 4] (fun v3 v4 wx => Below W2.heap.size W2 wx ∧ Crow w.heap.size wx v3 l.cmds ∧ Crow w.heap.size wx v4 l.cmds)
    case first =>
      go_region_held3 (fun X => X.cell? ⟨w.heap.size, 0, none⟩ = some (.slice A l.len c))
        (exact HS.out _ (by first | exact bP | exact bQ | exact R0.out))
        (first
          | (go_at_call 7
             refine Calls.mono (FP.out _ (by first | exact bQ | exact R0.out)) ?_
             rintro e wP ⟨vP, rfl, rP, bP, bP'⟩
             dsimp only)
          | (go_at_call 8
             refine Calls.mono (FQ.out _ (by first | exact bP | exact R0.out)) ?_
             rintro e wQ ⟨vQ, rfl, rQ, bQ, bQ'⟩
             dsimp only))
      all_goals
        go_wp2_with fail
        go_meet
        first
          | exact ⟨bQ, rP.below bQ', rQ⟩
          | exact ⟨bP, rP, rQ.below bP'⟩
    case rest =>
      obtain ⟨bc, r3, r4⟩ := hcut
      have hcn := Pts.cmds_count l
      have hcw := Pts.count_wt l
      obtain ⟨A3, c3, rfl, hl3, hm3, k3⟩ := r3.look
      obtain ⟨A4, c4, rfl, hl4, hm4, k4⟩ := r4.look
      have BC := Lib.hid bc
      have hcc := HS.out wc bc
      clear r3 r4 bc
      go_wp2_with fail
      go_loopw [5] (fun i wr => ∃ (k q : Nat), k ≤ l.cmds.length ∧ i = .int .i64 k ∧ wr = wc.drewN q) (fun i _ => l.cmds.length - (intOf i).toNat)
      case atStart => exact ⟨0, 0, by omega, rfl, rfl⟩
      case round =>
        obtain ⟨k, q, hk, rfl, rfl⟩ := hrel
        by_cases hlt : k < l.cmds.length
        · obtain ⟨g3, rfl, z3⟩ := k3 k hlt
          obtain ⟨g4, rfl, z4⟩ := k4 k hlt
          unfold Cm.val at z3 z4
          go_wp2_with fail
          go_quiet (fail)
          go_wp2_with fail
          go_roundw
          case rel => exact ⟨k + 1, _, by omega, by go_num, rfl⟩
          case measure => simp only [intOf]; omega
        · go_wp2_with fail
          have bY := belowN BC.out q
          have hcY : (wc.drewN q).cell? ⟨w.heap.size, 0, none⟩ = some (.slice A l.len c) := by simpa using hcc
          clear k3 k4 hcc BC
          revert bY hcY
          generalize wc.drewN q = Y
          intro bY hcY
          have hY : ∀ X, Below Y.heap.size Y X → Below W2.heap.size W2 X := fun X hX => bY.trans (hX.mono bY.size)
          have GR := Lib.hid (show ∀ X, Below Y.heap.size Y X → Calls Try.prog 9 #[.agg #[.slice A l.len c]] X fun e w' => e = .returned (.bool l.right) ∧ Below Y.heap.size Y w' from fun X hX =>
            (right_p l A c _ X (by omega) (HPX.out X (hY X hX)).2.1 (HPX.out X (hY X hX)).1).mono fun e w' ⟨he, hb⟩ => ⟨he, hX.trans (hb.mono hX.size)⟩)
          have GC := Lib.hid (show ∀ X, Below Y.heap.size Y X → Calls Try.prog 11 #[.agg #[.slice A l.len c]] X fun e w' => e = .returned (.int .i64 (l.count : Nat)) ∧ Below Y.heap.size Y w' from fun X hX =>
            (count_p l A c _ X (by omega) (HPX.out X (hY X hX)).2.1 (HPX.out X (hY X hX)).1).mono fun e w' ⟨he, hb⟩ => ⟨he, hX.trans (hb.mono hX.size)⟩)
          have GD := Lib.hid (show ∀ X, Below Y.heap.size Y X → Calls Try.prog 13 #[.agg #[.slice A l.len c]] X fun e w' => e = .returned (.int .i64 (l.deep : Nat)) ∧ Below Y.heap.size Y w' from fun X hX =>
            (deep_p l A c _ X (by omega) (HPX.out X (hY X hX)).2.1 (HPX.out X (hY X hX)).1).mono fun e w' ⟨he, hb⟩ => ⟨he, hX.trans (hb.mono hX.size)⟩)
          have GB := Lib.hid (show ∀ X, Below Y.heap.size Y X → Calls Try.prog 16 #[.agg #[.slice A l.len c]] X fun e w' => ∃ A' c', e = .returned (.agg #[.slice A' l.bare.len c']) ∧ PtsAt (Old w') w' A' 0 l.bare ∧ Below Y.heap.size Y w' from fun X hX =>
            (bareW_p l A c _ X (by omega) (HPX.out X (hY X hX)).2.1 (HPX.out X (hY X hX)).1).mono fun e w' ⟨A', c', he, _, hp', hb⟩ => ⟨A', c', he, hp'.more fun k hk => hk.2, hX.trans (hb.mono hX.size)⟩)
          have Gb := Lib.hid (show ∀ X A1, Below Y.heap.size Y X → PtsAt (Old X) X A1 0 l.bare → Calls Try.prog 17 #[.slice A l.len c] X fun e w' => ∃ A' c', e = .returned (.slice A' l.bare.len c') ∧ PtsAt (Old w') w' A' 0 l.bare ∧ PtsAt (Old w') w' A1 0 l.bare ∧ Below Y.heap.size Y w' from fun X A1 hX h1 =>
            (bare_r l A c _ X (by omega) (HPX.out X (hY X hX)).2.1 (HPX.out X (hY X hX)).1).mono fun e w' ⟨A', c', he, _, hp', hb⟩ => ⟨A', c', he, hp'.more fun k hk => hk.2, (h1.old (fun _ h => h) hb).more fun k hk => Nat.lt_of_lt_of_le hk hb.size, hX.trans (hb.mono hX.size)⟩)
          have GS := Lib.hid (show ∀ X A1 c1 A2 c2, Below Y.heap.size Y X → PtsAt (Old X) X A1 0 l.bare → PtsAt (Old X) X A2 0 l.bare → Calls Try.prog 15 #[.slice A1 l.bare.len c1, .slice A2 l.bare.len c2] X fun e w' => e = .returned (.bool true) ∧ Below Y.heap.size Y w' from fun X A1 c1 A2 c2 hX h1 h2 =>
            (same_r l.bare l.bare A1 A2 c1 c2 _ _ X (Nat.le_trans (Pts.wt_bare l) (by omega)) rfl h1 h2).mono fun e w' ⟨he, m, hm⟩ => ⟨he, by rw [hm]; exact belowN hX m⟩)
          have GA := Lib.hid (show ∀ X, Below Y.heap.size Y X → Calls Try.prog 6 #[] X fun e w' => e = .returned (.bool true) ∧ Below Y.heap.size Y w' from fun X hX =>
            (awake24 X).mono fun e w' ⟨he, hb⟩ => ⟨he, hX.trans (hb.mono hX.size)⟩)
          have Gc := Lib.hid (show ∀ X, Below Y.heap.size Y X → Calls Try.prog 12 #[.slice A l.len c] X fun e w' => e = .returned (.int .i64 (l.count : Nat)) ∧ X = w' from fun X hX => count_r (l.deep + 1) l _ A c X (by omega) (by omega) (HPX.out X (hY X hX)).1)
          have Gd := Lib.hid (show ∀ X, Below Y.heap.size Y X → Calls Try.prog 14 #[.slice A l.len c] X fun e w' => e = .returned (.int .i64 (l.deep : Nat)) ∧ X = w' from fun X hX => deep_r (l.deep + 1) l _ A c X (by omega) (by omega) (HPX.out X (hY X hX)).1)
          have SY := Lib.hid (show ∀ X, Below Y.heap.size Y X → X.cell? ⟨w.heap.size, 0, none⟩ = some (.slice A l.len c) from fun X hX => HS.out X (hY X hX))
          have R1 := Lib.hid (show Below Y.heap.size Y Y.drew from (Below.refl _ _).drew)
          have BY := Lib.hid (HB2.out.trans (bY.mono HB2.out.size))
          have Gr' := Lib.hid (show ∀ X, Below Y.heap.size Y X → Calls Try.prog 10 #[.agg #[.slice A l.len c]] X fun e w' => e = .returned (.bool l.right) ∧ Below Y.heap.size Y w' from fun X hX =>
            (right_r l A c _ X (by omega) (HPX.out X (hY X hX)).2.1 (HPX.out X (hY X hX)).1).mono fun e w' ⟨he, hb⟩ => ⟨he, hX.trans (hb.mono hX.size)⟩)
          clear bY hY HS HPX FP FQ
          have HFW := run_field_word
          go_region_held3 (fun X => X.cell? ⟨w.heap.size, 0, none⟩ = some (.slice A l.len c))
            (exact SY.out _ (by first | exact bA | exact bS | exact bb | exact bB | exact bD | exact bC | exact br | exact bR | exact R1.out))
            (first
              | (go_at_call 9
                 refine Calls.mono (GR.out _ R1.out) ?_
                 rintro e y1 ⟨rfl, bR⟩
                 dsimp only)
              | (go_at_call 10
                 refine Calls.mono (Gr'.out _ bR) ?_
                 rintro e y2 ⟨rfl, br⟩
                 dsimp only)
              | (go_at_call 11
                 refine Calls.mono (GC.out _ br) ?_
                 rintro e y3 ⟨rfl, bC⟩
                 dsimp only)
              | (go_at_call 12
                 refine Calls.mono (Gc.out _ bC) ?_
                 rintro e y4 ⟨rfl, rfl⟩
                 dsimp only)
              | (go_at_call 13
                 refine Calls.mono (GD.out _ bC) ?_
                 rintro e y5 ⟨rfl, bD⟩
                 dsimp only)
              | (go_at_call 14
                 refine Calls.mono (Gd.out _ bD) ?_
                 rintro e y6 ⟨rfl, rfl⟩
                 dsimp only)
              | (go_at_call 16
                 refine Calls.mono (GB.out _ bD) ?_
                 rintro e y7 ⟨A7, c7, rfl, p7, bB⟩
                 have P7 := Lib.hid p7
                 clear p7
                 dsimp only)
              | (go_at_call 17
                 refine Calls.mono (Gb.out _ A7 bB P7.out) ?_
                 rintro e y8 ⟨A8, c8, rfl, p8, p9, bb⟩
                 have P8 := Lib.hid p8
                 have P9 := Lib.hid p9
                 clear p8 p9
                 dsimp only)
              | (go_at_call 15
                 refine Calls.mono (GS.out _ A7 c7 A8 c8 bb P9.out P8.out) ?_
                 rintro e y9 ⟨rfl, bS⟩
                 dsimp only)
              | (go_at_call 6
                 refine Calls.mono (GA.out _ bS) ?_
                 rintro e y10 ⟨rfl, bA⟩
                 dsimp only))
          go_wp2
          go_ret
          exact ⟨rfl, BY.out.trans (bA.mono BY.out.size)⟩
  · go_wp2_with fail
    refine (awake24 _).mono ?_
    rintro e w3 ⟨rfl, hb3⟩
    go_wp2_with fail
    go_ret
    exact ⟨rfl, hb2.trans (hb3.mono hb2.size)⟩
end Go.Proofs.Ytjpopekmbmcggaa
