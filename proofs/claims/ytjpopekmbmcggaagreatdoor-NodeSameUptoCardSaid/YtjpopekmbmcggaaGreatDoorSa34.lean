/- What is proved: of any two commands, whether they are the same is what the document answers, and one is itself (arguments of bulk at most 1048576; the tables begin as the program's text lays them, which the card ties). -/
import Derived.Test.YtjpopekmbmcggaaGreatDoorSa25
import Derived.Test.YtjpopekmbmcggaaGreatDoorSa26
import Derived.Test.YtjpopekmbmcggaaGreatDoorSa33
import Derived.Test.YtjpopekmbmcggaaGreatDoorSa32
import Derived.Test.YtjpopekmbmcggaaGreatDoorSa08
import Derived.Test.YtjpopekmbmcggaaGreatDoorCards
import Derived.Test.YtjpopekmbmcggaaGreatDoorTie
import Derived.ProofKit
import Derived.OpenShut
import Derived.Deep.DeepHandedRow
import Derived.Lib.LaidTab
import Derived.SevenTiedAt
import Derived.ShutString
import Derived.ChangeOld
import Derived.Below
import Derived.Carry
import Derived.JoinedCond
import Derived.WalkKit
namespace Go.Proofs.YtjpopekmbmcggaaGreatDoor
open Go.RowKit
set_option maxRecDepth 100000 in
set_option maxHeartbeats 16000000 in
theorem nodeSame_walk (f : Nat) (w : World) (va vb : List Value) (a b : Nd (f + 1)) (ht : RsvAt w) (ha : NdV (f + 1) (Old w) w va a) (hbn : NdV (f + 1) (Old w) w vb b) (ba : Nd.wt (f + 1) a ≤ 268435456) (bb : Nd.wt (f + 1) b ≤ 268435456) :
    Calls Tryz.prog 4 #[ag va, ag vb] w fun e w' => e = .returned (.bool true) ∧ Below w.heap.size w w' := by
  have hG : ∀ k, Old w k → k < w.heap.size := fun _ h => h
  obtain ⟨ky, s, nt, ni, A4, n4, c4, A5, n5, c5, A6, n6, c6, A7, n7, c7, A8, n8, c8, A9, n9, c9, rfl⟩ := ha.shape
  obtain ⟨kyx, sx, ntx, nix, B4, m4, e4, B5, m5, e5, B6, m6, e6, B7, m7, e7, B8, m8, e8, B9, m9, e9, rfl⟩ := hbn.shape
  show Calls Tryz.prog 4 #[.agg #[.int .i64 ky, .string s, .bool nt, .bool ni, .slice A4 n4 c4, .slice A5 n5 c5, .slice A6 n6 c6, .slice A7 n7 c7, .slice A8 n8 c8, .slice A9 n9 c9], .agg #[.int .i64 kyx, .string sx, .bool ntx, .bool nix, .slice B4 m4 e4, .slice B5 m5 e5, .slice B6 m6 e6, .slice B7 m7 e7, .slice B8 m8 e8, .slice B9 m9 e9]] w _
  have hbw : Below w.heap.size w ((w.alloc (.cells #[.int .i64 ky, .string s, .bool nt, .bool ni, .slice A4 n4 c4, .slice A5 n5 c5, .slice A6 n6 c6, .slice A7 n7 c7, .slice A8 n8 c8, .slice A9 n9 c9] 28)).alloc (.cells #[.int .i64 kyx, .string sx, .bool ntx, .bool nix, .slice B4 m4 e4, .slice B5 m5 e5, .slice B6 m6 e6, .slice B7 m7 e7, .slice B8 m8 e8, .slice B9 m9 e9] 28)) := ((Below.refl _ _).alloc (Nat.le_refl _) _).alloc (by simp) _
  obtain ⟨q0, q1⟩ := two_blocks w (.cells #[.int .i64 ky, .string s, .bool nt, .bool ni, .slice A4 n4 c4, .slice A5 n5 c5, .slice A6 n6 c6, .slice A7 n7 c7, .slice A8 n8 c8, .slice A9 n9 c9] 28) (.cells #[.int .i64 kyx, .string sx, .bool ntx, .bool nix, .slice B4 m4 e4, .slice B5 m5 e5, .slice B6 m6 e6, .slice B7 m7 e7, .slice B8 m8 e8, .slice B9 m9 e9] 28)
  generalize hW : (w.alloc (.cells #[.int .i64 ky, .string s, .bool nt, .bool ni, .slice A4 n4 c4, .slice A5 n5 c5, .slice A6 n6 c6, .slice A7 n7 c7, .slice A8 n8 c8, .slice A9 n9 c9] 28)).alloc (.cells #[.int .i64 kyx, .string sx, .bool ntx, .bool nix, .slice B4 m4 e4, .slice B5 m5 e5, .slice B6 m6 e6, .slice B7 m7 e7, .slice B8 m8 e8, .slice B9 m9 e9] 28) = W at *
  have a0_0 : W.cell? ⟨w.heap.size, 0, none⟩ = some (.int .i64 ky) := box_at q0 _ (Below.refl _ _) 0 _ rfl
  have a0_1 : W.cell? ⟨w.heap.size, 1, none⟩ = some (.string s) := box_at q0 _ (Below.refl _ _) 1 _ rfl
  have a0_2 : W.cell? ⟨w.heap.size, 2, none⟩ = some (.bool nt) := box_at q0 _ (Below.refl _ _) 2 _ rfl
  have a0_3 : W.cell? ⟨w.heap.size, 3, none⟩ = some (.bool ni) := box_at q0 _ (Below.refl _ _) 3 _ rfl
  have a0_4 : W.cell? ⟨w.heap.size, 4, none⟩ = some (.slice A4 n4 c4) := box_at q0 _ (Below.refl _ _) 4 _ rfl
  have a0_5 : W.cell? ⟨w.heap.size, 5, none⟩ = some (.slice A5 n5 c5) := box_at q0 _ (Below.refl _ _) 5 _ rfl
  have a0_6 : W.cell? ⟨w.heap.size, 6, none⟩ = some (.slice A6 n6 c6) := box_at q0 _ (Below.refl _ _) 6 _ rfl
  have a0_7 : W.cell? ⟨w.heap.size, 7, none⟩ = some (.slice A7 n7 c7) := box_at q0 _ (Below.refl _ _) 7 _ rfl
  have a0_8 : W.cell? ⟨w.heap.size, 8, none⟩ = some (.slice A8 n8 c8) := box_at q0 _ (Below.refl _ _) 8 _ rfl
  have a0_9 : W.cell? ⟨w.heap.size, 9, none⟩ = some (.slice A9 n9 c9) := box_at q0 _ (Below.refl _ _) 9 _ rfl
  have b0_0 : W.cell? ⟨w.heap.size + 1, 0, none⟩ = some (.int .i64 kyx) := box_at q1 _ (Below.refl _ _) 0 _ rfl
  have b0_1 : W.cell? ⟨w.heap.size + 1, 1, none⟩ = some (.string sx) := box_at q1 _ (Below.refl _ _) 1 _ rfl
  have b0_2 : W.cell? ⟨w.heap.size + 1, 2, none⟩ = some (.bool ntx) := box_at q1 _ (Below.refl _ _) 2 _ rfl
  have b0_3 : W.cell? ⟨w.heap.size + 1, 3, none⟩ = some (.bool nix) := box_at q1 _ (Below.refl _ _) 3 _ rfl
  have b0_4 : W.cell? ⟨w.heap.size + 1, 4, none⟩ = some (.slice B4 m4 e4) := box_at q1 _ (Below.refl _ _) 4 _ rfl
  have b0_5 : W.cell? ⟨w.heap.size + 1, 5, none⟩ = some (.slice B5 m5 e5) := box_at q1 _ (Below.refl _ _) 5 _ rfl
  have b0_6 : W.cell? ⟨w.heap.size + 1, 6, none⟩ = some (.slice B6 m6 e6) := box_at q1 _ (Below.refl _ _) 6 _ rfl
  have b0_7 : W.cell? ⟨w.heap.size + 1, 7, none⟩ = some (.slice B7 m7 e7) := box_at q1 _ (Below.refl _ _) 7 _ rfl
  have b0_8 : W.cell? ⟨w.heap.size + 1, 8, none⟩ = some (.slice B8 m8 e8) := box_at q1 _ (Below.refl _ _) 8 _ rfl
  have b0_9 : W.cell? ⟨w.heap.size + 1, 9, none⟩ = some (.slice B9 m9 e9) := box_at q1 _ (Below.refl _ _) 9 _ rfl
  have HN := Lib.hid (ha.below hG hbw); have HM := Lib.hid (hbn.below hG hbw)
  have HG := Lib.hid (old_of hG hbw); have HT := Lib.hid ht; have HBW := Lib.hid hbw; have HB0 := Lib.hid (Below.refl W.heap.size W)
  have hca := Nd.count_le (f + 1) a
  have hcb := Nd.count_le (f + 1) b
  clear hbw ha hbn ht q0 q1
  go_enter Tryz.func4, Tryz.ntmps4
  have HX1 := Lib.hid (law_much (f + 1) _ W _ a (old_of HG.out HB0.out) HN.out ba)
  go_wp2_with fail
  refine HX1.out.mono ?_
  rintro e w1 ⟨rfl, hb⟩
  have HB1 := Lib.hid (HB0.out.trans (hb.mono HB0.out.size))
  have a1_0 := box_keep a0_0 hb; have b1_0 := box_keep b0_0 hb; have a1_1 := box_keep a0_1 hb; have b1_1 := box_keep b0_1 hb; have a1_2 := box_keep a0_2 hb; have b1_2 := box_keep b0_2 hb; have a1_3 := box_keep a0_3 hb; have b1_3 := box_keep b0_3 hb; have a1_4 := box_keep a0_4 hb; have b1_4 := box_keep b0_4 hb; have a1_5 := box_keep a0_5 hb; have b1_5 := box_keep b0_5 hb; have a1_6 := box_keep a0_6 hb; have b1_6 := box_keep b0_6 hb; have a1_7 := box_keep a0_7 hb; have b1_7 := box_keep b0_7 hb; have a1_8 := box_keep a0_8 hb; have b1_8 := box_keep b0_8 hb; have a1_9 := box_keep a0_9 hb; have b1_9 := box_keep b0_9 hb
  clear hb a0_0 b0_0 a0_1 b0_1 a0_2 b0_2 a0_3 b0_3 a0_4 b0_4 a0_5 b0_5 a0_6 b0_6 a0_7 b0_7 a0_8 b0_8 a0_9 b0_9
  generalize Nd.much (f + 1) a = m1 at *
  by_cases h1 : 600 < m1
  · have HAW := Lib.hid (awake32 w1 (HT.out.below (HBW.out.trans (HB1.out.mono HBW.out.size))))
    go_wp2_with fail
    refine HAW.out.mono ?_
    rintro e wa ⟨rfl, hb⟩
    have HBA := Lib.hid (HB1.out.trans (hb.mono HB1.out.size))
    clear hb
    go_wp2_with fail
    go_ret
    exact ⟨rfl, HBW.out.trans (HBA.out.mono HBW.out.size)⟩
  have HX2 := Lib.hid (law_much (f + 1) _ w1 _ b (old_of HG.out HB1.out) (HM.out.below HG.out HB1.out) bb)
  go_wp2_with fail
  refine HX2.out.mono ?_
  rintro e w2 ⟨rfl, hb⟩
  have HB2 := Lib.hid (HB1.out.trans (hb.mono HB1.out.size))
  have a2_0 := box_keep a1_0 hb; have b2_0 := box_keep b1_0 hb; have a2_1 := box_keep a1_1 hb; have b2_1 := box_keep b1_1 hb; have a2_2 := box_keep a1_2 hb; have b2_2 := box_keep b1_2 hb; have a2_3 := box_keep a1_3 hb; have b2_3 := box_keep b1_3 hb; have a2_4 := box_keep a1_4 hb; have b2_4 := box_keep b1_4 hb; have a2_5 := box_keep a1_5 hb; have b2_5 := box_keep b1_5 hb; have a2_6 := box_keep a1_6 hb; have b2_6 := box_keep b1_6 hb; have a2_7 := box_keep a1_7 hb; have b2_7 := box_keep b1_7 hb; have a2_8 := box_keep a1_8 hb; have b2_8 := box_keep b1_8 hb; have a2_9 := box_keep a1_9 hb; have b2_9 := box_keep b1_9 hb
  clear hb a1_0 b1_0 a1_1 b1_1 a1_2 b1_2 a1_3 b1_3 a1_4 b1_4 a1_5 b1_5 a1_6 b1_6 a1_7 b1_7 a1_8 b1_8 a1_9 b1_9
  generalize Nd.much (f + 1) b = m2 at *
  by_cases h2 : 600 < m2
  · have HAW := Lib.hid (awake32 w2 (HT.out.below (HBW.out.trans (HB2.out.mono HBW.out.size))))
    go_wp2_with fail
    refine HAW.out.mono ?_
    rintro e wa ⟨rfl, hb⟩
    have HBA := Lib.hid (HB2.out.trans (hb.mono HB2.out.size))
    clear hb
    go_wp2_with fail
    go_ret
    exact ⟨rfl, HBW.out.trans (HBA.out.mono HBW.out.size)⟩
  have HGW := Lib.hid (old_of HG.out HB2.out)
  have RSV := Lib.hid (HT.out.below (HBW.out.trans (HB2.out.mono HBW.out.size)))
  have HN2 := Lib.hid (HN.out.below HG.out HB2.out); have HM2 := Lib.hid (HM.out.below HG.out HB2.out)
  have g1 := fun X : Gr w2 => X.calls (prog_same (f + 1) _ X.at_ _ _ a b (old_of HGW.out X.2) (HN2.out.below HGW.out X.2) (HM2.out.below HGW.out X.2))
  have g2 := fun X : Gr w2 => X.calls (ref_same (f + 1) _ X.at_ _ _ a b (old_of HGW.out X.2) (HN2.out.below HGW.out X.2) (HM2.out.below HGW.out X.2))
  have g3 := fun X : Gr w2 => X.calls (prog_same (f + 1) _ X.at_ _ _ a a (old_of HGW.out X.2) (HN2.out.below HGW.out X.2) (HN2.out.below HGW.out X.2))
  have g4 := fun X : Gr w2 => X.calls (prog_count (f + 1) _ X.at_ _ a (old_of HGW.out X.2) (HN2.out.below HGW.out X.2) (by omega))
  have g5 := fun X : Gr w2 => X.calls (prog_count (f + 1) _ X.at_ _ b (old_of HGW.out X.2) (HM2.out.below HGW.out X.2) (by omega))
  have g6 := fun X : Gr w2 => X.calls (awake32 X.at_ (RSV.out.below X.2))
  have d0 := fun X : Gr w2 => X.cell _ _ a2_0
  have u0 := fun X : Gr w2 => X.cell _ _ b2_0
  have d1 := fun X : Gr w2 => X.cell _ _ a2_1
  have u1 := fun X : Gr w2 => X.cell _ _ b2_1
  have d2 := fun X : Gr w2 => X.cell _ _ a2_2
  have u2 := fun X : Gr w2 => X.cell _ _ b2_2
  have d3 := fun X : Gr w2 => X.cell _ _ a2_3
  have u3 := fun X : Gr w2 => X.cell _ _ b2_3
  have d4 := fun X : Gr w2 => X.cell _ _ a2_4
  have u4 := fun X : Gr w2 => X.cell _ _ b2_4
  have d5 := fun X : Gr w2 => X.cell _ _ a2_5
  have u5 := fun X : Gr w2 => X.cell _ _ b2_5
  have d6 := fun X : Gr w2 => X.cell _ _ a2_6
  have u6 := fun X : Gr w2 => X.cell _ _ b2_6
  have d7 := fun X : Gr w2 => X.cell _ _ a2_7
  have u7 := fun X : Gr w2 => X.cell _ _ b2_7
  have d8 := fun X : Gr w2 => X.cell _ _ a2_8
  have u8 := fun X : Gr w2 => X.cell _ _ b2_8
  have d9 := fun X : Gr w2 => X.cell _ _ a2_9
  have u9 := fun X : Gr w2 => X.cell _ _ b2_9
  have hne : Nonempty (Gr w2) := ⟨⟨_, Below.refl _ _⟩⟩
  have hself : Nd.same (f + 1) a a = true := Nd.same_refl (f + 1) a
  have hsc := Nd.same_count (f + 1) a b
  rw [hself] at g3
  unfold ag at g1 g2 g3 g4 g5
  clear hca hcb hself
  generalize Nd.count (f + 1) a = r4 at *
  generalize Nd.count (f + 1) b = r5 at *
  cases hq : Nd.same (f + 1) a b
  · rw [hq] at g1 g2
    clear hsc hq
    go_wp2_with fail
    refine wp_region_class (S := Gr w2) Gr.at_ (by kernel_rfl) (by kernel_rfl) (Gr.drew _) ?_
    repeat (go_big_quiet_step (first | (with_reducible exact g1 _) | (with_reducible exact g2 _) | (with_reducible exact g3 _) | (with_reducible exact g4 _) | (with_reducible exact g5 _) | (with_reducible exact g6 _)))
    refine wpQuiet_nil ?_
    rintro X ⟨⟨X', hX⟩, hX2⟩
    obtain rfl : X = X' := hX2
    have HBX := Lib.hid (HB2.out.trans (hX.mono HB2.out.size))
    clear hX g1 g2 g3 g4 g5 g6 d0 u0 d1 u1 d2 u2 d3 u3 d4 u4 d5 u5 d6 u6 d7 u7 d8 u8 d9 u9 hne
    go_wp2_with fail
    go_ret
    exact ⟨rfl, HBW.out.trans (HBX.out.mono HBW.out.size)⟩
  · rw [hq] at g1 g2
    obtain rfl := hsc hq
    clear hsc hq
    go_wp2_with fail
    refine wp_region_class (S := Gr w2) Gr.at_ (by kernel_rfl) (by kernel_rfl) (Gr.drew _) ?_
    repeat (go_big_quiet_step (first | (with_reducible exact g1 _) | (with_reducible exact g2 _) | (with_reducible exact g3 _) | (with_reducible exact g4 _) | (with_reducible exact g5 _) | (with_reducible exact g6 _)))
    refine wpQuiet_nil ?_
    rintro X ⟨⟨X', hX⟩, hX2⟩
    obtain rfl : X = X' := hX2
    have HBX := Lib.hid (HB2.out.trans (hX.mono HB2.out.size))
    clear hX g1 g2 g3 g4 g5 g6 d0 u0 d1 u1 d2 u2 d3 u3 d4 u4 d5 u5 d6 u6 d7 u7 d8 u8 d9 u9 hne
    go_wp2_with fail
    go_ret
    exact ⟨rfl, HBW.out.trans (HBX.out.mono HBW.out.size)⟩
end Go.Proofs.YtjpopekmbmcggaaGreatDoor
namespace Go.Proofs.YtjpopekmbmcggaaGreatDoor
open Go.ChangeShapes Go.WideShapes Go.ChangeAt Go.RowKit
set_option linter.unusedVariables false
theorem own : ownKnob Tryz.prog.godebug = none := by kernel_rfl
theorem laidOut : laidOutB Tryz.prog = true := by kernel_rfl
theorem gRsv : Tryz.prog.globalNamed "conch/posix.reserved" = some 0 := by kernel_rfl
theorem tRsv : (Tryz.prog.globals[0]?).map (·.type) = some 158 := by kernel_rfl
theorem cStr : Tryz.prog.cellsOf 9 = 1 := by kernel_rfl
theorem cRsv : Tryz.prog.cellsOf 158 = 16 := by kernel_rfl
theorem cells_of_strs {H : Type} {enc : TypeId × Value → H} {P : Program} {w : World} {base : Nat} {sp : Nat → Bool} {held : Bool} {fuel : Nat} {t e : TypeId} {n : Nat} {cs : List Value} {zs : List (List UInt8)} {p : List MemPlace}
    (ht : P.underlying t = some (.array n e)) (he : P.underlying e = some .string) (hce : P.cellsOf e = 1) (hct : P.cellsOf t = n)
    (h : DataW.trod enc P w base sp held fuel t cs = some (.agg (zs.map fun z => .lit (.string z)), p)) : cs = zs.map bs := by
  cases fuel with
  | zero => simp [DataW.trod] at h
  | succ fuel =>
    simp only [DataW.trod, ht, hce, hct, Nat.mul_one] at h
    split at h
    · rename_i hl
      obtain ⟨xs, hm, hx⟩ := Option.map_eq_some_iff.1 h
      have hxs : xs.map (·.1) = zs.map fun z => (DataW.lit (.string z) : DataW H) := by
        have := congrArg Prod.fst hx
        simpa using this
      have hxl : xs.length = n := by simpa using Lib.mapM_length hm
      have hzl : zs.length = n := by
        have := congrArg List.length hxs
        simp at this
        omega
      apply List.ext_getElem?
      intro i
      by_cases hi : i < n
      · obtain ⟨b, hb, hf⟩ := Lib.mapM_at hm i i (by simp [hi])
        obtain ⟨z, hc, rfl, _⟩ := DataW.trod_string he hf
        have h1 : cs[i]? = some (.string z) := by
          have := congrArg (·[0]?) hc
          simpa [List.getElem?_take, List.getElem?_drop] using this
        have h2 : (xs.map (·.1))[i]? = some (DataW.lit (.string z.data.toList) : DataW H) := by simp [hb]
        rw [hxs] at h2
        simp only [List.getElem?_map, Option.map_eq_some_iff, DataW.lit.injEq, Lit.string.injEq] at h2
        obtain ⟨z', hz', rfl⟩ := h2
        rw [h1, List.getElem?_map, hz']
        show _ = some (Value.string ⟨z.data.toList.toArray⟩)
        rw [Lib.mk_data]
      · rw [List.getElem?_eq_none (by omega), List.getElem?_eq_none (by simp; omega)]
    · cases h
abbrev laidR : List (String × DataW Unit) := Rows.nodeTellsUptoRow.laid
theorem rsv_of_laid {W : World} (h : laidMetH Tryz.prog laidR W) : RsvAt W := by
  rw [MakeChecks.laidMetH_plain _ _ _ (by kernel_rfl)] at h
  obtain ⟨ps, ⟨g0, t0, cs0, f0, p0, q0, hg0, ht0, hv0, hd0, _⟩, _⟩ := h
  obtain rfl := Option.some.inj (gRsv.symm.trans hg0)
  obtain rfl := Option.some.inj (tRsv.symm.trans ht0)
  have e : (Rows.laid_conch_posix_reserved : DataW Unit) = .agg (rsvL.map fun z => .lit (.string z)) := rfl
  rw [e] at hd0
  have hcs := cells_of_strs Tryz.underlying158 Tryz.underlying9 cStr cRsv hd0
  have hc : cs0 = rsvVals := by
    apply Array.ext'
    rw [hcs]
    simp [rsvVals]
  unfold World.var? at hv0
  change (Tryz.prog.globalNamed "conch/posix.reserved").bind _ = _ at hv0
  rw [gRsv] at hv0
  simp only [Option.bind_some] at hv0
  unfold RsvAt
  split at hv0
  · rename_i cs t fr hh
    obtain rfl := Option.some.inj hv0
    rw [← hc]
    exact ⟨t, fr, hh⟩
  · cases hv0
noncomputable def laidWorld (os : Os) : World :=
  { World.holding Tryz.prog os ⟨#[], #[], []⟩ with heap := (World.holding Tryz.prog os ⟨#[], #[], []⟩).heap.modify 0 fun
      | .cells _ t frozen => .cells rsvVals t frozen
      | o => o }
set_option maxRecDepth 100000 in
theorem laid_met (os : Os) (args : Array Value) : laidMetH Tryz.prog laidR ((laidWorld os).forCall (fun _ _ => 0) ⟨#[], args, []⟩).memory := by
  rw [MakeChecks.laidMetH_plain _ _ _ (by kernel_rfl)]
  exact laidMet_of_run' 8 (by kernel_rfl) (by kernel_rfl)
end Go.Proofs.YtjpopekmbmcggaaGreatDoor
namespace Go.Proofs.YtjpopekmbmcggaaGreatDoor
open Go.ChangeShapes Go.WideShapes Go.ChangeAt Go.RowKit
open Go.ChangeMaps (open_string shut_string)
set_option linter.unusedVariables false
set_option maxRecDepth 100000 in
theorem nodeSame_reads (os : Os) {H : Type} (enc : TypeId × Value → H) : ∃ places, DataW.whole enc Tryz.prog ((laidWorld os).forCall (fun _ _ => 0) ⟨#[], #[.agg #[.int .i64 0, .string ByteArray.empty, .bool false, .bool false, .slice none 0 0, .slice none 0 0, .slice none 0 0, .slice none 0 0, .slice none 0 0, .slice none 0 0], .agg #[.int .i64 0, .string ByteArray.empty, .bool false, .bool false, .slice none 0 0, .slice none 0 0, .slice none 0 0, .slice none 0 0, .slice none 0 0, .slice none 0 0]], []⟩).memory Tryz.f4.params.toList Rows.nodeSameSpec.vars false (#[.agg #[.int .i64 0, .string ByteArray.empty, .bool false, .bool false, .slice none 0 0, .slice none 0 0, .slice none 0 0, .slice none 0 0, .slice none 0 0, .slice none 0 0], .agg #[.int .i64 0, .string ByteArray.empty, .bool false, .bool false, .slice none 0 0, .slice none 0 0, .slice none 0 0, .slice none 0 0, .slice none 0 0, .slice none 0 0]] : Array Value).toList 8 = some ([.agg [.lit (.int .i64 0), .lit (.string []), .lit (.bool false), .lit (.bool false), .nil, .nil, .nil, .nil, .nil, .nil], .agg [.lit (.int .i64 0), .lit (.string []), .lit (.bool false), .lit (.bool false), .nil, .nil, .nil, .nil, .nil, .nil]], [], places) :=
  ⟨[], by kernel_rfl⟩
set_option maxRecDepth 100000 in
theorem nodeSame_contract (H : Type) (enc : TypeId × Value → H) (W : World) (base : Nat) (args : Array Value) (ds gs : List (DataW H)) (before : List MemPlace)
    (hval0 : ∀ (j : Nat) t v, Tryz.f4.params[j]? = some t → args[j]? = some v → Value.okWide Tryz.prog W .any base t v)
    (hW : DataW.Whole enc Tryz.prog Tryz.f4.params.toList Rows.nodeSameSpec.vars false W args.toList ds gs before) (hL : laidMetH Tryz.prog laidR W) (hk : Rows.uptoSmall H (ds ++ gs) = true) :
    Calls Tryz.prog 4 args W fun e W' => ∃ v, e = .returned v ∧ Rows.nodeSameSpec.post enc Tryz.prog Tryz.f4 false true false false W args v W' := by
  have hval : ∀ (j : Nat) t v, Tryz.f4.params[j]? = some t → args[j]? = some v → Value.okWide Tryz.prog W .any base t v := hval0
  have hW' := hW
  obtain ⟨p, q, hA0, hV, rfl, hfz, hnd⟩ := hW
  have hA : DataW.TrodAll enc Tryz.prog W 0 (fun _ => true) true Tryz.f4.params.toList args.toList ds p := hA0
  rw [Tryz.params4] at hA hval
  obtain ⟨v0, vs0, d0, ds0, p0, q0, hargs, rfl, rfl, h0, r0⟩ := trodAll_cons hA
  obtain ⟨v1, vs1, d1, ds1, p1, q1, rfl, rfl, rfl, h1, r1⟩ := trodAll_cons r0
  obtain ⟨rfl, rfl, rfl⟩ := trodAll_nil r1
  obtain rfl : args = #[v0, v1] := by cases args; simp_all
  obtain ⟨rfl, rfl⟩ := trodVars_none hV
  have hlt := fun x hx => hW'.lt x hx
  have hlt0 : ∀ x ∈ p0, x.block < W.heap.size := fun x hx => by simpa using hlt x (List.mem_append.2 (.inl (List.mem_append.2 (.inl hx))))
  have hlt1 : ∀ x ∈ p1, x.block < W.heap.size := fun x hx => by simpa using hlt x (List.mem_append.2 (.inl (List.mem_append.2 (.inr (List.mem_append.2 (.inl hx))))))
  obtain ⟨f, hf⟩ : ∃ f : Nat, f = 1048576 := ⟨_, rfl⟩
  have hbk : Rows.uptoBulk d0 + (Rows.uptoBulk d1) ≤ f := by
    have h : Rows.uptoBulkAll ([d0, d1] ++ []) ≤ 1048576 := of_decide_eq_true hk
    rw [hf]
    simpa only [List.cons_append, List.nil_append, Rows.uptoBulkAll, Nat.add_zero] using h
  have h0k := h0
  obtain ⟨z0, a, rfl, hv0, hw0⟩ := read_nodeV f (by omega) (hval 0 28 v0 rfl rfl) h0 (by omega)
  have h1k := h1
  obtain ⟨z1, b, rfl, hv1, hw1⟩ := read_nodeV f (by omega) (hval 1 28 v1 rfl rfl) h1 (by omega)
  have ht := rsv_of_laid hL
  clear hA0 hval0
  refine (nodeSame_walk f W z0 z1 a b ht hv0 hv1 (by omega) (by omega)).mono fun e W' ⟨he, bel⟩ => ?_
  subst he
  exact ⟨_, rfl, _, _, _, [], _, [], hW', trodAll_mk1 (shut_bool Tryz.underlying4 _), (trodAll_cons_mk (Below.trod laidOut (by kernel_rfl) (of_decide_eq_true (by kernel_rfl)) h0k bel hlt0) (trodAll_cons_mk (Below.trod laidOut (by kernel_rfl) (of_decide_eq_true (by kernel_rfl)) h1k bel hlt1) trodAll_mk0)), rfl, bel.frame _, fun h => by cases h⟩
set_option maxRecDepth 100000 in
theorem nodeSame_lifted (os : Os) (started : os.Started) (H : Type) (enc : TypeId × Value → H) (F : Stop.Interp) :
    ReturnsInHanded {} Tryz.checked os 4 .any ((Rows.OpenSpec.upto Rows.nodeSameSpec).preRow enc Tryz.prog Tryz.f4 Rows.nodeSameUptoRow.domain false Rows.nodeSameUptoRow.laid) (((Rows.OpenSpec.upto Rows.nodeSameSpec).at F).post enc Tryz.prog Tryz.f4 false true false false) := by
  obtain ⟨places, hx⟩ := nodeSame_reads os enc
  refine returnsInHanded_of_row (C := Tryz.checked) (s := Rows.OpenSpec.upto Rows.nodeSameSpec) own started (by kernel_rfl) Tryz.func4
    (witness_row_at (enc := enc) (C := Tryz.checked) false (laidWorld os) #[.agg #[.int .i64 0, .string ByteArray.empty, .bool false, .bool false, .slice none 0 0, .slice none 0 0, .slice none 0 0, .slice none 0 0, .slice none 0 0, .slice none 0 0], .agg #[.int .i64 0, .string ByteArray.empty, .bool false, .bool false, .slice none 0 0, .slice none 0 0, .slice none 0 0, .slice none 0 0, .slice none 0 0, .slice none 0 0]] rfl (by kernel_rfl) (by kernel_rfl) (by kernel_rfl)
      (OpenSpec.preRow_of_cond 8 hx (by kernel_rfl) (fun k hk => by cases hk; kernel_rfl) (by kernel_rfl) (laid_met os _))) ?_
  intro W base args ds gs before hval hW _ hcond _ hL _ _
  exact nodeSame_contract H enc W base args ds gs before hval hW hL (hcond _ rfl)
theorem nodeSame_upto : Rows.NodeSameUptoSaid :=
  OpenClaim.holds_of_cond 4 Tryz.f4 rfl rfl rfl rfl rfl rfl rfl ⟨rfl, rfl, rfl, rfl, rfl⟩ rfl rfl rfl rfl rfl (by kernel_rfl) Tryz.func4 (by kernel_rfl)
    (of_decide_eq_true (by kernel_rfl)) (by unfold Func.isWrapper; first | (rw [if_pos (by decide +kernel)]; kernel_rfl) | (rw [if_neg (by decide +kernel)]; exact ⟨rfl, rfl⟩))
    (fun os started H enc _ F => by rw [OpenClaim.pre_eq_preRow]; exact nodeSame_lifted os started H enc F)
theorem nodeSame_card : Rows.NodeSameUptoCardSaid :=
  Claim7.holds_tied_plain_at .later [] [.data] true Rows.nodeSameUptoCard.stood.harness false
    nodeSame_upto (fun _ h => by cases h) (by kernel_rfl) (fun _ h => by cases h) nodeSameUpto_row_tie rfl ⟨rfl, rfl⟩ (by kernel_rfl) rfl
    (fun f fn hf hfn => by
      obtain rfl : f = 4 := Option.some.inj ((show Tryz.prog.funcNamed Rows.nodeSameUptoRow.func = some 4 by kernel_rfl).symm.trans hf) |>.symm
      obtain rfl : fn = Tryz.f4 := (Option.some.inj (Tryz.func4.symm.trans hfn)).symm
      exact ⟨by kernel_rfl, fun j t ht => by
        rw [Tryz.params4] at ht
        have hm : t ∈ [28, 28] := by simpa using Array.mem_of_getElem? ht
        have hall : ([28, 28].all fun u => !Tryz.prog.wantsStandIn u) = true := by kernel_rfl
        exact (show Tryz.prog.wantsStandIn t = false by simpa using List.all_eq_true.1 hall t hm)⟩)
    (by kernel_rfl)
#print axioms nodeSame_card
end Go.Proofs.YtjpopekmbmcggaaGreatDoor
