/- Towards nodeSame_card: NdSameR, NdSamePt, ProwStep. Merged from smaller texts by a program of the author's. -/
import Derived.Test.YtjpopekmbmcggaaGreatDoorSa23
import Derived.Test.YtjpopekmbmcggaaGreatDoorSa02
import Derived.Deep.RegionHeld3
import Derived.Deep.DeepCutAuto
namespace Go.Proofs.YtjpopekmbmcggaaGreatDoor
open Go.RowKit
def RSm (f : Nat) : Prop := ∀ (G : Nat → Prop) (w : World) (vs vs' : List Value) (x y : Nd f), (∀ k, G k → k < w.heap.size) → NdV f G w vs x → NdV f G w vs' y →
  Calls Tryz.prog 24 #[ag vs, ag vs'] w fun e w' => e = .returned (.bool (Nd.same f x y)) ∧ Below w.heap.size w w'
def RPa (f : Nat) : Prop := ∀ (G : Nat → Prop) (w : World) (A A' : Option Addr) (n n' c c' : Nat) (x y : WdF (Nd f)), (∀ k, G k → k < w.heap.size) → WdN f G w [.slice A n c] x → WdN f G w [.slice A' n' c'] y →
  Calls Tryz.prog 130 #[.slice A n c, .slice A' n' c'] w fun e w' => e = .returned (.bool (wordS (Nd.same f) x y)) ∧ Below w.heap.size w w'
set_option maxRecDepth 100000 in
set_option maxHeartbeats 4000000 in
theorem sameAll_r (f : Nat) (ih : RSm f) (G : Nat → Prop) (v v' : Value) (xs ys : List (Nd f)) (w : World) (hG : ∀ k, G k → k < w.heap.size) (hs : SlAt G w 10 (NdV f G w) v xs) (hs' : SlAt G w 10 (NdV f G w) v' ys) :
    Calls Tryz.prog 71 #[v, v'] w fun e w' => e = .returned (.bool (all2 (Nd.same f) xs ys)) ∧ Below w.heap.size w w' := by
  obtain ⟨A, c, rfl, hl, hm, hc⟩ := hs
  obtain ⟨A', c', rfl, hl', hm', hc'⟩ := hs'
  unfold maxLen at hm hm'
  have HC := Lib.hid hc; have HC' := Lib.hid hc'; have HG := Lib.hid hG; have IH := Lib.hid ih
  clear hc hc' hG ih
  by_cases hll : xs.length = ys.length
  · have HLL := Lib.hid hll
    rw [← hll] at hl' ⊢
    clear hll
    go_enter Tryz.func71, Tryz.ntmps71
    go_wp2_with fail
    go_loopw [5] (fun i wr => ∃ (k : Nat), k ≤ xs.length ∧ i = .int .i64 k ∧ all2 (Nd.same f) (xs.drop k) (ys.drop k) = all2 (Nd.same f) xs ys ∧ Below w.heap.size w wr) (fun i _ => xs.length - (intOf i).toNat)
    case atStart => exact ⟨0, by omega, rfl, rfl, Below.refl _ _⟩
    case round =>
      obtain ⟨k, hk, rfl, hf, hb⟩ := hrel
      have HF := Lib.hid hf; have HB := Lib.hid hb
      clear hf
      by_cases hlt : k < xs.length
      · have hlt' : k < ys.length := by rw [← HLL.out]; exact hlt
        obtain ⟨b, off, rfl, hg, hel⟩ := HC.out (by omega)
        obtain ⟨b', off', rfl, hg', hel'⟩ := HC'.out (by omega)
        obtain ⟨vs, hvl, hR0, hcell⟩ := hel k hlt
        obtain ⟨vs', hvl', hR0', hcell'⟩ := hel' k hlt'
        have hR := hR0.below HG.out hb
        have hR' := hR0'.below HG.out hb
        have z := fun j u hj => (keep_of HG.out hb _ hg).trans (hcell j u hj)
        have z' := fun j u hj => (keep_of HG.out hb _ hg').trans (hcell' j u hj)
        have HGR := Lib.hid (old_of HG.out hb)
        have HR := Lib.hid hR; have HR' := Lib.hid hR'
        have HD := Lib.hid (all2_drop (Nd.same f) xs ys k hlt hlt')
        generalize xs[k] = xk at *
        generalize ys[k] = yk at *
        obtain ⟨ky, s, nt, ni, A4, n4, c4, A5, n5, c5, A6, n6, c6, A7, n7, c7, A8, n8, c8, A9, n9, c9, rfl⟩ := hR.shape
        obtain ⟨ky', s', nt', ni', A4', n4', c4', A5', n5', c5', A6', n6', c6', A7', n7', c7', A8', n8', c8', A9', n9', c9', rfl⟩ := hR'.shape
        have d0 : wr.cell? ⟨b, off + k * 10, none⟩ = some (.int .i64 ky) := by simpa using z 0 _ rfl
        have d1 : wr.cell? ⟨b, off + k * 10 + 1, none⟩ = some (.string s) := by simpa using z 1 _ rfl
        have d2 : wr.cell? ⟨b, off + k * 10 + 2, none⟩ = some (.bool nt) := by simpa using z 2 _ rfl
        have d3 : wr.cell? ⟨b, off + k * 10 + 3, none⟩ = some (.bool ni) := by simpa using z 3 _ rfl
        have d4 : wr.cell? ⟨b, off + k * 10 + 4, none⟩ = some (.slice A4 n4 c4) := by simpa using z 4 _ rfl
        have d5 : wr.cell? ⟨b, off + k * 10 + 5, none⟩ = some (.slice A5 n5 c5) := by simpa using z 5 _ rfl
        have d6 : wr.cell? ⟨b, off + k * 10 + 6, none⟩ = some (.slice A6 n6 c6) := by simpa using z 6 _ rfl
        have d7 : wr.cell? ⟨b, off + k * 10 + 7, none⟩ = some (.slice A7 n7 c7) := by simpa using z 7 _ rfl
        have d8 : wr.cell? ⟨b, off + k * 10 + 8, none⟩ = some (.slice A8 n8 c8) := by simpa using z 8 _ rfl
        have d9 : wr.cell? ⟨b, off + k * 10 + 9, none⟩ = some (.slice A9 n9 c9) := by simpa using z 9 _ rfl
        have g0 : wr.cell? ⟨b', off' + k * 10, none⟩ = some (.int .i64 ky') := by simpa using z' 0 _ rfl
        have g1 : wr.cell? ⟨b', off' + k * 10 + 1, none⟩ = some (.string s') := by simpa using z' 1 _ rfl
        have g2 : wr.cell? ⟨b', off' + k * 10 + 2, none⟩ = some (.bool nt') := by simpa using z' 2 _ rfl
        have g3 : wr.cell? ⟨b', off' + k * 10 + 3, none⟩ = some (.bool ni') := by simpa using z' 3 _ rfl
        have g4 : wr.cell? ⟨b', off' + k * 10 + 4, none⟩ = some (.slice A4' n4' c4') := by simpa using z' 4 _ rfl
        have g5 : wr.cell? ⟨b', off' + k * 10 + 5, none⟩ = some (.slice A5' n5' c5') := by simpa using z' 5 _ rfl
        have g6 : wr.cell? ⟨b', off' + k * 10 + 6, none⟩ = some (.slice A6' n6' c6') := by simpa using z' 6 _ rfl
        have g7 : wr.cell? ⟨b', off' + k * 10 + 7, none⟩ = some (.slice A7' n7' c7') := by simpa using z' 7 _ rfl
        have g8 : wr.cell? ⟨b', off' + k * 10 + 8, none⟩ = some (.slice A8' n8' c8') := by simpa using z' 8 _ rfl
        have g9 : wr.cell? ⟨b', off' + k * 10 + 9, none⟩ = some (.slice A9' n9' c9') := by simpa using z' 9 _ rfl
        have e0 := fun y : Gr wr => y.cell _ _ d0; have h0 := fun y : Gr wr => y.cell _ _ g0; have e1 := fun y : Gr wr => y.cell _ _ d1; have h1 := fun y : Gr wr => y.cell _ _ g1; have e2 := fun y : Gr wr => y.cell _ _ d2; have h2 := fun y : Gr wr => y.cell _ _ g2; have e3 := fun y : Gr wr => y.cell _ _ d3; have h3 := fun y : Gr wr => y.cell _ _ g3; have e4 := fun y : Gr wr => y.cell _ _ d4; have h4 := fun y : Gr wr => y.cell _ _ g4; have e5 := fun y : Gr wr => y.cell _ _ d5; have h5 := fun y : Gr wr => y.cell _ _ g5; have e6 := fun y : Gr wr => y.cell _ _ d6; have h6 := fun y : Gr wr => y.cell _ _ g6; have e7 := fun y : Gr wr => y.cell _ _ d7; have h7 := fun y : Gr wr => y.cell _ _ g7; have e8 := fun y : Gr wr => y.cell _ _ d8; have h8 := fun y : Gr wr => y.cell _ _ g8; have e9 := fun y : Gr wr => y.cell _ _ d9; have h9 := fun y : Gr wr => y.cell _ _ g9
        have gc := fun y : Gr wr => y.calls (IH.out G y.at_ _ _ xk yk (old_of HGR.out y.2) (HR.out.below HGR.out y.2) (HR'.out.below HGR.out y.2))
        have hne : Nonempty (Gr wr) := ⟨⟨_, Below.refl _ _⟩⟩
        clear z z' hel hel' hcell hcell' hvl hvl' hR hR' hR0 hR0' hg hg' hb
        unfold ag at gc
        cases hq : (Nd.same f) xk yk
        · rw [hq] at gc
          have HQ := Lib.hid hq
          clear hq
          go_wp2_with fail
          refine wp_region_class (S := Gr wr) Gr.at_ (by kernel_rfl) (by kernel_rfl) (Gr.drew _) ?_
          repeat (go_big_quiet_step (first | (with_reducible exact gc _)))
          refine wpQuiet_nil ?_
          rintro X ⟨⟨X', hX⟩, hx⟩
          obtain rfl : X = X' := hx
          have HB1 := Lib.hid (HB.out.trans (hX.mono HB.out.size))
          clear hX gc hne e0 h0 d0 g0 e1 h1 d1 g1 e2 h2 d2 g2 e3 h3 d3 g3 e4 h4 d4 g4 e5 h5 d5 g5 e6 h6 d6 g6 e7 h7 d7 g7 e8 h8 d8 g8 e9 h9 d9 g9
          go_wp2_with fail
          go_ret
          exact ⟨ret_bool (by rw [← HF.out, HD.out, HQ.out]; rfl), HB1.out⟩
        · rw [hq] at gc
          have HQ := Lib.hid hq
          clear hq
          go_wp2_with fail
          refine wp_region_class (S := Gr wr) Gr.at_ (by kernel_rfl) (by kernel_rfl) (Gr.drew _) ?_
          repeat (go_big_quiet_step (first | (with_reducible exact gc _)))
          refine wpQuiet_nil ?_
          rintro X ⟨⟨X', hX⟩, hx⟩
          obtain rfl : X = X' := hx
          have HB1 := Lib.hid (HB.out.trans (hX.mono HB.out.size))
          clear hX gc hne e0 h0 d0 g0 e1 h1 d1 g1 e2 h2 d2 g2 e3 h3 d3 g3 e4 h4 d4 g4 e5 h5 d5 g5 e6 h6 d6 g6 e7 h7 d7 g7 e8 h8 d8 g8 e9 h9 d9 g9
          go_wp2_with fail
          go_roundw
          case rel => exact ⟨k + 1, by omega, by go_num, by rw [← HF.out, HD.out, HQ.out]; rfl, HB1.out⟩
          case measure => simp only [intOf]; omega
      · have HE : all2 (Nd.same f) (xs.drop k) (ys.drop k) = true := by
          rw [List.drop_eq_nil_of_le (by omega), List.drop_eq_nil_of_le (by have := HLL.out; omega)]; rfl
        have HE2 := Lib.hid HE
        clear HE hb
        go_wp2_with fail
        go_ret
        exact ⟨ret_bool (by rw [← HF.out, HE2.out]), HB.out⟩
  · have HE := Lib.hid (all2_ne (Nd.same f) xs ys hll)
    have hne : ((xs.length : Int) != (ys.length : Int)) = true := by rw [bne_iff_ne]; omega
    go_enter Tryz.func71, Tryz.ntmps71
    go_wp2_with fail
    go_ret
    exact ⟨ret_bool (by rw [HE.out]), Below.refl _ _⟩
set_option maxRecDepth 100000 in
set_option maxHeartbeats 4000000 in
theorem sameWords_r (f : Nat) (ih : RPa f) (G : Nat → Prop) (v v' : Value) (xs ys : List (WdF (Nd f))) (w : World) (hG : ∀ k, G k → k < w.heap.size) (hs : SlAt G w 1 (WdN f G w) v xs) (hs' : SlAt G w 1 (WdN f G w) v' ys) :
    Calls Tryz.prog 69 #[v, v'] w fun e w' => e = .returned (.bool (all2 (wordS (Nd.same f)) xs ys)) ∧ Below w.heap.size w w' := by
  obtain ⟨A, c, rfl, hl, hm, hc⟩ := hs
  obtain ⟨A', c', rfl, hl', hm', hc'⟩ := hs'
  unfold maxLen at hm hm'
  have HC := Lib.hid hc; have HC' := Lib.hid hc'; have HG := Lib.hid hG; have IH := Lib.hid ih
  clear hc hc' hG ih
  by_cases hll : xs.length = ys.length
  · have HLL := Lib.hid hll
    rw [← hll] at hl' ⊢
    clear hll
    go_enter Tryz.func69, Tryz.ntmps69
    go_wp2_with fail
    go_loopw [5] (fun i wr => ∃ (k : Nat), k ≤ xs.length ∧ i = .int .i64 k ∧ all2 (wordS (Nd.same f)) (xs.drop k) (ys.drop k) = all2 (wordS (Nd.same f)) xs ys ∧ Below w.heap.size w wr) (fun i _ => xs.length - (intOf i).toNat)
    case atStart => exact ⟨0, by omega, rfl, rfl, Below.refl _ _⟩
    case round =>
      obtain ⟨k, hk, rfl, hf, hb⟩ := hrel
      have HF := Lib.hid hf; have HB := Lib.hid hb
      clear hf
      by_cases hlt : k < xs.length
      · have hlt' : k < ys.length := by rw [← HLL.out]; exact hlt
        obtain ⟨b, off, rfl, hg, hel⟩ := HC.out (by omega)
        obtain ⟨b', off', rfl, hg', hel'⟩ := HC'.out (by omega)
        obtain ⟨vs, hvl, hR0, hcell⟩ := hel k hlt
        obtain ⟨vs', hvl', hR0', hcell'⟩ := hel' k hlt'
        have hR := hR0.below HG.out hb
        have hR' := hR0'.below HG.out hb
        have z := fun j u hj => (keep_of HG.out hb _ hg).trans (hcell j u hj)
        have z' := fun j u hj => (keep_of HG.out hb _ hg').trans (hcell' j u hj)
        have HGR := Lib.hid (old_of HG.out hb)
        have HR := Lib.hid hR; have HR' := Lib.hid hR'
        have HD := Lib.hid (all2_drop (wordS (Nd.same f)) xs ys k hlt hlt')
        generalize xs[k] = xk at *
        generalize ys[k] = yk at *
        obtain ⟨A0, n0, c0, rfl⟩ := hR.shape
        obtain ⟨A0', n0', c0', rfl⟩ := hR'.shape
        have d0 : wr.cell? ⟨b, off + k, none⟩ = some (.slice A0 n0 c0) := by simpa using z 0 _ rfl
        have g0 : wr.cell? ⟨b', off' + k, none⟩ = some (.slice A0' n0' c0') := by simpa using z' 0 _ rfl
        have e0 := fun y : Gr wr => y.cell _ _ d0; have h0 := fun y : Gr wr => y.cell _ _ g0
        have gc := fun y : Gr wr => y.calls (IH.out G y.at_ _ _ _ _ _ _ xk yk (old_of HGR.out y.2) (HR.out.below HGR.out y.2) (HR'.out.below HGR.out y.2))
        have hne : Nonempty (Gr wr) := ⟨⟨_, Below.refl _ _⟩⟩
        clear z z' hel hel' hcell hcell' hvl hvl' hR hR' hR0 hR0' hg hg' hb
        unfold ag at gc
        cases hq : (wordS (Nd.same f)) xk yk
        · rw [hq] at gc
          have HQ := Lib.hid hq
          clear hq
          go_wp2_with fail
          refine wp_region_class (S := Gr wr) Gr.at_ (by kernel_rfl) (by kernel_rfl) (Gr.drew _) ?_
          repeat (go_big_quiet_step (first | (with_reducible exact gc _)))
          refine wpQuiet_nil ?_
          rintro X ⟨⟨X', hX⟩, hx⟩
          obtain rfl : X = X' := hx
          have HB1 := Lib.hid (HB.out.trans (hX.mono HB.out.size))
          clear hX gc hne e0 h0 d0 g0
          go_wp2_with fail
          go_ret
          exact ⟨ret_bool (by rw [← HF.out, HD.out, HQ.out]; rfl), HB1.out⟩
        · rw [hq] at gc
          have HQ := Lib.hid hq
          clear hq
          go_wp2_with fail
          refine wp_region_class (S := Gr wr) Gr.at_ (by kernel_rfl) (by kernel_rfl) (Gr.drew _) ?_
          repeat (go_big_quiet_step (first | (with_reducible exact gc _)))
          refine wpQuiet_nil ?_
          rintro X ⟨⟨X', hX⟩, hx⟩
          obtain rfl : X = X' := hx
          have HB1 := Lib.hid (HB.out.trans (hX.mono HB.out.size))
          clear hX gc hne e0 h0 d0 g0
          go_wp2_with fail
          go_roundw
          case rel => exact ⟨k + 1, by omega, by go_num, by rw [← HF.out, HD.out, HQ.out]; rfl, HB1.out⟩
          case measure => simp only [intOf]; omega
      · have HE : all2 (wordS (Nd.same f)) (xs.drop k) (ys.drop k) = true := by
          rw [List.drop_eq_nil_of_le (by omega), List.drop_eq_nil_of_le (by have := HLL.out; omega)]; rfl
        have HE2 := Lib.hid HE
        clear HE hb
        go_wp2_with fail
        go_ret
        exact ⟨ret_bool (by rw [← HF.out, HE2.out]), HB.out⟩
  · have HE := Lib.hid (all2_ne (wordS (Nd.same f)) xs ys hll)
    have hne : ((xs.length : Int) != (ys.length : Int)) = true := by rw [bne_iff_ne]; omega
    go_enter Tryz.func69, Tryz.ntmps69
    go_wp2_with fail
    go_ret
    exact ⟨ret_bool (by rw [HE.out]), Below.refl _ _⟩
end Go.Proofs.YtjpopekmbmcggaaGreatDoor
namespace Go.Proofs.YtjpopekmbmcggaaGreatDoor
open Go.RowKit
set_option maxRecDepth 100000 in
set_option maxHeartbeats 4000000 in
theorem sameParts_r (f : Nat) (ih : RSm f) : RPa f := fun G w A A' n n' c c' x y hG hx hy => by
  have HX0 := Lib.hid hx; have HY0 := Lib.hid hy
  obtain ⟨rfl, hnc, hcm, hwt, hpt, -⟩ := hx.cmds
  obtain ⟨rfl, hnc', hcm', hwt', hpt', -⟩ := hy.cmds
  have HS := Lib.hid (rsame_r x.p y.p A A' c c' G G w hwt hwt' hpt hpt')
  have HP := Lib.hid hpt; have HP' := Lib.hid hpt'; have HG := Lib.hid hG; have IH := Lib.hid ih
  clear hpt hpt' hx hy ih
  go_enter Tryz.func130, Tryz.ntmps130
  go_wp2_with fail
  refine HS.out.mono ?_
  rintro e w1 ⟨he, m, rfl⟩
  have hb1 := belowN (Below.refl w.heap.size w) m
  have HB1 := Lib.hid hb1
  cases hq : x.p.same y.p
  · rw [hq] at he
    subst he
    have HQ := Lib.hid (show wordS (Nd.same f) x y = false by rw [wordS, hq]; rfl)
    clear hq hb1
    go_wp2_with fail
    go_ret
    exact ⟨ret_bool HQ.out.symm, HB1.out⟩
  rw [hq] at he
  subst he
  have HQ := Lib.hid (show wordS (Nd.same f) x y = all2 (all2 (Nd.same f)) x.cmds y.cmds by rw [wordS, hq]; rfl)
  have HX2 := Lib.hid (cmds_r x.p A c G _ hwt (old_of HG.out hb1) (HP.out.old HG.out hb1))
  clear hq hb1 hG
  generalize w.drewN m = W1 at *
  go_wp2_with fail
  refine HX2.out.mono ?_
  rintro e w2 ⟨v, rfl, hcr, hb2⟩
  have HB2 := Lib.hid (HB1.out.trans (hb2.mono HB1.out.size))
  obtain ⟨A2, c2, rfl, hl2, hm2, hk2⟩ := hcr.look
  have HK := Lib.hid hk2
  have HLN := Lib.hid (show x.p.cmds.length = x.cmds.length from (HX0.out.cmds).2.2.2.2.2.len)
  have HX3 := Lib.hid (cmds_r y.p A' c' G _ hwt' (old_of HG.out HB2.out) (HP'.out.old HG.out HB2.out))
  unfold maxLen at hm2
  clear hb2 hcr hk2
  go_wp2_with fail
  refine HX3.out.mono ?_
  rintro e w3 ⟨v, rfl, hcr, hb3⟩
  have HB3 := Lib.hid (HB2.out.trans (hb3.mono HB2.out.size))
  have HB23 := Lib.hid hb3
  obtain ⟨A3, c3, rfl, hl3, hm3, hk3⟩ := hcr.look
  have HK3 := Lib.hid hk3
  have HLN3 := Lib.hid (show y.p.cmds.length = y.cmds.length from (HY0.out.cmds).2.2.2.2.2.len)
  unfold maxLen at hm3
  clear hb3 hcr hk3
  generalize hca : x.p.cmds = ca at *
  generalize hcb : y.p.cmds = cb at *
  have HCA := Lib.hid hca; have HCB := Lib.hid hcb
  clear hca hcb
  go_wp2_with fail
  go_loopw [7] (fun i wr => ∃ (k : Nat), k ≤ ca.length ∧ k ≤ cb.length ∧ i = .int .i64 k ∧ all2 (all2 (Nd.same f)) (x.cmds.drop k) (y.cmds.drop k) = all2 (all2 (Nd.same f)) x.cmds y.cmds ∧ Below w3.heap.size w3 wr) (fun i _ => ca.length - (intOf i).toNat)
  case atStart => exact ⟨0, by omega, by omega, rfl, rfl, Below.refl _ _⟩
  case round =>
    obtain ⟨k, hk, hk', rfl, hf, hb⟩ := hrel
    have HF := Lib.hid hf; have HB := Lib.hid hb
    clear hf
    by_cases hlt : k < ca.length
    · by_cases hlt' : k < cb.length
      · obtain ⟨g, rfl, z0⟩ := HK.out k hlt
        obtain ⟨g', rfl, z0'⟩ := HK3.out k hlt'
        have hbw := HB3.out.trans (hb.mono HB3.out.size)
        have h1 : k < x.cmds.length := by rw [← HLN.out]; exact hlt
        have h2 : k < y.cmds.length := by rw [← HLN3.out]; exact hlt'
        have hs := ((HX0.out.below HG.out hbw).cmds).2.2.2.2.2
        rw [HCA.out] at hs
        have hs1 := hs.get k hlt h1
        have hs' := ((HY0.out.below HG.out hbw).cmds).2.2.2.2.2
        rw [HCB.out] at hs'
        have hs2 := hs'.get k hlt' h2
        have z1 : wr.cell? ⟨g, k, none⟩ = some (.slice (ca[k]).a (ca[k]).n (ca[k]).c) := (World.cell?_of_block ((HB23.out.trans (hb.mono HB23.out.size)).block g (cell_lt z0))).trans z0
        have z2 : wr.cell? ⟨g', k, none⟩ = some (.slice (cb[k]).a (cb[k]).n (cb[k]).c) := (World.cell?_of_block (hb.block g' (cell_lt z0'))).trans z0'
        have HD := Lib.hid (all2_drop (all2 (Nd.same f)) x.cmds y.cmds k h1 h2)
        have HGR := Lib.hid (old_of HG.out hbw)
        have gc := fun X : Gr wr => X.calls (sameAll_r f IH.out G _ _ x.cmds[k] y.cmds[k] X.at_ (old_of HGR.out X.2) (SlAt.onN hs1 HGR.out X.2) (SlAt.onN hs2 HGR.out X.2))
        have e1 := fun X : Gr wr => X.cell _ _ z1
        have e2 := fun X : Gr wr => X.cell _ _ z2
        have hne : Nonempty (Gr wr) := ⟨⟨_, Below.refl _ _⟩⟩
        clear z0 z0' hs hs1 hs' hs2 hb hbw
        generalize x.cmds[k] = xk at *
        generalize y.cmds[k] = yk at *
        unfold Cm.val at gc
        cases hq : all2 (Nd.same f) xk yk
        · rw [hq] at gc
          have HQ2 := Lib.hid hq
          clear hq
          go_wp2_with fail
          refine wp_region_class (S := Gr wr) Gr.at_ (by kernel_rfl) (by kernel_rfl) (Gr.drew _) ?_
          repeat (go_big_quiet_step (first | (with_reducible exact gc _)))
          refine wpQuiet_nil ?_
          rintro X ⟨⟨X', hX⟩, hx⟩
          obtain rfl : X = X' := hx
          have HB4 := Lib.hid (HB3.out.trans ((HB.out.trans (hX.mono HB.out.size)).mono HB3.out.size))
          clear hX gc hne e1 e2 z1 z2
          go_wp2_with fail
          go_ret
          exact ⟨ret_bool (by rw [HQ.out, ← HF.out, HD.out, HQ2.out]; rfl), HB4.out⟩
        · rw [hq] at gc
          have HQ2 := Lib.hid hq
          clear hq
          go_wp2_with fail
          refine wp_region_class (S := Gr wr) Gr.at_ (by kernel_rfl) (by kernel_rfl) (Gr.drew _) ?_
          repeat (go_big_quiet_step (first | (with_reducible exact gc _)))
          refine wpQuiet_nil ?_
          rintro X ⟨⟨X', hX⟩, hx⟩
          obtain rfl : X = X' := hx
          have HB4 := Lib.hid (HB.out.trans (hX.mono HB.out.size))
          clear hX gc hne e1 e2 z1 z2
          go_wp2_with fail
          go_roundw
          case rel => exact ⟨k + 1, by omega, by omega, by go_num, by rw [← HF.out, HD.out, HQ2.out]; rfl, HB4.out⟩
          case measure => simp only [intOf]; omega
      · have hne : ¬ x.cmds.length = y.cmds.length := by have := HLN.out; have := HLN3.out; omega
        have HE := Lib.hid (all2_ne (all2 (Nd.same f)) _ _ hne)
        have hz : ((ca.length : Int) == (cb.length : Int)) = false := by rw [beq_eq_false_iff_ne]; omega
        clear hb
        go_wp2_with fail
        go_ret
        exact ⟨ret_bool (by rw [HQ.out, HE.out]), HB3.out.trans (HB.out.mono HB3.out.size)⟩
    · by_cases hll : ca.length = cb.length
      · have HE : all2 (all2 (Nd.same f)) (x.cmds.drop k) (y.cmds.drop k) = true := by
          rw [List.drop_eq_nil_of_le (by have := HLN.out; omega), List.drop_eq_nil_of_le (by have := HLN3.out; omega)]; rfl
        have HE2 := Lib.hid HE
        have hz : ((ca.length : Int) == (cb.length : Int)) = true := by rw [beq_iff_eq]; omega
        clear hb HE
        go_wp2_with fail
        go_ret
        exact ⟨ret_bool (by rw [HQ.out, ← HF.out, HE2.out]), HB3.out.trans (HB.out.mono HB3.out.size)⟩
      · have hne : ¬ x.cmds.length = y.cmds.length := by have := HLN.out; have := HLN3.out; omega
        have HE := Lib.hid (all2_ne (all2 (Nd.same f)) _ _ hne)
        have hz : ((ca.length : Int) == (cb.length : Int)) = false := by rw [beq_eq_false_iff_ne]; omega
        clear hb
        go_wp2_with fail
        go_ret
        exact ⟨ret_bool (by rw [HQ.out, HE.out]), HB3.out.trans (HB.out.mono HB3.out.size)⟩
end Go.Proofs.YtjpopekmbmcggaaGreatDoor
namespace Go.Proofs.YtjpopekmbmcggaaGreatDoor
open Go.RowKit
theorem Below.grow {w w' : World} (h : Below w.heap.size w w') (o : Obj) : Below w.heap.size w (w'.alloc o) := h.alloc h.size o
end Go.Proofs.YtjpopekmbmcggaaGreatDoor
