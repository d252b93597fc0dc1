/- conchlaw24.PartJoins, walked: true, whatever the words. -/
import Derived.Test.YtjpopekmbmcggaaProwStep
import Derived.Test.YtjpopekmbmcggaaPjPlain
import Derived.Test.YtjpopekmbmcggaaAwake24
import Derived.Test.YtjpopekmbmcggaaRefRight
import Derived.Test.YtjpopekmbmcggaaProgRight
import Derived.Test.YtjpopekmbmcggaaProgCountW
import Derived.Test.YtjpopekmbmcggaaProgDeepW
import Derived.Test.YtjpopekmbmcggaaMuchW
import Derived.Test.YtjpopekmbmcggaaGr
import Derived.Lib.MinMax
namespace Go.Proofs.Ytjpopekmbmcggaa
open Go.RowKit

set_option maxRecDepth 100000 in
set_option maxHeartbeats 8000000 in
theorem partJoins_w (la lb : Pts) (Aa Ab : Option Addr) (ca cb : Nat) (w : World) (ha : PtsAt (Old w) w Aa 0 la) (hb : PtsAt (Old w) w Ab 0 lb) (hca : la.len ≤ ca) (hcb : lb.len ≤ cb) (hwa : la.mx ≤ 562949953421312) (hwb : lb.mx ≤ 562949953421312) :
    Calls Try.prog 4 #[.agg #[.slice Aa la.len ca], .agg #[.slice Ab lb.len cb]] w fun e w' => e = .returned (.bool true) ∧ Below w.heap.size w w' := by
  go_enter Try.func4, Try.ntmps4
  obtain ⟨ma, hma⟩ : ∃ ma, la.muchW = ma := ⟨_, rfl⟩
  obtain ⟨mb, hmb⟩ : ∃ mb, lb.muchW = mb := ⟨_, rfl⟩
  have hlna : ma ≤ 200 → la.len ≤ 1000 := fun h => Pts.muchW_len (by omega)
  have hlnb : mb ≤ 200 → lb.len ≤ 1000 := fun h => Pts.muchW_len (by omega)
  have HLA := Lib.hid hlna; have HLB := Lib.hid hlnb; have HMA := Lib.hid hma; have HMB := Lib.hid hmb
  clear hlna hlnb hma hmb
  go_wp2_with fail
  generalize hw1 : World.alloc _ _ = w1
  have hb1 : Below w.heap.size w w1 := by
    rw [← hw1]
    exact ((Below.refl _ _).alloc (Nat.le_refl _) _).alloc (by simp) _
  have c0 : w1.cell? ⟨w.heap.size, 0, none⟩ = some (.slice Aa la.len ca) := by rw [← hw1]; simp
  have c1 : w1.cell? ⟨w.heap.size + 1, 0, none⟩ = some (.slice Ab lb.len cb) := by rw [← hw1]; simp
  have hs1 : w1.heap.size = w.heap.size + 2 := by rw [← hw1]; simp
  have ha1 := ha.lift hb1
  have hb1' := hb.lift hb1
  clear hw1
  refine (much_w la _ Aa ca w1 hwa ha1).mono ?_
  rintro e w2 ⟨rfl, m, rfl⟩
  rw [HMA.out]
  by_cases h1 : ma ≤ 200
  · go_wp2_with fail
    refine (much_w lb _ Ab cb _ hwb (hb1'.drewN m)).mono ?_
    rintro e w2 ⟨rfl, m2, rfl⟩
    rw [HMB.out]
    have hbm := belowN hb1 (m + m2)
    have d0 : (w1.drewN (m + m2)).cell? ⟨w.heap.size, 0, none⟩ = some (.slice Aa la.len ca) := by simpa using c0
    have d1 : (w1.drewN (m + m2)).cell? ⟨w.heap.size + 1, 0, none⟩ = some (.slice Ab lb.len cb) := by simpa using c1
    have hs2 : (w1.drewN (m + m2)).heap.size = w.heap.size + 2 := by simpa using hs1
    by_cases h2 : mb ≤ 200
    · go_wp2_with fail
      revert hbm d0 d1 hs2
      generalize w1.drewN (m + m2) = W0
      intro hbm d0 d1 hs2
      refine (right_r la Aa ca (Old w) W0 hwa (fun k (hk : k < w.heap.size) => by omega) (ha.lift hbm)).mono ?_
      rintro e w3 ⟨rfl, hb3⟩
      have hbm3 := hbm.trans (hb3.mono (show w.heap.size ≤ W0.heap.size by omega))
      have d0 := (World.cell?_of_block (hb3.block w.heap.size (by omega))).trans d0
      have d1 := (World.cell?_of_block (hb3.block (w.heap.size + 1) (by omega))).trans d1
      have hs3 : w.heap.size + 2 ≤ w3.heap.size := by have := hb3.size; omega
      clear hbm hb3 hs2
      cases hra : la.right with
      | false =>
        go_wp2_with fail
        refine (awake24 _).mono ?_
        rintro e w3 ⟨rfl, hb3⟩
        go_wp2_with fail
        go_ret
        exact ⟨rfl, hbm3.trans (hb3.mono hbm3.size)⟩
      | true =>
        go_wp2_with fail
        refine (right_r lb Ab cb (Old w) w3 hwb (fun k (hk : k < w.heap.size) => by omega) (hb.lift hbm3)).mono ?_
        rintro e w4 ⟨rfl, hb4⟩
        have hbm := hbm3.trans (hb4.mono (show w.heap.size ≤ w3.heap.size by omega))
        have d0 := (World.cell?_of_block (hb4.block w.heap.size (by omega))).trans d0
        have d1 := (World.cell?_of_block (hb4.block (w.heap.size + 1) (by omega))).trans d1
        have hs4 : w.heap.size + 2 ≤ w4.heap.size := by have := hb4.size; omega
        clear hbm3 hb4 hs3
        cases hrb : lb.right with
        | false =>
          go_wp2_with fail
          refine (awake24 _).mono ?_
          rintro e w3 ⟨rfl, hb3⟩
          go_wp2_with fail
          go_ret
          exact ⟨rfl, hbm.trans (hb3.mono hbm.size)⟩
        | true =>
          go_wp2_with fail
          revert hbm d0 d1 hs4
          generalize w4 = W
          intro hbm d0 d1 hs2
          have hla := HLA.out h1
          have hlb := HLB.out h2
          have HS := Lib.hid hs2; clear hs2
          have hG : ∀ k, Old w k → k < W.heap.size := fun k (hk : k < w.heap.size) => by have := HS.out; omega
          have hlt0 : w.heap.size < W.heap.size := by have := HS.out; omega
          have hlt1 : w.heap.size + 1 < W.heap.size := by have := HS.out; omega
          have n0 := World.new_ne W ⟨w.heap.size, 0, none⟩ d0
          have n1 := World.new_ne W ⟨w.heap.size + 1, 0, none⟩ d1
          have haW := ha.lift hbm
          have hbW := hb.lift hbm
          have hold : ∀ {X : World} {A : Option Addr} {i : Nat} {l : Pts}, PtsAt (Old w) W A i l → Below W.heap.size W X → PtsAt (Old w) X A i l := fun h hX => h.keep fun _ hp => World.cell?_of_block (hX.block _ (hG _ hp))
          have hcell : ∀ {X : World} {p : Addr} {v : Value}, W.cell? p = some v → Below W.heap.size W X → X.cell? p = some v := fun h hX => (World.cell?_of_block (hX.block _ (cell_lt h))).trans h
          have hmore : ∀ {X Y : World} {v : Value} {l : Pts}, Prow (Old w) W.heap.size X v l → Below W.heap.size W X → Below X.heap.size X Y → Prow (Old w) W.heap.size Y v l := fun h hX hY => h.below (fun k hk => Nat.lt_of_lt_of_le (hG k hk) hX.size) hY
          go_cut [5] from 30 to 37 (fun v5 wx => ∃ (g : Nat) (A2 : Option Addr) (c2 : Nat), v5 = .pointer (some ⟨g, 0, none⟩) ∧ Below W.heap.size W wx ∧ wx.cell? ⟨g, 0, none⟩ = some (.slice A2 (la.app lb).len c2) ∧ (la.app lb).len ≤ c2 ∧
              Prow (Old w) W.heap.size wx (.slice A2 (la.app lb).len c2) (la.app lb))
          case first =>
            go_region_held3 (fun w' => w'.cell? ⟨w.heap.size, 0, none⟩ = some (.slice Aa la.len ca) ∧ w'.cell? ⟨w.heap.size + 1, 0, none⟩ = some (.slice Ab lb.len cb))
              (exact ⟨hcell d0 (by repeat (first | exact Below.refl _ _ | (with_reducible refine Below.drew ?_) | (with_reducible refine Below.grow ?_ _) | (with_reducible refine Below.setCell ?_ (by first | exact hle3 | exact Nat.le_refl _ | (simp; done)) _) | (with_reducible refine Below.trans ?_ hbb1) | (with_reducible refine Below.trans ?_ hbb2))), hcell d1 (by repeat (first | exact Below.refl _ _ | (with_reducible refine Below.drew ?_) | (with_reducible refine Below.grow ?_ _) | (with_reducible refine Below.setCell ?_ (by first | exact hle3 | exact Nat.le_refl _ | (simp; done)) _) | (with_reducible refine Below.trans ?_ hbb1) | (with_reducible refine Below.trans ?_ hbb2)))⟩)
              (first
                | (refine step_prow (by rfl) _ _ (by rfl) (Old w) W.heap.size .nil la (by rfl) (by rfl) (Prow.start (by omega) (by first | exact heap_alloc _ _ | exact heap_alloc_older _ _ _ | exact heap_alloc_newer _ _ _))
                    (hold haW (by repeat (first | exact Below.refl _ _ | (with_reducible refine Below.drew ?_) | (with_reducible refine Below.grow ?_ _) | (with_reducible refine Below.setCell ?_ (by first | exact hle3 | exact Nat.le_refl _ | (simp; done)) _) | (with_reducible refine Below.trans ?_ hbb1) | (with_reducible refine Below.trans ?_ hbb2)))) (fun _ h => h) hG (by show 0 + la.len ≤ _; omega) (Below.size (B := W.heap.size) (w := W) (by repeat (first | exact Below.refl _ _ | (with_reducible refine Below.drew ?_) | (with_reducible refine Below.grow ?_ _) | (with_reducible refine Below.setCell ?_ (by first | exact hle3 | exact Nat.le_refl _ | (simp; done)) _) | (with_reducible refine Below.trans ?_ hbb1) | (with_reducible refine Below.trans ?_ hbb2)))) hca ?_
                   intro A1 c1 w3 hr1 hc1 hg1 hbb1 ho1 hk1
                   have hle3 : W.heap.size ≤ w3.heap.size := Below.size (B := W.heap.size) (w := W) (by repeat (first | exact Below.refl _ _ | (with_reducible refine Below.drew ?_) | (with_reducible refine Below.grow ?_ _) | (with_reducible refine Below.setCell ?_ (by first | exact hle3 | exact Nat.le_refl _ | (simp; done)) _) | (with_reducible refine Below.trans ?_ hbb1) | (with_reducible refine Below.trans ?_ hbb2)))
                   first
                     | (have q1 := hk1 W.heap.size #[.slice none 0 0] 24 (0, 0) (by decide) (by exact heap_alloc_older _ _ _))
                     | (have q1 := hk1 (W.heap.size + 1) #[.slice none 0 0] 24 (0, 0) (by decide) (by exact heap_alloc_newer _ _ _))
                     | skip)
                | (refine step_prow (by rfl) _ _ (by rfl) (Old w) W.heap.size (Pts.nil.app la) lb (by rfl) (by rfl) (by first | exact hr1 | exact hmore hr1 (by repeat (first | exact Below.refl _ _ | (with_reducible refine Below.drew ?_) | (with_reducible refine Below.grow ?_ _) | (with_reducible refine Below.setCell ?_ (by first | exact hle3 | exact Nat.le_refl _ | (simp; done)) _) | (with_reducible refine Below.trans ?_ hbb1) | (with_reducible refine Below.trans ?_ hbb2))) (by repeat (first | exact Below.refl _ _ | (with_reducible refine Below.drew ?_) | (with_reducible refine Below.grow ?_ _) | (with_reducible refine Below.setCell ?_ (by first | exact hle3 | exact Nat.le_refl _ | (simp; done)) _) | (with_reducible refine Below.trans ?_ hbb1) | (with_reducible refine Below.trans ?_ hbb2))))
                    (hold hbW (by repeat (first | exact Below.refl _ _ | (with_reducible refine Below.drew ?_) | (with_reducible refine Below.grow ?_ _) | (with_reducible refine Below.setCell ?_ (by first | exact hle3 | exact Nat.le_refl _ | (simp; done)) _) | (with_reducible refine Below.trans ?_ hbb1) | (with_reducible refine Below.trans ?_ hbb2)))) (fun _ h => h) hG (by show la.len + lb.len ≤ _; omega) (Below.size (B := W.heap.size) (w := W) (by repeat (first | exact Below.refl _ _ | (with_reducible refine Below.drew ?_) | (with_reducible refine Below.grow ?_ _) | (with_reducible refine Below.setCell ?_ (by first | exact hle3 | exact Nat.le_refl _ | (simp; done)) _) | (with_reducible refine Below.trans ?_ hbb1) | (with_reducible refine Below.trans ?_ hbb2)))) hcb ?_
                   intro A2 c2 w4 hr2 hc2 hg2 hbb2 ho2 hk2
                   first
                     | (have q2 := hk2 _ _ _ _ (by decide) q1; obtain ⟨r1, r2⟩ := cellOf q2)
                     | (have q2 := hk2 w3.heap.size #[.slice none 0 0] 24 (0, 0) (by decide) (by exact heap_alloc _ _); obtain ⟨r1, r2⟩ := cellOf q2)
                     | skip))
            · go_wp2_with fail
              go_meet
              exact ⟨_, A2, c2, rfl, (by repeat (first | exact Below.refl _ _ | (with_reducible refine Below.drew ?_) | (with_reducible refine Below.grow ?_ _) | (with_reducible refine Below.setCell ?_ (by first | exact hle3 | exact Nat.le_refl _ | (simp; done)) _) | (with_reducible refine Below.trans ?_ hbb1) | (with_reducible refine Below.trans ?_ hbb2))), by simp [Pts.app], hc2, hmore hr2 (by repeat (first | exact Below.refl _ _ | (with_reducible refine Below.drew ?_) | (with_reducible refine Below.grow ?_ _) | (with_reducible refine Below.setCell ?_ (by first | exact hle3 | exact Nat.le_refl _ | (simp; done)) _) | (with_reducible refine Below.trans ?_ hbb1) | (with_reducible refine Below.trans ?_ hbb2))) (by repeat (first | exact Below.refl _ _ | (with_reducible refine Below.drew ?_) | (with_reducible refine Below.grow ?_ _) | (with_reducible refine Below.setCell ?_ (by first | exact hle3 | exact Nat.le_refl _ | (simp; done)) _) | (with_reducible refine Below.trans ?_ hbb1) | (with_reducible refine Below.trans ?_ hbb2)))⟩
            all_goals
              go_wp2_with fail
              go_meet
              exact ⟨_, A2, c2, rfl, (by repeat (first | exact Below.refl _ _ | (with_reducible refine Below.drew ?_) | (with_reducible refine Below.grow ?_ _) | (with_reducible refine Below.setCell ?_ (by first | exact hle3 | exact Nat.le_refl _ | (simp; done)) _) | (with_reducible refine Below.trans ?_ hbb1) | (with_reducible refine Below.trans ?_ hbb2))), set_known q2, hc2, hr2.setOther (fun k hk => by have := hG k hk; first | omega | (have := hle3; omega)) q2 (by decide) _⟩
          case rest =>
            obtain ⟨g, A2, c2, rfl, hb5, hc5, hl5, hr5⟩ := hcut
            obtain ⟨A3, c3, hv3, hl3, _, hp5⟩ := hr5.at_
            injection hv3 with e1 e2 e3
            subst e1 e3
            have k0 := hcell d0 hb5
            have k1 := hcell d1 hb5
            have hap := hold haW hb5
            have hbp := hold hbW hb5
            have hst : w.heap.size ≤ W.heap.size := by omega
            clear hold hcell hmore n0 n1 haW hbW d0 d1
            have hna := Pts.right_len hra
            have hnb := Pts.right_len hrb
            obtain ⟨na, hna1⟩ : ∃ na, la.len = na + 1 := ⟨la.len - 1, by omega⟩
            obtain ⟨xk, xt, xo, xkids, xcm, xr, hdx⟩ := Pts.drop_cons na la (by omega)
            have hx := hap.at_ na
            rw [hdx, Nat.zero_add] at hx
            obtain ⟨bx, offx, Akx, ckx, rfl, hGx, x0, x1, x2, x3, x4, _, _, _⟩ := hx
            obtain ⟨yk, yt, yo, ykids, ycm, yr, hdy⟩ := Pts.drop_cons 0 lb hnb
            have hy := hbp.at_ 0
            rw [hdy, Nat.zero_add] at hy
            obtain ⟨by_, offy, Aky, cky, rfl, hGy, y0, y1, y2, y3, y4, _, _, _⟩ := hy
            simp only [Nat.zero_mul, Nat.add_zero] at y0 y1 y2 y3 y4
            rw [Pts.drop_zero] at hdy
            unfold Cm.val at x4 y4
            have hlm : ((la.len : Int) - 1) = (na : Int) := by omega
            have hwr : IntKind.i64.wrap (na : Int) = (na : Int) := by rw [IntKind.wrap_i64]; omega
            have hlm0 : (0 : Int) ≤ (na : Int) := by omega
            have hlm1 : (na : Int) < (la.len : Int) := by omega
            have HNA := Lib.hid hna1
            clear hna1
            have hlm2 : (0 : Int) < (lb.len : Int) := by omega
            have hkk : ∀ {X : World} {p : Addr} {v : Value}, wc.cell? p = some v → Below wc.heap.size wc X → X.cell? p = some v := fun h hX => (World.cell?_of_block (hX.block _ (cell_lt h))).trans h
            have HK := Lib.hid (show ∀ X, Below wc.heap.size wc X → (X.cell? ⟨w.heap.size, 0, none⟩ = some (.slice (some ⟨bx, offx, none⟩) la.len ca) ∧ X.cell? ⟨w.heap.size + 1, 0, none⟩ = some (.slice (some ⟨by_, offy, none⟩) lb.len cb) ∧ X.cell? ⟨bx, offx + na * 5, none⟩ = some (.int .i64 xk) ∧ X.cell? ⟨bx, offx + na * 5 + 1, none⟩ = some (.string xt) ∧ X.cell? ⟨bx, offx + na * 5 + 2, none⟩ = some (.string xo) ∧ X.cell? ⟨bx, offx + na * 5 + 3, none⟩ = some (.slice Akx xkids.len ckx) ∧ X.cell? ⟨bx, offx + na * 5 + 4, none⟩ = some (.slice xcm.a xcm.n xcm.c) ∧ X.cell? ⟨by_, offy, none⟩ = some (.int .i64 yk) ∧ X.cell? ⟨by_, offy + 1, none⟩ = some (.string yt) ∧ X.cell? ⟨by_, offy + 2, none⟩ = some (.string yo) ∧ X.cell? ⟨by_, offy + 3, none⟩ = some (.slice Aky ykids.len cky) ∧ X.cell? ⟨by_, offy + 4, none⟩ = some (.slice ycm.a ycm.n ycm.c)) from fun X hX => ⟨hkk k0 hX, hkk k1 hX, hkk x0 hX, hkk x1 hX, hkk x2 hX, hkk x3 hX, hkk x4 hX, hkk y0 hX, hkk y1 hX, hkk y2 hX, hkk y3 hX, hkk y4 hX⟩)
            have HC5 := Lib.hid (show ∀ X, Below wc.heap.size wc X → X.cell? ⟨g, 0, none⟩ = some (.slice A2 (la.app lb).len c2) from fun X hX => hkk hc5 hX)
            have HAP := Lib.hid hap; have HBP := Lib.hid hbp; have HP5 := Lib.hid hp5; have HR5 := Lib.hid hr5; have HHX := Lib.hid hdx; have HHY := Lib.hid hdy
            have HBM := Lib.hid hbm; have HB5 := Lib.hid hb5; have HGG := Lib.hid hG
            clear hkk x0 x1 x2 x3 x4 y0 y1 y2 y3 y4 hc5 k0 k1 hap hbp hp5 hr5 hdx hdy hbm hb5 hG
            go_wp2_with fail
            go_cut [6, 7] from 38 to 49 (fun v6 v7 wx => ∃ g6 g7 : Nat, v6 = .pointer (some ⟨g6, 0, none⟩) ∧ v7 = .pointer (some ⟨g7, 0, none⟩) ∧ Below wc.heap.size wc wx ∧ wx.cell? ⟨g6, 0, none⟩ = some (.int .i64 xk) ∧ wx.cell? ⟨g6, 1, none⟩ = some (.string xt) ∧ wx.cell? ⟨g7, 0, none⟩ = some (.int .i64 yk))
            case first =>
              go_region_held3 (fun X => X.cell? ⟨w.heap.size, 0, none⟩ = some (.slice (some ⟨bx, offx, none⟩) la.len ca) ∧ X.cell? ⟨w.heap.size + 1, 0, none⟩ = some (.slice (some ⟨by_, offy, none⟩) lb.len cb) ∧ X.cell? ⟨bx, offx + na * 5, none⟩ = some (.int .i64 xk) ∧ X.cell? ⟨bx, offx + na * 5 + 1, none⟩ = some (.string xt) ∧ X.cell? ⟨bx, offx + na * 5 + 2, none⟩ = some (.string xo) ∧ X.cell? ⟨bx, offx + na * 5 + 3, none⟩ = some (.slice Akx xkids.len ckx) ∧ X.cell? ⟨bx, offx + na * 5 + 4, none⟩ = some (.slice xcm.a xcm.n xcm.c) ∧ X.cell? ⟨by_, offy, none⟩ = some (.int .i64 yk) ∧ X.cell? ⟨by_, offy + 1, none⟩ = some (.string yt) ∧ X.cell? ⟨by_, offy + 2, none⟩ = some (.string yo) ∧ X.cell? ⟨by_, offy + 3, none⟩ = some (.slice Aky ykids.len cky) ∧ X.cell? ⟨by_, offy + 4, none⟩ = some (.slice ycm.a ycm.n ycm.c))
                (exact HK.out _ (by repeat (first | exact Below.refl _ _ | (with_reducible refine Below.drew ?_) | (with_reducible refine Below.grow ?_ _) | (with_reducible refine Below.setCell ?_ (by first | exact Nat.le_refl _ | (simp; done)) _))))
                (fail)
              all_goals
                go_wp2_with fail
                go_meet
                exact ⟨_, _, rfl, rfl, (by repeat (first | exact Below.refl _ _ | (with_reducible refine Below.drew ?_) | (with_reducible refine Below.grow ?_ _) | (with_reducible refine Below.setCell ?_ (by first | exact Nat.le_refl _ | (simp; done)) _))), by simp, by simp, by simp⟩
            case rest =>
              obtain ⟨g6, g7, rfl, rfl, hb7, z0, z1, zy⟩ := hcut
              obtain ⟨k0, k1, _⟩ := HK.out _ hb7
              have hc5 := HC5.out _ hb7
              have HX1 := Lib.hid (show oneB 0 xk xt.toList xo.toList xkids.len xcm.n xkids.headK xkids.headT (Pts.allP 1 none xkids) (Pts.allP 2 none xkids) = true by
                have h := hra
                unfold Pts.right at h
                simp only [Bool.and_eq_true] at h
                exact Pts.allP_one 0 na la none h.1.2 HHX.out)
              have hxw := Pts.mx_at na la HHX.out
              have hxs : (xt.size : Int) ≤ 562949953421312 := by omega
              obtain ⟨bad, hbad⟩ : ∃ bad, bad = (xk == 1 && (yk == 1 || (ld0 xt.toList == 36) && (yk == 5 || yk == 6 || yk == 7))) := ⟨_, rfl⟩
              have HBAD := Lib.hid hbad
              have HB7 := Lib.hid hb7
              clear hbad hxw hb7
              go_upto_region 5 with fail
              go_cut [8] from 50 to 82 (fun v8 wx => v8 = .bool bad ∧ wc = wx)
              case first =>
                cases hx1 : (xk == 1)
                · go_wp2_with fail
                  go_meet
                  exact ⟨congrArg Value.bool (by rw [HBAD.out, hx1]; rfl), rfl⟩
                · cases hy1 : (yk == 1)
                  · obtain rfl : xk = 1 := by simpa using hx1
                    have hp0 : 0 < xt.size := by rw [size_list]; exact List.length_pos_iff.2 (oneB_lit HX1.out).1
                    have hp1 : (0 : Int) ≤ (xt.size : Int) - 1 := by omega
                    have hp3 : (xt.size : Int) - 1 < (xt.size : Int) := by omega
                    have hp4 : ((xt.size : Int) - 1).toNat = xt.size - 1 := by omega
                    clear hx1
                    cases ml : ((xt[xt.size - 1].toNat : Int) == 36)
                    · have mlb : (xt[xt.size - 1] == 36) = false := by rw [beq_eq_false_iff_ne]; intro e; exact (beq_eq_false_iff_ne.1 ml) (by rw [e]; rfl)
                      have HLD := Lib.hid (show (ld0 xt.toList == 36) = false by rw [ld0_get xt hp0]; exact mlb)
                      clear mlb
                      go_wp2_with fail
                      go_meet
                      exact ⟨congrArg Value.bool (by rw [HBAD.out, hy1, HLD.out]; rfl), rfl⟩
                    · have mlb : (xt[xt.size - 1] == 36) = true := by rw [beq_iff_eq]; exact UInt8.toNat_inj.1 (by have := eq_of_beq ml; show _ = 36; omega)
                      have HLD := Lib.hid (show (ld0 xt.toList == 36) = true by rw [ld0_get xt hp0]; exact mlb)
                      clear mlb
                      cases hy5 : (yk == 5)
                      · cases hy6 : (yk == 6)
                        · cases hy7 : (yk == 7)
                          all_goals
                            go_wp2_with fail
                            go_meet
                            exact ⟨congrArg Value.bool (by rw [HBAD.out, hy1, HLD.out, hy5, hy6, hy7]; rfl), rfl⟩
                        · go_wp2_with fail
                          go_meet
                          exact ⟨congrArg Value.bool (by rw [HBAD.out, hy1, HLD.out, hy5, hy6]; rfl), rfl⟩
                      · go_wp2_with fail
                        go_meet
                        exact ⟨congrArg Value.bool (by rw [HBAD.out, hy1, HLD.out, hy5]; rfl), rfl⟩
                  · go_wp2_with fail
                    go_meet
                    exact ⟨congrArg Value.bool (by rw [HBAD.out, hx1, hy1]; rfl), rfl⟩
              case rest =>
                obtain ⟨rfl, rfl⟩ := hcut
                have hpw : ∀ x : Gr wc, Below _ _ x.at_ := fun x => HB7.out.trans (x.2.mono HB7.out.size)
                have hsz5 := HB5.out.size
                have hlt5 : ∀ k, (Old w k ∨ (Value.slice A2 (la.app lb).len c2).ownBlock = some k) → k < _ := fun k hk => by
                  rcases hk with hk | hk
                  · exact Nat.lt_of_lt_of_le (HGG.out k hk) hsz5
                  · exact (HR5.out.lt hk).2
                have hwt : (la.app lb).mx ≤ 562949953421312 := by have := Pts.mx_app la lb; omega
                have hRA := Pts.right_app hra hrb (by rw [show la.len - 1 = na by have := HNA.out; omega]; exact HHX.out)
                have hyk : lb.headK = yk := by rw [HHY.out]; rfl
                rw [hyk, ← HBAD.out] at hRA
                have hca' := Pts.count_app la lb
                have hda' := Pts.dpW_app la lb
                obtain ⟨CA, hCA⟩ : ∃ x, wrap64 (la.count : Int) = x := ⟨_, rfl⟩
                obtain ⟨CB, hCB⟩ : ∃ x, wrap64 (lb.count : Int) = x := ⟨_, rfl⟩
                obtain ⟨CS, hCS⟩ : ∃ x, wrap64 (CA + CB) = x := ⟨_, rfl⟩
                have hCT : wrap64 ((la.count : Int) + (lb.count : Int)) = CS := by rw [← hCS, ← hCA, ← hCB, wrap_two]
                obtain ⟨DA, hDA⟩ : ∃ x, la.dpW = x := ⟨_, rfl⟩
                obtain ⟨DB, hDB⟩ : ∃ x, lb.dpW = x := ⟨_, rfl⟩
                have PA : ∀ x : Gr wc, PtsAt (Old w) x.at_ _ 0 la ∧ (∀ k, Old w k → k < x.at_.heap.size) := fun x => ⟨HAP.out.keep fun _ hp => World.cell?_of_block ((hpw x).block _ (hlt5 _ (.inl hp))), fun k hk => Nat.lt_of_lt_of_le (hlt5 _ (.inl hk)) (hpw x).size⟩
                have PB : ∀ x : Gr wc, PtsAt (Old w) x.at_ _ 0 lb := fun x => HBP.out.keep fun _ hp => World.cell?_of_block ((hpw x).block _ (hlt5 _ (.inl hp)))
                have PC : ∀ x : Gr wc, PtsAt (fun k => Old w k ∨ (Value.slice A2 (la.app lb).len c2).ownBlock = some k) x.at_ _ 0 (la.app lb) ∧ (∀ k, (Old w k ∨ (Value.slice A2 (la.app lb).len c2).ownBlock = some k) → k < x.at_.heap.size) := fun x => ⟨HP5.out.keep fun _ hp => World.cell?_of_block ((hpw x).block _ (hlt5 _ hp)), fun k hk => Nat.lt_of_lt_of_le (hlt5 _ hk) (hpw x).size⟩
                have hR1 : ∀ x : Gr wc, Calls Try.prog 9 #[.agg #[.slice A2 (la.app lb).len c2]] x.at_ fun e w' => e = .returned (.bool (!bad)) ∧ ∃ y : Gr wc, w' = y.at_ := fun x => by
                  have := x.calls (right_p (la.app lb) A2 c2 _ x.at_ hwt (PC x).2 (PC x).1)
                  rwa [hRA] at this
                have hC1 : ∀ x : Gr wc, Calls Try.prog 11 #[.agg #[.slice A2 (la.app lb).len c2]] x.at_ fun e w' => e = .returned (.int .i64 CS) ∧ ∃ y : Gr wc, w' = y.at_ := fun x => by
                  have := x.calls (count_w (la.app lb) A2 c2 _ x.at_ hwt (PC x).2 (PC x).1)
                  rwa [hca', Int.natCast_add, hCT] at this
                have hC2 : ∀ x : Gr wc, Calls Try.prog 11 #[.agg #[.slice (some ⟨bx, offx, none⟩) la.len ca]] x.at_ fun e w' => e = .returned (.int .i64 CA) ∧ ∃ y : Gr wc, w' = y.at_ := fun x => hCA ▸ x.calls (count_w la _ ca _ x.at_ hwa (PA x).2 (PA x).1)
                have hC3 : ∀ x : Gr wc, Calls Try.prog 11 #[.agg #[.slice (some ⟨by_, offy, none⟩) lb.len cb]] x.at_ fun e w' => e = .returned (.int .i64 CB) ∧ ∃ y : Gr wc, w' = y.at_ := fun x => hCB ▸ x.calls (count_w lb _ cb _ x.at_ hwb (PA x).2 (PB x))
                have hD2 : ∀ x : Gr wc, Calls Try.prog 13 #[.agg #[.slice (some ⟨bx, offx, none⟩) la.len ca]] x.at_ fun e w' => e = .returned (.int .i64 DA) ∧ ∃ y : Gr wc, w' = y.at_ := fun x => hDA ▸ x.calls (deep_w la _ ca _ x.at_ hwa (PA x).2 (PA x).1)
                have hD3 : ∀ x : Gr wc, Calls Try.prog 13 #[.agg #[.slice (some ⟨by_, offy, none⟩) lb.len cb]] x.at_ fun e w' => e = .returned (.int .i64 DB) ∧ ∃ y : Gr wc, w' = y.at_ := fun x => hDB ▸ x.calls (deep_w lb _ cb _ x.at_ hwb (PA x).2 (PB x))
                have hA1 : ∀ x : Gr wc, Calls Try.prog 6 #[] x.at_ fun e w' => e = .returned (.bool true) ∧ ∃ y : Gr wc, w' = y.at_ := fun x => x.calls (awake24 _)
                have x5 : ∀ x : Gr wc, x.at_.cell? ⟨g, 0, none⟩ = some (.slice A2 (la.app lb).len c2) := fun x => x.cell _ _ hc5
                have x0 : ∀ x : Gr wc, x.at_.cell? ⟨w.heap.size, 0, none⟩ = some (.slice (some ⟨bx, offx, none⟩) la.len ca) := fun x => x.cell _ _ k0
                have x1 : ∀ x : Gr wc, x.at_.cell? ⟨w.heap.size + 1, 0, none⟩ = some (.slice (some ⟨by_, offy, none⟩) lb.len cb) := fun x => x.cell _ _ k1
                have hb6 : ∀ x : Gr wc, Below w.heap.size w x.at_ := fun x => (HBM.out.trans (HB5.out.mono HBM.out.size)).trans ((hpw x).mono (Nat.le_trans HBM.out.size HB5.out.size))
                have hD1 : ∀ x : Gr wc, Calls Try.prog 13 #[.agg #[.slice A2 (la.app lb).len c2]] x.at_ fun e w' => e = .returned (.int .i64 (max DA DB)) ∧ ∃ y : Gr wc, w' = y.at_ := fun x => by
                  have := x.calls (deep_w (la.app lb) A2 c2 _ x.at_ hwt (PC x).2 (PC x).1)
                  rwa [hda', hDA, hDB] at this
                clear PA PB PC hpw hlt5 hwt hRA hyk hca' hda' hCA hCB hCT hDA hDB hc5 k0 k1 z0 z1 zy
                go_wp2_with fail
                have hne : Nonempty (Gr wc) := ⟨⟨wc, Below.refl _ _⟩⟩
                refine wp_region_class (S := Gr wc) Gr.at_ (by kernel_rfl) (by kernel_rfl) (Gr.drew wc) ?_
                repeat (go_big_quiet_step (first | (with_reducible exact hR1 _) | (with_reducible exact hC1 _) | (with_reducible exact hC2 _) | (with_reducible exact hC3 _) | (with_reducible exact hD1 _) | (with_reducible exact hD2 _) | (with_reducible exact hD3 _) | (with_reducible exact hA1 _)))
                refine wpQuiet_nil ?_
                rintro _ ⟨x, rfl⟩
                have HB6 := hb6 x
                go_wp2_with fail
                go_ret
                exact ⟨rfl, HB6⟩
    · go_wp2_with fail
      refine (awake24 _).mono ?_
      rintro e w3 ⟨rfl, hb3⟩
      go_wp2_with fail
      go_ret
      exact ⟨rfl, hbm.trans (hb3.mono hbm.size)⟩
  · have hbm := belowN hb1 m
    have hs2 : (w1.drewN m).heap.size = w.heap.size + 2 := by simpa using hs1
    go_wp2_with fail
    refine (awake24 _).mono ?_
    rintro e w3 ⟨rfl, hb3⟩
    go_wp2_with fail
    go_ret
    exact ⟨rfl, hbm.trans (hb3.mono hbm.size)⟩
end Go.Proofs.Ytjpopekmbmcggaa
