/- conchlaw25.WordfmtJoins, walked: true, whatever the words (of bounded bulk). -/
import Derived.Test.YtpefkhbejjndeaaWfAwake
import Derived.Deep.RegionHeld3
import Derived.Deep.DeepCutAuto
namespace Go.Proofs.Ytpefkhbejjndeaa
open Go.RowKit

theorem PtsAt.lift {w w' : World} {A : Option Addr} {i : Nat} {l : Pts} (h : PtsAt (Old w) w A i l) (hb : Below w.heap.size w w') : PtsAt (Old w) w' A i l := h.keep fun _ hp => World.cell?_of_block (hb.block _ hp)

theorem Below.grow {w w' : World} (h : Below w.heap.size w w') (o : Obj) : Below w.heap.size w (w'.alloc o) := h.alloc h.size o
theorem heap_alloc_older (w : World) (o1 o2 : Obj) : ((w.alloc o1).alloc o2).heap[w.heap.size]? = some o1 := by
  rw [← heap_alloc w o1]
  exact ((Below.refl (w.alloc o1).heap.size (w.alloc o1)).alloc (Nat.le_refl _) o2).block _ (by rw [size_alloc]; omega)
theorem heap_alloc_newer (w : World) (o1 o2 : Obj) : ((w.alloc o1).alloc o2).heap[w.heap.size + 1]? = some o2 := by
  have := heap_alloc (w.alloc o1) o2
  rw [size_alloc] at this
  exact this
theorem cellOf {w : World} {g : Nat} {v : Value} {T : TypeId} (h : w.heap[g]? = some (.cells #[v] T (0, 0))) : w.cell? ⟨g, 0, none⟩ = some v ∧ w.frozen? ⟨g, 0, none⟩ = false := ⟨by simp [World.cell?, h], by simp [World.frozen?, h]⟩
theorem set_known {w : World} {g : Nat} {u0 u : Value} {T : TypeId} (h : w.heap[g]? = some (.cells #[u0] T (0, 0))) : (w.setCell ⟨g, 0, none⟩ u).cell? ⟨g, 0, none⟩ = some u := by
  simp [World.cell?, World.setCell, Array.getElem?_modify, h]
theorem Prow.setOther {G : Nat → Prop} {B : Nat} {w : World} {v : Value} {l : Pts} {g : Nat} {u0 : Value} {T : TypeId} (h : Prow G B w v l) (hG : ∀ k, G k → k ≠ g) (hh : w.heap[g]? = some (.cells #[u0] T (0, 0))) (hT : T ≠ 41) (u : Value) :
    Prow G B (w.setCell ⟨g, 0, none⟩ u) v l := by
  refine h.keep (fun p hp => World.cell?_of_block (Below.heap_setCell _ _ _ _ fun e => hG _ hp e)) fun g' hg' => Below.heap_setCell _ _ _ _ fun e => ?_
  have e' : g' = g := e
  subst e'
  obtain ⟨xs, ⟨_, ho⟩, _⟩ := h
  rcases ho with ⟨rfl, _⟩ | ⟨g', cap, cur, rfl, _, hh', _⟩
  · simp [Value.ownBlock] at hg'
  · simp [Value.ownBlock] at hg'
    subst hg'
    rw [hh'] at hh
    injection hh with hh
    injection hh with _ hh
    exact hT hh.symm
theorem Prow.start {G : Nat → Prop} {B : Nat} {w : World} {g : Nat} (hB : B ≤ g) (hh : w.heap[g]? = some (.cells #[] 41 (0, 0))) : Prow G B w (.slice (some ⟨g, 0, none⟩) 0 0) .nil :=
  ⟨[], ⟨rfl, .inr ⟨g, 0, #[], rfl, hB, hh, Nat.le_refl _, Nat.zero_le _, rfl, rfl⟩⟩, rfl⟩

theorem Pts.wt_app : ∀ l r : Pts, (l.app r).wt = l.wt + r.wt
  | .nil, r => by simp [Pts.app, Pts.wt]
  | .cons _ _ _ _ _ l, r => by rw [Pts.app, Pts.wt, Pts.wt, Pts.wt_app l r]; omega

/-- An append to a row of the call's own, at a step of a region that draws its order. -/
theorem step_prow {ops : Array Oper} {o : Oper} {a : Act} {w : World} {K : Act → World → Prop} {Q : Exit → Act → World → Prop} {E : Prop} (hgd : o.guard = none) (s x : Operand)
    (ho : o.op = .call { callee := .builtin .append, args := #[s, x], argTypes := #[31, 31] })
    (G : Nat → Prop) (B : Nat) (l l2 : Pts) {v : Value} {A : Option Addr} {c : Nat} {G2 : Nat → Prop} (hs : a.eval s = v) (hx : a.eval x = .slice A l2.len c) (h : Prow G B w v l) (hp : PtsAt G2 w A 0 l2) (hG2 : ∀ k, G2 k → G k) (hG : ∀ k, G k → k < B)
    (hlen : l.len + l2.len ≤ 1099511627776) (hB : B ≤ w.heap.size) (hc : l2.len ≤ c)
    (hK : ∀ A' c' w', Prow G B w' (.slice A' (l.app l2).len c') (l.app l2) → (l.app l2).len ≤ c' → w.grownBy w' v.ownBlock → Below B w w' → ((Value.slice A' (l.app l2).len c').ownBlock = v.ownBlock ∨ (Value.slice A' (l.app l2).len c').ownBlock = some w.heap.size) →
      (∀ (g : Nat) (cs : Array Value) (T : TypeId) (fr : Nat × Nat), T ≠ 41 → w.heap[g]? = some (Obj.cells cs T fr) → w'.heap[g]? = some (Obj.cells cs T fr)) → K (a.put o.dst (.slice A' (l.app l2).len c')) w') :
    if Region.wanted o (yielded ops a.tmps) = true then Oper.wp Try.prog o a w K Q else E := by
  have hw : Region.wanted o (yielded ops a.tmps) = true := by simp [Region.wanted, hgd]
  rw [if_pos hw]
  obtain ⟨v', w', hr, h2, h3, h4⟩ := h.append o.type hp hG2 hG hlen hB hc
  obtain ⟨A', c', rfl, hc', _⟩ := h2.at_
  have hb : Below B w w' := ⟨h3.os, h3.tape, h3.output, h3.size, fun k hk => h3.block k (Nat.lt_of_lt_of_le hk hB) fun e => by have := h.lt e.symm; omega⟩
  unfold Oper.wp execOp
  simp only [ho, resolve, invoke, builtin, Sem.run_bind, Sem.run_pure, Result.andThen_ok, List.map_toArray, List.map_cons, List.map_nil, hs, hx, hr]
  refine hK A' c' w' h2 hc' h3 hb h4 fun g cs T fr hT hh => (h3.block g (Array.getElem?_eq_some_iff.1 hh).1 fun e => ?_).trans hh
  obtain ⟨xs, ⟨_, ho⟩, _⟩ := h
  rcases ho with ⟨rfl, _⟩ | ⟨g', cap, cur, rfl, _, hh', _⟩
  · simp [Value.ownBlock] at e
  · simp [Value.ownBlock] at e
    subst e
    rw [hh'] at hh
    injection hh with hh
    injection hh with _ hh
    exact hT hh.symm

set_option maxRecDepth 100000 in
set_option maxHeartbeats 4000000 in
theorem wordfmtJoins_walk (la lb : Pts) (Aa Ab : Option Addr) (ca cb : Nat) (w : World) (ha : PtsAt (Old w) w Aa 0 la) (hb : PtsAt (Old w) w Ab 0 lb) (hca : la.len ≤ ca) (hcb : lb.len ≤ cb) (hwa : la.wt ≤ 2097152) (hwb : lb.wt ≤ 2097152) :
    Calls Try.prog 6 #[.agg #[.slice Aa la.len ca], .agg #[.slice Ab lb.len cb]] w fun e w' => e = .returned (.bool true) ∧ Below w.heap.size w w' := by
  go_enter Try.func6, Try.ntmps6
  have hma := Pts.much_le la
  have hmb := Pts.much_le lb
  go_wp2_with fail
  generalize hw1 : World.alloc _ _ = w1
  have hb1 : Below w.heap.size w w1 := by
    rw [← hw1]
    exact ((Below.refl _ _).alloc (Nat.le_refl _) _).alloc (by simp) _
  have c0 : w1.cell? ⟨w.heap.size, 0, none⟩ = some (.slice Aa la.len ca) := by rw [← hw1]; simp
  have c1 : w1.cell? ⟨w.heap.size + 1, 0, none⟩ = some (.slice Ab lb.len cb) := by rw [← hw1]; simp
  have hs1 : w1.heap.size = w.heap.size + 2 := by rw [← hw1]; simp
  have ha1 := ha.lift hb1
  have hb1' := hb.lift hb1
  clear hw1
  refine (much_p la _ Aa ca w1 (by omega) ha1).mono ?_
  rintro e w2 ⟨rfl, m, rfl⟩
  by_cases h1 : la.much ≤ 200
  · go_wp2_with fail
    refine (much_p lb _ Ab cb _ (by omega) (hb1'.drewN m)).mono ?_
    rintro e w2 ⟨rfl, m2, rfl⟩
    have hbm := belowN hb1 (m + m2)
    have d0 : (w1.drewN (m + m2)).cell? ⟨w.heap.size, 0, none⟩ = some (.slice Aa la.len ca) := by simpa using c0
    have d1 : (w1.drewN (m + m2)).cell? ⟨w.heap.size + 1, 0, none⟩ = some (.slice Ab lb.len cb) := by simpa using c1
    have hs2 : (w1.drewN (m + m2)).heap.size = w.heap.size + 2 := by simpa using hs1
    by_cases h2 : lb.much ≤ 200
    · go_wp2_with fail
      revert hbm d0 d1 hs2
      generalize w1.drewN (m + m2) = W
      intro hbm d0 d1 hs2
      have hla := Pts.len_wt la
      have hlb := Pts.len_wt lb
      have HS := Lib.hid hs2; clear hs2
      have hG : ∀ k, Old w k → k < W.heap.size := fun k (hk : k < w.heap.size) => by have := HS.out; omega
      have hlt0 : w.heap.size < W.heap.size := by have := HS.out; omega
      have hlt1 : w.heap.size + 1 < W.heap.size := by have := HS.out; omega
      have n0 := World.new_ne W ⟨w.heap.size, 0, none⟩ d0
      have n1 := World.new_ne W ⟨w.heap.size + 1, 0, none⟩ d1
      have haW := ha.lift hbm
      have hbW := hb.lift hbm
      have hold : ∀ {X : World} {A : Option Addr} {i : Nat} {l : Pts}, PtsAt (Old w) W A i l → Below W.heap.size W X → PtsAt (Old w) X A i l := fun h hX => h.keep fun _ hp => World.cell?_of_block (hX.block _ (hG _ hp))
      have hcell : ∀ {X : World} {p : Addr} {v : Value}, W.cell? p = some v → Below W.heap.size W X → X.cell? p = some v := fun h hX => (World.cell?_of_block (hX.block _ (cell_lt h))).trans h
      have hmore : ∀ {X Y : World} {v : Value} {l : Pts}, Prow (Old w) W.heap.size X v l → Below W.heap.size W X → Below X.heap.size X Y → Prow (Old w) W.heap.size Y v l := fun h hX hY => h.below (fun k hk => Nat.lt_of_lt_of_le (hG k hk) hX.size) hY
      go_cut [5] from 17 to 24 (fun v5 wx => ∃ (g : Nat) (A2 : Option Addr) (c2 : Nat), v5 = .pointer (some ⟨g, 0, none⟩) ∧ Below W.heap.size W wx ∧ wx.cell? ⟨g, 0, none⟩ = some (.slice A2 (la.app lb).len c2) ∧ (la.app lb).len ≤ c2 ∧
          Prow (Old w) W.heap.size wx (.slice A2 (la.app lb).len c2) (la.app lb))
      case first =>
        go_region_held3 (fun w' => w'.cell? ⟨w.heap.size, 0, none⟩ = some (.slice Aa la.len ca) ∧ w'.cell? ⟨w.heap.size + 1, 0, none⟩ = some (.slice Ab lb.len cb))
          (exact ⟨hcell d0 (by repeat (first | exact Below.refl _ _ | (with_reducible refine Below.drew ?_) | (with_reducible refine Below.grow ?_ _) | (with_reducible refine Below.setCell ?_ (by first | exact hle3 | exact Nat.le_refl _ | (simp; done)) _) | (with_reducible refine Below.trans ?_ hbb1) | (with_reducible refine Below.trans ?_ hbb2))), hcell d1 (by repeat (first | exact Below.refl _ _ | (with_reducible refine Below.drew ?_) | (with_reducible refine Below.grow ?_ _) | (with_reducible refine Below.setCell ?_ (by first | exact hle3 | exact Nat.le_refl _ | (simp; done)) _) | (with_reducible refine Below.trans ?_ hbb1) | (with_reducible refine Below.trans ?_ hbb2)))⟩)
          (first
            | (refine step_prow (by rfl) _ _ (by rfl) (Old w) W.heap.size .nil la (by rfl) (by rfl) (Prow.start (by omega) (by first | exact heap_alloc _ _ | exact heap_alloc_older _ _ _ | exact heap_alloc_newer _ _ _))
                (hold haW (by repeat (first | exact Below.refl _ _ | (with_reducible refine Below.drew ?_) | (with_reducible refine Below.grow ?_ _) | (with_reducible refine Below.setCell ?_ (by first | exact hle3 | exact Nat.le_refl _ | (simp; done)) _) | (with_reducible refine Below.trans ?_ hbb1) | (with_reducible refine Below.trans ?_ hbb2)))) (fun _ h => h) hG (by show 0 + la.len ≤ _; omega) (Below.size (B := W.heap.size) (w := W) (by repeat (first | exact Below.refl _ _ | (with_reducible refine Below.drew ?_) | (with_reducible refine Below.grow ?_ _) | (with_reducible refine Below.setCell ?_ (by first | exact hle3 | exact Nat.le_refl _ | (simp; done)) _) | (with_reducible refine Below.trans ?_ hbb1) | (with_reducible refine Below.trans ?_ hbb2)))) hca ?_
               intro A1 c1 w3 hr1 hc1 hg1 hbb1 ho1 hk1
               have hle3 : W.heap.size ≤ w3.heap.size := Below.size (B := W.heap.size) (w := W) (by repeat (first | exact Below.refl _ _ | (with_reducible refine Below.drew ?_) | (with_reducible refine Below.grow ?_ _) | (with_reducible refine Below.setCell ?_ (by first | exact hle3 | exact Nat.le_refl _ | (simp; done)) _) | (with_reducible refine Below.trans ?_ hbb1) | (with_reducible refine Below.trans ?_ hbb2)))
               first
                 | (have q1 := hk1 W.heap.size #[.slice none 0 0] 33 (0, 0) (by decide) (by exact heap_alloc_older _ _ _))
                 | (have q1 := hk1 (W.heap.size + 1) #[.slice none 0 0] 33 (0, 0) (by decide) (by exact heap_alloc_newer _ _ _))
                 | skip)
            | (refine step_prow (by rfl) _ _ (by rfl) (Old w) W.heap.size (Pts.nil.app la) lb (by rfl) (by rfl) (by first | exact hr1 | exact hmore hr1 (by repeat (first | exact Below.refl _ _ | (with_reducible refine Below.drew ?_) | (with_reducible refine Below.grow ?_ _) | (with_reducible refine Below.setCell ?_ (by first | exact hle3 | exact Nat.le_refl _ | (simp; done)) _) | (with_reducible refine Below.trans ?_ hbb1) | (with_reducible refine Below.trans ?_ hbb2))) (by repeat (first | exact Below.refl _ _ | (with_reducible refine Below.drew ?_) | (with_reducible refine Below.grow ?_ _) | (with_reducible refine Below.setCell ?_ (by first | exact hle3 | exact Nat.le_refl _ | (simp; done)) _) | (with_reducible refine Below.trans ?_ hbb1) | (with_reducible refine Below.trans ?_ hbb2))))
                (hold hbW (by repeat (first | exact Below.refl _ _ | (with_reducible refine Below.drew ?_) | (with_reducible refine Below.grow ?_ _) | (with_reducible refine Below.setCell ?_ (by first | exact hle3 | exact Nat.le_refl _ | (simp; done)) _) | (with_reducible refine Below.trans ?_ hbb1) | (with_reducible refine Below.trans ?_ hbb2)))) (fun _ h => h) hG (by show la.len + lb.len ≤ _; omega) (Below.size (B := W.heap.size) (w := W) (by repeat (first | exact Below.refl _ _ | (with_reducible refine Below.drew ?_) | (with_reducible refine Below.grow ?_ _) | (with_reducible refine Below.setCell ?_ (by first | exact hle3 | exact Nat.le_refl _ | (simp; done)) _) | (with_reducible refine Below.trans ?_ hbb1) | (with_reducible refine Below.trans ?_ hbb2)))) hcb ?_
               intro A2 c2 w4 hr2 hc2 hg2 hbb2 ho2 hk2
               first
                 | (have q2 := hk2 _ _ _ _ (by decide) q1; obtain ⟨r1, r2⟩ := cellOf q2)
                 | (have q2 := hk2 w3.heap.size #[.slice none 0 0] 33 (0, 0) (by decide) (by exact heap_alloc _ _); obtain ⟨r1, r2⟩ := cellOf q2)
                 | skip))
        · go_wp2_with fail
          go_meet
          exact ⟨_, A2, c2, rfl, (by repeat (first | exact Below.refl _ _ | (with_reducible refine Below.drew ?_) | (with_reducible refine Below.grow ?_ _) | (with_reducible refine Below.setCell ?_ (by first | exact hle3 | exact Nat.le_refl _ | (simp; done)) _) | (with_reducible refine Below.trans ?_ hbb1) | (with_reducible refine Below.trans ?_ hbb2))), by simp [Pts.app], hc2, hmore hr2 (by repeat (first | exact Below.refl _ _ | (with_reducible refine Below.drew ?_) | (with_reducible refine Below.grow ?_ _) | (with_reducible refine Below.setCell ?_ (by first | exact hle3 | exact Nat.le_refl _ | (simp; done)) _) | (with_reducible refine Below.trans ?_ hbb1) | (with_reducible refine Below.trans ?_ hbb2))) (by repeat (first | exact Below.refl _ _ | (with_reducible refine Below.drew ?_) | (with_reducible refine Below.grow ?_ _) | (with_reducible refine Below.setCell ?_ (by first | exact hle3 | exact Nat.le_refl _ | (simp; done)) _) | (with_reducible refine Below.trans ?_ hbb1) | (with_reducible refine Below.trans ?_ hbb2)))⟩
        all_goals
          go_wp2_with fail
          go_meet
          exact ⟨_, A2, c2, rfl, (by repeat (first | exact Below.refl _ _ | (with_reducible refine Below.drew ?_) | (with_reducible refine Below.grow ?_ _) | (with_reducible refine Below.setCell ?_ (by first | exact hle3 | exact Nat.le_refl _ | (simp; done)) _) | (with_reducible refine Below.trans ?_ hbb1) | (with_reducible refine Below.trans ?_ hbb2))), set_known q2, hc2, hr2.setOther (fun k hk => by have := hG k hk; first | omega | (have := hle3; omega)) q2 (by decide) _⟩
      case rest =>
        obtain ⟨g, A2, c2, rfl, hb5, hc5, hl5, hr5⟩ := hcut
        obtain ⟨A3, c3, hv3, hl3, _, hp5⟩ := hr5.at_
        injection hv3 with e1 e2 e3
        subst e1 e3
        have k0 := hcell d0 hb5
        have k1 := hcell d1 hb5
        have hap := hold haW hb5
        have hbp := hold hbW hb5
        have hst : w.heap.size ≤ W.heap.size := by omega
        clear hold hcell hmore n0 n1 haW hbW d0 d1
        have hlt5 : ∀ k, (Old w k ∨ (Value.slice A2 (la.app lb).len c2).ownBlock = some k) → k < wc.heap.size := fun k hk => by
          rcases hk with hk | hk
          · exact Nat.lt_of_lt_of_le (hG k hk) hb5.size
          · exact (hr5.lt hk).2
        have hwt := Pts.wt_app la lb
        have htx : ((la.app lb).shw []).1 = (la.shw []).1 ++ (lb.shw []).1 := by rw [Pts.shw_append, Pts.shw_nil_cmds]
        have hla2 := Pts.shw_len la []
        have hlb2 := Pts.shw_len lb []
        simp only [Pts.total] at hla2 hlb2
        have hS1 : ∀ x : Gr wc, Calls Try.prog 27 #[.agg #[.slice A2 (la.app lb).len c2], .slice none 0 0] x.at_ fun e w' => e = .returned (bs ((la.shw []).1 ++ (lb.shw []).1)) ∧ ∃ y : Gr wc, w' = y.at_ := fun x => by
          rw [← htx]
          exact x.calls (show_any _ (la.app lb) A2 c2 none 0 [] x.at_ (fun k hk => Nat.lt_of_lt_of_le (hlt5 k hk) x.2.size) (hp5.keep fun p hp => World.cell?_of_block (x.2.block _ (hlt5 _ hp))) StrsAt.nil (Nat.le_refl _) (by simp only [Pts.total]; omega))
        have hS2 : ∀ x : Gr wc, Calls Try.prog 27 #[.agg #[.slice Aa la.len ca], .slice none 0 0] x.at_ fun e w' => e = .returned (bs (la.shw []).1) ∧ ∃ y : Gr wc, w' = y.at_ := fun x =>
          x.calls (show_any _ la Aa ca none 0 [] x.at_ (fun k hk => Nat.lt_of_lt_of_le (hlt5 k (.inl hk)) x.2.size) (hap.keep fun p hp => World.cell?_of_block (x.2.block _ (hlt5 _ (.inl hp)))) StrsAt.nil (Nat.le_refl _) (by simp only [Pts.total]; omega))
        have hS3 : ∀ x : Gr wc, Calls Try.prog 27 #[.agg #[.slice Ab lb.len cb], .slice none 0 0] x.at_ fun e w' => e = .returned (bs (lb.shw []).1) ∧ ∃ y : Gr wc, w' = y.at_ := fun x =>
          x.calls (show_any _ lb Ab cb none 0 [] x.at_ (fun k hk => Nat.lt_of_lt_of_le (hlt5 k (.inl hk)) x.2.size) (hbp.keep fun p hp => World.cell?_of_block (x.2.block _ (hlt5 _ (.inl hp)))) StrsAt.nil (Nat.le_refl _) (by simp only [Pts.total]; omega))
        have hL1 : ∀ x : Gr wc, Calls Try.prog 28 #[.agg #[.slice A2 (la.app lb).len c2]] x.at_ fun e w' => e = .returned (.int .i64 ((la.shw []).1.length + (lb.shw []).1.length)) ∧ ∃ y : Gr wc, w' = y.at_ := fun x => by
          have := x.calls (length_any _ (la.app lb) A2 c2 x.at_ (fun k hk => Nat.lt_of_lt_of_le (hlt5 k hk) x.2.size) (hp5.keep fun p hp => World.cell?_of_block (x.2.block _ (hlt5 _ hp))) (by omega))
          rw [htx, List.length_append, Int.natCast_add] at this
          exact this
        have hL2 : ∀ x : Gr wc, Calls Try.prog 28 #[.agg #[.slice Aa la.len ca]] x.at_ fun e w' => e = .returned (.int .i64 (la.shw []).1.length) ∧ ∃ y : Gr wc, w' = y.at_ := fun x =>
          x.calls (length_any _ la Aa ca x.at_ (fun k hk => Nat.lt_of_lt_of_le (hlt5 k (.inl hk)) x.2.size) (hap.keep fun p hp => World.cell?_of_block (x.2.block _ (hlt5 _ (.inl hp)))) (by omega))
        have hL3 : ∀ x : Gr wc, Calls Try.prog 28 #[.agg #[.slice Ab lb.len cb]] x.at_ fun e w' => e = .returned (.int .i64 (lb.shw []).1.length) ∧ ∃ y : Gr wc, w' = y.at_ := fun x =>
          x.calls (length_any _ lb Ab cb x.at_ (fun k hk => Nat.lt_of_lt_of_le (hlt5 k (.inl hk)) x.2.size) (hbp.keep fun p hp => World.cell?_of_block (x.2.block _ (hlt5 _ (.inl hp)))) (by omega))
        have hA1 : ∀ x : Gr wc, Calls Try.prog 26 #[] x.at_ fun e w' => e = .returned (.bool true) ∧ ∃ y : Gr wc, w' = y.at_ := fun x => x.calls (awake25 _)
        have x5 : ∀ x : Gr wc, x.at_.cell? ⟨g, 0, none⟩ = some (.slice A2 (la.app lb).len c2) := fun x => x.cell _ _ hc5
        have x0 : ∀ x : Gr wc, x.at_.cell? ⟨w.heap.size, 0, none⟩ = some (.slice Aa la.len ca) := fun x => x.cell _ _ k0
        have x1 : ∀ x : Gr wc, x.at_.cell? ⟨w.heap.size + 1, 0, none⟩ = some (.slice Ab lb.len cb) := fun x => x.cell _ _ k1
        have hb6 : ∀ x : Gr wc, Below w.heap.size w x.at_ := fun x => hbm.trans ⟨x.2.os.trans hb5.os, x.2.tape.trans hb5.tape, x.2.output.trans hb5.output, Nat.le_trans hb5.size x.2.size, fun k hk => (x.2.block k (by have := hb5.size; omega)).trans (hb5.block k (by omega))⟩
        have hla3 : (la.shw []).1.length ≤ 70368744177664 := by omega
        have hlb3 : (lb.shw []).1.length ≤ 70368744177664 := by omega
        clear htx hla2 hlb2 hlt5 hwt hr5 hp5 hap hbp hc5 k0 k1 hb5 hbm
        revert hS1 hS2 hS3 hL1 hL2 hL3 hla3 hlb3
        generalize (la.shw []).1 = ta
        generalize (lb.shw []).1 = tb
        intro hS1 hS2 hS3 hL1 hL2 hL3 hla3 hlb3
        have hadd : ∀ W : World, (Op.stringOp .add ⟨ta.toArray⟩ ⟨tb.toArray⟩).run Try.prog W = .ok (.string ⟨(ta ++ tb).toArray⟩) W := fun W => by
          have := run_string_add_sum (P := Try.prog) W ⟨ta.toArray⟩ ⟨tb.toArray⟩ (by rw [size_lit, size_lit]; omega)
          rw [this, ByteArray.mk_append_mk]
        unfold bs at hS1 hS2 hS3
        go_wp2_with fail
        have hne : Nonempty (Gr wc) := ⟨⟨wc, Below.refl _ _⟩⟩
        refine wp_region_class (S := Gr wc) Gr.at_ (by kernel_rfl) (by kernel_rfl) (Gr.drew wc) ?_
        repeat (go_big_quiet_step (first | (with_reducible exact hS1 _) | (with_reducible exact hS2 _) | (with_reducible exact hS3 _) | (with_reducible exact hL1 _) | (with_reducible exact hL2 _) | (with_reducible exact hL3 _) | (with_reducible exact hA1 _)))
        refine wpQuiet_nil ?_
        rintro _ ⟨x, rfl⟩
        have HB6 := hb6 x
        go_wp2_with fail
        go_ret
        exact ⟨rfl, HB6⟩
    · go_wp2_with fail
      refine (awake25 _).mono ?_
      rintro e w3 ⟨rfl, hb3⟩
      go_wp2_with fail
      go_ret
      exact ⟨rfl, hbm.trans ⟨hb3.os, hb3.tape, hb3.output, hb3.size, fun k hk => hb3.block k (by omega)⟩⟩
  · have hbm := belowN hb1 m
    have hs2 : (w1.drewN m).heap.size = w.heap.size + 2 := by simpa using hs1
    go_wp2_with fail
    refine (awake25 _).mono ?_
    rintro e w3 ⟨rfl, hb3⟩
    go_wp2_with fail
    go_ret
    exact ⟨rfl, hbm.trans ⟨hb3.os, hb3.tape, hb3.output, hb3.size, fun k hk => hb3.block k (by omega)⟩⟩
end Go.Proofs.Ytpefkhbejjndeaa
