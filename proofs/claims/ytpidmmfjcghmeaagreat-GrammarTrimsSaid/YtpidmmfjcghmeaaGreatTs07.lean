/- Texts in one: GtP4, GtMap, GtP5, GtP6. -/
import Derived.Test.YtpidmmfjcghmeaaGreatTs06
import Derived.Test.YtpidmmfjcghmeaaGreatTs02
import Derived.Maps.OwnSet
import Derived.Lib.AppendZeros
namespace Go.Proofs.YtpidmmfjcghmeaaGreat
open Go.RowKit

set_option maxRecDepth 100000 in
set_option maxHeartbeats 4000000 in
theorem known_p (G : Nat → Prop) (w : World) (vs : List Value) (g : Gm) (us : List Value) (r : Int × List Int)(hG : ∀ k, G k → k < w.heap.size) (hg : GmV G w vs g) (hu : RuV G w us r) (hl : g.top ≤ 9223372036854775807):
    Calls Tryz.prog 83 #[ag vs, ag us] w fun e w' => e = .returned (.bool (rulB g r)) ∧ Below w.heap.size w w' := by
  obtain ⟨A0, c0, A1, c1, A2, c2, rfl, hb, hx⟩ := GBox.start hG hg
  show Calls Tryz.prog 83 #[.agg #[.slice A0 g.terms.length c0, .slice A1 g.nons.length c1, .slice A2 g.rules.length c2, .int .i64 g.start], ag us] w _
  generalize hW : w.alloc (.cells #[.slice A0 g.terms.length c0, .slice A1 g.nons.length c1, .slice A2 g.rules.length c2, .int .i64 g.start] 25) = W at *
  obtain ⟨x0, x1, x2, x3⟩ := hx.cells
  have HB := Lib.hid hb; have HX := Lib.hid hx; have HG := Lib.hid hG
  clear hb hx hG hg
  have hu2 := RuV.below HG.out HB.out hu
  obtain ⟨A, c, rfl, _, _⟩ := hu.shape
  obtain ⟨va, ea, ia⟩ := hu2
  injection ea with _ ea
  injection ea with ea _
  subst ea
  have hb : Below W.heap.size W (W.alloc (.cells #[.int .i64 r.1, .slice A r.2.length c] 64)) := (Below.refl _ _).alloc (Nat.le_refl _) _
  have q := heap_alloc_t W (.cells #[.int .i64 r.1, .slice A r.2.length c] 64)
  have HX1 := Lib.hid (HX.out.on hb)
  have HI := Lib.hid (IntsAt.below HX.out.old hb ia)
  have HB1 := Lib.hid (HB.out.trans (hb.mono HB.out.size))
  show Calls Tryz.prog 83 #[_, .agg #[.int .i64 r.1, .slice A r.2.length c]] w _
  clear x0 x1 x2 x3 ia hu
  obtain ⟨r1, r2⟩ := r
  dsimp only at *
  generalize hV : W.alloc (.cells #[.int .i64 r1, .slice A r2.length c] 64) = V at *
  have y0 := cell_box q 0 _ rfl; have y1 := cell_box q 1 _ rfl
  obtain ⟨x0, x1, x2, x3⟩ := HX1.out.cells
  have h4 := non_p G
  unfold ag at h4
  have H4 := Lib.hid h4; have HL := Lib.hid hl
  have HS := Lib.hid (show rulB g (r1, r2) = (decide (g.N r1) && r2.all (symB g)) from rfl)
  have HWl := Lib.hid (show w.heap.size < V.heap.size from HX1.out.lt)
  clear h4 hl q hb
  go_enter Tryz.func83, Tryz.ntmps83
  go_wp2_with fail
  refine (H4.out _ _ g r1 HX1.out.old HX1.out.gm HL.out).mono ?_
  rintro e w1 ⟨rfl, hb1⟩
  have HX2 := Lib.hid (HX1.out.on hb1)
  have HB2 := Lib.hid (HB1.out.trans (hb1.mono HB1.out.size))
  have z1 := box_keep y1 hb1
  have HI2 := Lib.hid (IntsAt.below HX1.out.old hb1 HI.out)
  clear x0 x1 x2 x3 hb1 y0 y1
  obtain ⟨x0, x1, x2, x3⟩ := HX2.out.cells
  generalize decide (g.N r1) = d at HS
  cases d
  · go_wp2_with fail
    go_ret
    exact ⟨ret_bool (by rw [HS.out]; rfl), HB2.out⟩
  · have HC := Lib.hid (all_int G 148 #[.pointer (some ⟨w.heap.size, 0, none⟩)] (symB g) _ r2 w1 HX2.out.old HI2.out enter_k1
      (fun X hX vs x hx => by
        obtain rfl := hx
        exact known1_p G X w.heap.size A0 c0 A1 c1 A2 c2 g x X rfl (HX2.out.on hX) HL.out))
    go_wp2_with fail
    refine (HC.out).mono ?_
    rintro e w2 ⟨rfl, hb1⟩
    have HB3 := Lib.hid (HB2.out.trans (hb1.mono HB2.out.size))
    go_wp2_with fail
    go_ret
    exact ⟨ret_bool (by rw [HS.out, Bool.true_and]), HB3.out⟩

set_option maxRecDepth 100000 in
set_option maxHeartbeats 4000000 in
theorem check3_p (G : Nat → Prop) (w : World) (b : Nat) (A0 : Option Addr) (c0 : Nat) (A1 : Option Addr) (c1 : Nat) (A2 : Option Addr) (c2 : Nat) (g : Gm) (us : List Value) (r : Int × List Int) (hx : GBox G w b A0 c0 A1 c1 A2 c2 g) (hu : RuV G w us r) (hl : g.top ≤ 9223372036854775807) :
    Calls Tryz.prog 82 #[ag us, .pointer (some ⟨b, 0, none⟩)] w fun e w' => e = .returned (.bool (rulB g r)) ∧ Below w.heap.size w w' := by
  obtain ⟨A, c, rfl, _, _⟩ := hu.shape
  have hb : Below w.heap.size w (w.alloc (.cells #[.int .i64 r.1, .slice A r.2.length c] 64)) := (Below.refl _ _).alloc (Nat.le_refl _) _
  have q := heap_alloc_t w (.cells #[.int .i64 r.1, .slice A r.2.length c] 64)
  have h2 := RuV.below hx.old hb hu
  have hx2 := hx.on hb
  show Calls Tryz.prog 82 #[.agg #[.int .i64 r.1, .slice A r.2.length c], .pointer (some ⟨b, 0, none⟩)] w _
  generalize hW : w.alloc (.cells #[.int .i64 r.1, .slice A r.2.length c] 64) = W at *
  have y0 := cell_box q 0 _ rfl; have y1 := cell_box q 1 _ rfl
  obtain ⟨x0, x1, x2, x3⟩ := hx2.cells
  have HB := Lib.hid hb
  have HC := Lib.hid (known_p G W _ g _ r hx2.old hx2.gm h2 hl)
  unfold ag at HC
  clear hb q hx hx2 hu h2
  go_enter Tryz.func82, Tryz.ntmps82
  go_wp2_with fail
  refine (HC.out).mono ?_
  rintro e w1 ⟨rfl, hb1⟩
  go_wp2_with fail
  go_ret
  exact ⟨rfl, HB.out.trans (hb1.mono HB.out.size)⟩

set_option maxRecDepth 100000 in
set_option maxHeartbeats 4000000 in
theorem unlike1_p (G : Nat → Prop) (w : World) (bs bl bi : Nat) (A : Option Addr) (n c k : Nat) (l : List (Int × List Int)) (us : List Value) (r : Int × List Int) (hG : ∀ k, G k → k < w.heap.size) (hl : RusAt G w (.slice A n c) l) (hk : k < l.length) (h1 : w.cell? ⟨bs, 0, none⟩ = some (.func (.func 85) #[] #[])) (h2 : w.cell? ⟨bl, 0, none⟩ = some (.slice A n c)) (h3 : w.cell? ⟨bi, 0, none⟩ = some (.int .i64 k)) (hu : RuV G w us r) :
    Calls Tryz.prog 149 #[ag us, .pointer (some ⟨bs, 0, none⟩), .pointer (some ⟨bl, 0, none⟩), .pointer (some ⟨bi, 0, none⟩)] w fun e w' => e = .returned (.bool (decide (r = l[k]))) ∧ Below w.heap.size w w' := by
  have hln := SlAt.len hl
  obtain ⟨Ar, cr, rfl, _, _⟩ := hu.shape
  have hb : Below w.heap.size w (w.alloc (.cells #[.int .i64 r.1, .slice Ar r.2.length cr] 64)) := (Below.refl _ _).alloc (Nat.le_refl _) _
  have q := heap_alloc_t w (.cells #[.int .i64 r.1, .slice Ar r.2.length cr] 64)
  have hu2 := RuV.below hG hb hu
  have hl2 := RusAt.below hG hb hl
  have g1 := box_keep h1 hb; have g2 := box_keep h2 hb; have g3 := box_keep h3 hb
  have hG2 := old_of hG hb
  show Calls Tryz.prog 149 #[.agg #[.int .i64 r.1, .slice Ar r.2.length cr], .pointer (some ⟨bs, 0, none⟩), .pointer (some ⟨bl, 0, none⟩), .pointer (some ⟨bi, 0, none⟩)] w _
  generalize hW : w.alloc (.cells #[.int .i64 r.1, .slice Ar r.2.length cr] 64) = W at *
  have y0 := cell_box q 0 _ rfl; have y1 := cell_box q 1 _ rfl
  obtain ⟨bb, off, Ak, ck, rfl, hgb, z0, z1, zi⟩ := RusAt.at_ hl2 hk
  have p := fun Y : Gr W => Y.calls (samerule_p G Y.at_ [.int .i64 r.1, .slice Ar r.2.length cr] [.int .i64 l[k].1, .slice Ak l[k].2.length ck] r l[k] (old_of hG2 Y.2) (RuV.below hG2 Y.2 hu2) (RuV.below hG2 Y.2 ⟨_, rfl, zi⟩))
  unfold ag at p
  have f1 := fun Y : Gr W => Y.cell _ _ g1; have f2 := fun Y : Gr W => Y.cell _ _ g2; have f3 := fun Y : Gr W => Y.cell _ _ g3
  have e0 := fun Y : Gr W => Y.cell _ _ y0; have e1 := fun Y : Gr W => Y.cell _ _ y1
  have d0 := fun Y : Gr W => Y.cell _ _ z0; have d1 := fun Y : Gr W => Y.cell _ _ z1
  have hne : Nonempty (Gr W) := ⟨⟨_, Below.refl _ _⟩⟩
  have HB := Lib.hid hb
  have hkn : k < n := by omega
  have hn1 := hln.2
  have HE := Lib.hid enter_sr
  clear hb q hu hu2 hl hl2 hG hG2 h1 h2 h3 g1 g2 g3 y0 y1 z0 z1 zi hln
  revert p d0 d1
  generalize l[k] = s
  obtain ⟨s1, s2⟩ := s
  obtain ⟨r1, r2⟩ := r
  dsimp only at *
  intro p d0 d1
  generalize decide ((r1, r2) = (s1, s2)) = dq at *
  go_enter Tryz.func149, Tryz.ntmps149
  go_wp2_with fail
  refine wp_region_class (S := Gr W) Gr.at_ (by kernel_rfl) (by kernel_rfl) (Gr.drew _) ?_
  repeat (go_big_quiet_step (with_reducible exact p _))
  refine wpQuiet_nil ?_
  rintro wy ⟨⟨wy', hY⟩, hY2⟩
  obtain rfl : wy = wy' := hY2
  clear p f1 f2 f3 e0 e1 d0 d1 hne
  go_wp2_with fail
  go_ret
  exact ⟨rfl, HB.out.trans (hY.mono HB.out.size)⟩

theorem SlAt.take {β : Type} {G : Nat → Prop} {w : World} {sz : Nat} {R : List Value → β → Prop} {A : Option Addr} {n c : Nat} {l : List β} (h : SlAt G w sz R (.slice A n c) l) {k : Nat} (hk : k ≤ n) : SlAt G w sz R (.slice A k c) (l.take k) := by
  obtain ⟨A', c', e, h2, h3, h4⟩ := h
  injection e with e1 e2 e3
  subst e1 e3
  refine ⟨_, _, by rw [List.length_take]; congr 1; omega, by rw [List.length_take]; omega, h3, fun hn => ?_⟩
  rw [List.length_take] at hn
  obtain ⟨b, off, e, hg, hel⟩ := h4 (by omega)
  refine ⟨b, off, e, hg, fun i hi => ?_⟩
  rw [List.length_take] at hi
  obtain ⟨vs, h5, h6, h7⟩ := hel i (by omega)
  exact ⟨vs, h5, by rw [List.getElem_take]; exact h6, h7⟩
theorem enter_u1 : Enters 149 := fun args w => by simp [callFunc, go_sem, Tryz.func149, Tryz.f149]

set_option maxRecDepth 100000 in
set_option maxHeartbeats 4000000 in
theorem unlike_p (G : Nat → Prop) (w : World) (A : Option Addr) (n c : Nat) (l : List (Int × List Int)) (hG : ∀ k, G k → k < w.heap.size) (hl : RusAt G w (.slice A n c) l) :
    Calls Tryz.prog 84 #[.slice A n c, .func (.func 85) #[] #[]] w fun e w' => e = .returned (.bool (decide l.Nodup)) ∧ Below w.heap.size w w' := by
  have hln := SlAt.len hl
  have hcap : n ≤ c := by obtain ⟨_, _, e, h2, _⟩ := hl; injection e with _ e1 e2; omega
  have hb1 : Below w.heap.size w (w.alloc (.cells #[.slice A n c] 23)) := (Below.refl _ _).alloc (Nat.le_refl _) _
  have hb2 : Below w.heap.size w ((w.alloc (.cells #[.slice A n c] 23)).alloc (.cells #[.func (.func 85) #[] #[]] 147)) := hb1.alloc (by simp) _
  have q0 := up (heap_alloc_t w (.cells #[.slice A n c] 23)) (o := .cells #[.func (.func 85) #[] #[]] 147)
  have q1 := heap_alloc_t (w.alloc (.cells #[.slice A n c] 23)) (.cells #[.func (.func 85) #[] #[]] 147)
  rw [show (w.alloc (.cells #[.slice A n c] 23)).heap.size = w.heap.size + 1 by simp] at q1
  have hl2 := RusAt.below hG hb2 hl
  have hG2 := old_of hG hb2
  generalize hW : (w.alloc (.cells #[.slice A n c] 23)).alloc (.cells #[.func (.func 85) #[] #[]] 147) = W at *
  have Y0 := Lib.hid (cell_box q0 0 _ rfl); have Y1 := Lib.hid (cell_box q1 0 _ rfl)
  have HL := Lib.hid hl2; have HG := Lib.hid hG2; have HB := Lib.hid hb2; have HLN := Lib.hid hln
  have hn1 := hln.2
  clear hb1 hb2 q0 q1 hl hl2 hG hG2 hln
  go_enter Tryz.func84, Tryz.ntmps84
  have y0 := Y0.out
  go_wp2
  go_loopw [8] (fun i wr => ∃ (k : Nat), k ≤ n ∧ i = .int .i64 k ∧ (l.take k).Nodup ∧ Below W.heap.size W wr) (fun i _ => n - (intOf i).toNat)
  case atStart => exact ⟨0, by omega, rfl, by simp, Below.refl _ _⟩
  case round =>
    obtain ⟨k, hk, rfl, hi, hb⟩ := hrel
    have HI := Lib.hid hi
    clear y0
    by_cases hlt : k < n
    · have hlt1 : k < l.length := by have := HLN.out.1; omega
      have hb2 : Below wr.heap.size wr (wr.alloc (.cells #[.int .i64 k] 3)) := (Below.refl _ _).alloc (Nat.le_refl _) _
      have q := heap_alloc_t wr (.cells #[.int .i64 k] 3)
      have hbV := hb.trans (hb2.mono hb.size)
      generalize hV : wr.alloc (.cells #[.int .i64 k] 3) = V at *
      have y0 := box_keep Y0.out hbV
      have z := cell_box q 0 _ rfl
      have HC := Lib.hid (contains_rule G 149 #[.pointer (some ⟨w.heap.size + 1, 0, none⟩), .pointer (some ⟨w.heap.size, 0, none⟩), .pointer (some ⟨wr.heap.size, 0, none⟩)] (fun r => decide (r = l[k])) (.slice A k c) (l.take k) V (old_of HG.out hbV) (SlAt.take (RusAt.below HG.out hbV HL.out) (by omega)) enter_u1
        (fun X hX vs x hx => unlike1_p G X (w.heap.size + 1) w.heap.size wr.heap.size A n c k l vs x (old_of HG.out (hbV.trans (hX.mono hbV.size))) (RusAt.below HG.out (hbV.trans (hX.mono hbV.size)) HL.out) hlt1 (box_keep (box_keep Y1.out hbV) hX) (box_keep (box_keep Y0.out hbV) hX) (box_keep z hX) hx))
      have hq0 : (((l.take k).any fun r => decide (r = l[k])) = true → ¬ l.Nodup) ∧ (((l.take k).any fun r => decide (r = l[k])) = false → (l.take (k + 1)).Nodup) := by
        have e : ((l.take k).any fun r => decide (r = l[k])) = decide (l[k] ∈ l.take k) := by
          rw [Bool.eq_iff_iff, List.any_eq_true, decide_eq_true_iff]
          constructor
          · rintro ⟨x, hx, h⟩; rw [← of_decide_eq_true h]; exact hx
          · intro h; exact ⟨_, h, decide_eq_true rfl⟩
        rw [e]
        exact ⟨fun h => nd_not hlt1 (of_decide_eq_true h), fun h => nd_step hlt1 HI.out (of_decide_eq_false h)⟩
      have HQ := Lib.hid hq0
      have HBV := Lib.hid hbV
      generalize ((l.take k).any fun r => decide (r = l[k])) = d at HC HQ
      have hk0 : (0 : Int) ≤ (k : Int) := by omega
      have hk1 : (k : Int) ≤ (c : Int) := by omega
      have hk2 : k ≤ c := by omega
      clear hq0 hbV hb2 q hb hi
      go_wp2_with fail
      refine HC.out.mono ?_
      rintro e w1 ⟨rfl, hb1⟩
      have HB1 := Lib.hid (HBV.out.trans (hb1.mono HBV.out.size))
      clear hb1 y0 z
      cases d
      · have he := Lib.hid (HQ.out.2 rfl)
        go_wp2_with fail
        go_roundw
        case rel => exact ⟨k + 1, by omega, by go_num, he.out, HB1.out⟩
        case measure => simp only [intOf]; omega
      · have he := Lib.hid (decide_eq_false (HQ.out.1 rfl))
        go_wp2_with fail
        go_ret
        exact ⟨by first | (rw [he.out]; done) | (rw [he.out]; rfl), HB.out.trans (HB1.out.mono HB.out.size)⟩
    · have he := Lib.hid (decide_eq_true (show l.Nodup by have := HI.out; rwa [List.take_of_length_le (by have := HLN.out.1; omega)] at this))
      have HBR := Lib.hid hb
      clear hb hi
      go_wp2_with fail
      go_ret
      exact ⟨by first | (rw [he.out]; done) | (rw [he.out]; rfl), HB.out.trans (HBR.out.mono HB.out.size)⟩
end Go.Proofs.YtpidmmfjcghmeaaGreat
namespace Go.Proofs.YtpidmmfjcghmeaaGreat
open Go.RowKit Go.Maps Go.WideMaps

theorem lawS : Keyed Tryz.prog 9 := string_keyed Tryz.underlying9
theorem zeroI (w : World) : (zeroValue 3).run Tryz.prog w = .ok (.int .i64 0) w := by kernel_rfl
/-- A map that holds f, of n keys. -/
def MI (w : World) (b : Nat) (f : List UInt8 → Option Int) (n : Nat) : Prop :=
  ∃ D : DataW Unit, w.ownsMap Tryz.prog 9 (plainElem Tryz.prog 3) b n D ∧ Maps.size D = n ∧ ∀ s, Maps.has D (.string s) = (f s).isSome ∧ D.atKey (.string s) (.lit (.int .i64 0)) = .lit (.int .i64 ((f s).getD 0))
def upd (f : List UInt8 → Option Int) (s : List UInt8) (v : Int) : List UInt8 → Option Int := fun t => if t = s then some v else f t
section
variable {w w' : World} {b n : Nat} {f : List UInt8 → Option Int}
theorem MI.lt (h : MI w b f n) : b < w.heap.size := by
  obtain ⟨D, h1, _⟩ := h
  exact World.ownsMap.lt h1
theorem MI.kept {row : Option Nat} (h : MI w b f n) (hg : w.grownBy w' row) (hne : some b ≠ row) : MI w' b f n := by
  obtain ⟨D, h1, h2⟩ := h
  exact ⟨D, World.ownsMap.kept h1 hg hne, h2⟩
theorem MI.made (w : World) : MI (w.alloc (.map #[] 0)) w.heap.size (fun _ => none) 0 :=
  ⟨_, World.ownsMap_made w _ _ _, rfl, fun _ => ⟨rfl, rfl⟩⟩
set_option maxRecDepth 100000 in
theorem MI.get (h : MI w b f n) (s : List UInt8) (hs : s.length ≤ 9223372036854775807) : (Instr.lookup 115 (.map (some b)) (bs s) false).run Tryz.prog w = .ok (.int .i64 ((f s).getD 0)) w := by
  obtain ⟨D, h1, _, h3⟩ := h
  obtain ⟨v, ps, hrun, hv⟩ := World.ownsMap.lookup h1 lawS Tryz.underlying115 (zeroI w) (plainElem_int (H := Unit) Tryz.underlying3 (a := 0) (by decide)) (keyOf_string_mk Tryz.underlying9 (s := ⟨s.toArray⟩) (by rw [size_list, list_mk]; exact hs))
  obtain ⟨c, rfl, hc, _⟩ := plainElem_int_inv Tryz.underlying3 hv
  unfold bs
  rw [hrun]
  have h1 := congrArg Prod.fst hc
  simp only at h1
  rw [(h3 s).2] at h1
  have h2 : c = (f s).getD 0 := by injection h1 with h1; injection h1 with _ h1; exact h1.symm
  rw [h2]
set_option maxRecDepth 100000 in
theorem MI.look (h : MI w b f n) (s : List UInt8) (hs : s.length ≤ 9223372036854775807) : (Instr.lookup 115 (.map (some b)) (bs s) true).run Tryz.prog w = .ok (.tuple #[.int .i64 ((f s).getD 0), .bool (f s).isSome]) w := by
  obtain ⟨D, h1, _, h3⟩ := h
  obtain ⟨v, ps, hrun, hv⟩ := World.ownsMap.look_ok h1 lawS Tryz.underlying115 (zeroI w) (plainElem_int (H := Unit) Tryz.underlying3 (a := 0) (by decide)) (keyOf_string_mk Tryz.underlying9 (s := ⟨s.toArray⟩) (by rw [size_list, list_mk]; exact hs))
  obtain ⟨c, rfl, hc, _⟩ := plainElem_int_inv Tryz.underlying3 hv
  unfold bs
  rw [hrun]
  have h1 := congrArg Prod.fst hc
  simp only at h1
  rw [(h3 s).2] at h1
  have h2 : c = (f s).getD 0 := by injection h1 with h1; injection h1 with _ h1; exact h1.symm
  rw [h2]
  exact congrArg (fun z => Result.ok (Value.tuple #[.int .i64 ((f s).getD 0), .bool z]) w) (h3 s).1
theorem MI.len (h : MI w b f n) (ty : TypeId) : (Builtin.len_ #[115] ty #[.map (some b)]).run Tryz.prog w = .ok (.int .i64 n) w := by
  obtain ⟨D, h1, h2, _⟩ := h
  have := World.ownsMap.len h1 Tryz.underlying115 ty
  rwa [h2] at this
set_option maxRecDepth 100000 in
theorem MI.store (h : MI w b f n) (s : List UInt8) (v : Int) (hs : s.length ≤ 9223372036854775807) (hv : (Lit.int .i64 v).wf = true) (hn : n < 9223372036854775807) :
    ∃ w', (Instr.mapUpdate 115 (.map (some b)) (bs s) (.int .i64 v)).run Tryz.prog w = .ok () w' ∧ MI w' b (upd f s v) (if (f s).isSome then n else n + 1) ∧ w.grownBy w' (some b) ∧ w'.heap.size = w.heap.size := by
  obtain ⟨D, h1, h2, h3⟩ := h
  have hk := keyOf_string_mk Tryz.underlying9 (s := ⟨s.toArray⟩) (by rw [size_list, list_mk]; exact hs)
  obtain ⟨w', k1, k2, k3⟩ := World.ownsMap.store h1 lawS Tryz.underlying115 hn hk (plainElem_int (H := Unit) Tryz.underlying3 hv)
  have hT := World.ownsMap.tidy h1 lawS
  have hM := World.ownsMap.isMap h1
  have e0 : ({ data := s.toArray } : ByteArray).data.toList = s := rfl
  rw [e0] at k2
  have hsz : Maps.size (D.put (.string s) (.lit (.int .i64 v))) = if (f s).isSome then n else n + 1 := by
    rw [Maps.size_put hT, (h3 s).1, h2]
  refine ⟨w', k1, ⟨D.put (.string s) (.lit (.int .i64 v)), ?_, hsz, fun t => ?_⟩, k3.grown, ?_⟩
  · rw [← hsz]
    obtain ⟨es, clock, hb, F, _, e⟩ := k2
    exact ⟨es, clock, hb, F, by rw [e]; simp [Maps.size, length_sorted], e⟩
  · unfold upd
    by_cases ht : t = s
    · subst ht
      rw [if_pos rfl]
      exact ⟨Maps.has_put_same hM (show WideAt.IsKeyLit (.string t) from trivial) _, Maps.atKey_put_same hM (show WideAt.IsKeyLit (.string t) from trivial) _ _⟩
    · rw [if_neg ht, Maps.has_put_other (fun e => ht (by injection e)), Maps.atKey_put_other (fun e => ht (by injection e))]
      exact h3 t
  · obtain ⟨es, clock, es', clock', _, rfl⟩ := k3
    simp [ChangeMaps.setBlock]
end
end Go.Proofs.YtpidmmfjcghmeaaGreat
namespace Go.Proofs.YtpidmmfjcghmeaaGreat
open Go.RowKit
attribute [local go_sem ↓] wp_append_wr

set_option maxRecDepth 100000 in
set_option maxHeartbeats 4000000 in
theorem grow_p (n : Nat) (w : World) (h1 : 1 ≤ n) (h2 : n ≤ 1099511627776) :
    Calls Tryz.prog 215 #[.slice none 0 0, .int .i64 n] w fun e w' => (∃ v, e = .returned v ∧ Strs w.heap.size w' v []) ∧ Below w.heap.size w w' := by
  obtain ⟨i, hi, hz0, hz1, hz2⟩ := info_parts info_strN
  have hr := Lib.run_append_nil_zeros (P := Tryz.prog) w 22 3 22 9 i _ .i64 .i64 Tryz.underlying22 Tryz.underlying3 hi hz0 n (by omega) (by rw [hz1]; decide) (by omega) (by rw [hz2]; omega)
  have hcap : n ≤ grownCap w n 0 9 ∧ grownCap w n 0 9 ≤ maxLen := by
    show n ≤ n + w.tape w.drawn (.appendCap n 0 9) % (2 ^ 63 - n) ∧ n + w.tape w.drawn (.appendCap n 0 9) % (2 ^ 63 - n) ≤ 9223372036854775807
    have := Nat.mod_lt (w.tape w.drawn (.appendCap n 0 9)) (show 0 < 2 ^ 63 - n by omega)
    omega
  generalize grownCap w n 0 9 = cap at hr hcap
  have hrun := WrA.of hr
  generalize hcs : Builtin.zeroCells (Value.string ⟨#[]⟩).cells n ++ Builtin.zeroCells (Value.string ⟨#[]⟩).cells (cap - n) = cs at hrun
  have hsz : cs.size = cap := by
    rw [← hcs]
    simp [size_zeroCells, Value.cells]
    omega
  have q := heap_alloc_t w.drew (.cells cs 9)
  have hb : Below w.heap.size w (w.drew.alloc (.cells cs 9)) := ((Below.refl _ _).drew).alloc (by simp) _
  have hS : Strs w.heap.size (w.drew.alloc (.cells cs 9)) (.slice (some ⟨w.heap.size, 0, none⟩) 0 cap) [] :=
    ⟨[], trivial, by simp, .inr ⟨w.heap.size, cap, cs, rfl, Nat.le_refl _, by simpa using q, Nat.zero_le _, hcap.2, by omega, by simp⟩⟩
  have HS := Lib.hid hS; have HB := Lib.hid hb
  have hn1 : (0 : Int) < (n : Int) := by omega
  clear hr hcs hsz q hb hS hi hz0 hz1 hz2
  generalize w.drew.alloc (.cells cs 9) = W at *
  go_enter Tryz.func215, Tryz.ntmps215
  go_wp2_with fail
  go_ret
  exact ⟨⟨_, rfl, HS.out⟩, HB.out⟩

set_option maxRecDepth 100000 in
set_option maxHeartbeats 4000000 in
theorem concat_p (G : Nat → Prop) (w : World) (b : Nat) (A1 A2 : Option Addr) (n1 c1 n2 c2 : Nat) (xs ys : List (List UInt8)) (hG : ∀ k, G k → k < w.heap.size) (x0 : w.cell? ⟨b, 0, none⟩ = some (.slice A1 n1 c1)) (x1 : w.cell? ⟨b, 1, none⟩ = some (.slice A2 n2 c2)) (h1 : StrsAt G w (.slice A1 n1 c1) xs) (h2 : StrsAt G w (.slice A2 n2 c2) ys) (hl0 : 1 ≤ n1 + n2) (hl : n1 + n2 ≤ 1099511627776) :
    Calls Tryz.prog 146 #[.slice (some ⟨b, 0, none⟩) 2 2] w fun e w' => (∃ v, e = .returned v ∧ Strs w.heap.size w' v (xs ++ ys)) ∧ Below w.heap.size w w' := by
  have l1 := (SlAt.len h1).1
  have l2 := (SlAt.len h2).1
  have H1 := Lib.hid h1; have H2 := Lib.hid h2; have HG := Lib.hid hG; have L1 := Lib.hid l1; have L2 := Lib.hid l2
  obtain ⟨m, hm⟩ : ∃ m, m = n1 + n2 := ⟨_, rfl⟩
  have HR := Lib.hid (grow_p m w (by omega) (by omega))
  have HM := Lib.hid hm
  clear h1 h2 hG l1 l2
  have hs1 : (0 : Int) + (n1 : Int) = (n1 : Int) := by omega
  have hs2 : (n1 : Int) + (n2 : Int) = (m : Int) := by omega
  have hp1 : ¬ (n1 : Int) < 0 := by omega
  have hp2 : ¬ (m : Int) < 0 := by omega
  clear hm
  go_enter Tryz.func146, Tryz.ntmps146
  go_wp2
  go_loopw [3, 11] (fun s i wr => wr = w ∧ ((i = .int .i64 0 ∧ s = .int .i64 0) ∨ (i = .int .i64 1 ∧ s = .int .i64 n1) ∨ (i = .int .i64 2 ∧ s = .int .i64 m))) (fun _ i _ => 2 - (intOf i).toNat)
  case atStart => exact ⟨rfl, .inl ⟨rfl, rfl⟩⟩
  case round =>
    obtain ⟨rfl, ⟨rfl, rfl⟩ | ⟨rfl, rfl⟩ | ⟨rfl, rfl⟩⟩ := hrel
    · go_wp2_with fail
      go_roundw
      case rel => exact ⟨by first | rfl | trivial, .inr (.inl ⟨rfl, rfl⟩)⟩
      case measure => simp only [intOf]; omega
    · go_wp2_with fail
      go_roundw
      case rel => exact ⟨by first | rfl | trivial, .inr (.inr ⟨rfl, rfl⟩)⟩
      case measure => simp only [intOf]; omega
    · go_wp2_with fail
      refine (HR.out).mono ?_
      rintro e w1 ⟨⟨v, rfl, hs⟩, hb⟩
      obtain ⟨A, c, rfl⟩ := hs.shape
      have X0 := Lib.hid x0; have X1 := Lib.hid x1
      have HS := Lib.hid hs; have HB := Lib.hid hb
      clear hs hb x0 x1
      go_wp2
      go_loopw [6, 27] (fun v i wq => Below wr.heap.size wr wq ∧ ((i = .int .i64 0 ∧ Strs wr.heap.size wq v []) ∨ (i = .int .i64 1 ∧ Strs wr.heap.size wq v xs) ∨ (i = .int .i64 2 ∧ Strs wr.heap.size wq v (xs ++ ys)))) (fun _ i _ => 2 - (intOf i).toNat)
      case atStart => exact ⟨HB.out, .inl ⟨rfl, HS.out⟩⟩
      case round =>
        obtain ⟨hb, ⟨rfl, hs⟩ | ⟨rfl, hs⟩ | ⟨rfl, hs⟩⟩ := hrel
        · have y0 := box_keep X0.out hb
          obtain ⟨v', w', hrun, hs', hb'⟩ := Strs.add hs (StrsAt.below HG.out hb H1.out) (by have := L1.out; simp; omega) hb.size
          obtain ⟨A3, c3, rfl⟩ := hs.shape
          obtain ⟨A4, c4, rfl⟩ := hs'.shape
          rw [List.nil_append] at hs' hrun
          rw [List.length_nil] at hrun
          have HS' := Lib.hid hs'; have HB' := Lib.hid (hb.trans hb')
          clear hs hs' hb hb'
          go_wp2_with fail
          go_roundw
          case rel => exact ⟨HB'.out, .inr (.inl ⟨rfl, HS'.out⟩)⟩
          case measure => simp only [intOf]; omega
        · have y0 := box_keep X1.out hb
          obtain ⟨v', w', hrun, hs', hb'⟩ := Strs.add hs (StrsAt.below HG.out hb H2.out) (by have := L1.out; have := L2.out; omega) hb.size
          obtain ⟨A3, c3, rfl⟩ := hs.shape
          obtain ⟨A4, c4, rfl⟩ := hs'.shape
          rw [List.length_append] at hs' hrun
          have HS' := Lib.hid hs'; have HB' := Lib.hid (hb.trans hb')
          clear hs hs' hb hb'
          go_wp2_with fail
          go_roundw
          case rel => exact ⟨HB'.out, .inr (.inr ⟨rfl, HS'.out⟩)⟩
          case measure => simp only [intOf]; omega
        · obtain ⟨A3, c3, rfl⟩ := hs.shape
          have HS' := Lib.hid hs; have HB' := Lib.hid hb
          clear hs hb
          go_wp2_with fail
          go_ret
          exact ⟨⟨_, rfl, HS'.out⟩, HB'.out⟩

def seenF (l : List (List UInt8)) (k : Nat) : List UInt8 → Option Int := fun s => if s ∈ l.take k then some 1 else none
theorem seenF_upd {l : List (List UInt8)} {k : Nat} (h : k < l.length) : upd (seenF l k) l[k] 1 = seenF l (k + 1) := by
  funext t
  have hm : t ∈ l.take (k + 1) ↔ t ∈ l.take k ∨ t = l[k] := by rw [take_one h, List.mem_append, List.mem_singleton]
  unfold upd seenF
  by_cases ht : t = l[k]
  · rw [if_pos ht, if_pos (hm.2 (.inr ht))]
  · rw [if_neg ht]
    by_cases hk : t ∈ l.take k
    · rw [if_pos hk, if_pos (hm.2 (.inl hk))]
    · rw [if_neg hk, if_neg (fun h => (hm.1 h).elim hk ht)]
theorem seenF_new {l : List (List UInt8)} {k : Nat} (h : k < l.length) (hn : l.Nodup) : seenF l k l[k] = none := by
  unfold seenF
  rw [if_neg]
  intro hm
  exact nd_not h hm hn

set_option maxRecDepth 100000 in
set_option maxHeartbeats 4000000 in
theorem once_p (G : Nat → Prop) (w : World) (vs : List Value) (g : Gm) (hG : ∀ k, G k → k < w.heap.size) (hg : GmV G w vs g) (hl : g.top ≤ 1099511627775) (h1 : 1 ≤ g.top) (hnd : g.names.Nodup) (hsz : ∀ s ∈ g.names, s.length ≤ 1099511627776):
    Calls Tryz.prog 80 #[ag vs] w fun e w' => e = .returned (.bool true) ∧ Below w.heap.size w w' := by
  obtain ⟨A0, c0, A1, c1, A2, c2, rfl, hb, hx⟩ := GBox.start hG hg
  show Calls Tryz.prog 80 #[.agg #[.slice A0 g.terms.length c0, .slice A1 g.nons.length c1, .slice A2 g.rules.length c2, .int .i64 g.start]] w _
  generalize hW : w.alloc (.cells #[.slice A0 g.terms.length c0, .slice A1 g.nons.length c1, .slice A2 g.rules.length c2, .int .i64 g.start] 25) = W at *
  obtain ⟨x0, x1, x2, x3⟩ := hx.cells
  have HB := Lib.hid hb; have HX := Lib.hid hx; have HG := Lib.hid hG
  clear hb hx hG hg
  have hmm := @run_makeMap Tryz.prog
  have hba : Below W.heap.size W (W.alloc (.map #[] 0)) := (Below.refl _ _).alloc (Nat.le_refl _) _
  have hbb : Below W.heap.size W ((W.alloc (.map #[] 0)).alloc (.cells #[.slice A0 g.terms.length c0, .slice A1 g.nons.length c1] 22)) := hba.alloc (by simp) _
  have q := heap_alloc_t (W.alloc (.map #[] 0)) (.cells #[.slice A0 g.terms.length c0, .slice A1 g.nons.length c1] 22)
  rw [show (W.alloc (.map #[] 0)).heap.size = W.heap.size + 1 by simp] at q
  have HM0 := Lib.hid ((MI.made W).kept (row := none) (World.grownBy_alloc _ (.cells #[.slice A0 g.terms.length c0, .slice A1 g.nons.length c1] 22) _) (by simp))
  have hx2 := HX.out.on hbb
  have y0 := box_keep x0 hba; have y1 := box_keep x1 hba
  generalize hV : (W.alloc (.map #[] 0)).alloc (.cells #[.slice A0 g.terms.length c0, .slice A1 g.nons.length c1] 22) = V at *
  have HC := Lib.hid (concat_p G V (W.heap.size + 1) A0 A1 _ c0 _ c1 g.terms g.nons hx2.old (cell_box q 0 _ rfl) (cell_box q 1 _ rfl) hx2.ht hx2.hn (by unfold Gm.top at h1; omega) (by unfold Gm.top at hl; omega))
  have HV := Lib.hid hbb; have HND := Lib.hid hnd; have HSZ := Lib.hid hsz
  have HVl := Lib.hid (show V.heap.size = W.heap.size + 2 by rw [← hV]; simp)
  clear hba hbb q hx2 hnd hsz
  go_enter Tryz.func80, Tryz.ntmps80
  go_wp2_with fail
  refine (HC.out).mono ?_
  rintro e w1 ⟨⟨v, rfl, hs⟩, hb⟩
  have hnm : g.terms ++ g.nons = g.names := rfl
  rw [hnm] at hs
  clear hnm
  obtain ⟨A, c, rfl⟩ := hs.shape
  have HS := Lib.hid (Nrow.look hs (G := fun j => V.heap.size ≤ j ∧ j < w1.heap.size) fun j hj => Nrow.lt hs hj)
  have HM := Lib.hid (MI.kept (row := none) HM0.out ⟨hb.os, hb.tape, hb.output, hb.size, fun j hj _ => hb.block j hj⟩ (by simp))
  have HB1 := Lib.hid (HV.out.trans (hb.mono HV.out.size))
  have HS1 := Lib.hid hb.size
  have hNl := Lib.hid (names_len g)
  have hml : g.names.length ≤ 1099511627775 := by rw [names_len]; exact hl
  clear hs hb x0 x1 x2 x3 y0 y1
  obtain ⟨nl, hnl⟩ : ∃ nl, nl = g.names.length := ⟨_, rfl⟩
  rw [← hnl] at HS hml hNl ⊢
  have HNL := Lib.hid hnl
  clear hnl
  go_wp2
  go_loopw [14] (fun i wr => ∃ (k : Nat), k ≤ nl ∧ i = .int .i64 k ∧ MI wr W.heap.size (seenF g.names k) k ∧ Below W.heap.size W wr ∧ wr.heap.size = w1.heap.size ∧ ∀ j, j ≠ W.heap.size → wr.heap[j]? = w1.heap[j]?) (fun i _ => nl - (intOf i).toNat)
  case atStart => exact ⟨0, by omega, rfl, by
    have : seenF g.names 0 = fun _ => none := by funext s; unfold seenF; simp
    rw [this]; exact HM.out, HB1.out, rfl, fun _ _ => rfl⟩
  case round =>
    obtain ⟨k, hk, rfl, hm, hb, hz, hj⟩ := hrel
    by_cases hlt : k < nl
    · have hlt1 : k < g.names.length := by rw [← HNL.out]; exact hlt
      obtain ⟨bb, off, u, rfl, hgb, hu, z⟩ := SlAt.cell1 HS.out hlt1
      unfold StrV at hu
      injection hu with hu _
      subst hu
      have z2 : wr.cell? ⟨bb, off + k, none⟩ = some (bs g.names[k]) := (World.cell?_of_block (hj bb (by have := HVl.out; omega))).trans z
      have hnone := seenF_new hlt1 HND.out
      have hsl := HSZ.out _ (List.getElem_mem hlt1)
      have hget := hm.get g.names[k] (by omega)
      obtain ⟨w', hst, hm', hg', hs'⟩ := hm.store g.names[k] 1 (by omega) (by decide) (by omega)
      rw [hnone] at hget hm'
      rw [seenF_upd hlt1] at hm'
      have hget2 : (Instr.lookup 115 (.map (some W.heap.size)) (bs g.names[k]) false).run Tryz.prog wr = .ok (.int .i64 0) wr := hget
      have HM' := Lib.hid (show MI w' W.heap.size (seenF g.names (k + 1)) (k + 1) from hm')
      have HB' := Lib.hid (hb.grown hg' hb.size (fun j e => by cases e; exact Nat.le_refl _))
      have HZ' := Lib.hid (hs'.trans hz)
      have HJ' := Lib.hid (show ∀ j, j ≠ W.heap.size → w'.heap[j]? = w1.heap[j]? from fun j hne => by
        by_cases hjl : j < wr.heap.size
        · exact (hg'.block j hjl (fun e => hne (Option.some.inj e))).trans (hj j hne)
        · exact (Array.getElem?_eq_none (show w'.heap.size ≤ j by omega)).trans (Array.getElem?_eq_none (show w1.heap.size ≤ j by omega)).symm)
      clear hget hm hm' hg' hs' hz hj hnone z
      unfold bs at *
      go_wp2_with fail
      go_roundw
      case rel => exact ⟨k + 1, by omega, by go_num, HM'.out, HB'.out, HZ'.out, HJ'.out⟩
      case measure => simp only [intOf]; omega
    · have hlen := hm.len 3
      have hx := HX.out.on hb
      obtain ⟨x0, x1, x2, x3⟩ := hx.cells
      have HT := Lib.hid (top_p G wr _ g hx.old hx.gm (by omega))
      unfold ag at HT
      have HBR := Lib.hid hb
      have hkt : ((k : Int) == (g.top : Int)) = true := by rw [beq_iff_eq]; have := hNl.out; omega
      clear hm hb hz hj hx
      go_wp2_with fail
      refine HT.out.mono ?_
      rintro e w2 ⟨rfl, hb2⟩
      go_wp2_with fail
      go_ret
      exact ⟨rfl, HB.out.trans ((HBR.out.trans (hb2.mono HBR.out.size)).mono HB.out.size)⟩
end Go.Proofs.YtpidmmfjcghmeaaGreat
namespace Go.Proofs.YtpidmmfjcghmeaaGreat
open Go.RowKit

theorem nameB_len {s : List UInt8} (h : nameB s = true) : s.length ≤ 24 := by
  unfold nameB at h
  rw [Bool.and_eq_true, decide_eq_true_iff] at h
  exact h.2
theorem quotedB_len {s : List UInt8} (h : quotedB s = true) : s.length ≤ 24 := by
  unfold quotedB at h
  simp only [Bool.and_eq_true, decide_eq_true_eq] at h
  omega
theorem termB_len {s : List UInt8} (h : termB s = true) : s.length ≤ 24 := by
  unfold termB at h
  rw [Bool.or_eq_true] at h
  exact h.elim nameB_len quotedB_len
theorem GW.top {g : Gm} (h : GW g) : g.top ≤ 240 ∧ 1 ≤ g.top := by
  have h1 := h.lt; have h2 := h.ln; have h3 := h.kn.st
  unfold Gm.N at h3
  unfold Gm.top at *
  omega
theorem GW.name_len {g : Gm} (h : GW g) : ∀ s ∈ g.names, s.length ≤ 24 := by
  intro s hs
  rcases List.mem_append.1 hs with hs | hs
  · exact termB_len (h.ft s hs)
  · exact nameB_len (h.fn s hs)
theorem GW.fit {g : Gm} (h : GW g) : g.Fit :=
  ⟨Nat.le_trans h.lt (by decide), Nat.le_trans h.ln (by decide), Nat.le_trans h.lr (by decide), fun s hs => Nat.le_trans (termB_len (h.ft s hs)) (by decide), fun s hs => Nat.le_trans (nameB_len (h.fn s hs)) (by decide), fun r hr => Nat.le_trans (h.lx r hr) (by decide)⟩

set_option maxRecDepth 100000 in
set_option maxHeartbeats 4000000 in
theorem check_p (G : Nat → Prop) (w : World) (vs : List Value) (g : Gm) (hG : ∀ k, G k → k < w.heap.size) (hg : GmV G w vs g) (hw : GW g):
    Calls Tryz.prog 30 #[ag vs] w fun e w' => e = .returned (.int .i64 0) ∧ Below w.heap.size w w' := by
  obtain ⟨A0, c0, A1, c1, A2, c2, rfl, hb, hx⟩ := GBox.start hG hg
  show Calls Tryz.prog 30 #[.agg #[.slice A0 g.terms.length c0, .slice A1 g.nons.length c1, .slice A2 g.rules.length c2, .int .i64 g.start]] w _
  generalize hW : w.alloc (.cells #[.slice A0 g.terms.length c0, .slice A1 g.nons.length c1, .slice A2 g.rules.length c2, .int .i64 g.start] 25) = W at *
  obtain ⟨x0, x1, x2, x3⟩ := hx.cells
  have HB := Lib.hid hb; have HX := Lib.hid hx; have HG := Lib.hid hG
  clear hb hx hG hg
  have ht := hw.top
  have h1 := once_p G; have h2 := non_p G; have h3 := top_p G; have h4 := of_p G
  unfold ag at h1 h2 h3 h4
  have H1 := Lib.hid h1; have H2 := Lib.hid h2; have H3 := Lib.hid h3; have H4 := Lib.hid h4
  have HW := Lib.hid hw; have HT := Lib.hid ht
  have l1 : ¬ (120 : Int) < (g.terms.length : Int) := by have := hw.lt; omega
  have l2 : ¬ (120 : Int) < (g.nons.length : Int) := by have := hw.ln; omega
  have l3 : ¬ (300 : Int) < (g.rules.length : Int) := by have := hw.lr; omega
  have C1 := Lib.hid (fun (Y : World) (hY : Below W.heap.size W Y) => (show (g.rules.all fun r => decide (r.2.length ≤ 8)) = true from List.all_eq_true.2 fun r hr => decide_eq_true (hw.lx r hr)) ▸ all_rule G 74 #[] (fun r => decide (r.2.length ≤ 8)) _ g.rules Y (old_of HX.out.old hY) (RusAt.below HX.out.old hY HX.out.hr) enter_c1 (fun X hX vs x hx => c1_p G X vs x hx))
  have C2 := Lib.hid (fun (Y : World) (hY : Below W.heap.size W Y) => (show (g.terms.all fun _ => true) = true from List.all_eq_true.2 fun _ _ => rfl) ▸ all_str (fun s => termB s = true) G 77 #[] (fun _ => true) _ g.terms Y (old_of HX.out.old hY) (StrsAt.with (StrsAt.below HX.out.old hY HX.out.ht) hw.ft) enter_c2 (fun X hX vs x hx => by
    obtain ⟨rfl, hq⟩ := hx
    exact c2_p x X (Nat.le_trans (termB_len hq) (by decide)) hq))
  have C3 := Lib.hid (fun (Y : World) (hY : Below W.heap.size W Y) => (show (g.nons.all nameB) = true from List.all_eq_true.2 hw.fn) ▸ all_str (fun s => nameB s = true) G 78 #[] nameB _ g.nons Y (old_of HX.out.old hY) (StrsAt.with (StrsAt.below HX.out.old hY HX.out.hn) hw.fn) enter_pl (fun X hX vs x hx => by
    obtain ⟨rfl, hq⟩ := hx
    exact plain_p6 x X (Nat.le_trans (nameB_len hq) (by decide))))
  have C4 := Lib.hid (fun (Y : World) (hY : Below W.heap.size W Y) => (show (g.rules.all (rulB g)) = true from List.all_eq_true.2 fun r hr => (List.all_eq_true.1 (Bool.and_eq_true_iff.1 ((knownB_iff g).2 hw.kn)).2 r hr)) ▸ all_rule G 82 #[.pointer (some ⟨w.heap.size, 0, none⟩)] (rulB g) _ g.rules Y (old_of HX.out.old hY) (RusAt.below HX.out.old hY HX.out.hr) enter_c3
    (fun X hX vs x hx => check3_p G X w.heap.size A0 c0 A1 c1 A2 c2 g vs x (HX.out.on (hY.trans (hX.mono hY.size))) hx (by omega)))
  have C5 := Lib.hid (fun (Y : World) (hY : Below W.heap.size W Y) => (decide_eq_true hw.ul) ▸ unlike_p G Y _ _ _ g.rules (old_of HX.out.old hY) (RusAt.below HX.out.old hY HX.out.hr))
  clear h1 h2 h3 h4 hw ht
  go_enter Tryz.func30, Tryz.ntmps30
  go_wp2_with fail
  refine (C1.out _ (Below.refl _ _)).mono ?_
  rintro e w1 ⟨rfl, hb1⟩
  have HE1 := Lib.hid hb1
  have HX1 := Lib.hid (HX.out.on hb1)
  have HB1 := Lib.hid (HB.out.trans (hb1.mono HB.out.size))
  clear x0 x1 x2 x3 hb1
  obtain ⟨x0, x1, x2, x3⟩ := HX1.out.cells
  go_wp2_with fail
  refine (C2.out _ HE1.out).mono ?_
  rintro e w2 ⟨rfl, hb1⟩
  have HE2 := Lib.hid (HE1.out.trans (hb1.mono HE1.out.size))
  have HX2 := Lib.hid (HX1.out.on hb1)
  have HB2 := Lib.hid (HB1.out.trans (hb1.mono HB1.out.size))
  clear x0 x1 x2 x3 hb1
  obtain ⟨x0, x1, x2, x3⟩ := HX2.out.cells
  go_wp2_with fail
  refine (C3.out _ HE2.out).mono ?_
  rintro e w3 ⟨rfl, hb1⟩
  have HE3 := Lib.hid (HE2.out.trans (hb1.mono HE2.out.size))
  have HX3 := Lib.hid (HX2.out.on hb1)
  have HB3 := Lib.hid (HB2.out.trans (hb1.mono HB2.out.size))
  clear x0 x1 x2 x3 hb1
  obtain ⟨x0, x1, x2, x3⟩ := HX3.out.cells
  go_wp2_with fail
  refine (H1.out _ _ g HX3.out.old HX3.out.gm (by have := HT.out; omega) HT.out.2 HW.out.nd (fun s hs => Nat.le_trans (HW.out.name_len s hs) (by decide))).mono ?_
  rintro e w4 ⟨rfl, hb1⟩
  have HE4 := Lib.hid (HE3.out.trans (hb1.mono HE3.out.size))
  have HX4 := Lib.hid (HX3.out.on hb1)
  have HB4 := Lib.hid (HB3.out.trans (hb1.mono HB3.out.size))
  clear x0 x1 x2 x3 hb1
  obtain ⟨x0, x1, x2, x3⟩ := HX4.out.cells
  have hst := decide_eq_true HW.out.kn.st
  have H2' := H2.out w4 _ g g.start HX4.out.old HX4.out.gm (by have := HT.out; omega)
  rw [hst] at H2'
  have HN := Lib.hid H2'
  clear hst H2'
  go_wp2_with fail
  refine (HN.out).mono ?_
  rintro e w5 ⟨rfl, hb1⟩
  have HE5 := Lib.hid (HE4.out.trans (hb1.mono HE4.out.size))
  have HX5 := Lib.hid (HX4.out.on hb1)
  have HB5 := Lib.hid (HB4.out.trans (hb1.mono HB4.out.size))
  clear x0 x1 x2 x3 hb1
  obtain ⟨x0, x1, x2, x3⟩ := HX5.out.cells
  go_wp2_with fail
  refine (C4.out _ HE5.out).mono ?_
  rintro e w6 ⟨rfl, hb1⟩
  have HE6 := Lib.hid (HE5.out.trans (hb1.mono HE5.out.size))
  have HX6 := Lib.hid (HX5.out.on hb1)
  have HB6 := Lib.hid (HB5.out.trans (hb1.mono HB5.out.size))
  clear x0 x1 x2 x3 hb1
  obtain ⟨x0, x1, x2, x3⟩ := HX6.out.cells
  go_wp2_with fail
  refine (C5.out _ HE6.out).mono ?_
  rintro e w7 ⟨rfl, hb1⟩
  have HE7 := Lib.hid (HE6.out.trans (hb1.mono HE6.out.size))
  have HX7 := Lib.hid (HX6.out.on hb1)
  have HB7 := Lib.hid (HB6.out.trans (hb1.mono HB6.out.size))
  clear x0 x1 x2 x3 hb1
  obtain ⟨x0, x1, x2, x3⟩ := HX7.out.cells
  go_wp2
  go_loopw [4] (fun i wr => ∃ (k : Nat), k ≤ g.nons.length ∧ i = .int .i64 ((g.terms.length : Int) + 1 + k) ∧ Below w7.heap.size w7 wr) (fun i _ => (g.top + 1 - (intOf i).toNat))
  case atStart => exact ⟨0, by omega, by simp, Below.refl _ _⟩
  case round =>
    obtain ⟨k, hk, rfl, hb1⟩ := hrel
    have HR := Lib.hid hb1
    have HBk := Lib.hid hb1
    have HXa := Lib.hid (HX7.out.on hb1)
    clear x0 x1 x2 x3 hb1
    obtain ⟨x0, x1, x2, x3⟩ := HXa.out.cells
    have C6 := Lib.hid (H3.out wr _ g HXa.out.old HXa.out.gm (by have := HT.out; omega))
    have htl := Lib.hid (show g.top = g.terms.length + g.nons.length from rfl)
    have htb := HT.out.1
    go_wp2_with fail
    refine (C6.out).mono ?_
    rintro e wa ⟨rfl, hb1⟩
    have HRa := Lib.hid (HR.out.trans (hb1.mono HR.out.size))
    have HXb := Lib.hid (HXa.out.on hb1)
    clear x0 x1 x2 x3 hb1
    obtain ⟨x0, x1, x2, x3⟩ := HXb.out.cells
    by_cases hlt : k < g.nons.length
    · have hle : (g.terms.length : Int) + 1 + (k : Int) ≤ (g.top : Int) := by have := htl.out; omega
      have C7 := Lib.hid (H4.out wa _ g ((g.terms.length : Int) + 1 + k) HXb.out.old HXb.out.gm (by have := HW.out.lr; omega))
      have hne := (GW_iff g).1 HW.out |>.2.2.2.2.2 k hlt
      generalize ofR ((g.terms.length : Int) + 1 + k) g.rules 0 = l at C7 hne
      have hl0 : ¬ (l.length : Int) = 0 := fun h => hne (List.eq_nil_of_length_eq_zero (by omega))
      clear hne
      go_wp2_with fail
      refine (C7.out).mono ?_
      rintro e wb ⟨v, rfl, hs, hb1⟩
      obtain ⟨A, c, rfl⟩ := hs.shape
      have HRb := Lib.hid (HRa.out.trans (hb1.mono HRa.out.size))
      clear hs hb1 x0 x1 x2 x3
      go_wp2_with fail
      go_roundw
      case rel => exact ⟨k + 1, by omega, by go_num, HRb.out⟩
      case measure => simp only [intOf]; have := htl.out; omega
    · have hgt : ¬ (g.terms.length : Int) + 1 + (k : Int) ≤ (g.top : Int) := by have := htl.out; omega
      go_wp2_with fail
      go_ret
      exact ⟨rfl, HB7.out.trans (HRa.out.mono HB7.out.size)⟩
end Go.Proofs.YtpidmmfjcghmeaaGreat
