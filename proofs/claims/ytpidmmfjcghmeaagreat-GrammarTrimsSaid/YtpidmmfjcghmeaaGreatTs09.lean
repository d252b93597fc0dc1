/- Texts in one: GtL1, GtL2. -/
import Derived.Test.YtpidmmfjcghmeaaGreatTs07
import Derived.Test.YtpidmmfjcghmeaaGreatTs08
namespace Go.Proofs.YtpidmmfjcghmeaaGreat
open Go.RowKit

/-- All nonterminals of a right side are in a set. -/
def fineB (g : Gm) (X : Nat) (r : Int × List Int) : Bool := r.2.all fun s => !(decide (g.N s) && !X.testBit s.toNat)
theorem fineB_iff (g : Gm) (X : Nat) (r : Int × List Int) : fineB g X r = true ↔ ∀ s ∈ r.2, g.N s → X.testBit s.toNat = true := by
  unfold fineB
  rw [List.all_eq_true]
  constructor
  · intro h s hs hN
    have := h s hs
    rw [decide_eq_true hN] at this
    simpa using this
  · intro h s hs
    by_cases hN : g.N s
    · rw [decide_eq_true hN, h s hs hN]; rfl
    · rw [decide_eq_false hN]; rfl

set_option maxRecDepth 100000 in
set_option maxHeartbeats 4000000 in
theorem fine_p (G : Nat → Prop) (w : World) (vs : List Value) (g : Gm) (us : List Value) (r : Int × List Int) (b bw X : Nat)(hG : ∀ k, G k → k < w.heap.size) (hg : GmV G w vs g) (hu : RuV G w us r) (hl : g.top ≤ 63) (hS : BSet w b bw (g.top + 1) X):
    Calls Tryz.prog 33 #[ag vs, ag us, .pointer (some ⟨b, 0, none⟩)] w fun e w' => e = .returned (.bool (fineB g X r)) ∧ Below w.heap.size w w' := by
  obtain ⟨A0, c0, A1, c1, A2, c2, rfl, hb, hx⟩ := GBox.start hG hg
  show Calls Tryz.prog 33 #[.agg #[.slice A0 g.terms.length c0, .slice A1 g.nons.length c1, .slice A2 g.rules.length c2, .int .i64 g.start], ag us, .pointer (some ⟨b, 0, none⟩)] w _
  generalize hW : w.alloc (.cells #[.slice A0 g.terms.length c0, .slice A1 g.nons.length c1, .slice A2 g.rules.length c2, .int .i64 g.start] 25) = W at *
  obtain ⟨x0, x1, x2, x3⟩ := hx.cells
  have HB := Lib.hid hb; have HX := Lib.hid hx; have HG := Lib.hid hG
  clear hb hx hG hg
  have hu2 := RuV.below HG.out HB.out hu
  obtain ⟨A, c, rfl, _, _⟩ := hu.shape
  obtain ⟨va, ea, ia⟩ := hu2
  injection ea with _ ea
  injection ea with ea _
  subst ea
  have hb : Below W.heap.size W (W.alloc (.cells #[.int .i64 r.1, .slice A r.2.length c] 64)) := (Below.refl _ _).alloc (Nat.le_refl _) _
  have q := heap_alloc_t W (.cells #[.int .i64 r.1, .slice A r.2.length c] 64)
  have HX1 := Lib.hid (HX.out.on hb)
  have HI := Lib.hid (IntsAt.below HX.out.old hb ia)
  have HB1 := Lib.hid (HB.out.trans (hb.mono HB.out.size))
  have HS := Lib.hid ((hS.below HB.out).below hb)
  show Calls Tryz.prog 33 #[_, .agg #[.int .i64 r.1, .slice A r.2.length c], _] w _
  clear x0 x1 x2 x3 ia hu hS
  obtain ⟨r1, r2⟩ := r
  dsimp only at *
  generalize hV : W.alloc (.cells #[.int .i64 r1, .slice A r2.length c] 64) = V at *
  have y0 := cell_box q 0 _ rfl; have y1 := cell_box q 1 _ rfl
  have h4 := non_p G
  unfold ag at h4
  have H4 := Lib.hid h4
  have hln := (SlAt.len HI.out).2
  clear h4 q hb
  go_enter Tryz.func33, Tryz.ntmps33
  go_wp2
  go_loopw [12] (fun i wr => ∃ (k : Nat), k ≤ r2.length ∧ i = .int .i64 k ∧ ((r2.drop k).all fun s => !(decide (g.N s) && !X.testBit s.toNat)) = fineB g X (r1, r2) ∧ Below V.heap.size V wr) (fun i _ => r2.length - (intOf i).toNat)
  case atStart => exact ⟨0, by omega, rfl, rfl, Below.refl _ _⟩
  case round =>
    obtain ⟨k, hk, rfl, hi, hb⟩ := hrel
    have HBR := Lib.hid hb
    have HXR := Lib.hid (HX1.out.on hb)
    have HIR := Lib.hid (IntsAt.below HX1.out.old hb HI.out)
    have HSR := Lib.hid (HS.out.below hb)
    clear hb y0 y1
    obtain ⟨x0, x1, x2, x3⟩ := HXR.out.cells
    by_cases hlt : k < r2.length
    · obtain ⟨bb, off, rfl, z⟩ := HIR.out.get hlt
      rw [drop_one r2 k hlt, List.all_cons] at hi
      revert hi z
      generalize r2[k] = s
      intro hi z
      have HC := Lib.hid (H4.out wr _ g s HXR.out.old HXR.out.gm (by omega))
      by_cases hN : g.N s
      · rw [decide_eq_true hN] at HC hi
        obtain ⟨i, rfl⟩ := Int.eq_ofNat_of_zero_le (show 0 ≤ s by unfold Gm.N at hN; omega)
        have hin : i < g.top + 1 := by unfold Gm.N at hN; omega
        rw [Int.toNat_natCast] at hi
        have HI2 := Lib.hid hi
        clear hi hN
        go_wp2_with fail
        refine (HC.out).mono ?_
        rintro e w1 ⟨rfl, hb1⟩
        have HD := Lib.hid (has_p b bw (g.top + 1) X i w1 (HSR.out.below hb1) hin)
        have HB2 := Lib.hid (HBR.out.trans (hb1.mono HBR.out.size))
        clear hb1 x0 x1 x2 x3 z
        generalize X.testBit i = d at HD HI2
        go_wp2_with fail
        refine (HD.out).mono ?_
        rintro e w2 ⟨rfl, rfl⟩
        cases d
        · have he := Lib.hid (show fineB g X (r1, r2) = false by rw [← HI2.out]; rfl)
          go_wp2_with fail
          go_ret
          exact ⟨by first | (rw [he.out]; done) | (rw [he.out]; rfl), HB1.out.trans (HB2.out.mono HB1.out.size)⟩
        · go_wp2_with fail
          go_roundw
          case rel => exact ⟨k + 1, by omega, by go_num, HI2.out, HB2.out⟩
          case measure => simp only [intOf]; omega
      · rw [decide_eq_false hN] at HC hi
        have HI2 := Lib.hid hi
        clear hi hN
        go_wp2_with fail
        refine (HC.out).mono ?_
        rintro e w1 ⟨rfl, hb1⟩
        have HB2 := Lib.hid (HBR.out.trans (hb1.mono HBR.out.size))
        clear hb1 x0 x1 x2 x3 z
        go_wp2_with fail
        go_roundw
        case rel => exact ⟨k + 1, by omega, by go_num, HI2.out, HB2.out⟩
        case measure => simp only [intOf]; omega
    · have he := Lib.hid (show fineB g X (r1, r2) = true by rw [← hi, List.drop_eq_nil_of_le (by omega)]; rfl)
      clear hi
      go_wp2_with fail
      go_ret
      exact ⟨by first | (rw [he.out]; done) | (rw [he.out]; rfl), HB1.out.trans (HBR.out.mono HB1.out.size)⟩
end Go.Proofs.YtpidmmfjcghmeaaGreat
namespace Go.Proofs.YtpidmmfjcghmeaaGreat
open Go.RowKit

def PSound (g : Gm) (X : Nat) : Prop := ∀ i : Nat, X.testBit i = true → g.N i ∧ g.Prod i
def PClosed (g : Gm) (X : Nat) : Prop := ∀ r ∈ g.rules, fineB g X r = true → X.testBit r.1.toNat = true
theorem der_all {g : Gm} : ∀ {b : List Int}, (∀ s ∈ b, ∃ w, g.Der [s] w) → ∃ w, g.Der b w
  | [], _ => ⟨[], .nil⟩
  | s :: b, h => by
    obtain ⟨u, hu⟩ := h s (List.mem_cons_self ..)
    obtain ⟨v, hv⟩ := der_all fun t ht => h t (List.mem_cons_of_mem _ ht)
    exact ⟨u ++ v, hu.app hv⟩
theorem prod_rule {g : Gm} (hk : g.Known) {r : Int × List Int} (hr : r ∈ g.rules) (h : ∀ s ∈ r.2, g.N s → g.Prod s) : g.Prod r.1 := by
  obtain ⟨w, hw⟩ := der_all (g := g) (b := r.2) fun s hs => (hk.right r hr s hs).elim (fun hT => ⟨[s], .term hT .nil⟩) (fun hN => h s hs hN)
  exact ⟨w, (Gm.Der.of_rule (hk.left r hr)).2 ⟨r.2, hr, hw⟩⟩
theorem prod_complete {g : Gm} {X : Nat} (hc : PClosed g X) {a w : List Int} (h : g.Der a w) : ∀ s ∈ a, g.N s → X.testBit s.toNat = true := by
  induction h with
  | nil => intro s hs; cases hs
  | term hT _ ih =>
    intro s hs hN
    rcases List.mem_cons.1 hs with rfl | hs
    · exact absurd hT (Gm.not_T_of_N hN)
    · exact ih s hs hN
  | rule hr _ _ ih1 ih2 =>
    intro s hs hN
    rcases List.mem_cons.1 hs with rfl | hs
    · exact hc _ hr ((fineB_iff _ _ _).2 ih1)
    · exact ih2 s hs hN
/-- A set is that of the productive nonterminals. -/
def IsProd (g : Gm) (X : Nat) : Prop := PSound g X ∧ ∀ s, g.N s → g.Prod s → X.testBit s.toNat = true
theorem isProd_of {g : Gm} {X : Nat} (h1 : PSound g X) (h2 : PClosed g X) : IsProd g X := ⟨h1, fun s hN ⟨_, hw⟩ => prod_complete h2 hw s (List.mem_cons_self ..) hN⟩
theorem psound_put {g : Gm} (hk : g.Known) {X : Nat} (h : PSound g X) {r : Int × List Int} (hr : r ∈ g.rules) (hf : fineB g X r = true) : PSound g (X ||| 2 ^ r.1.toNat) := by
  have hN := hk.left r hr
  have h0 : ((r.1.toNat : Nat) : Int) = r.1 := by unfold Gm.N at hN; omega
  have hp := prod_rule hk hr fun s hs hsN => by
    have h1 := h _ ((fineB_iff _ _ _).1 hf s hs hsN)
    rw [show ((s.toNat : Nat) : Int) = s by unfold Gm.N at hsN; omega] at h1
    exact h1.2
  intro i hi
  rw [or_bit, Bool.or_eq_true, decide_eq_true_iff] at hi
  rcases hi with hi | rfl
  · exact h i hi
  · rw [h0]; exact ⟨hN, hp⟩
/-- How many numbers below n are not there. -/
def zr (X : Nat) : Nat → Nat
  | 0 => 0
  | n + 1 => zr X n + (if X.testBit n then 0 else 1)
theorem zr_same (X i : Nat) : ∀ n, n ≤ i → zr (X ||| 2 ^ i) n = zr X n
  | 0, _ => rfl
  | n + 1, h => by
    rw [zr, zr, zr_same X i n (by omega), or_bit, decide_eq_false (show ¬ i = n by omega), Bool.or_false]
theorem zr_put {X i : Nat} (hi : X.testBit i = false) : ∀ n, i < n → zr (X ||| 2 ^ i) n + 1 = zr X n
  | 0, h => absurd h (Nat.not_lt_zero i)
  | n + 1, h => by
    rw [zr, zr, or_bit]
    by_cases hn : i = n
    · subst hn
      rw [zr_same X i i (Nat.le_refl _), hi, decide_eq_true rfl]
      simp
    · have := zr_put hi n (by omega)
      rw [decide_eq_false hn, Bool.or_false]
      omega
def wordOf (w : World) (b : Nat) : Nat := match w.cell? ⟨b, 0, none⟩ with
  | some (.int _ x) => x.toNat
  | _ => 0
theorem wordOf_eq {w : World} {b bw n X : Nat} (h : BSet w b bw n X) : wordOf w bw = X := by
  unfold wordOf
  rw [h.d0]
  simp
def boolN : Value → Nat
  | .bool true => 1
  | _ => 0

/-- A new set is handed back. -/
def SetPost (w : World) (n : Nat) (Q : Nat → Prop) (e : Ending) (w' : World) : Prop :=
  (∃ b bw X, e = .returned (.pointer (some ⟨b, 0, none⟩)) ∧ w.heap.size ≤ b ∧ w.heap.size ≤ bw ∧ BSet w' b bw n X ∧ Q X) ∧ Below w.heap.size w w'

set_option maxRecDepth 100000 in
set_option maxHeartbeats 4000000 in
theorem productive_p (G : Nat → Prop) (w : World) (vs : List Value) (g : Gm) (hG : ∀ k, G k → k < w.heap.size) (hg : GmV G w vs g) (hw : GW g) (hl : g.top ≤ 63):
    Calls Tryz.prog 31 #[ag vs] w fun e w' => SetPost w (g.top + 1) (IsProd g) e w' := by
  obtain ⟨A0, c0, A1, c1, A2, c2, rfl, hb, hx⟩ := GBox.start hG hg
  show Calls Tryz.prog 31 #[.agg #[.slice A0 g.terms.length c0, .slice A1 g.nons.length c1, .slice A2 g.rules.length c2, .int .i64 g.start]] w _
  generalize hW : w.alloc (.cells #[.slice A0 g.terms.length c0, .slice A1 g.nons.length c1, .slice A2 g.rules.length c2, .int .i64 g.start] 25) = W at *
  obtain ⟨x0, x1, x2, x3⟩ := hx.cells
  have HB := Lib.hid hb; have HX := Lib.hid hx; have HG := Lib.hid hG
  clear hb hx hG hg
  have h3 := top_p G; have h4 := fine_p G
  unfold ag at h3 h4
  have H3 := Lib.hid h3; have H4 := Lib.hid h4; have HW := Lib.hid hw
  have hlr := Nat.le_trans hw.lr (show 300 ≤ 1000 by decide)
  clear h3 h4 hw
  go_enter Tryz.func31, Tryz.ntmps31
  go_wp2_with fail
  refine (H3.out _ _ g HX.out.old HX.out.gm (by omega)).mono ?_
  rintro e w1 ⟨rfl, hb1⟩
  have HX1 := Lib.hid (HX.out.on hb1)
  have HB1 := Lib.hid (HB.out.trans (hb1.mono HB.out.size))
  clear x0 x1 x2 x3 hb1
  obtain ⟨x0, x1, x2, x3⟩ := HX1.out.cells
  have HN := Lib.hid (new_p (g.top + 1) w1 (by omega) (by omega))
  obtain ⟨n, hn⟩ : ∃ n, n = g.top + 1 := ⟨_, rfl⟩
  have hn1 : (g.top : Int) + 1 = (n : Int) := by omega
  rw [← hn] at HN
  have HNN := Lib.hid hn
  clear hn
  go_wp2_with fail
  refine (HN.out).mono ?_
  rintro e w2 ⟨⟨b, bw, rfl, hb0, hbw, hs⟩, hb1⟩
  have HBb := Lib.hid hb0; have HBw := Lib.hid hbw; have HS := Lib.hid hs; have HE := Lib.hid hb1
  clear hb0 hbw hs hb1 x0 x1 x2 x3
  go_wp2
  go_loopw [4] (fun mv wr => ∃ (X : Nat) (m : Bool), mv = .bool m ∧ BSet wr b bw n X ∧ PSound g X ∧ (m = false → PClosed g X) ∧ Below w1.heap.size w1 wr) (fun mv wr => 2 * zr (wordOf wr bw) n + boolN mv)
  case atStart => exact ⟨0, true, rfl, HS.out, fun i hi => by simp at hi, fun h => (by cases h), HE.out⟩
  case round =>
    obtain ⟨X, m, rfl, hs, hps, hpc, hb⟩ := hrel
    have HXR := Lib.hid (HX1.out.on hb)
    obtain ⟨x0, x1, x2, x3⟩ := HXR.out.cells
    have HS1 := Lib.hid hs; have HP := Lib.hid hps; have HC := Lib.hid hpc; have HR := Lib.hid hb
    clear hs hps hpc hb
    cases m
    · have he := Lib.hid (isProd_of HP.out (HC.out rfl))
      have HF := Lib.hid (show BSet wr b bw (g.top + 1) X by rw [← HNN.out]; exact HS1.out)
      go_wp2_with fail
      go_ret
      exact ⟨⟨b, bw, X, rfl, Nat.le_trans HB1.out.size HBb.out, Nat.le_trans HB1.out.size HBw.out, HF.out, he.out⟩, HB1.out.trans (HR.out.mono HB1.out.size)⟩
    · have HZ := Lib.hid (wordOf_eq HS1.out)
      go_wp2
      go_loopw [4, 15] (fun mv iv wq => ∃ (k : Nat) (Y : Nat) (m : Bool), mv = .bool m ∧ iv = .int .i64 k ∧ k ≤ g.rules.length ∧ BSet wq b bw n Y ∧ PSound g Y ∧ (m = false → Y = X ∧ ∀ r ∈ g.rules.take k, fineB g Y r = true → Y.testBit r.1.toNat = true) ∧ (m = true → zr Y n < zr X n) ∧ Below w1.heap.size w1 wq) (fun _ iv _ => g.rules.length - (intOf iv).toNat)
      case atStart => exact ⟨0, X, false, rfl, rfl, by omega, HS1.out, HP.out, fun _ => ⟨rfl, by simp⟩, fun h => (by cases h), HR.out⟩
      case round =>
        obtain ⟨k, Y, m, rfl, rfl, hk, hs, hps, hf, ht, hb⟩ := hrel
        have HXQ := Lib.hid (HX1.out.on hb)
        clear x0 x1 x2 x3
        obtain ⟨x0, x1, x2, x3⟩ := HXQ.out.cells
        have HS2 := Lib.hid hs; have HP2 := Lib.hid hps; have HF := Lib.hid hf; have HT := Lib.hid ht; have HQ := Lib.hid hb
        clear hs hps hf ht hb
        by_cases hlt : k < g.rules.length
        · obtain ⟨bb, off, Ak, ck, rfl, z0, z1, zi⟩ := HXQ.out.rule hlt
          have hmem := List.getElem_mem hlt
          have hb2 : Below wr.heap.size wr (wr.alloc (.cells #[.int .i64 g.rules[k].1, .slice Ak g.rules[k].2.length ck] 64)) := (Below.refl _ _).alloc (Nat.le_refl _) _
          have q := heap_alloc_t wr (.cells #[.int .i64 g.rules[k].1, .slice Ak g.rules[k].2.length ck] 64)
          have hV0 := HQ.out.trans (hb2.mono HQ.out.size)
          have hxv := HXQ.out.on hb2
          have hru : RuV G (wr.alloc (.cells #[.int .i64 g.rules[k].1, .slice Ak g.rules[k].2.length ck] 64)) [.int .i64 g.rules[k].1, .slice Ak g.rules[k].2.length ck] g.rules[k] := RuV.below HXQ.out.old hb2 ⟨_, rfl, zi⟩
          have hsv := HS2.out.below hb2
          have HTK := Lib.hid (take_one hlt)
          have HKL := Lib.hid (HW.out.kn.left _ hmem)
          have HMM := Lib.hid hmem
          clear hmem zi hb2
          have HTL := Lib.hid (show ∀ (Z : Nat), Y = Z → (∀ r ∈ g.rules.take k, fineB g Z r = true → Z.testBit r.1.toNat = true) → (fineB g Z g.rules[k] = true → Z.testBit g.rules[k].1.toNat = true) → ∀ r ∈ g.rules.take (k + 1), fineB g Z r = true → Z.testBit r.1.toNat = true from fun Z _ h1 h2 r hr hf => by
            rw [HTK.out, List.mem_append, List.mem_singleton] at hr
            rcases hr with hr | rfl
            · exact h1 r hr hf
            · exact h2 hf)
          have HPS := Lib.hid (fun hf => psound_put HW.out.kn HP2.out HMM.out hf)
          have HC := Lib.hid (fine_p G (wr.alloc (.cells #[.int .i64 g.rules[k].1, .slice Ak g.rules[k].2.length ck] 64)) _ g _ g.rules[k] b bw Y hxv.old hxv.gm hru hl (HNN.out ▸ hsv))
          unfold ag at HC
          clear hru
          revert HC HPS HTL HKL z0 z1 q hV0 hxv hsv
          generalize g.rules[k] = r
          obtain ⟨ra, rb⟩ := r
          dsimp only
          intro z0 z1 q hV0 hxv hsv HKL HTL HPS HC
          obtain ⟨i, rfl⟩ := Int.eq_ofNat_of_zero_le (show 0 ≤ ra by have := HKL.out; unfold Gm.N at this; omega)
          have HIN := Lib.hid (show i < n by have := HKL.out; unfold Gm.N at this; have := HNN.out; omega)
          rw [Int.toNat_natCast] at HTL HPS
          generalize hV : wr.alloc (.cells #[.int .i64 (i : Int), .slice Ak rb.length ck] 64) = V at *
          have y0 := cell_box q 0 _ rfl; have y1 := cell_box q 1 _ rfl
          have HXV := Lib.hid hxv; have HSV := Lib.hid hsv; have HV0 := Lib.hid hV0
          clear x0 x1 x2 x3 hxv hsv hV0 q
          obtain ⟨x0, x1, x2, x3⟩ := HXV.out.cells
          cases hfd : fineB g Y ((i : Int), rb)
          · rw [hfd] at HC
            have HFD := Lib.hid hfd
            clear hfd
            go_wp2_with fail
            refine (HC.out).mono ?_
            rintro e w3 ⟨rfl, hb1⟩
            have HSW := Lib.hid (HSV.out.below hb1)
            have HBW := Lib.hid (HV0.out.trans (hb1.mono HV0.out.size))
            clear hb1 x0 x1 x2 x3 y0 y1 z0 z1
            go_wp2_with fail
            go_roundw
            case rel => exact ⟨k + 1, Y, m, rfl, by go_num, by omega, HSW.out, HP2.out, fun h => ⟨(HF.out h).1, HTL.out Y rfl (HF.out h).2 (fun h2 => by rw [HFD.out] at h2; cases h2)⟩, HT.out, HBW.out⟩
            case measure => simp only [intOf]; omega
          · rw [hfd] at HC
            have HFD := Lib.hid hfd
            clear hfd
            go_wp2_with fail
            refine (HC.out).mono ?_
            rintro e w3 ⟨rfl, hb1⟩
            have HSW := Lib.hid (HSV.out.below hb1)
            have HBW := Lib.hid (HV0.out.trans (hb1.mono HV0.out.size))
            have y0' := box_keep y0 hb1
            have HPU := Lib.hid (put_p b bw n Y i w3 HSW.out HIN.out)
            clear hb1 x0 x1 x2 x3 y0 y1 z0 z1
            cases hbit : Y.testBit i
            · rw [hbit] at HPU
              have HBT := Lib.hid hbit
              clear hbit
              go_wp2_with fail
              refine (HPU.out).mono ?_
              rintro e w4 ⟨rfl, hs4, hd4⟩
              have HS4 := Lib.hid hs4
              have HB4 := Lib.hid (HBW.out.trans (hd4.below HBw.out))
              clear hs4 hd4 y0'
              go_wp2_with fail
              go_roundw
              case rel => exact ⟨k + 1, Y ||| 2 ^ i, true, rfl, by go_num, by omega, HS4.out, HPS.out HFD.out, fun h => (by cases h), fun _ => by
                have h1 := zr_put HBT.out n HIN.out
                cases hm : m with
                | false => rw [← (HF.out hm).1]; omega
                | true => have := HT.out hm; omega, HB4.out⟩
              case measure => simp only [intOf]; omega
            · rw [hbit] at HPU
              have HBT := Lib.hid hbit
              clear hbit
              go_wp2_with fail
              refine (HPU.out).mono ?_
              rintro e w4 ⟨rfl, hs4, hd4⟩
              rw [or_same HBT.out] at hs4
              have HS4 := Lib.hid hs4
              have HB4 := Lib.hid (HBW.out.trans (hd4.below HBw.out))
              clear hs4 hd4 y0'
              go_wp2_with fail
              go_roundw
              case rel => exact ⟨k + 1, Y, m, rfl, by go_num, by omega, HS4.out, HP2.out, fun h => ⟨(HF.out h).1, HTL.out Y rfl (HF.out h).2 (fun _ => HBT.out)⟩, HT.out, HB4.out⟩
              case measure => simp only [intOf]; omega
        · have HCL := Lib.hid (show m = false → PClosed g Y from fun h r hr => (HF.out h).2 r (by rw [List.take_of_length_le (by omega)]; exact hr))
          go_wp2_with fail
          go_roundw
          case rel => exact ⟨Y, m, rfl, HS2.out, HP2.out, HCL.out, HQ.out⟩
          case measure =>
            rw [wordOf_eq HS2.out, HZ.out]
            cases hm : m with
            | false => rw [(HF.out hm).1]; simp [boolN]
            | true => have := HT.out hm; simp [boolN]; omega
end Go.Proofs.YtpidmmfjcghmeaaGreat
