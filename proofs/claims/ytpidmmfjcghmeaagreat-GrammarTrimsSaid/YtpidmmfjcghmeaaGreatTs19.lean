/- Texts in one: GtC7, GtC8, GtMuch. -/
import Derived.Test.YtpidmmfjcghmeaaGreatTs18
import Derived.Test.YtpidmmfjcghmeaaGreatTs05
namespace Go.Proofs.YtpidmmfjcghmeaaGreat
open Go.RowKit

theorem setD_or {d : Nat → Nat → Nat → Bool} {s i j s' i' j' : Nat} (h : setD d s i j s' i' j' = true) : (s' = s ∧ i' = i ∧ j' = j) ∨ d s' i' j' = true := by
  unfold setD at h
  by_cases e : s' = s ∧ i' = i ∧ j' = j
  · exact .inl e
  · rw [if_neg e] at h; exact .inr h
theorem setD_le {d : Nat → Nat → Nat → Bool} {s i j s' i' j' : Nat} (h : d s' i' j' = true) : setD d s i j s' i' j' = true := by
  unfold setD
  split
  · rfl
  · exact h
/-- A chart's relation. -/
def relD (d : Nat → Nat → Nat → Bool) (s : Int) (i j : Nat) : Prop := 0 ≤ s ∧ d s.toNat i j = true
theorem span_iff {d : Nat → Nat → Nat → Bool} : ∀ (a : List Int) (i j : Nat), (∀ s ∈ a, 0 ≤ s) → (spanB d a i j = true ↔ Gm.Span (relD d) a i j)
  | [], i, j, _ => by
    rw [spanB, Gm.Span]
    exact beq_iff_eq
  | x :: a, i, j, h => by
    rw [span_cons, Gm.Span]
    constructor
    · rintro ⟨k, h1, h2, h3⟩
      exact ⟨i + k, by omega, h1, ⟨h x (List.mem_cons_self ..), h2⟩, (span_iff a _ _ fun s hs => h s (List.mem_cons_of_mem _ hs)).1 h3⟩
    · rintro ⟨m, h1, h2, h3, h4⟩
      refine ⟨m - i, by omega, ?_, ?_⟩
      · rw [show i + (m - i) = m by omega]; exact h3.2
      · rw [show i + (m - i) = m by omega]; exact (span_iff a _ _ fun s hs => h s (List.mem_cons_of_mem _ hs)).2 h4
/-- What a chart says is so: at the beginning, and behind each step. -/
def SoundD (g : Gm) (l : List Int) (d : Nat → Nat → Nat → Bool) : Prop := ∀ s i j, i ≤ j → j ≤ l.length → d s i j = true → g.Der [(s : Int)] (Gm.seg l i j)
theorem sound0 (g : Gm) (l : List Int) : SoundD g l (d0F g l) := fun s i j _ _ h => by
  unfold d0F at h
  simp only [Bool.and_eq_true, decide_eq_true_iff] at h
  obtain ⟨⟨⟨h3, h4⟩, h5⟩, rfl⟩ := h
  rw [List.getD_eq_getElem?_getD, List.getElem?_eq_getElem h4, Option.getD_some] at h5
  rw [Gm.seg_one h4, h5]
  exact .term h3 .nil
theorem sound_span {g : Gm} {l : List Int} {d : Nat → Nat → Nat → Bool} (hd : SoundD g l d) (a : List Int) (ha : ∀ s ∈ a, 0 ≤ s) {i j : Nat} (hij : i ≤ j) (hj : j ≤ l.length) (h : spanB d a i j = true) : g.Der a (Gm.seg l i j) :=
  Gm.span_sound (D := relD d) (fun s i j h1 h2 h3 => by
    have h4 := hd s.toNat i j h1 h2 h3.2
    rwa [show ((s.toNat : Nat) : Int) = s by have := h3.1; omega] at h4) a i j hij hj ((span_iff a i j ha).1 h)
theorem sym_nn {g : Gm} {s : Int} (h : g.T s ∨ g.N s) : 0 ≤ s := by have := Gm.mem_T_le h; omega
theorem sound_steps {g : Gm} (hk : g.Known) {l : List Int} {x : Nat} {b : List Int} (hr : ((x : Int), b) ∈ g.rules) {d d' : Nat → Nat → Nat → Bool} {bb bb' : Nat → Nat → Bool} (h : Steps x b l.length d bb d' bb') (hd : SoundD g l d) : SoundD g l d' := by
  induction h with
  | refl => exact hd
  | @dd d1 b1 i j _ hij hj hs ih =>
    intro s i' j' h1 h2 h3
    rcases setD_or h3 with ⟨rfl, rfl, rfl⟩ | h3
    · exact (Gm.Der.of_rule (hk.left _ hr)).2 ⟨b, hr, sound_span ih b (fun s hs => sym_nn (hk.right _ hr s hs)) h1 h2 hs⟩
    · exact ih s i' j' h1 h2 h3
  | bb _ _ _ ih => exact ih
theorem sound_grown {g : Gm} (hk : g.Known) {l : List Int} {d : Nat → Nat → Nat → Bool} {bb : Nat → Nat → Bool} (h : Grown g l.length (d0F g l) (b0F g l) d bb) : SoundD g l d := by
  induction h with
  | refl => exact sound0 g l
  | step _ hr hs ih => exact sound_steps hk hr hs ih
theorem steps_le {x N : Nat} {b : List Int} {d d' : Nat → Nat → Nat → Bool} {bb bb' : Nat → Nat → Bool} (h : Steps x b N d bb d' bb') (s i j : Nat) (h0 : d s i j = true) : d' s i j = true := by
  induction h with
  | refl => exact h0
  | dd _ _ _ _ ih => exact setD_le ih
  | bb _ _ _ ih => exact ih
theorem grown_le {g : Gm} {N : Nat} {d0 d : Nat → Nat → Nat → Bool} {b0 bb : Nat → Nat → Bool} (h : Grown g N d0 b0 d bb) (s i j : Nat) (h0 : d0 s i j = true) : d s i j = true := by
  induction h with
  | refl => exact h0
  | step _ _ hs ih => exact steps_le hs s i j ih
/-- The chart of a grammar and a list says just what is derived. -/
theorem filled_iff {g : Gm} (hk : g.Known) {l : List Int} {d : Nat → Nat → Nat → Bool} {bb : Nat → Nat → Bool} (h : Filled g l d bb) {s : Nat} {i j : Nat} (hij : i ≤ j) (hj : j ≤ l.length) : d s i j = true ↔ g.Der [(s : Int)] (Gm.seg l i j) := by
  constructor
  · exact sound_grown hk h.gr s i j hij hj
  · intro hd
    have h1 := Gm.span_complete (g := g) (l := l) (D := relD d) (fun i hi hT => ⟨sym_nn (.inl hT), by
        have h0 : ((l[i].toNat : Nat) : Int) = l[i] := by have := sym_nn (g := g) (.inl hT); omega
        exact grown_le h.gr _ _ _ (by rw [d0F_yes (by rw [h0]; exact hT) hi h0.symm]; exact decide_eq_true rfl)⟩)
      (fun r hr i j h1 h2 h3 => ⟨sym_nn (.inr (hk.left r hr)), h.cd r hr i j h1 h2 ((span_iff r.2 i j fun s hs => sym_nn (hk.right r hr s hs)).2 h3)⟩) hd i j hij hj rfl
    obtain ⟨m, _, _, h4, h5⟩ := h1
    obtain rfl := (show m = j from h5)
    have h6 := h4.2
    rwa [Int.toNat_natCast] at h6
theorem seg_all (l : List Int) : Gm.seg l 0 l.length = l := by simp [Gm.seg]

end Go.Proofs.YtpidmmfjcghmeaaGreat
namespace Go.Proofs.YtpidmmfjcghmeaaGreat
open Go.RowKit

set_option maxRecDepth 100000 in
set_option maxHeartbeats 4000000 in
theorem word_r (G : Nat → Prop) (w : World) (vs : List Value) (g : Gm) (Al : Option Addr) (cl : Nat) (l : List Int)(hG : ∀ k, G k → k < w.heap.size) (hg : GmV G w vs g) (hk : g.Known) (hl : g.top ≤ 1000) (hll : l.length ≤ 1000) (hlr : g.rules.length ≤ 100000) (hi : IntsAt G w (.slice Al l.length cl) l):
    Calls Tryz.prog 9 #[ag vs, .slice Al l.length cl] w fun e w' => (∃ b, e = .returned (.bool b) ∧ (b = true ↔ g.Der [g.start] l)) ∧ Below w.heap.size w w' := by
  obtain ⟨A0, c0, A1, c1, A2, c2, rfl, hb, hx⟩ := GBox.start hG hg
  show Calls Tryz.prog 9 #[.agg #[.slice A0 g.terms.length c0, .slice A1 g.nons.length c1, .slice A2 g.rules.length c2, .int .i64 g.start], .slice Al l.length cl] w _
  generalize hW : w.alloc (.cells #[.slice A0 g.terms.length c0, .slice A1 g.nons.length c1, .slice A2 g.rules.length c2, .int .i64 g.start] 25) = W at *
  obtain ⟨x0, x1, x2, x3⟩ := hx.cells
  have HB := Lib.hid hb; have HX := Lib.hid hx; have HG := Lib.hid hG
  clear hb hx hG hg
  have h3 := fill_r G
  unfold ag at h3
  have HF := Lib.hid (h3 W _ g Al cl l HX.out.old HX.out.gm hk hl hll hlr (IntsAt.below HG.out HB.out hi))
  obtain ⟨st, hst⟩ : ∃ st : Nat, g.start = (st : Int) := ⟨g.start.toNat, by have := hk.st; unfold Gm.N at this; omega⟩
  have hstm : st < g.top + 1 := by have := hk.st; unfold Gm.N at this; omega
  have HK := Lib.hid hk; have HST := Lib.hid hst
  clear h3 hk hi hst
  go_enter Tryz.func9, Tryz.ntmps9
  go_wp2_with fail
  refine (HF.out).mono ?_
  rintro e w1 hp
  obtain ⟨bc, bd, bB, p, r, q, d, bb, v0, v1, v2, v3, rfl, hch, hfi, hb1⟩ := hp
  have HFI := Lib.hid (show d st 0 l.length = true ↔ g.Der [g.start] l from by rw [HST.out, filled_iff HK.out hfi (Nat.zero_le _) (Nat.le_refl _), seg_all])
  have HX1 := Lib.hid (HX.out.on hb1)
  have HB1 := Lib.hid (HB.out.trans (hb1.mono HB.out.size))
  clear x0 x1 x2 x3 hb1
  obtain ⟨x0, x1, x2, x3⟩ := HX1.out.cells
  have hst := HST.out
  rw [hst] at x3
  obtain ⟨e1, e2, e3, e4⟩ := hch.dcells hstm (show 0 < l.length + 1 by omega) (show l.length < l.length + 1 by omega)
  clear hch hfi hst HST
  revert e4 HFI
  generalize d st 0 l.length = d1
  intro HFI e4
  have c1 : w1.drew.cell? _ = _ := e1; have c2 : w1.drew.cell? _ = _ := e2; have c3 : w1.drew.cell? _ = _ := e3; have c4 : w1.drew.cell? _ = _ := e4; have c5 : w1.drew.cell? _ = _ := x3
  go_wp2_with fail
  go_region
  go_wp2_with fail
  go_ret
  exact ⟨⟨d1, rfl, HFI.out⟩, HB1.out.drew⟩
end Go.Proofs.YtpidmmfjcghmeaaGreat
namespace Go.Proofs.YtpidmmfjcghmeaaGreat
open Go.RowKit

/-- The sum over the first k of a list. -/
def sumN {β : Type} (f : β → Nat) (l : List β) (k : Nat) : Nat := ((l.take k).map f).sum
theorem sumN_zero {β : Type} (f : β → Nat) (l : List β) : sumN f l 0 = 0 := by simp [sumN]
theorem sumN_succ {β : Type} (f : β → Nat) (l : List β) (k : Nat) (h : k < l.length) : sumN f l (k + 1) = sumN f l k + f l[k] := by
  unfold sumN
  rw [List.take_succ_eq_append_getElem h, List.map_append, List.sum_append]
  simp
theorem sumN_le {β : Type} (f : β → Nat) (l : List β) (M : Nat) (hM : ∀ x ∈ l, f x ≤ M) : ∀ (k : Nat), k ≤ l.length → sumN f l k ≤ k * M
  | 0, _ => by rw [sumN_zero]; omega
  | k + 1, h => by
    have h1 := sumN_le f l M hM k (by omega)
    have h2 := hM l[k] (List.getElem_mem ..)
    rw [sumN_succ f l k (by omega), Nat.add_mul]
    omega
theorem sumN_mem {β : Type} (f : β → Nat) (l : List β) {x : β} (h : x ∈ l) : f x ≤ sumN f l l.length := by
  unfold sumN
  rw [List.take_length]
  induction l with
  | nil => cases h
  | cons y l ih =>
    rw [List.map_cons, List.sum_cons]
    rcases List.mem_cons.1 h with rfl | h
    · omega
    · have := ih h; omega
/-- A grammar of few names, bytes, rules and symbols. -/
structure Gm.Few (g : Gm) : Prop where
  n : g.top + g.rules.length ≤ 40
  t : ∀ s ∈ g.terms, s.length ≤ 819
  o : ∀ s ∈ g.nons, s.length ≤ 819
  r : ∀ r ∈ g.rules, r.2.length ≤ 368
theorem Gm.Few.fit {g : Gm} (h : g.Few) : g.Fit := by
  have := h.n
  unfold Gm.top at this
  exact ⟨by omega, by omega, by omega, fun s hs => by have := h.t s hs; omega, fun s hs => by have := h.o s hs; omega, fun s hs => by have := h.r s hs; omega⟩
def muchN (g : Gm) : Nat := g.top + g.rules.length + sumN (fun s : List UInt8 => s.length / 20) g.terms (min g.terms.length 200) + sumN (fun s : List UInt8 => s.length / 20) g.nons (min g.nons.length 200) + sumN (fun r : Int × List Int => r.2.length / 9) g.rules (min g.rules.length 400)
theorem few_of {g : Gm} (h : muchN g ≤ 40) : g.Few := by
  unfold muchN at h
  have ht : g.terms.length ≤ g.top := by unfold Gm.top; omega
  have hn : g.nons.length ≤ g.top := by unfold Gm.top; omega
  rw [Nat.min_eq_left (by omega), Nat.min_eq_left (by omega), Nat.min_eq_left (by omega)] at h
  refine ⟨by omega, fun s hs => ?_, fun s hs => ?_, fun r hr => ?_⟩
  · have := sumN_mem (fun s : List UInt8 => s.length / 20) _ hs; omega
  · have := sumN_mem (fun s : List UInt8 => s.length / 20) _ hs; omega
  · have := sumN_mem (fun r : Int × List Int => r.2.length / 9) _ hr; omega

set_option maxRecDepth 100000 in
set_option maxHeartbeats 4000000 in
theorem much_r (G : Nat → Prop) (w : World) (vs : List Value) (g : Gm) (hG : ∀ k, G k → k < w.heap.size) (hg : GmV G w vs g) (hf : g.Fit):
    Calls Tryz.prog 6 #[ag vs] w fun e w' => e = .returned (.int .i64 (muchN g)) ∧ Below w.heap.size w w' := by
  obtain ⟨A0, c0, A1, c1, A2, c2, rfl, hb, hx⟩ := GBox.start hG hg
  show Calls Tryz.prog 6 #[.agg #[.slice A0 g.terms.length c0, .slice A1 g.nons.length c1, .slice A2 g.rules.length c2, .int .i64 g.start]] w _
  generalize hW : w.alloc (.cells #[.slice A0 g.terms.length c0, .slice A1 g.nons.length c1, .slice A2 g.rules.length c2, .int .i64 g.start] 25) = W at *
  obtain ⟨x0, x1, x2, x3⟩ := hx.cells
  have HB := Lib.hid hb; have HX := Lib.hid hx; have HG := Lib.hid hG
  clear hb hx hG hg
  have HF := Lib.hid hf
  have hl1 := hf.lt; have hl2 := hf.ln; have hl3 := hf.lr
  obtain ⟨T, hT⟩ : ∃ T, T = (fun s : List UInt8 => s.length / 20) := ⟨_, rfl⟩
  obtain ⟨R, hR⟩ : ∃ R, R = (fun r : Int × List Int => r.2.length / 9) := ⟨_, rfl⟩
  have B1 : ∀ k, k ≤ g.terms.length → k ≤ 200 → sumN T g.terms k ≤ 200 * 140737488355328 := fun k h1 h2 => Nat.le_trans (sumN_le T _ 140737488355328 (fun x hx => by have := hf.st x hx; rw [hT]; simp only; omega) k h1) (by omega)
  have B2 : ∀ k, k ≤ g.nons.length → k ≤ 200 → sumN T g.nons k ≤ 200 * 140737488355328 := fun k h1 h2 => Nat.le_trans (sumN_le T _ 140737488355328 (fun x hx => by have := hf.sn x hx; rw [hT]; simp only; omega) k h1) (by omega)
  have B3 : ∀ k, k ≤ g.rules.length → k ≤ 400 → sumN R g.rules k ≤ 400 * 140737488355328 := fun k h1 h2 => Nat.le_trans (sumN_le R _ 140737488355328 (fun x hx => by have := hf.sr x hx; rw [hR]; simp only; omega) k h1) (by omega)
  have HM := Lib.hid (show muchN g = g.top + g.rules.length + sumN T g.terms (min g.terms.length 200) + sumN T g.nons (min g.nons.length 200) + sumN R g.rules (min g.rules.length 400) by rw [hT, hR]; rfl)
  have HB1 := Lib.hid B1; have HB2 := Lib.hid B2; have HB3 := Lib.hid B3
  have HT := Lib.hid hT; have HR := Lib.hid hR
  have htop : (g.top : Int) = (g.terms.length : Int) + (g.nons.length : Int) := by unfold Gm.top; omega
  have HTP := Lib.hid htop
  clear hf hT hR B1 B2 B3 htop
  go_enter Tryz.func6, Tryz.ntmps6
  go_wp2
  go_loopw [3, 4] (fun o v wr => ∃ (k1 : Nat), v = .int .i64 k1 ∧ k1 ≤ g.terms.length ∧ k1 ≤ 200 ∧ o = .int .i64 ((g.terms.length : Int) + (g.nons.length : Int) + (g.rules.length : Int) + (sumN T g.terms k1 : Int)) ∧ W = wr) (fun _ v _ => 201 - (intOf v).toNat)
  case atStart => exact ⟨0, rfl, by omega, by omega, by rw [sumN_zero]; go_num, rfl⟩
  case round =>
    obtain ⟨k1, rfl, hk0, hm0, rfl, rfl⟩ := hrel
    have HW0 := Lib.hid (HB1.out k1 hk0 hm0)
    by_cases hlt : k1 < g.terms.length ∧ k1 < 200
    · obtain ⟨hlt, hlt2⟩ := hlt
      obtain ⟨bb, off, rfl, z⟩ := HX.out.term hlt
      have HS := Lib.hid (sumN_succ T g.terms k1 hlt)
      have hb := HF.out.st _ (List.getElem_mem hlt)
      have hw0 := HW0.out
      unfold bs at z
      obtain ⟨X, hX⟩ : ∃ X : ByteArray, X = ⟨g.terms[k1].toArray⟩ := ⟨_, rfl⟩
      rw [← hX] at z
      have hxs : X.size = g.terms[k1].length := by rw [hX]; rfl
      rw [← hxs] at hb
      have HTk := Lib.hid (show T g.terms[k1] = X.size / 20 by rw [HT.out, hxs])
      clear hX hxs
      go_wp2_with fail
      go_roundw
      case rel => exact ⟨k1 + 1, by go_num, by omega, by omega, by rw [HS.out, HTk.out]; go_num, trivial⟩
      case measure => simp only [intOf]; omega
    · have HK0 := Lib.hid (show k1 = min g.terms.length 200 by omega)
      rcases (show (k1 < g.terms.length ∧ ¬ k1 < 200) ∨ ¬ k1 < g.terms.length by omega) with ⟨hlt, hlt2⟩ | hlt
      all_goals
        have hw0 := HW0.out
        go_wp2_with fail
        clear hlt
        try clear hlt2
        clear hw0
        go_loopw [3, 5] (fun o v wr => ∃ (k2 : Nat), v = .int .i64 k2 ∧ k2 ≤ g.nons.length ∧ k2 ≤ 200 ∧ o = .int .i64 ((g.terms.length : Int) + (g.nons.length : Int) + (g.rules.length : Int) + (sumN T g.terms k1 : Int) + (sumN T g.nons k2 : Int)) ∧ W = wr) (fun _ v _ => 201 - (intOf v).toNat)
        case atStart => exact ⟨0, rfl, by omega, by omega, by rw [sumN_zero]; go_num, rfl⟩
        case round =>
          obtain ⟨k2, rfl, hk1, hm1, rfl, rfl⟩ := hrel
          have HW1 := Lib.hid (HB2.out k2 hk1 hm1)
          by_cases hlt : k2 < g.nons.length ∧ k2 < 200
          · obtain ⟨hlt, hlt2⟩ := hlt
            obtain ⟨bb, off, rfl, z⟩ := HX.out.non hlt
            have HS := Lib.hid (sumN_succ T g.nons k2 hlt)
            have hb := HF.out.sn _ (List.getElem_mem hlt)
            have hw0 := HW0.out
            have hw1 := HW1.out
            unfold bs at z
            obtain ⟨X, hX⟩ : ∃ X : ByteArray, X = ⟨g.nons[k2].toArray⟩ := ⟨_, rfl⟩
            rw [← hX] at z
            have hxs : X.size = g.nons[k2].length := by rw [hX]; rfl
            rw [← hxs] at hb
            have HTk := Lib.hid (show T g.nons[k2] = X.size / 20 by rw [HT.out, hxs])
            clear hX hxs
            go_wp2_with fail
            go_roundw
            case rel => exact ⟨k2 + 1, by go_num, by omega, by omega, by rw [HS.out, HTk.out]; go_num, trivial⟩
            case measure => simp only [intOf]; omega
          · have HK1 := Lib.hid (show k2 = min g.nons.length 200 by omega)
            rcases (show (k2 < g.nons.length ∧ ¬ k2 < 200) ∨ ¬ k2 < g.nons.length by omega) with ⟨hlt, hlt2⟩ | hlt
            all_goals
              have hw0 := HW0.out
              have hw1 := HW1.out
              go_wp2_with fail
              clear hlt
              try clear hlt2
              clear hw0 hw1
              go_loopw [3, 6] (fun o v wr => ∃ (k3 : Nat), v = .int .i64 k3 ∧ k3 ≤ g.rules.length ∧ k3 ≤ 400 ∧ o = .int .i64 ((g.terms.length : Int) + (g.nons.length : Int) + (g.rules.length : Int) + (sumN T g.terms k1 : Int) + (sumN T g.nons k2 : Int) + (sumN R g.rules k3 : Int)) ∧ W = wr) (fun _ v _ => 401 - (intOf v).toNat)
              case atStart => exact ⟨0, rfl, by omega, by omega, by rw [sumN_zero]; go_num, rfl⟩
              case round =>
                obtain ⟨k3, rfl, hk2, hm2, rfl, rfl⟩ := hrel
                have HW2 := Lib.hid (HB3.out k3 hk2 hm2)
                by_cases hlt : k3 < g.rules.length ∧ k3 < 400
                · obtain ⟨hlt, hlt2⟩ := hlt
                  obtain ⟨bb, off, Ar, cr, rfl, z0, z1, zi⟩ := HX.out.rule hlt
                  have hb := HF.out.sr _ (List.getElem_mem hlt)
                  have HS := Lib.hid (sumN_succ R g.rules k3 hlt)
                  have HTk := Lib.hid (show R g.rules[k3] = g.rules[k3].2.length / 9 by rw [HR.out])
                  have hw0 := HW0.out
                  have hw1 := HW1.out
                  have hw2 := HW2.out
                  clear zi
                  go_wp2_with fail
                  go_roundw
                  case rel => exact ⟨k3 + 1, by go_num, by omega, by omega, by rw [HS.out, HTk.out]; go_num, trivial⟩
                  case measure => simp only [intOf]; omega
                · have HK2 := Lib.hid (show k3 = min g.rules.length 400 by omega)
                  rcases (show (k3 < g.rules.length ∧ ¬ k3 < 400) ∨ ¬ k3 < g.rules.length by omega) with ⟨hlt, hlt2⟩ | hlt
                  all_goals
                    have hw0 := HW0.out
                    have hw1 := HW1.out
                    have hw2 := HW2.out
                    go_wp2_with fail
                    go_ret
                    exact ⟨by rw [HM.out, ← HK0.out, ← HK1.out, ← HK2.out]; first | done | (congr 2; done) | (congr 2; have := HTP.out; omega), HB.out⟩
end Go.Proofs.YtpidmmfjcghmeaaGreat
