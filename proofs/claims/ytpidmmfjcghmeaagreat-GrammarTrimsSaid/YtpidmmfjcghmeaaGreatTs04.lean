/- Texts in one: GtRef5, CharPlain, CharClass, CharName, CharRef. -/
import Derived.Test.YtpidmmfjcghmeaaGreatTs03
import Derived.Test.YtpidmmfjcghmeaaGreatTs01
import Derived.Lib.Bytealg
namespace Go.Proofs.YtpidmmfjcghmeaaGreat
open Go.RowKit

def symB (g : Gm) (s : Int) : Bool := decide (g.T s) || decide (g.N s)
def rulB (g : Gm) (r : Int × List Int) : Bool := decide (g.N r.1) && r.2.all (symB g)
def knownB (g : Gm) : Bool := decide (g.N g.start) && g.rules.all (rulB g)
theorem knownB_iff (g : Gm) : knownB g = true ↔ g.Known := by
  unfold knownB
  rw [Bool.and_eq_true, decide_eq_true_iff, List.all_eq_true]
  constructor
  · rintro ⟨h1, h2⟩
    refine ⟨h1, fun r hr => ?_, fun r hr s hs => ?_⟩
    · have := h2 r hr
      unfold rulB at this
      rw [Bool.and_eq_true, decide_eq_true_iff] at this
      exact this.1
    · have := h2 r hr
      unfold rulB symB at this
      rw [Bool.and_eq_true, List.all_eq_true] at this
      simpa using this.2 s hs
  · rintro ⟨h1, h2, h3⟩
    refine ⟨h1, fun r hr => ?_⟩
    unfold rulB symB
    rw [Bool.and_eq_true, decide_eq_true_iff, List.all_eq_true]
    exact ⟨h2 r hr, fun s hs => by simpa using h3 r hr s hs⟩

set_option maxRecDepth 100000 in
set_option maxHeartbeats 4000000 in
theorem known_r (G : Nat → Prop) (w : World) (vs : List Value) (g : Gm) (hG : ∀ k, G k → k < w.heap.size) (hg : GmV G w vs g) (hl : g.top ≤ 9223372036854775807):
    Calls Tryz.prog 27 #[ag vs] w fun e w' => e = .returned (.bool (knownB g)) ∧ Below w.heap.size w w' := by
  obtain ⟨A0, c0, A1, c1, A2, c2, rfl, hb, hx⟩ := GBox.start hG hg
  show Calls Tryz.prog 27 #[.agg #[.slice A0 g.terms.length c0, .slice A1 g.nons.length c1, .slice A2 g.rules.length c2, .int .i64 g.start]] w _
  generalize hW : w.alloc (.cells #[.slice A0 g.terms.length c0, .slice A1 g.nons.length c1, .slice A2 g.rules.length c2, .int .i64 g.start] 25) = W at *
  obtain ⟨x0, x1, x2, x3⟩ := hx.cells
  have HB := Lib.hid hb; have HX := Lib.hid hx
  clear hb hx hG hg
  have HLn := Lib.hid HX.out.lens
  have HL := Lib.hid hl
  clear hl
  have hN := non_r G
  have hT := term_r G
  unfold ag at hN hT
  have HN := Lib.hid hN; have HT := Lib.hid hT
  clear hN hT
  go_enter Tryz.func27, Tryz.ntmps27
  by_cases h0 : g.nons.length = 0
  · have he := Lib.hid (show knownB g = false by
      unfold knownB
      rw [decide_eq_false (by unfold Gm.N Gm.top; omega)]
      rfl)
    have h0' : (g.nons.length : Int) = 0 := by omega
    go_wp2_with fail
    go_ret
    exact ⟨by first | (rw [he.out]; done) | (rw [he.out]; rfl), by have := HB.out; rw [← hW, h0] at this; exact this⟩
  have h0' : ¬ (g.nons.length : Int) = 0 := by omega
  go_wp2_with fail
  refine (HN.out _ _ g g.start HX.out.old HX.out.gm HL.out).mono ?_
  rintro e w1 ⟨rfl, hb1⟩
  have HX1 := Lib.hid (HX.out.on hb1)
  have HB1 := Lib.hid (HB.out.trans (hb1.mono HB.out.size))
  clear x0 x1 x2 x3 hb1
  obtain ⟨x0, x1, x2, x3⟩ := HX1.out.cells
  have HK := Lib.hid (show knownB g = (decide (g.N g.start) && g.rules.all (rulB g)) from rfl)
  generalize decide (g.N g.start) = d at HK
  cases d
  · go_wp2_with fail
    go_ret
    exact ⟨by first | (rw [HK.out]; done) | (rw [HK.out]; rfl), HB1.out⟩
  go_wp2
  go_loopw [3] (fun i wr => ∃ (k : Nat), k ≤ g.rules.length ∧ i = .int .i64 k ∧ (g.rules.drop k).all (rulB g) = g.rules.all (rulB g) ∧ Below w1.heap.size w1 wr) (fun i _ => g.rules.length - (intOf i).toNat)
  case atStart => exact ⟨0, by omega, rfl, rfl, Below.refl _ _⟩
  case round =>
    obtain ⟨k, hk, rfl, hi, hb⟩ := hrel
    have HBR := Lib.hid hb
    have HXR := Lib.hid (HX1.out.on hb)
    clear x0 x1 x2 x3 hb
    obtain ⟨x0, x1, x2, x3⟩ := HXR.out.cells
    have hml := HLn.out.2.2
    by_cases hlt : k < g.rules.length
    · rw [drop_one _ k hlt, List.all_cons] at hi
      obtain ⟨bb, off, Ak, ck, rfl, z0, z1, zi⟩ := HXR.out.rule hlt
      have hrb : rulB g g.rules[k] = (decide (g.N g.rules[k].1) && g.rules[k].2.all (symB g)) := rfl
      rw [hrb] at hi
      clear hrb
      revert hi z0 z1 zi
      generalize g.rules[k] = rk
      obtain ⟨ra, rb⟩ := rk
      dsimp only
      intro hi z0 z1 zi
      have p := fun Y : Gr wr => Y.calls (HN.out Y.at_ _ g ra (old_of HXR.out.old Y.2) (GmV.below HXR.out.old Y.2 HXR.out.gm) HL.out)
      have f0 := fun Y : Gr wr => Y.cell _ _ x0; have f1 := fun Y : Gr wr => Y.cell _ _ x1; have f2 := fun Y : Gr wr => Y.cell _ _ x2; have f3 := fun Y : Gr wr => Y.cell _ _ x3
      have fk := fun Y : Gr wr => Y.cell _ _ z0
      have hne : Nonempty (Gr wr) := ⟨⟨_, Below.refl _ _⟩⟩
      have HI := Lib.hid hi; have HZ := Lib.hid zi
      clear hi zi z0
      revert p HI
      generalize decide (g.N ra) = d
      intro p HI
      go_wp2_with fail
      refine wp_region_class (S := Gr wr) Gr.at_ (by kernel_rfl) (by kernel_rfl) (Gr.drew _) ?_
      repeat (go_big_quiet_step (with_reducible exact p _))
      refine wpQuiet_nil ?_
      rintro wy ⟨⟨wy', hY⟩, hY2⟩
      obtain rfl : wy = wy' := hY2
      have HBY := Lib.hid (HBR.out.trans (hY.mono HBR.out.size))
      have HXY := Lib.hid (HXR.out.on hY)
      have HZY := Lib.hid (IntsAt.below HXR.out.old hY HZ.out)
      have y1 := box_keep z1 hY
      clear p f0 f1 f2 f3 fk hne hY x0 x1 x2 x3 z1 HZ
      cases d
      · have he := Lib.hid (show knownB g = false by rw [HK.out, ← HI.out]; rfl)
        go_wp2_with fail
        go_ret
        exact ⟨by first | (rw [he.out]; done) | (rw [he.out]; rfl), HB1.out.trans (HBY.out.mono HB1.out.size)⟩
      obtain ⟨x0, x1, x2, x3⟩ := HXY.out.cells
      have hmr := (SlAt.len HZY.out).2
      go_wp2
      go_loopw [4] (fun i wr => ∃ (j : Nat), j ≤ rb.length ∧ i = .int .i64 j ∧ (rb.drop j).all (symB g) = rb.all (symB g) ∧ Below wy.heap.size wy wr) (fun i _ => rb.length - (intOf i).toNat)
      case atStart => exact ⟨0, by omega, rfl, rfl, Below.refl _ _⟩
      case round =>
        obtain ⟨j, hj, rfl, hi, hb⟩ := hrel
        have HBQ := Lib.hid hb
        have HXQ := Lib.hid (HXY.out.on hb)
        have HZQ := Lib.hid (IntsAt.below HXY.out.old hb HZY.out)
        have u1 := box_keep y1 hb
        clear x0 x1 x2 x3 hb
        obtain ⟨x0, x1, x2, x3⟩ := HXQ.out.cells
        by_cases hjl : j < rb.length
        · rw [drop_one _ j hjl, List.all_cons] at hi
          obtain ⟨bj, oj, rfl, v0⟩ := HZQ.out.get hjl
          have hsb : symB g rb[j] = (decide (g.T rb[j]) || decide (g.N rb[j])) := rfl
          rw [hsb] at hi
          clear hsb
          revert hi v0
          generalize rb[j] = s
          intro hi v0
          have p := fun Y : Gr wr => Y.calls (HT.out Y.at_ _ g s (old_of HXQ.out.old Y.2) (GmV.below HXQ.out.old Y.2 HXQ.out.gm))
          have q := fun Y : Gr wr => Y.calls (HN.out Y.at_ _ g s (old_of HXQ.out.old Y.2) (GmV.below HXQ.out.old Y.2 HXQ.out.gm) HL.out)
          have f0 := fun Y : Gr wr => Y.cell _ _ x0; have f1 := fun Y : Gr wr => Y.cell _ _ x1; have f2 := fun Y : Gr wr => Y.cell _ _ x2; have f3 := fun Y : Gr wr => Y.cell _ _ x3
          have fk := fun Y : Gr wr => Y.cell _ _ u1; have fj := fun Y : Gr wr => Y.cell _ _ v0
          have hne : Nonempty (Gr wr) := ⟨⟨_, Below.refl _ _⟩⟩
          have HJ := Lib.hid hi
          clear hi v0
          revert p q HJ
          generalize decide (g.T s) = d1
          generalize decide (g.N s) = d2
          intro p q HJ
          go_wp2_with fail
          cases d1
          · refine wp_region_class (S := Gr wr) Gr.at_ (by kernel_rfl) (by kernel_rfl) (Gr.drew _) ?_
            repeat (go_big_quiet_step (first | (with_reducible exact p _) | (with_reducible exact q _)))
            refine wpQuiet_nil ?_
            rintro wz ⟨⟨wz', hY⟩, hY2⟩
            obtain rfl : wz = wz' := hY2
            have HBZ := Lib.hid (HBQ.out.trans (hY.mono HBQ.out.size))
            clear p q f0 f1 f2 f3 fk fj hne hY
            cases d2
            · have he := Lib.hid (show knownB g = false by rw [HK.out, ← HI.out, ← HJ.out]; rfl)
              go_wp2_with fail
              go_ret
              exact ⟨by first | (rw [he.out]; done) | (rw [he.out]; rfl), (HB1.out.trans (HBY.out.mono HB1.out.size)).trans (HBZ.out.mono (HB1.out.trans (HBY.out.mono HB1.out.size)).size)⟩
            · go_wp2_with fail
              go_roundw
              case rel => exact ⟨j + 1, by omega, by go_num, HJ.out, HBZ.out⟩
              case measure => simp only [intOf]; omega
          · refine wp_region_class (S := Gr wr) Gr.at_ (by kernel_rfl) (by kernel_rfl) (Gr.drew _) ?_
            repeat (go_big_quiet_step (first | (with_reducible exact p _) | (with_reducible exact q _)))
            refine wpQuiet_nil ?_
            rintro wz ⟨⟨wz', hY⟩, hY2⟩
            obtain rfl : wz = wz' := hY2
            have HBZ := Lib.hid (HBQ.out.trans (hY.mono HBQ.out.size))
            clear p q f0 f1 f2 f3 fk fj hne hY
            go_wp2_with fail
            go_roundw
            case rel => exact ⟨j + 1, by omega, by go_num, HJ.out, HBZ.out⟩
            case measure => simp only [intOf]; omega
        · have he := Lib.hid (show (g.rules.drop (k + 1)).all (rulB g) = g.rules.all (rulB g) by rw [← HI.out, ← hi, List.drop_eq_nil_of_le (show rb.length ≤ j by omega)]; rfl)
          go_wp2_with fail
          go_roundw
          case rel => exact ⟨k + 1, by omega, by go_num, he.out, HBY.out.trans (HBQ.out.mono HBY.out.size)⟩
          case measure => simp only [intOf]; omega
    · have he := Lib.hid (show knownB g = true by rw [HK.out, ← hi, List.drop_eq_nil_of_le (by omega)]; rfl)
      go_wp2_with fail
      go_ret
      exact ⟨by first | (rw [he.out]; done) | (rw [he.out]; rfl), HB1.out.trans (HBR.out.mono HB1.out.size)⟩
end Go.Proofs.YtpidmmfjcghmeaaGreat
namespace Go.Proofs.YtpidmmfjcghmeaaGreat.Chr

def cls (c : Nat) : Nat :=
  if c = 0 then 0 else if c = 32 ∨ c = 9 then 1 else if c = 10 then 2 else if 48 ≤ c ∧ c ≤ 57 then 3
  else if 97 ≤ c ∧ c ≤ 122 ∨ 65 ≤ c ∧ c ≤ 90 ∨ c = 95 then 4
  else if c = 38 ∨ c = 124 ∨ c = 59 ∨ c = 60 ∨ c = 62 ∨ c = 40 ∨ c = 41 then 5
  else if c = 39 ∨ c = 34 ∨ c = 92 ∨ c = 96 then 6 else if c = 36 then 7 else 8

/-- The signs, one by one. -/
def Sign (c : Nat) : Prop := c = 0 ∨ c = 32 ∨ c = 9 ∨ c = 10 ∨ c = 95 ∨ c = 38 ∨ c = 124 ∨ c = 59 ∨ c = 60 ∨ c = 62 ∨ c = 40 ∨ c = 41 ∨ c = 39 ∨ c = 34 ∨ c = 92 ∨ c = 96 ∨ c = 36
def Other (c : Nat) : Prop := (¬ c = 0 ∧ ¬ c = 32 ∧ ¬ c = 9 ∧ ¬ c = 10 ∧ ¬ c = 95 ∧ ¬ c = 38 ∧ ¬ c = 124 ∧ ¬ c = 59 ∧ ¬ c = 60 ∧ ¬ c = 62 ∧ ¬ c = 40 ∧ ¬ c = 41 ∧ ¬ c = 39 ∧ ¬ c = 34 ∧ ¬ c = 92 ∧ ¬ c = 96 ∧ ¬ c = 36) ∧ ¬ (48 ≤ c ∧ c ≤ 57) ∧ ¬ (97 ≤ c ∧ c ≤ 122) ∧ ¬ (65 ≤ c ∧ c ≤ 90)
/-- The ways of a byte, each as plain arithmetic. -/
theorem cls_cases (c : Nat) : Sign c ∨ (48 ≤ c ∧ c ≤ 57 ∧ cls c = 3) ∨ (97 ≤ c ∧ c ≤ 122 ∧ cls c = 4) ∨ (65 ≤ c ∧ c ≤ 90 ∧ cls c = 4) ∨ (Other c ∧ cls c = 8) := by
  by_cases h1 : 48 ≤ c ∧ c ≤ 57
  · have : cls c = 3 := by unfold cls; rw [if_neg (by omega), if_neg (by omega), if_neg (by omega), if_pos h1]
    exact .inr (.inl ⟨h1.1, h1.2, this⟩)
  by_cases h2 : 97 ≤ c ∧ c ≤ 122
  · have : cls c = 4 := by unfold cls; rw [if_neg (by omega), if_neg (by omega), if_neg (by omega), if_neg (by omega), if_pos (by omega)]
    exact .inr (.inr (.inl ⟨h2.1, h2.2, this⟩))
  by_cases h3 : 65 ≤ c ∧ c ≤ 90
  · have : cls c = 4 := by unfold cls; rw [if_neg (by omega), if_neg (by omega), if_neg (by omega), if_neg (by omega), if_pos (by omega)]
    exact .inr (.inr (.inr (.inl ⟨h3.1, h3.2, this⟩)))
  by_cases h4 : Sign c
  · exact .inl h4
  · have ho : Other c := by
      unfold Other
      refine ⟨?_, h1, h2, h3⟩
      unfold Sign at h4
      simp only [not_or] at h4
      exact h4
    have : cls c = 8 := by
      obtain ⟨h, _⟩ := ho
      unfold cls
      rw [if_neg (by omega), if_neg (by omega), if_neg (by omega), if_neg (by omega), if_neg (by omega), if_neg (by omega), if_neg (by omega), if_neg (by omega)]
    exact .inr (.inr (.inr (.inr ⟨ho, this⟩)))

theorem cls_le (c : Nat) : cls c ≤ 8 := by
  rcases cls_cases c with h | h | h | h | h
  · unfold Sign at h
    rcases h with rfl | rfl | rfl | rfl | rfl | rfl | rfl | rfl | rfl | rfl | rfl | rfl | rfl | rfl | rfl | rfl | rfl <;> decide
  all_goals omega
theorem cls_high (c : Nat) (h128 : 128 ≤ c) : cls c = 8 := by
  rcases cls_cases c with h | h | h | h | h
  · unfold Sign at h
    omega
  all_goals omega

def special (c : Nat) : Bool := c == 64 || c == 42 || c == 35 || c == 63 || c == 45 || c == 36 || c == 33

/-- Is something so of each byte, and its place? -/
def allFrom (p : Nat → Nat → Bool) : Nat → List UInt8 → Bool
  | _, [] => true
  | i, c :: r => p i c.toNat && allFrom p (i + 1) r

def okName (i c : Nat) : Bool := cls c == 4 || cls c == 3 && decide (0 < i)
def okDigit (_ c : Nat) : Bool := cls c == 3
def okPlain (_ c : Nat) : Bool := cls c == 3 || cls c == 4 || cls c == 8
def okAscii (_ c : Nat) : Bool := decide (c < 128)

def name (l : List UInt8) : Bool := allFrom okName 0 l && !l.isEmpty
def digits (l : List UInt8) : Bool := allFrom okDigit 0 l && !l.isEmpty
def ascii (l : List UInt8) : Bool := allFrom okAscii 0 l
def plain (l : List UInt8) : Bool := allFrom okPlain 0 l && !l.isEmpty && (l.headD 0).toNat != 35

theorem allFrom_mono {p q : Nat → Nat → Bool} (h : ∀ i c, p i c = true → q i c = true) : ∀ (i : Nat) (l : List UInt8), allFrom p i l = true → allFrom q i l = true
  | _, [], _ => rfl
  | i, c :: r, hp => by
    simp only [allFrom, Bool.and_eq_true] at hp ⊢
    exact ⟨h _ _ hp.1, allFrom_mono h _ r hp.2⟩
theorem allFrom_append (p : Nat → Nat → Bool) : ∀ (i : Nat) (l r : List UInt8), allFrom p i (l ++ r) = (allFrom p i l && allFrom p (i + l.length) r)
  | i, [], r => by simp [allFrom]
  | i, c :: l, r => by
    simp only [List.cons_append, allFrom, allFrom_append p (i + 1) l r, List.length_cons, Bool.and_assoc]
    congr 3
    omega
theorem allFrom_at {p : Nat → Nat → Bool} : ∀ (i : Nat) (l : List UInt8), allFrom p i l = true → ∀ (k : Nat) (h : k < l.length), p (i + k) (l[k].toNat) = true
  | i, c :: r, hp, 0, _ => by simp only [allFrom, Bool.and_eq_true] at hp; exact hp.1
  | i, c :: r, hp, k + 1, h => by
    simp only [allFrom, Bool.and_eq_true] at hp
    have := allFrom_at (i + 1) r hp.2 k (by simpa using h)
    rw [show i + (k + 1) = i + 1 + k by omega]
    simpa using this

/-- One byte more of a walk over a text. -/
theorem allFrom_drop (p : Nat → Nat → Bool) (l : List UInt8) (k : Nat) (h : k < l.length) : allFrom p k (l.drop k) = (p k (l[k].toNat) && allFrom p (k + 1) (l.drop (k + 1))) := by
  rw [List.drop_eq_getElem_cons h]
  rfl
theorem allFrom_end (p : Nat → Nat → Bool) (l : List UInt8) (k : Nat) (h : ¬ k < l.length) : allFrom p k (l.drop k) = true := by
  rw [List.drop_of_length_le (by omega)]
  rfl

theorem name_ascii (l : List UInt8) (h : name l = true) : ascii l = true := by
  unfold name at h
  rw [Bool.and_eq_true] at h
  refine allFrom_mono ?_ 0 l h.1
  intro i c hp
  unfold okName at hp
  unfold okAscii
  rw [decide_eq_true_eq]
  have := cls_high c
  rcases Nat.lt_or_ge c 128 with h1 | h1
  · exact h1
  · rw [this h1] at hp; simp at hp
theorem digits_ascii (l : List UInt8) (h : digits l = true) : ascii l = true := by
  unfold digits at h
  rw [Bool.and_eq_true] at h
  refine allFrom_mono ?_ 0 l h.1
  intro i c hp
  unfold okDigit at hp
  unfold okAscii
  rw [decide_eq_true_eq]
  have := cls_high c
  rcases Nat.lt_or_ge c 128 with h1 | h1
  · exact h1
  · rw [this h1] at hp; simp at hp

/-- Where the first = stands, behind a name; -1: nowhere. -/
def assignFrom (l : List UInt8) : Nat → Nat → Int
  | _, 0 => -1
  | i, n + 1 => if (l.getD i 0).toNat = 61 then (if name (l.take i) then (i : Int) else -1) else assignFrom l (i + 1) n
def assign (l : List UInt8) : Int := assignFrom l 0 l.length
end Go.Proofs.YtpidmmfjcghmeaaGreat.Chr
namespace Go.Proofs.YtpidmmfjcghmeaaGreat
open Go.RowKit

theorem or32 : ∀ c : Fin 256, (97 ≤ bits .or .u8 (c.val : Int) 32 ∧ bits .or .u8 (c.val : Int) 32 ≤ 122) ↔ (97 ≤ c.val ∧ c.val ≤ 122 ∨ 65 ≤ c.val ∧ c.val ≤ 90) := by decide +kernel

theorem or32_yes (c : Nat) (hc : c < 256) (h : 97 ≤ c ∧ c ≤ 122 ∨ 65 ≤ c ∧ c ≤ 90) : 97 ≤ bits .or .u8 (c : Int) 32 ∧ bits .or .u8 (c : Int) 32 ≤ 122 := (or32 ⟨c, hc⟩).2 h
theorem or32_no (c : Nat) (hc : c < 256) (h : ¬ (97 ≤ c ∧ c ≤ 122 ∨ 65 ≤ c ∧ c ≤ 90)) : bits .or .u8 (c : Int) 32 < 97 ∨ 122 < bits .or .u8 (c : Int) 32 := by
  have : ¬ (97 ≤ bits .or .u8 (c : Int) 32 ∧ bits .or .u8 (c : Int) 32 ≤ 122) := mt (or32 ⟨c, hc⟩).1 h
  omega

set_option maxHeartbeats 1000000 in
theorem letter_p (c : Nat) (hc : c < 256) (w : World) (hs : ¬ Chr.Sign c ∨ c = 95) : Calls Tryz.prog 238 #[.int .u8 (c : Int)] w fun e w' => e = .returned (.int .i64 (Chr.cls c : Nat)) ∧ w = w' := by
  rcases Chr.cls_cases c with h | ⟨h1, h2, h3⟩ | ⟨h1, h2, h3⟩ | ⟨h1, h2, h3⟩ | ⟨h1, h3⟩
  · rcases hs with hs | rfl
    · exact absurd h hs
    · go_enter Tryz.func238, Tryz.ntmps238
      go_wp2
      go_ret
      exact ⟨rfl, rfl⟩
  · have H := Lib.hid h3; clear h3
    go_enter Tryz.func238, Tryz.ntmps238
    go_wp2
    go_ret
    exact ⟨ret_int (by rw [H.out]; rfl), rfl⟩
  · have H := Lib.hid h3; clear h3
    obtain ⟨o1, o2⟩ := or32_yes c hc (by omega)
    go_enter Tryz.func238, Tryz.ntmps238
    go_wp2
    go_ret
    exact ⟨ret_int (by rw [H.out]; rfl), rfl⟩
  · have H := Lib.hid h3; clear h3
    obtain ⟨o1, o2⟩ := or32_yes c hc (by omega)
    go_enter Tryz.func238, Tryz.ntmps238
    go_wp2
    go_ret
    exact ⟨ret_int (by rw [H.out]; rfl), rfl⟩
  · have H := Lib.hid h3; clear h3
    obtain ⟨hs', d1, d2, d3⟩ := h1
    have h95 : c ≠ 95 := hs'.2.2.2.2.1
    clear hs' hs
    rcases or32_no c hc (by omega) with o | o
    all_goals
      rcases (show c < 48 ∨ 57 < c by omega) with k | k
      all_goals
        clear d1 d2 d3
        go_enter Tryz.func238, Tryz.ntmps238
        go_wp2
        go_ret
        exact ⟨ret_int (by rw [H.out]; rfl), rfl⟩

set_option maxHeartbeats 4000000 in
theorem class_p (c : Nat) (hc : c < 256) (w : World) : Calls Tryz.prog 182 #[.int .u8 (c : Int)] w fun e w' => e = .returned (.int .i64 (Chr.cls c : Nat)) ∧ w = w' := by
  rcases Chr.cls_cases c with h | h
  · unfold Chr.Sign at h
    rcases h with rfl | rfl | rfl | rfl | rfl | rfl | rfl | rfl | rfl | rfl | rfl | rfl | rfl | rfl | rfl | rfl | rfl
    all_goals
      go_enter Tryz.func182, Tryz.ntmps182
      go_wp2_with (go_at_call 238; refine (letter_p 95 (by omega) _ (.inr rfl)).mono ?_; rintro e w' ⟨rfl, rfl⟩)
      go_ret
      exact ⟨rfl, rfl⟩
  · have hs : ¬ Chr.Sign c := by
      unfold Chr.Sign
      rcases h with h | h | h | h
      · omega
      · omega
      · omega
      · exact fun e => by obtain ⟨⟨h, _⟩, _⟩ := h; omega
    have HS := Lib.hid hs
    unfold Chr.Sign at hs
    simp only [not_or] at hs
    obtain ⟨n1, n2, n3, n4, n5, n6, n7, n8, n9, n10, n11, n12, n13, n14, n15, n16, n17⟩ := hs
    clear h
    go_enter Tryz.func182, Tryz.ntmps182
    go_wp2_with (go_at_call 238; refine (letter_p c hc _ (.inl HS.out)).mono ?_; rintro e w' ⟨rfl, rfl⟩)
    go_ret
    exact ⟨rfl, rfl⟩

set_option maxHeartbeats 4000000 in
theorem class_r (c : Nat) (hc : c < 256) (w : World) : Calls Tryz.prog 208 #[.int .u8 (c : Int)] w fun e w' => e = .returned (.int .i64 (Chr.cls c : Nat)) ∧ w = w' := by
  rcases Chr.cls_cases c with h | ⟨h1, h2, h3⟩ | ⟨h1, h2, h3⟩ | ⟨h1, h2, h3⟩ | ⟨h1, h3⟩
  · unfold Chr.Sign at h
    rcases h with rfl | rfl | rfl | rfl | rfl | rfl | rfl | rfl | rfl | rfl | rfl | rfl | rfl | rfl | rfl | rfl | rfl
    all_goals
      go_enter Tryz.func208, Tryz.ntmps208
      go_wp2
      go_ret
      exact ⟨rfl, rfl⟩
  all_goals have H := Lib.hid h3; clear h3
  · skip
    have b0 : ((c : Int) == 0) = false := by rw [beq_eq_false_iff_ne]; omega
    have b32 : ((c : Int) == 32) = false := by rw [beq_eq_false_iff_ne]; omega
    have b9 : ((c : Int) == 9) = false := by rw [beq_eq_false_iff_ne]; omega
    have b10 : ((c : Int) == 10) = false := by rw [beq_eq_false_iff_ne]; omega
    have b95 : ((c : Int) == 95) = false := by rw [beq_eq_false_iff_ne]; omega
    have b38 : ((c : Int) == 38) = false := by rw [beq_eq_false_iff_ne]; omega
    have b124 : ((c : Int) == 124) = false := by rw [beq_eq_false_iff_ne]; omega
    have b59 : ((c : Int) == 59) = false := by rw [beq_eq_false_iff_ne]; omega
    have b60 : ((c : Int) == 60) = false := by rw [beq_eq_false_iff_ne]; omega
    have b62 : ((c : Int) == 62) = false := by rw [beq_eq_false_iff_ne]; omega
    have b40 : ((c : Int) == 40) = false := by rw [beq_eq_false_iff_ne]; omega
    have b41 : ((c : Int) == 41) = false := by rw [beq_eq_false_iff_ne]; omega
    have b39 : ((c : Int) == 39) = false := by rw [beq_eq_false_iff_ne]; omega
    have b34 : ((c : Int) == 34) = false := by rw [beq_eq_false_iff_ne]; omega
    have b92 : ((c : Int) == 92) = false := by rw [beq_eq_false_iff_ne]; omega
    have b96 : ((c : Int) == 96) = false := by rw [beq_eq_false_iff_ne]; omega
    have b36 : ((c : Int) == 36) = false := by rw [beq_eq_false_iff_ne]; omega
    go_enter Tryz.func208, Tryz.ntmps208
    go_wp2
    go_ret
    exact ⟨ret_int (by rw [H.out]; rfl), rfl⟩
  · skip
    have b0 : ((c : Int) == 0) = false := by rw [beq_eq_false_iff_ne]; omega
    have b32 : ((c : Int) == 32) = false := by rw [beq_eq_false_iff_ne]; omega
    have b9 : ((c : Int) == 9) = false := by rw [beq_eq_false_iff_ne]; omega
    have b10 : ((c : Int) == 10) = false := by rw [beq_eq_false_iff_ne]; omega
    have b95 : ((c : Int) == 95) = false := by rw [beq_eq_false_iff_ne]; omega
    have b38 : ((c : Int) == 38) = false := by rw [beq_eq_false_iff_ne]; omega
    have b124 : ((c : Int) == 124) = false := by rw [beq_eq_false_iff_ne]; omega
    have b59 : ((c : Int) == 59) = false := by rw [beq_eq_false_iff_ne]; omega
    have b60 : ((c : Int) == 60) = false := by rw [beq_eq_false_iff_ne]; omega
    have b62 : ((c : Int) == 62) = false := by rw [beq_eq_false_iff_ne]; omega
    have b40 : ((c : Int) == 40) = false := by rw [beq_eq_false_iff_ne]; omega
    have b41 : ((c : Int) == 41) = false := by rw [beq_eq_false_iff_ne]; omega
    have b39 : ((c : Int) == 39) = false := by rw [beq_eq_false_iff_ne]; omega
    have b34 : ((c : Int) == 34) = false := by rw [beq_eq_false_iff_ne]; omega
    have b92 : ((c : Int) == 92) = false := by rw [beq_eq_false_iff_ne]; omega
    have b96 : ((c : Int) == 96) = false := by rw [beq_eq_false_iff_ne]; omega
    have b36 : ((c : Int) == 36) = false := by rw [beq_eq_false_iff_ne]; omega
    go_enter Tryz.func208, Tryz.ntmps208
    go_wp2
    go_ret
    exact ⟨ret_int (by rw [H.out]; rfl), rfl⟩
  · skip
    have b0 : ((c : Int) == 0) = false := by rw [beq_eq_false_iff_ne]; omega
    have b32 : ((c : Int) == 32) = false := by rw [beq_eq_false_iff_ne]; omega
    have b9 : ((c : Int) == 9) = false := by rw [beq_eq_false_iff_ne]; omega
    have b10 : ((c : Int) == 10) = false := by rw [beq_eq_false_iff_ne]; omega
    have b95 : ((c : Int) == 95) = false := by rw [beq_eq_false_iff_ne]; omega
    have b38 : ((c : Int) == 38) = false := by rw [beq_eq_false_iff_ne]; omega
    have b124 : ((c : Int) == 124) = false := by rw [beq_eq_false_iff_ne]; omega
    have b59 : ((c : Int) == 59) = false := by rw [beq_eq_false_iff_ne]; omega
    have b60 : ((c : Int) == 60) = false := by rw [beq_eq_false_iff_ne]; omega
    have b62 : ((c : Int) == 62) = false := by rw [beq_eq_false_iff_ne]; omega
    have b40 : ((c : Int) == 40) = false := by rw [beq_eq_false_iff_ne]; omega
    have b41 : ((c : Int) == 41) = false := by rw [beq_eq_false_iff_ne]; omega
    have b39 : ((c : Int) == 39) = false := by rw [beq_eq_false_iff_ne]; omega
    have b34 : ((c : Int) == 34) = false := by rw [beq_eq_false_iff_ne]; omega
    have b92 : ((c : Int) == 92) = false := by rw [beq_eq_false_iff_ne]; omega
    have b96 : ((c : Int) == 96) = false := by rw [beq_eq_false_iff_ne]; omega
    have b36 : ((c : Int) == 36) = false := by rw [beq_eq_false_iff_ne]; omega
    go_enter Tryz.func208, Tryz.ntmps208
    go_wp2
    go_ret
    exact ⟨ret_int (by rw [H.out]; rfl), rfl⟩
  · obtain ⟨⟨n1, n2, n3, n4, n5, n6, n7, n8, n9, n10, n11, n12, n13, n14, n15, n16, n17⟩, d1, d2, d3⟩ := h1
    have cs : c < 48 ∨ 57 < c ∧ c < 65 ∨ 90 < c ∧ c < 97 ∨ 122 < c := by omega
    have b0 : ((c : Int) == 0) = false := by rw [beq_eq_false_iff_ne]; omega
    have b32 : ((c : Int) == 32) = false := by rw [beq_eq_false_iff_ne]; omega
    have b9 : ((c : Int) == 9) = false := by rw [beq_eq_false_iff_ne]; omega
    have b10 : ((c : Int) == 10) = false := by rw [beq_eq_false_iff_ne]; omega
    have b95 : ((c : Int) == 95) = false := by rw [beq_eq_false_iff_ne]; omega
    have b38 : ((c : Int) == 38) = false := by rw [beq_eq_false_iff_ne]; omega
    have b124 : ((c : Int) == 124) = false := by rw [beq_eq_false_iff_ne]; omega
    have b59 : ((c : Int) == 59) = false := by rw [beq_eq_false_iff_ne]; omega
    have b60 : ((c : Int) == 60) = false := by rw [beq_eq_false_iff_ne]; omega
    have b62 : ((c : Int) == 62) = false := by rw [beq_eq_false_iff_ne]; omega
    have b40 : ((c : Int) == 40) = false := by rw [beq_eq_false_iff_ne]; omega
    have b41 : ((c : Int) == 41) = false := by rw [beq_eq_false_iff_ne]; omega
    have b39 : ((c : Int) == 39) = false := by rw [beq_eq_false_iff_ne]; omega
    have b34 : ((c : Int) == 34) = false := by rw [beq_eq_false_iff_ne]; omega
    have b92 : ((c : Int) == 92) = false := by rw [beq_eq_false_iff_ne]; omega
    have b96 : ((c : Int) == 96) = false := by rw [beq_eq_false_iff_ne]; omega
    have b36 : ((c : Int) == 36) = false := by rw [beq_eq_false_iff_ne]; omega
    clear n1 n2 n3 n4 n5 n6 n7 n8 n9 n10 n11 n12 n13 n14 n15 n16 n17
    rcases cs with k | k | k | k
    all_goals
      clear d1 d2 d3
      go_enter Tryz.func208, Tryz.ntmps208
      go_wp2
      go_ret
      exact ⟨ret_int (by rw [H.out]; rfl), rfl⟩

end Go.Proofs.YtpidmmfjcghmeaaGreat
namespace Go.Proofs.YtpidmmfjcghmeaaGreat
open Go.RowKit

set_option maxRecDepth 100000 in
set_option maxHeartbeats 1000000 in
theorem indexByte_in (s : ByteArray) (c : Int) (w : World) : Calls Tryz.prog 252 #[.string s, .int .u8 c] w fun e w' => e = .returned (.int .i64 (Lib.indexByte s.toList c.toNat.toUInt8)) ∧ w = w' := by
  go_enter Tryz.func252, Tryz.ntmps252
  go_wp2
  rw [run_callFunc_extern Tryz.func266 (by kernel_rfl) (by kernel_rfl) (by kernel_rfl) (e := Extern.BytealgIndexByte.indexByte) (by kernel_rfl), Lib.run_indexByteString]
  simp only [Result.andThen]
  rw [Oper.upon_value]
  go_wp2
  go_ret
  exact ⟨ret_int (by rw [Lib.toList_data]), rfl⟩
set_option maxRecDepth 100000 in
set_option maxHeartbeats 1000000 in
theorem indexByte_p (s : ByteArray) (c : Int) (w : World) : Calls Tryz.prog 235 #[.string s, .int .u8 c] w fun e w' => e = .returned (.int .i64 (Lib.indexByte s.toList c.toNat.toUInt8)) ∧ w = w' := by
  go_enter Tryz.func235, Tryz.ntmps235
  go_wp2_with (go_at_call 252; refine (indexByte_in _ _ _).mono ?_; rintro e w' ⟨rfl, rfl⟩)
  go_ret
  exact ⟨rfl, rfl⟩

theorem special_at : ∀ c : Fin 256, decide (0 ≤ Lib.indexByte [64, 42, 35, 63, 45, 36, 33] ((c.val : Int).toNat.toUInt8)) = Chr.special c.val := by decide +kernel


theorem byte_step (p : Nat → Nat → Bool) (s : ByteArray) (k : Nat) (h : k < s.size) : Chr.allFrom p k (s.toList.drop k) = (p k s[k].toNat && Chr.allFrom p (k + 1) (s.toList.drop (k + 1))) := by
  rw [Chr.allFrom_drop p s.toList k (by rw [← size_list]; exact h), get_list s k h]
theorem byte_end (p : Nat → Nat → Bool) (s : ByteArray) (k : Nat) (h : ¬ k < s.size) : Chr.allFrom p k (s.toList.drop k) = true := Chr.allFrom_end p s.toList k (by rw [← size_list]; exact h)
theorem byte_lt (s : ByteArray) (k : Nat) (h : k < s.size) : s[k].toNat < 256 := s[k].toNat_lt

set_option maxRecDepth 100000 in
set_option maxHeartbeats 1000000 in
theorem ascii_p (s : ByteArray) (w : World) (hm : s.size ≤ 9223372036854775807) : Calls Tryz.prog 211 #[.string s] w fun e w' => e = .returned (.bool (Chr.ascii s.toList)) ∧ w = w' := by
  go_enter Tryz.func211, Tryz.ntmps211
  go_wp2_with fail
  go_loop [3, 6] (fun _ i => ∃ k : Nat, k ≤ s.size ∧ i = .int .i64 k ∧ Chr.allFrom Chr.okAscii k (s.toList.drop k) = Chr.ascii s.toList) (fun _ i => s.size - (intOf i).toNat)
  case atStart => exact ⟨0, by omega, rfl, rfl⟩
  case round =>
    obtain ⟨k, hk, rfl, hf⟩ := hrel
    by_cases hlt : k < s.size
    · rw [byte_step _ s k hlt] at hf
      have H := Lib.hid hf; clear hf
      by_cases ha : s[k].toNat < 128
      · go_wp2_with fail
        go_round
        case rel =>
          refine ⟨k + 1, by omega, by go_num, ?_⟩
          rw [← H.out, Chr.okAscii, decide_eq_true ha, Bool.true_and]
        case measure => simp only [intOf]; omega
      · go_wp2_with fail
        go_ret
        refine ⟨ret_bool ?_, rfl⟩
        rw [← H.out, Chr.okAscii, decide_eq_false ha, Bool.false_and]
    · rw [byte_end _ s k hlt] at hf
      have H := Lib.hid hf; clear hf
      go_wp2_with fail
      go_ret
      exact ⟨ret_bool H.out, rfl⟩

theorem cls_eq (c k : Nat) : (((Chr.cls c : Nat) : Int) == (k : Int)) = (Chr.cls c == k) := by
  by_cases h : Chr.cls c = k
  · rw [h]; simp
  · rw [beq_eq_false_iff_ne.2 h, beq_eq_false_iff_ne.2 (by omega)]

set_option maxRecDepth 100000 in
set_option maxHeartbeats 1000000 in
theorem name1_p (i c : Nat) (hc : c < 256) (w : World) : Calls Tryz.prog 213 #[.int .i64 (i : Int), .int .u8 (c : Int)] w fun e w' => e = .returned (.bool (Chr.okName i c)) ∧ w = w' := by
  have e4 := cls_eq c 4
  have e3 := cls_eq c 3
  have H : Hid (Chr.okName i c = (Chr.cls c == 4 || Chr.cls c == 3 && decide (0 < i))) := rfl
  cases h4 : Chr.cls c == 4 <;> cases h3 : Chr.cls c == 3 <;> rcases Nat.eq_zero_or_pos i with rfl | hi
  all_goals
    simp only [h4, h3] at e4 e3
    have e4' : (((Chr.cls c : Nat) : Int) == 4) = _ := e4
    have e3' : (((Chr.cls c : Nat) : Int) == 3) = _ := e3
    clear e4 e3
    have H4 := Lib.hid h4; have H3 := Lib.hid h3; clear h4 h3
    go_enter Tryz.func213, Tryz.ntmps213
    go_wp2_with (go_at_call 182; refine (class_p c hc _).mono ?_; rintro e w' ⟨rfl, rfl⟩)
    go_ret
    refine ⟨ret_bool ?_, rfl⟩
    rw [H.out, H4.out, H3.out]
    first | rfl | (rw [decide_eq_true hi]; rfl)


theorem ascii_at (s : ByteArray) (k : Nat) (h : Chr.ascii s.toList = true) (hk : k < s.size) : s[k].toNat < 128 := by
  have := Chr.allFrom_at 0 s.toList h k (by rw [← size_list]; exact hk)
  rw [get_list s k hk] at this
  simpa [Chr.okAscii] using this

set_option maxRecDepth 100000 in
set_option maxHeartbeats 1000000 in
theorem each_name (s : ByteArray) (w : World) (hm : s.size ≤ 9223372036854775807) (hasc : Chr.ascii s.toList = true) :
    Calls Tryz.prog 212 #[.string s, .func (Fn.func 213) #[] #[]] w fun e w' => e = .returned (.bool (Chr.allFrom Chr.okName 0 s.toList && !s.toList.isEmpty)) ∧ Below w.heap.size w w' := by
  have hempty : (!s.toList.isEmpty) = decide (0 < s.size) := by
    rw [size_list]
    cases s.toList <;> simp
  have HE := Lib.hid hempty; clear hempty
  go_enter Tryz.func212, Tryz.ntmps212
  go_wp2_with fail
  go_loopw [5] (fun _ wr => ∃ k : Nat, k ≤ s.size ∧ wr = w.iter s k ∧ Chr.allFrom Chr.okName k (s.toList.drop k) = Chr.allFrom Chr.okName 0 s.toList) (fun _ wr => s.size - wr.iterPos w.heap.size)
  case atStart => exact ⟨0, by omega, rfl, rfl⟩
  case round =>
    obtain ⟨k, hk, rfl, hf⟩ := hrel
    by_cases hlt : k < s.size
    · rw [byte_step _ s k hlt] at hf
      have H := Lib.hid hf; clear hf
      have hnx : ∀ ty, (Instr.next (.pointer (some ⟨w.heap.size, 0, none⟩)) true ty).run Tryz.prog (w.iter s k) = _ := fun ty => run_next_ascii w s k ty hlt (ascii_at s k hasc hlt)
      obtain ⟨b, hb⟩ : ∃ b, Chr.okName k s[k].toNat = b := ⟨_, rfl⟩
      cases b
      all_goals
        go_wp2_with (go_at_call 213; refine (name1_p k s[k].toNat (byte_lt s k hlt) _).mono ?_; rintro e w' ⟨rfl, rfl⟩)
      · go_ret
        refine ⟨ret_bool ?_, (Below.refl _ _).alloc (Nat.le_refl _) _⟩
        rw [← H.out, hb]; rfl
      · go_roundw
        case rel => exact ⟨k + 1, by omega, rfl, by rw [← H.out, hb]; rfl⟩
        case measure => simp only [World.iterPos_iter]; omega
    · rw [byte_end _ s k hlt] at hf
      have H := Lib.hid hf; clear hf
      have hnx : ∀ ty, (Instr.next (.pointer (some ⟨w.heap.size, 0, none⟩)) true ty).run Tryz.prog (w.iter s k) = _ := fun ty => run_next_end w s k ty hlt
      go_wp2_with fail
      go_ret
      refine ⟨ret_bool ?_, (Below.refl _ _).alloc (Nat.le_refl _) _⟩
      rw [← H.out, Bool.true_and]


set_option maxRecDepth 100000 in
set_option maxHeartbeats 1000000 in
theorem name_p (s : ByteArray) (w : World) (hm : s.size ≤ 9223372036854775807) : Calls Tryz.prog 144 #[.string s] w fun e w' => e = .returned (.bool (Chr.name s.toList)) ∧ Below w.heap.size w w' := by
  cases ha : Chr.ascii s.toList
  · go_enter Tryz.func144, Tryz.ntmps144
    go_wp2_with (go_at_call 211; refine (ascii_p s _ hm).mono ?_; rintro e w' ⟨rfl, rfl⟩)
    go_ret
    refine ⟨ret_bool ?_, Below.refl _ _⟩
    cases h : Chr.name s.toList
    · rfl
    · rw [Chr.name_ascii _ h] at ha; cases ha
  · have HA := Lib.hid ha
    go_enter Tryz.func144, Tryz.ntmps144
    go_wp2_with (first
      | (go_at_call 211; refine (ascii_p s _ hm).mono ?_; rintro e w' ⟨rfl, rfl⟩)
      | (go_at_call 212; refine (each_name s _ hm HA.out).mono ?_; rintro e w' ⟨rfl, hb⟩))
    go_ret
    exact ⟨rfl, hb⟩

end Go.Proofs.YtpidmmfjcghmeaaGreat
namespace Go.Proofs.YtpidmmfjcghmeaaGreat
open Go.RowKit

theorem empty_size (s : ByteArray) : s.toList.isEmpty = decide (s.size = 0) := by
  rw [size_list]; cases s.toList <;> simp
theorem head_byte (s : ByteArray) (h : 0 < s.size) : (s.toList.headD 0).toNat = s[0].toNat := by
  have := get?_list s 0 h
  cases hl : s.toList with
  | nil => rw [hl] at this; simp at this
  | cons a r => rw [hl] at this; simp at this; rw [← this]; rfl
theorem plain_zero (s : ByteArray) (h : s.size = 0) : Chr.plain s.toList = false := by
  unfold Chr.plain; rw [empty_size, decide_eq_true h]; simp
theorem plain_pos (s : ByteArray) (h : 0 < s.size) : Chr.plain s.toList = (Chr.allFrom Chr.okPlain 0 s.toList && s[0].toNat != 35) := by
  unfold Chr.plain; rw [empty_size, decide_eq_false (by omega), head_byte s h]; simp
theorem ne_cast (a k : Nat) : (((a : Nat) : Int) != (k : Int)) = (a != k) := by
  by_cases h : a = k
  · rw [h]; simp
  · rw [bne_iff_ne.2 h, bne_iff_ne.2 (by omega)]
theorem cls_ne (c k : Nat) : (((Chr.cls c : Nat) : Int) != (k : Int)) = (Chr.cls c != k) := ne_cast _ _

set_option maxRecDepth 100000 in
set_option maxHeartbeats 1000000 in
theorem name_r (s : ByteArray) (w : World) (hm : s.size ≤ 9223372036854775807) : Calls Tryz.prog 137 #[.string s] w fun e w' => e = .returned (.bool (Chr.name s.toList)) ∧ w = w' := by
  have hfin : Chr.name s.toList = (Chr.allFrom Chr.okName 0 s.toList && decide (0 < s.size)) := by
    unfold Chr.name; rw [empty_size]; congr 1; by_cases h : s.size = 0 <;> simp [h]; omega
  have HN := Lib.hid hfin; clear hfin
  go_enter Tryz.func137, Tryz.ntmps137
  go_wp2_with fail
  go_loop [3, 4] (fun i _ => ∃ k : Nat, k ≤ s.size ∧ i = .int .i64 k ∧ Chr.allFrom Chr.okName k (s.toList.drop k) = Chr.allFrom Chr.okName 0 s.toList) (fun i _ => s.size - (intOf i).toNat)
  case atStart => exact ⟨0, by omega, rfl, rfl⟩
  case round =>
    obtain ⟨k, hk, rfl, hf⟩ := hrel
    by_cases hlt : k < s.size
    · rw [byte_step _ s k hlt] at hf
      have H := Lib.hid hf; clear hf
      have e4 : (((Chr.cls s[k].toNat : Nat) : Int) != 4) = (Chr.cls s[k].toNat != 4) := cls_ne _ 4
      have e3 : (((Chr.cls s[k].toNat : Nat) : Int) != 3) = (Chr.cls s[k].toNat != 3) := cls_ne _ 3
      have HP := Lib.hid (show Chr.okName k s[k].toNat = (!(Chr.cls s[k].toNat != 4) || !(Chr.cls s[k].toNat != 3) && decide (0 < k)) by unfold Chr.okName; simp [bne])
      rcases Nat.eq_zero_or_pos k with rfl | hi
      · skip
        cases h4 : Chr.cls s[0].toNat != 4 <;> cases h3 : Chr.cls s[0].toNat != 3
        all_goals
          rw [h4, h3] at HP
          rw [h3] at e3; rw [h4] at e4; clear h3 h4
          go_wp2_with (go_at_call 208; refine (class_r s[0].toNat (byte_lt s 0 hlt) _).mono ?_; rintro e w' ⟨rfl, rfl⟩)
          first
            | (go_ret
               refine ⟨ret_bool ?_, rfl⟩
               rw [HN.out, ← H.out, HP.out]; rfl)
            | (go_round
               case rel => exact ⟨0 + 1, by omega, by go_num, by rw [← H.out, HP.out]; rfl⟩
               case measure => simp only [intOf]; omega)
      · have hk0 : ((k : Int) == 0) = false := by rw [beq_eq_false_iff_ne]; omega
        rw [decide_eq_true hi] at HP
        cases h4 : Chr.cls s[k].toNat != 4 <;> cases h3 : Chr.cls s[k].toNat != 3
        all_goals
          rw [h4, h3] at HP
          rw [h3] at e3; rw [h4] at e4; clear h3 h4
          go_wp2_with (go_at_call 208; refine (class_r s[k].toNat (byte_lt s k hlt) _).mono ?_; rintro e w' ⟨rfl, rfl⟩)
          first
            | (go_ret
               refine ⟨ret_bool ?_, rfl⟩
               rw [HN.out, ← H.out, HP.out]; rfl)
            | (go_round
               case rel => exact ⟨k + 1, by omega, by go_num, by rw [← H.out, HP.out]; rfl⟩
               case measure => simp only [intOf]; omega)
    · rw [byte_end _ s k hlt] at hf
      have H := Lib.hid hf; clear hf
      go_wp2_with fail
      go_ret
      refine ⟨ret_bool ?_, rfl⟩
      rw [HN.out, ← H.out, Bool.true_and]


end Go.Proofs.YtpidmmfjcghmeaaGreat
