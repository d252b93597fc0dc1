/- Towards nodeJoins_card: NdOnly. Merged from smaller texts by a program of the author's. -/
import Derived.Test.YtjpopekmbmcggaaGreatDoorJ16
import Derived.Deep.DeepCutAuto
import Derived.Deep.CutBlock
namespace Go.Proofs.YtjpopekmbmcggaaGreatDoor
open Go.RowKit
theorem NdV.open {f : Nat} {G : Nat → Prop} {w : World} {vs : List Value} {ky : Int} {s : ByteArray} {nt ni : Bool} {ops : List Int} {asg wds : List (WdF (Nd f))} {rds : List (RdF (Nd f))} {ars : List (ArF (Nd f))} {kds : List (Nd f)}
    (h : NdV (f + 1) G w vs (NdF.mk ky s nt ni ops asg wds rds ars kds)) :
    ∃ (A4 : Option Addr) (c4 : Nat) (A5 : Option Addr) (c5 : Nat) (A6 : Option Addr) (c6 : Nat) (A7 : Option Addr) (c7 : Nat) (A8 : Option Addr) (c8 : Nat) (A9 : Option Addr) (c9 : Nat),
      vs = [.int .i64 ky, .string s, .bool nt, .bool ni, .slice A4 ops.length c4, .slice A5 asg.length c5, .slice A6 wds.length c6, .slice A7 rds.length c7, .slice A8 ars.length c8, .slice A9 kds.length c9] ∧ s.size ≤ 1073741824 ∧ asg.length + rds.length ≤ 1073741824 ∧
      ops.length ≤ 9223372036854775807 ∧ asg.length ≤ 9223372036854775807 ∧ wds.length ≤ 9223372036854775807 ∧ rds.length ≤ 9223372036854775807 ∧ ars.length ≤ 9223372036854775807 ∧ kds.length ≤ 9223372036854775807 ∧
      SlAt G w 1 IntV (.slice A4 ops.length c4) ops ∧ SlAt G w 1 (WdN f G w) (.slice A5 asg.length c5) asg ∧ SlAt G w 1 (WdN f G w) (.slice A6 wds.length c6) wds ∧ SlAt G w 4 (RdN f G w) (.slice A7 rds.length c7) rds ∧
      SlAt G w 11 (ArN f G w) (.slice A8 ars.length c8) ars ∧ SlAt G w 10 (NdV f G w) (.slice A9 kds.length c9) kds := by
  obtain ⟨vo, va, vw, vr, vm, vk, rfl, ⟨hn1, hn2⟩, h4, h5, h6, h7, h8, h9⟩ := h
  obtain ⟨A4, c4, rfl, l4, m4⟩ := h4.shape
  obtain ⟨A5, c5, rfl, l5, m5⟩ := h5.shape
  obtain ⟨A6, c6, rfl, l6, m6⟩ := h6.shape
  obtain ⟨A7, c7, rfl, l7, m7⟩ := h7.shape
  obtain ⟨A8, c8, rfl, l8, m8⟩ := h8.shape
  obtain ⟨A9, c9, rfl, l9, m9⟩ := h9.shape
  unfold maxLen at m4 m5 m6 m7 m8 m9
  simp only at l4 l5 l6 l7 l8 l9
  exact ⟨A4, c4, A5, c5, A6, c6, A7, c7, A8, c8, A9, c9, rfl, hn1, hn2, by omega, by omega, by omega, by omega, by omega, by omega, h4, h5, h6, h7, h8, h9⟩
section
variable {f : Nat} {G : Nat → Prop} {w w' : World} {v : Value}
theorem SlAt.onI {xs : List Int} (h : SlAt G w 1 IntV v xs) (hG : ∀ k, G k → k < w.heap.size) (hb : Below w.heap.size w w') : SlAt G w' 1 IntV v xs := h.keep (fun _ h => h) (keep_of hG hb) fun _ _ h => h
theorem SlAt.onW {xs : List (WdF (Nd f))} (h : SlAt G w 1 (WdN f G w) v xs) (hG : ∀ k, G k → k < w.heap.size) (hb : Below w.heap.size w w') : SlAt G w' 1 (WdN f G w') v xs := h.keep (fun _ h => h) (keep_of hG hb) fun _ _ h => h.below hG hb
theorem SlAt.onR {xs : List (RdF (Nd f))} (h : SlAt G w 4 (RdN f G w) v xs) (hG : ∀ k, G k → k < w.heap.size) (hb : Below w.heap.size w w') : SlAt G w' 4 (RdN f G w') v xs := h.keep (fun _ h => h) (keep_of hG hb) fun _ _ h => h.below hG hb
theorem SlAt.onA {xs : List (ArF (Nd f))} (h : SlAt G w 11 (ArN f G w) v xs) (hG : ∀ k, G k → k < w.heap.size) (hb : Below w.heap.size w w') : SlAt G w' 11 (ArN f G w') v xs := h.keep (fun _ h => h) (keep_of hG hb) fun _ _ h => h.below hG hb
theorem SlAt.onN {xs : List (Nd f)} (h : SlAt G w 10 (NdV f G w) v xs) (hG : ∀ k, G k → k < w.heap.size) (hb : Below w.heap.size w w') : SlAt G w' 10 (NdV f G w') v xs := h.keep (fun _ h => h) (keep_of hG hb) fun _ _ h => h.below hG hb
end
theorem old_of {G : Nat → Prop} {w w' : World} (hG : ∀ k, G k → k < w.heap.size) (hb : Below w.heap.size w w') : ∀ k, G k → k < w'.heap.size := fun k hk => Nat.lt_of_lt_of_le (hG k hk) hb.size
def tS (h e : Bool) : Bool := !e && !h
def tL (h d : Bool) : Bool := d && !h
def uB (b d : Bool) : Bool := b && d
theorem bareB_eq {α : Type} (h0 h1 h2 h3 h4 h5 h6 : Bool) (ky : Int) (s : ByteArray) (nt ni : Bool) (ops : List Int) (asg wds : List (WdF α)) (rds : List (RdF α)) (ars : List (ArF α)) (kds : List α) :
    bareB ⟨h0, h1, h2, h3, h4, h5, h6⟩ (NdF.mk ky s nt ni ops asg wds rds ars kds) =
      !(tS h0 s.toList.isEmpty || (tL h1 (decide (0 < ops.length)) || (tL h2 (decide (0 < asg.length)) || (tL h3 (decide (0 < wds.length)) || (tL h4 (decide (0 < rds.length)) || (tL h5 (decide (0 < ars.length)) || (tL h6 (decide (0 < kds.length)) || (uB nt (ky != 3) || uB ni (ky != 7))))))))) := by
  have e : ∀ {β : Type} (l : List β) (h : Bool), (h || l.isEmpty) = !tL h (decide (0 < l.length)) := fun l h => by cases l <;> cases h <;> rfl
  have e0 : ∀ (l : List UInt8) (h : Bool), (h || l.isEmpty) = !tS h l.isEmpty := fun l h => by cases l <;> cases h <;> rfl
  have e1 : ∀ (b : Bool) (k n : Int), (!b || k == n) = !uB b (k != n) := fun b k n => by cases b <;> simp [uB, bne]
  unfold bareB
  simp only
  rw [e0 s.toList h0, e ops h1, e asg h2, e wds h3, e rds h4, e ars h5, e kds h6, e1 nt ky 3, e1 ni ky 7]
  simp only [Bool.not_or, Bool.and_assoc]
theorem enter_Redir : Enters 17 := fun args w => by simp [callFunc, go_sem, Tryz.func17, Tryz.f17]
theorem enter_Word : Enters 15 := fun args w => by simp [callFunc, go_sem, Tryz.func15, Tryz.f15]
section
variable {f : Nat} {G : Nat → Prop} {w : World}
theorem ok_Right (ih : PRt f) (hG : ∀ k, G k → k < w.heap.size) (ht : RsvAt w) : FnOk (NdV f G) ag w 13 #[] (Nd.vw f).R := fun X hX vs y hy => by
  rw [Array.append_empty]; exact ih G X vs y (old_of hG hX) (ht.below hX) hy
theorem ok_Word (ih : PRt f) (hG : ∀ k, G k → k < w.heap.size) (ht : RsvAt w) : FnOk (WdN f G) ag w 15 #[] (wordB (Nd.vw f)) := fun X hX vs y hy => by
  rw [Array.append_empty]; exact word_p f ih G X vs y (old_of hG hX) (ht.below hX) hy
theorem ok_Redir (ih : PRt f) (hG : ∀ k, G k → k < w.heap.size) (ht : RsvAt w) : FnOk (RdN f G) ag w 17 #[] (redirB (Nd.vw f)) := fun X hX vs y hy => by
  rw [Array.append_empty]; exact redir_n f ih G X vs y (old_of hG hX) (ht.below hX) hy
end
set_option maxRecDepth 100000 in
set_option maxHeartbeats 8000000 in
theorem only_p (f : Nat) (ih : PRt f) (h : Has) (G : Nat → Prop) (w : World) (vs : List Value) (x : NdF (Nd f)) (hG : ∀ k, G k → k < w.heap.size) (ht : RsvAt w) (hv : NdV (f + 1) G w vs x) :
    Calls Tryz.prog 79 #[ag vs, .agg #[.bool h.nm, .bool h.op, .bool h.sa, .bool h.ws, .bool h.rs, .bool h.ar, .bool h.ks]] w fun e w' => e = .returned (.bool (onlyB (Nd.vw f) h x)) ∧ Below w.heap.size w w' := by
  obtain ⟨h0, h1, h2, h3, h4, h5, h6⟩ := h
  obtain ⟨ky, s, nt, ni, ops, asg, wds, rds, ars, kds⟩ := x
  obtain ⟨A4, c4, A5, c5, A6, c6, A7, c7, A8, c8, A9, c9, rfl, hns, hal, hl4, hl5, hl6, hl7, hl8, hl9, hso, hsa, hsw, hsr, hsm, hsk⟩ := NdV.open hv
  have HSO := Lib.hid hso; have HSA := Lib.hid hsa; have HSW := Lib.hid hsw; have HSR := Lib.hid hsr; have HSM := Lib.hid hsm; have HSK := Lib.hid hsk
  clear hso hsa hsw hsr hsm hsk hv
  show Calls Tryz.prog 79 #[.agg #[.int .i64 ky, .string s, .bool nt, .bool ni, .slice A4 ops.length c4, .slice A5 asg.length c5, .slice A6 wds.length c6, .slice A7 rds.length c7, .slice A8 ars.length c8, .slice A9 kds.length c9], .agg #[.bool h0, .bool h1, .bool h2, .bool h3, .bool h4, .bool h5, .bool h6]] w _
  have hbw : Below w.heap.size w ((w.alloc (.cells #[.int .i64 ky, .string s, .bool nt, .bool ni, .slice A4 ops.length c4, .slice A5 asg.length c5, .slice A6 wds.length c6, .slice A7 rds.length c7, .slice A8 ars.length c8, .slice A9 kds.length c9] 28)).alloc (.cells #[.bool h0, .bool h1, .bool h2, .bool h3, .bool h4, .bool h5, .bool h6] 87)) := ((Below.refl _ _).alloc (Nat.le_refl _) _).alloc (by simp) _
  obtain ⟨hb0, hb1⟩ := two_blocks w (.cells #[.int .i64 ky, .string s, .bool nt, .bool ni, .slice A4 ops.length c4, .slice A5 asg.length c5, .slice A6 wds.length c6, .slice A7 rds.length c7, .slice A8 ars.length c8, .slice A9 kds.length c9] 28) (.cells #[.bool h0, .bool h1, .bool h2, .bool h3, .bool h4, .bool h5, .bool h6] 87)
  generalize hW : (w.alloc (.cells #[.int .i64 ky, .string s, .bool nt, .bool ni, .slice A4 ops.length c4, .slice A5 asg.length c5, .slice A6 wds.length c6, .slice A7 rds.length c7, .slice A8 ars.length c8, .slice A9 kds.length c9] 28)).alloc (.cells #[.bool h0, .bool h1, .bool h2, .bool h3, .bool h4, .bool h5, .bool h6] 87) = W at *
  have x0 : W.cell? ⟨w.heap.size, 0, none⟩ = some (.int .i64 ky) := by simp [World.cell?, hb0]
  have x1 : W.cell? ⟨w.heap.size, 1, none⟩ = some (.string s) := by simp [World.cell?, hb0]
  have x2 : W.cell? ⟨w.heap.size, 2, none⟩ = some (.bool nt) := by simp [World.cell?, hb0]
  have x3 : W.cell? ⟨w.heap.size, 3, none⟩ = some (.bool ni) := by simp [World.cell?, hb0]
  have x4 : W.cell? ⟨w.heap.size, 4, none⟩ = some (.slice A4 ops.length c4) := by simp [World.cell?, hb0]
  have x5 : W.cell? ⟨w.heap.size, 5, none⟩ = some (.slice A5 asg.length c5) := by simp [World.cell?, hb0]
  have x6 : W.cell? ⟨w.heap.size, 6, none⟩ = some (.slice A6 wds.length c6) := by simp [World.cell?, hb0]
  have x7 : W.cell? ⟨w.heap.size, 7, none⟩ = some (.slice A7 rds.length c7) := by simp [World.cell?, hb0]
  have x8 : W.cell? ⟨w.heap.size, 8, none⟩ = some (.slice A8 ars.length c8) := by simp [World.cell?, hb0]
  have x9 : W.cell? ⟨w.heap.size, 9, none⟩ = some (.slice A9 kds.length c9) := by simp [World.cell?, hb0]
  have k0 : W.cell? ⟨w.heap.size + 1, 0, none⟩ = some (.bool h0) := by simp [World.cell?, hb1]
  have k1 : W.cell? ⟨w.heap.size + 1, 1, none⟩ = some (.bool h1) := by simp [World.cell?, hb1]
  have k2 : W.cell? ⟨w.heap.size + 1, 2, none⟩ = some (.bool h2) := by simp [World.cell?, hb1]
  have k3 : W.cell? ⟨w.heap.size + 1, 3, none⟩ = some (.bool h3) := by simp [World.cell?, hb1]
  have k4 : W.cell? ⟨w.heap.size + 1, 4, none⟩ = some (.bool h4) := by simp [World.cell?, hb1]
  have k5 : W.cell? ⟨w.heap.size + 1, 5, none⟩ = some (.bool h5) := by simp [World.cell?, hb1]
  have k6 : W.cell? ⟨w.heap.size + 1, 6, none⟩ = some (.bool h6) := by simp [World.cell?, hb1]
  have HGW := Lib.hid (old_of hG hbw)
  have HBW := Lib.hid hbw; have HG := Lib.hid hG; have HT := Lib.hid ht; have IH := Lib.hid ih
  clear hbw hb0 hb1 hG ht ih
  go_enter Tryz.func79, Tryz.ntmps79
  go_upto_region 1 with fail
  go_cut [5] (fun v wx => v = .bool (tS h0 s.toList.isEmpty) ∧ W = wx)
  case first =>
      cases he : s.toList.isEmpty <;> cases h0
      all_goals
        go_wp2_with fail
        go_meet
        exact ⟨by rw [tS, he]; rfl, rfl⟩
  case rest =>
    obtain ⟨rfl, rfl⟩ := hcut
    cases q0 : tS h0 s.toList.isEmpty
    case true =>
      have HQ0 := Lib.hid q0; clear q0
      go_wp2_with fail
      go_ret
      exact ⟨ret_bool (by rw [onlyB, bareB_eq, HQ0.out]; rfl), HBW.out⟩
    have HQ0 := Lib.hid q0; clear q0
    go_upto_region 2 with fail
    go_cut [5] (fun v wx => v = .bool (tL h1 (decide (0 < ops.length))) ∧ W = wx)
    case first =>
        cases he : (decide (0 < ops.length)) <;> cases h1
        all_goals
          go_wp2_with fail
          go_meet
          exact ⟨by rw [tL, he]; rfl, rfl⟩
    case rest =>
      obtain ⟨rfl, rfl⟩ := hcut
      cases q1 : tL h1 (decide (0 < ops.length))
      case true =>
        have HQ1 := Lib.hid q1; clear q1
        go_wp2_with fail
        go_ret
        exact ⟨ret_bool (by rw [onlyB, bareB_eq, HQ0.out, HQ1.out]; rfl), HBW.out⟩
      have HQ1 := Lib.hid q1; clear q1
      go_upto_region 3 with fail
      go_cut [5] (fun v wx => v = .bool (tL h2 (decide (0 < asg.length))) ∧ W = wx)
      case first =>
          cases he : (decide (0 < asg.length)) <;> cases h2
          all_goals
            go_wp2_with fail
            go_meet
            exact ⟨by rw [tL, he]; rfl, rfl⟩
      case rest =>
        obtain ⟨rfl, rfl⟩ := hcut
        cases q2 : tL h2 (decide (0 < asg.length))
        case true =>
          have HQ2 := Lib.hid q2; clear q2
          go_wp2_with fail
          go_ret
          exact ⟨ret_bool (by rw [onlyB, bareB_eq, HQ0.out, HQ1.out, HQ2.out]; rfl), HBW.out⟩
        have HQ2 := Lib.hid q2; clear q2
        go_upto_region 4 with fail
        go_cut [5] (fun v wx => v = .bool (tL h3 (decide (0 < wds.length))) ∧ W = wx)
        case first =>
            cases he : (decide (0 < wds.length)) <;> cases h3
            all_goals
              go_wp2_with fail
              go_meet
              exact ⟨by rw [tL, he]; rfl, rfl⟩
        case rest =>
          obtain ⟨rfl, rfl⟩ := hcut
          cases q3 : tL h3 (decide (0 < wds.length))
          case true =>
            have HQ3 := Lib.hid q3; clear q3
            go_wp2_with fail
            go_ret
            exact ⟨ret_bool (by rw [onlyB, bareB_eq, HQ0.out, HQ1.out, HQ2.out, HQ3.out]; rfl), HBW.out⟩
          have HQ3 := Lib.hid q3; clear q3
          go_upto_region 6 with fail
          go_cut [41] (fun v wx => v = .bool (tL h4 (decide (0 < rds.length))) ∧ W = wx)
          case first =>
              cases he : (decide (0 < rds.length)) <;> cases h4
              all_goals
                go_wp2_with fail
                go_meet
                exact ⟨by rw [tL, he]; rfl, rfl⟩
          case rest =>
            obtain ⟨rfl, rfl⟩ := hcut
            cases q4 : tL h4 (decide (0 < rds.length))
            case true =>
              have HQ4 := Lib.hid q4; clear q4
              go_wp2_with fail
              go_ret
              exact ⟨ret_bool (by rw [onlyB, bareB_eq, HQ0.out, HQ1.out, HQ2.out, HQ3.out, HQ4.out]; rfl), HBW.out⟩
            have HQ4 := Lib.hid q4; clear q4
            go_upto_region 7 with fail
            go_cut [41] (fun v wx => v = .bool (tL h5 (decide (0 < ars.length))) ∧ W = wx)
            case first =>
                cases he : (decide (0 < ars.length)) <;> cases h5
                all_goals
                  go_wp2_with fail
                  go_meet
                  exact ⟨by rw [tL, he]; rfl, rfl⟩
            case rest =>
              obtain ⟨rfl, rfl⟩ := hcut
              cases q5 : tL h5 (decide (0 < ars.length))
              case true =>
                have HQ5 := Lib.hid q5; clear q5
                go_wp2_with fail
                go_ret
                exact ⟨ret_bool (by rw [onlyB, bareB_eq, HQ0.out, HQ1.out, HQ2.out, HQ3.out, HQ4.out, HQ5.out]; rfl), HBW.out⟩
              have HQ5 := Lib.hid q5; clear q5
              go_upto_region 8 with fail
              go_cut [41] (fun v wx => v = .bool (tL h6 (decide (0 < kds.length))) ∧ W = wx)
              case first =>
                  cases he : (decide (0 < kds.length)) <;> cases h6
                  all_goals
                    go_wp2_with fail
                    go_meet
                    exact ⟨by rw [tL, he]; rfl, rfl⟩
              case rest =>
                obtain ⟨rfl, rfl⟩ := hcut
                cases q6 : tL h6 (decide (0 < kds.length))
                case true =>
                  have HQ6 := Lib.hid q6; clear q6
                  go_wp2_with fail
                  go_ret
                  exact ⟨ret_bool (by rw [onlyB, bareB_eq, HQ0.out, HQ1.out, HQ2.out, HQ3.out, HQ4.out, HQ5.out, HQ6.out]; rfl), HBW.out⟩
                have HQ6 := Lib.hid q6; clear q6
                go_upto_region 10 with fail
                go_cut [69] (fun v wx => v = .bool (uB nt (ky != 3)) ∧ W = wx)
                case first =>
                    cases he : (ky != 3) <;> cases nt
                    all_goals
                      go_wp2_with fail
                      go_meet
                      exact ⟨by rw [uB, he]; rfl, rfl⟩
                case rest =>
                  obtain ⟨rfl, rfl⟩ := hcut
                  cases q7 : uB nt (ky != 3)
                  case true =>
                    have HQ7 := Lib.hid q7; clear q7
                    go_wp2_with fail
                    go_ret
                    exact ⟨ret_bool (by rw [onlyB, bareB_eq, HQ0.out, HQ1.out, HQ2.out, HQ3.out, HQ4.out, HQ5.out, HQ6.out, HQ7.out]; rfl), HBW.out⟩
                  have HQ7 := Lib.hid q7; clear q7
                  go_upto_region 11 with fail
                  go_cut [69] (fun v wx => v = .bool (uB ni (ky != 7)) ∧ W = wx)
                  case first =>
                      cases he : (ky != 7) <;> cases ni
                      all_goals
                        go_wp2_with fail
                        go_meet
                        exact ⟨by rw [uB, he]; rfl, rfl⟩
                  case rest =>
                    obtain ⟨rfl, rfl⟩ := hcut
                    cases q8 : uB ni (ky != 7)
                    case true =>
                      have HQ8 := Lib.hid q8; clear q8
                      go_wp2_with fail
                      go_ret
                      exact ⟨ret_bool (by rw [onlyB, bareB_eq, HQ0.out, HQ1.out, HQ2.out, HQ3.out, HQ4.out, HQ5.out, HQ6.out, HQ7.out, HQ8.out]; rfl), HBW.out⟩
                    have HQ8 := Lib.hid q8; clear q8
                    have HR1 := Lib.hid (all_redir f G 17 #[] (redirB (Nd.vw f)) _ rds W HGW.out (HSR.out.onR HG.out HBW.out) enter_Redir (ok_Redir IH.out HGW.out (HT.out.below HBW.out)))
                    go_wp2_with fail
                    refine HR1.out.mono ?_
                    rintro e w1 ⟨he, hb⟩
                    have HB1 := Lib.hid (HBW.out.trans (hb.mono HBW.out.size))
                    have y6 := box_keep x6 hb; have y5 := box_keep x5 hb
                    clear hb
                    cases qr : rds.all (redirB (Nd.vw f))
                    · rw [qr] at he
                      subst he
                      have HQR := Lib.hid qr; clear qr
                      go_wp2_with fail
                      go_ret
                      exact ⟨ret_bool (by rw [onlyB, bareB_eq, HQ0.out, HQ1.out, HQ2.out, HQ3.out, HQ4.out, HQ5.out, HQ6.out, HQ7.out, HQ8.out, HQR.out]; rfl), HB1.out⟩
                    rw [qr] at he
                    subst he
                    have HQR := Lib.hid qr; clear qr
                    have HR2 := Lib.hid (all_word f G 15 #[] (wordB (Nd.vw f)) _ wds w1 (old_of HG.out HB1.out) (HSW.out.onW HG.out HB1.out) enter_Word (ok_Word IH.out (old_of HG.out HB1.out) (HT.out.below HB1.out)))
                    go_wp2_with fail
                    refine HR2.out.mono ?_
                    rintro e w2 ⟨he, hb⟩
                    have HB2 := Lib.hid (HB1.out.trans (hb.mono HB1.out.size))
                    have z5 := box_keep y5 hb
                    clear hb y5 y6
                    cases qw : wds.all (wordB (Nd.vw f))
                    · rw [qw] at he
                      subst he
                      have HQW := Lib.hid qw; clear qw
                      go_wp2_with fail
                      go_ret
                      exact ⟨ret_bool (by rw [onlyB, bareB_eq, HQ0.out, HQ1.out, HQ2.out, HQ3.out, HQ4.out, HQ5.out, HQ6.out, HQ7.out, HQ8.out, HQR.out, HQW.out]; rfl), HB2.out⟩
                    rw [qw] at he
                    subst he
                    have HQW := Lib.hid qw; clear qw
                    have HR3 := Lib.hid (all_word f G 15 #[] (wordB (Nd.vw f)) _ asg w2 (old_of HG.out HB2.out) (HSA.out.onW HG.out HB2.out) enter_Word (ok_Word IH.out (old_of HG.out HB2.out) (HT.out.below HB2.out)))
                    go_wp2_with fail
                    refine HR3.out.mono ?_
                    rintro e w3 ⟨rfl, hb⟩
                    have HB3 := Lib.hid (HB2.out.trans (hb.mono HB2.out.size))
                    clear hb z5
                    go_wp2_with fail
                    go_ret
                    exact ⟨ret_bool (by rw [onlyB, bareB_eq, HQ0.out, HQ1.out, HQ2.out, HQ3.out, HQ4.out, HQ5.out, HQ6.out, HQ7.out, HQ8.out, HQR.out, HQW.out]; rfl), HB3.out⟩
end Go.Proofs.YtjpopekmbmcggaaGreatDoor
