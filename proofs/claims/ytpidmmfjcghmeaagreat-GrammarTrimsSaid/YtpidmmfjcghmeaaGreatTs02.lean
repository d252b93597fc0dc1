/- Texts in one: GtFun, GtBox, GtRef1, GtRow. -/
import Derived.Test.YtpidmmfjcghmeaaGreatTs01
namespace Go.Proofs.YtpidmmfjcghmeaaGreat
open Go.RowKit

/-- A function value is entered at once. -/
def Enters (fn : Nat) : Prop := ∀ (args : Array Value) (w : World), (callFunc fn args).run Tryz.prog w = .ok (.enter fn args) w
/-- A function value's contract at each element, in whatever grown world: the answer p. -/
def FnOk {β : Type} (R : World → List Value → β → Prop) (arg : List Value → Value) (w : World) (fn : Nat) (cap : Array Value) (p : β → Bool) : Prop :=
  ∀ X, Below w.heap.size w X → ∀ vs x, R X vs x → Calls Tryz.prog fn (#[arg vs] ++ cap) X fun e w' => e = .returned (.bool (p x)) ∧ Below X.heap.size X w'
theorem FnOk.on {β : Type} {R : World → List Value → β → Prop} {arg : List Value → Value} {w w' : World} {fn : Nat} {cap : Array Value} {p : β → Bool} (h : FnOk R arg w fn cap p) (hb : Below w.heap.size w w') : FnOk R arg w' fn cap p :=
  fun X hX vs x hr => h X (hb.trans (hX.mono hb.size)) vs x hr
def one (vs : List Value) : Value := vs.headD (.bool false)
def IntW (_ : World) : List Value → Int → Prop := IntV
theorem IntW.below {G : Nat → Prop} {w w' : World} {vs : List Value} {x : Int} (_ : ∀ k, G k → k < w.heap.size) (_ : Below w.heap.size w w') (h : IntW w vs x) : IntW w' vs x := h
def StrQ (Q : List UInt8 → Prop) (_ : World) (vs : List Value) (x : List UInt8) : Prop := StrV vs x ∧ Q x
theorem StrQ.below {Q : List UInt8 → Prop} {G : Nat → Prop} {w w' : World} {vs : List Value} {x : List UInt8} (_ : ∀ k, G k → k < w.heap.size) (_ : Below w.heap.size w w') (h : StrQ Q w vs x) : StrQ Q w' vs x := h
theorem StrsAt.with {Q : List UInt8 → Prop} {G : Nat → Prop} {w : World} {v : Value} {l : List (List UInt8)} (h : StrsAt G w v l) (hQ : ∀ s ∈ l, Q s) : SlAt G w 1 (StrQ Q w) v l := by
  obtain ⟨A, c, h1, h2, h3, h4⟩ := h
  refine ⟨A, c, h1, h2, h3, fun hn => ?_⟩
  obtain ⟨b, off, h5, h6, h7⟩ := h4 hn
  refine ⟨b, off, h5, h6, fun i hi => ?_⟩
  obtain ⟨vs, k1, k2, k3⟩ := h7 i hi
  exact ⟨vs, k1, ⟨k2, hQ _ (List.getElem_mem hi)⟩, k3⟩
theorem cell_one {Y : World} {b : Nat} {T : TypeId} {v0 : Value} (h : Y.heap[b]? = some (.cells #[v0] T (0, 0))) : Y.cell? ⟨b, 0, none⟩ = some v0 := by simp [World.cell?, h]
/-- The first place, from k on, where it is so; -1: nowhere. -/
def fidx {β : Type} (p : β → Bool) : List β → Nat → Int
  | [], _ => -1
  | x :: l, k => if p x then (k : Int) else fidx p l (k + 1)
theorem fidx_any {β : Type} (p : β → Bool) : ∀ (l : List β) (k : Nat), decide (0 ≤ fidx p l k) = l.any p
  | [], _ => rfl
  | x :: l, k => by
    rw [List.any_cons, fidx]
    cases hx : p x
    · rw [if_neg (by decide), Bool.false_or]
      exact fidx_any p l (k + 1)
    · rw [if_pos rfl, Bool.true_or]
      exact decide_eq_true (by omega)
theorem drop_one {β : Type} (xs : List β) (k : Nat) (h : k < xs.length) : xs.drop k = xs[k] :: xs.drop (k + 1) := List.drop_eq_getElem_cons h

set_option maxRecDepth 100000 in
set_option maxHeartbeats 2000000 in
theorem index_str (Q : List UInt8 → Prop) (G : Nat → Prop) (fn : Nat) (cap : Array Value) (p : List UInt8 → Bool) (v : Value) (xs : List (List UInt8)) (w : World) (hG : ∀ k, G k → k < w.heap.size) (hs : SlAt G w 1 (StrQ Q w) v xs) (hent : Enters fn) (hst : FnOk (StrQ Q) one w fn cap p) :
    Calls Tryz.prog 210 #[v, .func (.func fn) #[] cap] w fun e w' => e = .returned (.int .i64 (fidx p xs 0)) ∧ Below w.heap.size w w' := by
  obtain ⟨A, c, rfl, hl, hm, hc⟩ := hs
  unfold maxLen at hm
  have HC := Lib.hid hc; have HG := Lib.hid hG; have HE := Lib.hid hent; have HST := Lib.hid hst
  clear hc hG hent hst
  go_enter Tryz.func210, Tryz.ntmps210
  go_wp2
  go_loopw [8] (fun i wr => ∃ (k : Nat), k ≤ xs.length ∧ i = .int .i64 k ∧ fidx p (xs.drop k) k = fidx p xs 0 ∧ Below w.heap.size w wr) (fun i _ => xs.length - (intOf i).toNat)
  case atStart => exact ⟨0, by omega, rfl, rfl, Below.refl _ _⟩
  case round =>
    obtain ⟨k, hk, rfl, hf, hb⟩ := hrel
    have HF := Lib.hid hf; have HB := Lib.hid hb
    clear hf hb
    by_cases hlt : k < xs.length
    · obtain ⟨b, off, rfl, hg, hel⟩ := HC.out (by omega)
      obtain ⟨vs, hvl, hR, hcell⟩ := hel k hlt
      have hR' := StrQ.below HG.out HB.out hR
      have HR := Lib.hid hR'
      obtain ⟨rfl, _⟩ := hR'
      have z := fun j u hj => (keep_of HG.out HB.out _ hg).trans (hcell j u hj)
      have c0 : wr.cell? ⟨b, off + k, none⟩ = some (bs xs[k]) := by simpa using z 0 _ rfl
      clear z hel hcell hvl hR hg
      go_wp2_with fail
      rw [HE.out, Oper.upon_enter]
      refine (HST.out _ HB.out _ _ HR.out).mono ?_
      rintro e w1 ⟨he, hb1⟩
      have HB1 := Lib.hid (HB.out.trans (hb1.mono HB.out.size))
      clear hb1 c0
      cases hq : p xs[k]
      · rw [hq] at he
        subst he
        have HQ := Lib.hid hq
        clear hq
        go_wp2_with fail
        go_roundw
        case rel =>
          refine ⟨k + 1, by omega, by go_num, ?_, HB1.out⟩
          have h := HF.out
          rw [drop_one xs k hlt, fidx, if_neg (by rw [HQ.out]; decide)] at h
          exact h
        case measure => simp only [intOf]; omega
      · rw [hq] at he
        subst he
        have HQ := Lib.hid hq
        clear hq
        go_wp2_with fail
        go_ret
        have h := HF.out
        rw [drop_one xs k hlt, fidx, if_pos HQ.out] at h
        exact ⟨ret_int h, HB1.out⟩
    · have HD := Lib.hid (List.drop_eq_nil_of_le (show xs.length ≤ k by omega))
      go_wp2_with fail
      go_ret
      have h := HF.out
      rw [HD.out, fidx] at h
      exact ⟨ret_int h, HB.out⟩

set_option maxRecDepth 100000 in
set_option maxHeartbeats 1000000 in
theorem contains_str (Q : List UInt8 → Prop) (G : Nat → Prop) (fn : Nat) (cap : Array Value) (p : List UInt8 → Bool) (v : Value) (xs : List (List UInt8)) (w : World) (hG : ∀ k, G k → k < w.heap.size) (hs : SlAt G w 1 (StrQ Q w) v xs) (hent : Enters fn) (hst : FnOk (StrQ Q) one w fn cap p) :
    Calls Tryz.prog 142 #[v, .func (.func fn) #[] cap] w fun e w' => e = .returned (.bool (xs.any p)) ∧ Below w.heap.size w w' := by
  have HX := Lib.hid (index_str Q G fn cap p v xs w hG hs hent hst)
  have HQ := Lib.hid (fidx_any p xs 0)
  generalize fidx p xs 0 = r at HX HQ
  clear hG hs hent hst
  go_enter Tryz.func142, Tryz.ntmps142
  go_wp2_with fail
  refine HX.out.mono ?_
  rintro e w1 ⟨rfl, hb⟩
  go_wp2_with fail
  go_ret
  exact ⟨ret_bool HQ.out, hb⟩

theorem enter_all_str : Enters 143 := fun args w => by simp [callFunc, go_sem, Tryz.func143, Tryz.f143]
set_option maxRecDepth 100000 in
set_option maxHeartbeats 1000000 in
theorem all1_str (Q : List UInt8 → Prop) (fn : Nat) (cap : Array Value) (p : List UInt8 → Bool) (X : World) (bo : Nat) (hent : Enters fn) (hst : FnOk (StrQ Q) one X fn cap p)
    (hc : X.cell? ⟨bo, 0, none⟩ = some (.func (.func fn) #[] cap)) (vs : List Value) (x : List UInt8) (hr : StrQ Q X vs x) :
    Calls Tryz.prog 143 (#[one vs] ++ #[.pointer (some ⟨bo, 0, none⟩)]) X fun e w' => e = .returned (.bool (!p x)) ∧ Below X.heap.size X w' := by
  have HX := Lib.hid (hst X (Below.refl _ _) _ _ hr)
  obtain ⟨rfl, _⟩ := hr
  have HE := Lib.hid hent
  clear hent hst
  show Calls Tryz.prog 143 #[bs x, .pointer (some ⟨bo, 0, none⟩)] X _
  go_enter Tryz.func143, Tryz.ntmps143
  go_wp2_with fail
  rw [HE.out, Oper.upon_enter]
  refine HX.out.mono ?_
  rintro e w1 ⟨rfl, hb1⟩
  go_wp2_with fail
  go_ret
  exact ⟨rfl, hb1⟩
set_option maxRecDepth 100000 in
set_option maxHeartbeats 1000000 in
theorem all_str (Q : List UInt8 → Prop) (G : Nat → Prop) (fn : Nat) (cap : Array Value) (p : List UInt8 → Bool) (v : Value) (xs : List (List UInt8)) (w : World) (hG : ∀ k, G k → k < w.heap.size) (hs : SlAt G w 1 (StrQ Q w) v xs) (hent : Enters fn) (hst : FnOk (StrQ Q) one w fn cap p) :
    Calls Tryz.prog 76 #[v, .func (.func fn) #[] cap] w fun e w' => e = .returned (.bool (xs.all p)) ∧ Below w.heap.size w w' := by
  have hb : Below w.heap.size w (w.alloc (.cells #[.func (.func fn) #[] cap] 146)) := (Below.refl _ _).alloc (Nat.le_refl _) _
  have hG1 : ∀ k, G k → k < (w.alloc (.cells #[.func (.func fn) #[] cap] 146)).heap.size := fun k hk => Nat.lt_of_lt_of_le (hG k hk) hb.size
  have hcc : (w.alloc (.cells #[.func (.func fn) #[] cap] 146)).cell? ⟨w.heap.size, 0, none⟩ = some (.func (.func fn) #[] cap) := cell_one (heap_alloc_t w _)
  have HX := Lib.hid (contains_str Q G 143 #[.pointer (some ⟨w.heap.size, 0, none⟩)] (fun x => !p x) v xs _ hG1 (hs.keep (fun _ h => h) (keep_of hG hb) (fun _ _ h => StrQ.below hG hb h)) enter_all_str
    (fun X hX vs x hr => all1_str Q fn cap p X w.heap.size hent ((hst.on hb).on hX) ((hX.cell (p := ⟨w.heap.size, 0, none⟩) (by simp)).trans hcc) vs x hr))
  have HB := Lib.hid hb
  have HA := Lib.hid (show (!xs.any fun x => !p x) = xs.all p by rw [List.all_eq_not_any_not])
  clear hb hG hs hent hst hG1 hcc
  go_enter Tryz.func76, Tryz.ntmps76
  go_wp2_with fail
  refine HX.out.mono ?_
  rintro e w1 ⟨rfl, hb1⟩
  have HB1 := Lib.hid (HB.out.trans (hb1.mono HB.out.size))
  clear hb1
  go_wp2_with fail
  go_ret
  exact ⟨ret_bool HA.out, HB1.out⟩

set_option maxRecDepth 100000 in
set_option maxHeartbeats 2000000 in
theorem index_rule (G : Nat → Prop) (fn : Nat) (cap : Array Value) (p : Int × List Int → Bool) (v : Value) (xs : List (Int × List Int)) (w : World) (hG : ∀ k, G k → k < w.heap.size) (hs : SlAt G w 2 (RuV G w) v xs) (hent : Enters fn) (hst : FnOk (RuV G) ag w fn cap p) :
    Calls Tryz.prog 132 #[v, .func (.func fn) #[] cap] w fun e w' => e = .returned (.int .i64 (fidx p xs 0)) ∧ Below w.heap.size w w' := by
  obtain ⟨A, c, rfl, hl, hm, hc⟩ := hs
  unfold maxLen at hm
  have HC := Lib.hid hc; have HG := Lib.hid hG; have HE := Lib.hid hent; have HST := Lib.hid hst
  clear hc hG hent hst
  go_enter Tryz.func132, Tryz.ntmps132
  go_wp2
  go_loopw [8] (fun i wr => ∃ (k : Nat), k ≤ xs.length ∧ i = .int .i64 k ∧ fidx p (xs.drop k) k = fidx p xs 0 ∧ Below w.heap.size w wr) (fun i _ => xs.length - (intOf i).toNat)
  case atStart => exact ⟨0, by omega, rfl, rfl, Below.refl _ _⟩
  case round =>
    obtain ⟨k, hk, rfl, hf, hb⟩ := hrel
    have HF := Lib.hid hf; have HB := Lib.hid hb
    clear hf hb
    by_cases hlt : k < xs.length
    · obtain ⟨b, off, rfl, hg, hel⟩ := HC.out (by omega)
      obtain ⟨vs, hvl, hR, hcell⟩ := hel k hlt
      have hR' := RuV.below HG.out HB.out hR
      have HR := Lib.hid hR'
      obtain ⟨A1, c1, rfl, _, _⟩ := hR'.shape
      have z := fun j u hj => (keep_of HG.out HB.out _ hg).trans (hcell j u hj)
      have c0 : wr.cell? ⟨b, off + k * 2, none⟩ = some (.int .i64 xs[k].1) := by simpa using z 0 _ rfl
      have c1 : wr.cell? ⟨b, off + k * 2 + 1, none⟩ = some (.slice A1 xs[k].2.length c1) := by simpa using z 1 _ rfl
      clear z hel hcell hvl hR hg
      go_wp2_with fail
      rw [HE.out, Oper.upon_enter]
      refine (HST.out _ HB.out _ _ HR.out).mono ?_
      rintro e w1 ⟨he, hb1⟩
      have HB1 := Lib.hid (HB.out.trans (hb1.mono HB.out.size))
      clear hb1 c0 c1
      cases hq : p xs[k]
      · rw [hq] at he
        subst he
        have HQ := Lib.hid hq
        clear hq
        go_wp2_with fail
        go_roundw
        case rel =>
          refine ⟨k + 1, by omega, by go_num, ?_, HB1.out⟩
          have h := HF.out
          rw [drop_one xs k hlt, fidx, if_neg (by rw [HQ.out]; decide)] at h
          exact h
        case measure => simp only [intOf]; omega
      · rw [hq] at he
        subst he
        have HQ := Lib.hid hq
        clear hq
        go_wp2_with fail
        go_ret
        have h := HF.out
        rw [drop_one xs k hlt, fidx, if_pos HQ.out] at h
        exact ⟨ret_int h, HB1.out⟩
    · have HD := Lib.hid (List.drop_eq_nil_of_le (show xs.length ≤ k by omega))
      go_wp2_with fail
      go_ret
      have h := HF.out
      rw [HD.out, fidx] at h
      exact ⟨ret_int h, HB.out⟩

set_option maxRecDepth 100000 in
set_option maxHeartbeats 1000000 in
theorem contains_rule (G : Nat → Prop) (fn : Nat) (cap : Array Value) (p : Int × List Int → Bool) (v : Value) (xs : List (Int × List Int)) (w : World) (hG : ∀ k, G k → k < w.heap.size) (hs : SlAt G w 2 (RuV G w) v xs) (hent : Enters fn) (hst : FnOk (RuV G) ag w fn cap p) :
    Calls Tryz.prog 140 #[v, .func (.func fn) #[] cap] w fun e w' => e = .returned (.bool (xs.any p)) ∧ Below w.heap.size w w' := by
  have HX := Lib.hid (index_rule G fn cap p v xs w hG hs hent hst)
  have HQ := Lib.hid (fidx_any p xs 0)
  generalize fidx p xs 0 = r at HX HQ
  clear hG hs hent hst
  go_enter Tryz.func140, Tryz.ntmps140
  go_wp2_with fail
  refine HX.out.mono ?_
  rintro e w1 ⟨rfl, hb⟩
  go_wp2_with fail
  go_ret
  exact ⟨ret_bool HQ.out, hb⟩

theorem enter_all_rule : Enters 141 := fun args w => by simp [callFunc, go_sem, Tryz.func141, Tryz.f141]
set_option maxRecDepth 100000 in
set_option maxHeartbeats 1000000 in
theorem all1_rule (G : Nat → Prop) (fn : Nat) (cap : Array Value) (p : Int × List Int → Bool) (X : World) (bo : Nat) (hG : ∀ k, G k → k < X.heap.size) (hbo : bo < X.heap.size) (hent : Enters fn) (hst : FnOk (RuV G) ag X fn cap p)
    (hc : X.cell? ⟨bo, 0, none⟩ = some (.func (.func fn) #[] cap)) (vs : List Value) (x : Int × List Int) (hr : RuV G X vs x) :
    Calls Tryz.prog 141 (#[ag vs] ++ #[.pointer (some ⟨bo, 0, none⟩)]) X fun e w' => e = .returned (.bool (!p x)) ∧ Below X.heap.size X w' := by
  obtain ⟨A, c, rfl, _, _⟩ := hr.shape
  have hb : Below X.heap.size X (X.alloc (.cells #[.int .i64 x.1, .slice A x.2.length c] 64)) := (Below.refl _ _).alloc (Nat.le_refl _) _
  have HX := Lib.hid (hst _ hb _ _ (hr.below hG hb))
  have hc' : (X.alloc (.cells #[.int .i64 x.1, .slice A x.2.length c] 64)).cell? ⟨bo, 0, none⟩ = some (.func (.func fn) #[] cap) := (hb.cell (p := ⟨bo, 0, none⟩) hbo).trans hc
  have HB := Lib.hid hb; have HE := Lib.hid hent
  clear hb hc hent hst hr
  show Calls Tryz.prog 141 #[.agg #[.int .i64 x.1, .slice A x.2.length c], .pointer (some ⟨bo, 0, none⟩)] X _
  go_enter Tryz.func141, Tryz.ntmps141
  go_wp2_with fail
  rw [HE.out, Oper.upon_enter]
  refine HX.out.mono ?_
  rintro e w1 ⟨rfl, hb1⟩
  have HB1 := Lib.hid (HB.out.trans (hb1.mono HB.out.size))
  clear hb1 hc'
  go_wp2_with fail
  go_ret
  exact ⟨rfl, HB1.out⟩
set_option maxRecDepth 100000 in
set_option maxHeartbeats 1000000 in
theorem all_rule (G : Nat → Prop) (fn : Nat) (cap : Array Value) (p : Int × List Int → Bool) (v : Value) (xs : List (Int × List Int)) (w : World) (hG : ∀ k, G k → k < w.heap.size) (hs : SlAt G w 2 (RuV G w) v xs) (hent : Enters fn) (hst : FnOk (RuV G) ag w fn cap p) :
    Calls Tryz.prog 75 #[v, .func (.func fn) #[] cap] w fun e w' => e = .returned (.bool (xs.all p)) ∧ Below w.heap.size w w' := by
  have hb : Below w.heap.size w (w.alloc (.cells #[.func (.func fn) #[] cap] 148)) := (Below.refl _ _).alloc (Nat.le_refl _) _
  have hG1 : ∀ k, G k → k < (w.alloc (.cells #[.func (.func fn) #[] cap] 148)).heap.size := fun k hk => Nat.lt_of_lt_of_le (hG k hk) hb.size
  have hcc : (w.alloc (.cells #[.func (.func fn) #[] cap] 148)).cell? ⟨w.heap.size, 0, none⟩ = some (.func (.func fn) #[] cap) := cell_one (heap_alloc_t w _)
  have HX := Lib.hid (contains_rule G 141 #[.pointer (some ⟨w.heap.size, 0, none⟩)] (fun x => !p x) v xs _ hG1 (hs.keep (fun _ h => h) (keep_of hG hb) (fun vs x h => RuV.below hG hb h)) enter_all_rule
    (fun X hX vs x hr => all1_rule G fn cap p X w.heap.size (fun k hk => Nat.lt_of_lt_of_le (hG1 k hk) hX.size) (Nat.lt_of_lt_of_le (by simp) hX.size) hent ((hst.on hb).on hX) ((hX.cell (p := ⟨w.heap.size, 0, none⟩) (by simp)).trans hcc) vs x hr))
  have HB := Lib.hid hb
  have HA := Lib.hid (show (!xs.any fun x => !p x) = xs.all p by rw [List.all_eq_not_any_not])
  clear hb hG hs hent hst hG1 hcc
  go_enter Tryz.func75, Tryz.ntmps75
  go_wp2_with fail
  refine HX.out.mono ?_
  rintro e w1 ⟨rfl, hb1⟩
  have HB1 := Lib.hid (HB.out.trans (hb1.mono HB.out.size))
  clear hb1
  go_wp2_with fail
  go_ret
  exact ⟨ret_bool HA.out, HB1.out⟩

set_option maxRecDepth 100000 in
set_option maxHeartbeats 2000000 in
theorem index_int (G : Nat → Prop) (fn : Nat) (cap : Array Value) (p : Int → Bool) (v : Value) (xs : List (Int)) (w : World) (hG : ∀ k, G k → k < w.heap.size) (hs : SlAt G w 1 (IntW w) v xs) (hent : Enters fn) (hst : FnOk (IntW) one w fn cap p) :
    Calls Tryz.prog 243 #[v, .func (.func fn) #[] cap] w fun e w' => e = .returned (.int .i64 (fidx p xs 0)) ∧ Below w.heap.size w w' := by
  obtain ⟨A, c, rfl, hl, hm, hc⟩ := hs
  unfold maxLen at hm
  have HC := Lib.hid hc; have HG := Lib.hid hG; have HE := Lib.hid hent; have HST := Lib.hid hst
  clear hc hG hent hst
  go_enter Tryz.func243, Tryz.ntmps243
  go_wp2
  go_loopw [8] (fun i wr => ∃ (k : Nat), k ≤ xs.length ∧ i = .int .i64 k ∧ fidx p (xs.drop k) k = fidx p xs 0 ∧ Below w.heap.size w wr) (fun i _ => xs.length - (intOf i).toNat)
  case atStart => exact ⟨0, by omega, rfl, rfl, Below.refl _ _⟩
  case round =>
    obtain ⟨k, hk, rfl, hf, hb⟩ := hrel
    have HF := Lib.hid hf; have HB := Lib.hid hb
    clear hf hb
    by_cases hlt : k < xs.length
    · obtain ⟨b, off, rfl, hg, hel⟩ := HC.out (by omega)
      obtain ⟨vs, hvl, hR, hcell⟩ := hel k hlt
      have hR' := IntW.below HG.out HB.out hR
      have HR := Lib.hid hR'
      obtain rfl := hR'
      have z := fun j u hj => (keep_of HG.out HB.out _ hg).trans (hcell j u hj)
      have c0 : wr.cell? ⟨b, off + k, none⟩ = some (.int .i64 xs[k]) := by simpa using z 0 _ rfl
      clear z hel hcell hvl hR hg
      go_wp2_with fail
      rw [HE.out, Oper.upon_enter]
      refine (HST.out _ HB.out _ _ HR.out).mono ?_
      rintro e w1 ⟨he, hb1⟩
      have HB1 := Lib.hid (HB.out.trans (hb1.mono HB.out.size))
      clear hb1 c0
      cases hq : p xs[k]
      · rw [hq] at he
        subst he
        have HQ := Lib.hid hq
        clear hq
        go_wp2_with fail
        go_roundw
        case rel =>
          refine ⟨k + 1, by omega, by go_num, ?_, HB1.out⟩
          have h := HF.out
          rw [drop_one xs k hlt, fidx, if_neg (by rw [HQ.out]; decide)] at h
          exact h
        case measure => simp only [intOf]; omega
      · rw [hq] at he
        subst he
        have HQ := Lib.hid hq
        clear hq
        go_wp2_with fail
        go_ret
        have h := HF.out
        rw [drop_one xs k hlt, fidx, if_pos HQ.out] at h
        exact ⟨ret_int h, HB1.out⟩
    · have HD := Lib.hid (List.drop_eq_nil_of_le (show xs.length ≤ k by omega))
      go_wp2_with fail
      go_ret
      have h := HF.out
      rw [HD.out, fidx] at h
      exact ⟨ret_int h, HB.out⟩

set_option maxRecDepth 100000 in
set_option maxHeartbeats 1000000 in
theorem contains_int (G : Nat → Prop) (fn : Nat) (cap : Array Value) (p : Int → Bool) (v : Value) (xs : List (Int)) (w : World) (hG : ∀ k, G k → k < w.heap.size) (hs : SlAt G w 1 (IntW w) v xs) (hent : Enters fn) (hst : FnOk (IntW) one w fn cap p) :
    Calls Tryz.prog 216 #[v, .func (.func fn) #[] cap] w fun e w' => e = .returned (.bool (xs.any p)) ∧ Below w.heap.size w w' := by
  have HX := Lib.hid (index_int G fn cap p v xs w hG hs hent hst)
  have HQ := Lib.hid (fidx_any p xs 0)
  generalize fidx p xs 0 = r at HX HQ
  clear hG hs hent hst
  go_enter Tryz.func216, Tryz.ntmps216
  go_wp2_with fail
  refine HX.out.mono ?_
  rintro e w1 ⟨rfl, hb⟩
  go_wp2_with fail
  go_ret
  exact ⟨ret_bool HQ.out, hb⟩

theorem enter_all_int : Enters 217 := fun args w => by simp [callFunc, go_sem, Tryz.func217, Tryz.f217]
set_option maxRecDepth 100000 in
set_option maxHeartbeats 1000000 in
theorem all1_int (fn : Nat) (cap : Array Value) (p : Int → Bool) (X : World) (bo : Nat) (hent : Enters fn) (hst : FnOk (IntW) one X fn cap p)
    (hc : X.cell? ⟨bo, 0, none⟩ = some (.func (.func fn) #[] cap)) (vs : List Value) (x : Int) (hr : IntW X vs x) :
    Calls Tryz.prog 217 (#[one vs] ++ #[.pointer (some ⟨bo, 0, none⟩)]) X fun e w' => e = .returned (.bool (!p x)) ∧ Below X.heap.size X w' := by
  have HX := Lib.hid (hst X (Below.refl _ _) _ _ hr)
  obtain rfl := hr
  have HE := Lib.hid hent
  clear hent hst
  show Calls Tryz.prog 217 #[.int .i64 x, .pointer (some ⟨bo, 0, none⟩)] X _
  go_enter Tryz.func217, Tryz.ntmps217
  go_wp2_with fail
  rw [HE.out, Oper.upon_enter]
  refine HX.out.mono ?_
  rintro e w1 ⟨rfl, hb1⟩
  go_wp2_with fail
  go_ret
  exact ⟨rfl, hb1⟩
set_option maxRecDepth 100000 in
set_option maxHeartbeats 1000000 in
theorem all_int (G : Nat → Prop) (fn : Nat) (cap : Array Value) (p : Int → Bool) (v : Value) (xs : List (Int)) (w : World) (hG : ∀ k, G k → k < w.heap.size) (hs : SlAt G w 1 (IntW w) v xs) (hent : Enters fn) (hst : FnOk (IntW) one w fn cap p) :
    Calls Tryz.prog 147 #[v, .func (.func fn) #[] cap] w fun e w' => e = .returned (.bool (xs.all p)) ∧ Below w.heap.size w w' := by
  have hb : Below w.heap.size w (w.alloc (.cells #[.func (.func fn) #[] cap] 70)) := (Below.refl _ _).alloc (Nat.le_refl _) _
  have hG1 : ∀ k, G k → k < (w.alloc (.cells #[.func (.func fn) #[] cap] 70)).heap.size := fun k hk => Nat.lt_of_lt_of_le (hG k hk) hb.size
  have hcc : (w.alloc (.cells #[.func (.func fn) #[] cap] 70)).cell? ⟨w.heap.size, 0, none⟩ = some (.func (.func fn) #[] cap) := cell_one (heap_alloc_t w _)
  have HX := Lib.hid (contains_int G 217 #[.pointer (some ⟨w.heap.size, 0, none⟩)] (fun x => !p x) v xs _ hG1 (hs.keep (fun _ h => h) (keep_of hG hb) (fun _ _ h => IntW.below hG hb h)) enter_all_int
    (fun X hX vs x hr => all1_int fn cap p X w.heap.size hent ((hst.on hb).on hX) ((hX.cell (p := ⟨w.heap.size, 0, none⟩) (by simp)).trans hcc) vs x hr))
  have HB := Lib.hid hb
  have HA := Lib.hid (show (!xs.any fun x => !p x) = xs.all p by rw [List.all_eq_not_any_not])
  clear hb hG hs hent hst hG1 hcc
  go_enter Tryz.func147, Tryz.ntmps147
  go_wp2_with fail
  refine HX.out.mono ?_
  rintro e w1 ⟨rfl, hb1⟩
  have HB1 := Lib.hid (HB.out.trans (hb1.mono HB.out.size))
  clear hb1
  go_wp2_with fail
  go_ret
  exact ⟨ret_bool HA.out, HB1.out⟩
end Go.Proofs.YtpidmmfjcghmeaaGreat
namespace Go.Proofs.YtpidmmfjcghmeaaGreat
open Go.RowKit

structure GBox (G : Nat → Prop) (w : World) (b : Nat) (A0 : Option Addr) (c0 : Nat) (A1 : Option Addr) (c1 : Nat) (A2 : Option Addr) (c2 : Nat) (g : Gm) : Prop where
  old : ∀ k, G k → k < w.heap.size
  lt : b < w.heap.size
  x0 : w.cell? ⟨b, 0, none⟩ = some (.slice A0 g.terms.length c0)
  x1 : w.cell? ⟨b, 1, none⟩ = some (.slice A1 g.nons.length c1)
  x2 : w.cell? ⟨b, 2, none⟩ = some (.slice A2 g.rules.length c2)
  x3 : w.cell? ⟨b, 3, none⟩ = some (.int .i64 g.start)
  ht : StrsAt G w (.slice A0 g.terms.length c0) g.terms
  hn : StrsAt G w (.slice A1 g.nons.length c1) g.nons
  hr : RusAt G w (.slice A2 g.rules.length c2) g.rules
theorem box_keep {w w' : World} {b j : Nat} {v : Value} (h : w.cell? ⟨b, j, none⟩ = some v) (hb : Below w.heap.size w w') : w'.cell? ⟨b, j, none⟩ = some v := (World.cell?_of_block (hb.block _ (cell_lt h))).trans h
theorem cell_box {w : World} {k : Nat} {cs : Array Value} {T : TypeId} {fz : Nat × Nat} (hh : w.heap[k]? = some (.cells cs T fz)) (i : Nat) (v : Value) (hi : cs[i]? = some v) : w.cell? ⟨k, i, none⟩ = some v := by
  simp only [World.cell?, hh]
  exact hi
section
variable {G : Nat → Prop} {w w' : World} {b : Nat} {A0 : Option Addr} {c0 : Nat} {A1 : Option Addr} {c1 : Nat} {A2 : Option Addr} {c2 : Nat} {g : Gm}
theorem GBox.on (h : GBox G w b A0 c0 A1 c1 A2 c2 g) (hb : Below w.heap.size w w') : GBox G w' b A0 c0 A1 c1 A2 c2 g :=
  ⟨old_of h.old hb, Nat.lt_of_lt_of_le h.lt hb.size, box_keep h.x0 hb, box_keep h.x1 hb, box_keep h.x2 hb, box_keep h.x3 hb, h.ht.below h.old hb, h.hn.below h.old hb, h.hr.below h.old hb⟩
theorem GBox.cells (h : GBox G w b A0 c0 A1 c1 A2 c2 g) : w.cell? ⟨b, 0, none⟩ = some (.slice A0 g.terms.length c0) ∧ w.cell? ⟨b, 1, none⟩ = some (.slice A1 g.nons.length c1) ∧ w.cell? ⟨b, 2, none⟩ = some (.slice A2 g.rules.length c2) ∧ w.cell? ⟨b, 3, none⟩ = some (.int .i64 g.start) :=
  ⟨h.x0, h.x1, h.x2, h.x3⟩
theorem GBox.gm (h : GBox G w b A0 c0 A1 c1 A2 c2 g) : GmV G w [.slice A0 g.terms.length c0, .slice A1 g.nons.length c1, .slice A2 g.rules.length c2, .int .i64 g.start] g := ⟨_, _, _, rfl, h.ht, h.hn, h.hr⟩
theorem GBox.lens (h : GBox G w b A0 c0 A1 c1 A2 c2 g) : g.terms.length ≤ 9223372036854775807 ∧ g.nons.length ≤ 9223372036854775807 ∧ g.rules.length ≤ 9223372036854775807 := by
  have a1 := SlAt.shape h.ht
  have a2 := SlAt.shape h.hn
  have a3 := SlAt.shape h.hr
  obtain ⟨_, _, e1, b1, d1⟩ := a1
  obtain ⟨_, _, e2, b2, d2⟩ := a2
  obtain ⟨_, _, e3, b3, d3⟩ := a3
  unfold maxLen at d1 d2 d3
  omega
theorem GBox.term (h : GBox G w b A0 c0 A1 c1 A2 c2 g) {k : Nat} (hk : k < g.terms.length) : ∃ bb off, A0 = some ⟨bb, off, none⟩ ∧ w.cell? ⟨bb, off + k, none⟩ = some (bs g.terms[k]) := by
  obtain ⟨bb, off, u, e, _, hu, hc⟩ := SlAt.cell1 h.ht hk
  unfold StrV at hu
  injection hu with hu _
  subst hu
  exact ⟨bb, off, e, hc⟩
theorem GBox.non (h : GBox G w b A0 c0 A1 c1 A2 c2 g) {k : Nat} (hk : k < g.nons.length) : ∃ bb off, A1 = some ⟨bb, off, none⟩ ∧ w.cell? ⟨bb, off + k, none⟩ = some (bs g.nons[k]) := by
  obtain ⟨bb, off, u, e, _, hu, hc⟩ := SlAt.cell1 h.hn hk
  unfold StrV at hu
  injection hu with hu _
  subst hu
  exact ⟨bb, off, e, hc⟩
theorem RusAt.at_ {A : Option Addr} {n c : Nat} {l : List (Int × List Int)} (h : RusAt G w (.slice A n c) l) {k : Nat} (hk : k < l.length) :
    ∃ bb off Ar cr, A = some ⟨bb, off, none⟩ ∧ G bb ∧ w.cell? ⟨bb, off + k * 2, none⟩ = some (.int .i64 l[k].1) ∧ w.cell? ⟨bb, off + k * 2 + 1, none⟩ = some (.slice Ar l[k].2.length cr) ∧ IntsAt G w (.slice Ar l[k].2.length cr) l[k].2 := by
  obtain ⟨A', c', e, _, _, h4⟩ := h
  injection e with e1 _ _
  subst e1
  obtain ⟨bb, off, rfl, hg, h5⟩ := h4 (by omega)
  obtain ⟨vs, h6, h7, h8⟩ := h5 k hk
  obtain ⟨v, rfl, h9⟩ := h7
  have z0 := h8 0 _ rfl
  have z1 := h8 1 _ rfl
  obtain ⟨Ar, cr, rfl, _, _⟩ := h9.shape
  exact ⟨bb, off, Ar, cr, rfl, hg, by simpa using z0, z1, h9⟩
theorem GBox.rule (h : GBox G w b A0 c0 A1 c1 A2 c2 g) {k : Nat} (hk : k < g.rules.length) :
    ∃ bb off Ar cr, A2 = some ⟨bb, off, none⟩ ∧ w.cell? ⟨bb, off + k * 2, none⟩ = some (.int .i64 g.rules[k].1) ∧ w.cell? ⟨bb, off + k * 2 + 1, none⟩ = some (.slice Ar g.rules[k].2.length cr) ∧ IntsAt G w (.slice Ar g.rules[k].2.length cr) g.rules[k].2 := by
  obtain ⟨bb, off, Ar, cr, e, _, h1⟩ := RusAt.at_ h.hr hk
  exact ⟨bb, off, Ar, cr, e, h1⟩
theorem IntsAt.get {A : Option Addr} {n c : Nat} {l : List Int} (h : IntsAt G w (.slice A n c) l) {k : Nat} (hk : k < l.length) : ∃ bb off, A = some ⟨bb, off, none⟩ ∧ w.cell? ⟨bb, off + k, none⟩ = some (.int .i64 l[k]) := by
  obtain ⟨bb, off, u, e, _, hu, hc⟩ := SlAt.cell1 h hk
  unfold IntV at hu
  injection hu with hu _
  subst hu
  exact ⟨bb, off, e, hc⟩
theorem StrsAt.get {A : Option Addr} {n c : Nat} {l : List (List UInt8)} (h : StrsAt G w (.slice A n c) l) {k : Nat} (hk : k < l.length) : ∃ bb off, A = some ⟨bb, off, none⟩ ∧ w.cell? ⟨bb, off + k, none⟩ = some (bs l[k]) := by
  obtain ⟨bb, off, u, e, _, hu, hc⟩ := SlAt.cell1 h hk
  unfold StrV at hu
  injection hu with hu _
  subst hu
  exact ⟨bb, off, e, hc⟩
theorem GBox.start {vs : List Value} (hG : ∀ k, G k → k < w.heap.size) (h : GmV G w vs g) : ∃ A0 c0 A1 c1 A2 c2, vs = [.slice A0 g.terms.length c0, .slice A1 g.nons.length c1, .slice A2 g.rules.length c2, .int .i64 g.start] ∧
    Below w.heap.size w (w.alloc (.cells #[.slice A0 g.terms.length c0, .slice A1 g.nons.length c1, .slice A2 g.rules.length c2, .int .i64 g.start] 25)) ∧
    GBox G (w.alloc (.cells #[.slice A0 g.terms.length c0, .slice A1 g.nons.length c1, .slice A2 g.rules.length c2, .int .i64 g.start] 25)) w.heap.size A0 c0 A1 c1 A2 c2 g := by
  obtain ⟨A0, c0, A1, c1, A2, c2, rfl, ht, hn, hr⟩ := h.shape
  have hb : Below w.heap.size w (w.alloc (.cells #[.slice A0 g.terms.length c0, .slice A1 g.nons.length c1, .slice A2 g.rules.length c2, .int .i64 g.start] 25)) := (Below.refl _ _).alloc (Nat.le_refl _) _
  have q := heap_alloc_t w (.cells #[.slice A0 g.terms.length c0, .slice A1 g.nons.length c1, .slice A2 g.rules.length c2, .int .i64 g.start] 25)
  exact ⟨A0, c0, A1, c1, A2, c2, rfl, hb, old_of hG hb, by simp, cell_box q 0 _ rfl, cell_box q 1 _ rfl, cell_box q 2 _ rfl, cell_box q 3 _ rfl, ht.below hG hb, hn.below hG hb, hr.below hG hb⟩
end
end Go.Proofs.YtpidmmfjcghmeaaGreat
namespace Go.Proofs.YtpidmmfjcghmeaaGreat
open Go.RowKit

theorem dec_T (g : Gm) (s : Int) : decide (g.T s) = (decide (1 ≤ s) && decide (s ≤ (g.terms.length : Int))) := by
  rw [Bool.eq_iff_iff, decide_eq_true_iff, Bool.and_eq_true, decide_eq_true_iff, decide_eq_true_iff]
  exact Iff.rfl
theorem dec_N (g : Gm) (s : Int) : decide (g.N s) = (decide ((g.terms.length : Int) < s) && decide (s ≤ (g.top : Int))) := by
  rw [Bool.eq_iff_iff, decide_eq_true_iff, Bool.and_eq_true, decide_eq_true_iff, decide_eq_true_iff]
  exact Iff.rfl
set_option maxRecDepth 100000 in
set_option maxHeartbeats 4000000 in
theorem top_r (G : Nat → Prop) (w : World) (vs : List Value) (g : Gm) (hG : ∀ k, G k → k < w.heap.size) (hg : GmV G w vs g) (hl : g.top ≤ 9223372036854775807):
    Calls Tryz.prog 38 #[ag vs] w fun e w' => e = .returned (.int .i64 g.top) ∧ Below w.heap.size w w' := by
  obtain ⟨A0, c0, A1, c1, A2, c2, rfl, hb, hx⟩ := GBox.start hG hg
  show Calls Tryz.prog 38 #[.agg #[.slice A0 g.terms.length c0, .slice A1 g.nons.length c1, .slice A2 g.rules.length c2, .int .i64 g.start]] w _
  generalize hW : w.alloc (.cells #[.slice A0 g.terms.length c0, .slice A1 g.nons.length c1, .slice A2 g.rules.length c2, .int .i64 g.start] 25) = W at *
  obtain ⟨x0, x1, x2, x3⟩ := hx.cells
  have HB := Lib.hid hb; have HX := Lib.hid hx
  clear hb hx hG hg
  have e1 : IntKind.i64.wrap ((g.terms.length : Int) + (g.nons.length : Int)) = (g.top : Int) := by
    rw [IntWalk.i64_in _ (by unfold Gm.top at hl; omega)]
    unfold Gm.top
    omega
  clear hl HX
  go_enter Tryz.func38, Tryz.ntmps38
  go_wp2_with fail
  go_ret
  exact ⟨rfl, HB.out⟩

set_option maxRecDepth 100000 in
set_option maxHeartbeats 4000000 in
theorem term_r (G : Nat → Prop) (w : World) (vs : List Value) (g : Gm) (s : Int)(hG : ∀ k, G k → k < w.heap.size) (hg : GmV G w vs g) :
    Calls Tryz.prog 10 #[ag vs, .int .i64 s] w fun e w' => e = .returned (.bool (decide (g.T s))) ∧ Below w.heap.size w w' := by
  obtain ⟨A0, c0, A1, c1, A2, c2, rfl, hb, hx⟩ := GBox.start hG hg
  show Calls Tryz.prog 10 #[.agg #[.slice A0 g.terms.length c0, .slice A1 g.nons.length c1, .slice A2 g.rules.length c2, .int .i64 g.start], .int .i64 s] w _
  generalize hW : w.alloc (.cells #[.slice A0 g.terms.length c0, .slice A1 g.nons.length c1, .slice A2 g.rules.length c2, .int .i64 g.start] 25) = W at *
  obtain ⟨x0, x1, x2, x3⟩ := hx.cells
  have HB := Lib.hid hb; have HX := Lib.hid hx
  clear hb hx hG hg
  have HT := Lib.hid (dec_T g s)
  clear HX
  go_enter Tryz.func10, Tryz.ntmps10
  by_cases h1 : 1 ≤ s
  · by_cases h2 : s ≤ (g.terms.length : Int)
    · go_wp2_with fail
      go_ret
      exact ⟨ret_bool (by rw [HT.out]; simp; omega), HB.out⟩
    · go_wp2_with fail
      go_ret
      exact ⟨ret_bool (by rw [HT.out]; simp; omega), HB.out⟩
  · go_wp2_with fail
    go_ret
    exact ⟨ret_bool (by rw [HT.out]; simp; omega), HB.out⟩

set_option maxRecDepth 100000 in
set_option maxHeartbeats 4000000 in
theorem non_r (G : Nat → Prop) (w : World) (vs : List Value) (g : Gm) (s : Int)(hG : ∀ k, G k → k < w.heap.size) (hg : GmV G w vs g) (hl : g.top ≤ 9223372036854775807):
    Calls Tryz.prog 42 #[ag vs, .int .i64 s] w fun e w' => e = .returned (.bool (decide (g.N s))) ∧ Below w.heap.size w w' := by
  obtain ⟨A0, c0, A1, c1, A2, c2, rfl, hb, hx⟩ := GBox.start hG hg
  show Calls Tryz.prog 42 #[.agg #[.slice A0 g.terms.length c0, .slice A1 g.nons.length c1, .slice A2 g.rules.length c2, .int .i64 g.start], .int .i64 s] w _
  generalize hW : w.alloc (.cells #[.slice A0 g.terms.length c0, .slice A1 g.nons.length c1, .slice A2 g.rules.length c2, .int .i64 g.start] 25) = W at *
  obtain ⟨x0, x1, x2, x3⟩ := hx.cells
  have HB := Lib.hid hb; have HX := Lib.hid hx
  clear hb hx hG hg
  have HT := Lib.hid (dec_N g s)
  have HL := Lib.hid hl
  clear hl
  go_enter Tryz.func42, Tryz.ntmps42
  by_cases h1 : (g.terms.length : Int) < s
  · go_wp2_with fail
    refine (top_r G _ _ g HX.out.old HX.out.gm HL.out).mono ?_
    rintro e w1 ⟨rfl, hb1⟩
    by_cases h2 : s ≤ (g.top : Int)
    · go_wp2_with fail
      go_ret
      exact ⟨ret_bool (by rw [HT.out]; simp; omega), HB.out.trans (hb1.mono HB.out.size)⟩
    · go_wp2_with fail
      go_ret
      exact ⟨ret_bool (by rw [HT.out]; simp; omega), HB.out.trans (hb1.mono HB.out.size)⟩
  · go_wp2_with fail
    go_ret
    exact ⟨ret_bool (by rw [HT.out]; simp; omega), HB.out⟩
end Go.Proofs.YtpidmmfjcghmeaaGreat
namespace Go.Proofs.YtpidmmfjcghmeaaGreat
open Go.RowKit

section
variable {β : Type} {B : Nat} {T : TypeId} {sz : Nat} {R : List Value → β → Prop} {w w' : World} {v : Value} {xs ys : List β}
theorem Nrow.nil (B : Nat) (T : TypeId) (sz : Nat) (R : List Value → β → Prop) (w : World) : Nrow B T sz R w (.slice none 0 0) [] := ⟨[], trivial, by simp, .inl ⟨rfl, rfl⟩⟩
theorem Nrow.lower {B' : Nat} (h : Nrow B T sz R w v xs) (hB : B' ≤ B) : Nrow B' T sz R w v xs := by
  obtain ⟨us, hf, hl, ho⟩ := h
  refine ⟨us, hf, hl, ?_⟩
  rcases ho with h0 | ⟨g, cap, cur, e1, e2, e3⟩
  · exact .inl h0
  · exact .inr ⟨g, cap, cur, e1, Nat.le_trans hB e2, e3⟩
theorem Nrow.add (t : TypeId) {z : Value} {bytes : Nat} (hu : Tryz.prog.underlying t = some (.slice T)) (hi : (Tryz.prog.info? T).map (fun i => (i.zero, i.size, i.bytes)) = some (some z, sz, bytes)) (hzs : z.cells.size = sz) (hsz : 0 < sz)
    (hone : ∀ vs x, R vs x → ∀ u ∈ vs, u.oneCell' = true) (ty : TypeId) {G : Nat → Prop} {v2 : Value} (h : Nrow B T sz R w v xs) (hx : SlAt G w sz R v2 ys) (hlen : (xs.length + ys.length) * bytes ≤ 140737488355328) (hmx : xs.length + ys.length ≤ maxLen) (hB : B ≤ w.heap.size) :
    ∃ v' w', WrA Tryz.prog #[t, t] ty #[v, v2] w = .ok v' w' ∧ Nrow B T sz R w' v' (xs ++ ys) ∧ Below B w w' := by
  obtain ⟨v', w', h1, h2, h3, _⟩ := h.append t hu hi hzs hsz hone ty hx hlen hmx hB
  exact ⟨v', w', h1, h2, (Below.refl B w).grown h3 hB fun k e => (h.lt e).1⟩
/-- One element of one cell, laid for it. -/
theorem Nrow.push (t : TypeId) {z : Value} {bytes : Nat} (hu : Tryz.prog.underlying t = some (.slice T)) (hi : (Tryz.prog.info? T).map (fun i => (i.zero, i.size, i.bytes)) = some (some z, sz, bytes)) (hzs : z.cells.size = sz) (hsz : 0 < sz)
    (hone : ∀ vs x, R vs x → ∀ u ∈ vs, u.oneCell' = true) (ty : TypeId) {us : List Value} {x : β} (hus : us.length = sz) (hR : R us x) (h : Nrow B T sz R w v xs) (hlen : (xs.length + 1) * bytes ≤ 140737488355328) (hmx : xs.length + 1 ≤ maxLen) (hB : B ≤ w.heap.size) :
    ∃ v' w', WrA Tryz.prog #[t, t] ty #[v, .slice (some ⟨w.heap.size, 0, none⟩) 1 1] (w.alloc (.cells us.toArray T)) = .ok v' w' ∧ Nrow B T sz R w' v' (xs ++ [x]) ∧ Below B w w' := by
  have hb : Below w.heap.size w (w.alloc (.cells us.toArray T)) := (Below.refl _ _).alloc (Nat.le_refl _) _
  have q := heap_alloc_t w (.cells us.toArray T)
  have hx : SlAt (fun _ => True) (w.alloc (.cells us.toArray T)) sz R (.slice (some ⟨w.heap.size, 0, none⟩) 1 1) [x] :=
    ⟨_, _, rfl, Nat.le_refl _, by unfold maxLen; omega, fun _ => ⟨_, _, rfl, trivial, fun i hi => by
      obtain rfl : i = 0 := by simpa using hi
      exact ⟨us, hus, hR, fun j u hj => by simpa using cell_box q j u (by simpa using hj)⟩⟩⟩
  obtain ⟨v', w', h1, h2, h3⟩ := (h.below hb).add t hu hi hzs hsz hone ty hx hlen hmx (Nat.le_trans hB hb.size)
  exact ⟨v', w', h1, h2, (hb.mono hB).trans h3⟩
end
/-- Rows of numbers, of texts. -/
def Ints (B : Nat) (w : World) (v : Value) (l : List Int) : Prop := Nrow B 3 1 IntV w v l
def Strs (B : Nat) (w : World) (v : Value) (l : List (List UInt8)) : Prop := Nrow B 9 1 StrV w v l
section
variable {B : Nat} {w w' : World} {v v2 : Value} {xs ys : List Int}
theorem Ints.add {G : Nat → Prop} (h : Ints B w v xs) (hx : IntsAt G w v2 ys) (hl : xs.length + ys.length ≤ 1099511627776) (hB : B ≤ w.heap.size) : ∃ v' w', WrA Tryz.prog #[26, 26] 26 #[v, v2] w = .ok v' w' ∧ Ints B w' v' (xs ++ ys) ∧ Below B w w' :=
  Nrow.add 26 Tryz.underlying26 info_intN rfl (by decide) IntV.one _ h hx (by omega) (by unfold maxLen; omega) hB
theorem Ints.push (x : Int) (h : Ints B w v xs) (hl : xs.length + 1 ≤ 1099511627776) (hB : B ≤ w.heap.size) : ∃ v' w', WrA Tryz.prog #[26, 26] 26 #[v, .slice (some ⟨w.heap.size, 0, none⟩) 1 1] (w.alloc (.cells #[.int .i64 x] 3)) = .ok v' w' ∧ Ints B w' v' (xs ++ [x]) ∧ Below B w w' :=
  Nrow.push 26 Tryz.underlying26 info_intN rfl (by decide) IntV.one _ (us := [.int .i64 x]) rfl rfl h (by omega) (by unfold maxLen; omega) hB
theorem Ints.shape (h : Ints B w v xs) : ∃ A c, v = .slice A xs.length c := by
  obtain ⟨A, c, e, _⟩ := Nrow.shape h
  exact ⟨A, c, e⟩
theorem Ints.at_ (h : Ints B w v xs) : IntsAt (Old w) w v xs := Nrow.look h fun _ hg => (Nrow.lt h hg).2
theorem Ints.below (h : Ints B w v xs) (hb : Below w.heap.size w w') : Ints B w' v xs := Nrow.below h hb
end
section
variable {B : Nat} {w w' : World} {v v2 : Value} {xs ys : List (List UInt8)}
theorem Strs.add {G : Nat → Prop} (h : Strs B w v xs) (hx : StrsAt G w v2 ys) (hl : xs.length + ys.length ≤ 1099511627776) (hB : B ≤ w.heap.size) : ∃ v' w', WrA Tryz.prog #[22, 22] 22 #[v, v2] w = .ok v' w' ∧ Strs B w' v' (xs ++ ys) ∧ Below B w w' :=
  Nrow.add 22 Tryz.underlying22 info_strN rfl (by decide) StrV.one _ h hx (by omega) (by unfold maxLen; omega) hB
theorem Strs.push (x : List UInt8) (h : Strs B w v xs) (hl : xs.length + 1 ≤ 1099511627776) (hB : B ≤ w.heap.size) : ∃ v' w', WrA Tryz.prog #[22, 22] 22 #[v, .slice (some ⟨w.heap.size, 0, none⟩) 1 1] (w.alloc (.cells #[bs x] 9)) = .ok v' w' ∧ Strs B w' v' (xs ++ [x]) ∧ Below B w w' :=
  Nrow.push 22 Tryz.underlying22 info_strN rfl (by decide) StrV.one _ (us := [bs x]) rfl rfl h (by omega) (by unfold maxLen; omega) hB
theorem Strs.shape (h : Strs B w v xs) : ∃ A c, v = .slice A xs.length c := by
  obtain ⟨A, c, e, _⟩ := Nrow.shape h
  exact ⟨A, c, e⟩
theorem Strs.at_ (h : Strs B w v xs) : StrsAt (Old w) w v xs := Nrow.look h fun _ hg => (Nrow.lt h hg).2
theorem Strs.below (h : Strs B w v xs) (hb : Below w.heap.size w w') : Strs B w' v xs := Nrow.below h hb
end
end Go.Proofs.YtpidmmfjcghmeaaGreat
