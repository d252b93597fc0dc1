/- Towards nodeJoins_card: NdFun. Merged from smaller texts by a program of the author's. -/
import Derived.Test.YtjpopekmbmcggaaGreatDoorJ06
import Derived.Test.YtjpopekmbmcggaaGreatDoorJ04
import Derived.Laws.EntriesVeiled
import Derived.LoopTactic
import Derived.Outline
namespace Go.Proofs.YtjpopekmbmcggaaGreatDoor
open Go.RowKit
def Enters (fn : Nat) : Prop := ∀ (args : Array Value) (w : World), (callFunc fn args).run Tryz.prog w = .ok (.enter fn args) w
def FnOk {β : Type} (R : World → List Value → β → Prop) (arg : List Value → Value) (w : World) (fn : Nat) (cap : Array Value) (p : β → Bool) : Prop :=
  ∀ X, Below w.heap.size w X → ∀ vs x, R X vs x → Calls Tryz.prog fn (#[arg vs] ++ cap) X fun e w' => e = .returned (.bool (p x)) ∧ Below X.heap.size X w'
theorem FnOk.on {β : Type} {R : World → List Value → β → Prop} {arg : List Value → Value} {w w' : World} {fn : Nat} {cap : Array Value} {p : β → Bool} (h : FnOk R arg w fn cap p) (hb : Below w.heap.size w w') : FnOk R arg w' fn cap p :=
  fun X hX vs x hr => h X (hb.trans (hX.mono hb.size)) vs x hr
def ag (vs : List Value) : Value := .agg vs.toArray
def one (vs : List Value) : Value := vs.headD (.bool false)
def IntW (_ : World) : List Value → Int → Prop := IntV
theorem IntW.below {G : Nat → Prop} {w w' : World} {vs : List Value} {x : Int} (h : IntW w vs x) (_ : ∀ k, G k → k < w.heap.size) (_ : Below w.heap.size w w') : IntW w' vs x := h
theorem SlAt.shape {β : Type} {G : Nat → Prop} {w : World} {sz : Nat} {R : List Value → β → Prop} {v : Value} {xs : List β} (h : SlAt G w sz R v xs) : ∃ A c, v = .slice A xs.length c ∧ xs.length ≤ c ∧ c ≤ maxLen := by
  obtain ⟨A, c, h1, h2, h3, _⟩ := h
  exact ⟨A, c, h1, h2, h3⟩
theorem WdN.shape {f : Nat} {G : Nat → Prop} {w : World} {vs : List Value} {x : WdF (Nd f)} (h : WdN f G w vs x) : ∃ (A0 : Option Addr) (n0 c0 : Nat), vs = [.slice A0 n0 c0] := by
  obtain ⟨A, c, rfl, _⟩ := h
  exact ⟨A, x.p.len, c, rfl⟩
theorem RdN.shape {f : Nat} {G : Nat → Prop} {w : World} {vs : List Value} {x : RdF (Nd f)} (h : RdN f G w vs x) : ∃ (s : ByteArray) (o : Int) (A2 : Option Addr) (n2 c2 : Nat) (sh : ByteArray), vs = [.string s, .int .i64 o, .slice A2 n2 c2, .string sh] := by
  obtain ⟨vt, rfl, _, _, A, c, h, _⟩ := h
  injection h with h
  subst h
  exact ⟨x.num, x.op, A, x.to.p.len, c, x.here, rfl⟩
theorem NdV.shape {f : Nat} {G : Nat → Prop} {w : World} {vs : List Value} {x : Nd f} (h : NdV f G w vs x) : ∃ (ky : Int) (s : ByteArray) (nt : Bool) (ni : Bool) (A4 : Option Addr) (n4 c4 : Nat) (A5 : Option Addr) (n5 c5 : Nat) (A6 : Option Addr) (n6 c6 : Nat) (A7 : Option Addr) (n7 c7 : Nat) (A8 : Option Addr) (n8 c8 : Nat) (A9 : Option Addr) (n9 c9 : Nat), vs = [.int .i64 ky, .string s, .bool nt, .bool ni, .slice A4 n4 c4, .slice A5 n5 c5, .slice A6 n6 c6, .slice A7 n7 c7, .slice A8 n8 c8, .slice A9 n9 c9] := by
  cases f with
  | zero => exact h.elim
  | succ f =>
    obtain ⟨vo, va, vw, vr, vm, vk, rfl, _, h4, h5, h6, h7, h8, h9⟩ := h
    obtain ⟨A4, c4, rfl, _⟩ := h4.shape
    obtain ⟨A5, c5, rfl, _⟩ := h5.shape
    obtain ⟨A6, c6, rfl, _⟩ := h6.shape
    obtain ⟨A7, c7, rfl, _⟩ := h7.shape
    obtain ⟨A8, c8, rfl, _⟩ := h8.shape
    obtain ⟨A9, c9, rfl, _⟩ := h9.shape
    exact ⟨_, _, _, _, A4, _, c4, A5, _, c5, A6, _, c6, A7, _, c7, A8, _, c8, A9, _, c9, rfl⟩
theorem ArN.shape {f : Nat} {G : Nat → Prop} {w : World} {vs : List Value} {x : ArF (Nd f)} (h : ArN f G w vs x) : ∃ (A0 : Option Addr) (n0 c0 : Nat) (ky : Int) (s : ByteArray) (nt : Bool) (ni : Bool) (A14 : Option Addr) (n14 c14 : Nat) (A15 : Option Addr) (n15 c15 : Nat) (A16 : Option Addr) (n16 c16 : Nat) (A17 : Option Addr) (n17 c17 : Nat) (A18 : Option Addr) (n18 c18 : Nat) (A19 : Option Addr) (n19 c19 : Nat), vs = [.slice A0 n0 c0, .int .i64 ky, .string s, .bool nt, .bool ni, .slice A14 n14 c14, .slice A15 n15 c15, .slice A16 n16 c16, .slice A17 n17 c17, .slice A18 n18 c18, .slice A19 n19 c19] := by
  obtain ⟨vp, bs, rfl, _, hp, hb⟩ := h
  obtain ⟨A0, c0, rfl, _⟩ := hp.shape
  obtain ⟨ky, s, nt, ni, A14, n14, c14, A15, n15, c15, A16, n16, c16, A17, n17, c17, A18, n18, c18, A19, n19, c19, rfl⟩ := NdV.shape hb
  exact ⟨A0, _, c0, ky, s, nt, ni, A14, n14, c14, A15, n15, c15, A16, n16, c16, A17, n17, c17, A18, n18, c18, A19, n19, c19, rfl⟩
theorem IntW.shape {w : World} {vs : List Value} {x : Int} (h : IntW w vs x) : ∃ y : Int, vs = [.int .i64 y] := ⟨x, h⟩
theorem cell_one {Y : World} {b : Nat} {T : TypeId} {v0 : Value} (h : Y.heap[b]? = some (.cells #[v0] T (0, 0))) : Y.cell? ⟨b, 0, none⟩ = some v0 := by simp [World.cell?, h]
theorem drop_one {β : Type} (xs : List β) (k : Nat) (h : k < xs.length) : xs.drop k = xs[k] :: xs.drop (k + 1) := List.drop_eq_getElem_cons h
set_option maxRecDepth 100000 in
set_option maxHeartbeats 2000000 in
theorem index_node (f : Nat) (G : Nat → Prop) (fn : Nat) (cap : Array Value) (p : Nd f → Bool) (v : Value) (xs : List (Nd f)) (w : World) (hG : ∀ k, G k → k < w.heap.size) (hs : SlAt G w 10 (NdV f G w) v xs) (hent : Enters fn) (hst : FnOk (NdV f G) ag w fn cap p) :
    Calls Tryz.prog 152 #[v, .func (.func fn) #[] cap] w fun e w' => ∃ r : Int, e = .returned (.int .i64 r) ∧ decide (0 ≤ r) = xs.any p ∧ Below w.heap.size w w' := by
  obtain ⟨A, c, rfl, hl, hm, hc⟩ := hs
  unfold maxLen at hm
  have HC := Lib.hid hc; have HG := Lib.hid hG; have HE := Lib.hid hent; have HST := Lib.hid hst
  clear hc hG hent hst
  go_enter Tryz.func152, Tryz.ntmps152
  go_wp2
  go_loopw [8] (fun i wr => ∃ (k : Nat), k ≤ xs.length ∧ i = .int .i64 k ∧ (xs.drop k).any p = xs.any p ∧ Below w.heap.size w wr) (fun i _ => xs.length - (intOf i).toNat)
  case atStart => exact ⟨0, by omega, rfl, rfl, Below.refl _ _⟩
  case round =>
    obtain ⟨k, hk, rfl, hf, hb⟩ := hrel
    have HF := Lib.hid hf; have HB := Lib.hid hb
    clear hf hb
    by_cases hlt : k < xs.length
    · obtain ⟨b, off, rfl, hg, hel⟩ := HC.out (by omega)
      obtain ⟨vs, hvl, hR, hcell⟩ := hel k hlt
      have hR' := hR.below HG.out HB.out
      obtain ⟨ky, s, nt, ni, A4, n4, c4, A5, n5, c5, A6, n6, c6, A7, n7, c7, A8, n8, c8, A9, n9, c9, rfl⟩ := hR'.shape
      have z := fun j u hj => (keep_of HG.out HB.out _ hg).trans (hcell j u hj)
      have c0 : wr.cell? ⟨b, off + k * 10, none⟩ = some (.int .i64 ky) := by simpa using z 0 _ rfl
      have c1 : wr.cell? ⟨b, off + k * 10 + 1, none⟩ = some (.string s) := by simpa using z 1 _ rfl
      have c2 : wr.cell? ⟨b, off + k * 10 + 2, none⟩ = some (.bool nt) := by simpa using z 2 _ rfl
      have c3 : wr.cell? ⟨b, off + k * 10 + 3, none⟩ = some (.bool ni) := by simpa using z 3 _ rfl
      have c4 : wr.cell? ⟨b, off + k * 10 + 4, none⟩ = some (.slice A4 n4 c4) := by simpa using z 4 _ rfl
      have c5 : wr.cell? ⟨b, off + k * 10 + 5, none⟩ = some (.slice A5 n5 c5) := by simpa using z 5 _ rfl
      have c6 : wr.cell? ⟨b, off + k * 10 + 6, none⟩ = some (.slice A6 n6 c6) := by simpa using z 6 _ rfl
      have c7 : wr.cell? ⟨b, off + k * 10 + 7, none⟩ = some (.slice A7 n7 c7) := by simpa using z 7 _ rfl
      have c8 : wr.cell? ⟨b, off + k * 10 + 8, none⟩ = some (.slice A8 n8 c8) := by simpa using z 8 _ rfl
      have c9 : wr.cell? ⟨b, off + k * 10 + 9, none⟩ = some (.slice A9 n9 c9) := by simpa using z 9 _ rfl
      have HR := Lib.hid hR'
      clear z hel hcell hvl hR hR' hg
      go_wp2_with fail
      rw [HE.out, Oper.upon_enter]
      refine (HST.out _ HB.out _ _ HR.out).mono ?_
      rintro e w1 ⟨he, hb1⟩
      have HB1 := Lib.hid (HB.out.trans (hb1.mono HB.out.size))
      clear hb1 c0 c1 c2 c3 c4 c5 c6 c7 c8 c9
      cases hq : p xs[k]
      · rw [hq] at he
        subst he
        have HQ := Lib.hid hq
        clear hq
        go_wp2_with fail
        go_roundw
        case rel =>
          refine ⟨k + 1, by omega, by go_num, ?_, HB1.out⟩
          have h := HF.out
          rw [drop_one xs k hlt, List.any_cons, HQ.out, Bool.false_or] at h
          exact h
        case measure => simp only [intOf]; omega
      · rw [hq] at he
        subst he
        have HQ := Lib.hid hq
        clear hq
        go_wp2_with fail
        go_ret
        refine ⟨(k : Int), rfl, ?_, HB1.out⟩
        rw [← HF.out, drop_one xs k hlt, List.any_cons, HQ.out, Bool.true_or]
        exact decide_eq_true (by omega)
    · have HD := Lib.hid (List.drop_eq_nil_of_le (show xs.length ≤ k by omega))
      go_wp2_with fail
      go_ret
      refine ⟨-1, rfl, ?_, HB.out⟩
      rw [← HF.out, HD.out]
      rfl
set_option maxRecDepth 100000 in
set_option maxHeartbeats 1000000 in
theorem contains_node (f : Nat) (G : Nat → Prop) (fn : Nat) (cap : Array Value) (p : Nd f → Bool) (v : Value) (xs : List (Nd f)) (w : World) (hG : ∀ k, G k → k < w.heap.size) (hs : SlAt G w 10 (NdV f G w) v xs) (hent : Enters fn) (hst : FnOk (NdV f G) ag w fn cap p) :
    Calls Tryz.prog 109 #[v, .func (.func fn) #[] cap] w fun e w' => e = .returned (.bool (xs.any p)) ∧ Below w.heap.size w w' := by
  have HX := Lib.hid (index_node f G fn cap p v xs w hG hs hent hst)
  clear hG hs hent hst
  go_enter Tryz.func109, Tryz.ntmps109
  go_wp2_with fail
  refine HX.out.mono ?_
  rintro e w1 ⟨r, rfl, hq, hb⟩
  have HQ := Lib.hid hq
  clear hq
  go_wp2_with fail
  go_ret
  exact ⟨ret_bool HQ.out, hb⟩
theorem enter_all_node : Enters 110 := fun args w => by simp [callFunc, go_sem, Tryz.func110, Tryz.f110]
set_option maxRecDepth 100000 in
set_option maxHeartbeats 1000000 in
theorem all1_node (f : Nat) (G : Nat → Prop) (fn : Nat) (cap : Array Value) (p : Nd f → Bool) (X : World) (bo : Nat) (hG : ∀ k, G k → k < X.heap.size) (hent : Enters fn) (hst : FnOk (NdV f G) ag X fn cap p) (hbo : bo < X.heap.size)
    (hc : X.cell? ⟨bo, 0, none⟩ = some (.func (.func fn) #[] cap)) (vs : List Value) (x : Nd f) (hr : NdV f G X vs x) :
    Calls Tryz.prog 110 (#[ag vs] ++ #[.pointer (some ⟨bo, 0, none⟩)]) X fun e w' => e = .returned (.bool (!p x)) ∧ Below X.heap.size X w' := by
  obtain ⟨ky, s, nt, ni, A4, n4, c4, A5, n5, c5, A6, n6, c6, A7, n7, c7, A8, n8, c8, A9, n9, c9, rfl⟩ := hr.shape
  have HE := Lib.hid hent
  clear hent
  show Calls Tryz.prog 110 #[.agg #[.int .i64 ky, .string s, .bool nt, .bool ni, .slice A4 n4 c4, .slice A5 n5 c5, .slice A6 n6 c6, .slice A7 n7 c7, .slice A8 n8 c8, .slice A9 n9 c9], .pointer (some ⟨bo, 0, none⟩)] X _
  have hb : Below X.heap.size X (X.alloc (.cells #[.int .i64 ky, .string s, .bool nt, .bool ni, .slice A4 n4 c4, .slice A5 n5 c5, .slice A6 n6 c6, .slice A7 n7 c7, .slice A8 n8 c8, .slice A9 n9 c9] 28)) := (Below.refl _ _).alloc (Nat.le_refl _) _
  have HX := Lib.hid (hst _ hb _ _ (hr.below hG hb))
  have hc' : (X.alloc (.cells #[.int .i64 ky, .string s, .bool nt, .bool ni, .slice A4 n4 c4, .slice A5 n5 c5, .slice A6 n6 c6, .slice A7 n7 c7, .slice A8 n8 c8, .slice A9 n9 c9] 28)).cell? ⟨bo, 0, none⟩ = some (.func (.func fn) #[] cap) := (hb.cell (p := ⟨bo, 0, none⟩) hbo).trans hc
  have HB := Lib.hid hb
  clear hb hst hr hc
  go_enter Tryz.func110, Tryz.ntmps110
  go_wp2_with fail
  rw [HE.out, Oper.upon_enter]
  refine HX.out.mono ?_
  rintro e w1 ⟨rfl, hb1⟩
  have HB1 := Lib.hid (HB.out.trans (hb1.mono HB.out.size))
  clear hb1 hc'
  go_wp2_with fail
  go_ret
  exact ⟨rfl, HB1.out⟩
set_option maxRecDepth 100000 in
set_option maxHeartbeats 1000000 in
theorem all_node (f : Nat) (G : Nat → Prop) (fn : Nat) (cap : Array Value) (p : Nd f → Bool) (v : Value) (xs : List (Nd f)) (w : World) (hG : ∀ k, G k → k < w.heap.size) (hs : SlAt G w 10 (NdV f G w) v xs) (hent : Enters fn) (hst : FnOk (NdV f G) ag w fn cap p) :
    Calls Tryz.prog 41 #[v, .func (.func fn) #[] cap] w fun e w' => e = .returned (.bool (xs.all p)) ∧ Below w.heap.size w w' := by
  have hb : Below w.heap.size w (w.alloc (.cells #[.func (.func fn) #[] cap] 37)) := (Below.refl _ _).alloc (Nat.le_refl _) _
  have hG1 : ∀ k, G k → k < (w.alloc (.cells #[.func (.func fn) #[] cap] 37)).heap.size := fun k hk => Nat.lt_of_lt_of_le (hG k hk) hb.size
  have hcc : (w.alloc (.cells #[.func (.func fn) #[] cap] 37)).cell? ⟨w.heap.size, 0, none⟩ = some (.func (.func fn) #[] cap) := cell_one (heap_alloc_t w _)
  have HX := Lib.hid (contains_node f G 110 #[.pointer (some ⟨w.heap.size, 0, none⟩)] (fun x => !p x) v xs _ hG1 (hs.keep (fun _ h => h) (keep_of hG hb) (fun vs x h => h.below hG hb)) enter_all_node
    (fun X hX vs x hr => all1_node f G fn cap p X w.heap.size (fun k hk => Nat.lt_of_lt_of_le (hG1 k hk) hX.size) hent ((hst.on hb).on hX) (Nat.lt_of_lt_of_le (by simp) hX.size) ((hX.cell (p := ⟨w.heap.size, 0, none⟩) (by simp)).trans hcc) vs x hr))
  have HB := Lib.hid hb
  have HA := Lib.hid (show (!xs.any fun x => !p x) = xs.all p by rw [List.all_eq_not_any_not])
  clear hb hG hs hent hst hG1 hcc
  go_enter Tryz.func41, Tryz.ntmps41
  go_wp2_with fail
  refine HX.out.mono ?_
  rintro e w1 ⟨rfl, hb1⟩
  have HB1 := Lib.hid (HB.out.trans (hb1.mono HB.out.size))
  clear hb1
  go_wp2_with fail
  go_ret
  exact ⟨ret_bool HA.out, HB1.out⟩
set_option maxRecDepth 100000 in
set_option maxHeartbeats 2000000 in
theorem index_redir (f : Nat) (G : Nat → Prop) (fn : Nat) (cap : Array Value) (p : RdF (Nd f) → Bool) (v : Value) (xs : List (RdF (Nd f))) (w : World) (hG : ∀ k, G k → k < w.heap.size) (hs : SlAt G w 4 (RdN f G w) v xs) (hent : Enters fn) (hst : FnOk (RdN f G) ag w fn cap p) :
    Calls Tryz.prog 208 #[v, .func (.func fn) #[] cap] w fun e w' => ∃ r : Int, e = .returned (.int .i64 r) ∧ decide (0 ≤ r) = xs.any p ∧ Below w.heap.size w w' := by
  obtain ⟨A, c, rfl, hl, hm, hc⟩ := hs
  unfold maxLen at hm
  have HC := Lib.hid hc; have HG := Lib.hid hG; have HE := Lib.hid hent; have HST := Lib.hid hst
  clear hc hG hent hst
  go_enter Tryz.func208, Tryz.ntmps208
  go_wp2
  go_loopw [8] (fun i wr => ∃ (k : Nat), k ≤ xs.length ∧ i = .int .i64 k ∧ (xs.drop k).any p = xs.any p ∧ Below w.heap.size w wr) (fun i _ => xs.length - (intOf i).toNat)
  case atStart => exact ⟨0, by omega, rfl, rfl, Below.refl _ _⟩
  case round =>
    obtain ⟨k, hk, rfl, hf, hb⟩ := hrel
    have HF := Lib.hid hf; have HB := Lib.hid hb
    clear hf hb
    by_cases hlt : k < xs.length
    · obtain ⟨b, off, rfl, hg, hel⟩ := HC.out (by omega)
      obtain ⟨vs, hvl, hR, hcell⟩ := hel k hlt
      have hR' := hR.below HG.out HB.out
      obtain ⟨s, o, A2, n2, c2, sh, rfl⟩ := hR'.shape
      have z := fun j u hj => (keep_of HG.out HB.out _ hg).trans (hcell j u hj)
      have c0 : wr.cell? ⟨b, off + k * 4, none⟩ = some (.string s) := by simpa using z 0 _ rfl
      have c1 : wr.cell? ⟨b, off + k * 4 + 1, none⟩ = some (.int .i64 o) := by simpa using z 1 _ rfl
      have c2 : wr.cell? ⟨b, off + k * 4 + 2, none⟩ = some (.slice A2 n2 c2) := by simpa using z 2 _ rfl
      have c3 : wr.cell? ⟨b, off + k * 4 + 3, none⟩ = some (.string sh) := by simpa using z 3 _ rfl
      have HR := Lib.hid hR'
      clear z hel hcell hvl hR hR' hg
      go_wp2_with fail
      rw [HE.out, Oper.upon_enter]
      refine (HST.out _ HB.out _ _ HR.out).mono ?_
      rintro e w1 ⟨he, hb1⟩
      have HB1 := Lib.hid (HB.out.trans (hb1.mono HB.out.size))
      clear hb1 c0 c1 c2 c3
      cases hq : p xs[k]
      · rw [hq] at he
        subst he
        have HQ := Lib.hid hq
        clear hq
        go_wp2_with fail
        go_roundw
        case rel =>
          refine ⟨k + 1, by omega, by go_num, ?_, HB1.out⟩
          have h := HF.out
          rw [drop_one xs k hlt, List.any_cons, HQ.out, Bool.false_or] at h
          exact h
        case measure => simp only [intOf]; omega
      · rw [hq] at he
        subst he
        have HQ := Lib.hid hq
        clear hq
        go_wp2_with fail
        go_ret
        refine ⟨(k : Int), rfl, ?_, HB1.out⟩
        rw [← HF.out, drop_one xs k hlt, List.any_cons, HQ.out, Bool.true_or]
        exact decide_eq_true (by omega)
    · have HD := Lib.hid (List.drop_eq_nil_of_le (show xs.length ≤ k by omega))
      go_wp2_with fail
      go_ret
      refine ⟨-1, rfl, ?_, HB.out⟩
      rw [← HF.out, HD.out]
      rfl
set_option maxRecDepth 100000 in
set_option maxHeartbeats 1000000 in
theorem contains_redir (f : Nat) (G : Nat → Prop) (fn : Nat) (cap : Array Value) (p : RdF (Nd f) → Bool) (v : Value) (xs : List (RdF (Nd f))) (w : World) (hG : ∀ k, G k → k < w.heap.size) (hs : SlAt G w 4 (RdN f G w) v xs) (hent : Enters fn) (hst : FnOk (RdN f G) ag w fn cap p) :
    Calls Tryz.prog 170 #[v, .func (.func fn) #[] cap] w fun e w' => e = .returned (.bool (xs.any p)) ∧ Below w.heap.size w w' := by
  have HX := Lib.hid (index_redir f G fn cap p v xs w hG hs hent hst)
  clear hG hs hent hst
  go_enter Tryz.func170, Tryz.ntmps170
  go_wp2_with fail
  refine HX.out.mono ?_
  rintro e w1 ⟨r, rfl, hq, hb⟩
  have HQ := Lib.hid hq
  clear hq
  go_wp2_with fail
  go_ret
  exact ⟨ret_bool HQ.out, hb⟩
theorem enter_all_redir : Enters 171 := fun args w => by simp [callFunc, go_sem, Tryz.func171, Tryz.f171]
set_option maxRecDepth 100000 in
set_option maxHeartbeats 1000000 in
theorem all1_redir (f : Nat) (G : Nat → Prop) (fn : Nat) (cap : Array Value) (p : RdF (Nd f) → Bool) (X : World) (bo : Nat) (hG : ∀ k, G k → k < X.heap.size) (hent : Enters fn) (hst : FnOk (RdN f G) ag X fn cap p) (hbo : bo < X.heap.size)
    (hc : X.cell? ⟨bo, 0, none⟩ = some (.func (.func fn) #[] cap)) (vs : List Value) (x : RdF (Nd f)) (hr : RdN f G X vs x) :
    Calls Tryz.prog 171 (#[ag vs] ++ #[.pointer (some ⟨bo, 0, none⟩)]) X fun e w' => e = .returned (.bool (!p x)) ∧ Below X.heap.size X w' := by
  obtain ⟨s, o, A2, n2, c2, sh, rfl⟩ := hr.shape
  have HE := Lib.hid hent
  clear hent
  show Calls Tryz.prog 171 #[.agg #[.string s, .int .i64 o, .slice A2 n2 c2, .string sh], .pointer (some ⟨bo, 0, none⟩)] X _
  have hb : Below X.heap.size X (X.alloc (.cells #[.string s, .int .i64 o, .slice A2 n2 c2, .string sh] 33)) := (Below.refl _ _).alloc (Nat.le_refl _) _
  have HX := Lib.hid (hst _ hb _ _ (hr.below hG hb))
  have hc' : (X.alloc (.cells #[.string s, .int .i64 o, .slice A2 n2 c2, .string sh] 33)).cell? ⟨bo, 0, none⟩ = some (.func (.func fn) #[] cap) := (hb.cell (p := ⟨bo, 0, none⟩) hbo).trans hc
  have HB := Lib.hid hb
  clear hb hst hr hc
  go_enter Tryz.func171, Tryz.ntmps171
  go_wp2_with fail
  rw [HE.out, Oper.upon_enter]
  refine HX.out.mono ?_
  rintro e w1 ⟨rfl, hb1⟩
  have HB1 := Lib.hid (HB.out.trans (hb1.mono HB.out.size))
  clear hb1 hc'
  go_wp2_with fail
  go_ret
  exact ⟨rfl, HB1.out⟩
set_option maxRecDepth 100000 in
set_option maxHeartbeats 1000000 in
theorem all_redir (f : Nat) (G : Nat → Prop) (fn : Nat) (cap : Array Value) (p : RdF (Nd f) → Bool) (v : Value) (xs : List (RdF (Nd f))) (w : World) (hG : ∀ k, G k → k < w.heap.size) (hs : SlAt G w 4 (RdN f G w) v xs) (hent : Enters fn) (hst : FnOk (RdN f G) ag w fn cap p) :
    Calls Tryz.prog 136 #[v, .func (.func fn) #[] cap] w fun e w' => e = .returned (.bool (xs.all p)) ∧ Below w.heap.size w w' := by
  have hb : Below w.heap.size w (w.alloc (.cells #[.func (.func fn) #[] cap] 39)) := (Below.refl _ _).alloc (Nat.le_refl _) _
  have hG1 : ∀ k, G k → k < (w.alloc (.cells #[.func (.func fn) #[] cap] 39)).heap.size := fun k hk => Nat.lt_of_lt_of_le (hG k hk) hb.size
  have hcc : (w.alloc (.cells #[.func (.func fn) #[] cap] 39)).cell? ⟨w.heap.size, 0, none⟩ = some (.func (.func fn) #[] cap) := cell_one (heap_alloc_t w _)
  have HX := Lib.hid (contains_redir f G 171 #[.pointer (some ⟨w.heap.size, 0, none⟩)] (fun x => !p x) v xs _ hG1 (hs.keep (fun _ h => h) (keep_of hG hb) (fun vs x h => h.below hG hb)) enter_all_redir
    (fun X hX vs x hr => all1_redir f G fn cap p X w.heap.size (fun k hk => Nat.lt_of_lt_of_le (hG1 k hk) hX.size) hent ((hst.on hb).on hX) (Nat.lt_of_lt_of_le (by simp) hX.size) ((hX.cell (p := ⟨w.heap.size, 0, none⟩) (by simp)).trans hcc) vs x hr))
  have HB := Lib.hid hb
  have HA := Lib.hid (show (!xs.any fun x => !p x) = xs.all p by rw [List.all_eq_not_any_not])
  clear hb hG hs hent hst hG1 hcc
  go_enter Tryz.func136, Tryz.ntmps136
  go_wp2_with fail
  refine HX.out.mono ?_
  rintro e w1 ⟨rfl, hb1⟩
  have HB1 := Lib.hid (HB.out.trans (hb1.mono HB.out.size))
  clear hb1
  go_wp2_with fail
  go_ret
  exact ⟨ret_bool HA.out, HB1.out⟩
set_option maxRecDepth 100000 in
set_option maxHeartbeats 2000000 in
theorem index_word (f : Nat) (G : Nat → Prop) (fn : Nat) (cap : Array Value) (p : WdF (Nd f) → Bool) (v : Value) (xs : List (WdF (Nd f))) (w : World) (hG : ∀ k, G k → k < w.heap.size) (hs : SlAt G w 1 (WdN f G w) v xs) (hent : Enters fn) (hst : FnOk (WdN f G) ag w fn cap p) :
    Calls Tryz.prog 209 #[v, .func (.func fn) #[] cap] w fun e w' => ∃ r : Int, e = .returned (.int .i64 r) ∧ decide (0 ≤ r) = xs.any p ∧ Below w.heap.size w w' := by
  obtain ⟨A, c, rfl, hl, hm, hc⟩ := hs
  unfold maxLen at hm
  have HC := Lib.hid hc; have HG := Lib.hid hG; have HE := Lib.hid hent; have HST := Lib.hid hst
  clear hc hG hent hst
  go_enter Tryz.func209, Tryz.ntmps209
  go_wp2
  go_loopw [8] (fun i wr => ∃ (k : Nat), k ≤ xs.length ∧ i = .int .i64 k ∧ (xs.drop k).any p = xs.any p ∧ Below w.heap.size w wr) (fun i _ => xs.length - (intOf i).toNat)
  case atStart => exact ⟨0, by omega, rfl, rfl, Below.refl _ _⟩
  case round =>
    obtain ⟨k, hk, rfl, hf, hb⟩ := hrel
    have HF := Lib.hid hf; have HB := Lib.hid hb
    clear hf hb
    by_cases hlt : k < xs.length
    · obtain ⟨b, off, rfl, hg, hel⟩ := HC.out (by omega)
      obtain ⟨vs, hvl, hR, hcell⟩ := hel k hlt
      have hR' := hR.below HG.out HB.out
      obtain ⟨A0, n0, c0, rfl⟩ := hR'.shape
      have z := fun j u hj => (keep_of HG.out HB.out _ hg).trans (hcell j u hj)
      have c0 : wr.cell? ⟨b, off + k, none⟩ = some (.slice A0 n0 c0) := by simpa using z 0 _ rfl
      have HR := Lib.hid hR'
      clear z hel hcell hvl hR hR' hg
      go_wp2_with fail
      rw [HE.out, Oper.upon_enter]
      refine (HST.out _ HB.out _ _ HR.out).mono ?_
      rintro e w1 ⟨he, hb1⟩
      have HB1 := Lib.hid (HB.out.trans (hb1.mono HB.out.size))
      clear hb1 c0
      cases hq : p xs[k]
      · rw [hq] at he
        subst he
        have HQ := Lib.hid hq
        clear hq
        go_wp2_with fail
        go_roundw
        case rel =>
          refine ⟨k + 1, by omega, by go_num, ?_, HB1.out⟩
          have h := HF.out
          rw [drop_one xs k hlt, List.any_cons, HQ.out, Bool.false_or] at h
          exact h
        case measure => simp only [intOf]; omega
      · rw [hq] at he
        subst he
        have HQ := Lib.hid hq
        clear hq
        go_wp2_with fail
        go_ret
        refine ⟨(k : Int), rfl, ?_, HB1.out⟩
        rw [← HF.out, drop_one xs k hlt, List.any_cons, HQ.out, Bool.true_or]
        exact decide_eq_true (by omega)
    · have HD := Lib.hid (List.drop_eq_nil_of_le (show xs.length ≤ k by omega))
      go_wp2_with fail
      go_ret
      refine ⟨-1, rfl, ?_, HB.out⟩
      rw [← HF.out, HD.out]
      rfl
set_option maxRecDepth 100000 in
set_option maxHeartbeats 1000000 in
theorem contains_word (f : Nat) (G : Nat → Prop) (fn : Nat) (cap : Array Value) (p : WdF (Nd f) → Bool) (v : Value) (xs : List (WdF (Nd f))) (w : World) (hG : ∀ k, G k → k < w.heap.size) (hs : SlAt G w 1 (WdN f G w) v xs) (hent : Enters fn) (hst : FnOk (WdN f G) ag w fn cap p) :
    Calls Tryz.prog 172 #[v, .func (.func fn) #[] cap] w fun e w' => e = .returned (.bool (xs.any p)) ∧ Below w.heap.size w w' := by
  have HX := Lib.hid (index_word f G fn cap p v xs w hG hs hent hst)
  clear hG hs hent hst
  go_enter Tryz.func172, Tryz.ntmps172
  go_wp2_with fail
  refine HX.out.mono ?_
  rintro e w1 ⟨r, rfl, hq, hb⟩
  have HQ := Lib.hid hq
  clear hq
  go_wp2_with fail
  go_ret
  exact ⟨ret_bool HQ.out, hb⟩
theorem enter_all_word : Enters 173 := fun args w => by simp [callFunc, go_sem, Tryz.func173, Tryz.f173]
set_option maxRecDepth 100000 in
set_option maxHeartbeats 1000000 in
theorem all1_word (f : Nat) (G : Nat → Prop) (fn : Nat) (cap : Array Value) (p : WdF (Nd f) → Bool) (X : World) (bo : Nat) (hG : ∀ k, G k → k < X.heap.size) (hent : Enters fn) (hst : FnOk (WdN f G) ag X fn cap p) (hbo : bo < X.heap.size)
    (hc : X.cell? ⟨bo, 0, none⟩ = some (.func (.func fn) #[] cap)) (vs : List Value) (x : WdF (Nd f)) (hr : WdN f G X vs x) :
    Calls Tryz.prog 173 (#[ag vs] ++ #[.pointer (some ⟨bo, 0, none⟩)]) X fun e w' => e = .returned (.bool (!p x)) ∧ Below X.heap.size X w' := by
  obtain ⟨A0, n0, c0, rfl⟩ := hr.shape
  have HE := Lib.hid hent
  clear hent
  show Calls Tryz.prog 173 #[.agg #[.slice A0 n0 c0], .pointer (some ⟨bo, 0, none⟩)] X _
  have hb : Below X.heap.size X (X.alloc (.cells #[.slice A0 n0 c0] 31)) := (Below.refl _ _).alloc (Nat.le_refl _) _
  have HX := Lib.hid (hst _ hb _ _ (hr.below hG hb))
  have hc' : (X.alloc (.cells #[.slice A0 n0 c0] 31)).cell? ⟨bo, 0, none⟩ = some (.func (.func fn) #[] cap) := (hb.cell (p := ⟨bo, 0, none⟩) hbo).trans hc
  have HB := Lib.hid hb
  clear hb hst hr hc
  go_enter Tryz.func173, Tryz.ntmps173
  go_wp2_with fail
  rw [HE.out, Oper.upon_enter]
  refine HX.out.mono ?_
  rintro e w1 ⟨rfl, hb1⟩
  have HB1 := Lib.hid (HB.out.trans (hb1.mono HB.out.size))
  clear hb1 hc'
  go_wp2_with fail
  go_ret
  exact ⟨rfl, HB1.out⟩
set_option maxRecDepth 100000 in
set_option maxHeartbeats 1000000 in
theorem all_word (f : Nat) (G : Nat → Prop) (fn : Nat) (cap : Array Value) (p : WdF (Nd f) → Bool) (v : Value) (xs : List (WdF (Nd f))) (w : World) (hG : ∀ k, G k → k < w.heap.size) (hs : SlAt G w 1 (WdN f G w) v xs) (hent : Enters fn) (hst : FnOk (WdN f G) ag w fn cap p) :
    Calls Tryz.prog 137 #[v, .func (.func fn) #[] cap] w fun e w' => e = .returned (.bool (xs.all p)) ∧ Below w.heap.size w w' := by
  have hb : Below w.heap.size w (w.alloc (.cells #[.func (.func fn) #[] cap] 38)) := (Below.refl _ _).alloc (Nat.le_refl _) _
  have hG1 : ∀ k, G k → k < (w.alloc (.cells #[.func (.func fn) #[] cap] 38)).heap.size := fun k hk => Nat.lt_of_lt_of_le (hG k hk) hb.size
  have hcc : (w.alloc (.cells #[.func (.func fn) #[] cap] 38)).cell? ⟨w.heap.size, 0, none⟩ = some (.func (.func fn) #[] cap) := cell_one (heap_alloc_t w _)
  have HX := Lib.hid (contains_word f G 173 #[.pointer (some ⟨w.heap.size, 0, none⟩)] (fun x => !p x) v xs _ hG1 (hs.keep (fun _ h => h) (keep_of hG hb) (fun vs x h => h.below hG hb)) enter_all_word
    (fun X hX vs x hr => all1_word f G fn cap p X w.heap.size (fun k hk => Nat.lt_of_lt_of_le (hG1 k hk) hX.size) hent ((hst.on hb).on hX) (Nat.lt_of_lt_of_le (by simp) hX.size) ((hX.cell (p := ⟨w.heap.size, 0, none⟩) (by simp)).trans hcc) vs x hr))
  have HB := Lib.hid hb
  have HA := Lib.hid (show (!xs.any fun x => !p x) = xs.all p by rw [List.all_eq_not_any_not])
  clear hb hG hs hent hst hG1 hcc
  go_enter Tryz.func137, Tryz.ntmps137
  go_wp2_with fail
  refine HX.out.mono ?_
  rintro e w1 ⟨rfl, hb1⟩
  have HB1 := Lib.hid (HB.out.trans (hb1.mono HB.out.size))
  clear hb1
  go_wp2_with fail
  go_ret
  exact ⟨ret_bool HA.out, HB1.out⟩
set_option maxRecDepth 100000 in
set_option maxHeartbeats 2000000 in
theorem index_int (G : Nat → Prop) (fn : Nat) (cap : Array Value) (p : Int → Bool) (v : Value) (xs : List (Int)) (w : World) (hG : ∀ k, G k → k < w.heap.size) (hs : SlAt G w 1 (IntW w) v xs) (hent : Enters fn) (hst : FnOk (IntW) one w fn cap p) :
    Calls Tryz.prog 210 #[v, .func (.func fn) #[] cap] w fun e w' => ∃ r : Int, e = .returned (.int .i64 r) ∧ decide (0 ≤ r) = xs.any p ∧ Below w.heap.size w w' := by
  obtain ⟨A, c, rfl, hl, hm, hc⟩ := hs
  unfold maxLen at hm
  have HC := Lib.hid hc; have HG := Lib.hid hG; have HE := Lib.hid hent; have HST := Lib.hid hst
  clear hc hG hent hst
  go_enter Tryz.func210, Tryz.ntmps210
  go_wp2
  go_loopw [8] (fun i wr => ∃ (k : Nat), k ≤ xs.length ∧ i = .int .i64 k ∧ (xs.drop k).any p = xs.any p ∧ Below w.heap.size w wr) (fun i _ => xs.length - (intOf i).toNat)
  case atStart => exact ⟨0, by omega, rfl, rfl, Below.refl _ _⟩
  case round =>
    obtain ⟨k, hk, rfl, hf, hb⟩ := hrel
    have HF := Lib.hid hf; have HB := Lib.hid hb
    clear hf hb
    by_cases hlt : k < xs.length
    · obtain ⟨b, off, rfl, hg, hel⟩ := HC.out (by omega)
      obtain ⟨vs, hvl, hR, hcell⟩ := hel k hlt
      have hR' := hR.below HG.out HB.out
      obtain ⟨y, rfl⟩ := hR'.shape
      have z := fun j u hj => (keep_of HG.out HB.out _ hg).trans (hcell j u hj)
      have c0 : wr.cell? ⟨b, off + k, none⟩ = some (.int .i64 y) := by simpa using z 0 _ rfl
      have HR := Lib.hid hR'
      clear z hel hcell hvl hR hR' hg
      go_wp2_with fail
      rw [HE.out, Oper.upon_enter]
      refine (HST.out _ HB.out _ _ HR.out).mono ?_
      rintro e w1 ⟨he, hb1⟩
      have HB1 := Lib.hid (HB.out.trans (hb1.mono HB.out.size))
      clear hb1 c0
      cases hq : p xs[k]
      · rw [hq] at he
        subst he
        have HQ := Lib.hid hq
        clear hq
        go_wp2_with fail
        go_roundw
        case rel =>
          refine ⟨k + 1, by omega, by go_num, ?_, HB1.out⟩
          have h := HF.out
          rw [drop_one xs k hlt, List.any_cons, HQ.out, Bool.false_or] at h
          exact h
        case measure => simp only [intOf]; omega
      · rw [hq] at he
        subst he
        have HQ := Lib.hid hq
        clear hq
        go_wp2_with fail
        go_ret
        refine ⟨(k : Int), rfl, ?_, HB1.out⟩
        rw [← HF.out, drop_one xs k hlt, List.any_cons, HQ.out, Bool.true_or]
        exact decide_eq_true (by omega)
    · have HD := Lib.hid (List.drop_eq_nil_of_le (show xs.length ≤ k by omega))
      go_wp2_with fail
      go_ret
      refine ⟨-1, rfl, ?_, HB.out⟩
      rw [← HF.out, HD.out]
      rfl
set_option maxRecDepth 100000 in
set_option maxHeartbeats 1000000 in
theorem contains_int (G : Nat → Prop) (fn : Nat) (cap : Array Value) (p : Int → Bool) (v : Value) (xs : List (Int)) (w : World) (hG : ∀ k, G k → k < w.heap.size) (hs : SlAt G w 1 (IntW w) v xs) (hent : Enters fn) (hst : FnOk (IntW) one w fn cap p) :
    Calls Tryz.prog 174 #[v, .func (.func fn) #[] cap] w fun e w' => e = .returned (.bool (xs.any p)) ∧ Below w.heap.size w w' := by
  have HX := Lib.hid (index_int G fn cap p v xs w hG hs hent hst)
  clear hG hs hent hst
  go_enter Tryz.func174, Tryz.ntmps174
  go_wp2_with fail
  refine HX.out.mono ?_
  rintro e w1 ⟨r, rfl, hq, hb⟩
  have HQ := Lib.hid hq
  clear hq
  go_wp2_with fail
  go_ret
  exact ⟨ret_bool HQ.out, hb⟩
theorem enter_all_int : Enters 175 := fun args w => by simp [callFunc, go_sem, Tryz.func175, Tryz.f175]
set_option maxRecDepth 100000 in
set_option maxHeartbeats 1000000 in
theorem all1_int (G : Nat → Prop) (fn : Nat) (cap : Array Value) (p : Int → Bool) (X : World) (bo : Nat) (_hG : ∀ k, G k → k < X.heap.size) (hent : Enters fn) (hst : FnOk (IntW) one X fn cap p) (_hbo : bo < X.heap.size)
    (hc : X.cell? ⟨bo, 0, none⟩ = some (.func (.func fn) #[] cap)) (vs : List Value) (x : Int) (hr : IntW X vs x) :
    Calls Tryz.prog 175 (#[one vs] ++ #[.pointer (some ⟨bo, 0, none⟩)]) X fun e w' => e = .returned (.bool (!p x)) ∧ Below X.heap.size X w' := by
  obtain ⟨y, rfl⟩ := hr.shape
  have HE := Lib.hid hent
  clear hent
  show Calls Tryz.prog 175 #[.int .i64 y, .pointer (some ⟨bo, 0, none⟩)] X _
  have HR := Lib.hid hr
  have HC := Lib.hid hc
  have HX := Lib.hid (hst X (Below.refl _ _) _ _ HR.out)
  clear hst hr
  go_enter Tryz.func175, Tryz.ntmps175
  go_wp2_with fail
  rw [HE.out, Oper.upon_enter]
  refine HX.out.mono ?_
  rintro e w1 ⟨rfl, hb1⟩
  go_wp2_with fail
  go_ret
  exact ⟨rfl, hb1⟩
set_option maxRecDepth 100000 in
set_option maxHeartbeats 1000000 in
theorem all_int (G : Nat → Prop) (fn : Nat) (cap : Array Value) (p : Int → Bool) (v : Value) (xs : List (Int)) (w : World) (hG : ∀ k, G k → k < w.heap.size) (hs : SlAt G w 1 (IntW w) v xs) (hent : Enters fn) (hst : FnOk (IntW) one w fn cap p) :
    Calls Tryz.prog 139 #[v, .func (.func fn) #[] cap] w fun e w' => e = .returned (.bool (xs.all p)) ∧ Below w.heap.size w w' := by
  have hb : Below w.heap.size w (w.alloc (.cells #[.func (.func fn) #[] cap] 66)) := (Below.refl _ _).alloc (Nat.le_refl _) _
  have hG1 : ∀ k, G k → k < (w.alloc (.cells #[.func (.func fn) #[] cap] 66)).heap.size := fun k hk => Nat.lt_of_lt_of_le (hG k hk) hb.size
  have hcc : (w.alloc (.cells #[.func (.func fn) #[] cap] 66)).cell? ⟨w.heap.size, 0, none⟩ = some (.func (.func fn) #[] cap) := cell_one (heap_alloc_t w _)
  have HX := Lib.hid (contains_int G 175 #[.pointer (some ⟨w.heap.size, 0, none⟩)] (fun x => !p x) v xs _ hG1 (hs.keep (fun _ h => h) (keep_of hG hb) (fun vs x h => h.below hG hb)) enter_all_int
    (fun X hX vs x hr => all1_int G fn cap p X w.heap.size (fun k hk => Nat.lt_of_lt_of_le (hG1 k hk) hX.size) hent ((hst.on hb).on hX) (Nat.lt_of_lt_of_le (by simp) hX.size) ((hX.cell (p := ⟨w.heap.size, 0, none⟩) (by simp)).trans hcc) vs x hr))
  have HB := Lib.hid hb
  have HA := Lib.hid (show (!xs.any fun x => !p x) = xs.all p by rw [List.all_eq_not_any_not])
  clear hb hG hs hent hst hG1 hcc
  go_enter Tryz.func139, Tryz.ntmps139
  go_wp2_with fail
  refine HX.out.mono ?_
  rintro e w1 ⟨rfl, hb1⟩
  have HB1 := Lib.hid (HB.out.trans (hb1.mono HB.out.size))
  clear hb1
  go_wp2_with fail
  go_ret
  exact ⟨ret_bool HA.out, HB1.out⟩
set_option maxRecDepth 100000 in
set_option maxHeartbeats 2000000 in
theorem index_arm (f : Nat) (G : Nat → Prop) (fn : Nat) (cap : Array Value) (p : ArF (Nd f) → Bool) (v : Value) (xs : List (ArF (Nd f))) (w : World) (hG : ∀ k, G k → k < w.heap.size) (hs : SlAt G w 11 (ArN f G w) v xs) (hent : Enters fn) (hst : FnOk (ArN f G) ag w fn cap p) :
    Calls Tryz.prog 177 #[v, .func (.func fn) #[] cap] w fun e w' => ∃ r : Int, e = .returned (.int .i64 r) ∧ decide (0 ≤ r) = xs.any p ∧ Below w.heap.size w w' := by
  obtain ⟨A, c, rfl, hl, hm, hc⟩ := hs
  unfold maxLen at hm
  have HC := Lib.hid hc; have HG := Lib.hid hG; have HE := Lib.hid hent; have HST := Lib.hid hst
  clear hc hG hent hst
  go_enter Tryz.func177, Tryz.ntmps177
  go_wp2
  go_loopw [8] (fun i wr => ∃ (k : Nat), k ≤ xs.length ∧ i = .int .i64 k ∧ (xs.drop k).any p = xs.any p ∧ Below w.heap.size w wr) (fun i _ => xs.length - (intOf i).toNat)
  case atStart => exact ⟨0, by omega, rfl, rfl, Below.refl _ _⟩
  case round =>
    obtain ⟨k, hk, rfl, hf, hb⟩ := hrel
    have HF := Lib.hid hf; have HB := Lib.hid hb
    clear hf hb
    by_cases hlt : k < xs.length
    · obtain ⟨b, off, rfl, hg, hel⟩ := HC.out (by omega)
      obtain ⟨vs, hvl, hR, hcell⟩ := hel k hlt
      have hR' := hR.below HG.out HB.out
      obtain ⟨A0, n0, c0, ky, s, nt, ni, A14, n14, c14, A15, n15, c15, A16, n16, c16, A17, n17, c17, A18, n18, c18, A19, n19, c19, rfl⟩ := hR'.shape
      have z := fun j u hj => (keep_of HG.out HB.out _ hg).trans (hcell j u hj)
      have c0 : wr.cell? ⟨b, off + k * 11, none⟩ = some (.slice A0 n0 c0) := by simpa using z 0 _ rfl
      have c1 : wr.cell? ⟨b, off + k * 11 + 1, none⟩ = some (.int .i64 ky) := by simpa using z 1 _ rfl
      have c2 : wr.cell? ⟨b, off + k * 11 + 2, none⟩ = some (.string s) := by simpa using z 2 _ rfl
      have c3 : wr.cell? ⟨b, off + k * 11 + 3, none⟩ = some (.bool nt) := by simpa using z 3 _ rfl
      have c4 : wr.cell? ⟨b, off + k * 11 + 4, none⟩ = some (.bool ni) := by simpa using z 4 _ rfl
      have c5 : wr.cell? ⟨b, off + k * 11 + 5, none⟩ = some (.slice A14 n14 c14) := by simpa using z 5 _ rfl
      have c6 : wr.cell? ⟨b, off + k * 11 + 6, none⟩ = some (.slice A15 n15 c15) := by simpa using z 6 _ rfl
      have c7 : wr.cell? ⟨b, off + k * 11 + 7, none⟩ = some (.slice A16 n16 c16) := by simpa using z 7 _ rfl
      have c8 : wr.cell? ⟨b, off + k * 11 + 8, none⟩ = some (.slice A17 n17 c17) := by simpa using z 8 _ rfl
      have c9 : wr.cell? ⟨b, off + k * 11 + 9, none⟩ = some (.slice A18 n18 c18) := by simpa using z 9 _ rfl
      have c10 : wr.cell? ⟨b, off + k * 11 + 10, none⟩ = some (.slice A19 n19 c19) := by simpa using z 10 _ rfl
      have HR := Lib.hid hR'
      clear z hel hcell hvl hR hR' hg
      go_wp2_with fail
      rw [HE.out, Oper.upon_enter]
      refine (HST.out _ HB.out _ _ HR.out).mono ?_
      rintro e w1 ⟨he, hb1⟩
      have HB1 := Lib.hid (HB.out.trans (hb1.mono HB.out.size))
      clear hb1 c0 c1 c2 c3 c4 c5 c6 c7 c8 c9 c10
      cases hq : p xs[k]
      · rw [hq] at he
        subst he
        have HQ := Lib.hid hq
        clear hq
        go_wp2_with fail
        go_roundw
        case rel =>
          refine ⟨k + 1, by omega, by go_num, ?_, HB1.out⟩
          have h := HF.out
          rw [drop_one xs k hlt, List.any_cons, HQ.out, Bool.false_or] at h
          exact h
        case measure => simp only [intOf]; omega
      · rw [hq] at he
        subst he
        have HQ := Lib.hid hq
        clear hq
        go_wp2_with fail
        go_ret
        refine ⟨(k : Int), rfl, ?_, HB1.out⟩
        rw [← HF.out, drop_one xs k hlt, List.any_cons, HQ.out, Bool.true_or]
        exact decide_eq_true (by omega)
    · have HD := Lib.hid (List.drop_eq_nil_of_le (show xs.length ≤ k by omega))
      go_wp2_with fail
      go_ret
      refine ⟨-1, rfl, ?_, HB.out⟩
      rw [← HF.out, HD.out]
      rfl
set_option maxRecDepth 100000 in
set_option maxHeartbeats 1000000 in
theorem contains_arm (f : Nat) (G : Nat → Prop) (fn : Nat) (cap : Array Value) (p : ArF (Nd f) → Bool) (v : Value) (xs : List (ArF (Nd f))) (w : World) (hG : ∀ k, G k → k < w.heap.size) (hs : SlAt G w 11 (ArN f G w) v xs) (hent : Enters fn) (hst : FnOk (ArN f G) ag w fn cap p) :
    Calls Tryz.prog 145 #[v, .func (.func fn) #[] cap] w fun e w' => e = .returned (.bool (xs.any p)) ∧ Below w.heap.size w w' := by
  have HX := Lib.hid (index_arm f G fn cap p v xs w hG hs hent hst)
  clear hG hs hent hst
  go_enter Tryz.func145, Tryz.ntmps145
  go_wp2_with fail
  refine HX.out.mono ?_
  rintro e w1 ⟨r, rfl, hq, hb⟩
  have HQ := Lib.hid hq
  clear hq
  go_wp2_with fail
  go_ret
  exact ⟨ret_bool HQ.out, hb⟩
theorem enter_all_arm : Enters 146 := fun args w => by simp [callFunc, go_sem, Tryz.func146, Tryz.f146]
set_option maxRecDepth 100000 in
set_option maxHeartbeats 1000000 in
theorem all1_arm (f : Nat) (G : Nat → Prop) (fn : Nat) (cap : Array Value) (p : ArF (Nd f) → Bool) (X : World) (bo : Nat) (hG : ∀ k, G k → k < X.heap.size) (hent : Enters fn) (hst : FnOk (ArN f G) ag X fn cap p) (hbo : bo < X.heap.size)
    (hc : X.cell? ⟨bo, 0, none⟩ = some (.func (.func fn) #[] cap)) (vs : List Value) (x : ArF (Nd f)) (hr : ArN f G X vs x) :
    Calls Tryz.prog 146 (#[ag vs] ++ #[.pointer (some ⟨bo, 0, none⟩)]) X fun e w' => e = .returned (.bool (!p x)) ∧ Below X.heap.size X w' := by
  obtain ⟨A0, n0, c0, ky, s, nt, ni, A14, n14, c14, A15, n15, c15, A16, n16, c16, A17, n17, c17, A18, n18, c18, A19, n19, c19, rfl⟩ := hr.shape
  have HE := Lib.hid hent
  clear hent
  show Calls Tryz.prog 146 #[.agg #[.slice A0 n0 c0, .int .i64 ky, .string s, .bool nt, .bool ni, .slice A14 n14 c14, .slice A15 n15 c15, .slice A16 n16 c16, .slice A17 n17 c17, .slice A18 n18 c18, .slice A19 n19 c19], .pointer (some ⟨bo, 0, none⟩)] X _
  have hb : Below X.heap.size X (X.alloc (.cells #[.slice A0 n0 c0, .int .i64 ky, .string s, .bool nt, .bool ni, .slice A14 n14 c14, .slice A15 n15 c15, .slice A16 n16 c16, .slice A17 n17 c17, .slice A18 n18 c18, .slice A19 n19 c19] 54)) := (Below.refl _ _).alloc (Nat.le_refl _) _
  have HX := Lib.hid (hst _ hb _ _ (hr.below hG hb))
  have hc' : (X.alloc (.cells #[.slice A0 n0 c0, .int .i64 ky, .string s, .bool nt, .bool ni, .slice A14 n14 c14, .slice A15 n15 c15, .slice A16 n16 c16, .slice A17 n17 c17, .slice A18 n18 c18, .slice A19 n19 c19] 54)).cell? ⟨bo, 0, none⟩ = some (.func (.func fn) #[] cap) := (hb.cell (p := ⟨bo, 0, none⟩) hbo).trans hc
  have HB := Lib.hid hb
  clear hb hst hr hc
  go_enter Tryz.func146, Tryz.ntmps146
  go_wp2_with fail
  rw [HE.out, Oper.upon_enter]
  refine HX.out.mono ?_
  rintro e w1 ⟨rfl, hb1⟩
  have HB1 := Lib.hid (HB.out.trans (hb1.mono HB.out.size))
  clear hb1 hc'
  go_wp2_with fail
  go_ret
  exact ⟨rfl, HB1.out⟩
set_option maxRecDepth 100000 in
set_option maxHeartbeats 1000000 in
theorem all_arm (f : Nat) (G : Nat → Prop) (fn : Nat) (cap : Array Value) (p : ArF (Nd f) → Bool) (v : Value) (xs : List (ArF (Nd f))) (w : World) (hG : ∀ k, G k → k < w.heap.size) (hs : SlAt G w 11 (ArN f G w) v xs) (hent : Enters fn) (hst : FnOk (ArN f G) ag w fn cap p) :
    Calls Tryz.prog 93 #[v, .func (.func fn) #[] cap] w fun e w' => e = .returned (.bool (xs.all p)) ∧ Below w.heap.size w w' := by
  have hb : Below w.heap.size w (w.alloc (.cells #[.func (.func fn) #[] cap] 91)) := (Below.refl _ _).alloc (Nat.le_refl _) _
  have hG1 : ∀ k, G k → k < (w.alloc (.cells #[.func (.func fn) #[] cap] 91)).heap.size := fun k hk => Nat.lt_of_lt_of_le (hG k hk) hb.size
  have hcc : (w.alloc (.cells #[.func (.func fn) #[] cap] 91)).cell? ⟨w.heap.size, 0, none⟩ = some (.func (.func fn) #[] cap) := cell_one (heap_alloc_t w _)
  have HX := Lib.hid (contains_arm f G 146 #[.pointer (some ⟨w.heap.size, 0, none⟩)] (fun x => !p x) v xs _ hG1 (hs.keep (fun _ h => h) (keep_of hG hb) (fun vs x h => h.below hG hb)) enter_all_arm
    (fun X hX vs x hr => all1_arm f G fn cap p X w.heap.size (fun k hk => Nat.lt_of_lt_of_le (hG1 k hk) hX.size) hent ((hst.on hb).on hX) (Nat.lt_of_lt_of_le (by simp) hX.size) ((hX.cell (p := ⟨w.heap.size, 0, none⟩) (by simp)).trans hcc) vs x hr))
  have HB := Lib.hid hb
  have HA := Lib.hid (show (!xs.any fun x => !p x) = xs.all p by rw [List.all_eq_not_any_not])
  clear hb hG hs hent hst hG1 hcc
  go_enter Tryz.func93, Tryz.ntmps93
  go_wp2_with fail
  refine HX.out.mono ?_
  rintro e w1 ⟨rfl, hb1⟩
  have HB1 := Lib.hid (HB.out.trans (hb1.mono HB.out.size))
  clear hb1
  go_wp2_with fail
  go_ret
  exact ⟨ret_bool HA.out, HB1.out⟩
end Go.Proofs.YtjpopekmbmcggaaGreatDoor
