/- Towards nodeParts_card: NdKind, NdParts. Merged from smaller texts by a program of the author's. -/
import Derived.Test.YtjpopekmbmcggaaGreatDoorPa20
import Derived.Test.YtjpopekmbmcggaaGreatDoorPa23
import Derived.Test.YtjpopekmbmcggaaGreatDoorPa24
namespace Go.Proofs.YtjpopekmbmcggaaGreatDoor
open Go.RowKit
set_option maxRecDepth 100000 in
set_option maxHeartbeats 2000000 in
theorem kind_p (k : Int) (w : World) : Calls Tryz.prog 21 #[.int .i64 k] w fun e w' => e = .returned (bs (kindN k)) ∧ Below w.heap.size w w' := by
  by_cases h1 : k = 1
  · subst h1
    go_enter Tryz.func21, Tryz.ntmps21
    go_wp2_with fail
    go_ret
    exact ⟨rfl, Below.refl _ _⟩
  by_cases h2 : k = 2
  · subst h2
    go_enter Tryz.func21, Tryz.ntmps21
    go_wp2_with fail
    go_ret
    exact ⟨rfl, Below.refl _ _⟩
  by_cases h3 : k = 3
  · subst h3
    go_enter Tryz.func21, Tryz.ntmps21
    go_wp2_with fail
    go_ret
    exact ⟨rfl, Below.refl _ _⟩
  by_cases h4 : k = 4
  · subst h4
    go_enter Tryz.func21, Tryz.ntmps21
    go_wp2_with fail
    go_ret
    exact ⟨rfl, Below.refl _ _⟩
  by_cases h5 : k = 5
  · subst h5
    go_enter Tryz.func21, Tryz.ntmps21
    go_wp2_with fail
    go_ret
    exact ⟨rfl, Below.refl _ _⟩
  by_cases h6 : k = 6
  · subst h6
    go_enter Tryz.func21, Tryz.ntmps21
    go_wp2_with fail
    go_ret
    exact ⟨rfl, Below.refl _ _⟩
  by_cases h7 : k = 7
  · subst h7
    go_enter Tryz.func21, Tryz.ntmps21
    go_wp2_with fail
    go_ret
    exact ⟨rfl, Below.refl _ _⟩
  by_cases h8 : k = 8
  · subst h8
    go_enter Tryz.func21, Tryz.ntmps21
    go_wp2_with fail
    go_ret
    exact ⟨rfl, Below.refl _ _⟩
  by_cases h9 : k = 9
  · subst h9
    go_enter Tryz.func21, Tryz.ntmps21
    go_wp2_with fail
    go_ret
    exact ⟨rfl, Below.refl _ _⟩
  by_cases h10 : k = 10
  · subst h10
    go_enter Tryz.func21, Tryz.ntmps21
    go_wp2_with fail
    go_ret
    exact ⟨rfl, Below.refl _ _⟩
  by_cases h11 : k = 11
  · subst h11
    go_enter Tryz.func21, Tryz.ntmps21
    go_wp2_with fail
    go_ret
    exact ⟨rfl, Below.refl _ _⟩
  by_cases h12 : k = 12
  · subst h12
    go_enter Tryz.func21, Tryz.ntmps21
    go_wp2_with fail
    go_ret
    exact ⟨rfl, Below.refl _ _⟩
  have HN := Lib.hid (show kindN k = [] by simp only [kindN, h1, h2, h3, h4, h5, h6, h7, h8, h9, h10, h11, h12, if_false])
  replace h1 := beq_false_of_ne h1
  replace h2 := beq_false_of_ne h2
  replace h3 := beq_false_of_ne h3
  replace h4 := beq_false_of_ne h4
  replace h5 := beq_false_of_ne h5
  replace h6 := beq_false_of_ne h6
  replace h7 := beq_false_of_ne h7
  replace h8 := beq_false_of_ne h8
  replace h9 := beq_false_of_ne h9
  replace h10 := beq_false_of_ne h10
  replace h11 := beq_false_of_ne h11
  replace h12 := beq_false_of_ne h12
  go_enter Tryz.func21, Tryz.ntmps21
  go_wp2_with fail
  go_ret
  exact ⟨by rw [HN.out]; rfl, Below.refl _ _⟩
end Go.Proofs.YtjpopekmbmcggaaGreatDoor
namespace Go.Proofs.YtjpopekmbmcggaaGreatDoor
open Go.RowKit
section
variable {α : Type} (v : Vw α) (P : α → Bool)
def okA (a : ArF α) : Bool := !a.pats.isEmpty && (a.pats.all (wordB v) && P a.body)
def okPF (n : NdF α) : Bool := n.words.all (wordB v) && (n.assigns.all (wordB v) && (n.redirs.all (redirB v) && (n.arms.all (okA v P) && (n.kids.all P && !(kindN n.k).isEmpty))))
end
def Nd.okP : (f : Nat) → Nd f → Bool
  | 0 => fun x => Empty.elim x
  | f + 1 => fun x => okPF (Nd.vw f) (Nd.okP f) x
section
variable {α : Type} {v : Vw α} {P : α → Bool}
theorem all_imp {β : Type} {p q : β → Bool} (h : ∀ x, p x = true → q x = true) (l : List β) (hl : l.all p = true) : l.all q = true := by
  rw [List.all_eq_true] at *
  exact fun x hx => h x (hl x hx)
theorem only_ok {h : Has} {n : NdF α} (ho : onlyB v h n = true) : n.redirs.all (redirB v) = true ∧ n.words.all (wordB v) = true ∧ n.assigns.all (wordB v) = true ∧ (h.ar = false → n.arms = []) ∧ (h.ks = false → n.kids = []) := by
  unfold onlyB bareB at ho
  simp only [Bool.and_eq_true, Bool.or_eq_true, List.isEmpty_iff] at ho
  obtain ⟨⟨⟨⟨⟨_, ha⟩, hk⟩, _⟩, _⟩, ⟨hr, hw⟩, hs⟩ := ho
  exact ⟨hr, hw, hs, fun e => by rw [e] at ha; simpa using ha, fun e => by rw [e] at hk; simpa using hk⟩
theorem kids_ok {least : Nat} {k : Int} {n : NdF α} (h : kidsB v least k n = true) : n.kids.all v.rt = true := by
  unfold kidsB at h
  rw [Bool.and_eq_true] at h
  exact all_imp (fun x hx => by rw [Bool.and_eq_true] at hx; exact hx.2) _ h.2
theorem lists_ok {least : Nat} {n : NdF α} (h : listsB v least n = true) : n.kids.all v.rt = true := by
  unfold listsB at h
  rw [Bool.and_eq_true] at h
  exact all_imp (fun x hx => by unfold Vw.R at hx; rw [Bool.and_eq_true] at hx; exact hx.2) _ h.2
theorem right_has {n : NdF α} (h : rightF v n = true) :
    n.redirs.all (redirB v) = true ∧ n.words.all (wordB v) = true ∧ n.assigns.all (wordB v) = true ∧ n.arms.all (armB v) = true ∧ n.kids.all v.rt = true ∧ (kindN n.k).isEmpty = false := by
  have nil1 : ∀ {β : Type} {p : β → Bool} {l : List β}, l = [] → l.all p = true := fun h => by rw [h]; rfl
  unfold rightF at h
  split at h
  · rename_i hk
    simp only [Bool.and_eq_true] at h
    obtain ⟨h0, h1, h2⟩ := h
    obtain ⟨a, b, c, d, e⟩ := only_ok h0
    exact ⟨a, b, c, nil1 (d rfl), kids_ok h1, by rw [hk]; rfl⟩
  split at h
  · rename_i hk
    simp only [Bool.and_eq_true] at h
    obtain ⟨h0, h1, h2⟩ := h
    obtain ⟨a, b, c, d, e⟩ := only_ok h0
    exact ⟨a, b, c, nil1 (d rfl), kids_ok h1, by rw [hk]; rfl⟩
  split at h
  · rename_i hk
    simp only [Bool.and_eq_true] at h
    obtain ⟨h0, h1, h2⟩ := h
    obtain ⟨a, b, c, d, e⟩ := only_ok h0
    exact ⟨a, b, c, nil1 (d rfl), kids_ok h1, by rw [hk]; rfl⟩
  split at h
  · rename_i hk
    simp only [Bool.and_eq_true] at h
    obtain ⟨h0, h1⟩ := h
    obtain ⟨a, b, c, d, e⟩ := only_ok h0
    exact ⟨a, b, c, nil1 (d rfl), nil1 (e rfl), by rw [hk]; rfl⟩
  split at h
  · rename_i hk
    simp only [Bool.and_eq_true] at h
    obtain ⟨h0, h1, h2⟩ := h
    obtain ⟨a, b, c, d, e⟩ := only_ok h0
    exact ⟨a, b, c, nil1 (d rfl), lists_ok h2, by rcases hk with hk | hk <;> rw [hk] <;> rfl⟩
  split at h
  · rename_i hk
    simp only [Bool.and_eq_true] at h
    obtain ⟨h0, h1, h2, h3⟩ := h
    obtain ⟨a, b, c, d, e⟩ := only_ok h0
    exact ⟨a, b, c, nil1 (d rfl), lists_ok h3, by rw [hk]; rfl⟩
  split at h
  · rename_i hk
    simp only [Bool.and_eq_true] at h
    obtain ⟨h0, h1, h2⟩ := h
    obtain ⟨a, b, c, d, e⟩ := only_ok h0
    exact ⟨a, b, c, h2, nil1 (e rfl), by rw [hk]; rfl⟩
  split at h
  · rename_i hk
    simp only [Bool.and_eq_true] at h
    obtain ⟨h0, h1⟩ := h
    obtain ⟨a, b, c, d, e⟩ := only_ok h0
    exact ⟨a, b, c, nil1 (d rfl), lists_ok h1, by rw [hk]; rfl⟩
  split at h
  · rename_i hk
    simp only [Bool.and_eq_true] at h
    obtain ⟨h0, h1, h2⟩ := h
    obtain ⟨a, b, c, d, e⟩ := only_ok h0
    exact ⟨a, b, c, nil1 (d rfl), lists_ok h1, by rcases hk with hk | hk <;> rw [hk] <;> rfl⟩
  split at h
  · rename_i hk
    simp only [Bool.and_eq_true] at h
    obtain ⟨h0, h1⟩ := h
    obtain ⟨a, b, c, d, e⟩ := only_ok h0
    unfold funcB at h1
    rw [Bool.and_eq_true] at h1
    have h2 := h1.2
    refine ⟨a, b, c, nil1 (d rfl), ?_, by rw [hk]; rfl⟩
    split at h2
    · rename_i x hx
      rw [Bool.and_eq_true] at h2
      rw [hx]
      simp [h2.2]
    · cases h2
  · cases h
theorem ok_of (hR : ∀ x, v.rt x = true → P x = true) (hE : ∀ x, v.kd x = 1 → v.on x = true → P x = true) {n : NdF α} (h : rightF v n = true) : okPF v P n = true := by
  obtain ⟨a, b, c, d, e, g⟩ := right_has h
  unfold okPF
  rw [a, b, c, g, all_imp hR _ e, all_imp (fun x hx => ?_) _ d]
  · rfl
  · unfold armB at hx
    unfold okA
    simp only [Bool.and_eq_true, Bool.or_eq_true] at hx ⊢
    refine ⟨hx.1.1, hx.1.2, ?_⟩
    rcases hx.2 with h | ⟨h1, h2⟩
    · unfold Vw.R at h
      rw [Bool.and_eq_true] at h
      exact hR _ h.2
    · exact hE _ (by simpa using h1) h2
theorem ok_none {n : NdF α} (hk : n.k = 1) (h : onlyB v none7 n = true) : okPF v P n = true := by
  obtain ⟨a, b, c, d, e⟩ := only_ok h
  unfold okPF
  rw [a, b, c, d rfl, e rfl, hk]
  rfl
end
theorem Nd.ok_of : ∀ (f : Nat) (x : Nd f), ((Nd.vw f).rt x = true → Nd.okP f x = true) ∧ ((Nd.vw f).kd x = 1 → (Nd.vw f).on x = true → Nd.okP f x = true)
  | 0, x => Empty.elim x
  | f + 1, _ => ⟨fun h => YtjpopekmbmcggaaGreatDoor.ok_of (fun y => (Nd.ok_of f y).1) (fun y => (Nd.ok_of f y).2) h, ok_none⟩
def LPa (f : Nat) : Prop := ∀ (G : Nat → Prop) (w : World) (vs : List Value) (x : Nd f), (∀ k, G k → k < w.heap.size) → RsvAt w → NdV f G w vs x → Nd.okP f x = true →
  Calls Tryz.prog 25 #[ag vs] w fun e w' => e = .returned (.bool true) ∧ Below w.heap.size w w'
theorem all_get {β : Type} {p : β → Bool} {l : List β} (h : l.all p = true) (k : Nat) (hk : k < l.length) : p l[k] = true := List.all_eq_true.1 h _ (List.getElem_mem hk)
set_option maxRecDepth 100000 in
set_option maxHeartbeats 16000000 in
theorem parts_step (f : Nat) (ih : LPa f) (PR : PRt f) (G : Nat → Prop) (w : World) (vs : List Value) (x : NdF (Nd f)) (hG : ∀ k, G k → k < w.heap.size) (ht : RsvAt w) (hv : NdV (f + 1) G w vs x) (hok : okPF (Nd.vw f) (Nd.okP f) x = true) :
    Calls Tryz.prog 25 #[ag vs] w fun e w' => e = .returned (.bool true) ∧ Below w.heap.size w w' := by
  have IH := Lib.hid ih
  obtain ⟨ky, s, nt, ni, ops, asg, wds, rds, ars, kds⟩ := x
  obtain ⟨A4, c4, A5, c5, A6, c6, A7, c7, A8, c8, A9, c9, rfl, hns, hal, hl4, hl5, hl6, hl7, hl8, hl9, hso, hsa, hsw, hsr, hsm, hsk⟩ := NdV.open hv
  have HSO := Lib.hid hso; have HSA := Lib.hid hsa; have HSW := Lib.hid hsw; have HSR := Lib.hid hsr; have HSM := Lib.hid hsm; have HSK := Lib.hid hsk
  clear hso hsa hsw hsr hsm hsk hv
  show Calls Tryz.prog 25 #[.agg #[.int .i64 ky, .string s, .bool nt, .bool ni, .slice A4 ops.length c4, .slice A5 asg.length c5, .slice A6 wds.length c6, .slice A7 rds.length c7, .slice A8 ars.length c8, .slice A9 kds.length c9]] w _
  have hbw : Below w.heap.size w (w.alloc (.cells #[.int .i64 ky, .string s, .bool nt, .bool ni, .slice A4 ops.length c4, .slice A5 asg.length c5, .slice A6 wds.length c6, .slice A7 rds.length c7, .slice A8 ars.length c8, .slice A9 kds.length c9] 28)) := (Below.refl _ _).alloc (Nat.le_refl _) _
  have hb0 := heap_alloc_t w (.cells #[.int .i64 ky, .string s, .bool nt, .bool ni, .slice A4 ops.length c4, .slice A5 asg.length c5, .slice A6 wds.length c6, .slice A7 rds.length c7, .slice A8 ars.length c8, .slice A9 kds.length c9] 28)
  have hbb := heap_alloc_t w (.cells #[.int .i64 ky, .string s, .bool nt, .bool ni, .slice A4 ops.length c4, .slice A5 asg.length c5, .slice A6 wds.length c6, .slice A7 rds.length c7, .slice A8 ars.length c8, .slice A9 kds.length c9] 28)
  generalize hW : w.alloc (.cells #[.int .i64 ky, .string s, .bool nt, .bool ni, .slice A4 ops.length c4, .slice A5 asg.length c5, .slice A6 wds.length c6, .slice A7 rds.length c7, .slice A8 ars.length c8, .slice A9 kds.length c9] 28) = W at *
  have x0 : W.cell? ⟨w.heap.size, 0, none⟩ = some (.int .i64 ky) := by simp [World.cell?, hb0]
  have x1 : W.cell? ⟨w.heap.size, 1, none⟩ = some (.string s) := by simp [World.cell?, hb0]
  have x2 : W.cell? ⟨w.heap.size, 2, none⟩ = some (.bool nt) := by simp [World.cell?, hb0]
  have x3 : W.cell? ⟨w.heap.size, 3, none⟩ = some (.bool ni) := by simp [World.cell?, hb0]
  have x4 : W.cell? ⟨w.heap.size, 4, none⟩ = some (.slice A4 ops.length c4) := by simp [World.cell?, hb0]
  have x5 : W.cell? ⟨w.heap.size, 5, none⟩ = some (.slice A5 asg.length c5) := by simp [World.cell?, hb0]
  have x6 : W.cell? ⟨w.heap.size, 6, none⟩ = some (.slice A6 wds.length c6) := by simp [World.cell?, hb0]
  have x7 : W.cell? ⟨w.heap.size, 7, none⟩ = some (.slice A7 rds.length c7) := by simp [World.cell?, hb0]
  have x8 : W.cell? ⟨w.heap.size, 8, none⟩ = some (.slice A8 ars.length c8) := by simp [World.cell?, hb0]
  have x9 : W.cell? ⟨w.heap.size, 9, none⟩ = some (.slice A9 kds.length c9) := by simp [World.cell?, hb0]
  have HGW := Lib.hid (old_of hG hbw)
  have HBW := Lib.hid hbw; have HG := Lib.hid hG; have HT := Lib.hid ht
  clear hbw hb0 hG ht
  unfold okPF at hok
  simp only [Bool.and_eq_true] at hok
  obtain ⟨o1, o2, o3, o4, o5, o6⟩ := hok
  have HPW := Lib.hid o1; have HPS := Lib.hid o2; have HPR := Lib.hid o3; have HPA := Lib.hid o4; have HPK := Lib.hid o5
  have HPZ := Lib.hid o6
  have HBX := Lib.hid (box_at hbb)
  clear hbb x0 x1 x2 x3 x4 x5 x6 x7 x8 x9 o1 o2 o3 o4 o5 o6 ih
  go_enter Tryz.func25, Tryz.ntmps25
  go_wp2_with fail
  go_loopw [3] (fun i wr => ∃ (k : Nat), k ≤ wds.length ∧ i = .int .i64 k ∧ Below W.heap.size W wr) (fun i _ => wds.length - (intOf i).toNat)
  case atStart => exact ⟨0, by omega, rfl, Below.refl _ _⟩
  case round =>
    obtain ⟨k, hk, rfl, hb⟩ := hrel
    have HB3 := Lib.hid hb
    have y6w := HBX.out wr hb 6 _ rfl
    by_cases hlt : k < wds.length
    · obtain ⟨A, c, hA, _, _, hel⟩ := HSW.out.onW HG.out HBW.out
      injection hA with hA1 _ hA2
      subst hA1 hA2
      obtain ⟨b, off, rfl, hg, hel⟩ := hel (by omega)
      obtain ⟨vs, hvl, hR, hcell⟩ := hel k hlt
      have hR' := hR.below HGW.out hb
      have hp := all_get HPW.out k hlt
      have hcl := word_p f PR G wr _ wds[k] (old_of HGW.out hb) (HT.out.below (HBW.out.trans (hb.mono HBW.out.size))) hR'
      rw [hp] at hcl
      have HX := Lib.hid hcl
      obtain ⟨A0, n0, c0, rfl⟩ := hR'.shape
      have z := fun j u hj => (keep_of HGW.out hb _ hg).trans (hcell j u hj)
      have d0 : wr.cell? ⟨b, off + k, none⟩ = some (.slice A0 n0 c0) := by simpa using z 0 _ rfl
      clear z hel hcell hvl hR hR' hg hp hcl hb
      go_wp2_with fail
      refine HX.out.mono ?_
      rintro e w1 ⟨rfl, hb1⟩
      have HB1 := Lib.hid (HB3.out.trans (hb1.mono HB3.out.size))
      clear hb1 d0 y6w
      go_wp2_with fail
      go_roundw
      case rel => exact ⟨k + 1, by omega, by go_num, HB1.out⟩
      case measure => simp only [intOf]; omega
    · clear hb
      obtain ⟨wo3, rfl⟩ : ∃ wo : World, wo = wr := ⟨_, rfl⟩
      go_wp2_with fail
      go_loopw [4] (fun i wr => ∃ (k : Nat), k ≤ asg.length ∧ i = .int .i64 k ∧ Below W.heap.size W wr) (fun i _ => asg.length - (intOf i).toNat)
      case atStart => exact ⟨0, by omega, rfl, HB3.out⟩
      case round =>
        obtain ⟨k, hk, rfl, hb⟩ := hrel
        have HB4 := Lib.hid hb
        have y5w := HBX.out wr hb 5 _ rfl
        by_cases hlt : k < asg.length
        · obtain ⟨A, c, hA, _, _, hel⟩ := HSA.out.onW HG.out HBW.out
          injection hA with hA1 _ hA2
          subst hA1 hA2
          obtain ⟨b, off, rfl, hg, hel⟩ := hel (by omega)
          obtain ⟨vs, hvl, hR, hcell⟩ := hel k hlt
          have hR' := hR.below HGW.out hb
          have hp := all_get HPS.out k hlt
          have hcl := word_p f PR G wr _ asg[k] (old_of HGW.out hb) (HT.out.below (HBW.out.trans (hb.mono HBW.out.size))) hR'
          rw [hp] at hcl
          have HX := Lib.hid hcl
          obtain ⟨A0, n0, c0, rfl⟩ := hR'.shape
          have z := fun j u hj => (keep_of HGW.out hb _ hg).trans (hcell j u hj)
          have d0 : wr.cell? ⟨b, off + k, none⟩ = some (.slice A0 n0 c0) := by simpa using z 0 _ rfl
          clear z hel hcell hvl hR hR' hg hp hcl hb
          go_wp2_with fail
          refine HX.out.mono ?_
          rintro e w1 ⟨rfl, hb1⟩
          have HB1 := Lib.hid (HB4.out.trans (hb1.mono HB4.out.size))
          clear hb1 d0 y5w
          go_wp2_with fail
          go_roundw
          case rel => exact ⟨k + 1, by omega, by go_num, HB1.out⟩
          case measure => simp only [intOf]; omega
        · clear hb
          obtain ⟨wo4, rfl⟩ : ∃ wo : World, wo = wr := ⟨_, rfl⟩
          go_wp2_with fail
          go_loopw [5] (fun i wr => ∃ (k : Nat), k ≤ rds.length ∧ i = .int .i64 k ∧ Below W.heap.size W wr) (fun i _ => rds.length - (intOf i).toNat)
          case atStart => exact ⟨0, by omega, rfl, HB4.out⟩
          case round =>
            obtain ⟨k, hk, rfl, hb⟩ := hrel
            have HB5 := Lib.hid hb
            have y7w := HBX.out wr hb 7 _ rfl
            by_cases hlt : k < rds.length
            · obtain ⟨A, c, hA, _, _, hel⟩ := HSR.out.onR HG.out HBW.out
              injection hA with hA1 _ hA2
              subst hA1 hA2
              obtain ⟨b, off, rfl, hg, hel⟩ := hel (by omega)
              obtain ⟨vs, hvl, hR, hcell⟩ := hel k hlt
              have hR' := hR.below HGW.out hb
              have hp := all_get HPR.out k hlt
              have hcl := redir_n f PR G wr _ rds[k] (old_of HGW.out hb) (HT.out.below (HBW.out.trans (hb.mono HBW.out.size))) hR'
              rw [hp] at hcl
              have HX := Lib.hid hcl
              obtain ⟨s, o, A2, n2, c2, sh, rfl⟩ := hR'.shape
              have z := fun j u hj => (keep_of HGW.out hb _ hg).trans (hcell j u hj)
              have d0 : wr.cell? ⟨b, off + k * 4, none⟩ = some (.string s) := by simpa using z 0 _ rfl
              have d1 : wr.cell? ⟨b, off + k * 4 + 1, none⟩ = some (.int .i64 o) := by simpa using z 1 _ rfl
              have d2 : wr.cell? ⟨b, off + k * 4 + 2, none⟩ = some (.slice A2 n2 c2) := by simpa using z 2 _ rfl
              have d3 : wr.cell? ⟨b, off + k * 4 + 3, none⟩ = some (.string sh) := by simpa using z 3 _ rfl
              clear z hel hcell hvl hR hR' hg hp hcl hb
              go_wp2_with fail
              refine HX.out.mono ?_
              rintro e w1 ⟨rfl, hb1⟩
              have HB1 := Lib.hid (HB5.out.trans (hb1.mono HB5.out.size))
              clear hb1 d0 d1 d2 d3 y7w
              go_wp2_with fail
              go_roundw
              case rel => exact ⟨k + 1, by omega, by go_num, HB1.out⟩
              case measure => simp only [intOf]; omega
            · clear hb
              obtain ⟨wo5, rfl⟩ : ∃ wo : World, wo = wr := ⟨_, rfl⟩
              go_wp2_with fail
              go_loopw [6] (fun i wr => ∃ (k : Nat), k ≤ ars.length ∧ i = .int .i64 k ∧ Below W.heap.size W wr) (fun i _ => ars.length - (intOf i).toNat)
              case atStart => exact ⟨0, by omega, rfl, HB5.out⟩
              case round =>
                obtain ⟨k, hk, rfl, hb⟩ := hrel
                have HB6 := Lib.hid hb
                have y8w := HBX.out wr hb 8 _ rfl
                by_cases hlt : k < ars.length
                · obtain ⟨A, c, hA, _, _, hel⟩ := HSM.out.onA HG.out HBW.out
                  injection hA with hA1 _ hA2
                  subst hA1 hA2
                  obtain ⟨b, off, rfl, hg, hel⟩ := hel (by omega)
                  obtain ⟨vs, hvl, hR, hcell⟩ := hel k hlt
                  have hR' := hR.below HGW.out hb
                  have hp := all_get HPA.out k hlt
                  have z := fun j u hj => (keep_of HGW.out hb _ hg).trans (hcell j u hj)
                  generalize ars[k] = ar at *
                  obtain ⟨ps, bd⟩ := ar
                  obtain ⟨vp, bs', rfl, hbl, hps, hbd'⟩ := hR'
                  obtain ⟨kx, sx, ntx, nix, B4, m4, e4, B5, m5, e5, B6, m6, e6, B7, m7, e7, B8, m8, e8, B9, m9, e9, rfl⟩ := NdV.shape hbd'
                  unfold okA at hp
                  simp only [Bool.and_eq_true] at hp hps hbd'
                  obtain ⟨hp1, hp2, hp3⟩ := hp
                  obtain ⟨A0, c0, rfl, hl0, hm0, hel0⟩ := hps
                  unfold maxLen at hm0
                  have hpl : 0 < ps.length := by cases ps with | nil => simp at hp1 | cons => simp
                  obtain ⟨b2, off2, rfl, hg2, hel0⟩ := hel0 hpl
                  obtain ⟨vs2, hvl2, hR2, hcell2⟩ := hel0 0 hpl
                  have d0 : wr.cell? ⟨b, off + k * 11, none⟩ = some (.slice (some ⟨b2, off2, none⟩) ps.length c0) := by simpa using z 0 _ rfl
                  have d1 : wr.cell? ⟨b, off + k * 11 + 1, none⟩ = some (.int .i64 kx) := by simpa using z 1 _ rfl
                  have d2 : wr.cell? ⟨b, off + k * 11 + 2, none⟩ = some (.string sx) := by simpa using z 2 _ rfl
                  have d3 : wr.cell? ⟨b, off + k * 11 + 3, none⟩ = some (.bool ntx) := by simpa using z 3 _ rfl
                  have d4 : wr.cell? ⟨b, off + k * 11 + 4, none⟩ = some (.bool nix) := by simpa using z 4 _ rfl
                  have d5 : wr.cell? ⟨b, off + k * 11 + 5, none⟩ = some (.slice B4 m4 e4) := by simpa using z 5 _ rfl
                  have d6 : wr.cell? ⟨b, off + k * 11 + 6, none⟩ = some (.slice B5 m5 e5) := by simpa using z 6 _ rfl
                  have d7 : wr.cell? ⟨b, off + k * 11 + 7, none⟩ = some (.slice B6 m6 e6) := by simpa using z 7 _ rfl
                  have d8 : wr.cell? ⟨b, off + k * 11 + 8, none⟩ = some (.slice B7 m7 e7) := by simpa using z 8 _ rfl
                  have d9 : wr.cell? ⟨b, off + k * 11 + 9, none⟩ = some (.slice B8 m8 e8) := by simpa using z 9 _ rfl
                  have d10 : wr.cell? ⟨b, off + k * 11 + 10, none⟩ = some (.slice B9 m9 e9) := by simpa using z 10 _ rfl
                  have hGr := old_of HGW.out hb
                  have hR2' : WdN f G wr vs2 ps[0] := hR2
                  obtain ⟨A1, n1, c1, rfl⟩ := hR2'.shape
                  have q0 : wr.cell? ⟨b2, off2, none⟩ = some (.slice A1 n1 c1) := by simpa using hcell2 0 _ rfl
                  have HBD := Lib.hid hbd'; have HGR := Lib.hid hGr
                  have hp4 := all_get hp2 0 hpl
                  have hTr := HT.out.below (HBW.out.trans (hb.mono HBW.out.size))
                  have HTR := Lib.hid hTr
                  have hx1 := word_p f PR G wr _ ps[0] hGr hTr hR2'
                  rw [hp4] at hx1
                  have HX1 := Lib.hid hx1
                  have HP3 := Lib.hid hp3
                  have hz : ((ps.length : Int) == 0) = false := by rw [beq_eq_false_iff_ne]; omega
                  clear z hel hcell hvl hR hg hbd' hGr hb hbl hp1 hp2 hp3 hp4 hel0 hcell2 hvl2 hR2 hR2' hg2 hTr hx1
                  go_wp2_with fail
                  refine HX1.out.mono ?_
                  rintro e w1 ⟨rfl, hb1⟩
                  have HB1 := Lib.hid (HB6.out.trans (hb1.mono HB6.out.size))
                  have HX2 := Lib.hid (IH.out G w1 _ bd (old_of HGR.out hb1) (HTR.out.below hb1) (HBD.out.below HGR.out hb1) HP3.out)
                  have f0 := box_keep d0 hb1
                  have f1 := box_keep d1 hb1
                  have f2 := box_keep d2 hb1
                  have f3 := box_keep d3 hb1
                  have f4 := box_keep d4 hb1
                  have f5 := box_keep d5 hb1
                  have f6 := box_keep d6 hb1
                  have f7 := box_keep d7 hb1
                  have f8 := box_keep d8 hb1
                  have f9 := box_keep d9 hb1
                  have f10 := box_keep d10 hb1
                  have f11 := box_keep y8w hb1
                  clear hb1 d0 d1 d2 d3 d4 d5 d6 d7 d8 d9 d10 y8w q0
                  go_wp2_with fail
                  refine HX2.out.mono ?_
                  rintro e w2 ⟨rfl, hb2⟩
                  have HB3 := Lib.hid (HB1.out.trans (hb2.mono HB1.out.size))
                  clear hb2 f0 f1 f2 f3 f4 f5 f6 f7 f8 f9 f10 f11 hz
                  go_wp2_with fail
                  go_roundw
                  case rel => exact ⟨k + 1, by omega, by go_num, HB3.out⟩
                  case measure => simp only [intOf]; omega
                · clear hb
                  obtain ⟨wo6, rfl⟩ : ∃ wo : World, wo = wr := ⟨_, rfl⟩
                  go_wp2_with fail
                  go_loopw [7] (fun i wr => ∃ (k : Nat), k ≤ kds.length ∧ i = .int .i64 k ∧ Below W.heap.size W wr) (fun i _ => kds.length - (intOf i).toNat)
                  case atStart => exact ⟨0, by omega, rfl, HB6.out⟩
                  case round =>
                    obtain ⟨k, hk, rfl, hb⟩ := hrel
                    have HB7 := Lib.hid hb
                    have y9w := HBX.out wr hb 9 _ rfl
                    by_cases hlt : k < kds.length
                    · obtain ⟨A, c, hA, _, _, hel⟩ := HSK.out.onN HG.out HBW.out
                      injection hA with hA1 _ hA2
                      subst hA1 hA2
                      obtain ⟨b, off, rfl, hg, hel⟩ := hel (by omega)
                      obtain ⟨vs, hvl, hR, hcell⟩ := hel k hlt
                      have hR' := hR.below HGW.out hb
                      have hp := all_get HPK.out k hlt
                      have hcl := IH.out G wr _ kds[k] (old_of HGW.out hb) (HT.out.below (HBW.out.trans (hb.mono HBW.out.size))) hR' hp
                      have HX := Lib.hid hcl
                      obtain ⟨ky, s, nt, ni, A4, n4, c4, A5, n5, c5, A6, n6, c6, A7, n7, c7, A8, n8, c8, A9, n9, c9, rfl⟩ := hR'.shape
                      have z := fun j u hj => (keep_of HGW.out hb _ hg).trans (hcell j u hj)
                      have d0 : wr.cell? ⟨b, off + k * 10, none⟩ = some (.int .i64 ky) := by simpa using z 0 _ rfl
                      have d1 : wr.cell? ⟨b, off + k * 10 + 1, none⟩ = some (.string s) := by simpa using z 1 _ rfl
                      have d2 : wr.cell? ⟨b, off + k * 10 + 2, none⟩ = some (.bool nt) := by simpa using z 2 _ rfl
                      have d3 : wr.cell? ⟨b, off + k * 10 + 3, none⟩ = some (.bool ni) := by simpa using z 3 _ rfl
                      have d4 : wr.cell? ⟨b, off + k * 10 + 4, none⟩ = some (.slice A4 n4 c4) := by simpa using z 4 _ rfl
                      have d5 : wr.cell? ⟨b, off + k * 10 + 5, none⟩ = some (.slice A5 n5 c5) := by simpa using z 5 _ rfl
                      have d6 : wr.cell? ⟨b, off + k * 10 + 6, none⟩ = some (.slice A6 n6 c6) := by simpa using z 6 _ rfl
                      have d7 : wr.cell? ⟨b, off + k * 10 + 7, none⟩ = some (.slice A7 n7 c7) := by simpa using z 7 _ rfl
                      have d8 : wr.cell? ⟨b, off + k * 10 + 8, none⟩ = some (.slice A8 n8 c8) := by simpa using z 8 _ rfl
                      have d9 : wr.cell? ⟨b, off + k * 10 + 9, none⟩ = some (.slice A9 n9 c9) := by simpa using z 9 _ rfl
                      clear z hel hcell hvl hR hR' hg hp hcl hb
                      go_wp2_with fail
                      refine HX.out.mono ?_
                      rintro e w1 ⟨rfl, hb1⟩
                      have HB1 := Lib.hid (HB7.out.trans (hb1.mono HB7.out.size))
                      clear hb1 d0 d1 d2 d3 d4 d5 d6 d7 d8 d9 y9w
                      go_wp2_with fail
                      go_roundw
                      case rel => exact ⟨k + 1, by omega, by go_num, HB1.out⟩
                      case measure => simp only [intOf]; omega
                    · clear hb
                      obtain ⟨wo7, rfl⟩ : ∃ wo : World, wo = wr := ⟨_, rfl⟩
                      have y0w := HBX.out _ HB7.out 0 _ rfl
                      have hke : (⟨(kindN ky).toArray⟩ : ByteArray).toList.isEmpty = false := by
                        rw [list_mk]
                        simpa using HPZ.out
                      have hx : Calls Tryz.prog 21 #[.int .i64 ky] wo7 fun e w' => e = .returned (.string ⟨(kindN ky).toArray⟩) ∧ Below wo7.heap.size wo7 w' := kind_p ky wo7
                      generalize (⟨(kindN ky).toArray⟩ : ByteArray) = kn at *
                      have HX := Lib.hid hx
                      clear hx
                      go_wp2_with fail
                      refine HX.out.mono ?_
                      rintro e w1 ⟨rfl, hb1⟩
                      have HB1 := Lib.hid (HBW.out.trans ((HB7.out.trans (hb1.mono HB7.out.size)).mono HBW.out.size))
                      clear hb1 y0w
                      go_wp2_with fail
                      go_ret
                      exact ⟨rfl, HB1.out⟩
theorem law_parts : ∀ f : Nat, LPa f
  | 0 => fun _ _ _ x _ _ _ _ => Empty.elim x
  | f + 1 => fun G w vs x hG ht hv hok => parts_step f (law_parts f) (prog_right f).2.1 G w vs x hG ht hv hok
end Go.Proofs.YtjpopekmbmcggaaGreatDoor
