/- Towards nodeJoins_card: NdAwake. Merged from smaller texts by a program of the author's. -/
import Derived.Test.YtjpopekmbmcggaaGreatDoorJ25
import Derived.Test.YtjpopekmbmcggaaGreatDoorJ26
import Derived.Test.YtjpopekmbmcggaaGreatDoorJ27
import Derived.Test.YtjpopekmbmcggaaGreatDoorJ22
namespace Go.Proofs.YtjpopekmbmcggaaGreatDoor
open Go.RowKit
theorem SlAt.nil0 {β : Type} {G : Nat → Prop} {w : World} {sz : Nat} {R : List Value → β → Prop} : SlAt G w sz R (.slice none 0 0) [] := ⟨_, 0, rfl, Nat.le_refl _, Nat.zero_le _, fun h => absurd h (Nat.lt_irrefl _)⟩
theorem SlAt.one {β : Type} {G : Nat → Prop} {w : World} {sz : Nat} {R : List Value → β → Prop} {g : Nat} {vs : List Value} {x : β} (hg : G g) (hl : vs.length = sz) (hR : R vs x) (hc : ∀ j u, vs[j]? = some u → w.cell? ⟨g, j, none⟩ = some u) :
    SlAt G w sz R (.slice (some ⟨g, 0, none⟩) 1 1) [x] :=
  ⟨_, 1, rfl, Nat.le_refl _, by decide, fun _ => ⟨g, 0, rfl, hg, fun i hi => ⟨vs, hl, by
    obtain rfl : i = 0 := by simp at hi; omega
    exact hR, fun j u hj => by
    obtain rfl : i = 0 := by simp at hi; omega
    simpa using hc j u hj⟩⟩⟩
theorem all2_refl {β : Type} {p : β → β → Bool} (h : ∀ x, p x x = true) : ∀ l : List β, all2 p l l = true
  | [] => rfl
  | x :: l => by rw [all2, h, all2_refl h l]; rfl
theorem Nd.same_refl : ∀ (f : Nat) (x : Nd f), Nd.same f x x = true
  | 0, x => Empty.elim x
  | f + 1, x => by
    have ih := Nd.same_refl f
    have hw : ∀ y : WdF (Nd f), wordS (Nd.same f) y y = true := fun y => by rw [wordS, Pts.same_refl, all2_refl (fun l => all2_refl ih l)]; rfl
    have hr : ∀ y : RdF (Nd f), redirS (Nd.same f) y y = true := fun y => by simp [redirS, hw]
    have ha : ∀ y : ArF (Nd f), armS (Nd.same f) y y = true := fun y => by rw [armS, all2_refl hw, ih]; rfl
    have hi : ∀ l : List Int, all2 (fun x y : Int => x == y) l l = true := all2_refl (fun x => beq_self_eq_true x)
    show sameF (Nd.same f) x x = true
    simp only [sameF, all2_refl hw, all2_refl hr, all2_refl ha, all2_refl ih, hi, beq_self_eq_true, Bool.and_self]
theorem up {W : World} {o : Obj} {k : Nat} {x : Obj} (h : W.heap[k]? = some x) : (W.alloc o).heap[k]? = some x := (Below.heap_alloc _ _ _ (Array.getElem?_eq_some_iff.1 h).1).trans h
theorem six_blocks (w : World) (o0 o1 o2 o3 o4 o5 : Obj) :
    ((((((w.alloc o0).alloc o1).alloc o2).alloc o3).alloc o4).alloc o5).heap[w.heap.size]? = some o0 ∧ ((((((w.alloc o0).alloc o1).alloc o2).alloc o3).alloc o4).alloc o5).heap[w.heap.size + 1]? = some o1 ∧
    ((((((w.alloc o0).alloc o1).alloc o2).alloc o3).alloc o4).alloc o5).heap[w.heap.size + 1 + 1]? = some o2 ∧ ((((((w.alloc o0).alloc o1).alloc o2).alloc o3).alloc o4).alloc o5).heap[w.heap.size + 1 + 1 + 1]? = some o3 ∧
    ((((((w.alloc o0).alloc o1).alloc o2).alloc o3).alloc o4).alloc o5).heap[w.heap.size + 1 + 1 + 1 + 1]? = some o4 ∧ ((((((w.alloc o0).alloc o1).alloc o2).alloc o3).alloc o4).alloc o5).heap[w.heap.size + 1 + 1 + 1 + 1 + 1]? = some o5 ∧
    ((((((w.alloc o0).alloc o1).alloc o2).alloc o3).alloc o4).alloc o5).heap.size = w.heap.size + 1 + 1 + 1 + 1 + 1 + 1 ∧ Below w.heap.size w ((((((w.alloc o0).alloc o1).alloc o2).alloc o3).alloc o4).alloc o5) := by
  have k0 := heap_alloc_t w o0
  have k1 := heap_alloc_t (w.alloc o0) o1
  have k2 := heap_alloc_t ((w.alloc o0).alloc o1) o2
  have k3 := heap_alloc_t (((w.alloc o0).alloc o1).alloc o2) o3
  have k4 := heap_alloc_t ((((w.alloc o0).alloc o1).alloc o2).alloc o3) o4
  have k5 := heap_alloc_t (((((w.alloc o0).alloc o1).alloc o2).alloc o3).alloc o4) o5
  rw [show (w.alloc o0).heap.size = w.heap.size + 1 by simp] at k1
  rw [show ((w.alloc o0).alloc o1).heap.size = w.heap.size + 1 + 1 by simp] at k2
  rw [show (((w.alloc o0).alloc o1).alloc o2).heap.size = w.heap.size + 1 + 1 + 1 by simp] at k3
  rw [show ((((w.alloc o0).alloc o1).alloc o2).alloc o3).heap.size = w.heap.size + 1 + 1 + 1 + 1 by simp] at k4
  rw [show (((((w.alloc o0).alloc o1).alloc o2).alloc o3).alloc o4).heap.size = w.heap.size + 1 + 1 + 1 + 1 + 1 by simp] at k5
  exact ⟨up (up (up (up (up k0)))), up (up (up (up k1))), up (up (up k2)), up (up k3), up k4, k5, by simp, (((((((Below.refl _ _).alloc (Nat.le_refl _) _).alloc (by simp) _).alloc (by simp; omega) _).alloc (by simp; omega) _).alloc (by simp; omega) _).alloc (by simp; omega) _)⟩
def awP : Pts := .cons 1 ⟨#[97]⟩ ⟨#[]⟩ .nil ⟨none, 0, 0⟩ .nil
def awW {α : Type} : WdF α := ⟨awP, [[]]⟩
def awS {α : Type} : NdF α := NdF.mk 4 ⟨#[]⟩ false false [] [] [awW] [] [] []
def awN : NdF (Nd 1) := NdF.mk 1 ⟨#[]⟩ false false [1] [] [] [] [] [(awS : NdF (Nd 0))]
def awZ : NdF (Nd 1) := NdF.mk 0 ⟨#[]⟩ false false [] [] [] [] [] []
theorem awP_wt : awP.wt ≤ 100 := by
  have e1 := Lib.size_eq ⟨#[97]⟩
  have e3 := Lib.size_eq ⟨#[]⟩
  unfold awP
  simp only [Pts.wt, e1, e3, List.length_cons, List.length_nil]
  omega
theorem awP_right : awP.right = true := by
  have e1 := list_mk [97]
  have e3 := list_mk []
  unfold awP
  simp only [Pts.right, Pts.allP, Pts.headK, Pts.headT, Pts.len, oneB, e1, e3]
  decide
theorem awP_asg : awP.asg = none := by
  have e1 := list_mk [97]
  unfold awP
  simp only [Pts.asg, e1]
  decide
theorem awP_plt : awP.plt = some [97] := by
  have e1 := list_mk [97]
  unfold awP
  simp only [Pts.plt, e1]
  rfl
theorem awW_ok {α : Type} (v : Vw α) : wordB v awW = true := by
  have h : (awW : WdF α).cmds = [] := rfl
  unfold wordB
  rw [h, show (awW : WdF α).p = awP from rfl, awP_right]
  rfl
theorem mt_nil : (⟨#[]⟩ : ByteArray).toList.isEmpty = true := by rw [list_mk]; rfl
theorem awS_ok {α : Type} (v : Vw α) : rightF v awS = true := by
  have h : rightF v awS = (onlyB v ⟨false, false, true, true, true, false, false⟩ awS && simpleB awS) := rfl
  have h2 : simpleB (awS : NdF α) = (!awP.asg.isSome && (decide (0 < 0) || !awP.plt.isSome || (rsv (awP.plt.getD []) == 0))) := rfl
  rw [h, h2, awP_asg, awP_plt]
  have h3 : onlyB v ⟨false, false, true, true, true, false, false⟩ awS = ((⟨#[]⟩ : ByteArray).toList.isEmpty && wordB v awW) := by
    unfold onlyB bareB awS
    first | (simp; done) | (simp [mt_nil]; done)
  rw [h3, mt_nil, awW_ok]
  decide
theorem awN_ok : (Nd.vw 2).R awN = true := by
  have h : (Nd.vw 2).R awN = (onlyB (Nd.vw 1) ⟨false, true, false, false, false, false, true⟩ awN && (kidsB (Nd.vw 1) 1 2 awN && opsB 1 awN)) := rfl
  have h2 : kidsB (Nd.vw 1) 1 2 awN = (decide (1 ≤ 1) && ((decide ((2 : Int) ≤ 4) && rightF (Nd.vw 0) awS) && true)) := rfl
  have h3 : onlyB (Nd.vw 1) ⟨false, true, false, false, false, false, true⟩ awN = (⟨#[]⟩ : ByteArray).toList.isEmpty := by
    unfold onlyB bareB awN
    first | (simp; done) | (simp [mt_nil]; done)
  rw [h, h2, h3, awS_ok, mt_nil]
  decide
theorem awZ_no : (Nd.vw 2).R awZ = false := rfl
theorem awN_count : Nd.count 2 awN = 2 := rfl
theorem awR_ok {α : Type} (v : Vw α) : redirB v ⟨⟨#[]⟩, 9, awW, ⟨#[]⟩⟩ = true := by
  rw [redirB_eq, awW_ok, mt_nil]
  have h : hereB 9 (awW : WdF α).p.utx (⟨#[]⟩ : ByteArray).toList = (⟨#[]⟩ : ByteArray).toList.isEmpty := rfl
  rw [h, mt_nil]
  decide
set_option maxRecDepth 100000 in
set_option maxHeartbeats 8000000 in
theorem awake32 (w : World) (ht : RsvAt w) : Calls Tryz.prog 12 #[] w fun e w' => e = .returned (.bool true) ∧ Below w.heap.size w w' := by
  obtain ⟨k0, k1, k2, k3, k4, k5, hsz, hbw⟩ := six_blocks w (.cells #[.int .i64 1, .string ⟨#[97]⟩, .string ⟨#[]⟩, .slice none 0 0, .slice none 0 0] 50) (.cells #[.slice (some ⟨w.heap.size, 0, none⟩) 1 1] 31) (.cells #[.int .i64 1] 3) (.cells #[.slice (some ⟨w.heap.size, 0, none⟩) 1 1] 31) (.cells #[.int .i64 4, .string ⟨#[]⟩, .bool false, .bool false, .slice none 0 0, .slice none 0 0, .slice (some ⟨w.heap.size + 1 + 1 + 1, 0, none⟩) 1 1, .slice none 0 0, .slice none 0 0, .slice none 0 0] 28) (.cells #[.int .i64 1, .string ⟨#[]⟩, .bool false, .bool false, .slice (some ⟨w.heap.size + 1 + 1, 0, none⟩) 1 1, .slice none 0 0, .slice none 0 0, .slice none 0 0, .slice none 0 0, .slice (some ⟨w.heap.size + 1 + 1 + 1 + 1, 0, none⟩) 1 1] 28)
  generalize hW : ((((((w.alloc (.cells #[.int .i64 1, .string ⟨#[97]⟩, .string ⟨#[]⟩, .slice none 0 0, .slice none 0 0] 50)).alloc (.cells #[.slice (some ⟨w.heap.size, 0, none⟩) 1 1] 31)).alloc (.cells #[.int .i64 1] 3)).alloc (.cells #[.slice (some ⟨w.heap.size, 0, none⟩) 1 1] 31)).alloc (.cells #[.int .i64 4, .string ⟨#[]⟩, .bool false, .bool false, .slice none 0 0, .slice none 0 0, .slice (some ⟨w.heap.size + 1 + 1 + 1, 0, none⟩) 1 1, .slice none 0 0, .slice none 0 0, .slice none 0 0] 28)).alloc (.cells #[.int .i64 1, .string ⟨#[]⟩, .bool false, .bool false, .slice (some ⟨w.heap.size + 1 + 1, 0, none⟩) 1 1, .slice none 0 0, .slice none 0 0, .slice none 0 0, .slice none 0 0, .slice (some ⟨w.heap.size + 1 + 1 + 1 + 1, 0, none⟩) 1 1] 28)) = W at *
  have hG0 : ∀ k, Old W k → k < W.heap.size := fun _ h => h
  have hp : PtsAt (Old W) W (some ⟨w.heap.size, 0, none⟩) 0 awP := by
    unfold awP
    refine ⟨_, _, none, 0, rfl, by show _ < W.heap.size; omega, ?_, ?_, ?_, ?_, ?_, Nat.le_refl _, trivial, trivial⟩
    all_goals simp [World.cell?, k0, Cm.val, Pts.len]
  have hwd : ∀ f, WdN f (Old W) W [.slice (some ⟨w.heap.size, 0, none⟩) 1 1] awW := fun f => ⟨_, 1, rfl, Nat.le_refl _, by decide, by have := awP_wt; show awP.wt ≤ _; omega, hp, ⟨SlAt.nil0, trivial⟩⟩
  have hs : NdV 1 (Old W) W [.int .i64 4, .string ⟨#[]⟩, .bool false, .bool false, .slice none 0 0, .slice none 0 0, .slice (some ⟨w.heap.size + 1 + 1 + 1, 0, none⟩) 1 1, .slice none 0 0, .slice none 0 0, .slice none 0 0] (awS : NdF (Nd 0)) :=
    ⟨_, _, _, _, _, _, rfl, ⟨by decide, by decide⟩, SlAt.nil0, SlAt.nil0, SlAt.one (show Old W (w.heap.size + 1 + 1 + 1) by show w.heap.size + 1 + 1 + 1 < W.heap.size; omega) rfl (hwd 0) (box_at k3 _ (Below.refl _ _)), SlAt.nil0, SlAt.nil0, SlAt.nil0⟩
  have hn : NdV 2 (Old W) W [.int .i64 1, .string ⟨#[]⟩, .bool false, .bool false, .slice (some ⟨w.heap.size + 1 + 1, 0, none⟩) 1 1, .slice none 0 0, .slice none 0 0, .slice none 0 0, .slice none 0 0, .slice (some ⟨w.heap.size + 1 + 1 + 1 + 1, 0, none⟩) 1 1] awN :=
    ⟨_, _, _, _, _, _, rfl, ⟨by decide, by decide⟩, SlAt.one (show Old W (w.heap.size + 1 + 1) by show w.heap.size + 1 + 1 < W.heap.size; omega) rfl (show IntV [.int .i64 1] 1 from rfl) (box_at k2 _ (Below.refl _ _)), SlAt.nil0, SlAt.nil0, SlAt.nil0, SlAt.nil0, SlAt.one (show Old W (w.heap.size + 1 + 1 + 1 + 1) by show w.heap.size + 1 + 1 + 1 + 1 < W.heap.size; omega) rfl hs (box_at k4 _ (Below.refl _ _))⟩
  have hz : NdV 2 (Old W) W [.int .i64 0, .string ⟨#[]⟩, .bool false, .bool false, .slice none 0 0, .slice none 0 0, .slice none 0 0, .slice none 0 0, .slice none 0 0, .slice none 0 0] awZ := ⟨_, _, _, _, _, _, rfl, ⟨by decide, by decide⟩, SlAt.nil0, SlAt.nil0, SlAt.nil0, SlAt.nil0, SlAt.nil0, SlAt.nil0⟩
  have hr : RdN 1 (Old W) W [.string ⟨#[]⟩, .int .i64 9, .slice (some ⟨w.heap.size, 0, none⟩) 1 1, .string ⟨#[]⟩] ⟨⟨#[]⟩, 9, awW, ⟨#[]⟩⟩ := ⟨_, rfl, by decide, by decide, hwd 1⟩
  have c0_0 : W.cell? ⟨w.heap.size + 1 + 1 + 1 + 1 + 1, 0, none⟩ = some (.int .i64 1) := box_at k5 _ (Below.refl _ _) 0 _ rfl
  have c0_1 : W.cell? ⟨w.heap.size + 1 + 1 + 1 + 1 + 1, 1, none⟩ = some (.string ⟨#[]⟩) := box_at k5 _ (Below.refl _ _) 1 _ rfl
  have c0_2 : W.cell? ⟨w.heap.size + 1 + 1 + 1 + 1 + 1, 2, none⟩ = some (.bool false) := box_at k5 _ (Below.refl _ _) 2 _ rfl
  have c0_3 : W.cell? ⟨w.heap.size + 1 + 1 + 1 + 1 + 1, 3, none⟩ = some (.bool false) := box_at k5 _ (Below.refl _ _) 3 _ rfl
  have c0_4 : W.cell? ⟨w.heap.size + 1 + 1 + 1 + 1 + 1, 4, none⟩ = some (.slice (some ⟨w.heap.size + 1 + 1, 0, none⟩) 1 1) := box_at k5 _ (Below.refl _ _) 4 _ rfl
  have c0_5 : W.cell? ⟨w.heap.size + 1 + 1 + 1 + 1 + 1, 5, none⟩ = some (.slice none 0 0) := box_at k5 _ (Below.refl _ _) 5 _ rfl
  have c0_6 : W.cell? ⟨w.heap.size + 1 + 1 + 1 + 1 + 1, 6, none⟩ = some (.slice none 0 0) := box_at k5 _ (Below.refl _ _) 6 _ rfl
  have c0_7 : W.cell? ⟨w.heap.size + 1 + 1 + 1 + 1 + 1, 7, none⟩ = some (.slice none 0 0) := box_at k5 _ (Below.refl _ _) 7 _ rfl
  have c0_8 : W.cell? ⟨w.heap.size + 1 + 1 + 1 + 1 + 1, 8, none⟩ = some (.slice none 0 0) := box_at k5 _ (Below.refl _ _) 8 _ rfl
  have c0_9 : W.cell? ⟨w.heap.size + 1 + 1 + 1 + 1 + 1, 9, none⟩ = some (.slice (some ⟨w.heap.size + 1 + 1 + 1 + 1, 0, none⟩) 1 1) := box_at k5 _ (Below.refl _ _) 9 _ rfl
  have c0_w : W.cell? ⟨w.heap.size + 1, 0, none⟩ = some (.slice (some ⟨w.heap.size, 0, none⟩) 1 1) := box_at k1 _ (Below.refl _ _) 0 _ rfl
  have HN := Lib.hid hn; have HZ := Lib.hid hz; have HR := Lib.hid hr; have HWD := Lib.hid (hwd 1); have HG0 := Lib.hid hG0; have HT := Lib.hid ht; have HBW := Lib.hid hbw; have HB0 := Lib.hid (Below.refl W.heap.size W)
  clear hn hz hr hwd hs hp hG0 ht hbw k0 k1 k2 k3 k4 k5 hsz
  go_enter Tryz.func12, Tryz.ntmps12
  have HX := Lib.hid ((prog_right 2).2.1 _ W _ awN (old_of HG0.out HB0.out) (HT.out.below (HBW.out.trans (HB0.out.mono HBW.out.size))) (HN.out.below HG0.out HB0.out))
  go_wp2_with fail
  refine HX.out.mono ?_
  rintro e w1 ⟨he, hb⟩
  rw [awN_ok] at he; subst he
  have HB1 := Lib.hid (HB0.out.trans (hb.mono HB0.out.size))
  have c1_0 := box_keep c0_0 hb; have c1_1 := box_keep c0_1 hb; have c1_2 := box_keep c0_2 hb; have c1_3 := box_keep c0_3 hb; have c1_4 := box_keep c0_4 hb; have c1_5 := box_keep c0_5 hb; have c1_6 := box_keep c0_6 hb; have c1_7 := box_keep c0_7 hb; have c1_8 := box_keep c0_8 hb; have c1_9 := box_keep c0_9 hb; have c1_w := box_keep c0_w hb
  clear hb HX c0_0 c0_1 c0_2 c0_3 c0_4 c0_5 c0_6 c0_7 c0_8 c0_9 c0_w
  have HX := Lib.hid (word_p 1 (prog_right 1).2.1 _ w1 _ awW (old_of HG0.out HB1.out) (HT.out.below (HBW.out.trans (HB1.out.mono HBW.out.size))) (HWD.out.below HG0.out HB1.out))
  go_wp2_with fail
  refine HX.out.mono ?_
  rintro e w2 ⟨he, hb⟩
  rw [awW_ok] at he; subst he
  have HB2 := Lib.hid (HB1.out.trans (hb.mono HB1.out.size))
  have c2_0 := box_keep c1_0 hb; have c2_1 := box_keep c1_1 hb; have c2_2 := box_keep c1_2 hb; have c2_3 := box_keep c1_3 hb; have c2_4 := box_keep c1_4 hb; have c2_5 := box_keep c1_5 hb; have c2_6 := box_keep c1_6 hb; have c2_7 := box_keep c1_7 hb; have c2_8 := box_keep c1_8 hb; have c2_9 := box_keep c1_9 hb; have c2_w := box_keep c1_w hb
  clear hb HX c1_0 c1_1 c1_2 c1_3 c1_4 c1_5 c1_6 c1_7 c1_8 c1_9 c1_w
  have HX := Lib.hid (prog_same 2 _ w2 _ _ awN awN (old_of HG0.out HB2.out) (HN.out.below HG0.out HB2.out) (HN.out.below HG0.out HB2.out))
  go_wp2_with fail
  refine HX.out.mono ?_
  rintro e w3 ⟨he, hb⟩
  rw [show Nd.same 2 awN awN = true from Nd.same_refl 2 awN] at he; subst he
  have HB3 := Lib.hid (HB2.out.trans (hb.mono HB2.out.size))
  have c3_0 := box_keep c2_0 hb; have c3_1 := box_keep c2_1 hb; have c3_2 := box_keep c2_2 hb; have c3_3 := box_keep c2_3 hb; have c3_4 := box_keep c2_4 hb; have c3_5 := box_keep c2_5 hb; have c3_6 := box_keep c2_6 hb; have c3_7 := box_keep c2_7 hb; have c3_8 := box_keep c2_8 hb; have c3_9 := box_keep c2_9 hb; have c3_w := box_keep c2_w hb
  clear hb HX c2_0 c2_1 c2_2 c2_3 c2_4 c2_5 c2_6 c2_7 c2_8 c2_9 c2_w
  have HX := Lib.hid (prog_count 2 _ w3 _ awN (old_of HG0.out HB3.out) (HN.out.below HG0.out HB3.out) (by rw [awN_count]; omega))
  go_wp2_with fail
  refine HX.out.mono ?_
  rintro e w4 ⟨he, hb⟩
  rw [awN_count] at he; subst he
  have HB4 := Lib.hid (HB3.out.trans (hb.mono HB3.out.size))
  have c4_0 := box_keep c3_0 hb; have c4_1 := box_keep c3_1 hb; have c4_2 := box_keep c3_2 hb; have c4_3 := box_keep c3_3 hb; have c4_4 := box_keep c3_4 hb; have c4_5 := box_keep c3_5 hb; have c4_6 := box_keep c3_6 hb; have c4_7 := box_keep c3_7 hb; have c4_8 := box_keep c3_8 hb; have c4_9 := box_keep c3_9 hb; have c4_w := box_keep c3_w hb
  clear hb HX c3_0 c3_1 c3_2 c3_3 c3_4 c3_5 c3_6 c3_7 c3_8 c3_9 c3_w
  have HX := Lib.hid (kind_p 1 w4)
  go_wp2_with fail
  refine HX.out.mono ?_
  rintro e w5 ⟨he, hb⟩
  obtain rfl : e = .returned (.string ⟨#[108, 105, 115, 116]⟩) := he
  have HB5 := Lib.hid (HB4.out.trans (hb.mono HB4.out.size))
  have c5_0 := box_keep c4_0 hb; have c5_1 := box_keep c4_1 hb; have c5_2 := box_keep c4_2 hb; have c5_3 := box_keep c4_3 hb; have c5_4 := box_keep c4_4 hb; have c5_5 := box_keep c4_5 hb; have c5_6 := box_keep c4_6 hb; have c5_7 := box_keep c4_7 hb; have c5_8 := box_keep c4_8 hb; have c5_9 := box_keep c4_9 hb; have c5_w := box_keep c4_w hb
  clear hb HX c4_0 c4_1 c4_2 c4_3 c4_4 c4_5 c4_6 c4_7 c4_8 c4_9 c4_w
  have HX := Lib.hid ((prog_right 2).2.1 _ w5 _ awZ (old_of HG0.out HB5.out) (HT.out.below (HBW.out.trans (HB5.out.mono HBW.out.size))) (HZ.out.below HG0.out HB5.out))
  go_wp2_with fail
  refine HX.out.mono ?_
  rintro e w6 ⟨he, hb⟩
  rw [awZ_no] at he; subst he
  have HB6 := Lib.hid (HB5.out.trans (hb.mono HB5.out.size))
  have c6_0 := box_keep c5_0 hb; have c6_1 := box_keep c5_1 hb; have c6_2 := box_keep c5_2 hb; have c6_3 := box_keep c5_3 hb; have c6_4 := box_keep c5_4 hb; have c6_5 := box_keep c5_5 hb; have c6_6 := box_keep c5_6 hb; have c6_7 := box_keep c5_7 hb; have c6_8 := box_keep c5_8 hb; have c6_9 := box_keep c5_9 hb; have c6_w := box_keep c5_w hb
  clear hb HX c5_0 c5_1 c5_2 c5_3 c5_4 c5_5 c5_6 c5_7 c5_8 c5_9 c5_w
  have HX := Lib.hid (redir_n 1 (prog_right 1).2.1 _ w6 _ _ (old_of HG0.out HB6.out) (HT.out.below (HBW.out.trans (HB6.out.mono HBW.out.size))) (HR.out.below HG0.out HB6.out))
  go_wp2_with fail
  refine HX.out.mono ?_
  rintro e w7 ⟨he, hb⟩
  rw [awR_ok] at he; subst he
  have HB7 := Lib.hid (HB6.out.trans (hb.mono HB6.out.size))
  have c7_0 := box_keep c6_0 hb; have c7_1 := box_keep c6_1 hb; have c7_2 := box_keep c6_2 hb; have c7_3 := box_keep c6_3 hb; have c7_4 := box_keep c6_4 hb; have c7_5 := box_keep c6_5 hb; have c7_6 := box_keep c6_6 hb; have c7_7 := box_keep c6_7 hb; have c7_8 := box_keep c6_8 hb; have c7_9 := box_keep c6_9 hb; have c7_w := box_keep c6_w hb
  clear hb HX c6_0 c6_1 c6_2 c6_3 c6_4 c6_5 c6_6 c6_7 c6_8 c6_9 c6_w
  go_wp2_with fail
  go_ret
  exact ⟨rfl, HBW.out.trans (HB7.out.mono HBW.out.size)⟩
end Go.Proofs.YtjpopekmbmcggaaGreatDoor
