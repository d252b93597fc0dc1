/- Towards nodeJoins_card: PartEach, ProgDeep, ProgCmds, RefCmds, ProgLit. Merged from smaller texts by a program of the author's. -/
import Derived.Test.YtjpopekmbmcggaaGreatDoorJ01
import Derived.Test.YtjpopekmbmcggaaGreatDoorJ04
import Derived.Test.YtjpopekmbmcggaaGreatDoorJ02
import Derived.Laws.EntriesVeiled
import Derived.Test.YtjpopekmbmcggaaGreatDoorJ03
namespace Go.Proofs.YtjpopekmbmcggaaGreatDoor
open Go.RowKit
namespace Pts
def fold {σ : Type} (step : σ → Int → Cm → σ) : Pts → σ → σ
  | nil, s => s
  | cons k _ _ kids cm rest, s => rest.fold step (kids.fold step (step s k cm))
theorem fold_rk {σ : Type} (step : σ → Int → Cm → σ) (rk : σ → Nat) (h : ∀ s k cm, rk (step s k cm) ≤ rk s + 1) : ∀ (l : Pts) (s : σ), rk (l.fold step s) ≤ rk s + l.count
  | nil, s => by simp [fold, count]
  | cons k _ _ kids cm rest, s => by
    have h0 := h s k cm
    have h1 := fold_rk step rk h kids (step s k cm)
    have h2 := fold_rk step rk h rest (kids.fold step (step s k cm))
    rw [fold, count]
    omega
end Pts
def StepOk {σ : Type} (f : Nat) (cap : Array Value) (I : σ → World → Prop) (M : World → Nat → Prop) (step : σ → Int → Cm → σ) (rk : σ → Nat) : Prop :=
  ∀ (s : σ) (w : World) (k : Int) (t o : ByteArray) (Ak : Option Addr) (n ck : Nat) (cm : Cm), I s w → rk s ≤ 1073741824 →
    Calls Tryz.prog f (#[.agg #[.int .i64 k, .string t, .string o, .slice Ak n ck, .slice cm.a cm.n cm.c]] ++ cap) w fun e w' => e = .returned (.tuple #[]) ∧ I (step s k cm) w' ∧ ∀ b, b < w.heap.size → ¬ M w b → w'.heap[b]? = w.heap[b]?
set_option maxRecDepth 100000 in
set_option maxHeartbeats 1000000 in
theorem each_any {σ : Type} (f : Nat) (cap : Array Value) (I : σ → World → Prop) (M : World → Nat → Prop) (step : σ → Int → Cm → σ) (rk : σ → Nat) (G : Nat → Prop) (w0 : World)
    (hent : ∀ args w, (callFunc f args).run Tryz.prog w = .ok (.enter f args) w) (hst : StepOk f cap I M step rk) (hM : ∀ s w ob, I s w → ¬ M (w.alloc ob) w.heap.size) (hrk : ∀ s k cm, rk (step s k cm) ≤ rk s + 1) (hal : ∀ s w ob, I s w → I s (w.alloc ob)) (hkp : ∀ s w, I s w → ∀ p : Addr, G p.block → w.cell? p = w0.cell? p ∧ p.block < w.heap.size) :
    ∀ (n : Nat) (l : Pts) (A : Option Addr) (c : Nat) (w : World) (s : σ), l.deep < n → l.wt ≤ 1073741824 → rk s + l.count ≤ 1073741824 → PtsAt G w0 A 0 l → I s w →
    Calls Tryz.prog 107 #[.slice A l.len c, .func (.func f) #[] cap] w fun e w' => e = .returned (.tuple #[]) ∧ I (l.fold step s) w' := by
  intro n
  induction n with
  | zero => intro l _ _ _ _ h; omega
  | succ n ih =>
    intro l A c w s hd hwt hcnt hp hI
    have hlw := Pts.len_wt l
    have IH := Lib.hid ih; clear ih
    have HE := Lib.hid hent; have HST := Lib.hid hst; have HMM := Lib.hid hM; have HRK := Lib.hid hrk; have HAL := Lib.hid hal; have HKP := Lib.hid hkp; have HP := Lib.hid hp; have HI := Lib.hid hI
    clear hent hst hM hrk hal hkp hp hI
    go_enter Tryz.func107, Tryz.ntmps107
    go_wp2
    go_loopw [8] (fun i wr => ∃ (k : Nat) (s1 : σ), k ≤ l.len ∧ i = .int .i64 k ∧ (l.drop k).fold step s1 = l.fold step s ∧ rk s1 + (l.drop k).count ≤ 1073741824 ∧ I s1 wr) (fun i _ => l.len - (intOf i).toNat)
    case atStart => exact ⟨0, s, by omega, rfl, by rw [Pts.drop_zero], by rw [Pts.drop_zero]; omega, HI.out⟩
    case round =>
      obtain ⟨k, s1, hk, rfl, hf, hr, hi⟩ := hrel
      have HF := Lib.hid hf; have HR := Lib.hid hr; have HII := Lib.hid hi; clear hf hr hi
      by_cases hlt : k < l.len
      · obtain ⟨pk, t, o, kids, cm, r, hdr⟩ := Pts.drop_cons k l hlt
        have hp' := (HP.out.keep (fun p hp => (HKP.out s1 wr HII.out p hp).1)).at_ k
        rw [hdr, Nat.zero_add] at hp'
        obtain ⟨b, off, Ak, ck, rfl, hg, c0, c1, c2, c3, c4, hl, h1, h2⟩ := hp'
        have hp2 := HP.out.at_ k
        rw [hdr, Nat.zero_add] at hp2
        obtain ⟨b', off', Ak', ck', hA, hg', _, _, _, c3', _, _, h1', _⟩ := hp2
        injection hA with hA
        injection hA with hA1 hA2
        subst hA1 hA2
        have e3 := (HKP.out s1 wr HII.out ⟨b, off + k * 5 + 3, none⟩ hg).1
        rw [c3, c3'] at e3
        injection e3 with e3
        injection e3 with e4 e5 e6
        subst e4 e6
        have hwd := Pts.wt_drop k l
        rw [hdr, Pts.wt] at hwd
        have hkd := Pts.deep_drop k l hdr
        have hlt0 := (HKP.out s1 wr HII.out ⟨b, 0, none⟩ hg).2
        unfold Cm.val at c4
        have hx := box_cells (heap_alloc_new wr (.cells #[.int .i64 pk, .string t, .string o, .slice Ak kids.len ck, .slice cm.a cm.n cm.c] 50))
        have hrr := HR.out
        rw [hdr, Pts.count] at hrr
        have hrk1 := HRK.out s1 pk cm
        have HKF := Lib.hid (Pts.fold_rk step rk HRK.out kids (step s1 pk cm))
        have HD := Lib.hid hdr; have HKD := Lib.hid h1'; clear hdr h2 h1 h1' c3' hg'
        have HI1 := Lib.hid (HAL.out s1 wr (.cells #[.int .i64 pk, .string t, .string o, .slice Ak kids.len ck, .slice cm.a cm.n cm.c] 50) HII.out)
        obtain ⟨z0, z1, z2, z3, z4⟩ := hx
        go_wp2_with fail
        rw [HE.out, Oper.upon_enter]
        refine (HST.out s1 _ pk t o Ak kids.len ck cm HI1.out (by omega)).mono ?_
        rintro e w1 ⟨rfl, hi1, hkm⟩
        have HI2 := Lib.hid hi1
        obtain ⟨x0, x1, x2, x3, x4⟩ := box_cells ((hkm wr.heap.size (by simp) (HMM.out s1 wr _ HII.out)).trans (heap_alloc_new wr (.cells #[.int .i64 pk, .string t, .string o, .slice Ak kids.len ck, .slice cm.a cm.n cm.c] 50)))
        clear hi1 c0 c1 c2 c3 c4 hkm z0 z1 z2 z3 z4
        go_wp2_with fail
        refine (IH.out kids Ak ck w1 (step s1 pk cm) (by omega) (by omega) (by omega) HKD.out HI2.out).mono ?_
        rintro e w2 ⟨rfl, hi2⟩
        have HI3 := Lib.hid hi2
        clear hi2
        clear x0 x1 x2 x3 x4
        go_wp2
        go_roundw
        case rel =>
          refine ⟨k + 1, kids.fold step (step s1 pk cm), by omega, by go_num, ?_, ?_, HI3.out⟩
          · rw [← HF.out, HD.out, Pts.drop_succ k l HD.out, Pts.fold]
          · have := HKF.out
            rw [Pts.drop_succ k l HD.out]
            omega
        case measure => simp only [intOf]; omega
      · go_wp2
        go_end0
        refine ⟨rfl, ?_⟩
        have h := HF.out
        rw [Pts.drop_end k l (by omega), Pts.fold] at h
        rw [← h]
        exact HII.out
end Go.Proofs.YtjpopekmbmcggaaGreatDoor
namespace Go.Proofs.YtjpopekmbmcggaaGreatDoor
open Go.RowKit
theorem word_cell {Y : World} {b : Nat} {T : TypeId} {v0 : Value} (h : Y.heap[b]? = some (.cells #[v0] T (0, 0))) : Y.cell? ⟨b, 0, none⟩ = some v0 := by simp [World.cell?, h]
end Go.Proofs.YtjpopekmbmcggaaGreatDoor
namespace Go.Proofs.YtjpopekmbmcggaaGreatDoor
open Go.RowKit
attribute [local go_sem ↓] wp_append_wr
structure CmI (B bo : Nat) (wc : World) (l : List Cm) (w : World) : Prop where
  below : Below B wc w
  row : ∃ v, w.heap[bo]? = some (.cells #[v] 56 (0, 0)) ∧ Crow B w v l
def CmM (bo : Nat) (w : World) (b : Nat) : Prop := b = bo ∨ ∃ v, w.heap[bo]? = some (.cells #[v] 56 (0, 0)) ∧ v.ownBlock = some b
section
variable {B bo : Nat} {wc : World}
theorem CmI.lt {l : List Cm} {w : World} (h : CmI B bo wc l w) : bo < w.heap.size := by
  obtain ⟨v, hh, _⟩ := h.row
  exact (Array.getElem?_eq_some_iff.1 hh).1
theorem CmI.alloc {l : List Cm} {w : World} (h : CmI B bo wc l w) (hB : B ≤ w.heap.size) (ob : Obj) : CmI B bo wc l (w.alloc ob) := by
  obtain ⟨v, hh, hr⟩ := h.row
  exact ⟨h.below.alloc hB ob, v, (Below.heap_alloc _ _ _ (Array.getElem?_eq_some_iff.1 hh).1).trans hh, hr.below ((Below.refl _ _).alloc (Nat.le_refl _) ob)⟩
theorem CmI.not_new {l : List Cm} {w : World} (ob : Obj) (h : CmI B bo wc l w) : ¬ CmM bo (w.alloc ob) w.heap.size := by
  have hlt := h.lt
  obtain ⟨v, hh, hr⟩ := h.row
  rintro (e | ⟨v', hh', e⟩)
  · omega
  · rw [Below.heap_alloc _ _ _ hlt, hh] at hh'
    injection hh' with h1
    injection h1 with h1
    have h2 : v = v' := by simpa using h1
    subst h2
    have := (hr.lt e).2
    omega
set_option maxRecDepth 100000 in
set_option maxHeartbeats 1000000 in
theorem clo_cmds (hB : B ≤ bo) (hBc : B ≤ wc.heap.size) : StepOk 108 #[.pointer (some ⟨bo, 0, none⟩)] (fun l w => CmI B bo wc l w) (CmM bo) (fun l k cm => if k = 6 then l ++ [cm] else l) List.length := by
  intro l w k t o Ak n ck cm h hl
  have hBw : B ≤ w.heap.size := Nat.le_trans hBc h.below.size
  have hlt := h.lt
  have hx := (h.alloc hBw (.cells #[.int .i64 k, .string t, .string o, .slice Ak n ck, .slice cm.a cm.n cm.c] 50))
  have HX := Lib.hid hx
  have HN := Lib.hid (show ∀ b, b < w.heap.size → (w.alloc (.cells #[.int .i64 k, .string t, .string o, .slice Ak n ck, .slice cm.a cm.n cm.c] 50)).heap[b]? = w.heap[b]? from fun b hb => Below.heap_alloc _ _ _ hb)
  obtain ⟨x0, x1, x2, x3, x4⟩ := box_cells (heap_alloc_new w (.cells #[.int .i64 k, .string t, .string o, .slice Ak n ck, .slice cm.a cm.n cm.c] 50))
  by_cases hk : k = 6
  · subst hk
    have h2 := hx.alloc (by simp; omega) (.cells #[.slice cm.a cm.n cm.c] 26)
    obtain ⟨v, hh, hr⟩ := hx.row
    have q0 := word_cell hh
    obtain ⟨v2, hh2, hr2⟩ := h2.row
    have hvv : v2 = v := by
      rw [Below.heap_alloc _ _ _ hx.lt, hh] at hh2
      injection hh2 with h1
      injection h1 with h1
      simpa using h1.symm
    subst hvv
    have hnew := word_cell (heap_alloc_new (w.alloc (.cells #[.int .i64 6, .string t, .string o, .slice Ak n ck, .slice cm.a cm.n cm.c] 50)) (.cells #[.slice cm.a cm.n cm.c] 26))
    rw [show (w.alloc (.cells #[.int .i64 6, .string t, .string o, .slice Ak n ck, .slice cm.a cm.n cm.c] 50)).heap.size = w.heap.size + 1 by simp] at hnew
    obtain ⟨v', w', hrun, hown', hgr, hat⟩ := hr2.append [cm] ⟨w.heap.size + 1, 0, none⟩ 1 (fun j u hj => by
        match j, hj with
        | 0, hj => simp only [List.map_cons, List.map_nil, List.getElem?_cons_zero, Option.some.injEq] at hj; subst hj; exact hnew
        | j + 1, hj => simp at hj) (by simp; omega) (by simp; omega)
    rw [show [cm].length = 1 from rfl] at hrun
    have hne : v2.ownBlock ≠ some bo := Lib.ownBlock_ne hr2 hh2 (by decide)
    have hh3 : w'.heap[bo]? = some (.cells #[v2] 56 (0, 0)) := (hgr.block bo h2.lt (fun e => hne e.symm)).trans hh2
    have q1 := word_cell hh3
    have fz : w'.frozen? ⟨bo, 0, none⟩ = false := by simp [World.frozen?, hh3]
    have hone : v2.oneCell' = true := by obtain ⟨A1, c1, rfl, _⟩ := hr2.shape; rfl
    obtain ⟨A', c', hv', _⟩ := hown'.shape
    have hpost : CmI B bo wc (l ++ [cm]) (w'.setCell ⟨bo, 0, none⟩ v') ∧ ∀ b, b < w.heap.size → ¬ CmM bo w b → (w'.setCell ⟨bo, 0, none⟩ v').heap[b]? = w.heap[b]? := by
      have hne' : v'.ownBlock ≠ some bo := Lib.ownBlock_ne hown' hh3 (by decide)
      refine ⟨⟨(h2.below.grown hgr (Nat.le_trans hBc h2.below.size) (fun g hg => (hr2.lt hg).1)).setCell hB _, v', by simp [World.setCell, Array.getElem?_modify, hh3], hown'.keep fun g hg => Below.heap_setCell _ _ _ _ (fun e => hne' (by rw [hg]; exact congrArg some e))⟩, fun b hb hn => ?_⟩
      rw [Below.heap_setCell _ _ _ _ (fun e => hn (.inl e)), hgr.block b (by simp; omega) (fun e => hn (.inr ⟨v2, by rw [← HN.out bo hlt]; exact hh, e.symm⟩)), Below.heap_alloc _ _ _ (by simp; omega), HN.out b hb]
    have HP := Lib.hid hpost
    clear hpost hown' hgr hat hne hone hh3 hr2 hh2 hr hh h2 hx h hnew
    rw [show (l ++ [cm]).length = l.length + 1 by simp] at hv'
    subst hv'
    unfold Cm.val at *
    go_enter Tryz.func108, Tryz.ntmps108
    go_wp2_with fail
    go_end0
    exact ⟨rfl, HP.out⟩
  · have hb6 : ((k : Int) == 6) = false := by simpa using hk
    clear h hx
    go_enter Tryz.func108, Tryz.ntmps108
    go_wp2
    go_end0
    exact ⟨rfl, HX.out, fun b hb _ => HN.out b hb⟩
end
theorem fold_cmds : ∀ (l : Pts) (m : List Cm), l.fold (fun l k cm => if k = 6 then l ++ [cm] else l) m = m ++ l.cmds
  | .nil, m => by simp [Pts.fold, Pts.cmds]
  | .cons k _ _ kids cm rest, m => by
    rw [Pts.fold, fold_cmds rest, fold_cmds kids, Pts.cmds]
    split <;> simp
theorem enter_cmds (args : Array Value) (w : World) : (callFunc 108 args).run Tryz.prog w = .ok (.enter 108 args) w := by
  simp [callFunc, go_sem, Tryz.func108, Tryz.f108]
theorem cmds_start (w : World) (v : Value) : CmI w.heap.size (w.heap.size + 1) w [] ((w.alloc (.cells #[v] 31)).alloc (.cells #[.slice none 0 0] 56)) ∧
    ((w.alloc (.cells #[v] 31)).alloc (.cells #[.slice none 0 0] 56)).cell? ⟨w.heap.size, 0, none⟩ = some v := by
  have s1 : (w.alloc (.cells #[v] 31)).heap.size = w.heap.size + 1 := by simp
  refine ⟨⟨((Below.refl _ _).alloc (Nat.le_refl _) _).alloc (by simp) _, .slice none 0 0, ?_, Crow.nothing⟩, word_cell ((Below.heap_alloc _ _ _ (by simp)).trans (heap_alloc_new w _))⟩
  rw [← s1]
  exact heap_alloc_new _ _
set_option maxRecDepth 100000 in
set_option maxHeartbeats 1000000 in
theorem cmds_p (l : Pts) (A : Option Addr) (c : Nat) (G : Nat → Prop) (w : World) (hwt : l.wt ≤ 1073741824) (hG : ∀ k, G k → k < w.heap.size) (hp : PtsAt G w A 0 l) :
    Calls Tryz.prog 40 #[.agg #[.slice A l.len c]] w fun e w' => ∃ v, e = .returned v ∧ Crow w.heap.size w' v l.cmds ∧ Below w.heap.size w w' := by
  have hcw := Pts.count_wt l
  have HG := Lib.hid hG
  have HP := Lib.hid hp
  obtain ⟨hs, q0⟩ := cmds_start w (.slice A l.len c)
  have HS := Lib.hid hs
  clear hG hp hs
  go_enter Tryz.func40, Tryz.ntmps40
  go_wp2_with fail
  clear q0
  refine (each_any 108 #[.pointer (some ⟨w.heap.size + 1, 0, none⟩)] (fun m w' => CmI w.heap.size (w.heap.size + 1) w m w') (CmM (w.heap.size + 1)) (fun l k cm => if k = 6 then l ++ [cm] else l) List.length G w enter_cmds
    (clo_cmds (by omega) (Nat.le_refl _)) (fun s w' ob h => h.not_new ob) (fun s k cm => by show (if k = 6 then s ++ [cm] else s).length ≤ _; split <;> simp) (fun s w' ob h => h.alloc h.below.size ob) (fun s w' h p hp => ⟨World.cell?_of_block (h.below.block _ (HG.out _ hp)), Nat.lt_of_lt_of_le (HG.out _ hp) h.below.size⟩) (l.deep + 1) l A c _ [] (by omega) hwt (by simp; omega) HP.out HS.out).mono ?_
  rintro e w1 ⟨rfl, h1⟩
  rw [fold_cmds, List.nil_append] at h1
  have H1 := Lib.hid h1
  obtain ⟨v, hh, hr⟩ := h1.row
  have q1 := word_cell hh
  have HR := Lib.hid hr
  clear h1 hh hr
  go_wp2
  go_ret
  exact ⟨v, rfl, HR.out, H1.out.below⟩
end Go.Proofs.YtjpopekmbmcggaaGreatDoor
namespace Go.Proofs.YtjpopekmbmcggaaGreatDoor
open Go.RowKit
attribute [local go_sem ↓] wp_append_wr
theorem Crow.joins {B B2 : Nat} {w : World} {v v2 : Value} {l m : List Cm} (h : Crow B w v l) (h2 : Crow B2 w v2 m) (hlen : l.length + m.length ≤ 1099511627776) (hB : B ≤ w.heap.size) :
    ∃ v' w', WrA Tryz.prog #[56, 56] 56 #[v, v2] w = .ok v' w' ∧ Crow B w' v' (l ++ m) ∧ w.grownBy w' v.ownBlock := by
  rcases h2.2 with ⟨rfl, hm⟩ | ⟨g, cap, cur, rfl, hg, hh, _⟩
  · obtain rfl : m = [] := List.eq_nil_of_length_eq_zero hm
    exact ⟨v, w, h.append_nil 0, by rw [List.append_nil]; exact h, ⟨rfl, rfl, rfl, Nat.le_refl _, fun _ _ _ => rfl⟩⟩
  · obtain ⟨v', w', hrun, hown, hgr, _⟩ := h.append m ⟨g, 0, none⟩ cap (fun j u hj => h2.cells j u hj) hlen hB
    exact ⟨v', w', hrun, hown, hgr⟩
end Go.Proofs.YtjpopekmbmcggaaGreatDoor
namespace Go.Proofs.YtjpopekmbmcggaaGreatDoor
open Go.RowKit
theorem quot_at : ∀ c : Fin 256, decide (0 ≤ Lib.indexByte [36, 96, 34, 92] ((c.val : Int).toNat.toUInt8)) = special24 (c.val : Int) := by decide +kernel
set_option maxRecDepth 100000 in
set_option maxHeartbeats 4000000 in
theorem quotable_p (c : Nat) (hc : c < 256) (w : World) : Calls Tryz.prog 181 #[.int .u8 (c : Int)] w fun e w' => e = .returned (.bool (special24 (c : Int))) ∧ w = w' := by
  have hq := quot_at ⟨c, hc⟩
  simp only at hq
  have HQ := Lib.hid hq; clear hq
  go_enter Tryz.func181, Tryz.ntmps181
  go_wp2_with fail
  refine (indexByte_p _ _ _).mono ?_
  rintro e w' ⟨rfl, rfl⟩
  rw [show (⟨#[36, 96, 34, 92]⟩ : ByteArray).toList = [36, 96, 34, 92] from list_mk [36, 96, 34, 92]]
  go_wp2
  go_ret
  exact ⟨by rw [← HQ.out]; rfl, rfl⟩
set_option maxRecDepth 100000 in
set_option maxHeartbeats 4000000 in
theorem opens_p (c : Nat) (hc : c < 256) (w : World) : Calls Tryz.prog 215 #[.int .u8 (c : Int)] w fun e w' => e = .returned (.bool (!dollarB c)) ∧ w = w' := by
  cases h4 : ((Chr.cls c : Int) == 4)
  · cases h3 : ((Chr.cls c : Int) == 3)
    · cases hs : Chr.special c
      · cases h123 : ((c : Int) == 123)
        · cases h40 : ((c : Int) == 40)
          · have HF := Lib.hid (show (!dollarB c) = false by simp [dollarB, bne, h4, h3, hs, h123, h40])
            go_enter Tryz.func215, Tryz.ntmps215
            go_wp2_with (first | (go_at_call 115; refine (class_p c hc _).mono ?_; rintro e w' ⟨rfl, rfl⟩) | (go_at_call 241; refine (special_p c hc _).mono ?_; rintro e w' ⟨rfl, rfl⟩))
            go_ret
            exact ⟨by rw [HF.out]; rfl, rfl⟩
          · have HF := Lib.hid (show (!dollarB c) = true by simp [dollarB, bne, h4, h3, hs, h123, h40])
            go_enter Tryz.func215, Tryz.ntmps215
            go_wp2_with (first | (go_at_call 115; refine (class_p c hc _).mono ?_; rintro e w' ⟨rfl, rfl⟩) | (go_at_call 241; refine (special_p c hc _).mono ?_; rintro e w' ⟨rfl, rfl⟩))
            go_ret
            exact ⟨by rw [HF.out]; rfl, rfl⟩
        · have HF := Lib.hid (show (!dollarB c) = true by simp [dollarB, bne, h4, h3, hs, h123])
          go_enter Tryz.func215, Tryz.ntmps215
          go_wp2_with (first | (go_at_call 115; refine (class_p c hc _).mono ?_; rintro e w' ⟨rfl, rfl⟩) | (go_at_call 241; refine (special_p c hc _).mono ?_; rintro e w' ⟨rfl, rfl⟩))
          go_ret
          exact ⟨by rw [HF.out]; rfl, rfl⟩
      · have HF := Lib.hid (show (!dollarB c) = true by simp [dollarB, bne, h4, h3, hs])
        go_enter Tryz.func215, Tryz.ntmps215
        go_wp2_with (first | (go_at_call 115; refine (class_p c hc _).mono ?_; rintro e w' ⟨rfl, rfl⟩) | (go_at_call 241; refine (special_p c hc _).mono ?_; rintro e w' ⟨rfl, rfl⟩))
        go_ret
        exact ⟨by rw [HF.out]; rfl, rfl⟩
    · have HF := Lib.hid (show (!dollarB c) = true by simp [dollarB, bne, h4, h3])
      go_enter Tryz.func215, Tryz.ntmps215
      go_wp2_with (first | (go_at_call 115; refine (class_p c hc _).mono ?_; rintro e w' ⟨rfl, rfl⟩) | (go_at_call 241; refine (special_p c hc _).mono ?_; rintro e w' ⟨rfl, rfl⟩))
      go_ret
      exact ⟨by rw [HF.out]; rfl, rfl⟩
  · have HF := Lib.hid (show (!dollarB c) = true by simp [dollarB, bne, h4])
    go_enter Tryz.func215, Tryz.ntmps215
    go_wp2_with (first | (go_at_call 115; refine (class_p c hc _).mono ?_; rintro e w' ⟨rfl, rfl⟩) | (go_at_call 241; refine (special_p c hc _).mono ?_; rintro e w' ⟨rfl, rfl⟩))
    go_ret
    exact ⟨by rw [HF.out]; rfl, rfl⟩
def holdsB (p : Nat) (c : Nat) : Bool :=
  if p = 0 then ((Chr.cls c : Int) == 3 || (Chr.cls c : Int) == 4 || (Chr.cls c : Int) == 8 || (Chr.cls c : Int) == 7)
  else if p = 1 then ((c : Int) != 34) && ((c : Int) != 96)
  else ((c : Int) != 125) && ((Chr.cls c : Int) != 6)
set_option maxRecDepth 100000 in
set_option maxHeartbeats 4000000 in
theorem holds_p0 (c : Nat) (hc : c < 256) (w : World) : Calls Tryz.prog 214 #[.int .i64 0, .int .u8 (c : Int)] w fun e w' => e = .returned (.bool (holdsB 0 c)) ∧ w = w' := by
  cases k3 : ((Chr.cls c : Int) == 3)
  · cases k4 : ((Chr.cls c : Int) == 4)
    · cases k8 : ((Chr.cls c : Int) == 8)
      · cases k7 : ((Chr.cls c : Int) == 7)
        · have HF := Lib.hid (show holdsB 0 c = false by simp [holdsB, k3, k4, k8, k7])
          go_enter Tryz.func214, Tryz.ntmps214
          go_wp2_with (go_at_call 115; refine (class_p c hc _).mono ?_; rintro e w' ⟨rfl, rfl⟩)
          go_ret
          exact ⟨by rw [HF.out]; rfl, rfl⟩
        · have HF := Lib.hid (show holdsB 0 c = true by simp [holdsB, k3, k4, k8, k7])
          go_enter Tryz.func214, Tryz.ntmps214
          go_wp2_with (go_at_call 115; refine (class_p c hc _).mono ?_; rintro e w' ⟨rfl, rfl⟩)
          go_ret
          exact ⟨by rw [HF.out]; rfl, rfl⟩
      · have HF := Lib.hid (show holdsB 0 c = true by simp [holdsB, k3, k4, k8])
        go_enter Tryz.func214, Tryz.ntmps214
        go_wp2_with (go_at_call 115; refine (class_p c hc _).mono ?_; rintro e w' ⟨rfl, rfl⟩)
        go_ret
        exact ⟨by rw [HF.out]; rfl, rfl⟩
    · have HF := Lib.hid (show holdsB 0 c = true by simp [holdsB, k3, k4])
      go_enter Tryz.func214, Tryz.ntmps214
      go_wp2_with (go_at_call 115; refine (class_p c hc _).mono ?_; rintro e w' ⟨rfl, rfl⟩)
      go_ret
      exact ⟨by rw [HF.out]; rfl, rfl⟩
  · have HF := Lib.hid (show holdsB 0 c = true by simp [holdsB, k3])
    go_enter Tryz.func214, Tryz.ntmps214
    go_wp2_with (go_at_call 115; refine (class_p c hc _).mono ?_; rintro e w' ⟨rfl, rfl⟩)
    go_ret
    exact ⟨by rw [HF.out]; rfl, rfl⟩
set_option maxRecDepth 100000 in
set_option maxHeartbeats 4000000 in
theorem holds_p1 (c : Nat) (hc : c < 256) (w : World) : Calls Tryz.prog 214 #[.int .i64 1, .int .u8 (c : Int)] w fun e w' => e = .returned (.bool (holdsB 1 c)) ∧ w = w' := by
  cases c34 : ((c : Int) != 34)
  · have HF := Lib.hid (show holdsB 1 c = false by simp [holdsB, c34])
    go_enter Tryz.func214, Tryz.ntmps214
    go_wp2_with (go_at_call 115; refine (class_p c hc _).mono ?_; rintro e w' ⟨rfl, rfl⟩)
    go_ret
    exact ⟨by rw [HF.out]; rfl, rfl⟩
  · cases c96 : ((c : Int) != 96)
    · have HF := Lib.hid (show holdsB 1 c = false by simp [holdsB, c34, c96])
      go_enter Tryz.func214, Tryz.ntmps214
      go_wp2_with (go_at_call 115; refine (class_p c hc _).mono ?_; rintro e w' ⟨rfl, rfl⟩)
      go_ret
      exact ⟨by rw [HF.out]; rfl, rfl⟩
    · have HF := Lib.hid (show holdsB 1 c = true by simp [holdsB, c34, c96])
      go_enter Tryz.func214, Tryz.ntmps214
      go_wp2_with (go_at_call 115; refine (class_p c hc _).mono ?_; rintro e w' ⟨rfl, rfl⟩)
      go_ret
      exact ⟨by rw [HF.out]; rfl, rfl⟩
set_option maxRecDepth 100000 in
set_option maxHeartbeats 4000000 in
theorem holds_p2 (c : Nat) (hc : c < 256) (w : World) : Calls Tryz.prog 214 #[.int .i64 2, .int .u8 (c : Int)] w fun e w' => e = .returned (.bool (holdsB 2 c)) ∧ w = w' := by
  cases c125 : ((c : Int) != 125)
  · have HF := Lib.hid (show holdsB 2 c = false by simp [holdsB, c125])
    go_enter Tryz.func214, Tryz.ntmps214
    go_wp2_with (go_at_call 115; refine (class_p c hc _).mono ?_; rintro e w' ⟨rfl, rfl⟩)
    go_ret
    exact ⟨by rw [HF.out]; rfl, rfl⟩
  · cases k6 : ((Chr.cls c : Int) != 6)
    · have HF := Lib.hid (show holdsB 2 c = false by simp [holdsB, c125, k6])
      go_enter Tryz.func214, Tryz.ntmps214
      go_wp2_with (go_at_call 115; refine (class_p c hc _).mono ?_; rintro e w' ⟨rfl, rfl⟩)
      go_ret
      exact ⟨by rw [HF.out]; rfl, rfl⟩
    · have HF := Lib.hid (show holdsB 2 c = true by simp [holdsB, c125, k6])
      go_enter Tryz.func214, Tryz.ntmps214
      go_wp2_with (go_at_call 115; refine (class_p c hc _).mono ?_; rintro e w' ⟨rfl, rfl⟩)
      go_ret
      exact ⟨by rw [HF.out]; rfl, rfl⟩
theorem holds_p (p : Nat) (hp : p ≤ 2) (c : Nat) (hc : c < 256) (w : World) : Calls Tryz.prog 214 #[.int .i64 p, .int .u8 (c : Int)] w fun e w' => e = .returned (.bool (holdsB p c)) ∧ w = w' := by
  have h : p = 0 ∨ p = 1 ∨ p = 2 := by omega
  rcases h with rfl | rfl | rfl
  · exact holds_p0 c hc w
  · exact holds_p1 c hc w
  · exact holds_p2 c hc w
def litQ (p : Nat) (c : Nat) (nx : Option Nat) : Bool :=
  if (c : Int) == 0 then false
  else if !holdsB p c then false
  else if (c : Int) == 36 && (match nx with | some d => !dollarB d | none => false) then false
  else !((c : Int) == 92 && (match nx with | some d => special24 d || (d : Int) == 10 | none => true))
def litA3 (p : Nat) (c : Nat) (b1 b2 : Bool) : Bool :=
  if (Chr.cls c : Int) == 0 then false
  else if (c : Int) == 36 && b1 then false
  else if p = 0 then ((Chr.cls c : Int) == 3 || (Chr.cls c : Int) == 4 || (Chr.cls c : Int) == 8 || (Chr.cls c : Int) == 7)
  else if p = 2 then !((c : Int) == 125 || (Chr.cls c : Int) == 6)
  else if (c : Int) == 34 || (c : Int) == 96 then false
  else !((c : Int) == 92 && b2)
def litQ3 (p : Nat) (c : Nat) (b1 b2 : Bool) : Bool :=
  if (c : Int) == 0 then false
  else if !holdsB p c then false
  else if (c : Int) == 36 && b1 then false
  else !((c : Int) == 92 && b2)
theorem lit3 : ∀ c : Fin 256, ∀ p : Fin 3, ∀ b1 b2 : Bool, litQ3 p.val c.val b1 b2 = litA3 p.val c.val b1 b2 := by decide +kernel
theorem litQ_eq (p : Nat) (hp : p ≤ 2) (c : Nat) (hc : c < 256) (nx : Option Nat) : litAt p c nx = litQ p c nx := by
  have := lit3 ⟨c, hc⟩ ⟨p, by omega⟩
  cases nx with
  | none => exact (this false true).symm
  | some d => exact (this (!dollarB d) (special24 d || (d : Int) == 10)).symm
set_option maxRecDepth 100000 in
set_option maxHeartbeats 4000000 in
theorem literal_p (p : Nat) (hp2 : p ≤ 2) (s : ByteArray) (w : World) (hm : s.size ≤ 1099511627776) : Calls Tryz.prog 180 #[.int .i64 p, .string s] w fun e w' => e = .returned (.bool (litB p s.toList)) ∧ w = w' := by
  go_enter Tryz.func180, Tryz.ntmps180
  go_wp2
  go_loop [10, 5] (fun i _ => ∃ k : Nat, k ≤ s.size ∧ i = .int .i64 k ∧ litGo p (s.toList.drop k) = litGo p s.toList) (fun i _ => s.size - (intOf i).toNat)
  case atStart => exact ⟨0, by omega, rfl, rfl⟩
  case round =>
    obtain ⟨k, hk, rfl, hl⟩ := hrel
    have HL := Lib.hid hl; clear hl
    by_cases hlt : k < s.size
    · by_cases hn : k + 1 < s.size
      · have hlz : ((k : Int) == (s.size : Int) - 1) = false := by rw [beq_eq_false_iff_ne]; omega
        have hnl : (k : Int) + 1 < (s.size : Int) := by omega
        have hst := litGo_step p s.toList k s[k] _ (drop_cons'' s k hlt)
        rw [drop_head s (k + 1) hn, Option.map_some, litQ_eq p hp2 _ (byte_lt s k hlt)] at hst
        have HST := Lib.hid hst; clear hst
        cases c0 : ((s[k].toNat : Int) == 0)
        · cases hh : holdsB p s[k].toNat
          · have HR := Lib.hid (show litB p s.toList = false by unfold litB; rw [← HL.out, HST.out]; simp [litQ, c0, hh])
            go_wp2_with (first | (go_at_call 214; refine (holds_p p hp2 s[k].toNat (byte_lt s k hlt) _).mono ?_; rintro e w' ⟨rfl, rfl⟩) | (go_at_call 215; refine (opens_p s[k + 1].toNat (byte_lt s (k + 1) hn) _).mono ?_; rintro e w' ⟨rfl, rfl⟩) | (go_at_call 181; refine (quotable_p s[k + 1].toNat (byte_lt s (k + 1) hn) _).mono ?_; rintro e w' ⟨rfl, rfl⟩))
            go_ret
            exact ⟨by rw [HR.out]; rfl, rfl⟩
          · cases c36 : ((s[k].toNat : Int) == 36)
            · cases c92 : ((s[k].toNat : Int) == 92)
              · have HR := Lib.hid (show litGo p (s.toList.drop (k + 1)) = litGo p s.toList by rw [← HL.out, HST.out]; simp [litQ, c0, hh, c36, c92])
                go_wp2_with (first | (go_at_call 214; refine (holds_p p hp2 s[k].toNat (byte_lt s k hlt) _).mono ?_; rintro e w' ⟨rfl, rfl⟩) | (go_at_call 215; refine (opens_p s[k + 1].toNat (byte_lt s (k + 1) hn) _).mono ?_; rintro e w' ⟨rfl, rfl⟩) | (go_at_call 181; refine (quotable_p s[k + 1].toNat (byte_lt s (k + 1) hn) _).mono ?_; rintro e w' ⟨rfl, rfl⟩))
                go_round
                case rel => exact ⟨k + 1, by omega, by go_num, HR.out⟩
                case measure => simp only [intOf]; omega
              · cases e1 : special24 (s[k + 1].toNat : Int)
                · cases e2 : ((s[k + 1].toNat : Int) == 10)
                  · have HR := Lib.hid (show litGo p (s.toList.drop (k + 1)) = litGo p s.toList by rw [← HL.out, HST.out]; simp [litQ, c0, hh, c36, c92, e1, e2])
                    go_wp2_with (first | (go_at_call 214; refine (holds_p p hp2 s[k].toNat (byte_lt s k hlt) _).mono ?_; rintro e w' ⟨rfl, rfl⟩) | (go_at_call 215; refine (opens_p s[k + 1].toNat (byte_lt s (k + 1) hn) _).mono ?_; rintro e w' ⟨rfl, rfl⟩) | (go_at_call 181; refine (quotable_p s[k + 1].toNat (byte_lt s (k + 1) hn) _).mono ?_; rintro e w' ⟨rfl, rfl⟩))
                    go_round
                    case rel => exact ⟨k + 1, by omega, by go_num, HR.out⟩
                    case measure => simp only [intOf]; omega
                  · have HR := Lib.hid (show litB p s.toList = false by unfold litB; rw [← HL.out, HST.out]; simp [litQ, c0, hh, c36, c92, e1, e2])
                    go_wp2_with (first | (go_at_call 214; refine (holds_p p hp2 s[k].toNat (byte_lt s k hlt) _).mono ?_; rintro e w' ⟨rfl, rfl⟩) | (go_at_call 215; refine (opens_p s[k + 1].toNat (byte_lt s (k + 1) hn) _).mono ?_; rintro e w' ⟨rfl, rfl⟩) | (go_at_call 181; refine (quotable_p s[k + 1].toNat (byte_lt s (k + 1) hn) _).mono ?_; rintro e w' ⟨rfl, rfl⟩))
                    go_ret
                    exact ⟨by rw [HR.out]; rfl, rfl⟩
                · have HR := Lib.hid (show litB p s.toList = false by unfold litB; rw [← HL.out, HST.out]; simp [litQ, c0, hh, c36, c92, e1])
                  go_wp2_with (first | (go_at_call 214; refine (holds_p p hp2 s[k].toNat (byte_lt s k hlt) _).mono ?_; rintro e w' ⟨rfl, rfl⟩) | (go_at_call 215; refine (opens_p s[k + 1].toNat (byte_lt s (k + 1) hn) _).mono ?_; rintro e w' ⟨rfl, rfl⟩) | (go_at_call 181; refine (quotable_p s[k + 1].toNat (byte_lt s (k + 1) hn) _).mono ?_; rintro e w' ⟨rfl, rfl⟩))
                  go_ret
                  exact ⟨by rw [HR.out]; rfl, rfl⟩
            · cases hd : dollarB s[k + 1].toNat
              · have HR := Lib.hid (show litB p s.toList = false by unfold litB; rw [← HL.out, HST.out]; simp [litQ, c0, hh, c36, hd])
                go_wp2_with (first | (go_at_call 214; refine (holds_p p hp2 s[k].toNat (byte_lt s k hlt) _).mono ?_; rintro e w' ⟨rfl, rfl⟩) | (go_at_call 215; refine (opens_p s[k + 1].toNat (byte_lt s (k + 1) hn) _).mono ?_; rintro e w' ⟨rfl, rfl⟩) | (go_at_call 181; refine (quotable_p s[k + 1].toNat (byte_lt s (k + 1) hn) _).mono ?_; rintro e w' ⟨rfl, rfl⟩))
                go_ret
                exact ⟨by rw [HR.out]; rfl, rfl⟩
              · have c92 : ((s[k].toNat : Int) == 92) = false := by rw [beq_iff_eq] at c36; rw [c36]; rfl
                have HR := Lib.hid (show litGo p (s.toList.drop (k + 1)) = litGo p s.toList by rw [← HL.out, HST.out]; simp [litQ, c0, hh, c36, hd, c92])
                go_wp2_with (first | (go_at_call 214; refine (holds_p p hp2 s[k].toNat (byte_lt s k hlt) _).mono ?_; rintro e w' ⟨rfl, rfl⟩) | (go_at_call 215; refine (opens_p s[k + 1].toNat (byte_lt s (k + 1) hn) _).mono ?_; rintro e w' ⟨rfl, rfl⟩) | (go_at_call 181; refine (quotable_p s[k + 1].toNat (byte_lt s (k + 1) hn) _).mono ?_; rintro e w' ⟨rfl, rfl⟩))
                go_round
                case rel => exact ⟨k + 1, by omega, by go_num, HR.out⟩
                case measure => simp only [intOf]; omega
        · have HR := Lib.hid (show litB p s.toList = false by unfold litB; rw [← HL.out, HST.out]; simp [litQ, c0])
          go_wp2_with (first | (go_at_call 214; refine (holds_p p hp2 s[k].toNat (byte_lt s k hlt) _).mono ?_; rintro e w' ⟨rfl, rfl⟩) | (go_at_call 215; refine (opens_p s[k + 1].toNat (byte_lt s (k + 1) hn) _).mono ?_; rintro e w' ⟨rfl, rfl⟩) | (go_at_call 181; refine (quotable_p s[k + 1].toNat (byte_lt s (k + 1) hn) _).mono ?_; rintro e w' ⟨rfl, rfl⟩))
          go_ret
          exact ⟨by rw [HR.out]; rfl, rfl⟩
      · have hlz : ((k : Int) == (s.size : Int) - 1) = true := by rw [beq_iff_eq]; omega
        have hst := litGo_step p s.toList k s[k] _ (drop_cons'' s k hlt)
        rw [drop_none s (k + 1) hn, List.head?_nil, Option.map_none, litQ_eq p hp2 _ (byte_lt s k hlt)] at hst
        have HST := Lib.hid hst; clear hst
        cases c0 : ((s[k].toNat : Int) == 0)
        · cases hh : holdsB p s[k].toNat
          · have HR := Lib.hid (show litB p s.toList = false by unfold litB; rw [← HL.out, HST.out]; simp [litQ, c0, hh])
            go_wp2_with (first | (go_at_call 214; refine (holds_p p hp2 s[k].toNat (byte_lt s k hlt) _).mono ?_; rintro e w' ⟨rfl, rfl⟩) | (go_at_call 215; refine (opens_p s[k + 1].toNat (byte_lt s (k + 1) hn) _).mono ?_; rintro e w' ⟨rfl, rfl⟩) | (go_at_call 181; refine (quotable_p s[k + 1].toNat (byte_lt s (k + 1) hn) _).mono ?_; rintro e w' ⟨rfl, rfl⟩))
            go_ret
            exact ⟨by rw [HR.out]; rfl, rfl⟩
          · cases c36 : ((s[k].toNat : Int) == 36)
            · cases c92 : ((s[k].toNat : Int) == 92)
              · have HR := Lib.hid (show litGo p (s.toList.drop (k + 1)) = litGo p s.toList by rw [← HL.out, HST.out]; simp [litQ, drop_none s (k + 1) hn, c0, hh, c36, c92])
                go_wp2_with (first | (go_at_call 214; refine (holds_p p hp2 s[k].toNat (byte_lt s k hlt) _).mono ?_; rintro e w' ⟨rfl, rfl⟩) | (go_at_call 215; refine (opens_p s[k + 1].toNat (byte_lt s (k + 1) hn) _).mono ?_; rintro e w' ⟨rfl, rfl⟩) | (go_at_call 181; refine (quotable_p s[k + 1].toNat (byte_lt s (k + 1) hn) _).mono ?_; rintro e w' ⟨rfl, rfl⟩))
                go_round
                case rel => exact ⟨k + 1, by omega, by go_num, HR.out⟩
                case measure => simp only [intOf]; omega
              · have HR := Lib.hid (show litB p s.toList = false by unfold litB; rw [← HL.out, HST.out]; simp [litQ, c0, hh, c36, c92])
                go_wp2_with (first | (go_at_call 214; refine (holds_p p hp2 s[k].toNat (byte_lt s k hlt) _).mono ?_; rintro e w' ⟨rfl, rfl⟩) | (go_at_call 215; refine (opens_p s[k + 1].toNat (byte_lt s (k + 1) hn) _).mono ?_; rintro e w' ⟨rfl, rfl⟩) | (go_at_call 181; refine (quotable_p s[k + 1].toNat (byte_lt s (k + 1) hn) _).mono ?_; rintro e w' ⟨rfl, rfl⟩))
                go_ret
                exact ⟨by rw [HR.out]; rfl, rfl⟩
            · have c92 : ((s[k].toNat : Int) == 92) = false := by rw [beq_iff_eq] at c36; rw [c36]; rfl
              have HR := Lib.hid (show litGo p (s.toList.drop (k + 1)) = litGo p s.toList by rw [← HL.out, HST.out]; simp [litQ, drop_none s (k + 1) hn, c0, hh, c36, c92])
              go_wp2_with (first | (go_at_call 214; refine (holds_p p hp2 s[k].toNat (byte_lt s k hlt) _).mono ?_; rintro e w' ⟨rfl, rfl⟩) | (go_at_call 215; refine (opens_p s[k + 1].toNat (byte_lt s (k + 1) hn) _).mono ?_; rintro e w' ⟨rfl, rfl⟩) | (go_at_call 181; refine (quotable_p s[k + 1].toNat (byte_lt s (k + 1) hn) _).mono ?_; rintro e w' ⟨rfl, rfl⟩))
              go_round
              case rel => exact ⟨k + 1, by omega, by go_num, HR.out⟩
              case measure => simp only [intOf]; omega
        · have HR := Lib.hid (show litB p s.toList = false by unfold litB; rw [← HL.out, HST.out]; simp [litQ, c0])
          go_wp2_with (first | (go_at_call 214; refine (holds_p p hp2 s[k].toNat (byte_lt s k hlt) _).mono ?_; rintro e w' ⟨rfl, rfl⟩) | (go_at_call 215; refine (opens_p s[k + 1].toNat (byte_lt s (k + 1) hn) _).mono ?_; rintro e w' ⟨rfl, rfl⟩) | (go_at_call 181; refine (quotable_p s[k + 1].toNat (byte_lt s (k + 1) hn) _).mono ?_; rintro e w' ⟨rfl, rfl⟩))
          go_ret
          exact ⟨by rw [HR.out]; rfl, rfl⟩
    · have hg : litGo p s.toList = true := by rw [← HL.out, drop_none s k hlt]; rfl
      have HR := Lib.hid (show litB p s.toList = !s.toList.isEmpty by unfold litB; rw [hg]; rfl)
      clear hg
      go_wp2
      go_ret
      exact ⟨by rw [HR.out]; rfl, rfl⟩
end Go.Proofs.YtjpopekmbmcggaaGreatDoor
