/- Towards nodeSame_card: NdRsv, PartEach, ProgDeep, ProgCmds, RefCmds. Merged from smaller texts by a program of the author's. -/
import Derived.Test.YtjpopekmbmcggaaGreatDoorSa07
import Derived.Test.YtjpopekmbmcggaaGreatDoorSa04
import Derived.Test.YtjpopekmbmcggaaGreatDoorSa01
import Derived.Test.YtjpopekmbmcggaaGreatDoorSa02
import Derived.Laws.EntriesVeiled
namespace Go.Proofs.YtjpopekmbmcggaaGreatDoor
open Go.RowKit
def rsvVals : Array Value := (rsvL.map bs).toArray
def RsvAt (w : World) : Prop := ∃ t fr, w.heap[0]? = some (.cells rsvVals t fr)
theorem RsvAt.below {w w' : World} (h : RsvAt w) (hb : Below w.heap.size w w') : RsvAt w' := by
  obtain ⟨t, fr, hg⟩ := h
  exact ⟨t, fr, (hb.block 0 (Array.getElem?_eq_some_iff.1 hg).1).trans hg⟩
def rsvT (k : Nat) : List UInt8 := rsvL.getD k []
theorem cell_rsv (k : Nat) (h : k < 16) {w : World} (ht : RsvAt w) : w.cell? ⟨0, k, none⟩ = some (bs (rsvT k)) := by
  obtain ⟨t, fr, hg⟩ := ht
  rw [cell_of_row w 0 k rsvVals t fr hg]
  have : ∀ k : Fin 16, rsvVals[k.val]? = some (bs (rsvT k.val)) := fun k => by
    unfold rsvVals rsvT
    have hl : k.val < rsvL.length := by simp [rsvL]
    simp [List.getD, List.getElem?_eq_getElem hl]
  exact this ⟨k, h⟩
theorem rsvGo_drop (s : List UInt8) : ∀ k, k < 16 → rsvGo s (rsvL.drop k) (23 + k) = if rsvT k = s then (23 : Int) + k else rsvGo s (rsvL.drop (k + 1)) (23 + ((k + 1 : Nat) : Int)) := by
  have : ∀ k : Fin 16, rsvL.drop k.val = rsvT k.val :: rsvL.drop (k.val + 1) := by decide
  intro k hk
  rw [this ⟨k, hk⟩, rsvGo]
  simp only [Int.natCast_add, Int.natCast_one, ← Int.add_assoc]
set_option maxRecDepth 100000 in
set_option maxHeartbeats 1000000 in
theorem rsv_p (s : ByteArray) (w : World) (ht : RsvAt w) : Calls Tryz.prog 143 #[.string s] w fun e w' => e = .returned (.int .i64 (rsv s.toList)) ∧ w = w' := by
  have HT := Lib.hid ht
  clear ht
  go_enter Tryz.func143, Tryz.ntmps143
  go_wp2
  go_loop [4] (fun i => ∃ k : Nat, k ≤ 16 ∧ i = .int .i64 k ∧ rsvGo s.toList (rsvL.drop k) (23 + k) = rsv s.toList) (fun i => 16 - (intOf i).toNat)
  case atStart => exact ⟨0, by omega, rfl, rfl⟩
  case round =>
    obtain ⟨k, hk, rfl, hf⟩ := hrel
    have H := Lib.hid hf; clear hf
    by_cases hlt : k < 16
    · have hc := cell_rsv k hlt HT.out
      unfold bs at hc
      have HD := Lib.hid (rsvGo_drop s.toList k hlt)
      cases he : rsvT k == s.toList
      · have HE := Lib.hid (show ¬ rsvT k = s.toList from fun h => by simp [h] at he)
        go_wp2
        go_round
        case rel => exact ⟨k + 1, by omega, by go_num, by rw [← H.out, HD.out, if_neg HE.out]⟩
        case measure => simp only [intOf]; omega
      · have HE := Lib.hid (show rsvT k = s.toList from by simpa using he)
        go_wp2
        go_ret
        exact ⟨ret_int (by rw [← H.out, HD.out, if_pos HE.out]), rfl⟩
    · obtain rfl : k = 16 := by omega
      go_wp2
      go_ret
      exact ⟨ret_int (by rw [← H.out]; rfl), rfl⟩
end Go.Proofs.YtjpopekmbmcggaaGreatDoor
namespace Go.Proofs.YtjpopekmbmcggaaGreatDoor
open Go.RowKit
namespace Pts
def fold {σ : Type} (step : σ → Int → Cm → σ) : Pts → σ → σ
  | nil, s => s
  | cons k _ _ kids cm rest, s => rest.fold step (kids.fold step (step s k cm))
theorem fold_rk {σ : Type} (step : σ → Int → Cm → σ) (rk : σ → Nat) (h : ∀ s k cm, rk (step s k cm) ≤ rk s + 1) : ∀ (l : Pts) (s : σ), rk (l.fold step s) ≤ rk s + l.count
  | nil, s => by simp [fold, count]
  | cons k _ _ kids cm rest, s => by
    have h0 := h s k cm
    have h1 := fold_rk step rk h kids (step s k cm)
    have h2 := fold_rk step rk h rest (kids.fold step (step s k cm))
    rw [fold, count]
    omega
end Pts
def StepOk {σ : Type} (f : Nat) (cap : Array Value) (I : σ → World → Prop) (M : World → Nat → Prop) (step : σ → Int → Cm → σ) (rk : σ → Nat) : Prop :=
  ∀ (s : σ) (w : World) (k : Int) (t o : ByteArray) (Ak : Option Addr) (n ck : Nat) (cm : Cm), I s w → rk s ≤ 1073741824 →
    Calls Tryz.prog f (#[.agg #[.int .i64 k, .string t, .string o, .slice Ak n ck, .slice cm.a cm.n cm.c]] ++ cap) w fun e w' => e = .returned (.tuple #[]) ∧ I (step s k cm) w' ∧ ∀ b, b < w.heap.size → ¬ M w b → w'.heap[b]? = w.heap[b]?
set_option maxRecDepth 100000 in
set_option maxHeartbeats 1000000 in
theorem each_any {σ : Type} (f : Nat) (cap : Array Value) (I : σ → World → Prop) (M : World → Nat → Prop) (step : σ → Int → Cm → σ) (rk : σ → Nat) (G : Nat → Prop) (w0 : World)
    (hent : ∀ args w, (callFunc f args).run Tryz.prog w = .ok (.enter f args) w) (hst : StepOk f cap I M step rk) (hM : ∀ s w ob, I s w → ¬ M (w.alloc ob) w.heap.size) (hrk : ∀ s k cm, rk (step s k cm) ≤ rk s + 1) (hal : ∀ s w ob, I s w → I s (w.alloc ob)) (hkp : ∀ s w, I s w → ∀ p : Addr, G p.block → w.cell? p = w0.cell? p ∧ p.block < w.heap.size) :
    ∀ (n : Nat) (l : Pts) (A : Option Addr) (c : Nat) (w : World) (s : σ), l.deep < n → l.wt ≤ 1073741824 → rk s + l.count ≤ 1073741824 → PtsAt G w0 A 0 l → I s w →
    Calls Tryz.prog 107 #[.slice A l.len c, .func (.func f) #[] cap] w fun e w' => e = .returned (.tuple #[]) ∧ I (l.fold step s) w' := by
  intro n
  induction n with
  | zero => intro l _ _ _ _ h; omega
  | succ n ih =>
    intro l A c w s hd hwt hcnt hp hI
    have hlw := Pts.len_wt l
    have IH := Lib.hid ih; clear ih
    have HE := Lib.hid hent; have HST := Lib.hid hst; have HMM := Lib.hid hM; have HRK := Lib.hid hrk; have HAL := Lib.hid hal; have HKP := Lib.hid hkp; have HP := Lib.hid hp; have HI := Lib.hid hI
    clear hent hst hM hrk hal hkp hp hI
    go_enter Tryz.func107, Tryz.ntmps107
    go_wp2
    go_loopw [8] (fun i wr => ∃ (k : Nat) (s1 : σ), k ≤ l.len ∧ i = .int .i64 k ∧ (l.drop k).fold step s1 = l.fold step s ∧ rk s1 + (l.drop k).count ≤ 1073741824 ∧ I s1 wr) (fun i _ => l.len - (intOf i).toNat)
    case atStart => exact ⟨0, s, by omega, rfl, by rw [Pts.drop_zero], by rw [Pts.drop_zero]; omega, HI.out⟩
    case round =>
      obtain ⟨k, s1, hk, rfl, hf, hr, hi⟩ := hrel
      have HF := Lib.hid hf; have HR := Lib.hid hr; have HII := Lib.hid hi; clear hf hr hi
      by_cases hlt : k < l.len
      · obtain ⟨pk, t, o, kids, cm, r, hdr⟩ := Pts.drop_cons k l hlt
        have hp' := (HP.out.keep (fun p hp => (HKP.out s1 wr HII.out p hp).1)).at_ k
        rw [hdr, Nat.zero_add] at hp'
        obtain ⟨b, off, Ak, ck, rfl, hg, c0, c1, c2, c3, c4, hl, h1, h2⟩ := hp'
        have hp2 := HP.out.at_ k
        rw [hdr, Nat.zero_add] at hp2
        obtain ⟨b', off', Ak', ck', hA, hg', _, _, _, c3', _, _, h1', _⟩ := hp2
        injection hA with hA
        injection hA with hA1 hA2
        subst hA1 hA2
        have e3 := (HKP.out s1 wr HII.out ⟨b, off + k * 5 + 3, none⟩ hg).1
        rw [c3, c3'] at e3
        injection e3 with e3
        injection e3 with e4 e5 e6
        subst e4 e6
        have hwd := Pts.wt_drop k l
        rw [hdr, Pts.wt] at hwd
        have hkd := Pts.deep_drop k l hdr
        have hlt0 := (HKP.out s1 wr HII.out ⟨b, 0, none⟩ hg).2
        unfold Cm.val at c4
        have hx := box_cells (heap_alloc_new wr (.cells #[.int .i64 pk, .string t, .string o, .slice Ak kids.len ck, .slice cm.a cm.n cm.c] 50))
        have hrr := HR.out
        rw [hdr, Pts.count] at hrr
        have hrk1 := HRK.out s1 pk cm
        have HKF := Lib.hid (Pts.fold_rk step rk HRK.out kids (step s1 pk cm))
        have HD := Lib.hid hdr; have HKD := Lib.hid h1'; clear hdr h2 h1 h1' c3' hg'
        have HI1 := Lib.hid (HAL.out s1 wr (.cells #[.int .i64 pk, .string t, .string o, .slice Ak kids.len ck, .slice cm.a cm.n cm.c] 50) HII.out)
        obtain ⟨z0, z1, z2, z3, z4⟩ := hx
        go_wp2_with fail
        rw [HE.out, Oper.upon_enter]
        refine (HST.out s1 _ pk t o Ak kids.len ck cm HI1.out (by omega)).mono ?_
        rintro e w1 ⟨rfl, hi1, hkm⟩
        have HI2 := Lib.hid hi1
        obtain ⟨x0, x1, x2, x3, x4⟩ := box_cells ((hkm wr.heap.size (by simp) (HMM.out s1 wr _ HII.out)).trans (heap_alloc_new wr (.cells #[.int .i64 pk, .string t, .string o, .slice Ak kids.len ck, .slice cm.a cm.n cm.c] 50)))
        clear hi1 c0 c1 c2 c3 c4 hkm z0 z1 z2 z3 z4
        go_wp2_with fail
        refine (IH.out kids Ak ck w1 (step s1 pk cm) (by omega) (by omega) (by omega) HKD.out HI2.out).mono ?_
        rintro e w2 ⟨rfl, hi2⟩
        have HI3 := Lib.hid hi2
        clear hi2
        clear x0 x1 x2 x3 x4
        go_wp2
        go_roundw
        case rel =>
          refine ⟨k + 1, kids.fold step (step s1 pk cm), by omega, by go_num, ?_, ?_, HI3.out⟩
          · rw [← HF.out, HD.out, Pts.drop_succ k l HD.out, Pts.fold]
          · have := HKF.out
            rw [Pts.drop_succ k l HD.out]
            omega
        case measure => simp only [intOf]; omega
      · go_wp2
        go_end0
        refine ⟨rfl, ?_⟩
        have h := HF.out
        rw [Pts.drop_end k l (by omega), Pts.fold] at h
        rw [← h]
        exact HII.out
end Go.Proofs.YtjpopekmbmcggaaGreatDoor
namespace Go.Proofs.YtjpopekmbmcggaaGreatDoor
open Go.RowKit
theorem word_cell {Y : World} {b : Nat} {T : TypeId} {v0 : Value} (h : Y.heap[b]? = some (.cells #[v0] T (0, 0))) : Y.cell? ⟨b, 0, none⟩ = some v0 := by simp [World.cell?, h]
end Go.Proofs.YtjpopekmbmcggaaGreatDoor
namespace Go.Proofs.YtjpopekmbmcggaaGreatDoor
open Go.RowKit
attribute [local go_sem ↓] wp_append_wr
structure CmI (B bo : Nat) (wc : World) (l : List Cm) (w : World) : Prop where
  below : Below B wc w
  row : ∃ v, w.heap[bo]? = some (.cells #[v] 56 (0, 0)) ∧ Crow B w v l
def CmM (bo : Nat) (w : World) (b : Nat) : Prop := b = bo ∨ ∃ v, w.heap[bo]? = some (.cells #[v] 56 (0, 0)) ∧ v.ownBlock = some b
section
variable {B bo : Nat} {wc : World}
theorem CmI.lt {l : List Cm} {w : World} (h : CmI B bo wc l w) : bo < w.heap.size := by
  obtain ⟨v, hh, _⟩ := h.row
  exact (Array.getElem?_eq_some_iff.1 hh).1
theorem CmI.alloc {l : List Cm} {w : World} (h : CmI B bo wc l w) (hB : B ≤ w.heap.size) (ob : Obj) : CmI B bo wc l (w.alloc ob) := by
  obtain ⟨v, hh, hr⟩ := h.row
  exact ⟨h.below.alloc hB ob, v, (Below.heap_alloc _ _ _ (Array.getElem?_eq_some_iff.1 hh).1).trans hh, hr.below ((Below.refl _ _).alloc (Nat.le_refl _) ob)⟩
theorem CmI.not_new {l : List Cm} {w : World} (ob : Obj) (h : CmI B bo wc l w) : ¬ CmM bo (w.alloc ob) w.heap.size := by
  have hlt := h.lt
  obtain ⟨v, hh, hr⟩ := h.row
  rintro (e | ⟨v', hh', e⟩)
  · omega
  · rw [Below.heap_alloc _ _ _ hlt, hh] at hh'
    injection hh' with h1
    injection h1 with h1
    have h2 : v = v' := by simpa using h1
    subst h2
    have := (hr.lt e).2
    omega
set_option maxRecDepth 100000 in
set_option maxHeartbeats 1000000 in
theorem clo_cmds (hB : B ≤ bo) (hBc : B ≤ wc.heap.size) : StepOk 108 #[.pointer (some ⟨bo, 0, none⟩)] (fun l w => CmI B bo wc l w) (CmM bo) (fun l k cm => if k = 6 then l ++ [cm] else l) List.length := by
  intro l w k t o Ak n ck cm h hl
  have hBw : B ≤ w.heap.size := Nat.le_trans hBc h.below.size
  have hlt := h.lt
  have hx := (h.alloc hBw (.cells #[.int .i64 k, .string t, .string o, .slice Ak n ck, .slice cm.a cm.n cm.c] 50))
  have HX := Lib.hid hx
  have HN := Lib.hid (show ∀ b, b < w.heap.size → (w.alloc (.cells #[.int .i64 k, .string t, .string o, .slice Ak n ck, .slice cm.a cm.n cm.c] 50)).heap[b]? = w.heap[b]? from fun b hb => Below.heap_alloc _ _ _ hb)
  obtain ⟨x0, x1, x2, x3, x4⟩ := box_cells (heap_alloc_new w (.cells #[.int .i64 k, .string t, .string o, .slice Ak n ck, .slice cm.a cm.n cm.c] 50))
  by_cases hk : k = 6
  · subst hk
    have h2 := hx.alloc (by simp; omega) (.cells #[.slice cm.a cm.n cm.c] 26)
    obtain ⟨v, hh, hr⟩ := hx.row
    have q0 := word_cell hh
    obtain ⟨v2, hh2, hr2⟩ := h2.row
    have hvv : v2 = v := by
      rw [Below.heap_alloc _ _ _ hx.lt, hh] at hh2
      injection hh2 with h1
      injection h1 with h1
      simpa using h1.symm
    subst hvv
    have hnew := word_cell (heap_alloc_new (w.alloc (.cells #[.int .i64 6, .string t, .string o, .slice Ak n ck, .slice cm.a cm.n cm.c] 50)) (.cells #[.slice cm.a cm.n cm.c] 26))
    rw [show (w.alloc (.cells #[.int .i64 6, .string t, .string o, .slice Ak n ck, .slice cm.a cm.n cm.c] 50)).heap.size = w.heap.size + 1 by simp] at hnew
    obtain ⟨v', w', hrun, hown', hgr, hat⟩ := hr2.append [cm] ⟨w.heap.size + 1, 0, none⟩ 1 (fun j u hj => by
        match j, hj with
        | 0, hj => simp only [List.map_cons, List.map_nil, List.getElem?_cons_zero, Option.some.injEq] at hj; subst hj; exact hnew
        | j + 1, hj => simp at hj) (by simp; omega) (by simp; omega)
    rw [show [cm].length = 1 from rfl] at hrun
    have hne : v2.ownBlock ≠ some bo := Lib.ownBlock_ne hr2 hh2 (by decide)
    have hh3 : w'.heap[bo]? = some (.cells #[v2] 56 (0, 0)) := (hgr.block bo h2.lt (fun e => hne e.symm)).trans hh2
    have q1 := word_cell hh3
    have fz : w'.frozen? ⟨bo, 0, none⟩ = false := by simp [World.frozen?, hh3]
    have hone : v2.oneCell' = true := by obtain ⟨A1, c1, rfl, _⟩ := hr2.shape; rfl
    obtain ⟨A', c', hv', _⟩ := hown'.shape
    have hpost : CmI B bo wc (l ++ [cm]) (w'.setCell ⟨bo, 0, none⟩ v') ∧ ∀ b, b < w.heap.size → ¬ CmM bo w b → (w'.setCell ⟨bo, 0, none⟩ v').heap[b]? = w.heap[b]? := by
      have hne' : v'.ownBlock ≠ some bo := Lib.ownBlock_ne hown' hh3 (by decide)
      refine ⟨⟨(h2.below.grown hgr (Nat.le_trans hBc h2.below.size) (fun g hg => (hr2.lt hg).1)).setCell hB _, v', by simp [World.setCell, Array.getElem?_modify, hh3], hown'.keep fun g hg => Below.heap_setCell _ _ _ _ (fun e => hne' (by rw [hg]; exact congrArg some e))⟩, fun b hb hn => ?_⟩
      rw [Below.heap_setCell _ _ _ _ (fun e => hn (.inl e)), hgr.block b (by simp; omega) (fun e => hn (.inr ⟨v2, by rw [← HN.out bo hlt]; exact hh, e.symm⟩)), Below.heap_alloc _ _ _ (by simp; omega), HN.out b hb]
    have HP := Lib.hid hpost
    clear hpost hown' hgr hat hne hone hh3 hr2 hh2 hr hh h2 hx h hnew
    rw [show (l ++ [cm]).length = l.length + 1 by simp] at hv'
    subst hv'
    unfold Cm.val at *
    go_enter Tryz.func108, Tryz.ntmps108
    go_wp2_with fail
    go_end0
    exact ⟨rfl, HP.out⟩
  · have hb6 : ((k : Int) == 6) = false := by simpa using hk
    clear h hx
    go_enter Tryz.func108, Tryz.ntmps108
    go_wp2
    go_end0
    exact ⟨rfl, HX.out, fun b hb _ => HN.out b hb⟩
end
theorem fold_cmds : ∀ (l : Pts) (m : List Cm), l.fold (fun l k cm => if k = 6 then l ++ [cm] else l) m = m ++ l.cmds
  | .nil, m => by simp [Pts.fold, Pts.cmds]
  | .cons k _ _ kids cm rest, m => by
    rw [Pts.fold, fold_cmds rest, fold_cmds kids, Pts.cmds]
    split <;> simp
theorem enter_cmds (args : Array Value) (w : World) : (callFunc 108 args).run Tryz.prog w = .ok (.enter 108 args) w := by
  simp [callFunc, go_sem, Tryz.func108, Tryz.f108]
theorem cmds_start (w : World) (v : Value) : CmI w.heap.size (w.heap.size + 1) w [] ((w.alloc (.cells #[v] 31)).alloc (.cells #[.slice none 0 0] 56)) ∧
    ((w.alloc (.cells #[v] 31)).alloc (.cells #[.slice none 0 0] 56)).cell? ⟨w.heap.size, 0, none⟩ = some v := by
  have s1 : (w.alloc (.cells #[v] 31)).heap.size = w.heap.size + 1 := by simp
  refine ⟨⟨((Below.refl _ _).alloc (Nat.le_refl _) _).alloc (by simp) _, .slice none 0 0, ?_, Crow.nothing⟩, word_cell ((Below.heap_alloc _ _ _ (by simp)).trans (heap_alloc_new w _))⟩
  rw [← s1]
  exact heap_alloc_new _ _
set_option maxRecDepth 100000 in
set_option maxHeartbeats 1000000 in
theorem cmds_p (l : Pts) (A : Option Addr) (c : Nat) (G : Nat → Prop) (w : World) (hwt : l.wt ≤ 1073741824) (hG : ∀ k, G k → k < w.heap.size) (hp : PtsAt G w A 0 l) :
    Calls Tryz.prog 40 #[.agg #[.slice A l.len c]] w fun e w' => ∃ v, e = .returned v ∧ Crow w.heap.size w' v l.cmds ∧ Below w.heap.size w w' := by
  have hcw := Pts.count_wt l
  have HG := Lib.hid hG
  have HP := Lib.hid hp
  obtain ⟨hs, q0⟩ := cmds_start w (.slice A l.len c)
  have HS := Lib.hid hs
  clear hG hp hs
  go_enter Tryz.func40, Tryz.ntmps40
  go_wp2_with fail
  clear q0
  refine (each_any 108 #[.pointer (some ⟨w.heap.size + 1, 0, none⟩)] (fun m w' => CmI w.heap.size (w.heap.size + 1) w m w') (CmM (w.heap.size + 1)) (fun l k cm => if k = 6 then l ++ [cm] else l) List.length G w enter_cmds
    (clo_cmds (by omega) (Nat.le_refl _)) (fun s w' ob h => h.not_new ob) (fun s k cm => by show (if k = 6 then s ++ [cm] else s).length ≤ _; split <;> simp) (fun s w' ob h => h.alloc h.below.size ob) (fun s w' h p hp => ⟨World.cell?_of_block (h.below.block _ (HG.out _ hp)), Nat.lt_of_lt_of_le (HG.out _ hp) h.below.size⟩) (l.deep + 1) l A c _ [] (by omega) hwt (by simp; omega) HP.out HS.out).mono ?_
  rintro e w1 ⟨rfl, h1⟩
  rw [fold_cmds, List.nil_append] at h1
  have H1 := Lib.hid h1
  obtain ⟨v, hh, hr⟩ := h1.row
  have q1 := word_cell hh
  have HR := Lib.hid hr
  clear h1 hh hr
  go_wp2
  go_ret
  exact ⟨v, rfl, HR.out, H1.out.below⟩
end Go.Proofs.YtjpopekmbmcggaaGreatDoor
namespace Go.Proofs.YtjpopekmbmcggaaGreatDoor
open Go.RowKit
attribute [local go_sem ↓] wp_append_wr
theorem Crow.joins {B B2 : Nat} {w : World} {v v2 : Value} {l m : List Cm} (h : Crow B w v l) (h2 : Crow B2 w v2 m) (hlen : l.length + m.length ≤ 1099511627776) (hB : B ≤ w.heap.size) :
    ∃ v' w', WrA Tryz.prog #[56, 56] 56 #[v, v2] w = .ok v' w' ∧ Crow B w' v' (l ++ m) ∧ w.grownBy w' v.ownBlock := by
  rcases h2.2 with ⟨rfl, hm⟩ | ⟨g, cap, cur, rfl, hg, hh, _⟩
  · obtain rfl : m = [] := List.eq_nil_of_length_eq_zero hm
    exact ⟨v, w, h.append_nil 0, by rw [List.append_nil]; exact h, ⟨rfl, rfl, rfl, Nat.le_refl _, fun _ _ _ => rfl⟩⟩
  · obtain ⟨v', w', hrun, hown, hgr, _⟩ := h.append m ⟨g, 0, none⟩ cap (fun j u hj => h2.cells j u hj) hlen hB
    exact ⟨v', w', hrun, hown, hgr⟩
set_option maxRecDepth 100000 in
set_option maxHeartbeats 1000000 in
theorem cmds_any : ∀ (n : Nat) (l : Pts) (G : Nat → Prop) (A : Option Addr) (c : Nat) (w : World), l.deep < n → l.wt ≤ 1073741824 → (∀ k, G k → k < w.heap.size) → PtsAt G w A 0 l →
    Calls Tryz.prog 43 #[.slice A l.len c] w fun e w' => ∃ v, e = .returned v ∧ Crow w.heap.size w' v l.cmds ∧ Below w.heap.size w w' := by
  intro n
  induction n with
  | zero => intro l _ _ _ _ h; omega
  | succ n ih =>
    intro l G A c w hd hwt hG hp
    have hlw := Pts.len_wt l
    have hcw := Pts.count_wt l
    have hcc := Pts.cmds_count l
    have IH := Lib.hid ih; clear ih
    have HG := Lib.hid hG; have HP := Lib.hid hp; clear hG hp
    go_enter Tryz.func43, Tryz.ntmps43
    go_wp2
    go_loopw [3, 4] (fun s i wr => ∃ (k : Nat) (done : List Cm), k ≤ l.len ∧ i = .int .i64 k ∧ Crow w.heap.size wr s done ∧ done ++ (l.drop k).cmds = l.cmds ∧ Below w.heap.size w wr) (fun _ i _ => l.len - (intOf i).toNat)
    case atStart => exact ⟨0, [], by omega, rfl, Crow.nothing, by rw [Pts.drop_zero]; rfl, Below.refl _ _⟩
    case round =>
      obtain ⟨k, done, hk, rfl, hr, hf, hb⟩ := hrel
      have hdl : done.length ≤ 1073741824 := by
        have := congrArg List.length hf
        rw [List.length_append] at this
        omega
      have HF := Lib.hid hf; have HB := Lib.hid hb; have HR := Lib.hid hr; clear hf hb hr
      by_cases hlt : k < l.len
      · obtain ⟨pk, t, o, kids, cm, r, hdr⟩ := Pts.drop_cons k l hlt
        have hp' := (HP.out.old HG.out HB.out).at_ k
        rw [hdr, Nat.zero_add] at hp'
        obtain ⟨b, off, Ak, ck, rfl, hg, c0, c1, c2, c3, c4, hl, h1, h2⟩ := hp'
        have hwd := Pts.wt_drop k l
        rw [hdr, Pts.wt] at hwd
        have hkw := Pts.count_wt kids
        have hkc := Pts.cmds_count kids
        have hkd := Pts.deep_drop k l hdr
        have hG' : ∀ g, G g → g < wr.heap.size := fun g hg => Nat.lt_of_lt_of_le (HG.out g hg) HB.out.size
        have HD := Lib.hid hdr; clear hdr h2
        have HK := Lib.hid h1
        have HGW := Lib.hid hG'
        have HGB := Lib.hid (HG.out b hg)
        clear h1 hG' hg
        unfold Cm.val at c4
        by_cases h6 : pk = 6
        · subst h6
          have hx := HR.out.below ((Below.refl _ _).alloc (Nat.le_refl _) (.cells #[.slice cm.a cm.n cm.c] 26))
          have hnew := word_cell (heap_alloc_new wr (.cells #[.slice cm.a cm.n cm.c] 26))
          obtain ⟨v1, w1, hrun1, hown1, hgr1, _⟩ := hx.append [cm] ⟨wr.heap.size, 0, none⟩ 1 (fun j u hj => by
            match j, hj with
            | 0, hj => simp only [List.map_cons, List.map_nil, List.getElem?_cons_zero, Option.some.injEq] at hj; subst hj; exact hnew
            | j + 1, hj => simp at hj) (by simp; omega) (by simp; have := HB.out.size; omega)
          rw [show [cm].length = 1 from rfl] at hrun1
          have hb1 : Below w.heap.size w w1 := (HB.out.alloc HB.out.size _).grown hgr1 (by simp; have := HB.out.size; omega) (fun g hg => (hx.lt hg).1)
          have q3 : w1.cell? ⟨b, off + k * 5 + 3, none⟩ = some (.slice Ak kids.len ck) := by
            have e1 := HB.out.cell (p := ⟨b, off + k * 5 + 3, none⟩) HGB.out
            have e2 := hb1.cell (p := ⟨b, off + k * 5 + 3, none⟩) HGB.out
            rw [e2, ← e1]
            exact c3
          have HK1 := Lib.hid (show PtsAt G w1 Ak 0 kids from HK.out.keep fun p hp => (hb1.cell (HG.out _ hp)).trans (HB.out.cell (HG.out _ hp)).symm)
          have HG1 := Lib.hid (show ∀ g, G g → g < w1.heap.size from fun g hg => Nat.lt_of_lt_of_le (HG.out g hg) hb1.size)
          have HO1 := Lib.hid hown1
          have HB1 := Lib.hid hb1
          clear hx hnew hown1 hgr1 hb1
          go_wp2_with fail
          refine (IH.out kids G Ak ck w1 (by omega) (by omega) HG1.out HK1.out).mono ?_
          rintro e w2 ⟨v2, rfl, hr2, hb2⟩
          have ho2 := HO1.out.below hb2
          obtain ⟨v3, w3, hrun3, hown3, hgr3⟩ := ho2.joins hr2 (by simp; omega) (Nat.le_trans HB1.out.size hb2.size)
          have HB3 := Lib.hid (((HB1.out.trans (hb2.mono HB1.out.size))).grown hgr3 (Nat.le_trans HB1.out.size hb2.size) (fun g hg => (ho2.lt hg).1))
          have HO3 := Lib.hid hown3
          clear hr2 hb2 ho2 hown3 hgr3 hrun1 q3 c0 c1 c2 c3 c4
          go_wp2
          go_roundw
          case rel =>
            refine ⟨k + 1, done ++ [cm] ++ kids.cmds, by omega, by go_num, HO3.out, ?_, HB3.out⟩
            rw [Pts.drop_succ k l HD.out, ← HF.out, HD.out, Pts.cmds, if_pos rfl]
            simp
          case measure => simp only [intOf]; omega
        · have hb6 : ((pk : Int) == 6) = false := by simpa using h6
          have H6 := Lib.hid h6
          clear h6
          go_wp2_with fail
          refine (IH.out kids G Ak ck wr (by omega) (by omega) HGW.out HK.out).mono ?_
          rintro e w2 ⟨v2, rfl, hr2, hb2⟩
          have ho2 := HR.out.below hb2
          obtain ⟨v3, w3, hrun3, hown3, hgr3⟩ := ho2.joins hr2 (by omega) (Nat.le_trans HB.out.size hb2.size)
          have HB3 := Lib.hid (((HB.out.trans (hb2.mono HB.out.size))).grown hgr3 (Nat.le_trans HB.out.size hb2.size) (fun g hg => (ho2.lt hg).1))
          have HO3 := Lib.hid hown3
          clear hr2 hb2 ho2 hown3 hgr3 c0 c1 c2 c3 c4
          go_wp2
          go_roundw
          case rel =>
            refine ⟨k + 1, done ++ kids.cmds, by omega, by go_num, HO3.out, ?_, HB3.out⟩
            rw [Pts.drop_succ k l HD.out, ← HF.out, HD.out, Pts.cmds, if_neg H6.out]
            simp
          case measure => simp only [intOf]; omega
      · go_wp2
        go_ret
        refine ⟨_, rfl, ?_, HB.out⟩
        have h := HF.out
        rw [Pts.drop_end k l (by omega), Pts.cmds, List.append_nil] at h
        rw [← h]
        exact HR.out
theorem cmds_r (l : Pts) (A : Option Addr) (c : Nat) (G : Nat → Prop) (w : World) (hwt : l.wt ≤ 1073741824) (hG : ∀ k, G k → k < w.heap.size) (hp : PtsAt G w A 0 l) :
    Calls Tryz.prog 43 #[.slice A l.len c] w fun e w' => ∃ v, e = .returned v ∧ Crow w.heap.size w' v l.cmds ∧ Below w.heap.size w w' := cmds_any (l.deep + 1) l G A c w (by omega) hwt hG hp
end Go.Proofs.YtjpopekmbmcggaaGreatDoor
