/- What part.Cmds answers: the closure that gathers, and the call. -/
import Derived.Test.YtjpopekmbmcggaaCmdsRow
import Derived.Test.YtjpopekmbmcggaaProgCount
namespace Go.Proofs.Ytjpopekmbmcggaa
open Go.RowKit

attribute [local go_sem ↓] wp_append_wr

/-- What is gathered, in a block of the call's own. -/
structure CmI (B bo : Nat) (wc : World) (l : List Cm) (w : World) : Prop where
  below : Below B wc w
  row : ∃ v, w.heap[bo]? = some (.cells #[v] 27 (0, 0)) ∧ Crow B w v l

/-- The blocks that the closure may write. -/
def CmM (bo : Nat) (w : World) (b : Nat) : Prop := b = bo ∨ ∃ v, w.heap[bo]? = some (.cells #[v] 27 (0, 0)) ∧ v.ownBlock = some b

section
variable {B bo : Nat} {wc : World}
theorem CmI.lt {l : List Cm} {w : World} (h : CmI B bo wc l w) : bo < w.heap.size := by
  obtain ⟨v, hh, _⟩ := h.row
  exact (Array.getElem?_eq_some_iff.1 hh).1
theorem CmI.alloc {l : List Cm} {w : World} (h : CmI B bo wc l w) (hB : B ≤ w.heap.size) (ob : Obj) : CmI B bo wc l (w.alloc ob) := by
  obtain ⟨v, hh, hr⟩ := h.row
  exact ⟨h.below.alloc hB ob, v, (Below.heap_alloc _ _ _ (Array.getElem?_eq_some_iff.1 hh).1).trans hh, hr.below ((Below.refl _ _).alloc (Nat.le_refl _) ob)⟩
theorem CmI.not_new {l : List Cm} {w : World} (ob : Obj) (h : CmI B bo wc l w) : ¬ CmM bo (w.alloc ob) w.heap.size := by
  have hlt := h.lt
  obtain ⟨v, hh, hr⟩ := h.row
  rintro (e | ⟨v', hh', e⟩)
  · omega
  · rw [Below.heap_alloc _ _ _ hlt, hh] at hh'
    injection hh' with h1
    injection h1 with h1
    have h2 : v = v' := by simpa using h1
    subst h2
    have := (hr.lt e).2
    omega

set_option maxRecDepth 100000 in
set_option maxHeartbeats 1000000 in
theorem clo_cmds (hB : B ≤ bo) (hBc : B ≤ wc.heap.size) : StepOk 20 #[.pointer (some ⟨bo, 0, none⟩)] (fun l w => CmI B bo wc l w) (CmM bo) (fun l k cm => if k = 6 then l ++ [cm] else l) List.length := by
  intro l w k t o Ak n ck cm h hl
  have hBw : B ≤ w.heap.size := Nat.le_trans hBc h.below.size
  have hlt := h.lt
  have hx := (h.alloc hBw (.cells #[.int .i64 k, .string t, .string o, .slice Ak n ck, .slice cm.a cm.n cm.c] 37))
  have HX := Lib.hid hx
  have HN := Lib.hid (show ∀ b, b < w.heap.size → (w.alloc (.cells #[.int .i64 k, .string t, .string o, .slice Ak n ck, .slice cm.a cm.n cm.c] 37)).heap[b]? = w.heap[b]? from fun b hb => Below.heap_alloc _ _ _ hb)
  obtain ⟨x0, x1, x2, x3, x4⟩ := box_cells (heap_alloc_new w (.cells #[.int .i64 k, .string t, .string o, .slice Ak n ck, .slice cm.a cm.n cm.c] 37))
  by_cases hk : k = 6
  · subst hk
    have h2 := hx.alloc (by simp; omega) (.cells #[.slice cm.a cm.n cm.c] 30)
    obtain ⟨v, hh, hr⟩ := hx.row
    have q0 := word_cell hh
    obtain ⟨v2, hh2, hr2⟩ := h2.row
    have hvv : v2 = v := by
      rw [Below.heap_alloc _ _ _ hx.lt, hh] at hh2
      injection hh2 with h1
      injection h1 with h1
      simpa using h1.symm
    subst hvv
    have hnew := word_cell (heap_alloc_new (w.alloc (.cells #[.int .i64 6, .string t, .string o, .slice Ak n ck, .slice cm.a cm.n cm.c] 37)) (.cells #[.slice cm.a cm.n cm.c] 30))
    rw [show (w.alloc (.cells #[.int .i64 6, .string t, .string o, .slice Ak n ck, .slice cm.a cm.n cm.c] 37)).heap.size = w.heap.size + 1 by simp] at hnew
    obtain ⟨v', w', hrun, hown', hgr, hat⟩ := hr2.append [cm] ⟨w.heap.size + 1, 0, none⟩ 1 (fun j u hj => by
        match j, hj with
        | 0, hj => simp only [List.map_cons, List.map_nil, List.getElem?_cons_zero, Option.some.injEq] at hj; subst hj; exact hnew
        | j + 1, hj => simp at hj) (by simp; omega) (by simp; omega)
    rw [show [cm].length = 1 from rfl] at hrun
    have hne : v2.ownBlock ≠ some bo := Lib.ownBlock_ne hr2 hh2 (by decide)
    have hh3 : w'.heap[bo]? = some (.cells #[v2] 27 (0, 0)) := (hgr.block bo h2.lt (fun e => hne e.symm)).trans hh2
    have q1 := word_cell hh3
    have fz : w'.frozen? ⟨bo, 0, none⟩ = false := by simp [World.frozen?, hh3]
    have hone : v2.oneCell' = true := by obtain ⟨A1, c1, rfl, _⟩ := hr2.shape; rfl
    obtain ⟨A', c', hv', _⟩ := hown'.shape
    have hpost : CmI B bo wc (l ++ [cm]) (w'.setCell ⟨bo, 0, none⟩ v') ∧ ∀ b, b < w.heap.size → ¬ CmM bo w b → (w'.setCell ⟨bo, 0, none⟩ v').heap[b]? = w.heap[b]? := by
      have hne' : v'.ownBlock ≠ some bo := Lib.ownBlock_ne hown' hh3 (by decide)
      refine ⟨⟨(h2.below.grown hgr (Nat.le_trans hBc h2.below.size) (fun g hg => (hr2.lt hg).1)).setCell hB _, v', by simp [World.setCell, Array.getElem?_modify, hh3], hown'.keep fun g hg => Below.heap_setCell _ _ _ _ (fun e => hne' (by rw [hg]; exact congrArg some e))⟩, fun b hb hn => ?_⟩
      rw [Below.heap_setCell _ _ _ _ (fun e => hn (.inl e)), hgr.block b (by simp; omega) (fun e => hn (.inr ⟨v2, by rw [← HN.out bo hlt]; exact hh, e.symm⟩)), Below.heap_alloc _ _ _ (by simp; omega), HN.out b hb]
    have HP := Lib.hid hpost
    clear hpost hown' hgr hat hne hone hh3 hr2 hh2 hr hh h2 hx h hnew
    rw [show (l ++ [cm]).length = l.length + 1 by simp] at hv'
    subst hv'
    unfold Cm.val at *
    go_enter Try.func20, Try.ntmps20
    go_wp2_with fail
    go_end0
    exact ⟨rfl, HP.out⟩
  · have hb6 : ((k : Int) == 6) = false := by simpa using hk
    clear h hx
    go_enter Try.func20, Try.ntmps20
    go_wp2
    go_end0
    exact ⟨rfl, HX.out, fun b hb _ => HN.out b hb⟩
end

theorem fold_cmds : ∀ (l : Pts) (m : List Cm), l.fold (fun l k cm => if k = 6 then l ++ [cm] else l) m = m ++ l.cmds
  | .nil, m => by simp [Pts.fold, Pts.cmds]
  | .cons k _ _ kids cm rest, m => by
    rw [Pts.fold, fold_cmds rest, fold_cmds kids, Pts.cmds]
    split <;> simp

theorem enter_cmds (args : Array Value) (w : World) : (callFunc 20 args).run Try.prog w = .ok (.enter 20 args) w := by
  simp [callFunc, go_sem, Try.func20, Try.f20]

theorem cmds_start (w : World) (v : Value) : CmI w.heap.size (w.heap.size + 1) w [] ((w.alloc (.cells #[v] 24)).alloc (.cells #[.slice none 0 0] 27)) ∧
    ((w.alloc (.cells #[v] 24)).alloc (.cells #[.slice none 0 0] 27)).cell? ⟨w.heap.size, 0, none⟩ = some v := by
  have s1 : (w.alloc (.cells #[v] 24)).heap.size = w.heap.size + 1 := by simp
  refine ⟨⟨((Below.refl _ _).alloc (Nat.le_refl _) _).alloc (by simp) _, .slice none 0 0, ?_, Crow.nothing⟩, word_cell ((Below.heap_alloc _ _ _ (by simp)).trans (heap_alloc_new w _))⟩
  rw [← s1]
  exact heap_alloc_new _ _

set_option maxRecDepth 100000 in
set_option maxHeartbeats 1000000 in
theorem cmds_p (l : Pts) (A : Option Addr) (c : Nat) (G : Nat → Prop) (w : World) (hwt : l.wt ≤ 1073741824) (hG : ∀ k, G k → k < w.heap.size) (hp : PtsAt G w A 0 l) :
    Calls Try.prog 7 #[.agg #[.slice A l.len c]] w fun e w' => ∃ v, e = .returned v ∧ Crow w.heap.size w' v l.cmds ∧ Below w.heap.size w w' := by
  have hcw := Pts.count_wt l
  have HG := Lib.hid hG
  have HP := Lib.hid hp
  obtain ⟨hs, q0⟩ := cmds_start w (.slice A l.len c)
  have HS := Lib.hid hs
  clear hG hp hs
  go_enter Try.func7, Try.ntmps7
  go_wp2_with fail
  clear q0
  refine (each_any 20 #[.pointer (some ⟨w.heap.size + 1, 0, none⟩)] (fun m w' => CmI w.heap.size (w.heap.size + 1) w m w') (CmM (w.heap.size + 1)) (fun l k cm => if k = 6 then l ++ [cm] else l) List.length G w enter_cmds
    (clo_cmds (by omega) (Nat.le_refl _)) (fun s w' ob h => h.not_new ob) (fun s k cm => by show (if k = 6 then s ++ [cm] else s).length ≤ _; split <;> simp) (fun s w' ob h => h.alloc h.below.size ob) (fun s w' h p hp => ⟨World.cell?_of_block (h.below.block _ (HG.out _ hp)), Nat.lt_of_lt_of_le (HG.out _ hp) h.below.size⟩) (l.deep + 1) l A c _ [] (by omega) hwt (by simp; omega) HP.out HS.out).mono ?_
  rintro e w1 ⟨rfl, h1⟩
  rw [fold_cmds, List.nil_append] at h1
  have H1 := Lib.hid h1
  obtain ⟨v, hh, hr⟩ := h1.row
  have q1 := word_cell hh
  have HR := Lib.hid hr
  clear h1 hh hr
  go_wp2
  go_ret
  exact ⟨v, rfl, HR.out, H1.out.below⟩
end Go.Proofs.Ytjpopekmbmcggaa
