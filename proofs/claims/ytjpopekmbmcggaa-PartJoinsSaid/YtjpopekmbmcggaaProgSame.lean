/- What part.Same answers of words that are the same but for commands. -/
import Derived.Test.YtjpopekmbmcggaaRefSame
import Derived.Test.YtjpopekmbmcggaaProgCount
namespace Go.Proofs.Ytjpopekmbmcggaa
open Go.RowKit

theorem two_blocks (w : World) (o0 o1 : Obj) : ((w.alloc o0).alloc o1).heap[w.heap.size]? = some o0 ∧ ((w.alloc o0).alloc o1).heap[w.heap.size + 1]? = some o1 := by
  have s1 : (w.alloc o0).heap.size = w.heap.size + 1 := by simp
  refine ⟨(Below.heap_alloc _ _ _ (by omega)).trans (heap_alloc_new w o0), ?_⟩
  rw [← s1]
  exact heap_alloc_new _ o1

/-- EqualFunc, with 'same', of parts that are alike and no deeper than n. -/
def EqQ (n : Nat) : Prop := ∀ (l l' : Pts) (G G' : Nat → Prop) (A A' : Option Addr) (c c' : Nat) (w : World), l.deep < n → l.wt ≤ 1073741824 → l.bare = l'.bare → (∀ k, G k → k < w.heap.size) → (∀ k, G' k → k < w.heap.size) → PtsAt G w A 0 l → PtsAt G' w A' 0 l' →
  Calls Try.prog 26 #[.slice A l.len c, .slice A' l'.len c', .func (.func 27) #[] #[]] w fun e w' => e = .returned (.bool true) ∧ Below w.heap.size w w'

set_option maxRecDepth 100000 in
set_option maxHeartbeats 2000000 in
theorem same_one (n : Nat) (ih : EqQ n) (pk : Int) (t o : ByteArray) (kids kids' : Pts) (Ak Ak' : Option Addr) (ck ck' : Nat) (cm cm' : Cm) (G G' : Nat → Prop) (w : World) (hd : kids.deep < n) (hwt : kids.wt ≤ 1073741824) (hbr : kids.bare = kids'.bare)
    (hG : ∀ k, G k → k < w.heap.size) (hG' : ∀ k, G' k → k < w.heap.size) (hp : PtsAt G w Ak 0 kids) (hp' : PtsAt G' w Ak' 0 kids') :
    Calls Try.prog 27 #[.agg #[.int .i64 pk, .string t, .string o, .slice Ak kids.len ck, .slice cm.a cm.n cm.c], .agg #[.int .i64 pk, .string t, .string o, .slice Ak' kids'.len ck', .slice cm'.a cm'.n cm'.c]] w fun e w' => e = .returned (.bool true) ∧ Below w.heap.size w w' := by
  obtain ⟨b0, b1⟩ := two_blocks w (.cells #[.int .i64 pk, .string t, .string o, .slice Ak kids.len ck, .slice cm.a cm.n cm.c] 37) (.cells #[.int .i64 pk, .string t, .string o, .slice Ak' kids'.len ck', .slice cm'.a cm'.n cm'.c] 37)
  have hb : Below w.heap.size w ((w.alloc (.cells #[.int .i64 pk, .string t, .string o, .slice Ak kids.len ck, .slice cm.a cm.n cm.c] 37)).alloc (.cells #[.int .i64 pk, .string t, .string o, .slice Ak' kids'.len ck', .slice cm'.a cm'.n cm'.c] 37)) := ((Below.refl _ _).alloc (Nat.le_refl _) _).alloc (by simp) _
  obtain ⟨x0, x1, x2, x3, x4⟩ := box_cells b0
  obtain ⟨y0, y1, y2, y3, y4⟩ := box_cells b1
  have HB := Lib.hid hb
  have HP := Lib.hid (hp.old hG hb); have HP' := Lib.hid (hp'.old hG' hb)
  have HGG := Lib.hid (fun k (h : G k) => Nat.lt_of_lt_of_le (hG k h) hb.size); have HGG' := Lib.hid (fun k (h : G' k) => Nat.lt_of_lt_of_le (hG' k h) hb.size)
  have IH := Lib.hid ih
  clear hp hp' hG hG' hb b0 b1 ih x4 y4
  go_enter Try.func27, Try.ntmps27
  go_wp2_with fail
  refine (IH.out kids kids' G G' Ak Ak' ck ck' _ hd hwt hbr HGG.out HGG'.out HP.out HP'.out).mono ?_
  rintro e w1 ⟨rfl, hb1⟩
  have HB1 := Lib.hid (HB.out.trans (hb1.mono HB.out.size))
  clear hb1 x0 x1 x2 x3 y0 y1 y2 y3
  go_wp2
  go_ret
  exact ⟨rfl, HB1.out⟩

set_option maxRecDepth 100000 in
set_option maxHeartbeats 2000000 in
theorem eq_step (n : Nat) (ih : EqQ n) : EqQ (n + 1) := by
  intro l l' G G' A A' c c' w hd hwt hbr hG hG' hp hp'
  have hlw := Pts.len_wt l
  have hll : l'.len = l.len := by rw [← Pts.len_bare l', ← hbr, Pts.len_bare]
  have IH := Lib.hid ih; have HBR := Lib.hid hbr; have HG := Lib.hid hG; have HG' := Lib.hid hG'; have HP := Lib.hid hp; have HP' := Lib.hid hp'
  clear ih hbr hG hG' hp hp'
  rw [hll]
  go_enter Try.func26, Try.ntmps26
  go_wp2_with fail
  go_loopw [17] (fun i wr => ∃ (k : Nat), k ≤ l.len ∧ i = .int .i64 k ∧ Below w.heap.size w wr) (fun i _ => l.len - (intOf i).toNat)
  case atStart => exact ⟨0, by omega, rfl, Below.refl _ _⟩
  case round =>
    obtain ⟨k, hk, rfl, hb⟩ := hrel
    have HB := Lib.hid hb
    by_cases hlt : k < l.len
    · obtain ⟨pk, t, o, kids, cm, r, hdr⟩ := Pts.drop_cons k l hlt
      obtain ⟨kids', cm', r', hdr', hkb⟩ := Pts.alike_drop HBR.out k hdr
      have hq := (HP.out.old HG.out hb).at_ k
      rw [hdr, Nat.zero_add] at hq
      obtain ⟨b, off, Ak, ck, rfl, hg, c0, c1, c2, c3, c4, hl, h1, h2⟩ := hq
      have hq' := (HP'.out.old HG'.out hb).at_ k
      rw [hdr', Nat.zero_add] at hq'
      obtain ⟨b', off', Ak', ck', rfl, hg', d0, d1, d2, d3, d4, hl', h1', h2'⟩ := hq'
      have hwd := Pts.wt_drop k l
      rw [hdr, Pts.wt] at hwd
      have hkd := Pts.deep_drop k l hdr
      unfold Cm.val at c4 d4
      have hlb : b < wr.heap.size := Nat.lt_of_lt_of_le (HG.out b hg) hb.size
      have hlb' : b' < wr.heap.size := Nat.lt_of_lt_of_le (HG'.out b' hg') hb.size
      have hb1 : Below wr.heap.size wr (wr.alloc (.cells #[.int .i64 pk, .string t, .string o, .slice Ak kids.len ck, .slice cm.a cm.n cm.c] 37)) := (Below.refl _ _).alloc (Nat.le_refl _) _
      have z0 : (wr.alloc (.cells #[.int .i64 pk, .string t, .string o, .slice Ak kids.len ck, .slice cm.a cm.n cm.c] 37)).cell? ⟨b', off' + k * 5, none⟩ = some (.int .i64 pk) := (hb1.cell (p := ⟨b', off' + k * 5, none⟩) hlb').trans d0
      have z1 : (wr.alloc (.cells #[.int .i64 pk, .string t, .string o, .slice Ak kids.len ck, .slice cm.a cm.n cm.c] 37)).cell? ⟨b', off' + k * 5 + 1, none⟩ = some (.string t) := (hb1.cell (p := ⟨b', off' + k * 5 + 1, none⟩) hlb').trans d1
      have z2 : (wr.alloc (.cells #[.int .i64 pk, .string t, .string o, .slice Ak kids.len ck, .slice cm.a cm.n cm.c] 37)).cell? ⟨b', off' + k * 5 + 2, none⟩ = some (.string o) := (hb1.cell (p := ⟨b', off' + k * 5 + 2, none⟩) hlb').trans d2
      have z3 : (wr.alloc (.cells #[.int .i64 pk, .string t, .string o, .slice Ak kids.len ck, .slice cm.a cm.n cm.c] 37)).cell? ⟨b', off' + k * 5 + 3, none⟩ = some (.slice Ak' kids'.len ck') := (hb1.cell (p := ⟨b', off' + k * 5 + 3, none⟩) hlb').trans d3
      have z4 : (wr.alloc (.cells #[.int .i64 pk, .string t, .string o, .slice Ak kids.len ck, .slice cm.a cm.n cm.c] 37)).cell? ⟨b', off' + k * 5 + 4, none⟩ = some (.slice cm'.a cm'.n cm'.c) := (hb1.cell (p := ⟨b', off' + k * 5 + 4, none⟩) hlb').trans d4
      have hb2 := hb1.alloc hb1.size (.cells #[.int .i64 pk, .string t, .string o, .slice Ak' kids'.len ck', .slice cm'.a cm'.n cm'.c] 37)
      obtain ⟨e0, e1⟩ := two_blocks wr (.cells #[.int .i64 pk, .string t, .string o, .slice Ak kids.len ck, .slice cm.a cm.n cm.c] 37) (.cells #[.int .i64 pk, .string t, .string o, .slice Ak' kids'.len ck', .slice cm'.a cm'.n cm'.c] 37)
      obtain ⟨x0, x1, x2, x3, x4⟩ := box_cells e0
      obtain ⟨y0, y1, y2, y3, y4⟩ := box_cells e1
      have HK := Lib.hid (h1.old (fun g hg => Nat.lt_of_lt_of_le (HG.out g hg) hb.size) hb2)
      have HK' := Lib.hid (h1'.old (fun g hg => Nat.lt_of_lt_of_le (HG'.out g hg) hb.size) hb2)
      have HB2 := Lib.hid (hb.trans (hb2.mono hb.size))
      have HGG := Lib.hid (fun g (h : G g) => Nat.lt_of_lt_of_le (Nat.lt_of_lt_of_le (HG.out g h) hb.size) hb2.size)
      have HGG' := Lib.hid (fun g (h : G' g) => Nat.lt_of_lt_of_le (Nat.lt_of_lt_of_le (HG'.out g h) hb.size) hb2.size)
      clear hdr hdr' h2 h2' h1 h1' hb hb1 hb2 e0 e1 hlb hlb' hg hg'
      go_wp2_with fail
      refine (same_one n IH.out pk t o kids kids' Ak Ak' ck ck' cm cm' G G' _ (by omega) (by omega) hkb HGG.out HGG'.out HK.out HK'.out).mono ?_
      rintro e w1 ⟨rfl, hb3⟩
      have HB3 := Lib.hid (HB2.out.trans (hb3.mono HB2.out.size))
      clear hb3 x0 x1 x2 x3 x4 y0 y1 y2 y3 y4 z0 z1 z2 z3 z4 c0 c1 c2 c3 c4 d0 d1 d2 d3 d4
      go_wp2
      go_roundw
      case rel => exact ⟨k + 1, by omega, by go_num, HB3.out⟩
      case measure => simp only [intOf]; omega
    · clear hb
      go_wp2
      go_ret
      exact ⟨rfl, HB.out⟩

theorem eq_all : ∀ n, EqQ n
  | 0 => fun _ _ _ _ _ _ _ _ _ h => absurd h (Nat.not_lt_zero _)
  | n + 1 => eq_step n (eq_all n)

set_option maxRecDepth 100000 in
set_option maxHeartbeats 1000000 in
theorem same_p (l l' : Pts) (A A' : Option Addr) (c c' : Nat) (G G' : Nat → Prop) (w : World) (hwt : l.wt ≤ 1073741824) (hbr : l.bare = l'.bare) (hG : ∀ k, G k → k < w.heap.size) (hG' : ∀ k, G' k → k < w.heap.size) (hp : PtsAt G w A 0 l) (hp' : PtsAt G' w A' 0 l') :
    Calls Try.prog 18 #[.agg #[.slice A l.len c], .agg #[.slice A' l'.len c']] w fun e w' => e = .returned (.bool true) ∧ Below w.heap.size w w' := by
  obtain ⟨b0, b1⟩ := two_blocks w (.cells #[.slice A l.len c] 24) (.cells #[.slice A' l'.len c'] 24)
  have hb : Below w.heap.size w ((w.alloc (.cells #[.slice A l.len c] 24)).alloc (.cells #[.slice A' l'.len c'] 24)) := ((Below.refl _ _).alloc (Nat.le_refl _) _).alloc (by simp) _
  have q0 := word_cell b0
  have q1 := word_cell b1
  have HB := Lib.hid hb
  have HP := Lib.hid (hp.old hG hb); have HP' := Lib.hid (hp'.old hG' hb)
  have HGG := Lib.hid (fun k (h : G k) => Nat.lt_of_lt_of_le (hG k h) hb.size); have HGG' := Lib.hid (fun k (h : G' k) => Nat.lt_of_lt_of_le (hG' k h) hb.size)
  clear hp hp' hG hG' hb b0 b1
  go_enter Try.func18, Try.ntmps18
  go_wp2_with fail
  refine (eq_all (l.deep + 1) l l' G G' A A' c c' _ (by omega) hwt hbr HGG.out HGG'.out HP.out HP'.out).mono ?_
  rintro e w1 ⟨rfl, hb1⟩
  have HB1 := Lib.hid (HB.out.trans (hb1.mono HB.out.size))
  clear hb1 q0 q1
  go_wp2
  go_ret
  exact ⟨rfl, HB1.out⟩
end Go.Proofs.Ytjpopekmbmcggaa
