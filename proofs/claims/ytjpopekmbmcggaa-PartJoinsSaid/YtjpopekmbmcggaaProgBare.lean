/- What part.Bare makes: the parts without commands, in blocks of the call's own. -/
import Derived.Test.YtjpopekmbmcggaaBareRow
import Derived.Test.YtjpopekmbmcggaaProgDeep
namespace Go.Proofs.Ytjpopekmbmcggaa
open Go.RowKit

attribute [local go_sem ↓] wp_append_wr

set_option maxRecDepth 100000 in
set_option maxHeartbeats 1000000 in
theorem bare_any : ∀ (n : Nat) (l : Pts) (G : Nat → Prop) (A : Option Addr) (c : Nat) (w : World), l.deep < n → l.wt ≤ 1073741824 → (∀ k, G k → k < w.heap.size) → PtsAt G w A 0 l →
    Calls Try.prog 25 #[.slice A l.len c] w fun e w' => ∃ A' c', e = .returned (.slice A' l.bare.len c') ∧ l.bare.len ≤ c' ∧ PtsAt (fun g => w.heap.size ≤ g ∧ g < w'.heap.size) w' A' 0 l.bare ∧ Below w.heap.size w w' := by
  intro n
  induction n with
  | zero => intro l _ _ _ _ h; omega
  | succ n ih =>
    intro l G A c w hd hwt hG hp
    have hlw := Pts.len_wt l
    have IH := Lib.hid ih; clear ih
    have HG := Lib.hid hG; have HP := Lib.hid hp; clear hG hp
    go_enter Try.func25, Try.ntmps25
    go_wp2
    go_loopw [3, 8] (fun s i wr => ∃ (k : Nat) (done : Pts), k ≤ l.len ∧ i = .int .i64 k ∧ Bro w.heap.size wr s done ∧ done.app (l.drop k).bare = l.bare ∧ done.len + (l.drop k).len = l.len ∧ Below w.heap.size w wr) (fun _ i _ => l.len - (intOf i).toNat)
    case atStart => exact ⟨0, .nil, by omega, rfl, Bro.nothing, by rw [Pts.drop_zero]; rfl, by rw [Pts.drop_zero]; simp [Pts.len], Below.refl _ _⟩
    case round =>
      obtain ⟨k, done, hk, rfl, hr, hf, hln, hb⟩ := hrel
      have HF := Lib.hid hf; have HB := Lib.hid hb; have HR := Lib.hid hr; have HLN := Lib.hid hln; clear hf hb hr hln
      by_cases hlt : k < l.len
      · obtain ⟨pk, t, o, kids, cm, r, hdr⟩ := Pts.drop_cons k l hlt
        have hp' := (HP.out.old HG.out HB.out).at_ k
        rw [hdr, Nat.zero_add] at hp'
        obtain ⟨b, off, Ak, ck, rfl, hg, c0, c1, c2, c3, c4, hl, h1, h2⟩ := hp'
        have hwd := Pts.wt_drop k l
        rw [hdr, Pts.wt] at hwd
        have hkd := Pts.deep_drop k l hdr
        have hG' : ∀ g, G g → g < wr.heap.size := fun g hg => Nat.lt_of_lt_of_le (HG.out g hg) HB.out.size
        unfold Cm.val at c4
        have hb0 : Below wr.heap.size wr (wr.alloc (.cells #[.int .i64 pk, .string t, .string o, .slice Ak kids.len ck, .slice cm.a cm.n cm.c] 37)) := (Below.refl _ _).alloc (Nat.le_refl _) _
        have hbox := heap_alloc_new wr (.cells #[.int .i64 pk, .string t, .string o, .slice Ak kids.len ck, .slice cm.a cm.n cm.c] 37)
        obtain ⟨x0, x1, x2, x3, x4⟩ := box_cells hbox
        have HBX := Lib.hid hbox
        have hdl : done.len ≤ 1073741824 := by have := HLN.out; omega
        have HD := Lib.hid hdr; clear hdr h2
        have HK := Lib.hid (h1.old hG' hb0)
        have HGW := Lib.hid (show ∀ g, G g → g < (wr.alloc (.cells #[.int .i64 pk, .string t, .string o, .slice Ak kids.len ck, .slice cm.a cm.n cm.c] 37)).heap.size from fun g hg => Nat.lt_of_lt_of_le (hG' g hg) hb0.size)
        have HB0 := Lib.hid hb0
        clear h1 hG' hg hb0 hbox
        go_wp2_with fail
        refine (IH.out kids G Ak ck _ (by omega) (by omega) HGW.out HK.out).mono ?_
        rintro e w1 ⟨A2, c2', rfl, hc2, hp2, hb2⟩
        have hbx1 := (hb2.block wr.heap.size (by simp)).trans HBX.out
        obtain ⟨z0, z1, z2, z3, z4⟩ := box_cells hbx1
        have zf : ∀ i, w1.frozen? ⟨wr.heap.size, i, none⟩ = false := fun i => by simp [World.frozen?, hbx1]
        have HX1 := Lib.hid hbx1
        have HP2 := Lib.hid hp2; have HB2 := Lib.hid hb2; have HC2 := Lib.hid hc2
        clear hp2 hb2 hbx1 x0 x1 x2 x3 x4 c0 c1 c2 c3 c4 hc2
        go_wp2_with fail
        have hs1 : ((w1.setCell ⟨wr.heap.size, 3, none⟩ (.slice A2 kids.bare.len c2')).setCell ⟨wr.heap.size, 4, none⟩ (.slice none 0 0)).heap.size = w1.heap.size := by simp [World.setCell]
        have hw1 : wr.heap.size + 1 ≤ w1.heap.size := by have := HB2.out.size; simpa using this
        have hbs : Below wr.heap.size wr ((w1.setCell ⟨wr.heap.size, 3, none⟩ (.slice A2 kids.bare.len c2')).setCell ⟨wr.heap.size, 4, none⟩ (.slice none 0 0)) := ((HB0.out.trans (HB2.out.mono HB0.out.size)).setCell (Nat.le_refl _) _).setCell (Nat.le_refl _) _
        have hold : ∀ q, wr.heap.size < q → q < w1.heap.size → (((w1.setCell ⟨wr.heap.size, 3, none⟩ (.slice A2 kids.bare.len c2')).setCell ⟨wr.heap.size, 4, none⟩ (.slice none 0 0)).alloc (.cells #[.int .i64 pk, .string t, .string o, .slice A2 kids.bare.len c2', .slice none 0 0] 37)).heap[q]? = w1.heap[q]? := fun q hq hq2 =>
          (Below.heap_alloc _ _ _ (by rw [hs1]; exact hq2)).trans ((Below.heap_setCell _ _ _ _ (by show q ≠ wr.heap.size; omega)).trans (Below.heap_setCell _ _ _ _ (by show q ≠ wr.heap.size; omega)))
        have hnew := heap_alloc_new ((w1.setCell ⟨wr.heap.size, 3, none⟩ (.slice A2 kids.bare.len c2')).setCell ⟨wr.heap.size, 4, none⟩ (.slice none 0 0)) (.cells #[.int .i64 pk, .string t, .string o, .slice A2 kids.bare.len c2', .slice none 0 0] 37)
        rw [hs1] at hnew
        have hbw := hbs.alloc hbs.size (.cells #[.int .i64 pk, .string t, .string o, .slice A2 kids.bare.len c2', .slice none 0 0] 37)
        have hsz : w1.heap.size < (((w1.setCell ⟨wr.heap.size, 3, none⟩ (.slice A2 kids.bare.len c2')).setCell ⟨wr.heap.size, 4, none⟩ (.slice none 0 0)).alloc (.cells #[.int .i64 pk, .string t, .string o, .slice A2 kids.bare.len c2', .slice none 0 0] 37)).heap.size := by simp [World.setCell]
        generalize hW : ((w1.setCell ⟨wr.heap.size, 3, none⟩ (.slice A2 kids.bare.len c2')).setCell ⟨wr.heap.size, 4, none⟩ (.slice none 0 0)).alloc (.cells #[.int .i64 pk, .string t, .string o, .slice A2 kids.bare.len c2', .slice none 0 0] 37) = Wb at *
        have hro := HR.out.below hbw
        have hsv : ∀ g, wr.heap.size ≤ g → Value.ownBlock u3 ≠ some g := fun g hg e => by have := (Prow.lt HR.out e).2; omega
        have hkp : PtsAt (NewBut w.heap.size Wb u3) Wb A2 0 kids.bare := (HP2.out.keep fun p hp => World.cell?_of_block (hold _ (by have := hp.1; simp at this; omega) hp.2)).more fun g hg => by
          have h1 : wr.heap.size + 1 ≤ g := by simpa using hg.1
          exact ⟨by have := HB.out.size; omega, by have := hg.2; omega, hsv g (by omega)⟩
        obtain ⟨v3, w3, hrun3, hown3, hgr3⟩ := hro.append pk t o kids.bare A2 c2' HC2.out hkp ⟨w1.heap.size, 0, none⟩ (fun j u hj => by
          obtain ⟨y0, y1, y2, y3, y4⟩ := box_cells hnew
          match j, hj with
          | 0, hj => simp only [List.getElem?_cons_zero, Option.some.injEq] at hj; subst hj; exact y0
          | 1, hj => simp only [List.getElem?_cons_succ, List.getElem?_cons_zero, Option.some.injEq] at hj; subst hj; exact y1
          | 2, hj => simp only [List.getElem?_cons_succ, List.getElem?_cons_zero, Option.some.injEq] at hj; subst hj; exact y2
          | 3, hj => simp only [List.getElem?_cons_succ, List.getElem?_cons_zero, Option.some.injEq] at hj; subst hj; exact y3
          | 4, hj => simp only [List.getElem?_cons_succ, List.getElem?_cons_zero, Option.some.injEq] at hj; subst hj; exact y4
          | j + 5, hj => simp at hj) (by omega) (by have := HB.out.size; have := hbw.size; omega)
        have HB3 := Lib.hid ((HB.out.trans (hbw.mono HB.out.size)).grown hgr3 (by have := HB.out.size; have := hbw.size; omega) (fun g hg => (Prow.lt hro hg).1))
        have HO3 := Lib.hid hown3
        clear hown3 hgr3 hkp hro hsv hsz hbw hnew hold hbs hs1 z0 z1 z2 z3 z4 zf hw1 hW
        rw [hrun3, Result.andThen_ok, Oper.upon_value]
        go_wp2
        go_roundw
        case rel =>
          refine ⟨k + 1, done.app (.cons pk t o kids.bare ⟨none, 0, 0⟩ .nil), by omega, by go_num, HO3.out, ?_, ?_, HB3.out⟩
          · rw [Pts.drop_succ k l HD.out, ← HF.out, HD.out, Pts.bare, Pts.app_app, Pts.app, Pts.app]
          · have := HLN.out
            rw [HD.out, Pts.len] at this
            rw [Pts.drop_succ k l HD.out, Pts.len_app, Pts.len, Pts.len]
            omega
        case measure => simp only [intOf]; omega
      · go_wp2
        go_ret
        have h := HF.out
        rw [Pts.drop_end k l (by omega), Pts.bare, Pts.app_nil] at h
        subst h
        obtain ⟨A', c', rfl, hl', hp'⟩ := HR.out.at_
        exact ⟨A', c', rfl, hl', hp', HB.out⟩

theorem bare_p (l : Pts) (A : Option Addr) (c : Nat) (G : Nat → Prop) (w : World) (hwt : l.wt ≤ 1073741824) (hG : ∀ k, G k → k < w.heap.size) (hp : PtsAt G w A 0 l) :
    Calls Try.prog 25 #[.slice A l.len c] w fun e w' => ∃ A' c', e = .returned (.slice A' l.bare.len c') ∧ l.bare.len ≤ c' ∧ PtsAt (fun g => w.heap.size ≤ g ∧ g < w'.heap.size) w' A' 0 l.bare ∧ Below w.heap.size w w' := bare_any (l.deep + 1) l G A c w (by omega) hwt hG hp
end Go.Proofs.Ytjpopekmbmcggaa
