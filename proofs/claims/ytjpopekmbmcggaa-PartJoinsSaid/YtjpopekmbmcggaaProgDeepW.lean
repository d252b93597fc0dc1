/- What part.Deep answers, at words of any size: turned round where an int ends. -/
import Derived.Test.YtjpopekmbmcggaaProgDeep
namespace Go.Proofs.Ytjpopekmbmcggaa
open Go.RowKit

namespace Pts
/-- How deep parts stand, as ints count. -/
def dpW : Pts → Int
  | nil => 0
  | cons _ _ _ kids _ rest => max (wrap64 (1 + kids.dpW)) rest.dpW
theorem dpW_in : ∀ l : Pts, 0 ≤ l.dpW ∧ l.dpW ≤ 9223372036854775807
  | nil => by rw [dpW]; omega
  | cons _ _ _ kids _ rest => by
    have h1 := dpW_in rest
    have h2 : wrap64 (1 + kids.dpW) ≤ 9223372036854775807 := by unfold wrap64; omega
    rw [dpW]; omega
theorem dpW_app : ∀ l r : Pts, (l.app r).dpW = max l.dpW r.dpW
  | nil, r => by have := dpW_in r; rw [app, dpW]; omega
  | cons _ _ _ _ _ l, r => by rw [app, dpW, dpW, dpW_app l r]; omega
end Pts

set_option maxRecDepth 100000 in
set_option maxHeartbeats 1000000 in
theorem deep_any_w : ∀ (n : Nat) (l : Pts) (G : Nat → Prop) (A : Option Addr) (c : Nat) (w : World), l.deep < n → l.mx ≤ 562949953421312 → (∀ k, G k → k < w.heap.size) → PtsAt G w A 0 l →
    Calls Try.prog 13 #[.agg #[.slice A l.len c]] w fun e w' => e = .returned (.int .i64 l.dpW) ∧ Below w.heap.size w w' := by
  intro n
  induction n with
  | zero => intro l _ _ _ _ h; omega
  | succ n ih =>
    intro l G A c w hd hwt hG hp
    have hlw := Pts.len_mx l
    have IH := Lib.hid ih; clear ih
    have hw0 : Below w.heap.size w (w.alloc (.cells #[.slice A l.len c] 24)) := (Below.refl _ _).alloc (Nat.le_refl _) _
    have hbox := heap_alloc_new w (.cells #[.slice A l.len c] 24)
    have q0 : (w.alloc (.cells #[.slice A l.len c] 24)).cell? ⟨w.heap.size, 0, none⟩ = some (.slice A l.len c) := word_cell hbox
    have HG := Lib.hid hG; have HP := Lib.hid hp; have HW0 := Lib.hid hw0; clear hG hp hbox hw0
    go_enter Try.func13, Try.ntmps13
    go_wp2
    clear q0
    go_loopw [3, 9] (fun s i wr => ∃ (k : Nat) (m : Int), k ≤ l.len ∧ i = .int .i64 k ∧ s = .int .i64 m ∧ max m (l.drop k).dpW = l.dpW ∧ 0 ≤ m ∧ m ≤ 9223372036854775807 ∧ Below w.heap.size w wr) (fun _ i _ => l.len - (intOf i).toNat)
    case atStart => exact ⟨0, 0, by omega, rfl, rfl, by rw [Pts.drop_zero]; have := Pts.dpW_in l; omega, by omega, by omega, HW0.out⟩
    case round =>
      obtain ⟨k, m, hk, rfl, rfl, hf, hm0, hm1, hb⟩ := hrel
      have HF := Lib.hid hf; have HB := Lib.hid hb; clear hf hb
      by_cases hlt : k < l.len
      · obtain ⟨pk, t, o, kids, cm, r, hdr⟩ := Pts.drop_cons k l hlt
        have hp' := (HP.out.old HG.out HB.out).at_ k
        rw [hdr, Nat.zero_add] at hp'
        obtain ⟨b, off, Ak, ck, rfl, hg, c0, c1, c2, c3, c4, hl, h1, h2⟩ := hp'
        have hwd := Pts.mx_at k l hdr
        have hkw := Pts.dpW_in kids
        have hkd := Pts.deep_drop k l hdr
        unfold Cm.val at c4
        have hb0 : Below wr.heap.size wr (wr.alloc (.cells #[.int .i64 pk, .string t, .string o, .slice Ak kids.len ck, .slice cm.a cm.n cm.c] 37)) := (Below.refl _ _).alloc (Nat.le_refl _) _
        have hx := box_cells (heap_alloc_new wr (.cells #[.int .i64 pk, .string t, .string o, .slice Ak kids.len ck, .slice cm.a cm.n cm.c] 37))
        have hG' : ∀ g, G g → g < wr.heap.size := fun g hg => Nat.lt_of_lt_of_le (HG.out g hg) HB.out.size
        have HD := Lib.hid hdr; clear hdr h2
        have HP1 := Lib.hid (h1.old hG' hb0)
        have HG1 := Lib.hid (show ∀ g, G g → g < (wr.alloc (.cells #[.int .i64 pk, .string t, .string o, .slice Ak kids.len ck, .slice cm.a cm.n cm.c] 37)).heap.size from fun g hg => Nat.lt_of_lt_of_le (hG' g hg) hb0.size)
        have HB1 := Lib.hid (HB.out.trans (hb0.mono HB.out.size))
        clear h1 hG' hb0 hg
        obtain ⟨x0, x1, x2, x3, x4⟩ := hx
        obtain ⟨u, hu⟩ : ∃ u, kids.dpW = u := ⟨_, rfl⟩
        obtain ⟨W, hW⟩ : ∃ W, wrap64 (1 + u) = W := ⟨_, rfl⟩
        have hWr : -9223372036854775808 ≤ W ∧ W ≤ 9223372036854775807 := by rw [← hW]; unfold wrap64; omega
        have HU := Lib.hid hu; have HWW := Lib.hid hW
        have IHK := IH.out kids G Ak ck
        rw [hu] at IHK hkw
        have IHK := Lib.hid IHK
        clear hu
        go_wp2_with fail
        refine (IHK.out _ (by omega) (by omega) HG1.out HP1.out).mono ?_
        rintro e w1 ⟨rfl, hb1⟩
        have HB2 := Lib.hid (HB1.out.trans (hb1.mono HB1.out.size))
        clear hb1
        go_wp2
        go_roundw
        case rel =>
          refine ⟨k + 1, max m W, by omega, by go_num, ?_, ?_, by omega, by omega, HB2.out⟩
          · first | rfl | go_num | (congr 1; omega)
          · rw [Pts.drop_succ k l HD.out]
            have h := HF.out
            rw [HD.out, Pts.dpW, HU.out, HWW.out] at h
            omega
        case measure => simp only [intOf]; omega
      · have hpn := HP.out.old HG.out HB.out
        clear hpn
        go_wp2
        go_ret
        refine ⟨ret_int ?_, HB.out⟩
        have h := HF.out
        rw [Pts.drop_end k l (by omega)] at h
        simp only [Pts.dpW] at h
        omega

theorem deep_w (l : Pts) (A : Option Addr) (c : Nat) (G : Nat → Prop) (w : World) (hwt : l.mx ≤ 562949953421312) (hG : ∀ k, G k → k < w.heap.size) (hp : PtsAt G w A 0 l) :
    Calls Try.prog 13 #[.agg #[.slice A l.len c]] w fun e w' => e = .returned (.int .i64 l.dpW) ∧ Below w.heap.size w w' := deep_any_w (l.deep + 1) l G A c w (by omega) hwt hG hp
end Go.Proofs.Ytjpopekmbmcggaa
