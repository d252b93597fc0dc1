/- What part.Deep answers. -/
import Derived.Test.YtjpopekmbmcggaaPartCount
import Derived.Test.YtjpopekmbmcggaaRefParam
import Derived.Test.YtjpopekmbmcggaaGr
namespace Go.Proofs.Ytjpopekmbmcggaa
open Go.RowKit

theorem word_cell {Y : World} {b : Nat} {T : TypeId} {v0 : Value} (h : Y.heap[b]? = some (.cells #[v0] T (0, 0))) : Y.cell? ⟨b, 0, none⟩ = some v0 := by simp [World.cell?, h]

set_option maxRecDepth 100000 in
set_option maxHeartbeats 1000000 in
theorem deep_any : ∀ (n : Nat) (l : Pts) (G : Nat → Prop) (A : Option Addr) (c : Nat) (w : World), l.deep < n → l.wt ≤ 1073741824 → (∀ k, G k → k < w.heap.size) → PtsAt G w A 0 l →
    Calls Try.prog 13 #[.agg #[.slice A l.len c]] w fun e w' => e = .returned (.int .i64 (l.deep : Nat)) ∧ Below w.heap.size w w' := by
  intro n
  induction n with
  | zero => intro l _ _ _ _ h; omega
  | succ n ih =>
    intro l G A c w hd hwt hG hp
    have hlw := Pts.len_wt l
    have IH := Lib.hid ih; clear ih
    have hw0 : Below w.heap.size w (w.alloc (.cells #[.slice A l.len c] 24)) := (Below.refl _ _).alloc (Nat.le_refl _) _
    have hbox := heap_alloc_new w (.cells #[.slice A l.len c] 24)
    have q0 : (w.alloc (.cells #[.slice A l.len c] 24)).cell? ⟨w.heap.size, 0, none⟩ = some (.slice A l.len c) := word_cell hbox
    have HG := Lib.hid hG; have HP := Lib.hid hp; have HW0 := Lib.hid hw0; clear hG hp hbox hw0
    go_enter Try.func13, Try.ntmps13
    go_wp2
    clear q0
    go_loopw [3, 9] (fun s i wr => ∃ (k m : Nat), k ≤ l.len ∧ i = .int .i64 k ∧ s = .int .i64 m ∧ max m (l.drop k).deep = l.deep ∧ Below w.heap.size w wr) (fun _ i _ => l.len - (intOf i).toNat)
    case atStart => exact ⟨0, 0, by omega, rfl, rfl, by rw [Pts.drop_zero]; omega, HW0.out⟩
    case round =>
      obtain ⟨k, m, hk, rfl, rfl, hf, hb⟩ := hrel
      have hdw := Pts.deep_wt l
      have hm : m ≤ 1073741824 := by omega
      have HF := Lib.hid hf; have HB := Lib.hid hb; clear hf hb
      by_cases hlt : k < l.len
      · obtain ⟨pk, t, o, kids, cm, r, hdr⟩ := Pts.drop_cons k l hlt
        have hp' := (HP.out.old HG.out HB.out).at_ k
        rw [hdr, Nat.zero_add] at hp'
        obtain ⟨b, off, Ak, ck, rfl, hg, c0, c1, c2, c3, c4, hl, h1, h2⟩ := hp'
        have hwd := Pts.wt_drop k l
        rw [hdr, Pts.wt] at hwd
        have hkw := Pts.deep_wt kids
        have hkd := Pts.deep_drop k l hdr
        unfold Cm.val at c4
        have hb0 : Below wr.heap.size wr (wr.alloc (.cells #[.int .i64 pk, .string t, .string o, .slice Ak kids.len ck, .slice cm.a cm.n cm.c] 37)) := (Below.refl _ _).alloc (Nat.le_refl _) _
        have hx := box_cells (heap_alloc_new wr (.cells #[.int .i64 pk, .string t, .string o, .slice Ak kids.len ck, .slice cm.a cm.n cm.c] 37))
        have hG' : ∀ g, G g → g < wr.heap.size := fun g hg => Nat.lt_of_lt_of_le (HG.out g hg) HB.out.size
        have HD := Lib.hid hdr; clear hdr h2
        have HP1 := Lib.hid (h1.old hG' hb0)
        have HG1 := Lib.hid (show ∀ g, G g → g < (wr.alloc (.cells #[.int .i64 pk, .string t, .string o, .slice Ak kids.len ck, .slice cm.a cm.n cm.c] 37)).heap.size from fun g hg => Nat.lt_of_lt_of_le (hG' g hg) hb0.size)
        have HB1 := Lib.hid (HB.out.trans (hb0.mono HB.out.size))
        clear h1 hG' hb0 hg
        obtain ⟨x0, x1, x2, x3, x4⟩ := hx
        have hkc : (kids.deep : Int) ≤ 1073741824 := by omega
        go_wp2_with fail
        refine (IH.out kids G Ak ck _ (by omega) (by omega) HG1.out HP1.out).mono ?_
        rintro e w1 ⟨rfl, hb1⟩
        have HB2 := Lib.hid (HB1.out.trans (hb1.mono HB1.out.size))
        clear hb1
        go_wp2
        go_roundw
        case rel =>
          refine ⟨k + 1, max m (kids.deep + 1), by omega, by go_num, ?_, ?_, HB2.out⟩
          · first | go_num | (congr 1; omega)
          · rw [Pts.drop_succ k l HD.out]
            have h := HF.out
            rw [HD.out, Pts.deep] at h
            omega
        case measure => simp only [intOf]; omega
      · have hpn := HP.out.old HG.out HB.out
        clear hpn
        go_wp2
        go_ret
        refine ⟨ret_int ?_, HB.out⟩
        have h := HF.out
        rw [Pts.drop_end k l (by omega)] at h
        simp only [Pts.deep] at h
        omega

theorem deep_p (l : Pts) (A : Option Addr) (c : Nat) (G : Nat → Prop) (w : World) (hwt : l.wt ≤ 1073741824) (hG : ∀ k, G k → k < w.heap.size) (hp : PtsAt G w A 0 l) :
    Calls Try.prog 13 #[.agg #[.slice A l.len c]] w fun e w' => e = .returned (.int .i64 (l.deep : Nat)) ∧ Below w.heap.size w w' := deep_any (l.deep + 1) l G A c w (by omega) hwt hG hp
end Go.Proofs.Ytjpopekmbmcggaa
