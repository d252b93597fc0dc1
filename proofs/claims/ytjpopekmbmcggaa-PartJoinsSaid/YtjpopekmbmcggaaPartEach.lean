/- part.each: a closure, called with each part, those within others, too. -/
import Derived.Test.YtjpopekmbmcggaaPartCount
import Derived.Test.YtjpopekmbmcggaaRefParam
import Derived.Test.YtjpopekmbmcggaaGr
namespace Go.Proofs.Ytjpopekmbmcggaa
open Go.RowKit

namespace Pts
/-- What is done with each part, one behind the other. -/
def fold {σ : Type} (step : σ → Int → Cm → σ) : Pts → σ → σ
  | nil, s => s
  | cons k _ _ kids cm rest, s => rest.fold step (kids.fold step (step s k cm))
theorem fold_rk {σ : Type} (step : σ → Int → Cm → σ) (rk : σ → Nat) (h : ∀ s k cm, rk (step s k cm) ≤ rk s + 1) : ∀ (l : Pts) (s : σ), rk (l.fold step s) ≤ rk s + l.count
  | nil, s => by simp [fold, count]
  | cons k _ _ kids cm rest, s => by
    have h0 := h s k cm
    have h1 := fold_rk step rk h kids (step s k cm)
    have h2 := fold_rk step rk h rest (kids.fold step (step s k cm))
    rw [fold, count]
    omega
end Pts

/-- What a closure does with one part, whatever the world. -/
def StepOk {σ : Type} (f : Nat) (cap : Array Value) (I : σ → World → Prop) (M : World → Nat → Prop) (step : σ → Int → Cm → σ) (rk : σ → Nat) : Prop :=
  ∀ (s : σ) (w : World) (k : Int) (t o : ByteArray) (Ak : Option Addr) (n ck : Nat) (cm : Cm), I s w → rk s ≤ 1073741824 →
    Calls Try.prog f (#[.agg #[.int .i64 k, .string t, .string o, .slice Ak n ck, .slice cm.a cm.n cm.c]] ++ cap) w fun e w' => e = .returned (.tuple #[]) ∧ I (step s k cm) w' ∧ ∀ b, b < w.heap.size → ¬ M w b → w'.heap[b]? = w.heap[b]?

set_option maxRecDepth 100000 in
set_option maxHeartbeats 1000000 in
theorem each_any {σ : Type} (f : Nat) (cap : Array Value) (I : σ → World → Prop) (M : World → Nat → Prop) (step : σ → Int → Cm → σ) (rk : σ → Nat) (G : Nat → Prop) (w0 : World)
    (hent : ∀ args w, (callFunc f args).run Try.prog w = .ok (.enter f args) w) (hst : StepOk f cap I M step rk) (hM : ∀ s w ob, I s w → ¬ M (w.alloc ob) w.heap.size) (hrk : ∀ s k cm, rk (step s k cm) ≤ rk s + 1) (hal : ∀ s w ob, I s w → I s (w.alloc ob)) (hkp : ∀ s w, I s w → ∀ p : Addr, G p.block → w.cell? p = w0.cell? p ∧ p.block < w.heap.size) :
    ∀ (n : Nat) (l : Pts) (A : Option Addr) (c : Nat) (w : World) (s : σ), l.deep < n → l.wt ≤ 1073741824 → rk s + l.count ≤ 1073741824 → PtsAt G w0 A 0 l → I s w →
    Calls Try.prog 19 #[.slice A l.len c, .func (.func f) #[] cap] w fun e w' => e = .returned (.tuple #[]) ∧ I (l.fold step s) w' := by
  intro n
  induction n with
  | zero => intro l _ _ _ _ h; omega
  | succ n ih =>
    intro l A c w s hd hwt hcnt hp hI
    have hlw := Pts.len_wt l
    have IH := Lib.hid ih; clear ih
    have HE := Lib.hid hent; have HST := Lib.hid hst; have HMM := Lib.hid hM; have HRK := Lib.hid hrk; have HAL := Lib.hid hal; have HKP := Lib.hid hkp; have HP := Lib.hid hp; have HI := Lib.hid hI
    clear hent hst hM hrk hal hkp hp hI
    go_enter Try.func19, Try.ntmps19
    go_wp2
    go_loopw [8] (fun i wr => ∃ (k : Nat) (s1 : σ), k ≤ l.len ∧ i = .int .i64 k ∧ (l.drop k).fold step s1 = l.fold step s ∧ rk s1 + (l.drop k).count ≤ 1073741824 ∧ I s1 wr) (fun i _ => l.len - (intOf i).toNat)
    case atStart => exact ⟨0, s, by omega, rfl, by rw [Pts.drop_zero], by rw [Pts.drop_zero]; omega, HI.out⟩
    case round =>
      obtain ⟨k, s1, hk, rfl, hf, hr, hi⟩ := hrel
      have HF := Lib.hid hf; have HR := Lib.hid hr; have HII := Lib.hid hi; clear hf hr hi
      by_cases hlt : k < l.len
      · obtain ⟨pk, t, o, kids, cm, r, hdr⟩ := Pts.drop_cons k l hlt
        have hp' := (HP.out.keep (fun p hp => (HKP.out s1 wr HII.out p hp).1)).at_ k
        rw [hdr, Nat.zero_add] at hp'
        obtain ⟨b, off, Ak, ck, rfl, hg, c0, c1, c2, c3, c4, hl, h1, h2⟩ := hp'
        have hp2 := HP.out.at_ k
        rw [hdr, Nat.zero_add] at hp2
        obtain ⟨b', off', Ak', ck', hA, hg', _, _, _, c3', _, _, h1', _⟩ := hp2
        injection hA with hA
        injection hA with hA1 hA2
        subst hA1 hA2
        have e3 := (HKP.out s1 wr HII.out ⟨b, off + k * 5 + 3, none⟩ hg).1
        rw [c3, c3'] at e3
        injection e3 with e3
        injection e3 with e4 e5 e6
        subst e4 e6
        have hwd := Pts.wt_drop k l
        rw [hdr, Pts.wt] at hwd
        have hkd := Pts.deep_drop k l hdr
        have hlt0 := (HKP.out s1 wr HII.out ⟨b, 0, none⟩ hg).2
        unfold Cm.val at c4
        have hx := box_cells (heap_alloc_new wr (.cells #[.int .i64 pk, .string t, .string o, .slice Ak kids.len ck, .slice cm.a cm.n cm.c] 37))
        have hrr := HR.out
        rw [hdr, Pts.count] at hrr
        have hrk1 := HRK.out s1 pk cm
        have HKF := Lib.hid (Pts.fold_rk step rk HRK.out kids (step s1 pk cm))
        have HD := Lib.hid hdr; have HKD := Lib.hid h1'; clear hdr h2 h1 h1' c3' hg'
        have HI1 := Lib.hid (HAL.out s1 wr (.cells #[.int .i64 pk, .string t, .string o, .slice Ak kids.len ck, .slice cm.a cm.n cm.c] 37) HII.out)
        obtain ⟨z0, z1, z2, z3, z4⟩ := hx
        go_wp2_with fail
        rw [HE.out, Oper.upon_enter]
        refine (HST.out s1 _ pk t o Ak kids.len ck cm HI1.out (by omega)).mono ?_
        rintro e w1 ⟨rfl, hi1, hkm⟩
        have HI2 := Lib.hid hi1
        obtain ⟨x0, x1, x2, x3, x4⟩ := box_cells ((hkm wr.heap.size (by simp) (HMM.out s1 wr _ HII.out)).trans (heap_alloc_new wr (.cells #[.int .i64 pk, .string t, .string o, .slice Ak kids.len ck, .slice cm.a cm.n cm.c] 37)))
        clear hi1 c0 c1 c2 c3 c4 hkm z0 z1 z2 z3 z4
        go_wp2_with fail
        refine (IH.out kids Ak ck w1 (step s1 pk cm) (by omega) (by omega) (by omega) HKD.out HI2.out).mono ?_
        rintro e w2 ⟨rfl, hi2⟩
        have HI3 := Lib.hid hi2
        clear hi2
        clear x0 x1 x2 x3 x4
        go_wp2
        go_roundw
        case rel =>
          refine ⟨k + 1, kids.fold step (step s1 pk cm), by omega, by go_num, ?_, ?_, HI3.out⟩
          · rw [← HF.out, HD.out, Pts.drop_succ k l HD.out, Pts.fold]
          · have := HKF.out
            rw [Pts.drop_succ k l HD.out]
            omega
        case measure => simp only [intOf]; omega
      · go_wp2
        go_end0
        refine ⟨rfl, ?_⟩
        have h := HF.out
        rw [Pts.drop_end k l (by omega), Pts.fold] at h
        rw [← h]
        exact HII.out
end Go.Proofs.Ytjpopekmbmcggaa
