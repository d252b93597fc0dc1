/- part.each: a closure, called with each part, those within others, too: words of any size. -/
import Derived.Test.YtjpopekmbmcggaaPartEach
namespace Go.Proofs.Ytjpopekmbmcggaa
open Go.RowKit

/-- What a closure does with one part, whatever the world. -/
def StepW {σ : Type} (f : Nat) (cap : Array Value) (I : σ → World → Prop) (M : World → Nat → Prop) (step : σ → Int → Cm → σ) : Prop :=
  ∀ (s : σ) (w : World) (k : Int) (t o : ByteArray) (Ak : Option Addr) (n ck : Nat) (cm : Cm), I s w →
    Calls Try.prog f (#[.agg #[.int .i64 k, .string t, .string o, .slice Ak n ck, .slice cm.a cm.n cm.c]] ++ cap) w fun e w' => e = .returned (.tuple #[]) ∧ I (step s k cm) w' ∧ ∀ b, b < w.heap.size → ¬ M w b → w'.heap[b]? = w.heap[b]?

set_option maxRecDepth 100000 in
set_option maxHeartbeats 1000000 in
theorem each_w {σ : Type} (f : Nat) (cap : Array Value) (I : σ → World → Prop) (M : World → Nat → Prop) (step : σ → Int → Cm → σ) (G : Nat → Prop) (w0 : World)
    (hent : ∀ args w, (callFunc f args).run Try.prog w = .ok (.enter f args) w) (hst : StepW f cap I M step) (hM : ∀ s w ob, I s w → ¬ M (w.alloc ob) w.heap.size) (hal : ∀ s w ob, I s w → I s (w.alloc ob)) (hkp : ∀ s w, I s w → ∀ p : Addr, G p.block → w.cell? p = w0.cell? p ∧ p.block < w.heap.size) :
    ∀ (n : Nat) (l : Pts) (A : Option Addr) (c : Nat) (w : World) (s : σ), l.deep < n → l.mx ≤ 562949953421312 → PtsAt G w0 A 0 l → I s w →
    Calls Try.prog 19 #[.slice A l.len c, .func (.func f) #[] cap] w fun e w' => e = .returned (.tuple #[]) ∧ I (l.fold step s) w' := by
  intro n
  induction n with
  | zero => intro l _ _ _ _ h; omega
  | succ n ih =>
    intro l A c w s hd hwt hp hI
    have hlw := Pts.len_mx l
    have IH := Lib.hid ih; clear ih
    have HE := Lib.hid hent; have HST := Lib.hid hst; have HMM := Lib.hid hM; have HAL := Lib.hid hal; have HKP := Lib.hid hkp; have HP := Lib.hid hp; have HI := Lib.hid hI
    clear hent hst hM hal hkp hp hI
    go_enter Try.func19, Try.ntmps19
    go_wp2
    go_loopw [8] (fun i wr => ∃ (k : Nat) (s1 : σ), k ≤ l.len ∧ i = .int .i64 k ∧ (l.drop k).fold step s1 = l.fold step s ∧ I s1 wr) (fun i _ => l.len - (intOf i).toNat)
    case atStart => exact ⟨0, s, by omega, rfl, by rw [Pts.drop_zero], HI.out⟩
    case round =>
      obtain ⟨k, s1, hk, rfl, hf, hi⟩ := hrel
      have HF := Lib.hid hf; have HII := Lib.hid hi; clear hf hi
      by_cases hlt : k < l.len
      · obtain ⟨pk, t, o, kids, cm, r, hdr⟩ := Pts.drop_cons k l hlt
        have hp' := (HP.out.keep (fun p hp => (HKP.out s1 wr HII.out p hp).1)).at_ k
        rw [hdr, Nat.zero_add] at hp'
        obtain ⟨b, off, Ak, ck, rfl, hg, c0, c1, c2, c3, c4, hl, h1, h2⟩ := hp'
        have hp2 := HP.out.at_ k
        rw [hdr, Nat.zero_add] at hp2
        obtain ⟨b', off', Ak', ck', hA, hg', _, _, _, c3', _, _, h1', _⟩ := hp2
        injection hA with hA
        injection hA with hA1 hA2
        subst hA1 hA2
        have e3 := (HKP.out s1 wr HII.out ⟨b, off + k * 5 + 3, none⟩ hg).1
        rw [c3, c3'] at e3
        injection e3 with e3
        injection e3 with e4 e5 e6
        subst e4 e6
        have hwd := Pts.mx_at k l hdr
        have hkd := Pts.deep_drop k l hdr
        have hlt0 := (HKP.out s1 wr HII.out ⟨b, 0, none⟩ hg).2
        unfold Cm.val at c4
        have hx := box_cells (heap_alloc_new wr (.cells #[.int .i64 pk, .string t, .string o, .slice Ak kids.len ck, .slice cm.a cm.n cm.c] 37))
        have HD := Lib.hid hdr; have HKD := Lib.hid h1'; clear hdr h2 h1 h1' c3' hg'
        have HI1 := Lib.hid (HAL.out s1 wr (.cells #[.int .i64 pk, .string t, .string o, .slice Ak kids.len ck, .slice cm.a cm.n cm.c] 37) HII.out)
        obtain ⟨z0, z1, z2, z3, z4⟩ := hx
        go_wp2_with fail
        rw [HE.out, Oper.upon_enter]
        refine (HST.out s1 _ pk t o Ak kids.len ck cm HI1.out).mono ?_
        rintro e w1 ⟨rfl, hi1, hkm⟩
        have HI2 := Lib.hid hi1
        obtain ⟨x0, x1, x2, x3, x4⟩ := box_cells ((hkm wr.heap.size (by simp) (HMM.out s1 wr _ HII.out)).trans (heap_alloc_new wr (.cells #[.int .i64 pk, .string t, .string o, .slice Ak kids.len ck, .slice cm.a cm.n cm.c] 37)))
        clear hi1 c0 c1 c2 c3 c4 hkm z0 z1 z2 z3 z4
        go_wp2_with fail
        refine (IH.out kids Ak ck w1 (step s1 pk cm) (by omega) (by omega) HKD.out HI2.out).mono ?_
        rintro e w2 ⟨rfl, hi2⟩
        have HI3 := Lib.hid hi2
        clear hi2
        clear x0 x1 x2 x3 x4
        go_wp2
        go_roundw
        case rel =>
          refine ⟨k + 1, kids.fold step (step s1 pk cm), by omega, by go_num, ?_, HI3.out⟩
          rw [← HF.out, HD.out, Pts.drop_succ k l HD.out, Pts.fold]
        case measure => simp only [intOf]; omega
      · go_wp2
        go_end0
        refine ⟨rfl, ?_⟩
        have h := HF.out
        rw [Pts.drop_end k l (by omega), Pts.fold] at h
        rw [← h]
        exact HII.out
end Go.Proofs.Ytjpopekmbmcggaa
