/- Count and Deep, both sides. -/
import Derived.Test.YtjpopekmbmcggaaPtsMem
import Derived.Test.YtjpopekmbmcggaaBase
import Derived.LoopTactic
import Derived.Outline
namespace Go.Proofs.Ytjpopekmbmcggaa
open Go.RowKit

namespace Pts
/-- How many parts, with those within others. -/
def count : Pts → Nat
  | nil => 0
  | cons _ _ _ kids _ rest => 1 + kids.count + rest.count
theorem count_wt : ∀ l : Pts, l.count ≤ l.wt
  | nil => Nat.le_refl _
  | cons _ _ _ kids _ rest => by have := count_wt kids; have := count_wt rest; rw [count, wt]; omega
theorem deep_wt : ∀ l : Pts, l.deep ≤ l.wt
  | nil => Nat.le_refl _
  | cons _ _ _ kids _ rest => by have := deep_wt kids; have := deep_wt rest; rw [deep, wt]; omega
end Pts

set_option maxRecDepth 100000 in
set_option maxHeartbeats 1000000 in
theorem count_r : ∀ (n : Nat) (l : Pts) (G : Nat → Prop) (A : Option Addr) (c : Nat) (w : World), l.deep < n → l.wt ≤ 1073741824 → PtsAt G w A 0 l →
    Calls Try.prog 12 #[.slice A l.len c] w fun e w' => e = .returned (.int .i64 (l.count : Nat)) ∧ w = w' := by
  intro n
  induction n with
  | zero => intro l _ _ _ _ h; omega
  | succ n ih =>
    intro l G A c w hd hwt hp
    have hlw := Pts.len_wt l
    have hcw := Pts.count_wt l
    have IH := Lib.hid ih; clear ih
    go_enter Try.func12, Try.ntmps12
    go_wp2
    go_loop [3, 4] (fun s i => ∃ (k m : Nat), k ≤ l.len ∧ i = .int .i64 k ∧ s = .int .i64 m ∧ m + (l.drop k).count = l.count + (l.drop k).len) (fun _ i => l.len - (intOf i).toNat)
    case atStart => exact ⟨0, l.len, by omega, rfl, rfl, by rw [Pts.drop_zero]; omega⟩
    case round =>
      obtain ⟨k, m, hk, rfl, rfl, hf⟩ := hrel
      have hld := Pts.len_drop k l
      have hm : m ≤ 4294967296 := by omega
      have HF := Lib.hid hf; have HLD := Lib.hid hld; clear hf hld
      by_cases hlt : k < l.len
      · obtain ⟨pk, t, o, kids, cm, r, hdr⟩ := Pts.drop_cons k l hlt
        have hp' := hp.at_ k
        rw [hdr, Nat.zero_add] at hp'
        obtain ⟨b, off, Ak, ck, rfl, hG, c0, c1, c2, c3, c4, hl, h1, h2⟩ := hp'
        have hwd := Pts.wt_drop k l
        rw [hdr, Pts.wt] at hwd
        have hkw := Pts.count_wt kids
        have hkd := Pts.deep_drop k l hdr
        have HD := Lib.hid hdr; clear hdr c0 c1 c2 c4 h2
        have HP1 := Lib.hid h1; clear h1
        have hkc : (kids.count : Int) ≤ 1073741824 := by omega
        go_wp2_with fail
        refine (IH.out kids G Ak ck _ (by omega) (by omega) HP1.out).mono ?_
        rintro e w1 ⟨rfl, rfl⟩
        go_wp2
        go_round
        case rel =>
          refine ⟨k + 1, m + kids.count, by omega, by go_num, by go_num, ?_⟩
          rw [Pts.drop_succ k l HD.out]
          have h := HF.out
          rw [HD.out, Pts.count, Pts.len] at h
          omega
        case measure => simp only [intOf]; omega
      · go_wp2
        go_ret
        refine ⟨ret_int ?_, rfl⟩
        have h := HF.out
        rw [Pts.drop_end k l (by omega)] at h
        simp only [Pts.count, Pts.len] at h
        omega

set_option maxRecDepth 100000 in
set_option maxHeartbeats 1000000 in
theorem deep_r : ∀ (n : Nat) (l : Pts) (G : Nat → Prop) (A : Option Addr) (c : Nat) (w : World), l.deep < n → l.wt ≤ 1073741824 → PtsAt G w A 0 l →
    Calls Try.prog 14 #[.slice A l.len c] w fun e w' => e = .returned (.int .i64 (l.deep : Nat)) ∧ w = w' := by
  intro n
  induction n with
  | zero => intro l _ _ _ _ h; omega
  | succ n ih =>
    intro l G A c w hd hwt hp
    have hlw := Pts.len_wt l
    have IH := Lib.hid ih; clear ih
    go_enter Try.func14, Try.ntmps14
    go_wp2
    go_loop [3, 4] (fun s i => ∃ (k m : Nat), k ≤ l.len ∧ i = .int .i64 k ∧ s = .int .i64 m ∧ max m (l.drop k).deep = l.deep) (fun _ i => l.len - (intOf i).toNat)
    case atStart => exact ⟨0, 0, by omega, rfl, rfl, by rw [Pts.drop_zero]; omega⟩
    case round =>
      obtain ⟨k, m, hk, rfl, rfl, hf⟩ := hrel
      have hdw := Pts.deep_wt l
      have hm : m ≤ 1073741824 := by omega
      have HF := Lib.hid hf; clear hf
      by_cases hlt : k < l.len
      · obtain ⟨pk, t, o, kids, cm, r, hdr⟩ := Pts.drop_cons k l hlt
        have hp' := hp.at_ k
        rw [hdr, Nat.zero_add] at hp'
        obtain ⟨b, off, Ak, ck, rfl, hG, c0, c1, c2, c3, c4, hl, h1, h2⟩ := hp'
        have hwd := Pts.wt_drop k l
        rw [hdr, Pts.wt] at hwd
        have hkw := Pts.deep_wt kids
        have hkd := Pts.deep_drop k l hdr
        have HD := Lib.hid hdr; clear hdr c0 c1 c2 c4 h2
        have HP1 := Lib.hid h1; clear h1
        have hkc : (kids.deep : Int) ≤ 1073741824 := by omega
        go_wp2_with fail
        refine (IH.out kids G Ak ck _ (by omega) (by omega) HP1.out).mono ?_
        rintro e w1 ⟨rfl, rfl⟩
        go_wp2
        go_round
        case rel =>
          refine ⟨k + 1, max m (kids.deep + 1), by omega, by go_num, ?_, ?_⟩
          · first | go_num | (congr 1; omega)
          · rw [Pts.drop_succ k l HD.out]
            have h := HF.out
            rw [HD.out, Pts.deep] at h
            omega
        case measure => simp only [intOf]; omega
      · go_wp2
        go_ret
        refine ⟨ret_int ?_, rfl⟩
        have h := HF.out
        rw [Pts.drop_end k l (by omega)] at h
        simp only [Pts.deep] at h
        omega
end Go.Proofs.Ytjpopekmbmcggaa
