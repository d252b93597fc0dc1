/- conchlaw24.awake. -/
import Derived.Test.YtjpopekmbmcggaaProgSame
import Derived.Test.YtjpopekmbmcggaaProgBareW
import Derived.Test.YtjpopekmbmcggaaProgCmds
import Derived.Test.YtjpopekmbmcggaaProgRight
import Derived.Test.YtjpopekmbmcggaaPtsRead
import Derived.Deep.RegionHeld3
import Derived.Deep.RegionWith
namespace Go.Proofs.Ytjpopekmbmcggaa
open Go.RowKit

def aw24 : Pts := .cons 1 ⟨#[97, 36]⟩ ⟨#[]⟩ .nil ⟨none, 0, 0⟩ (.cons 4 ⟨#[]⟩ ⟨#[]⟩ (.cons 5 ⟨#[120]⟩ ⟨#[]⟩ .nil ⟨none, 0, 0⟩ .nil) ⟨none, 0, 0⟩ .nil)
theorem aw24_wt : aw24.wt ≤ 100 := by
  have e1 := Lib.size_eq ⟨#[97, 36]⟩
  have e2 := Lib.size_eq ⟨#[120]⟩
  have e3 := Lib.size_eq ⟨#[]⟩
  unfold aw24
  simp only [Pts.wt, e1, e2, e3, List.length_cons, List.length_nil]
  omega
theorem aw24_right : aw24.right = true := by
  have e1 := list_mk [97, 36]
  have e2 := list_mk [120]
  have e3 := list_mk []
  unfold aw24
  simp only [Pts.right, Pts.allP, Pts.headK, Pts.headT, Pts.len, oneB, e1, e2, e3]
  decide

set_option maxRecDepth 100000 in
set_option maxHeartbeats 16000000 in
theorem awake24 (w : World) : Calls Try.prog 6 #[] w fun e w' => e = .returned (.bool true) ∧ Below w.heap.size w w' := by
  go_enter Try.func6, Try.ntmps6
  go_wp2_with fail
  generalize hw1 : World.alloc _ _ = w1
  have hb : Below w.heap.size w w1 := by
    rw [← hw1]
    repeat (first | exact Below.refl _ _ | refine Below.alloc ?_ (by simp; try omega) _)
  have hsz : w1.heap.size = w.heap.size + 3 := by rw [← hw1]; simp
  obtain ⟨k0, k1, k2⟩ := three_blocks w (.cells #[.int .i64 5, .string ⟨#[120]⟩, .string ⟨#[]⟩, .slice none 0 0, .slice none 0 0] 37) (.cells #[.int .i64 1, .string ⟨#[97, 36]⟩, .string ⟨#[]⟩, .slice none 0 0, .slice none 0 0, .int .i64 4, .string ⟨#[]⟩, .string ⟨#[]⟩, .slice (some ⟨w.heap.size, 0, none⟩) 1 1, .slice none 0 0] 37) (.cells #[.slice (some ⟨w.heap.size + 1, 0, none⟩) 2 2] 24)
  rw [hw1] at k0 k1 k2
  have hp : PtsAt (Old w1) w1 (some ⟨w.heap.size + 1, 0, none⟩) 0 aw24 := by
    unfold aw24
    refine ⟨_, _, none, 0, rfl, by show _ < w1.heap.size; omega, ?_, ?_, ?_, ?_, ?_, Nat.le_refl _, trivial, _, _, some ⟨w.heap.size, 0, none⟩, 1, rfl, by show _ < w1.heap.size; omega, ?_, ?_, ?_, ?_, ?_, Nat.le_refl _,
      ⟨_, _, none, 0, rfl, by show _ < w1.heap.size; omega, ?_, ?_, ?_, ?_, ?_, Nat.le_refl _, trivial, trivial⟩, trivial⟩
    all_goals (first | (simp [World.cell?, k1, Cm.val, Pts.len]; done) | (simp [World.cell?, k0, Cm.val, Pts.len]; done))
  have hcc : w1.cell? ⟨w.heap.size + 1 + 1, 0, none⟩ = some (.slice (some ⟨w.heap.size + 1, 0, none⟩) 2 2) := word_cell k2
  clear k0 k1 k2
  clear hw1
  have hS : ∀ X, Below w1.heap.size w1 X → X.cell? ⟨w.heap.size + 1 + 1, 0, none⟩ = some (.slice (some ⟨w.heap.size + 1, 0, none⟩) 2 2) := fun X hX => (World.cell?_of_block (hX.block (w.heap.size + 1 + 1) (by omega))).trans hcc
  have hPX : ∀ X, Below w1.heap.size w1 X → PtsAt (Old w1) X (some ⟨w.heap.size + 1, 0, none⟩) 0 aw24 := fun X hX => hp.keep fun p hp => World.cell?_of_block (hX.block _ hp)
  have hGX : ∀ X, Below w1.heap.size w1 X → ∀ k, Old w1 k → k < X.heap.size := fun X hX k hk => Nat.lt_of_lt_of_le hk hX.size
  have haw := aw24_wt
  have hwt : aw24.wt ≤ 1073741824 := by omega
  have fR : ∀ X, Below w1.heap.size w1 X → Calls Try.prog 9 #[.agg #[.slice (some ⟨w.heap.size + 1, 0, none⟩) 2 2]] X fun e w' => e = .returned (.bool true) ∧ Below w1.heap.size w1 w' := fun X hX =>
    (right_p aw24 (some ⟨w.heap.size + 1, 0, none⟩) 2 _ X (Nat.le_trans (Pts.mx_wt _) (Nat.le_trans hwt (by decide))) (hGX X hX) (hPX X hX)).mono fun e w' ⟨he, hb⟩ => ⟨by rw [he, aw24_right], hX.trans (hb.mono hX.size)⟩
  have fE : ∀ X, Below w1.heap.size w1 X → Calls Try.prog 9 #[.agg #[.slice none 0 0]] X fun e w' => e = .returned (.bool false) ∧ Below w1.heap.size w1 w' := fun X hX =>
    (right_p .nil none 0 (fun _ => False) X (by simp [Pts.mx]) (fun _ h => h.elim) trivial).mono fun e w' ⟨he, hb⟩ => ⟨by rw [he]; rfl, hX.trans (hb.mono hX.size)⟩
  have fC : ∀ X, Below w1.heap.size w1 X → Calls Try.prog 11 #[.agg #[.slice (some ⟨w.heap.size + 1, 0, none⟩) 2 2]] X fun e w' => e = .returned (.int .i64 3) ∧ Below w1.heap.size w1 w' := fun X hX =>
    (count_p aw24 (some ⟨w.heap.size + 1, 0, none⟩) 2 _ X hwt (hGX X hX) (hPX X hX)).mono fun e w' ⟨he, hb⟩ => ⟨by rw [he]; rfl, hX.trans (hb.mono hX.size)⟩
  have fD : ∀ X, Below w1.heap.size w1 X → Calls Try.prog 13 #[.agg #[.slice (some ⟨w.heap.size + 1, 0, none⟩) 2 2]] X fun e w' => e = .returned (.int .i64 2) ∧ Below w1.heap.size w1 w' := fun X hX =>
    (deep_p aw24 (some ⟨w.heap.size + 1, 0, none⟩) 2 _ X hwt (hGX X hX) (hPX X hX)).mono fun e w' ⟨he, hb⟩ => ⟨by rw [he]; rfl, hX.trans (hb.mono hX.size)⟩
  have fM : ∀ X, Below w1.heap.size w1 X → Calls Try.prog 7 #[.agg #[.slice (some ⟨w.heap.size + 1, 0, none⟩) 2 2]] X fun e w' => (∃ A c, e = .returned (.slice A 0 c)) ∧ Below w1.heap.size w1 w' := fun X hX =>
    (cmds_p aw24 (some ⟨w.heap.size + 1, 0, none⟩) 2 _ X hwt (hGX X hX) (hPX X hX)).mono fun e w' ⟨v, he, hr, hb⟩ => ⟨by obtain ⟨A, c, hv, _⟩ := hr.shape; exact ⟨A, c, by rw [he, hv]; rfl⟩, hX.trans (hb.mono hX.size)⟩
  have fB : ∀ X, Below w1.heap.size w1 X → Calls Try.prog 16 #[.agg #[.slice (some ⟨w.heap.size + 1, 0, none⟩) 2 2]] X fun e w' => ∃ A' c', e = .returned (.agg #[.slice A' 2 c']) ∧ PtsAt (Old w') w' A' 0 aw24.bare ∧ Below w1.heap.size w1 w' := fun X hX =>
    (bareW_p aw24 (some ⟨w.heap.size + 1, 0, none⟩) 2 _ X hwt (hGX X hX) (hPX X hX)).mono fun e w' ⟨A', c', he, _, hp', hb⟩ => ⟨A', c', by rw [he]; rfl, hp'.more fun k hk => hk.2, hX.trans (hb.mono hX.size)⟩
  have fS : ∀ X A' c', Below w1.heap.size w1 X → PtsAt (Old X) X A' 0 aw24.bare → Calls Try.prog 18 #[.agg #[.slice A' 2 c'], .agg #[.slice (some ⟨w.heap.size + 1, 0, none⟩) 2 2]] X fun e w' => e = .returned (.bool true) ∧ Below w1.heap.size w1 w' := fun X A' c' hX hA =>
    (same_p aw24.bare aw24 A' (some ⟨w.heap.size + 1, 0, none⟩) c' 2 _ _ X (Nat.le_trans (Pts.wt_bare _) hwt) (Pts.bare_bare _) (fun _ h => h) (hGX X hX) hA (hPX X hX)).mono fun e w' ⟨he, hb⟩ => ⟨he, hX.trans (hb.mono hX.size)⟩
  have HB := Lib.hid hb; have Fz := Lib.hid fS; have FB := Lib.hid fB; have FM := Lib.hid fM; have FD := Lib.hid fD; have FC := Lib.hid fC; have FE := Lib.hid fE; have FR := Lib.hid fR; have HS := Lib.hid hS; have HSZ := Lib.hid hsz
  clear hb fS fB fM fD fC fE fR hS hsz hPX hGX hp haw hwt
  have R0 := Lib.hid (FR.out w1.drew (Below.refl _ _).drew)
  go_region_held3 (fun X => X.cell? ⟨w.heap.size + 1 + 1, 0, none⟩ = some (.slice (some ⟨w.heap.size + 1, 0, none⟩) 2 2))
    (exact HS.out _ (by first | exact bE | exact bS | exact bB | exact bM | exact bD | exact bC | exact bR | exact (Below.refl _ _).drew))
    (first
      | (go_at_call 11
         refine Calls.mono (FC.out _ bR) ?_
         rintro e w2 ⟨rfl, bC⟩
         dsimp only)
      | (go_at_call 13
         refine Calls.mono (FD.out _ bC) ?_
         rintro e w2 ⟨rfl, bD⟩
         dsimp only)
      | (go_at_call 7
         refine Calls.mono (FM.out _ bD) ?_
         rintro e w2 ⟨⟨Am, cm, rfl⟩, bM⟩
         dsimp only)
      | (go_at_call 16
         refine Calls.mono (FB.out _ bM) ?_
         rintro e w2 ⟨A2, c2, rfl, p2, bB⟩
         have PB := Lib.hid p2
         clear p2
         dsimp only)
      | (go_at_call 18
         refine Calls.mono (Fz.out _ _ _ bB PB.out) ?_
         rintro e w2 ⟨rfl, bS⟩
         dsimp only)
      | (go_at_call_of 9 (Value.agg #[Value.slice none 0 0])
         refine Calls.mono (FE.out _ bS) ?_
         rintro e w2 ⟨rfl, bE⟩
         dsimp only)
      | (go_at_call 9
         refine Calls.mono R0.out ?_
         rintro e w2 ⟨rfl, bR⟩
         dsimp only))
  go_wp2
  go_ret
  exact ⟨rfl, HB.out.trans (bE.mono (by have := HSZ.out; omega))⟩
end Go.Proofs.Ytjpopekmbmcggaa
