/- conchlaw27.awake, walked: true. -/
import Derived.Test.YtpefkhbejjndeaaUqAssign
import Derived.Test.YtpefkhbejjndeaaUqText
import Derived.Test.YtpefkhbejjndeaaUqQuoted
namespace Go.Proofs.Ytpefkhbejjndeaa
open Go.RowKit

def w1T : ByteArray := ⟨#[97, 61, 98]⟩
def w1C : ByteArray := ⟨#[99]⟩
def w1R : Pts := .cons 3 w1C ⟨#[]⟩ .nil ⟨none, 0, 0⟩ .nil
def w1L : Pts := .cons 1 w1T ⟨#[]⟩ .nil ⟨none, 0, 0⟩ w1R
theorem w1_list : w1T.toList = [97, 61, 98] := by rw [Lib.toList_data]; rfl
theorem w1_utx : w1L.utx = some [97, 61, 98, 99] := by
  have h2 : w1C.toList = [99] := by rw [Lib.toList_data]; rfl
  unfold w1L w1R
  rw [Pts.utx, if_pos (.inl rfl), Pts.utx, if_pos (.inr (.inr rfl)), w1_list, h2]
  rfl
theorem w1_assign : Chr.assign w1T.toList = ((1 : Nat) : Int) := by rw [w1_list]; decide +kernel
theorem w1_name : w1T.extract 0 1 = ⟨#[97]⟩ := by decide +kernel
theorem w1_quoted : w1L.quoted = true := rfl

set_option maxRecDepth 100000 in
set_option maxHeartbeats 4000000 in
theorem awake27 (w : World) : Calls Try.prog 30 #[] w fun e w' => e = .returned (.bool true) ∧ Below w.heap.size w w' := by
  go_enter Try.func30, Try.ntmps30
  go_wp2_with fail
  generalize hW : World.alloc _ _ = W
  have hbW : Below w.heap.size w W := by rw [← hW]; exact ((Below.refl _ _).alloc (Nat.le_refl _) _).alloc (by simp) _
  have hsz : W.heap.size = w.heap.size + 2 := by rw [← hW]; simp
  have q1 : W.cell? ⟨w.heap.size + 1, 0, none⟩ = some (.slice (some ⟨w.heap.size, 0, none⟩) 2 2) := by rw [← hW]; simp
  have hp : PtsAt (fun k => k = w.heap.size) W (some ⟨w.heap.size, 0, none⟩) 0 w1L := by
    rw [← hW]
    refine ⟨w.heap.size, 0, none, 0, rfl, rfl, ?_, ?_, ?_, ?_, ?_, Nat.le_refl _, trivial, ?_⟩
    · simp
    · simp [w1T]
    · simp
    · simp [Pts.len]
    · simp [Cm.val]
    · refine ⟨w.heap.size, 0, none, 0, rfl, rfl, ?_, ?_, ?_, ?_, ?_, Nat.le_refl _, trivial, trivial⟩
      · simp
      · simp [w1C]
      · simp
      · simp [Pts.len]
      · simp [Cm.val]
  have hG : ∀ k, k = w.heap.size → k < W.heap.size := fun k hk => by omega
  clear hW
  refine (utext_p w1L _ 2 _ W (by decide) hG hp).mono ?_
  rintro e w2 ⟨he, hb2⟩
  rw [w1_utx] at he
  subst he
  have hx : ((⟨#[97, 61, 98, 99]⟩ : ByteArray).toList == [97, 61, 98, 99]) = true := by rw [Lib.toList_data]; rfl
  have hy : ((⟨#[97]⟩ : ByteArray).toList == [97]) = true := by rw [Lib.toList_data]; rfl
  have q2 := (World.cell?_of_block (hb2.block (w.heap.size + 1) (by omega))).trans q1
  have hp2 := hp.old hG hb2
  have hG2 : ∀ k, k = w.heap.size → k < w2.heap.size := fun k hk => by have := hb2.size; omega
  have hbw2 := hbW.trans (hb2.mono hbW.size)
  have hs2 : w.heap.size + 2 ≤ w2.heap.size := by have := hb2.size; omega
  clear hbW hsz q1 hp hG hb2
  simp only [Option.getD_some, Option.isSome_some, bs]
  go_wp2_with fail
  have HAS := uassign_some w1T ⟨#[]⟩ .nil w1R ⟨none, 0, 0⟩ 1 w1_assign (by decide) (some ⟨w.heap.size, 0, none⟩) 2 _ w2 hG2 hp2 (by decide) (by decide) (by decide) (by unfold maxLen; decide)
  rw [show w1R.len + 1 = 2 from rfl, w1_name] at HAS
  refine HAS.mono ?_
  rintro e w3 ⟨v, rfl, hP, hb3⟩
  obtain ⟨A9, c9, rfl, _⟩ := hP.at_
  rw [show (uRest w1T 1 w1R).len = 2 by unfold uRest; rw [if_pos (by decide)]; rfl]
  have hb34 : Below w2.heap.size w2 (w3.alloc (.cells #[.slice A9 2 c9] 33)) := hb3.alloc hb3.size _
  have q4 := (World.cell?_of_block (hb34.block (w.heap.size + 1) (by omega))).trans q2
  have HP4 := Lib.hid (hp2.old hG2 hb34)
  have HB4 := Lib.hid (hbw2.trans (hb34.mono hbw2.size))
  have HG4 := Lib.hid (show ∀ k, k = w.heap.size → k < (w3.alloc (.cells #[.slice A9 2 c9] 33)).heap.size from fun k hk => by have := hb34.size; omega)
  clear hP hb3 hb34 HAS hp2 hG2 hbw2 q2
  go_wp2_with fail
  refine (quoted_p w1L _ 2 _ _ (by decide) HG4.out HP4.out).mono ?_
  rintro e w5 ⟨he, hb5⟩
  rw [w1_quoted] at he
  subst he
  have HB5 := Lib.hid (HB4.out.trans (hb5.mono HB4.out.size))
  clear hb5
  go_wp2_with fail
  go_ret
  exact ⟨rfl, HB5.out⟩
end Go.Proofs.Ytpefkhbejjndeaa
