/- conchlaw36.awake, walked: true. -/
import Derived.Test.YtbkmfnjjfamjjaaAlTwin
namespace Go.Proofs.Ytbkmfnjjfamjjaa
open Go.RowKit Go.Maps

def aB : ByteArray := ⟨#[98]⟩
def aA : ByteArray := ⟨#[97]⟩
def aX : ByteArray := ⟨#[120, 32]⟩
def aY : ByteArray := ⟨#[121]⟩
def aAB : ByteArray := ⟨#[97, 32, 98]⟩
def aL1 : Al := [(aB, aX)]
def aL2 : Al := [(aA, aY), (aB, aX)]
theorem lit_list (l : List UInt8) : (⟨l.toArray⟩ : ByteArray).toList = l := by rw [Lib.toList_data]
theorem aw1 : Al.setE [] aB aX = 0 := by
  unfold Al.setE
  rw [show aB.toList = [98] from lit_list [98]]
  decide +kernel
theorem aw2 : Al.setE aL1 aA aY = 0 := by
  unfold Al.setE
  rw [show aA.toList = [97] from lit_list [97]]
  decide +kernel
theorem aw3 : Al.setE aL1 aAB ⟨#[]⟩ = 10 := by
  unfold Al.setE
  rw [show aAB.toList = [97, 32, 98] from lit_list [97, 32, 98]]
  decide +kernel
theorem aw4 : Al.setL [] aB aX = aL1 := by
  unfold Al.setL
  rw [if_pos aw1]
  rfl
theorem aw5 : Al.setL aL1 aA aY = aL2 := by
  unfold Al.setL
  rw [if_pos aw2]
  rfl
theorem aw6 : Al.has aL2 aB = true ∧ (Al.val aL2 aB).getD ⟨#[]⟩ = aX ∧ Al.has aL2 aA = true ∧ Al.del aL2 aA = aL1 ∧ blankB aX = true := ⟨by decide +kernel, rfl, by decide +kernel, rfl, by decide +kernel⟩

set_option maxRecDepth 100000 in
set_option maxHeartbeats 4000000 in
theorem awake36 (w : World) : Calls Try.prog 8 #[] w fun e w' => e = .returned (.bool true) ∧ Below w.heap.size w w' := by
  go_enter Try.func8, Try.ntmps8
  go_wp2_with fail
  refine (new_p w).mono ?_
  rintro e w1 ⟨rfl, t1, b1⟩
  go_wp2_with fail
  refine (set_p _ _ [] aB aX w1 t1 (by decide) (by decide) (by decide)).mono ?_
  rintro e w2 ⟨he, t2, g2⟩
  rw [aw1] at he
  rw [aw4] at t2
  subst he
  have b2 := b1.grown g2 b1.size (fun k hk => by cases hk; exact Nat.le_refl _)
  clear t1 b1 g2
  go_wp2_with fail
  refine (set_p _ _ aL1 aA aY w2 t2 (by decide) (by decide) (by decide)).mono ?_
  rintro e w3 ⟨he, t3, g3⟩
  rw [aw2] at he
  rw [aw5] at t3
  subst he
  have b3 := b2.grown g3 b2.size (fun k hk => by cases hk; exact Nat.le_refl _)
  clear t2 b2 g3
  go_wp2_with fail
  refine (get_p _ _ aL2 aB w3 t3 (by decide)).mono ?_
  rintro e w4 ⟨he, rfl⟩
  rw [aw6.1, aw6.2.1] at he
  subst he
  have hx : (aX.toList == [120, 32]) = true := by rw [show aX.toList = [120, 32] from lit_list [120, 32]]; rfl
  have hy : (aA.toList == [97]) = true := by rw [show aA.toList = [97] from lit_list [97]]; rfl
  go_wp2_with fail
  refine (blank_p aX _ (by decide)).mono ?_
  rintro e w5 ⟨he, rfl⟩
  rw [aw6.2.2.2.2] at he
  subst he
  go_wp2_with fail
  refine (len_p _ _ aL2 _ t3).mono ?_
  rintro e w6 ⟨rfl, rfl⟩
  rw [show aL2.length = 2 from rfl]
  go_wp2_with fail
  refine (list_p _ _ aL2 _ t3 (by decide)).mono ?_
  rintro e w7 ⟨v, rfl, hr, b7⟩
  obtain ⟨A, c, rfl, hc, hm, hat⟩ := hr.shape
  obtain ⟨bk, off, rfl, z1, _⟩ := hat 0 (aA, aY) rfl
  have t7 := t3.below b7
  have b8 := b3.trans (b7.mono b3.size)
  have hn2 : (aL2.length : Int) = 2 := rfl
  simp only [Nat.zero_mul, Nat.add_zero] at z1
  clear hr hat b7 b3 t3
  go_wp2_with fail
  refine (unset_p _ _ aL2 aA _ t7 (by decide)).mono ?_
  rintro e w8 ⟨he, t8, g8⟩
  rw [aw6.2.2.1] at he
  rw [aw6.2.2.2.1] at t8
  subst he
  have b9 := b8.grown g8 b8.size (fun k hk => by cases hk; exact Nat.le_refl _)
  clear t7 b8 g8 z1
  go_wp2_with fail
  refine (len_p _ _ aL1 _ t8).mono ?_
  rintro e w9 ⟨rfl, rfl⟩
  rw [show aL1.length = 1 from rfl]
  go_wp2_with fail
  refine (set_p _ _ aL1 aAB ⟨#[]⟩ _ t8 (by decide) (by decide) (by decide)).mono ?_
  rintro e w10 ⟨he, t10, g10⟩
  rw [aw3] at he
  subst he
  have b10 := b9.grown g10 b9.size (fun k hk => by cases hk; exact Nat.le_refl _)
  clear t8 t10 g10 b9
  go_wp2_with fail
  go_ret
  exact ⟨rfl, b10⟩
end Go.Proofs.Ytbkmfnjjfamjjaa
