/- conchlaw25.awake. -/
import Derived.Test.YtpefkhbejjndeaaWordShow
import Derived.Test.YtpefkhbejjndeaaPtsRow
import Derived.Test.YtpefkhbejjndeaaMuch
import Derived.Test.YtpefkhbejjndeaaPtsRead
namespace Go.Proofs.Ytpefkhbejjndeaa
open Go.RowKit

def noCm : Cm := ⟨none, 0, 0⟩
def awakeWord : Pts := .cons 1 ⟨#[97]⟩ ⟨#[]⟩ .nil noCm (.cons 4 ⟨#[]⟩ ⟨#[]⟩ (.cons 5 ⟨#[120]⟩ ⟨#[58, 45]⟩ (.cons 6 ⟨#[]⟩ ⟨#[]⟩ .nil noCm .nil) noCm .nil) noCm .nil)
theorem awakeWord_shw : awakeWord.shw [[98]] = ([97, 34, 36, 123, 120, 58, 45, 36, 40, 32, 98, 41, 125, 34], []) := by
  have e1 := list_mk [97]
  have e2 := list_mk [120]
  have e3 := list_mk [58, 45]
  unfold awakeWord
  simp [Pts.shw, Pts.paramHead, Pts.cmdText, e1, e2, e3]
theorem awakeWord_len : (awakeWord.shw []).1.length = 13 := by
  have e1 := list_mk [97]
  have e2 := list_mk [120]
  have e3 := list_mk [58, 45]
  unfold awakeWord
  simp [Pts.shw, Pts.paramHead, Pts.cmdText, e1, e2, e3]
theorem awakeWord_wt : awakeWord.wt ≤ 100 := by
  have e1 := size_lit [97]
  have e2 := size_lit [120]
  have e3 := size_lit [58, 45]
  have e4 := size_lit []
  unfold awakeWord
  simp only [Pts.wt, e1, e2, e3, e4, noCm, List.length_cons, List.length_nil]
  omega

set_option maxRecDepth 100000 in
set_option maxHeartbeats 2000000 in
theorem awake25 (w : World) : Calls Try.prog 26 #[] w fun e w' => e = .returned (.bool true) ∧ Below w.heap.size w w' := by
  go_enter Try.func26, Try.ntmps26
  go_wp2_with fail
  generalize hw1 : World.alloc _ _ = w1
  have hb : Below w.heap.size w w1 := by
    rw [← hw1]
    repeat (first | exact Below.refl _ _ | refine Below.alloc ?_ (by simp; try omega) _)
  have hsz : w1.heap.size = w.heap.size + 5 := by rw [← hw1]; simp
  have hs : StrsAt (Old w1) w1 (some ⟨w.heap.size + 1 + 1 + 1 + 1, 0, none⟩) [[98]] := fun _ => ⟨_, rfl, (by omega : w.heap.size + 1 + 1 + 1 + 1 < w1.heap.size), fun j s hj => by
    match j, hj with
    | 0, hj => simp only [List.getElem?_cons_zero, Option.some.injEq] at hj; subst hj; rw [← hw1]; simp [Addr.add, bs, World.cell?_alloc_at]
    | j + 1, hj => simp at hj⟩
  have hp : PtsAt (Old w1) w1 (some ⟨w.heap.size + 1 + 1, 0, none⟩) 0 awakeWord := by
    unfold awakeWord
    refine ⟨_, _, none, 0, rfl, by show _ < w1.heap.size; omega, ?_, ?_, ?_, ?_, ?_, Nat.le_refl _, trivial, _, _, some ⟨w.heap.size + 1, 0, none⟩, 1, rfl, by show _ < w1.heap.size; omega, ?_, ?_, ?_, ?_, ?_, Nat.le_refl _,
      ⟨_, _, some ⟨w.heap.size, 0, none⟩, 1, rfl, by show _ < w1.heap.size; omega, ?_, ?_, ?_, ?_, ?_, Nat.le_refl _, ⟨_, _, none, 0, rfl, by show _ < w1.heap.size; omega, ?_, ?_, ?_, ?_, ?_, Nat.le_refl _, trivial, trivial⟩, trivial⟩, trivial⟩
    all_goals (rw [← hw1]; simp (disch := (first | (simp only [size_alloc] <;> omega) | omega)) [Cm.val, noCm, Pts.len, World.cell?_alloc_at, World.cell?_alloc_past] <;> rfl)
  have hcc : w1.cell? ⟨w.heap.size + 1 + 1 + 1, 0, none⟩ = some (.slice (some ⟨w.heap.size + 1 + 1, 0, none⟩) 2 2) := by rw [← hw1]; simp [World.cell?_alloc_at, World.cell?_alloc_past]
  clear hw1
  refine (show_any (Old w1) awakeWord (some ⟨w.heap.size + 1 + 1, 0, none⟩) 2 _ 1 [[98]] w1 (fun _ h => h) hp hs (Nat.le_refl _) (by have := awakeWord_wt; simp only [Pts.total, List.length_cons, List.length_nil]; omega)).mono ?_
  rintro e w2 ⟨rfl, hb2⟩
  have hcc2 : w2.cell? ⟨w.heap.size + 1 + 1 + 1, 0, none⟩ = some (.slice (some ⟨w.heap.size + 1 + 1, 0, none⟩) 2 2) := (World.cell?_of_block (hb2.block (w.heap.size + 1 + 1 + 1) (by omega))).trans hcc
  have hp2 : PtsAt (Old w2) w2 (some ⟨w.heap.size + 1 + 1, 0, none⟩) 0 awakeWord := (hp.keep fun p hp => World.cell?_of_block (hb2.block _ hp)).more fun k hk => Nat.lt_of_lt_of_le hk hb2.size
  rw [awakeWord_shw]
  have HP := Lib.hid hp2
  have HB := Lib.hid (hb.trans ⟨hb2.os, hb2.tape, hb2.output, hb2.size, fun k hk => hb2.block k (by omega)⟩)
  have hs2 := hb2.size
  clear hp2 hp hs hb hb2 hcc
  unfold bs
  go_wp2_with fail
  refine (length_any (Old w2) awakeWord (some ⟨w.heap.size + 1 + 1, 0, none⟩) 2 w2 (fun _ h => h) HP.out (by have := awakeWord_wt; omega)).mono ?_
  rintro e w3 ⟨rfl, hb3⟩
  have HB3 := Lib.hid (HB.out.trans ⟨hb3.os, hb3.tape, hb3.output, hb3.size, fun k hk => hb3.block k (by omega)⟩)
  clear hb3
  rw [awakeWord_len]
  go_wp2_with fail
  go_ret
  exact ⟨rfl, HB3.out⟩
end Go.Proofs.Ytpefkhbejjndeaa
