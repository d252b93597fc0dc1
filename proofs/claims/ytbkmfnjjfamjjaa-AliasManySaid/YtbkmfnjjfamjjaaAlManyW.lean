/- conchlaw36.AliasMany, walked: true. -/
import Derived.Test.YtbkmfnjjfamjjaaAlAwake
import Derived.Test.YtbkmfnjjfamjjaaAlMany
import Derived.Lib.MinMax
import Derived.LoopTactic
namespace Go.Proofs.Ytbkmfnjjfamjjaa
open Go.RowKit Go.Maps

theorem many_set (i : Nat) (v : ByteArray) (hi : i < 60) (hv : v.size ≤ 200) (hn : nul v = false) :
    (manyL (min i 40) v).setE (nm i) v = (if i < 40 then 0 else 14) ∧ (manyL (min i 40) v).setL (nm i) v = manyL (min (i + 1) 40) v := by
  have hp : ¬ Chr.plain (nm i).toList = false := by
    rw [Lib.toList_data]
    have := nm_plain ⟨i, hi⟩
    rw [this]; decide
  have hlong : ¬ (24 < (nm i).size ∨ 200 < v.size) := by
    have : (nm i).size = 3 := rfl
    omega
  have hnn : ¬ nul v = true := by rw [hn]; decide
  by_cases h40 : i < 40
  · have hm : min i 40 = i := by omega
    have hE : (manyL (min i 40) v).setE (nm i) v = 0 := by
      unfold Al.setE
      rw [if_neg hp, if_neg hlong, if_neg hnn, if_neg (by rw [hm, many_len]; omega)]
    refine ⟨by rw [hE, if_pos h40], ?_⟩
    unfold Al.setL
    rw [if_pos hE, hm, many_put i v hi, show min (i + 1) 40 = i + 1 by omega]
  · have hm : min i 40 = 40 := by omega
    have hE : (manyL (min i 40) v).setE (nm i) v = 14 := by
      unfold Al.setE
      rw [if_neg hp, if_neg hlong, if_neg hnn, if_pos ⟨by rw [hm]; exact many_miss 40 i v (by omega) hi, by rw [hm, many_len]; exact Nat.le_refl _⟩]
    refine ⟨by rw [hE, if_neg h40], ?_⟩
    unfold Al.setL
    rw [if_neg (by rw [hE]; decide), hm, show min (i + 1) 40 = 40 by omega]
theorem many_again (k : Nat) (v : ByteArray) (hk : 0 < k) (hv : v.size ≤ 200) (hn : nul v = false) : (manyL (min k 40) v).setE ⟨#[97, 97, 97]⟩ v = 0 := by
  have hz : (⟨#[97, 97, 97]⟩ : ByteArray) = nm 0 := rfl
  have hp : ¬ Chr.plain (nm 0).toList = false := by
    rw [Lib.toList_data]
    have := nm_plain ⟨0, by omega⟩
    rw [this]; decide
  have hlong : ¬ (24 < (nm 0).size ∨ 200 < v.size) := by
    have : (nm 0).size = 3 := rfl
    omega
  rw [hz]
  unfold Al.setE
  rw [if_neg hp, if_neg hlong, if_neg (by rw [hn]; decide), if_neg (by rw [many_hit _ v (by omega)]; simp)]
/-- A name's three bytes as a text. -/
theorem three_bytes (i : Nat) (hi : i < 60) (x y : Int) (hx : x = 97 + ((i / 26 : Nat) : Int)) (hy : y = 97 + ((i % 26 : Nat) : Int)) (W : World) : (convert 41 9 (.slice (some ⟨W.heap.size, 0, none⟩) 3 3)).run Try.prog (W.alloc (.cells #[.int .u8 97, .int .u8 x, .int .u8 y] 5)) = .ok (.string (nm i)) (W.alloc (.cells #[.int .u8 97, .int .u8 x, .int .u8 y] 5)) := by
  have h := run_convert_bytes_arg (P := Try.prog) (W.alloc (.cells #[.int .u8 97, .int .u8 x, .int .u8 y] 5)) 41 5 Try.underlying41 Try.underlying5 W.heap.size 0 3 3 [97, x, y] rfl (by
    intro i hi
    match i, hi with
    | 0, _ => simp
    | 1, _ => simp
    | 2, _ => simp
    | n + 3, hi => omega) 9 Try.underlying9
  refine h.trans ?_
  subst hx hy
  have e1 : (97 + ((i / 26 : Nat) : Int)).toNat = 97 + i / 26 := by omega
  have e2 : (97 + ((i % 26 : Nat) : Int)).toNat = 97 + i % 26 := by omega
  have e3 : strOfNums [97, 97 + ((i / 26 : Nat) : Int), 97 + ((i % 26 : Nat) : Int)] = nm i := by
    unfold strOfNums nm
    simp only [List.map_cons, List.map_nil, e1, e2]
    rfl
  rw [e3]

set_option maxRecDepth 100000 in
set_option maxHeartbeats 4000000 in
theorem aliasMany_walk (n : Nat) (hn : n < 256) (v : ByteArray) (w : World) : Calls Try.prog 4 #[.int .u8 (n : Int), .string v] w fun e w' => e = .returned (.bool true) ∧ Below w.heap.size w w' := by
  have AW := awake36 w
  by_cases hl : 200 < v.size
  · have hl' : (200 : Int) < (v.size : Int) := by omega
    go_enter Try.func4, Try.ntmps4
    go_wp2_with (refine AW.mono ?_; rintro e w1 ⟨rfl, hb⟩)
    go_ret
    exact ⟨rfl, hb⟩
  · have hl' : ¬ (200 : Int) < (v.size : Int) := by omega
    have AW' := Lib.hid AW
    clear AW
    go_enter Try.func4, Try.ntmps4
    go_wp2_with fail
    go_loop [5] (fun i => ∃ k : Nat, k ≤ v.size ∧ i = .int .i64 k ∧ (v.toList.drop k).any (· == 0) = nul v) (fun i => v.size - (intOf i).toNat)
    case atStart => exact ⟨0, by omega, rfl, by rw [List.drop_zero, Lib.toList_data]; rfl⟩
    case round =>
      obtain ⟨k, hk, rfl, hf⟩ := hrel
      by_cases hlt : k < v.size
      · rw [any_step v k hlt] at hf
        have HF := Lib.hid hf; clear hf
        cases hz : ((v[k].toNat : Int) == 0)
        · have HZ := Lib.hid (show (v[k] == 0) = false by rw [beq_eq_false_iff_ne]; intro e; rw [e] at hz; simp at hz)
          go_wp2_with fail
          go_round
          case rel => exact ⟨k + 1, by omega, by go_num, by rw [← HF.out, HZ.out, Bool.false_or]⟩
          case measure => simp only [intOf]; omega
        · go_wp2_with fail
          refine AW'.out.mono ?_
          rintro e w1 ⟨rfl, hb⟩
          go_wp2_with fail
          go_ret
          exact ⟨rfl, hb⟩
      · have HN := Lib.hid (show nul v = false by rw [← hf, List.drop_eq_nil_of_le (by rw [← size_list]; omega)]; rfl)
        clear hf
        go_wp2_with fail
        refine (new_p w).mono ?_
        rintro e w1 ⟨rfl, t1, b1⟩
        have HT := Lib.hid t1; have HB := Lib.hid b1
        clear t1 b1
        obtain ⟨kk, hkk⟩ : ∃ kk, n % 60 = kk := ⟨_, rfl⟩
        have hk60 : (n : Int) % 60 = (kk : Int) := by omega
        have hklt : kk < 60 := by omega
        have hv200 : v.size ≤ 200 := by omega
        clear hkk
        go_wp2_with fail
        rw [hk60]
        clear hk60
        go_loopw [8] (fun i wr => ∃ j : Nat, j ≤ kk ∧ i = .int .i64 j ∧ Tab wr (w.heap.size + 1) w.heap.size (manyL (min j 40) v) ∧ Below w.heap.size w wr) (fun i _ => kk - (intOf i).toNat)
        case atStart => exact ⟨0, by omega, rfl, HT.out, HB.out⟩
        case round =>
          obtain ⟨j, hj, rfl, ht, hb⟩ := hrel
          have HTR := Lib.hid ht; have HBR := Lib.hid hb
          clear ht hb
          by_cases hlt2 : j < kk
          · obtain ⟨qa, hqa⟩ : ∃ qa, j / 26 = qa := ⟨_, rfl⟩
            obtain ⟨ra, hra⟩ : ∃ ra, j % 26 = ra := ⟨_, rfl⟩
            have hqi : (j : Int) / 26 = (qa : Int) := by omega
            have hri : (j : Int) % 26 = (ra : Int) := by omega
            have hcv := three_bytes j (by omega) (97 + (qa : Int)) (97 + (ra : Int)) (by rw [hqa]) (by rw [hra])
            have hq3 : (qa : Int) ≤ 2 := by omega
            have hr3 : (ra : Int) ≤ 25 := by omega
            have hq0 : (0 : Int) ≤ (qa : Int) := by omega
            have hr0 : (0 : Int) ≤ (ra : Int) := by omega
            obtain ⟨hE, hS⟩ := many_set j v (by omega) hv200 HN.out
            have HE := Lib.hid hE; have HSL := Lib.hid hS
            clear hqa hra hE hS
            go_wp2_with fail
            have hX : Below wr.heap.size wr (wr.alloc (.cells #[.int .u8 97, .int .u8 (97 + (qa : Int)), .int .u8 (97 + (ra : Int))] 5)) := (Below.refl _ _).alloc (Nat.le_refl _) _
            refine (set_p _ _ (manyL (min j 40) v) (nm j) v _ (HTR.out.below hX) (by show 3 ≤ _; omega) (by omega) (by rw [many_len]; omega)).mono ?_
            rintro e w2 ⟨he, ht2, hg2⟩
            rw [HE.out] at he
            rw [HSL.out] at ht2
            have HT2 := Lib.hid ht2
            have HB2 := Lib.hid ((HBR.out.trans (hX.mono HBR.out.size)).grown hg2 (Nat.le_trans HBR.out.size hX.size) (fun k hk => by cases hk; exact Nat.le_refl _))
            clear ht2 hg2 hX hcv
            by_cases h40 : j < 40
            · rw [if_pos h40] at he
              subst he
              have h40i : (j : Int) < 40 := by omega
              go_wp2_with fail
              go_roundw
              case rel => exact ⟨j + 1, by omega, by go_num, HT2.out, HB2.out⟩
              case measure => simp only [intOf]; omega
            · rw [if_neg h40] at he
              subst he
              have h40i : ¬ (j : Int) < 40 := by omega
              go_wp2_with fail
              go_roundw
              case rel => exact ⟨j + 1, by omega, by go_num, HT2.out, HB2.out⟩
              case measure => simp only [intOf]; omega
          · obtain rfl : j = kk := by omega
            have hlen := len_p _ _ _ wr HTR.out
            rw [many_len] at hlen
            have HAG := Lib.hid (fun h : 0 < j => many_again j v h hv200 HN.out)
            obtain ⟨m, hm⟩ : ∃ m, min j 40 = m := ⟨_, rfl⟩
            have hmi : min (j : Int) 40 = (m : Int) := by omega
            have HMS := Lib.hid hm
            rw [hm] at hlen
            clear hm
            have hadd : ∀ W : World, (Op.stringOp .add v ⟨#[]⟩).run Try.prog W = .ok (.string v) W := fun W => by
              have := run_string_add_sum (P := Try.prog) W v ⟨#[]⟩ (by show v.size + 0 ≤ _; omega)
              rw [this]
              rw [show v ++ (⟨#[]⟩ : ByteArray) = v by show v ++ ByteArray.empty = v; simp]
            go_wp2_with fail
            refine hlen.mono ?_
            rintro e w2 ⟨rfl, rfl⟩
            by_cases hz : j = 0
            · have hzi : (j : Int) = 0 := by omega
              go_wp2_with fail
              refine (awake36 _).mono ?_
              rintro e w3 ⟨rfl, hb3⟩
              go_wp2_with fail
              go_ret
              exact ⟨rfl, HBR.out.trans (hb3.mono HBR.out.size)⟩
            · have hzi : ¬ (j : Int) = 0 := by omega
              go_wp2_with fail
              refine (set_p _ _ (manyL (min j 40) v) ⟨#[97, 97, 97]⟩ v _ HTR.out (by show 3 ≤ _; omega) (by omega) (by rw [many_len]; omega)).mono ?_
              rintro e w3 ⟨he, ht3, hg3⟩
              rw [HAG.out (by omega)] at he
              subst he
              have HB3 := Lib.hid (HBR.out.grown hg3 HBR.out.size (fun k hk => by cases hk; exact Nat.le_refl _))
              clear ht3 hg3
              go_wp2_with fail
              refine (awake36 _).mono ?_
              rintro e w4 ⟨rfl, hb4⟩
              go_wp2_with fail
              go_ret
              exact ⟨rfl, HB3.out.trans (hb4.mono HB3.out.size)⟩
end Go.Proofs.Ytbkmfnjjfamjjaa
