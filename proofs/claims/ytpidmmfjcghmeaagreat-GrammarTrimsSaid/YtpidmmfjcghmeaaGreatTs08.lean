/- Texts in one: GtBits, GtBits2. -/
import Derived.Test.YtpidmmfjcghmeaaGreatTs02
import Derived.Laws.Bits64b
import Derived.Laws.MakeOwn
namespace Go.Proofs.YtpidmmfjcghmeaaGreat
open Go.RowKit
attribute [local go_sem ↓] wp_append_wr

/-- A set: its block, its word's block, its room, its word. -/
structure BSet (w : World) (b bw n X : Nat) : Prop where
  n1 : 1 ≤ n
  n64 : n ≤ 64
  hX : X < 2 ^ n
  ne : b ≠ bw
  hb : w.heap[b]? = some (.cells #[.int .i64 n, .slice (some ⟨bw, 0, none⟩) 1 1] 159 (0, 0))
  hw : w.heap[bw]? = some (.cells #[.int .u64 X] 154 (0, 0))
section
variable {w w' : World} {b bw n X : Nat}
theorem BSet.c0 (h : BSet w b bw n X) : w.cell? ⟨b, 0, none⟩ = some (.int .i64 n) := cell_box h.hb 0 _ rfl
theorem BSet.c1 (h : BSet w b bw n X) : w.cell? ⟨b, 1, none⟩ = some (.slice (some ⟨bw, 0, none⟩) 1 1) := cell_box h.hb 1 _ rfl
theorem BSet.d0 (h : BSet w b bw n X) : w.cell? ⟨bw, 0, none⟩ = some (.int .u64 X) := cell_box h.hw 0 _ rfl
theorem BSet.fz (h : BSet w b bw n X) : w.frozen? ⟨bw, 0, none⟩ = false := by simp [World.frozen?, h.hw]
theorem BSet.lt (h : BSet w b bw n X) : b < w.heap.size ∧ bw < w.heap.size := ⟨(Array.getElem?_eq_some_iff.1 h.hb).1, (Array.getElem?_eq_some_iff.1 h.hw).1⟩
theorem BSet.keep (h : BSet w b bw n X) (h1 : w'.heap[b]? = w.heap[b]?) (h2 : w'.heap[bw]? = w.heap[bw]?) : BSet w' b bw n X := ⟨h.n1, h.n64, h.hX, h.ne, h1.trans h.hb, h2.trans h.hw⟩
theorem BSet.below (h : BSet w b bw n X) (hb : Below w.heap.size w w') : BSet w' b bw n X := h.keep (hb.block _ h.lt.1) (hb.block _ h.lt.2)
theorem BSet.x64 (h : BSet w b bw n X) : X < 18446744073709551616 := Nat.lt_of_lt_of_le h.hX (Nat.pow_le_pow_right (by decide) h.n64)
end

set_option maxRecDepth 100000 in
set_option maxHeartbeats 4000000 in
theorem room_p (b bw n X : Nat) (w : World) (h : BSet w b bw n X) :
    Calls Tryz.prog 151 #[.pointer (some ⟨b, 0, none⟩)] w fun e w' => e = .returned (.int .i64 n) ∧ w' = w := by
  have c0 := h.c0
  clear h
  go_enter Tryz.func151, Tryz.ntmps151
  go_wp2_with fail
  go_ret
  exact ⟨rfl, rfl⟩

theorem and63F : ∀ i : Fin 64, bits .and .i64 ((i.val : Nat) : Int) 63 = ((i.val : Nat) : Int) := by decide +kernel
theorem shl1F : ∀ i : Fin 64, IntKind.u64.wrap (2 ^ min (IntKind.u64.wrap (bits .and .i64 ((i.val : Nat) : Int) 63)).toNat 64) = ((2 ^ i.val : Nat) : Int) := by decide +kernel
theorem and63 (i : Nat) (h : i < 64) : bits .and .i64 (i : Int) 63 = (i : Int) := and63F ⟨i, h⟩
theorem shl1 (i : Nat) (h : i < 64) : IntKind.u64.wrap (2 ^ min (IntKind.u64.wrap (bits .and .i64 (i : Int) 63)).toNat 64) = ((2 ^ i : Nat) : Int) := shl1F ⟨i, h⟩
theorem pow_lt64 (i : Nat) (h : i < 64) : 2 ^ i < 18446744073709551616 := Nat.pow_lt_pow_right (by decide) h
theorem and_pow (X i : Nat) : X &&& 2 ^ i = if X.testBit i then 2 ^ i else 0 := by
  apply Nat.eq_of_testBit_eq
  intro j
  rw [Nat.testBit_and, Nat.testBit_two_pow]
  by_cases hj : i = j
  · subst hj
    cases X.testBit i <;> simp
  · cases X.testBit i <;> simp [hj]
theorem or_lt {X i n : Nat} (hX : X < 2 ^ n) (hi : i < n) : X ||| 2 ^ i < 2 ^ n := Nat.or_lt_two_pow hX (Nat.pow_lt_pow_right (by decide) hi)
theorem or_same {X i : Nat} (h : X.testBit i = true) : X ||| 2 ^ i = X := by
  apply Nat.eq_of_testBit_eq
  intro j
  rw [Nat.testBit_or, Nat.testBit_two_pow]
  by_cases hj : i = j
  · subst hj; simp [h]
  · simp [hj]
theorem or_bit (X i j : Nat) : (X ||| 2 ^ i).testBit j = (X.testBit j || decide (i = j)) := by rw [Nat.testBit_or, Nat.testBit_two_pow]
theorem BSet.set {w : World} {b bw n X i : Nat} (h : BSet w b bw n X) (hi : i < n) : BSet (w.setCell ⟨bw, 0, none⟩ (.int .u64 ((X ||| 2 ^ i : Nat) : Int))) b bw n (X ||| 2 ^ i) :=
  ⟨h.n1, h.n64, or_lt h.hX hi, h.ne, by rw [Below.heap_setCell _ _ _ _ h.ne]; exact h.hb, by simp [World.setCell, Array.getElem?_modify, h.hw]⟩
/-- Nothing but the word of a set has changed. -/
def Wd1 (bw : Nat) (w w' : World) : Prop := w' = w ∨ ∃ v, w' = w.setCell ⟨bw, 0, none⟩ v
theorem Wd1.below {B bw : Nat} {w w' : World} (h : Wd1 bw w w') (hB : B ≤ bw) : Below B w w' := by
  rcases h with rfl | ⟨v, rfl⟩
  · exact Below.refl _ _
  · exact (Below.refl _ _).setCell hB _
theorem Wd1.size {bw : Nat} {w w' : World} (h : Wd1 bw w w') : w'.heap.size = w.heap.size := by
  rcases h with rfl | ⟨v, rfl⟩
  · rfl
  · simp [World.setCell]
theorem Wd1.heap {bw k : Nat} {w w' : World} (h : Wd1 bw w w') (hk : k ≠ bw) : w'.heap[k]? = w.heap[k]? := by
  rcases h with rfl | ⟨v, rfl⟩
  · rfl
  · exact Below.heap_setCell _ _ _ _ hk

set_option maxRecDepth 100000 in
set_option maxHeartbeats 4000000 in
theorem bit_p (b bw n X i p : Nat) (w : World) (h : BSet w b bw n X) (hi : i < n) (hp : p = 2 ^ i) :
    Calls Tryz.prog 90 #[.pointer (some ⟨b, 0, none⟩), .int .i64 i] w fun e w' => e = .returned (.tuple #[.int .i64 0, .int .u64 p, .bool true]) ∧ w' = w := by
  have HR := Lib.hid (room_p b bw n X w h)
  have hn := h.n64
  have HP := Lib.hid hp
  clear h hp
  have h0 : ¬ (i : Int) < 0 := by omega
  have h1 : ¬ (n : Int) ≤ (i : Int) := by omega
  have hsh : IntKind.u64.wrap (2 ^ min (IntKind.u64.wrap (bits .and .i64 (i : Int) 63)).toNat 64) = (p : Int) := by rw [HP.out]; exact shl1 i (by omega)
  have hdv : (i : Int) / 64 = 0 := by omega
  go_enter Tryz.func90, Tryz.ntmps90
  go_wp2_with fail
  refine (HR.out).mono ?_
  rintro e w1 ⟨rfl, rfl⟩
  go_wp2_with fail
  refine bodyPost_ret (v := .tuple #[.int .i64 0, .int .u64 (p : Int), .bool true]) (by simp [results, Tryz.results90, go_sem]) rfl ?_
  exact ⟨rfl, rfl⟩

set_option maxRecDepth 100000 in
set_option maxHeartbeats 4000000 in
theorem has_p (b bw n X i : Nat) (w : World) (h : BSet w b bw n X) (hi : i < n) :
    Calls Tryz.prog 32 #[.pointer (some ⟨b, 0, none⟩), .int .i64 i] w fun e w' => e = .returned (.bool (X.testBit i)) ∧ w' = w := by
  obtain ⟨p, hp⟩ : ∃ p : Nat, p = 2 ^ i := ⟨_, rfl⟩
  have HR := Lib.hid (bit_p b bw n X i p w h hi hp)
  have hn := h.n64; have c1 := h.c1; have d0 := h.d0
  have hpl : p < 18446744073709551616 := by rw [hp]; exact pow_lt64 i (by omega)
  have hp0 : ¬ (p : Int) = 0 := by have := Nat.two_pow_pos i; omega
  have hp1 : ((p : Int) != 0) = true := bne_iff_ne.2 hp0
  have hand := bits_and_u64_nat X p h.x64 hpl
  have HA := and_pow X i
  rw [← hp] at HA
  rw [HA] at hand
  clear h hp HA
  go_enter Tryz.func32, Tryz.ntmps32
  go_wp2_with fail
  refine (HR.out).mono ?_
  rintro e w1 ⟨rfl, rfl⟩
  cases hb : X.testBit i
  · rw [hb, if_neg (by decide)] at hand
    go_wp2_with fail
    go_ret
    exact ⟨ret_bool hb.symm, rfl⟩
  · rw [hb, if_pos rfl] at hand
    go_wp2_with fail
    go_ret
    exact ⟨ret_bool hb.symm, rfl⟩

set_option maxRecDepth 100000 in
set_option maxHeartbeats 4000000 in
theorem put_p (b bw n X i : Nat) (w : World) (h : BSet w b bw n X) (hi : i < n) :
    Calls Tryz.prog 89 #[.pointer (some ⟨b, 0, none⟩), .int .i64 i] w fun e w' => e = .returned (.bool (!X.testBit i)) ∧ BSet w' b bw n (X ||| 2 ^ i) ∧ Wd1 bw w w' := by
  obtain ⟨p, hp⟩ : ∃ p : Nat, p = 2 ^ i := ⟨_, rfl⟩
  have HR := Lib.hid (bit_p b bw n X i p w h hi hp)
  have hn := h.n64; have c1 := h.c1; have d0 := h.d0; have fz := h.fz
  have hpl : p < 18446744073709551616 := by rw [hp]; exact pow_lt64 i (by omega)
  have hp0 : ¬ (p : Int) = 0 := by have := Nat.two_pow_pos i; omega
  have hp1 : ((p : Int) != 0) = true := bne_iff_ne.2 hp0
  have hand := bits_and_u64_nat X p h.x64 hpl
  have hor := bits_or_u64_nat X p h.x64 hpl
  have HA := and_pow X i
  rw [← hp] at HA
  rw [HA] at hand
  have HS := Lib.hid (h.set hi)
  have HH := Lib.hid h
  have HP := Lib.hid hp
  clear h hp HA
  go_enter Tryz.func89, Tryz.ntmps89
  go_wp2_with fail
  refine (HR.out).mono ?_
  rintro e w1 ⟨rfl, rfl⟩
  cases hb : X.testBit i
  · rw [hb, if_neg (by decide)] at hand
    go_wp2_with fail
    go_ret
    have := HS.out
    rw [← HP.out] at this
    exact ⟨ret_bool (by rw [hb]; rfl), by rw [← HP.out]; exact this, .inr ⟨_, rfl⟩⟩
  · rw [hb, if_pos rfl] at hand
    have HO := Lib.hid (or_same hb)
    go_wp2_with fail
    go_ret
    exact ⟨ret_bool (by rw [hb]; rfl), by rw [HO.out]; exact HH.out, .inl rfl⟩
end Go.Proofs.YtpidmmfjcghmeaaGreat
namespace Go.Proofs.YtpidmmfjcghmeaaGreat
open Go.RowKit
attribute [local go_sem ↓] wp_append_wr

theorem info_u64N : (Tryz.prog.info? 154).map (fun i => (i.zero, i.size, i.bytes)) = some (some (.int .u64 0), 1, 8) := by kernel_rfl

set_option maxRecDepth 100000 in
set_option maxHeartbeats 4000000 in
theorem new_p (n : Nat) (w : World) (h1 : 1 ≤ n) (h2 : n ≤ 64) :
    Calls Tryz.prog 88 #[.int .i64 n] w fun e w' => (∃ b bw, e = .returned (.pointer (some ⟨b, 0, none⟩)) ∧ w.heap.size ≤ b ∧ w.heap.size ≤ bw ∧ BSet w' b bw n 0) ∧ Below w.heap.size w w' := by
  obtain ⟨i, hi, hz0, hz1, hz2⟩ := info_parts info_u64N
  have hmk := run_make (P := Tryz.prog) w 157 154 i (.int .u64 0) Tryz.underlying157 hi hz0 .i64 .i64 1 1 (by decide) (by decide) (by rw [hz2]; decide) (by decide)
  rw [hz1] at hmk
  have hmc : madeCells (Value.int .u64 0).cells ((1 : Int).toNat * 1) = #[.int .u64 0] := by first | kernel_rfl | (simp [madeCells, Value.cells]; done)
  rw [hmc] at hmk
  have hd : ((n : Int) + 63) / 64 = 1 := by omega
  have hx1 : max (n : Int) 0 = n := by omega
  have hx2 : min (n : Int) 4096 = n := by omega
  have hb : Below w.heap.size w ((w.alloc (.cells #[.int .u64 0] 154)).alloc (.cells #[.int .i64 n, .slice (some ⟨w.heap.size, 0, none⟩) 1 1] 159)) := ((Below.refl _ _).alloc (Nat.le_refl _) _).alloc (by simp) _
  have q0 := Below.heap_alloc (w.alloc (.cells #[.int .u64 0] 154)) (.cells #[.int .i64 n, .slice (some ⟨w.heap.size, 0, none⟩) 1 1] 159) w.heap.size (by simp)
  rw [heap_alloc_t] at q0
  have q1 := heap_alloc_t (w.alloc (.cells #[.int .u64 0] 154)) (.cells #[.int .i64 n, .slice (some ⟨w.heap.size, 0, none⟩) 1 1] 159)
  have hs : (w.alloc (.cells #[.int .u64 0] 154)).heap.size = w.heap.size + 1 := by simp
  rw [hs] at q1
  have HS := Lib.hid (show BSet ((w.alloc (.cells #[.int .u64 0] 154)).alloc (.cells #[.int .i64 n, .slice (some ⟨w.heap.size, 0, none⟩) 1 1] 159)) (w.heap.size + 1) w.heap.size n 0 from ⟨h1, h2, Nat.two_pow_pos n, by omega, q1, q0⟩)
  have HB := Lib.hid hb
  clear hb q0 q1 hi hz0 hz1 hz2 hmc
  go_enter Tryz.func88, Tryz.ntmps88
  go_wp2_with fail
  go_ret
  exact ⟨⟨_, _, rfl, by omega, Nat.le_refl _, HS.out⟩, HB.out⟩

/-- The least number from i on that is there, among k; -1: there is none. -/
def nxt (X : Nat) : Nat → Nat → Int
  | 0, _ => -1
  | k + 1, i => if X.testBit i then (i : Int) else nxt X k (i + 1)
def bitsF (X : Nat) : Nat → Nat → List Int
  | 0, _ => []
  | k + 1, i => if X.testBit i then (i : Int) :: bitsF X k (i + 1) else bitsF X k (i + 1)
theorem bit_div (X i : Nat) : X.testBit i = decide (X / 2 ^ i % 2 = 1) := Nat.testBit_eq_decide_div_mod_eq
theorem nxt_none (X : Nat) : ∀ k i, X / 2 ^ i = 0 → nxt X k i = -1
  | 0, _, _ => rfl
  | k + 1, i, h => by
    rw [nxt, if_neg (by rw [bit_div, h]; decide)]
    exact nxt_none X k (i + 1) (by rw [Nat.pow_succ, ← Nat.div_div_eq_div_mul, h])
theorem nxt_bits (X : Nat) : ∀ k i, (nxt X k i = -1 ∧ bitsF X k i = []) ∨ ∃ j, i ≤ j ∧ j < i + k ∧ nxt X k i = (j : Int) ∧ bitsF X k i = (j : Int) :: bitsF X (i + k - (j + 1)) (j + 1)
  | 0, _ => .inl ⟨rfl, rfl⟩
  | k + 1, i => by
    rw [nxt, bitsF]
    by_cases h : X.testBit i
    · rw [if_pos h, if_pos h]
      exact .inr ⟨i, Nat.le_refl _, by omega, rfl, by rw [show i + (k + 1) - (i + 1) = k by omega]⟩
    · rw [if_neg h, if_neg h]
      rcases nxt_bits X k (i + 1) with h1 | ⟨j, h1, h2, h3, h4⟩
      · exact .inl h1
      · exact .inr ⟨j, by omega, by omega, h3, by rw [h4, show i + 1 + k - (j + 1) = i + (k + 1) - (j + 1) by omega]⟩
theorem and1 (Y : Nat) (h : Y < 18446744073709551616) : bits .and .u64 (Y : Int) 1 = ((Y % 2 : Nat) : Int) := by
  have := bits_and_u64_nat Y 1 h (by decide)
  rw [Nat.and_one_is_mod] at this
  exact this
theorem or63F : ∀ i : Fin 64, bits .or .i64 ((i.val : Nat) : Int) 63 = 63 := by decide +kernel
theorem or63 (i : Nat) (h : i < 64) : bits .or .i64 (i : Int) 63 = 63 := or63F ⟨i, h⟩
theorem shrF : ∀ i : Fin 64, min (IntKind.u64.wrap (bits .and .i64 ((i.val : Nat) : Int) 63)).toNat 64 = i.val := by decide +kernel
theorem shr63 (i : Nat) (h : i < 64) : min (IntKind.u64.wrap (bits .and .i64 (i : Int) 63)).toNat 64 = i := shrF ⟨i, h⟩

theorem fdiv2 (Z : Nat) : (Z : Int).fdiv (2 ^ min (Int.toNat 1) IntKind.u64.bits) = ((Z / 2 : Nat) : Int) := by
  rw [show (2 : Int) ^ min (Int.toNat 1) IntKind.u64.bits = 2 from by decide +kernel, Int.fdiv_eq_ediv_of_nonneg _ (by decide)]
  omega
set_option maxRecDepth 100000 in
set_option maxHeartbeats 4000000 in
theorem next_p (b bw n X i : Nat) (w : World) (h : BSet w b bw n X) (hi : i ≤ 64) :
    Calls Tryz.prog 152 #[.pointer (some ⟨b, 0, none⟩), .int .i64 i] w fun e w' => e = .returned (.int .i64 (nxt X (n - i) i)) ∧ w' = w := by
  have HR := Lib.hid (room_p b bw n X w h)
  have hn := h.n64; have c1 := h.c1; have d0 := h.d0
  have hx1 : max (i : Int) 0 = i := by omega
  have hX := h.hX; have hX64 := h.x64
  clear h
  go_enter Tryz.func152, Tryz.ntmps152
  go_wp2
  go_loopw [5] (fun v wr => wr = w ∧ (v = .int .i64 i ∨ (v = .int .i64 64 ∧ nxt X (n - i) i = -1))) (fun v _ => 65 - (intOf v).toNat)
  case atStart => exact ⟨rfl, .inl rfl⟩
  case round =>
    obtain ⟨rfl, rfl | ⟨rfl, hz⟩⟩ := hrel
    · go_wp2_with fail
      refine (HR.out).mono ?_
      rintro e w1 ⟨rfl, rfl⟩
      by_cases hlt : i < n
      · have hd : (i : Int) / 64 = 0 := by omega
        have hsh := shr63 i (by omega)
        have ho := or63 i (by omega)
        obtain ⟨Y, hY⟩ : ∃ Y, Y = X / 2 ^ i := ⟨_, rfl⟩
        have hdv : (X : Int) / 2 ^ i = (Y : Int) := by rw [hY]; simp
        have HY := Lib.hid hY
        clear hY
        by_cases hz : Y = 0
        · have HZ := Lib.hid (nxt_none X (n - i) i (by rw [← HY.out]; exact hz))
          have hz0 : (Y : Int) = 0 := by omega
          clear hz
          go_wp2_with fail
          go_roundw
          case rel => exact ⟨by first | rfl | trivial, .inr ⟨rfl, HZ.out⟩⟩
          case measure => simp only [intOf]; omega
        · have hz0 : ((Y : Int) == 0) = false := beq_eq_false_iff_ne.2 (by omega)
          have HYN := Lib.hid hz
          have hYl : Y ≤ X := by rw [HY.out]; exact Nat.div_le_self _ _
          clear hz
          go_wp2
          go_loopw [5, 6] (fun v r wr => ∃ j Z : Nat, wr = w1 ∧ v = .int .i64 j ∧ r = .int .u64 Z ∧ i ≤ j ∧ j < n ∧ Z = X / 2 ^ j ∧ Z ≠ 0 ∧ nxt X (n - j) j = nxt X (n - i) i) (fun v _ _ => 65 - (intOf v).toNat)
          case atStart => exact ⟨i, Y, rfl, rfl, rfl, Nat.le_refl _, hlt, HY.out, HYN.out, rfl⟩
          case round =>
            obtain ⟨j, Z, rfl, rfl, rfl, hij, hjn, hZ, hZ0, hnx⟩ := hrel
            have hZl : Z ≤ X := by rw [hZ]; exact Nat.div_le_self _ _
            have hand := and1 Z (by omega)
            have hbit := bit_div X j
            rw [← hZ] at hbit
            rw [show n - j = (n - (j + 1)) + 1 by omega, nxt] at hnx
            have hZ2 : (Z : Int).fdiv (2 ^ min (Int.toNat 1) IntKind.u64.bits) = ((Z / 2 : Nat) : Int) := fdiv2 Z
            have HZ := Lib.hid hZ; have HZ0 := Lib.hid hZ0
            rcases Nat.mod_two_eq_zero_or_one Z with hm | hm
            · rw [hm] at hand hbit
              rw [if_neg (by rw [hbit]; decide)] at hnx
              have HN := Lib.hid hnx
              have hz2 : Z / 2 ≠ 0 := by omega
              have hZd : Z / 2 = X / 2 ^ (j + 1) := by rw [HZ.out, Nat.pow_succ, Nat.div_div_eq_div_mul]
              have hj1 : j + 1 < n := by
                apply Nat.lt_of_not_le
                intro hle
                apply hz2
                rw [hZd]
                exact Nat.div_eq_of_lt (Nat.lt_of_lt_of_le hX (Nat.pow_le_pow_right (by decide) hle))
              have HD := Lib.hid hZd; have HD0 := Lib.hid hz2
              clear hnx hbit hZ hZ0 hm hz2 hZd
              go_wp2_with fail
              go_roundw
              case rel => exact ⟨j + 1, Z / 2, by first | rfl | trivial, by go_num, by first | rfl | (simp; done), by omega, hj1, HD.out, HD0.out, HN.out⟩
              case measure => simp only [intOf]; omega
            · rw [hm] at hand hbit
              rw [if_pos (by rw [hbit]; decide)] at hnx
              have HN := Lib.hid hnx
              clear hnx hbit hZ hZ0 hm
              go_wp2_with fail
              go_ret
              exact ⟨ret_int HN.out, by first | rfl | trivial⟩
      · have HZ := Lib.hid (show nxt X (n - i) i = -1 by rw [show n - i = 0 by omega]; rfl)
        go_wp2_with fail
        go_ret
        exact ⟨ret_int HZ.out.symm, rfl⟩
    · go_wp2_with fail
      refine (HR.out).mono ?_
      rintro e w1 ⟨rfl, rfl⟩
      have HZ := Lib.hid hz
      have hge : ¬ (64 : Int) < (n : Int) := by omega
      clear hz
      go_wp2_with fail
      go_ret
      exact ⟨ret_int HZ.out.symm, rfl⟩

set_option maxRecDepth 100000 in
set_option maxHeartbeats 4000000 in
theorem list_p (b bw n X : Nat) (w : World) (h : BSet w b bw n X) :
    Calls Tryz.prog 91 #[.pointer (some ⟨b, 0, none⟩)] w fun e w' => (∃ v, e = .returned v ∧ Ints w.heap.size w' v (bitsF X n 0)) ∧ Below w.heap.size w w' := by
  have HS := Lib.hid h
  have hn := h.n64
  have HN := Lib.hid (fun (Y : World) (hY : Below w.heap.size w Y) (i : Nat) (hi : i ≤ 64) => next_p b bw n X i Y (h.below hY) hi)
  have h00 := HN.out w (Below.refl _ _) 0 (by omega)
  rw [Nat.sub_zero] at h00
  have H0 := Lib.hid h00
  clear h h00
  go_enter Tryz.func91, Tryz.ntmps91
  go_wp2_with fail
  refine (H0.out).mono ?_
  rintro e w1 ⟨rfl, rfl⟩
  go_wp2
  go_loopw [3, 4] (fun o v wr => ∃ (i : Nat) (l : List Int), i ≤ n ∧ l.length ≤ i ∧ v = .int .i64 (nxt X (n - i) i) ∧ Ints w1.heap.size wr o l ∧ l ++ bitsF X (n - i) i = bitsF X n 0 ∧ Below w1.heap.size w1 wr) (fun _ v _ => if intOf v < 0 then 0 else 65 - (intOf v).toNat)
  case atStart => exact ⟨0, [], by omega, by simp, rfl, Nrow.nil _ _ _ _ _, rfl, Below.refl _ _⟩
  case round =>
    obtain ⟨i, l, hi, hl, rfl, ho, hbt, hw⟩ := hrel
    obtain ⟨Ao, co, rfl⟩ := ho.shape
    rcases nxt_bits X (n - i) i with ⟨h1, h2⟩ | ⟨j, hij, hjn, h3, h4⟩
    · rw [h2, List.append_nil] at hbt
      rw [h1]
      have HO := Lib.hid ho; have HT := Lib.hid hbt; have HW := Lib.hid hw
      clear ho hbt hw h1 h2
      go_wp2_with fail
      go_ret
      exact ⟨⟨_, rfl, by rw [← HT.out]; exact HO.out⟩, HW.out⟩
    · rw [h4, show i + (n - i) - (j + 1) = n - (j + 1) by omega] at hbt
      rw [h3]
      obtain ⟨v', w', hrun, ho', hb'⟩ := Ints.push (j : Int) ho (by omega) hw.size
      obtain ⟨A2, c2, rfl⟩ := ho'.shape
      have HC := Lib.hid (HN.out w' (hw.trans hb') (j + 1) (by omega))
      simp only [List.length_append, List.length_cons, List.length_nil, Nat.zero_add] at ho' hrun
      have HO := Lib.hid ho'; have HT := Lib.hid hbt; have HW := Lib.hid (hw.trans hb')
      have hj1 : ((j + 1 : Nat) : Int) = (j : Int) + 1 := by omega
      rw [hj1] at HC
      clear ho ho' hbt hw hb' h3 h4
      go_wp2_with fail
      refine HC.out.mono ?_
      rintro e w2 ⟨rfl, rfl⟩
      go_wp2_with fail
      go_roundw
      case rel => exact ⟨j + 1, l ++ [(j : Int)], by omega, by simp; omega, rfl, HO.out, by rw [List.append_assoc]; exact HT.out, HW.out⟩
      case measure =>
        have hm : ∀ x : Int, (x = -1 ∨ (j : Int) < x) → (if x < 0 then 0 else 65 - x.toNat) < (if (j : Int) < 0 then 0 else 65 - (j : Int).toNat) := fun x hx => by
          split <;> split <;> omega
        refine hm (nxt X (n - (j + 1)) (j + 1)) ?_
        rcases nxt_bits X (n - (j + 1)) (j + 1) with ⟨k1, _⟩ | ⟨j', k1, _, k3, _⟩
        · exact .inl k1
        · exact .inr (by rw [k3]; omega)
end Go.Proofs.YtpidmmfjcghmeaaGreat
