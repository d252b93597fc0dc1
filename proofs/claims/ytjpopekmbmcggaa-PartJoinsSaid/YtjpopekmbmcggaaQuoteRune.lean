/- strings.IndexRune at a rune of 128 or more in a text of NUL and single quote: none; strings.IndexAny there at any text of at most 8 bytes. -/
import Derived.Test.YtjpopekmbmcggaaBase
import Derived.Test.YtjpopekmbmcggaaShelf
import Derived.Laws.RangeAny
import Derived.Laws.Runes
import Derived.Lib.OthersKept
import Derived.LoopTactic
import Derived.Outline
import Derived.Deep.LoopGhost
import Derived.Deep.QuietTactic
import Derived.BigQuiet
namespace Go.Proofs.Ytjpopekmbmcggaa
open Go.RowKit

def anyQ (l : List UInt8) : Bool := l.any fun b => b == 0 || b == 39
theorem enc_two (r : Nat) (h : 128 ≤ r) (h2 : r < 2048) : ∃ x y : UInt8, Utf8.encode (r : Int) = ⟨#[x, y]⟩ ∧ 128 ≤ y.toNat := by
  refine ⟨UInt8.ofNat (0xC0 + r / 64), UInt8.ofNat (0x80 + r % 64), ?_, ?_⟩
  · have hv : Utf8.valid (r : Int) = true := by simp [Utf8.valid]; omega
    simp only [Utf8.encode, hv, if_true, Int.toNat_natCast]
    rw [if_neg (by omega), if_pos (by omega)]
  · simp; omega
theorem enc_more (r : Nat) (h : 2048 ≤ r) : ∃ x y z : UInt8, Utf8.encode (r : Int) = ⟨#[x, y, z]⟩ ∨ ∃ u : UInt8, Utf8.encode (r : Int) = ⟨#[x, y, z, u]⟩ := by
  unfold Utf8.encode
  have hc : 2048 ≤ (if Utf8.valid (r : Int) then (r : Int).toNat else Utf8.runeError) := by
    split
    · simpa using h
    · decide
  generalize (if Utf8.valid (r : Int) then (r : Int).toNat else Utf8.runeError) = c at hc
  simp only
  rw [if_neg (by omega), if_neg (by omega)]
  split
  · exact ⟨_, _, _, .inl rfl⟩
  · exact ⟨_, _, _, .inr ⟨_, rfl⟩⟩

def bZN : ByteArray := ⟨#[0, 39]⟩

set_option maxRecDepth 100000 in
set_option maxHeartbeats 4000000 in
theorem runeError_none (w : World) : Calls Try.prog 60 #[.string bZN, .int .i32 65533] w fun e w' => e = .returned (.int .i64 (-1)) ∧ Below w.heap.size w w' := by
  have hn0 : ∀ ty, (Instr.next (.pointer (some ⟨w.heap.size, 0, none⟩)) true ty).run Try.prog (w.iter bZN 0) = .ok (.tuple #[.bool true, .int .i64 0, .int .i32 0]) (w.iter bZN 1) := fun ty => run_next_ascii w bZN 0 ty (by decide) (by decide)
  have hn1 : ∀ ty, (Instr.next (.pointer (some ⟨w.heap.size, 0, none⟩)) true ty).run Try.prog (w.iter bZN 1) = .ok (.tuple #[.bool true, .int .i64 1, .int .i32 39]) (w.iter bZN 2) := fun ty => run_next_ascii w bZN 1 ty (by decide) (by decide)
  have hn2 : ∀ ty, (Instr.next (.pointer (some ⟨w.heap.size, 0, none⟩)) true ty).run Try.prog (w.iter bZN 2) = .ok (.tuple #[.bool false]) (w.iter bZN 2) := fun ty => run_next_end w bZN 2 ty (by decide)
  go_enter Try.func60, Try.ntmps60
  go_wp2
  go_loopw [5, 6] (fun _ _ wr => ∃ k : Nat, k ≤ 2 ∧ wr = w.iter bZN k) (fun _ _ wr => 2 - wr.iterPos w.heap.size)
  case atStart => exact ⟨0, by omega, rfl⟩
  case round =>
    obtain ⟨k, hk, rfl⟩ := hrel
    have hk3 : k = 0 ∨ k = 1 ∨ k = 2 := by omega
    rcases hk3 with rfl | rfl | rfl
    · go_wp2
      go_roundw
      case rel => exact ⟨1, by omega, rfl⟩
      case measure => simp only [World.iterPos_iter]; omega
    · go_wp2
      go_roundw
      case rel => exact ⟨2, by omega, rfl⟩
      case measure => simp only [World.iterPos_iter]; omega
    · go_wp2
      go_ret
      exact ⟨rfl, (Below.refl _ _).alloc (Nat.le_refl _) _⟩

theorem ib_empty (c : Int) (w : World) : Calls Try.prog 45 #[.string ByteArray.empty, .int .u8 c] w fun e w' => e = .returned (.int .i64 (-1)) ∧ w' = w := Try.strings_IndexByte _ _ _

set_option maxRecDepth 100000 in
set_option maxHeartbeats 4000000 in
theorem indexRune_high (r : Nat) (w : World) (h : 128 ≤ r) (h31 : r ≤ 2147483647) : Calls Try.prog 60 #[.string bZN, .int .i32 r] w fun e w' => e = .returned (.int .i64 (-1)) ∧ Below w.heap.size w w' := by
  have hz : ¬ ((r : Int) < 128) := by omega
  have hz' : decide ((r : Int) < 128) = false := decide_eq_false hz
  by_cases he : r = 65533
  · subst he; exact runeError_none w
  · have hne : ((r : Int) == 65533) = false := beq_eq_false_iff_ne.2 (by omega)
    cases hv : Lib.validRune (r : Int)
    · have HV := Lib.hid hv; clear hv
      go_enter Try.func60, Try.ntmps60
      go_wp2_with fail
      refine (Try.utf8_ValidRune _ _).mono ?_
      rintro e w1 ⟨rfl, rfl⟩
      rw [HV.out]
      go_wp2
      go_ret
      exact ⟨rfl, Below.refl _ _⟩
    · have HV := Lib.hid hv; clear hv
      by_cases h2 : r < 2048
      · obtain ⟨x, y, hxy, hy⟩ := enc_two r h h2
        have hy10 : (((bZN[1]'(by decide)).toNat : Int) != (((⟨#[x, y]⟩ : ByteArray)[1]'(show 1 < 2 by decide)).toNat : Int)) = true := by
          rw [bne_iff_ne]
          show (39 : Int) ≠ (y.toNat : Int)
          omega
        have hw2 : IntKind.i64.wrap 2 = 2 := rfl
        have hbz : bZN.size = 2 := rfl
        have hbe : bZN.extract 2 2 = ⟨#[]⟩ := rfl
        go_enter Try.func60, Try.ntmps60
        go_wp2_with fail
        refine (Try.utf8_ValidRune _ _).mono ?_
        rintro e w1 ⟨rfl, rfl⟩
        rw [HV.out]
        go_wp2
        go_step3
        go_wp2
        clear hz hz' hne h31 hxy h h2 he HV
        go_loop [9] (fun i => i = .int .i64 1) (fun _ => 0)
        case atStart => rfl
        case round =>
          subst hrel
          go_wp2
          go_step3
          go_wp2
          go_quiet (fail)
          go_wp2
          have hbb := belowN (Below.refl w1.heap.size w1) nq
          have HBB := Lib.hid hbb; clear hbb; revert HBB
          generalize w1.drewN nq = W2
          intro HBB
          go_quiet ((go_at_call 45; exact Calls.quiet_of_same (ib_empty _ _)))
          go_wp2
          rw [Exit.noGoto_ret]
          go_wp2
          rw [Exit.noGoto_ret]
          go_wp2
          go_ret
          exact ⟨rfl, belowN HBB.out _⟩
      · obtain ⟨x, y, z, hxy⟩ := enc_more r (by omega)
        rcases hxy with hxy | ⟨u, hxy⟩
        · go_enter Try.func60, Try.ntmps60
          go_wp2_with fail
          refine (Try.utf8_ValidRune _ _).mono ?_
          rintro e w1 ⟨rfl, rfl⟩
          rw [HV.out]
          go_wp2
          go_step3
          go_wp2
          clear hz hz' hne h31 hxy h h2 he HV
          go_loop [9] (fun i => i = .int .i64 2) (fun _ => 0)
          case atStart => rfl
          case round =>
            subst hrel
            go_wp2
            go_ret
            exact ⟨rfl, Below.refl _ _⟩
        · go_enter Try.func60, Try.ntmps60
          go_wp2_with fail
          refine (Try.utf8_ValidRune _ _).mono ?_
          rintro e w1 ⟨rfl, rfl⟩
          rw [HV.out]
          go_wp2
          go_step3
          go_wp2
          clear hz hz' hne h31 hxy h h2 he HV
          go_loop [9] (fun i => i = .int .i64 3) (fun _ => 0)
          case atStart => rfl
          case round =>
            subst hrel
            go_wp2
            go_ret
            exact ⟨rfl, Below.refl _ _⟩

theorem indexRune_any (r : Nat) (w : World) (h31 : r ≤ 2147483647) : Calls Try.prog 60 #[.string bZN, .int .i32 r] w fun e w' => (∃ m : Int, e = .returned (.int .i64 m) ∧ decide (0 ≤ m) = (r == 0 || r == 39)) ∧ Below w.heap.size w w' := by
  by_cases h : 128 ≤ r
  · refine (indexRune_high r w h h31).mono ?_
    rintro e w' ⟨rfl, hb⟩
    refine ⟨⟨-1, rfl, ?_⟩, hb⟩
    have h1 : (r == 0 || r == 39) = false := by simp; omega
    rw [h1]; rfl
  · refine (Try.strings_IndexRune_ascii bZN r w (by omega) (by omega)).mono ?_
    rintro e w' ⟨rfl, rfl⟩
    refine ⟨⟨_, rfl, ?_⟩, Below.refl _ _⟩
    rw [← Lib.contains_iff_indexByte, show bZN.data.toList = [0, 39] from rfl]
    have : r < 128 := by omega
    revert this
    clear h h31
    revert r
    decide

/-- What a rune of 128 or more is made of: bytes of 128 or more; and there are as many as its width. -/
theorem decode_bytes (s : ByteArray) (p : Nat) (h : p < s.size) (ha : 128 ≤ (s[p]'h).toNat) : p + (Utf8.decode s p).2 ≤ s.size ∧ ∀ j, j < (Utf8.decode s p).2 → ∀ hj : p + j < s.size, 128 ≤ (s[p + j]'hj).toNat := by
  have g : ∀ k (hk : p + k < s.size), s.get! (p + k) = s[p + k]'hk := fun k hk => by simp [ByteArray.get!, getElem!_pos, hk]; rfl
  have one : p + 1 ≤ s.size ∧ ∀ j, j < 1 → ∀ hj : p + j < s.size, 128 ≤ (s[p + j]'hj).toNat := ⟨by omega, fun j hj hj' => by
    obtain rfl : j = 0 := by omega
    exact ha⟩
  have hn : ¬ (s.get! (p + 0)).toNat < 128 := by rw [get_at s p h]; omega
  unfold Utf8.decode
  simp only [hn, if_false]
  split
  · rename_i h1
    simp only [Bool.and_eq_true, beq_iff_eq, decide_eq_true_eq] at h1
    split
    · refine ⟨by simp; omega, fun j hj hj' => ?_⟩
      simp at hj
      have hj2 : j = 0 ∨ j = 1 := by omega
      rcases hj2 with rfl | rfl
      · exact ha
      · have := h1.2.2
        rw [g 1 hj'] at this
        omega
    · exact one
  · split
    · rename_i h1
      simp only [Bool.and_eq_true, beq_iff_eq, decide_eq_true_eq] at h1
      split
      · refine ⟨by simp; omega, fun j hj hj' => ?_⟩
        simp at hj
        have hj2 : j = 0 ∨ j = 1 ∨ j = 2 := by omega
        rcases hj2 with rfl | rfl | rfl
        · exact ha
        · have := h1.1.2.2
          rw [g 1 hj'] at this
          omega
        · have := h1.2.2
          rw [g 2 hj'] at this
          omega
      · exact one
    · split
      · rename_i h1
        simp only [Bool.and_eq_true, beq_iff_eq, decide_eq_true_eq] at h1
        split
        · refine ⟨by simp; omega, fun j hj hj' => ?_⟩
          simp at hj
          have hj2 : j = 0 ∨ j = 1 ∨ j = 2 ∨ j = 3 := by omega
          rcases hj2 with rfl | rfl | rfl | rfl
          · exact ha
          · have := h1.1.1.2.2
            rw [g 1 hj'] at this
            omega
          · have := h1.1.2.2
            rw [g 2 hj'] at this
            omega
          · have := h1.2.2
            rw [g 3 hj'] at this
            omega
        · exact one
      · exact one

def NoneTo (l : List UInt8) (k : Nat) : Prop := anyQ (l.take k) = false
theorem noneTo_step (s : ByteArray) (p n : Nat) (hp : p + n ≤ s.size) (h : NoneTo s.toList p) (hb : ∀ j, j < n → ∀ hj : p + j < s.size, (s[p + j]'hj == 0 || s[p + j]'hj == 39) = false) : NoneTo s.toList (p + n) := by
  unfold NoneTo anyQ at *
  rw [List.take_add, List.any_append, h, Bool.false_or, List.any_eq_false]
  intro x hx
  obtain ⟨j, hj, rfl⟩ := List.getElem_of_mem hx
  have hlen : s.toList.length = s.size := (size_list s).symm
  simp only [List.length_take, List.length_drop] at hj
  have := hb j (by omega) (by omega)
  rw [List.getElem_take, List.getElem_drop, get_list s (p + j) (by omega), this]
  simp
theorem noneTo_end (s : ByteArray) (p : Nat) (hp : s.size ≤ p) (h : NoneTo s.toList p) : anyQ s.toList = false := by
  unfold NoneTo at h
  rwa [List.take_of_length_le (by rw [← size_list]; omega)] at h
theorem some_at (s : ByteArray) (p : Nat) (h : p < s.size) (hb : (s[p]'h == 0 || s[p]'h == 39) = true) : anyQ s.toList = true := by
  unfold anyQ
  rw [List.any_eq_true]
  exact ⟨s[p]'h, List.mem_of_getElem? (get?_list s p h), hb⟩

set_option maxRecDepth 100000 in
set_option maxHeartbeats 8000000 in
/-- strings.IndexAny of NUL and single quote in a text of at most 8 bytes, whatever they are. -/
theorem indexAny_short (s : ByteArray) (w : World) (h8 : s.size ≤ 8) :
    Calls Try.prog 46 #[.string s, .string bZN] w fun e w' => (∃ n : Int, e = .returned (.int .i64 n) ∧ decide (0 ≤ n) = anyQ s.toList) ∧ Below w.heap.size w w' := by
  have h8z : decide ((8 : Int) < (s.size : Int)) = false := decide_eq_false (by omega)
  have H8 := Lib.hid h8z; clear h8z
  have hbz : bZN.size = 2 := rfl
  have hbl : bZN.toList.isEmpty = false := by rw [show bZN.toList = [0, 39] from list_mk [0, 39]]; rfl
  go_enter Try.func46, Try.ntmps46
  go_wp2_with fail
  refine (Try.strings_shouldUseASCIISet _ _).mono ?_
  rintro e w1 ⟨rfl, rfl⟩
  rw [H8.out]
  go_wp2
  go_loopw [9, 10] (fun _ _ wr => ∃ k : Nat, k ≤ s.size ∧ (Below w1.heap.size w1 wr ∧ wr.heap[w1.heap.size]? = some (.stringIter s k)) ∧ NoneTo s.toList k) (fun _ _ wr => s.size - wr.iterPos w1.heap.size)
  case atStart => exact ⟨0, by omega, ⟨(Below.refl _ _).alloc (Nat.le_refl _) _, World.iter_heap _ _ _⟩, rfl⟩
  case round =>
    obtain ⟨k, hk, ⟨hbel, hit⟩, hno⟩ := hrel
    have HNO := Lib.hid hno; have HBEL := Lib.hid hbel; have HIT := Lib.hid hit
    clear hno hbel hit
    by_cases hlt : k < s.size
    · obtain ⟨r, n, hr31, hn1, hkn, hyes, hnob, hnx⟩ : ∃ r n : Nat, r ≤ 2147483647 ∧ 1 ≤ n ∧ k + n ≤ s.size ∧ ((r == 0 || r == 39) = true → (s[k] == 0 || s[k] == 39) = true) ∧ ((r == 0 || r == 39) = false → ∀ j, j < n → ∀ hj : k + j < s.size, (s[k + j]'hj == 0 || s[k + j]'hj == 39) = false) ∧
          ∀ ty, (Instr.next (.pointer (some ⟨w1.heap.size, 0, none⟩)) true ty).run Try.prog wr = .ok (.tuple #[.bool true, .int .i64 k, .int .i32 r]) (wr.iterAt w1.heap.size s (k + n)) := by
        refine ⟨(Utf8.decode s k).1, (Utf8.decode s k).2, decode_le s k, ?_⟩
        by_cases ha : (s[k]).toNat < 128
        · have hd := decode_ascii s k hlt ha
          refine ⟨by rw [hd]; exact Nat.le_refl _, by rw [hd]; exact hlt, fun h => ?_, fun h j hj hj' => ?_, fun ty => Lib.run_next_any_at wr _ s k ty HIT.out hlt⟩
          · rw [hd] at h
            simp only [Bool.or_eq_true, beq_iff_eq] at h ⊢
            rcases h with h | h
            · exact .inl (UInt8.toNat_inj.1 h)
            · exact .inr (UInt8.toNat_inj.1 h)
          · rw [hd] at h hj
            obtain rfl : j = 0 := by simpa using hj
            simp only [Bool.or_eq_false_iff, beq_eq_false_iff_ne] at h ⊢
            exact ⟨fun e => h.1 (by show (s[k]).toNat = 0; have : s[k] = 0 := e; rw [this]; rfl), fun e => h.2 (by show (s[k]).toNat = 39; have : s[k] = 39 := e; rw [this]; rfl)⟩
        · have hd := decode_high s k hlt (by omega)
          have hb := decode_bytes s k hlt (by omega)
          refine ⟨hd.2, hb.1, fun h => ?_, fun _ j hj hj' => ?_, fun ty => Lib.run_next_any_at wr _ s k ty HIT.out hlt⟩
          · simp only [Bool.or_eq_true, beq_iff_eq] at h
            omega
          · have := hb.2 j hj hj'
            simp only [Bool.or_eq_false_iff, beq_eq_false_iff_ne]
            exact ⟨fun e => by rw [e] at this; exact absurd this (by decide), fun e => by rw [e] at this; exact absurd this (by decide)⟩
      have hit2 := Lib.iterAt_heap wr w1.heap.size s k (k + n) HIT.out
      have hbel2 : Below w1.heap.size w1 (wr.iterAt w1.heap.size s (k + n)) := HBEL.out.trans ⟨rfl, rfl, rfl, by simp [World.iterAt], fun i hi => by simp only [World.iterAt]; exact Array.getElem?_setIfInBounds_ne (by omega)⟩
      have HI2 := Lib.hid hit2; have HB2 := Lib.hid hbel2; have HY := Lib.hid hyes; have HNB := Lib.hid hnob; clear hit2 hbel2 hyes hnob
      have hir := fun X => indexRune_any r X hr31
      have HIR := Lib.hid hir; clear hir hr31
      cases hhit : (r == 0 || r == 39)
      · have HH := Lib.hid hhit; clear hhit
        go_wp2_with fail
        refine (HIR.out _).mono ?_
        rintro e w3 ⟨⟨m, rfl, hm⟩, hb3⟩
        rw [HH.out] at hm
        have hm' : ¬ (0 ≤ m) := of_decide_eq_false hm
        have hblk : w3.heap[w1.heap.size]? = some (.stringIter s (k + n)) := (hb3.block _ (Array.getElem?_eq_some_iff.1 HI2.out).1).trans HI2.out
        have HBK := Lib.hid hblk; have HB3 := Lib.hid (HB2.out.trans (hb3.mono HB2.out.size)); clear hblk hb3
        clear hnx hm
        go_wp2
        go_roundw
        case rel => exact ⟨k + n, hkn, ⟨HB3.out, HBK.out⟩, noneTo_step s k n hkn HNO.out (HNB.out HH.out)⟩
        case measure =>
          simp only [World.iterPos, HBK.out, HIT.out]
          omega
      · have HH := Lib.hid hhit; clear hhit
        go_wp2_with fail
        refine (HIR.out _).mono ?_
        rintro e w3 ⟨⟨m, rfl, hm⟩, hb3⟩
        rw [HH.out] at hm
        have hm' : 0 ≤ m := of_decide_eq_true hm
        have HB3 := Lib.hid (HB2.out.trans (hb3.mono HB2.out.size)); clear hb3
        clear hnx hm
        go_wp2
        go_ret
        exact ⟨⟨k, rfl, by rw [some_at s k hlt (HY.out HH.out)]; exact decide_eq_true (by omega)⟩, HB3.out⟩
    · have hnx : ∀ ty, (Instr.next (.pointer (some ⟨w1.heap.size, 0, none⟩)) true ty).run Try.prog wr = _ := fun ty => Lib.run_next_end_at wr _ s k ty HIT.out hlt
      go_wp2
      go_ret
      exact ⟨⟨-1, rfl, by rw [noneTo_end s k (by omega) HNO.out]; rfl⟩, HBEL.out⟩

theorem any_eq : ∀ l : List UInt8, Lib.containsAny l [0, 39] = anyQ l := by
  have key : ∀ l : List UInt8, (0 ≤ Lib.indexAny l [0, 39]) ↔ anyQ l = true := by
    intro l
    induction l with
    | nil => simp [Lib.indexAny, anyQ]
    | cons b l ih =>
      have hge := Lib.indexAny_ge [0, 39] l
      unfold Lib.indexAny
      have hc : [(0 : UInt8), 39].contains b = (b == 0 || b == 39) := by simp; rfl
      rw [hc]
      simp only [anyQ, List.any_cons]
      cases hb : (b == 0 || b == 39)
      · simp only [Bool.false_or, Bool.false_eq_true, if_false]
        rw [← anyQ, ← ih]
        by_cases h : Lib.indexAny l [0, 39] = -1
        · simp [h]
        · simp [h]
          omega
      · simp
  intro l
  unfold Lib.containsAny
  rw [Bool.eq_iff_iff, decide_eq_true_iff]
  exact key l

theorem info256 : (Try.prog.info? 63).map (fun i => (i.zero, i.size)) = some (some (.agg (Array.replicate 256 (.bool false))), 256) := by kernel_rfl
theorem indexAny_any (s : ByteArray) (w : World) (hs : s.size < 4294967281) :
    Calls Try.prog 46 #[.string s, .string bZN] w fun e w' => (∃ n : Int, e = .returned (.int .i64 n) ∧ decide (0 ≤ n) = anyQ s.toList) ∧ Below w.heap.size w w' := by
  by_cases h8 : s.size ≤ 8
  · exact indexAny_short s w h8
  · refine (Try.strings_IndexAny_long (zero_of_info info256).1 s bZN w (by decide) (by omega) hs (by decide) (fun j b hb => ?_)).mono ?_
    · match j, hb with
      | 0, hb => simp [bZN] at hb; subst hb; decide
      | 1, hb => simp [bZN] at hb; subst hb; decide
      | j + 2, hb => simp [bZN] at hb
    · rintro e w' ⟨rfl, rfl⟩
      refine ⟨⟨_, rfl, ?_⟩, ((Below.refl _ _).alloc (Nat.le_refl _) _).alloc (by simp) _⟩
      rw [show bZN.data.toList = [0, 39] from rfl, ← Lib.toList_data]
      exact any_eq s.toList

set_option maxRecDepth 100000 in
set_option maxHeartbeats 1000000 in
theorem containsAny_two (s : ByteArray) (w : World) (hs : s.size < 4294967281) :
    Calls Try.prog 34 #[.string s, .string ⟨#[0, 39]⟩] w fun e w' => e = .returned (.bool (anyQ s.toList)) ∧ Below w.heap.size w w' := by
  go_enter Try.func34, Try.ntmps34
  go_wp2_with fail
  refine (indexAny_any s _ hs).mono ?_
  rintro e w' ⟨⟨n, rfl, hn⟩, hb⟩
  have HN := Lib.hid hn; have HB := Lib.hid hb; clear hn hb
  go_wp2
  go_ret
  exact ⟨by rw [← HN.out]; rfl, HB.out⟩
end Go.Proofs.Ytjpopekmbmcggaa
