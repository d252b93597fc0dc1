/- Towards nodeTells_card: NdCm32, HereRune, HereCut. Merged from smaller texts by a program of the author's. -/
import Derived.Test.YtjpopekmbmcggaaGreatDoorTa21
import Derived.Test.YtjpopekmbmcggaaGreatDoorTa11
import Derived.Test.YtjpopekmbmcggaaGreatDoorTa01
import Derived.Laws.RangeAny
import Derived.Laws.Runes
import Derived.Lib.OthersKept
import Derived.LoopTactic
import Derived.Outline
import Derived.Deep.LoopGhost
import Derived.Deep.QuietTactic
import Derived.BigQuiet
namespace Go.Proofs.YtjpopekmbmcggaaGreatDoor
open Go.RowKit
attribute [local go_sem ↓] wp_append_wr
namespace Pts
def msk : Pts → Bool → Nat → List Bool
  | nil, _, _ => []
  | cons _ _ _ kids cm rest, on, i => (on && decide (i < 1000) && decide (0 < cm.n)) :: (kids.msk (on && decide (i < 1000)) 0 ++ rest.msk on (i + 1))
theorem msk_len : ∀ (l : Pts) (on : Bool) (i : Nat), (l.msk on i).length = l.allc.length
  | nil, _, _ => rfl
  | cons _ _ _ kids _ rest, on, i => by rw [msk, allc]; simp [msk_len kids, msk_len rest]
end Pts
def pickM {β : Type} : List Bool → List β → List β
  | b :: ks, x :: xs => if b then x :: pickM ks xs else pickM ks xs
  | _, _ => []
theorem pickM_app {β : Type} : ∀ (ks : List Bool) (xs : List β) (ks' : List Bool) (xs' : List β), ks.length = xs.length → pickM (ks ++ ks') (xs ++ xs') = pickM ks xs ++ pickM ks' xs'
  | [], [], _, _, _ => rfl
  | k :: ks, x :: xs, ks', xs', h => by
    have ih := pickM_app ks xs ks' xs' (by simpa using h)
    simp only [List.cons_append, pickM]
    split <;> simp [ih]
  | [], _ :: _, _, _, h => by simp at h
  | _ :: _, [], _, _, h => by simp at h
theorem All2.pickM {α β : Type} {R : α → β → Prop} : ∀ (ks : List Bool) {l : List α} {m : List β}, All2 R l m → All2 R (pickM ks l) (pickM ks m)
  | [], _, _, _ => trivial
  | k :: ks, [], [], _ => trivial
  | k :: ks, _ :: _, _ :: _, h => by
    simp only [YtjpopekmbmcggaaGreatDoor.pickM]
    split
    · exact ⟨h.1, All2.pickM ks h.2⟩
    · exact All2.pickM ks h.2
  | _ :: _, [], _ :: _, h => h.elim
  | _ :: _, _ :: _, [], h => h.elim
theorem pickM_tot {β : Type} (C : β → Nat) : ∀ (ks : List Bool) (xs : List β), tot C (pickM ks xs) ≤ tot C xs
  | [], xs => by simp [pickM, tot]
  | _ :: _, [] => by simp [pickM, tot]
  | k :: ks, x :: xs => by
    have := pickM_tot C ks xs
    simp only [pickM]
    split <;> simp only [tot] <;> omega
namespace Pts
def cm32 (l : Pts) (i : Nat) : List Cm := pickM (l.msk true i) l.allc
theorem off_nil : ∀ (l : Pts) (i : Nat), pickM (l.msk false i) l.allc = []
  | nil, _ => rfl
  | cons _ _ _ kids cm rest, i => by
    rw [msk, allc]
    simp only [Bool.false_and, pickM]
    rw [if_neg (by simp), pickM_app _ _ _ _ (msk_len _ _ _), off_nil kids, off_nil rest]
    rfl
theorem cm32_lt (k : Int) (t o : ByteArray) (kids : Pts) (cm : Cm) (r : Pts) (i : Nat) (h : i < 1000) : (cons k t o kids cm r).cm32 i = (if 0 < cm.n then [cm] else []) ++ kids.cm32 0 ++ r.cm32 (i + 1) := by
  unfold cm32
  rw [msk, allc]
  simp only [decide_eq_true h, Bool.true_and, pickM]
  rw [pickM_app _ _ _ _ (msk_len _ _ _)]
  by_cases h2 : 0 < cm.n <;> simp [h2]
theorem cm32_ge : ∀ (l : Pts) (i : Nat), 1000 ≤ i → l.cm32 i = []
  | nil, _, _ => rfl
  | cons _ _ _ kids cm rest, i, h => by
    have ih := cm32_ge rest (i + 1) (by omega)
    unfold cm32 at *
    rw [msk, allc]
    simp only [decide_eq_false (show ¬ i < 1000 by omega), Bool.true_and, Bool.false_and, pickM]
    rw [if_neg (by simp), pickM_app _ _ _ _ (msk_len _ _ _), off_nil kids, ih]
    rfl
theorem pickM_len {β : Type} : ∀ (ks : List Bool) (xs : List β), (pickM ks xs).length ≤ xs.length
  | [], _ => by simp [pickM]
  | _ :: _, [] => by simp [pickM]
  | k :: ks, x :: xs => by
    have := pickM_len ks xs
    simp only [pickM]
    split <;> simp only [List.length_cons] <;> omega
theorem allc_count : ∀ l : Pts, l.allc.length = l.count
  | nil => rfl
  | cons _ _ _ kids _ rest => by rw [allc, count]; simp [allc_count kids, allc_count rest]; omega
theorem cm32_count (l : Pts) (i : Nat) : (l.cm32 i).length ≤ l.count := by
  rw [← allc_count]
  exact pickM_len _ _
end Pts
set_option maxRecDepth 100000 in
set_option maxHeartbeats 1000000 in
theorem cm32_any : ∀ (n : Nat) (l : Pts) (G : Nat → Prop) (A : Option Addr) (c : Nat) (w : World), l.deep < n → l.wt ≤ 1073741824 → (∀ k, G k → k < w.heap.size) → PtsAt G w A 0 l →
    Calls Tryz.prog 36 #[.slice A l.len c] w fun e w' => ∃ v, e = .returned v ∧ Crow w.heap.size w' v (l.cm32 0) ∧ Below w.heap.size w w' := by
  intro n
  induction n with
  | zero => intro l _ _ _ _ h; omega
  | succ n ih =>
    intro l G A c w hd hwt hG hp
    have hlw := Pts.len_wt l
    have hcw := Pts.count_wt l
    have hcc := Pts.cm32_count l 0
    have IH := Lib.hid ih; clear ih
    have HG := Lib.hid hG; have HP := Lib.hid hp; clear hG hp
    go_enter Tryz.func36, Tryz.ntmps36
    go_wp2
    go_loopw [3, 4] (fun s i wr => ∃ (k : Nat) (done : List Cm), k ≤ l.len ∧ i = .int .i64 k ∧ Crow w.heap.size wr s done ∧ done ++ (l.drop k).cm32 k = l.cm32 0 ∧ Below w.heap.size w wr) (fun _ i _ => l.len - (intOf i).toNat)
    case atStart => exact ⟨0, [], by omega, rfl, Crow.nothing, by rw [Pts.drop_zero]; rfl, Below.refl _ _⟩
    case round =>
      obtain ⟨k, done, hk, rfl, hr, hf, hb⟩ := hrel
      have hdl : done.length ≤ 1073741824 := by
        have := congrArg List.length hf
        rw [List.length_append] at this
        omega
      have HF := Lib.hid hf; have HB := Lib.hid hb; have HR := Lib.hid hr; clear hf hb hr
      by_cases hlt : k < l.len ∧ k < 1000
      · obtain ⟨pk, t, o, kids, cm, r, hdr⟩ := Pts.drop_cons k l hlt.1
        have hp' := (HP.out.old HG.out HB.out).at_ k
        rw [hdr, Nat.zero_add] at hp'
        obtain ⟨b, off, Ak, ck, rfl, hg, c0, c1, c2, c3, c4, hl, h1, h2⟩ := hp'
        have hwd := Pts.wt_drop k l
        rw [hdr, Pts.wt] at hwd
        have hkw := Pts.count_wt kids
        have hkc := Pts.cm32_count kids 0
        have hkd := Pts.deep_drop k l hdr
        have hG' : ∀ g, G g → g < wr.heap.size := fun g hg => Nat.lt_of_lt_of_le (HG.out g hg) HB.out.size
        have HD := Lib.hid hdr; clear hdr h2
        have HK := Lib.hid h1
        have HGW := Lib.hid hG'
        have HGB := Lib.hid (HG.out b hg)
        clear h1 hG' hg
        unfold Cm.val at c4
        have hlt1 := hlt.1; have hlt2 := hlt.2
        have HLT := Lib.hid hlt; clear hlt
        by_cases h6 : 0 < cm.n
        · have H6 := Lib.hid h6
          have hx := HR.out.below ((Below.refl _ _).alloc (Nat.le_refl _) (.cells #[.slice cm.a cm.n cm.c] 26))
          have hnew := word_cell (heap_alloc_new wr (.cells #[.slice cm.a cm.n cm.c] 26))
          obtain ⟨v1, w1, hrun1, hown1, hgr1, _⟩ := hx.append [cm] ⟨wr.heap.size, 0, none⟩ 1 (fun j u hj => by
            match j, hj with
            | 0, hj => simp only [List.map_cons, List.map_nil, List.getElem?_cons_zero, Option.some.injEq] at hj; subst hj; exact hnew
            | j + 1, hj => simp at hj) (by simp; omega) (by simp; have := HB.out.size; omega)
          rw [show [cm].length = 1 from rfl] at hrun1
          have hb1 : Below w.heap.size w w1 := (HB.out.alloc HB.out.size _).grown hgr1 (by simp; have := HB.out.size; omega) (fun g hg => (hx.lt hg).1)
          have q3 : w1.cell? ⟨b, off + k * 5 + 3, none⟩ = some (.slice Ak kids.len ck) := by
            have e1 := HB.out.cell (p := ⟨b, off + k * 5 + 3, none⟩) HGB.out
            have e2 := hb1.cell (p := ⟨b, off + k * 5 + 3, none⟩) HGB.out
            rw [e2, ← e1]
            exact c3
          have HK1 := Lib.hid (show PtsAt G w1 Ak 0 kids from HK.out.keep fun p hp => (hb1.cell (HG.out _ hp)).trans (HB.out.cell (HG.out _ hp)).symm)
          have HG1 := Lib.hid (show ∀ g, G g → g < w1.heap.size from fun g hg => Nat.lt_of_lt_of_le (HG.out g hg) hb1.size)
          have HO1 := Lib.hid hown1
          have HB1 := Lib.hid hb1
          clear hx hnew hown1 hgr1 hb1
          go_wp2_with fail
          refine (IH.out kids G Ak ck w1 (by omega) (by omega) HG1.out HK1.out).mono ?_
          rintro e w2 ⟨v2, rfl, hr2, hb2⟩
          have ho2 := HO1.out.below hb2
          obtain ⟨v3, w3, hrun3, hown3, hgr3⟩ := ho2.joins hr2 (by simp; omega) (Nat.le_trans HB1.out.size hb2.size)
          have HB3 := Lib.hid (((HB1.out.trans (hb2.mono HB1.out.size))).grown hgr3 (Nat.le_trans HB1.out.size hb2.size) (fun g hg => (ho2.lt hg).1))
          have HO3 := Lib.hid hown3
          clear hr2 hb2 ho2 hown3 hgr3 hrun1 q3 c0 c1 c2 c3 c4
          go_wp2
          go_roundw
          case rel =>
            refine ⟨k + 1, done ++ [cm] ++ kids.cm32 0, by omega, by go_num, HO3.out, ?_, HB3.out⟩
            rw [Pts.drop_succ k l HD.out, ← HF.out, HD.out, Pts.cm32_lt _ _ _ _ _ _ _ HLT.out.2, if_pos H6.out]
            simp
          case measure => simp only [intOf]; omega
        · have H6 := Lib.hid h6
          obtain hz : cm.n = 0 := by omega
          have hz2 : decide (0 < cm.n) = false := decide_eq_false h6
          clear h6 hz
          go_wp2_with fail
          refine (IH.out kids G Ak ck wr (by omega) (by omega) HGW.out HK.out).mono ?_
          rintro e w2 ⟨v2, rfl, hr2, hb2⟩
          have ho2 := HR.out.below hb2
          obtain ⟨v3, w3, hrun3, hown3, hgr3⟩ := ho2.joins hr2 (by omega) (Nat.le_trans HB.out.size hb2.size)
          have HB3 := Lib.hid (((HB.out.trans (hb2.mono HB.out.size))).grown hgr3 (Nat.le_trans HB.out.size hb2.size) (fun g hg => (ho2.lt hg).1))
          have HO3 := Lib.hid hown3
          clear hr2 hb2 ho2 hown3 hgr3 c0 c1 c2 c3 c4
          go_wp2
          go_roundw
          case rel =>
            refine ⟨k + 1, done ++ kids.cm32 0, by omega, by go_num, HO3.out, ?_, HB3.out⟩
            rw [Pts.drop_succ k l HD.out, ← HF.out, HD.out, Pts.cm32_lt _ _ _ _ _ _ _ HLT.out.2, if_neg H6.out]
            simp
          case measure => simp only [intOf]; omega
      · have HE := Lib.hid (show (l.drop k).cm32 k = [] by
          by_cases hk1 : k < l.len
          · exact Pts.cm32_ge _ _ (by omega)
          · rw [Pts.drop_end k l (by omega)]; rfl)
        by_cases hk1 : k < l.len
        · have hk2 : ¬ k < 1000 := by omega
          clear hlt
          go_wp2_with fail
          go_ret
          refine ⟨_, rfl, ?_, HB.out⟩
          have h := HF.out
          rw [HE.out, List.append_nil] at h
          rw [← h]
          exact HR.out
        · clear hlt
          go_wp2_with fail
          go_ret
          refine ⟨_, rfl, ?_, HB.out⟩
          have h := HF.out
          rw [HE.out, List.append_nil] at h
          rw [← h]
          exact HR.out
theorem cm32_r (l : Pts) (A : Option Addr) (c : Nat) (G : Nat → Prop) (w : World) (hwt : l.wt ≤ 1073741824) (hG : ∀ k, G k → k < w.heap.size) (hp : PtsAt G w A 0 l) :
    Calls Tryz.prog 36 #[.slice A l.len c] w fun e w' => ∃ v, e = .returned v ∧ Crow w.heap.size w' v (l.cm32 0) ∧ Below w.heap.size w w' := cm32_any (l.deep + 1) l G A c w (by omega) hwt hG hp
end Go.Proofs.YtjpopekmbmcggaaGreatDoor
namespace Go.Proofs.YtjpopekmbmcggaaGreatDoor
open Go.RowKit
namespace Hr
theorem enc_two (r : Nat) (h : 128 ≤ r) (h2 : r < 2048) : ∃ x y : UInt8, Utf8.encode (r : Int) = ⟨#[x, y]⟩ ∧ 128 ≤ y.toNat := by
  refine ⟨UInt8.ofNat (0xC0 + r / 64), UInt8.ofNat (0x80 + r % 64), ?_, ?_⟩
  · have hv : Utf8.valid (r : Int) = true := by simp [Utf8.valid]; omega
    simp only [Utf8.encode, hv, if_true, Int.toNat_natCast]
    rw [if_neg (by omega), if_pos (by omega)]
  · simp; omega
theorem enc_more (r : Nat) (h : 2048 ≤ r) : ∃ x y z : UInt8, Utf8.encode (r : Int) = ⟨#[x, y, z]⟩ ∨ ∃ u : UInt8, Utf8.encode (r : Int) = ⟨#[x, y, z, u]⟩ := by
  unfold Utf8.encode
  have hc : 2048 ≤ (if Utf8.valid (r : Int) then (r : Int).toNat else Utf8.runeError) := by
    split
    · simpa using h
    · decide
  generalize (if Utf8.valid (r : Int) then (r : Int).toNat else Utf8.runeError) = c at hc
  simp only
  rw [if_neg (by omega), if_neg (by omega)]
  split
  · exact ⟨_, _, _, .inl rfl⟩
  · exact ⟨_, _, _, .inr ⟨_, rfl⟩⟩
def bZN : ByteArray := ⟨#[0, 10]⟩
set_option maxRecDepth 100000 in
set_option maxHeartbeats 4000000 in
theorem runeError_none (w : World) : Calls Tryz.prog 223 #[.string bZN, .int .i32 65533] w fun e w' => e = .returned (.int .i64 (-1)) ∧ Below w.heap.size w w' := by
  have hn0 : ∀ ty, (Instr.next (.pointer (some ⟨w.heap.size, 0, none⟩)) true ty).run Tryz.prog (w.iter bZN 0) = .ok (.tuple #[.bool true, .int .i64 0, .int .i32 0]) (w.iter bZN 1) := fun ty => run_next_ascii w bZN 0 ty (by decide) (by decide)
  have hn1 : ∀ ty, (Instr.next (.pointer (some ⟨w.heap.size, 0, none⟩)) true ty).run Tryz.prog (w.iter bZN 1) = .ok (.tuple #[.bool true, .int .i64 1, .int .i32 10]) (w.iter bZN 2) := fun ty => run_next_ascii w bZN 1 ty (by decide) (by decide)
  have hn2 : ∀ ty, (Instr.next (.pointer (some ⟨w.heap.size, 0, none⟩)) true ty).run Tryz.prog (w.iter bZN 2) = .ok (.tuple #[.bool false]) (w.iter bZN 2) := fun ty => run_next_end w bZN 2 ty (by decide)
  go_enter Tryz.func223, Tryz.ntmps223
  go_wp2
  go_loopw [5, 6] (fun _ _ wr => ∃ k : Nat, k ≤ 2 ∧ wr = w.iter bZN k) (fun _ _ wr => 2 - wr.iterPos w.heap.size)
  case atStart => exact ⟨0, by omega, rfl⟩
  case round =>
    obtain ⟨k, hk, rfl⟩ := hrel
    have hk3 : k = 0 ∨ k = 1 ∨ k = 2 := by omega
    rcases hk3 with rfl | rfl | rfl
    · go_wp2
      go_roundw
      case rel => exact ⟨1, by omega, rfl⟩
      case measure => simp only [World.iterPos_iter]; omega
    · go_wp2
      go_roundw
      case rel => exact ⟨2, by omega, rfl⟩
      case measure => simp only [World.iterPos_iter]; omega
    · go_wp2
      go_ret
      exact ⟨rfl, (Below.refl _ _).alloc (Nat.le_refl _) _⟩
theorem ib_empty (c : Int) (w : World) : Calls Tryz.prog 216 #[.string ByteArray.empty, .int .u8 c] w fun e w' => e = .returned (.int .i64 (-1)) ∧ w' = w := Tryz.strings_IndexByte _ _ _
set_option maxRecDepth 100000 in
set_option maxHeartbeats 4000000 in
theorem indexRune_high (r : Nat) (w : World) (h : 128 ≤ r) (h31 : r ≤ 2147483647) : Calls Tryz.prog 223 #[.string bZN, .int .i32 r] w fun e w' => e = .returned (.int .i64 (-1)) ∧ Below w.heap.size w w' := by
  have hz : ¬ ((r : Int) < 128) := by omega
  have hz' : decide ((r : Int) < 128) = false := decide_eq_false hz
  by_cases he : r = 65533
  · subst he; exact runeError_none w
  · have hne : ((r : Int) == 65533) = false := beq_eq_false_iff_ne.2 (by omega)
    cases hv : Lib.validRune (r : Int)
    · have HV := Lib.hid hv; clear hv
      go_enter Tryz.func223, Tryz.ntmps223
      go_wp2_with fail
      refine (Tryz.utf8_ValidRune _ _).mono ?_
      rintro e w1 ⟨rfl, rfl⟩
      rw [HV.out]
      go_wp2
      go_ret
      exact ⟨rfl, Below.refl _ _⟩
    · have HV := Lib.hid hv; clear hv
      by_cases h2 : r < 2048
      · obtain ⟨x, y, hxy, hy⟩ := enc_two r h h2
        have hy10 : (((bZN[1]'(by decide)).toNat : Int) != (((⟨#[x, y]⟩ : ByteArray)[1]'(show 1 < 2 by decide)).toNat : Int)) = true := by
          rw [bne_iff_ne]
          show (10 : Int) ≠ (y.toNat : Int)
          omega
        have hw2 : IntKind.i64.wrap 2 = 2 := rfl
        have hbz : bZN.size = 2 := rfl
        have hbe : bZN.extract 2 2 = ⟨#[]⟩ := rfl
        go_enter Tryz.func223, Tryz.ntmps223
        go_wp2_with fail
        refine (Tryz.utf8_ValidRune _ _).mono ?_
        rintro e w1 ⟨rfl, rfl⟩
        rw [HV.out]
        go_wp2
        go_step3
        go_wp2
        clear hz hz' hne h31 hxy h h2 he HV
        go_loop [9] (fun i => i = .int .i64 1) (fun _ => 0)
        case atStart => rfl
        case round =>
          subst hrel
          go_wp2
          go_step3
          go_wp2
          go_quiet (fail)
          go_wp2
          have hbb := belowN (Below.refl w1.heap.size w1) nq
          have HBB := Lib.hid hbb; clear hbb; revert HBB
          generalize w1.drewN nq = W2
          intro HBB
          go_quiet ((go_at_call 216; exact Calls.quiet_of_same (ib_empty _ _)))
          go_wp2
          rw [Exit.noGoto_ret]
          go_wp2
          rw [Exit.noGoto_ret]
          go_wp2
          go_ret
          exact ⟨rfl, belowN HBB.out _⟩
      · obtain ⟨x, y, z, hxy⟩ := enc_more r (by omega)
        rcases hxy with hxy | ⟨u, hxy⟩
        · go_enter Tryz.func223, Tryz.ntmps223
          go_wp2_with fail
          refine (Tryz.utf8_ValidRune _ _).mono ?_
          rintro e w1 ⟨rfl, rfl⟩
          rw [HV.out]
          go_wp2
          go_step3
          go_wp2
          clear hz hz' hne h31 hxy h h2 he HV
          go_loop [9] (fun i => i = .int .i64 2) (fun _ => 0)
          case atStart => rfl
          case round =>
            subst hrel
            go_wp2
            go_ret
            exact ⟨rfl, Below.refl _ _⟩
        · go_enter Tryz.func223, Tryz.ntmps223
          go_wp2_with fail
          refine (Tryz.utf8_ValidRune _ _).mono ?_
          rintro e w1 ⟨rfl, rfl⟩
          rw [HV.out]
          go_wp2
          go_step3
          go_wp2
          clear hz hz' hne h31 hxy h h2 he HV
          go_loop [9] (fun i => i = .int .i64 3) (fun _ => 0)
          case atStart => rfl
          case round =>
            subst hrel
            go_wp2
            go_ret
            exact ⟨rfl, Below.refl _ _⟩
theorem indexRune_any (r : Nat) (w : World) (h31 : r ≤ 2147483647) : Calls Tryz.prog 223 #[.string bZN, .int .i32 r] w fun e w' => (∃ m : Int, e = .returned (.int .i64 m) ∧ decide (0 ≤ m) = (r == 0 || r == 10)) ∧ Below w.heap.size w w' := by
  by_cases h : 128 ≤ r
  · refine (indexRune_high r w h h31).mono ?_
    rintro e w' ⟨rfl, hb⟩
    refine ⟨⟨-1, rfl, ?_⟩, hb⟩
    have h1 : (r == 0 || r == 10) = false := by simp; omega
    rw [h1]; rfl
  · refine (Tryz.strings_IndexRune_ascii bZN r w (by omega) (by omega)).mono ?_
    rintro e w' ⟨rfl, rfl⟩
    refine ⟨⟨_, rfl, ?_⟩, Below.refl _ _⟩
    rw [← Lib.contains_iff_indexByte, show bZN.data.toList = [0, 10] from rfl]
    have : r < 128 := by omega
    revert this
    clear h h31
    revert r
    decide
theorem decode_bytes (s : ByteArray) (p : Nat) (h : p < s.size) (ha : 128 ≤ (s[p]'h).toNat) : p + (Utf8.decode s p).2 ≤ s.size ∧ ∀ j, j < (Utf8.decode s p).2 → ∀ hj : p + j < s.size, 128 ≤ (s[p + j]'hj).toNat := by
  have g : ∀ k (hk : p + k < s.size), s.get! (p + k) = s[p + k]'hk := fun k hk => by simp [ByteArray.get!, getElem!_pos, hk]; rfl
  have one : p + 1 ≤ s.size ∧ ∀ j, j < 1 → ∀ hj : p + j < s.size, 128 ≤ (s[p + j]'hj).toNat := ⟨by omega, fun j hj hj' => by
    obtain rfl : j = 0 := by omega
    exact ha⟩
  have hn : ¬ (s.get! (p + 0)).toNat < 128 := by rw [get_at s p h]; omega
  unfold Utf8.decode
  simp only [hn, if_false]
  split
  · rename_i h1
    simp only [Bool.and_eq_true, beq_iff_eq, decide_eq_true_eq] at h1
    split
    · refine ⟨by simp; omega, fun j hj hj' => ?_⟩
      simp at hj
      have hj2 : j = 0 ∨ j = 1 := by omega
      rcases hj2 with rfl | rfl
      · exact ha
      · have := h1.2.2
        rw [g 1 hj'] at this
        omega
    · exact one
  · split
    · rename_i h1
      simp only [Bool.and_eq_true, beq_iff_eq, decide_eq_true_eq] at h1
      split
      · refine ⟨by simp; omega, fun j hj hj' => ?_⟩
        simp at hj
        have hj2 : j = 0 ∨ j = 1 ∨ j = 2 := by omega
        rcases hj2 with rfl | rfl | rfl
        · exact ha
        · have := h1.1.2.2
          rw [g 1 hj'] at this
          omega
        · have := h1.2.2
          rw [g 2 hj'] at this
          omega
      · exact one
    · split
      · rename_i h1
        simp only [Bool.and_eq_true, beq_iff_eq, decide_eq_true_eq] at h1
        split
        · refine ⟨by simp; omega, fun j hj hj' => ?_⟩
          simp at hj
          have hj2 : j = 0 ∨ j = 1 ∨ j = 2 ∨ j = 3 := by omega
          rcases hj2 with rfl | rfl | rfl | rfl
          · exact ha
          · have := h1.1.1.2.2
            rw [g 1 hj'] at this
            omega
          · have := h1.1.2.2
            rw [g 2 hj'] at this
            omega
          · have := h1.2.2
            rw [g 3 hj'] at this
            omega
        · exact one
      · exact one
def NoneTo (l : List UInt8) (k : Nat) : Prop := anyB (l.take k) = false
theorem noneTo_step (s : ByteArray) (p n : Nat) (hp : p + n ≤ s.size) (h : NoneTo s.toList p) (hb : ∀ j, j < n → ∀ hj : p + j < s.size, (s[p + j]'hj == 0 || s[p + j]'hj == 10) = false) : NoneTo s.toList (p + n) := by
  unfold NoneTo anyB at *
  rw [List.take_add, List.any_append, h, Bool.false_or, List.any_eq_false]
  intro x hx
  obtain ⟨j, hj, rfl⟩ := List.getElem_of_mem hx
  have hlen : s.toList.length = s.size := (size_list s).symm
  simp only [List.length_take, List.length_drop] at hj
  have := hb j (by omega) (by omega)
  rw [List.getElem_take, List.getElem_drop, get_list s (p + j) (by omega), this]
  simp
theorem noneTo_end (s : ByteArray) (p : Nat) (hp : s.size ≤ p) (h : NoneTo s.toList p) : anyB s.toList = false := by
  unfold NoneTo at h
  rwa [List.take_of_length_le (by rw [← size_list]; omega)] at h
theorem some_at (s : ByteArray) (p : Nat) (h : p < s.size) (hb : (s[p]'h == 0 || s[p]'h == 10) = true) : anyB s.toList = true := by
  unfold anyB
  rw [List.any_eq_true]
  exact ⟨s[p]'h, List.mem_of_getElem? (get?_list s p h), hb⟩
set_option maxRecDepth 100000 in
set_option maxHeartbeats 8000000 in
theorem indexAny_short (s : ByteArray) (w : World) (h8 : s.size ≤ 8) :
    Calls Tryz.prog 190 #[.string s, .string bZN] w fun e w' => (∃ n : Int, e = .returned (.int .i64 n) ∧ decide (0 ≤ n) = anyB s.toList) ∧ Below w.heap.size w w' := by
  have h8z : decide ((8 : Int) < (s.size : Int)) = false := decide_eq_false (by omega)
  have H8 := Lib.hid h8z; clear h8z
  have hbz : bZN.size = 2 := rfl
  have hbl : bZN.toList.isEmpty = false := by rw [show bZN.toList = [0, 10] from list_mk [0, 10]]; rfl
  go_enter Tryz.func190, Tryz.ntmps190
  go_wp2_with fail
  refine (Tryz.strings_shouldUseASCIISet _ _).mono ?_
  rintro e w1 ⟨rfl, rfl⟩
  rw [H8.out]
  go_wp2
  go_loopw [9, 10] (fun _ _ wr => ∃ k : Nat, k ≤ s.size ∧ (Below w1.heap.size w1 wr ∧ wr.heap[w1.heap.size]? = some (.stringIter s k)) ∧ NoneTo s.toList k) (fun _ _ wr => s.size - wr.iterPos w1.heap.size)
  case atStart => exact ⟨0, by omega, ⟨(Below.refl _ _).alloc (Nat.le_refl _) _, World.iter_heap _ _ _⟩, rfl⟩
  case round =>
    obtain ⟨k, hk, ⟨hbel, hit⟩, hno⟩ := hrel
    have HNO := Lib.hid hno; have HBEL := Lib.hid hbel; have HIT := Lib.hid hit
    clear hno hbel hit
    by_cases hlt : k < s.size
    · obtain ⟨r, n, hr31, hn1, hkn, hyes, hnob, hnx⟩ : ∃ r n : Nat, r ≤ 2147483647 ∧ 1 ≤ n ∧ k + n ≤ s.size ∧ ((r == 0 || r == 10) = true → (s[k] == 0 || s[k] == 10) = true) ∧ ((r == 0 || r == 10) = false → ∀ j, j < n → ∀ hj : k + j < s.size, (s[k + j]'hj == 0 || s[k + j]'hj == 10) = false) ∧
          ∀ ty, (Instr.next (.pointer (some ⟨w1.heap.size, 0, none⟩)) true ty).run Tryz.prog wr = .ok (.tuple #[.bool true, .int .i64 k, .int .i32 r]) (wr.iterAt w1.heap.size s (k + n)) := by
        refine ⟨(Utf8.decode s k).1, (Utf8.decode s k).2, decode_le s k, ?_⟩
        by_cases ha : (s[k]).toNat < 128
        · have hd := decode_ascii s k hlt ha
          refine ⟨by rw [hd]; exact Nat.le_refl _, by rw [hd]; exact hlt, fun h => ?_, fun h j hj hj' => ?_, fun ty => Lib.run_next_any_at wr _ s k ty HIT.out hlt⟩
          · rw [hd] at h
            simp only [Bool.or_eq_true, beq_iff_eq] at h ⊢
            rcases h with h | h
            · exact .inl (UInt8.toNat_inj.1 h)
            · exact .inr (UInt8.toNat_inj.1 h)
          · rw [hd] at h hj
            obtain rfl : j = 0 := by simpa using hj
            simp only [Bool.or_eq_false_iff, beq_eq_false_iff_ne] at h ⊢
            exact ⟨fun e => h.1 (by show (s[k]).toNat = 0; have : s[k] = 0 := e; rw [this]; rfl), fun e => h.2 (by show (s[k]).toNat = 10; have : s[k] = 10 := e; rw [this]; rfl)⟩
        · have hd := decode_high s k hlt (by omega)
          have hb := decode_bytes s k hlt (by omega)
          refine ⟨hd.2, hb.1, fun h => ?_, fun _ j hj hj' => ?_, fun ty => Lib.run_next_any_at wr _ s k ty HIT.out hlt⟩
          · simp only [Bool.or_eq_true, beq_iff_eq] at h
            omega
          · have := hb.2 j hj hj'
            simp only [Bool.or_eq_false_iff, beq_eq_false_iff_ne]
            exact ⟨fun e => by rw [e] at this; exact absurd this (by decide), fun e => by rw [e] at this; exact absurd this (by decide)⟩
      have hit2 := Lib.iterAt_heap wr w1.heap.size s k (k + n) HIT.out
      have hbel2 : Below w1.heap.size w1 (wr.iterAt w1.heap.size s (k + n)) := HBEL.out.trans ⟨rfl, rfl, rfl, by simp [World.iterAt], fun i hi => by simp only [World.iterAt]; exact Array.getElem?_setIfInBounds_ne (by omega)⟩
      have HI2 := Lib.hid hit2; have HB2 := Lib.hid hbel2; have HY := Lib.hid hyes; have HNB := Lib.hid hnob; clear hit2 hbel2 hyes hnob
      have hir := fun X => indexRune_any r X hr31
      have HIR := Lib.hid hir; clear hir hr31
      cases hhit : (r == 0 || r == 10)
      · have HH := Lib.hid hhit; clear hhit
        go_wp2_with fail
        refine (HIR.out _).mono ?_
        rintro e w3 ⟨⟨m, rfl, hm⟩, hb3⟩
        rw [HH.out] at hm
        have hm' : ¬ (0 ≤ m) := of_decide_eq_false hm
        have hblk : w3.heap[w1.heap.size]? = some (.stringIter s (k + n)) := (hb3.block _ (Array.getElem?_eq_some_iff.1 HI2.out).1).trans HI2.out
        have HBK := Lib.hid hblk; have HB3 := Lib.hid (HB2.out.trans (hb3.mono HB2.out.size)); clear hblk hb3
        clear hnx hm
        go_wp2
        go_roundw
        case rel => exact ⟨k + n, hkn, ⟨HB3.out, HBK.out⟩, noneTo_step s k n hkn HNO.out (HNB.out HH.out)⟩
        case measure =>
          simp only [World.iterPos, HBK.out, HIT.out]
          omega
      · have HH := Lib.hid hhit; clear hhit
        go_wp2_with fail
        refine (HIR.out _).mono ?_
        rintro e w3 ⟨⟨m, rfl, hm⟩, hb3⟩
        rw [HH.out] at hm
        have hm' : 0 ≤ m := of_decide_eq_true hm
        have HB3 := Lib.hid (HB2.out.trans (hb3.mono HB2.out.size)); clear hb3
        clear hnx hm
        go_wp2
        go_ret
        exact ⟨⟨k, rfl, by rw [some_at s k hlt (HY.out HH.out)]; exact decide_eq_true (by omega)⟩, HB3.out⟩
    · have hnx : ∀ ty, (Instr.next (.pointer (some ⟨w1.heap.size, 0, none⟩)) true ty).run Tryz.prog wr = _ := fun ty => Lib.run_next_end_at wr _ s k ty HIT.out hlt
      go_wp2
      go_ret
      exact ⟨⟨-1, rfl, by rw [noneTo_end s k (by omega) HNO.out]; rfl⟩, HBEL.out⟩
theorem any_eq : ∀ l : List UInt8, Lib.containsAny l [0, 10] = anyB l := by
  have key : ∀ l : List UInt8, (0 ≤ Lib.indexAny l [0, 10]) ↔ anyB l = true := by
    intro l
    induction l with
    | nil => simp [Lib.indexAny, anyB]
    | cons b l ih =>
      have hge := Lib.indexAny_ge [0, 10] l
      unfold Lib.indexAny
      have hc : [(0 : UInt8), 10].contains b = (b == 0 || b == 10) := by simp; rfl
      rw [hc]
      simp only [anyB, List.any_cons]
      cases hb : (b == 0 || b == 10)
      · simp only [Bool.false_or, Bool.false_eq_true, if_false]
        rw [← anyB, ← ih]
        by_cases h : Lib.indexAny l [0, 10] = -1
        · simp [h]
        · simp [h]
          omega
      · simp
  intro l
  unfold Lib.containsAny
  rw [Bool.eq_iff_iff, decide_eq_true_iff]
  exact key l
theorem info256 : (Tryz.prog.info? 176).map (fun i => (i.zero, i.size)) = some (some (.agg (Array.replicate 256 (.bool false))), 256) := by kernel_rfl
theorem indexAny_any (s : ByteArray) (w : World) (hs : s.size < 4294967281) :
    Calls Tryz.prog 190 #[.string s, .string bZN] w fun e w' => (∃ n : Int, e = .returned (.int .i64 n) ∧ decide (0 ≤ n) = anyB s.toList) ∧ Below w.heap.size w w' := by
  by_cases h8 : s.size ≤ 8
  · exact indexAny_short s w h8
  · refine (Tryz.strings_IndexAny_long (zero_of_info info256).1 s bZN w (by decide) (by omega) hs (by decide) (fun j b hb => ?_)).mono ?_
    · match j, hb with
      | 0, hb => simp [bZN] at hb; subst hb; decide
      | 1, hb => simp [bZN] at hb; subst hb; decide
      | j + 2, hb => simp [bZN] at hb
    · rintro e w' ⟨rfl, rfl⟩
      refine ⟨⟨_, rfl, ?_⟩, ((Below.refl _ _).alloc (Nat.le_refl _) _).alloc (by simp) _⟩
      rw [show bZN.data.toList = [0, 10] from rfl, ← Lib.toList_data]
      exact any_eq s.toList
set_option maxRecDepth 100000 in
set_option maxHeartbeats 1000000 in
theorem containsAny_two (s : ByteArray) (w : World) (hs : s.size < 4294967281) :
    Calls Tryz.prog 155 #[.string s, .string ⟨#[0, 10]⟩] w fun e w' => e = .returned (.bool (anyB s.toList)) ∧ Below w.heap.size w w' := by
  go_enter Tryz.func155, Tryz.ntmps155
  go_wp2_with fail
  refine (indexAny_any s _ hs).mono ?_
  rintro e w' ⟨⟨n, rfl, hn⟩, hb⟩
  have HN := Lib.hid hn; have HB := Lib.hid hb; clear hn hb
  go_wp2
  go_ret
  exact ⟨by rw [← HN.out]; rfl, HB.out⟩
end Hr
end Go.Proofs.YtjpopekmbmcggaaGreatDoor
namespace Go.Proofs.YtjpopekmbmcggaaGreatDoor
open Go.RowKit
open Hr
theorem idx_none {l : List UInt8} (h : (10 : UInt8) ∉ l) : Lib.indexByte l 10 = -1 := by
  induction l with
  | nil => rfl
  | cons b l ih =>
    simp only [List.mem_cons, not_or] at h
    have hb : (b == 10) = false := beq_eq_false_iff_ne.2 (fun e => h.1 e.symm)
    simp [Lib.indexByte, hb, ih h.2]
theorem idx_some {a b : List UInt8} (h : (10 : UInt8) ∉ a) : Lib.indexByte (a ++ 10 :: b) 10 = a.length := by
  induction a with
  | nil => simp [Lib.indexByte]
  | cons c a ih =>
    simp only [List.mem_cons, not_or] at h
    have hb : (c == 10) = false := beq_eq_false_iff_ne.2 (fun e => h.1 e.symm)
    simp only [List.cons_append, Lib.indexByte, hb, ih h.2]
    have : ¬ ((a.length : Int) == -1) = true := by simp
    simp only [this]
    simp
set_option maxRecDepth 100000 in
set_option maxHeartbeats 1000000 in
theorem cut94_no (s : ByteArray) (w : World) (h : (10 : UInt8) ∉ s.toList) :
    Calls Tryz.prog 157 #[.string s, .string ⟨#[10]⟩] w fun e w' => e = .returned (.tuple #[.string s, .string ⟨#[]⟩, .bool false]) ∧ w = w' := by
  have hi := idx_none h
  rw [Lib.toList_data] at hi
  have HI := Lib.hid hi; clear hi h
  go_enter Tryz.func157, Tryz.ntmps157
  go_wp2_with fail
  refine (Tryz.stringslite_Index_one s 10 _).mono ?_
  rintro e w' ⟨rfl, rfl⟩
  rw [HI.out]
  go_wp2
  go_ret3
  exact ⟨rfl, rfl⟩
set_option maxRecDepth 100000 in
set_option maxHeartbeats 1000000 in
theorem cut94_yes (s : ByteArray) (a b : List UInt8) (hs : s.toList = a ++ 10 :: b) (w : World) (h : (10 : UInt8) ∉ a) (hm : s.size ≤ 1099511627776) :
    Calls Tryz.prog 157 #[.string s, .string ⟨#[10]⟩] w fun e w' => e = .returned (.tuple #[bs a, bs b, .bool true]) ∧ ∃ n, w' = w.drewN n := by
  have hi := idx_some (b := b) h
  rw [← hs, Lib.toList_data] at hi
  have hsz : s.size = a.length + 1 + b.length := by rw [size_list, hs]; simp; omega
  have hle : (a.length : Int) ≤ (s.size : Int) := by omega
  have hle2 : (a.length : Int) + 1 ≤ (s.size : Int) := by omega
  have hw1 : IntKind.i64.wrap ((a.length : Int) + 1) = (a.length : Int) + 1 := IntWalk.i64_in _ (by omega)
  have hfa : s.extract 0 a.length = ⟨a.toArray⟩ := ext_list (by rw [take_list, hs, list_mk]; simp)
  have hfb : s.extract (a.length + 1) s.size = ⟨b.toArray⟩ := ext_list (by rw [drop_list, hs, list_mk]; simp)
  have HI := Lib.hid hi; have HA := Lib.hid hfa; have HB := Lib.hid hfb
  clear hi h hfa hfb hs
  go_enter Tryz.func157, Tryz.ntmps157
  go_wp2_with fail
  refine (Tryz.stringslite_Index_one s 10 _).mono ?_
  rintro e w' ⟨rfl, rfl⟩
  rw [HI.out]
  clear hsz
  go_wp2
  go_quiet (fail)
  go_wp2
  go_ret3
  exact ⟨by rw [HA.out, HB.out]; rfl, nq, rfl⟩
set_option maxRecDepth 100000 in
set_option maxHeartbeats 1000000 in
theorem cut_no (s : ByteArray) (w : World) (h : (10 : UInt8) ∉ s.toList) :
    Calls Tryz.prog 120 #[.string s, .string ⟨#[10]⟩] w fun e w' => e = .returned (.tuple #[.string s, .string ⟨#[]⟩, .bool false]) ∧ w = w' := by
  have H := Lib.hid h; clear h
  go_enter Tryz.func120, Tryz.ntmps120
  go_wp2_with fail
  refine (cut94_no s _ H.out).mono ?_
  rintro e w' ⟨rfl, rfl⟩
  go_wp2
  go_ret3
  exact ⟨rfl, rfl⟩
set_option maxRecDepth 100000 in
set_option maxHeartbeats 1000000 in
theorem cut_yes (s : ByteArray) (a b : List UInt8) (hs : s.toList = a ++ 10 :: b) (w : World) (h : (10 : UInt8) ∉ a) (hm : s.size ≤ 1099511627776) :
    Calls Tryz.prog 120 #[.string s, .string ⟨#[10]⟩] w fun e w' => e = .returned (.tuple #[bs a, bs b, .bool true]) ∧ ∃ n, w' = w.drewN n := by
  have H := Lib.hid h; have HS := Lib.hid hs; clear h hs
  go_enter Tryz.func120, Tryz.ntmps120
  go_wp2_with fail
  refine (cut94_yes s a b HS.out _ H.out hm).mono ?_
  rintro e w' ⟨rfl, n, rfl⟩
  go_wp2
  go_ret3
  exact ⟨rfl, n, rfl⟩
theorem pre_eq (l : List UInt8) : Lib.hasPrefix l [9] = (l.head? == some 9) := by
  cases l with
  | nil => rfl
  | cons b l =>
    show (9 == b && List.isPrefixOf [] l) = _
    by_cases h : b = 9
    · subst h; rfl
    · have h1 : ((9 : UInt8) == b) = false := beq_eq_false_iff_ne.2 (fun e => h e.symm)
      have h2 : ((b :: l).head? == some 9) = false := beq_eq_false_iff_ne.2 (by simpa using h)
      rw [h1, h2]; rfl
set_option maxRecDepth 100000 in
set_option maxHeartbeats 1000000 in
theorem right_any (e : ByteArray) (t : Bool) (w : World) (has : e.size < 4294967281) :
    Calls Tryz.prog 118 #[.agg #[.string e, .bool t]] w fun r w' => r = .returned (.bool (rightB e.toList t)) ∧ Below w.heap.size w w' := by
  have hca := fun w => Hr.containsAny_two e w has
  have HCA := Lib.hid hca; clear hca has
  cases hb : anyB e.toList
  · cases t
    · have hfin : rightB e.toList false = true := by simp [rightB, hb]
      have HF := Lib.hid hfin; have HB := Lib.hid hb
      clear hfin hb
      go_enter Tryz.func118, Tryz.ntmps118
      go_wp2_with fail
      refine (HCA.out _).mono ?_
      rintro r w1 ⟨rfl, h1⟩
      rw [HB.out]
      obtain ⟨hc, hf⟩ := bcell h1
      have HB1 := Lib.hid h1; clear h1
      go_wp2
      go_ret
      exact ⟨by rw [HF.out]; rfl, ((Below.refl _ _).alloc (Nat.le_refl _) _).trans (HB1.out.mono (by simp))⟩
    · have hfin : rightB e.toList true = !(e.toList.head? == some 9) := by simp [rightB, hb]
      have HF := Lib.hid hfin; have HB := Lib.hid hb
      clear hfin hb
      go_enter Tryz.func118, Tryz.ntmps118
      go_wp2_with fail
      refine (HCA.out _).mono ?_
      rintro r w1 ⟨rfl, h1⟩
      rw [HB.out]
      obtain ⟨hc, hf⟩ := bcell h1
      have HB1 := Lib.hid h1; clear h1
      go_wp2_with fail
      refine (Tryz.strings_HasPrefix e ⟨#[9]⟩ _).mono ?_
      rintro r w2 ⟨rfl, rfl⟩
      rw [← Lib.toList_data, show (⟨#[9]⟩ : ByteArray).data.toList = [9] from rfl, pre_eq]
      go_wp2
      go_ret
      exact ⟨by rw [HF.out]; rfl, ((Below.refl _ _).alloc (Nat.le_refl _) _).trans (HB1.out.mono (by simp))⟩
  · have hfin : rightB e.toList t = false := by simp [rightB, hb]
    have HF := Lib.hid hfin; have HB := Lib.hid hb
    clear hfin hb
    go_enter Tryz.func118, Tryz.ntmps118
    go_wp2_with fail
    refine (HCA.out _).mono ?_
    rintro r w1 ⟨rfl, h1⟩
    rw [HB.out]
    have HB1 := Lib.hid h1; clear h1
    go_wp2
    go_ret
    exact ⟨by rw [HF.out]; rfl, ((Below.refl _ _).alloc (Nat.le_refl _) _).trans (HB1.out.mono (by simp))⟩
end Go.Proofs.YtjpopekmbmcggaaGreatDoor
