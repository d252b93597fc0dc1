/- What part.arith, plain, meet, param and one answer (the last two given what all does at parts less deep). -/
import Derived.Test.YtjpopekmbmcggaaProgOp
import Derived.Test.YtjpopekmbmcggaaQuoteRune
namespace Go.Proofs.Ytjpopekmbmcggaa
open Go.RowKit

set_option maxRecDepth 100000 in
set_option maxHeartbeats 8000000 in
theorem arith_p (s : ByteArray) (w : World) (hm : s.size ≤ 562949953421312) : Calls Try.prog 36 #[.string s] w fun e w' => e = .returned (.bool (arithGo 0 s.toList)) ∧ w = w' := by
  go_enter Try.func36, Try.ntmps36
  go_wp2
  go_loop [3, 7, 4] (fun v i _ => ∃ (k : Nat) (m : Int), k ≤ s.size ∧ 0 ≤ m ∧ m ≤ k ∧ i = .int .i64 k ∧ v = .int .i64 m ∧ arithGo m (s.toList.drop k) = arithGo 0 s.toList) (fun _ i _ => s.size - (intOf i).toNat)
  case atStart => exact ⟨0, 0, by omega, by omega, by omega, rfl, rfl, rfl⟩
  case round =>
    obtain ⟨k, m, hk, hm1, hm2, rfl, rfl, hl⟩ := hrel
    have HL := Lib.hid hl; clear hl
    by_cases hlt : k < s.size
    · cases c0 : ((s[k].toNat : Int) == 0)
      · cases c40 : ((s[k].toNat : Int) == 40)
        · cases c41 : ((s[k].toNat : Int) == 41)
          · have HR := Lib.hid (show arithGo m (s.toList.drop (k + 1)) = arithGo 0 s.toList by rw [← HL.out, drop_cons'' s k hlt]; simp [arithGo, c0, c40, c41])
            go_wp2
            go_round
            case rel => exact ⟨k + 1, m, by omega, by omega, by omega, by go_num, by rfl, HR.out⟩
            case measure => simp only [intOf]; omega
          · by_cases hm0 : m - 1 < 0
            · have HR := Lib.hid (show arithGo 0 s.toList = false by rw [← HL.out, drop_cons'' s k hlt]; simp [arithGo, c0, c40, c41, hm0])
              go_wp2
              go_ret
              exact ⟨by rw [HR.out]; rfl, rfl⟩
            · have HR := Lib.hid (show arithGo (m - 1) (s.toList.drop (k + 1)) = arithGo 0 s.toList by rw [← HL.out, drop_cons'' s k hlt]; simp [arithGo, c0, c40, c41, hm0])
              go_wp2
              go_round
              case rel => exact ⟨k + 1, (m - 1), by omega, by omega, by omega, by go_num, by rfl, HR.out⟩
              case measure => simp only [intOf]; omega
        · have hm0 : ¬ m + 1 < 0 := by omega
          have HR := Lib.hid (show arithGo (m + 1) (s.toList.drop (k + 1)) = arithGo 0 s.toList by rw [← HL.out, drop_cons'' s k hlt]; simp [arithGo, c0, c40])
          go_wp2
          go_round
          case rel => exact ⟨k + 1, (m + 1), by omega, by omega, by omega, by go_num, by rfl, HR.out⟩
          case measure => simp only [intOf]; omega
      · have HR := Lib.hid (show arithGo 0 s.toList = false by rw [← HL.out, drop_cons'' s k hlt]; simp [arithGo, c0])
        go_wp2
        go_ret
        exact ⟨by rw [HR.out]; rfl, rfl⟩
    · have HR := Lib.hid (show arithGo 0 s.toList = (m == 0) by rw [← HL.out, drop_none s k hlt]; rfl)
      go_wp2
      go_ret
      exact ⟨by rw [HR.out]; rfl, rfl⟩

/-- Has a part nothing that its kind has not, as part asks? -/
def plainQ (k : Int) (t o : List UInt8) (kl cn : Nat) : Bool :=
  if k == 5 then (cn : Int) == 0
  else if k == 4 then t.isEmpty && o.isEmpty && ((cn : Int) == 0)
  else if k == 6 then t.isEmpty && o.isEmpty && ((kl : Int) == 0)
  else o.isEmpty && ((kl : Int) == 0) && ((cn : Int) == 0)
set_option maxRecDepth 100000 in
set_option maxHeartbeats 8000000 in
theorem plain_q (k : Int) (t o : ByteArray) (kids : Pts) (A : Option Addr) (c : Nat) (cm : Cm) (w : World) : Calls Try.prog 31 #[.agg #[.int .i64 k, .string t, .string o, .slice A kids.len c, .slice cm.a cm.n cm.c]] w fun e w' => e = .returned (.bool (plainQ k t.toList o.toList kids.len cm.n)) ∧ Below w.heap.size w w' := by
  cases k5 : (k == 5)
  · cases k4 : (k == 4)
    · cases k6 : (k == 6)
      · cases e1 : o.toList.isEmpty
        · have HF := Lib.hid (show plainQ k t.toList o.toList kids.len cm.n = false by unfold plainQ; simp only [k5, k4, k6, e1]; rfl)
          go_enter Try.func31, Try.ntmps31
          go_wp2
          go_ret
          exact ⟨by rw [HF.out]; rfl, (Below.refl _ _).alloc (Nat.le_refl _) _⟩
        · cases e2 : ((kids.len : Int) == 0)
          · have HF := Lib.hid (show plainQ k t.toList o.toList kids.len cm.n = false by unfold plainQ; simp only [k5, k4, k6, e1, e2]; rfl)
            go_enter Try.func31, Try.ntmps31
            go_wp2
            go_ret
            exact ⟨by rw [HF.out]; rfl, (Below.refl _ _).alloc (Nat.le_refl _) _⟩
          · cases e3 : ((cm.n : Int) == 0)
            · have HF := Lib.hid (show plainQ k t.toList o.toList kids.len cm.n = false by unfold plainQ; simp only [k5, k4, k6, e1, e2, e3]; rfl)
              go_enter Try.func31, Try.ntmps31
              go_wp2
              go_ret
              exact ⟨by rw [HF.out]; rfl, (Below.refl _ _).alloc (Nat.le_refl _) _⟩
            · have HF := Lib.hid (show plainQ k t.toList o.toList kids.len cm.n = true by unfold plainQ; simp only [k5, k4, k6, e1, e2, e3]; rfl)
              go_enter Try.func31, Try.ntmps31
              go_wp2
              go_ret
              exact ⟨by rw [HF.out]; rfl, (Below.refl _ _).alloc (Nat.le_refl _) _⟩
      · cases e1 : t.toList.isEmpty
        · have HF := Lib.hid (show plainQ k t.toList o.toList kids.len cm.n = false by unfold plainQ; simp only [k5, k4, k6, e1]; rfl)
          go_enter Try.func31, Try.ntmps31
          go_wp2
          go_ret
          exact ⟨by rw [HF.out]; rfl, (Below.refl _ _).alloc (Nat.le_refl _) _⟩
        · cases e2 : o.toList.isEmpty
          · have HF := Lib.hid (show plainQ k t.toList o.toList kids.len cm.n = false by unfold plainQ; simp only [k5, k4, k6, e1, e2]; rfl)
            go_enter Try.func31, Try.ntmps31
            go_wp2
            go_ret
            exact ⟨by rw [HF.out]; rfl, (Below.refl _ _).alloc (Nat.le_refl _) _⟩
          · cases e3 : ((kids.len : Int) == 0)
            · have HF := Lib.hid (show plainQ k t.toList o.toList kids.len cm.n = false by unfold plainQ; simp only [k5, k4, k6, e1, e2, e3]; rfl)
              go_enter Try.func31, Try.ntmps31
              go_wp2
              go_ret
              exact ⟨by rw [HF.out]; rfl, (Below.refl _ _).alloc (Nat.le_refl _) _⟩
            · have HF := Lib.hid (show plainQ k t.toList o.toList kids.len cm.n = true by unfold plainQ; simp only [k5, k4, k6, e1, e2, e3]; rfl)
              go_enter Try.func31, Try.ntmps31
              go_wp2
              go_ret
              exact ⟨by rw [HF.out]; rfl, (Below.refl _ _).alloc (Nat.le_refl _) _⟩
    · cases e1 : t.toList.isEmpty
      · have HF := Lib.hid (show plainQ k t.toList o.toList kids.len cm.n = false by unfold plainQ; simp only [k5, k4, e1]; rfl)
        go_enter Try.func31, Try.ntmps31
        go_wp2
        go_ret
        exact ⟨by rw [HF.out]; rfl, (Below.refl _ _).alloc (Nat.le_refl _) _⟩
      · cases e2 : o.toList.isEmpty
        · have HF := Lib.hid (show plainQ k t.toList o.toList kids.len cm.n = false by unfold plainQ; simp only [k5, k4, e1, e2]; rfl)
          go_enter Try.func31, Try.ntmps31
          go_wp2
          go_ret
          exact ⟨by rw [HF.out]; rfl, (Below.refl _ _).alloc (Nat.le_refl _) _⟩
        · cases e3 : ((cm.n : Int) == 0)
          · have HF := Lib.hid (show plainQ k t.toList o.toList kids.len cm.n = false by unfold plainQ; simp only [k5, k4, e1, e2, e3]; rfl)
            go_enter Try.func31, Try.ntmps31
            go_wp2
            go_ret
            exact ⟨by rw [HF.out]; rfl, (Below.refl _ _).alloc (Nat.le_refl _) _⟩
          · have HF := Lib.hid (show plainQ k t.toList o.toList kids.len cm.n = true by unfold plainQ; simp only [k5, k4, e1, e2, e3]; rfl)
            go_enter Try.func31, Try.ntmps31
            go_wp2
            go_ret
            exact ⟨by rw [HF.out]; rfl, (Below.refl _ _).alloc (Nat.le_refl _) _⟩
  · cases e3 : ((cm.n : Int) == 0)
    · have HF := Lib.hid (show plainQ k t.toList o.toList kids.len cm.n = false by unfold plainQ; simp only [k5, e3]; rfl)
      go_enter Try.func31, Try.ntmps31
      go_wp2
      go_ret
      exact ⟨by rw [HF.out]; rfl, (Below.refl _ _).alloc (Nat.le_refl _) _⟩
    · have HF := Lib.hid (show plainQ k t.toList o.toList kids.len cm.n = true by unfold plainQ; simp only [k5, e3]; rfl)
      go_enter Try.func31, Try.ntmps31
      go_wp2
      go_ret
      exact ⟨by rw [HF.out]; rfl, (Below.refl _ _).alloc (Nat.le_refl _) _⟩

def pvOf (k : Int) (t : List UInt8) : Option (List UInt8) := if k = 1 then some t else none
theorem suf_eq (l : List UInt8) : Lib.hasSuffix l [36] = (ld0 l == 36) := by
  unfold Lib.hasSuffix ld0
  rw [List.isSuffixOf]
  cases l.reverse with
  | nil => rfl
  | cons a r => show (36 == a && true) = _; rw [Bool.and_true]; show (36 == a) = (a == 36); rw [Bool.eq_iff_iff]; simp only [beq_iff_eq]; exact eq_comm
set_option maxRecDepth 100000 in
set_option maxHeartbeats 8000000 in
theorem meet_p (k : Int) (t o : ByteArray) (kl : Nat) (A : Option Addr) (c : Nat) (cm : Cm) (k2 : Int) (t2 o2 : ByteArray) (kl2 : Nat) (A2 : Option Addr) (c2 : Nat) (cm2 : Cm) (w : World) (hts : t.size ≤ 562949953421312) :
    Calls Try.prog 29 #[.agg #[.int .i64 k, .string t, .string o, .slice A kl c, .slice cm.a cm.n cm.c], .agg #[.int .i64 k2, .string t2, .string o2, .slice A2 kl2 c2, .slice cm2.a cm2.n cm2.c]] w fun e w' => e = .returned (.bool (meetB (pvOf k t.toList) k2)) ∧ Below w.heap.size w w' := by
  by_cases hk : k = 1
  · subst hk
    cases m1 : (k2 == 1)
    · cases m5 : (k2 == 5)
      · cases m6 : (k2 == 6)
        · cases m7 : (k2 == 7)
          · have HF := Lib.hid (show meetB (pvOf 1 t.toList) k2 = true by unfold pvOf; rw [if_pos rfl]; simp only [meetB, m1, m5, m6, m7]; simp)
            go_enter Try.func29, Try.ntmps29
            go_wp2
            go_ret
            exact ⟨by rw [HF.out]; rfl, ((Below.refl _ _).alloc (Nat.le_refl _) _).alloc (by simp) _⟩
          · cases hs : (ld0 t.toList == 36)
            · have HS := Lib.hid hs
              have HF := Lib.hid (show meetB (pvOf 1 t.toList) k2 = true by unfold pvOf; rw [if_pos rfl]; simp only [meetB, hs, m1, m5, m6, m7]; rfl)
              go_enter Try.func29, Try.ntmps29
              clear hs
              go_wp2_with fail
              refine (Try.strings_HasSuffix t ⟨#[36]⟩ _ (by omega)).mono ?_
              rintro e w1 ⟨rfl, rfl⟩
              rw [← Lib.toList_data, show (⟨#[36]⟩ : ByteArray).data.toList = [36] from rfl, suf_eq, HS.out]
              go_wp2
              go_ret
              exact ⟨by rw [HF.out]; rfl, ((Below.refl _ _).alloc (Nat.le_refl _) _).alloc (by simp) _⟩
            · have HS := Lib.hid hs
              have HF := Lib.hid (show meetB (pvOf 1 t.toList) k2 = false by unfold pvOf; rw [if_pos rfl]; simp only [meetB, hs, m1, m5, m6, m7]; rfl)
              go_enter Try.func29, Try.ntmps29
              clear hs
              go_wp2_with fail
              refine (Try.strings_HasSuffix t ⟨#[36]⟩ _ (by omega)).mono ?_
              rintro e w1 ⟨rfl, rfl⟩
              rw [← Lib.toList_data, show (⟨#[36]⟩ : ByteArray).data.toList = [36] from rfl, suf_eq, HS.out]
              go_wp2
              go_ret
              exact ⟨by rw [HF.out]; rfl, ((Below.refl _ _).alloc (Nat.le_refl _) _).alloc (by simp) _⟩
        · cases hs : (ld0 t.toList == 36)
          · have HS := Lib.hid hs
            have HF := Lib.hid (show meetB (pvOf 1 t.toList) k2 = true by unfold pvOf; rw [if_pos rfl]; simp only [meetB, hs, m1, m5, m6]; rfl)
            go_enter Try.func29, Try.ntmps29
            clear hs
            go_wp2_with fail
            refine (Try.strings_HasSuffix t ⟨#[36]⟩ _ (by omega)).mono ?_
            rintro e w1 ⟨rfl, rfl⟩
            rw [← Lib.toList_data, show (⟨#[36]⟩ : ByteArray).data.toList = [36] from rfl, suf_eq, HS.out]
            go_wp2
            go_ret
            exact ⟨by rw [HF.out]; rfl, ((Below.refl _ _).alloc (Nat.le_refl _) _).alloc (by simp) _⟩
          · have HS := Lib.hid hs
            have HF := Lib.hid (show meetB (pvOf 1 t.toList) k2 = false by unfold pvOf; rw [if_pos rfl]; simp only [meetB, hs, m1, m5, m6]; rfl)
            go_enter Try.func29, Try.ntmps29
            clear hs
            go_wp2_with fail
            refine (Try.strings_HasSuffix t ⟨#[36]⟩ _ (by omega)).mono ?_
            rintro e w1 ⟨rfl, rfl⟩
            rw [← Lib.toList_data, show (⟨#[36]⟩ : ByteArray).data.toList = [36] from rfl, suf_eq, HS.out]
            go_wp2
            go_ret
            exact ⟨by rw [HF.out]; rfl, ((Below.refl _ _).alloc (Nat.le_refl _) _).alloc (by simp) _⟩
      · cases hs : (ld0 t.toList == 36)
        · have HS := Lib.hid hs
          have HF := Lib.hid (show meetB (pvOf 1 t.toList) k2 = true by unfold pvOf; rw [if_pos rfl]; simp only [meetB, hs, m1, m5]; rfl)
          go_enter Try.func29, Try.ntmps29
          clear hs
          go_wp2_with fail
          refine (Try.strings_HasSuffix t ⟨#[36]⟩ _ (by omega)).mono ?_
          rintro e w1 ⟨rfl, rfl⟩
          rw [← Lib.toList_data, show (⟨#[36]⟩ : ByteArray).data.toList = [36] from rfl, suf_eq, HS.out]
          go_wp2
          go_ret
          exact ⟨by rw [HF.out]; rfl, ((Below.refl _ _).alloc (Nat.le_refl _) _).alloc (by simp) _⟩
        · have HS := Lib.hid hs
          have HF := Lib.hid (show meetB (pvOf 1 t.toList) k2 = false by unfold pvOf; rw [if_pos rfl]; simp only [meetB, hs, m1, m5]; rfl)
          go_enter Try.func29, Try.ntmps29
          clear hs
          go_wp2_with fail
          refine (Try.strings_HasSuffix t ⟨#[36]⟩ _ (by omega)).mono ?_
          rintro e w1 ⟨rfl, rfl⟩
          rw [← Lib.toList_data, show (⟨#[36]⟩ : ByteArray).data.toList = [36] from rfl, suf_eq, HS.out]
          go_wp2
          go_ret
          exact ⟨by rw [HF.out]; rfl, ((Below.refl _ _).alloc (Nat.le_refl _) _).alloc (by simp) _⟩
    · have HF := Lib.hid (show meetB (pvOf 1 t.toList) k2 = false by unfold pvOf; rw [if_pos rfl]; simp only [meetB, m1]; rfl)
      go_enter Try.func29, Try.ntmps29
      go_wp2
      go_ret
      exact ⟨by rw [HF.out]; rfl, ((Below.refl _ _).alloc (Nat.le_refl _) _).alloc (by simp) _⟩
  · have hkb : (k != 1) = true := bne_iff_ne.2 hk
    have HF := Lib.hid (show meetB (pvOf k t.toList) k2 = true by unfold pvOf; rw [if_neg hk]; rfl)
    go_enter Try.func29, Try.ntmps29
    go_wp2
    go_ret
    exact ⟨by rw [HF.out]; rfl, ((Below.refl _ _).alloc (Nat.le_refl _) _).alloc (by simp) _⟩

/-- What part's 'all' answers, at parts less than n deep. -/
def AllQ (n : Nat) : Prop := ∀ (p : Nat) (l : Pts) (A : Option Addr) (c : Nat) (G : Nat → Prop) (w : World), p ≤ 2 → l.deep < n → l.mx ≤ 562949953421312 → (∀ k, G k → k < w.heap.size) → PtsAt G w A 0 l →
  Calls Try.prog 21 #[.int .i64 p, .slice A l.len c] w fun e w' => e = .returned (.bool (l.allP p none)) ∧ Below w.heap.size w w'
theorem pre_one (l : List UInt8) (c : UInt8) (hc : c ≠ 0) : Lib.hasPrefix l [c] = (hd0 l == c) := by
  unfold Lib.hasPrefix
  cases l with
  | nil => show false = (0 == c); rw [eq_comm, beq_eq_false_iff_ne]; exact fun e => hc e.symm
  | cons a r => show (c == a && true) = (a == c); rw [Bool.and_true, Bool.eq_iff_iff]; simp only [beq_iff_eq]; exact eq_comm

theorem hasPre37 (s : ByteArray) (w : World) : Calls Try.prog 49 #[.string s, .string ⟨#[37]⟩] w fun e w' => e = .returned (.bool (hd0 s.toList == 37)) ∧ w' = w := by
  have := Try.strings_HasPrefix s ⟨#[37]⟩ w
  rw [← Lib.toList_data, show (⟨#[37]⟩ : ByteArray).data.toList = [37] from rfl, pre_one _ _ (by decide)] at this
  exact this
theorem hasPre35 (s : ByteArray) (w : World) : Calls Try.prog 49 #[.string s, .string ⟨#[35]⟩] w fun e w' => e = .returned (.bool (hd0 s.toList == 35)) ∧ w' = w := by
  have := Try.strings_HasPrefix s ⟨#[35]⟩ w
  rw [← Lib.toList_data, show (⟨#[35]⟩ : ByteArray).data.toList = [35] from rfl, pre_one _ _ (by decide)] at this
  exact this
set_option maxRecDepth 100000 in
set_option maxHeartbeats 8000000 in
theorem param_p (n : Nat) (IH : AllQ n) (k : Int) (t o : ByteArray) (kids : Pts) (A : Option Addr) (c : Nat) (cm : Cm) (G : Nat → Prop) (w : World) (hd : kids.deep < n) (hts : t.size ≤ 562949953421312) (hwt : kids.mx ≤ 562949953421312) (hG : ∀ k, G k → k < w.heap.size) (hp : PtsAt G w A 0 kids) :
    Calls Try.prog 35 #[.agg #[.int .i64 k, .string t, .string o, .slice A kids.len c, .slice cm.a cm.n cm.c]] w fun e w' => e = .returned (.bool (paramB t.toList o.toList kids.len kids.headK kids.headT (kids.allP 2 none))) ∧ Below w.heap.size w w' := by
  have HIH := Lib.hid IH; clear IH
  have hw0 : Below w.heap.size w (w.alloc (.cells #[.int .i64 k, .string t, .string o, .slice A kids.len c, .slice cm.a cm.n cm.c] 37)) := (Below.refl _ _).alloc (Nat.le_refl _) _
  have hbox := heap_alloc_new w (.cells #[.int .i64 k, .string t, .string o, .slice A kids.len c, .slice cm.a cm.n cm.c] 37)
  have hp0 := hp.old hG hw0
  have hlt0 : w.heap.size < (w.alloc (.cells #[.int .i64 k, .string t, .string o, .slice A kids.len c, .slice cm.a cm.n cm.c] 37)).heap.size := by simp
  have hG0 : ∀ g, G g → g < (w.alloc (.cells #[.int .i64 k, .string t, .string o, .slice A kids.len c, .slice cm.a cm.n cm.c] 37)).heap.size := fun g hg => by have := hG g hg; omega
  have HW0 := Lib.hid hw0; have HBX := Lib.hid hbox; have HP := Lib.hid hp0; have HG0 := Lib.hid hG0; have HT := Lib.hid hts
  clear hw0 hbox hp hp0 hG hG0 hlt0 hts
  cases hn : namedB t.toList
  · have hnm : (!namedB t.toList) = true := by rw [hn]; rfl
    have HNM := Lib.hid hn; clear hn
    have HF := Lib.hid (show paramB t.toList o.toList kids.len kids.headK kids.headT (kids.allP 2 none) = false by unfold paramB; rw [hnm]; rfl)
    clear hd hwt hnm
    go_enter Try.func35, Try.ntmps35
    go_wp2_with fail
    refine (named_p t _ (by have := HT.out; omega)).mono ?_
    rintro e w1 ⟨rfl, hb1⟩
    rw [HNM.out]
    have hbox1 := (hb1.block w.heap.size (by simp)).trans HBX.out
    obtain ⟨q0, q1, q2, q3, q4⟩ := box_cells hbox1
    have HP1 := Lib.hid (HP.out.old HG0.out hb1)
    have HG1 := Lib.hid (show ∀ g, G g → g < w1.heap.size from fun g hg => Nat.lt_of_lt_of_le (HG0.out g hg) hb1.size)
    have hlt1 : w.heap.size < w1.heap.size := (Array.getElem?_eq_some_iff.1 hbox1).1
    have HX1 := Lib.hid hbox1
    have HB1 := Lib.hid hb1
    clear hb1 hbox1
    go_wp2
    go_ret
    exact ⟨by rw [HF.out]; rfl, (HW0.out.trans (HB1.out.mono HW0.out.size))⟩
  · have hnm : (!namedB t.toList) = false := by rw [hn]; rfl
    have HNM := Lib.hid hn; clear hn
    by_cases o0 : o = ⟨#[]⟩
    · subst o0
      have HF := Lib.hid (show paramB t.toList (⟨#[]⟩ : ByteArray).toList kids.len kids.headK kids.headT (kids.allP 2 none) = ((kids.len : Int) == 0) by rw [show (⟨#[]⟩ : ByteArray).toList = [] from list_mk []]; unfold paramB; rw [hnm]; rfl)
      clear hd hwt hnm
      go_enter Try.func35, Try.ntmps35
      go_wp2_with fail
      refine (named_p t _ (by have := HT.out; omega)).mono ?_
      rintro e w1 ⟨rfl, hb1⟩
      rw [HNM.out]
      have hbox1 := (hb1.block w.heap.size (by simp)).trans HBX.out
      obtain ⟨q0, q1, q2, q3, q4⟩ := box_cells hbox1
      have HP1 := Lib.hid (HP.out.old HG0.out hb1)
      have HG1 := Lib.hid (show ∀ g, G g → g < w1.heap.size from fun g hg => Nat.lt_of_lt_of_le (HG0.out g hg) hb1.size)
      have hlt1 : w.heap.size < w1.heap.size := (Array.getElem?_eq_some_iff.1 hbox1).1
      have HX1 := Lib.hid hbox1
      have HB1 := Lib.hid hb1
      clear hb1 hbox1
      go_wp2
      go_ret
      exact ⟨by rw [HF.out]; rfl, (HW0.out.trans (HB1.out.mono HW0.out.size))⟩
    · by_cases o1 : o = ⟨#[108, 101, 110]⟩
      · subst o1
        have HF := Lib.hid (show paramB t.toList (⟨#[108, 101, 110]⟩ : ByteArray).toList kids.len kids.headK kids.headT (kids.allP 2 none) = ((kids.len : Int) == 0) by rw [show (⟨#[108, 101, 110]⟩ : ByteArray).toList = [108, 101, 110] from list_mk [108, 101, 110]]; unfold paramB; rw [hnm]; rfl)
        clear hd hwt hnm
        go_enter Try.func35, Try.ntmps35
        go_wp2_with fail
        refine (named_p t _ (by have := HT.out; omega)).mono ?_
        rintro e w1 ⟨rfl, hb1⟩
        rw [HNM.out]
        have hbox1 := (hb1.block w.heap.size (by simp)).trans HBX.out
        obtain ⟨q0, q1, q2, q3, q4⟩ := box_cells hbox1
        have HP1 := Lib.hid (HP.out.old HG0.out hb1)
        have HG1 := Lib.hid (show ∀ g, G g → g < w1.heap.size from fun g hg => Nat.lt_of_lt_of_le (HG0.out g hg) hb1.size)
        have hlt1 : w.heap.size < w1.heap.size := (Array.getElem?_eq_some_iff.1 hbox1).1
        have HX1 := Lib.hid hbox1
        have HB1 := Lib.hid hb1
        clear hb1 hbox1
        go_wp2
        go_ret
        exact ⟨by rw [HF.out]; rfl, (HW0.out.trans (HB1.out.mono HW0.out.size))⟩
      · have o0b : o.toList.isEmpty = false := by have : o.toList ≠ [] := fun e => o0 (ext_list (by rw [e]; exact (list_mk []).symm)); simpa using this
        have o1b : (o.toList == [108, 101, 110]) = false := beq_eq_false_iff_ne.2 fun e => o1 (ext_list (by rw [e]; exact (list_mk [108, 101, 110]).symm))
        have o0c : (o.toList == []) = false := beq_eq_false_iff_ne.2 fun e => o0 (ext_list (by rw [e]; exact (list_mk []).symm))
        clear o0 o1
        cases h35 : (t.toList == [35])
        · cases hop : opB o.toList
          · have HF := Lib.hid (show paramB t.toList o.toList kids.len kids.headK kids.headT (kids.allP 2 none) = false by unfold paramB; rw [hnm]; simp [o0c, o1b, hop, h35])
            have HOP := Lib.hid hop; clear hop o0c hd hwt hnm
            go_enter Try.func35, Try.ntmps35
            go_wp2_with fail
            refine (named_p t _ (by have := HT.out; omega)).mono ?_
            rintro e w1 ⟨rfl, hb1⟩
            rw [HNM.out]
            have hbox1 := (hb1.block w.heap.size (by simp)).trans HBX.out
            obtain ⟨q0, q1, q2, q3, q4⟩ := box_cells hbox1
            have HP1 := Lib.hid (HP.out.old HG0.out hb1)
            have HG1 := Lib.hid (show ∀ g, G g → g < w1.heap.size from fun g hg => Nat.lt_of_lt_of_le (HG0.out g hg) hb1.size)
            have hlt1 : w.heap.size < w1.heap.size := (Array.getElem?_eq_some_iff.1 hbox1).1
            have HX1 := Lib.hid hbox1
            have HB1 := Lib.hid hb1
            clear hb1 hbox1
            go_wp2_with fail
            refine (operator_p _ _).mono ?_
            rintro e w3 ⟨rfl, rfl⟩
            rw [HOP.out]
            go_wp2
            go_ret
            exact ⟨by rw [HF.out]; rfl, (HW0.out.trans (HB1.out.mono HW0.out.size))⟩
          · cases hall : kids.allP 2 none
            · have HF := Lib.hid (show paramB t.toList o.toList kids.len kids.headK kids.headT (kids.allP 2 none) = false by unfold paramB; rw [hnm]; simp [o0c, o1b, hop, h35, hall])
              have HOP := Lib.hid hop; have HALL := Lib.hid hall; clear hop hall o0c hnm
              go_enter Try.func35, Try.ntmps35
              go_wp2_with fail
              refine (named_p t _ (by have := HT.out; omega)).mono ?_
              rintro e w1 ⟨rfl, hb1⟩
              rw [HNM.out]
              have hbox1 := (hb1.block w.heap.size (by simp)).trans HBX.out
              obtain ⟨q0, q1, q2, q3, q4⟩ := box_cells hbox1
              have HP1 := Lib.hid (HP.out.old HG0.out hb1)
              have HG1 := Lib.hid (show ∀ g, G g → g < w1.heap.size from fun g hg => Nat.lt_of_lt_of_le (HG0.out g hg) hb1.size)
              have hlt1 : w.heap.size < w1.heap.size := (Array.getElem?_eq_some_iff.1 hbox1).1
              have HX1 := Lib.hid hbox1
              have HB1 := Lib.hid hb1
              clear hb1 hbox1
              go_wp2_with fail
              refine (operator_p _ _).mono ?_
              rintro e w3 ⟨rfl, rfl⟩
              rw [HOP.out]
              go_wp2_with fail
              refine (HIH.out 2 kids A c G _ (by omega) hd hwt HG1.out HP1.out).mono ?_
              rintro e w2 ⟨rfl, hb2⟩
              rw [HALL.out]
              try rw [HALL.out] at HF
              have hbox2 := (hb2.block w.heap.size hlt1).trans HX1.out
              clear q0 q1 q2 q3 q4
              obtain ⟨q0, q1, q2, q3, q4⟩ := box_cells hbox2
              have HP2 := Lib.hid (HP1.out.old HG1.out hb2)
              have HB2 := Lib.hid (HB1.out.trans (hb2.mono HB1.out.size))
              clear hb2 hbox2
              go_wp2
              go_ret
              exact ⟨by rw [HF.out]; rfl, (HW0.out.trans (HB2.out.mono HW0.out.size))⟩
            · by_cases o2 : o = ⟨#[37]⟩
              · subst o2
                cases kl0 : ((kids.len : Int) == 0)
                · have HOP' := Lib.hid (show opB [37] = true from rfl)
                  have HNN := Lib.hid hnm
                  have HOP := Lib.hid hop; have HALL := Lib.hid hall; clear hop hall o0b o1b o0c hnm
                  have HKL := Lib.hid kl0
                  go_enter Try.func35, Try.ntmps35
                  go_wp2_with fail
                  refine (named_p t _ (by have := HT.out; omega)).mono ?_
                  rintro e w1 ⟨rfl, hb1⟩
                  rw [HNM.out]
                  have hbox1 := (hb1.block w.heap.size (by simp)).trans HBX.out
                  obtain ⟨q0, q1, q2, q3, q4⟩ := box_cells hbox1
                  have HP1 := Lib.hid (HP.out.old HG0.out hb1)
                  have HG1 := Lib.hid (show ∀ g, G g → g < w1.heap.size from fun g hg => Nat.lt_of_lt_of_le (HG0.out g hg) hb1.size)
                  have hlt1 : w.heap.size < w1.heap.size := (Array.getElem?_eq_some_iff.1 hbox1).1
                  have HX1 := Lib.hid hbox1
                  have HB1 := Lib.hid hb1
                  clear hb1 hbox1
                  go_wp2_with fail
                  refine (operator_p _ _).mono ?_
                  rintro e w3 ⟨rfl, rfl⟩
                  rw [HOP.out]
                  go_wp2_with fail
                  refine (HIH.out 2 kids A c G _ (by omega) hd hwt HG1.out HP1.out).mono ?_
                  rintro e w2 ⟨rfl, hb2⟩
                  rw [HALL.out]
                  try rw [HALL.out] at HF
                  have hbox2 := (hb2.block w.heap.size hlt1).trans HX1.out
                  clear q0 q1 q2 q3 q4
                  obtain ⟨q0, q1, q2, q3, q4⟩ := box_cells hbox2
                  have HP2 := Lib.hid (HP1.out.old HG1.out hb2)
                  have HB2 := Lib.hid (HB1.out.trans (hb2.mono HB1.out.size))
                  clear hb2 hbox2
                  go_wp2_with fail
                  obtain ⟨kk, kt, ko, kkids, kcm, krest, rfl⟩ := pts_cons HKL.out
                  obtain ⟨kb, koff, kA, kc, rfl, hkG, kc0, kc1, kc2, kc3, kc4, _⟩ := HP2.out
                  simp only [Nat.zero_mul, Nat.add_zero] at kc0 kc1
                  clear kc2 kc3 kc4 kl0 hkG
                  have hlz : (0 : Int) < ((Pts.cons kk kt ko kkids kcm krest).len : Int) := by simp only [Pts.len]; omega
                  cases hkn : (kk != 1)
                  · obtain rfl : kk = 1 := by simpa using hkn
                    clear hkn
                    have HF := Lib.hid (show paramB t.toList (⟨#[37]⟩ : ByteArray).toList (Pts.cons 1 kt ko kkids kcm krest).len (Pts.cons 1 kt ko kkids kcm krest).headK (Pts.cons 1 kt ko kkids kcm krest).headT true = (!(hd0 kt.toList == 37)) by unfold paramB; rw [HNN.out, show (⟨#[37]⟩ : ByteArray).toList = [37] from list_mk [37], HOP'.out]; simp only [h35, Pts.headK, Pts.headT, Pts.len, show hd0 [37] = 37 from rfl]; simp; intro h; omega)
                    go_wp2_with fail
                    go_quiet ((go_at_call 49; exact Calls.quiet_of_same (hasPre37 kt _)))
                    go_wp2
                    go_ret
                    exact ⟨by rw [HF.out]; rfl, belowN (HW0.out.trans (HB2.out.mono HW0.out.size)) _⟩
                  · have HF := Lib.hid (show paramB t.toList (⟨#[37]⟩ : ByteArray).toList (Pts.cons kk kt ko kkids kcm krest).len (Pts.cons kk kt ko kkids kcm krest).headK (Pts.cons kk kt ko kkids kcm krest).headT true = true by unfold paramB; rw [HNN.out, show (⟨#[37]⟩ : ByteArray).toList = [37] from list_mk [37], HOP'.out]; simp only [h35, Pts.headK, hkn]; simp)
                    go_wp2_with fail
                    go_quiet (fail)
                    go_wp2
                    go_ret
                    exact ⟨by rw [HF.out]; rfl, belowN (HW0.out.trans (HB2.out.mono HW0.out.size)) _⟩
                · have HF := Lib.hid (show paramB t.toList (⟨#[37]⟩ : ByteArray).toList kids.len kids.headK kids.headT (kids.allP 2 none) = true by unfold paramB; rw [hnm]; rw [show (⟨#[37]⟩ : ByteArray).toList = [37] from list_mk [37]] at hop ⊢; simp [show opB [37] = true from rfl, h35, hall, kl0])
                  have HOP := Lib.hid hop; have HALL := Lib.hid hall; clear hop hall o0b o1b o0c hnm
                  go_enter Try.func35, Try.ntmps35
                  go_wp2_with fail
                  refine (named_p t _ (by have := HT.out; omega)).mono ?_
                  rintro e w1 ⟨rfl, hb1⟩
                  rw [HNM.out]
                  have hbox1 := (hb1.block w.heap.size (by simp)).trans HBX.out
                  obtain ⟨q0, q1, q2, q3, q4⟩ := box_cells hbox1
                  have HP1 := Lib.hid (HP.out.old HG0.out hb1)
                  have HG1 := Lib.hid (show ∀ g, G g → g < w1.heap.size from fun g hg => Nat.lt_of_lt_of_le (HG0.out g hg) hb1.size)
                  have hlt1 : w.heap.size < w1.heap.size := (Array.getElem?_eq_some_iff.1 hbox1).1
                  have HX1 := Lib.hid hbox1
                  have HB1 := Lib.hid hb1
                  clear hb1 hbox1
                  go_wp2_with fail
                  refine (operator_p _ _).mono ?_
                  rintro e w3 ⟨rfl, rfl⟩
                  rw [HOP.out]
                  go_wp2_with fail
                  refine (HIH.out 2 kids A c G _ (by omega) hd hwt HG1.out HP1.out).mono ?_
                  rintro e w2 ⟨rfl, hb2⟩
                  rw [HALL.out]
                  try rw [HALL.out] at HF
                  have hbox2 := (hb2.block w.heap.size hlt1).trans HX1.out
                  clear q0 q1 q2 q3 q4
                  obtain ⟨q0, q1, q2, q3, q4⟩ := box_cells hbox2
                  have HP2 := Lib.hid (HP1.out.old HG1.out hb2)
                  have HB2 := Lib.hid (HB1.out.trans (hb2.mono HB1.out.size))
                  clear hb2 hbox2
                  go_wp2
                  go_ret
                  exact ⟨by rw [HF.out]; rfl, (HW0.out.trans (HB2.out.mono HW0.out.size))⟩
              · by_cases o3 : o = ⟨#[35]⟩
                · subst o3
                  cases kl0 : ((kids.len : Int) == 0)
                  · have HOP' := Lib.hid (show opB [35] = true from rfl)
                    have HNN := Lib.hid hnm
                    have HOP := Lib.hid hop; have HALL := Lib.hid hall; clear hop hall o0b o1b o0c hnm
                    have HKL := Lib.hid kl0
                    go_enter Try.func35, Try.ntmps35
                    go_wp2_with fail
                    refine (named_p t _ (by have := HT.out; omega)).mono ?_
                    rintro e w1 ⟨rfl, hb1⟩
                    rw [HNM.out]
                    have hbox1 := (hb1.block w.heap.size (by simp)).trans HBX.out
                    obtain ⟨q0, q1, q2, q3, q4⟩ := box_cells hbox1
                    have HP1 := Lib.hid (HP.out.old HG0.out hb1)
                    have HG1 := Lib.hid (show ∀ g, G g → g < w1.heap.size from fun g hg => Nat.lt_of_lt_of_le (HG0.out g hg) hb1.size)
                    have hlt1 : w.heap.size < w1.heap.size := (Array.getElem?_eq_some_iff.1 hbox1).1
                    have HX1 := Lib.hid hbox1
                    have HB1 := Lib.hid hb1
                    clear hb1 hbox1
                    go_wp2_with fail
                    refine (operator_p _ _).mono ?_
                    rintro e w3 ⟨rfl, rfl⟩
                    rw [HOP.out]
                    go_wp2_with fail
                    refine (HIH.out 2 kids A c G _ (by omega) hd hwt HG1.out HP1.out).mono ?_
                    rintro e w2 ⟨rfl, hb2⟩
                    rw [HALL.out]
                    try rw [HALL.out] at HF
                    have hbox2 := (hb2.block w.heap.size hlt1).trans HX1.out
                    clear q0 q1 q2 q3 q4
                    obtain ⟨q0, q1, q2, q3, q4⟩ := box_cells hbox2
                    have HP2 := Lib.hid (HP1.out.old HG1.out hb2)
                    have HB2 := Lib.hid (HB1.out.trans (hb2.mono HB1.out.size))
                    clear hb2 hbox2
                    go_wp2_with fail
                    obtain ⟨kk, kt, ko, kkids, kcm, krest, rfl⟩ := pts_cons HKL.out
                    obtain ⟨kb, koff, kA, kc, rfl, hkG, kc0, kc1, kc2, kc3, kc4, _⟩ := HP2.out
                    simp only [Nat.zero_mul, Nat.add_zero] at kc0 kc1
                    clear kc2 kc3 kc4 kl0 hkG
                    have hlz : (0 : Int) < ((Pts.cons kk kt ko kkids kcm krest).len : Int) := by simp only [Pts.len]; omega
                    cases hkn : (kk != 1)
                    · obtain rfl : kk = 1 := by simpa using hkn
                      clear hkn
                      have HF := Lib.hid (show paramB t.toList (⟨#[35]⟩ : ByteArray).toList (Pts.cons 1 kt ko kkids kcm krest).len (Pts.cons 1 kt ko kkids kcm krest).headK (Pts.cons 1 kt ko kkids kcm krest).headT true = (!(hd0 kt.toList == 35)) by unfold paramB; rw [HNN.out, show (⟨#[35]⟩ : ByteArray).toList = [35] from list_mk [35], HOP'.out]; simp only [h35, Pts.headK, Pts.headT, Pts.len, show hd0 [35] = 35 from rfl]; simp; intro h; omega)
                      go_wp2_with fail
                      go_quiet ((go_at_call 49; exact Calls.quiet_of_same (hasPre35 kt _)))
                      go_wp2
                      go_ret
                      exact ⟨by rw [HF.out]; rfl, belowN (HW0.out.trans (HB2.out.mono HW0.out.size)) _⟩
                    · have HF := Lib.hid (show paramB t.toList (⟨#[35]⟩ : ByteArray).toList (Pts.cons kk kt ko kkids kcm krest).len (Pts.cons kk kt ko kkids kcm krest).headK (Pts.cons kk kt ko kkids kcm krest).headT true = true by unfold paramB; rw [HNN.out, show (⟨#[35]⟩ : ByteArray).toList = [35] from list_mk [35], HOP'.out]; simp only [h35, Pts.headK, hkn]; simp)
                      go_wp2_with fail
                      go_quiet (fail)
                      go_wp2
                      go_ret
                      exact ⟨by rw [HF.out]; rfl, belowN (HW0.out.trans (HB2.out.mono HW0.out.size)) _⟩
                  · have HF := Lib.hid (show paramB t.toList (⟨#[35]⟩ : ByteArray).toList kids.len kids.headK kids.headT (kids.allP 2 none) = true by unfold paramB; rw [hnm]; rw [show (⟨#[35]⟩ : ByteArray).toList = [35] from list_mk [35]] at hop ⊢; simp [show opB [35] = true from rfl, h35, hall, kl0])
                    have HOP := Lib.hid hop; have HALL := Lib.hid hall; clear hop hall o0b o1b o0c hnm
                    go_enter Try.func35, Try.ntmps35
                    go_wp2_with fail
                    refine (named_p t _ (by have := HT.out; omega)).mono ?_
                    rintro e w1 ⟨rfl, hb1⟩
                    rw [HNM.out]
                    have hbox1 := (hb1.block w.heap.size (by simp)).trans HBX.out
                    obtain ⟨q0, q1, q2, q3, q4⟩ := box_cells hbox1
                    have HP1 := Lib.hid (HP.out.old HG0.out hb1)
                    have HG1 := Lib.hid (show ∀ g, G g → g < w1.heap.size from fun g hg => Nat.lt_of_lt_of_le (HG0.out g hg) hb1.size)
                    have hlt1 : w.heap.size < w1.heap.size := (Array.getElem?_eq_some_iff.1 hbox1).1
                    have HX1 := Lib.hid hbox1
                    have HB1 := Lib.hid hb1
                    clear hb1 hbox1
                    go_wp2_with fail
                    refine (operator_p _ _).mono ?_
                    rintro e w3 ⟨rfl, rfl⟩
                    rw [HOP.out]
                    go_wp2_with fail
                    refine (HIH.out 2 kids A c G _ (by omega) hd hwt HG1.out HP1.out).mono ?_
                    rintro e w2 ⟨rfl, hb2⟩
                    rw [HALL.out]
                    try rw [HALL.out] at HF
                    have hbox2 := (hb2.block w.heap.size hlt1).trans HX1.out
                    clear q0 q1 q2 q3 q4
                    obtain ⟨q0, q1, q2, q3, q4⟩ := box_cells hbox2
                    have HP2 := Lib.hid (HP1.out.old HG1.out hb2)
                    have HB2 := Lib.hid (HB1.out.trans (hb2.mono HB1.out.size))
                    clear hb2 hbox2
                    go_wp2
                    go_ret
                    exact ⟨by rw [HF.out]; rfl, (HW0.out.trans (HB2.out.mono HW0.out.size))⟩
                · have o2b : (o.toList == [37]) = false := beq_eq_false_iff_ne.2 fun e => o2 (ext_list (by rw [e]; exact (list_mk [37]).symm))
                  have o3b : (o.toList == [35]) = false := beq_eq_false_iff_ne.2 fun e => o3 (ext_list (by rw [e]; exact (list_mk [35]).symm))
                  have o2c : (!(o.toList == [37])) = true := by rw [o2b]; rfl
                  have o3c : (!(o.toList == [35])) = true := by rw [o3b]; rfl
                  have HF := Lib.hid (show paramB t.toList o.toList kids.len kids.headK kids.headT (kids.allP 2 none) = true by unfold paramB; rw [hnm]; simp [o0c, o1b, hop, h35, hall, o2b, o3b])
                  have HOP := Lib.hid hop; have HALL := Lib.hid hall; clear hop hall o0c hnm
                  go_enter Try.func35, Try.ntmps35
                  go_wp2_with fail
                  refine (named_p t _ (by have := HT.out; omega)).mono ?_
                  rintro e w1 ⟨rfl, hb1⟩
                  rw [HNM.out]
                  have hbox1 := (hb1.block w.heap.size (by simp)).trans HBX.out
                  obtain ⟨q0, q1, q2, q3, q4⟩ := box_cells hbox1
                  have HP1 := Lib.hid (HP.out.old HG0.out hb1)
                  have HG1 := Lib.hid (show ∀ g, G g → g < w1.heap.size from fun g hg => Nat.lt_of_lt_of_le (HG0.out g hg) hb1.size)
                  have hlt1 : w.heap.size < w1.heap.size := (Array.getElem?_eq_some_iff.1 hbox1).1
                  have HX1 := Lib.hid hbox1
                  have HB1 := Lib.hid hb1
                  clear hb1 hbox1
                  go_wp2_with fail
                  refine (operator_p _ _).mono ?_
                  rintro e w3 ⟨rfl, rfl⟩
                  rw [HOP.out]
                  go_wp2_with fail
                  refine (HIH.out 2 kids A c G _ (by omega) hd hwt HG1.out HP1.out).mono ?_
                  rintro e w2 ⟨rfl, hb2⟩
                  rw [HALL.out]
                  try rw [HALL.out] at HF
                  have hbox2 := (hb2.block w.heap.size hlt1).trans HX1.out
                  clear q0 q1 q2 q3 q4
                  obtain ⟨q0, q1, q2, q3, q4⟩ := box_cells hbox2
                  have HP2 := Lib.hid (HP1.out.old HG1.out hb2)
                  have HB2 := Lib.hid (HB1.out.trans (hb2.mono HB1.out.size))
                  clear hb2 hbox2
                  go_wp2
                  go_ret
                  exact ⟨by rw [HF.out]; rfl, (HW0.out.trans (HB2.out.mono HW0.out.size))⟩
        · have HF := Lib.hid (show paramB t.toList o.toList kids.len kids.headK kids.headT (kids.allP 2 none) = false by unfold paramB; rw [hnm]; simp [o0c, o1b, h35])
          clear o0c hd hwt hnm
          go_enter Try.func35, Try.ntmps35
          go_wp2_with fail
          refine (named_p t _ (by have := HT.out; omega)).mono ?_
          rintro e w1 ⟨rfl, hb1⟩
          rw [HNM.out]
          have hbox1 := (hb1.block w.heap.size (by simp)).trans HBX.out
          obtain ⟨q0, q1, q2, q3, q4⟩ := box_cells hbox1
          have HP1 := Lib.hid (HP.out.old HG0.out hb1)
          have HG1 := Lib.hid (show ∀ g, G g → g < w1.heap.size from fun g hg => Nat.lt_of_lt_of_le (HG0.out g hg) hb1.size)
          have hlt1 : w.heap.size < w1.heap.size := (Array.getElem?_eq_some_iff.1 hbox1).1
          have HX1 := Lib.hid hbox1
          have HB1 := Lib.hid hb1
          clear hb1 hbox1
          go_wp2
          go_ret
          exact ⟨by rw [HF.out]; rfl, (HW0.out.trans (HB1.out.mono HW0.out.size))⟩

end Go.Proofs.Ytjpopekmbmcggaa
