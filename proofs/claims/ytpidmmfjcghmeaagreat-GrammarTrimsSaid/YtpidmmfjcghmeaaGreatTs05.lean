/- Texts in one: GtQuote, GtQuote2, GtRef6, GtRef7. -/
import Derived.Test.YtpidmmfjcghmeaaGreatTs04
import Derived.Test.YtpidmmfjcghmeaaGreatTs02
namespace Go.Proofs.YtpidmmfjcghmeaaGreat
open Go.RowKit

def insN (c : Nat) : Bool := decide (33 ≤ c) && decide (c ≤ 126) && !(c == 39)
/-- How many bytes at the head are so. -/
def spanN (p : Nat → Bool) (l : List UInt8) : Nat := (l.takeWhile fun b => p b.toNat).length
theorem spanN_le (p : Nat → Bool) (l : List UInt8) : spanN p l ≤ l.length := List.IsPrefix.length_le (List.takeWhile_prefix _)
theorem spanN_step (p : Nat → Bool) (s : ByteArray) (n : Nat) (h : n < s.size) : spanN p (s.toList.drop n) = if p s[n].toNat then 1 + spanN p (s.toList.drop (n + 1)) else 0 := by
  have hl : n < s.toList.length := by rw [← size_list]; exact h
  unfold spanN
  rw [List.drop_eq_getElem_cons hl, List.takeWhile_cons, get_list s n h]
  split
  · rw [List.length_cons]; omega
  · rfl
theorem spanN_end (p : Nat → Bool) (s : ByteArray) (n : Nat) (h : s.size ≤ n) : spanN p (s.toList.drop n) = 0 := by
  rw [List.drop_eq_nil_of_le (by rw [← size_list]; exact h)]
  rfl
def quotedB (l : List UInt8) : Bool :=
  l[0]? == some 39 && decide (1 ≤ spanN insN (l.drop 1)) && l[spanN insN (l.drop 1) + 1]? == some 39 && decide (spanN insN (l.drop 1) + 2 ≤ 24) && decide (spanN insN (l.drop 1) + 2 = l.length)
theorem byte_is (s : ByteArray) (n : Nat) (h : n < s.size) (c : UInt8) : (s.toList[n]? == some c) = (s[n].toNat == c.toNat) := by
  rw [get?_list s n h]
  by_cases hc : s[n] = c
  · rw [hc]; simp
  · rw [beq_eq_false_iff_ne.2 (fun e => hc (Option.some.inj e)), beq_eq_false_iff_ne.2 (fun e => hc (UInt8.toNat_inj.1 e))]

set_option maxRecDepth 100000 in
set_option maxHeartbeats 4000000 in
theorem inside_r (c : Nat) (w : World) :
    Calls Tryz.prog 209 #[.int .u8 c] w fun e w' => e = .returned (.bool (insN c)) ∧ w' = w := by
  have HT := Lib.hid (show insN c = (decide (33 ≤ c) && decide (c ≤ 126) && !(c == 39)) from rfl)
  go_enter Tryz.func209, Tryz.ntmps209
  by_cases h1 : 33 ≤ c
  · by_cases h2 : c ≤ 126
    · go_wp2_with fail
      go_ret
      exact ⟨ret_bool (by rw [HT.out, decide_eq_true (show 33 ≤ c by omega), decide_eq_true (show c ≤ 126 by omega)]; exact ne_cast c 39), rfl⟩
    · go_wp2_with fail
      go_ret
      exact ⟨by first | (simp [HT.out]; omega) | (rw [HT.out]; simp; omega), rfl⟩
  · go_wp2_with fail
    go_ret
    exact ⟨by first | (simp [HT.out]; omega) | (rw [HT.out]; simp; omega), rfl⟩

set_option maxRecDepth 100000 in
set_option maxHeartbeats 4000000 in
theorem inside_p (c : Nat) (w : World) :
    Calls Tryz.prog 214 #[.int .u8 c] w fun e w' => e = .returned (.bool (insN c)) ∧ w' = w := by
  have HT := Lib.hid (show insN c = (decide (33 ≤ c) && decide (c ≤ 126) && !(c == 39)) from rfl)
  go_enter Tryz.func214, Tryz.ntmps214
  by_cases h1 : 33 ≤ c
  · by_cases h2 : c ≤ 126
    · go_wp2_with fail
      go_ret
      exact ⟨ret_bool (by rw [HT.out, decide_eq_true (show 33 ≤ c by omega), decide_eq_true (show c ≤ 126 by omega)]; exact ne_cast c 39), rfl⟩
    · go_wp2_with fail
      go_ret
      exact ⟨by first | (simp [HT.out]; omega) | (rw [HT.out]; simp; omega), rfl⟩
  · go_wp2_with fail
    go_ret
    exact ⟨by first | (simp [HT.out]; omega) | (rw [HT.out]; simp; omega), rfl⟩

set_option maxRecDepth 100000 in
set_option maxHeartbeats 4000000 in
theorem quoted_r (s : ByteArray) (w : World) (hm : s.size ≤ 9223372036854775800) (h0 : 0 < s.size) (h39 : s[0].toNat = 39) :
    Calls Tryz.prog 138 #[.string s, .int .i64 0] w fun e w' => (∃ n e1 e2 : Int, e = .returned (.tuple #[.int .i64 n, .agg #[.int .i64 e1, .int .i64 e2]]) ∧ (decide (e1 = 0) && decide (n = s.size)) = quotedB s.toList) ∧ Below w.heap.size w w' := by
  have hb : Below w.heap.size w (w.alloc (.cells #[.int .i64 0, .int .i64 0] 233)) := (Below.refl _ _).alloc (Nat.le_refl _) _
  have q := heap_alloc_t w (.cells #[.int .i64 0, .int .i64 0] 233)
  generalize hW : w.alloc (.cells #[.int .i64 0, .int .i64 0] 233) = W at *
  have y0 := cell_box q 0 _ rfl; have y1 := cell_box q 1 _ rfl
  have f0 : ∀ j, W.frozen? ⟨w.heap.size, j, none⟩ = false := fun j => by simp [World.frozen?, q]
  have HQ := Lib.hid (show quotedB s.toList = (decide (1 ≤ spanN insN (s.toList.drop 1)) && s.toList[spanN insN (s.toList.drop 1) + 1]? == some 39 && decide (spanN insN (s.toList.drop 1) + 2 ≤ 24) && decide (spanN insN (s.toList.drop 1) + 2 = s.size)) by
    unfold quotedB
    rw [byte_is s 0 h0, h39, ← size_list]
    rfl)
  have HB := Lib.hid hb
  have HS := Lib.hid (show ∀ a b : Int, (((W.setCell ⟨w.heap.size, 0, none⟩ (.int .i64 a)).setCell ⟨w.heap.size, 1, none⟩ (.int .i64 b)).cell? ⟨w.heap.size, 0, none⟩ = some (.int .i64 a) ∧ ((W.setCell ⟨w.heap.size, 0, none⟩ (.int .i64 a)).setCell ⟨w.heap.size, 1, none⟩ (.int .i64 b)).cell? ⟨w.heap.size, 1, none⟩ = some (.int .i64 b)) ∧ Below w.heap.size w ((W.setCell ⟨w.heap.size, 0, none⟩ (.int .i64 a)).setCell ⟨w.heap.size, 1, none⟩ (.int .i64 b)) from fun a b =>
    ⟨⟨by simp [World.cell?, World.setCell, Array.getElem?_modify, q], by simp [World.cell?, World.setCell, Array.getElem?_modify, q]⟩, (hb.setCell (Nat.le_refl _) _).setCell (Nat.le_refl _) _⟩)
  clear hb q
  have hsp := spanN_le insN (s.toList.drop 1)
  rw [List.length_drop, ← size_list] at hsp
  generalize hT : spanN insN (s.toList.drop 1) = t at HQ hsp
  have HT := Lib.hid hT
  clear hT h39
  go_enter Tryz.func138, Tryz.ntmps138
  go_wp2
  go_loopw [6] (fun i wr => ∃ (n : Nat), 1 ≤ n ∧ n ≤ s.size ∧ i = .int .i64 n ∧ n + spanN insN (s.toList.drop n) = 1 + t ∧ wr = W) (fun i _ => s.size - (intOf i).toNat)
  case atStart => exact ⟨1, by omega, by omega, rfl, by rw [HT.out], rfl⟩
  case round =>
    obtain ⟨n, hn1, hn, rfl, hi, rfl⟩ := hrel
    by_cases hlt : n < s.size
    · have hst := spanN_step insN s n hlt
      have hbl := byte_lt s n hlt
      cases hin : insN s[n].toNat
      · rw [hin, if_neg (by decide)] at hst
        have hnt : n = t + 1 := by omega
        have HQn := Lib.hid (show quotedB s.toList = (decide (2 ≤ n) && (s[n].toNat == 39) && decide (n + 1 ≤ 24) && decide (n + 1 = s.size)) by
          rw [HQ.out, ← hnt, byte_is s n hlt, show t + 2 = n + 1 by omega]
          congr 3
          rw [Bool.eq_iff_iff, decide_eq_true_iff, decide_eq_true_iff]
          omega)
        have HI := Lib.hid (inside_r s[n].toNat)
        rw [hin] at HI
        clear hst hnt hi hin
        have e39 : ((s[n].toNat : Int) != 39) = (s[n].toNat != 39) := ne_cast _ 39
        cases hc : s[n].toNat != 39
        · rw [hc] at e39
          have hcc := Lib.hid (show (s[n].toNat == 39) = true by simpa using hc)
          clear hc
          by_cases hn2 : n = 1
          · subst hn2
            have hF := Lib.hid (show (decide ((2 : Int) = 0) && decide ((0 : Int) = s.size)) = quotedB s.toList by
              rw [HQn.out]
              simp)
            obtain ⟨⟨r0, r1⟩, r2⟩ := HS.out 2 1
            go_wp2_with (go_at_call 209; refine (HI.out _).mono ?_; rintro e w' ⟨rfl, rfl⟩)
            refine bodyPost_ret (v := .tuple #[.int .i64 (0), .agg #[.int .i64 2, .int .i64 1]]) (by simp [results, Tryz.results138, go_sem, r0, r1]) rfl ?_
            exact ⟨⟨0, 2, 1, rfl, hF.out⟩, r2⟩
          · by_cases hn3 : 24 < n + 1
            · have hn4 : (24 : Int) < (n : Int) + 1 := by omega
              have hF := Lib.hid (show (decide ((5 : Int) = 0) && decide ((0 : Int) = s.size)) = quotedB s.toList by
                rw [HQn.out, decide_eq_false (show ¬ n + 1 ≤ 24 by omega)]
                simp)
              obtain ⟨⟨r0, r1⟩, r2⟩ := HS.out 5 0
              go_wp2_with (go_at_call 209; refine (HI.out _).mono ?_; rintro e w' ⟨rfl, rfl⟩)
              refine bodyPost_ret (v := .tuple #[.int .i64 (0), .agg #[.int .i64 5, .int .i64 0]]) (by simp [results, Tryz.results138, go_sem, r0, r1]) rfl ?_
              exact ⟨⟨0, 5, 0, rfl, hF.out⟩, r2⟩
            · have hn4 : ¬ (24 : Int) < (n : Int) + 1 := by omega
              have hF := Lib.hid (show (decide ((0 : Int) = 0) && decide (((n : Int) + 1 : Int) = s.size)) = quotedB s.toList by
                rw [HQn.out, decide_eq_true (show 2 ≤ n by omega), decide_eq_true (show n + 1 ≤ 24 by omega), hcc.out]
                rw [Bool.eq_iff_iff]
                simp
                omega)
              obtain ⟨⟨r0, r1⟩, r2⟩ := HS.out 0 0
              go_wp2_with (go_at_call 209; refine (HI.out _).mono ?_; rintro e w' ⟨rfl, rfl⟩)
              refine bodyPost_ret (v := .tuple #[.int .i64 ((n : Int) + 1), .agg #[.int .i64 0, .int .i64 0]]) (by simp [results, Tryz.results138, go_sem, r0, r1]) rfl ?_
              exact ⟨⟨(n : Int) + 1, 0, 0, rfl, hF.out⟩, r2⟩
        · rw [hc] at e39
          have hF := Lib.hid (show (decide ((2 : Int) = 0) && decide ((0 : Int) = s.size)) = quotedB s.toList by
            rw [HQn.out, beq_eq_false_iff_ne.2 (by simpa using hc)]
            simp)
          obtain ⟨⟨r0, r1⟩, r2⟩ := HS.out 2 (n : Int)
          clear hc
          go_wp2_with (go_at_call 209; refine (HI.out _).mono ?_; rintro e w' ⟨rfl, rfl⟩)
          refine bodyPost_ret (v := .tuple #[.int .i64 0, .agg #[.int .i64 2, .int .i64 n]]) (by simp [results, Tryz.results138, go_sem, r0, r1]) rfl ?_
          exact ⟨⟨0, 2, n, rfl, hF.out⟩, r2⟩
      · rw [hin, if_pos rfl] at hst
        have HI := Lib.hid (inside_r s[n].toNat)
        rw [hin] at HI
        have HN := Lib.hid (show n + 1 + spanN insN (s.toList.drop (n + 1)) = 1 + t by omega)
        clear hst hi hin
        go_wp2_with (go_at_call 209; refine (HI.out _).mono ?_; rintro e w' ⟨rfl, rfl⟩)
        go_roundw
        case rel => exact ⟨n + 1, by omega, by omega, by go_num, HN.out, by first | rfl | trivial⟩
        case measure => simp only [intOf]; omega
    · have hz := spanN_end insN s n (by omega)
      have hF := Lib.hid (show (decide ((4 : Int) = 0) && decide ((0 : Int) = s.size)) = quotedB s.toList by
        have ht : t + 2 ≠ s.size := by omega
        rw [HQ.out, decide_eq_false ht]
        simp)
      obtain ⟨⟨r0, r1⟩, r2⟩ := HS.out 4 s.size
      clear hi hz
      go_wp2_with fail
      refine bodyPost_ret (v := .tuple #[.int .i64 (0), .agg #[.int .i64 4, .int .i64 s.size]]) (by simp [results, Tryz.results138, go_sem, r0, r1]) rfl ?_
      exact ⟨⟨0, 4, s.size, rfl, hF.out⟩, r2⟩
end Go.Proofs.YtpidmmfjcghmeaaGreat
namespace Go.Proofs.YtpidmmfjcghmeaaGreat
open Go.RowKit

theorem quotedB_nil : quotedB [] = false := rfl
theorem quotedB_ne (s : ByteArray) (h0 : 0 < s.size) (h : (s[0].toNat != 39) = true) : quotedB s.toList = false := by
  unfold quotedB
  rw [byte_is s 0 h0, beq_eq_false_iff_ne.2 (by simpa using h)]
  rfl
theorem nil_of_size (s : ByteArray) (h : s.size = 0) : s.toList = [] := List.eq_nil_of_length_eq_zero (by rw [← size_list]; exact h)

set_option maxRecDepth 100000 in
set_option maxHeartbeats 4000000 in
theorem Quoted_r (s : ByteArray) (w : World) (hm : s.size ≤ 9223372036854775800) :
    Calls Tryz.prog 72 #[.string s] w fun e w' => e = .returned (.bool (quotedB s.toList)) ∧ Below w.heap.size w w' := by
  by_cases h0 : s.size = 0
  · have hE : s.toList.isEmpty = true := by rw [empty_size]; exact decide_eq_true h0
    have hq := Lib.hid (show quotedB s.toList = false by rw [nil_of_size s h0, quotedB_nil])
    clear h0
    go_enter Tryz.func72, Tryz.ntmps72
    go_wp2_with fail
    go_ret
    exact ⟨by first | (rw [hq.out]; done) | (rw [hq.out]; rfl), Below.refl _ _⟩
  have hp : 0 < s.size := by omega
  have hE : s.toList.isEmpty = false := by rw [empty_size]; exact decide_eq_false h0
  have e39 : ((s[0].toNat : Int) != 39) = (s[0].toNat != 39) := ne_cast _ 39
  cases hc : s[0].toNat != 39
  · rw [hc] at e39
    have HC := Lib.hid (quoted_r s w hm hp (by simpa using hc))
    clear hc h0
    go_enter Tryz.func72, Tryz.ntmps72
    go_wp2_with fail
    refine (HC.out).mono ?_
    rintro e w1 ⟨⟨n, e1, e2, rfl, hq⟩, hb⟩
    have hB := Lib.hid (hb.alloc hb.size (.cells #[.int .i64 e1, .int .i64 e2] 233))
    have HQ := Lib.hid hq
    clear hb hq
    by_cases h1 : e1 = 0
    · subst h1
      by_cases h2 : n = s.size
      · subst h2
        have he := Lib.hid (show quotedB s.toList = true by rw [← HQ.out]; simp)
        go_wp2_with fail
        go_ret
        exact ⟨by first | (rw [he.out]; done) | (rw [he.out]; rfl), hB.out⟩
      · have he := Lib.hid (show quotedB s.toList = false by rw [← HQ.out]; simp [h2])
        have h3 : (n == (s.size : Int)) = false := beq_eq_false_iff_ne.2 h2
        go_wp2_with fail
        go_ret
        exact ⟨by first | (rw [he.out]; done) | (rw [he.out]; rfl), hB.out⟩
    · have he := Lib.hid (show quotedB s.toList = false by rw [← HQ.out]; simp [h1])
      go_wp2_with fail
      go_ret
      exact ⟨by first | (rw [he.out]; done) | (rw [he.out]; rfl), hB.out⟩
  · rw [hc] at e39
    have hq := Lib.hid (quotedB_ne s hp hc)
    clear hc h0
    go_enter Tryz.func72, Tryz.ntmps72
    go_wp2_with fail
    go_ret
    exact ⟨by first | (rw [hq.out]; done) | (rw [hq.out]; rfl), Below.refl _ _⟩

/-- A function value on bytes: the answer p. -/
def BfOk (fn : Nat) (p : Nat → Bool) : Prop := ∀ (c : Nat) (w : World), c < 256 → Calls Tryz.prog fn #[.int .u8 c] w fun e w' => e = .returned (.bool (p c)) ∧ w' = w
def EntersB (fn : Nat) : Prop := ∀ (args : Array Value) (w : World), (callFunc fn args).run Tryz.prog w = .ok (.enter fn args) w
theorem enter_inside : EntersB 214 := fun args w => by simp [callFunc, go_sem, Tryz.func214, Tryz.f214]

set_option maxRecDepth 100000 in
set_option maxHeartbeats 4000000 in
theorem span_p (s : ByteArray) (k : Nat) (fn : Nat) (p : Nat → Bool) (w : World) (hm : s.size ≤ 9223372036854775800) (hk : k ≤ s.size) (hent : EntersB fn) (hf : BfOk fn p) :
    Calls Tryz.prog 179 #[.string s, .int .i64 k, .func (.func fn) #[] #[]] w fun e w' => e = .returned (.int .i64 (spanN p (s.toList.drop k))) ∧ w' = w := by
  have HE := Lib.hid hent; have HF := Lib.hid hf
  have hsp := spanN_le p (s.toList.drop k)
  rw [List.length_drop, ← size_list] at hsp
  generalize hT : spanN p (s.toList.drop k) = t at *
  have HT := Lib.hid hT
  clear hent hf hT
  go_enter Tryz.func179, Tryz.ntmps179
  go_wp2
  go_loopw [7] (fun i wr => ∃ (n : Nat), n ≤ t ∧ i = .int .i64 n ∧ n + spanN p (s.toList.drop (k + n)) = t ∧ wr = w) (fun i _ => t - (intOf i).toNat)
  case atStart => exact ⟨0, by omega, rfl, by rw [Nat.add_zero, HT.out, Nat.zero_add], rfl⟩
  case round =>
    obtain ⟨n, hn, rfl, hi, rfl⟩ := hrel
    by_cases hlt : k + n < s.size
    · have hst := spanN_step p s (k + n) hlt
      have hbl := byte_lt s (k + n) hlt
      have hlt' : (k : Int) + (n : Int) < (s.size : Int) := by omega
      cases hin : p s[k + n].toNat
      · rw [hin, if_neg (by decide)] at hst
        have HN := Lib.hid (show (n : Int) = (t : Int) by omega)
        have HI := Lib.hid (HF.out s[k + n].toNat wr hbl)
        rw [hin] at HI
        clear hst hi hin
        go_wp2_with fail
        rw [HE.out, Oper.upon_enter]
        refine HI.out.mono ?_
        rintro e w' ⟨rfl, rfl⟩
        go_wp2_with fail
        go_ret
        exact ⟨ret_int HN.out, rfl⟩
      · rw [hin, if_pos rfl] at hst
        have HN := Lib.hid (show n + 1 + spanN p (s.toList.drop (k + (n + 1))) = t by rw [← Nat.add_assoc]; omega)
        have hnt : n < t := by omega
        have HI := Lib.hid (HF.out s[k + n].toNat wr hbl)
        rw [hin] at HI
        clear hst hi hin
        go_wp2_with fail
        rw [HE.out, Oper.upon_enter]
        refine HI.out.mono ?_
        rintro e w' ⟨rfl, rfl⟩
        go_wp2_with fail
        go_roundw
        case rel => exact ⟨n + 1, by omega, by go_num, HN.out, by first | rfl | trivial⟩
        case measure => simp only [intOf]; omega
    · have hz := spanN_end p s (k + n) (by omega)
      have HN := Lib.hid (show (n : Int) = (t : Int) by omega)
      clear hi hz
      go_wp2_with fail
      go_ret
      exact ⟨ret_int HN.out, rfl⟩

set_option maxRecDepth 100000 in
set_option maxHeartbeats 4000000 in
theorem quoted_p (s : ByteArray) (w : World) (hm : s.size ≤ 9223372036854775800) (hq : quotedB s.toList = true) :
    Calls Tryz.prog 145 #[.string s, .int .i64 0] w fun e w' => e = .returned (.tuple #[.int .i64 s.size, .nilIface]) ∧ w' = w := by
  unfold quotedB at hq
  simp only [Bool.and_eq_true, decide_eq_true_eq] at hq
  obtain ⟨⟨⟨⟨h1, h2⟩, h3⟩, h4⟩, h5⟩ := hq
  rw [← size_list] at h5
  have h0 : 0 < s.size := by omega
  have HS := Lib.hid (span_p s 1 214 insN w hm (by omega) enter_inside (fun c w _ => inside_p c w))
  generalize spanN insN (s.toList.drop 1) = t at *
  rw [byte_is s (t + 1) (by omega)] at h3
  have e39 : ((s[t + 1].toNat : Int) != 39) = false := (ne_cast _ 39).trans (by simpa using h3)
  have e39' : ((s[1 + t].toNat : Int) != 39) = false := by rw [← e39]; congr 4; omega
  have HE := Lib.hid (show (1 : Int) + (t : Int) + 1 = (s.size : Int) by omega)
  have hlt : ¬ (s.size : Int) ≤ 1 + (t : Int) := by omega
  have hlt2 : ¬ (24 : Int) ≤ 1 + (t : Int) := by omega
  have hsz : 1 + t < s.size := by omega
  have ht1 : ((1 : Int) + (t : Int) == 1) = false := beq_eq_false_iff_ne.2 (by omega)
  clear h1 h3
  go_enter Tryz.func145, Tryz.ntmps145
  go_wp2_with fail
  refine (HS.out).mono ?_
  rintro e w1 ⟨rfl, rfl⟩
  go_wp2_with fail
  refine bodyPost_ret (v := .tuple #[.int .i64 (1 + (t : Int) + 1), .nilIface]) (by simp [results, Tryz.results145, go_sem]) rfl ?_
  exact ⟨by rw [← HE.out], rfl⟩

set_option maxRecDepth 100000 in
set_option maxHeartbeats 4000000 in
theorem Quoted_p (s : ByteArray) (w : World) (hm : s.size ≤ 9223372036854775800) (hq : quotedB s.toList = true) :
    Calls Tryz.prog 79 #[.string s] w fun e w' => e = .returned (.bool true) ∧ w' = w := by
  have HC := Lib.hid (quoted_p s w hm hq)
  have h0 : 0 < s.size := by
    rcases Nat.eq_zero_or_pos s.size with h | h
    · rw [nil_of_size s h, quotedB_nil] at hq
      exact absurd hq (by decide)
    · exact h
  have hE : s.toList.isEmpty = false := by rw [empty_size]; exact decide_eq_false (by omega)
  have e39 : ((s[0].toNat : Int) != 39) = false := (ne_cast _ 39).trans (by
    cases hc : s[0].toNat != 39
    · rfl
    · rw [quotedB_ne s h0 hc] at hq
      exact absurd hq (by decide))
  clear hq
  go_enter Tryz.func79, Tryz.ntmps79
  go_wp2_with fail
  refine (HC.out).mono ?_
  rintro e w1 ⟨rfl, rfl⟩
  go_wp2_with fail
  go_ret
  exact ⟨rfl, rfl⟩
end Go.Proofs.YtpidmmfjcghmeaaGreat
namespace Go.Proofs.YtpidmmfjcghmeaaGreat
open Go.RowKit

/-- Sizes that are looked at in ints without care. -/
structure Gm.Fit (g : Gm) : Prop where
  lt : g.terms.length ≤ 140737488355328
  ln : g.nons.length ≤ 140737488355328
  lr : g.rules.length ≤ 140737488355328
  st : ∀ s ∈ g.terms, s.length ≤ 140737488355328
  sn : ∀ s ∈ g.nons, s.length ≤ 140737488355328
  sr : ∀ r ∈ g.rules, r.2.length ≤ 140737488355328
def nameB (s : List UInt8) : Bool := Chr.name s && decide (s.length ≤ 24)
def termB (s : List UInt8) : Bool := nameB s || quotedB s
def formB (g : Gm) : Bool := g.terms.all termB && g.nons.all nameB
theorem dle (n k : Nat) : decide ((n : Int) ≤ (k : Int)) = decide (n ≤ k) := by rw [Bool.eq_iff_iff, decide_eq_true_iff, decide_eq_true_iff]; omega

set_option maxRecDepth 100000 in
set_option maxHeartbeats 4000000 in
theorem plain_r6 (s : List UInt8) (w : World) (hm : s.length ≤ 9223372036854775800) :
    Calls Tryz.prog 71 #[bs s] w fun e w' => e = .returned (.bool (nameB s)) ∧ w' = w := by
  have HC := Lib.hid (name_r ⟨s.toArray⟩ w (by rw [size_list, list_mk]; omega))
  rw [list_mk] at HC
  unfold bs
  have HD := Lib.hid (show nameB s = (Chr.name s && decide (s.length ≤ 24)) from rfl)
  have hd := Lib.hid (dle s.length 24)
  generalize Chr.name s = d at HC HD
  go_enter Tryz.func71, Tryz.ntmps71
  go_wp2_with fail
  refine (HC.out).mono ?_
  rintro e w1 ⟨rfl, rfl⟩
  cases d
  · go_wp2_with fail
    go_ret
    exact ⟨by first | rfl | (rw [HD.out]; rfl), rfl⟩
  · go_wp2_with fail
    go_ret
    exact ⟨ret_bool (by rw [HD.out, ← hd.out, Bool.true_and]; rfl), rfl⟩

set_option maxRecDepth 100000 in
set_option maxHeartbeats 4000000 in
theorem form_r (G : Nat → Prop) (w : World) (vs : List Value) (g : Gm) (hG : ∀ k, G k → k < w.heap.size) (hg : GmV G w vs g) (hf : g.Fit):
    Calls Tryz.prog 24 #[ag vs] w fun e w' => e = .returned (.bool (formB g)) ∧ Below w.heap.size w w' := by
  obtain ⟨A0, c0, A1, c1, A2, c2, rfl, hb, hx⟩ := GBox.start hG hg
  show Calls Tryz.prog 24 #[.agg #[.slice A0 g.terms.length c0, .slice A1 g.nons.length c1, .slice A2 g.rules.length c2, .int .i64 g.start]] w _
  generalize hW : w.alloc (.cells #[.slice A0 g.terms.length c0, .slice A1 g.nons.length c1, .slice A2 g.rules.length c2, .int .i64 g.start] 25) = W at *
  obtain ⟨x0, x1, x2, x3⟩ := hx.cells
  have HB := Lib.hid hb; have HX := Lib.hid hx
  clear hb hx hG hg
  have HF := Lib.hid hf
  have hl1 := hf.lt; have hl2 := hf.ln
  clear hf
  go_enter Tryz.func24, Tryz.ntmps24
  go_wp2
  go_loopw [3] (fun i wr => ∃ (k : Nat), k ≤ g.terms.length ∧ i = .int .i64 k ∧ (g.terms.drop k).all termB = g.terms.all termB ∧ Below W.heap.size W wr) (fun i _ => g.terms.length - (intOf i).toNat)
  case atStart => exact ⟨0, by omega, rfl, rfl, Below.refl _ _⟩
  case round =>
    obtain ⟨k, hk, rfl, hi, hb⟩ := hrel
    have HBR := Lib.hid hb
    have HXR := Lib.hid (HX.out.on hb)
    clear x0 x1 x2 x3 hb
    obtain ⟨x0, x1, x2, x3⟩ := HXR.out.cells
    by_cases hlt : k < g.terms.length
    · rw [drop_one _ k hlt, List.all_cons] at hi
      obtain ⟨bb, off, rfl, z0⟩ := HXR.out.term hlt
      have hsz := HF.out.st _ (List.getElem_mem hlt)
      have htb : termB g.terms[k] = (nameB g.terms[k] || quotedB g.terms[k]) := rfl
      rw [htb] at hi
      clear htb
      revert hi z0 hsz
      generalize g.terms[k] = s
      intro hi z0 hsz
      have HP := Lib.hid (fun X => plain_r6 s X (by omega))
      have HQ := Lib.hid (fun X => Quoted_r ⟨s.toArray⟩ X (by rw [size_list, list_mk]; omega))
      rw [list_mk] at HQ
      unfold bs at HP z0
      generalize nameB s = d1 at HP hi
      generalize quotedB s = d2 at HQ hi
      have HI := Lib.hid hi
      clear hi
      go_wp2_with fail
      refine (HP.out _).mono ?_
      rintro e w1 ⟨rfl, rfl⟩
      cases d1
      · go_wp2_with fail
        refine (HQ.out _).mono ?_
        rintro e w1 ⟨rfl, hb1⟩
        have HB1 := Lib.hid (HBR.out.trans (hb1.mono HBR.out.size))
        clear hb1 x0 x1 x2 x3 z0
        cases d2
        · have he := Lib.hid (show formB g = false by unfold formB; rw [← HI.out]; rfl)
          go_wp2_with fail
          go_ret
          exact ⟨by first | (rw [he.out]; done) | (rw [he.out]; rfl), HB.out.trans (HB1.out.mono HB.out.size)⟩
        · go_wp2_with fail
          go_roundw
          case rel => exact ⟨k + 1, by omega, by go_num, HI.out, HB1.out⟩
          case measure => simp only [intOf]; omega
      · go_wp2_with fail
        go_roundw
        case rel => exact ⟨k + 1, by omega, by go_num, HI.out, HBR.out⟩
        case measure => simp only [intOf]; omega
    · have HK := Lib.hid (show formB g = g.nons.all nameB by unfold formB; rw [← hi, List.drop_eq_nil_of_le (by omega)]; rfl)
      clear hi
      go_wp2
      go_loopw [4] (fun i wq => ∃ (j : Nat), j ≤ g.nons.length ∧ i = .int .i64 j ∧ (g.nons.drop j).all nameB = g.nons.all nameB ∧ wq = wr) (fun i _ => g.nons.length - (intOf i).toNat)
      case atStart => exact ⟨0, by omega, rfl, rfl, rfl⟩
      case round =>
        obtain ⟨j, hj, rfl, hi, rfl⟩ := hrel
        by_cases hjl : j < g.nons.length
        · rw [drop_one _ j hjl, List.all_cons] at hi
          obtain ⟨bb, off, rfl, z0⟩ := HXR.out.non hjl
          have hsz := HF.out.sn _ (List.getElem_mem hjl)
          revert hi z0 hsz
          generalize g.nons[j] = s
          intro hi z0 hsz
          have HP := Lib.hid (fun X => plain_r6 s X (by omega))
          unfold bs at HP z0
          generalize nameB s = d1 at HP hi
          have HI := Lib.hid hi
          clear hi
          go_wp2_with fail
          refine (HP.out _).mono ?_
          rintro e w1 ⟨rfl, rfl⟩
          cases d1
          · have he := Lib.hid (show formB g = false by rw [HK.out, ← HI.out]; rfl)
            go_wp2_with fail
            go_ret
            exact ⟨by first | (rw [he.out]; done) | (rw [he.out]; rfl), HB.out.trans (HBR.out.mono HB.out.size)⟩
          · go_wp2_with fail
            go_roundw
            case rel => exact ⟨j + 1, by omega, by go_num, HI.out, by first | rfl | trivial⟩
            case measure => simp only [intOf]; omega
        · have he := Lib.hid (show formB g = true by rw [HK.out, ← hi, List.drop_eq_nil_of_le (by omega)]; rfl)
          go_wp2_with fail
          go_ret
          exact ⟨by first | (rw [he.out]; done) | (rw [he.out]; rfl), HB.out.trans (HBR.out.mono HB.out.size)⟩
end Go.Proofs.YtpidmmfjcghmeaaGreat
namespace Go.Proofs.YtpidmmfjcghmeaaGreat
open Go.RowKit

/-- A grammar that may be. -/
abbrev GW (g : Gm) : Prop := Gm.Wf (fun s => termB s = true) (fun s => nameB s = true) 120 120 300 8 g
def manyB (g : Gm) : Bool := g.rules.any (fun r => decide (8 < r.2.length)) || decide (120 < g.terms.length) || decide (120 < g.nons.length) || decide (300 < g.rules.length)
theorem manyB_iff (g : Gm) : manyB g = false ↔ g.terms.length ≤ 120 ∧ g.nons.length ≤ 120 ∧ g.rules.length ≤ 300 ∧ ∀ r ∈ g.rules, r.2.length ≤ 8 := by
  unfold manyB
  simp only [Bool.or_eq_false_iff, decide_eq_false_iff_not, List.any_eq_false, decide_eq_true_eq]
  constructor
  · rintro ⟨⟨⟨h1, h2⟩, h3⟩, h4⟩
    exact ⟨by omega, by omega, by omega, fun r hr => by have := h1 r hr; omega⟩
  · rintro ⟨h1, h2, h3, h4⟩
    exact ⟨⟨⟨fun r hr => by have := h4 r hr; omega, by omega⟩, by omega⟩, by omega⟩
theorem GW_iff (g : Gm) : GW g ↔ manyB g = false ∧ formB g = true ∧ g.names.Nodup ∧ knownB g = true ∧ g.rules.Nodup ∧ ∀ i : Nat, i < g.nons.length → ofR ((g.terms.length : Int) + 1 + i) g.rules 0 ≠ [] := by
  rw [manyB_iff, knownB_iff]
  unfold formB
  rw [Bool.and_eq_true, List.all_eq_true, List.all_eq_true]
  have key : (∀ i : Nat, i < g.nons.length → ofR ((g.terms.length : Int) + 1 + i) g.rules 0 ≠ []) ↔ ∀ s, g.N s → ∃ r ∈ g.rules, r.1 = s := by
    constructor
    · intro h s hs
      unfold Gm.N Gm.top at hs
      have h1 := h (s - g.terms.length - 1).toNat (by omega)
      rw [show (g.terms.length : Int) + 1 + ((s - g.terms.length - 1).toNat : Int) = s by omega, Ne, ofR_nil] at h1
      exact Classical.byContradiction fun hn => h1 fun r hr e => hn ⟨r, hr, e⟩
    · intro h i hi hn
      rw [ofR_nil] at hn
      obtain ⟨r, hr, e⟩ := h ((g.terms.length : Int) + 1 + i) (by unfold Gm.N Gm.top; omega)
      exact hn r hr e
  rw [key]
  constructor
  · intro h
    exact ⟨⟨h.lt, h.ln, h.lr, h.lx⟩, ⟨h.ft, h.fn⟩, h.nd, h.kn, h.ul, h.has⟩
  · rintro ⟨⟨h1, h2, h3, h4⟩, ⟨h5, h6⟩, h7, h8, h9, h10⟩
    exact ⟨h1, h2, h3, h4, h5, h6, h7, h8, h9, h10⟩
theorem ret_int2 {a b : Int} (h : a = b) : Ending.returned (.int .i64 a) = .returned (.int .i64 b) := by rw [h]

set_option maxRecDepth 100000 in
set_option maxHeartbeats 4000000 in
theorem check_r (G : Nat → Prop) (w : World) (vs : List Value) (g : Gm) (hG : ∀ k, G k → k < w.heap.size) (hg : GmV G w vs g) (hf : g.Fit):
    Calls Tryz.prog 7 #[ag vs] w fun e w' => (∃ n : Int, e = .returned (.int .i64 n) ∧ (n = 0 ↔ GW g)) ∧ Below w.heap.size w w' := by
  obtain ⟨A0, c0, A1, c1, A2, c2, rfl, hb, hx⟩ := GBox.start hG hg
  show Calls Tryz.prog 7 #[.agg #[.slice A0 g.terms.length c0, .slice A1 g.nons.length c1, .slice A2 g.rules.length c2, .int .i64 g.start]] w _
  generalize hW : w.alloc (.cells #[.slice A0 g.terms.length c0, .slice A1 g.nons.length c1, .slice A2 g.rules.length c2, .int .i64 g.start] 25) = W at *
  obtain ⟨x0, x1, x2, x3⟩ := hx.cells
  have HB := Lib.hid hb; have HX := Lib.hid hx
  clear hb hx hG hg
  have HF := Lib.hid hf
  have hl1 := hf.lt; have hl2 := hf.ln; have hl3 := hf.lr
  clear hf
  have h1 := many_r G; have h2 := form_r G; have h3 := names_r G; have h4 := known_r G; have h5 := unlike_r G; have h6 := of_r G
  unfold ag at h1 h2 h3 h4 h5 h6
  have H1 := Lib.hid h1; have H2 := Lib.hid h2; have H3 := Lib.hid h3; have H4 := Lib.hid h4; have H5 := Lib.hid h5; have H6 := Lib.hid h6
  have HW := Lib.hid (GW_iff g)
  clear h1 h2 h3 h4 h5 h6
  go_enter Tryz.func7, Tryz.ntmps7
  go_wp2_with fail
  refine (H1.out _ _ g HX.out.old HX.out.gm).mono ?_
  rintro e w1 ⟨rfl, hb1⟩
  have HX1 := Lib.hid (HX.out.on hb1)
  have HB1 := Lib.hid (HB.out.trans (hb1.mono HB.out.size))
  clear x0 x1 x2 x3 hb1
  obtain ⟨x0, x1, x2, x3⟩ := HX1.out.cells
  have HM := Lib.hid (show manyB g = (g.rules.any (fun r => decide (8 < r.2.length)) || decide (120 < g.terms.length) || decide (120 < g.nons.length) || decide (300 < g.rules.length)) from rfl)
  generalize (g.rules.any (fun r => decide (8 < r.2.length)) || decide (120 < g.terms.length) || decide (120 < g.nons.length) || decide (300 < g.rules.length)) = d at HM
  cases d
  case true =>
    have he := Lib.hid (show (7 : Int) = 0 ↔ GW g from ⟨fun h => absurd h (by decide), fun h => by have := (HW.out.1 h).1; rw [HM.out] at this; cases this⟩)
    go_wp2_with fail
    go_ret
    exact ⟨⟨7, rfl, he.out⟩, HB1.out⟩
  have hmq : manyB g = false := HM.out
  unfold manyB at hmq
  simp only [Bool.or_eq_false_iff, decide_eq_false_iff_not] at hmq
  have hl3 : g.rules.length ≤ 300 := by omega
  have HT := Lib.hid (show g.top ≤ 1099511627775 from by unfold Gm.top; omega)
  clear hmq
  go_wp2_with fail
  refine (H2.out _ _ g HX1.out.old HX1.out.gm HF.out).mono ?_
  rintro e w2 ⟨rfl, hb1⟩
  have HX2 := Lib.hid (HX1.out.on hb1)
  have HB2 := Lib.hid (HB1.out.trans (hb1.mono HB1.out.size))
  clear x0 x1 x2 x3 hb1
  obtain ⟨x0, x1, x2, x3⟩ := HX2.out.cells
  cases hfm : formB g
  case false =>
    have he := Lib.hid (show (10 : Int) = 0 ↔ GW g from ⟨fun h => absurd h (by decide), fun h => by have := (HW.out.1 h).2.1; rw [hfm] at this; cases this⟩)
    go_wp2_with fail
    go_ret
    exact ⟨⟨10, rfl, he.out⟩, HB2.out⟩
  have HFM := Lib.hid hfm
  clear hfm
  go_wp2_with fail
  refine (H3.out _ _ g HX2.out.old HX2.out.gm HT.out).mono ?_
  rintro e w3 ⟨v, rfl, hs, hb1⟩
  obtain ⟨A, c, rfl⟩ := hs.shape
  have HX3 := Lib.hid (HX2.out.on hb1)
  have HB3 := Lib.hid (HB2.out.trans (hb1.mono HB2.out.size))
  have HO := Lib.hid (once_r (Old w3) w3 A _ c g.names (fun _ h => h) hs.at_)
  clear x0 x1 x2 x3 hb1 hs
  obtain ⟨x0, x1, x2, x3⟩ := HX3.out.cells
  go_wp2_with fail
  refine (HO.out).mono ?_
  rintro e w4 ⟨rfl, hb1⟩
  have HX4 := Lib.hid (HX3.out.on hb1)
  have HB4 := Lib.hid (HB3.out.trans (hb1.mono HB3.out.size))
  clear x0 x1 x2 x3 hb1
  obtain ⟨x0, x1, x2, x3⟩ := HX4.out.cells
  cases hnd : decide g.names.Nodup
  case false =>
    have he := Lib.hid (show (8 : Int) = 0 ↔ GW g from ⟨fun h => absurd h (by decide), fun h => absurd (HW.out.1 h).2.2.1 (of_decide_eq_false hnd)⟩)
    go_wp2_with fail
    go_ret
    exact ⟨⟨8, rfl, he.out⟩, HB4.out⟩
  have HND := Lib.hid (of_decide_eq_true hnd)
  clear hnd
  go_wp2_with fail
  refine (H4.out _ _ g HX4.out.old HX4.out.gm (by have := HT.out; omega)).mono ?_
  rintro e w5 ⟨rfl, hb1⟩
  have HX5 := Lib.hid (HX4.out.on hb1)
  have HB5 := Lib.hid (HB4.out.trans (hb1.mono HB4.out.size))
  clear x0 x1 x2 x3 hb1
  obtain ⟨x0, x1, x2, x3⟩ := HX5.out.cells
  cases hkn : knownB g
  case false =>
    have he := Lib.hid (show (1 : Int) = 0 ↔ GW g from ⟨fun h => absurd h (by decide), fun h => by have := (HW.out.1 h).2.2.2.1; rw [hkn] at this; cases this⟩)
    go_wp2_with fail
    go_ret
    exact ⟨⟨1, rfl, he.out⟩, HB5.out⟩
  have HKN := Lib.hid hkn
  clear hkn
  go_wp2_with fail
  refine (H5.out _ _ g HX5.out.old HX5.out.gm).mono ?_
  rintro e w6 ⟨rfl, hb1⟩
  have HX6 := Lib.hid (HX5.out.on hb1)
  have HB6 := Lib.hid (HB5.out.trans (hb1.mono HB5.out.size))
  clear x0 x1 x2 x3 hb1
  obtain ⟨x0, x1, x2, x3⟩ := HX6.out.cells
  cases hul : decide g.rules.Nodup
  case false =>
    have he := Lib.hid (show (8 : Int) = 0 ↔ GW g from ⟨fun h => absurd h (by decide), fun h => absurd (HW.out.1 h).2.2.2.2.1 (of_decide_eq_false hul)⟩)
    go_wp2_with fail
    go_ret
    exact ⟨⟨8, rfl, he.out⟩, HB6.out⟩
  have HUL := Lib.hid (of_decide_eq_true hul)
  clear hul
  go_wp2
  go_loopw [3] (fun i wr => ∃ (k : Nat), k ≤ g.nons.length ∧ i = .int .i64 k ∧ (∀ i : Nat, i < k → ofR ((g.terms.length : Int) + 1 + i) g.rules 0 ≠ []) ∧ Below w6.heap.size w6 wr) (fun i _ => g.nons.length - (intOf i).toNat)
  case atStart => exact ⟨0, by omega, rfl, fun i h => by omega, Below.refl _ _⟩
  case round =>
    obtain ⟨k, hk, rfl, hi, hb⟩ := hrel
    have HBR := Lib.hid hb; have HI := Lib.hid hi
    have HXR := Lib.hid (HX6.out.on hb)
    clear x0 x1 x2 x3 hb hi
    obtain ⟨x0, x1, x2, x3⟩ := HXR.out.cells
    by_cases hlt : k < g.nons.length
    · have HC := Lib.hid (H6.out wr _ g ((g.terms.length : Int) + 1 + k) HXR.out.old HXR.out.gm (by omega))
      go_wp2_with fail
      refine (HC.out).mono ?_
      rintro e wa ⟨v, rfl, hs, hb1⟩
      obtain ⟨A2, c2, rfl⟩ := hs.shape
      have HB7 := Lib.hid (HBR.out.trans (hb1.mono HBR.out.size))
      clear x0 x1 x2 x3 hb1 hs
      cases hl : decide ((ofR ((g.terms.length : Int) + 1 + k) g.rules 0).length = 0)
      · have hne := of_decide_eq_false hl
        have hne2 : ¬ ((ofR ((g.terms.length : Int) + 1 + k) g.rules 0).length : Int) = 0 := by omega
        have HN := Lib.hid (show ofR ((g.terms.length : Int) + 1 + k) g.rules 0 ≠ [] from fun h => hne (by rw [h]; rfl))
        clear hl hne
        go_wp2_with fail
        go_roundw
        case rel =>
          refine ⟨k + 1, by omega, by go_num, fun i hik => ?_, HB7.out⟩
          by_cases hik2 : i = k
          · rw [hik2]; exact HN.out
          · exact HI.out i (by omega)
        case measure => simp only [intOf]; omega
      · have hez := of_decide_eq_true hl
        have HZ := Lib.hid (show (9 : Int) = 0 ↔ GW g from ⟨fun h => absurd h (by decide), fun h => absurd (List.eq_nil_of_length_eq_zero hez) ((HW.out.1 h).2.2.2.2.2 k hlt)⟩)
        have hez2 : ((ofR ((g.terms.length : Int) + 1 + k) g.rules 0).length : Int) = 0 := by omega
        clear hl hez
        go_wp2_with fail
        go_ret
        exact ⟨⟨9, rfl, HZ.out⟩, HB6.out.trans (HB7.out.mono HB6.out.size)⟩
    · have he := Lib.hid (show GW g from HW.out.2 ⟨HM.out, HFM.out, HND.out, HKN.out, HUL.out, fun i hi => HI.out i (by omega)⟩)
      go_wp2_with fail
      go_ret
      exact ⟨⟨0, rfl, fun _ => he.out, fun _ => rfl⟩, HB6.out.trans (HBR.out.mono HB6.out.size)⟩

theorem fidx_le {β : Type} (p : β → Bool) : ∀ (l : List β) (k : Nat), fidx p l k ≤ (k + l.length : Nat)
  | [], k => by unfold fidx; omega
  | x :: l, k => by
    have := fidx_le p l (k + 1)
    rw [fidx, List.length_cons]
    split <;> omega
theorem fidx_ge {β : Type} (p : β → Bool) : ∀ (l : List β) (k : Nat), -1 ≤ fidx p l k
  | [], k => by unfold fidx; omega
  | x :: l, k => by
    have := fidx_ge p l (k + 1)
    rw [fidx]
    split <;> omega
theorem names_len (g : Gm) : g.names.length = g.top := by simp [Gm.names, Gm.top]
set_option maxRecDepth 100000 in
set_option maxHeartbeats 4000000 in
theorem name_r6 (G : Nat → Prop) (w : World) (vs : List Value) (g : Gm) (m : Nat)(hG : ∀ k, G k → k < w.heap.size) (hg : GmV G w vs g) (hl : g.top ≤ 1099511627775) (hk : m < g.names.length):
    Calls Tryz.prog 12 #[ag vs, .int .i64 ((m : Int) + 1)] w fun e w' => e = .returned (bs g.names[m]) ∧ Below w.heap.size w w' := by
  obtain ⟨A0, c0, A1, c1, A2, c2, rfl, hb, hx⟩ := GBox.start hG hg
  show Calls Tryz.prog 12 #[.agg #[.slice A0 g.terms.length c0, .slice A1 g.nons.length c1, .slice A2 g.rules.length c2, .int .i64 g.start], .int .i64 ((m : Int) + 1)] w _
  generalize hW : w.alloc (.cells #[.slice A0 g.terms.length c0, .slice A1 g.nons.length c1, .slice A2 g.rules.length c2, .int .i64 g.start] 25) = W at *
  obtain ⟨x0, x1, x2, x3⟩ := hx.cells
  have HB := Lib.hid hb; have HX := Lib.hid hx
  clear hb hx hG hg
  have h3 := top_r G; have h4 := names_r G
  unfold ag at h3 h4
  have H3 := Lib.hid h3; have H4 := Lib.hid h4; have HL := Lib.hid hl
  have htl : ¬ (g.top : Int) < (m : Int) + 1 := by have := names_len g; omega
  have hne : ¬ (m : Int) + 1 = 0 := by omega
  have hnl : ¬ (m : Int) + 1 < 1 := by omega
  have hml : m ≤ 1099511627775 := by have := names_len g; omega
  clear h3 h4 hl
  go_enter Tryz.func12, Tryz.ntmps12
  go_wp2_with fail
  refine (H3.out _ _ g HX.out.old HX.out.gm (by have := HL.out; omega)).mono ?_
  rintro e w1 ⟨rfl, hb1⟩
  have HX1 := Lib.hid (HX.out.on hb1)
  have HB1 := Lib.hid (HB.out.trans (hb1.mono HB.out.size))
  clear x0 x1 x2 x3 hb1
  obtain ⟨x0, x1, x2, x3⟩ := HX1.out.cells
  go_wp2_with fail
  refine (H4.out _ _ g HX1.out.old HX1.out.gm HL.out).mono ?_
  rintro e w2 ⟨v, rfl, hs, hb1⟩
  obtain ⟨A, c, rfl⟩ := hs.shape
  have HB2 := Lib.hid (HB1.out.trans (hb1.mono HB1.out.size))
  obtain ⟨bb, off, rfl, z⟩ := StrsAt.get hs.at_ hk
  clear x0 x1 x2 x3 hb1 hs
  have hs1 : (m : Int) + 1 - 1 = (m : Int) := by omega
  go_wp2_with fail
  go_ret
  exact ⟨rfl, HB2.out⟩

set_option maxRecDepth 100000 in
set_option maxHeartbeats 4000000 in
theorem find_r6 (G : Nat → Prop) (w : World) (vs : List Value) (g : Gm) (s : List UInt8)(hG : ∀ k, G k → k < w.heap.size) (hg : GmV G w vs g) (hl : g.top ≤ 1099511627775):
    Calls Tryz.prog 11 #[ag vs, bs s] w fun e w' => e = .returned (.int .i64 (fidx (fun x => x == s) g.names 0 + 1)) ∧ Below w.heap.size w w' := by
  obtain ⟨A0, c0, A1, c1, A2, c2, rfl, hb, hx⟩ := GBox.start hG hg
  show Calls Tryz.prog 11 #[.agg #[.slice A0 g.terms.length c0, .slice A1 g.nons.length c1, .slice A2 g.rules.length c2, .int .i64 g.start], bs s] w _
  generalize hW : w.alloc (.cells #[.slice A0 g.terms.length c0, .slice A1 g.nons.length c1, .slice A2 g.rules.length c2, .int .i64 g.start] 25) = W at *
  obtain ⟨x0, x1, x2, x3⟩ := hx.cells
  have HB := Lib.hid hb; have HX := Lib.hid hx
  clear hb hx hG hg
  have h4 := names_r G
  unfold ag at h4
  have H4 := Lib.hid h4; have HL := Lib.hid hl
  clear h4 hl
  go_enter Tryz.func11, Tryz.ntmps11
  go_wp2_with fail
  refine (H4.out _ _ g HX.out.old HX.out.gm HL.out).mono ?_
  rintro e w2 ⟨v, rfl, hs, hb1⟩
  obtain ⟨A, c, rfl⟩ := hs.shape
  have HB2 := Lib.hid (HB.out.trans (hb1.mono HB.out.size))
  have HC := Lib.hid (place_r (Old w2) w2 A _ c g.names s hs.at_)
  clear x0 x1 x2 x3 hb1 hs
  have hr := fidx_le (fun x => x == s) g.names 0
  rw [names_len] at hr
  have hr2 := fidx_ge (fun x => x == s) g.names 0
  have hw : IntKind.i64.wrap (fidx (fun x => x == s) g.names 0 + 1) = fidx (fun x => x == s) g.names 0 + 1 := IntWalk.i64_in _ (by have := HL.out; omega)
  clear hr hr2
  obtain ⟨r, hr0⟩ : ∃ r, r = fidx (fun x => x == s) g.names 0 := ⟨_, rfl⟩
  rw [← hr0] at HC hw
  have HR := Lib.hid hr0
  clear hr0
  go_wp2_with fail
  refine (HC.out).mono ?_
  rintro e w3 ⟨rfl, rfl⟩
  go_wp2_with fail
  go_ret
  exact ⟨by rw [← HR.out]; rfl, HB2.out⟩
end Go.Proofs.YtpidmmfjcghmeaaGreat
