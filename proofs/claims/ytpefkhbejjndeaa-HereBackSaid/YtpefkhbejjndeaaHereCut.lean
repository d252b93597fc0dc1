/- strings.Cut at a line feed; here.Right, New, Show, by the library's contracts. -/
import Derived.Test.YtpefkhbejjndeaaHereFeed
import Derived.Test.YtpefkhbejjndeaaShelf
import Derived.Test.YtpefkhbejjndeaaHereRune
import Derived.Deep.QuietTactic
import Derived.BigQuiet
namespace Go.Proofs.Ytpefkhbejjndeaa
open Go.RowKit

def nl : ByteArray := ⟨#[10]⟩

theorem idx_none {l : List UInt8} (h : (10 : UInt8) ∉ l) : Lib.indexByte l 10 = -1 := by
  induction l with
  | nil => rfl
  | cons b l ih =>
    simp only [List.mem_cons, not_or] at h
    have hb : (b == 10) = false := beq_eq_false_iff_ne.2 (fun e => h.1 e.symm)
    simp [Lib.indexByte, hb, ih h.2]
theorem idx_some {a b : List UInt8} (h : (10 : UInt8) ∉ a) : Lib.indexByte (a ++ 10 :: b) 10 = a.length := by
  induction a with
  | nil => simp [Lib.indexByte]
  | cons c a ih =>
    simp only [List.mem_cons, not_or] at h
    have hb : (c == 10) = false := beq_eq_false_iff_ne.2 (fun e => h.1 e.symm)
    simp only [List.cons_append, Lib.indexByte, hb, ih h.2]
    have : ¬ ((a.length : Int) == -1) = true := by simp
    simp only [this]
    simp

set_option maxRecDepth 100000 in
set_option maxHeartbeats 1000000 in
theorem cut94_no (s : ByteArray) (w : World) (h : (10 : UInt8) ∉ s.toList) :
    Calls Try.prog 94 #[.string s, .string ⟨#[10]⟩] w fun e w' => e = .returned (.tuple #[.string s, .string ⟨#[]⟩, .bool false]) ∧ w = w' := by
  have hi := idx_none h
  rw [Lib.toList_data] at hi
  have HI := Lib.hid hi; clear hi h
  go_enter Try.func94, Try.ntmps94
  go_wp2_with fail
  refine (Try.stringslite_Index_one s 10 _).mono ?_
  rintro e w' ⟨rfl, rfl⟩
  rw [HI.out]
  go_wp2
  go_ret3
  exact ⟨rfl, rfl⟩

set_option maxRecDepth 100000 in
set_option maxHeartbeats 1000000 in
theorem cut94_yes (s : ByteArray) (a b : List UInt8) (hs : s.toList = a ++ 10 :: b) (w : World) (h : (10 : UInt8) ∉ a) (hm : s.size ≤ 1099511627776) :
    Calls Try.prog 94 #[.string s, .string ⟨#[10]⟩] w fun e w' => e = .returned (.tuple #[bs a, bs b, .bool true]) ∧ ∃ n, w' = w.drewN n := by
  have hi := idx_some (b := b) h
  rw [← hs, Lib.toList_data] at hi
  have hsz : s.size = a.length + 1 + b.length := by rw [size_list, hs]; simp; omega
  have hle : (a.length : Int) ≤ (s.size : Int) := by omega
  have hle2 : (a.length : Int) + 1 ≤ (s.size : Int) := by omega
  have hw1 : IntKind.i64.wrap ((a.length : Int) + 1) = (a.length : Int) + 1 := IntWalk.i64_in _ (by omega)
  have hfa : s.extract 0 a.length = ⟨a.toArray⟩ := ext_list (by rw [take_list, hs, list_mk]; simp)
  have hfb : s.extract (a.length + 1) s.size = ⟨b.toArray⟩ := ext_list (by rw [drop_list, hs, list_mk]; simp)
  have HI := Lib.hid hi; have HA := Lib.hid hfa; have HB := Lib.hid hfb
  clear hi h hfa hfb hs
  go_enter Try.func94, Try.ntmps94
  go_wp2_with fail
  refine (Try.stringslite_Index_one s 10 _).mono ?_
  rintro e w' ⟨rfl, rfl⟩
  rw [HI.out]
  clear hsz
  go_wp2
  go_quiet (fail)
  go_wp2
  go_ret3
  exact ⟨by rw [HA.out, HB.out]; rfl, nq, rfl⟩

set_option maxRecDepth 100000 in
set_option maxHeartbeats 1000000 in
theorem cut_no (s : ByteArray) (w : World) (h : (10 : UInt8) ∉ s.toList) :
    Calls Try.prog 74 #[.string s, .string ⟨#[10]⟩] w fun e w' => e = .returned (.tuple #[.string s, .string ⟨#[]⟩, .bool false]) ∧ w = w' := by
  have H := Lib.hid h; clear h
  go_enter Try.func74, Try.ntmps74
  go_wp2_with fail
  refine (cut94_no s _ H.out).mono ?_
  rintro e w' ⟨rfl, rfl⟩
  go_wp2
  go_ret3
  exact ⟨rfl, rfl⟩

set_option maxRecDepth 100000 in
set_option maxHeartbeats 1000000 in
theorem cut_yes (s : ByteArray) (a b : List UInt8) (hs : s.toList = a ++ 10 :: b) (w : World) (h : (10 : UInt8) ∉ a) (hm : s.size ≤ 1099511627776) :
    Calls Try.prog 74 #[.string s, .string ⟨#[10]⟩] w fun e w' => e = .returned (.tuple #[bs a, bs b, .bool true]) ∧ ∃ n, w' = w.drewN n := by
  have H := Lib.hid h; have HS := Lib.hid hs; clear h hs
  go_enter Try.func74, Try.ntmps74
  go_wp2_with fail
  refine (cut94_yes s a b HS.out _ H.out hm).mono ?_
  rintro e w' ⟨rfl, n, rfl⟩
  go_wp2
  go_ret3
  exact ⟨rfl, n, rfl⟩

theorem pre_eq (l : List UInt8) : Lib.hasPrefix l [9] = (l.head? == some 9) := by
  cases l with
  | nil => rfl
  | cons b l =>
    show (9 == b && List.isPrefixOf [] l) = _
    by_cases h : b = 9
    · subst h; rfl
    · have h1 : ((9 : UInt8) == b) = false := beq_eq_false_iff_ne.2 (fun e => h e.symm)
      have h2 : ((b :: l).head? == some 9) = false := beq_eq_false_iff_ne.2 (by simpa using h)
      rw [h1, h2]; rfl

set_option maxRecDepth 100000 in
set_option maxHeartbeats 1000000 in
theorem right_any (e : ByteArray) (t : Bool) (w : World) (has : e.size < 4294967281) :
    Calls Try.prog 49 #[.agg #[.string e, .bool t]] w fun r w' => r = .returned (.bool (rightB e.toList t)) ∧ Below w.heap.size w w' := by
  have hca := fun w => containsAny_two e w has
  have HCA := Lib.hid hca; clear hca has
  cases hb : anyB e.toList
  · cases t
    · have hfin : rightB e.toList false = true := by simp [rightB, hb]
      have HF := Lib.hid hfin; have HB := Lib.hid hb
      clear hfin hb
      go_enter Try.func49, Try.ntmps49
      go_wp2_with fail
      refine (HCA.out _).mono ?_
      rintro r w1 ⟨rfl, h1⟩
      rw [HB.out]
      obtain ⟨hc, hf⟩ := bcell h1
      have HB1 := Lib.hid h1; clear h1
      go_wp2
      go_ret
      exact ⟨by rw [HF.out]; rfl, ((Below.refl _ _).alloc (Nat.le_refl _) _).trans (HB1.out.mono (by simp))⟩
    · have hfin : rightB e.toList true = !(e.toList.head? == some 9) := by simp [rightB, hb]
      have HF := Lib.hid hfin; have HB := Lib.hid hb
      clear hfin hb
      go_enter Try.func49, Try.ntmps49
      go_wp2_with fail
      refine (HCA.out _).mono ?_
      rintro r w1 ⟨rfl, h1⟩
      rw [HB.out]
      obtain ⟨hc, hf⟩ := bcell h1
      have HB1 := Lib.hid h1; clear h1
      go_wp2_with fail
      refine (Try.strings_HasPrefix e ⟨#[9]⟩ _).mono ?_
      rintro r w2 ⟨rfl, rfl⟩
      rw [← Lib.toList_data, show (⟨#[9]⟩ : ByteArray).data.toList = [9] from rfl, pre_eq]
      go_wp2
      go_ret
      exact ⟨by rw [HF.out]; rfl, ((Below.refl _ _).alloc (Nat.le_refl _) _).trans (HB1.out.mono (by simp))⟩
  · have hfin : rightB e.toList t = false := by simp [rightB, hb]
    have HF := Lib.hid hfin; have HB := Lib.hid hb
    clear hfin hb
    go_enter Try.func49, Try.ntmps49
    go_wp2_with fail
    refine (HCA.out _).mono ?_
    rintro r w1 ⟨rfl, h1⟩
    rw [HB.out]
    have HB1 := Lib.hid h1; clear h1
    go_wp2
    go_ret
    exact ⟨by rw [HF.out]; rfl, ((Below.refl _ _).alloc (Nat.le_refl _) _).trans (HB1.out.mono (by simp))⟩

set_option maxRecDepth 100000 in
set_option maxHeartbeats 1000000 in
theorem new_no (e : ByteArray) (t : Bool) (w : World) (has : e.size < 4294967281) (hr : rightB e.toList t = false) :
    Calls Try.prog 72 #[.agg #[.string e, .bool t]] w fun r w' => r = .returned (.pointer none) ∧ Below w.heap.size w w' := by
  have hra := fun w => right_any e t w has
  rw [hr] at hra
  have HRA := Lib.hid hra; clear hra has hr
  go_enter Try.func72, Try.ntmps72
  go_wp2_with fail
  refine (HRA.out _).mono ?_
  rintro r w1 ⟨rfl, h1⟩
  have HB1 := Lib.hid h1; clear h1
  go_wp2
  go_ret
  exact ⟨rfl, ((Below.refl _ _).alloc (Nat.le_refl _) _).trans (HB1.out.mono (by simp))⟩

set_option maxRecDepth 100000 in
set_option maxHeartbeats 1000000 in
theorem new_yes (e : ByteArray) (t : Bool) (w : World) (has : e.size < 4294967281) (hr : rightB e.toList t = true) (B : Nat) (hB : B ≤ w.heap.size) :
    Calls Try.prog 72 #[.agg #[.string e, .bool t]] w fun r w' => (∃ b, r = .returned (.pointer (some ⟨b, 0, none⟩)) ∧ Rd B b e t [] [] false 0 w') ∧ Below w.heap.size w w' := by
  have hra := fun w => right_any e t w has
  rw [hr] at hra
  have HRA := Lib.hid hra; clear hra has hr
  go_enter Try.func72, Try.ntmps72
  go_wp2_with fail
  refine (HRA.out _).mono ?_
  rintro r w1 ⟨rfl, h1⟩
  obtain ⟨hc, hf⟩ := bcell h1
  have HB1 := Lib.hid h1; clear h1
  go_wp2
  go_ret
  have hs1 := HB1.out.size
  refine ⟨⟨w1.heap.size, rfl, ⟨by simp at hs1; omega, .slice none 0 0, .slice none 0 0, heap_alloc_new _ _, ⟨rfl, .inl ⟨rfl, rfl⟩⟩, ⟨rfl, .inl ⟨rfl, rfl⟩⟩⟩⟩, ?_⟩
  exact ((((Below.refl _ _).alloc (Nat.le_refl _) _).trans (HB1.out.mono (by simp)))).alloc (by simp at hs1; omega) _
end Go.Proofs.Ytpefkhbejjndeaa
