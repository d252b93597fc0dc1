/- here.May: what it answers. -/
import Derived.Test.YtpefkhbejjndeaaHereText
import Derived.LoopTactic
namespace Go.Proofs.Ytpefkhbejjndeaa
open Go.RowKit

def strLen : Value → Nat
  | .string s => s.size
  | _ => 0
theorem has_zero (s : ByteArray) : decide (0 ≤ Lib.indexByte s.data.toList 0) = s.toList.contains 0 := by
  rw [Lib.toList_data, Lib.contains_iff_indexByte]
theorem cut_list {l : List UInt8} (h : (10 : UInt8) ∈ l) : ∃ a b, l = a ++ 10 :: b ∧ (10 : UInt8) ∉ a := List.eq_append_cons_of_mem h
theorem not_mem_mk {s : ByteArray} {a b : List UInt8} (hs : s.toList = a ++ 10 :: b) (h : (0 : UInt8) ∉ s.toList) : (0 : UInt8) ∉ a ∧ (0 : UInt8) ∉ b := by
  rw [hs] at h
  simp at h
  exact ⟨h.1, h.2⟩

theorem drewN_two (w : World) : ∀ (n m : Nat), (w.drewN n).drewN m = w.drewN (n + m)
  | n, 0 => rfl
  | n, m + 1 => by show ((w.drewN n).drewN m).drew = (w.drewN (n + m)).drew; rw [drewN_two w n m]

def MayRel (e : List UInt8) (t : Bool) (l0 : List UInt8) (n : Nat) (v : Value) : Prop := ∃ s : ByteArray, v = .string s ∧ s.size ≤ n ∧ (0 : UInt8) ∉ s.toList ∧ mayGo e t [] s.toList = mayGo e t [] l0

set_option maxRecDepth 100000 in
set_option maxHeartbeats 4000000 in
theorem may_any (e s : ByteArray) (t : Bool) (w : World) (hs : s.size ≤ 1099511627776) (has : e.size < 4294967281) :
    Calls Try.prog 45 #[.agg #[.string e, .bool t], .string s] w fun r w' => r = .returned (.bool (mayB e.toList t s.toList)) ∧ Below w.heap.size w w' := by
  have hra := fun w => right_any e t w has
  cases hr : rightB e.toList t
  · have hfin : mayB e.toList t s.toList = false := by unfold mayB; rw [hr]; rfl
    rw [hr] at hra
    have HRA := Lib.hid hra; have HF := Lib.hid hfin; clear hra has hfin hr
    go_enter Try.func45, Try.ntmps45
    go_wp2_with fail
    refine (HRA.out _).mono ?_
    rintro r w1 ⟨rfl, h1⟩
    have HB1 := Lib.hid h1; clear h1
    go_wp2
    go_ret
    exact ⟨by rw [HF.out]; rfl, ((Below.refl _ _).alloc (Nat.le_refl _) _).trans (HB1.out.mono (by simp))⟩
  · rw [hr] at hra
    cases hz : s.toList.contains 0
    · have hfin : mayB e.toList t s.toList = mayGo e.toList t [] s.toList := by unfold mayB; rw [hr]; rfl
      have hz0 : (0 : UInt8) ∉ s.toList := by simpa using hz
      have HRA := Lib.hid hra; have HF := Lib.hid hfin; have HZ := Lib.hid hz; have HZ0 := Lib.hid hz0; clear hra has hfin hr hz hz0
      go_enter Try.func45, Try.ntmps45
      go_wp2_with fail
      refine (HRA.out _).mono ?_
      rintro r w1 ⟨rfl, h1⟩
      have hs1 := h1.size
      have HB1 := Lib.hid h1; clear h1
      go_wp2_with fail
      refine (Try.strings_Contains_one _ 0 _).mono ?_
      rintro r w2 ⟨rfl, rfl⟩
      rw [has_zero, HZ.out]
      go_wp2
      have hc0 : w2.cell? ⟨w.heap.size, 0, none⟩ = some (.string e) := by
        rw [HB1.out.cell (p := ⟨w.heap.size, 0, none⟩) (by simp)]; simp
      have hc1 : w2.cell? ⟨w.heap.size, 1, none⟩ = some (.bool t) := by
        rw [HB1.out.cell (p := ⟨w.heap.size, 1, none⟩) (by simp)]; simp
      have hbw : Below w.heap.size w w2 := ((Below.refl _ _).alloc (Nat.le_refl _) _).trans (HB1.out.mono (by simp))
      have HBW := Lib.hid hbw; clear hbw hs1 HB1
      go_loopw [1] (fun v wr => MayRel e.toList t s.toList s.size v ∧ ∃ n, wr = w2.drewN n) (fun v _ => strLen v)
      case atStart => exact ⟨⟨s, rfl, Nat.le_refl _, HZ0.out, rfl⟩, 0, rfl⟩
      case round =>
        obtain ⟨⟨x, rfl, hxs, hx0, hxe⟩, n, rfl⟩ := hrel
        have HX0 := Lib.hid hx0; have HXE := Lib.hid hxe; clear hx0 hxe
        have hc0' : (w2.drewN n).cell? ⟨w.heap.size, 0, none⟩ = some (.string e) := by simpa using hc0
        have hc1' : (w2.drewN n).cell? ⟨w.heap.size, 1, none⟩ = some (.bool t) := by simpa using hc1
        by_cases hemp : x.toList = []
        · have h1 : (x.toList).isEmpty = true := by rw [hemp]; rfl
          have hres : mayGo e.toList t [] s.toList = true := by rw [← HXE.out, hemp]; rfl
          have HR := Lib.hid hres; clear hres hemp
          go_wp2
          go_ret
          exact ⟨by rw [HF.out, HR.out]; rfl, belowN HBW.out n⟩
        · have h1 : (x.toList).isEmpty = false := by simpa using hemp
          by_cases hnl : (10 : UInt8) ∈ x.toList
          · obtain ⟨a, b, hab, hna⟩ := cut_list hnl
            obtain ⟨hza, hzb⟩ := not_mem_mk hab HX0.out
            have hstep := mayGo_line e.toList t a b hza hna
            rw [← hab, HXE.out] at hstep
            have hlen : x.size = a.length + 1 + b.length := by rw [size_list, hab]; simp; omega
            have HAB := Lib.hid hab; have HNA := Lib.hid hna; have HZB := Lib.hid hzb; have HST := Lib.hid hstep
            have HL : x.size = a.length + 1 + b.length := hlen
            have hle2 : b.length < x.size := by omega
            clear hnl hemp hab hna hza hzb hstep hlen HL
            go_wp2_with fail
            refine (cut_yes x a b HAB.out _ HNA.out (by omega)).mono ?_
            rintro r w3 ⟨rfl, m, rfl⟩
            obtain ⟨k, hk⟩ : ∃ k, (w2.drewN n).drewN m = w2.drewN k := ⟨n + m, drewN_two _ _ _⟩
            rw [hk]
            simp only [bs]
            have hc0'' : (w2.drewN k).cell? ⟨w.heap.size, 0, none⟩ = some (.string e) := by simpa using hc0
            have hc1'' : (w2.drewN k).cell? ⟨w.heap.size, 1, none⟩ = some (.bool t) := by simpa using hc1
            clear hk hc0' hc1' h1
            have hxb : (⟨b.toArray⟩ : ByteArray).size = b.length := by rw [size_list, list_mk]
            have HXB := Lib.hid hxb; clear hxb
            by_cases hae : a = e.toList
            · have hbad : badB e.toList t a = true := by unfold badB; simp [hae]
              have hres : mayGo e.toList t [] s.toList = false := by rw [HST.out, hbad]; rfl
              have hbe : (⟨a.toArray⟩ : ByteArray) = e := by rw [hae, mk_list]
              rw [hbe]
              have HR := Lib.hid hres; clear hres hbad hae hbe
              go_wp2
              go_ret
              exact ⟨by rw [HF.out, HR.out]; rfl, belowN HBW.out k⟩
            · have hne2 : (a == e.toList) = false := beq_eq_false_iff_ne.2 hae
              have hne3 : ((⟨a.toArray⟩ : ByteArray).toList == e.toList) = false := by rw [list_mk]; exact hne2
              have hbad : badB e.toList t a = (t && (a.head? == some 9)) := by unfold badB; rw [hne2]; rfl
              rw [hbad] at HST
              clear hbad hae
              cases t
              · have hres : mayGo e.toList false [] b = mayGo e.toList false [] s.toList := by rw [HST.out]; rfl
                have HR := Lib.hid hres; clear hres
                go_wp2
                go_roundw
                case rel => exact ⟨⟨⟨b.toArray⟩, rfl, by rw [HXB.out]; omega, by rw [list_mk b]; exact HZB.out, by rw [list_mk b]; exact HR.out⟩, k, rfl⟩
                case measure => simp only [strLen]; rw [HXB.out]; omega
              · cases h9 : (a.head? == some 9)
                · have hres : mayGo e.toList true [] b = mayGo e.toList true [] s.toList := by rw [HST.out, h9]; rfl
                  have HR := Lib.hid hres; have H9 := Lib.hid h9; clear hres h9
                  go_wp2_with fail
                  refine (Try.strings_HasPrefix _ ⟨#[9]⟩ _).mono ?_
                  rintro r w4 ⟨rfl, rfl⟩
                  rw [show (⟨#[9]⟩ : ByteArray).data.toList = [9] from rfl, pre_eq, show (⟨a.toArray⟩ : ByteArray).data.toList = a from rfl, H9.out]
                  go_wp2
                  go_roundw
                  case rel => exact ⟨⟨⟨b.toArray⟩, rfl, by rw [HXB.out]; omega, by rw [list_mk b]; exact HZB.out, by rw [list_mk b]; exact HR.out⟩, k, rfl⟩
                  case measure => simp only [strLen]; rw [HXB.out]; omega
                · have hres : mayGo e.toList true [] s.toList = false := by rw [HST.out, h9]; rfl
                  have HR := Lib.hid hres; have H9 := Lib.hid h9; clear hres h9
                  go_wp2_with fail
                  refine (Try.strings_HasPrefix _ ⟨#[9]⟩ _).mono ?_
                  rintro r w4 ⟨rfl, rfl⟩
                  rw [show (⟨#[9]⟩ : ByteArray).data.toList = [9] from rfl, pre_eq, show (⟨a.toArray⟩ : ByteArray).data.toList = a from rfl, H9.out]
                  go_wp2
                  go_ret
                  exact ⟨by rw [HF.out, HR.out]; rfl, belowN HBW.out k⟩
          · have hres : mayGo e.toList t [] s.toList = false := by rw [← HXE.out, mayGo_none e.toList t _ HX0.out hnl, h1]
            have HR := Lib.hid hres; have HNL := Lib.hid hnl; clear hres hemp hnl
            go_wp2_with fail
            refine (cut_no x _ HNL.out).mono ?_
            rintro r w3 ⟨rfl, rfl⟩
            go_wp2
            go_ret
            exact ⟨by rw [HF.out, HR.out]; rfl, belowN HBW.out n⟩
    · have hfin : mayB e.toList t s.toList = false := by unfold mayB; rw [mayGo_zero _ _ _ _ (by simpa using hz)]; simp
      have HRA := Lib.hid hra; have HF := Lib.hid hfin; have HZ := Lib.hid hz; clear hra has hfin hr hz
      go_enter Try.func45, Try.ntmps45
      go_wp2_with fail
      refine (HRA.out _).mono ?_
      rintro r w1 ⟨rfl, h1⟩
      have HB1 := Lib.hid h1; clear h1
      go_wp2_with fail
      refine (Try.strings_Contains_one _ 0 _).mono ?_
      rintro r w2 ⟨rfl, rfl⟩
      rw [has_zero, HZ.out]
      go_wp2
      go_ret
      exact ⟨by rw [HF.out]; rfl, ((Below.refl _ _).alloc (Nat.le_refl _) _).trans (HB1.out.mono (by simp))⟩
end Go.Proofs.Ytpefkhbejjndeaa
