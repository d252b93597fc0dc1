/- Towards nodeTells_card: HereMay, HereRef. Merged from smaller texts by a program of the author's. -/
import Derived.Test.YtjpopekmbmcggaaGreatDoorTa22
import Derived.LoopTactic
import Derived.Test.YtjpopekmbmcggaaGreatDoorTa11
import Derived.Test.YtjpopekmbmcggaaGreatDoorTa01
import Derived.Test.YtjpopekmbmcggaaGreatDoorTa08
import Derived.Outline
namespace Go.Proofs.YtjpopekmbmcggaaGreatDoor
open Go.RowKit
def strLen : Value → Nat
  | .string s => s.size
  | _ => 0
theorem has_zero (s : ByteArray) : decide (0 ≤ Lib.indexByte s.data.toList 0) = s.toList.contains 0 := by
  rw [Lib.toList_data, Lib.contains_iff_indexByte]
theorem cut_list {l : List UInt8} (h : (10 : UInt8) ∈ l) : ∃ a b, l = a ++ 10 :: b ∧ (10 : UInt8) ∉ a := List.eq_append_cons_of_mem h
theorem not_mem_mk {s : ByteArray} {a b : List UInt8} (hs : s.toList = a ++ 10 :: b) (h : (0 : UInt8) ∉ s.toList) : (0 : UInt8) ∉ a ∧ (0 : UInt8) ∉ b := by
  rw [hs] at h
  simp at h
  exact ⟨h.1, h.2⟩
theorem drewN_two (w : World) : ∀ (n m : Nat), (w.drewN n).drewN m = w.drewN (n + m)
  | n, 0 => rfl
  | n, m + 1 => by show ((w.drewN n).drewN m).drew = (w.drewN (n + m)).drew; rw [drewN_two w n m]
def MayRel (e : List UInt8) (t : Bool) (l0 : List UInt8) (n : Nat) (v : Value) : Prop := ∃ s : ByteArray, v = .string s ∧ s.size ≤ n ∧ (0 : UInt8) ∉ s.toList ∧ mayGo e t [] s.toList = mayGo e t [] l0
set_option maxRecDepth 100000 in
set_option maxHeartbeats 4000000 in
theorem may_any (e s : ByteArray) (t : Bool) (w : World) (hs : s.size ≤ 1099511627776) (has : e.size < 4294967281) :
    Calls Tryz.prog 46 #[.agg #[.string e, .bool t], .string s] w fun r w' => r = .returned (.bool (mayB e.toList t s.toList)) ∧ Below w.heap.size w w' := by
  have hra := fun w => right_any e t w has
  cases hr : rightB e.toList t
  · have hfin : mayB e.toList t s.toList = false := by unfold mayB; rw [hr]; rfl
    rw [hr] at hra
    have HRA := Lib.hid hra; have HF := Lib.hid hfin; clear hra has hfin hr
    go_enter Tryz.func46, Tryz.ntmps46
    go_wp2_with fail
    refine (HRA.out _).mono ?_
    rintro r w1 ⟨rfl, h1⟩
    have HB1 := Lib.hid h1; clear h1
    go_wp2
    go_ret
    exact ⟨by rw [HF.out]; rfl, ((Below.refl _ _).alloc (Nat.le_refl _) _).trans (HB1.out.mono (by simp))⟩
  · rw [hr] at hra
    cases hz : s.toList.contains 0
    · have hfin : mayB e.toList t s.toList = mayGo e.toList t [] s.toList := by unfold mayB; rw [hr]; rfl
      have hz0 : (0 : UInt8) ∉ s.toList := by simpa using hz
      have HRA := Lib.hid hra; have HF := Lib.hid hfin; have HZ := Lib.hid hz; have HZ0 := Lib.hid hz0; clear hra has hfin hr hz hz0
      go_enter Tryz.func46, Tryz.ntmps46
      go_wp2_with fail
      refine (HRA.out _).mono ?_
      rintro r w1 ⟨rfl, h1⟩
      have hs1 := h1.size
      have HB1 := Lib.hid h1; clear h1
      go_wp2_with fail
      refine (Tryz.strings_Contains_one _ 0 _).mono ?_
      rintro r w2 ⟨rfl, rfl⟩
      rw [has_zero, HZ.out]
      go_wp2
      have hc0 : w2.cell? ⟨w.heap.size, 0, none⟩ = some (.string e) := by
        rw [HB1.out.cell (p := ⟨w.heap.size, 0, none⟩) (by simp)]; simp
      have hc1 : w2.cell? ⟨w.heap.size, 1, none⟩ = some (.bool t) := by
        rw [HB1.out.cell (p := ⟨w.heap.size, 1, none⟩) (by simp)]; simp
      have hbw : Below w.heap.size w w2 := ((Below.refl _ _).alloc (Nat.le_refl _) _).trans (HB1.out.mono (by simp))
      have HBW := Lib.hid hbw; clear hbw hs1 HB1
      go_loopw [1] (fun v wr => MayRel e.toList t s.toList s.size v ∧ ∃ n, wr = w2.drewN n) (fun v _ => strLen v)
      case atStart => exact ⟨⟨s, rfl, Nat.le_refl _, HZ0.out, rfl⟩, 0, rfl⟩
      case round =>
        obtain ⟨⟨x, rfl, hxs, hx0, hxe⟩, n, rfl⟩ := hrel
        have HX0 := Lib.hid hx0; have HXE := Lib.hid hxe; clear hx0 hxe
        have hc0' : (w2.drewN n).cell? ⟨w.heap.size, 0, none⟩ = some (.string e) := by simpa using hc0
        have hc1' : (w2.drewN n).cell? ⟨w.heap.size, 1, none⟩ = some (.bool t) := by simpa using hc1
        by_cases hemp : x.toList = []
        · have h1 : (x.toList).isEmpty = true := by rw [hemp]; rfl
          have hres : mayGo e.toList t [] s.toList = true := by rw [← HXE.out, hemp]; rfl
          have HR := Lib.hid hres; clear hres hemp
          go_wp2
          go_ret
          exact ⟨by rw [HF.out, HR.out]; rfl, belowN HBW.out n⟩
        · have h1 : (x.toList).isEmpty = false := by simpa using hemp
          by_cases hnl : (10 : UInt8) ∈ x.toList
          · obtain ⟨a, b, hab, hna⟩ := cut_list hnl
            obtain ⟨hza, hzb⟩ := not_mem_mk hab HX0.out
            have hstep := mayGo_line e.toList t a b hza hna
            rw [← hab, HXE.out] at hstep
            have hlen : x.size = a.length + 1 + b.length := by rw [size_list, hab]; simp; omega
            have HAB := Lib.hid hab; have HNA := Lib.hid hna; have HZB := Lib.hid hzb; have HST := Lib.hid hstep
            have HL : x.size = a.length + 1 + b.length := hlen
            have hle2 : b.length < x.size := by omega
            clear hnl hemp hab hna hza hzb hstep hlen HL
            go_wp2_with fail
            refine (cut_yes x a b HAB.out _ HNA.out (by omega)).mono ?_
            rintro r w3 ⟨rfl, m, rfl⟩
            obtain ⟨k, hk⟩ : ∃ k, (w2.drewN n).drewN m = w2.drewN k := ⟨n + m, drewN_two _ _ _⟩
            rw [hk]
            simp only [bs]
            have hc0'' : (w2.drewN k).cell? ⟨w.heap.size, 0, none⟩ = some (.string e) := by simpa using hc0
            have hc1'' : (w2.drewN k).cell? ⟨w.heap.size, 1, none⟩ = some (.bool t) := by simpa using hc1
            clear hk hc0' hc1' h1
            have hxb : (⟨b.toArray⟩ : ByteArray).size = b.length := by rw [size_list, list_mk]
            have HXB := Lib.hid hxb; clear hxb
            by_cases hae : a = e.toList
            · have hbad : badB e.toList t a = true := by unfold badB; simp [hae]
              have hres : mayGo e.toList t [] s.toList = false := by rw [HST.out, hbad]; rfl
              have hbe : (⟨a.toArray⟩ : ByteArray) = e := by rw [hae, mk_list]
              rw [hbe]
              have HR := Lib.hid hres; clear hres hbad hae hbe
              go_wp2
              go_ret
              exact ⟨by rw [HF.out, HR.out]; rfl, belowN HBW.out k⟩
            · have hne2 : (a == e.toList) = false := beq_eq_false_iff_ne.2 hae
              have hne3 : ((⟨a.toArray⟩ : ByteArray).toList == e.toList) = false := by rw [list_mk]; exact hne2
              have hbad : badB e.toList t a = (t && (a.head? == some 9)) := by unfold badB; rw [hne2]; rfl
              rw [hbad] at HST
              clear hbad hae
              cases t
              · have hres : mayGo e.toList false [] b = mayGo e.toList false [] s.toList := by rw [HST.out]; rfl
                have HR := Lib.hid hres; clear hres
                go_wp2
                go_roundw
                case rel => exact ⟨⟨⟨b.toArray⟩, rfl, by rw [HXB.out]; omega, by rw [list_mk b]; exact HZB.out, by rw [list_mk b]; exact HR.out⟩, k, rfl⟩
                case measure => simp only [strLen]; rw [HXB.out]; omega
              · cases h9 : (a.head? == some 9)
                · have hres : mayGo e.toList true [] b = mayGo e.toList true [] s.toList := by rw [HST.out, h9]; rfl
                  have HR := Lib.hid hres; have H9 := Lib.hid h9; clear hres h9
                  go_wp2_with fail
                  refine (Tryz.strings_HasPrefix _ ⟨#[9]⟩ _).mono ?_
                  rintro r w4 ⟨rfl, rfl⟩
                  rw [show (⟨#[9]⟩ : ByteArray).data.toList = [9] from rfl, pre_eq, show (⟨a.toArray⟩ : ByteArray).data.toList = a from rfl, H9.out]
                  go_wp2
                  go_roundw
                  case rel => exact ⟨⟨⟨b.toArray⟩, rfl, by rw [HXB.out]; omega, by rw [list_mk b]; exact HZB.out, by rw [list_mk b]; exact HR.out⟩, k, rfl⟩
                  case measure => simp only [strLen]; rw [HXB.out]; omega
                · have hres : mayGo e.toList true [] s.toList = false := by rw [HST.out, h9]; rfl
                  have HR := Lib.hid hres; have H9 := Lib.hid h9; clear hres h9
                  go_wp2_with fail
                  refine (Tryz.strings_HasPrefix _ ⟨#[9]⟩ _).mono ?_
                  rintro r w4 ⟨rfl, rfl⟩
                  rw [show (⟨#[9]⟩ : ByteArray).data.toList = [9] from rfl, pre_eq, show (⟨a.toArray⟩ : ByteArray).data.toList = a from rfl, H9.out]
                  go_wp2
                  go_ret
                  exact ⟨by rw [HF.out, HR.out]; rfl, belowN HBW.out k⟩
          · have hres : mayGo e.toList t [] s.toList = false := by rw [← HXE.out, mayGo_none e.toList t _ HX0.out hnl, h1]
            have HR := Lib.hid hres; have HNL := Lib.hid hnl; clear hres hemp hnl
            go_wp2_with fail
            refine (cut_no x _ HNL.out).mono ?_
            rintro r w3 ⟨rfl, rfl⟩
            go_wp2
            go_ret
            exact ⟨by rw [HF.out, HR.out]; rfl, belowN HBW.out n⟩
    · have hfin : mayB e.toList t s.toList = false := by unfold mayB; rw [mayGo_zero _ _ _ _ (by simpa using hz)]; simp
      have HRA := Lib.hid hra; have HF := Lib.hid hfin; have HZ := Lib.hid hz; clear hra has hfin hr hz
      go_enter Tryz.func46, Tryz.ntmps46
      go_wp2_with fail
      refine (HRA.out _).mono ?_
      rintro r w1 ⟨rfl, h1⟩
      have HB1 := Lib.hid h1; clear h1
      go_wp2_with fail
      refine (Tryz.strings_Contains_one _ 0 _).mono ?_
      rintro r w2 ⟨rfl, rfl⟩
      rw [has_zero, HZ.out]
      go_wp2
      go_ret
      exact ⟨by rw [HF.out]; rfl, ((Below.refl _ _).alloc (Nat.le_refl _) _).trans (HB1.out.mono (by simp))⟩
end Go.Proofs.YtjpopekmbmcggaaGreatDoor
namespace Go.Proofs.YtjpopekmbmcggaaGreatDoor
open Go.RowKit
def hasC (l : List UInt8) (c : UInt8) : Bool := l.contains c
theorem hasC_mem (l : List UInt8) (c : UInt8) : hasC l c = true ↔ c ∈ l := List.contains_iff_mem
theorem contains_take (s : ByteArray) (c : UInt8) (k : Nat) (h : k < s.size) : hasC (s.toList.take (k + 1)) c = (hasC (s.toList.take k) c || (s[k] == c)) := by
  rw [List.take_succ_eq_append_getElem (by rw [← size_list]; exact h), get_list s k h]
  rw [Bool.eq_iff_iff, Bool.or_eq_true, hasC_mem, hasC_mem, beq_iff_eq, List.mem_append, List.mem_singleton]
  exact or_congr Iff.rfl eq_comm
set_option maxRecDepth 100000 in
set_option maxHeartbeats 1000000 in
theorem has_any (s : ByteArray) (c : UInt8) (n : Int) (hn : n = (c.toNat : Int)) (w : World) (hs : s.size ≤ 1099511627776) :
    Calls Tryz.prog 125 #[.string s, .int .u8 n] w fun r w' => r = .returned (.bool (hasC s.toList c)) ∧ w = w' := by
  have HN := Lib.hid hn; clear hn
  go_enter Tryz.func125, Tryz.ntmps125
  go_wp2
  go_loop [5] (fun i => ∃ k : Nat, k ≤ s.size ∧ i = .int .i64 k ∧ hasC (s.toList.take k) c = false) (fun i => s.size - (intOf i).toNat)
  case atStart => exact ⟨0, by omega, rfl, rfl⟩
  case round =>
    obtain ⟨k, hk, rfl, hf⟩ := hrel
    have HF := Lib.hid hf; clear hf
    by_cases hlt : k < s.size
    · cases hb : (s[k] == c)
      · have hb2 : ((s[k].toNat : Int) == n) = false := by
          rw [HN.out, beq_eq_false_iff_ne]; intro e
          exact (beq_eq_false_iff_ne.1 hb) (UInt8.toNat_inj.1 (by omega))
        have HB := Lib.hid hb; clear hb
        go_wp2
        go_round
        case rel => exact ⟨k + 1, by omega, by go_num, by rw [contains_take s c k hlt, HF.out, HB.out]; rfl⟩
        case measure => simp only [intOf]; omega
      · have hb2 : ((s[k].toNat : Int) == n) = true := by
          rw [HN.out, beq_iff_eq]; rw [beq_iff_eq.1 hb]
        have hres : hasC s.toList c = true := by
          rw [hasC_mem, ← beq_iff_eq.1 hb]; exact List.mem_of_getElem? (get?_list s k hlt)
        have HR := Lib.hid hres; clear hres hb
        go_wp2
        go_ret
        exact ⟨by rw [HR.out]; rfl, rfl⟩
    · have hres : hasC s.toList c = false := by
        have := HF.out
        rwa [List.take_of_length_le (by rw [← size_list]; omega)] at this
      have HR := Lib.hid hres; clear hres
      go_wp2
      go_ret
      exact ⟨by rw [HR.out]; rfl, rfl⟩
theorem anyB_eq (l : List UInt8) : anyB l = (hasC l 0 || hasC l 10) := by
  unfold anyB
  rw [Bool.eq_iff_iff]
  simp only [List.any_eq_true, Bool.or_eq_true, beq_iff_eq, hasC_mem]
  constructor
  · rintro ⟨x, hx, rfl | rfl⟩
    · exact .inl hx
    · exact .inr hx
  · rintro (h | h)
    · exact ⟨_, h, .inl rfl⟩
    · exact ⟨_, h, .inr rfl⟩
theorem head_get (s : ByteArray) (h : 0 < s.size) : s.toList.head? = some s[0] := by rw [← get?_list s 0 h, List.head?_eq_getElem?]
set_option maxRecDepth 100000 in
set_option maxHeartbeats 2000000 in
theorem refRight_any (e : ByteArray) (t : Bool) (w : World) (he : e.size ≤ 1099511627776) :
    Calls Tryz.prog 124 #[.agg #[.string e, .bool t]] w fun r w' => r = .returned (.bool (rightB e.toList t)) ∧ Below w.heap.size w w' := by
  have h0 := fun X => has_any e 0 0 (by rfl) X he
  have h1 := fun X => has_any e 10 10 (by rfl) X he
  cases c0 : hasC e.toList 0
  · cases c1 : hasC e.toList 10
    · rw [c0] at h0; rw [c1] at h1
      cases t
      · have hfin : rightB e.toList false = true := by simp [rightB, anyB_eq, c0, c1]
        have H0 := Lib.hid h0; have H1 := Lib.hid h1; have HF := Lib.hid hfin; clear h0 h1 hfin c0 c1
        go_enter Tryz.func124, Tryz.ntmps124
        go_wp2_with fail
        refine (H0.out _).mono ?_
        rintro r w1 ⟨rfl, rfl⟩
        go_wp2_with fail
        refine (H1.out _).mono ?_
        rintro r w1 ⟨rfl, rfl⟩
        go_wp2
        go_ret
        exact ⟨by rw [HF.out]; rfl, (Below.refl _ _).alloc (Nat.le_refl _) _⟩
      · by_cases hemp : e.toList = []
        · have hfin : rightB e.toList true = true := by simp [rightB, anyB_eq, hemp, hasC]
          have hie : e.toList.isEmpty = true := by rw [hemp]; rfl
          have H0 := Lib.hid h0; have H1 := Lib.hid h1; have HF := Lib.hid hfin; clear h0 h1 hfin c0 c1 hemp
          go_enter Tryz.func124, Tryz.ntmps124
          go_wp2_with fail
          refine (H0.out _).mono ?_
          rintro r w1 ⟨rfl, rfl⟩
          go_wp2_with fail
          refine (H1.out _).mono ?_
          rintro r w1 ⟨rfl, rfl⟩
          go_wp2
          go_ret
          exact ⟨by rw [HF.out]; rfl, (Below.refl _ _).alloc (Nat.le_refl _) _⟩
        · have hpos : 0 < e.size := by rw [size_list]; exact List.length_pos_iff.2 hemp
          have hposz : (0 : Int) < (e.size : Int) := by omega
          have hie : e.toList.isEmpty = false := by simpa using hemp
          have hfin : rightB e.toList true = !(e[0] == 9) := by simp [rightB, anyB_eq, c0, c1, head_get e hpos]
          have H0 := Lib.hid h0; have H1 := Lib.hid h1; have HF := Lib.hid hfin; clear h0 h1 hfin c0 c1 hemp
          cases h9 : (e[0] == 9)
          · have h9b : ((e[0].toNat : Int) != 9) = true := by
              rw [bne_iff_ne]; intro h
              exact (beq_eq_false_iff_ne.1 h9) (UInt8.toNat_inj.1 (show _ = 9 by omega))
            rw [h9] at HF
            clear h9
            go_enter Tryz.func124, Tryz.ntmps124
            go_wp2_with fail
            refine (H0.out _).mono ?_
            rintro r w1 ⟨rfl, rfl⟩
            go_wp2_with fail
            refine (H1.out _).mono ?_
            rintro r w1 ⟨rfl, rfl⟩
            go_wp2
            go_ret
            exact ⟨by rw [HF.out]; rfl, (Below.refl _ _).alloc (Nat.le_refl _) _⟩
          · have h9b : ((e[0].toNat : Int) != 9) = false := by
              rw [bne_eq_false_iff_eq, beq_iff_eq.1 h9]; rfl
            rw [h9] at HF
            clear h9
            go_enter Tryz.func124, Tryz.ntmps124
            go_wp2_with fail
            refine (H0.out _).mono ?_
            rintro r w1 ⟨rfl, rfl⟩
            go_wp2_with fail
            refine (H1.out _).mono ?_
            rintro r w1 ⟨rfl, rfl⟩
            go_wp2
            go_ret
            exact ⟨by rw [HF.out]; rfl, (Below.refl _ _).alloc (Nat.le_refl _) _⟩
    · have hfin : rightB e.toList t = false := by simp [rightB, anyB_eq, c0, c1]
      rw [c0] at h0; rw [c1] at h1
      have H0 := Lib.hid h0; have H1 := Lib.hid h1; have HF := Lib.hid hfin; clear h0 h1 hfin c0 c1
      go_enter Tryz.func124, Tryz.ntmps124
      go_wp2_with fail
      refine (H0.out _).mono ?_
      rintro r w1 ⟨rfl, rfl⟩
      go_wp2_with fail
      refine (H1.out _).mono ?_
      rintro r w1 ⟨rfl, rfl⟩
      go_wp2
      go_ret
      exact ⟨by rw [HF.out]; rfl, (Below.refl _ _).alloc (Nat.le_refl _) _⟩
  · have hfin : rightB e.toList t = false := by simp [rightB, anyB_eq, c0]
    rw [c0] at h0
    have H0 := Lib.hid h0; have HF := Lib.hid hfin; clear h0 h1 hfin c0
    go_enter Tryz.func124, Tryz.ntmps124
    go_wp2_with fail
    refine (H0.out _).mono ?_
    rintro r w1 ⟨rfl, rfl⟩
    go_wp2
    go_ret
    exact ⟨by rw [HF.out]; rfl, (Below.refl _ _).alloc (Nat.le_refl _) _⟩
def cutL (t : Bool) (l : List UInt8) : List UInt8 := if t then l.dropWhile (· == 9) else l
theorem cutL_bad (t : Bool) (l : List UInt8) : (cutL t l == l) = !(t && (l.head? == some 9)) := by
  unfold cutL
  cases t
  · simp
  · cases l with
    | nil => rfl
    | cons c l =>
      simp only [if_true, List.dropWhile_cons, Bool.true_and, List.head?_cons]
      by_cases h : c = 9
      · subst h
        have := (List.dropWhile_suffix (l := l) (· == (9 : UInt8))).length_le
        rw [if_pos (by rfl)]
        have h2 : (List.dropWhile (fun x => x == 9) l == 9 :: l) = false := by
          rw [beq_eq_false_iff_ne]; intro e; rw [e] at this; simp at this
          omega
        rw [h2]; rfl
      · have hb : (c == 9) = false := beq_eq_false_iff_ne.2 h
        simp [hb]
set_option maxRecDepth 100000 in
set_option maxHeartbeats 2000000 in
theorem cut28_any (e s : ByteArray) (t : Bool) (w : World) :
    Calls Tryz.prog 126 #[.agg #[.string e, .bool t], .string s] w fun r w' => (∃ x : ByteArray, r = .returned (.string x) ∧ x.toList = cutL t s.toList) ∧ Below w.heap.size w w' := by
  go_enter Tryz.func126, Tryz.ntmps126
  go_wp2
  go_loop [1] (fun v => ∃ x : ByteArray, v = .string x ∧ x.size ≤ s.size ∧ cutL t x.toList = cutL t s.toList) (fun v => match v with | .string x => x.size | _ => 0)
  case atStart => exact ⟨s, rfl, Nat.le_refl _, rfl⟩
  case round =>
    obtain ⟨x, rfl, hx, hc⟩ := hrel
    have HC := Lib.hid hc; clear hc
    cases t
    · go_wp2
      go_ret
      exact ⟨⟨x, rfl, by rw [← HC.out]; rfl⟩, (Below.refl _ _).alloc (Nat.le_refl _) _⟩
    · by_cases hemp : x.toList = []
      · have hie : x.toList.isEmpty = true := by rw [hemp]; rfl
        have hr : x.toList = cutL true s.toList := by rw [← HC.out, hemp]; rfl
        have HR := Lib.hid hr; clear hr hemp
        go_wp2
        go_ret
        exact ⟨⟨x, rfl, HR.out⟩, (Below.refl _ _).alloc (Nat.le_refl _) _⟩
      · have hpos : 0 < x.size := by rw [size_list]; exact List.length_pos_iff.2 hemp
        have hposz : (0 : Int) < (x.size : Int) := by omega
        have hposz1 : (1 : Int) ≤ (x.size : Int) := by omega
        have hie : x.toList.isEmpty = false := by simpa using hemp
        have hcons : x.toList = x[0] :: x.toList.drop 1 := by
          cases h : x.toList with
          | nil => exact absurd h hemp
          | cons a l =>
            have := head_get x hpos
            rw [h] at this
            simp at this
            simp [this]
        cases h9 : (x[0] == 9)
        · have h9b : ((x[0].toNat : Int) == 9) = false := by
            rw [beq_eq_false_iff_ne]; intro h
            exact (beq_eq_false_iff_ne.1 h9) (UInt8.toNat_inj.1 (show _ = 9 by omega))
          have hr : x.toList = cutL true s.toList := by
            rw [← HC.out]; unfold cutL; rw [if_pos rfl]
            conv => rhs; rw [hcons]
            rw [List.dropWhile_cons, h9, if_neg (by simp), ← hcons]
          have HR := Lib.hid hr; clear hr hemp hcons h9
          go_wp2
          go_ret
          exact ⟨⟨x, rfl, HR.out⟩, (Below.refl _ _).alloc (Nat.le_refl _) _⟩
        · have h9b : ((x[0].toNat : Int) == 9) = true := by rw [beq_iff_eq, beq_iff_eq.1 h9]; rfl
          have hr : cutL true (x.extract 1 x.size).toList = cutL true s.toList := by
            rw [← HC.out, drop_list]; unfold cutL; rw [if_pos rfl, if_pos rfl]
            conv => rhs; rw [hcons]
            rw [List.dropWhile_cons, h9, if_pos rfl]
          have hsz : (x.extract 1 x.size).size + 1 = x.size := by rw [size_list, drop_list, List.length_drop, ← size_list]; omega
          have HR := Lib.hid hr; have HS := Lib.hid hsz; clear hr hemp hcons h9 hsz
          go_wp2
          go_round
          case rel => exact ⟨_, rfl, by have := HS.out; omega, HR.out⟩
          case measure => have := HS.out; simp only; omega
def seg (l : List UInt8) (f k : Nat) : List UInt8 := (l.drop f).take (k - f)
theorem seg_succ (s : ByteArray) (f k : Nat) (hf : f ≤ k) (h : k < s.size) : seg s.toList f (k + 1) = seg s.toList f k ++ [s[k]] := by
  unfold seg
  have hl : k < s.toList.length := by rw [← size_list]; exact h
  rw [show k + 1 - f = (k - f) + 1 by omega, List.take_succ_eq_append_getElem (by rw [List.length_drop]; omega), List.getElem_drop]
  simp only [show f + (k - f) = k by omega, get_list s k h]
theorem drop_cons (s : ByteArray) (k : Nat) (h : k < s.size) : s.toList.drop k = s[k] :: s.toList.drop (k + 1) := by
  rw [List.drop_eq_getElem_cons (by rw [← size_list]; exact h), get_list s k h]
def MRel (e : List UInt8) (t : Bool) (l : List UInt8) (n : Nat) (f i : Value) : Prop := ∃ k a : Nat, k ≤ n ∧ a ≤ k ∧ f = .int .i64 a ∧ i = .int .i64 k ∧ (10 : UInt8) ∉ seg l a k ∧ mayGo e t [] l = mayGo e t (seg l a k) (l.drop k)
set_option maxRecDepth 100000 in
set_option maxHeartbeats 8000000 in
theorem refMay_any (e s : ByteArray) (t : Bool) (w : World) (hs : s.size ≤ 1099511627776) (he : e.size ≤ 1099511627776) :
    Calls Tryz.prog 50 #[.agg #[.string e, .bool t], .string s] w fun r w' => r = .returned (.bool (mayB e.toList t s.toList)) ∧ Below w.heap.size w w' := by
  have hra := fun X => refRight_any e t X he
  have hz := fun X => has_any s 0 0 (by rfl) X hs
  cases hr : rightB e.toList t
  · have hfin : mayB e.toList t s.toList = false := by unfold mayB; rw [hr]; rfl
    rw [hr] at hra
    have HRA := Lib.hid hra; have HF := Lib.hid hfin; clear hra hfin hr hz
    go_enter Tryz.func50, Tryz.ntmps50
    go_wp2_with fail
    refine (HRA.out _).mono ?_
    rintro r w1 ⟨rfl, h1⟩
    have HB1 := Lib.hid h1; clear h1
    go_wp2
    go_ret
    exact ⟨by rw [HF.out]; rfl, ((Below.refl _ _).alloc (Nat.le_refl _) _).trans (HB1.out.mono (by simp))⟩
  · rw [hr] at hra
    cases hz0 : hasC s.toList 0
    · have hn0 : (0 : UInt8) ∉ s.toList := fun h => by rw [(hasC_mem _ _).2 h] at hz0; cases hz0
      rw [hz0] at hz
      have hfin : mayB e.toList t s.toList = mayGo e.toList t [] s.toList := by unfold mayB; rw [hr]; rfl
      have HRA := Lib.hid hra; have HF := Lib.hid hfin; have HZ := Lib.hid hz; have HN0 := Lib.hid hn0; clear hra hfin hr hz hn0 hz0
      by_cases hemp : s.toList = []
      · have hie : s.toList.isEmpty = true := by rw [hemp]; rfl
        have hsz : s.size = 0 := by rw [size_list, hemp]; rfl
        have hres : mayGo e.toList t [] s.toList = true := by rw [hemp]; rfl
        have HR := Lib.hid hres; have HSZ := Lib.hid hsz; clear hres hemp hsz
        go_enter Tryz.func50, Tryz.ntmps50
        go_wp2_with fail
        refine (HRA.out _).mono ?_
        rintro r w1 ⟨rfl, h1⟩
        have HB1 := Lib.hid h1; clear h1
        go_wp2_with fail
        refine (HZ.out _).mono ?_
        rintro r w2 ⟨rfl, rfl⟩
        go_wp2
        go_loop [5, 6] (fun _ i => i = .int .i64 0) (fun _ _ => 0)
        case atStart => rfl
        case round =>
          subst hrel
          have hnl : ¬ ((0 : Int) < (s.size : Int)) := by have := HSZ.out; omega
          have hnd : decide ((0 : Int) < (s.size : Int)) = false := decide_eq_false hnl
          go_wp2
          go_ret
          exact ⟨by rw [HF.out, HR.out]; rfl, ((Below.refl _ _).alloc (Nat.le_refl _) _).trans (HB1.out.mono (by simp))⟩
      · have hie : s.toList.isEmpty = false := by simpa using hemp
        have hpos : 0 < s.size := by rw [size_list]; exact List.length_pos_iff.2 hemp
        have hp1 : (0 : Int) ≤ (s.size : Int) - 1 := by omega
        have hp2 : (1 : Int) ≤ (s.size : Int) := by omega
        have hp3 : (s.size : Int) - 1 < (s.size : Int) := by omega
        have hp4 : ((s.size : Int) - 1).toNat = s.size - 1 := by omega
        have hlast : s.toList.getLast? = some (s[s.size - 1]'(by omega)) := by
          rw [List.getLast?_eq_getElem?, ← size_list]; exact get?_list s _ (by omega)
        by_cases h10 : s[s.size - 1]'(by omega) = 10
        · have hb10 : (((s[s.size - 1]'(by omega)).toNat : Int) != 10) = false := by rw [h10]; rfl
          have HL := Lib.hid h10; have HLA := Lib.hid hlast; clear hlast h10
          go_enter Tryz.func50, Tryz.ntmps50
          go_wp2_with fail
          refine (HRA.out _).mono ?_
          rintro r w1 ⟨rfl, h1⟩
          have HB1 := Lib.hid h1; clear h1
          go_wp2_with fail
          refine (HZ.out _).mono ?_
          rintro r w2 ⟨rfl, rfl⟩
          go_wp2
          have hc0 : w1.cell? ⟨w.heap.size, 0, none⟩ = some (.string e) := by
            rw [HB1.out.cell (p := ⟨w.heap.size, 0, none⟩) (by simp)]; simp
          have hc1 : w1.cell? ⟨w.heap.size, 1, none⟩ = some (.bool t) := by
            rw [HB1.out.cell (p := ⟨w.heap.size, 1, none⟩) (by simp)]; simp
          have hbw : Below w.heap.size w w1 := ((Below.refl _ _).alloc (Nat.le_refl _) _).trans (HB1.out.mono (by simp))
          have hw2 : w.heap.size < w1.heap.size := by have := HB1.out.size; simp at this; omega
          have HBW := Lib.hid hbw; have HC0 := Lib.hid hc0; have HC1 := Lib.hid hc1; clear hbw hc0 hc1 HB1
          go_loopw [5, 6] (fun f i wr => MRel e.toList t s.toList s.size f i ∧ Below w1.heap.size w1 wr) (fun _ i _ => s.size - (intOf i).toNat)
          case atStart => exact ⟨⟨0, 0, by omega, by omega, rfl, rfl, by simp [seg], by simp [seg]⟩, Below.refl _ _⟩
          case round =>
            obtain ⟨⟨k, a, hk, ha, rfl, rfl, hn10, hgo⟩, hb⟩ := hrel
            have hc0 : wr.cell? ⟨w.heap.size, 0, none⟩ = some (.string e) := by rw [hb.cell (p := ⟨w.heap.size, 0, none⟩) hw2]; exact HC0.out
            have hc1 : wr.cell? ⟨w.heap.size, 1, none⟩ = some (.bool t) := by rw [hb.cell (p := ⟨w.heap.size, 1, none⟩) hw2]; exact HC1.out
            have hbr : Below w.heap.size w wr := HBW.out.trans (hb.mono (by omega))
            have HN := Lib.hid hn10; have HG := Lib.hid hgo; have HB := Lib.hid hb; have HBR := Lib.hid hbr
            clear hn10 hgo hb hbr hb10
            by_cases hlt : k < s.size
            · have ha0 : (0 : Int) ≤ (a : Int) := by omega
              have hak : (a : Int) ≤ (k : Int) := by omega
              have hks : (k : Int) ≤ (s.size : Int) := by omega
              have hkl : (k : Int) < (s.size : Int) := by omega
              by_cases h10 : s[k] = 10
              · have hb10 : ((s[k].toNat : Int) != 10) = false := by rw [h10]; rfl
                have hxl : (s.extract a k).toList = seg s.toList a k := by rw [extract_list]; rfl
                have hstep : mayGo e.toList t [] s.toList = if badB e.toList t (seg s.toList a k) then false else mayGo e.toList t [] (s.toList.drop (k + 1)) := by
                  rw [HG.out, drop_cons s k hlt, h10]; simp [mayGo]
                have HXL := Lib.hid hxl; have HST := Lib.hid hstep; clear hxl hstep h10
                cases hxe : (seg s.toList a k == e.toList)
                · have hxe2 : ((s.extract a k).toList == e.toList) = false := by rw [HXL.out]; exact hxe
                  have hbad : badB e.toList t (seg s.toList a k) = (t && ((seg s.toList a k).head? == some 9)) := by unfold badB; rw [hxe]; rfl
                  have HBA := Lib.hid hbad; clear hbad hxe
                  go_wp2_with fail
                  refine (cut28_any e (s.extract a k) t _).mono ?_
                  rintro r w3 ⟨⟨x, rfl, hx⟩, hb3⟩
                  have hcb := cutL_bad t (s.extract a k).toList
                  rw [← hx] at hcb
                  have hb4 : Below w1.heap.size w1 w3 := HB.out.trans (hb3.mono HB.out.size)
                  have hbr4 : Below w.heap.size w w3 := HBR.out.trans (hb3.mono HBR.out.size)
                  have HB4 := Lib.hid hb4; have HBR4 := Lib.hid hbr4; clear hb3 hb4 hbr4 hx hc0 hc1
                  cases hres : (x.toList == (s.extract a k).toList)
                  · have hne : (!(x.toList == (s.extract a k).toList)) = true := by rw [hres]; rfl
                    have hres2 := hres
                    rw [hres, HXL.out] at hcb
                    have hfin : mayGo e.toList t [] s.toList = false := by
                      rw [HST.out, HBA.out]
                      have : (t && ((seg s.toList a k).head? == some 9)) = true := by revert hcb; cases (t && ((seg s.toList a k).head? == some 9)) <;> simp
                      rw [this]; rfl
                    have HFI := Lib.hid hfin; clear hcb hfin hres2
                    go_wp2
                    go_ret
                    exact ⟨by rw [HF.out, HFI.out]; rfl, HBR4.out⟩
                  · have hne : (!(x.toList == (s.extract a k).toList)) = false := by rw [hres]; rfl
                    have hres2 := hres
                    rw [hres, HXL.out] at hcb
                    have hfin : mayGo e.toList t [] s.toList = mayGo e.toList t [] (s.toList.drop (k + 1)) := by
                      rw [HST.out, HBA.out]
                      have : (t && ((seg s.toList a k).head? == some 9)) = false := by revert hcb; cases (t && ((seg s.toList a k).head? == some 9)) <;> simp
                      rw [this]; rfl
                    have HFI := Lib.hid hfin; clear hcb hfin hres2
                    go_wp2
                    go_roundw
                    case rel => exact ⟨⟨k + 1, k + 1, by omega, by omega, by go_num, by go_num, by simp [seg], by rw [HFI.out]; simp [seg]⟩, HB4.out⟩
                    case measure => simp only [intOf]; omega
                · have hxe2 : ((s.extract a k).toList == e.toList) = true := by rw [HXL.out]; exact hxe
                  have hfin : mayGo e.toList t [] s.toList = false := by
                    rw [HST.out]; unfold badB; rw [hxe]; rfl
                  have HFI := Lib.hid hfin; clear hfin hxe
                  go_wp2
                  go_ret
                  exact ⟨by rw [HF.out, HFI.out]; rfl, HBR.out⟩
              · have hb10 : ((s[k].toNat : Int) != 10) = true := by rw [bne_iff_ne]; intro h; exact h10 (UInt8.toNat_inj.1 (show _ = 10 by omega))
                have h0 : s[k] ≠ 0 := fun h => HN0.out (by rw [← h]; exact List.mem_of_getElem? (get?_list s k hlt))
                have hgo2 : mayGo e.toList t [] s.toList = mayGo e.toList t (seg s.toList a (k + 1)) (s.toList.drop (k + 1)) := by
                  rw [HG.out, drop_cons s k hlt, mayGo, if_neg h0, if_neg h10, seg_succ s a k ha hlt]
                have hn2 : (10 : UInt8) ∉ seg s.toList a (k + 1) := by
                  rw [seg_succ s a k ha hlt, List.mem_append, List.mem_singleton]
                  rintro (h | h)
                  · exact HN.out h
                  · exact h10 h.symm
                have HG2 := Lib.hid hgo2; have HN2 := Lib.hid hn2; clear hgo2 hn2 h0 h10
                go_wp2
                go_roundw
                case rel => exact ⟨⟨k + 1, a, by omega, by omega, by rfl, by go_num, HN2.out, HG2.out⟩, HB.out⟩
                case measure => simp only [intOf]; omega
            · have hfin : mayGo e.toList t [] s.toList = true := by
                obtain rfl : k = s.size := by omega
                rw [HG.out, List.drop_of_length_le (by rw [← size_list]; omega), mayGo]
                have hseg : seg s.toList a s.size = s.toList.drop a := by unfold seg; rw [List.take_of_length_le (by rw [List.length_drop, ← size_list]; omega)]
                rw [hseg]
                by_cases haa : a < s.size
                · exfalso
                  refine HN.out ?_
                  rw [hseg]
                  have : (s.toList.drop a).getLast? = some 10 := by
                    rw [List.getLast?_drop, if_neg (by rw [← size_list]; omega), HLA.out, HL.out]
                  exact List.mem_of_getLast? this
                · rw [List.drop_of_length_le (by rw [← size_list]; omega)]; rfl
              have HFI := Lib.hid hfin; clear hfin
              go_wp2
              go_ret
              exact ⟨by rw [HF.out, HFI.out]; rfl, HBR.out⟩
        · have hb10 : (((s[s.size - 1]'(by omega)).toNat : Int) != 10) = true := by
            rw [bne_iff_ne]; intro h; exact h10 (UInt8.toNat_inj.1 (show _ = 10 by omega))
          have hres : mayGo e.toList t [] s.toList = false := mayGo_last _ _ _ _ (by simpa using hemp) (.inr (by rw [hlast]; simpa using h10))
          have HR := Lib.hid hres; clear hres hemp hlast h10
          go_enter Tryz.func50, Tryz.ntmps50
          go_wp2_with fail
          refine (HRA.out _).mono ?_
          rintro r w1 ⟨rfl, h1⟩
          have HB1 := Lib.hid h1; clear h1
          go_wp2_with fail
          refine (HZ.out _).mono ?_
          rintro r w2 ⟨rfl, rfl⟩
          go_wp2
          go_ret
          exact ⟨by rw [HF.out, HR.out]; rfl, ((Below.refl _ _).alloc (Nat.le_refl _) _).trans (HB1.out.mono (by simp))⟩
    · have hfin : mayB e.toList t s.toList = false := by unfold mayB; rw [mayGo_zero _ _ _ _ ((hasC_mem _ _).1 hz0)]; simp
      rw [hz0] at hz
      have HRA := Lib.hid hra; have HF := Lib.hid hfin; have HZ := Lib.hid hz; clear hra hfin hr hz hz0
      go_enter Tryz.func50, Tryz.ntmps50
      go_wp2_with fail
      refine (HRA.out _).mono ?_
      rintro r w1 ⟨rfl, h1⟩
      have HB1 := Lib.hid h1; clear h1
      go_wp2_with fail
      refine (HZ.out _).mono ?_
      rintro r w2 ⟨rfl, rfl⟩
      go_wp2
      go_ret
      exact ⟨by rw [HF.out]; rfl, ((Below.refl _ _).alloc (Nat.le_refl _) _).trans (HB1.out.mono (by simp))⟩
end Go.Proofs.YtjpopekmbmcggaaGreatDoor
