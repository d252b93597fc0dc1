/- conchref27.Names; conchref04.Same of two rows with the same texts: walked. -/
import Derived.Test.YtpefkhbejjndeaaUqNames
import Derived.Test.YtpefkhbejjndeaaWr
import Derived.Laws.OwnMore
import Derived.Deep.DeepCutAuto
namespace Go.Proofs.Ytpefkhbejjndeaa
open Go.RowKit
attribute [local go_sem ↓] wp_append_wr

/-- A row of texts of the call's own. -/
def Srow (B : Nat) (w : World) (v : Value) (xs : List ByteArray) : Prop := w.ownsRow B 9 1 v xs.length (xs.map Value.string)
theorem Srow.look {B : Nat} {w : World} {v : Value} {xs : List ByteArray} (h : Srow B w v xs) :
    ∃ A c, v = .slice A xs.length c ∧ xs.length ≤ c ∧ c ≤ maxLen ∧ ∀ k (hk : k < xs.length), ∃ g, A = some ⟨g, 0, none⟩ ∧ w.cell? ⟨g, k, none⟩ = some (.string xs[k]) := by
  rcases h.2 with ⟨rfl, hn⟩ | ⟨g, cap, cur, rfl, hB, hh, hc, hm, hcs, htake⟩
  · exact ⟨none, 0, by rw [hn], by omega, Nat.zero_le _, fun k hk => by omega⟩
  · refine ⟨some ⟨g, 0, none⟩, cap, rfl, hc, hm, fun k hk => ⟨g, rfl, ?_⟩⟩
    have hj : (xs.map Value.string)[k]? = some (.string xs[k]) := by simp [hk]
    rw [← htake, List.getElem?_take_of_lt (by omega)] at hj
    simp only [World.cell?, hh]
    simpa using hj
theorem Srow.keep {B : Nat} {w w' : World} {v : Value} {xs : List ByteArray} (h : Srow B w v xs) (hb : Below w.heap.size w w') : Srow B w' v xs :=
  World.ownsRow.kept h (grown_of_below hb) (by cases hv : v.ownBlock <;> simp)
theorem Srow.lower {B B' : Nat} {w : World} {v : Value} {xs : List ByteArray} (h : Srow B w v xs) (hB : B' ≤ B) : Srow B' w v xs := by
  refine ⟨h.1, ?_⟩
  rcases h.2 with h0 | ⟨g, cap, cur, e1, e2, e3⟩
  · exact .inl h0
  · exact .inr ⟨g, cap, cur, e1, Nat.le_trans hB e2, e3⟩
/-- What an append of a row to a row makes. -/
theorem Srow.add {B B2 : Nat} {w : World} {v v2 : Value} {xs ys : List ByteArray} (h : Srow B w v xs) (h2 : Srow B2 w v2 ys) (hl : xs.length + ys.length ≤ 1099511627776) (hB : B ≤ w.heap.size) :
    ∃ v' w', WrA Try.prog #[49, 49] 49 #[v, v2] w = .ok v' w' ∧ Srow B w' v' (xs ++ ys) ∧ Below B w w' := by
  obtain ⟨i0, hi, hz0, hz1, hz2⟩ := info_parts nm_info
  have hbelow : ∀ w', w.grownBy w' v.ownBlock → Below B w w' := fun w' hg => (Below.refl B w).grown hg hB fun k e => (World.ownsRow.lt h k e).1
  rcases h2.2 with ⟨rfl, hn⟩ | ⟨g, cap, cur, rfl, hB2, hh, hc, hm, hcs, htake⟩
  · obtain rfl : ys = [] := List.length_eq_zero_iff.1 hn
    exact ⟨v, w, run_append_owned_none w B 49 49 9 i0 1 Try.underlying49 hi v _ _ h, by rw [List.append_nil]; exact h, Below.refl _ _⟩
  · obtain ⟨v', w', h1, r1, r2, _⟩ := run_append_own (P := Try.prog) w B 49 49 9 i0 _ 1 16 Try.underlying49 hi hz0 hz1 hz2 rfl (by decide) v _ _ h ⟨g, 0, none⟩ ys.length cap (ys.map Value.string) (by simp) (World.ownsRow.cells h2 (by rfl)) (by intro u hu; simp only [List.mem_map] at hu; obtain ⟨x, _, rfl⟩ := hu; rfl) (by unfold maxLen; omega) (by omega) hB
    exact ⟨v', w', h1, by unfold Srow; rw [List.length_append, List.map_append]; exact r1, hbelow w' r2⟩
/-- .. of one text, laid for it. -/
theorem Srow.one {B : Nat} {w : World} {v : Value} {xs : List ByteArray} (t : ByteArray) (h : Srow B w v xs) (hl : xs.length + 1 ≤ 1099511627776) (hB : B ≤ w.heap.size) :
    ∃ v' w', WrA Try.prog #[49, 49] 49 #[v, .slice (some ⟨w.heap.size, 0, none⟩) 1 1] (w.alloc (.cells #[.string t] 9)) = .ok v' w' ∧ Srow B w' v' (xs ++ [t]) ∧ Below B w w' := by
  have hb : Below w.heap.size w (w.alloc (.cells #[.string t] 9)) := (Below.refl _ _).alloc (Nat.le_refl _) _
  have h2 : Srow w.heap.size (w.alloc (.cells #[.string t] 9)) (.slice (some ⟨w.heap.size, 0, none⟩) 1 1) [t] :=
    ⟨rfl, .inr ⟨w.heap.size, 1, #[.string t], rfl, Nat.le_refl _, World.alloc_heap_new w _, Nat.le_refl _, by unfold maxLen; omega, rfl, rfl⟩⟩
  obtain ⟨v', w', h3, h4, h5⟩ := (h.keep hb).add h2 (by simpa using hl) (Nat.le_trans hB hb.size)
  exact ⟨v', w', h3, h4, (hb.mono hB).trans h5⟩

set_option maxRecDepth 100000 in
set_option maxHeartbeats 2000000 in
theorem same04_r (xs : List ByteArray) (A1 A2 : Option Addr) (c1 c2 : Nat) (w : World) (hl : xs.length ≤ 1099511627776)
    (h1 : ∀ k (hk : k < xs.length), ∃ g, A1 = some ⟨g, 0, none⟩ ∧ w.cell? ⟨g, k, none⟩ = some (.string xs[k])) (h2 : ∀ k (hk : k < xs.length), ∃ g, A2 = some ⟨g, 0, none⟩ ∧ w.cell? ⟨g, k, none⟩ = some (.string xs[k])) :
    Calls Try.prog 40 #[.slice A1 xs.length c1, .slice A2 xs.length c2] w fun e w' => e = .returned (.bool true) ∧ ∃ m, w' = w.drewN m := by
  have H1 := Lib.hid h1; have H2 := Lib.hid h2
  clear h1 h2
  go_enter Try.func40, Try.ntmps40
  go_wp2
  go_loopw [5] (fun i wr => ∃ (k q : Nat), k ≤ xs.length ∧ i = .int .i64 k ∧ wr = w.drewN q) (fun i _ => xs.length - (intOf i).toNat)
  case atStart => exact ⟨0, 0, by omega, rfl, rfl⟩
  case round =>
    obtain ⟨k, q, hk, rfl, rfl⟩ := hrel
    by_cases hlt : k < xs.length
    · obtain ⟨g1, rfl, z1⟩ := H1.out k hlt
      obtain ⟨g2, rfl, z2⟩ := H2.out k hlt
      generalize xs[k] = x at z1 z2
      go_wp2_with fail
      go_quiet (fail)
      go_wp2_with fail
      go_roundw
      case rel => exact ⟨k + 1, _, by omega, by go_num, rfl⟩
      case measure => simp only [intOf]; omega
    · go_wp2_with fail
      go_ret
      exact ⟨rfl, q, rfl⟩

/-- conchref27.names, of words of depth below n. -/
def RnAt (n : Nat) : Prop := ∀ (l : Pts) (G : Nat → Prop) (A : Option Addr) (c : Nat) (w : World), l.deep < n → l.wt ≤ 1073741824 → (∀ k, G k → k < w.heap.size) → PtsAt G w A 0 l →
  Calls Try.prog 70 #[.slice A l.len c] w fun e w' => ∃ v, e = .returned v ∧ Srow w.heap.size w' v l.nms ∧ Below w.heap.size w w'

set_option maxRecDepth 100000 in
set_option maxHeartbeats 4000000 in
theorem rnames_at : ∀ n : Nat, RnAt n := by
  intro n
  induction n with
  | zero => intro l _ _ _ _ h; omega
  | succ n ih =>
    intro l G A c w hd hwt hG hp
    have hlw := Pts.len_wt l
    have hnw := Pts.nms_wt l
    have IH := Lib.hid ih; have HP := Lib.hid hp; have HG := Lib.hid hG
    clear ih hp hG
    go_enter Try.func70, Try.ntmps70
    go_wp2
    go_loopw [3, 4] (fun s i wr => ∃ (k : Nat) (mid : List ByteArray), k ≤ l.len ∧ i = .int .i64 k ∧ Srow w.heap.size wr s mid ∧ l.nms = mid ++ (l.drop k).nms ∧ Below w.heap.size w wr) (fun _ i _ => l.len - (intOf i).toNat)
    case atStart => exact ⟨0, [], by omega, rfl, World.ownsRow_nil _ _ _ _, by rw [Pts.drop_zero]; rfl, Below.refl _ _⟩
    case round =>
      obtain ⟨k, mid, hk, rfl, hr, hn, hb⟩ := hrel
      obtain ⟨A0, c0', rfl, hc0, hm0, _⟩ := hr.look
      have HR := Lib.hid hr; have HN := Lib.hid hn; have HB := Lib.hid hb
      have hml : mid.length ≤ l.nms.length := by rw [hn, List.length_append]; omega
      clear hr hn hb
      by_cases hlt : k < l.len
      · obtain ⟨pk, t, o, kids, cm, r, hdr⟩ := Pts.drop_cons k l hlt
        have hp' := (HP.out.old HG.out HB.out).at_ k
        rw [hdr, Nat.zero_add] at hp'
        obtain ⟨bb, off, Ak, ck, rfl, hg, c0, c1, c2, c3, c4, hl, h1, h2⟩ := hp'
        have hwd := Pts.wt_drop k l
        rw [hdr, Pts.wt] at hwd
        have hkd := Pts.deep_drop k l hdr
        have HD := Lib.hid hdr
        have HGW := Lib.hid (show ∀ j, G j → j < wr.heap.size from fun j hj => Nat.lt_of_lt_of_le (HG.out j hj) HB.out.size)
        have HK1 := Lib.hid h1
        have hnm : l.nms = mid ++ (nm1 pk t ++ (kids.nms ++ r.nms)) := by rw [HN.out, HD.out]; rfl
        have hlen := congrArg List.length hnm
        simp only [List.length_append] at hlen
        have HNM := Lib.hid hnm
        have hbb : bb < wr.heap.size := HGW.out bb hg
        clear hdr hl h2 h1 c2 c4 hnm
        -- what is done behind the names of the part itself
        have hts : t.size ≤ 9223372036854775807 := by omega
        cases m5 : (pk == 5)
        · have HNM1 := Lib.hid (show nm1 pk t = [] from by unfold nm1; rw [if_neg]; intro h; have := beq_eq_false_iff_ne.1 m5; exact this h.1)
          have hlm : mid.length + kids.nms.length ≤ 1099511627776 := by omega
          go_wp2_with fail
          refine (IH.out kids G Ak ck wr (by omega) (by omega) HGW.out HK1.out).mono ?_
          rintro e w1 ⟨v1, rfl, hr1, hb1⟩
          obtain ⟨v3, w3, hrun3, hr3, hb3⟩ := (HR.out.keep hb1).add hr1 hlm (Nat.le_trans HB.out.size hb1.size)
          obtain ⟨A1, c1', rfl, _, _, _⟩ := hr1.look
          have HR3 := Lib.hid hr3; have HB3 := Lib.hid ((HB.out.trans (hb1.mono HB.out.size)).trans hb3)
          clear hr1 hb1 hr3 hb3
          go_wp2_with fail
          go_roundw
          case rel =>
            refine ⟨k + 1, mid ++ kids.nms, by omega, by go_num, HR3.out, ?_, HB3.out⟩
            rw [HNM.out, HNM1.out, Pts.drop_succ k l HD.out]
            simp only [List.append_assoc, List.nil_append]
          case measure => simp only [intOf]; omega
        · obtain rfl : pk = 5 := by simpa using m5
          have hnm1 : nm1 5 t = if Chr.name t.toList = true then [t] else [] := by unfold nm1; simp
          go_wp2_with fail
          refine (name_r t _ hts).mono ?_
          rintro e w0 ⟨rfl, rfl⟩
          cases hch : Chr.name t.toList
          · have HNM1 := Lib.hid (show nm1 5 t = [] from by rw [hnm1, hch]; rfl)
            have hlm : mid.length + kids.nms.length ≤ 1099511627776 := by omega
            clear hnm1
            go_wp2_with fail
            refine (IH.out kids G Ak ck wr (by omega) (by omega) HGW.out HK1.out).mono ?_
            rintro e w1 ⟨v1, rfl, hr1, hb1⟩
            obtain ⟨v3, w3, hrun3, hr3, hb3⟩ := (HR.out.keep hb1).add hr1 hlm (Nat.le_trans HB.out.size hb1.size)
            obtain ⟨A1, c1', rfl, _, _, _⟩ := hr1.look
            have HR3 := Lib.hid hr3; have HB3 := Lib.hid ((HB.out.trans (hb1.mono HB.out.size)).trans hb3)
            clear hr1 hb1 hr3 hb3
            go_wp2_with fail
            go_roundw
            case rel =>
              refine ⟨k + 1, mid ++ kids.nms, by omega, by go_num, HR3.out, ?_, HB3.out⟩
              rw [HNM.out, HNM1.out, Pts.drop_succ k l HD.out]
              simp only [List.append_assoc, List.nil_append]
            case measure => simp only [intOf]; omega
          · have HNM1 := Lib.hid (show nm1 5 t = [t] from by rw [hnm1, hch]; rfl)
            have hl1 : (nm1 5 t).length = 1 := by rw [HNM1.out]; rfl
            have hlm : (mid ++ [t]).length + kids.nms.length ≤ 1099511627776 := by rw [List.length_append, List.length_cons, List.length_nil]; omega
            clear hnm1
            obtain ⟨v2, w2, hrun2, hr2, hb2⟩ := HR.out.one t (by omega) HB.out.size
            obtain ⟨A2, c2', rfl, _, _, _⟩ := hr2.look
            have hbw2 := HB.out.trans hb2
            have hp2 := (HP.out.old HG.out hbw2).at_ k
            rw [HD.out, Nat.zero_add] at hp2
            obtain ⟨bb2, off2, Ak2, ck2, hA2, _, _, _, _, c3', _, _, hk2, _⟩ := hp2
            injection hA2 with hA2
            injection hA2 with e1 e2
            subst e1 e2
            have hGw2 : ∀ j, G j → j < w2.heap.size := fun j hj => Nat.lt_of_lt_of_le (HG.out j hj) hbw2.size
            have HK2 := Lib.hid hk2; have HG2 := Lib.hid hGw2; have HR2 := Lib.hid hr2; have HB2 := Lib.hid hbw2
            clear hb2 hbw2 hk2 hGw2 hr2
            go_wp2_with fail
            refine (IH.out kids G Ak2 ck2 w2 (by omega) (by omega) HG2.out HK2.out).mono ?_
            rintro e w1 ⟨v1, rfl, hr1, hb1⟩
            obtain ⟨v3, w3, hrun3, hr3, hb3⟩ := (HR2.out.keep hb1).add hr1 hlm (Nat.le_trans HB2.out.size hb1.size)
            rw [show (mid ++ [t]).length = mid.length + 1 from by simp] at hrun3
            obtain ⟨A1, c1', rfl, _, _, _⟩ := hr1.look
            have HR3 := Lib.hid hr3; have HB3 := Lib.hid ((HB2.out.trans (hb1.mono HB2.out.size)).trans hb3)
            clear hr1 hb1 hr3 hb3
            go_wp2_with fail
            go_roundw
            case rel =>
              refine ⟨k + 1, mid ++ [t] ++ kids.nms, by omega, by go_num, HR3.out, ?_, HB3.out⟩
              rw [HNM.out, HNM1.out, Pts.drop_succ k l HD.out]
              simp only [List.append_assoc]
            case measure => simp only [intOf]; omega
      · have HE := Lib.hid (Pts.drop_end k l (by omega))
        go_wp2_with fail
        go_ret
        have he : l.nms = mid := by rw [HN.out, HE.out]; simp [Pts.nms]
        exact ⟨_, rfl, by rw [he]; exact HR.out, HB.out⟩

set_option maxRecDepth 100000 in
set_option maxHeartbeats 1000000 in
theorem rnames_r (l : Pts) (A : Option Addr) (c : Nat) (G : Nat → Prop) (w : World) (hwt : l.wt ≤ 1073741824) (hG : ∀ k, G k → k < w.heap.size) (hp : PtsAt G w A 0 l) :
    Calls Try.prog 42 #[.agg #[.slice A l.len c]] w fun e w' => ∃ v, e = .returned v ∧ Srow w.heap.size w' v l.nms ∧ Below w.heap.size w w' := by
  have hb : Below w.heap.size w (w.alloc (.cells #[.slice A l.len c] 33)) := (Below.refl _ _).alloc (Nat.le_refl _) _
  have hC := rnames_at (l.deep + 1) l G A c (w.alloc (.cells #[.slice A l.len c] 33)) (by omega) hwt (fun j hj => Nat.lt_of_lt_of_le (hG j hj) hb.size) (hp.old hG hb)
  have HC := Lib.hid hC; have HB := Lib.hid hb
  clear hC hb hp hG
  go_enter Try.func42, Try.ntmps42
  go_wp2_with fail
  refine HC.out.mono ?_
  rintro e w1 ⟨v, rfl, hr, hb1⟩
  obtain ⟨A1, c1', rfl, _, _, _⟩ := hr.look
  have HR := Lib.hid (hr.lower HB.out.size); have HB1 := Lib.hid (HB.out.trans (hb1.mono HB.out.size))
  clear hr hb1
  go_wp2_with fail
  go_ret
  exact ⟨_, rfl, HR.out, HB1.out⟩
end Go.Proofs.Ytpefkhbejjndeaa
