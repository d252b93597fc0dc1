/- conchlaw27.UnquoteAssigns, walked: true, whatever the name and the word. -/
import Derived.Test.YtpefkhbejjndeaaUqPlain
import Derived.Test.YtpefkhbejjndeaaRefRight
import Derived.Test.YtpefkhbejjndeaaMuchW
import Derived.Test.YtpefkhbejjndeaaPtsRead
import Derived.Deep.DeepCutAuto
namespace Go.Proofs.Ytpefkhbejjndeaa
open Go.RowKit
attribute [local go_sem ↓] wp_append_wr

/-- A literal in a row of its own. -/
theorem lit_fresh {G : Nat → Prop} {B : Nat} {w : World} {g : Nat} {t : ByteArray} (hB : B ≤ g) (hh : w.heap[g]? = some (.cells (litPs t).toArray 41 (0, 0))) : Prow G B w (.slice (some ⟨g, 0, none⟩) 1 1) (Pts.lit t .nil) :=
  Prow.fresh (l := Pts.lit t .nil) hB hh (litPs_row G w t (l := .nil) (xs := []) rfl) (by show 1 ≤ maxLen; unfold maxLen; omega)

set_option maxRecDepth 100000 in
set_option maxHeartbeats 8000000 in
theorem unquoteAssigns_w (s : ByteArray) (l : Pts) (A : Option Addr) (c : Nat) (w : World) (hp : PtsAt (Old w) w A 0 l) (hc : l.len ≤ c) (hcm : c ≤ maxLen) (hwt : l.mx ≤ 140737488355328) :
    Calls Try.prog 7 #[.string s, .agg #[.slice A l.len c]] w fun e w' => e = .returned (.bool true) ∧ Below w.heap.size w w' := by
  have hlw := Pts.len_mx l
  obtain ⟨ma, hma⟩ : ∃ ma, l.muchW = ma := ⟨_, rfl⟩
  have HLA := Lib.hid (show ma ≤ 300 → l.len ≤ 1000 from fun h => Pts.muchW_len (by omega)); have HMA := Lib.hid hma
  clear hma
  go_enter Try.func7, Try.ntmps7
  go_wp2_with fail
  generalize hW : World.alloc _ _ = W
  have hbW : Below w.heap.size w W := by rw [← hW]; exact (Below.refl _ _).alloc (Nat.le_refl _) _
  have hsz : W.heap.size = w.heap.size + 1 := by rw [← hW]; simp
  have q0 : W.cell? ⟨w.heap.size, 0, none⟩ = some (.slice A l.len c) := by rw [← hW]; simp
  have hpW := hp.old (fun _ h => h) hbW
  clear hW
  refine (much_w l _ A c W (by omega) hpW).mono ?_
  rintro e w2 ⟨rfl, m, rfl⟩
  rw [HMA.out]
  have hb2 := belowN hbW m
  have q2 : (W.drewN m).cell? ⟨w.heap.size, 0, none⟩ = some (.slice A l.len c) := by simpa using q0
  have hs2 : (W.drewN m).heap.size = w.heap.size + 1 := by simpa using hsz
  clear hbW hsz q0 hpW
  revert hb2 q2 hs2
  generalize W.drewN m = W2
  intro hb2 q2 hs2
  have HB2 := Lib.hid hb2; have HP := Lib.hid hp; have HS2 := Lib.hid hs2
  clear hb2 hp hs2
  by_cases h1 : ma ≤ 300
  · have hl1k := HLA.out h1
    by_cases hsb : 200 < s.size
    · have hsbi : (200 : Int) < (s.size : Int) := by omega
      go_wp2_with fail
      refine (awake27 _).mono ?_
      rintro e w3 ⟨rfl, hb3⟩
      go_wp2_with fail
      go_ret
      exact ⟨rfl, HB2.out.trans (hb3.mono HB2.out.size)⟩
    · have hsbi : ¬ (200 : Int) < (s.size : Int) := by omega
      go_wp2_with fail
      refine (name_r s _ (by omega)).mono ?_
      rintro e w3 ⟨rfl, rfl⟩
      cases hn : Chr.name s.toList
      · go_wp2_with fail
        refine (awake27 _).mono ?_
        rintro e w3 ⟨rfl, hb3⟩
        go_wp2_with fail
        go_ret
        exact ⟨rfl, HB2.out.trans (hb3.mono HB2.out.size)⟩
      · have HN := Lib.hid hn
        go_wp2_with fail
        refine (right_r l A c (Old w) W2 (by omega) (fun k (hk : k < w.heap.size) => by have := HS2.out; omega) (HP.out.old (fun _ h => h) HB2.out)).mono ?_
        rintro e w3 ⟨rfl, hb3⟩
        have hbw := HB2.out.trans (hb3.mono HB2.out.size)
        have d0 := (World.cell?_of_block (hb3.block w.heap.size (by have := HS2.out; omega))).trans q2
        have hs3 : w.heap.size + 1 ≤ w3.heap.size := by have := hb3.size; have := HS2.out; omega
        clear hb3 q2 hn
        cases hr : l.right with
        | false =>
          go_wp2_with fail
          refine (awake27 _).mono ?_
          rintro e w4 ⟨rfl, hb4⟩
          go_wp2_with fail
          go_ret
          exact ⟨rfl, hbw.trans (hb4.mono hbw.size)⟩
        | true =>
          obtain ⟨k, t, o, kids, cm, rest, hl⟩ : ∃ k t o kids cm rest, l = .cons k t o kids cm rest := by
            cases l with
            | nil => simp [Pts.right, Pts.len] at hr
            | cons k t o kids cm rest => exact ⟨_, _, _, _, _, _, rfl⟩
          have hone := right_one (by rw [← hl]; exact hr)
          have hp3 := HP.out.old (fun _ h => h) hbw
          have hp3' := hp3
          rw [hl] at hp3'
          obtain ⟨b, off, Ak, ck, rfl, hgb, c0, c1, _, _, _, _, _, hrest⟩ := hp3'
          simp only [Nat.zero_mul, Nat.add_zero] at c0 c1
          have hll : l.len = rest.len + 1 := by rw [hl]; rfl
          have HR0 := Lib.hid hrest.shift
          have HP3 := Lib.hid hp3; have HBW := Lib.hid hbw; have HONE := Lib.hid hone; have HL := Lib.hid hl
          have HLL := Lib.hid hll
          have hl0 : (0 : Int) < (l.len : Int) := by omega
          have hGw : ∀ j, Old w j → j < w3.heap.size := fun j (hj : j < w.heap.size) => by omega
          have HGW := Lib.hid hGw
          clear hrest hp3 hbw hone hl hll hGw
          -- the first append
          obtain ⟨s1, hs1⟩ : ∃ s1, s1 = s ++ (⟨#[61]⟩ : ByteArray) := ⟨_, rfl⟩
          have hs1z : s1.size = s.size + 1 := by rw [hs1, app_size]; rfl
          have hadd1 : ∀ X : World, (Op.stringOp .add s ⟨#[61]⟩).run Try.prog X = .ok (.string s1) X := fun X => by
            rw [hs1]
            exact run_string_add_sum (P := Try.prog) X s ⟨#[61]⟩ (by show s.size + 1 ≤ _; omega)
          have hX1 : Below w3.heap.size w3 (w3.alloc (.cells (litPs s1).toArray 41)) := (Below.refl _ _).alloc (Nat.le_refl _) _
          have ho1 := lit_fresh (G := Old w) (B := w3.heap.size) (t := s1) (Nat.le_refl _) (heap_alloc w3 (.cells (litPs s1).toArray 41))
          obtain ⟨v5, w5, hrun5, o5, g5, _⟩ := ho1.append 31 (HP3.out.old HGW.out hX1) (fun _ h => h) HGW.out (by show 1 + l.len ≤ _; omega) hX1.size hc
          rw [show (Pts.lit s1 .nil).app l = Pts.lit s1 l from rfl] at o5
          have hr5 := WrA.of hrun5
          have hb5 : Below w3.heap.size w3 w5 := hX1.grown g5 hX1.size (fun j hj => (ho1.lt hj).1)
          have d0a := (World.cell?_of_block (hX1.block w.heap.size (by omega))).trans d0
          unfold litPs at hr5 d0a
          have HS1 := Lib.hid hs1
          clear hs1
          obtain ⟨A5, c5, rfl, hl5, hm5, hat5⟩ := o5.at_
          rw [show (Pts.lit s1 l).len = l.len + 1 from rfl] at hr5
          have hb5w : Below w.heap.size w w5 := HBW.out.trans (hb5.mono HBW.out.size)
          have hs5 : w.heap.size + 1 ≤ w5.heap.size := by have := hb5.size; omega
          have hG5 : ∀ j, (Old w j ∨ (Value.slice A5 (Pts.lit s1 l).len c5).ownBlock = some j) → j < w5.heap.size := fun j hj => by
            rcases hj with hj | hj
            · exact Nat.lt_of_lt_of_le (HGW.out j hj) hb5.size
            · exact (o5.lt hj).2
          have d5 := (World.cell?_of_block (hb5.block w.heap.size (by omega))).trans d0
          have hbb : b < w3.heap.size := HGW.out b hgb
          have x0 := (World.cell?_of_block (hb5.block b hbb)).trans c0
          have x1 := (World.cell?_of_block (hb5.block b hbb)).trans c1
          have hli : (l.len : Int) ≤ 2097152 := by omega
          have htw : t.size ≤ 140737488355328 := by have h := Pts.mx_cons k t o kids cm rest; rw [← HL.out] at h; omega
          have n3 := World.new_ne w3 ⟨w.heap.size, 0, none⟩ d0
          by_cases hk1 : k = 1
          · have hkb : (k == 1) = true := by rw [hk1]; rfl
            subst hk1
            obtain ⟨s2, hs2⟩ : ∃ s2, s2 = s1 ++ t := ⟨_, rfl⟩
            have ht0 := (lit_bare (rest := rest) (cm := cm) HONE.out).2
            have hs2z : s2.size = s.size + 1 + t.size := by rw [hs2, app_size, hs1z]
            have hadd2 : ∀ X : World, (Op.stringOp .add s1 t).run Try.prog X = .ok (.string s2) X := fun X => by
              rw [hs2]
              exact run_string_add_sum (P := Try.prog) X s1 t (by omega)
            have hX2 : Below w5.heap.size w5 (w5.alloc (.cells (litPs s2).toArray 41)).drew := ((Below.refl _ _).alloc (Nat.le_refl _) _).drew
            have ho2 := lit_fresh (G := Old w) (B := w5.heap.size) (t := s2) (w := (w5.alloc (.cells (litPs s2).toArray 41)).drew) (Nat.le_refl _) (heap_alloc w5 (.cells (litPs s2).toArray 41))
            have hG5o : ∀ j, Old w j → j < w5.heap.size := fun j hj => hG5 j (.inl hj)
            have hbo : b < w5.heap.size := hG5o b hgb
            have n5 := World.new_ne w5 ⟨w.heap.size, 0, none⟩ d5
            have n5b := World.new_ne w5 ⟨b, off, none⟩ x0
            have HR5 := Lib.hid (HR0.out.old HGW.out hb5)
            have hcc : (1 : Int) ≤ (c : Int) := by omega
            have hcmi : (c : Int) ≤ 9223372036854775807 := by unfold maxLen at hcm; omega
            have hl1 : (1 : Int) ≤ (l.len : Int) := by omega
            have HS2 := Lib.hid hs2
            clear hl5 hm5 hat5 hG5 o5 g5 hrun5 ho1 hX1 hb5 c0 c1 hkb hs2
            by_cases hc1 : c = 1
            · have HR00 := Lib.hid (show rest = .nil from Pts.nil_of_len (by have := HLL.out; omega))
              subst hc1
              obtain ⟨v7, w7, hrun7, o7, g7, _⟩ := ho2.append (l2 := rest) (A := some ⟨b, off, none⟩) (c := 0) 31 (by rw [HR00.out]; trivial) (fun _ h => h) hG5o (by show 1 + rest.len ≤ _; have := HLL.out; omega) hX2.size (by have := HLL.out; omega)
              rw [show (Pts.lit s2 .nil).app rest = Pts.lit s2 rest from rfl] at o7
              have hb7 : Below w5.heap.size w5 w7 := hX2.grown g7 hX2.size (fun j hj => (ho2.lt hj).1)
              obtain ⟨A7, c7, rfl, hl7, hm7, hat7⟩ := o7.at_
              have hGX : ∀ j, (Old w j ∨ (Value.slice A7 (Pts.lit s2 rest).len c7).ownBlock = some j) → j < w7.heap.size := fun j hj => by
                rcases hj with hj | hj
                · exact Nat.lt_of_lt_of_le (hG5o j hj) hb7.size
                · exact (o7.lt hj).2
              have hbX : Below w.heap.size w w7 := hb5w.trans (hb7.mono hb5w.size)
              have dX := (World.cell?_of_block (hb7.block w.heap.size (by omega))).trans d5
              have hszX : w.heap.size + 1 ≤ w7.heap.size := by have := hb7.size; omega
              have HAS := Lib.hid (uassign_some s2 ⟨#[]⟩ .nil rest ⟨none, 0, 0⟩ s.size (by rw [HS2.out, HS1.out]; exact assign_eqs HN.out t) (by omega) A7 c7 _ w7 hGX hat7 hl7 (by have := HLL.out; omega) (by omega) hm7)
              have hUR : uRest s2 s.size rest = Pts.lit t rest := by
                unfold uRest
                rw [if_pos (by omega), ← hs1z, HS2.out, extract_tail]
              have hEX : s2.extract 0 s.size = s := by
                rw [HS2.out, HS1.out]
                apply ext_list
                rw [extract_list, app_list, app_list, size_list]
                simp
              have HUR := Lib.hid hUR; have HEX := Lib.hid hEX
              have hr7 := WrA.of hrun7
              rw [show (Pts.lit s2 rest).len = rest.len + 1 from rfl] at hr7
              rw [show rest.len = 0 by have := HLL.out; omega, Nat.zero_add] at hr7
              have HR1 := Lib.hid (show rest.len = 0 by have := HLL.out; omega)
              have d5a := (World.cell?_of_block (hX2.block w.heap.size (by omega))).trans d5
              have x0a := (World.cell?_of_block (hX2.block b hbo)).trans x0
              have x1a := (World.cell?_of_block (hX2.block b hbo)).trans x1
              unfold litPs at hr7 d5a x0a x1a
              clear hl7 hm7 hat7 o7 g7 hrun7 hb7 hUR hEX
              go_wp2_with fail
              go_region
              go_wp2_with fail
              have HAS2 := HAS.out
              rw [HR1.out, Nat.zero_add] at HAS2
              refine HAS2.mono ?_
              rintro e w6 ⟨v, he, hP, hb6⟩
              rw [HEX.out] at he
              rw [HUR.out] at hP
              subst he
              obtain ⟨A6, c6, rfl, _, _, hat6⟩ := hP.at_
              have hG6 : ∀ j, ((fun j => Old w j ∨ (Value.slice A7 (Pts.lit s2 rest).len c7).ownBlock = some j) j ∨ (Value.slice A6 (Pts.lit t rest).len c6).ownBlock = some j) → j < w6.heap.size := fun j hj => by
                rcases hj with hj | hj
                · exact Nat.lt_of_lt_of_le (hGX j hj) hb6.size
                · exact (hP.lt hj).2
              have hX7 : Below w6.heap.size w6 (w6.alloc (.cells #[.slice A6 (Pts.lit t rest).len c6] 33)) := (Below.refl _ _).alloc (Nat.le_refl _) _
              have hb7 : Below w.heap.size w (w6.alloc (.cells #[.slice A6 (Pts.lit t rest).len c6] 33)) := (hbX.trans (hb6.mono hbX.size)).alloc (Nat.le_trans hbX.size hb6.size) _
              have d6 := (World.cell?_of_block (hb6.block w.heap.size (by have := hszX; omega))).trans dX
              have HA7 := Lib.hid (hat6.old hG6 hX7)
              have HP7 := Lib.hid (HP.out.old (fun _ h => h) hb7)
              have HB7 := Lib.hid hb7
              have d7 := (World.cell?_of_block (hX7.block w.heap.size (by have := hb6.size; have := hszX; omega))).trans d6
              clear hat6 hG6 hX7 hb7 hP hb6 hbX dX hGX
              go_wp2_with fail
              refine (same_r (Pts.lit t rest) l A6 _ c6 1 _ _ _ (by have h := Pts.mx_cons 1 t o kids cm rest; rw [← HL.out] at h; show max (rest.len + 1) (max (max t.size 0) (max 0 (max 0 rest.mx))) ≤ _; omega) (by rw [HL.out]; exact (lit_bare HONE.out).1) HA7.out HP7.out).mono ?_
              rintro e w8 ⟨rfl, m8, hm8⟩
              have HB8 := Lib.hid (show Below w.heap.size w w8 by rw [hm8]; exact belowN HB7.out m8)
              clear hm8
              go_wp2_with fail
              refine (awake27 _).mono ?_
              rintro e w9 ⟨rfl, hb9⟩
              have HB9 := Lib.hid (HB8.out.trans (hb9.mono HB8.out.size))
              clear hb9
              go_wp2_with fail
              go_ret
              exact ⟨rfl, HB9.out⟩
            · have hcn : c - 1 ≠ 0 := by omega
              obtain ⟨v7, w7, hrun7, o7, g7, _⟩ := ho2.append (l2 := rest) (A := some ⟨b, off + 5, none⟩) (c := (c - 1)) 31 (HR5.out.old hG5o hX2) (fun _ h => h) hG5o (by show 1 + rest.len ≤ _; have := HLL.out; omega) hX2.size (by have := HLL.out; omega)
              rw [show (Pts.lit s2 .nil).app rest = Pts.lit s2 rest from rfl] at o7
              have hb7 : Below w5.heap.size w5 w7 := hX2.grown g7 hX2.size (fun j hj => (ho2.lt hj).1)
              obtain ⟨A7, c7, rfl, hl7, hm7, hat7⟩ := o7.at_
              have hGX : ∀ j, (Old w j ∨ (Value.slice A7 (Pts.lit s2 rest).len c7).ownBlock = some j) → j < w7.heap.size := fun j hj => by
                rcases hj with hj | hj
                · exact Nat.lt_of_lt_of_le (hG5o j hj) hb7.size
                · exact (o7.lt hj).2
              have hbX : Below w.heap.size w w7 := hb5w.trans (hb7.mono hb5w.size)
              have dX := (World.cell?_of_block (hb7.block w.heap.size (by omega))).trans d5
              have hszX : w.heap.size + 1 ≤ w7.heap.size := by have := hb7.size; omega
              have HAS := Lib.hid (uassign_some s2 ⟨#[]⟩ .nil rest ⟨none, 0, 0⟩ s.size (by rw [HS2.out, HS1.out]; exact assign_eqs HN.out t) (by omega) A7 c7 _ w7 hGX hat7 hl7 (by have := HLL.out; omega) (by omega) hm7)
              have hUR : uRest s2 s.size rest = Pts.lit t rest := by
                unfold uRest
                rw [if_pos (by omega), ← hs1z, HS2.out, extract_tail]
              have hEX : s2.extract 0 s.size = s := by
                rw [HS2.out, HS1.out]
                apply ext_list
                rw [extract_list, app_list, app_list, size_list]
                simp
              have HUR := Lib.hid hUR; have HEX := Lib.hid hEX
              have hr7 := WrA.of hrun7
              rw [show (Pts.lit s2 rest).len = rest.len + 1 from rfl] at hr7
              rw [show rest.len = l.len - 1 by have := HLL.out; omega] at hr7
              have HR1 := Lib.hid (show rest.len = l.len - 1 by have := HLL.out; omega)
              have d5a := (World.cell?_of_block (hX2.block w.heap.size (by omega))).trans d5
              have x0a := (World.cell?_of_block (hX2.block b hbo)).trans x0
              have x1a := (World.cell?_of_block (hX2.block b hbo)).trans x1
              unfold litPs at hr7 d5a x0a x1a
              clear hl7 hm7 hat7 o7 g7 hrun7 hb7 hUR hEX
              go_wp2_with fail
              go_region
              go_wp2_with fail
              have HAS2 := HAS.out
              rw [HR1.out] at HAS2
              refine HAS2.mono ?_
              rintro e w6 ⟨v, he, hP, hb6⟩
              rw [HEX.out] at he
              rw [HUR.out] at hP
              subst he
              obtain ⟨A6, c6, rfl, _, _, hat6⟩ := hP.at_
              have hG6 : ∀ j, ((fun j => Old w j ∨ (Value.slice A7 (Pts.lit s2 rest).len c7).ownBlock = some j) j ∨ (Value.slice A6 (Pts.lit t rest).len c6).ownBlock = some j) → j < w6.heap.size := fun j hj => by
                rcases hj with hj | hj
                · exact Nat.lt_of_lt_of_le (hGX j hj) hb6.size
                · exact (hP.lt hj).2
              have hX7 : Below w6.heap.size w6 (w6.alloc (.cells #[.slice A6 (Pts.lit t rest).len c6] 33)) := (Below.refl _ _).alloc (Nat.le_refl _) _
              have hb7 : Below w.heap.size w (w6.alloc (.cells #[.slice A6 (Pts.lit t rest).len c6] 33)) := (hbX.trans (hb6.mono hbX.size)).alloc (Nat.le_trans hbX.size hb6.size) _
              have d6 := (World.cell?_of_block (hb6.block w.heap.size (by have := hszX; omega))).trans dX
              have HA7 := Lib.hid (hat6.old hG6 hX7)
              have HP7 := Lib.hid (HP.out.old (fun _ h => h) hb7)
              have HB7 := Lib.hid hb7
              have d7 := (World.cell?_of_block (hX7.block w.heap.size (by have := hb6.size; have := hszX; omega))).trans d6
              clear hat6 hG6 hX7 hb7 hP hb6 hbX dX hGX
              go_wp2_with fail
              refine (same_r (Pts.lit t rest) l A6 _ c6 c _ _ _ (by have h := Pts.mx_cons 1 t o kids cm rest; rw [← HL.out] at h; show max (rest.len + 1) (max (max t.size 0) (max 0 (max 0 rest.mx))) ≤ _; omega) (by rw [HL.out]; exact (lit_bare HONE.out).1) HA7.out HP7.out).mono ?_
              rintro e w8 ⟨rfl, m8, hm8⟩
              have HB8 := Lib.hid (show Below w.heap.size w w8 by rw [hm8]; exact belowN HB7.out m8)
              clear hm8
              go_wp2_with fail
              refine (awake27 _).mono ?_
              rintro e w9 ⟨rfl, hb9⟩
              have HB9 := Lib.hid (HB8.out.trans (hb9.mono HB8.out.size))
              clear hb9
              go_wp2_with fail
              go_ret
              exact ⟨rfl, HB9.out⟩
          · have hkb : (k == 1) = false := by simpa using hk1
            have HAS := Lib.hid (uassign_some s1 ⟨#[]⟩ .nil l ⟨none, 0, 0⟩ s.size (by rw [HS1.out]; exact assign_eqs0 HN.out) (by omega) A5 c5 _ w5 hG5 hat5 hl5 (by omega) (by omega) hm5)
            have HUR := Lib.hid (show uRest s1 s.size l = l from if_neg (by omega))
            have HEX := Lib.hid (show s1.extract 0 s.size = s by rw [HS1.out]; exact extract_head s _)
            have hGX := hG5
            have hbX := hb5w
            have dX := d5
            have hszX := hs5
            clear hl5 hm5 hat5 hG5 o5 g5 hrun5 ho1 hX1 hb5 c0 c1 hk1
            go_wp2_with fail
            refine HAS.out.mono ?_
            rintro e w6 ⟨v, he, hP, hb6⟩
            rw [HEX.out] at he
            rw [HUR.out] at hP
            subst he
            obtain ⟨A6, c6, rfl, _, _, hat6⟩ := hP.at_
            have hG6 : ∀ j, ((fun j => Old w j ∨ (Value.slice A5 (Pts.lit s1 l).len c5).ownBlock = some j) j ∨ (Value.slice A6 l.len c6).ownBlock = some j) → j < w6.heap.size := fun j hj => by
              rcases hj with hj | hj
              · exact Nat.lt_of_lt_of_le (hGX j hj) hb6.size
              · exact (hP.lt hj).2
            have hX7 : Below w6.heap.size w6 (w6.alloc (.cells #[.slice A6 l.len c6] 33)) := (Below.refl _ _).alloc (Nat.le_refl _) _
            have hb7 : Below w.heap.size w (w6.alloc (.cells #[.slice A6 l.len c6] 33)) := (hbX.trans (hb6.mono hbX.size)).alloc (Nat.le_trans hbX.size hb6.size) _
            have d6 := (World.cell?_of_block (hb6.block w.heap.size (by have := hszX; omega))).trans dX
            have HA7 := Lib.hid (hat6.old hG6 hX7)
            have HP7 := Lib.hid (HP.out.old (fun _ h => h) hb7)
            have HB7 := Lib.hid hb7
            have d7 := (World.cell?_of_block (hX7.block w.heap.size (by have := hb6.size; have := hszX; omega))).trans d6
            clear hat6 hG6 hX7 hb7 hP hb6 hbX dX hGX
            go_wp2_with fail
            refine (same_r l l A6 _ c6 c _ _ _ (by omega) rfl HA7.out HP7.out).mono ?_
            rintro e w8 ⟨rfl, m8, hm8⟩
            have HB8 := Lib.hid (show Below w.heap.size w w8 by rw [hm8]; exact belowN HB7.out m8)
            clear hm8
            go_wp2_with fail
            refine (awake27 _).mono ?_
            rintro e w9 ⟨rfl, hb9⟩
            have HB9 := Lib.hid (HB8.out.trans (hb9.mono HB8.out.size))
            clear hb9
            go_wp2_with fail
            go_ret
            exact ⟨rfl, HB9.out⟩
  · go_wp2_with fail
    refine (awake27 _).mono ?_
    rintro e w3 ⟨rfl, hb3⟩
    go_wp2_with fail
    go_ret
    exact ⟨rfl, HB2.out.trans (hb3.mono HB2.out.size)⟩
end Go.Proofs.Ytpefkhbejjndeaa
