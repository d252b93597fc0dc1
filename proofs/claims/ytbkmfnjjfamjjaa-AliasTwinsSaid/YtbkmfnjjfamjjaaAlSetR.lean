/- The document's Set, walked. -/
import Derived.Test.YtbkmfnjjfamjjaaAlUnset
import Derived.Deep.DeepCutAuto
namespace Go.Proofs.Ytbkmfnjjfamjjaa
open Go.RowKit
attribute [local go_sem ↓] wp_append_wr

theorem less_to (pn s : ByteArray) : Op.bytesLess pn.toList s.toList = bytesBefore pn.data.toList s.data.toList := by rw [Lib.toList_data, Lib.toList_data, less_before]

theorem arow_one {w : World} {g : Nat} {s v : ByteArray} (h : w.heap[g]? = some (.cells #[.string s, .string v] 49 (0, 0))) : Arow g w (.slice (some ⟨g, 0, none⟩) 1 1) [(s, v)] :=
  Arow.fresh (L := [(s, v)]) (Nat.le_refl _) h (by show 1 ≤ maxLen; unfold maxLen; omega)

theorem AlAt.below {w w' : World} {A : Option Addr} {L : Al} (h : AlAt w A L) (hb : Below w.heap.size w w') : AlAt w' A L := fun i p hp => by
  obtain ⟨b, off, rfl, h1, h2⟩ := h i p hp
  have hc := hb.block b (block_lt_of_cell h1)
  exact ⟨b, off, rfl, (World.cell?_of_block hc).trans h1, (World.cell?_of_block hc).trans h2⟩
theorem Arow.shape2 {B : Nat} {w : World} {v : Value} {L : Al} (h : Arow B w v L) : (v = .slice Option.none 0 0 ∧ L = []) ∨ ∃ g c, v = .slice (some ⟨g, 0, Option.none⟩) L.length c ∧ L.length ≤ c ∧ c ≤ maxLen := by
  rcases h.2 with ⟨rfl, hn⟩ | ⟨g, cap, cur, rfl, _, _, hc, hm, _⟩
  · exact .inl ⟨rfl, List.eq_nil_of_length_eq_zero hn⟩
  · exact .inr ⟨g, cap, rfl, hc, hm⟩
theorem AlAt.mk2 {w : World} {A : Option Addr} {L : Al} (h : AlAt w A L) (k : Nat) : L.drop k = [] ∨ ∃ b off, A = some ⟨b, off, Option.none⟩ := by
  by_cases hk : L.length ≤ k
  · exact .inl (List.drop_eq_nil_of_le hk)
  · obtain ⟨b, off, rfl, _⟩ := h k _ (List.getElem?_eq_getElem (by omega))
    exact .inr ⟨b, off, rfl⟩

/-- The three appends. -/
theorem set_appends {w : World} {A A' : Option Addr} {c c' k n : Nat} {L : Al} (s v : ByteArray) (hk : k ≤ L.length) (hn : L.length - k = n) (hat : AlAt w A L) (hat' : AlAt w A' (L.drop k)) (hc : L.length ≤ c) (hc' : n ≤ c') (hL : L.length ≤ 549755813888) :
    ∃ v3 w3 v4 w4 A5 c5 w5, WrA Try.prog #[26, 26] 26 #[.slice (some ⟨w.heap.size, 0, Option.none⟩) 1 1, .slice A' n c'] (w.alloc (.cells #[.string s, .string v] 49)) = .ok v3 w3 ∧
      WrA Try.prog #[26, 26] 26 #[.slice (some ⟨w3.heap.size, 0, Option.none⟩) 0 0, .slice A k c] (w3.alloc (.cells #[] 49)) = .ok v4 w4 ∧
      WrA Try.prog #[26, 26] 26 #[v4, v3] w4 = .ok (.slice A5 (L.length + 1) c5) w5 ∧
      Arow w.heap.size w5 (.slice A5 (L.length + 1) c5) (L.take k ++ (s, v) :: L.drop k) ∧ Below w.heap.size w w3 ∧ Below w.heap.size w w5 := by
  have hd : (L.drop k).length = n := by rw [List.length_drop, hn]
  have ht : (L.take k).length = k := by rw [List.length_take]; omega
  have hb0 : Below w.heap.size w (w.alloc (.cells #[.string s, .string v] 49)) := (Below.refl _ _).alloc (Nat.le_refl _) _
  have ho0 := arow_one (s := s) (v := v) (heap_alloc w (.cells #[.string s, .string v] 49))
  obtain ⟨v3, w3, r3, o3, g3, _⟩ := ho0.append (hat'.below hb0) (c := c') (by rw [hd]; simp; omega) (by simp) (by rw [hd]; exact hc')
  have hb3 : Below w.heap.size w w3 := hb0.grown g3 (by simp) (fun g hg => (ho0.lt hg).1)
  have hb4' : Below w3.heap.size w3 (w3.alloc (.cells #[] 49)) := (Below.refl _ _).alloc (Nat.le_refl _) _
  have o4' := Arow.start (B := w3.heap.size) (Nat.le_refl _) (heap_alloc w3 (.cells #[] 49))
  obtain ⟨v4, w4, r4, o4, g4, _⟩ := o4'.append (((hat.below hb3).below hb4').take k) (c := c) (by rw [ht]; simp; omega) (by simp) (by rw [ht]; omega)
  have hb4 : Below w3.heap.size w3 w4 := hb4'.grown g4 (by simp) (fun g hg => (o4'.lt hg).1)
  obtain ⟨A3, c3, rfl, hc3, _, hat3⟩ := o3.shape
  obtain ⟨v5, w5, r5, o5, g5, _⟩ := o4.append (hat3.below hb4) (c := c3) (by rw [List.nil_append, ht, List.length_append, hd]; simp; omega) hb4.size hc3
  have hb5 : Below w3.heap.size w3 w5 := hb4.grown g5 hb4.size (fun g hg => (o4.lt hg).1)
  have hlen : (([] : Al) ++ L.take k ++ ([(s, v)] ++ L.drop k)).length = L.length + 1 := by rw [List.nil_append, List.length_append, ht, List.length_append, hd]; simp; omega
  obtain ⟨A5, c5, rfl, _⟩ := o5.shape
  rw [hlen] at r5 o5
  rw [hd] at r3
  rw [ht] at r4
  exact ⟨_, w3, v4, w4, A5, c5, w5, r3, r4, r5, by rw [List.nil_append] at o5; exact o5.base hb3.size, hb3, hb3.trans (hb5.mono hb3.size)⟩

set_option maxRecDepth 100000 in
set_option maxHeartbeats 8000000 in
theorem set_r (h : Nat) (L : Al) (s v : ByteArray) (w : World) (hr : RTab w h L) (hri : L.Rising) (hs : s.size ≤ 1099511627776) (hv : v.size ≤ 1099511627776) (hL : L.length ≤ 549755813888) : Calls Try.prog 10 #[.pointer (some ⟨h, 0, none⟩), .string s, .string v] w fun e w' => e = .returned (.int .i64 (L.setE s v)) ∧ RTab w' h (L.setL s v) ∧ w.grownBy w' (some h) := by
  have HR := Lib.hid hr
  have HRI := Lib.hid hri
  have hno : ∀ {k : Int}, L.setE s v = k → k ≠ 0 → L.setL s v = L := fun h1 h2 => by unfold Al.setL; rw [h1, if_neg h2]
  have hc0 : ∃ A c, w.cell? ⟨h, 0, none⟩ = some (.slice A L.length c) := by
    obtain ⟨v, hh, ha⟩ := hr
    obtain ⟨A, c, rfl, hc, hm, hat⟩ := ha.shape
    exact ⟨A, c, by simp [World.cell?, hh]⟩
  clear hr hri
  cases hp : Chr.plain s.toList
  · have HE := Lib.hid (show L.setE s v = 10 by unfold Al.setE; rw [if_pos hp])
    have HN := Lib.hid (hno HE.out (by decide)); clear hno hc0
    go_enter Try.func10, Try.ntmps10
    go_wp2_with (refine (plain_r s w (by omega)).mono ?_; rintro e w1 ⟨rfl, rfl⟩)
    go_ret
    exact ⟨ret_int HE.out.symm, by rw [HN.out]; exact HR.out, World.grownBy.refl _ _⟩
  · by_cases hlong : 24 < s.size ∨ 200 < v.size
    · have HE := Lib.hid (show L.setE s v = 5 by unfold Al.setE; rw [if_neg (by rw [hp]; decide), if_pos hlong])
      have HN := Lib.hid (hno HE.out (by decide)); clear hno hc0
      by_cases h1 : 24 < s.size
      · have h1' : (24 : Int) < (s.size : Int) := by omega
        clear hlong
        go_enter Try.func10, Try.ntmps10
        go_wp2_with (refine (plain_r s w (by omega)).mono ?_; rintro e w1 ⟨rfl, rfl⟩)
        go_ret
        exact ⟨ret_int HE.out.symm, by rw [HN.out]; exact HR.out, World.grownBy.refl _ _⟩
      · have h2' : (200 : Int) < (v.size : Int) := by omega
        have h1' : ¬ (24 : Int) < (s.size : Int) := by omega
        clear hlong
        go_enter Try.func10, Try.ntmps10
        go_wp2_with (refine (plain_r s w (by omega)).mono ?_; rintro e w1 ⟨rfl, rfl⟩)
        go_ret
        exact ⟨ret_int HE.out.symm, by rw [HN.out]; exact HR.out, World.grownBy.refl _ _⟩
    · have h1' : ¬ (24 : Int) < (s.size : Int) := by omega
      have h2' : ¬ (200 : Int) < (v.size : Int) := by omega
      cases hu : nul v
      · by_cases hf : L.has s = false ∧ 40 ≤ L.length
        · have HE := Lib.hid (show L.setE s v = 14 by unfold Al.setE; rw [if_neg (by rw [hp]; decide), if_neg hlong, if_neg (by rw [hu]; decide), if_pos hf])
          have HN := Lib.hid (hno HE.out (by decide)); clear hno
          obtain ⟨hf1, hf2⟩ := hf
          obtain ⟨A, c, c0⟩ := hc0
          have hf2' : (40 : Int) ≤ (L.length : Int) := by omega
          clear hlong hf2
          go_enter Try.func10, Try.ntmps10
          go_wp2_with (first | (refine (plain_r s w (by omega)).mono ?_; rintro e w1 ⟨rfl, rfl⟩) | (refine (has_r v w (by omega)).mono ?_; rintro e w1 ⟨rfl, rfl⟩) | (refine (get_r h L s w HR.out (by omega)).mono ?_; rintro e w1 ⟨rfl, rfl⟩))
          go_ret
          exact ⟨ret_int HE.out.symm, by rw [HN.out]; exact HR.out, World.grownBy.refl _ _⟩
        · have HE := Lib.hid (show L.setE s v = 0 by unfold Al.setE; rw [if_neg (by rw [hp]; decide), if_neg hlong, if_neg (by rw [hu]; decide), if_neg hf])
          have HN := Lib.hid (show L.setL s v = L.put s v by unfold Al.setL; rw [if_pos HE.out]); clear hno
          have HCA := Lib.hid (show L.has s = true ∨ (L.has s = false ∧ ¬ (40 : Int) ≤ (L.length : Int)) by
            cases hh : L.has s
            · exact .inr ⟨rfl, fun hc => hf ⟨hh, by omega⟩⟩
            · exact .inl rfl)
          obtain ⟨A, c, c0⟩ := hc0
          clear hlong hf
          go_enter Try.func10, Try.ntmps10
          go_wp2_with fail
          refine (plain_r s w (by omega)).mono ?_
          rintro e w1 ⟨rfl, rfl⟩
          go_wp2_with fail
          refine (has_r v w (by omega)).mono ?_
          rintro e w1 ⟨rfl, rfl⟩
          go_wp2_with fail
          refine (get_r h L s w HR.out (by omega)).mono ?_
          rintro e w1 ⟨rfl, rfl⟩
          have hun := unset_r h L s w HR.out HRI.out (by omega)
          have hld := Al.length_del L s HRI.out
          have hhd := Al.has_del L s
          have HPUT := Lib.hid (show L.put s v = Al.ins (s, v) (L.del s) from rfl)
          have hL' : (L.del s).length ≤ 549755813888 := by split at hld <;> omega
          clear hld
          revert hun hhd HPUT hL'
          generalize L.del s = M
          intro hun hhd HPUT hL'
          have HHD := Lib.hid hhd
          clear hhd
          rcases HCA.out with hh | ⟨hh, hf2'⟩
          all_goals
            go_wp2_with fail
            refine hun.mono ?_
            rintro e w2 ⟨rfl, ⟨v2, hh2, ha2⟩, hg2⟩
            have HG2 := Lib.hid hg2
            have hlt2 : h < w2.heap.size := (Array.getElem?_eq_some_iff.1 hh2).1
            obtain ⟨q2, f2⟩ := cell_of hh2
            have n2 := World.new_ne w2 ⟨h, 0, none⟩ q2
            obtain ⟨A2, c2, hv2, hc2, hm2, hat2⟩ := ha2.shape
            rcases ha2.shape2 with ⟨rfl, hM⟩ | ⟨g, c3, rfl, _, _⟩
            · subst hM
              obtain ⟨v3, w3, v4, w4, A5, c5, w5, r3, r4, r5, o5, hb3, hb5⟩ := set_appends (w := w2) (A := none) (A' := none) (c := 0) (c' := 0) (k := 0) (n := 0) (L := []) s v (Nat.le_refl _) rfl (fun i p hp => by simp at hp) (fun i p hp => by simp at hp) (Nat.le_refl _) (Nat.le_refl _) (by simp)
              have q3 : w3.cell? ⟨h, 0, none⟩ = some (.slice none 0 0) := (World.cell?_of_block (hb3.block h hlt2)).trans q2
              have q3a : (w3.alloc (.cells #[] 49)).cell? ⟨h, 0, none⟩ = some (.slice none 0 0) := (World.cell?_of_block (Below.heap_alloc _ _ _ (Nat.lt_of_lt_of_le hlt2 hb3.size))).trans q3
              have hh5 := (hb5.block h hlt2).trans hh2
              obtain ⟨q5, f5⟩ := cell_of hh5
              have HB5 := Lib.hid hb5; have HH5 := Lib.hid hh5; have H5 := Lib.hid o5
              clear hg2 hh2 ha2 hat2 hb3 hb5 hh5 o5 hun
              go_wp2_with fail
              go_loop [9] (fun i => i = .int .i64 0) (fun _ => 0)
              case atStart => rfl
              case round =>
                subst hrel
                go_wp2_with fail
                go_ret
                exact ⟨ret_int HE.out.symm, by rw [HN.out, HPUT.out]; exact RTab.store HH5.out (H5.out.base (by omega)), World.grownBy.trans HG2.out (grow_set HB5.out)⟩
            · have HAT := Lib.hid hat2
              obtain ⟨e1, e2⟩ : A2 = some ⟨g, 0, none⟩ ∧ c2 = c3 := by injection hv2 with e1 _ e2; exact ⟨e1.symm, e2.symm⟩
              subst e1 e2
              have HH2 := Lib.hid hh2; have HA2 := Lib.hid ha2
              clear hg2 hh2 ha2 hat2 hv2 hun
              go_wp2_with fail
              go_loop [9] (fun i => ∃ k : Nat, k ≤ M.length ∧ i = .int .i64 k ∧ ∀ p ∈ M.take k, bytesBefore p.1.data.toList s.data.toList = true) (fun i => M.length - (intOf i).toNat)
              case atStart => exact ⟨0, by omega, rfl, fun p hp => by simp at hp⟩
              case round =>
                obtain ⟨k, hk, rfl, hbf⟩ := hrel
                have HBF := Lib.hid hbf
                clear hbf
                have hend : (∀ p r, M.drop k = p :: r → bytesBefore p.1.data.toList s.data.toList = false) → Al.put L s v = M.take k ++ (s, v) :: M.drop k := fun hx => HPUT.out.trans (Al.ins_at k M HHD.out hk HBF.out hx)
                have HEND := Lib.hid hend
                clear hend
                have hk0 : (0 : Int) ≤ (k : Int) := by omega
                have hkc : (k : Int) ≤ (c2 : Int) := by omega
                have hkl : (k : Int) ≤ (M.length : Int) := by omega
                by_cases hlt : k < M.length
                · obtain ⟨b, off, hbo, z1, z2⟩ := HAT.out k M[k] (List.getElem?_eq_getElem hlt)
                  obtain ⟨e1, e2⟩ : g = b ∧ off = 0 := by injection hbo with h1; injection h1 with h1 h2; exact ⟨h1, h2.symm⟩
                  subst e1 e2
                  rw [Nat.zero_add] at z1
                  have HDK := Lib.hid (List.drop_eq_getElem_cons hlt)
                  have HTK := Lib.hid (show M.take (k + 1) = M.take k ++ [M[k]] from List.take_succ_eq_append_getElem hlt)
                  clear hbo z2
                  generalize M[k] = p at *
                  obtain ⟨pn, pv⟩ := p
                  cases hq : Op.bytesLess pn.toList s.toList
                  · have HQ := Lib.hid (show bytesBefore pn.data.toList s.data.toList = false by rw [← less_to]; exact hq)
                    have hck : ¬ c2 = k := by omega
                    have hcl : c2 - k ≠ 0 := by omega
                    have HPU := Lib.hid (HEND.out (fun p r hd => by rw [HDK.out] at hd; injection hd with e _; rw [← e]; exact HQ.out))
                    obtain ⟨v3, w3, v4, w4, A5, c5, w5, r3, r4, r5, o5, hb3, hb5⟩ := set_appends (w := w2) (A := some ⟨g, 0, none⟩) (A' := some ⟨g, k * 2, none⟩) (c := c2) (c' := c2 - k) (k := k) (n := M.length - k) (L := M) s v hk rfl HAT.out (by have := HAT.out.drop k; rwa [Nat.zero_add] at this) hc2 (by omega) hL'
                    have q3 : w3.cell? ⟨h, 0, none⟩ = some (.slice (some ⟨g, 0, none⟩) M.length c2) := (World.cell?_of_block (hb3.block h hlt2)).trans q2
                    have q3a : (w3.alloc (.cells #[] 49)).cell? ⟨h, 0, none⟩ = some (.slice (some ⟨g, 0, none⟩) M.length c2) := (World.cell?_of_block (Below.heap_alloc _ _ _ (Nat.lt_of_lt_of_le hlt2 hb3.size))).trans q3
                    have hh5 := (hb5.block h hlt2).trans HH2.out
                    obtain ⟨q5, f5⟩ := cell_of hh5
                    have HB5 := Lib.hid hb5; have HH5 := Lib.hid hh5; have H5 := Lib.hid o5
                    clear hb3 hb5 hh5 o5
                    go_wp2_with fail
                    go_ret
                    exact ⟨ret_int HE.out.symm, by rw [HN.out, HPU.out]; exact RTab.store HH5.out (H5.out.base (by omega)), World.grownBy.trans HG2.out (grow_set HB5.out)⟩
                  · have HQ := Lib.hid (show bytesBefore pn.data.toList s.data.toList = true by rw [← less_to]; exact hq)
                    go_wp2_with fail
                    go_round
                    case rel =>
                      refine ⟨k + 1, by omega, by go_num, ?_⟩
                      rw [HTK.out]
                      intro p hp
                      rcases List.mem_append.1 hp with hp | hp
                      · exact HBF.out p hp
                      · rw [List.mem_singleton.1 hp]; exact HQ.out
                    case measure => simp only [intOf]; omega
                · by_cases hck : c2 = k
                  · have hLn : M.length - k = 0 := by omega
                    have HPU := Lib.hid (HEND.out (fun p r hd => by rw [List.drop_eq_nil_of_le (by omega)] at hd; cases hd))
                    obtain ⟨v3, w3, v4, w4, A5, c5, w5, r3, r4, r5, o5, hb3, hb5⟩ := set_appends (w := w2) (A := some ⟨g, 0, none⟩) (A' := some ⟨g, 0, none⟩) (c := c2) (c' := 0) (k := k) (n := 0) (L := M) s v hk (by omega) HAT.out (AlAt.none (List.drop_eq_nil_of_le (by omega))) hc2 (Nat.le_refl _) hL'
                    have q3 : w3.cell? ⟨h, 0, none⟩ = some (.slice (some ⟨g, 0, none⟩) M.length c2) := (World.cell?_of_block (hb3.block h hlt2)).trans q2
                    have q3a : (w3.alloc (.cells #[] 49)).cell? ⟨h, 0, none⟩ = some (.slice (some ⟨g, 0, none⟩) M.length c2) := (World.cell?_of_block (Below.heap_alloc _ _ _ (Nat.lt_of_lt_of_le hlt2 hb3.size))).trans q3
                    have hh5 := (hb5.block h hlt2).trans HH2.out
                    obtain ⟨q5, f5⟩ := cell_of hh5
                    have HB5 := Lib.hid hb5; have HH5 := Lib.hid hh5; have H5 := Lib.hid o5
                    clear hb3 hb5 hh5 o5
                    subst hck
                    go_wp2_with fail
                    go_ret
                    exact ⟨ret_int HE.out.symm, by rw [HN.out, HPU.out]; exact RTab.store HH5.out (H5.out.base (by omega)), World.grownBy.trans HG2.out (grow_set HB5.out)⟩
                  · have hcl : c2 - k ≠ 0 := by omega
                    have HPU := Lib.hid (HEND.out (fun p r hd => by rw [List.drop_eq_nil_of_le (by omega)] at hd; cases hd))
                    obtain ⟨v3, w3, v4, w4, A5, c5, w5, r3, r4, r5, o5, hb3, hb5⟩ := set_appends (w := w2) (A := some ⟨g, 0, none⟩) (A' := some ⟨g, k * 2, none⟩) (c := c2) (c' := c2 - k) (k := k) (n := M.length - k) (L := M) s v hk rfl HAT.out (by have := HAT.out.drop k; rwa [Nat.zero_add] at this) hc2 (by omega) hL'
                    have q3 : w3.cell? ⟨h, 0, none⟩ = some (.slice (some ⟨g, 0, none⟩) M.length c2) := (World.cell?_of_block (hb3.block h hlt2)).trans q2
                    have q3a : (w3.alloc (.cells #[] 49)).cell? ⟨h, 0, none⟩ = some (.slice (some ⟨g, 0, none⟩) M.length c2) := (World.cell?_of_block (Below.heap_alloc _ _ _ (Nat.lt_of_lt_of_le hlt2 hb3.size))).trans q3
                    have hh5 := (hb5.block h hlt2).trans HH2.out
                    obtain ⟨q5, f5⟩ := cell_of hh5
                    have HB5 := Lib.hid hb5; have HH5 := Lib.hid hh5; have H5 := Lib.hid o5
                    clear hb3 hb5 hh5 o5
                    go_wp2_with fail
                    go_ret
                    exact ⟨ret_int HE.out.symm, by rw [HN.out, HPU.out]; exact RTab.store HH5.out (H5.out.base (by omega)), World.grownBy.trans HG2.out (grow_set HB5.out)⟩
      · have HE := Lib.hid (show L.setE s v = 2 by unfold Al.setE; rw [if_neg (by rw [hp]; decide), if_neg hlong, if_pos hu])
        have HN := Lib.hid (hno HE.out (by decide)); clear hno hc0
        clear hlong
        go_enter Try.func10, Try.ntmps10
        go_wp2_with (first | (refine (plain_r s w (by omega)).mono ?_; rintro e w1 ⟨rfl, rfl⟩) | (refine (has_r v w (by omega)).mono ?_; rintro e w1 ⟨rfl, rfl⟩))
        go_ret
        exact ⟨ret_int HE.out.symm, by rw [HN.out]; exact HR.out, World.grownBy.refl _ _⟩
end Go.Proofs.Ytbkmfnjjfamjjaa
