/- conchlaw36.AliasTwins, walked: true, whatever the calls. -/
import Derived.Test.YtbkmfnjjfamjjaaAlDoes
namespace Go.Proofs.Ytbkmfnjjfamjjaa
open Go.RowKit Go.Maps

theorem AlAt.grown {w w' : World} {A : Option Addr} {L M : Al} {g b : Nat} (h : AlAt w A L) (ht : Tab w g b M) (hg : w.grownBy w' (some b)) : AlAt w' A L := fun i p hp => by
  obtain ⟨bk, off, rfl, h1, h2⟩ := h i p hp
  have hne : bk ≠ b := by
    intro e; subst e
    obtain ⟨_, es, clock, hb, _⟩ := ht
    simp [World.cell?, hb] at h1
  have hc : ∀ o, w'.cell? ⟨bk, o, Option.none⟩ = w.cell? ⟨bk, o, Option.none⟩ := fun o => World.cell?_of_block (hg.block bk (block_lt_of_cell h1) (by intro e; injection e with e; exact hne e))
  exact ⟨bk, off, rfl, (hc _).trans h1, (hc _).trans h2⟩

set_option maxRecDepth 100000 in
set_option maxHeartbeats 8000000 in
theorem aliasTwins_walk (l : List Opv) (A : Option Addr) (c : Nat) (s : ByteArray) (w : World) (hp : OpsAt w A l) : Calls Try.prog 5 #[.slice A l.length c, .string s] w fun e w' => e = .returned (.bool true) ∧ Below w.heap.size w w' := by
  have HP := Lib.hid hp
  clear hp
  by_cases hbig : 1000 < s.size
  · have hbi : (1000 : Int) < (s.size : Int) := by omega
    go_enter Try.func5, Try.ntmps5
    go_wp2_with fail
    refine (awake36 _).mono ?_
    rintro e w2 ⟨rfl, hb2⟩
    go_wp2_with fail
    go_ret
    exact ⟨rfl, hb2⟩
  · have hbi : ¬ (1000 : Int) < (s.size : Int) := by omega
    go_enter Try.func5, Try.ntmps5
    go_wp2_with fail
    refine (new_p w).mono ?_
    rintro e w1 ⟨rfl, t1, b1⟩
    have HT0 := Lib.hid t1; have HB0 := Lib.hid b1
    clear t1 b1
    go_wp2_with fail
    go_loopw [6] (fun i wr => ∃ (k : Nat) (L : Al), k ≤ l.length ∧ i = .int .i64 k ∧ L.length ≤ k ∧ k ≤ 40 ∧ Tab wr (w.heap.size + 1) w.heap.size L ∧ Below w.heap.size w wr) (fun i _ => l.length - (intOf i).toNat)
    case atStart => exact ⟨0, [], by omega, rfl, Nat.le_refl _, by omega, HT0.out, HB0.out⟩
    case round =>
      obtain ⟨k, L, hk, rfl, hLk, hk40, ht, hb⟩ := hrel
      have HT := Lib.hid ht; have HB := Lib.hid hb
      clear ht hb
      by_cases hlt : k < l.length ∧ k < 40
      · obtain ⟨hlt, hlt40⟩ := hlt
        obtain ⟨op, hop⟩ : ∃ op, l[k]? = some op := ⟨_, List.getElem?_eq_getElem hlt⟩
        have HOP := Lib.hid hop
        clear hop
        obtain ⟨ob, off, rfl, hob, z0, z1, z2⟩ := (HP.out.below HB.out) k op HOP.out
        have hlti : (k : Int) < (l.length : Int) := by omega
        have hlt4 : (k : Int) < 40 := by omega
        by_cases h1 : op.n.size ≤ 1000
        · have h1i : (op.n.size : Int) ≤ 1000 := by omega
          by_cases h2 : op.v.size ≤ 1000
          · have h2i : (op.v.size : Int) ≤ 1000 := by omega
            have HZ := Lib.hid (show ∀ X, Below w.heap.size w X → X.cell? ⟨ob, off + k * 3 + 1, none⟩ = some (.string op.n) ∧ X.cell? ⟨ob, off + k * 3 + 2, none⟩ = some (.string op.v) from fun X hX => by
              obtain ⟨b', off', e, _, _, y1, y2⟩ := (HP.out.below hX) k op HOP.out
              cases e
              exact ⟨y1, y2⟩)
            have HTD := Lib.hid (show Tab wr.drew (w.heap.size + 1) w.heap.size L from HT.out)
            have R0 := Lib.hid (show Below w.heap.size w wr.drew from HB.out.drew)
            have HRI := Lib.hid HT.out.2.rising
            go_wp2_with fail
            go_region_held3 (fun X => X.cell? ⟨ob, off + k * 3 + 1, none⟩ = some (.string op.n) ∧ X.cell? ⟨ob, off + k * 3 + 2, none⟩ = some (.string op.v))
              (exact HZ.out _ (by first | exact hb1 | exact R0.out))
              (first
                | (go_at_call 9
                   refine Calls.mono (set_p _ _ L op.n op.v _ HTD.out (by omega) (by omega) (by omega)) ?_
                   rintro e x1 ⟨rfl, ht1, hg1⟩
                   have hb1 : Below w.heap.size w x1 := R0.out.grown hg1 R0.out.size (fun k hk => by cases hk; exact Nat.le_refl _)
                   have HT1 := Lib.hid ht1
                   clear ht1 hg1
                   dsimp only))
            go_wp2_with fail
            go_roundw
            case rel => exact ⟨k + 1, L.setL op.n op.v, by omega, by go_num, Nat.le_trans (Al.length_setL L _ _ HRI.out) (by omega), by omega, HT1.out, hb1⟩
            case measure => simp only [intOf]; omega
          · have h2i : ¬ (op.v.size : Int) ≤ 1000 := by omega
            go_wp2_with fail
            go_roundw
            case rel => exact ⟨k + 1, L, by omega, by go_num, by omega, by omega, HT.out, HB.out⟩
            case measure => simp only [intOf]; omega
        · have h1i : ¬ (op.n.size : Int) ≤ 1000 := by omega
          go_wp2_with fail
          go_roundw
          case rel => exact ⟨k + 1, L, by omega, by go_num, by omega, by omega, HT.out, HB.out⟩
          case measure => simp only [intOf]; omega
      · have hend : ¬ k < l.length ∨ (k < l.length ∧ ¬ (k : Int) < 40) := by omega
        have hL40 : L.length ≤ 40 := by omega
        clear hlt
        rcases hend with hlt | ⟨hlt, h40⟩
        · skip
          go_wp2_with fail
          refine (twin_p _ _ L _ HT.out).mono ?_
          rintro e w2 ⟨rfl, tu2, b2⟩
          have tt2 := HT.out.below b2
          have bw2 := HB.out.trans (b2.mono HB.out.size)
          have hne : w.heap.size ≠ wr.heap.size ∧ w.heap.size + 1 ≠ wr.heap.size := by have := HT.out.lt; omega
          have hge : w.heap.size ≤ wr.heap.size := HB.out.size
          clear b2
          go_wp2_with fail
          refine (list_p _ _ L _ tt2 (by omega)).mono ?_
          rintro e w3 ⟨v1, rfl, r3, b3⟩
          obtain ⟨A1, c1, rfl, _, _, at3⟩ := r3.shape
          have tt3 := tt2.below b3
          have tu3 := tu2.below b3
          have bw3 := bw2.trans (b3.mono bw2.size)
          clear tt2 tu2 bw2 b3 r3
          go_wp2_with fail
          refine (list_p _ _ L _ tu3 (by omega)).mono ?_
          rintro e w4 ⟨v2, rfl, r4, b4⟩
          obtain ⟨A2, c2, rfl, _, _, at4⟩ := r4.shape
          have at34 := at3.below b4
          have tt4 := tt3.below b4
          have tu4 := tu3.below b4
          have bw4 := bw3.trans (b4.mono bw3.size)
          clear tt3 tu3 bw3 b4 r4 at3
          go_wp2_with fail
          refine (same_r36 L _ _ _ _ _ at34 at4 (by omega)).mono ?_
          rintro e w5 ⟨rfl, m5, hm5⟩
          have b5 : Below w4.heap.size w4 w5 := by rw [hm5]; exact belowN (Below.refl _ _) m5
          have at5 := at34.below b5
          have tt5 := tt4.below b5
          have tu5 := tu4.below b5
          have bw5 := bw4.trans (b5.mono bw4.size)
          clear tt4 tu4 bw4 b5 at34 at4 hm5
          go_wp2_with fail
          refine (unset_p _ _ L s _ tu5 (by unfold maxLen; omega)).mono ?_
          rintro e w6 ⟨rfl, tu6, g6⟩
          have at6 := at5.grown tu5 g6
          have tt6 := tt5.kept g6 (by intro e; injection e with e; omega) (by intro e; injection e with e; omega)
          have bw6 := bw5.grown g6 bw5.size (fun k hk => by cases hk; exact hge)
          have hri := tu5.2.rising
          have hdl := Al.length_del' L s hri
          clear tt5 tu5 bw5 g6 at5 hri
          go_wp2_with fail
          refine (set_p _ _ (L.del s) ⟨#[122, 122]⟩ ⟨#[49]⟩ _ tu6 (by decide) (by decide) (by omega)).mono ?_
          rintro e w7 ⟨rfl, tu7, g7⟩
          have at7 := at6.grown tu6 g7
          have tt7 := tt6.kept g7 (by intro e; injection e with e; omega) (by intro e; injection e with e; omega)
          have bw7 := bw6.grown g7 bw6.size (fun k hk => by cases hk; exact hge)
          clear tt6 tu6 bw6 g7 at6 tu7
          go_wp2_with fail
          refine (list_p _ _ L _ tt7 (by omega)).mono ?_
          rintro e w8 ⟨v8, rfl, r8, b8⟩
          obtain ⟨A8, c8, rfl, _, _, at8⟩ := r8.shape
          have at78 := at7.below b8
          have bw8 := bw7.trans (b8.mono bw7.size)
          clear tt7 bw7 b8 r8 at7
          go_wp2_with fail
          refine (same_r36 L _ _ _ _ _ at78 at8 (by omega)).mono ?_
          rintro e w9 ⟨rfl, m9, hm9⟩
          have bw9 : Below w.heap.size w w9 := by rw [hm9]; exact belowN bw8 m9
          clear at78 at8 hm9 bw8
          go_wp2_with fail
          refine (awake36 _).mono ?_
          rintro e w10 ⟨rfl, b10⟩
          have bw10 := bw9.trans (b10.mono bw9.size)
          go_wp2_with fail
          go_ret
          exact ⟨rfl, bw10⟩
        · have hlti : (k : Int) < (l.length : Int) := by omega
          go_wp2_with fail
          refine (twin_p _ _ L _ HT.out).mono ?_
          rintro e w2 ⟨rfl, tu2, b2⟩
          have tt2 := HT.out.below b2
          have bw2 := HB.out.trans (b2.mono HB.out.size)
          have hne : w.heap.size ≠ wr.heap.size ∧ w.heap.size + 1 ≠ wr.heap.size := by have := HT.out.lt; omega
          have hge : w.heap.size ≤ wr.heap.size := HB.out.size
          clear b2
          go_wp2_with fail
          refine (list_p _ _ L _ tt2 (by omega)).mono ?_
          rintro e w3 ⟨v1, rfl, r3, b3⟩
          obtain ⟨A1, c1, rfl, _, _, at3⟩ := r3.shape
          have tt3 := tt2.below b3
          have tu3 := tu2.below b3
          have bw3 := bw2.trans (b3.mono bw2.size)
          clear tt2 tu2 bw2 b3 r3
          go_wp2_with fail
          refine (list_p _ _ L _ tu3 (by omega)).mono ?_
          rintro e w4 ⟨v2, rfl, r4, b4⟩
          obtain ⟨A2, c2, rfl, _, _, at4⟩ := r4.shape
          have at34 := at3.below b4
          have tt4 := tt3.below b4
          have tu4 := tu3.below b4
          have bw4 := bw3.trans (b4.mono bw3.size)
          clear tt3 tu3 bw3 b4 r4 at3
          go_wp2_with fail
          refine (same_r36 L _ _ _ _ _ at34 at4 (by omega)).mono ?_
          rintro e w5 ⟨rfl, m5, hm5⟩
          have b5 : Below w4.heap.size w4 w5 := by rw [hm5]; exact belowN (Below.refl _ _) m5
          have at5 := at34.below b5
          have tt5 := tt4.below b5
          have tu5 := tu4.below b5
          have bw5 := bw4.trans (b5.mono bw4.size)
          clear tt4 tu4 bw4 b5 at34 at4 hm5
          go_wp2_with fail
          refine (unset_p _ _ L s _ tu5 (by unfold maxLen; omega)).mono ?_
          rintro e w6 ⟨rfl, tu6, g6⟩
          have at6 := at5.grown tu5 g6
          have tt6 := tt5.kept g6 (by intro e; injection e with e; omega) (by intro e; injection e with e; omega)
          have bw6 := bw5.grown g6 bw5.size (fun k hk => by cases hk; exact hge)
          have hri := tu5.2.rising
          have hdl := Al.length_del' L s hri
          clear tt5 tu5 bw5 g6 at5 hri
          go_wp2_with fail
          refine (set_p _ _ (L.del s) ⟨#[122, 122]⟩ ⟨#[49]⟩ _ tu6 (by decide) (by decide) (by omega)).mono ?_
          rintro e w7 ⟨rfl, tu7, g7⟩
          have at7 := at6.grown tu6 g7
          have tt7 := tt6.kept g7 (by intro e; injection e with e; omega) (by intro e; injection e with e; omega)
          have bw7 := bw6.grown g7 bw6.size (fun k hk => by cases hk; exact hge)
          clear tt6 tu6 bw6 g7 at6 tu7
          go_wp2_with fail
          refine (list_p _ _ L _ tt7 (by omega)).mono ?_
          rintro e w8 ⟨v8, rfl, r8, b8⟩
          obtain ⟨A8, c8, rfl, _, _, at8⟩ := r8.shape
          have at78 := at7.below b8
          have bw8 := bw7.trans (b8.mono bw7.size)
          clear tt7 bw7 b8 r8 at7
          go_wp2_with fail
          refine (same_r36 L _ _ _ _ _ at78 at8 (by omega)).mono ?_
          rintro e w9 ⟨rfl, m9, hm9⟩
          have bw9 : Below w.heap.size w w9 := by rw [hm9]; exact belowN bw8 m9
          clear at78 at8 hm9 bw8
          go_wp2_with fail
          refine (awake36 _).mono ?_
          rintro e w10 ⟨rfl, b10⟩
          have bw10 := bw9.trans (b10.mono bw9.size)
          go_wp2_with fail
          go_ret
          exact ⟨rfl, bw10⟩
end Go.Proofs.Ytbkmfnjjfamjjaa
