/- conchlaw36.AliasDoes, walked: true, whatever the calls. -/
import Derived.Test.YtbkmfnjjfamjjaaAlAwake
import Derived.Test.YtbkmfnjjfamjjaaAlRead
import Derived.Test.YtbkmfnjjfamjjaaAlSame
import Derived.Test.YtbkmfnjjfamjjaaGr
import Derived.Deep.RegionHeld3
import Derived.Deep.DeepCutAuto
import Derived.Deep.CutBlock
namespace Go.Proofs.Ytbkmfnjjfamjjaa
open Go.RowKit Go.Maps

theorem RTab.kept {w w' : World} {h g b : Nat} {L M : Al} (hr : RTab w h L) (ht : Tab w g b M) (hg : w.grownBy w' (some b)) : RTab w' h L := by
  obtain ⟨v, hh, ha⟩ := hr
  have hb : ∀ (j : Nat) (cs : Array Value) (T : TypeId) (fr : Nat × Nat), w.heap[j]? = some (Obj.cells cs T fr) → w'.heap[j]? = w.heap[j]? := fun j cs T fr hj => hg.block j (Array.getElem?_eq_some_iff.1 hj).1 fun e => by
    injection e with e
    subst e
    obtain ⟨_, es, clock, hb, _⟩ := ht
    rw [hj] at hb
    cases hb
  refine ⟨v, (hb _ _ _ _ hh).trans hh, ha.keep fun j hj => ?_⟩
  rcases ha.2 with ⟨rfl, _⟩ | ⟨g', cap, cur, rfl, _, hcur, _⟩
  · simp [Value.ownBlock] at hj
  · simp [Value.ownBlock] at hj
    subst hj
    exact hb _ _ _ _ hcur
theorem RTab.lt {w : World} {h : Nat} {L : Al} (hr : RTab w h L) : h < w.heap.size := by
  obtain ⟨v, hh, ha⟩ := hr
  exact (Array.getElem?_eq_some_iff.1 hh).1
theorem Tab.keptR {w w' : World} {h g b : Nat} {L M : Al} (ht : Tab w g b L) (hr : RTab w h M) (hg : w.grownBy w' (some h)) : Tab w' g b L := by
  obtain ⟨v, hh, ha⟩ := hr
  refine ht.kept hg (fun e => ?_) (fun e => ?_)
  · injection e with e
    subst e
    have := ht.1
    rw [hh] at this
    injection this with this
    injection this with _ this _
    exact absurd this (by decide)
  · injection e with e
    subst e
    obtain ⟨_, es, clock, hb, _⟩ := ht
    rw [hh] at hb
    cases hb
theorem RTab.below {w w' : World} {h : Nat} {L : Al} (hr : RTab w h L) (hb : Below w.heap.size w w') : RTab w' h L := by
  obtain ⟨v, hh, ha⟩ := hr
  exact ⟨v, (hb.block h (Array.getElem?_eq_some_iff.1 hh).1).trans hh, ha.below hb⟩
theorem RTab.cell {w : World} {h : Nat} {L : Al} (hr : RTab w h L) : ∃ A c, w.cell? ⟨h, 0, none⟩ = some (.slice A L.length c) ∧ AlAt w A L := by
  obtain ⟨v, hh, ha⟩ := hr
  obtain ⟨A, c, rfl, hc, hm, hat⟩ := ha.shape
  exact ⟨A, c, (cell_of hh).1, hat⟩

theorem Al.length_setL (L : Al) (s v : ByteArray) (hr : L.Rising) : (L.setL s v).length ≤ L.length + 1 := by
  unfold Al.setL
  split
  · rw [Al.length_put L s v hr]
    split <;> omega
  · omega
theorem Al.length_del' (L : Al) (s : ByteArray) (hr : L.Rising) : (L.del s).length ≤ L.length := by
  have := Al.length_del L s hr
  split at this <;> omega

set_option maxRecDepth 100000 in
set_option maxHeartbeats 8000000 in
theorem aliasDoes_walk (l : List Opv) (A : Option Addr) (c : Nat) (w : World) (hp : OpsAt w A l) : Calls Try.prog 3 #[.slice A l.length c] w fun e w' => e = .returned (.bool true) ∧ Below w.heap.size w w' := by
  have HP := Lib.hid hp
  clear hp
  go_enter Try.func3, Try.ntmps3
  go_wp2_with fail
  refine (new_p w).mono ?_
  rintro e w1 ⟨rfl, t1, b1⟩
  have hs1 : w.heap.size + 1 < w1.heap.size := t1.lt.1
  have hT0 := t1.below ((Below.refl w1.heap.size w1).alloc (Nat.le_refl _) (.cells #[.slice none 0 0] 28))
  have hR0 : RTab (w1.alloc (.cells #[.slice none 0 0] 28)) w1.heap.size [] := ⟨_, heap_alloc _ _, Arow.nothing⟩
  have hB0 := b1.alloc b1.size (.cells #[.slice none 0 0] 28)
  have HT0 := Lib.hid hT0; have HR0 := Lib.hid hR0; have HB0 := Lib.hid hB0
  clear t1 b1 hT0 hR0 hB0
  go_wp2_with fail
  go_loopw [5] (fun i wr => ∃ (k : Nat) (L : Al), k ≤ l.length ∧ i = .int .i64 k ∧ L.length ≤ k ∧ k ≤ 80 ∧ Tab wr (w.heap.size + 1) w.heap.size L ∧ RTab wr w1.heap.size L ∧ Below w.heap.size w wr) (fun i _ => l.length - (intOf i).toNat)
  case atStart => exact ⟨0, [], by omega, rfl, Nat.le_refl _, by omega, HT0.out, HR0.out, HB0.out⟩
  case round =>
    obtain ⟨k, L, hk, rfl, hLk, hk80, ht, hr, hb⟩ := hrel
    have HT := Lib.hid ht; have HR := Lib.hid hr; have HB := Lib.hid hb
    clear ht hr hb
    by_cases hlt : k < l.length ∧ k < 80
    · obtain ⟨hlt, hlt80⟩ := hlt
      obtain ⟨op, hop⟩ : ∃ op, l[k]? = some op := ⟨_, List.getElem?_eq_getElem hlt⟩
      have HOP := Lib.hid hop
      clear hop
      obtain ⟨ob, off, rfl, hob, z0, z1, z2⟩ := (HP.out.below HB.out) k op HOP.out
      have hobw : ob < w.heap.size := by
        obtain ⟨b', off', e, hb', _⟩ := HP.out k op HOP.out
        cases e; exact hb'
      have hlti : (k : Int) < (l.length : Int) := by omega
      have hlt8 : (k : Int) < 80 := by omega
      by_cases hbig : 1000 < op.n.size ∨ 1000 < op.v.size
      · by_cases h1 : 1000 < op.n.size
        · have h1i : (1000 : Int) < (op.n.size : Int) := by omega
          clear hbig
          go_wp2_with fail
          refine (awake36 _).mono ?_
          rintro e w2 ⟨rfl, hb2⟩
          go_wp2_with fail
          go_ret
          exact ⟨rfl, HB.out.trans (hb2.mono HB.out.size)⟩
        · have h1i : ¬ (1000 : Int) < (op.n.size : Int) := by omega
          have h2i : (1000 : Int) < (op.v.size : Int) := by omega
          clear hbig
          go_wp2_with fail
          refine (awake36 _).mono ?_
          rintro e w2 ⟨rfl, hb2⟩
          go_wp2_with fail
          go_ret
          exact ⟨rfl, HB.out.trans (hb2.mono HB.out.size)⟩
      · have hn1 : op.n.size ≤ 1000 := by omega
        have hv1 : op.v.size ≤ 1000 := by omega
        have h1i : ¬ (1000 : Int) < (op.n.size : Int) := by omega
        have h2i : ¬ (1000 : Int) < (op.v.size : Int) := by omega
        clear hbig
        have HZ := Lib.hid (show ∀ X, Below w.heap.size w X → X.cell? ⟨ob, off + k * 3 + 1, none⟩ = some (.string op.n) ∧ X.cell? ⟨ob, off + k * 3 + 2, none⟩ = some (.string op.v) from fun X hX => by
          obtain ⟨b', off', e, _, _, y1, y2⟩ := (HP.out.below hX) k op HOP.out
          cases e
          exact ⟨y1, y2⟩)
        have HTD := Lib.hid (show Tab wr.drew (w.heap.size + 1) w.heap.size L from HT.out)
        have HRD := Lib.hid (show RTab wr.drew w1.heap.size L from HR.out)
        have R0 := Lib.hid (show Below w.heap.size w wr.drew from HB.out.drew)
        have HRI := Lib.hid HT.out.2.rising
        go_upto_block 2 with fail
        go_cut [45] (fun _ wx => ∃ L' : Al, L'.length ≤ k + 1 ∧ Tab wx (w.heap.size + 1) w.heap.size L' ∧ RTab wx w1.heap.size L' ∧ Below w.heap.size w wx)
        case first =>
          by_cases hk0 : op.k = 0
          · have hk0b : (op.k == 0) = true := by rw [hk0]; rfl
            clear hk0
            go_upto_region 9 with fail
            go_region_held3 (fun X => X.cell? ⟨ob, off + k * 3 + 1, none⟩ = some (.string op.n) ∧ X.cell? ⟨ob, off + k * 3 + 2, none⟩ = some (.string op.v))
              (exact HZ.out _ (by first | exact hb2 | exact hb1 | exact R0.out))
              (first
                | (go_at_call 9
                   refine Calls.mono (set_p _ _ L op.n op.v _ HTD.out (by omega) (by omega) (by omega)) ?_
                   rintro e x1 ⟨rfl, ht1, hg1⟩
                   have hb1 : Below w.heap.size w x1 := R0.out.grown hg1 R0.out.size (fun k hk => by cases hk; exact Nat.le_refl _)
                   have hr1 : RTab x1 w1.heap.size L := HRD.out.kept HTD.out hg1
                   have HT1 := Lib.hid ht1
                   have HR1 := Lib.hid hr1
                   clear ht1 hr1 hg1
                   dsimp only)
                | (go_at_call 10
                   refine Calls.mono (set_r _ L op.n op.v _ HR1.out HRI.out (by omega) (by omega) (by omega)) ?_
                   rintro e x2 ⟨rfl, hr2, hg2⟩
                   have hb2 : Below w.heap.size w x2 := hb1.grown hg2 hb1.size (fun k hk => by cases hk; omega)
                   have ht2 := HT1.out.keptR HR1.out hg2
                   have HT2 := Lib.hid ht2
                   have HR2 := Lib.hid hr2
                   clear ht2 hr2 hg2
                   dsimp only))
            go_wp2_with fail
            go_meet
            exact ⟨L.setL op.n op.v, Nat.le_trans (Al.length_setL L _ _ HRI.out) (by omega), HT2.out, HR2.out, hb2⟩
          · have hk0b : (op.k == 0) = false := by simpa using hk0
            by_cases hk1 : op.k = 1
            · have hk1b : (op.k == 1) = true := by rw [hk1]; rfl
              clear hk1
              go_upto_region 12 with fail
              go_region_held3 (fun X => X.cell? ⟨ob, off + k * 3 + 1, none⟩ = some (.string op.n) ∧ X.cell? ⟨ob, off + k * 3 + 2, none⟩ = some (.string op.v))
                (exact HZ.out _ (by first | exact hb2 | exact hb1 | exact R0.out))
                (first
                  | (go_at_call 11
                     refine Calls.mono (unset_p _ _ L op.n _ HTD.out (by unfold maxLen; omega)) ?_
                     rintro e x1 ⟨rfl, ht1, hg1⟩
                     have hb1 : Below w.heap.size w x1 := R0.out.grown hg1 R0.out.size (fun k hk => by cases hk; exact Nat.le_refl _)
                     have hr1 : RTab x1 w1.heap.size L := HRD.out.kept HTD.out hg1
                     have HT1 := Lib.hid ht1
                     have HR1 := Lib.hid hr1
                     clear ht1 hr1 hg1
                     dsimp only)
                  | (go_at_call 12
                     refine Calls.mono (unset_r _ L op.n _ HR1.out HRI.out (by omega)) ?_
                     rintro e x2 ⟨rfl, hr2, hg2⟩
                     have hb2 : Below w.heap.size w x2 := hb1.grown hg2 hb1.size (fun k hk => by cases hk; omega)
                     have ht2 := HT1.out.keptR HR1.out hg2
                     have HT2 := Lib.hid ht2
                     have HR2 := Lib.hid hr2
                     clear ht2 hr2 hg2
                     dsimp only))
              go_wp2_with fail
              go_meet
              exact ⟨L.del op.n, Nat.le_trans (Al.length_del' L _ HRI.out) (by omega), HT2.out, HR2.out, hb2⟩
            · have hk1b : (op.k == 1) = false := by simpa using hk1
              go_wp2_with fail
              go_meet
              exact ⟨L, by omega, HT.out, HR.out, HB.out⟩
        case rest =>
          obtain ⟨M, hM, ht, hr, hb⟩ := hcut
          have HTM := Lib.hid ht; have HRM := Lib.hid hr; have HBM := Lib.hid hb
          obtain ⟨y1, y2⟩ := HZ.out _ hb
          obtain ⟨AR, cR, q, _⟩ := hr.cell
          clear ht hr hb
          go_wp2_with fail
          refine (get_p _ _ M op.n _ HTM.out (by unfold maxLen; omega)).mono ?_
          rintro e v1 ⟨rfl, rfl⟩
          go_wp2_with fail
          refine (get_r _ M op.n _ HRM.out (by omega)).mono ?_
          rintro e v2 ⟨rfl, rfl⟩
          go_wp2_with fail
          have hne : Nonempty (Gr v1) := ⟨⟨v1, Below.refl _ _⟩⟩
          have hLen : ∀ x : Gr v1, Calls Try.prog 15 #[.pointer (some ⟨w.heap.size + 1, 0, none⟩)] x.at_ fun e w' => e = .returned (.int .i64 (M.length : Nat)) ∧ ∃ y : Gr v1, w' = y.at_ := fun x => (len_p _ _ M x.at_ (HTM.out.below x.2)).mono fun e w' ⟨he, hw⟩ => ⟨he, x, hw⟩
          have hq : ∀ x : Gr v1, x.at_.cell? ⟨w1.heap.size, 0, none⟩ = some (.slice AR M.length cR) := fun x => x.cell _ _ q
          refine wp_region_class (S := Gr v1) Gr.at_ (by kernel_rfl) (by kernel_rfl) (Gr.drew v1) ?_
          repeat (go_big_quiet_step (first | (with_reducible exact hLen _)))
          refine wpQuiet_nil ?_
          rintro _ ⟨x, rfl⟩
          have HX := Lib.hid x.2
          clear hLen hq
          go_wp2_with fail
          go_roundw
          case rel => exact ⟨k + 1, M, by omega, by go_num, hM, by omega, HTM.out.below HX.out, HRM.out.below HX.out, HBM.out.trans (HX.out.mono HBM.out.size)⟩
          case measure => simp only [intOf]; omega
    · have hend : ¬ k < l.length ∨ (k < l.length ∧ ¬ (k : Int) < 80) := by omega
      have hL80 : L.length ≤ 80 := by omega
      clear hlt
      rcases hend with hlt | ⟨hlt, h80⟩
      · have HTD := Lib.hid (show Tab wr.drew (w.heap.size + 1) w.heap.size L from HT.out)
        obtain ⟨AR, cR, q, hat⟩ := HR.out.cell
        have HQ := Lib.hid (show ∀ X, Below wr.heap.size wr X → X.cell? ⟨w1.heap.size, 0, none⟩ = some (.slice AR L.length cR) from fun X hX => (World.cell?_of_block (hX.block _ (block_lt_of_cell q))).trans q)
        have HAT := Lib.hid (show ∀ X, Below wr.heap.size wr X → AlAt X AR L from fun X hX => hat.below hX)
        have R0 := Lib.hid (show Below wr.heap.size wr wr.drew from (Below.refl _ _).drew)
        clear hat
        go_wp2_with fail
        go_region_held3 (fun X => X.cell? ⟨w1.heap.size, 0, none⟩ = some (.slice AR L.length cR))
          (exact HQ.out _ (by first | exact bA | exact bS | exact bL | exact R0.out))
          (first
            | (go_at_call 17
               refine Calls.mono (list_p _ _ L _ HTD.out (by omega)) ?_
               rintro e x1 ⟨vv, rfl, hr1, hb1⟩
               have bL : Below wr.heap.size wr x1 := R0.out.trans (hb1.mono R0.out.size)
               obtain ⟨A1, c1, rfl, _, _, hat1⟩ := hr1.shape
               have HAT1 := Lib.hid hat1
               clear hat1 hr1 hb1
               dsimp only)
            | (go_at_call 16
               refine Calls.mono (same_r36 L _ _ _ _ _ HAT1.out (HAT.out _ bL) (by omega)) ?_
               rintro e x2 ⟨rfl, m2, hm2⟩
               have bS : Below wr.heap.size wr x2 := by rw [hm2]; exact belowN bL m2
               clear hm2
               dsimp only)
            | (go_at_call 8
               refine Calls.mono (awake36 _) ?_
               rintro e x3 ⟨rfl, hb3⟩
               have bA : Below wr.heap.size wr x3 := bS.trans (hb3.mono bS.size)
               clear hb3
               dsimp only))
        go_wp2
        go_ret
        exact ⟨rfl, HB.out.trans (bA.mono HB.out.size)⟩
      · have hlti : (k : Int) < (l.length : Int) := by omega
        have HTD := Lib.hid (show Tab wr.drew (w.heap.size + 1) w.heap.size L from HT.out)
        obtain ⟨AR, cR, q, hat⟩ := HR.out.cell
        have HQ := Lib.hid (show ∀ X, Below wr.heap.size wr X → X.cell? ⟨w1.heap.size, 0, none⟩ = some (.slice AR L.length cR) from fun X hX => (World.cell?_of_block (hX.block _ (block_lt_of_cell q))).trans q)
        have HAT := Lib.hid (show ∀ X, Below wr.heap.size wr X → AlAt X AR L from fun X hX => hat.below hX)
        have R0 := Lib.hid (show Below wr.heap.size wr wr.drew from (Below.refl _ _).drew)
        clear hat
        go_wp2_with fail
        go_region_held3 (fun X => X.cell? ⟨w1.heap.size, 0, none⟩ = some (.slice AR L.length cR))
          (exact HQ.out _ (by first | exact bA | exact bS | exact bL | exact R0.out))
          (first
            | (go_at_call 17
               refine Calls.mono (list_p _ _ L _ HTD.out (by omega)) ?_
               rintro e x1 ⟨vv, rfl, hr1, hb1⟩
               have bL : Below wr.heap.size wr x1 := R0.out.trans (hb1.mono R0.out.size)
               obtain ⟨A1, c1, rfl, _, _, hat1⟩ := hr1.shape
               have HAT1 := Lib.hid hat1
               clear hat1 hr1 hb1
               dsimp only)
            | (go_at_call 16
               refine Calls.mono (same_r36 L _ _ _ _ _ HAT1.out (HAT.out _ bL) (by omega)) ?_
               rintro e x2 ⟨rfl, m2, hm2⟩
               have bS : Below wr.heap.size wr x2 := by rw [hm2]; exact belowN bL m2
               clear hm2
               dsimp only)
            | (go_at_call 8
               refine Calls.mono (awake36 _) ?_
               rintro e x3 ⟨rfl, hb3⟩
               have bA : Below wr.heap.size wr x3 := bS.trans (hb3.mono bS.size)
               clear hb3
               dsimp only))
        go_wp2
        go_ret
        exact ⟨rfl, HB.out.trans (bA.mono HB.out.size)⟩
end Go.Proofs.Ytbkmfnjjfamjjaa
