/- Towards nodeJoins_card: UqInsert, CharClass, CharName, CharRef, CharPlain2, CharLaws. Merged from smaller texts by a program of the author's. -/
import Derived.Test.YtjpopekmbmcggaaGreatDoorJ02
import Derived.Lib.Overlaps
import Derived.Laws.Externs
import Derived.Maps.AppendAt
import Derived.Test.YtjpopekmbmcggaaGreatDoorJ01
import Derived.Lib.Bytealg
import Derived.Deep.RegionWith
import Derived.Laws.BytesArg
namespace Go.Proofs.YtjpopekmbmcggaaGreatDoor
open Go.RowKit
attribute [local go_sem ↓] wp_append_wr
attribute [local go_sem ↓] wp_copy_wr
def litPs (t : ByteArray) : List Value := [.int .i64 1, .string t, .string ⟨#[]⟩, .slice none 0 0, .slice none 0 0]
def Pts.lit (t : ByteArray) (l : Pts) : Pts := .cons 1 t ⟨#[]⟩ .nil ⟨none, 0, 0⟩ l
theorem litPs_one (t : ByteArray) : ∀ u ∈ litPs t, u.oneCell' = true := by
  intro u hu
  simp only [litPs, List.mem_cons, List.not_mem_nil, or_false] at hu
  rcases hu with rfl | rfl | rfl | rfl | rfl <;> rfl
theorem litPs_row (G : Nat → Prop) (w : World) (t : ByteArray) {xs : List Value} {l : Pts} (h : PtsRow G w xs l) : PtsRow G w (litPs t ++ xs) (Pts.lit t l) :=
  ⟨none, 0, xs, rfl, Nat.le_refl _, trivial, h⟩
theorem litPs_at {w : World} {vb : Nat} {t : ByteArray} (hv : w.heap[vb]? = some (.cells (litPs t).toArray 50 (0, 0))) (j : Nat) (u : Value) (hj : (litPs t)[j]? = some u) : w.cell? ((⟨vb, 0, none⟩ : Addr).add j) = some u := by
  rw [add_at, Nat.zero_add]
  simp only [World.cell?, hv]
  simpa using hj
theorem row_at {w : World} {g : Nat} {cur : Array Value} {xs : List Value} {k : Nat} (hh : w.heap[g]? = some (.cells cur 50 (0, 0))) (ht : cur.toList.take k = xs) (j : Nat) (u : Value) (hj : xs[j]? = some u) : w.cell? ((⟨g, 0, none⟩ : Addr).add j) = some u := by
  rw [add_at, Nat.zero_add]
  rw [← ht] at hj
  have hlt := (List.getElem?_eq_some_iff.1 hj).1
  rw [List.length_take] at hlt
  rw [List.getElem?_take_of_lt (by omega)] at hj
  simp only [World.cell?, hh]
  simpa using hj
theorem seg_len (L cs : List Value) (o : Nat) (h : o + cs.length ≤ L.length) : (L.take o ++ cs ++ L.drop (o + cs.length)).length = L.length := by
  simp only [List.length_append, List.length_take, List.length_drop]
  omega
theorem seg_take (L cs : List Value) (o : Nat) (h : o + cs.length ≤ L.length) : (L.take o ++ cs ++ L.drop (o + cs.length)).take (o + cs.length) = L.take o ++ cs := by
  have : o + cs.length = (L.take o ++ cs).length := by rw [List.length_append, List.length_take]; omega
  rw [this]
  exact List.take_left' rfl
set_option maxRecDepth 100000 in
set_option maxHeartbeats 4000000 in
theorem insert0 (l : Pts) (t : ByteArray) (v : Value) (vb B : Nat) (G : Nat → Prop) (w : World) (h : Prow G B w v l) (hv : w.heap[vb]? = some (.cells (litPs t).toArray 50 (0, 0))) (hne : v.ownBlock ≠ some vb) (hG : ∀ k, G k → k < B) (hB : B ≤ w.heap.size) (hlen : l.len ≤ 1073741824) :
    Calls Tryz.prog 213 #[v, .int .i64 0, .slice (some ⟨vb, 0, none⟩) 1 1] w fun e w' => ∃ v', e = .returned v' ∧ Prow G B w' v' (Pts.lit t l) ∧ Below B w w' := by
  obtain ⟨i0, hi, hz0, hz1, hz2⟩ := info_parts info_part
  have hsz : (Tryz.prog.info? 50).map (·.size) = some 5 := by rw [hi]; simp [hz1]
  obtain ⟨xs, hown, hr⟩ := h
  by_cases hn : l.len = 0
  · have hl : l = .nil := by
      cases l with
      | nil => rfl
      | cons => simp [Pts.len] at hn
    subst hl
    have hx : xs = [] := hr
    subst hx
    replace hown : w.ownsRow B 50 5 v 0 [] := hown
    obtain ⟨v', w', hrun, hown', hgr, hnil, hat⟩ := run_append_own_at (P := Tryz.prog) (w := w) B 29 29 _ i0 _ 5 88 Tryz.underlying29 hi hz0 hz1 hz2 rfl (by omega) v 0 [] hown ⟨vb, 0, none⟩ 1 1 (litPs t) rfl (litPs_at hv) (litPs_one t) (by unfold maxLen; omega) (by omega) hB
    have hr' := WrA.of hrun
    have HP := Lib.hid (show Prow G B w' v' (Pts.lit t .nil) from ⟨litPs t, hown', litPs_row G w' t (l := .nil) (xs := []) rfl⟩)
    have HB := Lib.hid ((Below.refl B w).grown hgr hB (fun k hk => by
      rcases hown.2 with ⟨rfl, _⟩ | ⟨g, cap, cur, rfl, hb, _⟩
      · simp [Value.ownBlock] at hk
      · simp [Value.ownBlock] at hk; omega))
    clear hrun hown' hgr hnil hat
    rcases hown.2 with ⟨rfl, _⟩ | ⟨g, cap, cur, rfl, _, _, _, hm, _⟩
    · clear hown
      go_enter Tryz.func213, Tryz.ntmps213
      go_wp2_with fail
      go_ret
      exact ⟨v', rfl, HP.out, HB.out⟩
    · clear hown
      have hm' : (cap : Int) ≤ 9223372036854775807 := by unfold maxLen at hm; omega
      have hc0 : (0 : Int) ≤ (cap : Int) := by omega
      by_cases hcap : cap = 0
      · subst hcap
        go_enter Tryz.func213, Tryz.ntmps213
        go_wp2_with fail
        go_ret
        exact ⟨v', rfl, HP.out, HB.out⟩
      · skip
        go_enter Tryz.func213, Tryz.ntmps213
        go_wp2_with fail
        go_ret
        exact ⟨v', rfl, HP.out, HB.out⟩
  · rcases hown.2 with ⟨_, h0⟩ | ⟨g, cap, cur, rfl, hBg, hh, hc, hm, hcs, htk⟩
    · exact absurd h0 hn
    have hgv : g ≠ vb := fun e => hne (by rw [e]; rfl)
    have hxl : xs.length = l.len * 5 := hown.1
    have hnz : ((0 : Int) == (l.len : Int)) = false := by rw [beq_eq_false_iff_ne]; omega
    have hglt : g < w.heap.size := (Array.getElem?_eq_some_iff.1 hh).1
    have hvlt : vb < w.heap.size := (Array.getElem?_eq_some_iff.1 hv).1
    have hwr : IntKind.i64.wrap ((l.len : Int) + 1) = (l.len : Int) + 1 := by rw [IntKind.wrap_i64]; omega
    have hto : ((l.len : Int) + 1).toNat = l.len + 1 := by omega
    have hs0 : (0 : Int) ≤ (l.len : Int) + 1 := by omega
    have hlc : (l.len : Int) ≤ (cap : Int) := by omega
    by_cases hroom : cap < l.len + 1
    · have hgi : (cap : Int) < (l.len : Int) + 1 := by omega
      -- a new row
      have hold : (Builtin.firstCells i0.size 0 (.slice (some ⟨g, 0, none⟩) 0 cap)).run Tryz.prog w.drew = .ok ([] : List Value).toArray w.drew := run_firstCells_some w.drew i0.size 0 ⟨g, 0, none⟩ 0 cap [] (by simp) (fun j u hj => by simp at hj)
      have hrz := Lib.run_append_grow_zeros (P := Tryz.prog) w 29 3 29 50 i0 _ .i64 .i64 Tryz.underlying29 Tryz.underlying3 hi hz0 (some ⟨g, 0, none⟩) 0 cap [] hold (l.len + 1) (by omega) (by omega) (by omega) (by omega) (by rw [hz2]; omega) (by rw [hz2]; exact growslice_fits (by omega) (by omega))
      have hge := grownCap_ge w (0 + (l.len + 1)) cap 50
      have hle := grownCap_le_maxLen w (0 + (l.len + 1)) cap 50 (by unfold maxLen; omega)
      rw [Nat.zero_add] at hrz hge hle
      have hrz' := WrA.of hrz
      generalize hNC : grownCap w (l.len + 1) cap 50 = nc at hrz' hge hle
      generalize hZ : (([] : List Value).toArray ++ Builtin.zeroCells (Value.agg #[.int .i64 0, .string ⟨#[]⟩, .string ⟨#[]⟩, .slice none 0 0, .slice none 0 0]).cells (l.len + 1) ++ Builtin.zeroCells (Value.agg #[.int .i64 0, .string ⟨#[]⟩, .string ⟨#[]⟩, .slice none 0 0, .slice none 0 0]).cells (nc - (l.len + 1))) = Z at hrz'
      have hZs : Z.size = nc * 5 := by
        rw [← hZ]
        simp [Builtin.zeroCells, Value.cells]
        omega
      have hgw : g ≠ w.heap.size := by omega
      have hvw : vb ≠ w.heap.size := by omega
      clear hNC hold hrz
      -- the world behind the new row
      obtain ⟨W1, hW1⟩ : ∃ W1, W1 = w.drew.alloc (.cells Z 50) := ⟨_, rfl⟩
      rw [← hW1] at hrz'
      have hb1 : Below w.heap.size w W1 := by rw [hW1]; exact (Below.refl _ _).drew.alloc (by simp) _
      have hz1' : W1.heap[w.heap.size]? = some (.cells Z 50 (0, 0)) := by rw [hW1]; exact heap_alloc w.drew _
      have hv1 := (hb1.block vb hvlt).trans hv
      have hg1 := (hb1.block g hglt).trans hh
      have hcp1 := run_copy_rowK (P := Tryz.prog) W1 29 29 3 50 5 w.heap.size 0 (l.len + 1) nc ⟨vb, 0, none⟩ 1 1 Z 50 (litPs t) Tryz.underlying29 hsz hz1' (by rw [show Nat.min 1 (l.len + 1) = 1 by simp]; rfl) (litPs_at hv1) (by rw [hZs]; show 0 + 5 ≤ _; omega) (litPs_one t)
      rw [show Nat.min 1 (l.len + 1) = 1 by simp] at hcp1
      have hZl : Z.toList.length = nc * 5 := by rw [Array.length_toList]; exact hZs
      have hsl1 := seg_len Z.toList (litPs t) 0 (by rw [hZl]; show 0 + 5 ≤ _; omega)
      have hst1 := seg_take Z.toList (litPs t) 0 (by rw [hZl]; show 0 + 5 ≤ _; omega)
      rw [hZl] at hsl1
      revert hcp1 hsl1 hst1
      generalize Z.toList.take 0 ++ litPs t ++ Z.toList.drop (0 + (litPs t).length) = R1
      intro hcp1 hsl1 hst1
      obtain ⟨W2, hW2⟩ : ∃ W2, W2 = W1.setRow w.heap.size R1.toArray := ⟨_, rfl⟩
      rw [← hW2] at hcp1
      have hz2' : W2.heap[w.heap.size]? = some (.cells R1.toArray 50 (0, 0)) := by rw [hW2]; exact setRow_heap _ _ _ _ _ _ hz1'
      have hg2 : W2.heap[g]? = some (.cells cur 50 (0, 0)) := by rw [hW2, setRow_other _ _ _ _ hgw]; exact hg1
      have hcp2 := run_copy_rowK (P := Tryz.prog) W2.drew 29 29 3 50 5 w.heap.size 5 l.len (nc - 1) ⟨g, 0, none⟩ l.len cap R1.toArray 50 xs Tryz.underlying29 hsz hz2' (by rw [show Nat.min l.len l.len = l.len from Nat.min_self _]; exact hxl) (row_at (w := W2.drew) hg2 htk) (by rw [hxl]; show 5 + l.len * 5 ≤ R1.length; omega) (fun u hu => PtsRow.one hr u hu)
      rw [show Nat.min l.len l.len = l.len from Nat.min_self _, show R1.toArray.toList = R1 from rfl] at hcp2
      have hsl2 := seg_len R1 xs 5 (by rw [hxl]; omega)
      have hst2 := seg_take R1 xs 5 (by rw [hxl]; omega)
      rw [show R1.take 5 = litPs t from hst1] at hcp2 hsl2 hst2
      revert hcp2 hsl2 hst2
      generalize litPs t ++ xs ++ R1.drop (5 + xs.length) = R2
      intro hcp2 hsl2 hst2
      have hb2 : Below w.heap.size w W2 := by
        rw [hW2]
        exact ⟨hb1.os, hb1.tape, hb1.output, by simpa using hb1.size, fun k hk => (setRow_other _ _ _ _ (by omega)).trans (hb1.block k hk)⟩
      have hb3 : Below w.heap.size w (W2.drew.setRow w.heap.size R2.toArray) := ⟨hb2.os, hb2.tape, hb2.output, by simpa using hb2.size, fun k hk => (setRow_other _ _ _ _ (by omega)).trans (hb2.block k hk)⟩
      have hP : Prow G B (W2.drew.setRow w.heap.size R2.toArray) (.slice (some ⟨w.heap.size, 0, none⟩) (l.len + 1) nc) (Pts.lit t l) := by
        refine ⟨litPs t ++ xs, ⟨?_, .inr ⟨w.heap.size, nc, R2.toArray, rfl, hB, setRow_heap _ _ _ _ _ _ (show W2.drew.heap[w.heap.size]? = _ from hz2'), hge, hle, ?_, ?_⟩⟩, litPs_row _ _ t (hr.keep fun p hp => World.cell?_of_block (hb3.block _ (Nat.lt_of_lt_of_le (hG _ hp) hB)))⟩
        · rw [List.length_append, hxl]
          show 5 + l.len * 5 = (l.len + 1) * 5
          omega
        · show R2.length = nc * 5
          omega
        · show R2.take ((l.len + 1) * 5) = _
          rw [show (l.len + 1) * 5 = 5 + xs.length by rw [hxl]; omega]
          exact hst2
      have HP := Lib.hid hP; have HB3 := Lib.hid hb3
      have hnci : (l.len : Int) + 1 ≤ (nc : Int) := by omega
      have hnci1 : (1 : Int) ≤ (nc : Int) := by omega
      have hncn : ¬ nc = 1 := by omega
      have hncm : (nc : Int) ≤ 9223372036854775807 := by unfold maxLen at hle; omega
      have hcapm : (cap : Int) ≤ 9223372036854775807 := by unfold maxLen at hm; omega
      have hcp0 : ¬ cap = 0 := by omega
      have hl1 : (l.len : Int) ≤ 1073741824 := by omega
      rw [Int.natCast_add, show ((1 : Nat) : Int) = 1 from rfl] at hrz'
      clear hb1 hb2 hb3 hP hz1' hz2' hv1 hg1 hg2 hW1 hW2 hsl1 hsl2 hst1 hst2 hZ hZs hown hh hv hcs htk hr hxl
      go_enter Tryz.func213, Tryz.ntmps213
      go_wp2_with fail
      go_region
      go_wp2
      go_ret
      exact ⟨_, rfl, HP.out, HB3.out.mono hB⟩
    · -- in place
      have hgi : ¬ (cap : Int) < (l.len : Int) + 1 := by omega
      have hsa : w.shape? vb = some (50, 5) := by simp [World.shape?, hv, litPs]
      have hsb : w.shape? g = some (50, cap * 5) := by simp [World.shape?, hh, hcs]
      have hov : ∀ lb cb, (callFunc 239 #[.slice (some ⟨vb, 0, none⟩) 1 1, .slice (some ⟨g, 5, none⟩) lb cb]).run Tryz.prog w = .ok (.value (.bool false)) w := fun lb cb => by
        rw [run_callFunc_extern Tryz.func239 (by kernel_rfl) (by kernel_rfl) (by kernel_rfl) (e := Extern.SlicesOverlaps.overlaps #[29, 29] #[4]) (by kernel_rfl),
          Lib.run_overlaps_apart w 29 4 50 Tryz.underlying29 5 Tryz.sizeOf50 ⟨vb, 0, none⟩ ⟨g, 5, none⟩ 1 1 lb cb (Ne.symm hgv) _ _ _ _ hsa hsb (by omega) (by simp [World.frozen?, hv]) (by simp [World.frozen?, hv])]
        rfl
      have hcl : cur.toList.length = cap * 5 := by rw [Array.length_toList]; exact hcs
      have hcp1 := run_copy_rowK (P := Tryz.prog) w.drew 29 29 3 50 5 g 5 l.len (cap - 1) ⟨g, 0, none⟩ (l.len + 1) cap cur 50 xs Tryz.underlying29 hsz hh (by rw [show Nat.min (l.len + 1) l.len = l.len from Nat.min_eq_right (by omega)]; exact hxl) (row_at (w := w.drew) hh htk) (by rw [hxl]; omega) (fun u hu => PtsRow.one hr u hu)
      rw [show Nat.min (l.len + 1) l.len = l.len from Nat.min_eq_right (by omega)] at hcp1
      have hR1l := seg_len cur.toList xs 5 (by rw [hxl, hcl]; omega)
      rw [hcl] at hR1l
      have hR1d : (cur.toList.take 5 ++ xs ++ cur.toList.drop (5 + xs.length)).drop 5 = xs ++ cur.toList.drop (5 + xs.length) := by
        rw [List.append_assoc]
        exact List.drop_left' (by rw [List.length_take, hcl]; omega)
      revert hcp1 hR1l hR1d
      generalize cur.toList.take 5 ++ xs ++ cur.toList.drop (5 + xs.length) = R1
      generalize cur.toList.drop (5 + xs.length) = D
      intro hcp1 hR1l hR1d
      obtain ⟨W1, hW1⟩ : ∃ W1, W1 = w.drew.setRow g R1.toArray := ⟨_, rfl⟩
      rw [← hW1] at hcp1
      have hg1 : W1.heap[g]? = some (.cells R1.toArray 50 (0, 0)) := by rw [hW1]; exact setRow_heap _ _ _ _ _ _ (show w.drew.heap[g]? = _ from hh)
      have hv1 : W1.heap[vb]? = some (.cells (litPs t).toArray 50 (0, 0)) := by rw [hW1, setRow_other _ _ _ _ (Ne.symm hgv)]; exact hv
      have hcp2 := run_copy_rowK (P := Tryz.prog) W1 29 29 3 50 5 g 0 (l.len + 1) cap ⟨vb, 0, none⟩ 1 1 R1.toArray 50 (litPs t) Tryz.underlying29 hsz hg1 (by rw [show Nat.min 1 (l.len + 1) = 1 by simp]; rfl) (litPs_at hv1) (by show 0 + 5 ≤ R1.length; omega) (litPs_one t)
      rw [show Nat.min 1 (l.len + 1) = 1 by simp, show R1.toArray.toList = R1 from rfl, show R1.take 0 ++ litPs t ++ R1.drop (0 + (litPs t).length) = litPs t ++ (xs ++ D) from congrArg (litPs t ++ ·) hR1d] at hcp2
      have hlen2 : (litPs t ++ (xs ++ D)).length = cap * 5 := by
        rw [← hR1d, List.length_append, List.length_drop, hR1l]
        show 5 + (cap * 5 - 5) = _
        omega
      have htk2 : (litPs t ++ (xs ++ D)).take ((l.len + 1) * 5) = litPs t ++ xs := by
        rw [← List.append_assoc, show (l.len + 1) * 5 = (litPs t ++ xs).length by rw [List.length_append, hxl]; show _ = 5 + l.len * 5; omega]
        exact List.take_left' rfl
      have hb1 : Below B w W1 := by
        rw [hW1]
        exact ⟨rfl, rfl, rfl, by simp, fun k hk => setRow_other _ _ _ _ (by omega)⟩
      have hb2 : Below B w (W1.setRow g (litPs t ++ (xs ++ D)).toArray) := ⟨hb1.os, hb1.tape, hb1.output, by simpa using hb1.size, fun k hk => (setRow_other _ _ _ _ (by omega)).trans (hb1.block k hk)⟩
      have hP : Prow G B (W1.setRow g (litPs t ++ (xs ++ D)).toArray) (.slice (some ⟨g, 0, none⟩) (l.len + 1) cap) (Pts.lit t l) := by
        refine ⟨litPs t ++ xs, ⟨?_, .inr ⟨g, cap, _, rfl, hBg, setRow_heap _ _ _ _ _ _ hg1, by show l.len + 1 ≤ cap; omega, hm, hlen2, htk2⟩⟩, litPs_row _ _ t (hr.keep fun p hp => World.cell?_of_block (hb2.block _ (hG _ hp)))⟩
        rw [List.length_append, hxl]
        show 5 + l.len * 5 = (l.len + 1) * 5
        omega
      have HP := Lib.hid hP; have HB2 := Lib.hid hb2
      have hcapm : (cap : Int) ≤ 9223372036854775807 := by unfold maxLen at hm; omega
      have hcp0 : ¬ cap = 0 := by omega
      have hcp1' : ¬ cap = 1 := by omega
      have hci : (l.len : Int) + 1 ≤ (cap : Int) := by omega
      have hci1 : (1 : Int) ≤ (cap : Int) := by omega
      have hl1 : (l.len : Int) ≤ 1073741824 := by omega
      clear hb1 hb2 hP hg1 hv1 hW1 hlen2 htk2 hown hh hv hcs htk hr hxl hR1l hR1d hcl hsa hsb
      go_enter Tryz.func213, Tryz.ntmps213
      go_wp2_with fail
      go_region
      go_wp2_with fail
      go_ret
      exact ⟨_, rfl, HP.out, HB2.out⟩
end Go.Proofs.YtjpopekmbmcggaaGreatDoor
namespace Go.Proofs.YtjpopekmbmcggaaGreatDoor
open Go.RowKit
theorem or32 : ∀ c : Fin 256, (97 ≤ bits .or .u8 (c.val : Int) 32 ∧ bits .or .u8 (c.val : Int) 32 ≤ 122) ↔ (97 ≤ c.val ∧ c.val ≤ 122 ∨ 65 ≤ c.val ∧ c.val ≤ 90) := by decide +kernel
theorem or32_yes (c : Nat) (hc : c < 256) (h : 97 ≤ c ∧ c ≤ 122 ∨ 65 ≤ c ∧ c ≤ 90) : 97 ≤ bits .or .u8 (c : Int) 32 ∧ bits .or .u8 (c : Int) 32 ≤ 122 := (or32 ⟨c, hc⟩).2 h
theorem or32_no (c : Nat) (hc : c < 256) (h : ¬ (97 ≤ c ∧ c ≤ 122 ∨ 65 ≤ c ∧ c ≤ 90)) : bits .or .u8 (c : Int) 32 < 97 ∨ 122 < bits .or .u8 (c : Int) 32 := by
  have : ¬ (97 ≤ bits .or .u8 (c : Int) 32 ∧ bits .or .u8 (c : Int) 32 ≤ 122) := mt (or32 ⟨c, hc⟩).1 h
  omega
set_option maxHeartbeats 1000000 in
theorem letter_p (c : Nat) (hc : c < 256) (w : World) (hs : ¬ Chr.Sign c ∨ c = 95) : Calls Tryz.prog 154 #[.int .u8 (c : Int)] w fun e w' => e = .returned (.int .i64 (Chr.cls c : Nat)) ∧ w = w' := by
  rcases Chr.cls_cases c with h | ⟨h1, h2, h3⟩ | ⟨h1, h2, h3⟩ | ⟨h1, h2, h3⟩ | ⟨h1, h3⟩
  · rcases hs with hs | rfl
    · exact absurd h hs
    · go_enter Tryz.func154, Tryz.ntmps154
      go_wp2
      go_ret
      exact ⟨rfl, rfl⟩
  · have H := Lib.hid h3; clear h3
    go_enter Tryz.func154, Tryz.ntmps154
    go_wp2
    go_ret
    exact ⟨ret_int (by rw [H.out]; rfl), rfl⟩
  · have H := Lib.hid h3; clear h3
    obtain ⟨o1, o2⟩ := or32_yes c hc (by omega)
    go_enter Tryz.func154, Tryz.ntmps154
    go_wp2
    go_ret
    exact ⟨ret_int (by rw [H.out]; rfl), rfl⟩
  · have H := Lib.hid h3; clear h3
    obtain ⟨o1, o2⟩ := or32_yes c hc (by omega)
    go_enter Tryz.func154, Tryz.ntmps154
    go_wp2
    go_ret
    exact ⟨ret_int (by rw [H.out]; rfl), rfl⟩
  · have H := Lib.hid h3; clear h3
    obtain ⟨hs', d1, d2, d3⟩ := h1
    have h95 : c ≠ 95 := hs'.2.2.2.2.1
    clear hs' hs
    rcases or32_no c hc (by omega) with o | o
    all_goals
      rcases (show c < 48 ∨ 57 < c by omega) with k | k
      all_goals
        clear d1 d2 d3
        go_enter Tryz.func154, Tryz.ntmps154
        go_wp2
        go_ret
        exact ⟨ret_int (by rw [H.out]; rfl), rfl⟩
set_option maxHeartbeats 4000000 in
theorem class_p (c : Nat) (hc : c < 256) (w : World) : Calls Tryz.prog 115 #[.int .u8 (c : Int)] w fun e w' => e = .returned (.int .i64 (Chr.cls c : Nat)) ∧ w = w' := by
  rcases Chr.cls_cases c with h | h
  · unfold Chr.Sign at h
    rcases h with rfl | rfl | rfl | rfl | rfl | rfl | rfl | rfl | rfl | rfl | rfl | rfl | rfl | rfl | rfl | rfl | rfl
    all_goals
      go_enter Tryz.func115, Tryz.ntmps115
      go_wp2_with (go_at_call 154; refine (letter_p 95 (by omega) _ (.inr rfl)).mono ?_; rintro e w' ⟨rfl, rfl⟩)
      go_ret
      exact ⟨rfl, rfl⟩
  · have hs : ¬ Chr.Sign c := by
      unfold Chr.Sign
      rcases h with h | h | h | h
      · omega
      · omega
      · omega
      · exact fun e => by obtain ⟨⟨h, _⟩, _⟩ := h; omega
    have HS := Lib.hid hs
    unfold Chr.Sign at hs
    simp only [not_or] at hs
    obtain ⟨n1, n2, n3, n4, n5, n6, n7, n8, n9, n10, n11, n12, n13, n14, n15, n16, n17⟩ := hs
    clear h
    go_enter Tryz.func115, Tryz.ntmps115
    go_wp2_with (go_at_call 154; refine (letter_p c hc _ (.inl HS.out)).mono ?_; rintro e w' ⟨rfl, rfl⟩)
    go_ret
    exact ⟨rfl, rfl⟩
end Go.Proofs.YtjpopekmbmcggaaGreatDoor
namespace Go.Proofs.YtjpopekmbmcggaaGreatDoor
open Go.RowKit
set_option maxRecDepth 100000 in
set_option maxHeartbeats 1000000 in
theorem indexByte_in (s : ByteArray) (c : Int) (w : World) : Calls Tryz.prog 227 #[.string s, .int .u8 c] w fun e w' => e = .returned (.int .i64 (Lib.indexByte s.toList c.toNat.toUInt8)) ∧ w = w' := by
  go_enter Tryz.func227, Tryz.ntmps227
  go_wp2
  rw [run_callFunc_extern Tryz.func245 (by kernel_rfl) (by kernel_rfl) (by kernel_rfl) (e := Extern.BytealgIndexByte.indexByte) (by kernel_rfl), Lib.run_indexByteString]
  simp only [Result.andThen]
  rw [Oper.upon_value]
  go_wp2
  go_ret
  exact ⟨ret_int (by rw [Lib.toList_data]), rfl⟩
set_option maxRecDepth 100000 in
set_option maxHeartbeats 1000000 in
theorem indexByte_p (s : ByteArray) (c : Int) (w : World) : Calls Tryz.prog 216 #[.string s, .int .u8 c] w fun e w' => e = .returned (.int .i64 (Lib.indexByte s.toList c.toNat.toUInt8)) ∧ w = w' := by
  go_enter Tryz.func216, Tryz.ntmps216
  go_wp2_with (go_at_call 227; refine (indexByte_in _ _ _).mono ?_; rintro e w' ⟨rfl, rfl⟩)
  go_ret
  exact ⟨rfl, rfl⟩
theorem special_at : ∀ c : Fin 256, decide (0 ≤ Lib.indexByte [64, 42, 35, 63, 45, 36, 33] ((c.val : Int).toNat.toUInt8)) = Chr.special c.val := by decide +kernel
set_option maxRecDepth 100000 in
set_option maxHeartbeats 1000000 in
theorem special_p (c : Nat) (hc : c < 256) (w : World) : Calls Tryz.prog 241 #[.int .u8 (c : Int)] w fun e w' => e = .returned (.bool (Chr.special c)) ∧ w = w' := by
  go_enter Tryz.func241, Tryz.ntmps241
  go_wp2_with (go_at_call 216; refine (indexByte_p _ _ _).mono ?_; rintro e w' ⟨rfl, rfl⟩)
  go_ret
  refine ⟨ret_bool ?_, rfl⟩
  have h := special_at ⟨c, hc⟩
  rw [← h]
  simp
theorem byte_step (p : Nat → Nat → Bool) (s : ByteArray) (k : Nat) (h : k < s.size) : Chr.allFrom p k (s.toList.drop k) = (p k s[k].toNat && Chr.allFrom p (k + 1) (s.toList.drop (k + 1))) := by
  rw [Chr.allFrom_drop p s.toList k (by rw [← size_list]; exact h), get_list s k h]
theorem byte_end (p : Nat → Nat → Bool) (s : ByteArray) (k : Nat) (h : ¬ k < s.size) : Chr.allFrom p k (s.toList.drop k) = true := Chr.allFrom_end p s.toList k (by rw [← size_list]; exact h)
theorem byte_lt (s : ByteArray) (k : Nat) (h : k < s.size) : s[k].toNat < 256 := s[k].toNat_lt
set_option maxRecDepth 100000 in
set_option maxHeartbeats 1000000 in
theorem ascii_p (s : ByteArray) (w : World) (hm : s.size ≤ 9223372036854775807) : Calls Tryz.prog 112 #[.string s] w fun e w' => e = .returned (.bool (Chr.ascii s.toList)) ∧ w = w' := by
  go_enter Tryz.func112, Tryz.ntmps112
  go_wp2_with fail
  go_loop [3, 6] (fun _ i => ∃ k : Nat, k ≤ s.size ∧ i = .int .i64 k ∧ Chr.allFrom Chr.okAscii k (s.toList.drop k) = Chr.ascii s.toList) (fun _ i => s.size - (intOf i).toNat)
  case atStart => exact ⟨0, by omega, rfl, rfl⟩
  case round =>
    obtain ⟨k, hk, rfl, hf⟩ := hrel
    by_cases hlt : k < s.size
    · rw [byte_step _ s k hlt] at hf
      have H := Lib.hid hf; clear hf
      by_cases ha : s[k].toNat < 128
      · go_wp2_with fail
        go_round
        case rel =>
          refine ⟨k + 1, by omega, by go_num, ?_⟩
          rw [← H.out, Chr.okAscii, decide_eq_true ha, Bool.true_and]
        case measure => simp only [intOf]; omega
      · go_wp2_with fail
        go_ret
        refine ⟨ret_bool ?_, rfl⟩
        rw [← H.out, Chr.okAscii, decide_eq_false ha, Bool.false_and]
    · rw [byte_end _ s k hlt] at hf
      have H := Lib.hid hf; clear hf
      go_wp2_with fail
      go_ret
      exact ⟨ret_bool H.out, rfl⟩
theorem cls_eq (c k : Nat) : (((Chr.cls c : Nat) : Int) == (k : Int)) = (Chr.cls c == k) := by
  by_cases h : Chr.cls c = k
  · rw [h]; simp
  · rw [beq_eq_false_iff_ne.2 h, beq_eq_false_iff_ne.2 (by omega)]
set_option maxRecDepth 100000 in
set_option maxHeartbeats 1000000 in
theorem name1_p (i c : Nat) (hc : c < 256) (w : World) : Calls Tryz.prog 144 #[.int .i64 (i : Int), .int .u8 (c : Int)] w fun e w' => e = .returned (.bool (Chr.okName i c)) ∧ w = w' := by
  have e4 := cls_eq c 4
  have e3 := cls_eq c 3
  have H : Hid (Chr.okName i c = (Chr.cls c == 4 || Chr.cls c == 3 && decide (0 < i))) := rfl
  cases h4 : Chr.cls c == 4 <;> cases h3 : Chr.cls c == 3 <;> rcases Nat.eq_zero_or_pos i with rfl | hi
  all_goals
    simp only [h4, h3] at e4 e3
    have e4' : (((Chr.cls c : Nat) : Int) == 4) = _ := e4
    have e3' : (((Chr.cls c : Nat) : Int) == 3) = _ := e3
    clear e4 e3
    have H4 := Lib.hid h4; have H3 := Lib.hid h3; clear h4 h3
    go_enter Tryz.func144, Tryz.ntmps144
    go_wp2_with (go_at_call 115; refine (class_p c hc _).mono ?_; rintro e w' ⟨rfl, rfl⟩)
    go_ret
    refine ⟨ret_bool ?_, rfl⟩
    rw [H.out, H4.out, H3.out]
    first | rfl | (rw [decide_eq_true hi]; rfl)
set_option maxRecDepth 100000 in
set_option maxHeartbeats 1000000 in
theorem digits1_p (i c : Nat) (hc : c < 256) (w : World) : Calls Tryz.prog 114 #[.int .i64 (i : Int), .int .u8 (c : Int)] w fun e w' => e = .returned (.bool (Chr.okDigit i c)) ∧ w = w' := by
  have e3 := cls_eq c 3
  go_enter Tryz.func114, Tryz.ntmps114
  go_wp2_with (go_at_call 115; refine (class_p c hc _).mono ?_; rintro e w' ⟨rfl, rfl⟩)
  go_ret
  exact ⟨ret_bool e3, rfl⟩
theorem ascii_at (s : ByteArray) (k : Nat) (h : Chr.ascii s.toList = true) (hk : k < s.size) : s[k].toNat < 128 := by
  have := Chr.allFrom_at 0 s.toList h k (by rw [← size_list]; exact hk)
  rw [get_list s k hk] at this
  simpa [Chr.okAscii] using this
set_option maxRecDepth 100000 in
set_option maxHeartbeats 1000000 in
theorem each_name (s : ByteArray) (w : World) (hm : s.size ≤ 9223372036854775807) (hasc : Chr.ascii s.toList = true) :
    Calls Tryz.prog 113 #[.string s, .func (Fn.func 144) #[] #[]] w fun e w' => e = .returned (.bool (Chr.allFrom Chr.okName 0 s.toList && !s.toList.isEmpty)) ∧ Below w.heap.size w w' := by
  have hempty : (!s.toList.isEmpty) = decide (0 < s.size) := by
    rw [size_list]
    cases s.toList <;> simp
  have HE := Lib.hid hempty; clear hempty
  go_enter Tryz.func113, Tryz.ntmps113
  go_wp2_with fail
  go_loopw [5] (fun _ wr => ∃ k : Nat, k ≤ s.size ∧ wr = w.iter s k ∧ Chr.allFrom Chr.okName k (s.toList.drop k) = Chr.allFrom Chr.okName 0 s.toList) (fun _ wr => s.size - wr.iterPos w.heap.size)
  case atStart => exact ⟨0, by omega, rfl, rfl⟩
  case round =>
    obtain ⟨k, hk, rfl, hf⟩ := hrel
    by_cases hlt : k < s.size
    · rw [byte_step _ s k hlt] at hf
      have H := Lib.hid hf; clear hf
      have hnx : ∀ ty, (Instr.next (.pointer (some ⟨w.heap.size, 0, none⟩)) true ty).run Tryz.prog (w.iter s k) = _ := fun ty => run_next_ascii w s k ty hlt (ascii_at s k hasc hlt)
      obtain ⟨b, hb⟩ : ∃ b, Chr.okName k s[k].toNat = b := ⟨_, rfl⟩
      cases b
      all_goals
        go_wp2_with (go_at_call 144; refine (name1_p k s[k].toNat (byte_lt s k hlt) _).mono ?_; rintro e w' ⟨rfl, rfl⟩)
      · go_ret
        refine ⟨ret_bool ?_, (Below.refl _ _).alloc (Nat.le_refl _) _⟩
        rw [← H.out, hb]; rfl
      · go_roundw
        case rel => exact ⟨k + 1, by omega, rfl, by rw [← H.out, hb]; rfl⟩
        case measure => simp only [World.iterPos_iter]; omega
    · rw [byte_end _ s k hlt] at hf
      have H := Lib.hid hf; clear hf
      have hnx : ∀ ty, (Instr.next (.pointer (some ⟨w.heap.size, 0, none⟩)) true ty).run Tryz.prog (w.iter s k) = _ := fun ty => run_next_end w s k ty hlt
      go_wp2_with fail
      go_ret
      refine ⟨ret_bool ?_, (Below.refl _ _).alloc (Nat.le_refl _) _⟩
      rw [← H.out, Bool.true_and]
set_option maxRecDepth 100000 in
set_option maxHeartbeats 1000000 in
theorem each_digits (s : ByteArray) (w : World) (hm : s.size ≤ 9223372036854775807) (hasc : Chr.ascii s.toList = true) :
    Calls Tryz.prog 113 #[.string s, .func (Fn.func 114) #[] #[]] w fun e w' => e = .returned (.bool (Chr.allFrom Chr.okDigit 0 s.toList && !s.toList.isEmpty)) ∧ Below w.heap.size w w' := by
  have hempty : (!s.toList.isEmpty) = decide (0 < s.size) := by
    rw [size_list]
    cases s.toList <;> simp
  have HE := Lib.hid hempty; clear hempty
  go_enter Tryz.func113, Tryz.ntmps113
  go_wp2_with fail
  go_loopw [5] (fun _ wr => ∃ k : Nat, k ≤ s.size ∧ wr = w.iter s k ∧ Chr.allFrom Chr.okDigit k (s.toList.drop k) = Chr.allFrom Chr.okDigit 0 s.toList) (fun _ wr => s.size - wr.iterPos w.heap.size)
  case atStart => exact ⟨0, by omega, rfl, rfl⟩
  case round =>
    obtain ⟨k, hk, rfl, hf⟩ := hrel
    by_cases hlt : k < s.size
    · rw [byte_step _ s k hlt] at hf
      have H := Lib.hid hf; clear hf
      have hnx : ∀ ty, (Instr.next (.pointer (some ⟨w.heap.size, 0, none⟩)) true ty).run Tryz.prog (w.iter s k) = _ := fun ty => run_next_ascii w s k ty hlt (ascii_at s k hasc hlt)
      obtain ⟨b, hb⟩ : ∃ b, Chr.okDigit k s[k].toNat = b := ⟨_, rfl⟩
      cases b
      all_goals
        go_wp2_with (go_at_call 114; refine (digits1_p k s[k].toNat (byte_lt s k hlt) _).mono ?_; rintro e w' ⟨rfl, rfl⟩)
      · go_ret
        refine ⟨ret_bool ?_, (Below.refl _ _).alloc (Nat.le_refl _) _⟩
        rw [← H.out, hb]; rfl
      · go_roundw
        case rel => exact ⟨k + 1, by omega, rfl, by rw [← H.out, hb]; rfl⟩
        case measure => simp only [World.iterPos_iter]; omega
    · rw [byte_end _ s k hlt] at hf
      have H := Lib.hid hf; clear hf
      have hnx : ∀ ty, (Instr.next (.pointer (some ⟨w.heap.size, 0, none⟩)) true ty).run Tryz.prog (w.iter s k) = _ := fun ty => run_next_end w s k ty hlt
      go_wp2_with fail
      go_ret
      refine ⟨ret_bool ?_, (Below.refl _ _).alloc (Nat.le_refl _) _⟩
      rw [← H.out, Bool.true_and]
set_option maxRecDepth 100000 in
set_option maxHeartbeats 1000000 in
theorem name_p (s : ByteArray) (w : World) (hm : s.size ≤ 9223372036854775807) : Calls Tryz.prog 92 #[.string s] w fun e w' => e = .returned (.bool (Chr.name s.toList)) ∧ Below w.heap.size w w' := by
  cases ha : Chr.ascii s.toList
  · go_enter Tryz.func92, Tryz.ntmps92
    go_wp2_with (go_at_call 112; refine (ascii_p s _ hm).mono ?_; rintro e w' ⟨rfl, rfl⟩)
    go_ret
    refine ⟨ret_bool ?_, Below.refl _ _⟩
    cases h : Chr.name s.toList
    · rfl
    · rw [Chr.name_ascii _ h] at ha; cases ha
  · have HA := Lib.hid ha
    go_enter Tryz.func92, Tryz.ntmps92
    go_wp2_with (first
      | (go_at_call 112; refine (ascii_p s _ hm).mono ?_; rintro e w' ⟨rfl, rfl⟩)
      | (go_at_call 113; refine (each_name s _ hm HA.out).mono ?_; rintro e w' ⟨rfl, hb⟩))
    go_ret
    exact ⟨rfl, hb⟩
set_option maxRecDepth 100000 in
set_option maxHeartbeats 1000000 in
theorem digits_p (s : ByteArray) (w : World) (hm : s.size ≤ 9223372036854775807) : Calls Tryz.prog 44 #[.string s] w fun e w' => e = .returned (.bool (Chr.digits s.toList)) ∧ Below w.heap.size w w' := by
  cases ha : Chr.ascii s.toList
  · go_enter Tryz.func44, Tryz.ntmps44
    go_wp2_with (go_at_call 112; refine (ascii_p s _ hm).mono ?_; rintro e w' ⟨rfl, rfl⟩)
    go_ret
    refine ⟨ret_bool ?_, Below.refl _ _⟩
    cases h : Chr.digits s.toList
    · rfl
    · rw [Chr.digits_ascii _ h] at ha; cases ha
  · have HA := Lib.hid ha
    go_enter Tryz.func44, Tryz.ntmps44
    go_wp2_with (first
      | (go_at_call 112; refine (ascii_p s _ hm).mono ?_; rintro e w' ⟨rfl, rfl⟩)
      | (go_at_call 113; refine (each_digits s _ hm HA.out).mono ?_; rintro e w' ⟨rfl, hb⟩))
    go_ret
    exact ⟨rfl, hb⟩
end Go.Proofs.YtjpopekmbmcggaaGreatDoor
namespace Go.Proofs.YtjpopekmbmcggaaGreatDoor
open Go.RowKit
theorem assign_eq (s : ByteArray) (k m : Nat) (h : k < s.size) (hm : s.size - k = m + 1) :
    Chr.assignFrom s.toList k (s.size - k) = if s[k].toNat = 61 then (if Chr.name (s.toList.take k) then (k : Int) else -1) else Chr.assignFrom s.toList (k + 1) m := by
  rw [hm, Chr.assignFrom]
  have e : s.toList.getD k 0 = s[k] := by rw [List.getD_eq_getElem?_getD, get?_list s k h]; rfl
  rw [e]
end Go.Proofs.YtjpopekmbmcggaaGreatDoor
namespace Go.Proofs.YtjpopekmbmcggaaGreatDoor.Chr
open Go
theorem idx_hit {a c : UInt8} (l : List UInt8) (h : a = c) : Lib.indexByte (a :: l) c = 0 := by simp [Lib.indexByte, h]
theorem idx_miss {a c : UInt8} (l : List UInt8) (h : a ≠ c) : Lib.indexByte (a :: l) c = if Lib.indexByte l c = -1 then -1 else Lib.indexByte l c + 1 := by
  have hb : (a == c) = false := by rw [beq_eq_false_iff_ne]; exact h
  rw [Lib.indexByte, hb]
  by_cases hm : Lib.indexByte l c = -1
  · simp [hm]
  · simp [hm]
theorem assignFrom_eq (l : List UInt8) : ∀ (n i : Nat), i + n = l.length →
    assignFrom l i n = if Lib.indexByte (l.drop i) 61 = -1 then -1 else if name (l.take (i + (Lib.indexByte (l.drop i) 61).toNat)) then (i : Int) + Lib.indexByte (l.drop i) 61 else -1
  | 0, i, h => by
    rw [List.drop_of_length_le (by omega)]
    rfl
  | n + 1, i, h => by
    have hi : i < l.length := by omega
    rw [List.drop_eq_getElem_cons hi]
    have e : l.getD i 0 = l[i] := by rw [List.getD_eq_getElem?_getD, List.getElem?_eq_getElem hi]; rfl
    rw [assignFrom, e]
    by_cases h61 : l[i].toNat = 61
    · rw [if_pos h61, idx_hit _ (UInt8.toNat_inj.1 h61)]
      have h0 : ¬ ((0 : Int) = -1) := by decide
      rw [if_neg h0, show i + (0 : Int).toNat = i from rfl, Int.add_zero]
    · rw [if_neg h61, assignFrom_eq l n (i + 1) (by omega), idx_miss _ (fun e => h61 (by rw [e]; rfl))]
      have hge := Lib.indexByte_ge (l.drop (i + 1)) 61
      by_cases hm : Lib.indexByte (l.drop (i + 1)) 61 = -1
      · rw [if_pos hm, if_pos hm, if_pos rfl]
      · have hx : ¬ (Lib.indexByte (l.drop (i + 1)) 61 + 1 = -1) := by omega
        rw [if_neg hm, if_neg hm, if_neg hx]
        have e2 : i + 1 + (Lib.indexByte (l.drop (i + 1)) 61).toNat = i + (Lib.indexByte (l.drop (i + 1)) 61 + 1).toNat := by omega
        rw [e2]
        split
        · omega
        · rfl
theorem assign_eq (l : List UInt8) : assign l = if Lib.indexByte l 61 = -1 then -1 else if name (l.take (Lib.indexByte l 61).toNat) then Lib.indexByte l 61 else -1 := by
  unfold assign
  rw [assignFrom_eq l l.length 0 (by omega)]
  simp
theorem indexByte_lt (c : UInt8) : ∀ s : List UInt8, Lib.indexByte s c < s.length ∨ Lib.indexByte s c = -1
  | [] => .inr rfl
  | a :: s => by
    have ih := indexByte_lt c s
    by_cases ha : a = c
    · rw [idx_hit _ ha, List.length_cons]; left; omega
    · rw [idx_miss _ ha, List.length_cons]
      by_cases hm : Lib.indexByte s c = -1
      · rw [if_pos hm]; exact .inr rfl
      · rw [if_neg hm]; left; omega
end Go.Proofs.YtjpopekmbmcggaaGreatDoor.Chr
namespace Go.Proofs.YtjpopekmbmcggaaGreatDoor
open Go.RowKit
theorem indexByte_61 (s : ByteArray) (w : World) : Calls Tryz.prog 216 #[.string s, .int .u8 61] w fun e w' => e = .returned (.int .i64 (Lib.indexByte s.toList 61)) ∧ w = w' := indexByte_p s 61 w
set_option maxRecDepth 100000 in
set_option maxHeartbeats 2000000 in
theorem assign_p (s : ByteArray) (w : World) (hm : s.size ≤ 9223372036854775807) : Calls Tryz.prog 211 #[.string s] w fun e w' => e = .returned (.int .i64 (Chr.assign s.toList)) ∧ Below w.heap.size w w' := by
  have HA := Lib.hid (Chr.assign_eq s.toList)
  have hge := Lib.indexByte_ge s.toList 61
  have hlt := Chr.indexByte_lt 61 s.toList
  rw [← size_list] at hlt
  by_cases hi : Lib.indexByte s.toList 61 = -1
  · have HI := Lib.hid hi
    clear hge hlt
    go_enter Tryz.func211, Tryz.ntmps211
    go_wp2_with (go_at_call 216; refine (indexByte_61 _ _).mono ?_; rintro e w' ⟨rfl, rfl⟩)
    go_ret
    refine ⟨ret_int ?_, Below.refl _ _⟩
    rw [HA.out, if_pos HI.out]
  · obtain ⟨k, hk⟩ : ∃ k : Nat, Lib.indexByte s.toList 61 = k := ⟨(Lib.indexByte s.toList 61).toNat, by omega⟩
    have hks : k ≤ s.size := by rcases hlt with h | h <;> omega
    have HK := Lib.hid hk
    clear hi hge hlt
    have hsz : (s.extract 0 k).size ≤ 9223372036854775807 := by rw [size_list, take_list, List.length_take]; omega
    have HS := Lib.hid hsz; clear hsz
    cases hn : Chr.name (s.toList.take k)
    all_goals
      have HN := Lib.hid hn
      go_enter Tryz.func211, Tryz.ntmps211
      go_wp2_with (first
        | (go_at_call 216; refine (indexByte_61 _ _).mono ?_; rintro e w' ⟨rfl, rfl⟩)
        | (go_at_call 92; refine (name_p _ _ HS.out).mono ?_; rintro e w' ⟨rfl, hb⟩; rw [take_list]))
      go_ret
      refine ⟨ret_int ?_, hb⟩
      rw [HA.out, HK.out, if_neg (by omega), Int.toNat_natCast, HN.out]
      rfl
end Go.Proofs.YtjpopekmbmcggaaGreatDoor
