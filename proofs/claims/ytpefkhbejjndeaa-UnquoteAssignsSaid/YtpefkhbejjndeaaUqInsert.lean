/- slices.Insert of one literal at the head of a row of parts. -/
import Derived.Test.YtpefkhbejjndeaaUqCopy
import Derived.Lib.Overlaps
import Derived.Laws.Externs
import Derived.Maps.AppendAt
namespace Go.Proofs.Ytpefkhbejjndeaa
open Go.RowKit
attribute [local go_sem ↓] wp_append_wr
attribute [local go_sem ↓] wp_copy_wr

def litPs (t : ByteArray) : List Value := [.int .i64 1, .string t, .string ⟨#[]⟩, .slice none 0 0, .slice none 0 0]
def Pts.lit (t : ByteArray) (l : Pts) : Pts := .cons 1 t ⟨#[]⟩ .nil ⟨none, 0, 0⟩ l
theorem litPs_one (t : ByteArray) : ∀ u ∈ litPs t, u.oneCell' = true := by
  intro u hu
  simp only [litPs, List.mem_cons, List.not_mem_nil, or_false] at hu
  rcases hu with rfl | rfl | rfl | rfl | rfl <;> rfl
theorem litPs_row (G : Nat → Prop) (w : World) (t : ByteArray) {xs : List Value} {l : Pts} (h : PtsRow G w xs l) : PtsRow G w (litPs t ++ xs) (Pts.lit t l) :=
  ⟨none, 0, xs, rfl, Nat.le_refl _, trivial, h⟩
theorem litPs_at {w : World} {vb : Nat} {t : ByteArray} (hv : w.heap[vb]? = some (.cells (litPs t).toArray 41 (0, 0))) (j : Nat) (u : Value) (hj : (litPs t)[j]? = some u) : w.cell? ((⟨vb, 0, none⟩ : Addr).add j) = some u := by
  rw [add_at, Nat.zero_add]
  simp only [World.cell?, hv]
  simpa using hj
theorem row_at {w : World} {g : Nat} {cur : Array Value} {xs : List Value} {k : Nat} (hh : w.heap[g]? = some (.cells cur 41 (0, 0))) (ht : cur.toList.take k = xs) (j : Nat) (u : Value) (hj : xs[j]? = some u) : w.cell? ((⟨g, 0, none⟩ : Addr).add j) = some u := by
  rw [add_at, Nat.zero_add]
  rw [← ht] at hj
  have hlt := (List.getElem?_eq_some_iff.1 hj).1
  rw [List.length_take] at hlt
  rw [List.getElem?_take_of_lt (by omega)] at hj
  simp only [World.cell?, hh]
  simpa using hj

/-- What stands in a row behind a copy into it. -/
theorem seg_len (L cs : List Value) (o : Nat) (h : o + cs.length ≤ L.length) : (L.take o ++ cs ++ L.drop (o + cs.length)).length = L.length := by
  simp only [List.length_append, List.length_take, List.length_drop]
  omega
theorem seg_take (L cs : List Value) (o : Nat) (h : o + cs.length ≤ L.length) : (L.take o ++ cs ++ L.drop (o + cs.length)).take (o + cs.length) = L.take o ++ cs := by
  have : o + cs.length = (L.take o ++ cs).length := by rw [List.length_append, List.length_take]; omega
  rw [this]
  exact List.take_left' rfl

set_option maxRecDepth 100000 in
set_option maxHeartbeats 4000000 in
theorem insert0 (l : Pts) (t : ByteArray) (v : Value) (vb B : Nat) (G : Nat → Prop) (w : World) (h : Prow G B w v l) (hv : w.heap[vb]? = some (.cells (litPs t).toArray 41 (0, 0))) (hne : v.ownBlock ≠ some vb) (hG : ∀ k, G k → k < B) (hB : B ≤ w.heap.size) (hlen : l.len ≤ 1073741824) :
    Calls Try.prog 64 #[v, .int .i64 0, .slice (some ⟨vb, 0, none⟩) 1 1] w fun e w' => ∃ v', e = .returned v' ∧ Prow G B w' v' (Pts.lit t l) ∧ Below B w w' := by
  obtain ⟨i0, hi, hz0, hz1, hz2⟩ := info_parts info_part
  have hsz : (Try.prog.info? 41).map (·.size) = some 5 := by rw [hi]; simp [hz1]
  obtain ⟨xs, hown, hr⟩ := h
  by_cases hn : l.len = 0
  · have hl : l = .nil := by
      cases l with
      | nil => rfl
      | cons => simp [Pts.len] at hn
    subst hl
    have hx : xs = [] := hr
    subst hx
    replace hown : w.ownsRow B 41 5 v 0 [] := hown
    obtain ⟨v', w', hrun, hown', hgr, hnil, hat⟩ := run_append_own_at (P := Try.prog) (w := w) B 31 31 _ i0 _ 5 88 Try.underlying31 hi hz0 hz1 hz2 rfl (by omega) v 0 [] hown ⟨vb, 0, none⟩ 1 1 (litPs t) rfl (litPs_at hv) (litPs_one t) (by unfold maxLen; omega) (by omega) hB
    have hr' := WrA.of hrun
    have HP := Lib.hid (show Prow G B w' v' (Pts.lit t .nil) from ⟨litPs t, hown', litPs_row G w' t (l := .nil) (xs := []) rfl⟩)
    have HB := Lib.hid ((Below.refl B w).grown hgr hB (fun k hk => by
      rcases hown.2 with ⟨rfl, _⟩ | ⟨g, cap, cur, rfl, hb, _⟩
      · simp [Value.ownBlock] at hk
      · simp [Value.ownBlock] at hk; omega))
    clear hrun hown' hgr hnil hat
    rcases hown.2 with ⟨rfl, _⟩ | ⟨g, cap, cur, rfl, _, _, _, hm, _⟩
    · clear hown
      go_enter Try.func64, Try.ntmps64
      go_wp2_with fail
      go_ret
      exact ⟨v', rfl, HP.out, HB.out⟩
    · clear hown
      have hm' : (cap : Int) ≤ 9223372036854775807 := by unfold maxLen at hm; omega
      have hc0 : (0 : Int) ≤ (cap : Int) := by omega
      by_cases hcap : cap = 0
      · subst hcap
        go_enter Try.func64, Try.ntmps64
        go_wp2_with fail
        go_ret
        exact ⟨v', rfl, HP.out, HB.out⟩
      · skip
        go_enter Try.func64, Try.ntmps64
        go_wp2_with fail
        go_ret
        exact ⟨v', rfl, HP.out, HB.out⟩
  · rcases hown.2 with ⟨_, h0⟩ | ⟨g, cap, cur, rfl, hBg, hh, hc, hm, hcs, htk⟩
    · exact absurd h0 hn
    have hgv : g ≠ vb := fun e => hne (by rw [e]; rfl)
    have hxl : xs.length = l.len * 5 := hown.1
    have hnz : ((0 : Int) == (l.len : Int)) = false := by rw [beq_eq_false_iff_ne]; omega
    have hglt : g < w.heap.size := (Array.getElem?_eq_some_iff.1 hh).1
    have hvlt : vb < w.heap.size := (Array.getElem?_eq_some_iff.1 hv).1
    have hwr : IntKind.i64.wrap ((l.len : Int) + 1) = (l.len : Int) + 1 := by rw [IntKind.wrap_i64]; omega
    have hto : ((l.len : Int) + 1).toNat = l.len + 1 := by omega
    have hs0 : (0 : Int) ≤ (l.len : Int) + 1 := by omega
    have hlc : (l.len : Int) ≤ (cap : Int) := by omega
    by_cases hroom : cap < l.len + 1
    · have hgi : (cap : Int) < (l.len : Int) + 1 := by omega
      -- a new row
      have hold : (Builtin.firstCells i0.size 0 (.slice (some ⟨g, 0, none⟩) 0 cap)).run Try.prog w.drew = .ok ([] : List Value).toArray w.drew := run_firstCells_some w.drew i0.size 0 ⟨g, 0, none⟩ 0 cap [] (by simp) (fun j u hj => by simp at hj)
      have hrz := Lib.run_append_grow_zeros (P := Try.prog) w 31 3 31 41 i0 _ .i64 .i64 Try.underlying31 Try.underlying3 hi hz0 (some ⟨g, 0, none⟩) 0 cap [] hold (l.len + 1) (by omega) (by omega) (by omega) (by omega) (by rw [hz2]; omega) (by rw [hz2]; exact growslice_fits (by omega) (by omega))
      have hge := grownCap_ge w (0 + (l.len + 1)) cap 41
      have hle := grownCap_le_maxLen w (0 + (l.len + 1)) cap 41 (by unfold maxLen; omega)
      rw [Nat.zero_add] at hrz hge hle
      have hrz' := WrA.of hrz
      generalize hNC : grownCap w (l.len + 1) cap 41 = nc at hrz' hge hle
      generalize hZ : (([] : List Value).toArray ++ Builtin.zeroCells (Value.agg #[.int .i64 0, .string ⟨#[]⟩, .string ⟨#[]⟩, .slice none 0 0, .slice none 0 0]).cells (l.len + 1) ++ Builtin.zeroCells (Value.agg #[.int .i64 0, .string ⟨#[]⟩, .string ⟨#[]⟩, .slice none 0 0, .slice none 0 0]).cells (nc - (l.len + 1))) = Z at hrz'
      have hZs : Z.size = nc * 5 := by
        rw [← hZ]
        simp [Builtin.zeroCells, Value.cells]
        omega
      have hgw : g ≠ w.heap.size := by omega
      have hvw : vb ≠ w.heap.size := by omega
      clear hNC hold hrz
      -- the world behind the new row
      obtain ⟨W1, hW1⟩ : ∃ W1, W1 = w.drew.alloc (.cells Z 41) := ⟨_, rfl⟩
      rw [← hW1] at hrz'
      have hb1 : Below w.heap.size w W1 := by rw [hW1]; exact (Below.refl _ _).drew.alloc (by simp) _
      have hz1' : W1.heap[w.heap.size]? = some (.cells Z 41 (0, 0)) := by rw [hW1]; exact heap_alloc w.drew _
      have hv1 := (hb1.block vb hvlt).trans hv
      have hg1 := (hb1.block g hglt).trans hh
      have hcp1 := run_copy_rowK (P := Try.prog) W1 31 31 3 41 5 w.heap.size 0 (l.len + 1) nc ⟨vb, 0, none⟩ 1 1 Z 41 (litPs t) Try.underlying31 hsz hz1' (by rw [show Nat.min 1 (l.len + 1) = 1 by simp]; rfl) (litPs_at hv1) (by rw [hZs]; show 0 + 5 ≤ _; omega) (litPs_one t)
      rw [show Nat.min 1 (l.len + 1) = 1 by simp] at hcp1
      have hZl : Z.toList.length = nc * 5 := by rw [Array.length_toList]; exact hZs
      have hsl1 := seg_len Z.toList (litPs t) 0 (by rw [hZl]; show 0 + 5 ≤ _; omega)
      have hst1 := seg_take Z.toList (litPs t) 0 (by rw [hZl]; show 0 + 5 ≤ _; omega)
      rw [hZl] at hsl1
      revert hcp1 hsl1 hst1
      generalize Z.toList.take 0 ++ litPs t ++ Z.toList.drop (0 + (litPs t).length) = R1
      intro hcp1 hsl1 hst1
      obtain ⟨W2, hW2⟩ : ∃ W2, W2 = W1.setRow w.heap.size R1.toArray := ⟨_, rfl⟩
      rw [← hW2] at hcp1
      have hz2' : W2.heap[w.heap.size]? = some (.cells R1.toArray 41 (0, 0)) := by rw [hW2]; exact setRow_heap _ _ _ _ _ _ hz1'
      have hg2 : W2.heap[g]? = some (.cells cur 41 (0, 0)) := by rw [hW2, setRow_other _ _ _ _ hgw]; exact hg1
      have hcp2 := run_copy_rowK (P := Try.prog) W2.drew 31 31 3 41 5 w.heap.size 5 l.len (nc - 1) ⟨g, 0, none⟩ l.len cap R1.toArray 41 xs Try.underlying31 hsz hz2' (by rw [show Nat.min l.len l.len = l.len from Nat.min_self _]; exact hxl) (row_at (w := W2.drew) hg2 htk) (by rw [hxl]; show 5 + l.len * 5 ≤ R1.length; omega) (fun u hu => PtsRow.one hr u hu)
      rw [show Nat.min l.len l.len = l.len from Nat.min_self _, show R1.toArray.toList = R1 from rfl] at hcp2
      have hsl2 := seg_len R1 xs 5 (by rw [hxl]; omega)
      have hst2 := seg_take R1 xs 5 (by rw [hxl]; omega)
      rw [show R1.take 5 = litPs t from hst1] at hcp2 hsl2 hst2
      revert hcp2 hsl2 hst2
      generalize litPs t ++ xs ++ R1.drop (5 + xs.length) = R2
      intro hcp2 hsl2 hst2
      have hb2 : Below w.heap.size w W2 := by
        rw [hW2]
        exact ⟨hb1.os, hb1.tape, hb1.output, by simpa using hb1.size, fun k hk => (setRow_other _ _ _ _ (by omega)).trans (hb1.block k hk)⟩
      have hb3 : Below w.heap.size w (W2.drew.setRow w.heap.size R2.toArray) := ⟨hb2.os, hb2.tape, hb2.output, by simpa using hb2.size, fun k hk => (setRow_other _ _ _ _ (by omega)).trans (hb2.block k hk)⟩
      have hP : Prow G B (W2.drew.setRow w.heap.size R2.toArray) (.slice (some ⟨w.heap.size, 0, none⟩) (l.len + 1) nc) (Pts.lit t l) := by
        refine ⟨litPs t ++ xs, ⟨?_, .inr ⟨w.heap.size, nc, R2.toArray, rfl, hB, setRow_heap _ _ _ _ _ _ (show W2.drew.heap[w.heap.size]? = _ from hz2'), hge, hle, ?_, ?_⟩⟩, litPs_row _ _ t (hr.keep fun p hp => World.cell?_of_block (hb3.block _ (Nat.lt_of_lt_of_le (hG _ hp) hB)))⟩
        · rw [List.length_append, hxl]
          show 5 + l.len * 5 = (l.len + 1) * 5
          omega
        · show R2.length = nc * 5
          omega
        · show R2.take ((l.len + 1) * 5) = _
          rw [show (l.len + 1) * 5 = 5 + xs.length by rw [hxl]; omega]
          exact hst2
      have HP := Lib.hid hP; have HB3 := Lib.hid hb3
      have hnci : (l.len : Int) + 1 ≤ (nc : Int) := by omega
      have hnci1 : (1 : Int) ≤ (nc : Int) := by omega
      have hncn : ¬ nc = 1 := by omega
      have hncm : (nc : Int) ≤ 9223372036854775807 := by unfold maxLen at hle; omega
      have hcapm : (cap : Int) ≤ 9223372036854775807 := by unfold maxLen at hm; omega
      have hcp0 : ¬ cap = 0 := by omega
      have hl1 : (l.len : Int) ≤ 1073741824 := by omega
      rw [Int.natCast_add, show ((1 : Nat) : Int) = 1 from rfl] at hrz'
      clear hb1 hb2 hb3 hP hz1' hz2' hv1 hg1 hg2 hW1 hW2 hsl1 hsl2 hst1 hst2 hZ hZs hown hh hv hcs htk hr hxl
      go_enter Try.func64, Try.ntmps64
      go_wp2_with fail
      go_region
      go_wp2
      go_ret
      exact ⟨_, rfl, HP.out, HB3.out.mono hB⟩
    ·
      have hgi : ¬ (cap : Int) < (l.len : Int) + 1 := by omega
      have hsa : w.shape? vb = some (41, 5) := by simp [World.shape?, hv, litPs]
      have hsb : w.shape? g = some (41, cap * 5) := by simp [World.shape?, hh, hcs]
      have hov : ∀ lb cb, (callFunc 86 #[.slice (some ⟨vb, 0, none⟩) 1 1, .slice (some ⟨g, 5, none⟩) lb cb]).run Try.prog w = .ok (.value (.bool false)) w := fun lb cb => by
        rw [run_callFunc_extern Try.func86 (by kernel_rfl) (by kernel_rfl) (by kernel_rfl) (e := Extern.SlicesOverlaps.overlaps #[31, 31] #[4]) (by kernel_rfl),
          Lib.run_overlaps_apart w 31 4 41 Try.underlying31 5 Try.sizeOf41 ⟨vb, 0, none⟩ ⟨g, 5, none⟩ 1 1 lb cb (Ne.symm hgv) _ _ _ _ hsa hsb (by omega) (by simp [World.frozen?, hv]) (by simp [World.frozen?, hv])]
        rfl
      have hcl : cur.toList.length = cap * 5 := by rw [Array.length_toList]; exact hcs
      have hcp1 := run_copy_rowK (P := Try.prog) w.drew 31 31 3 41 5 g 5 l.len (cap - 1) ⟨g, 0, none⟩ (l.len + 1) cap cur 41 xs Try.underlying31 hsz hh (by rw [show Nat.min (l.len + 1) l.len = l.len from Nat.min_eq_right (by omega)]; exact hxl) (row_at (w := w.drew) hh htk) (by rw [hxl]; omega) (fun u hu => PtsRow.one hr u hu)
      rw [show Nat.min (l.len + 1) l.len = l.len from Nat.min_eq_right (by omega)] at hcp1
      have hR1l := seg_len cur.toList xs 5 (by rw [hxl, hcl]; omega)
      rw [hcl] at hR1l
      have hR1d : (cur.toList.take 5 ++ xs ++ cur.toList.drop (5 + xs.length)).drop 5 = xs ++ cur.toList.drop (5 + xs.length) := by
        rw [List.append_assoc]
        exact List.drop_left' (by rw [List.length_take, hcl]; omega)
      revert hcp1 hR1l hR1d
      generalize cur.toList.take 5 ++ xs ++ cur.toList.drop (5 + xs.length) = R1
      generalize cur.toList.drop (5 + xs.length) = D
      intro hcp1 hR1l hR1d
      obtain ⟨W1, hW1⟩ : ∃ W1, W1 = w.drew.setRow g R1.toArray := ⟨_, rfl⟩
      rw [← hW1] at hcp1
      have hg1 : W1.heap[g]? = some (.cells R1.toArray 41 (0, 0)) := by rw [hW1]; exact setRow_heap _ _ _ _ _ _ (show w.drew.heap[g]? = _ from hh)
      have hv1 : W1.heap[vb]? = some (.cells (litPs t).toArray 41 (0, 0)) := by rw [hW1, setRow_other _ _ _ _ (Ne.symm hgv)]; exact hv
      have hcp2 := run_copy_rowK (P := Try.prog) W1 31 31 3 41 5 g 0 (l.len + 1) cap ⟨vb, 0, none⟩ 1 1 R1.toArray 41 (litPs t) Try.underlying31 hsz hg1 (by rw [show Nat.min 1 (l.len + 1) = 1 by simp]; rfl) (litPs_at hv1) (by show 0 + 5 ≤ R1.length; omega) (litPs_one t)
      rw [show Nat.min 1 (l.len + 1) = 1 by simp, show R1.toArray.toList = R1 from rfl, show R1.take 0 ++ litPs t ++ R1.drop (0 + (litPs t).length) = litPs t ++ (xs ++ D) from congrArg (litPs t ++ ·) hR1d] at hcp2
      have hlen2 : (litPs t ++ (xs ++ D)).length = cap * 5 := by
        rw [← hR1d, List.length_append, List.length_drop, hR1l]
        show 5 + (cap * 5 - 5) = _
        omega
      have htk2 : (litPs t ++ (xs ++ D)).take ((l.len + 1) * 5) = litPs t ++ xs := by
        rw [← List.append_assoc, show (l.len + 1) * 5 = (litPs t ++ xs).length by rw [List.length_append, hxl]; show _ = 5 + l.len * 5; omega]
        exact List.take_left' rfl
      have hb1 : Below B w W1 := by
        rw [hW1]
        exact ⟨rfl, rfl, rfl, by simp, fun k hk => setRow_other _ _ _ _ (by omega)⟩
      have hb2 : Below B w (W1.setRow g (litPs t ++ (xs ++ D)).toArray) := ⟨hb1.os, hb1.tape, hb1.output, by simpa using hb1.size, fun k hk => (setRow_other _ _ _ _ (by omega)).trans (hb1.block k hk)⟩
      have hP : Prow G B (W1.setRow g (litPs t ++ (xs ++ D)).toArray) (.slice (some ⟨g, 0, none⟩) (l.len + 1) cap) (Pts.lit t l) := by
        refine ⟨litPs t ++ xs, ⟨?_, .inr ⟨g, cap, _, rfl, hBg, setRow_heap _ _ _ _ _ _ hg1, by show l.len + 1 ≤ cap; omega, hm, hlen2, htk2⟩⟩, litPs_row _ _ t (hr.keep fun p hp => World.cell?_of_block (hb2.block _ (hG _ hp)))⟩
        rw [List.length_append, hxl]
        show 5 + l.len * 5 = (l.len + 1) * 5
        omega
      have HP := Lib.hid hP; have HB2 := Lib.hid hb2
      have hcapm : (cap : Int) ≤ 9223372036854775807 := by unfold maxLen at hm; omega
      have hcp0 : ¬ cap = 0 := by omega
      have hcp1' : ¬ cap = 1 := by omega
      have hci : (l.len : Int) + 1 ≤ (cap : Int) := by omega
      have hci1 : (1 : Int) ≤ (cap : Int) := by omega
      have hl1 : (l.len : Int) ≤ 1073741824 := by omega
      clear hb1 hb2 hP hg1 hv1 hW1 hlen2 htk2 hown hh hv hcs htk hr hxl hR1l hR1d hcl hsa hsb
      go_enter Try.func64, Try.ntmps64
      go_wp2_with fail
      go_region
      go_wp2_with fail
      go_ret
      exact ⟨_, rfl, HP.out, HB2.out⟩
end Go.Proofs.Ytpefkhbejjndeaa
