/- The program's table, walked: New, Get, Len, Set, Unset. -/
import Derived.Test.YtbkmfnjjfamjjaaAlTab
import Derived.Test.YtbkmfnjjfamjjaaCharPl
import Derived.Test.YtbkmfnjjfamjjaaShelf
import Derived.Lib.Bytealg
namespace Go.Proofs.Ytbkmfnjjfamjjaa
open Go.RowKit Go.Maps

/-- Has a text the byte 0? -/
def nul (v : ByteArray) : Bool := v.data.toList.any (· == 0)
theorem nul_index (v : ByteArray) : decide (0 ≤ Lib.indexByte v.data.toList 0) = nul v := by
  have hge : ∀ l : List UInt8, -1 ≤ Lib.indexByte l 0 := by
    intro l
    induction l with
    | nil => simp [Lib.indexByte]
    | cons a r ih =>
      by_cases h : a = 0
      · simp [Lib.indexByte, h]
      · rw [show Lib.indexByte (a :: r) 0 = if Lib.indexByte r 0 = -1 then -1 else Lib.indexByte r 0 + 1 from by simp [Lib.indexByte, h]]
        split <;> omega
  unfold nul
  induction v.data.toList with
  | nil => rfl
  | cons a r ih =>
    by_cases h : a = 0
    · subst h; simp [Lib.indexByte]
    · have hb : (a == 0) = false := by simpa using h
      rw [List.any_cons, hb, Bool.false_or, ← ih]
      rw [show Lib.indexByte (a :: r) 0 = if Lib.indexByte r 0 = -1 then -1 else Lib.indexByte r 0 + 1 from by simp [Lib.indexByte, h]]
      have := hge r
      split
      · rename_i h1; rw [h1]
      · exact decide_eq_decide.2 (by omega)

theorem size_alloc (w : World) (o : Obj) : (w.alloc o).heap.size = w.heap.size + 1 := Array.size_push ..
theorem heap_alloc (w : World) (o : Obj) : (w.alloc o).heap[w.heap.size]? = some o := Array.getElem?_push_size
theorem heap_alloc_newer (w : World) (o1 o2 : Obj) : ((w.alloc o1).alloc o2).heap[w.heap.size + 1]? = some o2 := by
  have := heap_alloc (w.alloc o1) o2
  rw [size_alloc] at this
  exact this
/-- The program's table. -/
def Tab (w : World) (g b : Nat) (L : Al) : Prop := w.heap[g]? = some (.cells #[.map (some b)] 47 (0, 0)) ∧ Mp w b L
namespace Al
/-- What Set answers. -/
def setE (L : Al) (s v : ByteArray) : Int :=
  if Chr.plain s.toList = false then 10 else if 24 < s.size ∨ 200 < v.size then 5 else if nul v = true then 2 else if L.has s = false ∧ 40 ≤ L.length then 14 else 0
def setL (L : Al) (s v : ByteArray) : Al := if setE L s v = 0 then L.put s v else L
end Al
section
variable {w w' : World} {g b : Nat} {L : Al}
theorem Tab.cell (h : Tab w g b L) : w.cell? ⟨g, 0, none⟩ = some (.map (some b)) := by
  simp [World.cell?, h.1]
theorem Tab.ne (h : Tab w g b L) : g ≠ b := by
  intro e; subst e
  obtain ⟨h1, es, clock, hb, _⟩ := h
  rw [h1] at hb
  cases hb
theorem Tab.lt (h : Tab w g b L) : g < w.heap.size ∧ b < w.heap.size := ⟨(Array.getElem?_eq_some_iff.1 h.1).1, h.2.lt⟩
theorem Tab.kept {row : Option Nat} (h : Tab w g b L) (hg : w.grownBy w' row) (h1 : some g ≠ row) (h2 : some b ≠ row) : Tab w' g b L :=
  ⟨(hg.block g h.lt.1 h1).trans h.1, h.2.kept hg h2⟩
theorem Tab.below (h : Tab w g b L) (hb : Below w.heap.size w w') : Tab w' g b L :=
  h.kept (row := none) ⟨hb.os, hb.tape, hb.output, hb.size, fun k hk _ => hb.block k hk⟩ (by simp) (by simp)
end

set_option maxRecDepth 100000 in
set_option maxHeartbeats 1000000 in
theorem new_p (w : World) : Calls Try.prog 7 #[] w fun e w' => e = .returned (.pointer (some ⟨w.heap.size + 1, 0, none⟩)) ∧ Tab w' (w.heap.size + 1) w.heap.size [] ∧ Below w.heap.size w w' := by
  have hmm := @run_makeMap Try.prog
  go_enter Try.func7, Try.ntmps7
  go_wp2
  go_ret
  refine ⟨rfl, ⟨?_, ?_⟩, ?_⟩
  · exact heap_alloc_newer _ _ _
  · exact (Mp.made w).kept (row := none) (World.grownBy_alloc _ _ _) (by simp)
  · exact ((Below.refl _ _).alloc (Nat.le_refl _) _).alloc (by simp) _

set_option maxRecDepth 100000 in
set_option maxHeartbeats 1000000 in
theorem get_p (g b : Nat) (L : Al) (s : ByteArray) (w : World) (h : Tab w g b L) (hs : s.size ≤ maxLen) : Calls Try.prog 13 #[.pointer (some ⟨g, 0, none⟩), .string s] w fun e w' => e = .returned (.tuple #[.string ((L.val s).getD ⟨#[]⟩), .bool (L.has s)]) ∧ w' = w := by
  have c0 := h.cell
  have hl := h.2.look s hs
  go_enter Try.func13, Try.ntmps13
  go_wp2
  go_ret2
  exact ⟨rfl, rfl⟩
set_option maxRecDepth 100000 in
set_option maxHeartbeats 1000000 in
theorem get_nil (s : ByteArray) (w : World) : Calls Try.prog 13 #[.pointer none, .string s] w fun e w' => e = .returned (.tuple #[.string ⟨#[]⟩, .bool false]) ∧ w' = w := by
  go_enter Try.func13, Try.ntmps13
  go_wp2
  go_ret2
  exact ⟨rfl, rfl⟩
set_option maxRecDepth 100000 in
set_option maxHeartbeats 1000000 in
theorem len_p (g b : Nat) (L : Al) (w : World) (h : Tab w g b L) : Calls Try.prog 15 #[.pointer (some ⟨g, 0, none⟩)] w fun e w' => e = .returned (.int .i64 (L.length : Nat)) ∧ w' = w := by
  have c0 := h.cell
  have hl := h.2.len
  go_enter Try.func15, Try.ntmps15
  go_wp2
  go_ret
  exact ⟨rfl, rfl⟩
set_option maxRecDepth 100000 in
set_option maxHeartbeats 1000000 in
theorem len_nil (w : World) : Calls Try.prog 15 #[.pointer none] w fun e w' => e = .returned (.int .i64 0) ∧ w' = w := by
  go_enter Try.func15, Try.ntmps15
  go_wp2
  go_ret
  exact ⟨rfl, rfl⟩

set_option maxRecDepth 100000 in
set_option maxHeartbeats 1000000 in
theorem unset_p (g b : Nat) (L : Al) (s : ByteArray) (w : World) (h : Tab w g b L) (hs : s.size ≤ maxLen) : Calls Try.prog 11 #[.pointer (some ⟨g, 0, none⟩), .string s] w fun e w' => e = .returned (.bool (L.has s)) ∧ Tab w' g b (L.del s) ∧ w.grownBy w' (some b) := by
  have c0 := h.cell
  have hd := h.2.drop s hs
  have H := Lib.hid h
  go_enter Try.func11, Try.ntmps11
  go_wp2_with fail
  refine (get_p g b L s w H.out hs).mono ?_
  rintro e w1 ⟨rfl, rfl⟩
  cases hh : L.has s
  · have HH := Lib.hid hh
    go_wp2_with fail
    go_ret
    exact ⟨ret_bool HH.out.symm, by rw [Al.del_none HH.out]; exact H.out, World.grownBy.refl _ _⟩
  · have HH := Lib.hid hh
    obtain ⟨w2, hrun, hm, hg, hz⟩ := hd 0
    have HM := Lib.hid hm; have HG := Lib.hid hg
    clear hm hg hz h
    go_wp2_with fail
    go_ret
    exact ⟨ret_bool HH.out.symm, ⟨(HG.out.block g H.out.lt.1 (by have := H.out.ne; simpa using this)).trans H.out.1, HM.out⟩, HG.out⟩
set_option maxRecDepth 100000 in
set_option maxHeartbeats 1000000 in
theorem unset_nil (s : ByteArray) (w : World) : Calls Try.prog 11 #[.pointer none, .string s] w fun e w' => e = .returned (.bool false) ∧ w' = w := by
  go_enter Try.func11, Try.ntmps11
  go_wp2_with (refine (get_nil s w).mono ?_; rintro e w1 ⟨rfl, rfl⟩)
  go_ret
  exact ⟨rfl, rfl⟩
set_option maxRecDepth 100000 in
set_option maxHeartbeats 1000000 in
theorem set_nil (s v : ByteArray) (w : World) : Calls Try.prog 9 #[.pointer none, .string s, .string v] w fun e w' => e = .returned (.int .i64 13) ∧ w' = w := by
  go_enter Try.func9, Try.ntmps9
  go_wp2
  go_ret
  exact ⟨rfl, rfl⟩

set_option maxRecDepth 100000 in
set_option maxHeartbeats 2000000 in
theorem set_p (g b : Nat) (L : Al) (s v : ByteArray) (w : World) (h : Tab w g b L) (hs : s.size ≤ 1099511627776) (hv : v.size ≤ 1099511627776) (hL : L.length ≤ 1099511627776) : Calls Try.prog 9 #[.pointer (some ⟨g, 0, none⟩), .string s, .string v] w fun e w' => e = .returned (.int .i64 (L.setE s v)) ∧ Tab w' g b (L.setL s v) ∧ w.grownBy w' (some b) := by
  have c0 := h.cell
  have hsm : s.size ≤ maxLen := by unfold maxLen; omega
  have hvm : v.size ≤ maxLen := by unfold maxLen; omega
  have hl := h.2.look s hsm
  have hn := h.2.len
  obtain ⟨w2, hrun, hm, hg, hz⟩ := h.2.store s v hsm hvm (by unfold maxLen; omega)
  have H := Lib.hid h
  have HM := Lib.hid hm; have HG := Lib.hid hg
  have hnul : decide (0 ≤ Lib.indexByte v.data.toList 0) = nul v := nul_index v
  clear hm hg hz h
  have hno : ∀ {k : Int}, L.setE s v = k → k ≠ 0 → L.setL s v = L := fun h1 h2 => by unfold Al.setL; rw [h1, if_neg h2]
  cases hp : Chr.plain s.toList
  · have HE := Lib.hid (show L.setE s v = 10 by unfold Al.setE; rw [if_pos hp])
    have HN := Lib.hid (hno HE.out (by decide)); clear hno
    go_enter Try.func9, Try.ntmps9
    go_wp2_with (refine (plain_p s w (by omega)).mono ?_; rintro e w1 ⟨rfl, rfl⟩)
    go_ret
    exact ⟨ret_int HE.out.symm, by rw [HN.out]; exact H.out, World.grownBy.refl _ _⟩
  · by_cases hlong : 24 < s.size ∨ 200 < v.size
    · have HE := Lib.hid (show L.setE s v = 5 by unfold Al.setE; rw [if_neg (by rw [hp]; decide), if_pos hlong])
      have HN := Lib.hid (hno HE.out (by decide)); clear hno
      by_cases h1 : 24 < s.size
      · have h1' : (24 : Int) < (s.size : Int) := by omega
        clear hlong
        go_enter Try.func9, Try.ntmps9
        go_wp2_with (refine (plain_p s w (by omega)).mono ?_; rintro e w1 ⟨rfl, rfl⟩)
        go_ret
        exact ⟨ret_int HE.out.symm, by rw [HN.out]; exact H.out, World.grownBy.refl _ _⟩
      · have h2' : (200 : Int) < (v.size : Int) := by omega
        have h1' : ¬ (24 : Int) < (s.size : Int) := by omega
        clear hlong
        go_enter Try.func9, Try.ntmps9
        go_wp2_with (refine (plain_p s w (by omega)).mono ?_; rintro e w1 ⟨rfl, rfl⟩)
        go_ret
        exact ⟨ret_int HE.out.symm, by rw [HN.out]; exact H.out, World.grownBy.refl _ _⟩
    · have h1' : ¬ (24 : Int) < (s.size : Int) := by omega
      have h2' : ¬ (200 : Int) < (v.size : Int) := by omega
      cases hu : nul v
      · by_cases hf : L.has s = false ∧ 40 ≤ L.length
        · have HE := Lib.hid (show L.setE s v = 14 by unfold Al.setE; rw [if_neg (by rw [hp]; decide), if_neg hlong, if_neg (by rw [hu]; decide), if_pos hf])
          have HN := Lib.hid (hno HE.out (by decide)); clear hno
          obtain ⟨hf1, hf2⟩ := hf
          have hf2' : (40 : Int) ≤ (L.length : Int) := by omega
          clear hlong hf2
          go_enter Try.func9, Try.ntmps9
          go_wp2_with (first | (refine (plain_p s w (by omega)).mono ?_; rintro e w1 ⟨rfl, rfl⟩) | (refine (Try.strings_Contains_one v 0 w).mono ?_; rintro e w1 ⟨rfl, rfl⟩))
          go_ret
          exact ⟨ret_int HE.out.symm, by rw [HN.out]; exact H.out, World.grownBy.refl _ _⟩
        · have HE := Lib.hid (show L.setE s v = 0 by unfold Al.setE; rw [if_neg (by rw [hp]; decide), if_neg hlong, if_neg (by rw [hu]; decide), if_neg hf])
          have HN := Lib.hid (show L.setL s v = L.put s v by unfold Al.setL; rw [if_pos HE.out]); clear hno
          cases hh : L.has s
          · have hf2' : ¬ (40 : Int) ≤ (L.length : Int) := fun hc => hf ⟨hh, by omega⟩
            clear hlong hf
            go_enter Try.func9, Try.ntmps9
            go_wp2_with (first | (refine (plain_p s w (by omega)).mono ?_; rintro e w1 ⟨rfl, rfl⟩) | (refine (Try.strings_Contains_one v 0 w).mono ?_; rintro e w1 ⟨rfl, rfl⟩))
            go_ret
            exact ⟨ret_int HE.out.symm, by rw [HN.out]; exact ⟨(HG.out.block g H.out.lt.1 (by have := H.out.ne; simpa using this)).trans H.out.1, HM.out⟩, HG.out⟩
          · clear hlong hf
            go_enter Try.func9, Try.ntmps9
            go_wp2_with (first | (refine (plain_p s w (by omega)).mono ?_; rintro e w1 ⟨rfl, rfl⟩) | (refine (Try.strings_Contains_one v 0 w).mono ?_; rintro e w1 ⟨rfl, rfl⟩))
            go_ret
            exact ⟨ret_int HE.out.symm, by rw [HN.out]; exact ⟨(HG.out.block g H.out.lt.1 (by have := H.out.ne; simpa using this)).trans H.out.1, HM.out⟩, HG.out⟩
      · have HE := Lib.hid (show L.setE s v = 2 by unfold Al.setE; rw [if_neg (by rw [hp]; decide), if_neg hlong, if_pos hu])
        have HN := Lib.hid (hno HE.out (by decide)); clear hno
        clear hlong
        go_enter Try.func9, Try.ntmps9
        go_wp2_with (first | (refine (plain_p s w (by omega)).mono ?_; rintro e w1 ⟨rfl, rfl⟩) | (refine (Try.strings_Contains_one v 0 w).mono ?_; rintro e w1 ⟨rfl, rfl⟩))
        go_ret
        exact ⟨ret_int HE.out.symm, by rw [HN.out]; exact H.out, World.grownBy.refl _ _⟩
end Go.Proofs.Ytbkmfnjjfamjjaa
