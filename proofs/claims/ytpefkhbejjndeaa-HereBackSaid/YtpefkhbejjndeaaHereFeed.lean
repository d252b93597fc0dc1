/- here.Reader.Feed: the next byte, in each case. -/
import Derived.Test.YtpefkhbejjndeaaHereOver
import Derived.Test.YtpefkhbejjndeaaHerePlain
namespace Go.Proofs.Ytpefkhbejjndeaa
open Go.RowKit

attribute [local go_sem ↓] wp_append_wr

theorem own_own_ne {w : World} {B : Nat} {T T' : TypeId} {v v' : Value} {n n' : Nat} {xs xs' : List Value} (h : w.ownsRow B T 1 v n xs) (h' : w.ownsRow B T' 1 v' n' xs') (hT : T' ≠ T) : v.ownBlock = none ∨ v.ownBlock ≠ v'.ownBlock := by
  rcases h'.2 with ⟨rfl, _⟩ | ⟨g, cap, cur, rfl, _, hg, _⟩
  · cases v.ownBlock <;> simp [Value.ownBlock]
  · right
    simpa [Value.ownBlock] using Lib.ownBlock_ne h hg hT

theorem line_append {w : World} {B : Nat} {vl : Value} {l : List UInt8} (ho : w.ownsRow B 5 1 vl l.length (bcs l)) (c : UInt8) (n : Int) (hn : n = (c.toNat : Int)) (ad : Addr) (hx : w.cell? ad = some (.int .u8 n)) (hlen : l.length ≤ 1099511627776) (hB : B ≤ w.heap.size) :
    ∃ v' w', WrA Try.prog #[28, 28] 28 #[vl, .slice (some ad) 1 1] w = .ok v' w' ∧ w'.ownsRow B 5 1 v' (l ++ [c]).length (bcs (l ++ [c])) ∧ w.grownBy w' vl.ownBlock := by
  obtain ⟨i0, hi, hz0, hz1, hz2⟩ := info_parts info_byte
  have hnews : ∀ (j : Nat) (v : Value), [Value.int .u8 n][j]? = some v → w.cell? (ad.add j) = some v := fun j v hj => by
    match j, hj with
    | 0, hj => simp only [List.getElem?_cons_zero, Option.some.injEq] at hj; subst hj; simpa [Addr.add] using hx
    | j + 1, hj => simp at hj
  obtain ⟨v', w', hrun, hown, hg, _, _⟩ := run_append_own_at (P := Try.prog) w B 28 28 5 i0 (.int .u8 0) 1 1 Try.underlying28 hi hz0 hz1 hz2 rfl (by decide) vl l.length (bcs l) ho ad 1 1 [.int .u8 n] (by rfl) hnews (by simp [Value.oneCell']) (by unfold maxLen; omega) (by omega) hB
  refine ⟨v', w', hrun, ?_, hg⟩
  have : bcs l ++ [Value.int .u8 n] = bcs (l ++ [c]) := by rw [hn]; simp [bcs]
  rw [List.length_append, ← this]
  exact hown

theorem rd_byte {B b : Nat} {e : ByteArray} {t : Bool} {ls : List (List UInt8)} {v0 v1 v : Value} {sm : Bool} {l : List UInt8} {w : World} (hB : B ≤ b) (hh : w.heap[b]? = some (.cells #[.string e, .bool t, v0, v1, .bool sm, .int .i64 0] 97 (0, 0)))
    (h0 : w.ownsRow B 9 1 v0 ls.length (ls.map bs)) (ho : w.ownsRow B 5 1 v l.length (bcs l)) : Rd B b e t ls l sm 0 (w.setCell ⟨b, 3, none⟩ v) := by
  refine ⟨hB, v0, v, ?_, own_set h0 hh (by decide) _ _, own_set ho hh (by decide) _ _⟩
  simp [World.setCell, Array.getElem?_modify, hh]

section
variable {B b : Nat} {e : ByteArray} {t : Bool} {ls : List (List UInt8)} {l : List UInt8} {sm : Bool}
set_option maxRecDepth 100000 in
set_option maxHeartbeats 1000000 in
theorem feed_zero (w : World) (h : Rd B b e t ls l sm 0 w) : Calls Try.prog 52 #[.pointer (some ⟨b, 0, none⟩), .int .u8 0] w fun r w' => r = .returned (.int .i64 3) ∧ Rd B b e t ls l sm 3 w' ∧ Below B w w' := by
  have H := Lib.hid h
  obtain ⟨vls, vl, c0, c1, c2, c3, c4, c5, fz, o1, o2, hh⟩ := h.cells
  clear h o1 o2 hh
  go_enter Try.func52, Try.ntmps52
  go_wp2
  go_ret
  exact ⟨rfl, H.out.setSig 3, (Below.refl B w).setCell H.out.1 _⟩

set_option maxRecDepth 100000 in
set_option maxHeartbeats 1000000 in
theorem feed_ends (w : World) (h : Rd B b e t ls l sm 0 w) (he : l = e.toList) : Calls Try.prog 52 #[.pointer (some ⟨b, 0, none⟩), .int .u8 10] w fun r w' => r = .returned (.int .i64 1) ∧ Rd B b e t ls l sm 1 w' ∧ Below B w w' := by
  have H := Lib.hid h
  have HE := Lib.hid he
  obtain ⟨vls, vl, c0, c1, c2, c3, c4, c5, fz, o1, o2, hh⟩ := h.cells
  clear h o1 o2 hh he
  go_enter Try.func52, Try.ntmps52
  go_wp2_with fail
  refine (over_ends _ H.out HE.out).mono ?_
  rintro r w1 ⟨rfl, h1, hb⟩
  have H1 := Lib.hid h1; have HB := Lib.hid hb; clear h1 hb
  go_wp2
  go_ret
  exact ⟨rfl, H1.out, HB.out⟩

set_option maxRecDepth 100000 in
set_option maxHeartbeats 1000000 in
theorem feed_goes (w : World) (h : Rd B b e t ls l sm 0 w) (he : ¬ l = e.toList) (hl : l.length ≤ 1099511627776) (hls : ls.length ≤ 1099511627776) (hB : B ≤ w.heap.size) : Calls Try.prog 52 #[.pointer (some ⟨b, 0, none⟩), .int .u8 10] w fun r w' => r = .returned (.int .i64 0) ∧ Rd B b e t (ls ++ [l ++ [10]]) [] false 0 w' ∧ Below B w w' := by
  have H := Lib.hid h
  have HE := Lib.hid he
  obtain ⟨vls, vl, c0, c1, c2, c3, c4, c5, fz, o1, o2, hh⟩ := h.cells
  clear h o1 o2 hh he
  go_enter Try.func52, Try.ntmps52
  go_wp2_with fail
  refine (over_goes _ H.out HE.out hl hls hB).mono ?_
  rintro r w1 ⟨rfl, h1, hb⟩
  have H1 := Lib.hid h1; have HB := Lib.hid hb; clear h1 hb
  go_wp2
  go_ret
  exact ⟨rfl, H1.out, HB.out⟩

set_option maxRecDepth 100000 in
set_option maxHeartbeats 1000000 in
/-- A tab at the head of a line, where tabs go. -/
theorem feed_tab (w : World) (h : Rd B b e true ls [] sm 0 w) : Calls Try.prog 52 #[.pointer (some ⟨b, 0, none⟩), .int .u8 9] w fun r w' => r = .returned (.int .i64 0) ∧ Rd B b e true ls [] true 0 w' ∧ Below B w w' := by
  have H := Lib.hid h
  obtain ⟨vls, vl, c0, c1, c2, c3, c4, c5, fz, o1, o2, hh⟩ := h.cells
  obtain ⟨A1, k1, rfl, hk1, hn1⟩ := own_form o2
  clear h o1 o2 hh hn1
  go_enter Try.func52, Try.ntmps52
  go_wp2
  go_ret
  exact ⟨rfl, H.out.setSome true, (Below.refl B w).setCell H.out.1 _⟩

set_option maxRecDepth 100000 in
set_option maxHeartbeats 2000000 in
/-- Another byte. -/
theorem feed_byte (c : UInt8) (n : Int) (hn : n = (c.toNat : Int)) (w : World) (h : Rd B b e t ls l sm 0 w) (h0 : c ≠ 0) (h10 : c ≠ 10) (hk : c ≠ 9 ∨ t = false ∨ l ≠ []) (hl : l.length ≤ 1099511627776) (hB : B ≤ w.heap.size) :
    Calls Try.prog 52 #[.pointer (some ⟨b, 0, none⟩), .int .u8 n] w fun r w' => r = .returned (.int .i64 0) ∧ Rd B b e t ls (l ++ [c]) true 0 w' ∧ Below B w w' := by
  have hlt := h.lt
  have hBb := h.1
  have H := Lib.hid h
  obtain ⟨vls, vl, c0, c1, c2, c3, c4, c5, fz, o1, o2, hh⟩ := h.cells
  have hu : ∀ m : UInt8, c ≠ m → n ≠ (m.toNat : Int) := fun m hm e => hm (UInt8.toNat_inj.1 (by omega))
  have b0 : (n == 0) = false := beq_eq_false_iff_ne.2 (hu 0 h0)
  have b10 : (n == 10) = false := beq_eq_false_iff_ne.2 (hu 10 h10)
  have hl0 : vl.ownBlock ≠ some b := Lib.ownBlock_ne o2 hh (by decide)
  have k1 : (w.setCell ⟨b, 4, none⟩ (.bool true)).heap[b]? = some (.cells #[.string e, .bool t, vls, vl, .bool true, .int .i64 0] 97 (0, 0)) := by simp [World.setCell, Array.getElem?_modify, hh]
  have p1 := own_set o1 hh (by decide) 4 (.bool true)
  have p2 := own_set o2 hh (by decide) 4 (.bool true)
  have hs1 : (w.setCell ⟨b, 4, none⟩ (.bool true)).heap.size = w.heap.size := by simp [World.setCell]
  have hbel1 : Below B w (w.setCell ⟨b, 4, none⟩ (.bool true)) := (Below.refl B w).setCell hBb _
  obtain ⟨v', w3, hwr, hown, hg⟩ := line_append (w := (w.setCell ⟨b, 4, none⟩ (.bool true)).alloc (.cells #[.int .u8 n] 5)) (p2.alloc _) c n hn ⟨w.heap.size, 0, none⟩ (by have := heap_alloc_new (w.setCell ⟨b, 4, none⟩ (.bool true)) (.cells #[.int .u8 n] 5); rw [hs1] at this; simp only [World.cell?, this]; rfl) hl (by simp; omega)
  have hsa : ((w.setCell ⟨b, 4, none⟩ (.bool true)).alloc (.cells #[.int .u8 n] 5)).heap.size = w.heap.size + 1 := by simp
  have hb3 : w3.heap[b]? = some (.cells #[.string e, .bool t, vls, vl, .bool true, .int .i64 0] 97 (0, 0)) := by
    rw [hg.block b (by omega) (fun e => hl0 e.symm), Below.heap_alloc _ _ _ (by omega)]
    exact k1
  have hv3 : w3.ownsRow B 9 1 vls ls.length (ls.map bs) := (p1.alloc _).kept hg (own_own_ne o1 o2 (by decide))
  have q3 : w3.cell? ⟨b, 3, none⟩ = some vl := by simp [World.cell?, hb3]
  have f3 : w3.frozen? ⟨b, 3, none⟩ = false := by simp [World.frozen?, hb3]
  have hbel3 : Below B w w3 := ((hbel1.alloc (by omega) _).grown hg (by omega) (fun g hg => (own_lt o2 g hg).1))
  have HB := Lib.hid hbel3; have H3 := Lib.hid hb3; have HV := Lib.hid hv3; have HO := Lib.hid hown
  obtain ⟨A1, c1', rfl, hk1, hn1⟩ := own_form o2
  obtain ⟨A2, c2', rfl, _, _⟩ := own_form hown
  have hfin : Rd B b e t ls (l ++ [c]) true 0 (w3.setCell ⟨b, 3, none⟩ (.slice A2 (l ++ [c]).length c2')) := rd_byte hBb H3.out HV.out HO.out
  simp only [List.length_append, List.length_cons, List.length_nil, Nat.zero_add] at hfin hwr
  have HF := Lib.hid hfin
  clear h o1 o2 hh k1 p1 p2 hs1 hbel1 hsa hb3 hv3 hbel3 hown hl0 hg hn1 hfin
  have HN := Lib.hid hn; clear hn
  by_cases h9 : c = 9
  · obtain rfl : n = 9 := by rw [HN.out, h9]; rfl
    clear hu b0 b10
    have hk2 : t = false ∨ t = true ∧ 0 < l.length := by
      cases t
      · exact .inl rfl
      · refine .inr ⟨rfl, ?_⟩
        have hn : l ≠ [] := by simpa [h9] using hk
        exact List.length_pos_iff.2 hn
    clear hk h9
    rcases hk2 with rfl | ⟨rfl, hlp⟩
    · go_enter Try.func52, Try.ntmps52
      go_wp2
      go_ret
      exact ⟨rfl, HF.out, HB.out.setCell hBb _⟩
    · go_enter Try.func52, Try.ntmps52
      go_wp2
      go_ret
      exact ⟨rfl, HF.out, HB.out.setCell hBb _⟩
  · have b9 : (n != 9) = true := by rw [bne_iff_ne]; exact hu 9 h9
    clear hu
    go_enter Try.func52, Try.ntmps52
    go_wp2
    go_ret
    exact ⟨rfl, HF.out, HB.out.setCell hBb _⟩
end
end Go.Proofs.Ytpefkhbejjndeaa
