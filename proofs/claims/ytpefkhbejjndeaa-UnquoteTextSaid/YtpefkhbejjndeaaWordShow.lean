/- wordfmt's two takers of text (the builder, the length), Show and Length. -/
import Derived.Test.YtpefkhbejjndeaaWordAll
namespace Go.Proofs.Ytpefkhbejjndeaa
open Go.RowKit

theorem hd_text : Hd 69 0 := ⟨by kernel_rfl, by decide⟩
set_option maxRecDepth 100000 in
theorem meth_text (b : Nat) (W : World) : (method 254 64 (.pointer (some ⟨b, 0, none⟩)) "conch/wordfmt.put").run Try.prog W = .ok (139, .pointer (some ⟨b, 0, none⟩)) W := by rfl
set_option maxRecDepth 100000 in
theorem meth_length (b : Nat) (W : World) : (method 254 76 (.pointer (some ⟨b, 0, none⟩)) "conch/wordfmt.put").run Try.prog W = .ok (140, .pointer (some ⟨b, 0, none⟩)) W := by rfl
set_option maxRecDepth 100000 in
theorem enter_text (args : Array Value) (W : World) : (callFunc 139 args).run Try.prog W = .ok (.enter 139 args) W := by rfl
set_option maxRecDepth 100000 in
theorem enter_length (args : Array Value) (W : World) : (callFunc 140 args).run Try.prog W = .ok (.enter 140 args) W := by rfl

theorem IsB.keep2 {T : TypeId} {B b : Nat} {l : List UInt8} {w w' : World} (h : IsB T B b [] l w) (hk : ∀ k, k < w.heap.size → (k = b ∨ byteRow w k) → w'.heap[k]? = w.heap[k]?) : IsB T B b [] l w' := by
  have hone : ∀ p, Bld T B b [] p l w → Bld T B b [] p l w' := by
    rintro p ⟨hB, v, hh, hown, hn⟩
    have hlt := (Array.getElem?_eq_some_iff.1 hh).1
    refine ⟨hB, v, (hk b hlt (.inl rfl)).trans hh, ⟨hown.1, ?_⟩, hn⟩
    rcases hown.2 with h | ⟨g, cap, cur, hv, hb, hg, h⟩
    · exact .inl h
    · exact .inr ⟨g, cap, cur, hv, hb, (hk g (Array.getElem?_eq_some_iff.1 hg).1 (.inr ⟨cur, _, hg⟩)).trans hg, h⟩
  rcases h with h | h
  · exact .inl (hone _ h)
  · exact .inr (hone _ h)

set_option maxRecDepth 100000 in
set_option maxHeartbeats 1000000 in
theorem snk_text (B b : Nat) : Snk B b 64 139 (fun l w => IsB 69 B b [] l w) where
  meth := meth_text b
  enter := enter_text
  lt _ _ h := h.lt
  keep _ _ _ h _ hk := h.keep2 hk
  put l s w h hlen hB := by
    go_enter Try.func139, Try.ntmps139
    go_wp2_with fail
    refine (writeString_any hd_text l s w h (by omega) hB).mono ?_
    rintro e w1 ⟨rfl, h1, kp1⟩
    go_wp2_with fail
    go_end0
    exact ⟨rfl, .inr h1, kp1⟩

/-- The length that the block holds. -/
def LenB (B b : Nat) (l : List UInt8) (w : World) : Prop := B ≤ b ∧ w.heap[b]? = some (.cells #[.int .i64 l.length] 78 (0, 0))
set_option maxRecDepth 100000 in
set_option maxHeartbeats 1000000 in
theorem snk_length (B b : Nat) : Snk B b 76 140 (fun l w => LenB B b l w) where
  meth := meth_length b
  enter := enter_length
  lt _ _ h := (Array.getElem?_eq_some_iff.1 h.2).1
  keep _ _ _ h _ hk := ⟨h.1, (hk b (Array.getElem?_eq_some_iff.1 h.2).1 (.inl rfl)).trans h.2⟩
  put l s w h hlen hB := by
    obtain ⟨hb, hh⟩ := h
    have c0 : w.cell? ⟨b, 0, none⟩ = some (.int .i64 l.length) := by simp [World.cell?, hh]
    have f0 : w.frozen? ⟨b, 0, none⟩ = false := by simp [World.frozen?, hh]
    go_enter Try.func140, Try.ntmps140
    go_wp2_with fail
    go_end0
    refine ⟨rfl, ⟨hb, ?_⟩, ?_⟩
    · rw [List.length_append, ← size_list s]
      simp [World.setCell, Array.getElem?_modify, hh]
    · exact (Kp.refl B (· = b) w).set (X := (· = b)) hb rfl 0 _

theorem gd_of (B : Nat) (X : Nat → Prop) (w : World) (G : Nat → Prop) (hG : ∀ k, G k → k < B) (hB : B ≤ w.heap.size) : Gd B X w G := fun k hk => ⟨Nat.lt_of_lt_of_le (hG k hk) hB, .inl (hG k hk)⟩

/-- Three blocks of the call's own: the word's, the taker's, the printer's. -/
theorem three (w : World) (o1 o2 o3 : Obj) : (((w.alloc o1).alloc o2).alloc o3).heap[w.heap.size + 1]? = some o2 ∧ (((w.alloc o1).alloc o2).alloc o3).heap[w.heap.size + 1 + 1]? = some o3 ∧ (((w.alloc o1).alloc o2).alloc o3).heap.size = w.heap.size + 3 ∧
    Below w.heap.size w (((w.alloc o1).alloc o2).alloc o3) := by
  have e1 := size_alloc w o1
  have e2 := size_alloc (w.alloc o1) o2
  have e3 := size_alloc ((w.alloc o1).alloc o2) o3
  have h2 := heap_alloc (w.alloc o1) o2
  have h3 := heap_alloc ((w.alloc o1).alloc o2) o3
  have hb := (Below.refl ((w.alloc o1).alloc o2).heap.size ((w.alloc o1).alloc o2)).alloc (Nat.le_refl _) o3
  rw [e2, e1] at h3
  rw [e1] at h2
  refine ⟨?_, h3, by omega, ?_⟩
  · rw [← h2]
    exact hb.block _ (by omega)
  · exact (((Below.refl w.heap.size w).alloc (Nat.le_refl _) o1).alloc (by omega) o2).alloc (by omega) o3

/-- The walk's own blocks, as the printer begins. -/
theorem prn_start {G : Nat → Prop} {ti : TypeId} {Sk : List UInt8 → World → Prop} {w w3 : World} {C : Option Addr} {cc : Nat} {cs : List (List UInt8)} (hG : ∀ k, G k → k < w.heap.size) (hs : StrsAt G w C cs) (hc : cs.length ≤ cc)
    (hb : Below w.heap.size w w3) (hbp : w3.heap[w.heap.size + 1 + 1]? = some (.cells #[.iface ti (.pointer (some ⟨w.heap.size + 1, 0, none⟩)), .slice C cs.length cc] 74 (0, 0)))
    (hk : Sk [] w3) : Prn G w.heap.size (w.heap.size + 1) (w.heap.size + 1 + 1) ti Sk [] cs w3 :=
  ⟨hk, ⟨by omega, by omega, C, cc, hbp, hc, hs.keep fun p hp => World.cell?_of_block (hb.block _ (hG _ hp))⟩, gd_of _ _ _ _ hG hb.size, hb.size⟩

set_option maxRecDepth 100000 in
set_option maxHeartbeats 2000000 in
theorem show_any (G : Nat → Prop) (l : Pts) (A : Option Addr) (c : Nat) (C : Option Addr) (cc : Nat) (cs : List (List UInt8)) (w : World)
    (hG : ∀ k, G k → k < w.heap.size) (hp : PtsAt G w A 0 l) (hs : StrsAt G w C cs) (hc : cs.length ≤ cc) (hlen : 6 * l.wt + Pts.total cs + 64 ≤ 70368744177664) :
    Calls Try.prog 27 #[.agg #[.slice A l.len c], .slice C cs.length cc] w fun e w' => e = .returned (bs (l.shw cs).1) ∧ Below w.heap.size w w' := by
  go_enter Try.func27, Try.ntmps27
  go_wp2_with fail
  obtain ⟨hb2, hb3, hsz, hbw⟩ := three w (.cells #[.slice A l.len c] 33) (.cells #[.pointer none, .slice none 0 0] 69) (.cells #[.iface 64 (.pointer (some ⟨w.heap.size + 1, 0, none⟩)), .slice C cs.length cc] 74)
  have hprn := prn_start (Sk := fun l w' => IsB 69 w.heap.size (w.heap.size + 1) [] l w') hG hs hc hbw hb3 (.inl ⟨by omega, .slice none 0 0, hb2, ⟨rfl, .inl ⟨rfl, rfl⟩⟩, by simp⟩)
  have hp3 := hp.keep fun p hp => World.cell?_of_block (hbw.block _ (hG _ hp))
  refine (all_any (snk_text _ _) (l.deep + 1) l A c [] cs _ (by omega) hprn hp3 (by simp; omega)).mono ?_
  rintro e w4 ⟨rfl, h4, kp4⟩
  have hlt := IsB.lt h4.sk
  have hb4 := hbw.trans (kp4.below (by omega))
  have H4 := Lib.hid h4; have HB := Lib.hid hb4; clear h4 hb4 hbw hb2 hb3 hprn hp3
  go_wp2_with fail
  refine (builderString_any _ w4 H4.out.sk).mono ?_
  rintro e w5 ⟨rfl, kp5⟩
  have hb5 := HB.out.trans (kp5.below (by have := H4.out.le; omega))
  have H5 := Lib.hid hb5; clear hb5
  unfold bs
  go_wp2_with fail
  go_ret
  exact ⟨by simp [bs], H5.out⟩

set_option maxRecDepth 100000 in
set_option maxHeartbeats 2000000 in
theorem length_any (G : Nat → Prop) (l : Pts) (A : Option Addr) (c : Nat) (w : World) (hG : ∀ k, G k → k < w.heap.size) (hp : PtsAt G w A 0 l) (hlen : 6 * l.wt + 64 ≤ 70368744177664) :
    Calls Try.prog 28 #[.agg #[.slice A l.len c]] w fun e w' => e = .returned (.int .i64 (l.shw []).1.length) ∧ Below w.heap.size w w' := by
  go_enter Try.func28, Try.ntmps28
  go_wp2_with fail
  obtain ⟨hb2, hb3, hsz, hbw⟩ := three w (.cells #[.slice A l.len c] 33) (.cells #[.int .i64 0] 78) (.cells #[.iface 76 (.pointer (some ⟨w.heap.size + 1, 0, none⟩)), .slice none 0 0] 74)
  have hprn := prn_start (Sk := fun l w' => LenB w.heap.size (w.heap.size + 1) l w') (cs := []) hG StrsAt.nil (Nat.le_refl 0) hbw hb3 ⟨by omega, hb2⟩
  have hp3 := hp.keep fun p hp => World.cell?_of_block (hbw.block _ (hG _ hp))
  refine (all_any (snk_length _ _) (l.deep + 1) l A c [] [] _ (by omega) hprn hp3 (by simp [Pts.total]; omega)).mono ?_
  rintro e w4 ⟨rfl, h4, kp4⟩
  have hlt : w.heap.size + 1 < w4.heap.size := (Array.getElem?_eq_some_iff.1 h4.sk.2).1
  have hb4 := hbw.trans (kp4.below (by omega))
  have hc : w4.cell? ⟨w.heap.size + 1, 0, none⟩ = some (.int .i64 (l.shw []).1.length) := by simp [World.cell?, h4.sk.2]
  have HB := Lib.hid hb4; clear h4 hb4 hbw hb2 hb3 hprn hp3
  go_wp2_with fail
  go_ret
  exact ⟨by simp, HB.out⟩
end Go.Proofs.Ytpefkhbejjndeaa
