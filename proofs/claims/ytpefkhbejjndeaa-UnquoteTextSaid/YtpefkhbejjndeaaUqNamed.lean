/- unquote.named: the names in a word, one by one: the iterator, at whatever loop body that keeps what lay and leaves the boxes of functions alone. -/
import Derived.RangeFuncNested
import Derived.RangeFuncBound
import Derived.RangeFuncCalls
import Derived.RangeFuncLeaves
import Derived.RangeFuncBox
import Derived.Shelf.Abstract
import Derived.Shelf.RegionOpen
import Derived.WalkKit
import Derived.OwnWalkIn
import Derived.TacticsInMore
import Derived.LoopNIn
import Derived.LoopIn
import Derived.Maps.AppendAt
import Derived.Test.YtpefkhbejjndeaaUqShowAt
namespace Go.Proofs.Ytpefkhbejjndeaa
open Go.RowKit Go.Shelf

attribute [local go_sem] Oper.semAt_some

/-- The names in a word. -/
def Pts.nms : Pts → List ByteArray
  | .nil => []
  | .cons k t _ kids _ r => (if k = 5 ∧ Chr.name t.toList = true then [t] else []) ++ (kids.nms ++ r.nms)
theorem Pts.nms_wt : ∀ l : Pts, l.nms.length ≤ l.wt
  | .nil => by simp [Pts.nms]
  | .cons k t o kids cm r => by
    have h1 := Pts.nms_wt r
    have h2 := Pts.nms_wt kids
    rw [Pts.nms, Pts.wt, List.length_append, List.length_append]
    split
    · simp only [List.length_cons, List.length_nil]; omega
    · simp only [List.length_nil]; omega

/-- What a round keeps: what lay below n₀, and the boxes of functions and of parts. -/
def Kq (n₀ : Nat) (W W' : World) : Prop := Below n₀ W W' ∧ ∀ (k : Nat) (T : TypeId) (vs : Array Value), (T = 25 ∨ T = 110 ∨ T = 41) → W.heap[k]? = some (.cells vs T (0, 0)) → W'.heap[k]? = some (.cells vs T (0, 0))
theorem Kq.refl (n₀ : Nat) (W : World) : Kq n₀ W W := ⟨Below.refl _ _, fun _ _ _ _ h => h⟩
theorem Kq.trans {n₀ : Nat} {A B C : World} (h : Kq n₀ A B) (k : Kq n₀ B C) : Kq n₀ A C := ⟨h.1.trans k.1, fun b T v hT hb => k.2 b T v hT (h.2 b T v hT hb)⟩
theorem grown_of_below {W W' : World} (h : Below W.heap.size W W') : W.grownBy W' none := ⟨h.os, h.tape, h.output, h.size, fun k hk _ => h.block k hk⟩
theorem Kq.below {n₀ : Nat} {W W' : World} (hn : n₀ ≤ W.heap.size) (h : Below W.heap.size W W') : Kq n₀ W W' := ⟨h.mono hn, fun k _ _ _ hb => (h.block k (Array.getElem?_eq_some_iff.1 hb).1).trans hb⟩
theorem Kq.yb {n₀ : Nat} {W W' : World} (h : Kq n₀ W W') {b : Nat} {v : Value} (hb : Boxed W b 25 v) : Boxed W' b 25 v := h.2 _ _ _ (.inl rfl) hb
theorem Kq.fb {n₀ : Nat} {W W' : World} (h : Kq n₀ W W') {b : Nat} {v : Value} (hb : Boxed W b 110 v) : Boxed W' b 110 v := h.2 _ _ _ (.inr (.inl rfl)) hb
theorem abides_below {β : Type} {B : Nat} {J : β → World → Prop} (hJ : AbidesFrom B J) {s : β} {W W' : World} (h : J s W) (hb : Below W.heap.size W W') : J s W' := hJ s W W' none h (grown_of_below hb) (fun r e => by cases e)
theorem nm_roundAny {m m' : Nat} {P : Program} {l : Nat} {f : FuncId} {tmps : Array Value} {assign body : Code} {w : World} {R : Ending → World → Prop} (h : RoundIn Fence.wide m P l f tmps assign body w R) : RoundIn Fence.wide m' P l f tmps assign body w R := ⟨h.1, fun c cs _ => h.2 c cs (room_wide _)⟩

theorem nm_store_func (P : Program) (w : World) (a : Addr) (m : Mode) (fn : Fn) (first captured : Array Value) : (store a (.func fn first captured) m).run P w = stored P w a (.func fn first captured) m := run_store P w a _ m rfl
attribute [local go_sem] nm_store_func

/-- Where the names of a part are put. -/
def nm1 (k : Int) (t : ByteArray) : List ByteArray := if k = 5 ∧ Chr.name t.toList = true then [t] else []

set_option maxRecDepth 100000 in
set_option maxHeartbeats 4000000 in
theorem nm_all (l n₀ B N bY bA : Nat) (J Jx : List ByteArray → World → Prop) (hJ : AbidesFrom B J)
    (hY : ∀ m pre x W, J pre W → pre.length < N → YieldAt Fence.wide m Try.prog l #[.string x] W fun e W' => (e = .returned (.bool true) ∧ J (pre ++ [x]) W' ∧ Kq n₀ W W') ∨ (e = .returned (.bool false) ∧ Jx (pre ++ [x]) W')) :
    ∀ (n : Nat) (ps : Pts) (m : Nat) (A : Option Addr) (c : Nat) (G : Nat → Prop) (pre : List ByteArray) (W : World), ps.deep < n → ps.wt ≤ 1073741824 → (∀ k, G k → k < n₀) → n₀ ≤ W.heap.size → PtsAt G W A 0 ps →
      Boxed W bY 25 (.func (.yield l) #[] #[]) → Boxed W bA 110 (.func (.func 91) #[] #[.pointer (some ⟨bY, 0, none⟩), .pointer (some ⟨bA, 0, none⟩)]) → J pre W → pre.length + ps.nms.length ≤ N →
      CallsIn Fence.wide m Try.prog 91 #[.slice A ps.len c, .pointer (some ⟨bY, 0, none⟩), .pointer (some ⟨bA, 0, none⟩)] W fun e W' =>
        (e = .returned (.bool true) ∧ J (pre ++ ps.nms) W' ∧ Kq n₀ W W') ∨ (e = .returned (.bool false) ∧ ∃ q, q <+: ps.nms ∧ Jx (pre ++ q) W') := by
  intro n
  induction n with
  | zero => intro ps _ _ _ _ _ _ h; omega
  | succ n ih =>
    intro ps m A c G pre W hd hwt hG hn hp hbY hbA hj hN
    have hlw := Pts.len_wt ps
    have IH := Lib.hid ih; have HG := Lib.hid hG; have HP := Lib.hid hp; have HBY := Lib.hid hbY; have HBA := Lib.hid hbA; have HJ := Lib.hid hj; have HYY := Lib.hid hY; have HAB := Lib.hid hJ
    clear ih hG hp hbY hbA hj hY hJ
    refine callsIn_of_wp Try.func91 rfl trivial ?_ rfl
    simp only [Try.ntmps91, List.size_toArray, List.length_cons, List.length_nil, Nat.reduceAdd, Nat.reduceSub, Array.replicate_succ, Array.replicate_zero, List.push_toArray, List.append_toArray, List.nil_append, List.cons_append]
    gi_wp2
    gi_loopw [9] (fun i wr => ∃ (k : Nat) (mid : List ByteArray), k ≤ ps.len ∧ i = .int .i64 k ∧ ps.nms = mid ++ (ps.drop k).nms ∧ J (pre ++ mid) wr ∧ Kq n₀ W wr) (fun i _ => ps.len - (intOf i).toNat)
    case atStart => exact ⟨0, [], by omega, rfl, by rw [Pts.drop_zero]; rfl, by rw [List.append_nil]; exact HJ.out, Kq.refl _ _⟩
    case round =>
      obtain ⟨k, mid, hk, rfl, hs, hjr, hkq⟩ := hrel
      have hnr : n₀ ≤ wr.heap.size := Nat.le_trans hn hkq.1.size
      have HS := Lib.hid hs; have HJR := Lib.hid hjr; have HKQ := Lib.hid hkq
      clear hs hjr hkq
      by_cases hlt : k < ps.len
      · obtain ⟨pk, t, o, kids, cm, r, hdr⟩ := Pts.drop_cons k ps hlt
        have hwd := Pts.wt_drop k ps
        rw [hdr, Pts.wt] at hwd
        have hpr := HP.out.keep (fun p hp => HKQ.out.1.cell (HG.out _ hp))
        have hp' := hpr.at_ k
        rw [hdr, Nat.zero_add] at hp'
        obtain ⟨bb, off, Ak, ck, rfl, hg, c0, c1, c2, c3, c4, hl, h1, h2⟩ := hp'
        have hkd := Pts.deep_drop k ps hdr
        have HD := Lib.hid hdr
        have HK1 := Lib.hid h1
        clear hdr hl h2 h1 hpr
        unfold Cm.val at c4
        have hnm : ps.nms = mid ++ (nm1 pk t ++ (kids.nms ++ r.nms)) := by rw [HS.out, HD.out]; rfl
        have HNM := Lib.hid hnm
        clear hnm
        have hbx : Below wr.heap.size wr (wr.alloc (.cells #[.int .i64 pk, .string t, .string o, .slice Ak kids.len ck, .slice cm.a cm.n cm.c] 41)) := (Below.refl _ _).alloc (Nat.le_refl _) _
        have hkx := HKQ.out.trans (.below hnr hbx)
        have hbox : (wr.alloc (.cells #[.int .i64 pk, .string t, .string o, .slice Ak kids.len ck, .slice cm.a cm.n cm.c] 41)).heap[wr.heap.size]? = some (.cells #[.int .i64 pk, .string t, .string o, .slice Ak kids.len ck, .slice cm.a cm.n cm.c] 41 (0, 0)) := World.alloc_heap_new wr _
        have HJX := Lib.hid (abides_below HAB.out HJR.out hbx)
        have zA := (hkx.fb HBA.out).cell
        have HKX := Lib.hid hkx; have HBOX := Lib.hid hbox
        have hnx : n₀ ≤ (wr.alloc (.cells #[.int .i64 pk, .string t, .string o, .slice Ak kids.len ck, .slice cm.a cm.n cm.c] 41)).heap.size := Nat.le_trans hnr hbx.size
        have HNX := Lib.hid hnx
        have HKP := Lib.hid (HK1.out.keep (fun p hp => (World.cell?_of_block (hbx.block _ (Nat.lt_of_lt_of_le (HG.out _ hp) hnr)))))
        clear hkx hbox hbx hnx
        cases m5 : (pk == 5)
        · have HNM1 := Lib.hid (show nm1 pk t = [] from by unfold nm1; rw [if_neg]; intro h; have := beq_eq_false_iff_ne.1 m5; exact this h.1)
          gi_wp2
          refine ⟨trivial, ?_⟩
          gi_wp2
          refine ⟨fun _ h => (by cases h), ?_⟩
          gi_wp2
          refine ⟨trivial, fun h => (by cases h), ?_⟩
          refine (IH.out kids _ Ak ck G (pre ++ mid) _ (by omega) (by omega) HG.out HNX.out HKP.out (HKX.out.yb HBY.out) (HKX.out.fb HBA.out) HJX.out ?_).mono ?_
          · have := congrArg List.length HNM.out
            simp only [List.length_append] at this ⊢
            skip
            omega
          rintro e w3 (⟨rfl, hj3, hk3⟩ | ⟨rfl, q, hq, hx⟩)
          · have HK3 := Lib.hid (HKX.out.trans hk3); have HJ3 := Lib.hid hj3
            clear hk3 hj3
            gi_wp2
            go_roundw
            case rel =>
              refine ⟨k + 1, mid ++ ([] ++ kids.nms), by omega, by go_num, ?_, by simpa only [List.append_assoc, List.nil_append, List.append_nil] using HJ3.out, HK3.out⟩
              rw [HNM.out, Pts.drop_succ k ps HD.out, HNM1.out]
              simp only [List.append_assoc, List.nil_append]
            case measure => simp only [intOf]; omega
          · have HX := Lib.hid hx; have HQ := Lib.hid hq
            clear hx hq
            gi_wp2
            go_ret
            obtain ⟨z, hz⟩ := HQ.out
            exact .inr ⟨rfl, mid ++ ([] ++ q), ⟨z ++ r.nms, by rw [HNM.out, HNM1.out, ← hz]; simp only [List.append_assoc, List.nil_append]⟩, by simpa only [List.append_assoc, List.nil_append, List.append_nil] using HX.out⟩
        · obtain rfl : pk = 5 := by simpa using m5
          have hts : t.size ≤ 9223372036854775807 := by omega
          gi_wp2
          refine ⟨trivial, fun h => (by cases h), ?_⟩
          refine (callsIn_wide.2 (name_p t _ hts)).mono ?_
          rintro e w1 ⟨rfl, hb1⟩
          have hnm1 : nm1 5 t = if Chr.name t.toList = true then [t] else [] := by unfold nm1; simp
          have HJ1 := Lib.hid (abides_below HAB.out HJX.out hb1)
          have hk1 := HKX.out.trans (.below HNX.out hb1)
          have hbox1 := (hb1.block _ (Array.getElem?_eq_some_iff.1 HBOX.out).1).trans HBOX.out
          have z61 : w1.cell? ⟨wr.heap.size, 1, none⟩ = some (.string t) := by simp [World.cell?, hbox1]
          have z63 : w1.cell? ⟨wr.heap.size, 3, none⟩ = some (.slice Ak kids.len ck) := by simp [World.cell?, hbox1]
          have zY := (hk1.yb HBY.out).cell
          have zA1 := (hk1.fb HBA.out).cell
          have HP1 := Lib.hid (HKP.out.keep (fun p hp => World.cell?_of_block (hb1.block _ (Nat.lt_of_lt_of_le (HG.out _ hp) HNX.out))))
          have HK1' := Lib.hid hk1; have HBOX1 := Lib.hid hbox1
          have HN1 := Lib.hid (Nat.le_trans hn hk1.1.size)
          clear hb1 hk1 hbox1 zA
          cases hch : Chr.name t.toList
          · have HNM1 := Lib.hid (show nm1 5 t = [] from by rw [hnm1, hch]; rfl)
            clear hnm1
            gi_wp2
            refine ⟨fun _ h => (by cases h), ?_⟩
            gi_wp2
            refine ⟨trivial, fun h => (by cases h), ?_⟩
            refine (IH.out kids _ Ak ck G (pre ++ mid) w1 (by omega) (by omega) HG.out HN1.out HP1.out (HK1'.out.yb HBY.out) (HK1'.out.fb HBA.out) HJ1.out ?_).mono ?_
            · have := congrArg List.length HNM.out
              simp only [List.length_append] at this ⊢
              skip
              omega
            rintro e w3 (⟨rfl, hj3, hk3⟩ | ⟨rfl, q, hq, hx⟩)
            · have HK3 := Lib.hid (HK1'.out.trans hk3); have HJ3 := Lib.hid hj3
              clear hk3 hj3
              gi_wp2
              go_roundw
              case rel =>
                refine ⟨k + 1, mid ++ ([] ++ kids.nms), by omega, by go_num, ?_, by simpa only [List.append_assoc, List.nil_append, List.append_nil] using HJ3.out, HK3.out⟩
                rw [HNM.out, Pts.drop_succ k ps HD.out, HNM1.out]
                simp only [List.append_assoc, List.nil_append]
              case measure => simp only [intOf]; omega
            · have HX := Lib.hid hx; have HQ := Lib.hid hq
              clear hx hq
              gi_wp2
              go_ret
              obtain ⟨z, hz⟩ := HQ.out
              exact .inr ⟨rfl, mid ++ ([] ++ q), ⟨z ++ r.nms, by rw [HNM.out, HNM1.out, ← hz]; simp only [List.append_assoc, List.nil_append]⟩, by simpa only [List.append_assoc, List.nil_append, List.append_nil] using HX.out⟩
          · have HNM1 := Lib.hid (show nm1 5 t = [t] from by rw [hnm1, hch]; rfl)
            clear hnm1
            have hlt2 : (pre ++ mid).length < N := by
              have := congrArg List.length HNM.out
              rw [HNM1.out] at this
              simp only [List.length_append, List.length_cons, List.length_nil] at this ⊢
              omega
            obtain ⟨fn, tmps, assign, body, hy, hR⟩ := HYY.out (m - 1) (pre ++ mid) t w1 HJ1.out hlt2
            gi_wp2
            refine ⟨fun h => (by cases h), ?_⟩
            refine hR.mono ?_
            clear hR hy
            rintro e w2 (⟨rfl, hj2, hk2⟩ | ⟨rfl, hx2⟩)
            · have hbox2 := hk2.2 _ _ _ (.inr (.inr rfl)) HBOX1.out
              have z63 : w2.cell? ⟨wr.heap.size, 3, none⟩ = some (.slice Ak kids.len ck) := by simp [World.cell?, hbox2]
              have hkk := HK1'.out.trans hk2
              have zA2 := (hkk.fb HBA.out).cell
              have HP2 := Lib.hid (HP1.out.keep (fun p hp => hk2.1.cell (HG.out _ hp)))
              have HJ2 := Lib.hid hj2; have HK2 := Lib.hid hkk
              have HN2 := Lib.hid (Nat.le_trans hn hkk.1.size)
              clear hj2 hk2 hbox2 hkk
              gi_wp2
              refine ⟨trivial, fun h => (by cases h), ?_⟩
              refine (IH.out kids _ Ak ck G (pre ++ mid ++ [t]) w2 (by omega) (by omega) HG.out HN2.out HP2.out (HK2.out.yb HBY.out) (HK2.out.fb HBA.out) HJ2.out ?_).mono ?_
              · have := congrArg List.length HNM.out
                simp only [List.length_append] at this ⊢
                rw [HNM1.out] at this; simp only [List.length_cons, List.length_nil] at this ⊢
                omega
              rintro e w3 (⟨rfl, hj3, hk3⟩ | ⟨rfl, q, hq, hx⟩)
              · have HK3 := Lib.hid (HK2.out.trans hk3); have HJ3 := Lib.hid hj3
                clear hk3 hj3
                gi_wp2
                go_roundw
                case rel =>
                  refine ⟨k + 1, mid ++ ([t] ++ kids.nms), by omega, by go_num, ?_, by simpa only [List.append_assoc, List.nil_append, List.append_nil] using HJ3.out, HK3.out⟩
                  rw [HNM.out, Pts.drop_succ k ps HD.out, HNM1.out]
                  simp only [List.append_assoc]
                case measure => simp only [intOf]; omega
              · have HX := Lib.hid hx; have HQ := Lib.hid hq
                clear hx hq
                gi_wp2
                go_ret
                obtain ⟨z, hz⟩ := HQ.out
                exact .inr ⟨rfl, mid ++ ([t] ++ q), ⟨z ++ r.nms, by rw [HNM.out, HNM1.out, ← hz]; simp only [List.append_assoc]⟩, by simpa only [List.append_assoc, List.nil_append, List.append_nil] using HX.out⟩
            · have HX2 := Lib.hid hx2
              clear hx2
              gi_wp2
              refine ⟨fun _ h => (by cases h), ?_⟩
              gi_wp2
              go_ret
              exact .inr ⟨rfl, mid ++ [t], ⟨kids.nms ++ r.nms, by rw [HNM.out, HNM1.out]; simp only [List.append_assoc]⟩, by simpa only [List.append_assoc] using HX2.out⟩
      · have HE := Lib.hid (Pts.drop_end k ps (by omega))
        gi_wp2
        go_ret
        have he : ps.nms = mid := by rw [HS.out, HE.out]; simp [Pts.nms]
        exact .inl ⟨rfl, by rw [he]; exact HJR.out, HKQ.out⟩
set_option maxRecDepth 100000 in
set_option maxHeartbeats 2000000 in
/-- The function that named hands back. -/
theorem nm_one (n : Nat) (l n₀ Bt : Nat) (ps : Pts) (A : Option Addr) (c : Nat) (G : Nat → Prop) (J Jx : List ByteArray → World → Prop) (W : World) (hJ : AbidesFrom W.heap.size J) (hwt : ps.wt ≤ 1073741824) (hG : ∀ k, G k → k < n₀) (hn : n₀ ≤ W.heap.size) (hp : PtsAt G W A 0 ps) (hBt : W.cell? ⟨Bt, 0, none⟩ = some (.slice A ps.len c)) (hbl : Bt < W.heap.size)
    (hY : ∀ pre x W1, J pre W1 → pre.length < ps.nms.length → YieldAt Fence.wide (n - 1) Try.prog l #[.string x] W1 fun e W' => (e = .returned (.bool true) ∧ J (pre ++ [x]) W' ∧ Kq n₀ W1 W') ∨ (e = .returned (.bool false) ∧ Jx (pre ++ [x]) W'))
    (h0 : J [] W) :
    CallsIn Fence.wide n Try.prog 90 #[.func (.yield l) #[] #[], .pointer (some ⟨Bt, 0, none⟩)] W fun e W' => (∃ v, e = .returned v) ∧ ((∃ ys, ys = ps.nms ∧ J ys W') ∨ (∃ pre, pre <+: ps.nms ∧ Jx pre W')) := by
  refine callsIn_of_wp Try.func90 rfl trivial ?_ rfl
  simp only [Try.ntmps90, List.size_toArray, List.length_cons, List.length_nil, Nat.reduceAdd, Nat.reduceSub, Array.replicate_succ, Array.replicate_zero, List.push_toArray, List.append_toArray, List.nil_append, List.cons_append]
  have hb2 : Below W.heap.size W ((W.alloc (.cells #[.func (.yield l) #[] #[]] 25)).alloc (.cells #[.func (.func 91) #[] #[.pointer (some ⟨W.heap.size, 0, none⟩), .pointer (some ⟨W.heap.size + 1, 0, none⟩)]] 110)) := ((Below.refl _ _).alloc (Nat.le_refl _) _).alloc (by simp) _
  have bY : Boxed ((W.alloc (.cells #[.func (.yield l) #[] #[]] 25)).alloc (.cells #[.func (.func 91) #[] #[.pointer (some ⟨W.heap.size, 0, none⟩), .pointer (some ⟨W.heap.size + 1, 0, none⟩)]] 110)) W.heap.size 25 (.func (.yield l) #[] #[]) := (Boxed.new W _ _).alloc _
  have bA : Boxed ((W.alloc (.cells #[.func (.yield l) #[] #[]] 25)).alloc (.cells #[.func (.func 91) #[] #[.pointer (some ⟨W.heap.size, 0, none⟩), .pointer (some ⟨W.heap.size + 1, 0, none⟩)]] 110)) (W.heap.size + 1) 110 (.func (.func 91) #[] #[.pointer (some ⟨W.heap.size, 0, none⟩), .pointer (some ⟨W.heap.size + 1, 0, none⟩)]) := by
    have := (Boxed.new (W.alloc (.cells #[.func (.yield l) #[] #[]] 25)) 110 (.func (.func 91) #[] #[.pointer (some ⟨W.heap.size, 0, none⟩), .pointer (some ⟨W.heap.size + 1, 0, none⟩)]))
    rwa [World.size_alloc] at this
  have zA := bA.cell
  have zB := (World.cell?_of_block (hb2.block Bt hbl) : _ = W.cell? ⟨Bt, 0, none⟩).trans hBt
  have hall := nm_all l n₀ W.heap.size ps.nms.length W.heap.size (W.heap.size + 1) J Jx hJ (fun m pre x W1 hj hl => by
      obtain ⟨fn, tmps, assign, body, hy, hR⟩ := hY pre x W1 hj hl
      exact ⟨fn, tmps, assign, body, hy, nm_roundAny hR⟩) (ps.deep + 1) ps (n - 1) A c G [] _ (by omega) hwt hG (Nat.le_trans hn hb2.size) (hp.keep fun p hp => World.cell?_of_block (hb2.block _ (Nat.lt_of_lt_of_le (hG _ hp) hn))) bY bA (abides_below hJ h0 hb2) (by simp)
  have HALL := Lib.hid hall
  clear hall hJ hp hY bY bA hb2
  gi_wp2
  refine ⟨trivial, fun h => (by cases h), ?_⟩
  refine HALL.out.mono ?_
  rintro e w3 (⟨rfl, hj3, _⟩ | ⟨rfl, q, hq, hx⟩)
  · rw [List.nil_append] at hj3
    have HJ3 := Lib.hid hj3
    clear hj3
    gi_wp2
    go_end0
    exact ⟨⟨_, rfl⟩, .inl ⟨_, rfl, HJ3.out⟩⟩
  · rw [List.nil_append] at hx
    have HX := Lib.hid hx; have HQ := Lib.hid hq
    clear hx hq
    gi_wp2
    go_end0
    exact ⟨⟨_, rfl⟩, .inr ⟨q, HQ.out, HX.out⟩⟩

theorem nm_stops (n : Nat) (n₀ Bt : Nat) (ps : Pts) (A : Option Addr) (c : Nat) (G : Nat → Prop) (w : World) (hwt : ps.wt ≤ 1073741824) (hG : ∀ k, G k → k < n₀) (hn : n₀ ≤ w.heap.size) (hp : PtsAt G w A 0 ps) (hBt : w.cell? ⟨Bt, 0, none⟩ = some (.slice A ps.len c)) (hbl : Bt < w.heap.size) :
    SeqStopsK Fence.wide n Try.prog 90 #[.pointer (some ⟨Bt, 0, none⟩)] (fun x : ByteArray => #[Value.string x]) (Kq n₀) (fun ys => ys = ps.nms) (fun pre => pre <+: ps.nms) ps.nms.length w := fun l J Jx W hW hJ _ hY h0 =>
  nm_one n l n₀ Bt ps A c G J Jx W hJ hwt hG (Nat.le_trans hn hW.size) (hp.keep fun _ hp => hW.cell (Nat.lt_of_lt_of_le (hG _ hp) hn)) ((hW.cell (p := ⟨Bt, 0, none⟩) hbl).trans hBt) (Nat.lt_of_lt_of_le hbl hW.size) hY h0

set_option maxHeartbeats 1000000 in
theorem named_in (n : Nat) (A : Option Addr) (k c : Nat) (w : World) :
    CallsIn Fence.wide n Try.prog 69 #[.slice A k c] w fun e w' => e = .returned (.func (.func 90) #[] #[.pointer (some ⟨w.heap.size, 0, none⟩)]) ∧ w' = w.alloc (.cells #[.slice A k c] 31) := by
  refine callsIn_of_wp Try.func69 rfl trivial ?_ rfl
  simp only [Try.ntmps69, List.size_toArray, List.length_cons, List.length_nil, Nat.reduceAdd, Nat.reduceSub, Array.replicate_succ, Array.replicate_zero, List.push_toArray, List.append_toArray, List.nil_append, List.cons_append]
  gi_wp2
  go_ret
  exact ⟨rfl, rfl⟩
end Go.Proofs.Ytpefkhbejjndeaa
