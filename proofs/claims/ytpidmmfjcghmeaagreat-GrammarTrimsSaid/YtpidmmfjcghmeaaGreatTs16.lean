/- Texts in one: GtC1, GtC2. -/
import Derived.Test.YtpidmmfjcghmeaaGreatTs05
import Derived.Deep.OwnRows
namespace Go.Proofs.YtpidmmfjcghmeaaGreat
open Go.RowKit

/-- Is the list between two places derived from symbols, by a chart? -/
def spanB (d : Nat → Nat → Nat → Bool) : List Int → Nat → Nat → Bool
  | [], i, j => i == j
  | x :: r, i, j => (List.range (j + 1 - i)).any fun k => d x.toNat i (i + k) && spanB d r (i + k) j
/-- Does all behind a place begin something derived from symbols? -/
def begB (d : Nat → Nat → Nat → Bool) (bb : Nat → Nat → Bool) (N : Nat) : List Int → Nat → Bool
  | [], i => i == N
  | x :: r, i => i == N || bb x.toNat i || (List.range (N + 1 - i)).any fun k => d x.toNat i (i + k) && begB d bb N r (i + k)
/-- A chart: its box, the cube, the table. -/
structure Ch (w : World) (bc bd bB : Nat) (p r : Nat → Nat) (q : Nat → Nat → Nat) (m n : Nat) (d : Nat → Nat → Nat → Bool) (bb : Nat → Nat → Bool) (v0 v1 v2 v3 : Value) (Al : Option Addr) (cl : Nat) : Prop where
  hc : w.heap[bc]? = some (.cells #[v0, v1, v2, v3, .slice Al (n - 1) cl, .slice (some ⟨bd, 0, none⟩) m m, .slice (some ⟨bB, 0, none⟩) m m] 79 (0, 0))
  hd : w.rowIs bd 76 m (fun s => .slice (some ⟨p s, 0, none⟩) n n)
  hB : w.rowIs bB 75 m (fun s => .slice (some ⟨r s, 0, none⟩) n n)
  hp : ∀ s, s < m → w.rowIs (p s) 75 n (fun i => .slice (some ⟨q s i, 0, none⟩) n n)
  hq : ∀ s i, s < m → i < n → w.rowIs (q s i) 4 n (fun j => .bool (d s i j))
  hr : ∀ s, s < m → w.rowIs (r s) 4 n (fun i => .bool (bb s i))
  qq : ∀ s i s' i', s < m → i < n → s' < m → i' < n → q s i = q s' i' → s = s' ∧ i = i'
  rr : ∀ s s', s < m → s' < m → r s = r s' → s = s'
  qr : ∀ s i s', s < m → i < n → s' < m → q s i ≠ r s'
  n1 : 1 ≤ n
section
variable {w w' : World} {bc bd bB : Nat} {p r : Nat → Nat} {q : Nat → Nat → Nat} {m n : Nat} {d : Nat → Nat → Nat → Bool} {bb : Nat → Nat → Bool} {v0 v1 v2 v3 : Value} {Al : Option Addr} {cl : Nat}
theorem row_keep {b : Nat} {T : TypeId} {k : Nat} {f : Nat → Value} (h : w.rowIs b T k f) (hb : Below w.heap.size w w') : w'.rowIs b T k f := h.of_block (hb.block _ h.lt)
theorem Ch.below (h : Ch w bc bd bB p r q m n d bb v0 v1 v2 v3 Al cl) (hb : Below w.heap.size w w') : Ch w' bc bd bB p r q m n d bb v0 v1 v2 v3 Al cl :=
  ⟨(hb.block _ (Array.getElem?_eq_some_iff.1 h.hc).1).trans h.hc, row_keep h.hd hb, row_keep h.hB hb, fun s hs => row_keep (h.hp s hs) hb, fun s i hs hi => row_keep (h.hq s i hs hi) hb, fun s hs => row_keep (h.hr s hs) hb, h.qq, h.rr, h.qr, h.n1⟩
/-- What is read on the way to one answer. -/
theorem Ch.dcells (h : Ch w bc bd bB p r q m n d bb v0 v1 v2 v3 Al cl) {s i j : Nat} (hs : s < m) (hi : i < n) (hj : j < n) :
    w.cell? ⟨bc, 5, none⟩ = some (.slice (some ⟨bd, 0, none⟩) m m) ∧ w.cell? ⟨bd, s, none⟩ = some (.slice (some ⟨p s, 0, none⟩) n n) ∧ w.cell? ⟨p s, i, none⟩ = some (.slice (some ⟨q s i, 0, none⟩) n n) ∧ w.cell? ⟨q s i, j, none⟩ = some (.bool (d s i j)) :=
  ⟨cell_box h.hc 5 _ rfl, h.hd.cell hs, (h.hp s hs).cell hi, (h.hq s i hs hi).cell hj⟩
theorem Ch.bcells (h : Ch w bc bd bB p r q m n d bb v0 v1 v2 v3 Al cl) {s i : Nat} (hs : s < m) (hi : i < n) :
    w.cell? ⟨bc, 4, none⟩ = some (.slice Al (n - 1) cl) ∧ w.cell? ⟨bc, 6, none⟩ = some (.slice (some ⟨bB, 0, none⟩) m m) ∧ w.cell? ⟨bB, s, none⟩ = some (.slice (some ⟨r s, 0, none⟩) n n) ∧ w.cell? ⟨r s, i, none⟩ = some (.bool (bb s i)) :=
  ⟨cell_box h.hc 4 _ rfl, cell_box h.hc 6 _ rfl, h.hB.cell hs, (h.hr s hs).cell hi⟩
end
theorem IntsAt.tail {G : Nat → Prop} {w : World} {b off n c : Nat} {x : Int} {l : List Int} (h : IntsAt G w (.slice (some ⟨b, off, none⟩) (n + 1) c) (x :: l)) : IntsAt G w (.slice (some ⟨b, off + 1, none⟩) n (c - 1)) l := by
  obtain ⟨A, c', e, h1, h2, h3⟩ := h
  injection e with e1 e2 e3
  subst e1 e3
  rw [List.length_cons] at e2 h1
  obtain rfl : n = l.length := by omega
  refine ⟨some ⟨b, off + 1, none⟩, c - 1, rfl, by omega, by omega, fun _ => ?_⟩
  obtain ⟨b', o', e4, h5, h6⟩ := h3 (by simp)
  injection e4 with e4
  injection e4 with e4 e5
  subst e4 e5
  refine ⟨b, off + 1, rfl, h5, fun i hi => ?_⟩
  obtain ⟨vs, k1, k2, k3⟩ := h6 (i + 1) (by simpa using hi)
  refine ⟨vs, k1, by simpa using k2, fun j u hj => ?_⟩
  rw [show off + 1 + i * 1 + j = off + (i + 1) * 1 + j by omega]
  exact k3 j u hj
theorem IntsAt.tail' {G : Nat → Prop} {w : World} {b off n c : Nat} {x : Int} {l : List Int} (h : IntsAt G w (.slice (some ⟨b, off, none⟩) (n + 1) c) (x :: l)) : IntsAt G w (.slice (if c = 1 then some ⟨b, off, none⟩ else some ⟨b, off + 1, none⟩) n (c - 1)) l := by
  by_cases e : c = 1
  · obtain ⟨A, c', e1, h1, h2, h3⟩ := h
    injection e1 with e1 e2 e3
    subst e3
    rw [List.length_cons] at e2 h1
    obtain rfl : l = [] := List.eq_nil_of_length_eq_zero (by omega)
    exact ⟨_, _, (by rw [show n = 0 by simpa using e2]; rfl), (by simp), (by omega), fun h => absurd h (Nat.lt_irrefl 0)⟩
  · rw [if_neg e]
    exact h.tail
theorem span_cons (d : Nat → Nat → Nat → Bool) (x : Int) (r : List Int) (i j : Nat) : spanB d (x :: r) i j = true ↔ ∃ k, i + k ≤ j ∧ d x.toNat i (i + k) = true ∧ spanB d r (i + k) j = true := by
  rw [spanB, List.any_eq_true]
  constructor
  · rintro ⟨k, hk, h⟩
    rw [Bool.and_eq_true] at h
    exact ⟨k, by have := List.mem_range.1 hk; omega, h.1, h.2⟩
  · rintro ⟨k, hk, h1, h2⟩
    exact ⟨k, List.mem_range.2 (by omega), by rw [h1, h2]; rfl⟩

set_option maxRecDepth 100000 in
set_option maxHeartbeats 4000000 in
theorem span_r : ∀ (l : List Int) (G : Nat → Prop) (w : World) (bc bd bB : Nat) (p r : Nat → Nat) (q : Nat → Nat → Nat) (m n : Nat) (d : Nat → Nat → Nat → Bool) (bb : Nat → Nat → Bool) (v0 v1 v2 v3 : Value) (Al : Option Addr) (cl : Nat) (A : Option Addr) (c i j : Nat),
    Ch w bc bd bB p r q m n d bb v0 v1 v2 v3 Al cl → (∀ k, G k → k < w.heap.size) → IntsAt G w (.slice A l.length c) l → (∀ s ∈ l, 0 ≤ s ∧ s < m) → i < n → j < n → n ≤ 1000000 → m ≤ 1000000 →
    Calls Tryz.prog 153 #[.pointer (some ⟨bc, 0, none⟩), .slice A l.length c, .int .i64 i, .int .i64 j] w fun e w' => e = .returned (.bool (spanB d l i j)) ∧ Below w.heap.size w w' := by
  intro l
  induction l with
  | nil =>
    intro G w bc bd bB p r q m n d bb v0 v1 v2 v3 Al cl A c i j _ _ _ _ hi hj hn hm
    have he := Lib.hid (show ((i : Int) == (j : Int)) = spanB d [] i j by rw [spanB, Bool.eq_iff_iff]; simp; omega)
    go_enter Tryz.func153, Tryz.ntmps153
    go_wp2
    go_ret
    exact ⟨by rw [← he.out]; rfl, Below.refl _ _⟩
  | cons x l ih =>
    intro G w bc bd bB p r q m n d bb v0 v1 v2 v3 Al cl A c i j hch hG hin hs hi hj hn hm
    obtain ⟨x', hx'⟩ : ∃ x' : Nat, x = (x' : Int) := ⟨x.toNat, by have := (hs x (List.mem_cons_self ..)).1; omega⟩
    subst hx'
    have hxm : x' < m := by have := (hs _ (List.mem_cons_self ..)).2; omega
    have hlen : ((x' : Int) :: l).length = l.length + 1 := rfl
    rw [hlen] at hin ⊢
    obtain ⟨b, off, rfl, z⟩ := IntsAt.get hin (k := 0) (by simp)
    have htl := hin.tail'
    generalize hAe : (if c = 1 then some ⟨b, off, none⟩ else some ⟨b, off + 1, none⟩ : Option Addr) = A' at htl
    have hcap : l.length + 1 ≤ c := by obtain ⟨_, _, e, h2, _⟩ := hin.shape; injection e with _ _ e; subst e; exact h2
    have hc0 : (1 : Int) ≤ (c : Int) := by omega
    have hl1 : (1 : Int) ≤ (l.length : Int) + 1 := by omega
    have hllc : (l.length : Int) + 1 ≤ (c : Int) := by omega
    rw [show ((x' : Int) :: l)[0] = (x' : Int) from rfl, Nat.add_zero] at z
    have HCH := Lib.hid hch; have HG := Lib.hid hG; have HTL := Lib.hid htl; have HS := Lib.hid (fun s h => hs s (List.mem_cons_of_mem _ h)); have IH := Lib.hid ih
    have HSP := Lib.hid (show _ from span_cons d (x' : Int) l i j)
    clear hch hG hin htl hs ih hlen
    go_enter Tryz.func153, Tryz.ntmps153
    go_wp2
    go_loopw [9] (fun mv wr => ∃ k : Nat, mv = .int .i64 ((i + k : Nat) : Int) ∧ i + k ≤ max i (j + 1) ∧ (∀ k', k' < k → ¬ (d x' i (i + k') = true ∧ spanB d l (i + k') j = true)) ∧ Below w.heap.size w wr) (fun mv _ => j + 1 - (intOf mv).toNat)
    case atStart => exact ⟨0, rfl, by omega, fun _ h => absurd h (Nat.not_lt_zero _), Below.refl _ _⟩
    case round =>
      obtain ⟨k, rfl, hk, hno, hb⟩ := hrel
      have HNO := Lib.hid hno; have HB := Lib.hid hb
      have hchr := HCH.out.below hb
      have hzr := box_keep z hb
      clear hno hb
      obtain ⟨mm, hmm⟩ : ∃ mm, mm = i + k := ⟨_, rfl⟩
      rw [← hmm] at hk ⊢
      have HMM := Lib.hid hmm
      clear hmm
      by_cases hle : mm ≤ j
      · obtain ⟨e1, e2, e3, e4⟩ := hchr.dcells hxm hi (show mm < n by omega)
        have hne : Nonempty (Gr wr) := ⟨⟨_, Below.refl _ _⟩⟩
        have pc := fun Y : Gr wr => Y.calls (IH.out G Y.at_ bc bd bB _ _ _ _ _ d bb _ _ _ _ _ _ A' (c - 1) mm j (hchr.below Y.2) (old_of (old_of HG.out HB.out) Y.2) (HTL.out.below HG.out (HB.out.trans (Below.mono Y.2 HB.out.size))) HS.out (by omega) hj hn hm)
        have f0 := fun Y : Gr wr => Y.cell _ _ e1; have f1 := fun Y : Gr wr => Y.cell _ _ e2; have f2 := fun Y : Gr wr => Y.cell _ _ e3; have f3 := fun Y : Gr wr => Y.cell _ _ e4; have fz := fun Y : Gr wr => Y.cell _ _ hzr
        clear hchr e1 e2 e3 e4 hzr z
        have HYES := Lib.hid (show d x' i mm = true → spanB d l mm j = true → spanB d ((x' : Int) :: l) i j = true from fun h1 h2 => HSP.out.2 ⟨k, by rw [← HMM.out]; exact hle, by rw [← HMM.out, Int.toNat_natCast]; exact h1, by rw [← HMM.out]; exact h2⟩)
        have HNEXT := Lib.hid (show ¬ (d x' i mm = true ∧ spanB d l mm j = true) → ∀ k', k' < k + 1 → ¬ (d x' i (i + k') = true ∧ spanB d l (i + k') j = true) from fun h k' hk' => by
          by_cases e : k' = k
          · rw [e, ← HMM.out]; exact h
          · exact HNO.out k' (by omega))
        revert pc f3 HYES HNEXT
        generalize d x' i mm = d1
        generalize spanB d l mm j = d2
        intro pc f3 HYES HNEXT
        go_wp2_with fail
        cases d1
        · refine wp_region_class (S := Gr wr) Gr.at_ (by kernel_rfl) (by kernel_rfl) (Gr.drew _) ?_
          repeat (go_big_quiet_step (with_reducible exact pc _))
          refine wpQuiet_nil ?_
          rintro wz ⟨⟨wz', hY⟩, hY2⟩
          obtain rfl : wz = wz' := hY2
          have HBZ := Lib.hid (HB.out.trans (hY.mono HB.out.size))
          clear pc f0 f1 f2 f3 fz hne hY
          go_wp2_with fail
          go_roundw
          case rel => exact ⟨k + 1, by have := HMM.out; go_num, by have := HMM.out; omega, HNEXT.out (by simp), HBZ.out⟩
          case measure => simp only [intOf]; omega
        · refine wp_region_class (S := Gr wr) Gr.at_ (by kernel_rfl) (by kernel_rfl) (Gr.drew _) ?_
          repeat (go_big_quiet_step (with_reducible exact pc _))
          refine wpQuiet_nil ?_
          rintro wz ⟨⟨wz', hY⟩, hY2⟩
          obtain rfl : wz = wz' := hY2
          have HBZ := Lib.hid (HB.out.trans (hY.mono HB.out.size))
          clear pc f0 f1 f2 f3 fz hne hY
          cases d2
          · go_wp2_with fail
            go_roundw
            case rel => exact ⟨k + 1, by have := HMM.out; go_num, by have := HMM.out; omega, HNEXT.out (by simp), HBZ.out⟩
            case measure => simp only [intOf]; omega
          · have he := Lib.hid (HYES.out rfl rfl)
            go_wp2_with fail
            go_ret
            exact ⟨by rw [he.out]; rfl, HBZ.out⟩
      · have he := Lib.hid (show spanB d ((x' : Int) :: l) i j = false from by
          rw [Bool.eq_false_iff]
          intro h
          obtain ⟨k', h1, h2, h3⟩ := HSP.out.1 h
          rw [Int.toNat_natCast] at h2
          exact HNO.out k' (by have := HMM.out; omega) ⟨h2, h3⟩)
        go_wp2_with fail
        go_ret
        exact ⟨by rw [he.out]; rfl, HB.out⟩
end Go.Proofs.YtpidmmfjcghmeaaGreat
namespace Go.Proofs.YtpidmmfjcghmeaaGreat
open Go.RowKit

theorem beg_cons (d : Nat → Nat → Nat → Bool) (bb : Nat → Nat → Bool) (N : Nat) (x : Int) (r : List Int) (i : Nat) : begB d bb N (x :: r) i = true ↔ i = N ∨ bb x.toNat i = true ∨ ∃ k, i + k ≤ N ∧ d x.toNat i (i + k) = true ∧ begB d bb N r (i + k) = true := by
  rw [begB, Bool.or_eq_true, Bool.or_eq_true, List.any_eq_true, beq_iff_eq, or_assoc]
  refine or_congr Iff.rfl (or_congr Iff.rfl ?_)
  constructor
  · rintro ⟨k, hk, h⟩
    rw [Bool.and_eq_true] at h
    exact ⟨k, by have := List.mem_range.1 hk; omega, h.1, h.2⟩
  · rintro ⟨k, hk, h1, h2⟩
    exact ⟨k, List.mem_range.2 (by omega), by rw [h1, h2]; rfl⟩

set_option maxRecDepth 100000 in
set_option maxHeartbeats 4000000 in
theorem begins_r : ∀ (l : List Int) (G : Nat → Prop) (w : World) (bc bd bB : Nat) (p r : Nat → Nat) (q : Nat → Nat → Nat) (m N : Nat) (d : Nat → Nat → Nat → Bool) (bb : Nat → Nat → Bool) (v0 v1 v2 v3 : Value) (Al : Option Addr) (cl : Nat) (A : Option Addr) (c i : Nat),
    Ch w bc bd bB p r q m (N + 1) d bb v0 v1 v2 v3 Al cl → (∀ k, G k → k < w.heap.size) → IntsAt G w (.slice A l.length c) l → (∀ s ∈ l, 0 ≤ s ∧ s < m) → i ≤ N → N ≤ 1000000 → m ≤ 1000000 →
    Calls Tryz.prog 154 #[.pointer (some ⟨bc, 0, none⟩), .slice A l.length c, .int .i64 i] w fun e w' => e = .returned (.bool (begB d bb N l i)) ∧ Below w.heap.size w w' := by
  intro l
  induction l with
  | nil =>
    intro G w bc bd bB p r q m N d bb v0 v1 v2 v3 Al cl A c i hch _ _ _ hi hN hm
    have y4 := cell_box hch.hc 4 _ rfl
    rw [show #[v0, v1, v2, v3, Value.slice Al (N + 1 - 1) cl, Value.slice (some ⟨bd, 0, none⟩) m m, Value.slice (some ⟨bB, 0, none⟩) m m][4] = Value.slice Al N cl from rfl] at y4
    have he := Lib.hid (show begB d bb N [] i = (i == N) from rfl)
    clear hch
    go_enter Tryz.func154, Tryz.ntmps154
    by_cases hiN : i = N
    · have he2 := Lib.hid (show begB d bb N [] i = true by rw [he.out]; simpa using hiN)
      have hb : ((i : Int) == (N : Int)) = true := by rw [hiN]; exact beq_self_eq_true _
      clear hiN
      go_wp2_with fail
      go_ret
      exact ⟨by rw [he2.out]; rfl, Below.refl _ _⟩
    · have he2 := Lib.hid (show begB d bb N [] i = false by rw [he.out]; simpa using hiN)
      have hb : ((i : Int) == (N : Int)) = false := by rw [beq_eq_false_iff_ne]; omega
      clear hiN
      go_wp2_with fail
      go_ret
      exact ⟨by rw [he2.out]; rfl, Below.refl _ _⟩
  | cons x l ih =>
    intro G w bc bd bB p r q m N d bb v0 v1 v2 v3 Al cl A c i hch hG hin hs hi hN hm
    obtain ⟨x', hx'⟩ : ∃ x' : Nat, x = (x' : Int) := ⟨x.toNat, by have := (hs x (List.mem_cons_self ..)).1; omega⟩
    subst hx'
    have hxm : x' < m := by have := (hs _ (List.mem_cons_self ..)).2; omega
    have hlen : ((x' : Int) :: l).length = l.length + 1 := rfl
    rw [hlen] at hin ⊢
    obtain ⟨b, off, rfl, z⟩ := IntsAt.get hin (k := 0) (by simp)
    have htl := hin.tail'
    generalize hAe : (if c = 1 then some ⟨b, off, none⟩ else some ⟨b, off + 1, none⟩ : Option Addr) = A' at htl
    have hcap : l.length + 1 ≤ c := by obtain ⟨_, _, e, h2, _⟩ := hin.shape; injection e with _ _ e; subst e; exact h2
    have hc0 : (1 : Int) ≤ (c : Int) := by omega
    have hl1 : (1 : Int) ≤ (l.length : Int) + 1 := by omega
    have hllc : (l.length : Int) + 1 ≤ (c : Int) := by omega
    rw [show ((x' : Int) :: l)[0] = (x' : Int) from rfl, Nat.add_zero] at z
    obtain ⟨y4, y6, y7, y8⟩ := hch.bcells hxm (show i < N + 1 by omega)
    rw [Nat.add_sub_cancel] at y4
    have HCH := Lib.hid hch; have HG := Lib.hid hG; have HTL := Lib.hid htl; have HS := Lib.hid (fun s h => hs s (List.mem_cons_of_mem _ h)); have IH := Lib.hid ih
    have HSP := Lib.hid (beg_cons d bb N (x' : Int) l i)
    have HX4 := Lib.hid y4
    clear hch hG hin htl hs ih hlen
    go_enter Tryz.func154, Tryz.ntmps154
    by_cases hiN : i = N
    · have he2 := Lib.hid (show begB d bb N ((x' : Int) :: l) i = true from HSP.out.2 (.inl hiN))
      have hb : ((i : Int) == (N : Int)) = true := by rw [hiN]; exact beq_self_eq_true _
      clear hiN
      go_wp2_with fail
      go_ret
      exact ⟨by rw [he2.out]; rfl, Below.refl _ _⟩
    have hb : ((i : Int) == (N : Int)) = false := by rw [beq_eq_false_iff_ne]; omega
    have HNN := Lib.hid hiN
    clear hiN
    have HBB := Lib.hid (show bb x' i = true → begB d bb N ((x' : Int) :: l) i = true from fun h => HSP.out.2 (.inr (.inl h)))
    have HBN := Lib.hid (show bb x' i = false → (begB d bb N ((x' : Int) :: l) i = true → ∃ k, i + k ≤ N ∧ d x' i (i + k) = true ∧ begB d bb N l (i + k) = true) from fun h h2 => by
      rcases HSP.out.1 h2 with h3 | h3 | h3
      · exact absurd h3 HNN.out
      · rw [Int.toNat_natCast, h] at h3; cases h3
      · exact h3)
    revert y8 HBB HBN
    generalize hbx : bb x' i = b1
    intro y8 HBB HBN
    clear hbx
    have z2 := z
    cases b1
    case true =>
      have he := Lib.hid (HBB.out rfl)
      go_wp2_with fail
      go_region
      go_wp2_with fail
      go_ret
      exact ⟨by rw [he.out]; rfl, (Below.refl _ _).drew⟩
    go_wp2_with fail
    go_region
    clear z2
    have hd0 : Below w.heap.size w w.drew := (Below.refl _ _).drew
    have HD0 := Lib.hid hd0
    clear hd0 y4 y6 y7 y8
    go_wp2
    go_loopw [7] (fun mv wr => ∃ k : Nat, mv = .int .i64 ((i + k : Nat) : Int) ∧ i + k ≤ N + 1 ∧ (∀ k', k' < k → ¬ (d x' i (i + k') = true ∧ begB d bb N l (i + k') = true)) ∧ Below w.heap.size w wr) (fun mv _ => N + 1 - (intOf mv).toNat)
    case atStart => exact ⟨0, rfl, by omega, fun _ h => absurd h (Nat.not_lt_zero _), HD0.out⟩
    case round =>
      obtain ⟨k, rfl, hk, hno, hb⟩ := hrel
      have HNO := Lib.hid hno; have HB := Lib.hid hb
      have hchr := HCH.out.below hb
      have hzr := box_keep z hb
      have hz4 := box_keep HX4.out hb
      clear hno hb
      obtain ⟨mm, hmm⟩ : ∃ mm, mm = i + k := ⟨_, rfl⟩
      rw [← hmm] at hk ⊢
      have HMM := Lib.hid hmm
      clear hmm
      by_cases hle : mm ≤ N
      · obtain ⟨e1, e2, e3, e4⟩ := hchr.dcells hxm (show i < N + 1 by omega) (show mm < N + 1 by omega)
        have hne : Nonempty (Gr wr) := ⟨⟨_, Below.refl _ _⟩⟩
        have pc := fun Y : Gr wr => Y.calls (IH.out G Y.at_ bc bd bB _ _ _ _ _ d bb _ _ _ _ _ _ A' (c - 1) mm (hchr.below Y.2) (old_of (old_of HG.out HB.out) Y.2) (HTL.out.below HG.out (HB.out.trans (Below.mono Y.2 HB.out.size))) HS.out hle hN hm)
        have f0 := fun Y : Gr wr => Y.cell _ _ e1; have f1 := fun Y : Gr wr => Y.cell _ _ e2; have f2 := fun Y : Gr wr => Y.cell _ _ e3; have f3 := fun Y : Gr wr => Y.cell _ _ e4; have fz := fun Y : Gr wr => Y.cell _ _ hzr
        clear hchr e1 e2 e3 e4 hzr z
        have HYES := Lib.hid (show d x' i mm = true → begB d bb N l mm = true → begB d bb N ((x' : Int) :: l) i = true from fun h1 h2 => HSP.out.2 (.inr (.inr ⟨k, by rw [← HMM.out]; exact hle, by rw [← HMM.out, Int.toNat_natCast]; exact h1, by rw [← HMM.out]; exact h2⟩)))
        have HNEXT := Lib.hid (show ¬ (d x' i mm = true ∧ begB d bb N l mm = true) → ∀ k', k' < k + 1 → ¬ (d x' i (i + k') = true ∧ begB d bb N l (i + k') = true) from fun h k' hk' => by
          by_cases e : k' = k
          · rw [e, ← HMM.out]; exact h
          · exact HNO.out k' (by omega))
        revert pc f3 HYES HNEXT
        generalize d x' i mm = d1
        generalize begB d bb N l mm = d2
        intro pc f3 HYES HNEXT
        go_wp2_with fail
        cases d1
        · refine wp_region_class (S := Gr wr) Gr.at_ (by kernel_rfl) (by kernel_rfl) (Gr.drew _) ?_
          repeat (go_big_quiet_step (with_reducible exact pc _))
          refine wpQuiet_nil ?_
          rintro wz ⟨⟨wz', hY⟩, hY2⟩
          obtain rfl : wz = wz' := hY2
          have HBZ := Lib.hid (HB.out.trans (hY.mono HB.out.size))
          clear pc f0 f1 f2 f3 fz hne hY hz4
          go_wp2_with fail
          go_roundw
          case rel => exact ⟨k + 1, by have := HMM.out; go_num, by have := HMM.out; omega, HNEXT.out (by simp), HBZ.out⟩
          case measure => simp only [intOf]; omega
        · refine wp_region_class (S := Gr wr) Gr.at_ (by kernel_rfl) (by kernel_rfl) (Gr.drew _) ?_
          repeat (go_big_quiet_step (with_reducible exact pc _))
          refine wpQuiet_nil ?_
          rintro wz ⟨⟨wz', hY⟩, hY2⟩
          obtain rfl : wz = wz' := hY2
          have HBZ := Lib.hid (HB.out.trans (hY.mono HB.out.size))
          clear pc f0 f1 f2 f3 fz hne hY hz4
          cases d2
          · go_wp2_with fail
            go_roundw
            case rel => exact ⟨k + 1, by have := HMM.out; go_num, by have := HMM.out; omega, HNEXT.out (by simp), HBZ.out⟩
            case measure => simp only [intOf]; omega
          · have he := Lib.hid (HYES.out rfl rfl)
            go_wp2_with fail
            go_ret
            exact ⟨by rw [he.out]; rfl, HBZ.out⟩
      · have he := Lib.hid (show begB d bb N ((x' : Int) :: l) i = false from by
          rw [Bool.eq_false_iff]
          intro h
          obtain ⟨k', h1, h2, h3⟩ := HBN.out (by first | rfl | trivial) h
          exact HNO.out k' (by have := HMM.out; omega) ⟨h2, h3⟩)
        go_wp2_with fail
        go_ret
        exact ⟨by rw [he.out]; rfl, HB.out⟩
end Go.Proofs.YtpidmmfjcghmeaaGreat
