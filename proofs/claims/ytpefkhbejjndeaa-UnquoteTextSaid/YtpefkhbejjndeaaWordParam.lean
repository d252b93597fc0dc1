/- wordfmt.printer.param, given what all does at parts less deep. -/
import Derived.Test.YtpefkhbejjndeaaWordCmd
import Derived.Laws.Concat
namespace Go.Proofs.Ytpefkhbejjndeaa
open Go.RowKit

/-- The printer at work: what it has written, what is left; what must not be written lies safe. -/
structure Prn (G : Nat → Prop) (B b bp : Nat) (ti : TypeId) (Sk : List UInt8 → World → Prop) (acc : List UInt8) (cs : List (List UInt8)) (w : World) : Prop where
  sk : Sk acc w
  prt : Prt G B b bp ti cs w
  gd : Gd B (Xp b bp) w G
  le : B ≤ w.heap.size

theorem size_alloc (w : World) (o : Obj) : (w.alloc o).heap.size = w.heap.size + 1 := Array.size_push ..
theorem heap_alloc (w : World) (o : Obj) : (w.alloc o).heap[w.heap.size]? = some o := Array.getElem?_push_size

theorem size_app (a b : ByteArray) : (a ++ b).size = a.size + b.size := by rw [size_list, size_list, size_list, append_list, List.length_append]

section
variable {G : Nat → Prop} {B b bp : Nat} {ti : TypeId} {fi : FuncId} {Sk : List UInt8 → World → Prop} {acc : List UInt8} {cs : List (List UInt8)} {w w' : World}
theorem Prn.below (S : Snk B b ti fi Sk) (h : Prn G B b bp ti Sk acc cs w) (hk : Below w.heap.size w w') : Prn G B b bp ti Sk acc cs w' :=
  ⟨S.below h.sk hk, h.prt.below h.gd hk, h.gd.keep (X := Xp b bp) (.of_below hk), Nat.le_trans h.le hk.size⟩
theorem Prn.put (S : Snk B b ti fi Sk) (h : Prn G B b bp ti Sk acc cs w) (s : ByteArray) (hl : acc.length + s.size ≤ 70368744177664) :
    Calls Try.prog fi #[.pointer (some ⟨b, 0, none⟩), .string s] w fun e w' => e = .returned (.tuple #[]) ∧ Prn G B b bp ti Sk (acc ++ s.toList) cs w' ∧ Kp B (Xp b bp) w w' :=
  (S.put acc s w h.sk hl h.le).mono fun _ _ ⟨he, hs, hk⟩ =>
    have hk' : Kp B (Xp b bp) w _ := hk.wide fun _ e => .inl e
    ⟨he, ⟨hs, h.prt.put h.gd hk, h.gd.keep hk', Nat.le_trans h.le hk.size⟩, hk'⟩
theorem Prn.cmd (S : Snk B b ti fi Sk) (h : Prn G B b bp ti Sk acc cs w) (hl : acc.length + 8 + Pts.total cs ≤ 70368744177664) :
    Calls Try.prog 84 #[.pointer (some ⟨bp, 0, none⟩)] w fun e w' => e = .returned (.tuple #[]) ∧ Prn G B b bp ti Sk (acc ++ Pts.cmdText cs) cs.tail w' ∧ Kp B (Xp b bp) w w' :=
  (cmd_any S acc cs w h.sk h.prt h.gd h.le hl).mono fun _ _ ⟨he, hs, hp, hk⟩ => ⟨he, ⟨hs, hp, h.gd.keep hk, Nat.le_trans h.le hk.size⟩, hk⟩
theorem Prn.cell0 (h : Prn G B b bp ti Sk acc cs w) : w.cell? ⟨bp, 0, none⟩ = some (.iface ti (.pointer (some ⟨b, 0, none⟩))) := by
  obtain ⟨_, _, h, _⟩ := prt_cells h.prt; exact h
/-- A block of the walk's own that is no row of bytes. -/
theorem Prn.box (S : Snk B b ti fi Sk) (h : Prn G B b bp ti Sk acc cs w) (cells : Array Value) (T : TypeId) (hT : T ≠ 5) :
    Prn G B b bp ti Sk acc cs (w.alloc (.cells cells T)) ∧ Gd B (Xp b bp) (w.alloc (.cells cells T)) (· = w.heap.size) := by
  refine ⟨h.below S ((Below.refl _ _).alloc (Nat.le_refl _) _), fun k hk => ?_⟩
  subst hk
  have h1 := S.lt _ _ h.sk
  have h2 := h.prt.lt
  refine ⟨by rw [size_alloc]; omega, .inr ⟨fun hx => by rcases hx with hx | hx <;> omega, ?_⟩⟩
  rintro ⟨c, fz, hc⟩
  rw [heap_alloc] at hc
  injection hc with hc
  injection hc with _ hc
  exact hT hc
end

/-- What '(*printer).all' does, at parts less than n deep. -/
def AllAt (G : Nat → Prop) (B b bp : Nat) (ti : TypeId) (Sk : List UInt8 → World → Prop) (n : Nat) : Prop :=
  ∀ (l : Pts) (A : Option Addr) (c : Nat) (acc : List UInt8) (cs : List (List UInt8)) (w : World), l.deep < n → Prn G B b bp ti Sk acc cs w → PtsAt G w A 0 l → acc.length + 6 * l.wt + Pts.total cs + 64 ≤ 70368744177664 →
    Calls Try.prog 60 #[.pointer (some ⟨bp, 0, none⟩), .slice A l.len c] w fun e w' => e = .returned (.tuple #[]) ∧ Prn G B b bp ti Sk (acc ++ (l.shw cs).1) (l.shw cs).2 w' ∧ Kp B (Xp b bp) w w'

set_option maxRecDepth 100000 in
set_option maxHeartbeats 1000000 in
theorem param_any {G : Nat → Prop} {B b bp : Nat} {ti : TypeId} {fi : FuncId} {Sk : List UInt8 → World → Prop} (S : Snk B b ti fi Sk) (n : Nat) (IH : AllAt G B b bp ti Sk n)
    (k : Int) (t o : ByteArray) (kids : Pts) (A : Option Addr) (c : Nat) (cm : Cm) (acc : List UInt8) (cs : List (List UInt8)) (w : World)
    (hd : kids.deep < n) (h : Prn G B b bp ti Sk acc cs w) (hp : PtsAt G w A 0 kids) (hlen : acc.length + 6 * (1 + t.size + o.size + kids.wt) + Pts.total cs + 64 ≤ 70368744177664) :
    Calls Try.prog 83 #[.pointer (some ⟨bp, 0, none⟩), .agg #[.int .i64 k, .string t, .string o, .slice A kids.len c, cm.val]] w fun e w' => e = .returned (.tuple #[]) ∧
      Prn G B b bp ti Sk (acc ++ ([36, 123] ++ Pts.paramHead t.toList o.toList ++ (kids.shw cs).1 ++ [125])) (kids.shw cs).2 w' ∧ Kp B (Xp b bp) w w' := by
  have hme := S.meth
  have hen := S.enter
  have hlt := h.prt.lt
  have hcm : cm.val = .slice cm.a cm.n cm.c := rfl
  rw [hcm]
  have hc0 := h.cell0
  have a1 : ∀ W : World, (Op.stringOp .add ⟨#[35]⟩ t).run Try.prog W = .ok (.string (⟨#[35]⟩ ++ t)) W := fun W => run_string_add_sum W _ _ (by rw [size_lit [35]]; simp; omega)
  have a2 : ∀ W : World, (Op.stringOp .add t o).run Try.prog W = .ok (.string (t ++ o)) W := fun W => run_string_add_sum W _ _ (by omega)
  have H := Lib.hid h; clear h
  have HH := Lib.hid IH; clear IH
  have HL := Lib.hid hlen; clear hlen
  go_enter Try.func83, Try.ntmps83
  go_wp2_with fail
  have hbx := H.out.box S #[.int .i64 k, .string t, .string o, .slice A kids.len c, .slice cm.a cm.n cm.c] 41 (by decide)
  obtain ⟨h1, g1⟩ := hbx
  have kp1 : Kp B (Xp b bp) w (w.alloc (.cells #[.int .i64 k, .string t, .string o, .slice A kids.len c, .slice cm.a cm.n cm.c] 41)) := (Kp.refl _ _ _).alloc _
  have hp1 := hp.keep fun p hG => H.out.gd.cell kp1 p hG
  have e1 : (w.alloc (.cells #[.int .i64 k, .string t, .string o, .slice A kids.len c, .slice cm.a cm.n cm.c] 41)).cell? ⟨w.heap.size, 1, none⟩ = some (.string t) := by simp
  have e2 : (w.alloc (.cells #[.int .i64 k, .string t, .string o, .slice A kids.len c, .slice cm.a cm.n cm.c] 41)).cell? ⟨w.heap.size, 2, none⟩ = some (.string o) := by simp
  have e3 : (w.alloc (.cells #[.int .i64 k, .string t, .string o, .slice A kids.len c, .slice cm.a cm.n cm.c] 41)).cell? ⟨w.heap.size, 3, none⟩ = some (.slice A kids.len c) := by simp
  have hl1 : w.heap.size < (w.alloc (.cells #[.int .i64 k, .string t, .string o, .slice A kids.len c, .slice cm.a cm.n cm.c] 41)).heap.size := by rw [size_alloc]; omega
  revert h1 g1 kp1 hp1 e1 e2 e3 hl1
  generalize w.alloc (.cells #[.int .i64 k, .string t, .string o, .slice A kids.len c, .slice cm.a cm.n cm.c] 41) = w1
  generalize w.heap.size = bx
  intro h1 g1 kp1 hp1 e1 e2 e3 hl1
  refine (h1.put S ⟨#[36, 123]⟩ (by rw [size_lit [36, 123]]; have := HL.out; simp; omega)).mono ?_
  rintro e w2 ⟨rfl, h2, kp2⟩
  have g2 := g1.keep kp2
  have hp2 := hp1.keep fun p hG => h1.gd.cell kp2 p hG
  have e1 := (g1.cell kp2 ⟨bx, 1, none⟩ rfl).trans e1
  have e2 := (g1.cell kp2 ⟨bx, 2, none⟩ rfl).trans e2
  have e3 := (g1.cell kp2 ⟨bx, 3, none⟩ rfl).trans e3
  have hc0 := h2.cell0
  have hb2 := h2.prt.lt
  have hx2 := (g2 bx rfl).1
  have K2 := Lib.hid (kp1.trans kp2); clear kp1 kp2 hp1 h1 hl1
  rw [list_mk] at h2
  have H2 := Lib.hid h2; clear h2
  have hmid : ∀ w3 : World, Prn G B b bp ti Sk (acc ++ [36, 123] ++ Pts.paramHead t.toList o.toList) cs w3 → Kp B (Xp b bp) w2 w3 →
      PtsAt G w3 A 0 kids ∧ w3.cell? ⟨bx, 3, none⟩ = some (.slice A kids.len c) ∧ Calls Try.prog 60 #[.pointer (some ⟨bp, 0, none⟩), .slice A kids.len c] w3 fun e w' => e = .returned (.tuple #[]) ∧
        Prn G B b bp ti Sk (acc ++ [36, 123] ++ Pts.paramHead t.toList o.toList ++ (kids.shw cs).1) (kids.shw cs).2 w' ∧ Kp B (Xp b bp) w w' := fun w3 h3 kp3 => by
    have hp3 := hp2.keep fun p hG => H2.out.gd.cell kp3 p hG
    have hl := Pts.paramHead_len t.toList o.toList
    have hl1 := Pts.len_list t
    have hl2 := Pts.len_list o
    refine ⟨hp3, (g2.cell kp3 ⟨bx, 3, none⟩ rfl).trans e3, (HH.out kids A c _ cs w3 hd h3 hp3 ?_).mono ?_⟩
    · have := HL.out
      simp only [List.length_append, List.length_cons, List.length_nil]
      omega
    · rintro e w4 ⟨he, h4, kp4⟩
      exact ⟨he, h4, (K2.out.trans kp3).trans kp4⟩
  have HM := Lib.hid hmid; clear hmid
  go_wp2_with fail
  · go_still_tail 7, (by kernel_rfl)
    change wpList _ _ _ _ _ w2.drew
    have hbd : Below w2.heap.size w2 w2.drew := (Below.refl _ _).drew
    have hH : (⟨#[35]⟩ : ByteArray).toList ++ t.toList = Pts.paramHead t.toList o.toList := by
      rw [list_mk, Pts.paramHead, if_pos (by simpa using ‹(o.toList == [108, 101, 110]) = true›)]
    have H2d := Lib.hid (H2.out.below S hbd)
    go_wp2_with fail
    refine (H2d.out.put S (⟨#[35]⟩ ++ t) (by rw [size_app, size_lit [35]]; have := HL.out; have hl1 := Pts.len_list t; have hl2 := Pts.len_list o; simp; omega)).mono ?_
    rintro e w3 ⟨rfl, h3, kp3⟩
    rw [append_list, hH] at h3
    obtain ⟨hp3, e33, hall⟩ := HM.out w3 h3 ((Kp.of_below hbd).trans kp3)
    have hx3 : bx < w3.heap.size := Nat.lt_of_lt_of_le hx2 ((Kp.of_below (B := B) (X := Xp b bp) hbd).trans kp3).size
    have HA := Lib.hid hall; clear hall h3 hp3
    go_wp2_with fail
    refine HA.out.mono ?_
    rintro e w4 ⟨rfl, h4, kp4⟩
    have hc0 := h4.cell0
    have hb4 := h4.prt.lt
    have H4 := Lib.hid h4; clear h4
    go_wp2_with fail
    refine (H4.out.put S ⟨#[125]⟩ (by rw [size_lit [125]]; have := HL.out; have hl1 := Pts.len_list t; have hl2 := Pts.len_list o; have hl := Pts.paramHead_len t.toList o.toList; have hk := Pts.shw_len kids cs; simp only [List.length_append, List.length_cons, List.length_nil]; omega)).mono ?_
    rintro e w5 ⟨rfl, h5, kp5⟩
    rw [list_mk [125]] at h5
    go_wp2_with fail
    go_end0
    refine ⟨rfl, ?_, kp4.trans kp5⟩
    simp only [List.append_assoc, List.cons_append, List.nil_append] at h5 ⊢
    exact h5
  · go_still_tail 9, (by kernel_rfl)
    change wpList _ _ _ _ _ w2.drew
    have hbd : Below w2.heap.size w2 w2.drew := (Below.refl _ _).drew
    have hH : t.toList ++ o.toList = Pts.paramHead t.toList o.toList := by
      rw [Pts.paramHead, if_neg (by simpa using ‹(o.toList == [108, 101, 110]) = false›)]
    have H2d := Lib.hid (H2.out.below S hbd)
    go_wp2_with fail
    refine (H2d.out.put S (t ++ o) (by rw [size_app]; have := HL.out; have hl1 := Pts.len_list t; have hl2 := Pts.len_list o; simp; omega)).mono ?_
    rintro e w3 ⟨rfl, h3, kp3⟩
    rw [append_list, hH] at h3
    obtain ⟨hp3, e33, hall⟩ := HM.out w3 h3 ((Kp.of_below hbd).trans kp3)
    have hx3 : bx < w3.heap.size := Nat.lt_of_lt_of_le hx2 ((Kp.of_below (B := B) (X := Xp b bp) hbd).trans kp3).size
    have HA := Lib.hid hall; clear hall h3 hp3
    go_wp2_with fail
    refine HA.out.mono ?_
    rintro e w4 ⟨rfl, h4, kp4⟩
    have hc0 := h4.cell0
    have hb4 := h4.prt.lt
    have H4 := Lib.hid h4; clear h4
    go_wp2_with fail
    refine (H4.out.put S ⟨#[125]⟩ (by rw [size_lit [125]]; have := HL.out; have hl1 := Pts.len_list t; have hl2 := Pts.len_list o; have hl := Pts.paramHead_len t.toList o.toList; have hk := Pts.shw_len kids cs; simp only [List.length_append, List.length_cons, List.length_nil]; omega)).mono ?_
    rintro e w5 ⟨rfl, h5, kp5⟩
    rw [list_mk [125]] at h5
    go_wp2_with fail
    go_end0
    refine ⟨rfl, ?_, kp4.trans kp5⟩
    simp only [List.append_assoc, List.cons_append, List.nil_append] at h5 ⊢
    exact h5
end Go.Proofs.Ytpefkhbejjndeaa
