/- wordfmt.printer.all: writes parts, whatever takes the text. -/
import Derived.Test.YtpefkhbejjndeaaWordParam
namespace Go.Proofs.Ytpefkhbejjndeaa
open Go.RowKit

section
variable {G : Nat → Prop} {B b bp : Nat} {ti : TypeId} {fi : FuncId} {Sk : List UInt8 → World → Prop} {acc : List UInt8} {cs : List (List UInt8)} {w w' : World}
theorem Prn.drew (S : Snk B b ti fi Sk) (h : Prn G B b bp ti Sk acc cs w) : Prn G B b bp ti Sk acc cs w.drew := h.below S (Below.refl _ _).drew
end

set_option maxRecDepth 100000 in
set_option maxHeartbeats 8000000 in
theorem all_step {G : Nat → Prop} {B b bp : Nat} {ti : TypeId} {fi : FuncId} {Sk : List UInt8 → World → Prop} (S : Snk B b ti fi Sk) (n : Nat) (IH : AllAt G B b bp ti Sk n) : AllAt G B b bp ti Sk (n + 1) := by
  intro l A c acc cs w hd h hp hlen
  have hme := S.meth
  have hen := S.enter
  have hlw := Pts.len_wt l
  have HH := Lib.hid IH; clear IH
  have hgc := Lib.hid (fun (w' : World) (kp : Kp B (Xp b bp) w w') => hp.keep fun p hG => h.gd.cell kp p hG)
  go_enter Try.func60, Try.ntmps60
  go_wp2_with fail
  go_loopw [8] (fun i wr => ∃ (k : Nat) (acc' : List UInt8) (cs' : List (List UInt8)), k ≤ l.len ∧ i = .int .i64 k ∧ Prn G B b bp ti Sk acc' cs' wr ∧ Kp B (Xp b bp) w wr ∧
      acc' ++ ((l.drop k).shw cs').1 = acc ++ (l.shw cs).1 ∧ ((l.drop k).shw cs').2 = (l.shw cs).2 ∧ acc'.length + 6 * (l.drop k).wt + Pts.total cs' ≤ acc.length + 6 * l.wt + Pts.total cs) (fun i _ => l.len - (intOf i).toNat)
  case atStart => exact ⟨0, acc, cs, by omega, rfl, h, Kp.refl _ _ _, by rw [Pts.drop_zero], by rw [Pts.drop_zero], by rw [Pts.drop_zero]; omega⟩
  case round =>
    obtain ⟨k, acc', cs', hk, rfl, hpr, hkp, ht, hcs, hln⟩ := hrel
    by_cases hlt : k < l.len
    · obtain ⟨pk, t, o, kids, cm, r, hdr⟩ := Pts.drop_cons k l hlt
      have hp' := (hgc.out _ hkp).at_ k
      rw [hdr, Nat.zero_add] at hp'
      obtain ⟨pb, off, Ak, ck, rfl, hG, c0, c1, c2, c3, c4, hl, h1, h2⟩ := hp'
      unfold Cm.val at c4
      have hkd := Pts.deep_drop k l hdr
      have hbx := hpr.box S #[.int .i64 pk, .string t, .string o, .slice Ak kids.len ck, .slice cm.a cm.n cm.c] 41 (by decide)
      rw [hdr] at ht hcs hln
      have hc0 := hpr.cell0
      have hbp := hpr.prt.lt
      have hwd := Pts.wt_drop k l
      rw [hdr] at hwd
      simp only [Pts.wt] at hwd hln
      have hlt1 := Pts.len_list t
      have hrs := Pts.drop_succ k l hdr
      have kp1 : Kp B (Xp b bp) wr (wr.alloc (.cells #[.int .i64 pk, .string t, .string o, .slice Ak kids.len ck, .slice cm.a cm.n cm.c] 41)) := (Kp.refl _ _ _).alloc _
      have hp1 := h1.keep fun p hG => hpr.gd.cell kp1 p hG
      have hts : t.size ≤ 70368744177664 := by omega
      have s2 : ∀ W : World, (Op.stringOp .add ⟨#[92]⟩ t).run Try.prog W = .ok (.string (⟨#[92]⟩ ++ t)) W := fun W => run_string_add_sum W _ _ (by rw [size_lit [92]]; simp; omega)
      have s3 : ∀ W : World, (Op.stringOp .add ⟨#[39]⟩ t).run Try.prog W = .ok (.string (⟨#[39]⟩ ++ t)) W := fun W => run_string_add_sum W _ _ (by rw [size_lit [39]]; simp; omega)
      have s3' : ∀ W : World, (Op.stringOp .add (⟨#[39]⟩ ++ t) ⟨#[39]⟩).run Try.prog W = .ok (.string (⟨#[39]⟩ ++ t ++ ⟨#[39]⟩)) W := fun W => run_string_add_sum W _ _ (by rw [size_app, size_lit [39]]; simp; omega)
      have s7 : ∀ W : World, (Op.stringOp .add ⟨#[36, 40, 40]⟩ t).run Try.prog W = .ok (.string (⟨#[36, 40, 40]⟩ ++ t)) W := fun W => run_string_add_sum W _ _ (by rw [size_lit [36, 40, 40]]; simp; omega)
      have s7' : ∀ W : World, (Op.stringOp .add (⟨#[36, 40, 40]⟩ ++ t) ⟨#[41, 41]⟩).run Try.prog W = .ok (.string (⟨#[36, 40, 40]⟩ ++ t ++ ⟨#[41, 41]⟩)) W := fun W => run_string_add_sum W _ _ (by rw [size_app, size_lit [36, 40, 40], size_lit [41, 41]]; simp; omega)
      have hfin : ∀ (w3 : World) (a3 : List UInt8) (cs3 : List (List UInt8)), Prn G B b bp ti Sk (acc' ++ a3) cs3 w3 → Kp B (Xp b bp) (wr.alloc (.cells #[.int .i64 pk, .string t, .string o, .slice Ak kids.len ck, .slice cm.a cm.n cm.c] 41)) w3 → (Pts.cons pk t o kids cm r).shw cs' = (a3 ++ (r.shw cs3).1, (r.shw cs3).2) →
          a3.length + Pts.total cs3 ≤ 6 * (1 + t.size + o.size + cm.n + kids.wt) + Pts.total cs' →
          Prn G B b bp ti Sk (acc' ++ a3) cs3 w3 ∧ Kp B (Xp b bp) w w3 ∧ (acc' ++ a3) ++ ((l.drop (k + 1)).shw cs3).1 = acc ++ (l.shw cs).1 ∧ ((l.drop (k + 1)).shw cs3).2 = (l.shw cs).2 ∧
            (acc' ++ a3).length + 6 * (l.drop (k + 1)).wt + Pts.total cs3 ≤ acc.length + 6 * l.wt + Pts.total cs := fun w3 a3 cs3 h3 kp3 he hle => by
        rw [hrs]
        rw [he] at ht hcs
        refine ⟨h3, (hkp.trans kp1).trans kp3, by rw [List.append_assoc]; exact ht, hcs, ?_⟩
        rw [List.length_append]
        omega
      have HF := Lib.hid hfin; clear hfin
      have HN := Lib.hid hln; have HW := Lib.hid hwd; clear ht hcs hln hwd hdr hrs
      obtain ⟨b1, g1⟩ := hbx
      have HX := Lib.hid b1; have HG := Lib.hid g1; clear b1 g1
      have HP1 := Lib.hid hp1
      clear h1 h2 hp1 hpr hkp kp1
      have e0 : (wr.alloc (.cells #[.int .i64 pk, .string t, .string o, .slice Ak kids.len ck, .slice cm.a cm.n cm.c] 41)).cell? ⟨wr.heap.size, 0, none⟩ = some (.int .i64 pk) := by simp
      have e1 : (wr.alloc (.cells #[.int .i64 pk, .string t, .string o, .slice Ak kids.len ck, .slice cm.a cm.n cm.c] 41)).cell? ⟨wr.heap.size, 1, none⟩ = some (.string t) := by simp
      have e2 : (wr.alloc (.cells #[.int .i64 pk, .string t, .string o, .slice Ak kids.len ck, .slice cm.a cm.n cm.c] 41)).cell? ⟨wr.heap.size, 2, none⟩ = some (.string o) := by simp
      have e3 : (wr.alloc (.cells #[.int .i64 pk, .string t, .string o, .slice Ak kids.len ck, .slice cm.a cm.n cm.c] 41)).cell? ⟨wr.heap.size, 3, none⟩ = some (.slice Ak kids.len ck) := by simp
      have e4 : (wr.alloc (.cells #[.int .i64 pk, .string t, .string o, .slice Ak kids.len ck, .slice cm.a cm.n cm.c] 41)).cell? ⟨wr.heap.size, 4, none⟩ = some (.slice cm.a cm.n cm.c) := by simp
      have hl1 : wr.heap.size < (wr.alloc (.cells #[.int .i64 pk, .string t, .string o, .slice Ak kids.len ck, .slice cm.a cm.n cm.c] 41)).heap.size := by rw [size_alloc]; omega
      have hb1 := HX.out.prt.lt
      have hd0 := HX.out.cell0
      go_wp2_with fail
      all_goals
        revert HX HG HF HP1 e0 e1 e2 e3 e4 hl1 hb1 hd0
        generalize (wr.alloc (.cells #[.int .i64 pk, .string t, .string o, .slice Ak kids.len ck, .slice cm.a cm.n cm.c] 41)) = w1
        generalize wr.heap.size = bx
        intro HF HX HG HP1 e0 e1 e2 e3 e4 hl1 hb1 hd0
      · go_still_tail 6, (by kernel_rfl)
        change wpList _ _ _ _ _ w1.drew
        have hbd : Below w1.heap.size w1 w1.drew := (Below.refl _ _).drew
        have H2 := Lib.hid (HX.out.below S hbd)
        go_wp2_with fail
        refine (H2.out.put S t (by  have := HN.out; omega)).mono ?_
        rintro e w3 ⟨rfl, h3, kp3⟩
        have hkd : pk = 1 := by simpa using ‹(pk == 1) = true›
        have hf := HF.out w3 t.toList cs' h3 ((Kp.of_below hbd).trans kp3) (by subst hkd; simp [Pts.shw]) (by omega)
        go_wp2_with fail
        go_roundw
        case rel => exact ⟨k + 1, _, _, by omega, by go_num, hf⟩
        case measure => simp only [intOf]; omega
      · go_still_tail 7, (by kernel_rfl)
        change wpList _ _ _ _ _ w1.drew
        have hbd : Below w1.heap.size w1 w1.drew := (Below.refl _ _).drew
        have H2 := Lib.hid (HX.out.below S hbd)
        go_wp2_with fail
        refine (H2.out.put S (⟨#[92]⟩ ++ t) (by rw [size_app, size_lit [92]]; simp only [List.length_cons, List.length_nil]; have := HN.out; omega)).mono ?_
        rintro e w3 ⟨rfl, h3, kp3⟩
        have hkd : pk = 2 := by simpa using ‹(pk == 2) = true›
        have hf := HF.out w3 ([92] ++ t.toList) cs' (by simp only [append_list, list_mk] at h3 ⊢; exact h3) ((Kp.of_below hbd).trans kp3) (by subst hkd; simp [Pts.shw]) (by simp only [List.length_append, List.length_cons, List.length_nil]; omega)
        go_wp2_with fail
        go_roundw
        case rel => exact ⟨k + 1, _, _, by omega, by go_num, hf⟩
        case measure => simp only [intOf]; omega
      · go_still_tail 8, (by kernel_rfl)
        change wpList _ _ _ _ _ w1.drew
        have hbd : Below w1.heap.size w1 w1.drew := (Below.refl _ _).drew
        have H2 := Lib.hid (HX.out.below S hbd)
        go_wp2_with fail
        refine (H2.out.put S (⟨#[39]⟩ ++ t ++ ⟨#[39]⟩) (by rw [size_app, size_app, size_lit [39]]; simp only [List.length_cons, List.length_nil]; have := HN.out; omega)).mono ?_
        rintro e w3 ⟨rfl, h3, kp3⟩
        have hkd : pk = 3 := by simpa using ‹(pk == 3) = true›
        have hf := HF.out w3 ([39] ++ t.toList ++ [39]) cs' (by simp only [append_list, list_mk, List.append_assoc] at h3 ⊢; exact h3) ((Kp.of_below hbd).trans kp3) (by subst hkd; simp [Pts.shw]) (by simp only [List.length_append, List.length_cons, List.length_nil]; omega)
        go_wp2_with fail
        go_roundw
        case rel => exact ⟨k + 1, _, _, by omega, by go_num, hf⟩
        case measure => simp only [intOf]; omega
      · refine (HX.out.put S ⟨#[34]⟩ (by rw [size_lit [34]]; have := HN.out; simp only [List.length_cons, List.length_nil]; omega)).mono ?_
        rintro e w2 ⟨rfl, h2, kp2⟩
        rw [list_mk [34]] at h2
        have hp2 := HP1.out.keep fun p hG => HX.out.gd.cell kp2 p hG
        have e3 := (HG.out.cell kp2 ⟨bx, 3, none⟩ rfl).trans e3
        have hl2 : bx < w2.heap.size := (HG.out.keep kp2 bx rfl).1
        have hb2 := h2.prt.lt
        have H2 := Lib.hid h2; have HP2 := Lib.hid hp2; clear h2 hp2
        go_wp2_with fail
        refine (HH.out kids Ak ck _ _ w2 (by omega) H2.out HP2.out (by have := HN.out; simp only [List.length_append, List.length_cons, List.length_nil]; omega)).mono ?_
        rintro e w3 ⟨rfl, h3, kp3⟩
        have hd0 := h3.cell0
        have hb3 := h3.prt.lt
        have hsl := Pts.shw_len kids cs'
        have H3 := Lib.hid h3; clear h3
        go_wp2_with fail
        refine (H3.out.put S ⟨#[34]⟩ (by rw [size_lit [34]]; have := HN.out; simp only [List.length_append, List.length_cons, List.length_nil]; omega)).mono ?_
        rintro e w4 ⟨rfl, h4, kp4⟩
        rw [list_mk [34]] at h4
        have hkd : pk = 4 := by simpa using ‹(pk == 4) = true›
        have hf := HF.out w4 ([34] ++ (kids.shw cs').1 ++ [34]) (kids.shw cs').2 (by simpa only [List.append_assoc] using h4) ((kp2.trans kp3).trans kp4) (by subst hkd; simp [Pts.shw]) (by simp only [List.length_append, List.length_cons, List.length_nil]; omega)
        go_wp2_with fail
        go_roundw
        case rel => exact ⟨k + 1, _, _, by omega, by go_num, hf⟩
        case measure => simp only [intOf]; omega
      · refine (param_any S n HH.out pk t o kids Ak ck cm _ _ w1 (by omega) HX.out HP1.out (by have := HN.out; omega)).mono ?_
        rintro e w2 ⟨rfl, h2, kp2⟩
        have hsl := Pts.shw_len kids cs'
        have hpl := Pts.paramHead_len t.toList o.toList
        have hlo := Pts.len_list o
        have hkd : pk = 5 := by simpa using ‹(pk == 5) = true›
        have hf := HF.out w2 ([36, 123] ++ Pts.paramHead t.toList o.toList ++ (kids.shw cs').1 ++ [125]) (kids.shw cs').2 h2 kp2 (by subst hkd; simp [Pts.shw]) (by simp only [List.length_append, List.length_cons, List.length_nil]; omega)
        go_wp2_with fail
        go_roundw
        case rel => exact ⟨k + 1, _, _, by omega, by go_num, hf⟩
        case measure => simp only [intOf]; omega
      · refine (HX.out.cmd S (by have := HN.out; omega)).mono ?_
        rintro e w2 ⟨rfl, h2, kp2⟩
        have hkd : pk = 6 := by simpa using ‹(pk == 6) = true›
        have hf := HF.out w2 (Pts.cmdText cs') cs'.tail h2 kp2 (by subst hkd; simp [Pts.shw]) (by cases cs' with | nil => simp [Pts.cmdText, Pts.total]; omega | cons c0 c' => simp [Pts.cmdText, Pts.total]; omega)
        go_wp2_with fail
        go_roundw
        case rel => exact ⟨k + 1, _, _, by omega, by go_num, hf⟩
        case measure => simp only [intOf]; omega
      · go_still_tail 8, (by kernel_rfl)
        change wpList _ _ _ _ _ w1.drew
        have hbd : Below w1.heap.size w1 w1.drew := (Below.refl _ _).drew
        have H2 := Lib.hid (HX.out.below S hbd)
        go_wp2_with fail
        refine (H2.out.put S (⟨#[36, 40, 40]⟩ ++ t ++ ⟨#[41, 41]⟩) (by rw [size_app, size_app, size_lit [36, 40, 40], size_lit [41, 41]]; simp only [List.length_cons, List.length_nil]; have := HN.out; omega)).mono ?_
        rintro e w3 ⟨rfl, h3, kp3⟩
        have hkd : pk = 7 := by simpa using ‹(pk == 7) = true›
        have hf := HF.out w3 ([36, 40, 40] ++ t.toList ++ [41, 41]) cs' (by simp only [append_list, list_mk, List.append_assoc] at h3 ⊢; exact h3) ((Kp.of_below hbd).trans kp3) (by subst hkd; simp [Pts.shw]) (by simp only [List.length_append, List.length_cons, List.length_nil]; omega)
        go_wp2_with fail
        go_roundw
        case rel => exact ⟨k + 1, _, _, by omega, by go_num, hf⟩
        case measure => simp only [intOf]; omega
      · have hf := HF.out w1 [] cs' (by simpa using HX.out) (Kp.refl _ _ _) (by
          have h1 : ¬ pk = 1 := by simpa using ‹(pk == 1) = false›
          have h2 : ¬ pk = 2 := by simpa using ‹(pk == 2) = false›
          have h3 : ¬ pk = 3 := by simpa using ‹(pk == 3) = false›
          have h4 : ¬ pk = 4 := by simpa using ‹(pk == 4) = false›
          have h5 : ¬ pk = 5 := by simpa using ‹(pk == 5) = false›
          have h6 : ¬ pk = 6 := by simpa using ‹(pk == 6) = false›
          have h7 : ¬ pk = 7 := by simpa using ‹(pk == 7) = false›
          simp [Pts.shw, h1, h2, h3, h4, h5, h6, h7]) (by simp)
        go_roundw
        case rel => exact ⟨k + 1, _, _, by omega, by go_num, hf⟩
        case measure => simp only [intOf]; omega
    · have hdr := Pts.drop_end k l (by omega)
      rw [hdr] at ht hcs
      have HT := Lib.hid ht; have HC := Lib.hid hcs; clear ht hcs hln
      have HP := Lib.hid hpr; clear hpr
      have HK := Lib.hid hkp; clear hkp
      go_wp2_with fail
      go_end0
      have e1 := HT.out
      have e2 := HC.out
      simp only [Pts.shw, List.append_nil] at e1 e2
      have h3 := HP.out
      rw [e1, e2] at h3
      exact ⟨rfl, h3, HK.out⟩

theorem all_any {G : Nat → Prop} {B b bp : Nat} {ti : TypeId} {fi : FuncId} {Sk : List UInt8 → World → Prop} (S : Snk B b ti fi Sk) : ∀ n : Nat, AllAt G B b bp ti Sk n
  | 0 => fun _ _ _ _ _ _ h => absurd h (by omega)
  | n + 1 => all_step S n (all_any S n)
end Go.Proofs.Ytpefkhbejjndeaa
