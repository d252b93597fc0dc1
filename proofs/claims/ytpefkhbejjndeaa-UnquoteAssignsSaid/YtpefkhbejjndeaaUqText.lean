/- unquote.Text: walked. -/
import Derived.Test.YtpefkhbejjndeaaBuilder
import Derived.Test.YtpefkhbejjndeaaPtsMem
import Derived.Test.YtpefkhbejjndeaaRefParam
import Derived.Test.YtpefkhbejjndeaaWordCmd
import Derived.Outline
namespace Go.Proofs.Ytpefkhbejjndeaa
open Go.RowKit

/-- A word without quotes: its text, if it has one. -/
def Pts.utx : Pts → Option (List UInt8)
  | .nil => some []
  | .cons k t _ kids _ r => if k = 1 ∨ k = 2 ∨ k = 3 then r.utx.map (t.toList ++ ·) else if k = 4 then kids.utx.bind fun s => r.utx.map (s ++ ·) else none
theorem Pts.utx_len : ∀ (l : Pts) (s : List UInt8), l.utx = some s → s.length ≤ l.wt
  | .nil, s, h => by simp [Pts.utx] at h; subst h; simp
  | .cons k t o kids cm r, s, h => by
    unfold Pts.utx at h
    rw [Pts.wt]
    by_cases h1 : k = 1 ∨ k = 2 ∨ k = 3
    · rw [if_pos h1] at h
      cases hr : r.utx with
      | none => rw [hr] at h; simp at h
      | some x =>
        rw [hr] at h
        simp at h
        have := Pts.utx_len r x hr
        rw [← h, List.length_append, ← size_list]
        omega
    · rw [if_neg h1] at h
      by_cases h4 : k = 4
      · rw [if_pos h4] at h
        cases hk : kids.utx with
        | none => rw [hk] at h; simp at h
        | some y =>
          rw [hk] at h
          cases hr : r.utx with
          | none => rw [hr] at h; simp at h
          | some x =>
            rw [hr] at h
            simp at h
            have := Pts.utx_len r x hr
            have := Pts.utx_len kids y hk
            rw [← h, List.length_append]
            omega
      · rw [if_neg h4] at h; cases h
theorem heap_alloc_t (w : World) (o : Obj) : (w.alloc o).heap[w.heap.size]? = some o := Array.getElem?_push_size
theorem hd_sb : Hd 67 0 := ⟨by kernel_rfl, by decide⟩

set_option maxRecDepth 100000 in
set_option maxHeartbeats 8000000 in
theorem utext_any (B b : Nat) : ∀ (n : Nat) (l : Pts) (G : Nat → Prop) (A : Option Addr) (c : Nat) (acc : List UInt8) (w : World), l.deep < n → l.wt ≤ 1073741824 → acc.length + l.wt ≤ 1099511627776 → Gd B (· = b) w G → IsB 67 B b [] acc w → B ≤ w.heap.size → PtsAt G w A 0 l →
    Calls Try.prog 65 #[.pointer (some ⟨b, 0, none⟩), .slice A l.len c] w fun e w' => e = .returned (.bool l.utx.isSome) ∧ (∀ s, l.utx = some s → IsB 67 B b [] (acc ++ s) w') ∧ Kp B (· = b) w w' := by
  intro n
  induction n with
  | zero => intro l _ _ _ _ _ h; omega
  | succ n ih =>
    intro l G A c acc w hd hwt hal hG hI hB hp
    have hlw := Pts.len_wt l
    have IH := Lib.hid ih; have HG := Lib.hid hG; have HI := Lib.hid hI; have HP := Lib.hid hp
    clear ih hG hI hp
    go_enter Try.func65, Try.ntmps65
    go_wp2
    go_loopw [9] (fun i wr => ∃ (k : Nat) (pre : List UInt8), k ≤ l.len ∧ i = .int .i64 k ∧ l.utx = (l.drop k).utx.map (pre ++ ·) ∧ pre.length + (l.drop k).wt ≤ l.wt ∧ IsB 67 B b [] (acc ++ pre) wr ∧ Kp B (· = b) w wr) (fun i _ => l.len - (intOf i).toNat)
    case atStart => exact ⟨0, [], by omega, rfl, by rw [Pts.drop_zero]; cases l.utx <;> simp, by rw [Pts.drop_zero]; simp, by rw [List.append_nil]; exact HI.out, Kp.refl _ _ _⟩
    case round =>
      obtain ⟨k, pre, hk, rfl, hf, hl0, hi, hkp⟩ := hrel
      have HF := Lib.hid hf; have HL := Lib.hid hl0; have HIR := Lib.hid hi; have HKR := Lib.hid hkp
      clear hf hi hkp
      by_cases hlt : k < l.len
      · obtain ⟨pk, t, o, kids, cm, r, hdr⟩ := Pts.drop_cons k l hlt
        have hp' := (HP.out.keep fun p hp => HG.out.cell HKR.out p hp).at_ k
        rw [hdr, Nat.zero_add] at hp'
        obtain ⟨bb, off, Ak, ck, rfl, hg, c0, c1, c2, c3, c4, hl, h1, h2⟩ := hp'
        have hwd := hl0
        rw [hdr, Pts.wt] at hwd
        have hkd := Pts.deep_drop k l hdr
        have HD := Lib.hid hdr; clear hdr hl h2 hl0
        have HK1 := Lib.hid h1; clear h1
        unfold Cm.val at c4
        have hX : Below wr.heap.size wr (wr.alloc (.cells #[.int .i64 pk, .string t, .string o, .slice Ak kids.len ck, .slice cm.a cm.n cm.c] 41)) := (Below.refl _ _).alloc (Nat.le_refl _) _
        have HIX := Lib.hid (HIR.out.keep hX)
        cases m1 : (pk == 1)
        · cases m2 : (pk == 2)
          · cases m3 : (pk == 3)
            · have h123 : ¬ (pk = 1 ∨ pk = 2 ∨ pk = 3) := by
                have a1 := beq_eq_false_iff_ne.1 m1; have a2 := beq_eq_false_iff_ne.1 m2; have a3 := beq_eq_false_iff_ne.1 m3
                omega
              have H123 := Lib.hid h123
              clear h123
              cases m4 : (pk == 4)
              · have HN4 := Lib.hid (show ¬ pk = 4 from beq_eq_false_iff_ne.1 m4)
                have HKX := Lib.hid (HKR.out.trans (.of_below hX))
                clear hX
                go_wp2_with fail
                go_ret
                have hno : l.utx = none := by rw [HF.out, HD.out, Pts.utx, if_neg H123.out, if_neg HN4.out]; rfl
                exact ⟨ret_bool (by rw [hno]; rfl), (fun s hs => by rw [hno] at hs; cases hs), HKX.out⟩
              · have H4 := Lib.hid (show pk = 4 from by simpa using m4)
                have hkx := HKR.out.trans (.of_below hX)
                have HKX := Lib.hid hkx
                have HGX := Lib.hid (HG.out.keep hkx)
                have hbx : B ≤ (wr.alloc (.cells #[.int .i64 pk, .string t, .string o, .slice Ak kids.len ck, .slice cm.a cm.n cm.c] 41)).heap.size := by have := hX.size; have := HKR.out.size; omega
                have HPX := Lib.hid (HK1.out.keep fun p hp => World.cell?_of_block (hX.block _ ((HG.out.keep HKR.out) _ hp).1))
                have hall : (acc ++ pre).length + kids.wt ≤ 1099511627776 := by rw [List.length_append]; omega
                clear hX hkx
                go_wp2_with fail
                refine (IH.out kids G Ak ck (acc ++ pre) _ (by omega) (by omega) hall HGX.out HIX.out hbx HPX.out).mono ?_
                rintro e w1 ⟨he, hi1, hk1⟩
                have HK2 := Lib.hid (HKX.out.trans hk1)
                have HI1 := Lib.hid hi1
                clear hk1 hi1
                cases hku : kids.utx with
                | none =>
                  rw [hku] at he
                  subst he
                  have HU := Lib.hid hku
                  simp only [Option.isSome_none]
                  go_wp2_with fail
                  go_ret
                  have hno : l.utx = none := by rw [HF.out, HD.out, Pts.utx, if_neg H123.out, if_pos H4.out, HU.out]; rfl
                  exact ⟨ret_bool (by rw [hno]; rfl), (fun s hs => by rw [hno] at hs; cases hs), HK2.out⟩
                | some sk =>
                  rw [hku] at he
                  subst he
                  have HU := Lib.hid hku
                  simp only [Option.isSome_some]
                  go_wp2_with fail
                  go_roundw
                  case rel =>
                    refine ⟨k + 1, pre ++ sk, by omega, by go_num, ?_, ?_, by rw [← List.append_assoc]; exact HI1.out sk HU.out, HK2.out⟩
                    · have h := HF.out
                      rw [HD.out, Pts.utx, if_neg H123.out, if_pos H4.out, HU.out] at h
                      rw [Pts.drop_succ k l HD.out, h]
                      cases r.utx <;> simp
                    · rw [Pts.drop_succ k l HD.out, List.length_append]
                      have h5 := Pts.utx_len kids sk HU.out
                      have := HL.out
                      rw [HD.out, Pts.wt] at this
                      omega
                  case measure => simp only [intOf]; omega
            · have HM := Lib.hid (show pk = 1 ∨ pk = 2 ∨ pk = 3 from .inr (.inr (by simpa using m3)))
              go_wp2_with fail
              refine (writeString_any hd_sb (acc ++ pre) t _ HIX.out (by rw [List.length_append]; omega) (by have := hX.size; have := HKR.out.size; omega)).mono ?_
              rintro e w1 ⟨rfl, hw1, hk1⟩
              have HW1 := Lib.hid (show IsB 67 B b [] (acc ++ pre ++ t.toList) w1 from .inr hw1)
              have HK1 := Lib.hid ((HKR.out.trans (.of_below hX)).trans hk1)
              clear hw1 hk1 hX
              go_wp2_with fail
              go_roundw
              case rel =>
                refine ⟨k + 1, pre ++ t.toList, by omega, by go_num, ?_, ?_, by rw [← List.append_assoc]; exact HW1.out, HK1.out⟩
                · have h := HF.out
                  rw [HD.out, Pts.utx, if_pos HM.out] at h
                  rw [Pts.drop_succ k l HD.out, h]
                  cases r.utx <;> simp
                · rw [Pts.drop_succ k l HD.out, List.length_append, ← size_list]
                  have := HL.out
                  rw [HD.out, Pts.wt] at this
                  omega
              case measure => simp only [intOf]; omega
          · have HM := Lib.hid (show pk = 1 ∨ pk = 2 ∨ pk = 3 from .inr (.inl (by simpa using m2)))
            go_wp2_with fail
            refine (writeString_any hd_sb (acc ++ pre) t _ HIX.out (by rw [List.length_append]; omega) (by have := hX.size; have := HKR.out.size; omega)).mono ?_
            rintro e w1 ⟨rfl, hw1, hk1⟩
            have HW1 := Lib.hid (show IsB 67 B b [] (acc ++ pre ++ t.toList) w1 from .inr hw1)
            have HK1 := Lib.hid ((HKR.out.trans (.of_below hX)).trans hk1)
            clear hw1 hk1 hX
            go_wp2_with fail
            go_roundw
            case rel =>
              refine ⟨k + 1, pre ++ t.toList, by omega, by go_num, ?_, ?_, by rw [← List.append_assoc]; exact HW1.out, HK1.out⟩
              · have h := HF.out
                rw [HD.out, Pts.utx, if_pos HM.out] at h
                rw [Pts.drop_succ k l HD.out, h]
                cases r.utx <;> simp
              · rw [Pts.drop_succ k l HD.out, List.length_append, ← size_list]
                have := HL.out
                rw [HD.out, Pts.wt] at this
                omega
            case measure => simp only [intOf]; omega
        · have HM := Lib.hid (show pk = 1 ∨ pk = 2 ∨ pk = 3 from .inl (by simpa using m1))
          go_wp2_with fail
          refine (writeString_any hd_sb (acc ++ pre) t _ HIX.out (by rw [List.length_append]; omega) (by have := hX.size; have := HKR.out.size; omega)).mono ?_
          rintro e w1 ⟨rfl, hw1, hk1⟩
          have HW1 := Lib.hid (show IsB 67 B b [] (acc ++ pre ++ t.toList) w1 from .inr hw1)
          have HK1 := Lib.hid ((HKR.out.trans (.of_below hX)).trans hk1)
          clear hw1 hk1 hX
          go_wp2_with fail
          go_roundw
          case rel =>
            refine ⟨k + 1, pre ++ t.toList, by omega, by go_num, ?_, ?_, by rw [← List.append_assoc]; exact HW1.out, HK1.out⟩
            · have h := HF.out
              rw [HD.out, Pts.utx, if_pos HM.out] at h
              rw [Pts.drop_succ k l HD.out, h]
              cases r.utx <;> simp
            · rw [Pts.drop_succ k l HD.out, List.length_append, ← size_list]
              have := HL.out
              rw [HD.out, Pts.wt] at this
              omega
          case measure => simp only [intOf]; omega
      · have HE := Lib.hid (Pts.drop_end k l (by omega))
        go_wp2_with fail
        go_ret
        have hs : l.utx = some pre := by rw [HF.out, HE.out]; simp [Pts.utx]
        exact ⟨ret_bool (by rw [hs]; rfl), (fun s h => by rw [hs] at h; cases h; exact HIR.out), HKR.out⟩

set_option maxRecDepth 100000 in
set_option maxHeartbeats 2000000 in
theorem utext_p (l : Pts) (A : Option Addr) (c : Nat) (G : Nat → Prop) (w : World) (hwt : l.wt ≤ 1073741824) (hG : ∀ k, G k → k < w.heap.size) (hp : PtsAt G w A 0 l) :
    Calls Try.prog 33 #[.agg #[.slice A l.len c]] w fun e w' => e = .returned (.tuple #[bs (l.utx.getD []), .bool l.utx.isSome]) ∧ Below w.heap.size w w' := by
  generalize hW : (w.alloc (.cells #[.slice A l.len c] 33)).alloc (.cells #[.pointer none, .slice none 0 0] 67) = W
  have hbW : Below w.heap.size w W := by rw [← hW]; exact ((Below.refl _ _).alloc (Nat.le_refl _) _).alloc (by simp) _
  have q0 : W.cell? ⟨w.heap.size, 0, none⟩ = some (.slice A l.len c) := by rw [← hW]; simp
  have q1 : W.heap[w.heap.size + 1]? = some (.cells #[.pointer none, .slice none 0 0] 67 (0, 0)) := by
    rw [← hW]
    have := heap_alloc_t (w.alloc (.cells #[.slice A l.len c] 33)) (.cells #[.pointer none, .slice none 0 0] 67)
    simpa using this
  have hI : IsB 67 (w.heap.size + 1) (w.heap.size + 1) [] [] W := .inl ⟨Nat.le_refl _, _, q1, ⟨rfl, .inl ⟨rfl, rfl⟩⟩, by simp⟩
  have hsz : W.heap.size = w.heap.size + 2 := by rw [← hW]; simp
  have hgd : Gd (w.heap.size + 1) (· = w.heap.size + 1) W G := fun k hk => ⟨by have := hG k hk; omega, .inl (by have := hG k hk; omega)⟩
  have hpW := hp.old hG hbW
  have HT := Lib.hid (utext_any (w.heap.size + 1) (w.heap.size + 1) (l.deep + 1) l G A c [] W (by omega) hwt (by simp; omega) hgd hI (by omega) hpW)
  have HBW := Lib.hid hbW
  clear hI hsz hgd hpW hp hG q1 hbW
  go_enter Try.func33, Try.ntmps33
  go_wp2_with fail
  refine HT.out.mono ?_
  rintro e w1 ⟨he, hi1, hk1⟩
  have hb1 : Below w.heap.size w w1 := HBW.out.trans (hk1.below (by have := HBW.out.size; have : W.heap.size = w.heap.size + 2 := (by rw [← hW]; simp); omega) |>.mono (by omega))
  clear hW hk1
  cases hu : l.utx with
  | none =>
    rw [hu] at he
    subst he
    have HB1 := Lib.hid hb1
    have HU := Lib.hid hu
    clear hi1 hb1 hu
    simp only [Option.isSome_none]
    go_wp2_with fail
    go_ret2
    exact ⟨by rw [HU.out]; rfl, HB1.out⟩
  | some s =>
    rw [hu] at he
    subst he
    have hi2 := hi1 s hu
    rw [List.nil_append] at hi2
    have HI := Lib.hid hi2; have HB1 := Lib.hid hb1; have HU := Lib.hid hu
    clear hi1 hi2 hb1 hu
    simp only [Option.isSome_some]
    go_wp2_with fail
    refine (builderString_any s _ HI.out).mono ?_
    rintro e w2 ⟨rfl, hk2⟩
    have HB2 := Lib.hid (HB1.out.trans ((hk2.below (by have := HI.out.lt; omega)).mono (by omega)))
    clear hk2
    go_wp2_with fail
    go_ret2
    exact ⟨by rw [HU.out]; rfl, HB2.out⟩
end Go.Proofs.Ytpefkhbejjndeaa
