/- What conchref24.Cmds answers. -/
import Derived.Test.YtjpopekmbmcggaaCmdsRow
import Derived.Test.YtjpopekmbmcggaaRefParam
import Derived.Test.YtjpopekmbmcggaaProgDeep
namespace Go.Proofs.Ytjpopekmbmcggaa
open Go.RowKit

attribute [local go_sem ↓] wp_append_wr

theorem Crow.joins {B B2 : Nat} {w : World} {v v2 : Value} {l m : List Cm} (h : Crow B w v l) (h2 : Crow B2 w v2 m) (hlen : l.length + m.length ≤ 1099511627776) (hB : B ≤ w.heap.size) :
    ∃ v' w', WrA Try.prog #[27, 27] 27 #[v, v2] w = .ok v' w' ∧ Crow B w' v' (l ++ m) ∧ w.grownBy w' v.ownBlock := by
  rcases h2.2 with ⟨rfl, hm⟩ | ⟨g, cap, cur, rfl, hg, hh, _⟩
  · obtain rfl : m = [] := List.eq_nil_of_length_eq_zero hm
    exact ⟨v, w, h.append_nil 0, by rw [List.append_nil]; exact h, ⟨rfl, rfl, rfl, Nat.le_refl _, fun _ _ _ => rfl⟩⟩
  · obtain ⟨v', w', hrun, hown, hgr, _⟩ := h.append m ⟨g, 0, none⟩ cap (fun j u hj => h2.cells j u hj) hlen hB
    exact ⟨v', w', hrun, hown, hgr⟩

set_option maxRecDepth 100000 in
set_option maxHeartbeats 1000000 in
theorem cmds_any : ∀ (n : Nat) (l : Pts) (G : Nat → Prop) (A : Option Addr) (c : Nat) (w : World), l.deep < n → l.wt ≤ 1073741824 → (∀ k, G k → k < w.heap.size) → PtsAt G w A 0 l →
    Calls Try.prog 8 #[.slice A l.len c] w fun e w' => ∃ v, e = .returned v ∧ Crow w.heap.size w' v l.cmds ∧ Below w.heap.size w w' := by
  intro n
  induction n with
  | zero => intro l _ _ _ _ h; omega
  | succ n ih =>
    intro l G A c w hd hwt hG hp
    have hlw := Pts.len_wt l
    have hcw := Pts.count_wt l
    have hcc := Pts.cmds_count l
    have IH := Lib.hid ih; clear ih
    have HG := Lib.hid hG; have HP := Lib.hid hp; clear hG hp
    go_enter Try.func8, Try.ntmps8
    go_wp2
    go_loopw [3, 4] (fun s i wr => ∃ (k : Nat) (done : List Cm), k ≤ l.len ∧ i = .int .i64 k ∧ Crow w.heap.size wr s done ∧ done ++ (l.drop k).cmds = l.cmds ∧ Below w.heap.size w wr) (fun _ i _ => l.len - (intOf i).toNat)
    case atStart => exact ⟨0, [], by omega, rfl, Crow.nothing, by rw [Pts.drop_zero]; rfl, Below.refl _ _⟩
    case round =>
      obtain ⟨k, done, hk, rfl, hr, hf, hb⟩ := hrel
      have hdl : done.length ≤ 1073741824 := by
        have := congrArg List.length hf
        rw [List.length_append] at this
        omega
      have HF := Lib.hid hf; have HB := Lib.hid hb; have HR := Lib.hid hr; clear hf hb hr
      by_cases hlt : k < l.len
      · obtain ⟨pk, t, o, kids, cm, r, hdr⟩ := Pts.drop_cons k l hlt
        have hp' := (HP.out.old HG.out HB.out).at_ k
        rw [hdr, Nat.zero_add] at hp'
        obtain ⟨b, off, Ak, ck, rfl, hg, c0, c1, c2, c3, c4, hl, h1, h2⟩ := hp'
        have hwd := Pts.wt_drop k l
        rw [hdr, Pts.wt] at hwd
        have hkw := Pts.count_wt kids
        have hkc := Pts.cmds_count kids
        have hkd := Pts.deep_drop k l hdr
        have hG' : ∀ g, G g → g < wr.heap.size := fun g hg => Nat.lt_of_lt_of_le (HG.out g hg) HB.out.size
        have HD := Lib.hid hdr; clear hdr h2
        have HK := Lib.hid h1
        have HGW := Lib.hid hG'
        have HGB := Lib.hid (HG.out b hg)
        clear h1 hG' hg
        unfold Cm.val at c4
        by_cases h6 : pk = 6
        · subst h6
          have hx := HR.out.below ((Below.refl _ _).alloc (Nat.le_refl _) (.cells #[.slice cm.a cm.n cm.c] 30))
          have hnew := word_cell (heap_alloc_new wr (.cells #[.slice cm.a cm.n cm.c] 30))
          obtain ⟨v1, w1, hrun1, hown1, hgr1, _⟩ := hx.append [cm] ⟨wr.heap.size, 0, none⟩ 1 (fun j u hj => by
            match j, hj with
            | 0, hj => simp only [List.map_cons, List.map_nil, List.getElem?_cons_zero, Option.some.injEq] at hj; subst hj; exact hnew
            | j + 1, hj => simp at hj) (by simp; omega) (by simp; have := HB.out.size; omega)
          rw [show [cm].length = 1 from rfl] at hrun1
          have hb1 : Below w.heap.size w w1 := (HB.out.alloc HB.out.size _).grown hgr1 (by simp; have := HB.out.size; omega) (fun g hg => (hx.lt hg).1)
          have q3 : w1.cell? ⟨b, off + k * 5 + 3, none⟩ = some (.slice Ak kids.len ck) := by
            have e1 := HB.out.cell (p := ⟨b, off + k * 5 + 3, none⟩) HGB.out
            have e2 := hb1.cell (p := ⟨b, off + k * 5 + 3, none⟩) HGB.out
            rw [e2, ← e1]
            exact c3
          have HK1 := Lib.hid (show PtsAt G w1 Ak 0 kids from HK.out.keep fun p hp => (hb1.cell (HG.out _ hp)).trans (HB.out.cell (HG.out _ hp)).symm)
          have HG1 := Lib.hid (show ∀ g, G g → g < w1.heap.size from fun g hg => Nat.lt_of_lt_of_le (HG.out g hg) hb1.size)
          have HO1 := Lib.hid hown1
          have HB1 := Lib.hid hb1
          clear hx hnew hown1 hgr1 hb1
          go_wp2_with fail
          refine (IH.out kids G Ak ck w1 (by omega) (by omega) HG1.out HK1.out).mono ?_
          rintro e w2 ⟨v2, rfl, hr2, hb2⟩
          have ho2 := HO1.out.below hb2
          obtain ⟨v3, w3, hrun3, hown3, hgr3⟩ := ho2.joins hr2 (by simp; omega) (Nat.le_trans HB1.out.size hb2.size)
          have HB3 := Lib.hid (((HB1.out.trans (hb2.mono HB1.out.size))).grown hgr3 (Nat.le_trans HB1.out.size hb2.size) (fun g hg => (ho2.lt hg).1))
          have HO3 := Lib.hid hown3
          clear hr2 hb2 ho2 hown3 hgr3 hrun1 q3 c0 c1 c2 c3 c4
          go_wp2
          go_roundw
          case rel =>
            refine ⟨k + 1, done ++ [cm] ++ kids.cmds, by omega, by go_num, HO3.out, ?_, HB3.out⟩
            rw [Pts.drop_succ k l HD.out, ← HF.out, HD.out, Pts.cmds, if_pos rfl]
            simp
          case measure => simp only [intOf]; omega
        · have hb6 : ((pk : Int) == 6) = false := by simpa using h6
          have H6 := Lib.hid h6
          clear h6
          go_wp2_with fail
          refine (IH.out kids G Ak ck wr (by omega) (by omega) HGW.out HK.out).mono ?_
          rintro e w2 ⟨v2, rfl, hr2, hb2⟩
          have ho2 := HR.out.below hb2
          obtain ⟨v3, w3, hrun3, hown3, hgr3⟩ := ho2.joins hr2 (by omega) (Nat.le_trans HB.out.size hb2.size)
          have HB3 := Lib.hid (((HB.out.trans (hb2.mono HB.out.size))).grown hgr3 (Nat.le_trans HB.out.size hb2.size) (fun g hg => (ho2.lt hg).1))
          have HO3 := Lib.hid hown3
          clear hr2 hb2 ho2 hown3 hgr3 c0 c1 c2 c3 c4
          go_wp2
          go_roundw
          case rel =>
            refine ⟨k + 1, done ++ kids.cmds, by omega, by go_num, HO3.out, ?_, HB3.out⟩
            rw [Pts.drop_succ k l HD.out, ← HF.out, HD.out, Pts.cmds, if_neg H6.out]
            simp
          case measure => simp only [intOf]; omega
      · go_wp2
        go_ret
        refine ⟨_, rfl, ?_, HB.out⟩
        have h := HF.out
        rw [Pts.drop_end k l (by omega), Pts.cmds, List.append_nil] at h
        rw [← h]
        exact HR.out

theorem cmds_r (l : Pts) (A : Option Addr) (c : Nat) (G : Nat → Prop) (w : World) (hwt : l.wt ≤ 1073741824) (hG : ∀ k, G k → k < w.heap.size) (hp : PtsAt G w A 0 l) :
    Calls Try.prog 8 #[.slice A l.len c] w fun e w' => ∃ v, e = .returned v ∧ Crow w.heap.size w' v l.cmds ∧ Below w.heap.size w w' := cmds_any (l.deep + 1) l G A c w (by omega) hwt hG hp
end Go.Proofs.Ytjpopekmbmcggaa
