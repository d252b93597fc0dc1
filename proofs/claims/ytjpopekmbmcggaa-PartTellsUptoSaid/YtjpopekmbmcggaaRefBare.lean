/- What conchref24.Bare makes: the parts without commands, in blocks of the call's own. -/
import Derived.Test.YtjpopekmbmcggaaBareRow
import Derived.Test.YtjpopekmbmcggaaProgDeep
import Derived.Deep.RegionHeld3
namespace Go.Proofs.Ytjpopekmbmcggaa
open Go.RowKit

/-- An append of one part to a row of the call's own, at a step of a region that draws its order. -/
theorem step_bro {ops : Array Oper} {o : Oper} {a : Act} {w : World} {K : Act → World → Prop} {Q : Exit → Act → World → Prop} {E : Prop} (hgd : o.guard = none) (s x : Operand)
    (ho : o.op = .call { callee := .builtin .append, args := #[s, x], argTypes := #[22, 22] }) (hty : o.type = 22)
    (B : Nat) (l : Pts) {v : Value} {ad : Addr} (hs : a.eval s = v) (hx : a.eval x = .slice (some ad) 1 1) (h : Bro B w v l) (k : Int) (t o' : ByteArray) (kids : Pts) (Ak : Option Addr) (ck : Nat) (hk : kids.len ≤ ck) (hkp : PtsAt (NewBut B w v) w Ak 0 kids)
    (hcs : w.heap[ad.block]? = some (.cells #[.int .i64 k, .string t, .string o', .slice Ak kids.len ck, .slice none 0 0] 37 (0, 0))) (had : ad = ⟨ad.block, 0, none⟩) (hlen : l.len + 1 ≤ 1099511627776) (hB : B ≤ w.heap.size)
    (hK : ∀ v' w', Bro B w' v' (l.app (.cons k t o' kids ⟨none, 0, 0⟩ .nil)) → Below B w w' → K (a.put o.dst v') w') :
    if Region.wanted o (yielded ops a.tmps) = true then Oper.wp Try.prog o a w K Q else E := by
  have hw : Region.wanted o (yielded ops a.tmps) = true := by simp [Region.wanted, hgd]
  rw [if_pos hw]
  obtain ⟨v', w', hr, h2, h3⟩ := h.append k t o' kids Ak ck hk hkp ad (fun j u hj => by
    obtain ⟨y0, y1, y2, y3, y4⟩ := box_cells hcs
    rw [had]
    match j, hj with
    | 0, hj => simp only [List.getElem?_cons_zero, Option.some.injEq] at hj; subst hj; exact y0
    | 1, hj => simp only [List.getElem?_cons_succ, List.getElem?_cons_zero, Option.some.injEq] at hj; subst hj; exact y1
    | 2, hj => simp only [List.getElem?_cons_succ, List.getElem?_cons_zero, Option.some.injEq] at hj; subst hj; exact y2
    | 3, hj => simp only [List.getElem?_cons_succ, List.getElem?_cons_zero, Option.some.injEq] at hj; subst hj; exact y3
    | 4, hj => simp only [List.getElem?_cons_succ, List.getElem?_cons_zero, Option.some.injEq] at hj; subst hj; exact y4
    | j + 5, hj => simp at hj) hlen hB
  unfold WrA at hr
  have hb : Below B w w' := (Below.refl _ _).grown h3 hB fun g hg => (Prow.lt h hg).1
  unfold Oper.wp execOp
  simp only [ho, hty, resolve, invoke, builtin, Sem.run_bind, Sem.run_pure, Result.andThen_ok, List.map_toArray, List.map_cons, List.map_nil, hs, hx, hr]
  exact hK v' w' h2 hb

set_option maxRecDepth 100000 in
set_option maxHeartbeats 4000000 in
theorem bareR_any : ∀ (n : Nat) (l : Pts) (G : Nat → Prop) (A : Option Addr) (c : Nat) (w : World), l.deep < n → l.wt ≤ 1073741824 → (∀ k, G k → k < w.heap.size) → PtsAt G w A 0 l →
    Calls Try.prog 17 #[.slice A l.len c] w fun e w' => ∃ A' c', e = .returned (.slice A' l.bare.len c') ∧ l.bare.len ≤ c' ∧ PtsAt (fun g => w.heap.size ≤ g ∧ g < w'.heap.size) w' A' 0 l.bare ∧ Below w.heap.size w w' := by
  intro n
  induction n with
  | zero => intro l _ _ _ _ h; omega
  | succ n ih =>
    intro l G A c w hd hwt hG hp
    have hlw := Pts.len_wt l
    have IH := Lib.hid ih; clear ih
    have HG := Lib.hid hG; have HP := Lib.hid hp; clear hG hp
    go_enter Try.func17, Try.ntmps17
    go_wp2
    go_loopw [3, 4] (fun s i wr => ∃ (k : Nat) (done : Pts), k ≤ l.len ∧ i = .int .i64 k ∧ Bro w.heap.size wr s done ∧ done.app (l.drop k).bare = l.bare ∧ done.len + (l.drop k).len = l.len ∧ Below w.heap.size w wr) (fun _ i _ => l.len - (intOf i).toNat)
    case atStart => exact ⟨0, .nil, by omega, rfl, Bro.nothing, by rw [Pts.drop_zero]; rfl, by rw [Pts.drop_zero]; simp [Pts.len], Below.refl _ _⟩
    case round =>
      obtain ⟨k, done, hk, rfl, hr, hf, hln, hb⟩ := hrel
      have HF := Lib.hid hf; have HB := Lib.hid hb; have HR := Lib.hid hr; have HLN := Lib.hid hln; clear hf hb hr hln
      by_cases hlt : k < l.len
      · obtain ⟨pk, t, o, kids, cm, r, hdr⟩ := Pts.drop_cons k l hlt
        have hp' := (HP.out.old HG.out HB.out).at_ k
        rw [hdr, Nat.zero_add] at hp'
        obtain ⟨b, off, Ak, ck, rfl, hg, c0, c1, c2, c3, c4, hl, h1, h2⟩ := hp'
        have hwd := Pts.wt_drop k l
        rw [hdr, Pts.wt] at hwd
        have hkd := Pts.deep_drop k l hdr
        have hdl : done.len ≤ 1073741824 := by have := HLN.out; omega
        have hS : ∀ X, Below w.heap.size w X → X.cell? ⟨b, off + k * 5, none⟩ = some (.int .i64 pk) ∧ X.cell? ⟨b, off + k * 5 + 1, none⟩ = some (.string t) ∧ X.cell? ⟨b, off + k * 5 + 2, none⟩ = some (.string o) ∧ X.cell? ⟨b, off + k * 5 + 3, none⟩ = some (.slice Ak kids.len ck) := fun X hX => by
          have e : ∀ i, X.cell? ⟨b, i, none⟩ = wr.cell? ⟨b, i, none⟩ := fun i => (hX.cell (p := ⟨b, i, none⟩) (HG.out b hg)).trans (HB.out.cell (p := ⟨b, i, none⟩) (HG.out b hg)).symm
          exact ⟨(e _).trans c0, (e _).trans c1, (e _).trans c2, (e _).trans c3⟩
        have hKP : ∀ X, Below w.heap.size w X → PtsAt G X Ak 0 kids := fun X hX => h1.keep fun p hp => (hX.cell (HG.out _ hp)).trans (HB.out.cell (HG.out _ hp)).symm
        have HGR := Lib.hid (show ∀ g, G g → g < wr.drew.heap.size from fun g hg => Nat.lt_of_lt_of_le (HG.out g hg) HB.out.size)
        have HSS := Lib.hid hS; have HKP := Lib.hid hKP
        have HD := Lib.hid hdr; clear hdr h2 h1 hS hKP hg c4 hl
        go_wp2_with fail
        go_region_held3 (fun X => X.cell? ⟨b, off + k * 5, none⟩ = some (.int .i64 pk) ∧ X.cell? ⟨b, off + k * 5 + 1, none⟩ = some (.string t) ∧ X.cell? ⟨b, off + k * 5 + 2, none⟩ = some (.string o) ∧ X.cell? ⟨b, off + k * 5 + 3, none⟩ = some (.slice Ak kids.len ck))
          (exact HSS.out _ (by first | exact hbb3 | exact hbb2 | exact HB.out.drew | exact hbb2.alloc hbb2.size _))
          (first
            | (go_at_call 17
               refine Calls.mono (IH.out kids G Ak ck wr.drew ?_ ?_ ?_ ?_) ?_
               · omega
               · omega
               · exact HGR.out
               · exact HKP.out _ HB.out.drew
               rintro e w2 ⟨A2, c2', rfl, hc2, hp2, hb2⟩
               dsimp only
               have hbr2 : Below wr.heap.size wr w2 := (Below.refl _ _).drew.trans hb2
               have hbb2 : Below w.heap.size w w2 := HB.out.trans (hbr2.mono HB.out.size)
               have HC2 := Lib.hid hc2; have HP2 := Lib.hid hp2; have HBR2 := Lib.hid hbr2; clear hc2 hp2 hb2 hbr2)
            | (refine step_bro (by rfl) _ _ (by rfl) (by rfl) w.heap.size done (ad := ⟨w2.heap.size, 0, none⟩) (by rfl) (by rfl) (HR.out.below (HBR2.out.alloc HBR2.out.size _)) pk t o kids.bare A2 c2' HC2.out ?_ (heap_alloc_new w2 _) rfl (by omega) (by simp; have := hbb2.size; omega) ?_
               · exact (HP2.out.keep fun p hp => World.cell?_of_block (Below.heap_alloc _ _ _ hp.2)).more fun g hg => ⟨Nat.le_trans HB.out.size hg.1, by simp; have := hg.2; omega, fun e => by have h5 := (Prow.lt HR.out e).2; have h6 : wr.heap.size ≤ g := hg.1; omega⟩
               intro v3 w3 hr3 hb3
               have hbb3 : Below w.heap.size w w3 := (hbb2.alloc hbb2.size _).trans hb3
               have HR3 := Lib.hid hr3; clear hr3 hb3))
        have HB3 := Lib.hid hbb3
        go_wp2
        go_roundw
        case rel =>
          refine ⟨k + 1, done.app (.cons pk t o kids.bare ⟨none, 0, 0⟩ .nil), by omega, by go_num, HR3.out, ?_, ?_, HB3.out⟩
          · rw [Pts.drop_succ k l HD.out, ← HF.out, HD.out, Pts.bare, Pts.app_app, Pts.app, Pts.app]
          · have := HLN.out
            rw [HD.out, Pts.len] at this
            rw [Pts.drop_succ k l HD.out, Pts.len_app, Pts.len, Pts.len]
            omega
        case measure => simp only [intOf]; omega
      · go_wp2
        go_ret
        have h := HF.out
        rw [Pts.drop_end k l (by omega), Pts.bare, Pts.app_nil] at h
        subst h
        obtain ⟨A', c', rfl, hl', hp'⟩ := HR.out.at_
        exact ⟨A', c', rfl, hl', hp', HB.out⟩

theorem bare_r (l : Pts) (A : Option Addr) (c : Nat) (G : Nat → Prop) (w : World) (hwt : l.wt ≤ 1073741824) (hG : ∀ k, G k → k < w.heap.size) (hp : PtsAt G w A 0 l) :
    Calls Try.prog 17 #[.slice A l.len c] w fun e w' => ∃ A' c', e = .returned (.slice A' l.bare.len c') ∧ l.bare.len ≤ c' ∧ PtsAt (fun g => w.heap.size ≤ g ∧ g < w'.heap.size) w' A' 0 l.bare ∧ Below w.heap.size w w' := bareR_any (l.deep + 1) l G A c w (by omega) hwt hG hp
end Go.Proofs.Ytjpopekmbmcggaa
