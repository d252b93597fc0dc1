/- Texts in one: GtR9c, GtR9d, GtR9e, GtTopP. -/
import Derived.Test.YtpidmmfjcghmeaaGreatTs11
import Derived.Deep.DeepCutAuto
import Derived.Deep.RegionHeld3
import Derived.Deep.RegionWith
namespace Go.Proofs.YtpidmmfjcghmeaaGreat
open Go.RowKit
attribute [local go_sem ↓] wp_append_wr

theorem GBox.gmo {G : Nat → Prop} {w : World} {b : Nat} {A0 : Option Addr} {c0 : Nat} {A1 : Option Addr} {c1 : Nat} {A2 : Option Addr} {c2 : Nat} {g : Gm} (h : GBox G w b A0 c0 A1 c1 A2 c2 g) : GmV (Old w) w [.slice A0 g.terms.length c0, .slice A1 g.nons.length c1, .slice A2 g.rules.length c2, .int .i64 g.start] g :=
  h.gm.keep (fun k hk => h.old k hk) fun _ _ => rfl
/-- A list is handed back. -/
def ListPost (w : World) (Q : List Int → Prop) (e : Ending) (w' : World) : Prop := (∃ v l, e = .returned v ∧ Ints w.heap.size w' v l ∧ Q l) ∧ Below w.heap.size w w'

set_option maxRecDepth 100000 in
set_option maxHeartbeats 4000000 in
theorem productive_r (G : Nat → Prop) (w : World) (vs : List Value) (g : Gm) (hG : ∀ k, G k → k < w.heap.size) (hg : GmV G w vs g) (hw : GW g):
    Calls Tryz.prog 39 #[ag vs] w fun e w' => ListPost w (fun l => l.length ≤ 1000 ∧ ∀ s, s ∈ l ↔ g.N s ∧ g.Prod s) e w' := by
  obtain ⟨A0, c0, A1, c1, A2, c2, rfl, hb, hx⟩ := GBox.start hG hg
  show Calls Tryz.prog 39 #[.agg #[.slice A0 g.terms.length c0, .slice A1 g.nons.length c1, .slice A2 g.rules.length c2, .int .i64 g.start]] w _
  generalize hW : w.alloc (.cells #[.slice A0 g.terms.length c0, .slice A1 g.nons.length c1, .slice A2 g.rules.length c2, .int .i64 g.start] 25) = W at *
  obtain ⟨x0, x1, x2, x3⟩ := hx.cells
  have HB := Lib.hid hb; have HX := Lib.hid hx; have HG := Lib.hid hG
  clear hb hx hG hg
  have h3 := check_r G; have h4 := fine9_r; have h5 := sort_r
  unfold ag at h3 h4 h5
  have H3 := Lib.hid h3; have H4 := Lib.hid h4; have H5 := Lib.hid h5; have HW := Lib.hid hw
  have htop := hw.top
  have hlr := Nat.le_trans hw.lr (show 300 ≤ 1000 by decide)
  obtain ⟨n, hn⟩ : ∃ n, n = g.top + 1 := ⟨_, rfl⟩
  have HNN := Lib.hid hn
  have hnb : n ≤ 241 := by omega
  clear h3 h4 h5 hw hn
  go_enter Tryz.func39, Tryz.ntmps39
  go_wp2_with fail
  refine (H3.out _ _ g HX.out.old HX.out.gm HW.out.fit).mono ?_
  rintro e w1 ⟨⟨z, rfl, hz⟩, hb1⟩
  have hz0 := hz.2 HW.out
  subst hz0
  clear hz
  have HX1 := Lib.hid (HX.out.on hb1)
  have HB1 := Lib.hid (HB.out.trans (hb1.mono HB.out.size))
  clear x0 x1 x2 x3 hb1
  obtain ⟨x0, x1, x2, x3⟩ := HX1.out.cells
  go_wp2
  go_loopw [3, 4] (fun o nv wr => ∃ (X : Nat) (l : List Int) (m : Int), nv = .int .i64 m ∧ Ints w1.heap.size wr o l ∧ LX l X n ∧ PSound g X ∧ (m = l.length → PClosed g X) ∧ Below w1.heap.size w1 wr) (fun o nv _ => 2 * (n - lenV o) + (if intOf nv = lenV o then 0 else 1))
  case atStart => exact ⟨0, [], -1, rfl, Nrow.nil _ _ _ _ _, LX.nil n, fun i hi => by simp at hi, fun h => absurd h (by simp), Below.refl _ _⟩
  case round =>
    obtain ⟨X, l, m, rfl, ho, hlx, hps, hpc, hb1⟩ := hrel
    obtain ⟨Ao, co, rfl⟩ := ho.shape
    have HO := Lib.hid ho; have HLX := Lib.hid hlx; have HP := Lib.hid hps; have HC := Lib.hid hpc; have HR := Lib.hid hb1
    have HXR := Lib.hid (HX1.out.on hb1)
    have hll := hlx.len
    clear x0 x1 x2 x3 ho hlx hps hpc hb1
    obtain ⟨x0, x1, x2, x3⟩ := HXR.out.cells
    by_cases hm : m = (l.length : Int)
    · have hm2 : (m != (l.length : Int)) = false := by simpa using hm
      have HIP := Lib.hid (isProd_of HP.out (HC.out hm))
      have HS := Lib.hid (H5.out (Old wr) wr _ g Ao l.length co l (fun _ h => h) HXR.out.gmo (by omega) HO.out.at_)
      have hsl := sortI_len l g.top
      have HQ := Lib.hid (show ∀ s, s ∈ sortI l g.top ↔ g.N s ∧ g.Prod s from fun s => by
        rw [mem_sortI]
        constructor
        · rintro ⟨h1, h2, h3⟩
          have h4 := (HLX.out.nat (show 0 ≤ s by omega)).1 h1
          have h5 := HIP.out.1 _ h4
          rwa [show ((s.toNat : Nat) : Int) = s by omega] at h5
        · rintro ⟨h1, h2⟩
          have h3 := HIP.out.2 s h1 h2
          have h4 : 1 ≤ s ∧ s ≤ (g.top : Int) := by unfold Gm.N at h1; omega
          exact ⟨(HLX.out.nat (by omega)).2 h3, h4⟩)
      clear hm
      go_wp2_with fail
      refine (HS.out).mono ?_
      rintro e w2 ⟨⟨v, rfl, hv⟩, hb2⟩
      have HV := Lib.hid (show Ints w.heap.size w2 v (sortI l g.top) from Nrow.lower hv (Nat.le_trans HB1.out.size HR.out.size))
      have HB2 := Lib.hid (HB1.out.trans ((HR.out.trans (hb2.mono HR.out.size)).mono HB1.out.size))
      obtain ⟨A9, c9, rfl⟩ := hv.shape
      clear hv hb2
      go_wp2_with fail
      go_ret
      exact ⟨⟨_, _, rfl, HV.out, by omega, HQ.out⟩, HB2.out⟩
    · have hm2 : (m != (l.length : Int)) = true := by simpa using hm
      have HM := Lib.hid hm
      clear hm
      go_wp2
      go_loopw [3, 5] (fun o iv wq => ∃ (k : Nat) (Y : Nat) (l2 : List Int), iv = .int .i64 k ∧ k ≤ g.rules.length ∧ Ints w1.heap.size wq o l2 ∧ LX l2 Y n ∧ PSound g Y ∧ l.length ≤ l2.length ∧ (l2.length = l.length → ∀ r ∈ g.rules.take k, fineB g Y r = true → Y.testBit r.1.toNat = true) ∧ Below w1.heap.size w1 wq) (fun _ iv _ => g.rules.length - (intOf iv).toNat)
      case atStart => exact ⟨0, X, l, rfl, by omega, HO.out, HLX.out, HP.out, Nat.le_refl _, fun _ => by simp, HR.out⟩
      case round =>
        obtain ⟨k, Y, l2, rfl, hk, ho, hlx, hps, hle, hcl, hb1⟩ := hrel
        obtain ⟨A3, c3, rfl⟩ := ho.shape
        have HO2 := Lib.hid ho; have HLX2 := Lib.hid hlx; have HP2 := Lib.hid hps; have HCL := Lib.hid hcl; have HR2 := Lib.hid hb1
        have HXk := Lib.hid (HX1.out.on hb1)
        have hll2 := hlx.len
        clear x0 x1 x2 x3 ho hlx hps hcl hb1
        obtain ⟨x0, x1, x2, x3⟩ := HXk.out.cells
        by_cases hlt : k < g.rules.length
        · obtain ⟨bb, off, Ak, ck, rfl, z0, z1, zi⟩ := HXk.out.rule hlt
          have hmem := List.getElem_mem hlt
          have HTK := Lib.hid (take_one hlt)
          have HKL := Lib.hid (HW.out.kn.left _ hmem)
          have HPS := Lib.hid (fun hf => psound_put HW.out.kn HP2.out hmem hf)
          have hold := HXk.out.old
          have p := fun Y' : Gr wr => Y'.calls ((has_r (Old wr) Y'.at_ A3 l2.length c3 l2 g.rules[k].1 (IntsAt.below (fun _ h => h) Y'.2 HO2.out.at_)).mono fun _ w' h => (⟨h.1, h.2 ▸ Below.refl _ _⟩ : _ ∧ Below Y'.at_.heap.size Y'.at_ w'))
          have q := fun Y' : Gr wr => Y'.calls (H4.out (Old wr) Y'.at_ _ g [.int .i64 g.rules[k].1, .slice Ak g.rules[k].2.length ck] g.rules[k] A3 l2.length c3 l2 Y n (fun j h => Nat.lt_of_lt_of_le h Y'.2.size) (GmV.below (fun _ h => h) Y'.2 HXk.out.gmo) (RuV.below (fun _ h => h) Y'.2 ((show RuV G wr _ g.rules[k] from ⟨_, rfl, zi⟩).keep hold (fun _ _ => rfl))) (by omega) (IntsAt.below (fun _ h => h) Y'.2 HO2.out.at_) HLX2.out)
          have HTL := Lib.hid (show (∀ r ∈ g.rules.take k, fineB g Y r = true → Y.testBit r.1.toNat = true) → (fineB g Y g.rules[k] = true → Y.testBit g.rules[k].1.toNat = true) → ∀ r ∈ g.rules.take (k + 1), fineB g Y r = true → Y.testBit r.1.toNat = true from fun h1 h2 r hr hf => by
            rw [HTK.out, List.mem_append, List.mem_singleton] at hr
            rcases hr with hr | rfl
            · exact h1 r hr hf
            · exact h2 hf)
          clear hmem zi hold
          revert p q HTL HPS HKL z0 z1
          generalize g.rules[k] = r
          obtain ⟨ra, rb⟩ := r
          dsimp only
          intro z0 z1 HKL HPS p q HTL
          obtain ⟨i, rfl⟩ := Int.eq_ofNat_of_zero_le (show 0 ≤ ra by have := HKL.out; unfold Gm.N at this; omega)
          have HIN := Lib.hid (show i < n by have := HKL.out; unfold Gm.N at this; have := HNN.out; omega)
          rw [Int.toNat_natCast] at HTL HPS
          have f0 := fun Y' : Gr wr => Y'.cell _ _ x0; have f1 := fun Y' : Gr wr => Y'.cell _ _ x1; have f2 := fun Y' : Gr wr => Y'.cell _ _ x2; have f3 := fun Y' : Gr wr => Y'.cell _ _ x3
          have e0 := fun Y' : Gr wr => Y'.cell _ _ z0; have e1 := fun Y' : Gr wr => Y'.cell _ _ z1
          have hne : Nonempty (Gr wr) := ⟨⟨_, Below.refl _ _⟩⟩
          have HMEM := Lib.hid (HLX2.out.iff i)
          obtain ⟨dm, hdm⟩ : ∃ dm, dm = decide ((i : Int) ∈ l2) := ⟨_, rfl⟩
          obtain ⟨df, hdf⟩ : ∃ df, df = fineB g Y ((i : Int), rb) := ⟨_, rfl⟩
          rw [← hdm] at p
          rw [← hdf] at q
          have HDM := Lib.hid hdm; have HDF := Lib.hid hdf
          clear hdm hdf
          go_wp2_with fail
          cases dm
          · cases df
            · refine wp_region_class (S := Gr wr) Gr.at_ (by kernel_rfl) (by kernel_rfl) (Gr.drew _) ?_
              repeat (go_big_quiet_step (first | (with_reducible exact p _) | (with_reducible exact q _)))
              refine wpQuiet_nil ?_
              rintro wz ⟨⟨wz', hY⟩, hY2⟩
              obtain rfl : wz = wz' := hY2
              have HOZ := Lib.hid (HO2.out.below hY)
              have HRZ := Lib.hid (HR2.out.trans (hY.mono HR2.out.size))
              have u0 := box_keep z0 hY
              have HXZ := Lib.hid (HXk.out.on hY)
              clear p q f0 f1 f2 f3 e0 e1 hne hY z0 z1 x0 x1 x2 x3
              have HN := Lib.hid (show l2.length = l.length → ∀ r ∈ g.rules.take (k + 1), fineB g Y r = true → Y.testBit r.1.toNat = true from fun h => HTL.out (HCL.out h) (fun h2 => by rw [← HDF.out] at h2; cases h2))
              go_wp2_with fail
              go_roundw
              case rel => exact ⟨k + 1, Y, l2, by go_num, by omega, HOZ.out, HLX2.out, HP2.out, hle, HN.out, HRZ.out⟩
              case measure => simp only [intOf]; omega
            · refine wp_region_class (S := Gr wr) Gr.at_ (by kernel_rfl) (by kernel_rfl) (Gr.drew _) ?_
              repeat (go_big_quiet_step (first | (with_reducible exact p _) | (with_reducible exact q _)))
              refine wpQuiet_nil ?_
              rintro wz ⟨⟨wz', hY⟩, hY2⟩
              obtain rfl : wz = wz' := hY2
              have HOZ := Lib.hid (HO2.out.below hY)
              have HRZ := Lib.hid (HR2.out.trans (hY.mono HR2.out.size))
              have u0 := box_keep z0 hY
              have HXZ := Lib.hid (HXk.out.on hY)
              clear p q f0 f1 f2 f3 e0 e1 hne hY z0 z1 x0 x1 x2 x3
              obtain ⟨x0, x1, x2, x3⟩ := HXZ.out.cells
              have HNM := Lib.hid (of_decide_eq_false HDM.out.symm)
              obtain ⟨v', w', hrun, ho', hb'⟩ := HOZ.out.push (i : Int) (by omega) HRZ.out.size
              have HO3 := Lib.hid ho'; have HR3 := Lib.hid (HRZ.out.trans hb')
              have HLX3 := Lib.hid (HLX2.out.put HNM.out HIN.out)
              have HP3 := Lib.hid (HPS.out HDF.out.symm)
              clear ho' hb'
              go_wp2_with fail
              go_roundw
              case rel => exact ⟨k + 1, Y ||| 2 ^ i, l2 ++ [(i : Int)], by go_num, by omega, HO3.out, HLX3.out, HP3.out, by rw [List.length_append]; omega, fun h => by rw [List.length_append, List.length_singleton] at h; omega, HR3.out⟩
              case measure => simp only [intOf]; omega
          · refine wp_region_class (S := Gr wr) Gr.at_ (by kernel_rfl) (by kernel_rfl) (Gr.drew _) ?_
            repeat (go_big_quiet_step (first | (with_reducible exact p _) | (with_reducible exact q _)))
            refine wpQuiet_nil ?_
            rintro wz ⟨⟨wz', hY⟩, hY2⟩
            obtain rfl : wz = wz' := hY2
            have HOZ := Lib.hid (HO2.out.below hY)
            have HRZ := Lib.hid (HR2.out.trans (hY.mono HR2.out.size))
            have u0 := box_keep z0 hY
            have HXZ := Lib.hid (HXk.out.on hY)
            clear p q f0 f1 f2 f3 e0 e1 hne hY z0 z1 x0 x1 x2 x3
            have HN := Lib.hid (show l2.length = l.length → ∀ r ∈ g.rules.take (k + 1), fineB g Y r = true → Y.testBit r.1.toNat = true from fun h => HTL.out (HCL.out h) (fun _ => HMEM.out.2 (of_decide_eq_true HDM.out.symm)))
            go_wp2_with fail
            go_roundw
            case rel => exact ⟨k + 1, Y, l2, by go_num, by omega, HOZ.out, HLX2.out, HP2.out, hle, HN.out, HRZ.out⟩
            case measure => simp only [intOf]; omega
        · have HF := Lib.hid (show (l.length : Int) = l2.length → PClosed g Y from fun h r hr => HCL.out (by omega) r (by rw [List.take_of_length_le (by omega)]; exact hr))
          go_wp2_with fail
          go_roundw
          case rel => exact ⟨Y, l2, l.length, rfl, HO2.out, HLX2.out, HP2.out, HF.out, HR2.out⟩
          case measure =>
            show 2 * (n - l2.length) + (if (l.length : Int) = (l2.length : Int) then 0 else 1) < 2 * (n - l.length) + (if m = (l.length : Int) then 0 else 1)
            rw [if_neg HM.out]
            split <;> omega
end Go.Proofs.YtpidmmfjcghmeaaGreat
namespace Go.Proofs.YtpidmmfjcghmeaaGreat
open Go.RowKit
attribute [local go_sem ↓] wp_append_wr

def CloB (X : Nat) (r : Int × List Int) : Prop := X.testBit r.1.toNat = true → Clo X r
theorem LX.one {i n : Nat} (h : i < n) : LX [(i : Int)] (2 ^ i) n := by
  have := (LX.nil n).put (i := i) (by simp) h
  rwa [Nat.zero_or] at this

set_option maxRecDepth 100000 in
set_option maxHeartbeats 4000000 in
theorem from_r (G : Nat → Prop) (w : World) (vs : List Value) (g : Gm) (hG : ∀ k, G k → k < w.heap.size) (hg : GmV G w vs g) (hk : g.Known) (hlr : g.rules.length ≤ 1000) (hlx : ∀ r ∈ g.rules, r.2.length ≤ 1000) (hl : g.top ≤ 1000):
    Calls Tryz.prog 97 #[ag vs] w fun e w' => ListPost w (fun l => l.length ≤ 1000 ∧ ∀ s, s ∈ l ↔ g.Reach s) e w' := by
  obtain ⟨A0, c0, A1, c1, A2, c2, rfl, hb, hx⟩ := GBox.start hG hg
  show Calls Tryz.prog 97 #[.agg #[.slice A0 g.terms.length c0, .slice A1 g.nons.length c1, .slice A2 g.rules.length c2, .int .i64 g.start]] w _
  generalize hW : w.alloc (.cells #[.slice A0 g.terms.length c0, .slice A1 g.nons.length c1, .slice A2 g.rules.length c2, .int .i64 g.start] 25) = W at *
  obtain ⟨x0, x1, x2, x3⟩ := hx.cells
  have HB := Lib.hid hb; have HX := Lib.hid hx; have HG := Lib.hid hG
  clear hb hx hG hg
  have h4 := has_r; have h5 := sort_r
  unfold ag at h5
  have H4 := Lib.hid h4; have H5 := Lib.hid h5; have HK := Lib.hid hk; have HLX := Lib.hid hlx
  obtain ⟨n, hn⟩ : ∃ n, n = g.top + 1 := ⟨_, rfl⟩
  have HNN := Lib.hid hn
  have hnb : n ≤ 1001 := by omega
  obtain ⟨i0, hi0⟩ : ∃ i0 : Nat, g.start = (i0 : Int) := by
    have := hk.st
    unfold Gm.N at this
    exact ⟨g.start.toNat, by omega⟩
  have hi0l : i0 < n := by have := hk.st; unfold Gm.N at this; omega
  have hbv : Below W.heap.size W (W.alloc (.cells #[.int .i64 g.start] 3)) := (Below.refl _ _).alloc (Nat.le_refl _) _
  have q := heap_alloc_t W (.cells #[.int .i64 g.start] 3)
  have hrow : Ints W.heap.size (W.alloc (.cells #[.int .i64 g.start] 3)) (.slice (some ⟨W.heap.size, 0, none⟩) 1 1) [g.start] :=
    ⟨[[.int .i64 g.start]], ⟨⟨rfl, rfl⟩, trivial⟩, rfl, .inr ⟨W.heap.size, 1, #[.int .i64 g.start], rfl, Nat.le_refl _, q, Nat.le_refl _, by unfold maxLen; omega, rfl, rfl⟩⟩
  have HROW := Lib.hid hrow; have HV := Lib.hid hbv
  have HLX0 := Lib.hid (show LX [g.start] (2 ^ i0) n by rw [hi0]; exact LX.one hi0l)
  have HI0 := Lib.hid hi0
  generalize hV : W.alloc (.cells #[.int .i64 g.start] 3) = V at *
  clear h4 h5 hk hlx hn hi0 hi0l hbv q hrow
  go_enter Tryz.func97, Tryz.ntmps97
  go_wp2
  go_loopw [3, 4] (fun o nv wr => ∃ (X : Nat) (l : List Int) (m : Int), nv = .int .i64 m ∧ Ints W.heap.size wr o l ∧ LX l X n ∧ (∀ i : Nat, X.testBit i = true → g.Reach i) ∧ X.testBit g.start.toNat = true ∧ (m = l.length → ∀ r ∈ g.rules, CloB X r) ∧ Below W.heap.size W wr) (fun o nv _ => 2 * (n - lenV o) + (if intOf nv = lenV o then 0 else 1))
  case atStart => exact ⟨2 ^ i0, [g.start], 0, rfl, HROW.out, HLX0.out, fun i hi => by
      rw [Nat.testBit_two_pow, decide_eq_true_iff] at hi
      subst hi
      rw [← HI0.out]
      exact .start, by rw [HI0.out, Int.toNat_natCast]; exact Nat.testBit_two_pow_self, fun h => absurd h (by simp), HV.out⟩
  case round =>
    obtain ⟨X, l, m, rfl, ho, hlx, hre, hst, hpc, hb1⟩ := hrel
    obtain ⟨Ao, co, rfl⟩ := ho.shape
    have HO := Lib.hid ho; have HLX1 := Lib.hid hlx; have HRE := Lib.hid hre; have HST := Lib.hid hst; have HC := Lib.hid hpc; have HR := Lib.hid hb1
    have HXR := Lib.hid (HX.out.on hb1)
    have hll := hlx.len
    clear x0 x1 x2 x3 ho hlx hre hst hpc hb1
    obtain ⟨x0, x1, x2, x3⟩ := HXR.out.cells
    by_cases hm : m = (l.length : Int)
    · have hm2 : (m != (l.length : Int)) = false := by simpa using hm
      have HIR := Lib.hid (isReach_of HRE.out HST.out (fun r hr h => HC.out hm r hr h))
      have HS := Lib.hid (H5.out (Old wr) wr _ g Ao l.length co l (fun _ h => h) HXR.out.gmo (by omega) HO.out.at_)
      have hsl := sortI_len l g.top
      have HQ := Lib.hid (show ∀ s, s ∈ sortI l g.top ↔ g.Reach s from fun s => by
        rw [mem_sortI]
        constructor
        · rintro ⟨h1, h2, h3⟩
          have h4 := (HLX1.out.nat (show 0 ≤ s by omega)).1 h1
          have h5 := HIR.out.1 _ h4
          rwa [show ((s.toNat : Nat) : Int) = s by omega] at h5
        · intro h1
          have h3 := HIR.out.2 s h1
          have h4 := Gm.mem_T_le (h1.sym HK.out)
          exact ⟨(HLX1.out.nat (by omega)).2 h3, h4⟩)
      clear hm
      go_wp2_with fail
      refine (HS.out).mono ?_
      rintro e w2 ⟨⟨v, rfl, hv⟩, hb2⟩
      have HV2 := Lib.hid (show Ints w.heap.size w2 v (sortI l g.top) from Nrow.lower hv (Nat.le_trans HB.out.size HR.out.size))
      have HB2 := Lib.hid (HB.out.trans ((HR.out.trans (hb2.mono HR.out.size)).mono HB.out.size))
      obtain ⟨A9, c9, rfl⟩ := hv.shape
      clear hv hb2
      go_wp2_with fail
      go_ret
      exact ⟨⟨_, _, rfl, HV2.out, by omega, HQ.out⟩, HB2.out⟩
    · have hm2 : (m != (l.length : Int)) = true := by simpa using hm
      have HM := Lib.hid hm
      clear hm
      go_wp2
      go_loopw [3, 5] (fun o iv wq => ∃ (k : Nat) (Y : Nat) (l2 : List Int), iv = .int .i64 k ∧ k ≤ g.rules.length ∧ Ints W.heap.size wq o l2 ∧ LX l2 Y n ∧ (∀ i : Nat, Y.testBit i = true → g.Reach i) ∧ Y.testBit g.start.toNat = true ∧ l.length ≤ l2.length ∧ (l2.length = l.length → ∀ r ∈ g.rules.take k, CloB Y r) ∧ Below W.heap.size W wq) (fun _ iv _ => g.rules.length - (intOf iv).toNat)
      case atStart => exact ⟨0, X, l, rfl, by omega, HO.out, HLX1.out, HRE.out, HST.out, Nat.le_refl _, fun _ => by simp, HR.out⟩
      case round =>
        obtain ⟨k, Y, l2, rfl, hk, ho, hlx, hre, hst, hle, hcl, hb1⟩ := hrel
        obtain ⟨A3, c3, rfl⟩ := ho.shape
        have HO2 := Lib.hid ho; have HLX2 := Lib.hid hlx; have HRE2 := Lib.hid hre; have HST2 := Lib.hid hst; have HCL := Lib.hid hcl; have HR2 := Lib.hid hb1
        have HXk := Lib.hid (HX.out.on hb1)
        have hll2 := hlx.len
        clear x0 x1 x2 x3 ho hlx hre hst hcl hb1
        obtain ⟨x0, x1, x2, x3⟩ := HXk.out.cells
        by_cases hlt : k < g.rules.length
        · obtain ⟨bb, off, Ak, ck, rfl, _, zw0, zw1, zwi⟩ := RusAt.at_ HX.out.hr hlt
          have HTK := Lib.hid (take_one hlt)
          have HMEM := Lib.hid (List.getElem_mem hlt)
          have HRL := Lib.hid (HLX.out _ HMEM.out)
          have HZ0 := Lib.hid zw0; have HZ1 := Lib.hid zw1; have HZI := Lib.hid zwi
          clear zw0 zw1 zwi
          revert HZI HTK HMEM HRL HZ0 HZ1
          generalize g.rules[k] = r
          obtain ⟨ra, rb⟩ := r
          dsimp only
          intro HTK HMEM HRL HZ0 HZ1 HZI
          have hrl := HRL.out
          have HRA := Lib.hid (show 0 ≤ ra by have := HK.out.left _ HMEM.out; unfold Gm.N at this; omega)
          have z0 := box_keep HZ0.out HR2.out; have z1 := box_keep HZ1.out HR2.out
          go_wp2
          go_loopw [3, 6] (fun o iv wz => ∃ (j : Nat) (Z : Nat) (l3 : List Int), iv = .int .i64 j ∧ j ≤ rb.length ∧ Ints W.heap.size wz o l3 ∧ LX l3 Z n ∧ (∀ i : Nat, Z.testBit i = true → g.Reach i) ∧ Z.testBit g.start.toNat = true ∧ l.length ≤ l3.length ∧ (l3.length = l.length → (∀ r ∈ g.rules.take k, CloB Z r) ∧ ∀ s ∈ rb.take j, Z.testBit s.toNat = true) ∧ Below W.heap.size W wz) (fun _ iv _ => rb.length - (intOf iv).toNat)
          case atStart => exact ⟨0, Y, l2, rfl, by omega, HO2.out, HLX2.out, HRE2.out, HST2.out, hle, fun h => ⟨HCL.out h, by simp⟩, HR2.out⟩
          case round =>
            obtain ⟨j, Z, l3, rfl, hj, ho, hlx, hre, hst, hle3, hcl, hb1⟩ := hrel
            obtain ⟨A5, c5, rfl⟩ := ho.shape
            have HO3 := Lib.hid ho; have HLX3 := Lib.hid hlx; have HRE3 := Lib.hid hre; have HST3 := Lib.hid hst; have HCL3 := Lib.hid hcl; have HR3 := Lib.hid hb1
            have HXz := Lib.hid (HX.out.on hb1)
            have hll3 := hlx.len
            clear x0 x1 x2 x3 ho hlx hre hst hcl z0 z1
            obtain ⟨x0, x1, x2, x3⟩ := HXz.out.cells
            have z0 := box_keep HZ0.out hb1; have z1 := box_keep HZ1.out hb1
            have hzi := IntsAt.below HX.out.old hb1 HZI.out
            clear hb1
            by_cases hjl : j < rb.length
            · obtain ⟨b6, o6, rfl, z6⟩ := IntsAt.get hzi hjl
              have hmem := List.getElem_mem hjl
              obtain ⟨si, hsi⟩ : ∃ si : Nat, rb[j] = (si : Int) := by
                rcases HK.out.right _ HMEM.out _ hmem with h | h
                · unfold Gm.T at h; exact ⟨rb[j].toNat, by omega⟩
                · unfold Gm.N at h; exact ⟨rb[j].toNat, by omega⟩
              have hsn : si < n := by
                have h2 := Gm.mem_T_le (HK.out.right _ HMEM.out _ hmem)
                have := HNN.out
                omega
              have HTJ := Lib.hid (take_one hjl)
              have HSTEP := Lib.hid (show g.Reach ra → g.Reach (si : Int) from fun h => hsi ▸ Gm.Reach.step HMEM.out h hmem)
              rw [hsi] at z6 HTJ
              have HD1 := Lib.hid (H4.out (Old wr) wr A5 l3.length c5 l3 ra HO3.out.at_)
              have HD2 := Lib.hid (H4.out (Old wr) wr A5 l3.length c5 l3 (si : Int) HO3.out.at_)
              have HM1 := Lib.hid (HLX3.out.nat HRA.out)
              have HM2 := Lib.hid (HLX3.out.iff si)
              clear hmem hsi hzi
              by_cases h1 : ra ∈ l3
              · rw [decide_eq_true h1] at HD1
                have HA := Lib.hid h1
                clear h1
                go_wp2_with fail
                refine (HD1.out).mono ?_
                rintro e w5 ⟨rfl, rfl⟩
                by_cases h2 : (si : Int) ∈ l3
                · rw [decide_eq_true h2] at HD2
                  have HA2 := Lib.hid h2
                  clear h2
                  go_wp2_with fail
                  refine (HD2.out).mono ?_
                  rintro e w6 ⟨rfl, rfl⟩
                  go_wp2_with fail
                  go_roundw
                  case rel =>
                    refine ⟨j + 1, Z, l3, by go_num, by omega, HO3.out, HLX3.out, HRE3.out, HST3.out, hle3, fun h => ⟨(HCL3.out h).1, fun s hs => ?_⟩, HR3.out⟩
                    rw [HTJ.out, List.mem_append, List.mem_singleton] at hs
                    rcases hs with hs | rfl
                    · exact (HCL3.out h).2 s hs
                    · rw [Int.toNat_natCast]; exact HM2.out.2 HA2.out
                  case measure => simp only [intOf]; omega
                · rw [decide_eq_false h2] at HD2
                  have HA2 := Lib.hid h2
                  clear h2
                  obtain ⟨v', w', hrun, ho', hb'⟩ := HO3.out.push (si : Int) (by omega) HR3.out.size
                  have HO7 := Lib.hid ho'; have HR7 := Lib.hid (HR3.out.trans hb')
                  have HLX7 := Lib.hid (HLX3.out.put HA2.out hsn)
                  have HRS := Lib.hid (HSTEP.out (by
                    have h5 := HRE3.out _ (HM1.out.1 HA.out)
                    have h6 := HRA.out
                    rwa [show ((ra.toNat : Nat) : Int) = ra by omega] at h5))
                  clear ho' hb'
                  go_wp2_with fail
                  refine (HD2.out).mono ?_
                  rintro e w6 ⟨rfl, rfl⟩
                  go_wp2_with fail
                  go_roundw
                  case rel =>
                    refine ⟨j + 1, Z ||| 2 ^ si, l3 ++ [(si : Int)], by go_num, by omega, HO7.out, HLX7.out, fun i hi => ?_, by rw [or_bit, HST3.out]; rfl, by rw [List.length_append]; omega, fun h => by rw [List.length_append, List.length_singleton] at h; omega, HR7.out⟩
                    rw [or_bit, Bool.or_eq_true, decide_eq_true_iff] at hi
                    rcases hi with hi | rfl
                    · exact HRE3.out i hi
                    · exact HRS.out
                  case measure => simp only [intOf]; omega
              · rw [decide_eq_false h1] at HD1
                have HCN := Lib.hid (show l3.length = l.length → ∀ r ∈ g.rules.take (k + 1), CloB Z r from fun h r hr => by
                  rw [HTK.out, List.mem_append, List.mem_singleton] at hr
                  rcases hr with hr | rfl
                  · exact (HCL3.out h).1 r hr
                  · exact fun hb => absurd (HM1.out.2 hb) h1)
                clear h1
                go_wp2_with fail
                refine (HD1.out).mono ?_
                rintro e w5 ⟨rfl, rfl⟩
                go_wp2_with fail
                go_roundw
                case rel => exact ⟨k + 1, Z, l3, by go_num, by omega, HO3.out, HLX3.out, HRE3.out, HST3.out, hle3, HCN.out, HR3.out⟩
                case measure => simp only [intOf]; omega
            · have HCN := Lib.hid (show l3.length = l.length → ∀ r ∈ g.rules.take (k + 1), CloB Z r from fun h r hr => by
                rw [HTK.out, List.mem_append, List.mem_singleton] at hr
                rcases hr with hr | rfl
                · exact (HCL3.out h).1 r hr
                · exact fun _ s hs => (HCL3.out h).2 s (by rw [List.take_of_length_le (by omega)]; exact hs))
              clear hzi
              go_wp2_with fail
              go_roundw
              case rel => exact ⟨k + 1, Z, l3, by go_num, by omega, HO3.out, HLX3.out, HRE3.out, HST3.out, hle3, HCN.out, HR3.out⟩
              case measure => simp only [intOf]; omega
        · have HF := Lib.hid (show (l.length : Int) = l2.length → ∀ r ∈ g.rules, CloB Y r from fun h r hr => HCL.out (by omega) r (by rw [List.take_of_length_le (by omega)]; exact hr))
          go_wp2_with fail
          go_roundw
          case rel => exact ⟨Y, l2, l.length, rfl, HO2.out, HLX2.out, HRE2.out, HST2.out, HF.out, HR2.out⟩
          case measure =>
            show 2 * (n - l2.length) + (if (l.length : Int) = (l2.length : Int) then 0 else 1) < 2 * (n - l.length) + (if m = (l.length : Int) then 0 else 1)
            rw [if_neg HM.out]
            split <;> omega
end Go.Proofs.YtpidmmfjcghmeaaGreat
namespace Go.Proofs.YtpidmmfjcghmeaaGreat
open Go.RowKit

theorem GW.lens {g : Gm} (h : GW g) : g.rules.length ≤ 1000 ∧ (∀ r ∈ g.rules, r.2.length ≤ 1000) ∧ g.top ≤ 1000 :=
  ⟨Nat.le_trans h.lr (by decide), fun r hr => Nat.le_trans (h.lx r hr) (by decide), Nat.le_trans h.top.1 (by decide)⟩

set_option maxRecDepth 100000 in
set_option maxHeartbeats 4000000 in
theorem reached_r (G : Nat → Prop) (w : World) (vs : List Value) (g : Gm) (hG : ∀ k, G k → k < w.heap.size) (hg : GmV G w vs g) (hw : GW g):
    Calls Tryz.prog 40 #[ag vs] w fun e w' => ListPost w (fun l => l.length ≤ 1000 ∧ ∀ s, s ∈ l ↔ g.Reach s) e w' := by
  obtain ⟨A0, c0, A1, c1, A2, c2, rfl, hb, hx⟩ := GBox.start hG hg
  show Calls Tryz.prog 40 #[.agg #[.slice A0 g.terms.length c0, .slice A1 g.nons.length c1, .slice A2 g.rules.length c2, .int .i64 g.start]] w _
  generalize hW : w.alloc (.cells #[.slice A0 g.terms.length c0, .slice A1 g.nons.length c1, .slice A2 g.rules.length c2, .int .i64 g.start] 25) = W at *
  obtain ⟨x0, x1, x2, x3⟩ := hx.cells
  have HB := Lib.hid hb; have HX := Lib.hid hx; have HG := Lib.hid hG
  clear hb hx hG hg
  have h3 := check_r G; have h4 := from_r G
  unfold ag at h3 h4
  have H3 := Lib.hid h3; have H4 := Lib.hid h4; have HW := Lib.hid hw
  clear h3 h4 hw
  go_enter Tryz.func40, Tryz.ntmps40
  go_wp2_with fail
  refine (H3.out _ _ g HX.out.old HX.out.gm HW.out.fit).mono ?_
  rintro e w1 ⟨⟨z, rfl, hz⟩, hb1⟩
  have hz0 := hz.2 HW.out
  subst hz0
  clear hz
  have HX1 := Lib.hid (HX.out.on hb1)
  have HB1 := Lib.hid (HB.out.trans (hb1.mono HB.out.size))
  clear x0 x1 x2 x3 hb1
  obtain ⟨x0, x1, x2, x3⟩ := HX1.out.cells
  go_wp2_with fail
  refine (H4.out _ _ g HX1.out.old HX1.out.gm HW.out.kn HW.out.lens.1 HW.out.lens.2.1 HW.out.lens.2.2).mono ?_
  rintro e w2 hp
  obtain ⟨⟨v, l, rfl, hv, hq⟩, hb2⟩ := hp
  obtain ⟨A, c, rfl⟩ := hv.shape
  have HV := Lib.hid (show Ints w.heap.size w2 (.slice A l.length c) l from Nrow.lower hv HB1.out.size)
  have HQ := Lib.hid hq
  have HB2 := Lib.hid (HB1.out.trans (hb2.mono HB1.out.size))
  clear hv hq hb2 x0 x1 x2 x3
  go_wp2_with fail
  go_ret
  exact ⟨⟨_, l, rfl, HV.out, HQ.out⟩, HB2.out⟩

/-- All of a grammar is of use. -/
def Live (g : Gm) : Prop := GW g ∧ ∀ s, g.T s ∨ g.N s → g.Reach s ∧ (g.N s → g.Prod s)
/-- What conchref09.Check hands back. -/
def CheckPost (g : Gm) (w : World) (e : Ending) (w' : World) : Prop := (∃ n s : Int, e = .returned (.tuple #[.int .i64 n, .int .i64 s]) ∧ (n = 0 ↔ Live g)) ∧ Below w.heap.size w w'

set_option maxRecDepth 100000 in
set_option maxHeartbeats 4000000 in
theorem check9_r (G : Nat → Prop) (w : World) (vs : List Value) (g : Gm) (hG : ∀ k, G k → k < w.heap.size) (hg : GmV G w vs g) (hf : g.Fit):
    Calls Tryz.prog 13 #[ag vs] w fun e w' => CheckPost g w e w' := by
  obtain ⟨A0, c0, A1, c1, A2, c2, rfl, hb, hx⟩ := GBox.start hG hg
  show Calls Tryz.prog 13 #[.agg #[.slice A0 g.terms.length c0, .slice A1 g.nons.length c1, .slice A2 g.rules.length c2, .int .i64 g.start]] w _
  generalize hW : w.alloc (.cells #[.slice A0 g.terms.length c0, .slice A1 g.nons.length c1, .slice A2 g.rules.length c2, .int .i64 g.start] 25) = W at *
  obtain ⟨x0, x1, x2, x3⟩ := hx.cells
  have HB := Lib.hid hb; have HX := Lib.hid hx; have HG := Lib.hid hG
  clear hb hx hG hg
  have h3 := check_r G; have h4 := has_r; have h5 := top_r G; have h6 := non_r G
  unfold ag at h3 h5 h6
  have H3 := Lib.hid h3; have H4 := Lib.hid h4; have H5 := Lib.hid h5; have H6 := Lib.hid h6; have HF := Lib.hid hf
  have htf : g.top ≤ 9223372036854775807 := by have := hf.lt; have := hf.ln; unfold Gm.top; omega
  have HTF := Lib.hid htf
  clear h3 h4 h5 h6 hf htf
  go_enter Tryz.func13, Tryz.ntmps13
  go_wp2_with fail
  refine (H3.out _ _ g HX.out.old HX.out.gm HF.out).mono ?_
  rintro e w1 ⟨⟨z, rfl, hz⟩, hb1⟩
  have HZ := Lib.hid hz
  clear hz
  have HX1 := Lib.hid (HX.out.on hb1)
  have HB1 := Lib.hid (HB.out.trans (hb1.mono HB.out.size))
  clear x0 x1 x2 x3 hb1
  obtain ⟨x0, x1, x2, x3⟩ := HX1.out.cells
  by_cases hz0 : z = 0
  case neg =>
    have HN := Lib.hid (show z = 0 ↔ Live g from ⟨fun h => absurd h hz0, fun h => HZ.out.2 h.1⟩)
    have hz1 : (z != 0) = true := by simpa using hz0
    go_wp2_with fail
    refine bodyPost_ret (v := .tuple #[.int .i64 z, .int .i64 0]) (by simp [results, Tryz.results13, go_sem]) rfl ?_
    exact ⟨⟨z, 0, rfl, HN.out⟩, HB1.out⟩
  have hw := HZ.out.1 hz0
  subst hz0
  have HW := Lib.hid hw
  have FP := Lib.hid (show ∀ X, Below w1.heap.size w1 X → Calls Tryz.prog 39 #[.agg #[.slice A0 g.terms.length c0, .slice A1 g.nons.length c1, .slice A2 g.rules.length c2, .int .i64 g.start]] X fun e w' => ∃ v l, e = .returned v ∧ Ints w1.heap.size w' v l ∧ (∀ s, s ∈ l ↔ g.N s ∧ g.Prod s) ∧ Below w1.heap.size w1 w' ∧ Below X.heap.size X w' from fun X hX =>
    (productive_r G X _ g (HX1.out.on hX).old (HX1.out.on hX).gm hw).mono fun e w' hp => by
      obtain ⟨⟨v, l, rfl, hv, hq⟩, hb⟩ := hp
      exact ⟨v, l, rfl, Nrow.lower hv hX.size, hq.2, hX.trans (hb.mono hX.size), hb⟩)
  have FQ := Lib.hid (show ∀ X, Below w1.heap.size w1 X → Calls Tryz.prog 40 #[.agg #[.slice A0 g.terms.length c0, .slice A1 g.nons.length c1, .slice A2 g.rules.length c2, .int .i64 g.start]] X fun e w' => ∃ v l, e = .returned v ∧ Ints w1.heap.size w' v l ∧ (∀ s, s ∈ l ↔ g.Reach s) ∧ Below w1.heap.size w1 w' ∧ Below X.heap.size X w' from fun X hX =>
    (reached_r G X _ g (HX1.out.on hX).old (HX1.out.on hX).gm hw).mono fun e w' hp => by
      obtain ⟨⟨v, l, rfl, hv, hq⟩, hb⟩ := hp
      exact ⟨v, l, rfl, Nrow.lower hv hX.size, hq.2, hX.trans (hb.mono hX.size), hb⟩)
  have HS := Lib.hid (fun X (hX : Below w1.heap.size w1 X) => (HX1.out.on hX).cells)
  clear hw
  go_wp2_with fail
  have R0 := Lib.hid (show Below w1.heap.size w1 w1.drew from (Below.refl _ _).drew)
  go_cut [5, 6] (fun v5 v6 wx => Below w1.heap.size w1 wx ∧ (∃ l, Ints w1.heap.size wx v5 l ∧ ∀ s, s ∈ l ↔ g.N s ∧ g.Prod s) ∧ ∃ l, Ints w1.heap.size wx v6 l ∧ ∀ s, s ∈ l ↔ g.Reach s)
  case first =>
    go_region_held3 (fun X => X.cell? ⟨w.heap.size, 0, none⟩ = some (.slice A0 g.terms.length c0) ∧ X.cell? ⟨w.heap.size, 1, none⟩ = some (.slice A1 g.nons.length c1) ∧ X.cell? ⟨w.heap.size, 2, none⟩ = some (.slice A2 g.rules.length c2) ∧ X.cell? ⟨w.heap.size, 3, none⟩ = some (.int .i64 g.start))
      (exact HS.out _ (by first | exact bQ | exact bP | exact R0.out))
      (first
        | (go_at_call 39
           refine Calls.mono (FP.out _ (by first | exact bQ | exact R0.out)) ?_
           rintro e wP ⟨vP, lP, rfl, rP, qP, bP, bP'⟩
           dsimp only)
        | (go_at_call 40
           refine Calls.mono (FQ.out _ (by first | exact bP | exact R0.out)) ?_
           rintro e wQ ⟨vQ, lQ, rfl, rQ, qQ, bQ, bQ'⟩
           dsimp only))
    all_goals
      go_wp2_with fail
      go_meet
      first
        | exact ⟨bQ, ⟨lP, rP.below bQ', qP⟩, lQ, rQ, qQ⟩
        | exact ⟨bP, ⟨lP, rP, qP⟩, lQ, rQ.below bP', qQ⟩
  case rest =>
    obtain ⟨bc, ⟨l5, i5, q5⟩, l6, i6, q6⟩ := hcut
    obtain ⟨A5, c5, rfl⟩ := i5.shape
    obtain ⟨A6, c6, rfl⟩ := i6.shape
    have HX2 := Lib.hid (HX1.out.on bc)
    have HB2 := Lib.hid (HB1.out.trans (bc.mono HB1.out.size))
    have HI5 := Lib.hid i5.at_; have HI6 := Lib.hid i6.at_; have HQ5 := Lib.hid q5; have HQ6 := Lib.hid q6
    have htop := HW.out.top.1
    have HSY := Lib.hid (show ∀ s : Int, 1 ≤ s → s ≤ (g.top : Int) → g.T s ∨ g.N s from fun s h1 h2 => by unfold Gm.T Gm.N; omega)
    clear bc i5 i6 q5 q6 x0 x1 x2 x3
    obtain ⟨x0, x1, x2, x3⟩ := HX2.out.cells
    go_wp2
    go_loopw [7] (fun iv wr => ∃ (k : Nat), k ≤ g.top ∧ iv = .int .i64 ((k : Int) + 1) ∧ (∀ s : Int, 1 ≤ s → s ≤ (k : Int) → g.Reach s ∧ (g.N s → g.Prod s)) ∧ Below wc.heap.size wc wr) (fun iv _ => g.top + 1 - (intOf iv).toNat)
    case atStart => exact ⟨0, by omega, by simp, fun s h1 h2 => by omega, Below.refl _ _⟩
    case round =>
      obtain ⟨k, hk, rfl, hi, hb1⟩ := hrel
      have HI := Lib.hid hi; have HR := Lib.hid hb1
      have HXR := Lib.hid (HX2.out.on hb1)
      clear x0 x1 x2 x3 hi hb1
      obtain ⟨x0, x1, x2, x3⟩ := HXR.out.cells
      go_wp2_with fail
      refine (H5.out _ _ g HXR.out.old HXR.out.gm HTF.out).mono ?_
      rintro e w3 ⟨rfl, hb1⟩
      have HR3 := Lib.hid (HR.out.trans (hb1.mono HR.out.size))
      have HXS := Lib.hid (HXR.out.on hb1)
      clear x0 x1 x2 x3 hb1
      obtain ⟨x0, x1, x2, x3⟩ := HXS.out.cells
      by_cases hlt : k < g.top
      · have hle : (k : Int) + 1 ≤ (g.top : Int) := by omega
        have HD6 := Lib.hid (H4.out (Old wc) w3 A6 l6.length c6 l6 ((k : Int) + 1) (IntsAt.below (fun _ h => h) HR3.out HI6.out))
        have HS1 := Lib.hid (HSY.out ((k : Int) + 1) (by omega) hle)
        by_cases h1 : (k : Int) + 1 ∈ l6
        · rw [decide_eq_true h1] at HD6
          have HRE := Lib.hid ((HQ6.out _).1 h1)
          clear h1
          go_wp2_with fail
          refine (HD6.out).mono ?_
          rintro e w4 ⟨rfl, rfl⟩
          have HC6 := Lib.hid (H6.out _ _ g ((k : Int) + 1) HXS.out.old HXS.out.gm HTF.out)
          by_cases h2 : g.N ((k : Int) + 1)
          · rw [decide_eq_true h2] at HC6
            have HN2 := Lib.hid h2
            clear h2
            go_wp2_with fail
            refine (HC6.out).mono ?_
            rintro e w5 ⟨rfl, hb1⟩
            have HR5 := Lib.hid (HR3.out.trans (hb1.mono HR3.out.size))
            have HD5 := Lib.hid (H4.out (Old wc) w5 A5 l5.length c5 l5 ((k : Int) + 1) (IntsAt.below (fun _ h => h) HR5.out HI5.out))
            clear x0 x1 x2 x3 hb1
            by_cases h3 : (k : Int) + 1 ∈ l5
            · rw [decide_eq_true h3] at HD5
              have HG1 := Lib.hid (show g.Reach ((k : Int) + 1) ∧ (g.N ((k : Int) + 1) → g.Prod ((k : Int) + 1)) from ⟨HRE.out, fun _ => ((HQ5.out _).1 h3).2⟩)
              clear h3
              go_wp2_with fail
              refine (HD5.out).mono ?_
              rintro e w6 ⟨rfl, rfl⟩
              go_wp2_with fail
              go_roundw
              case rel =>
                refine ⟨k + 1, by omega, by go_num, fun s h1 h2 => ?_, HR5.out⟩
                by_cases h3 : s = (k : Int) + 1
                · rw [h3]; exact HG1.out
                · exact HI.out s h1 (by omega)
              case measure => simp only [intOf]; omega
            · rw [decide_eq_false h3] at HD5
              have HN := Lib.hid (show (11 : Int) = 0 ↔ Live g from ⟨fun h => absurd h (by decide), fun h => absurd ((HQ5.out _).2 ⟨HN2.out, (h.2 _ HS1.out).2 HN2.out⟩) h3⟩)
              clear h3
              go_wp2_with fail
              refine (HD5.out).mono ?_
              rintro e w6 ⟨rfl, rfl⟩
              go_wp2_with fail
              refine bodyPost_ret (v := .tuple #[.int .i64 11, .int .i64 ((k : Int) + 1)]) (by simp [results, Tryz.results13, go_sem]) rfl ?_
              exact ⟨⟨11, (k : Int) + 1, rfl, HN.out⟩, HB2.out.trans (HR5.out.mono HB2.out.size)⟩
          · rw [decide_eq_false h2] at HC6
            have HG1 := Lib.hid (show g.Reach ((k : Int) + 1) ∧ (g.N ((k : Int) + 1) → g.Prod ((k : Int) + 1)) from ⟨HRE.out, fun h => absurd h h2⟩)
            clear h2
            go_wp2_with fail
            refine (HC6.out).mono ?_
            rintro e w5 ⟨rfl, hb1⟩
            have HR5 := Lib.hid (HR3.out.trans (hb1.mono HR3.out.size))
            clear x0 x1 x2 x3 hb1
            go_wp2_with fail
            go_roundw
            case rel =>
              refine ⟨k + 1, by omega, by go_num, fun s h1 h2 => ?_, HR5.out⟩
              by_cases h3 : s = (k : Int) + 1
              · rw [h3]; exact HG1.out
              · exact HI.out s h1 (by omega)
            case measure => simp only [intOf]; omega
        · rw [decide_eq_false h1] at HD6
          have HN := Lib.hid (show (11 : Int) = 0 ↔ Live g from ⟨fun h => absurd h (by decide), fun h => absurd ((HQ6.out _).2 (h.2 _ HS1.out).1) h1⟩)
          clear h1
          go_wp2_with fail
          refine (HD6.out).mono ?_
          rintro e w4 ⟨rfl, rfl⟩
          go_wp2_with fail
          refine bodyPost_ret (v := .tuple #[.int .i64 11, .int .i64 ((k : Int) + 1)]) (by simp [results, Tryz.results13, go_sem]) rfl ?_
          exact ⟨⟨11, (k : Int) + 1, rfl, HN.out⟩, HB2.out.trans (HR3.out.mono HB2.out.size)⟩
      · have hgt : ¬ (k : Int) + 1 ≤ (g.top : Int) := by omega
        have HL := Lib.hid (show Live g from ⟨HW.out, fun s hs => HI.out s (Gm.mem_T_le hs).1 (by have := (Gm.mem_T_le hs).2; omega)⟩)
        go_wp2_with fail
        refine bodyPost_ret (v := .tuple #[.int .i64 0, .int .i64 0]) (by simp [results, Tryz.results13, go_sem]) rfl ?_
        exact ⟨⟨0, 0, rfl, fun _ => HL.out, fun _ => rfl⟩, HB2.out.trans (HR3.out.mono HB2.out.size)⟩
end Go.Proofs.YtpidmmfjcghmeaaGreat
namespace Go.Proofs.YtpidmmfjcghmeaaGreat

theorem fidx_idx (s : List UInt8) : ∀ (l : List (List UInt8)) (k : Nat), fidx (fun x => x == s) l k = if s ∈ l then ((l.idxOf s + k : Nat) : Int) else -1
  | [], k => by simp [fidx]
  | x :: l, k => by
    rw [fidx, fidx_idx s l (k + 1), List.idxOf_cons]
    by_cases hx : x = s
    · subst hx; simp
    · have h1 : (x == s) = false := by simpa using hx
      simp only [h1, Bool.false_eq_true, if_false, List.mem_cons, Ne.symm hx, false_or]
      split
      · simp; omega
      · rfl
theorem trim_names_len (g : Gm) (hk : g.Known) : g.trim.names.length = g.live.reached.length := by
  have := (Gm.live_just hk).names (hk.cut _)
  exact (congrArg List.length this).trans (List.length_map ..)
theorem find_in {g : Gm} (hw : GW g) {s : Int} (hs : g.T s) (h : s ∈ g.live.reached) : fidx (fun x => x == g.name s) g.trim.names 0 + 1 = Gm.pos g.live.reached s := by
  have h1 := Gm.trim_find hw.kn hw.nd (.inl hs)
  rw [if_pos h] at h1
  have h2 : g.live.reached.idxOf s < g.live.reached.length := List.idxOf_lt_length_iff.2 h
  have h3 : g.name s ∈ g.trim.names := List.idxOf_lt_length_iff.1 (by rw [h1, trim_names_len g hw.kn]; exact h2)
  rw [fidx_idx, if_pos h3, h1]
  rfl
theorem find_not {g : Gm} (hw : GW g) {s : Int} (hs : g.T s) (h : s ∉ g.live.reached) : fidx (fun x => x == g.name s) g.trim.names 0 + 1 = 0 := by
  have h1 := Gm.trim_find hw.kn hw.nd (.inl hs)
  rw [if_neg h] at h1
  have h3 : g.name s ∉ g.trim.names := fun h3 => by
    have := List.idxOf_lt_length_iff.2 h3
    rw [h1, trim_names_len g hw.kn] at this
    omega
  rw [fidx_idx, if_neg h3]
  rfl
theorem trim_is_live {g : Gm} (hw : GW g) (h0 : g.Prod g.start) : Live g.trim := ⟨Gm.trim_wf hw h0, fun _ hs => Gm.trim_live hw.kn h0 hs⟩
theorem names_at (g : Gm) (m : Nat) (h : m < g.names.length) : g.names[m] = g.name ((m : Int) + 1) := by
  unfold Gm.name
  rw [show ((m : Int) + 1 - 1).toNat = m by omega, List.getD_eq_getElem?_getD, List.getElem?_eq_getElem h]
  rfl
theorem not_prod_not {g : Gm} (h : ¬ g.Prod g.start) (l : List Int) : ¬ g.Der [g.start] l := fun k => h ⟨l, k⟩
end Go.Proofs.YtpidmmfjcghmeaaGreat
