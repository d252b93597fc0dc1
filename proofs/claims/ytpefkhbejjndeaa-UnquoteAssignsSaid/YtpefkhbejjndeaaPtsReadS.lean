/- Words as they come in: from the argument's reading to the plain tree; how long its texts and rows may be. -/
import Derived.Test.YtpefkhbejjndeaaPtsRead
import Derived.Deep.Slices
import Derived.Deep.Fields
import Derived.ChangeSame
import Derived.Lib.SmallJoins
import Derived.SizedLaws
namespace Go.Proofs.Ytpefkhbejjndeaa
open Go.RowKit Go.ChangeShapes Go.WideShapes Go.Deep

section
variable {H : Type}
/-- No string and no slice of it takes more than the reach. -/
def Sz (P : Program) (t : TypeId) (d : DataW H) : Prop := ∀ k ∈ d.weights P t, k ≤ reachBytes
theorem all_mem {P : Program} {e : TypeId} {d : DataW H} {k : Nat} (hk : k ∈ d.weights P e) : ∀ {l : List (DataW H)}, d ∈ l → k ∈ DataW.weightsAll P e l
  | [], h => by cases h
  | y :: r, h => by
    unfold DataW.weightsAll
    rcases List.mem_cons.1 h with rfl | h
    · exact List.mem_append.2 (.inl hk)
    · exact List.mem_append.2 (.inr (all_mem hk h))
theorem Sz.slice {P : Program} {t e : TypeId} {l sp : List (DataW H)} (hu : P.underlying t = some (.slice e)) (h : Sz P t (.slice l sp)) : l.length * P.bytesOf e ≤ reachBytes ∧ ∀ d ∈ l, Sz P e d := by
  have h' : ∀ k ∈ (l.length + sp.length) * P.bytesOf e :: (DataW.weightsAll P e l ++ DataW.weightsAll P e sp), k ≤ reachBytes := fun k hk => h k (by unfold DataW.weights; rw [hu]; exact hk)
  refine ⟨Nat.le_trans (Nat.mul_le_mul_right _ (Nat.le_add_right _ _)) (h' _ (List.mem_cons_self ..)), fun d hd k hk => h' k (List.mem_cons_of_mem _ (List.mem_append.2 (.inl (all_mem hk hd))))⟩
theorem Sz.part {P : Program} {t : TypeId} {fs : Array Field} {l : List (DataW H)} (hu : P.underlying t = some (.struct fs)) (h : Sz P t (.agg l)) {j : Nat} {u : TypeId} {d : DataW H} (ht : (fs.toList.map (·.type))[j]? = some u) (hd : l[j]? = some d) : Sz P u d :=
  fun k hk => h k (by unfold DataW.weights; rw [hu]; exact DataW.weights_mem_each ht hd k hk)
theorem Sz.str {P : Program} {t : TypeId} {s : ByteArray} (h : Sz (H := H) P t (.lit (.string s.data.toList))) : s.size ≤ reachBytes := by
  have := h s.data.toList.length (by unfold DataW.weights; exact List.mem_singleton.2 rfl)
  rwa [Array.length_toList] at this
theorem Sz.arg {P : Program} {ts : List TypeId} {ds : List (DataW H)} (h : (DataW.weightsEach P ts ds).all (· ≤ reachBytes) = true) {j : Nat} {t : TypeId} {d : DataW H} (ht : ts[j]? = some t) (hd : ds[j]? = some d) : Sz P t d :=
  fun k hk => by simpa using List.all_eq_true.1 h k (DataW.weights_mem_each ht hd k hk)
end

section
variable {H : Type} {enc : TypeId × Value → H} {w : World} {base : Nat} {spare : Nat → Bool} {held : Bool}
/-- A row of commands, as it lies. -/
theorem read_cmds_s {fuel : Nat} {v : Value} {x : DataW H × List MemPlace} (h : DataW.trod enc Try.prog w base spare held fuel 39 [v] = some x) : ∃ cm : Cm, v = cm.val ∧ (Sz Try.prog 39 x.1 → cm.n ≤ reachBytes) := by
  rcases DataW.trod_slice Try.underlying39 h with ⟨hv, hx⟩ | ⟨a, len, cap, elems, rest, n, _, hv, hx, _, _, _, hlen, _⟩
  · simp only [List.cons.injEq, and_true] at hv
    subst hv
    exact ⟨⟨none, 0, 0⟩, rfl, fun _ => Nat.zero_le _⟩
  · simp only [List.cons.injEq, and_true] at hv
    subst hv
    refine ⟨⟨some a, len, cap⟩, rfl, fun hs => ?_⟩
    rw [hx] at hs
    have h1 := (Sz.slice Try.underlying39 hs).1
    have h2 : 0 < Try.prog.bytesOf 149 := of_decide_eq_true (by kernel_rfl)
    rw [List.length_map, hlen] at h1
    exact Nat.le_trans (Nat.le_mul_of_pos_right _ h2) h1

theorem read_parts_s : ∀ (N : Nat) (fuel : Nat) (cs : List Value) (x : DataW H × List MemPlace), Rows.uptoBulk x.1 ≤ N → DataW.trod enc Try.prog w base spare held fuel 31 cs = some x →
    ∃ (l : Pts) (A : Option Addr) (c : Nat), cs = [.slice A l.len c] ∧ l.len ≤ c ∧ c ≤ maxLen ∧ PtsAt (Old w) w A 0 l ∧ (Sz Try.prog 31 x.1 → l.mx ≤ reachBytes) := by
  intro N
  induction N with
  | zero => intro _ _ x h; have := bulk_pos x.1; omega
  | succ N ih =>
    intro fuel cs x hN h
    rcases open_structs Try.underlying31 Try.underlying41 (by kernel_rfl) (by kernel_rfl) h with ⟨hcs, hx⟩ | ⟨a, len, cap, D, sp, hcs, hl, hm, hx, hi⟩
    · exact ⟨.nil, none, 0, hcs, Nat.le_refl _, Nat.zero_le _, trivial, fun _ => Nat.zero_le _⟩
    · by_cases hz : len = 0
      · subst hz
        exact ⟨.nil, some a, cap, hcs, Nat.zero_le _, hm, trivial, fun _ => Nat.zero_le _⟩
      obtain ⟨b, off, rfl⟩ : ∃ b off, a = ⟨b, off, none⟩ := by
        obtain ⟨_, _, _, _, hf⟩ := hi 0 (by omega)
        obtain ⟨v0, y0, c0, _⟩ := hf 0 _ rfl
        obtain ⟨b, off, sp⟩ := a
        have hs : sp = none := by
          rw [Nat.zero_mul] at c0
          exact (spot_of c0).1
        exact ⟨b, off, by rw [hs]⟩
      have hbk : Sz Try.prog 31 x.1 → len ≤ reachBytes ∧ ∀ i, i < len → Sz Try.prog 41 (D i) := fun hs => by
        rw [hx] at hs
        obtain ⟨h1, h2⟩ := Sz.slice Try.underlying31 hs
        rw [List.length_map, List.length_range] at h1
        exact ⟨Nat.le_trans (Nat.le_mul_of_pos_right _ (of_decide_eq_true (by kernel_rfl))) h1, fun i hi => h2 _ (List.mem_map.2 ⟨i, List.mem_range.2 hi, rfl⟩)⟩
      have key : ∀ (n i : Nat), i + n = len → ∃ l : Pts, l.len = n ∧ PtsAt (Old w) w (some ⟨b, off, none⟩) i l ∧ (Sz Try.prog 31 x.1 → l.mx ≤ reachBytes) := by
        intro n
        induction n with
        | zero => intro i _; exact ⟨.nil, rfl, trivial, fun _ => Nat.zero_le _⟩
        | succ n ihn =>
          intro i hin
          obtain ⟨r, hrl, hrp, hrw⟩ := ihn (i + 1) (by omega)
          obtain ⟨ys, m, hD, hyl, hf⟩ := hi i (by omega)
          have hDb : Rows.uptoBulk (D i) ≤ N := by
            have : Rows.uptoBulk (D i) ≤ Rows.uptoBulkAll ((List.range len).map D) := by
              have hmem : D i ∈ (List.range len).map D := List.mem_map.2 ⟨i, List.mem_range.2 (by omega), rfl⟩
              exact bulk_mem hmem
            rw [hx] at hN
            simp only [Rows.uptoBulk] at hN
            omega
          obtain ⟨v0, y0, c0, e0, t0⟩ := hf 0 _ rfl
          obtain ⟨v1, y1, c1, e1, t1⟩ := hf 1 _ rfl
          obtain ⟨v2, y2, c2, e2, t2⟩ := hf 2 _ rfl
          obtain ⟨v3, y3, c3, e3, t3⟩ := hf 3 _ rfl
          obtain ⟨v4, y4, c4, e4, t4⟩ := hf 4 _ rfl
          match ys, hyl with
          | [z0, z1, z2, z3, z4], _ =>
            simp only [List.getElem?_cons_zero, List.getElem?_cons_succ, Option.some.injEq] at e0 e1 e2 e3 e4
            subst e0 e1 e2 e3 e4
            simp only [List.map_cons, List.map_nil] at hD
            obtain ⟨k, hv0, hy0, _⟩ := DataW.trod_int Try.underlying3 t0
            obtain ⟨t, hv1, hy1, _⟩ := DataW.trod_string Try.underlying9 t1
            obtain ⟨o, hv2, hy2, _⟩ := DataW.trod_string Try.underlying9 t2
            obtain ⟨cm, rfl, hcm⟩ := read_cmds_s t4
            have hb : Rows.uptoBulk (D i) = 1 + (t.size + 1) + (o.size + 1) + Rows.uptoBulk z3.1 + Rows.uptoBulk z4.1 + 1 := by
              rw [hD]
              simp only [Rows.uptoBulk, Rows.uptoBulkAll, hy0, hy1, hy2]
              have a1 : t.data.toList.length = t.size := by rw [Array.length_toList]; rfl
              have a2 : o.data.toList.length = o.size := by rw [Array.length_toList]; rfl
              omega
            obtain ⟨kids, Ak, ck, hv3, hkl, hkm, hkp, hkw⟩ := ih m _ z3 (by omega) t3
            simp only [List.cons.injEq, and_true] at hv0 hv1 hv2 hv3
            subst hv0 hv1 hv2 hv3
            rw [add_none] at c0 c1 c2 c3 c4
            refine ⟨.cons k t o kids cm r, by rw [Pts.len, hrl], ⟨b, off, Ak, ck, rfl, (spot_of c0).2, c0, c1, c2, c3, c4, hkl, hkp, hrp⟩, fun hs => ?_⟩
            obtain ⟨hsl, hse⟩ := hbk hs
            have hsi := hse i (by omega)
            rw [hD] at hsi
            have s1 := Sz.part Try.underlying41 hsi (j := 1) rfl rfl
            have s2 := Sz.part Try.underlying41 hsi (j := 2) rfl rfl
            have s3 := hkw (Sz.part Try.underlying41 hsi (j := 3) rfl rfl)
            have s4 := hcm (Sz.part Try.underlying41 hsi (j := 4) rfl rfl)
            rw [hy1] at s1
            rw [hy2] at s2
            have s1 := Sz.str s1
            have s2 := Sz.str s2
            have s5 := hrw hs
            rw [Pts.mx]
            omega
      obtain ⟨l, hll, hlp, hlw⟩ := key len 0 (by omega)
      exact ⟨l, some ⟨b, off, none⟩, cap, by rw [hcs, hll], by omega, hm, hlp, hlw⟩

set_option maxRecDepth 100000 in
/-- A word: a struct of its parts. -/
theorem read_word_s {r : Reach} {b0 : Nat} {v : Value} {d : DataW H} {ps : List MemPlace} (hv : Value.okWide Try.prog w r b0 33 v) (h : DataW.Trod enc Try.prog w base spare held 33 v d ps) :
    ∃ (l : Pts) (A : Option Addr) (c : Nat), v = .agg #[.slice A l.len c] ∧ l.len ≤ c ∧ c ≤ maxLen ∧ PtsAt (Old w) w A 0 l ∧ (Sz Try.prog 33 d → l.mx ≤ reachBytes) := by
  obtain ⟨cs, rfl, hsz⟩ := okWide_struct Try.underlying33 hv
  obtain ⟨l⟩ := cs
  match l, hsz.trans (show Try.prog.cellsOf 33 = 1 by kernel_rfl) with
  | [c0], _ =>
    obtain ⟨fuel, hf⟩ := h
    obtain ⟨xs, n, _, hx, _, hlen, hg⟩ := DataW.trod_struct Try.underlying33 hf
    match xs, hlen with
    | [y0], _ =>
      simp only [Prod.mk.injEq] at hx
      have h0 : DataW.trod enc Try.prog w base spare held n 31 ([c0].take (Try.prog.cellsOf 31)) = some y0 := hg 0 _ rfl
      rw [show Try.prog.cellsOf 31 = 1 by kernel_rfl] at h0
      obtain ⟨l, A, c, hc, h1, h2, h3, h4⟩ := read_parts_s _ _ _ y0 (Nat.le_refl _) h0
      obtain rfl : c0 = .slice A l.len c := (List.cons.inj hc).1
      refine ⟨l, A, c, rfl, h1, h2, h3, fun hs => h4 ?_⟩
      rw [hx.1] at hs
      exact Sz.part Try.underlying33 hs (j := 0) rfl rfl
end
end Go.Proofs.Ytpefkhbejjndeaa
