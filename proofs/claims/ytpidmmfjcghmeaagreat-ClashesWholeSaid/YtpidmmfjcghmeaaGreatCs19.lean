/- Grammars, lists of numbers as they come in: from the argument's reading to the plain value; how long the texts and lists may be. -/
import Derived.Test.YtpidmmfjcghmeaaGreatCs13
import Derived.Deep.Slices
import Derived.Deep.Fields
import Derived.ChangeSame
import Derived.Lib.SmallJoins
import Derived.SizedLaws
set_option maxRecDepth 100000
set_option maxHeartbeats 16000000
set_option linter.all false
namespace Go.Proofs.YtpidmmfjcghmeaaGreat
open Go.RowKit Go.ChangeShapes Go.WideShapes Go.Deep

section
variable {H : Type}
/-- No string and no slice of it takes more than the reach. -/
def Sz (P : Program) (t : TypeId) (d : DataW H) : Prop := ∀ k ∈ d.weights P t, k ≤ reachBytes
theorem all_mem {P : Program} {e : TypeId} {d : DataW H} {k : Nat} (hk : k ∈ d.weights P e) : ∀ {l : List (DataW H)}, d ∈ l → k ∈ DataW.weightsAll P e l
  | [], h => by cases h
  | y :: r, h => by
    unfold DataW.weightsAll
    rcases List.mem_cons.1 h with rfl | h
    · exact List.mem_append.2 (.inl hk)
    · exact List.mem_append.2 (.inr (all_mem hk h))
theorem Sz.slice {P : Program} {t e : TypeId} {l sp : List (DataW H)} (hu : P.underlying t = some (.slice e)) (h : Sz P t (.slice l sp)) : l.length * P.bytesOf e ≤ reachBytes ∧ ∀ d ∈ l, Sz P e d := by
  have h' : ∀ k ∈ (l.length + sp.length) * P.bytesOf e :: (DataW.weightsAll P e l ++ DataW.weightsAll P e sp), k ≤ reachBytes := fun k hk => h k (by unfold DataW.weights; rw [hu]; exact hk)
  refine ⟨Nat.le_trans (Nat.mul_le_mul_right _ (Nat.le_add_right _ _)) (h' _ (List.mem_cons_self ..)), fun d hd k hk => h' k (List.mem_cons_of_mem _ (List.mem_append.2 (.inl (all_mem hk hd))))⟩
theorem Sz.part {P : Program} {t : TypeId} {fs : Array Field} {l : List (DataW H)} (hu : P.underlying t = some (.struct fs)) (h : Sz P t (.agg l)) {j : Nat} {u : TypeId} {d : DataW H} (ht : (fs.toList.map (·.type))[j]? = some u) (hd : l[j]? = some d) : Sz P u d :=
  fun k hk => h k (by unfold DataW.weights; rw [hu]; exact DataW.weights_mem_each ht hd k hk)
theorem Sz.str {P : Program} {t : TypeId} {s : ByteArray} (h : Sz (H := H) P t (.lit (.string s.data.toList))) : s.size ≤ reachBytes := by
  have := h s.data.toList.length (by unfold DataW.weights; exact List.mem_singleton.2 rfl)
  rwa [Array.length_toList] at this
theorem Sz.arg {P : Program} {ts : List TypeId} {ds : List (DataW H)} (h : (DataW.weightsEach P ts ds).all (· ≤ reachBytes) = true) {j : Nat} {t : TypeId} {d : DataW H} (ht : ts[j]? = some t) (hd : ds[j]? = some d) : Sz P t d :=
  fun k hk => by simpa using List.all_eq_true.1 h k (DataW.weights_mem_each ht hd k hk)
end
theorem vK {w : World} {a : Addr} {v : Value} (h : w.cell? a = some v) : a.spot = none ∧ a.block < w.heap.size := by
  unfold World.cell? at h
  split at h
  · rename_i c _ _ hc
    refine ⟨?_, (Array.getElem?_eq_some_iff.1 hc).1⟩
    split at h
    · exact absurd h (by simp)
    · rename_i hs; simpa using hs
  · exact absurd h (by simp)
theorem qU (b off n : Nat) : (⟨b, off, none⟩ : Addr).add n = ⟨b, off + n, none⟩ := by
  unfold Addr.add
  split
  · rename_i h; subst h; rfl
  · rfl

section
variable {H : Type} {enc : TypeId × Value → H} {w : World} {base : Nat} {spare : Nat → Bool} {held : Bool}
/-- A slice whose elements are read, each. -/
theorem qA {β : Type} {t e : TypeId} {sz : Nat} {R : List Value → β → Prop} {B : β → Prop} (ht : Tryz.prog.underlying t = some (.slice e)) (hc : Tryz.prog.cellsOf e = sz) (hsz : 0 < sz)
    (hR : ∀ n cs x, cs.length = sz → DataW.trod enc Tryz.prog w base spare held n e cs = some x → ∃ b, R cs b ∧ (Sz Tryz.prog e x.1 → B b))
    {fuel : Nat} {cs : List Value} {x : DataW H × List MemPlace} (h : DataW.trod enc Tryz.prog w base spare held fuel t cs = some x) :
    ∃ (v : Value) (l : List β), cs = [v] ∧ aH (Old w) w sz R v l ∧ (Sz Tryz.prog t x.1 → l.length * Tryz.prog.bytesOf e ≤ reachBytes ∧ ∀ b ∈ l, B b) := by
  rcases open_slice ht h with h0 | ⟨a, len, cap, m, n, D, Pl, hcs, hb, hl, hm, hmm, hx, hi⟩
  · exact ⟨_, [], h0.1, aH.nil0, fun _ => ⟨by rw [List.length_nil, Nat.zero_mul]; exact Nat.zero_le _, fun b hb => by cases hb⟩⟩
  · have hle : len ≤ m := by rw [hmm]; split <;> omega
    have hbk : Sz Tryz.prog t x.1 → len * Tryz.prog.bytesOf e ≤ reachBytes ∧ ∀ i, i < len → Sz Tryz.prog e (D i) := fun hs => by
      rw [hx] at hs
      obtain ⟨h1, h2⟩ := Sz.slice ht hs
      rw [List.length_map, List.length_range] at h1
      exact ⟨h1, fun i hi => h2 _ (List.mem_map.2 ⟨i, List.mem_range.2 hi, rfl⟩)⟩
    have hel : ∀ i, i < len → ∃ b cs', R cs' b ∧ cs'.length = sz ∧ (Sz Tryz.prog t x.1 → B b) ∧ ∀ j u, cs'[j]? = some u → w.cell? ((a.add (i * sz)).add j) = some u := fun i hil => by
      obtain ⟨cs', h1, h2⟩ := hi i (by omega)
      rw [hc] at h1
      obtain ⟨_, h3, h4⟩ := World.cells?_some h1
      obtain ⟨b, h5, h6⟩ := hR _ _ _ h3 h2
      refine ⟨b, cs', h5, h3, fun hs => h6 ((hbk hs).2 i hil), fun j u hj => ?_⟩
      have := (List.getElem?_eq_some_iff.1 hj).1
      rw [h4 j (by omega), hj]
    by_cases hz : len = 0
    · subst hz
      exact ⟨_, [], hcs, ⟨some a, cap, rfl, Nat.zero_le _, hm, fun h => absurd h (Nat.lt_irrefl 0)⟩, fun _ => ⟨by rw [List.length_nil, Nat.zero_mul]; exact Nat.zero_le _, fun b hb => by cases hb⟩⟩
    obtain ⟨b0, off, ha⟩ : ∃ b off, a = ⟨b, off, none⟩ := by
      obtain ⟨b, cs', _, h2, _, h3⟩ := hel 0 (by omega)
      match cs', h2 with
      | [], h2 => simp at h2; omega
      | u :: _, _ =>
        have h4 := h3 0 u rfl
        have h5 := (vK h4).1
        obtain ⟨b, off, sp⟩ := a
        refine ⟨b, off, ?_⟩
        rw [Nat.zero_mul] at h5
        have : sp = none := h5
        rw [this]
    subst ha
    have key : ∀ n, n ≤ len → ∃ l : List β, l.length = n ∧ (Sz Tryz.prog t x.1 → ∀ b ∈ l, B b) ∧ ∀ i (h : i < l.length), ∃ vs : List Value, vs.length = sz ∧ R vs l[i] ∧ ∀ j u, vs[j]? = some u → w.cell? ⟨b0, off + i * sz + j, none⟩ = some u := by
      intro n
      induction n with
      | zero => exact fun _ => ⟨[], rfl, fun _ b hb => (by cases hb), fun i h => absurd h (Nat.not_lt_zero i)⟩
      | succ n ih =>
        intro hn
        obtain ⟨l, h1, h2, h3⟩ := ih (by omega)
        obtain ⟨b, cs', k1, k2, k3, k4⟩ := hel n (by omega)
        refine ⟨l ++ [b], by simp [h1], fun hs y hy => ?_, fun i hi => ?_⟩
        · rcases List.mem_append.1 hy with hy | hy
          · exact h2 hs y hy
          · rw [List.mem_singleton.1 hy]; exact k3 hs
        · by_cases hin : i < l.length
          · obtain ⟨vs, q1, q2, q3⟩ := h3 i hin
            exact ⟨vs, q1, by rw [List.getElem_append_left hin]; exact q2, q3⟩
          · have hil : i = l.length := by simp at hi; omega
            subst hil
            refine ⟨cs', k2, by rw [List.getElem_append_right (by omega)]; simpa using k1, fun j u hj => ?_⟩
            have := k4 j u hj
            rw [qU, qU, ← h1] at this
            exact this
    obtain ⟨l, h1, h2, h3⟩ := key len (Nat.le_refl _)
    subst h1
    refine ⟨_, l, hcs, ⟨_, cap, rfl, hl, hm, fun _ => ⟨b0, off, rfl, ?_, h3⟩⟩, fun hs => ⟨(hbk hs).1, h2 hs⟩⟩
    obtain ⟨vs, q1, _, q3⟩ := h3 0 (by omega)
    match vs, q1 with
    | [], q1 => simp at q1; omega
    | u :: _, _ => exact (vK (q3 0 u rfl)).2
theorem xV {fuel : Nat} {cs : List Value} {x : DataW H × List MemPlace} (h : DataW.trod enc Tryz.prog w base spare held fuel 26 cs = some x) :
    ∃ (v : Value) (l : List Int), cs = [v] ∧ aF (Old w) w v l ∧ (Sz Tryz.prog 26 x.1 → l.length ≤ reachBytes) := by
  obtain ⟨v, l, h1, h2, h3⟩ := qA (R := cF) (B := fun _ => True) Tryz.underlying26 (show Tryz.prog.cellsOf 3 = 1 by kernel_rfl) (by decide)
    (fun n cs x _ h => by
      obtain ⟨k, rfl, _⟩ := DataW.trod_int Tryz.underlying3 h
      exact ⟨k, rfl, fun _ => trivial⟩) h
  refine ⟨v, l, h1, h2, fun hs => ?_⟩
  have := (h3 hs).1
  rw [show Tryz.prog.bytesOf 3 = 8 by kernel_rfl] at this
  omega
theorem oT {fuel : Nat} {cs : List Value} {x : DataW H × List MemPlace} (h : DataW.trod enc Tryz.prog w base spare held fuel 22 cs = some x) :
    ∃ (v : Value) (l : List (List UInt8)), cs = [v] ∧ aW (Old w) w v l ∧ (Sz Tryz.prog 22 x.1 → l.length ≤ reachBytes ∧ ∀ s ∈ l, s.length ≤ reachBytes) := by
  obtain ⟨v, l, h1, h2, h3⟩ := qA (R := iT) (B := fun s => s.length ≤ reachBytes) Tryz.underlying22 (show Tryz.prog.cellsOf 9 = 1 by kernel_rfl) (by decide)
    (fun n cs x _ h => by
      obtain ⟨S, rfl, hx, _⟩ := DataW.trod_string Tryz.underlying9 h
      refine ⟨S.toList, ?_, fun hs => ?_⟩
      · show [Value.string S] = [bs S.toList]
        unfold bs
        rw [show (⟨S.toList.toArray⟩ : ByteArray) = S by rw [Lib.toList_data]]
      · rw [hx] at hs
        rw [← aT]
        exact Sz.str hs) h
  refine ⟨v, l, h1, h2, fun hs => ⟨?_, (h3 hs).2⟩⟩
  have := (h3 hs).1
  rw [show Tryz.prog.bytesOf 9 = 16 by kernel_rfl] at this
  omega
theorem tO {fuel : Nat} {cs : List Value} {x : DataW H × List MemPlace} (h : DataW.trod enc Tryz.prog w base spare held fuel 23 cs = some x) :
    ∃ (v : Value) (l : List (Int × List Int)), cs = [v] ∧ cD (Old w) w v l ∧ (Sz Tryz.prog 23 x.1 → l.length ≤ reachBytes ∧ ∀ r ∈ l, r.2.length ≤ reachBytes) := by
  obtain ⟨v, l, h1, h2, h3⟩ := qA (R := RuV (Old w) w) (B := fun r => r.2.length ≤ reachBytes) Tryz.underlying23 (show Tryz.prog.cellsOf 64 = 2 by kernel_rfl) (by decide)
    (fun n cs x hcs h => by
      match cs, hcs with
      | [c0, c1], _ =>
        obtain ⟨xs, n', _, hx, _, hlen, hg⟩ := DataW.trod_struct Tryz.underlying64 h
        match xs, hlen with
        | [y0, y1], _ =>
          have h0 : DataW.trod enc Tryz.prog w base spare held n' 3 ([c0, c1].take (Tryz.prog.cellsOf 3)) = some y0 := hg 0 _ rfl
          have h1 : DataW.trod enc Tryz.prog w base spare held n' 26 ([c1].take (Tryz.prog.cellsOf 26)) = some y1 := hg 1 _ rfl
          rw [show Tryz.prog.cellsOf 3 = 1 by kernel_rfl] at h0
          rw [show Tryz.prog.cellsOf 26 = 1 by kernel_rfl] at h1
          obtain ⟨k, e0, _⟩ := DataW.trod_int Tryz.underlying3 h0
          obtain ⟨v, l, e1, hl, hb⟩ := xV h1
          obtain rfl : c0 = .int .i64 k := (List.cons.inj e0).1
          obtain rfl : c1 = v := (List.cons.inj e1).1
          refine ⟨(k, l), ⟨_, rfl, hl⟩, fun hs => hb ?_⟩
          rw [hx] at hs
          exact Sz.part Tryz.underlying64 hs (j := 1) rfl rfl) h
  refine ⟨v, l, h1, h2, fun hs => ⟨?_, (h3 hs).2⟩⟩
  have := (h3 hs).1
  rw [show Tryz.prog.bytesOf 64 = 32 by kernel_rfl] at this
  omega
set_option maxRecDepth 100000 in
/-- A grammar: a struct of four. -/
theorem xU {r : Reach} {b0 : Nat} {v : Value} {d : DataW H} {ps : List MemPlace} (hv : Value.okWide Tryz.prog w r b0 25 v) (h : DataW.Trod enc Tryz.prog w base spare held 25 v d ps) (hd : Sz Tryz.prog 25 d) :
    ∃ (vs : List Value) (g : Gm), v = ag vs ∧ GmV (Old w) w vs g ∧ g.Fit := by
  obtain ⟨cs, rfl, hsz⟩ := okWide_struct Tryz.underlying25 hv
  obtain ⟨l⟩ := cs
  match l, hsz.trans (show Tryz.prog.cellsOf 25 = 4 by kernel_rfl) with
  | [c0, c1, c2, c3], _ =>
    obtain ⟨fuel, hf⟩ := h
    obtain ⟨xs, n, _, hx, _, hlen, hg⟩ := DataW.trod_struct Tryz.underlying25 hf
    match xs, hlen with
    | [y0, y1, y2, y3], _ =>
      simp only [Prod.mk.injEq] at hx
      have h0 : DataW.trod enc Tryz.prog w base spare held n 22 ([c0, c1, c2, c3].take (Tryz.prog.cellsOf 22)) = some y0 := hg 0 _ rfl
      have h1 : DataW.trod enc Tryz.prog w base spare held n 22 ([c1, c2, c3].take (Tryz.prog.cellsOf 22)) = some y1 := hg 1 _ rfl
      have h2 : DataW.trod enc Tryz.prog w base spare held n 23 ([c2, c3].take (Tryz.prog.cellsOf 23)) = some y2 := hg 2 _ rfl
      have h3 : DataW.trod enc Tryz.prog w base spare held n 3 ([c3].take (Tryz.prog.cellsOf 3)) = some y3 := hg 3 _ rfl
      rw [show Tryz.prog.cellsOf 22 = 1 by kernel_rfl] at h0 h1
      rw [show Tryz.prog.cellsOf 23 = 1 by kernel_rfl] at h2
      rw [show Tryz.prog.cellsOf 3 = 1 by kernel_rfl] at h3
      obtain ⟨v0, l0, e0, q0, s0⟩ := oT h0
      obtain ⟨v1, l1, e1, q1, s1⟩ := oT h1
      obtain ⟨v2, l2, e2, q2, s2⟩ := tO h2
      obtain ⟨k, e3, _⟩ := DataW.trod_int Tryz.underlying3 h3
      obtain rfl : c0 = v0 := (List.cons.inj e0).1
      obtain rfl : c1 = v1 := (List.cons.inj e1).1
      obtain rfl : c2 = v2 := (List.cons.inj e2).1
      obtain rfl : c3 = .int .i64 k := (List.cons.inj e3).1
      rw [hx.1] at hd
      obtain ⟨b0, s0⟩ := s0 (Sz.part Tryz.underlying25 hd (j := 0) rfl rfl)
      obtain ⟨b1, s1⟩ := s1 (Sz.part Tryz.underlying25 hd (j := 1) rfl rfl)
      obtain ⟨b2, s2⟩ := s2 (Sz.part Tryz.underlying25 hd (j := 2) rfl rfl)
      have hre : reachBytes ≤ 140737488355328 := by decide
      exact ⟨_, ⟨l0, l1, k, l2⟩, rfl, ⟨_, _, _, rfl, q0, q1, q2⟩,
        ⟨Nat.le_trans b0 hre, Nat.le_trans b1 hre, Nat.le_trans b2 hre, fun s hs => Nat.le_trans (s0 s hs) hre, fun s hs => Nat.le_trans (s1 s hs) hre, fun s hs => Nat.le_trans (s2 s hs) hre⟩⟩
end
end Go.Proofs.YtpidmmfjcghmeaaGreat
