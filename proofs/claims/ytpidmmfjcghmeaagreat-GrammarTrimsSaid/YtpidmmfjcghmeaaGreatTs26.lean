/- Texts in one: AbCode2. -/
import Derived.Test.YtpidmmfjcghmeaaGreatTs25
namespace Go.Proofs.YtpidmmfjcghmeaaGreat.Ab
open Go.RowKit
variable {P : Program} {σ : Sg} {W : World}
def DrawOK (P : Program) (W : World) (dr : DrawT) : Prop :=
  ∀ i ops f h f' h', dr i ops f h = some (f', h') → ∀ σ a w, FR σ f a → HR W σ h w → (Code.region i ops true).wp P (XQ W σ .nrm f' h') a w
/-! ### A scope with jumps -/
def JW (P : Program) (c : Code) (Q : Exit → Act → World → Prop) (r : Code) (a : Act) (w : World) : Prop :=
  ∀ (b : Frame) (k : List Item) (cs : List Frame), ∃ e a' w', Q e a' w' ∧ Arrives P (lone (b.at a (.code r :: .inScope c :: k)) cs w) b k cs e a' w'
theorem jw_of_wp {c r : Code} {Q Q1 : Exit → Act → World → Prop} {a : Act} {w : World} (h : r.wp P Q1 a w) (hg : ∀ l a w, Q1 (.goto l) a w → ∃ r', findLabel c l = some r' ∧ JW P c Q r' a w)
    (hq : ∀ e a w, (∀ l, e ≠ .goto l) → Q1 e a w → Q e a w) : JW P c Q r a w := by
  intro b k cs
  obtain ⟨e, a₁, w₁, h1, harr⟩ := h b (.inScope c :: k) cs
  cases e with
  | normal => exact ⟨.normal, a₁, w₁, hq _ _ _ (fun _ e => by cases e) h1, Steps.trans harr (.one step_inScope)⟩
  | exit id => exact ⟨.exit id, a₁, w₁, hq _ _ _ (fun _ e => by cases e) h1, fun k' hk => harr k' (by simp [exitTo, hk])⟩
  | goto l =>
    obtain ⟨r', hf, hj⟩ := hg l a₁ w₁ h1
    obtain ⟨e₂, a₂, w₂, hq₂, harr₂⟩ := hj b k cs
    exact ⟨e₂, a₂, w₂, hq₂, .of_steps (harr _ (by simp [gotoIn, hf])) harr₂⟩
  | ret => exact ⟨_, a₁, w₁, hq _ _ _ (fun _ e => by cases e) h1, harr⟩
  | panic ch => exact ⟨_, a₁, w₁, hq _ _ _ (fun _ e => by cases e) h1, harr⟩
  | outgrown => exact ⟨_, a₁, w₁, hq _ _ _ (fun _ e => by cases e) h1, harr⟩
theorem wp_scope_jw {c : Code} {Q : Exit → Act → World → Prop} {a : Act} {w : World} (h : JW P c Q c a w) : (Code.scope c).wp P Q a w := by
  intro b k cs
  obtain ⟨e, a', w', hq, harr⟩ := h b k cs
  exact ⟨e, a', w', hq, .of_steps (.one step_scope) harr⟩
/-- What holds of code that is run holds of its jumps. -/
def RunOK (P : Program) (W : World) (r : Option Nat) (n : Nat) (g : Code → F → H → Option (Ex × F × H)) : Prop :=
  ∀ c f h e f' h', g c f h = some (e, f', h') → ∀ σ a w, FR σ f a → HR W σ h w → c.wpIn (Fr r) n P (XQ W σ e f' h') a w
theorem jumps_ok {g : Code → F → H → Option (Ex × F × H)} {n : Nat} (hg : RunOK P W none n g) {c : Code} {σ0 : Sg} : ∀ (m : Nat) {r : Code} {f f' : F} {h h' : H} {e : Ex}, jumps g c m r f h = some (e, f', h') → ∀ {σ : Sg} {a : Act} {w : World}, Sg.le σ0 σ → FR σ f a → HR W σ h w →
    JW P c (XQ W σ0 e f' h') r a w
  | 0, r, f, f', h, h', e, hx, _, _, _, _, _, _ => by simp [jumps] at hx
  | m + 1, r, f, f', h, h', e, hx, σ, a, w, hle, hf, hr => by
    simp only [jumps] at hx
    split at hx
    · rename_i l f1 h1 h2
      split at hx
      · rename_i r' hfl
        refine jw_of_wp (wpIn_wide.1 (hg _ _ _ _ _ _ h2 σ a w hf hr)) ?_ ?_
        · rintro l' a' w' ⟨e1, σ', h3, h4, h5⟩
          cases e1
          exact ⟨r', hfl, jumps_ok hg m hx (Sg.le_trans hle h3) h5 h4⟩
        · intro e1 a' w' hne hq
          cases e1 with
          | normal => exact absurd hq.1 (by simp)
          | exit i => exact absurd hq.1 (by simp)
          | ret => exact absurd hq.1 (by simp)
          | goto l' => exact absurd rfl (hne l')
          | panic ch => exact hq.elim
          | outgrown => exact hq.elim
      · cases hx
    · rename_i hne
      refine jw_of_wp (wpIn_wide.1 (hg _ _ _ _ _ _ hx σ a w hf hr)) ?_ ?_
      · rintro l' a' w' ⟨e1, _⟩
        subst e1
        exact absurd hx (hne l' f' h')
      · intro e1 a' w' _ hq
        exact XQ.le hle _ _ _ hq
theorem pend_ok {pend : Option Code} {e : Ex} (h : pendA pend = some e) : (pend = none ∧ e = .nrm) ∨ (pend = some .ret ∧ e = .ret) ∨ (∃ i, pend = some (.exit i) ∧ e = .ext i) ∨ (∃ l, pend = some (.goto l) ∧ e = .gt l) := by
  unfold pendA at h
  split at h <;> first | (cases h; simp; done) | cases h
theorem loop_row {h : H} {w : World} (hr : HR W σ h w) {id b k : Nat} {st : LoopState} {pend : Option Code} {n : Nat} {t : T AV} {ps : List Nat} {as body : Code} (hg : h.get id = some (.loop st pend n t ps as body)) (hb : σ id = some (b, k)) :
    ∃ fn df tm, w.heap[b]? = some (.loop { state := st, pending := pend, fn := fn, tmps := tm, params := ps.toArray, assign := as, body := body, defers := df }) ∧ FT σ n t tm := by
  obtain ⟨b', k', hb', _, _, ho⟩ := hr.obj _ _ hg
  obtain ⟨rfl, rfl⟩ : b' = b ∧ k' = k := by rw [hb] at hb'; simpa using hb'.symm
  exact ho
theorem run_getLoop {w : World} {b : Nat} {l : Loop} (h : w.heap[b]? = some (.loop l)) : (Instr.getLoop b).run P w = .ok l w := by
  unfold Instr.getLoop
  rw [Sem.run_bind, run_getObj h (fun _ _ _ e => by cases e), Result.andThen_ok]
  rfl
theorem range_ok {call : CallT} (hcall : CallOK P W call) {n : Nat} {g : Operand} {ps : Array Tmp} {as body : Code} {f : F} {h : H} {a : Act} {w : World} (hf : FR σ f a) (hr : HR W σ h w) {k : Nat} {first cap : List AV} (hg : evF f g = some (.fn k first cap))
    {r : AV × H} (hc : call (.fn k) (first ++ [.yl (((h.new .dfr).2.new (.loop .ready none f.n f.t ps.toList as body)).1)] ++ cap) ((h.new .dfr).2.new (.loop .ready none f.n f.t ps.toList as body)).2 = some r)
    {st : LoopState} {pend : Option Code} {n2 : Nat} {t2 : T AV} {ps2 : List Nat} {as2 body2 : Code} (hl : r.2.get ((h.new .dfr).2.new (.loop .ready none f.n f.t ps.toList as body)).1 = some (.loop st pend n2 t2 ps2 as2 body2)) (hst : st ≠ .busy) {e : Ex} (hp : pendA pend = some e) :
    (Code.rangeFunc g ps as body).wpIn Fence.wide n P (XQ W σ e { f with df := .inl (h.new .dfr).1 :: f.df } (r.2.set ((h.new .dfr).2.new (.loop .ready none f.n f.t ps.toList as body)).1 none)) a w := by
  refine wpIn_rangeFunc fun fn _ => ?_
  obtain ⟨σ1, hle1, hs1, hr1⟩ := new_res hr .dfr 0 (.deferred (some [])) rfl
  obtain ⟨σ2, hle2, hs2, hr2⟩ := new_res hr1 (.loop .ready none f.n f.t ps.toList as body) 0 (.loop { state := .ready, pending := none, fn, tmps := a.tmps, params := ps, assign := as, body, defers := w.heap.size }) ⟨fn, w.heap.size, a.tmps, by simp, (hf.t.mono hle1)⟩
  obtain ⟨w2, hw2⟩ : ∃ w2, w2 = (w.alloc (.deferred (some []))).alloc (.loop { state := .ready, pending := none, fn, tmps := a.tmps, params := ps, assign := as, body, defers := w.heap.size }) := ⟨_, rfl⟩
  rw [← hw2] at hr2
  have h12 := Sg.le_trans hle1 hle2
  have hgv := (ev_ok hf.t hg).mono h12
  cases hgv' : a.eval g <;> rw [hgv'] at hgv <;> cases hgv
  rename_i xs ys hxs hys
  obtain ⟨yv, hyv⟩ : ∃ yv : Value, yv = .func (.yield (w.alloc (.deferred (some []))).heap.size) #[] #[] := ⟨_, rfl⟩
  have hall : VL σ2 (first ++ [.yl (((h.new .dfr).2.new (.loop .ready none f.n f.t ps.toList as body)).1)] ++ cap) (xs ++ [yv] ++ ys) :=
    (hxs.append (.cons _ _ _ _ (by rw [hyv]; exact .yl _ _ _ hs2) .nil)).append hys
  obtain ⟨hent, hcl⟩ := hcall.fn _ _ _ _ hc σ2 _ _ hr2 hall
  refine ⟨(w.alloc (.deferred (some []))).heap.size, [{ target := .collected w.heap.size, args := #[] }], w2, { target := .fn (.func k) ys.toArray, args := xs.toArray ++ #[yv] }, w2, k, (xs ++ [yv] ++ ys).toArray, w2, (by rw [hw2]; rfl), ?_, (fun _ _ => trivial), ?_, (fun e => by cases e), callsIn_wide.2 (hcl.mono ?_)⟩
  · unfold resolve
    simp only [hgv', Deferred.ofValue, List.map_toArray, List.map_cons, List.map_nil, hyv]
    rfl
  · have e1 : xs.toArray ++ #[yv] ++ ys.toArray = (xs ++ [yv] ++ ys).toArray := by simp
    simp only [invoke, e1]
    exact hent
  · rintro e' w3 ⟨v, rfl, σ3, hle3, _, hr3⟩
    obtain ⟨fn', df', tm', hrow, _⟩ := loop_row hr3 hl (hle3 _ _ hs2)
    have hgl := run_getLoop (P := P) hrow
    refine ⟨pend, World.upd w3 (w.alloc (.deferred (some []))).heap.size (.loop { state := .exhausted, pending := pend, fn := fn', tmps := tm', params := ps2.toArray, assign := as2, body := body2, defers := df' }), ?_, ?_⟩
    · unfold Instr.endLoop
      rw [Sem.run_bind, hgl, Result.andThen_ok, if_neg (by cases st <;> simp_all)]
      rw [Sem.run_bind, run_setObj hrow (fun _ _ _ e => by cases e), Result.andThen_ok]
      rfl
    · have hst' : ∀ w4, St W σ { f with df := .inl (h.new .dfr).1 :: f.df } (r.2.set ((h.new .dfr).2.new (.loop .ready none f.n f.t ps.toList as body)).1 none) { a with defers := [{ target := .collected w.heap.size, args := #[] }] ++ a.defers } w4 ↔ St W σ { f with df := .inl (h.new .dfr).1 :: f.df } (r.2.set ((h.new .dfr).2.new (.loop .ready none f.n f.t ps.toList as body)).1 none) { a with defers := { target := .collected w.heap.size, args := #[] } :: a.defers } w4 := fun _ => Iff.rfl
      have hfin : St W σ { f with df := .inl (h.new .dfr).1 :: f.df } (r.2.set ((h.new .dfr).2.new (.loop .ready none f.n f.t ps.toList as body)).1 none) { a with defers := [{ target := .collected w.heap.size, args := #[] }] ++ a.defers } (World.upd w3 (w.alloc (.deferred (some []))).heap.size (.loop { state := .exhausted, pending := pend, fn := fn', tmps := tm', params := ps2.toArray, assign := as2, body := body2, defers := df' })) :=
        ⟨σ3, Sg.le_trans h12 hle3, hr3.loose hl (hle3 _ _ hs2) _, hf.t.mono (Sg.le_trans h12 hle3), .mark _ _ _ _ _ (Sg.le_trans hle2 hle3 _ _ hs1) (hf.d.mono (Sg.le_trans h12 hle3))⟩
      rcases pend_ok hp with ⟨rfl, rfl⟩ | ⟨rfl, rfl⟩ | ⟨i, rfl, rfl⟩ | ⟨l, rfl, rfl⟩
      · exact ⟨rfl, hfin⟩
      · exact wpIn_ret ⟨rfl, hfin⟩
      · exact wpIn_exit ⟨rfl, hfin⟩
      · exact wpIn_goto ⟨rfl, hfin⟩
theorem nn_then {e : Ex} {f : F} {hh : H} {σ0 : Sg} {next : Act → World → Prop} (hne : e ≠ .nrm) : ∀ x a w, XQ W σ0 e f hh x a w → Exit.then next (XQ W σ0 e f hh) x a w
  | .normal, _, _, hq => absurd hq.1 hne
  | .exit _, _, _, hq | .ret, _, _, hq | .goto _, _, _, hq => hq
  | .panic _, _, _, hq | .outgrown, _, _, hq => hq.elim
/-- Code that is run. -/
theorem code_ok {call : CallT} (hcall : CallOK P W call) {dr : DrawT} {r : Option Nat} (hdr : r = none → DrawOK P W dr) (N : Nat) : ∀ n, RunOK P W r N (codeA P call dr r.isSome n) ∧
    (∀ c f h e f' h', codeA P call dr r.isSome n (.loop c) f h = some (e, f', h') → ∃ m, ∀ σ0 σ a w, Sg.le σ0 σ → FR σ f a → HR W σ h w → Code.roundsIn (Fr r) N P c (XQ W σ0 e f' h') m a w) := by
  intro n
  induction n with
  | zero => exact ⟨fun c f h e f' h' hx => by simp [codeA] at hx, fun c f h e f' h' hx => by simp [codeA] at hx⟩
  | succ n ih =>
    obtain ⟨ih, ihl⟩ := ih
    have hloop : ∀ c f h e f' h', codeA P call dr r.isSome (n + 1) (.loop c) f h = some (e, f', h') → ∃ m, ∀ σ0 σ a w, Sg.le σ0 σ → FR σ f a → HR W σ h w → Code.roundsIn (Fr r) N P c (XQ W σ0 e f' h') m a w := by
      intro c f h e f' h' hx
      simp only [codeA] at hx
      split at hx
      · rename_i f1 h1 h2
        obtain ⟨m, hm⟩ := ihl _ _ _ _ _ _ hx
        refine ⟨m + 1, fun σ0 σ a w hle hf hr => ?_⟩
        rw [roundsIn_succ]
        refine wpIn_mono (ih _ _ _ _ _ _ h2 σ a w hf hr) fun e1 a1 w1 hq => ?_
        cases e1 with
        | normal => obtain ⟨_, σ', h3, h4, h5⟩ := hq; exact hm σ0 σ' a1 w1 (Sg.le_trans hle h3) h5 h4
        | exit i => exact absurd hq.1 (by simp)
        | ret => exact absurd hq.1 (by simp)
        | goto l => exact absurd hq.1 (by simp)
        | panic ch => exact hq.elim
        | outgrown => exact hq.elim
      · rename_i hne
        refine ⟨1, fun σ0 σ a w hle hf hr => ?_⟩
        rw [roundsIn_succ]
        exact wpIn_mono (ih _ _ _ _ _ _ hx σ a w hf hr) fun e1 a1 w1 hq => nn_then (fun e => by subst e; exact hne _ _ hx) _ _ _ (XQ.le hle _ _ _ hq)
    refine ⟨fun c f h e f' h' hx σ a w hf hr => ?_, hloop⟩
    have hst : ∀ {f : F} {h : H} {a : Act} {w : World}, FR σ f a → HR W σ h w → St W σ f h a w := fun hf hr => ⟨σ, Sg.le_refl _, hr, hf⟩
    cases c with
    | skip => simp only [codeA] at hx; cases hx; exact wpIn_skip ⟨rfl, hst hf hr⟩
    | label l => simp only [codeA] at hx; cases hx; exact wpIn_label ⟨rfl, hst hf hr⟩
    | ret => simp only [codeA] at hx; cases hx; exact wpIn_ret ⟨rfl, hst hf hr⟩
    | exit i => simp only [codeA] at hx; cases hx; exact wpIn_exit ⟨rfl, hst hf hr⟩
    | goto l => simp only [codeA] at hx; cases hx; exact wpIn_goto ⟨rfl, hst hf hr⟩
    | seq x y =>
      simp only [codeA] at hx
      split at hx
      · rename_i f1 h1 h2
        refine wpIn_seq (wpIn_mono (ih _ _ _ _ _ _ h2 σ a w hf hr) fun e1 a1 w1 hq => ?_)
        cases e1 with
        | normal => obtain ⟨_, σ', h3, h4, h5⟩ := hq; exact wpIn_mono (ih _ _ _ _ _ _ hx σ' a1 w1 h5 h4) (XQ.le h3)
        | exit i => exact absurd hq.1 (by simp)
        | ret => exact absurd hq.1 (by simp)
        | goto l => exact absurd hq.1 (by simp)
        | panic ch => exact hq.elim
        | outgrown => exact hq.elim
      · rename_i hne
        exact wpIn_seq (wpIn_mono (ih _ _ _ _ _ _ hx σ a w hf hr) fun e1 a1 w1 hq => nn_then (fun e => by subst e; exact hne _ _ hx) _ _ _ hq)
    | cond c x y =>
      simp only [codeA] at hx
      split at hx
      · rename_i hc; exact wpIn_cond_true (bool_ok (ev_ok hf.t hc)) (ih _ _ _ _ _ _ hx σ a w hf hr)
      · rename_i hc; exact wpIn_cond_false (bool_ok (ev_ok hf.t hc)) (ih _ _ _ _ _ _ hx σ a w hf hr)
      · cases hx
    | block i x =>
      simp only [codeA] at hx
      split at hx
      · rename_i j f1 h1 h2
        refine wpIn_block (wpIn_mono (ih _ _ _ _ _ _ h2 σ a w hf hr) fun e1 a1 w1 hq => ?_)
        cases e1 with
        | exit k =>
          obtain ⟨e2, hs⟩ := hq
          cases e2
          simp only [Exit.inBlock]
          split at hx
          · rename_i hji; subst hji; cases hx; rw [if_pos rfl]; exact ⟨rfl, hs⟩
          · rename_i hji; cases hx; rw [if_neg hji]; exact ⟨rfl, hs⟩
        | normal => exact absurd hq.1 (by simp)
        | ret => exact absurd hq.1 (by simp)
        | goto l => exact absurd hq.1 (by simp)
        | panic ch => exact hq.elim
        | outgrown => exact hq.elim
      · rename_i hne
        refine wpIn_block (wpIn_mono (ih _ _ _ _ _ _ hx σ a w hf hr) fun e1 a1 w1 hq => ?_)
        cases e1 with
        | exit k => obtain ⟨e2, hs⟩ := hq; subst e2; exact absurd hx (hne _ _ _)
        | normal => exact hq
        | ret => exact hq
        | goto l => exact hq
        | panic ch => exact hq.elim
        | outgrown => exact hq.elim
    | loop c =>
      obtain ⟨m, hm⟩ := hloop _ _ _ _ _ _ hx
      exact wpIn_loop_rounds m (hm σ σ a w (Sg.le_refl _) hf hr)
    | scope c =>
      simp only [codeA] at hx
      split at hx
      · cases hx
      · rename_i hro
        have hr0 : r = none := by cases r <;> simp at hro ⊢
        subst hr0
        exact wpIn_wide.2 (wp_scope_jw (jumps_ok ih n hx (Sg.le_refl _) hf hr))
    | region i ops d =>
      simp only [codeA] at hx
      cases d with
      | false =>
        simp only [Bool.false_eq_true, if_false] at hx
        split at hx
        · rename_i f1 h1 h2
          cases hx
          exact wpIn_region_list (ops_ok hcall (Sg.le_refl _) hf hr h2)
        · cases hx
      | true =>
        simp only [if_true] at hx
        split at hx
        · rename_i f1 h1 h2
          cases hx
          split at h2
          · cases h2
          · rename_i hro
            have hr0 : r = none := by cases r <;> simp at hro ⊢
            subst hr0
            exact wpIn_wide.2 (hdr rfl _ _ _ _ _ _ h2 σ a w hf hr)
        · cases hx
    | rangeFunc g ps as body =>
      simp only [codeA, rangeA] at hx
      split at hx
      · cases hx
      · rename_i hro
        have hr0 : r = none := by cases r <;> simp at hro ⊢
        subst hr0
        split at hx
        · rename_i k first cap hg
          split at hx
          · rename_i v h3 hc
            split at hx
            · cases hx
            · rename_i st pend n2 t2 ps2 as2 body2 hst hl
              split at hx
              · rename_i e2 hp
                cases hx
                exact range_ok hcall hf hr hg hc hl hst hp
              · cases hx
            · cases hx
          · cases hx
        · cases hx
    | refuse why => simp only [codeA] at hx; cases hx
end Go.Proofs.YtpidmmfjcghmeaaGreat.Ab
