/- Texts in one: AbRun. -/
import Derived.Test.YtpidmmfjcghmeaaGreatTs26
import Derived.RecoverIn
namespace Go.Proofs.YtpidmmfjcghmeaaGreat.Ab
open Go.RowKit
variable {P : Program} {σ : Sg} {W : World}
theorem argsF_get : ∀ (l : List AV) (i : Nat) (t : T AV) (j : Nat), (argsF i l t).get j = if i ≤ j ∧ j < i + l.length then l[j - i]? else t.get j
  | [], i, t, j => by rw [argsF, if_neg (by simp)]
  | x :: l, i, t, j => by
    rw [argsF, argsF_get l (i + 1) _ j, T.get_set]
    simp only [List.length_cons]
    by_cases h1 : i = j
    · subst h1
      rw [if_neg (by omega), if_pos rfl, if_pos (by omega)]; simp
    · by_cases h2 : i + 1 ≤ j ∧ j < i + 1 + l.length
      · rw [if_pos h2, if_pos (by omega), show j - i = (j - (i + 1)) + 1 by omega, List.getElem?_cons_succ]
      · rw [if_neg h2, if_neg (fun e => h1 e.symm), if_neg (by omega)]
theorem args_ok {args : List AV} {us : List Value} (h : VL σ args us) {n : Nat} (hn : args.length ≤ n) : FT σ n (argsF 0 args .nil) (us.toArray ++ Array.replicate (n - us.toArray.size) Go.undef) := by
  have hl := h.len
  refine ⟨by simp; omega, fun i => ?_⟩
  rw [argsF_get]
  simp only [Nat.zero_le, true_and, Nat.zero_add, Nat.sub_zero]
  by_cases hi : i < args.length
  · rw [if_pos hi]
    obtain ⟨v, h1, h2⟩ := h.get (List.getElem?_eq_getElem hi)
    rw [List.getElem?_eq_getElem hi, Option.getD_some, Array.getD_eq_getD_getElem?, Array.getElem?_append_left (by simp; omega)]
    simp only [List.getElem?_toArray, h1, Option.getD_some]
    exact h2
  · rw [if_neg hi, T.get_nil, Option.getD_none, Array.getD_eq_getD_getElem?, Array.getElem?_append_right (by simp; omega)]
    have : ((Array.replicate (n - us.toArray.size) Go.undef)[i - us.toArray.size]?).getD Go.undef = Go.undef := by
      rw [Array.getElem?_replicate]
      split <;> rfl
    rw [this]
    exact .und
theorem res_ok {f : F} {a : Act} {h : H} {w : World} (hf : FT σ f.n f.t a.tmps) (hr : HR W σ h w) : ∀ {l : List ResultVar} {vs : List AV}, resA P f h l = some vs →
    ∃ us, VL σ vs us ∧ (l.mapM (fun | .tmp t => pure (a.tmps.getD t Go.undef) | .cell x t => do loadVar t (← asAddr (a.tmps.getD x Go.undef)) : ResultVar → Sem Value)).run P w = .ok us w
  | [], vs, hx => by simp only [resA] at hx; cases hx; exact ⟨[], .nil, rfl⟩
  | .tmp t :: l, vs, hx => by
    simp only [resA] at hx
    split at hx
    · rename_i r hrs
      cases hx
      obtain ⟨us, h1, h2⟩ := res_ok hf hr hrs
      refine ⟨a.tmps.getD t Go.undef :: us, .cons _ _ _ _ (hf.2 t) h1, ?_⟩
      rw [List.mapM_cons, Sem.run_bind]
      simp only [run_p, Result.andThen_ok]
      rw [Sem.run_bind, h2, Result.andThen_ok, run_p]
    · cases hx
  | .cell x t :: l, vs, hx => by
    simp only [resA] at hx
    split at hx
    · rename_i p r hp hrs
      split at hx
      · rename_i v hv
        cases hx
        obtain ⟨us, h1, h2⟩ := res_ok hf hr hrs
        have hpv := hf.2 x
        have hp' : f.t.get x = some p := hp
        rw [hp', Option.getD_some] at hpv
        obtain ⟨u, h3, h4⟩ := load_ok (P := P) hr hpv hv
        refine ⟨u :: us, .cons _ _ _ _ h3 h1, ?_⟩
        have e : (do loadVar t (← asAddr (a.tmps.getD x Go.undef)) : Sem Value).run P w = .ok u w := by
          unfold loadA at hv
          split at hv
          · cases hpv' : a.tmps.getD x Go.undef <;> rw [hpv'] at hpv <;> cases hpv
            rw [hpv'] at h4
            exact h4
          · cases hv
        rw [List.mapM_cons, Sem.run_bind]
        refine Eq.trans (congrArg (fun z => Result.andThen z _) e) ?_
        rw [Result.andThen_ok, Sem.run_bind, h2, Result.andThen_ok, run_p]
      · cases hx
    · cases hx
theorem out_ok {f : F} {a : Act} {h : H} {w : World} (hf : FT σ f.n f.t a.tmps) (hr : HR W σ h w) {fn : Func} {x : AV} (hx : outA P fn f h = some x) : ∃ v, VR σ x v ∧ (results fn a.tmps).run P w = .ok v w := by
  unfold outA at hx
  have key : ∀ {vs : List AV}, resA P f h fn.results.toList = some vs → ∃ us : List Value, VL σ vs us ∧ (results fn a.tmps).run P w = .ok (if h : us.toArray.size = 1 then us.toArray[0] else .tuple us.toArray) w := fun hrs => by
    obtain ⟨us, h1, h2⟩ := res_ok hf hr hrs
    refine ⟨us, h1, ?_⟩
    unfold results
    rw [Array.mapM_eq_mapM_toList, map_eq_pure_bind, Sem.run_bind, Sem.run_bind]
    refine Eq.trans (congrArg (fun z => Result.andThen (Result.andThen z _) _) h2) ?_
    rw [Result.andThen_ok, run_p, Result.andThen_ok, run_p]
  split at hx
  · rename_i v hrs
    cases hx
    obtain ⟨us, h1, h2⟩ := key hrs
    cases h1 with
    | cons _ u _ us h3 h4 =>
      cases h4
      exact ⟨u, h3, h2⟩
  · rename_i l hne hrs
    cases hx
    obtain ⟨us, h1, h2⟩ := key hrs
    refine ⟨_, .tup _ _ h1, ?_⟩
    rw [h2]
    have hl := h1.len
    rw [dif_neg]
    intro e
    simp only [List.size_toArray] at e
    rw [e] at hl
    match l, hl with
    | [x], _ => exact hne x rfl
  · cases hx
/-- What is asked of a set-up. -/
structure CfgOK (P : Program) (W : World) (C : Cfg) : Prop where
  nam : ∀ (k : Nat) (fn : Func), P.funcs[k]? = some fn → (fn.name == "runtime.NumGoroutine") = false
  hook : ∀ k g, C.hook k = some g → ∀ args h r, g args h = some r → ∀ σ w us, HR W σ h w → VL σ args us →
    (callFunc k us.toArray).run P w = .ok (.enter k us.toArray) w ∧ Calls P k us.toArray w (fun e w' => ∃ v, e = .returned v ∧ Rs W σ r v w')
  draw : ∀ call, CallOK P W call → ∀ k, DrawOK P W (C.draw call k)
theorem enters {C : Cfg} (hC : CfgOK P W C) {k : Nat} {fn : Func} {c : Code} (hk : P.funcs[k]? = some fn) (hb : fn.body = some c) (args : Array Value) (w : World) : (callFunc k args).run P w = .ok (.enter k args) w := by
  unfold callFunc
  simp only [program, Bind.bind, Sem.bind, Sem.run, hk, hC.nam k fn hk, hb, Option.isNone_some, Bool.false_eq_true, if_false]
  rfl
theorem enter_ok {call : CallT} (hcall : CallOK P W call) {dr : DrawT} (hdr : DrawOK P W dr) (N : Nat) {fuel k : Nat} {args : List AV} {h h' : H} {f : F} {fn : Func} (hx : enterA P call dr fuel k args h = some (fn, f, h')) {w : World} {us : List Value} (hr : HR W σ h w) (hv : VL σ args us) :
    P.funcs[k]? = some fn ∧ ∃ c, fn.body = some c ∧ c.wpIn Fence.wide N P (fun x a w' => (x = .normal ∨ x = .ret) ∧ St W σ f h' a w') { tmps := us.toArray ++ Array.replicate (fn.ntmps - us.toArray.size) Go.undef, defers := [] } w := by
  unfold enterA at hx
  split at hx
  rotate_left
  · cases hx
  rename_i fn0 hfn
  split at hx
  rotate_left
  · cases hx
  rename_i c hc
  split at hx
  rotate_left
  · cases hx
  rename_i hlen
  have hfr : FR σ ⟨fn0.ntmps, argsF 0 args .nil, []⟩ { tmps := us.toArray ++ Array.replicate (fn0.ntmps - us.toArray.size) Go.undef, defers := [] } := ⟨args_ok hv hlen, .nil⟩
  split at hx
  · rename_i f1 h1 h2
    cases hx
    refine ⟨hfn, c, hc, wpIn_mono ((code_ok hcall (r := none) (fun _ => hdr) N fuel).1 _ _ _ _ _ _ h2 σ _ w hfr hr) fun e a w' hq => ?_⟩
    cases e with
    | normal => exact ⟨.inl rfl, hq.2⟩
    | ret => exact absurd hq.1 (by simp)
    | exit i => exact absurd hq.1 (by simp)
    | goto l => exact absurd hq.1 (by simp)
    | panic ch => exact hq.elim
    | outgrown => exact hq.elim
  · rename_i f1 h1 h2
    cases hx
    refine ⟨hfn, c, hc, wpIn_mono ((code_ok hcall (r := none) (fun _ => hdr) N fuel).1 _ _ _ _ _ _ h2 σ _ w hfr hr) fun e a w' hq => ?_⟩
    cases e with
    | ret => exact ⟨.inr rfl, hq.2⟩
    | normal => exact absurd hq.1 (by simp)
    | exit i => exact absurd hq.1 (by simp)
    | goto l => exact absurd hq.1 (by simp)
    | panic ch => exact hq.elim
    | outgrown => exact hq.elim
  · cases hx
theorem recovOps_ok {N : Nat} {ops : Array Oper} {h : H} {Q : Exit → Act → List Frame → World → Prop} {cs : List Frame} (hcs : recoverD cs = none) {w : World} (hr : HR W σ h w) : ∀ (l : List Oper) (k : Nat), (∀ j, l[j]? = ops[k + j]?) → ∀ {f f' : F} {a : Act}, recovA P h l f = some f' → FR σ f a →
    (∀ a', FR σ f' a' → Q .normal a' cs w) → wpOpsSIn Fence.wide N P ops Q (List.range' k l.length) a cs w
  | [], k, _, f, f', a, hx, hf, hQ => by
    simp only [recovA] at hx
    cases hx
    exact hQ a hf
  | o :: l, k, hl, f, f', a, hx, hf, hQ => by
    have h0 : ops[k]? = some o := by simpa using (hl 0).symm
    have hl' : ∀ j, l[j]? = ops[k + 1 + j]? := fun j => by have := hl (j + 1); simpa [Nat.add_assoc, Nat.add_comm 1 j] using this
    simp only [List.length_cons, List.range'_succ, wpOpsSIn, h0]
    refine ⟨fun _ _ => trivial, ?_⟩
    simp only [recovA] at hx
    split at hx
    · cases hx
    rename_i hg
    have hw : Region.wanted o (yielded ops a.tmps) = true := by unfold Region.wanted; rw [hg]
    rw [if_pos hw]
    split at hx
    · rename_i c hop
      split at hx
      · rename_i hcal
        split at hx
        · rename_i f1 hput
          have he : (execOp a.eval o).run P w = .ok .recover w := by
            obtain ⟨dst, op, ty, pos, af, gd⟩ := o
            obtain ⟨callee, args, ats⟩ := c
            simp only at hop hcal
            subst hop hcal
            rfl
          rw [he]
          simp only [hcs]
          exact recovOps_ok hcs hr l (k + 1) hl' hx (hf.put hput .ni) hQ
        · cases hx
      · cases hx
    · split at hx
      · rename_i v hv
        split at hx
        · rename_i f1 hput
          obtain ⟨u, h1, h2⟩ := pure_ok hf.t hr hv
          rw [h2 w]
          exact recovOps_ok hcs hr l (k + 1) hl' hx (hf.put hput h1) hQ
        · cases hx
      · cases hx
theorem recov_ok {call : CallT} (hcall : CallOK P W call) {dr : DrawT} (hdr : DrawOK P W dr) {fuel k : Nat} {args : List AV} {h h' : H} {f : F} {fn : Func} (hx : enterR P call dr fuel k args h = some (fn, f, h')) {w : World} {us : List Value} (hr : HR W σ h w) (hv : VL σ args us) (hdf : f.df = []) {o : AV} (ho : outA P fn f h' = some o) :
    CallsDIn Fence.wide 0 P k us.toArray .returning w (fun e u' w' => (∃ v, e = .returned v) ∧ u' = .returning ∧ ∃ σ', Sg.le σ σ' ∧ HR W σ' h' w') := by
  unfold enterR at hx
  split at hx
  rotate_left
  · cases hx
  rename_i fn0 hfn
  split at hx
  rotate_left
  · cases hx
  rename_i i ops c hc
  split at hx
  rotate_left
  · cases hx
  rename_i hcond
  split at hx
  rotate_left
  · cases hx
  rename_i f1 hrec
  have hfr : FR σ ⟨fn0.ntmps, argsF 0 args .nil, []⟩ { tmps := us.toArray ++ Array.replicate (fn0.ntmps - us.toArray.size) Go.undef, defers := [] } := ⟨args_ok hv hcond.2, .nil⟩
  have key : ∀ e, codeA P call dr false fuel c f1 h = some (e, f, h') → (e = .nrm ∨ e = .ret) → CallsDIn Fence.wide 0 P k us.toArray .returning w (fun e u' w' => (∃ v, e = .returned v) ∧ u' = .returning ∧ ∃ σ', Sg.le σ σ' ∧ HR W σ' h' w') ∨ outA P fn0 f h' ≠ some o := fun e h2 he => by
    by_cases hoo : outA P fn0 f h' = some o
    · refine .inl (callsDIn_of_wpSIn hfn hc trivial fun c₀ cs hm => ?_)
      have hD : recoverD (c₀ :: cs) = none := by unfold recoverD; simp only [hm]
      apply wpSIn_seq
      apply wpSIn_region
      rw [List.range_eq_range', ← Array.length_toList]
      refine recovOps_ok hD hr ops.toList 0 (by simp) hrec hfr fun a' hf' => ?_
      refine wpSIn_of_wpIn rfl (wpIn_mono ((code_ok hcall (r := none) (fun _ => hdr) 0 fuel).1 _ _ _ _ _ _ h2 σ a' w hf' hr) fun x a w' hq => ?_)
      have fin : St W σ f h' a w' → a.defers = [] ∧ ∃ u', c₀ :: cs = { c₀ with mode := u' } :: cs ∧ ∃ v, (results fn0 a.tmps).run P w' = .ok v w' ∧ (∃ v', Ending.returned v = .returned v') ∧ u' = .returning ∧ ∃ σ', Sg.le σ σ' ∧ HR W σ' h' w' := fun ⟨σ', h3, h4, h5⟩ => by
        have hdn : a.defers = [] := by
          have := h5.d
          rw [hdf] at this
          generalize a.defers = ds at this
          cases this
          rfl
        obtain ⟨v, _, h6⟩ := out_ok h5.t h4 hoo
        refine ⟨hdn, .returning, ?_, v, h6, ⟨v, rfl⟩, rfl, σ', h3, h4⟩
        rw [← hm]
      cases x with
      | normal => exact fin hq.2
      | ret => exact fin hq.2
      | exit i => rcases he with rfl | rfl <;> exact absurd hq.1 (by simp)
      | goto l => rcases he with rfl | rfl <;> exact absurd hq.1 (by simp)
      | panic ch => exact hq.elim
      | outgrown => exact hq.elim
    · exact .inr hoo
  split at hx
  · rename_i f2 h2 h3
    cases hx
    exact (key _ h3 (.inl rfl)).resolve_right (fun e => e ho)
  · rename_i f2 h2 h3
    cases hx
    exact (key _ h3 (.inr rfl)).resolve_right (fun e => e ho)
  · cases hx
theorem recov_enters {C : Cfg} (hC : CfgOK P W C) {call : CallT} {dr : DrawT} {fuel k : Nat} {args : List AV} {h h' : H} {f : F} {fn : Func} (hx : enterR P call dr fuel k args h = some (fn, f, h')) (us : Array Value) (w : World) : (callFunc k us).run P w = .ok (.enter k us) w := by
  unfold enterR at hx
  split at hx
  rotate_left
  · cases hx
  rename_i fn0 hfn
  split at hx
  rotate_left
  · cases hx
  rename_i i ops c hc
  exact enters hC hfn hc us w
theorem leaves_ok {C : Cfg} (hC : CfgOK P W C) {call : CallT} (hcall : CallOK P W call) {fn : Func} {tmps : Array Value} {R : Ending → World → Prop} {N : Nat} : ∀ {l : List (Sum Nat (Nat × List AV))} {h h' : H}, defersA P call (C.draw call) C.fuel l h = some h' →
    ∀ {σ : Sg} {ds : List Deferred} {w : World}, DL σ l ds → HR W σ h w → (∀ σ' w', Sg.le σ σ' → HR W σ' h' w' → ∃ v, (results fn tmps).run P w' = .ok v w' ∧ R (.returned v) w') → LeavesInM Fence.wide N P fn tmps R ds .returning w
  | [], h, h', hx, σ, ds, w, hd, hr, hfin => by
    simp only [defersA] at hx
    cases hx; cases hd
    exact hfin σ w (Sg.le_refl _) hr
  | .inl r :: l, h, h', hx, σ, ds, w, hd, hr, hfin => by
    simp only [defersA] at hx
    split at hx
    · rename_i hg
      cases hd with
      | mark _ b k _ ds hb hd =>
        obtain ⟨b', k', hb', _, _, ho⟩ := hr.obj _ _ hg
        obtain ⟨rfl, rfl⟩ : b' = b ∧ k' = k := by rw [hb] at hb'; simpa using hb'.symm
        have ho : w.heap[b']? = some (.deferred (some [])) := ho
        refine ⟨by simp, .inl ⟨b', World.upd w b' (.deferred none), rfl, ?_, leaves_ok hC hcall hx hd (hr.loose hg hb _) hfin⟩⟩
        unfold Instr.takeDeferred
        rw [Sem.run_bind, run_getObj ho (fun _ _ _ e => by cases e), Result.andThen_ok]
        simp only []
        rw [Sem.run_bind, run_setObj ho (fun _ _ _ e => by cases e), Result.andThen_ok]
        rfl
    · cases hx
  | .inr (k, args) :: l, h, h', hx, σ, ds, w, hd, hr, hfin => by
    simp only [defersA] at hx
    cases hd with
    | call _ _ us cap _ ds hv hd =>
      have e1 : us.toArray ++ cap.toArray = (us ++ cap).toArray := by simp
      split at hx
      · rename_i fn2 f2 h2 hent
        split at hx
        · rename_i o hdf ho
          have hcd := recov_ok hcall (hC.draw call hcall k) hent hr hv hdf ho
          have hen := recov_enters hC hent
          refine ⟨by simp, .inr ⟨(fun e => by cases e), _, _, k, (us ++ cap).toArray, rfl, ?_, (fun _ _ => trivial), trivial, fun c cs hm _ => ?_⟩⟩
          · simp only [invoke, e1]; exact hen _ _
          · obtain ⟨e, u', w', fr, ⟨⟨v, rfl⟩, rfl, σ', h3, h4⟩, hrest⟩ := hcd.2 c cs hm (room_wide _)
            exact ⟨_, _, _, fr, leaves_ok hC hcall hx (hd.mono h3) h4 (fun τ w'' hle => hfin τ w'' (Sg.le_trans h3 hle)), hrest⟩
        · cases hx
      · split at hx
        · rename_i fn2 f2 h2 hent
          split at hx
          · rename_i o hdf ho
            obtain ⟨hk, c, hc, hwp⟩ := enter_ok hcall (hC.draw call hcall k) 0 hent hr hv
            have hcd := callsDIn_of_wp (F := Fence.wide) (n := 0) (u := .returning) (R := fun e w' => (∃ v, e = .returned v) ∧ ∃ σ', Sg.le σ σ' ∧ HR W σ' h2 w') hk hc trivial (wpIn_mono hwp fun e a w' hq => by
              obtain ⟨he, σ', h3, h4, h5⟩ := hq
              have hdn : a.defers = [] := by
                have := h5.d
                rw [hdf] at this
                generalize a.defers = ds at this
                cases this
                rfl
              obtain ⟨v, _, h6⟩ := out_ok h5.t h4 ho
              rcases he with rfl | rfl
              · exact ⟨hdn, v, h6, ⟨v, rfl⟩, σ', h3, h4⟩
              · exact ⟨hdn, v, h6, ⟨v, rfl⟩, σ', h3, h4⟩)
            refine ⟨by simp, .inr ⟨(fun e => by cases e), _, _, k, (us ++ cap).toArray, rfl, ?_, (fun _ _ => trivial), trivial, fun c cs hm _ => ?_⟩⟩
            · simp only [invoke, e1]; exact enters hC hk hc _ _
            · obtain ⟨e, u', w', fr, ⟨rfl, ⟨v, rfl⟩, σ', h3, h4⟩, hrest⟩ := hcd.2 c cs hm (room_wide _)
              exact ⟨_, _, _, fr, leaves_ok hC hcall hx (hd.mono h3) h4 (fun τ w'' hle => hfin τ w'' (Sg.le_trans h3 hle)), hrest⟩
          · cases hx
        · cases hx
/-! ### Rounds -/
theorem puts_ok {n : Nat} : ∀ {ps : List Nat} {vs : List AV} {t t' : T AV}, putsF n ps vs t = some t' → ∀ {us : List Value} {c : Array Value}, VL σ vs us → FT σ n t c →
    us.length = ps.length ∧ FT σ n t' ((ps.zip us).foldl (fun tmps (p : Nat × Value) => tmps.setIfInBounds p.1 p.2) c)
  | [], [], t, t', h, us, c, hv, hf => by simp only [putsF] at h; cases h; cases hv; exact ⟨rfl, hf⟩
  | p :: ps, v :: vs, t, t', h, us, c, hv, hf => by
    simp only [putsF] at h
    split at h
    · rename_i hp
      cases hv with
      | cons _ u _ us h1 h2 =>
        obtain ⟨h3, h4⟩ := puts_ok h h2 (hf.set hp h1)
        exact ⟨by simp [h3], h4⟩
    · cases h
  | [], _ :: _, _, _, h, _, _, _, _ => by simp [putsF] at h
  | _ :: _, [], _, _, h, _, _, _, _ => by simp [putsF] at h
theorem end_ok {W : World} {h2 : H} {w : World} {τ : Sg} (hr : HR W τ h2 w) {l b k : Nat} (hb : τ l = some (b, k)) {st : LoopState} {pend : Option Code} {n : Nat} {t : T AV} {ps : List Nat} {as body : Code} (hg : h2.get l = some (.loop st pend n t ps as body)) (j : Option Code) :
    ∃ w', (Instr.endRound b j).run P w = .ok (.bool j.isNone) w' ∧ HR W τ (h2.set l (some (.loop (if j.isNone then .ready else .done) j n t ps as body))) w' := by
  obtain ⟨fn, df, tm, hrow, hft⟩ := loop_row hr hg hb
  refine ⟨World.upd w b (.loop { state := if j.isNone then .ready else .done, pending := j, fn := fn, tmps := tm, params := ps.toArray, assign := as, body := body, defers := df }), ?_, hr.upd hg hb ⟨fn, df, tm, rfl, hft⟩⟩
  unfold Instr.endRound
  rw [Sem.run_bind, run_getLoop hrow, Result.andThen_ok, Sem.run_bind, run_setObj hrow (fun _ _ _ e => by cases e), Result.andThen_ok]
  rfl
theorem yl_ok {C : Cfg} {call : CallT} (hcall : CallOK P W call) {l : Nat} {args : List AV} {h : H} {r : AV × H} {pend : Option Code} {n : Nat} {t : T AV} {ps : List Nat} {as body : Code} (hg : h.get l = some (.loop .ready pend n t ps as body)) {t1 : T AV} (hp : putsF n ps args t = some t1)
    {f1 : F} {h1 : H} (ha : codeA P call (fun _ _ _ _ => none) true C.fuel as ⟨n, t1, []⟩ h = some (.nrm, f1, h1)) {pend2 : Option Code} {n2 : Nat} {t2 : T AV} {ps2 : List Nat} {as2 body2 : Code} (hg1 : h1.get l = some (.loop .ready pend2 n2 t2 ps2 as2 body2))
    {e : Ex} {f2 : F} {h2 : H} (hbd : codeA P call (fun _ _ _ _ => none) true C.fuel body f1 (h1.set l (some (.loop .busy pend2 n2 t2 ps2 as2 body2))) = some (e, f2, h2)) {st3 : LoopState} {pend3 : Option Code} {n3 : Nat} {t3 : T AV} {ps3 : List Nat} {as3 body3 : Code} (hg2 : h2.get l = some (.loop st3 pend3 n3 t3 ps3 as3 body3))
    (hres : r = (.b (jumpOf e).isNone, h2.set l (some (.loop (if (jumpOf e).isNone then .ready else .done) (jumpOf e) n3 t3 ps3 as3 body3)))) {w : World} {us : List Value} {b k : Nat} (hr : HR W σ h w) (hv : VL σ args us) (hb : σ l = some (b, k)) :
    ∃ fn tmps as body, (Instr.yield b us.toArray).run P w = .ok (.round b fn tmps as body) w ∧ RoundIn Fence.wide 0 P b fn tmps as body w (fun e w' => ∃ v, e = .returned v ∧ Rs W σ r v w') := by
  obtain ⟨fn, df, tm, hrow, hft⟩ := loop_row hr hg hb
  obtain ⟨hlen, hft1⟩ := puts_ok hp hv hft
  refine ⟨fn, (ps.zip us).foldl (fun tmps (p : Nat × Value) => tmps.setIfInBounds p.1 p.2) tm, as, body, ?_, roundIn_of_wpIn trivial ?_⟩
  · unfold Instr.yield
    rw [Sem.run_bind, run_getLoop hrow, Result.andThen_ok, if_neg (by simp [hlen])]
    simp only [List.zip_toArray]
    rw [← Array.foldl_toList]
    rfl
  · have hfr : FR σ ⟨n, t1, []⟩ { tmps := (ps.zip us).foldl (fun tmps (p : Nat × Value) => tmps.setIfInBounds p.1 p.2) tm, defers := [] } := ⟨hft1, .nil⟩
    have h1ok := (code_ok hcall (r := some b) (dr := fun _ _ _ _ => none) (fun e => by cases e) 0 C.fuel).1 _ _ _ _ _ _ ha σ _ w hfr hr
    refine wpIn_mono h1ok fun x a1 w1 hq => ?_
    cases x with
    | normal =>
      obtain ⟨_, σ1, hle1, hr1, hf1⟩ := hq
      have hb1 := hle1 _ _ hb
      obtain ⟨fn1, df1, tm1, hrow1, hft2⟩ := loop_row hr1 hg1 hb1
      refine ⟨World.upd w1 b (.loop { state := .busy, pending := pend2, fn := fn1, tmps := tm1, params := ps2.toArray, assign := as2, body := body2, defers := df1 }), ?_, ?_⟩
      · unfold Instr.beginRound
        rw [Sem.run_bind, run_getLoop hrow1, Result.andThen_ok, Sem.run_bind, run_setObj hrow1 (fun _ _ _ e => by cases e), Result.andThen_ok]
        rfl
      · have hr2 := hr1.upd (y := .loop .busy pend2 n2 t2 ps2 as2 body2) hg1 hb1 (o := .loop { state := .busy, pending := pend2, fn := fn1, tmps := tm1, params := ps2.toArray, assign := as2, body := body2, defers := df1 }) ⟨fn1, df1, tm1, rfl, hft2⟩
        have h2ok := (code_ok hcall (r := some b) (dr := fun _ _ _ _ => none) (fun e => by cases e) 0 C.fuel).1 _ _ _ _ _ _ hbd σ1 _ _ hf1 hr2
        refine wpIn_mono h2ok fun y a2 w2 hq2 => ?_
        have fin : St W σ1 f2 h2 a2 w2 → ∃ v w', (Instr.endRound b (jumpOf e)).run P w2 = .ok v w' ∧ ∃ v', Ending.returned v = .returned v' ∧ Rs W σ r v' w' := fun ⟨σ2, hle2, hr3, _⟩ => by
          obtain ⟨w', h3, h4⟩ := end_ok (P := P) hr3 (hle2 _ _ hb1) hg2 (jumpOf e)
          exact ⟨_, w', h3, _, rfl, σ2, Sg.le_trans hle1 hle2, by rw [hres]; exact .b _, by rw [hres]; exact h4⟩
        cases y with
        | normal => obtain ⟨he, hs⟩ := hq2; subst he; exact fin hs
        | exit i => obtain ⟨he, hs⟩ := hq2; subst he; exact fin hs
        | ret => obtain ⟨he, hs⟩ := hq2; subst he; exact fin hs
        | goto i => obtain ⟨he, hs⟩ := hq2; subst he; exact fin hs
        | panic ch => exact hq2.elim
        | outgrown => exact hq2.elim
    | exit i => exact absurd hq.1 (by simp)
    | ret => exact absurd hq.1 (by simp)
    | goto l => exact absurd hq.1 (by simp)
    | panic ch => exact hq.elim
    | outgrown => exact hq.elim
/-- **What is run is so.** -/
theorem call_ok {C : Cfg} (hC : CfgOK P W C) : ∀ d, CallOK P W (callA P C d)
  | 0 => ⟨fun k args h r hx => by simp [callA] at hx, fun l args h r hx => by simp [callA] at hx⟩
  | d + 1 => by
    have hcall := call_ok hC d
    refine ⟨fun k args h r hx σ w us hr hv => ?_, fun l args h r hx σ w us b k hr hv hb => ?_⟩
    · simp only [callA] at hx
      split at hx
      · rename_i g hg
        exact hC.hook k g hg args h r hx σ w us hr hv
      · split at hx
        rotate_left
        · cases hx
        rename_i fn f h1 hent
        split at hx
        rotate_left
        · cases hx
        rename_i h2 hdf
        split at hx
        rotate_left
        · cases hx
        rename_i v hout
        cases hx
        obtain ⟨hk, c, hc, hwp⟩ := enter_ok hcall (hC.draw _ hcall k) 0 hent hr hv
        refine ⟨enters hC hk hc _ _, (callsIn_wide (n := 0)).1 (callsIn_of_wp_marks hk hc trivial (wpIn_mono hwp fun x a w' hq => ?_) rfl)⟩
        obtain ⟨hx, σ1, hle1, hr1, hf1⟩ := hq
        have hlv : LeavesInM Fence.wide 0 P fn a.tmps (fun e w' => ∃ u, e = .returned u ∧ Rs W σ (v, h2) u w') a.defers .returning w' :=
          leaves_ok hC hcall hdf hf1.d hr1 fun σ2 w2 hle2 hr2 => by
            obtain ⟨u, h3, h4⟩ := out_ok (P := P) (hf1.t.mono hle2) hr2 hout
            exact ⟨u, h4, u, rfl, σ2, Sg.le_trans hle1 hle2, h3, hr2⟩
        rcases hx with rfl | rfl
        · exact hlv
        · exact hlv
    · simp only [callA] at hx
      split at hx
      rotate_left
      · cases hx
      rename_i pend n t ps as body hg
      split at hx
      rotate_left
      · cases hx
      rename_i t1 hp
      split at hx
      rotate_left
      · cases hx
      rename_i f1 h1 ha
      split at hx
      rotate_left
      · cases hx
      rename_i pend2 n2 t2 ps2 as2 body2 hg1
      split at hx
      rotate_left
      · cases hx
      rename_i e f2 h2 hbd
      split at hx
      rotate_left
      · cases hx
      rename_i st3 pend3 n3 t3 ps3 as3 body3 hg2
      cases hx
      exact yl_ok hcall hg hp ha hg1 hbd hg2 rfl hr hv hb
end Go.Proofs.YtpidmmfjcghmeaaGreat.Ab
