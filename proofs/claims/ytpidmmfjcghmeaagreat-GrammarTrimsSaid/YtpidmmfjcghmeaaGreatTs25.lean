/- Texts in one: AbCode. -/
import Derived.Test.YtpidmmfjcghmeaaGreatTs24
import Derived.RangeFuncLeaves
import Derived.LoopNIn
import Derived.ScopeJumps
import Derived.TacticsIn
namespace Go.Proofs.YtpidmmfjcghmeaaGreat.Ab
open Go.RowKit
variable {P : Program} {σ : Sg} {W : World}
def Fr : Option Nat → Fence
  | none => Fence.wide
  | some l => Fence.wide.inRound l
theorem Fr.round (r : Option Nat) : (Fr r).round = r := by cases r <;> rfl
theorem Fr.fn (r : Option Nat) (k : FuncId) : (Fr r).fn k := by cases r <;> trivial
theorem Fr.depth (r : Option Nat) : (Fr r).depth = none := by cases r <;> rfl
theorem Fr.calls {r : Option Nat} {n : Nat} {f : FuncId} {args : Array Value} {w : World} {R : Ending → World → Prop} (h : Calls P f args w R) : CallsIn (Fr r) n P f args w R := by
  have := (callsIn_wide (n := n)).2 h
  cases r with
  | none => exact this
  | some l => exact this
theorem Fr.rnd {r : Option Nat} {n m l : Nat} {f : FuncId} {tmps : Array Value} {as body : Code} {w : World} {R : Ending → World → Prop} (h : RoundIn Fence.wide n P l f tmps as body w R) : RoundIn (Fr r) m P l f tmps as body w R := by
  have hw : RoundIn Fence.wide m P l f tmps as body w R := ⟨trivial, fun c cs _ => h.2 c cs (room_wide _)⟩
  cases r with
  | none => exact hw
  | some l' => exact hw
theorem Does.wpIn {y : Bool} {o : Oper} {a : Act} {w : World} {R : Value → World → Prop} (h : Does P y o a w R) (hd : ∀ c, o.op ≠ .defer c) (r : Option Nat) (n : Nat) {K : Act → World → Prop} {Q : Exit → Act → World → Prop} (hK : ∀ v w', R v w' → K (a.put o.dst v) w') : o.wpIn (Fr r) n P a w K Q := by
  refine ⟨fun f _ => Fr.fn r f, ?_⟩
  rw [Fr.round, Oper.semAt_eq _ _ _ hd]
  cases h with
  | val v w' h1 h2 => rw [h1]; exact hK v w' h2
  | skp w' h1 h2 => rw [h1]; exact hK _ w' h2
  | ent k args w' h1 h2 =>
    rw [h1]
    refine ⟨fun e => (by rw [Fr.depth] at e; cases e), Fr.calls (h2.mono ?_)⟩
    rintro e w'' ⟨v, rfl, hv⟩
    exact hK v w'' hv
  | rnd l fn tmps as body w' _ h1 h2 =>
    rw [h1]
    refine ⟨fun e => (by rw [Fr.depth] at e; cases e), Fr.rnd (h2.mono ?_)⟩
    rintro e w'' ⟨v, rfl, hv⟩
    exact hK v w'' hv
/-! ### Frames with what is put off -/
inductive DL (σ : Sg) : List (Sum Nat (Nat × List AV)) → List Deferred → Prop
  | nil : DL σ [] []
  | mark (r b k l ds) : σ r = some (b, k) → DL σ l ds → DL σ (.inl r :: l) ({ target := .collected b, args := #[] } :: ds)
  | call (k args us cap l ds) : VL σ args (us ++ cap) → DL σ l ds → DL σ (.inr (k, args) :: l) ({ target := .fn (.func k) cap.toArray, args := us.toArray } :: ds)
theorem DL.mono {σ σ' : Sg} (h : Sg.le σ σ') : ∀ {l : List (Sum Nat (Nat × List AV))} {ds : List Deferred}, DL σ l ds → DL σ' l ds
  | _, _, .nil => .nil
  | _, _, .mark r b k l ds hr hd => .mark r b k l ds (h _ _ hr) (hd.mono h)
  | _, _, .call k args us cap l ds hv hd => .call k args us cap l ds (hv.mono h) (hd.mono h)
structure FR (σ : Sg) (f : F) (a : Act) : Prop where
  t : FT σ f.n f.t a.tmps
  d : DL σ f.df a.defers
theorem FR.mono {σ σ' : Sg} (h : Sg.le σ σ') {f : F} {a : Act} (hf : FR σ f a) : FR σ' f a := ⟨hf.t.mono h, hf.d.mono h⟩
theorem FR.put {f f' : F} {a : Act} (hf : FR σ f a) {d : Option Tmp} {x : AV} {v : Value} (hp : putF f d x = some f') (hv : VR σ x v) : FR σ f' (a.put d v) := by
  unfold putF at hp
  cases d with
  | none => simp only at hp; cases hp; exact hf
  | some d =>
    obtain ⟨n, t, df⟩ := f
    simp only at hp
    split at hp
    · rename_i hd; cases hp; exact ⟨hf.t.set hd hv, hf.d⟩
    · cases hp
/-- A state of ours, and one of the model's. -/
def St (W : World) (σ : Sg) (f : F) (h : H) (a : Act) (w : World) : Prop := ∃ σ', Sg.le σ σ' ∧ HR W σ' h w ∧ FR σ' f a
def XQ (W : World) (σ : Sg) (e : Ex) (f : F) (h : H) : Exit → Act → World → Prop
  | .normal, a, w => e = .nrm ∧ St W σ f h a w
  | .exit i, a, w => e = .ext i ∧ St W σ f h a w
  | .ret, a, w => e = .ret ∧ St W σ f h a w
  | .goto l, a, w => e = .gt l ∧ St W σ f h a w
  | _, _, _ => False
theorem St.le {σ σ' : Sg} (h : Sg.le σ σ') {f : F} {hh : H} {a : Act} {w : World} (hs : St W σ' f hh a w) : St W σ f hh a w :=
  let ⟨τ, h1, h2, h3⟩ := hs; ⟨τ, Sg.le_trans h h1, h2, h3⟩
theorem XQ.le {σ σ' : Sg} (h : Sg.le σ σ') {e : Ex} {f : F} {hh : H} : ∀ x a w, XQ W σ' e f hh x a w → XQ W σ e f hh x a w
  | .normal, _, _, hq | .exit _, _, _, hq | .ret, _, _, hq | .goto _, _, _, hq => ⟨hq.1, hq.2.le h⟩
  | .panic _, _, _, hq | .outgrown, _, _, hq => hq.elim
theorem wanted_ok {ops : Array Oper} {f : F} {a : Act} (hf : FT σ f.n f.t a.tmps) (o : Oper) : Region.wanted o (yielded ops a.tmps) = wantedA ops f o := by
  unfold Region.wanted wantedA
  split
  · rename_i hg; rw [hg]
  · rename_i g want hg
    rw [hg]
    simp only
    unfold yielded
    cases ht : (ops[g]?).bind (·.dst) with
    | none => simp
    | some t =>
      have h1 := hf.2 t
      simp only [Option.bind_some, F.get]
      rw [Array.getD_eq_getD_getElem?] at h1
      cases h2 : a.tmps[t]? with
      | none =>
        rw [h2] at h1
        simp only [Option.getD_none] at h1
        cases h3 : f.t.get t with
        | none => simp
        | some x =>
          rw [h3] at h1
          simp only [Option.getD_some] at h1
          cases x <;> first | (simp; done) | cases h1
      | some v =>
        rw [h2] at h1
        simp only [Option.getD_some] at h1
        cases h3 : f.t.get t with
        | none =>
          rw [h3] at h1
          simp only [Option.getD_none] at h1
          cases h1
          simp
        | some x =>
          rw [h3] at h1
          simp only [Option.getD_some] at h1
          cases h1 <;> simp
theorem aop_ok {call : CallT} (hcall : CallOK P W call) {y : Bool} (hy : y = false → ∀ l args h, call (.yl l) args h = none) {f : F} {h : H} {a : Act} {w : World} (hf : FT σ f.n f.t a.tmps) (hr : HR W σ h w) {o : Oper} {r : AV × H} (hx : aop P call f h o = some r) : Does P y o a w (Rs W σ r) := by
  unfold aop at hx
  split at hx
  · rename_i v hv
    cases hx
    obtain ⟨u, h1, h2⟩ := pure_ok hf hr hv
    exact .val u w (h2 w) ⟨σ, Sg.le_refl _, h1, hr⟩
  · exact eff_ok hcall hy hf hr hx
theorem defer_ok {f f' : F} {a : Act} {ro : Bool} {c : Call} (hf : FR σ f a) (hx : deferA ro f c = some f') (ty : TypeId) : ro = false ∧ ∃ d, (∀ w, (resolve a.eval c ty).run P w = .ok d w) ∧ FR σ f' { a with defers := d :: a.defers } := by
  unfold deferA at hx
  obtain ⟨callee, args, ats⟩ := c
  split at hx
  · cases hx
  rename_i hro
  refine ⟨by simpa using hro, ?_⟩
  split at hx
  rotate_left
  · cases hx
  rename_i g as hg has
  simp only at hg has
  subst hg
  split at hx
  rotate_left
  · cases hx
  rename_i k first cap hgv
  cases hx
  obtain ⟨us, hus, hvs⟩ := evA_ok hf.t has
  have h1 := ev_ok hf.t hgv
  cases h2 : a.eval g <;> rw [h2] at h1 <;> cases h1
  rename_i xs ys hxs hys
  refine ⟨{ target := .fn (.func k) ys.toArray, args := xs.toArray ++ us.toArray }, fun w => ?_, hf.t, ?_⟩
  · unfold resolve
    simp only [hus, h2, Deferred.ofValue]
    rfl
  · have e : xs.toArray ++ us.toArray = (xs ++ us).toArray := by simp
    rw [e]
    exact .call k _ (xs ++ us) ys _ _ ((hxs.append hvs).append hys) hf.d
theorem step_ok {call : CallT} (hcall : CallOK P W call) {r : Option Nat} {n : Nat} {ops : Array Oper} {f f' : F} {h h' : H} {a : Act} {w : World} (hf : FR σ f a) (hr : HR W σ h w) {o : Oper} (hx : stepA P call r.isSome ops f h o = some (f', h')) {K : Act → World → Prop} {Q : Exit → Act → World → Prop}
    (hK : ∀ a w, St W σ f' h' a w → K a w) :
    (Region.wanted o (yielded ops a.tmps) = true → o.wpIn (Fr r) n P a w K Q) ∧ (Region.wanted o (yielded ops a.tmps) = false → K (a.put o.dst Go.undef) w) := by
  rw [wanted_ok hf.t]
  unfold stepA at hx
  split at hx
  · rename_i hw
    refine ⟨fun _ => ?_, fun e => (by rw [hw] at e; cases e)⟩
    split at hx
    · rename_i c hop
      split at hx
      rotate_left
      · cases hx
      rename_i f1 hd
      split at hx
      rotate_left
      · cases hx
      rename_i f2 hp
      cases hx
      obtain ⟨hro, d, h1, h2⟩ := defer_ok (P := P) hf hd o.type
      have hr0 : r = none := by cases r <;> simp at hro ⊢
      subst hr0
      refine ⟨fun f _ => trivial, ?_⟩
      have he : (o.semAt (Fr none).round a.eval).run P w = .ok (.defer d) w := by
        rw [Fr.round, Oper.semAt_none]
        obtain ⟨dst, op, ty, pos, af, gd⟩ := o
        simp only at hop
        subst hop
        simp only [execOp]
        rw [Sem.run_bind, h1, Result.andThen_ok]; rfl
      rw [he]
      exact hK _ _ ⟨σ, Sg.le_refl _, hr, h2.put hp .und⟩
    · rename_i hnd
      split at hx
      rotate_left
      · cases hx
      rename_i v h1 hv
      split at hx
      rotate_left
      · cases hx
      rename_i f2 hp
      cases hx
      refine (aop_ok (y := true) hcall (fun e => by cases e) hf.t hr hv).wpIn (fun c => hnd c) r n ?_
      rintro u w' ⟨σ', h2, h3, h4⟩
      exact hK _ _ ⟨σ', h2, h4, (hf.mono h2).put hp h3⟩
  · rename_i hw
    refine ⟨fun e => (by rw [hw] at e; cases e), fun _ => ?_⟩
    split at hx
    · rename_i f1 hp
      cases hx
      exact hK _ _ ⟨σ, Sg.le_refl _, hr, hf.put hp .und⟩
    · cases hx
theorem ops_ok {call : CallT} (hcall : CallOK P W call) {r : Option Nat} {n : Nat} {ops : Array Oper} {σ0 : Sg} : ∀ {l : List Oper} {σ : Sg} {f f' : F} {h h' : H} {a : Act} {w : World}, Sg.le σ0 σ → FR σ f a → HR W σ h w → opsA P call r.isSome ops l f h = some (f', h') →
    wpListIn (Fr r) n P ops (XQ W σ0 .nrm f' h') l a w
  | [], σ, f, f', h, h', a, w, hle, hf, hr, hx => by simp only [opsA] at hx; cases hx; exact ⟨rfl, σ, hle, hr, hf⟩
  | o :: l, σ, f, f', h, h', a, w, hle, hf, hr, hx => by
    simp only [opsA] at hx
    split at hx
    · rename_i f1 h1 hs
      have hK : ∀ a w, St W σ f1 h1 a w → wpListIn (Fr r) n P ops (XQ W σ0 .nrm f' h') l a w := fun a w ⟨σ', h2, h3, h4⟩ =>
        ops_ok hcall (n := n) (Sg.le_trans hle h2) h4 h3 hx
      have := step_ok hcall (n := n) (Q := XQ W σ0 .nrm f' h') hf hr hs hK
      simp only [wpListIn]
      split
      · rename_i hw; exact this.1 hw
      · rename_i hw; exact ⟨fun k _ => Fr.fn r k, this.2 (by simpa using hw)⟩
    · cases hx
end Go.Proofs.YtpidmmfjcghmeaaGreat.Ab
