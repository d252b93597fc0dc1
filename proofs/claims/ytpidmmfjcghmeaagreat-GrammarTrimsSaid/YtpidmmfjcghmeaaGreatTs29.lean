/- Texts in one: AbDraw. -/
import Derived.Test.YtpidmmfjcghmeaaGreatTs27
import Derived.Test.YtpidmmfjcghmeaaGreatTs28
import Derived.OrdersHeld
namespace Go.Proofs.YtpidmmfjcghmeaaGreat.Ab
open Go.RowKit
variable {P : Program} {σ : Sg} {W : World}
/-- In which order a region's operations are looked at: 'take': it may be taken first; 'exec': it is the only one; 'fork': one of two. -/
inductive Plan where
  | done
  | take (i : Nat) (p : Plan)
  | exec (i : Nat) (s : Option Nat) (p : Plan)
  | fork (i : Nat) (s : Option Nat) (p : Plan) (j : Nat) (s' : Option Nat) (q : Plan)
/-- Operations that may be taken first. -/
noncomputable def early (o : Oper) : Bool :=
  match o.op with
  | .move _ | .assign _ | .pick _ _ _ | .build _ _ | .nilCheck _ | .binOp _ _ _ _ _ | .unOp _ _ _ | .convert _ _ _ | .index _ _ _ | .makeInterface _ _ | .makeFunc _ _ _ | .slice _ _ _ _ _ | .fieldAddr _ _ _ | .field _ _ _ | .indexAddr _ _ _ | .extract _ _ | .load _ _ => true
  | .call c => match c.callee with
    | .builtin .len => true
    | .builtin .cap => true
    | .builtin .max => true
    | .builtin .min => true
    | _ => false
  | _ => false
/-- Operations that make a block at a place of their own. -/
noncomputable def makes (o : Oper) : Bool :=
  match o.op with
  | .alloc _ | .box _ _ | .buildSlice _ _ _ => true
  | .call c => match c.callee with | .builtin .append => true | _ => false
  | _ => false
noncomputable def slotOf (ops : Array Oper) (i : Nat) : Option Nat := match ops[i]? with | some o => if makes o then some i else none | none => none
noncomputable def firstOf (ops : Array Oper) (l : Array Bool) : List Nat → Option Nat
  | [] => none
  | i :: r => match ops[i]? with
    | some o => if early o && Region.free .any ops l i then some i else firstOf ops l r
    | none => none
noncomputable def planOf (fk : Bool) (ops : Array Oper) : Nat → Array Bool → Plan
  | 0, _ => .done
  | n + 1, l =>
    let rs := Region.ready .any ops l
    match firstOf ops l rs with
    | some i => .take i (planOf fk ops n (l.setIfInBounds i true))
    | none => match rs with
      | [i] => (if fk then .exec i (slotOf ops i) (planOf fk ops n (l.setIfInBounds i true)) else .exec i none (planOf fk ops n (l.setIfInBounds i true)))
      | [i, j] => .fork i (slotOf ops i) (planOf fk ops n (l.setIfInBounds i true)) j (slotOf ops j) (planOf fk ops n (l.setIfInBounds j true))
      | _ => .done
noncomputable def planOk (ops : Array Oper) : Nat → Array Bool → Plan → Bool
  | _, l, .done => (Region.ready .any ops l).isEmpty
  | n + 1, l, .take i p => (Region.ready .any ops l).contains i && (Region.free .any ops l i && planOk ops n (l.setIfInBounds i true) p)
  | n + 1, l, .exec i _ p => decide (Region.ready .any ops l = [i]) && planOk ops n (l.setIfInBounds i true) p
  | n + 1, l, .fork i _ p j _ q => decide (Region.ready .any ops l = [i, j]) && (planOk ops n (l.setIfInBounds i true) p && planOk ops n (l.setIfInBounds j true) q)
  | 0, _, _ => false
abbrev Con := Nat × TypeId × AV × AV
noncomputable def consOk (P : Program) (h : H) : List Con → Bool
  | [] => true
  | (_, t, p, v) :: l => (match loadA P h t p with | some u => eqA u v | none => false) && consOk P h l
/-- Does this operation wait for number i? -/
noncomputable def waits (o : Oper) (i : Nat) : Bool := o.after.any fun e => Region.binds .any e && e.on == i
noncomputable def keepC (o : Oper) (C : List Con) : List Con := C.filter fun c => !waits o c.1
/-- A number that was laid by is to be the next block's. -/
noncomputable def slotH (h : H) : Option Nat → Option H
  | none => some h
  | some s => if s ∈ h.rs ∧ h.sl = none then some { h with rs := h.rs.erase s, sl := some s } else none
/-- One operation that is carried out. -/
noncomputable def execA (P : Program) (call : CallT) (ops : Array Oper) (f : F) (h : H) (C : List Con) (i : Nat) (s : Option Nat) : Option (F × H × List Con) :=
  match ops[i]? with
  | none => none
  | some o => match o.op with
    | .defer _ => none
    | _ => match slotH h s with
      | none => none
      | some h0 => match stepA P call false ops f h0 o with
        | some (f1, h1) => if h1.sl.isNone && consOk P h1 (keepC o C) then some (f1, h1, keepC o C) else none
        | none => none
noncomputable def drawA (P : Program) (call : CallT) (ops : Array Oper) (base : Nat) : Plan → F → H → List Con → Option (F × H)
  | .done, f, h, _ => some (f, h)
  | .take i p, f, h, C => match ops[i]? with
    | none => none
    | some o => match wantedA ops f o with
      | false => (match putF f o.dst und with | some f => drawA P call ops base p f h C | none => none)
      | true => match pureA P f h o with
        | some v => (match putF f o.dst v with | some f => drawA P call ops base p f h C | none => none)
        | none => match o.op with
          | .load t a => match evF f a with
            | some pv => match loadA P h t pv with
              | some v => if det v then (match putF f o.dst v with | some f => drawA P call ops base p f h ((i, t, pv, v) :: C) | none => none) else none
              | none => none
            | none => none
          | _ => none
  | .exec i s p, f, h, C => match execA P call ops f h C i (s.map (base + ·)) with
    | some (f, h, C) => drawA P call ops base p f h C
    | none => none
  | .fork i s p j s' q, f, h, C => match execA P call ops f h C i (s.map (base + ·)), execA P call ops f h C j (s'.map (base + ·)) with
    | some (f1, h1, C1), some (f2, h2, C2) => match drawA P call ops base p f1 h1 C1, drawA P call ops base q f2 h2 C2 with
      | some r1, some r2 => if eqS r1 r2 then some r1 else none
      | _, _ => none
    | _, _ => none
noncomputable def range' : Nat → Nat → List Nat
  | _, 0 => []
  | b, n + 1 => b :: range' (b + 1) n
/-- Numbers laid by. -/
noncomputable def reserve (h : H) (n : Nat) : H := { h with nx := h.nx + n, rs := range' h.nx n ++ h.rs }
noncomputable def noYl (call : CallT) : CallT
  | .fn k, args, h => call (.fn k) args h
  | .yl _, _, _ => none
/-- Does a plan fork? -/
noncomputable def forks : Plan → Bool
  | .done => false
  | .take _ p => forks p
  | .exec _ _ p => forks p
  | .fork _ _ _ _ _ _ => true
/-- What is left of what was laid by is given up. -/
noncomputable def relieve (h : H) (b : Nat) : H := { h with rs := h.rs.filter fun i => decide (i < b) }
/-- What is done at a region that draws its order. -/
noncomputable def drawC (P : Program) (call : CallT) : DrawT := fun _ ops f h =>
  let l := Array.replicate ops.size false
  let p := planOf false ops ops.size l
  if Region.noSelect ops && h.sl.isNone then
    (if forks p then
      (let p := planOf true ops ops.size l
       if planOk ops ops.size l p then (match drawA P (noYl call) ops h.nx p f (reserve h ops.size) [] with
        | some (f1, h1) => some (f1, relieve h1 h.nx)
        | none => none) else none)
    else if planOk ops ops.size l p then drawA P (noYl call) ops 0 p f h [] else none)
  else none
/-! ### It is so -/
theorem Does.wp {o : Oper} {a : Act} {w : World} {R : Value → World → Prop} (h : Does P false o a w R) {K : Act → World → Prop} {Q : Exit → Act → World → Prop} (hK : ∀ v w', R v w' → K (a.put o.dst v) w') : o.wp P a w K Q := by
  unfold Oper.wp
  cases h with
  | val v w' h1 h2 => rw [h1]; exact hK v w' h2
  | skp w' h1 h2 => rw [h1]; exact hK _ w' h2
  | ent k args w' h1 h2 =>
    rw [h1]
    refine h2.mono ?_
    rintro e w'' ⟨v, rfl, hv⟩
    exact hK v w'' hv
  | rnd l fn tmps as body w' hb h1 h2 => cases hb
theorem noYl_ok {call : CallT} (h : CallOK P W call) : CallOK P W (noYl call) := ⟨fun k args hh r hx => h.fn k args hh r hx, fun l args hh r hx => by simp [noYl] at hx⟩
theorem rangeP_mem : ∀ (n b i : Nat), i ∈ range' b n ↔ b ≤ i ∧ i < b + n
  | 0, b, i => by simp [range']
  | n + 1, b, i => by rw [range', List.mem_cons, rangeP_mem n (b + 1) i]; omega
theorem rangeP_nodup : ∀ (n b : Nat), (range' b n).Nodup
  | 0, _ => by simp [range']
  | n + 1, b => by rw [range', List.nodup_cons]; exact ⟨fun h => by have := (rangeP_mem n (b + 1) b).1 h; omega, rangeP_nodup n (b + 1)⟩
theorem reserve_ok {h : H} {w : World} (hr : HR W σ h w) (n : Nat) : HR W σ (reserve h n) w := by
  have hmem : ∀ i, i ∈ (reserve h n).rs ↔ (h.nx ≤ i ∧ i < h.nx + n) ∨ i ∈ h.rs := fun i => by simp only [reserve, List.mem_append, rangeP_mem]
  refine ⟨hr.obj, hr.inj, fun i hi => hr.fre i (by simp only [reserve] at hi; omega), fun i hi => ?_, fun i hi => ?_, fun i hi => ?_, ?_, hr.bel⟩
  · rcases (hmem i).1 hi with h1 | h1
    · exact hr.fre i h1.1
    · exact hr.frs i h1
  · obtain ⟨h1, h2, h3⟩ := hr.fsl i hi
    exact ⟨h1, by simp only [reserve]; omega, fun e => by rcases (hmem i).1 e with h4 | h4; · omega
                                                          · exact h3 h4⟩
  · rcases (hmem i).1 hi with h1 | h1
    · exact h1.2
    · have := hr.rsl i h1; simp only [reserve]; omega
  · simp only [reserve]
    rw [List.nodup_append]
    refine ⟨rangeP_nodup _ _, hr.rnd, fun a ha b hb e => ?_⟩
    subst e
    have h1 := (rangeP_mem _ _ _).1 ha
    have h2 := hr.rsl _ hb
    omega
theorem slot_ok {h h0 : H} {w : World} (hr : HR W σ h w) {s : Option Nat} (hs : slotH h s = some h0) : HR W σ h0 w := by
  unfold slotH at hs
  split at hs
  · cases hs; exact hr
  · rename_i s
    split at hs
    · rename_i hc
      obtain ⟨h1, h2⟩ := hc
      cases hs
      exact ⟨hr.obj, hr.inj, hr.fre, fun i hi => hr.frs i (List.mem_of_mem_erase hi), fun i hi => by
        cases hi
        exact ⟨hr.frs _ h1, hr.rsl _ h1, fun e => (List.Nodup.mem_erase_iff hr.rnd).1 e |>.1 rfl⟩, fun i hi => hr.rsl i (List.mem_of_mem_erase hi), hr.rnd.erase _, hr.bel⟩
    · cases hs
/-! ### An order of one's own, with conditions that hold until an operation that waits is carried out -/
noncomputable def waitsAt (ops : Array Oper) (j i : Nat) : Bool := match ops[j]? with | some o => waits o i | none => false
noncomputable def keepL (ops : Array Oper) (j : Nat) (L : List (Nat × (World → Prop))) : List (Nat × (World → Prop)) := L.filter fun c => !waitsAt ops j c.1
section
variable {ops : Array Oper} {Q : Exit → Act → World → Prop}
noncomputable def wpAnyK (P : Program) (ops : Array Oper) (Q : Exit → Act → World → Prop) : Nat → Array Bool → List (Nat × (World → Prop)) → Act → World → Prop
  | 0, listed, _, a, w => Region.ready .any ops listed = [] ∧ Q .normal a w
  | n + 1, listed, L, a, w =>
    (Region.ready .any ops listed = [] → Q .normal a w) ∧
    ∀ j ∈ Region.ready .any ops listed, wpOp P ops Q j (fun a' w' => (∀ c ∈ keepL ops j L, c.2 w') ∧ wpAnyK P ops Q n (listed.setIfInBounds j true) (keepL ops j L) a' w') a w
theorem wpAny_of_K : ∀ (n : Nat) (listed : Array Bool) (L : List (Nat × (World → Prop))) (a : Act) (w : World), wpAnyK P ops Q n listed L a w → wpAny P .any ops Q n listed a w
  | 0, _, _, _, _, h => h
  | n + 1, _, _, _, _, h => ⟨h.1, fun j hj => wpOp_mono (fun a' w' h' => wpAny_of_K n _ _ a' w' h'.2) (h.2 j hj)⟩
theorem keepL_sub {j : Nat} {L L' : List (Nat × (World → Prop))} (h : ∀ c ∈ L', c ∈ L) : ∀ c ∈ keepL ops j L', c ∈ keepL ops j L := fun c hc => by
  unfold keepL at *
  rw [List.mem_filter] at *
  exact ⟨h c hc.1, hc.2⟩
theorem wpAnyK_sub : ∀ (n : Nat) (listed : Array Bool) (L L' : List (Nat × (World → Prop))) (a : Act) (w : World), (∀ c ∈ L', c ∈ L) → wpAnyK P ops Q n listed L a w → wpAnyK P ops Q n listed L' a w
  | 0, _, _, _, _, _, _, h => h
  | n + 1, _, _, _, _, _, hs, h => ⟨h.1, fun j hj => wpOp_mono (fun a' w' h' => ⟨fun c hc => h'.1 c (keepL_sub hs c hc), wpAnyK_sub n _ _ _ a' w' (keepL_sub hs) h'.2⟩) (h.2 j hj)⟩
theorem waits_not {j i : Nat} {oj : Oper} (hoj : ops[j]? = some oj) (h : ∀ e ∈ oj.after, Region.binds .any e = true → e.on ≠ i) : waitsAt ops j i = false := by
  unfold waitsAt
  rw [hoj]
  simp only [waits]
  rw [Array.any_eq_false']
  intro e he
  by_cases hb : Region.binds .any e = true
  · have := h e he hb
    simp [this]
  · simp [hb]
/-- **An operation that yields its value wherever a condition holds may be taken first**, and the condition is asked for only until an operation that waits for it. -/
theorem wpAnyK_first {i : Nat} {oi : Oper} {v : Value} {S : World → Prop} (hi : ops[i]? = some oi) (hsel : ∀ (j : Nat) (o : Oper) cs b, ops[j]? = some o → o.op ≠ .select cs b)
    (hQ : ∀ c a w, Q (.panic c) (a.put oi.dst v) w → Q (.panic c) a w) :
    ∀ (n : Nat) (listed : Array Bool) (L : List (Nat × (World → Prop))) (a : Act) (w : World),
      (∀ j oj, ops[j]? = some oj → j ≠ i → listed.getD j true = false → (∀ e ∈ oj.after, Region.binds .any e = true → e.on ≠ i) → oi.apart ops oj = true) →
      i ∈ Region.ready .any ops listed → YieldsIf P ops S oi v a → S w → (∀ c ∈ L, c.2 w) →
      wpAnyK P ops Q n (listed.setIfInBounds i true) ((i, S) :: L) (a.put oi.dst v) w → wpAnyK P ops Q (n + 1) listed L a w := by
  intro n
  induction n with
  | zero =>
    intro listed L a w _ hr hy hS hL H
    refine ⟨fun h => (by rw [h] at hr; cases hr), fun j hj => ?_⟩
    by_cases hji : j = i
    · subst hji; exact hy.wpOp hi hS ⟨fun c hc => hL c (List.mem_filter.1 hc).1, H⟩
    · have := ready_mono hj hji
      rw [H.1] at this
      cases this
  | succ n ih =>
    intro listed L a w hfree hr hy hS hL H
    refine ⟨fun h => (by rw [h] at hr; cases hr), fun j hj => ?_⟩
    by_cases hji : j = i
    · subst hji
      exact hy.wpOp hi hS ⟨fun c hc => hL c (List.mem_filter.1 hc).1, wpAnyK_sub _ _ _ _ _ _ (fun c hc => List.mem_cons_of_mem _ (List.mem_filter.1 hc).1) H⟩
    · have h1 := H.2 j (ready_mono hj hji)
      obtain ⟨hjun, oj, hoj, hall⟩ := mem_ready.1 hj
      have hnot : ∀ e ∈ oj.after, Region.binds .any e = true → e.on ≠ i := fun e he hb heq => by
        have h1 := hall e he hb
        have h0 := (mem_ready.1 hr).1
        rw [heq] at h1
        rcases Nat.lt_or_ge i listed.size with h' | h'
        · simp [h'] at h0 h1; rw [h0] at h1; cases h1
        · simp [Array.getElem?_eq_none h'] at h1
      have hk : keepL ops j ((i, S) :: L) = (i, S) :: keepL ops j L := by
        unfold keepL
        rw [List.filter_cons_of_pos (by rw [waits_not hoj hnot]; rfl)]
      rw [hk] at h1
      have h2 := wpOp_putIf hoj (hfree j oj hoj hji hjun hnot) (fun cs b => hsel i oi cs b hi) (fun cs b => hsel j oj cs b hoj) hQ hy h1
      have hfree' : ∀ k ok, ops[k]? = some ok → k ≠ i → (listed.setIfInBounds j true).getD k true = false →
          (∀ e ∈ ok.after, Region.binds .any e = true → e.on ≠ i) → oi.apart ops ok = true := fun k ok hk hki hun hno => by
        refine hfree k ok hk hki ?_ hno
        by_cases hjk : j = k
        · subst hjk; exact hjun
        · rw [getD_set_ne true hjk] at hun; exact hun
      refine wpOp_mono (fun a' w' h3 => ?_) h2
      obtain ⟨h4, h5, h6⟩ := h3
      have hLk : ∀ c ∈ keepL ops j L, c.2 w' := fun c hc => h5 c (List.mem_cons_of_mem _ hc)
      refine ⟨hLk, ih (listed.setIfInBounds j true) (keepL ops j L) a' w' hfree' (ready_mono hr (Ne.symm hji)) h4 (h5 (i, S) (List.mem_cons_self ..)) hLk ?_⟩
      rw [Array.setIfInBounds_comm _ _ hji]
      exact h6
end
theorem wpAnyK_cons {ops : Array Oper} {Q : Exit → Act → World → Prop} {i : Nat} {S : World → Prop} (n : Nat) (listed : Array Bool) (L : List (Nat × (World → Prop))) (a : Act) (w : World) (hS : ∀ w, S w) (h : wpAnyK P ops Q n listed L a w) : wpAnyK P ops Q n listed ((i, S) :: L) a w := by
  induction n generalizing listed L a w with
  | zero => exact h
  | succ n ih =>
    refine ⟨h.1, fun j hj => wpOp_mono (fun a' w' h' => ?_) (h.2 j hj)⟩
    have hk : keepL ops j ((i, S) :: L) = (i, S) :: keepL ops j L ∨ keepL ops j ((i, S) :: L) = keepL ops j L := by
      unfold keepL
      rw [List.filter_cons]
      split
      · exact .inl rfl
      · exact .inr rfl
    rcases hk with hk | hk
    · rw [hk]
      exact ⟨fun c hc => by
        rcases List.mem_cons.1 hc with rfl | hc
        · exact hS w'
        · exact h'.1 c hc, ih _ _ _ _ h'.2⟩
    · rw [hk]; exact h'
/-! ### The conditions of loads -/
abbrev Kon := Nat × TypeId × Value × Value
noncomputable def KL (P : Program) (K : List Kon) : List (Nat × (World → Prop)) := K.map fun c => (c.1, fun w => (Instr.loadAt c.2.1 c.2.2.1).run P w = .ok c.2.2.2 w)
inductive CL (σ : Sg) : List Con → List Kon → Prop
  | nil : CL σ [] []
  | cons (i t p v pv vv C K) : VR σ p pv → VR σ v vv → det v = true → CL σ C K → CL σ ((i, t, p, v) :: C) ((i, t, pv, vv) :: K)
theorem CL.mono {σ σ' : Sg} (h : Sg.le σ σ') : ∀ {C : List Con} {K : List Kon}, CL σ C K → CL σ' C K
  | _, _, .nil => .nil
  | _, _, .cons i t p v pv vv C K h1 h2 h3 h4 => .cons i t p v pv vv C K (h1.mono h) (h2.mono h) h3 (h4.mono h)
theorem CL.keep (o : Oper) : ∀ {C : List Con} {K : List Kon}, CL σ C K → CL σ (keepC o C) (K.filter fun c => !waits o c.1)
  | _, _, .nil => .nil
  | _, _, .cons i t p v pv vv C K h1 h2 h3 h4 => by
    unfold keepC
    by_cases hw : waits o i = true
    · rw [List.filter_cons_of_neg (by simp [hw]), List.filter_cons_of_neg (by simp [hw])]
      exact h4.keep o
    · rw [List.filter_cons_of_pos (by simp [hw]), List.filter_cons_of_pos (by simp [hw])]
      exact .cons i t p v pv vv _ _ h1 h2 h3 (h4.keep o)
theorem cons_ok {h : H} {w : World} (hr : HR W σ h w) : ∀ {C : List Con} {K : List Kon}, CL σ C K → consOk P h C = true → ∀ c ∈ KL P K, c.2 w
  | _, _, .nil, _ => by simp [KL]
  | _, _, .cons i t p v pv vv C K h1 h2 h3 h4, hc => by
    simp only [consOk, Bool.and_eq_true] at hc
    intro c hm
    simp only [KL, List.map_cons, List.mem_cons] at hm
    rcases hm with rfl | hm
    · obtain ⟨hc1, _⟩ := hc
      split at hc1
      · rename_i u hu
        have := eqA_eq hc1
        subst this
        obtain ⟨u', h5, h6⟩ := load_ok (P := P) hr h1 hu
        rw [det_eq h3 h2 h5]
        exact h6
      · cases hc1
    · exact cons_ok hr h4 hc.2 c hm
theorem keepL_KL {ops : Array Oper} {i : Nat} {o : Oper} (hi : ops[i]? = some o) (K : List Kon) : keepL ops i (KL P K) = KL P (K.filter fun c => !waits o c.1) := by
  unfold keepL KL
  rw [List.filter_map]
  congr 1
  apply List.filter_congr
  intro c _
  simp [waitsAt, hi]
theorem step_wp {call : CallT} (hcall : CallOK P W call) {ops : Array Oper} {f f' : F} {h h' : H} {a : Act} {w : World} (hf : FR σ f a) (hr : HR W σ h w) {i : Nat} {o : Oper} (hi : ops[i]? = some o) (hnd : ∀ c, o.op ≠ .defer c) (hx : stepA P (noYl call) false ops f h o = some (f', h'))
    {K : Act → World → Prop} {Q : Exit → Act → World → Prop} (hK : ∀ a w, St W σ f' h' a w → K a w) : wpOp P ops Q i K a w := by
  unfold wpOp
  rw [hi]
  simp only
  rw [wanted_ok hf.t]
  unfold stepA at hx
  split at hx
  · rename_i hw
    rw [hw, if_pos rfl]
    split at hx
    · rename_i c hop; exact absurd hop (hnd c)
    · split at hx
      rotate_left
      · cases hx
      rename_i v h1 hv
      split at hx
      rotate_left
      · cases hx
      rename_i f2 hp
      cases hx
      refine .inl ((aop_ok (y := false) (noYl_ok hcall) (fun _ l args h => rfl) hf.t hr hv).wp ?_)
      rintro u w' ⟨σ', h2, h3, h4⟩
      exact hK _ _ ⟨σ', h2, h4, (hf.mono h2).put hp h3⟩
  · rename_i hw
    rw [hw, if_neg (by simp)]
    split at hx
    · rename_i f1 hp
      cases hx
      exact hK _ _ ⟨σ, Sg.le_refl _, hr, hf.put hp .und⟩
    · cases hx
theorem exec_ok {call : CallT} (hcall : CallOK P W call) {ops : Array Oper} {f f' : F} {h h' : H} {C C' : List Con} {a : Act} {w : World} {i : Nat} {s : Option Nat} (hx : execA P (noYl call) ops f h C i s = some (f', h', C')) {σ0 : Sg} (hle : Sg.le σ0 σ) (hf : FR σ f a) (hr : HR W σ h w) {K : List Kon} (hc : CL σ C K)
    {Q : Exit → Act → World → Prop} {R : List (Nat × (World → Prop)) → Act → World → Prop}
    (hR : ∀ σ' K' a' w', Sg.le σ0 σ' → FR σ' f' a' → HR W σ' h' w' → CL σ' C' K' → (∀ c ∈ KL P K', c.2 w') → R (KL P K') a' w') :
    wpOp P ops Q i (fun a' w' => (∀ c ∈ keepL ops i (KL P K), c.2 w') ∧ R (keepL ops i (KL P K)) a' w') a w := by
  unfold execA at hx
  split at hx
  · cases hx
  rename_i o hi
  split at hx
  · cases hx
  rename_i hnd
  split at hx
  · cases hx
  rename_i h0 hs
  split at hx
  rotate_left
  · cases hx
  rename_i f1 h1 hst
  split at hx
  rotate_left
  · cases hx
  rename_i hok
  cases hx
  simp only [Bool.and_eq_true] at hok
  refine step_wp hcall hf (slot_ok hr hs) hi hnd hst ?_
  rintro a' w' ⟨σ', h2, h3, h4⟩
  rw [keepL_KL hi]
  have hc' := (hc.mono h2).keep o
  have hall := cons_ok (P := P) h3 hc' hok.2
  exact ⟨hall, hR σ' _ a' w' (Sg.le_trans hle h2) h4 h3 hc' hall⟩
theorem XQ.panic {σ0 : Sg} {e : Ex} {f : F} {h : H} : ∀ c (a a' : Act) w, XQ W σ0 e f h (.panic c) a w → XQ W σ0 e f h (.panic c) a' w := fun _ _ _ _ hq => hq.elim
theorem draw_ok {call : CallT} (hcall : CallOK P W call) {ops : Array Oper} (hns : Region.noSelect ops = true) (base : Nat) {σ0 : Sg} : ∀ (p : Plan) (n : Nat) (listed : Array Bool) {f f' : F} {h h' : H} {C : List Con}, planOk ops n listed p = true → drawA P (noYl call) ops base p f h C = some (f', h') →
    ∀ {σ : Sg} {K : List Kon} {a : Act} {w : World}, Sg.le σ0 σ → FR σ f a → HR W σ h w → CL σ C K → (∀ c ∈ KL P K, c.2 w) → wpAnyK P ops (XQ W σ0 .nrm f' h') n listed (KL P K) a w := by
  intro p
  induction p with
  | done =>
    intro n listed f f' h h' C hp hx σ K a w hle hf hr hc hL
    simp only [drawA] at hx
    cases hx
    have hq : XQ W σ0 .nrm f h .normal a w := ⟨rfl, σ, hle, hr, hf⟩
    cases n with
    | zero => simp only [planOk, List.isEmpty_iff] at hp; exact ⟨hp, hq⟩
    | succ n => simp only [planOk, List.isEmpty_iff] at hp; exact ⟨fun _ => hq, by rw [hp]; simp⟩
  | take i p ih =>
    intro n listed f f' h h' C hp hx σ K a w hle hf hr hc hL
    cases n with
    | zero => simp [planOk] at hp
    | succ n =>
      simp only [planOk, Bool.and_eq_true] at hp
      obtain ⟨hp1, hp2, hp3⟩ := hp
      have hrd : i ∈ Region.ready .any ops listed := by simpa using hp1
      simp only [drawA] at hx
      split at hx
      · cases hx
      rename_i o hi
      have first := fun {v : Value} {S : World → Prop} (hy : YieldsIf P ops S o v a) (hS : S w) (H : wpAnyK P ops (XQ W σ0 .nrm f' h') n (listed.setIfInBounds i true) ((i, S) :: KL P K) (a.put o.dst v) w) =>
        wpAnyK_first hi (Region.noSelect_spec hns) (fun c a w hq => XQ.panic c _ a w hq) n listed (KL P K) a w (Region.free_spec hi hp2) hrd hy hS hL H
      split at hx
      · rename_i hw
        split at hx
        · rename_i f1 hput
          exact first (v := Go.undef) (S := fun _ => True) (.inr ⟨by rw [wanted_ok hf.t]; exact hw, rfl⟩) trivial (wpAnyK_cons _ _ _ _ _ (fun _ => trivial) (ih n _ hp3 hx hle (hf.put hput .und) hr hc hL))
        · cases hx
      · rename_i hw
        have hwt : Region.wanted o (yielded ops a.tmps) = true := by rw [wanted_ok hf.t]; exact hw
        split at hx
        · rename_i v hv
          split at hx
          · rename_i f1 hput
            obtain ⟨u, h1, h2⟩ := pure_ok hf.t hr hv
            exact first (v := u) (S := fun _ => True) (.inl ⟨hwt, fun w _ => h2 w⟩) trivial (wpAnyK_cons _ _ _ _ _ (fun _ => trivial) (ih n _ hp3 hx hle (hf.put hput h1) hr hc hL))
          · cases hx
        · split at hx
          rotate_left
          · cases hx
          rename_i t x hop
          split at hx
          rotate_left
          · cases hx
          rename_i pv hpv
          split at hx
          rotate_left
          · cases hx
          rename_i v hv
          split at hx
          rotate_left
          · cases hx
          rename_i hdet
          split at hx
          rotate_left
          · cases hx
          rename_i f1 hput
          obtain ⟨u, h1, h2⟩ := load_ok (P := P) hr (ev_ok hf.t hpv) hv
          have hc' : CL σ ((i, t, pv, v) :: C) ((i, t, a.eval x, u) :: K) := .cons i t pv v (a.eval x) u C K (ev_ok hf.t hpv) h1 hdet hc
          refine first (v := u) (S := fun w => (Instr.loadAt t (a.eval x)).run P w = .ok u w) (.inl ⟨hwt, fun w hwl => ?_⟩) h2 ?_
          · obtain ⟨dst, op, ty, pos, af, gd⟩ := o
            simp only at hop
            subst hop
            exact run_v hwl
          · have := ih n _ hp3 hx hle (hf.put hput h1) hr hc' (fun c hm => by
              simp only [KL, List.map_cons, List.mem_cons] at hm
              rcases hm with rfl | hm
              · exact h2
              · exact hL c hm)
            exact this
  | exec i s p ih =>
    intro n listed f f' h h' C hp hx σ K a w hle hf hr hc hL
    cases n with
    | zero => simp [planOk] at hp
    | succ n =>
      simp only [planOk, Bool.and_eq_true, decide_eq_true_eq] at hp
      simp only [drawA] at hx
      split at hx
      rotate_left
      · cases hx
      rename_i f1 h1 C1 hex
      refine ⟨fun e => (by rw [hp.1] at e; cases e), fun j hj => ?_⟩
      rw [hp.1] at hj
      obtain rfl : j = i := by simpa using hj
      exact exec_ok hcall hex hle hf hr hc (R := fun L a' w' => wpAnyK P ops (XQ W σ0 .nrm f' h') n (listed.setIfInBounds j true) L a' w') fun σ' K' a' w' h2 h3 h4 h5 h6 => ih n _ hp.2 hx h2 h3 h4 h5 h6
  | fork i s p j s' q ihp ihq =>
    intro n listed f f' h h' C hp hx σ K a w hle hf hr hc hL
    cases n with
    | zero => simp [planOk] at hp
    | succ n =>
      simp only [planOk, Bool.and_eq_true, decide_eq_true_eq] at hp
      simp only [drawA] at hx
      split at hx
      rotate_left
      · cases hx
      rename_i f1 h1 C1 f2 h2 C2 hex1 hex2
      split at hx
      rotate_left
      · cases hx
      rename_i r1 r2 hd1 hd2
      split at hx
      rotate_left
      · cases hx
      rename_i heq
      have e12 := eqS_eq heq
      cases hx
      subst e12
      refine ⟨fun e => (by rw [hp.1] at e; cases e), fun k hk => ?_⟩
      rw [hp.1] at hk
      simp only [List.mem_cons, List.not_mem_nil, or_false] at hk
      rcases hk with rfl | rfl
      · exact exec_ok hcall hex1 hle hf hr hc (R := fun L a' w' => wpAnyK P ops (XQ W σ0 .nrm f' h') n (listed.setIfInBounds k true) L a' w') fun σ' K' a' w' h2 h3 h4 h5 h6 => ihp n _ hp.2.1 hd1 h2 h3 h4 h5 h6
      · exact exec_ok hcall hex2 hle hf hr hc (R := fun L a' w' => wpAnyK P ops (XQ W σ0 .nrm f' h') n (listed.setIfInBounds k true) L a' w') fun σ' K' a' w' h2 h3 h4 h5 h6 => ihq n _ hp.2.2 hd2 h2 h3 h4 h5 h6
theorem relieve_ok {h : H} {w : World} (hr : HR W σ h w) (b : Nat) : HR W σ (relieve h b) w := by
  have hs : ∀ i, i ∈ (relieve h b).rs → i ∈ h.rs := fun i hi => (List.mem_filter.1 hi).1
  exact ⟨hr.obj, hr.inj, hr.fre, fun i hi => hr.frs i (hs i hi), fun i hi => ⟨(hr.fsl i hi).1, (hr.fsl i hi).2.1, fun e => (hr.fsl i hi).2.2 (hs i e)⟩, fun i hi => hr.rsl i (hs i hi), hr.rnd.filter _, hr.bel⟩
theorem drawC_ok (hm : P.follows .mixedOrders = true) {call : CallT} (hcall : CallOK P W call) : DrawOK P W (drawC P call) := by
  intro id ops f h f' h' hx σ a w hf hr
  unfold drawC at hx
  simp only at hx
  split at hx
  rotate_left
  · cases hx
  rename_i hc
  simp only [Bool.and_eq_true] at hc
  have key : ∀ (base : Nat) (p : Plan) (hs : H) (f1 : F) (h1 : H), planOk ops ops.size (Array.replicate ops.size false) p = true → drawA P (noYl call) ops base p f hs [] = some (f1, h1) → HR W σ hs w →
      (Code.region id ops true).wp P (XQ W σ .nrm f1 h1) a w := fun base p hs f1 h1 hp hd hr' =>
    wp_region_any hm (wpAny_of_K _ _ _ _ _ (draw_ok hcall hc.1 base p ops.size _ hp hd (Sg.le_refl _) hf hr'.drew .nil (by simp [KL])))
  split at hx
  · split at hx
    · rename_i hp
      split at hx
      · rename_i f1 h1 hd
        cases hx
        refine wp_mono (key _ _ _ _ _ hp hd (reserve_ok hr _)) fun e a' w' hq => ?_
        cases e with
        | normal => obtain ⟨_, σ', h2, h3, h4⟩ := hq; exact ⟨rfl, σ', h2, relieve_ok h3 _, h4⟩
        | exit i => exact absurd hq.1 (by simp)
        | ret => exact absurd hq.1 (by simp)
        | goto l => exact absurd hq.1 (by simp)
        | panic ch => exact hq.elim
        | outgrown => exact hq.elim
      · cases hx
    · cases hx
  · split at hx
    · rename_i hp
      exact key _ _ _ _ _ hp hx hr
    · cases hx
end Go.Proofs.YtpidmmfjcghmeaaGreat.Ab
