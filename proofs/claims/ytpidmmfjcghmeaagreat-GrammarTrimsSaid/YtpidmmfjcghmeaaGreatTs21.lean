/- Texts in one: AbOp1, AbOp2. -/
import Derived.Test.YtpidmmfjcghmeaaGreatTs20
import Derived.Tactics
namespace Go.Proofs.YtpidmmfjcghmeaaGreat.Ab
open Go.RowKit
variable {P : Program} {σ : Sg} {W : World}
theorem ev_ok {f : F} {a : Act} (hf : FT σ f.n f.t a.tmps) {x : Operand} {v : AV} (h : evF f x = some v) : VR σ v (a.eval x) := by
  cases x with
  | tmp t =>
    have := hf.2 t
    simp only [evF, F.get] at h
    cases e : f.t.get t with
    | none => rw [e] at h this; simp at h; subst h; exact this
    | some u => rw [e] at h this; simp at h; subst h; exact this
  | const v => exact ofV_ok h
  | func g => simp only [evF] at h; cases h; exact .fn g [] [] [] [] .nil .nil
  | global g => simp only [evF] at h; cases h
theorem evL_ok {f : F} {a : Act} (hf : FT σ f.n f.t a.tmps) : ∀ {l : List Operand} {vs : List AV}, evL f l = some vs → VL σ vs (l.map a.eval)
  | [], vs, h => by simp [evL] at h; subst h; exact .nil
  | x :: l, vs, h => by
    simp only [evL] at h
    split at h
    · rename_i u us hu hus; cases h; exact .cons _ _ _ _ (ev_ok hf hu) (evL_ok hf hus)
    · cases h
inductive PL (σ : Sg) : List (Nat × AV) → List (Nat × Value) → Prop
  | nil : PL σ [] []
  | cons (i x v l vs) : VR σ x v → PL σ l vs → PL σ ((i, x) :: l) ((i, v) :: vs)
theorem evP_ok {f : F} {a : Act} (hf : FT σ f.n f.t a.tmps) : ∀ {l : List (Nat × Operand)} {vs : List (Nat × AV)}, evP f l = some vs → PL σ vs (l.map fun p => (p.1, a.eval p.2))
  | [], vs, h => by simp [evP] at h; subst h; exact .nil
  | (i, x) :: l, vs, h => by
    simp only [evP] at h
    split at h
    · rename_i u us hu hus; cases h; exact .cons _ _ _ _ _ (ev_ok hf hu) (evP_ok hf hus)
    · cases h
theorem pureRun_ok {α : Type} : ∀ {s : Sem α} {r : α}, pureRun P s = some r → ∀ w, s.run P w = .ok r w
  | .pure a, r, h, w => by simp [pureRun] at h; subst h; rfl
  | .program k, r, h, w => by simp only [pureRun] at h; exact pureRun_ok h w
  | .load .., _, h, _ | .store .., _, h, _ | .new .., _, h, _ | .shape .., _, h, _ | .freeze .., _, h, _ | .frozen .., _, h, _ | .getObj .., _, h, _ | .setObj .., _, h, _ | .choose .., _, h, _ | .sys .., _, h, _
  | .mark .., _, h, _ | .halt _, _, h, _ => by simp [pureRun] at h
theorem flat_ok {f : F} {a : Act} (hf : FT σ f.n f.t a.tmps) {o : Oper} {x : AV} (hs : ∀ cs b, o.op ≠ .select cs b) (h : flatOp P f o = some x) :
    ∃ v, VR σ x v ∧ ∀ w, (execOp a.eval o).run P w = .ok (.value v) w := by
  unfold flatOp at h
  split at h
  · rename_i hall
    split at h
    · rename_i v hv
      refine ⟨v, ofV_ok h, fun w => ?_⟩
      have hc : execOp a.eval o = execOp (fun x => match evF f x with | some v => (toV v).getD undef | none => undef) o := execOp_congr o hs fun y hy => by
        have h1 := List.all_eq_true.1 hall y (Array.mem_toList_iff.2 hy)
        cases e : evF f y with
        | none => rw [e] at h1; cases h1
        | some u =>
          rw [e] at h1
          cases e2 : toV u with
          | none => simp [e2] at h1
          | some z => simp only [e2, Option.getD_some]; exact toV_eq e2 (ev_ok hf e)
      rw [hc]; exact pureRun_ok hv w
    · cases h
  · cases h
/-! ### Lists of cells -/
theorem putL_len : ∀ {l : List AV} {off : Nat} {vs l' : List AV}, putL l off vs = some l' → l'.length = l.length ∧ (vs ≠ [] → off + vs.length ≤ l.length)
  | l, off, [], l', h => by simp [putL] at h; subst h; simp
  | l, off, v :: vs, l', h => by
    simp only [putL] at h
    split at h
    · have := putL_len h
      simp only [List.length_set] at this
      refine ⟨this.1, fun _ => ?_⟩
      cases vs with
      | nil => simp; omega
      | cons u us => have := this.2 (by simp); simp only [List.length_cons] at this ⊢; omega
    · cases h
/-- Cells put one by one. -/
def putV : List Value → Nat → List Value → List Value
  | c, _, [] => c
  | c, off, v :: vs => putV (c.set off v) (off + 1) vs
theorem putV_len : ∀ (vs : List Value) (c : List Value) (off : Nat), (putV c off vs).length = c.length
  | [], _, _ => rfl
  | v :: vs, c, off => by rw [putV, putV_len vs]; simp
theorem putL_ok : ∀ {l : List AV} {off : Nat} {vs l' : List AV}, putL l off vs = some l' → ∀ {c us : List Value}, VL σ l c → VL σ vs us → VL σ l' (putV c off us)
  | l, off, [], l', h, c, us, hl, hv => by simp [putL] at h; subst h; cases hv; exact hl
  | l, off, v :: vs, l', h, c, us, hl, hv => by
    simp only [putL] at h
    split at h
    · cases hv with
      | cons _ u _ us h1 h2 => exact putL_ok h (hl.set h1) h2
    · cases h
theorem putV_take : ∀ (vs c : List Value) (off n : Nat), off + vs.length ≤ n → (putV c off vs).take n = putV (c.take n) off vs
  | [], c, off, n, _ => rfl
  | v :: vs, c, off, n, h => by
    simp only [List.length_cons] at h
    rw [putV, putV, putV_take vs _ _ n (by omega), List.take_set]
theorem slots_ok {l l' : List AV} {off n : Nat} (h : slotsOf l off n = some l') {c : List Value} (hl : VL σ l c) : VL σ l' ((c.drop off).take n) ∧ off + n ≤ c.length := by
  unfold slotsOf at h
  split at h
  · cases h; exact ⟨(hl.drop off).take n, by have := hl.len; omega⟩
  · cases h
theorem foldl_put (off : Nat) : ∀ (vs : List Value) (k : Nat) (c : List Value),
    (vs.zipIdx k).foldl (fun cs (p : Value × Nat) => cs.setIfInBounds (off + p.2) p.1) c.toArray = (putV c (off + k) vs).toArray
  | [], _, _ => rfl
  | v :: vs, k, c => by
    rw [List.zipIdx_cons, List.foldl_cons, putV]
    have : c.toArray.setIfInBounds (off + k) v = (c.set (off + k) v).toArray := by simp
    rw [this, foldl_put off vs (k + 1)]
    rfl
theorem fill_ok {place : Nat → Option (Nat × Nat)} : ∀ {ps : List (Nat × AV)} {l l' : List AV}, fillA place l ps = some l' → ∀ {qs : List (Nat × Value)} {c : List Value}, PL σ ps qs → VL σ l c →
    ∃ c', Instr.fill place c.toArray qs = some c'.toArray ∧ VL σ l' c'
  | [], l, l', h, qs, c, hp, hl => by simp [fillA] at h; subst h; cases hp; exact ⟨c, by simp [Instr.fill], hl⟩
  | (i, x) :: ps, l, l', h, qs, c, hp, hl => by
    cases hp with
    | cons _ _ v _ vs hx hvs =>
      simp only [fillA] at h
      split at h
      · cases h
      · rename_i off size hpl
        split at h
        · cases h
        · rename_i hsz
          have hsz : (cellsOf x).length = size ∧ size ≠ 0 := by
            constructor
            · exact Classical.byContradiction fun e => hsz (.inl e)
            · exact fun e => hsz (.inr e)
          split at h
          · rename_i c1 hc1
            have hcx := cellsOf_ok hx
            have hl1 := putL_ok hc1 hl hcx
            obtain ⟨c', h1, h2⟩ := fill_ok h hvs hl1
            refine ⟨c', ?_, h2⟩
            have hlen := hcx.len
            have h3 := (putL_len hc1).2 (fun e => by rw [e] at hsz; simp at hsz; exact hsz.2 hsz.1.symm)
            have hll := hl.len
            simp only [Array.length_toList] at hlen
            rw [Instr.fill, hpl]
            simp only [List.size_toArray]
            rw [if_neg (by simp only [Bool.or_eq_true, decide_eq_true_eq]; omega)]
            rw [← Array.foldl_toList, Array.toList_zipIdx, foldl_put off v.cells.toList 0 c]
            exact h1
          · cases h
/-! ### Memory -/
theorem add_eq (b off i : Nat) : (⟨b, off, none⟩ : Addr).add i = ⟨b, off + i, none⟩ := by
  unfold Addr.add
  split
  · rename_i e; subst e; rfl
  · rfl
theorem upd_heap {w : World} {b : Nat} {o : Obj} (h : b < w.heap.size) : (World.upd w b o).heap[b]? = some o := by
  simp [World.upd, h]
theorem upd_upd (w : World) (b : Nat) (o o' : Obj) : World.upd (World.upd w b o) b o' = World.upd w b o' := by
  simp [World.upd]
theorem setCell_eq {w : World} {b off : Nat} {c : Array Value} {ty : TypeId} (h : w.heap[b]? = some (.cells c ty (0, 0))) (v : Value) :
    w.setCell ⟨b, off, none⟩ v = World.upd w b (.cells (c.setIfInBounds off v) ty (0, 0)) := by
  unfold World.setCell World.upd
  congr 1
  apply Array.ext_getElem?
  intro i
  rw [Array.getElem?_modify, Array.getElem?_setIfInBounds]
  by_cases e : b = i
  · subst e
    rw [if_pos rfl, if_pos rfl, h]
    have hlt : b < w.heap.size := (Array.getElem?_eq_some_iff.1 h).1
    simp [hlt]
  · rw [if_neg e, if_neg e]
def oneV : Value → Bool
  | .agg _ => false
  | .tuple _ => false
  | _ => true
theorem store1 {w : World} {b off : Nat} {c : Array Value} {ty : TypeId} (h : w.heap[b]? = some (.cells c ty (0, 0))) (ho : off < c.size) {v : Value} (hv : oneV v = true) :
    (store ⟨b, off, none⟩ v).run P w = .ok () (World.upd w b (.cells (c.setIfInBounds off v) ty (0, 0))) := by
  have hc : w.cell? ⟨b, off, none⟩ = some c[off] := by simp [World.cell?, h, ho]
  have hz : w.frozen? ⟨b, off, none⟩ = false := by simp [World.frozen?, h]
  rw [← setCell_eq h]
  unfold store
  cases v <;> first | (simp [oneV] at hv; done) | simp [Sem.run, hc, hz]
theorem stores {ty : TypeId} {b off : Nat} : ∀ (vs : List Value) (i : Nat) (c : List Value) (w : World), w.heap[b]? = some (.cells c.toArray ty (0, 0)) → off + i + vs.length ≤ c.length → (∀ v ∈ vs, oneV v = true) → vs ≠ [] →
    (storeCells ⟨b, off, none⟩ vs i).run P w = .ok () (World.upd w b (.cells (putV c (off + i) vs).toArray ty (0, 0)))
  | [], _, _, _, _, _, _, hne => absurd rfl hne
  | [v], i, c, w, h, hl, hv, _ => by
    simp only [List.length_cons, List.length_nil] at hl
    rw [storeCells, Sem.run_bind, add_eq, store1 h (by simp; omega) (hv v (by simp)), Result.andThen_ok]
    simp [storeCells, putV, Pure.pure]
  | v :: u :: vs, i, c, w, h, hl, hv, _ => by
    simp only [List.length_cons] at hl
    have hlt : b < w.heap.size := (Array.getElem?_eq_some_iff.1 h).1
    rw [storeCells, Sem.run_bind, add_eq, store1 h (by simp; omega) (hv v (by simp)), Result.andThen_ok]
    have e : c.toArray.setIfInBounds (off + i) v = (c.set (off + i) v).toArray := by simp
    rw [e, stores (u :: vs) (i + 1) (c.set (off + i) v) _ (upd_heap hlt) (by simp; omega) (fun z hz => hv z (List.mem_cons_of_mem _ hz)) (by simp), upd_upd]
    rfl
theorem loadsFrom {ty : TypeId} {b off : Nat} {c : List Value} {w : World} {fz : Nat × Nat} (h : w.heap[b]? = some (.cells c.toArray ty fz)) : ∀ (n i : Nat) (acc : Array Value), off + i + n ≤ c.length →
    (loadCellsFrom ⟨b, off, none⟩ i n acc).run P w = .ok (acc ++ ((c.drop (off + i)).take n).toArray) w
  | 0, i, acc, _ => by simp [loadCellsFrom, Pure.pure]
  | n + 1, i, acc, hl => by
    have hlt : off + i < c.length := by omega
    have hc : w.cell? ⟨b, off + i, none⟩ = some c[off + i] := by simp [World.cell?, h, hlt]
    have h1 : (load ⟨b, off + i, none⟩).run P w = .ok c[off + i] w := by simp [load, Sem.run, hc]
    rw [loadCellsFrom, Sem.run_bind, add_eq, h1, Result.andThen_ok, loadsFrom h n (i + 1) _ (by omega)]
    congr 1
    rw [List.drop_eq_getElem_cons hlt, List.take_succ_cons]
    apply Array.ext'
    simp [Nat.add_assoc]
theorem loads {ty : TypeId} {b off : Nat} {c : List Value} {w : World} {fz : Nat × Nat} (h : w.heap[b]? = some (.cells c.toArray ty fz)) (n : Nat) (hl : off + n ≤ c.length) :
    (loadCells ⟨b, off, none⟩ n).run P w = .ok ((c.drop off).take n).toArray w := by
  rw [loadCells, loadsFrom h n 0 #[] (by omega)]
  simp
/-! ### What the program says of types -/
theorem run_und {t : TypeId} {d : TypeDesc} (h : P.underlying t = some d) (w : World) : (underlying t).run P w = .ok d w := run_underlying h w
theorem run_inf {t : TypeId} {i : TypeInfo} (h : P.info? t = some i) (w : World) : (typeInfo t).run P w = .ok i w := by
  simp [typeInfo, program, Bind.bind, Sem.bind, Sem.run, h, Pure.pure]
theorem run_sz {t n : Nat} (h : sz P t = some n) (w : World) : (sizeOf t).run P w = .ok n w := by
  unfold sz at h
  split at h
  · rename_i i hi; cases h; rw [sizeOf, Sem.run_bind, run_inf hi, Result.andThen_ok]; rfl
  · cases h
theorem run_isA {t : Nat} {b : Bool} (h : isA P t = some b) (w : World) : (isAgg t).run P w = .ok b w := by
  unfold isA at h
  rw [isAgg, Sem.run_bind]
  split at h
  · rename_i d hd; cases h; rw [run_und hd]; rfl
  · rename_i d hd; cases h; rw [run_und hd]; rfl
  · rename_i d h1 h2 hd; cases h; rw [run_und hd, Result.andThen_ok]
    split
    · exact (h1 _ rfl).elim
    · exact (h2 _ _ rfl).elim
    · rfl
  · cases h
theorem run_zero {t : Nat} {x : AV} (h : zeroOf P t = some x) : ∃ v, VR σ x v ∧ ∀ w, (zeroValue t).run P w = .ok v w := by
  unfold zeroOf at h
  split at h
  · rename_i i hi
    split at h
    · rename_i z hz
      exact ⟨z, ofV_ok h, fun w => by rw [zeroValue, Sem.run_bind, run_inf hi, Result.andThen_ok, hz]; rfl⟩
    · cases h
  · cases h
theorem run_part {t off : Nat} {l : List AV} {x : AV} (h : partOf P t l off = some x) {c : List Value} (hl : VL σ l c) : ∃ v, VR σ x v ∧ ∀ w, (part t c.toArray off).run P w = .ok v w := by
  unfold partOf at h
  split at h
  · rename_i hA
    split at h
    · rename_i n hn
      split at h
      · rename_i l' hl'
        cases h
        refine ⟨_, .agg _ _ (slots_ok hl' hl).1, fun w => ?_⟩
        rw [part, Sem.run_bind, run_isA hA, Result.andThen_ok]
        simp only [if_true]
        rw [Sem.run_bind, run_sz hn, Result.andThen_ok]
        simp only [Pure.pure, Sem.run]
        congr 2
        apply Array.ext'
        simp [List.take_drop]
      · cases h
    · cases h
  · rename_i hA
    obtain ⟨v, h1, h2⟩ := hl.get h
    refine ⟨v, h2, fun w => ?_⟩
    rw [part, Sem.run_bind, run_isA hA, Result.andThen_ok]
    simp [h1, Pure.pure]
  · cases h
/-- The cells that are known of a row. -/
theorem OR.row {l : List AV} {ty k : Nat} {o : Option Obj} (h : OR σ (.cells l ty) k o) : ∃ c : List Value, o = some (.cells c.toArray ty (0, 0)) ∧ c.length = k ∧ l.length ≤ c.length ∧ VL σ l (c.take l.length) := by
  obtain ⟨c, e, e2, u, e3, e4, e5⟩ := h
  subst e5
  refine ⟨c, e, e2, ?_, e4⟩
  rw [List.length_take] at e3
  omega
theorem load_ok {h : H} {w : World} (hr : HR W σ h w) {t : Nat} {p x : AV} {pv : Value} (hp : VR σ p pv) (hx : loadA P h t p = some x) : ∃ v, VR σ x v ∧ (Instr.loadAt t pv).run P w = .ok v w := by
  unfold loadA at hx
  split at hx
  · rename_i id off
    split at hx
    · rename_i l ty hg
      obtain ⟨b, k, hb, _, _, ho⟩ := hr.obj _ _ hg
      obtain ⟨c, hc, _, hlen, hl⟩ := ho.row
      cases hp with
      | ptr _ _ b' k' hb' =>
        obtain ⟨rfl, rfl⟩ : b = b' ∧ k = k' := by rw [hb] at hb'; simpa using hb'
        rw [Instr.loadAt, Sem.run_bind]
        simp only [Instr.sureAddr, Pure.pure, Sem.run, Result.andThen_ok]
        unfold partOf at hx
        split at hx
        · rename_i hA
          split at hx
          · rename_i n hn
            split at hx
            · rename_i l' hl'
              cases hx
              have hs := slots_ok hl' hl
              refine ⟨_, .agg _ _ hs.1, ?_⟩
              rw [loadVar, Sem.run_bind, run_isA hA, Result.andThen_ok]
              simp only [if_true]
              rw [Sem.run_bind, run_sz hn, Result.andThen_ok, Sem.run_bind]
              have hs2 := hs.2
              rw [List.length_take] at hs2
              rw [loads hc n (by omega), Result.andThen_ok]
              simp only [Pure.pure, Sem.run]
              congr 3
              rw [List.drop_take, List.take_take]
              congr 1
              omega
            · cases hx
          · cases hx
        · rename_i hA
          obtain ⟨v, h1, h2⟩ := hl.get hx
          refine ⟨v, h2, ?_⟩
          rw [loadVar, Sem.run_bind, run_isA hA, Result.andThen_ok]
          have hv : c[off]? = some v := by
            rw [List.getElem?_take] at h1
            split at h1
            · exact h1
            · cases h1
          have hcell : w.cell? ⟨b, off, none⟩ = some v := by simp [World.cell?, hc, hv]
          simp [load, Sem.run, hcell]
        · cases hx
    · cases hx
  · cases hx
theorem oneA_ok {x : AV} {v : Value} (h : VR σ x v) (hx : oneA x = true) : oneV v = true := by
  cases h <;> first | rfl | simp [oneA] at hx
theorem oneAs {l : List AV} {c : List Value} (h : VL σ l c) (ha : l.all oneA = true) : ∀ v ∈ c, oneV v = true := by
  induction l generalizing c with
  | nil => cases h; simp
  | cons x l ih =>
    cases h with
    | cons _ v _ c h1 h2 =>
      simp only [List.all_cons, Bool.and_eq_true] at ha
      intro u hu
      cases hu with
      | head => exact oneA_ok h1 ha.1
      | tail _ hm => exact ih h2 ha.2 u hm
/-- Cells put into a row: the row is as it is said behind it. -/
theorem OR.put {l l' new : List AV} {ty k off : Nat} {c us : List Value} (hk : c.length = k) (hlen : l.length ≤ c.length) (hl : VL σ l (c.take l.length)) (hp : putL l off new = some l') (hn : VL σ new us) :
    OR σ (.cells l' ty) k (some (.cells (putV c off us).toArray ty (0, 0))) := by
  have h1 := putL_ok hp hl hn
  have h2 := putL_len hp
  refine ⟨_, rfl, by rw [putV_len]; exact hk, putV (c.take l.length) off us, ?_, h1, ?_⟩
  · rw [putV_len, List.length_take, h2.1]; omega
  · rw [h2.1]
    cases us with
    | nil => rfl
    | cons u us =>
      have h3 : new.length = (u :: us).length := hn.len
      have h4 := h2.2 (fun e => by rw [e] at h3; simp at h3)
      rw [putV_take _ _ _ _ (by omega)]
theorem store_ok {h h' : H} {w : World} (hr : HR W σ h w) {t : Nat} {p x : AV} {pv v : Value} (hp : VR σ p pv) (hv : VR σ x v) (hx : storeA P h t p x = some h') : ∃ w', (Instr.storeAt t pv v).run P w = .ok () w' ∧ HR W σ h' w' := by
  unfold storeA at hx
  split at hx
  · rename_i id off
    split at hx
    · rename_i l ty hg
      obtain ⟨b, k, hb, _, hlt, ho⟩ := hr.obj _ _ hg
      obtain ⟨c, hc, hck, hlen, hl⟩ := ho.row
      cases hp with
      | ptr _ _ b' k' hb' =>
        obtain ⟨rfl, rfl⟩ : b = b' ∧ k = k' := by rw [hb] at hb'; simpa using hb'
        split at hx
        · rename_i hcond
          obtain ⟨hsz, hone⟩ := hcond
          split at hx
          · rename_i l' hl'
            cases hx
            have hcx := cellsOf_ok hv
            have hclen := hcx.len
            simp only [Array.length_toList] at hclen
            rw [Instr.storeAt, Sem.run_bind]
            simp only [Instr.sureAddr, Pure.pure, Sem.run, Result.andThen_ok]
            rw [storeVar, Sem.run_bind, run_sz hsz, Result.andThen_ok]
            rw [if_neg (by simp; exact hclen.symm)]
            cases hne : v.cells.toList with
            | nil =>
              have h0 : cellsOf x = [] := List.eq_nil_of_length_eq_zero (by rw [hclen, ← Array.length_toList, hne]; rfl)
              rw [h0] at hl'; simp only [putL] at hl'; cases hl'
              exact ⟨w, by simp [storeCells, Pure.pure], hr.same_set hg⟩
            | cons u us =>
              have h4 := (putL_len hl').2 (fun e => by rw [e] at hcx; rw [hne] at hcx; cases hcx)
              have hul : (u :: us).length = (cellsOf x).length := by rw [← hne, Array.length_toList, hclen]
              have hst := stores (P := P) (off := off) (u :: us) 0 c w hc (by omega) (by rw [← hne]; exact oneAs hcx hone) (by simp)
              refine ⟨_, hst, hr.upd hg hb ?_⟩
              rw [hne] at hcx
              exact OR.put hck hlen hl hl' hcx
          · cases hx
        · cases hx
    · cases hx
  · cases hx
end Go.Proofs.YtpidmmfjcghmeaaGreat.Ab
namespace Go.Proofs.YtpidmmfjcghmeaaGreat.Ab
open Go.RowKit
variable {P : Program} {σ : Sg} {W : World}
theorem sem_pure_bind {α β : Type} (a : α) (f : α → Sem β) : (Pure.pure a >>= f) = f a := rfl
theorem sem_bind_pure {α : Type} : ∀ (x : Sem α), x.bind (fun a => Sem.pure a) = x := by
  intro x
  induction x <;> first | rfl | (rename_i ih; simp only [Sem.bind]; congr 1; funext v; exact ih v) | (rename_i ih; simp only [Sem.bind, ih])
theorem sem_assoc {α β γ : Type} (x : Sem α) (f : α → Sem β) (g : β → Sem γ) : (x.bind f).bind g = x.bind fun a => (f a).bind g := by
  induction x <;> first | rfl | (rename_i ih; simp only [Sem.bind]; congr 1; funext v; exact ih v) | (rename_i ih; simp only [Sem.bind, ih])
instance : LawfulMonad Sem := LawfulMonad.mk' Sem
  (id_map := fun x => sem_bind_pure x)
  (pure_bind := fun _ _ => rfl)
  (bind_assoc := fun x f g => sem_assoc x f g)
theorem run_v {s : Sem Value} {w w' : World} {v : Value} (h : s.run P w = .ok v w') : (do let r ← s; pure (Next.value r) : Sem Next).run P w = .ok (.value v) w' := by
  rw [Sem.run_bind, h, Result.andThen_ok]; rfl
theorem run_p {α : Type} (x : α) (w : World) : (Pure.pure x : Sem α).run P w = .ok x w := rfl
theorem nat_ok {x : AV} {n : Nat} (h : natOf x = some n) {v : Value} (hv : VR σ x v) : ∃ k, v = .int k (n : Int) := by
  unfold natOf at h
  split at h
  · cases h; cases hv; exact ⟨_, rfl⟩
  · cases h
theorem run_places : ∀ {fs : List Field} {pl : List (Nat × Nat)}, placesOf P fs = some pl → ∀ w, (fs.mapM (fun f => do pure (f.offset, ← sizeOf f.type) : Field → Sem (Nat × Nat))).run P w = .ok pl w
  | [], pl, h, w => by simp [placesOf] at h; subst h; rfl
  | x :: l, pl, h, w => by
    simp only [placesOf] at h
    split at h
    · rename_i n r hn hr
      cases h
      rw [List.mapM_cons, Sem.run_bind, Sem.run_bind, run_sz hn, Result.andThen_ok, run_p, Result.andThen_ok, Sem.run_bind, run_places hr, Result.andThen_ok, run_p]
    · cases h
theorem run_build {t : Nat} {f : F} {h : H} {parts : Array (Nat × Operand)} {dst ty pos af gd} {x : AV} {a : Act} (hf : FT σ f.n f.t a.tmps)
    (hx : pureA P f h ⟨dst, .build t parts, ty, pos, af, gd⟩ = some x) : ∃ v, VR σ x v ∧ ∀ w, (Instr.build t (parts.map fun (i, x) => (i, a.eval x))).run P w = .ok v w := by
  have hparts : (parts.map fun (i, x) => (i, a.eval x)).toList = parts.toList.map fun p => (p.1, a.eval p.2) := by simp
  simp only [pureA, buildP] at hx
  split at hx
  · rename_i z fs ps hz hu hps
    obtain ⟨zv, hzv, hzr⟩ := run_zero (σ := σ) hz
    split at hx
    · rename_i pl hpl
      split at hx
      · rename_i c hc
        cases hx
        obtain ⟨c', h1, h2⟩ := fill_ok hc (evP_ok hf hps) (cellsOf_ok hzv)
        refine ⟨_, .agg _ _ h2, fun w => ?_⟩
        have hm : (fs.mapM fun f => do pure (f.offset, ← sizeOf f.type) : Sem (Array (Nat × Nat))).run P w = .ok pl.toArray w := by
          rw [Array.mapM_eq_mapM_toList, map_eq_pure_bind, Sem.run_bind, run_places hpl, Result.andThen_ok]; rfl
        rw [Instr.build, Sem.run_bind, hzr, Result.andThen_ok, Sem.run_bind, run_und hu, Result.andThen_ok]
        dsimp only
        rw [Sem.run_bind, hm, Result.andThen_ok, hparts]
        have hpl' : (fun (i : Nat) => pl.toArray[i]?) = fun (i : Nat) => pl[i]? := by funext i; simp
        simp only [hpl']
        simp only [Array.toArray_toList] at h1
        rw [h1]; rfl
      · cases hx
    · cases hx
  · rename_i z n e ps hz hu hps
    obtain ⟨zv, hzv, hzr⟩ := run_zero (σ := σ) hz
    split at hx
    · rename_i k hk
      split at hx
      · rename_i c hc
        cases hx
        obtain ⟨c', h1, h2⟩ := fill_ok hc (evP_ok hf hps) (cellsOf_ok hzv)
        refine ⟨_, .agg _ _ h2, fun w => ?_⟩
        rw [Instr.build, Sem.run_bind, hzr, Result.andThen_ok, Sem.run_bind, run_und hu, Result.andThen_ok]
        dsimp only
        rw [Sem.run_bind, run_sz hk, Result.andThen_ok, hparts]
        simp only [Array.toArray_toList] at h1
        rw [h1]; rfl
      · cases hx
    · cases hx
  · cases hx
theorem eql_nil {d : TypeDesc} {x y : AV} (h : eqNil d x y = true) {t : Nat} (hd : P.underlying t = some d) {u v : Value} (hu : VR σ x u) (hv : VR σ y v) (w : World) :
    (Op.equal t u v).run P w = .ok false w ∧ (∀ op X Y, (eqGuard op t X Y u v).run P w = .ok () w) ∧ (∀ b, binOp .eql t u v = (do pure (.bool (← Op.equal t u v))) ∨ b = 0) ∧ (∀ b, binOp .neq t u v = (do pure (.bool (!(← Op.equal t u v)))) ∨ b = 0) := by
  have h10 : Op.maxDepth = 9999 + 1 := rfl
  unfold eqNil at h
  split at h <;> first
    | (cases h; done)
    | (cases hu; cases hv
       refine ⟨?_, fun op X Y => ?_, fun b => .inl rfl, fun b => .inl rfl⟩
       · rw [Op.equal, h10, Op.equalIn, Sem.run_bind, run_und hd, Result.andThen_ok]; rfl
       · cases op <;> rfl)
theorem run_bin {d : TypeDesc} {x y : AV} (h : eqNil d x y = true) {t : Nat} (hd : P.underlying t = some d) {u v : Value} (hu : VR σ x u) (hv : VR σ y v) (w : World) (X Y : Operand) :
    (do eqGuard .eql t X Y u v; binOp .eql t u v : Sem Value).run P w = .ok (.bool false) w ∧ (do eqGuard .neq t X Y u v; binOp .neq t u v : Sem Value).run P w = .ok (.bool true) w := by
  obtain ⟨h1, h2, h3, h4⟩ := eql_nil h hd hu hv w
  constructor
  · rw [Sem.run_bind, h2, Result.andThen_ok, (h3 1).resolve_right (by decide), Sem.run_bind, h1, Result.andThen_ok]; rfl
  · rw [Sem.run_bind, h2, Result.andThen_ok, (h4 1).resolve_right (by decide), Sem.run_bind, h1, Result.andThen_ok]; rfl
/-! ### Slices -/
theorem run_bound {k : IntKind} {n y : Nat} (h : n ≤ y) (code : BoundsCode) (w : World) : (Instr.sliceBound (.int k (n : Int)) y code).run P w = .ok n w := by
  rw [Instr.sliceBound, Sem.run_bind]
  simp only [asIntOf, Pure.pure, Sem.run, Result.andThen_ok]
  rw [if_pos ⟨by omega, by omega⟩]
  simp [Sem.run]
/-- Numbers that may lack. -/
def NO (x : Option Nat) (v : Option Value) : Prop := (x = none ∧ v = none) ∨ ∃ n k, x = some n ∧ v = some (.int k (n : Int))
theorem natO_ok {f : F} {a : Act} (hf : FT σ f.n f.t a.tmps) {lo : Option Operand} {x : Option AV} {n : Option Nat} (h1 : evO f lo = some x) (h2 : natO x = some n) : NO n (lo.map a.eval) := by
  unfold evO at h1
  split at h1
  · cases h1; simp [natO] at h2; subst h2; exact .inl ⟨rfl, rfl⟩
  · rename_i o
    split at h1
    · rename_i v hv
      cases h1
      simp only [natO] at h2
      split at h2
      · rename_i m hm
        cases h2
        obtain ⟨k, hk⟩ := nat_ok hm (ev_ok hf hv)
        exact .inr ⟨m, k, rfl, by simp [hk]⟩
      · cases h2
    · cases h1
/-- 'sliceBounds' with the test of one bound as a variable. -/
def bnds (sb : Value → Nat → BoundsCode → Sem Nat) (isSlice : Bool) (len cap : Nat) (low high max : Option Value) : Sem (Nat × Nat × Nat) := do
  let m ← match max with
    | some v => sb v cap (if isSlice then .slice3Acap else .slice3Alen)
    | none => pure cap
  let h ← match high, max with
    | some v, some _ => sb v m .slice3B
    | some v, none => sb v m (if isSlice then .sliceAcap else .sliceAlen)
    | none, none => pure len
    | none, some _ => stuck "Slice: max without high"
  let l ← match low with
    | some v => sb v h (if max.isSome then .slice3C else .sliceB)
    | none => pure 0
  pure (l, h, m)
theorem bnds_eq (b : Bool) (len cap : Nat) (lo hi mx : Option Value) : Instr.sliceBounds b len cap lo hi mx = bnds Instr.sliceBound b len cap lo hi mx := rfl
theorem run_b000 {sb : Value → Nat → BoundsCode → Sem Nat} (len cap : Nat) (w : World) : (bnds sb true len cap none none none).run P w = .ok (0, len, cap) w := rfl
section
variable {sb : Value → Nat → BoundsCode → Sem Nat} (hsb : ∀ (k : IntKind) (n y : Nat), n ≤ y → ∀ (code : BoundsCode) (w : World), (sb (.int k (n : Int)) y code).run P w = .ok n w)
include hsb
theorem run_b010 {len cap n : Nat} {k : IntKind} (h : n ≤ cap) (w : World) : (bnds sb true len cap none (some (.int k (n : Int))) none).run P w = .ok (0, n, cap) w := by
  simp only [bnds, sem_pure_bind, Sem.run_bind, hsb _ _ _ h, Result.andThen_ok, run_p]
theorem run_b011 {len cap n m : Nat} {k k' : IntKind} (h : n ≤ m) (h' : m ≤ cap) (w : World) : (bnds sb true len cap none (some (.int k (n : Int))) (some (.int k' (m : Int)))).run P w = .ok (0, n, m) w := by
  simp only [bnds, sem_pure_bind, Sem.run_bind, hsb _ _ _ h, hsb _ _ _ h', Result.andThen_ok, run_p]
theorem run_b100 {len cap l : Nat} {k : IntKind} (h : l ≤ len) (w : World) : (bnds sb true len cap (some (.int k (l : Int))) none none).run P w = .ok (l, len, cap) w := by
  simp only [bnds, sem_pure_bind, Sem.run_bind, hsb _ _ _ h, Result.andThen_ok, run_p]
theorem run_b110 {len cap l n : Nat} {k k' : IntKind} (h : l ≤ n) (h' : n ≤ cap) (w : World) : (bnds sb true len cap (some (.int k (l : Int))) (some (.int k' (n : Int))) none).run P w = .ok (l, n, cap) w := by
  simp only [bnds, sem_pure_bind, Sem.run_bind, hsb _ _ _ h, hsb _ _ _ h', Result.andThen_ok, run_p]
theorem run_b111 {len cap l n m : Nat} {k k' k2 : IntKind} (h : l ≤ n) (h' : n ≤ m) (h2 : m ≤ cap) (w : World) : (bnds sb true len cap (some (.int k (l : Int))) (some (.int k' (n : Int))) (some (.int k2 (m : Int)))).run P w = .ok (l, n, m) w := by
  simp only [bnds, Sem.run_bind, hsb _ _ _ h, hsb _ _ _ h', hsb _ _ _ h2, Result.andThen_ok, run_p]
end
theorem run_bounds {len cap : Nat} {lo hi mx : Option Nat} {lv hv mv : Option Value} (hl : NO lo lv) (hh : NO hi hv) (hm : NO mx mv) (hmh : ¬ (mx.isSome = true ∧ hi.isNone = true)) (h1 : lo.getD 0 ≤ hi.getD len) (h2 : hi.getD len ≤ mx.getD cap) (h3 : mx.getD cap ≤ cap) (w : World) :
    (Instr.sliceBounds true len cap lv hv mv).run P w = .ok (lo.getD 0, hi.getD len, mx.getD cap) w := by
  rw [bnds_eq]
  have hsb := fun (k : IntKind) (n y : Nat) (h : n ≤ y) (code : BoundsCode) (w : World) => run_bound (P := P) (k := k) h code w
  revert hsb
  generalize Instr.sliceBound = sb
  intro hsb
  rcases hl with ⟨rfl, rfl⟩ | ⟨l, k1, rfl, rfl⟩ <;> rcases hh with ⟨rfl, rfl⟩ | ⟨h, k2, rfl, rfl⟩ <;> rcases hm with ⟨rfl, rfl⟩ | ⟨m, k3, rfl, rfl⟩ <;> simp only [Option.getD_none, Option.getD_some] at h1 h2 h3 ⊢
  · exact run_b000 _ _ _
  · exact (hmh ⟨rfl, rfl⟩).elim
  · exact run_b010 hsb h2 _
  · exact run_b011 hsb h2 h3 _
  · exact run_b100 hsb h1 _
  · exact (hmh ⟨rfl, rfl⟩).elim
  · exact run_b110 hsb h1 h2 _
  · exact run_b111 hsb h1 h2 h3 _
theorem cutK_ok {size off len cap : Nat} {lo hi mx : Option Nat} {r : Nat × Nat × Nat} (h : cutK size off len cap lo hi mx = some r) :
    lo.getD 0 ≤ hi.getD len ∧ hi.getD len ≤ mx.getD cap ∧ mx.getD cap ≤ cap ∧ r = (if mx.getD cap = lo.getD 0 then off else off + lo.getD 0 * size, hi.getD len - lo.getD 0, mx.getD cap - lo.getD 0) := by
  unfold cutK at h
  simp only at h
  split at h
  · rename_i hc; cases h; exact ⟨hc.1, hc.2.1, hc.2.2, rfl⟩
  · cases h
theorem run_slice0 {t e n : Nat} (hu : P.underlying t = some (.slice e)) (hn : sz P e = some n) {A : Option Addr} {len cap : Nat} {lo hi mx : Option Nat} {lv hv mv : Option Value} (hl : NO lo lv) (hh : NO hi hv) (hm : NO mx mv) (hmh : ¬ (mx.isSome = true ∧ hi.isNone = true))
    (h1 : lo.getD 0 ≤ hi.getD len) (h2 : hi.getD len ≤ mx.getD cap) (h3 : mx.getD cap ≤ cap) (w : World) :
    (Instr.sliceAt t (.slice A len cap) lv hv mv).run P w = .ok (.slice (if mx.getD cap = lo.getD 0 then A else A.map (·.add (lo.getD 0 * n))) (hi.getD len - lo.getD 0) (mx.getD cap - lo.getD 0)) w := by
  rw [Instr.sliceAt, Sem.run_bind, run_und hu, Result.andThen_ok]
  dsimp only
  rw [Instr.slice, Sem.run_bind, run_und hu, Result.andThen_ok]
  dsimp only
  rw [Sem.run_bind, run_bounds hl hh hm hmh h1 h2 h3, Result.andThen_ok]
  dsimp only
  rw [Sem.run_bind, run_sz hn, Result.andThen_ok]
  rfl
theorem slice_ok {h : H} {w : World} (hr : HR W σ h w) {x y : AV} {v : Value} {t e n : Nat} (hu : P.underlying t = some (.slice e)) (hn : sz P e = some n) {lo hi mx : Option Nat} {lv hv mv : Option Value} (hl : NO lo lv) (hh : NO hi hv) (hm : NO mx mv)
    (hx : VR σ x v) (hy : sliceA h n x lo hi mx = some y) : ∃ u, VR σ y u ∧ ∀ w', (Instr.sliceAt t v lv hv mv).run P w' = .ok u w' := by
  unfold sliceA at hy
  split at hy
  · cases hy
  · rename_i hmh
    have hmh : ¬ (mx.isSome = true ∧ hi.isNone = true) := fun e => hmh (by simp [e.1, e.2])
    split at hy
    · split at hy
      · rename_i o hc
        cases hy; cases hx
        obtain ⟨h1, h2, h3, h4⟩ := cutK_ok hc
        have h5 : hi.getD 0 = 0 := by omega
        have h6 : mx.getD 0 = 0 := by omega
        have h7 : lo.getD 0 = 0 := by omega
        refine ⟨_, .ns, fun w' => ?_⟩
        rw [run_slice0 hu hn hl hh hm hmh h1 h2 h3, h5, h6, h7]; rfl
      · cases hy
    · rename_i id off len cap
      split at hy
      · rename_i o m c hc
        cases hy
        obtain ⟨h1, h2, h3, h4⟩ := cutK_ok hc
        cases hx with
        | sl _ _ _ _ b k hb =>
          refine ⟨_, ?_, fun w' => run_slice0 hu hn hl hh hm hmh h1 h2 h3 w'⟩
          cases h4
          split
          · exact .sl _ _ _ _ b k hb
          · rw [Option.map_some, add_eq]; exact .sl _ _ _ _ b k hb
      · cases hy
    · rename_i id off len s
      split at hy
      · cases hy
      · rename_i hs
        have hs1 : s = n := Classical.byContradiction fun e => hs (.inl e)
        have hs0 : 0 < n := Nat.pos_of_ne_zero fun e => hs (.inr e)
        subst hs1
        split at hy
        · rename_i l ty hg
          obtain ⟨b, k, hb, _, _, ho⟩ := hr.obj _ _ hg
          obtain ⟨cc, hcc, hck, hlen, _⟩ := ho.row
          cases hx with
          | so _ _ _ _ b' k' c hb' hk =>
            obtain ⟨rfl, rfl⟩ : b = b' ∧ k = k' := by rw [hb] at hb'; simpa using hb'
            have hcap : ∀ m, off + m * s ≤ l.length → m ≤ c := fun m hm => by
              have : m * s ≤ c * s := by omega
              exact Nat.le_of_mul_le_mul_right this hs0
            cases mx with
            | some m =>
              simp only at hy
              split at hy
              · rename_i hml
                split at hy
                · rename_i o nn cc2 hc
                  cases hy
                  obtain ⟨h1, h2, h3, h4⟩ := cutK_ok hc
                  refine ⟨_, ?_, fun w' => run_slice0 (cap := c) hu hn hl hh hm hmh h1 (by simpa using h2) (by simpa using hcap m hml) w'⟩
                  cases h4
                  simp only [Option.getD_some]
                  split
                  · exact .sl _ _ _ _ b k hb
                  · rw [Option.map_some, add_eq]; exact .sl _ _ _ _ b k hb
                · cases hy
              · cases hy
            | none =>
              simp only at hy
              split at hy
              · rename_i hc
                obtain ⟨h1, h2⟩ := hc
                have h3 := hcap _ h2
                split at hy
                · rename_i h0
                  cases hy
                  refine ⟨_, ?_, fun w' => run_slice0 hu hn hl hh hm hmh h1 h3 (Nat.le_refl _) w'⟩
                  rw [h0]
                  simp only [Option.getD_none, Nat.zero_mul, Nat.sub_zero]
                  split
                  · exact .so _ _ _ _ b k c hb hk
                  · rw [Option.map_some, add_eq]; exact .so _ _ _ _ b k c hb hk
                · rename_i h0
                  split at hy
                  · rename_i hlt
                    cases hy
                    refine ⟨_, ?_, fun w' => run_slice0 hu hn hl hh hm hmh h1 h3 (Nat.le_refl _) w'⟩
                    simp only [Option.getD_none] at h3 ⊢
                    rw [if_neg (by omega), Option.map_some, add_eq]
                    refine .so _ _ _ _ b k _ hb ?_
                    rw [Nat.mul_sub_right_distrib] 
                    have : lo.getD 0 * s ≤ c * s := Nat.mul_le_mul_right _ (by omega)
                    omega
                  · cases hy
                    have he : hi.getD len - lo.getD 0 = 0 := by omega
                    refine ⟨_, ?_, fun w' => run_slice0 hu hn hl hh hm hmh h1 h3 (Nat.le_refl _) w'⟩
                    rw [he]
                    split
                    · exact .es _ _
                    · rw [Option.map_some]; exact .es _ _
              · cases hy
        · cases hy
    · cases hy
end Go.Proofs.YtpidmmfjcghmeaaGreat.Ab
