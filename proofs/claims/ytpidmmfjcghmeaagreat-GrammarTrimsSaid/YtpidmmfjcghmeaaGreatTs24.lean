/- Texts in one: AbOp5. -/
import Derived.Test.YtpidmmfjcghmeaaGreatTs23
import Derived.CallsIn
import Derived.Laws.MakeOwn
namespace Go.Proofs.YtpidmmfjcghmeaaGreat.Ab
open Go.RowKit
variable {P : Program} {σ : Sg} {W : World}
/-- What an operation comes to. -/
inductive Does (P : Program) (y : Bool) (o : Oper) (a : Act) (w : World) (R : Value → World → Prop) : Prop
  | val (v w') : (execOp a.eval o).run P w = .ok (.value v) w' → R v w' → Does P y o a w R
  | skp (w') : (execOp a.eval o).run P w = .ok .skip w' → R Go.undef w' → Does P y o a w R
  | ent (k args w') : (execOp a.eval o).run P w = .ok (.enter k args) w' → Calls P k args w' (fun e w'' => ∃ v, e = .returned v ∧ R v w'') → Does P y o a w R
  | rnd (l fn tmps as body w') : y = true → (execOp a.eval o).run P w = .ok (.round l fn tmps as body) w' → RoundIn Fence.wide 0 P l fn tmps as body w' (fun e w'' => ∃ v, e = .returned v ∧ R v w'') → Does P y o a w R
/-- What a call comes to, of those that are run. -/
structure CallOK (P : Program) (W : World) (call : CallT) : Prop where
  fn : ∀ k args h r, call (.fn k) args h = some r → ∀ σ w us, HR W σ h w → VL σ args us →
    (callFunc k us.toArray).run P w = .ok (.enter k us.toArray) w ∧ Calls P k us.toArray w (fun e w' => ∃ v, e = .returned v ∧ Rs W σ r v w')
  yl : ∀ l args h r, call (.yl l) args h = some r → ∀ σ w us b k, HR W σ h w → VL σ args us → σ l = some (b, k) →
    ∃ fn tmps as body, (Instr.yield b us.toArray).run P w = .ok (.round b fn tmps as body) w ∧ RoundIn Fence.wide 0 P b fn tmps as body w (fun e w' => ∃ v, e = .returned v ∧ Rs W σ r v w')
theorem map_row {h : H} {w : World} (hr : HR W σ h w) {id b k : Nat} {es : Array MapEntry} {cl : Nat} (hg : h.get id = some (.map es cl)) (hb : σ id = some (b, k)) : w.heap[b]? = some (.map es cl) := by
  obtain ⟨b', k', hb', _, _, ho⟩ := hr.obj _ _ hg
  obtain ⟨rfl, rfl⟩ : b' = b ∧ k' = k := by rw [hb] at hb'; simpa using hb'.symm
  exact ho
theorem run_getObj {w : World} {b : Nat} {o : Obj} (h : w.heap[b]? = some o) (hn : ∀ c e f, o ≠ .cells c e f) : (getObj b).run P w = .ok o w := by
  unfold getObj
  cases o <;> first | exact absurd rfl (hn _ _ _) | simp [Sem.run, h]
theorem run_setObj {w : World} {b : Nat} {o o' : Obj} (h : w.heap[b]? = some o) (hn : ∀ c e f, o ≠ .cells c e f) : (setObj b o').run P w = .ok () (World.upd w b o') := by
  unfold setObj World.upd
  cases o <;> first | exact absurd rfl (hn _ _ _) | simp [Sem.run, h]
theorem find_ok {kt : Nat} {es : Array MapEntry} {emp : Bool} {kv : Value} {r : Option (Nat × Value)} (h : mapFind P kt es emp kv = some r) (w : World) :
    (Instr.checkKey emp 10000 kt kv).run P w = .ok () w ∧ (Instr.findKey kt kv es.toList).run P w = .ok r w := by
  unfold mapFind at h
  split at h
  · rename_i u hu; exact ⟨pureRun_ok hu w, pureRun_ok h w⟩
  · cases h
theorem lookup_ok {h : H} {w : World} (hr : HR W σ h w) {t kt e id : Nat} {es : Array MapEntry} {cl : Nat} {kv : Value} {z : AV} {ok : Bool} {mv : Value} (hu : P.underlying t = some (.map kt e)) (hm : VR σ (.mp id) mv) (hg : h.get id = some (.map es cl)) (hz : zeroOf P e = some z)
    {r : Option (Nat × Value)} (hf : mapFind P kt es es.isEmpty kv = some r) :
    (∀ i v x, r = some (i, v) → ofV v = some x → ∃ u, VR σ (okA ok x true) u ∧ (Instr.lookup t mv kv ok).run P w = .ok u w) ∧
    (r = none → ∃ u, VR σ (okA ok z false) u ∧ (Instr.lookup t mv kv ok).run P w = .ok u w) := by
  cases hm with
  | mp _ b k hb =>
    have hrow := map_row hr hg hb
    have hgo := run_getObj (P := P) hrow (fun _ _ _ e => by cases e)
    obtain ⟨h1, h2⟩ := find_ok hf w
    constructor
    · intro i v x hr' hv
      subst hr'
      refine ⟨if ok then .tuple #[v, .bool true] else v, ?_, ?_⟩
      · have := ofV_ok (σ := σ) hv
        cases ok
        · exact this
        · exact .tup _ [v, .bool true] (.cons _ _ _ _ this (.cons _ _ _ _ (.b _) .nil))
      · unfold Instr.lookup
        rw [Sem.run_bind, run_und hu, Result.andThen_ok]
        simp only [Sem.run_bind, hgo, Result.andThen_ok, run_p, h1, h2]
    · intro hr'
      subst hr'
      obtain ⟨zv, hzv, hzr⟩ := run_zero (σ := σ) hz
      refine ⟨if ok then .tuple #[zv, .bool false] else zv, ?_, ?_⟩
      · cases ok
        · exact hzv
        · exact .tup _ [zv, .bool false] (.cons _ _ _ _ hzv (.cons _ _ _ _ (.b _) .nil))
      · unfold Instr.lookup
        rw [Sem.run_bind, run_und hu, Result.andThen_ok]
        simp only [Sem.run_bind, hgo, Result.andThen_ok, run_p, h1, h2, hzr]
theorem upd_ok {f : F} {h : H} {a : Act} {w : World} (hf : FT σ f.n f.t a.tmps) (hr : HR W σ h w) {t : Nat} {m k v : Operand} {r : AV × H} (hx : updA P f h t m k v = some r) :
    ∃ w', (Instr.mapUpdate t (a.eval m) (a.eval k) (a.eval v)).run P w = .ok () w' ∧ Rs W σ r Go.undef w' := by
  unfold updA at hx
  split at hx
  rotate_left
  · cases hx
  rename_i kt e id kx vx hu hm hk hv
  split at hx
  rotate_left
  · cases hx
  rename_i kv vv es cl hkv hvv hg
  have ek := toV_eq hkv (ev_ok hf hk)
  have ev := toV_eq hvv (ev_ok hf hv)
  have hmv := ev_ok hf hm
  cases hm' : a.eval m <;> rw [hm'] at hmv <;> cases hmv
  rename_i b kk hb
  have hrow := map_row hr hg hb
  have hgo := run_getObj (P := P) hrow (fun _ _ _ e => by cases e)
  rw [ek, ev]
  split at hx
  · rename_i i u hfd
    obtain ⟨h1, h2⟩ := find_ok hfd w
    split at hx
    rotate_left
    · cases hx
    rename_i key hkey
    cases hx
    have h3 := pureRun_ok hkey w
    refine ⟨_, ?_, σ, Sg.le_refl _, .und, hr.upd (y := .map (es.modify i fun e => { e with key, val := vv }) cl) hg hb rfl⟩
    unfold Instr.mapUpdate
    rw [Sem.run_bind, run_und hu, Result.andThen_ok]
    simp only [Sem.run_bind, hgo, Result.andThen_ok, h1, h2, h3]
    exact run_setObj hrow (fun _ _ _ e => by cases e)
  · rename_i hfd
    obtain ⟨h1, h2⟩ := find_ok hfd w
    cases hx
    refine ⟨_, ?_, σ, Sg.le_refl _, .und, hr.upd (y := .map (es.push { key := kv, val := vv, born := cl }) (cl + 1)) hg hb rfl⟩
    unfold Instr.mapUpdate
    rw [Sem.run_bind, run_und hu, Result.andThen_ok]
    simp only [Sem.run_bind, hgo, Result.andThen_ok, h1, h2]
    exact run_setObj hrow (fun _ _ _ e => by cases e)
  · cases hx
theorem run_alloc {e : Nat} {zv : Value} (h : ∀ w, (zeroValue e).run P w = .ok zv w) (w : World) : (Instr.alloc e true (.tuple #[])).run P w = .ok (.pointer (some ⟨w.heap.size, 0, none⟩)) (w.alloc (.cells zv.cells e)) := by
  unfold Instr.alloc
  rw [Sem.run_bind, h, Result.andThen_ok]
  rfl
theorem run_box (e : Nat) (v : Value) (w : World) : (Instr.box e v).run P w = .ok (.pointer (some ⟨w.heap.size, 0, none⟩)) (w.alloc (.cells v.cells e)) := rfl
theorem askRoom_ok (n : Nat) (w : World) : (askRoom n).run P w = .ok () w := by
  unfold askRoom
  split <;> rfl
theorem copy_ok {h : H} {w : World} (hr : HR W σ h w) {t tx e id off dl cap n k : Nat} {l l' new : List AV} {ty : Nat} {x : AV} {xv dv : Value} (hu : P.underlying t = some (.slice e)) (hs : sz P e = some 1) (hd : VR σ (.sl id off dl cap) dv) (hx : VR σ x xv) (hn : needOf x = some n)
    (hfa : firstA h 1 (Nat.min n dl) x = some new) (hg : h.get id = some (.cells l ty)) (hlen : new.length = Nat.min n dl) (hone : new.all oneA = true) (hp : putL l off new = some l') :
    ∃ w', (Builtin.copy_ #[t, tx] k #[dv, xv]).run P w = .ok (.int .i64 (Nat.min n dl : Nat)) w' ∧ HR W σ (h.set id (some (.cells l' ty))) w' := by
  obtain ⟨us, h1, h2, h3, h4⟩ := first_ok (P := P) hr hx hn hfa
  cases hd with
  | sl _ _ _ _ b kk hb =>
    obtain ⟨b', k', hb', _, _, hor⟩ := hr.obj _ _ hg
    obtain ⟨rfl, rfl⟩ : b' = b ∧ k' = kk := by rw [hb] at hb'; simpa using hb'.symm
    obtain ⟨c, hc, hck, hcl, hcv⟩ := hor.row
    have hl1 := h1.len
    unfold Builtin.copy_
    simp only [List.getElem?_toArray, List.getElem?_cons_zero, List.getElem?_cons_succ]
    have hlo : (Builtin.lenOf xv).run P w = .ok n w := by rw [h2]; rfl
    rw [Sem.run_bind, run_und hu, Result.andThen_ok]
    simp only [Sem.run_bind, hlo, Result.andThen_ok, run_sz hs, h3]
    cases us with
    | nil =>
      have h0 : new = [] := List.eq_nil_of_length_eq_zero (by rw [hl1]; rfl)
      subst h0
      simp only [putL] at hp
      cases hp
      refine ⟨w, ?_, hr.same_set hg⟩
      simp [storeCells, goInt]
    | cons u us =>
      have h5 := (putL_len hp).2 (fun e => by rw [e] at h1; cases h1)
      have hst := stores (P := P) (off := off) (u :: us) 0 c w hc (by omega) (oneAs h1 hone) (by simp)
      refine ⟨_, ?_, hr.upd hg hb (OR.put hck hcl hcv hp h1)⟩
      simp only [hst, Result.andThen_ok, run_p, goInt]
      rfl
theorem buildSlice_ok {h : H} {w : World} (hr : HR W σ h w) {t e n len : Nat} {z : AV} {ps : List (Nat × AV)} {qs : List (Nat × Value)} {c : List AV} (hu : P.underlying t = some (.slice e)) (hn : sz P e = some n) (hz : zeroOf P e = some z) (hsz : len * n ≤ 1000000) (hzl : (cellsOf z).length = n)
    (hp : PL σ ps qs) (hf : fillA (fun i => some (i * n, n)) (rep (cellsOf z) len) ps = some c) :
    ∃ v w', (Instr.buildSlice t len qs.toArray).run P w = .ok v w' ∧ Rs W σ (AV.sl (h.new (.cells c e)).1 0 len len, (h.new (.cells c e)).2) v w' := by
  obtain ⟨zv, hzv, hzr⟩ := run_zero (σ := σ) hz
  have hzc := cellsOf_ok hzv
  obtain ⟨c', h1, h2⟩ := fill_ok hf hp (rep_ok hzc len)
  have hzs : zv.cells.size = n := by rw [← hzl, hzc.len, Array.length_toList]
  obtain ⟨σ', h3, h4, h5⟩ := new_res hr (.cells c e) c'.length (.cells c'.toArray e (0, 0)) ⟨c', rfl, rfl, c', h2.len.symm, h2, by rw [h2.len, List.take_length]⟩
  refine ⟨_, _, ?_, σ', h3, .sl _ _ _ _ _ _ h4, h5⟩
  unfold Instr.buildSlice
  rw [Sem.run_bind, run_und hu, Result.andThen_ok]
  simp only []
  rw [Sem.run_bind, run_sz hn, Result.andThen_ok, if_neg (by omega)]
  by_cases h0 : len * n = 0
  · have h6 : (repV zv.cells.toList len).length = 0 := by rw [repV_len, Array.length_toList, hzs]; exact h0
    have h7 := List.eq_nil_of_length_eq_zero h6
    rw [h7] at h1
    have h8 : (Array.range (len * n)).map (fun x => (#[] : Array Value)[x % (#[] : Array Value).size]!) = ([] : List Value).toArray := by rw [h0]; simp
    rw [if_pos h0]
    simp only [sem_pure_bind, h8, h1]
    rfl
  · have h8 : (Array.range (len * n)).map (fun x => zv.cells[x % zv.cells.size]!) = (repV zv.cells.toList len).toArray := repV_eq _ _ _ (by rw [hzs])
    rw [if_neg h0, Sem.run_bind, hzr, Result.andThen_ok]
    simp only [sem_pure_bind, h8, h1]
    rfl
theorem make_ok {h : H} {w : World} (hr : HR W σ h w) {t e n m : Nat} {k1 k2 : IntKind} {z : AV} {inf : TypeInfo} (hu : P.underlying t = some (.slice e)) (hz : zeroOf P e = some z) (hi : P.info? e = some inf) (hn : n ≤ m) (hm : m ≤ 1000000) (hb : inf.bytes ≤ 1000) (hzl : (cellsOf z).length = inf.size) :
    ∃ v w', (Instr.makeSlice t (.int k1 (n : Int)) (.int k2 (m : Int))).run P w = .ok v w' ∧ Rs W σ (AV.sl (h.new (.cells (rep (cellsOf z) m) e)).1 0 n m, (h.new (.cells (rep (cellsOf z) m) e)).2) v w' := by
  have hz' := hz
  unfold zeroOf at hz'
  rw [hi] at hz'
  simp only at hz'
  split at hz'
  rotate_left
  · cases hz'
  rename_i zv hzv
  have hzr := cellsOf_ok (σ := σ) (ofV_ok hz')
  have hzs : zv.cells.size = inf.size := by rw [← hzl, hzr.len, Array.length_toList]
  have hrun := run_make (P := P) w t e inf zv hu hi hzv k1 k2 (n : Int) (m : Int) (by omega) (by omega) (by
    have : inf.bytes * m ≤ 1000 * 1000000 := Nat.mul_le_mul hb hm
    rw [← Int.natCast_mul]; omega) (by omega)
  have hrp := rep_ok hzr m
  have hmade : madeCells zv.cells (m * inf.size) = (repV zv.cells.toList m).toArray := by
    unfold madeCells
    exact repV_eq _ _ _ (by rw [hzs])
  obtain ⟨σ', h3, h4, h5⟩ := new_res hr (.cells (rep (cellsOf z) m) e) (repV zv.cells.toList m).length (.cells (repV zv.cells.toList m).toArray e (0, 0)) ⟨_, rfl, rfl, _, hrp.len.symm, hrp, by rw [hrp.len, List.take_length]⟩
  refine ⟨_, _, hrun, σ', h3, ?_, ?_⟩
  · simp only [Int.toNat_natCast]; exact .sl _ _ _ _ _ _ h4
  · simp only [Int.toNat_natCast]; rw [hmade]; exact h5
theorem exec_call (ρ : Operand → Value) (dst : Option Tmp) (g : Operand) (xs : Array Operand) (ats : Array TypeId) (ty : TypeId) (pos : String) (af : Array Edge) (gd : Option (Nat × Bool)) :
    execOp ρ ⟨dst, .call ⟨.value g, xs, ats⟩, ty, pos, af, gd⟩ = (do let d ← Deferred.ofValue (ρ g) (xs.map ρ); invoke d.target d.args) := rfl
theorem eff_ok {call : CallT} (hcall : CallOK P W call) {y : Bool} (hy : y = false → ∀ l args h, call (.yl l) args h = none) {f : F} {h : H} {a : Act} {w : World} (hf : FT σ f.n f.t a.tmps) (hr : HR W σ h w) {o : Oper} {r : AV × H} (hx : effA P call f h o = some r) : Does P y o a w (Rs W σ r) := by
  obtain ⟨dst, op, ty, pos, af, gd⟩ := o
  cases op with
  | load t p =>
    simp only [effA, loadE] at hx
    split at hx
    · rename_i pv hp
      split at hx
      · rename_i v hv
        cases hx
        obtain ⟨u, h1, h2⟩ := load_ok (P := P) hr (ev_ok hf hp) hv
        exact .val u w (run_v h2) ⟨σ, Sg.le_refl _, h1, hr⟩
      · cases hx
    · cases hx
  | alloc e =>
    simp only [effA, allocE] at hx
    split at hx
    · rename_i z hz
      cases hx
      obtain ⟨zv, hzv, hzr⟩ := run_zero (σ := σ) hz
      obtain ⟨σ', h3, h4, h5⟩ := new_res hr _ _ _ (cells_new hzv e)
      exact .val _ _ (run_v (run_alloc hzr w)) ⟨σ', h3, .ptr _ _ _ _ h4, h5⟩
    · cases hx
  | box e y' =>
    simp only [effA, boxE] at hx
    split at hx
    · rename_i v hv
      cases hx
      obtain ⟨σ', h3, h4, h5⟩ := new_res hr _ _ _ (cells_new (ev_ok hf hv) e)
      exact .val _ _ (run_v (run_box e _ w)) ⟨σ', h3, .ptr _ _ _ _ h4, h5⟩
    · cases hx
  | buildSlice t len parts =>
    simp only [effA, buildSliceE] at hx
    split at hx
    · rename_i e ps hu hps
      split at hx
      · rename_i n z hn hz
        split at hx
        · cases hx
        · rename_i hc
          split at hx
          · rename_i c hfl
            cases hx
            have hparts : (parts.map fun (i, x) => (i, a.eval x)) = (parts.toList.map fun p => (p.1, a.eval p.2)).toArray := by
              apply Array.ext'; simp
            obtain ⟨v, w', h1, h2⟩ := buildSlice_ok hr hu hn hz (Nat.le_of_not_lt fun e => hc (.inr (.inl e))) (Classical.byContradiction fun e => hc (.inr (.inr e))) (evP_ok hf hps) hfl
            exact .val v w' (run_v (by rw [hparts]; exact h1)) h2
          · cases hx
      · cases hx
    · cases hx
  | store t p x =>
    simp only [effA, storeE] at hx
    split at hx
    · rename_i pv v hp hv
      split at hx
      · rename_i h' hs
        cases hx
        obtain ⟨w', h1, h2⟩ := store_ok (P := P) hr (ev_ok hf hp) (ev_ok hf hv) hs
        refine .skp w' ?_ ⟨σ, Sg.le_refl _, .und, h2⟩
        simp only [execOp]
        rw [Sem.run_bind, h1, Result.andThen_ok]; rfl
      · cases hx
    · cases hx
  | makeMap t rv =>
    cases rv with
    | none =>
      simp only [effA] at hx
      cases hx
      obtain ⟨σ', h3, h4, h5⟩ := new_res hr (.map #[] 0) 0 (.map #[] 0) rfl
      exact .val (.map (some w.heap.size)) (w.alloc (.map #[] 0)) (run_v rfl) ⟨σ', h3, .mp _ _ _ h4, h5⟩
    | some rv => simp only [effA] at hx; cases hx
  | makeSlice t l c =>
    simp only [effA, makeSliceE] at hx
    split at hx
    · rename_i e lv cv hu hl hc
      split at hx
      · rename_i n m z inf hn hm hz hi
        split at hx
        · rename_i hcond
          cases hx
          obtain ⟨k1, e1⟩ := nat_ok hn (ev_ok hf hl)
          obtain ⟨k2, e2⟩ := nat_ok hm (ev_ok hf hc)
          obtain ⟨v, w', h1, h2⟩ := make_ok (P := P) (k1 := k1) (k2 := k2) hr hu hz hi hcond.1 hcond.2.1 hcond.2.2.2.2.1 hcond.2.2.2.2.2
          exact .val v w' (run_v (by rw [e1, e2]; exact h1)) h2
        · cases hx
      · cases hx
    · cases hx
  | lookup t m k ok =>
    simp only [effA, lookupE] at hx
    split at hx
    · rename_i kt e id kv hu hm hk
      split at hx
      · rename_i kvv es cl z hkv hg hz
        have ek := toV_eq hkv (ev_ok hf hk)
        split at hx
        · rename_i i v hfd
          split at hx
          · rename_i x hv
            cases hx
            obtain ⟨u, h1, h2⟩ := (lookup_ok (ok := ok) hr hu (ev_ok hf hm) hg hz hfd).1 _ _ _ rfl hv
            exact .val u w (run_v (by rw [ek]; exact h2)) ⟨σ, Sg.le_refl _, h1, hr⟩
          · cases hx
        · rename_i hfd
          cases hx
          obtain ⟨u, h1, h2⟩ := (lookup_ok (ok := ok) hr hu (ev_ok hf hm) hg hz hfd).2 rfl
          exact .val u w (run_v (by rw [ek]; exact h2)) ⟨σ, Sg.le_refl _, h1, hr⟩
        · cases hx
      · cases hx
    · cases hx
  | mapUpdate t m k v =>
    obtain ⟨w', h1, h2⟩ := upd_ok (P := P) hf hr hx
    refine .skp w' ?_ h2
    simp only [execOp]
    rw [Sem.run_bind, h1, Result.andThen_ok]; rfl
  | insert t m k v =>
    obtain ⟨w', h1, h2⟩ := upd_ok (P := P) hf hr hx
    refine .skp w' ?_ h2
    simp only [execOp]
    rw [Sem.run_bind, h1, Result.andThen_ok]; rfl
  | call c =>
    obtain ⟨callee, args, ats⟩ := c
    simp only [effA, callE] at hx
    split at hx
    · cases hx
    rename_i as has
    obtain ⟨us, hus, hvs⟩ := evA_ok hf has
    split at hx
    · rename_i b
      obtain ⟨cs, hcs⟩ := exec_builtin a.eval dst b args ats ty pos af gd
      unfold effB at hx
      split at hx
      · rename_i s x t tx hats
        cases hvs with
        | cons _ sv _ _ h1 h2 => cases h2 with
          | cons _ xv _ _ h3 h4 =>
            cases h4
            obtain ⟨v, w', h5, h6⟩ := append_ok (P := P) hr h1 h3 hx ty
            refine .val v w' ?_ h6
            rw [hcs, hus, show ats = #[t, tx] by rw [← hats]]
            exact run_v h5
      · rename_i id t hats
        split at hx
        · rename_i kt e es cl hu hg
          cases hx
          cases hvs with
          | cons _ mv _ _ h1 h2 =>
            cases h2
            cases h1 with
            | mp _ b k hb =>
              have hrow := map_row hr hg hb
              have hgo := run_getObj (P := P) hrow (fun _ _ _ e => by cases e)
              refine .val (.int .i64 es.size) w ?_ ⟨σ, Sg.le_refl _, .i _ _, hr⟩
              rw [hcs, hus, show ats = #[t] by rw [← hats]]
              refine run_v ?_
              unfold Builtin.len_
              simp only [List.getElem?_toArray, List.getElem?_cons_zero]
              rw [Sem.run_bind, run_und hu, Result.andThen_ok]
              simp only []
              rw [Sem.run_bind, hgo, Result.andThen_ok]
              rfl
        · cases hx
      · rename_i d x t tx hats
        split at hx
        · rename_i e id off dl cap n hu hn
          split at hx
          · rename_i hs
            split at hx
            · rename_i new l ty' hfa hg
              split at hx
              · rename_i hcond
                split at hx
                · rename_i l' hp
                  cases hx
                  cases hvs with
                  | cons _ dv _ _ h1 h2 => cases h2 with
                    | cons _ xv _ _ h3 h4 =>
                      cases h4
                      obtain ⟨w', h5, h6⟩ := copy_ok (P := P) (tx := tx) (k := ty) hr hu hs h1 h3 hn hfa hg hcond.1 hcond.2 hp
                      refine .val _ w' ?_ ⟨σ, Sg.le_refl _, .i _ _, h6⟩
                      rw [hcs, hus, show ats = #[t, tx] by rw [← hats]]
                      exact run_v h5
                · cases hx
              · cases hx
            · cases hx
          · cases hx
        · cases hx
      · cases hx
    · rename_i g
      split at hx
      · rename_i k first cap hg
        have hgv := ev_ok hf hg
        cases hgv' : a.eval g <;> rw [hgv'] at hgv <;> cases hgv
        rename_i xs ys hxs hys
        have hall : VL σ (first ++ as ++ cap) (xs ++ us ++ ys) := (hxs.append hvs).append hys
        obtain ⟨h1, h2⟩ := hcall.fn _ _ _ _ hx σ w _ hr hall
        refine .ent k _ w ?_ h2
        rw [exec_call, hgv', hus]
        have e1 : xs.toArray ++ us.toArray ++ ys.toArray = (xs ++ us ++ ys).toArray := by simp
        simp only [Deferred.ofValue, sem_pure_bind, invoke, e1]
        exact h1
      · rename_i l hg
        have hgv := ev_ok hf hg
        cases hgv' : a.eval g <;> rw [hgv'] at hgv <;> cases hgv
        rename_i b k hb
        obtain ⟨fn, tmps, as', body, h1, h2⟩ := hcall.yl _ _ _ _ hx σ w _ _ _ hr hvs hb
        refine .rnd b fn tmps as' body w (by cases y with | true => rfl | false => rw [hy rfl] at hx; cases hx) ?_ h2
        rw [exec_call, hgv', hus]
        have e1 : (#[] : Array Value) ++ us.toArray = us.toArray := by simp
        simp only [Deferred.ofValue, sem_pure_bind, invoke, e1]
        exact h1
      · cases hx
    · cases hx
  | move _ | assign _ | pick _ _ _ | build _ _ | ready _ | waits _ | nilCheck _ | binOp _ _ _ _ _ | unOp _ _ _ | convert _ _ _ | sliceToArrayPointer _ _ | makeInterface _ _ | makeFunc _ _ _ | makeChan _ _ | slice _ _ _ _ _
  | fieldAddr _ _ _ | field _ _ _ | indexAddr _ _ _ | index _ _ _ | mapEntry _ _ _ | entryStore _ _ _ _ | range _ _ | next _ _ | entry _ | typeAssert _ _ _ _ | extract _ _ | go _ | defer _ | panic _ | send _ _ | recv _ _ _ | select _ _ =>
    simp only [effA] at hx; cases hx
end Go.Proofs.YtpidmmfjcghmeaaGreat.Ab
