/- Texts in one: AbOp3. -/
import Derived.Test.YtpidmmfjcghmeaaGreatTs21
import Derived.IntWalk
namespace Go.Proofs.YtpidmmfjcghmeaaGreat.Ab
open Go.RowKit
variable {P : Program} {σ : Sg} {W : World}
theorem evA_ok {f : F} {a : Act} (hf : FT σ f.n f.t a.tmps) {l : Array Operand} {vs : List AV} (h : evL f l.toList = some vs) : ∃ us : List Value, l.map a.eval = us.toArray ∧ VL σ vs us :=
  ⟨_, by rw [← Array.toList_map], evL_ok hf h⟩
theorem exec_builtin (ρ : Operand → Value) (dst : Option Tmp) (b : Builtin) (xs : Array Operand) (ats : Array TypeId) (ty : TypeId) (pos : String) (af : Array Edge) (gd : Option (Nat × Bool)) :
    ∃ cs, execOp ρ ⟨dst, .call ⟨.builtin b, xs, ats⟩, ty, pos, af, gd⟩ = builtin b ats ty cs (xs.map ρ) := ⟨_, rfl⟩
theorem run_len {t : Nat} {ats : List TypeId} {ty : TypeId} {v : Value} {n : Nat} (w : World)
    (h : (∃ e a c, P.underlying t = some (.slice e) ∧ v = .slice a n c) ∨ (∃ s, P.underlying t = some .string ∧ v = .string s ∧ n = s.size) ∨ (∃ k e, P.underlying t = some (.map k e) ∧ v = .map none ∧ n = 0)) :
    (Builtin.len_ (t :: ats).toArray ty #[v]).run P w = .ok (.int .i64 n) w := by
  unfold Builtin.len_
  simp only [List.getElem?_toArray, List.getElem?_cons_zero]
  rcases h with ⟨e, a, c, he, rfl⟩ | ⟨s, he, rfl, rfl⟩ | ⟨k, e, he, rfl, rfl⟩ <;> (refine Eq.trans (Sem.run_bind _ _ _ _) ?_; rw [run_und he, Result.andThen_ok]; rfl)
theorem run_cap {t : Nat} {ats : List TypeId} {ty : TypeId} {e : Nat} {A : Option Addr} {n c : Nat} (w : World) (he : P.underlying t = some (.slice e)) :
    (Builtin.cap_ (t :: ats).toArray ty #[.slice A n c]).run P w = .ok (.int .i64 c) w := by
  unfold Builtin.cap_
  simp only [List.getElem?_toArray, List.getElem?_cons_zero]
  refine Eq.trans (Sem.run_bind _ _ _ _) ?_
  rw [run_und he, Result.andThen_ok]; rfl
theorem pureB_ok {b : Builtin} {d : TypeDesc} {args : List AV} {x : AV} (h : pureB d b args = some x) {t : Nat} (hd : P.underlying t = some d) {ats : List TypeId} {us : List Value} (hu : VL σ args us) (ty : TypeId) (cs : Array Bool) :
    ∃ v, VR σ x v ∧ ∀ w, (builtin b (t :: ats).toArray ty cs us.toArray).run P w = .ok (.value v) w := by
  unfold pureB at h
  split at h
  · cases h; cases hu with | cons _ v _ _ h1 h2 => cases h2; cases h1; exact ⟨_, .i _ _, fun w => run_v (run_len w (.inl ⟨_, _, _, hd, rfl⟩))⟩
  · cases h; cases hu with | cons _ v _ _ h1 h2 => cases h2; cases h1; exact ⟨_, .i _ _, fun w => run_v (run_len w (.inl ⟨_, _, _, hd, rfl⟩))⟩
  · cases h; cases hu with | cons _ v _ _ h1 h2 => cases h2; cases h1; exact ⟨_, .i _ _, fun w => run_v (run_len (n := 0) w (.inl ⟨_, _, _, hd, rfl⟩))⟩
  · cases h; cases hu with | cons _ v _ _ h1 h2 => cases h2; cases h1; exact ⟨_, .i _ _, fun w => run_v (run_len (n := 0) w (.inl ⟨_, _, _, hd, rfl⟩))⟩
  · cases h; cases hu with | cons _ v _ _ h1 h2 => cases h2; cases h1; exact ⟨_, .i _ _, fun w => run_v (run_len w (.inr (.inl ⟨_, hd, rfl, rfl⟩)))⟩
  · cases h; cases hu with | cons _ v _ _ h1 h2 => cases h2; cases h1; exact ⟨_, .i _ _, fun w => run_v (run_len (n := 0) w (.inr (.inr ⟨_, _, hd, rfl, rfl⟩)))⟩
  · cases h; cases hu with | cons _ v _ _ h1 h2 => cases h2; cases h1; exact ⟨_, .i _ _, fun w => run_v (run_cap w hd)⟩
  · cases h; cases hu with | cons _ v _ _ h1 h2 => cases h2; cases h1; exact ⟨_, .i _ _, fun w => run_v (run_cap (c := 0) w hd)⟩
  · cases h; cases hu with | cons _ v _ _ h1 h2 => cases h1; cases h2 with | cons _ v _ _ h3 h4 => cases h3; cases h4; exact ⟨_, .i _ _, fun w => run_v rfl⟩
  · cases h; cases hu with | cons _ v _ _ h1 h2 => cases h1; cases h2 with | cons _ v _ _ h3 h4 => cases h3; cases h4; exact ⟨_, .i _ _, fun w => run_v rfl⟩
  · cases h
theorem bool_ok {x : Bool} {v : Value} (h : VR σ (.b x) v) : v = .bool x := by cases h; rfl
theorem run_index {t e n i len : Nat} {k : IntKind} {b off c : Nat} (hu : P.underlying t = some (.slice e)) (hn : sz P e = some n) (hi : i < len) (w : World) :
    (Instr.indexAt t (.slice (some ⟨b, off, none⟩) len c) (.int k (i : Int))).run P w = .ok (.pointer (some ⟨b, off + i * n, none⟩)) w := by
  unfold Instr.indexAt
  simp only [asIntOf, sem_pure_bind]
  rw [Sem.run_bind, run_und hu, Result.andThen_ok]
  simp only
  rw [Sem.run_bind, run_und hu, Result.andThen_ok]
  simp only
  rw [if_pos ⟨by omega, by omega⟩, Sem.run_bind, run_sz hn, Result.andThen_ok, run_p, add_eq]
  simp
theorem run_indexA {t e n i len : Nat} {k : IntKind} {b off : Nat} (hu : P.underlying t = some (.array len e)) (hn : sz P e = some n) (hi : i < len) (w : World) :
    (Instr.indexAt t (.pointer (some ⟨b, off, none⟩)) (.int k (i : Int))).run P w = .ok (.pointer (some ⟨b, off + i * n, none⟩)) w := by
  unfold Instr.indexAt
  simp only [asIntOf, sem_pure_bind]
  rw [Sem.run_bind, run_und hu, Result.andThen_ok]
  simp only [Instr.sureAddr, sem_pure_bind]
  rw [Sem.run_bind, run_und hu, Result.andThen_ok]
  simp only
  rw [if_pos ⟨by omega, by omega⟩, Sem.run_bind, run_sz hn, Result.andThen_ok, run_p, add_eq]
  simp
theorem run_field {s n k : Nat} {fs : Array Field} {fd : Field} {b off : Nat} (hu : P.underlying s = some (.struct fs)) (hk : fs[k]? = some fd) (hn : sz P fd.type = some (n + 1)) (w : World) :
    (Instr.fieldAt s (.pointer (some ⟨b, off, none⟩)) k).run P w = .ok (.pointer (some ⟨b, off + fd.offset, none⟩)) w := by
  unfold Instr.fieldAt
  rw [Sem.run_bind, run_und hu, Result.andThen_ok]
  simp only [hk, Instr.sureAddr, sem_pure_bind]
  rw [Sem.run_bind]
  unfold fieldPlace
  rw [Sem.run_bind, run_sz hn, Result.andThen_ok, if_neg (by omega), run_p, Result.andThen_ok, run_p, add_eq]
theorem in64_ok {n : Int} {x : AV} (h : in64 n = some x) : x = .i .i64 (IntKind.i64.wrap n) := by
  unfold in64 at h
  split at h
  · rename_i hc; cases h; rw [IntWalk.i64_in n hc]
  · cases h
theorem fast_ok {op : BinOp} {x y r : AV} (h : fastBin op x y = some r) {u v : Value} (hu : VR σ x u) (hv : VR σ y v) (t : TypeId) (X : Operand × Operand) :
    ∃ z, VR σ r z ∧ ∀ w, (do let r ← (do eqGuard op t X.1 X.2 u v; binOp op t u v : Sem Value); pure (Next.value r) : Sem Next).run P w = .ok (.value z) w := by
  unfold fastBin at h
  split at h
  · cases hu; cases hv
    split at h
    · rw [in64_ok h]; exact ⟨_, .i _ _, fun w => rfl⟩
    · rw [in64_ok h]; exact ⟨_, .i _ _, fun w => rfl⟩
    · rw [in64_ok h]; exact ⟨_, .i _ _, fun w => rfl⟩
    all_goals first | (cases h; exact ⟨_, .b _, fun w => rfl⟩) | cases h
  · cases hu; cases hv
    split at h
    all_goals first | (cases h; exact ⟨_, .b _, fun w => rfl⟩) | cases h
  · cases h
theorem pure_ok {f : F} {h : H} {a : Act} {w : World} (hf : FT σ f.n f.t a.tmps) (hr : HR W σ h w) {o : Oper} {x : AV} (hx : pureA P f h o = some x) :
    ∃ v, VR σ x v ∧ ∀ w', (execOp a.eval o).run P w' = .ok (.value v) w' := by
  obtain ⟨dst, op, ty, pos, af, gd⟩ := o
  cases op with
  | move y => exact ⟨_, ev_ok hf hx, fun w' => rfl⟩
  | assign y => exact ⟨_, ev_ok hf hx, fun w' => rfl⟩
  | pick c y z =>
    simp only [pureA, pickP] at hx
    split at hx
    · rename_i hc; refine ⟨_, ev_ok hf hx, fun w' => ?_⟩; simp only [execOp, bool_ok (ev_ok hf hc)]; rfl
    · rename_i hc; refine ⟨_, ev_ok hf hx, fun w' => ?_⟩; simp only [execOp, bool_ok (ev_ok hf hc)]; rfl
    · cases hx
  | build t parts =>
    obtain ⟨v, h1, h2⟩ := run_build hf hx
    exact ⟨v, h1, fun w' => run_v (h2 w')⟩
  | nilCheck y =>
    simp only [pureA, nilCheckP] at hx
    split at hx
    · rename_i hy; cases hx
      have := ev_ok hf hy
      refine ⟨_, this, fun w' => ?_⟩
      simp only [execOp]
      generalize a.eval y = u at this ⊢
      cases this; rfl
    · rename_i hy; cases hx
      have := ev_ok hf hy
      refine ⟨_, this, fun w' => ?_⟩
      simp only [execOp]
      generalize a.eval y = u at this ⊢
      cases this; rfl
    · cases hx
  | binOp op t y z yt =>
    simp only [pureA, binOpP] at hx
    split at hx
    · rename_i u v hu hv
      split at hx
      · rename_i r hfb
        cases hx
        exact fast_ok hfb (ev_ok hf hu) (ev_ok hf hv) t (y, z)
      · split at hx
        · rename_i d hd
          split at hx
          · rename_i hn
            have h1 := run_bin hn hd (ev_ok hf hu) (ev_ok hf hv)
            split at hx
            · cases hx; exact ⟨_, .b _, fun w' => run_v (h1 w' y z).1⟩
            · cases hx; exact ⟨_, .b _, fun w' => run_v (h1 w' y z).2⟩
            · cases hx
          · exact flat_ok hf (fun _ _ e => by cases e) hx
        · cases hx
    · cases hx
  | unOp op t y =>
    simp only [pureA, unOpP] at hx
    split at hx
    · rename_i v hv
      cases hx
      refine ⟨_, .b _, fun w' => run_v ?_⟩
      rw [bool_ok (ev_ok hf hv)]; rfl
    · exact flat_ok hf (fun _ _ e => by cases e) hx
  | convert s d y => exact flat_ok hf (fun _ _ e => by cases e) hx
  | index t y z => exact flat_ok hf (fun _ _ e => by cases e) hx
  | makeInterface t y =>
    simp only [pureA, makeInterfaceP] at hx
    split at hx
    · cases hx
    · rename_i d v h1 hd hv
      cases hx
      refine ⟨_, .ifc t _ _ (ev_ok hf hv), fun w' => run_v ?_⟩
      rw [Instr.makeInterface, Sem.run_bind, run_und hd, Result.andThen_ok]
      split
      · rename_i e; exact (h1 _ rfl).elim
      · rfl
    · cases hx
  | makeFunc fn first cap =>
    simp only [pureA, makeFuncP] at hx
    split at hx
    · rename_i g l m hl hm
      cases hx
      obtain ⟨us, h1, h2⟩ := evA_ok hf hl
      obtain ⟨vs, h3, h4⟩ := evA_ok hf hm
      refine ⟨_, .fn _ _ _ _ _ h2 h4, fun w' => run_v ?_⟩
      rw [h1, h3]; rfl
    · cases hx
  | slice t y lo hi mx =>
    simp only [pureA, sliceP] at hx
    split at hx
    · rename_i e v l1 l2 l3 hu hv h1 h2 h3
      split at hx
      · rename_i n1 n2 n3 n h4 h5 h6 hn
        obtain ⟨u, h7, h8⟩ := slice_ok hr hu hn (natO_ok hf h1 h4) (natO_ok hf h2 h5) (natO_ok hf h3 h6) (ev_ok hf hv) hx
        exact ⟨u, h7, fun w' => run_v (h8 w')⟩
      · cases hx
    · exact flat_ok hf (fun _ _ e => by cases e) hx
    · cases hx
  | fieldAddr s y k =>
    simp only [pureA, fieldAddrP] at hx
    split at hx
    · rename_i fs id off hu hy
      split at hx
      · rename_i fd hk
        split at hx
        · rename_i n hn
          cases hx
          have := ev_ok hf hy
          cases hv : a.eval y <;> rw [hv] at this <;> cases this
          rename_i b k' hb
          exact ⟨_, .ptr _ _ b k' hb, fun w' => run_v (by rw [hv]; exact run_field hu hk hn w')⟩
        · cases hx
      · cases hx
    · cases hx
  | field t y k =>
    simp only [pureA, fieldP] at hx
    split at hx
    · rename_i fs l hu hy
      split at hx
      · rename_i fd hk
        have := ev_ok hf hy
        cases hv : a.eval y <;> rw [hv] at this <;> cases this
        rename_i xs hl
        obtain ⟨v, h1, h2⟩ := run_part hx hl
        refine ⟨v, h1, fun w' => run_v ?_⟩
        rw [hv, Instr.field, Sem.run_bind, run_und hu, Result.andThen_ok]
        simp only [hk, asAgg, sem_pure_bind]
        exact h2 w'
      · cases hx
    · cases hx
  | indexAddr t y z =>
    simp only [pureA, indexAddrP] at hx
    split at hx
    · rename_i e id off len cap iv hu hy hz
      split at hx
      · rename_i n i hn hi
        split at hx
        · rename_i hlt
          cases hx
          obtain ⟨k, hk⟩ := nat_ok hi (ev_ok hf hz)
          have := ev_ok hf hy
          cases hv : a.eval y <;> rw [hv] at this <;> cases this
          rename_i b k' hb
          exact ⟨_, .ptr _ _ b k' hb, fun w' => run_v (by rw [hv, hk]; exact run_index hu hn hlt w')⟩
        · cases hx
      · cases hx
    · rename_i e id off len s iv hu hy hz
      split at hx
      · rename_i n i hn hi
        split at hx
        · rename_i hlt
          cases hx
          obtain ⟨k, hk⟩ := nat_ok hi (ev_ok hf hz)
          have := ev_ok hf hy
          cases hv : a.eval y <;> rw [hv] at this <;> cases this
          rename_i c b k' hb h1
          exact ⟨_, .ptr _ _ b k' hb, fun w' => run_v (by rw [hv, hk]; exact run_index hu hn hlt w')⟩
        · cases hx
      · cases hx
    · rename_i len e id off iv hu hy hz
      split at hx
      · rename_i n i hn hi
        split at hx
        · rename_i hlt
          cases hx
          obtain ⟨k, hk⟩ := nat_ok hi (ev_ok hf hz)
          have := ev_ok hf hy
          cases hv : a.eval y <;> rw [hv] at this <;> cases this
          rename_i b k' hb
          exact ⟨_, .ptr _ _ b k' hb, fun w' => run_v (by rw [hv, hk]; exact run_indexA hu hn hlt w')⟩
        · cases hx
      · cases hx
    · cases hx
  | extract y k =>
    simp only [pureA, extractP] at hx
    split at hx
    · rename_i l hy
      have := ev_ok hf hy
      cases hv : a.eval y <;> rw [hv] at this <;> cases this
      rename_i xs hl
      obtain ⟨v, h1, h2⟩ := hl.get hx
      refine ⟨v, h2, fun w' => run_v ?_⟩
      rw [hv, Instr.extract]
      simp [h1]
    · cases hx
  | call c =>
    obtain ⟨callee, args, ats⟩ := c
    simp only [pureA, callP] at hx
    split at hx
    · rename_i b
      split at hx
      · rename_i as t ts ha ht
        split at hx
        · rename_i d hd
          obtain ⟨us, h1, h2⟩ := evA_ok hf ha
          obtain ⟨cs, hcs⟩ := exec_builtin a.eval dst b args ats ty pos af gd
          obtain ⟨v, h3, h4⟩ := pureB_ok (ats := ts) hx hd h2 ty cs
          refine ⟨v, h3, fun w' => ?_⟩
          rw [hcs, h1, show ats = (t :: ts).toArray by rw [← ht]]
          exact h4 w'
        · cases hx
      · cases hx
    · cases hx
  | typeAssert y xt t ok =>
    cases ok with
    | false => simp only [pureA] at hx; cases hx
    | true =>
      simp only [pureA, typeAssertP] at hx
      split at hx
      · rename_i d z hy hd hz
        cases hx
        obtain ⟨zv, hzv, hzr⟩ := run_zero (σ := σ) hz
        have h1 := ev_ok hf hy
        cases hv : a.eval y <;> rw [hv] at h1 <;> cases h1
        refine ⟨.tuple #[zv, .bool false], .tup _ [zv, .bool false] (.cons _ _ _ _ hzv (.cons _ _ _ _ (.b _) .nil)), fun w' => run_v ?_⟩
        rw [hv]
        unfold Instr.typeAssert
        rw [Sem.run_bind, run_und hd, Result.andThen_ok]
        cases d <;> (simp only [if_true]; rw [Sem.run_bind, hzr, Result.andThen_ok]; rfl)
      · cases hx
  | alloc _ | box _ _ | buildSlice _ _ _ | insert _ _ _ _ | load _ _ | store _ _ _ | ready _ | waits _ | sliceToArrayPointer _ _ | makeMap _ _ | makeChan _ _ | makeSlice _ _ _ | lookup _ _ _ _ | mapUpdate _ _ _ _ | mapEntry _ _ _
  | entryStore _ _ _ _ | range _ _ | next _ _ | entry _ | go _ | defer _ | panic _ | send _ _ | recv _ _ _ | select _ _ => simp only [pureA] at hx; cases hx
end Go.Proofs.YtpidmmfjcghmeaaGreat.Ab
