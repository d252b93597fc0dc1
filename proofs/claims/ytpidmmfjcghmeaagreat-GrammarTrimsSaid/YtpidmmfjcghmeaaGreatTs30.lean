/- Texts in one: AbHook. -/
import Derived.Test.YtpidmmfjcghmeaaGreatTs29
import Derived.Test.YtpidmmfjcghmeaaGreatTs04
import Derived.Lib.Builder
import Derived.Lib.AppendStr
import Derived.Lib.UnsafeStr
import Derived.RegionTactic
import Derived.Recover
namespace Go.Proofs.YtpidmmfjcghmeaaGreat.Ab
open Go.RowKit
variable {σ : Sg} {W : World}

theorem size_builder : (Tryz.prog.info? 141).map (·.size) = some 2 := by kernel_rfl
theorem cells_builder : Tryz.prog.cellsOf 141 = 2 := by kernel_rfl
theorem fits_builder : sameLayout Tryz.prog Tryz.prog.depth 141 141 = true := by kernel_rfl
theorem lies_builder (k : Nat) (hk : 2 ≤ k) : liesAt Tryz.prog Tryz.prog.depth 141 (k / Tryz.prog.cellsOf 141) 0 141 1 = true := by
  rw [cells_builder]
  have h2 : 1 ≤ k / 2 := by omega
  have hr : ∀ d, rowAt Tryz.prog (sameLayout Tryz.prog Tryz.prog.depth · 141) (d + 1) 141 (k / 2) 0 1 = true := fun d => by
    rw [rowAt]
    simp only [cells_builder]
    rw [if_neg (by decide)]
    simp [h2, fits_builder]
  have hd : ∃ d, Tryz.prog.depth = d + 1 := ⟨2 * (Tryz.prog.types.size + Made.depth) + 1, rfl⟩
  obtain ⟨d, hd⟩ := hd
  have h3 := hr d
  rw [← hd] at h3
  have h4 : ∀ e, liesAt Tryz.prog (e + 1) 141 (k / 2) 0 141 1 = true := fun e => by
    rw [liesAt, h3]; rfl
  have h5 := h4 d
  rw [← hd] at h5
  exact h5

set_option maxHeartbeats 1000000 in
set_option maxRecDepth 100000 in
theorem copyUsed (b : Nat) (w : World) (h0 : w.cell? ⟨b, 0, none⟩ = some (.pointer (some ⟨b, 0, none⟩))) :
    Calls Tryz.prog 135 #[.pointer (some ⟨b, 0, none⟩)] w fun e w' => e = .returned (.tuple #[]) ∧ w = w' := by
  obtain ⟨j, hj, _⟩ := Option.map_eq_some_iff.1 size_builder
  go_enter Tryz.func135, Tryz.ntmps135
  go_wp2
  rw [Lib.run_neq_ptr_same w _ Tryz.underlying138 hj]
  go_wp2
  go_end0
  exact ⟨rfl, rfl⟩

set_option maxHeartbeats 1000000 in
set_option maxRecDepth 100000 in
theorem copyFresh {k : Nat} (hk : 2 ≤ k) (b : Nat) (w : World) (h0 : w.cell? ⟨b, 0, none⟩ = some (.pointer none)) (hsh : w.shape? b = some (141, k)) (hfz : w.frozen? ⟨b, 0, none⟩ = false) :
    Calls Tryz.prog 135 #[.pointer (some ⟨b, 0, none⟩)] w fun e w' => e = .returned (.tuple #[]) ∧ w.setCell ⟨b, 0, none⟩ (.pointer (some ⟨b, 0, none⟩)) = w' := by
  obtain ⟨j, hj, hjs⟩ := Option.map_eq_some_iff.1 size_builder
  go_enter Tryz.func135, Tryz.ntmps135
  go_wp2
  rw [Lib.run_to_unsafe w ⟨b, 0, none⟩ Tryz.underlying138 Tryz.underlying285 hj (by rw [hjs]; decide) hsh (by show 0 < k; omega)]
  simp only [Result.andThen]
  rw [Oper.upon_value]
  go_wp2
  rw [run_callFunc_extern Tryz.func207 (by kernel_rfl) (by kernel_rfl) (by kernel_rfl) (e := Extern.AbiNoEscape.same) (by kernel_rfl)]
  rw [Lib.run_noEscape]
  simp only [Result.andThen]
  rw [Oper.upon_value]
  go_wp2
  rw [Lib.run_from_unsafe w ⟨b, 0, none⟩ Tryz.underlying285 Tryz.underlying138 hj hsh (lies_builder k hk)]
  simp only [Result.andThen]
  rw [Oper.upon_value]
  go_wp2
  go_end0
  exact ⟨rfl, rfl⟩

theorem cells_byte : Tryz.prog.cellsOf 5 = 1 := by kernel_rfl
theorem freeze_eq {w : World} {b n : Nat} {c : Array Value} {ty : TypeId} (h : w.heap[b]? = some (.cells c ty (0, 0))) (hn : n ≠ 0) : w.freeze ⟨b, 0, none⟩ n = World.upd w b (.cells c ty (0, 0 + n)) := by
  unfold World.freeze World.upd
  rw [if_neg hn]
  congr 1
  apply Array.ext_getElem?
  intro i
  rw [Array.getElem?_modify, Array.getElem?_setIfInBounds]
  by_cases e : b = i
  · subst e
    rw [if_pos rfl, if_pos rfl, h]
    have hlt : b < w.heap.size := (Array.getElem?_eq_some_iff.1 h).1
    simp [hlt]
  · rw [if_neg e, if_neg e]

set_option maxHeartbeats 2000000 in
set_option maxRecDepth 100000 in
theorem strRow (b g cap : Nat) (cur : Array Value) (l : List UInt8) (w : World) (h0 : l ≠ []) (hsm : l.length ≤ 1000000) (h1 : w.cell? ⟨b, 1, none⟩ = some (.slice (some ⟨g, 0, none⟩) l.length cap)) (hcap : l.length ≤ cap)
    (hg : w.heap[g]? = some (.cells cur 5 (0, 0))) (hle : l.length ≤ cur.size) (hc : ∀ j x, l[j]? = some x → w.cell? ⟨g, j, none⟩ = some (.int .u8 x.toNat)) :
    Calls Tryz.prog 70 #[.pointer (some ⟨b, 0, none⟩)] w fun e w' => e = .returned (.string ⟨l.toArray⟩) ∧ w' = w.drew.freeze ⟨g, 0, none⟩ l.length := by
  have hl0 : l.length ≠ 0 := by simpa using h0
  have c1 : w.drew.cell? ⟨b, 1, none⟩ = some (.slice (some ⟨g, 0, none⟩) l.length cap) := h1
  have hSD : (Builtin.unsafeSliceData_ #[139] 231 #[.slice (some ⟨g, 0, none⟩) l.length cap]).run Tryz.prog w.drew = .ok (.pointer (some ⟨g, 0, none⟩)) w.drew :=
    Lib.run_unsafeSliceData_row _ _ _ _ _ _ (by omega)
  have hUS : (Builtin.unsafeString_ #[231, 3] 9 #[.pointer (some ⟨g, 0, none⟩), .int .i64 l.length]).run Tryz.prog w.drew = .ok (.string ⟨l.toArray⟩) (w.drew.freeze ⟨g, 0, none⟩ l.length) := by
    refine Lib.run_unsafeString_row w.drew 231 3 9 5 Tryz.underlying231 cells_byte g cur.size (by have hg' : w.drew.heap[g]? = some (.cells cur 5 (0, 0)) := hg; simp [World.shape?, hg']) l h0 hle (by omega) ?_
    intro j x hx
    rw [add_eq, Nat.zero_add]
    exact hc j x hx
  go_enter Tryz.func70, Tryz.ntmps70
  go_wp2
  go_region
  all_goals (go_wp2; go_ret; exact ⟨rfl, rfl⟩)
/-! ### What is known of calls -/
noncomputable def bytesA : List AV → Option (List UInt8)
  | [] => some []
  | .i .u8 (.ofNat n) :: l => if n < 256 then (match bytesA l with | some r => some (UInt8.ofNat n :: r) | none => none) else none
  | _ => none
noncomputable def hCopy (args : List AV) (h : H) : Option (AV × H) := match args with
  | [.ptr id 0] => match h.get id with
    | some (.cells [p, s] ty) => if ty = 141 then (match p with
      | .np => some (und, h.set id (some (.cells [.ptr id 0, s] ty)))
      | .ptr i 0 => if i = id then some (und, h) else none
      | _ => none) else none
    | _ => none
  | _ => none
noncomputable def hStr (args : List AV) (h : H) : Option (AV × H) := match args with
  | [.ptr id 0] => match h.get id with
    | some (.cells [_, .so r 0 n 1] _) => match h.get r with
      | some (.cells c ty) => if ty = 5 ∧ 0 < n ∧ n ≤ 1000000 ∧ n ≤ c.length then (match bytesA (c.take n) with | some l => some (.s ⟨l.toArray⟩, h.set r none) | none => none) else none
      | _ => none
    | _ => none
  | _ => none
noncomputable def hIdx (args : List AV) (h : H) : Option (AV × H) := match args with
  | [.s x, .i .u8 c] => some (.i .i64 (Lib.indexByte x.data.toList c.toNat.toUInt8), h)
  | _ => none
noncomputable def hName (args : List AV) (h : H) : Option (AV × H) := match args with
  | [.s x] => if x.size ≤ 1000000 then some (.b (Chr.name x.data.toList), h) else none
  | _ => none
theorem HR.below {h : H} {w w' : World} (hr : HR W σ h w) (hb : Below w.heap.size w w') : HR W σ h w' := by
  refine ⟨fun i o hi => ?_, hr.inj, hr.fre, hr.frs, hr.fsl, hr.rsl, hr.rnd, ?_⟩
  · obtain ⟨b, k, h1, h2, h3, h4⟩ := hr.obj i o hi
    have hs := hb.size
    exact ⟨b, k, h1, h2, by omega, by rw [hb.block b h3]; exact h4⟩
  · have hs := hr.bel.size
    exact hr.bel.trans ⟨hb.os, hb.tape, hb.output, hb.size, fun k hk => hb.block k (by omega)⟩
theorem ent {k : Nat} {fn : Func} (hk : Tryz.prog.funcs[k]? = some fn) (hb : fn.body.isNone = false) (hn : (fn.name == "runtime.NumGoroutine") = false) (args : Array Value) (w : World) : (callFunc k args).run Tryz.prog w = .ok (.enter k args) w := by
  unfold callFunc
  simp only [program, Bind.bind, Sem.bind, Sem.run, hk, hn, hb, Bool.false_eq_true, if_false]
  rfl
theorem bytesA_ok : ∀ {l : List AV} {r : List UInt8}, bytesA l = some r → ∀ {vs : List Value}, VL σ l vs → r.length = l.length ∧ ∀ (j : Nat) (x : UInt8), r[j]? = some x → vs[j]? = some (.int .u8 x.toNat)
  | [], r, h, vs, hv => by simp only [bytesA] at h; cases h; exact ⟨rfl, fun j x hj => by simp at hj⟩
  | x :: l, r, h, vs, hv => by
    unfold bytesA at h
    split at h
    · rename_i e; cases e
    · rename_i n l' e
      cases e
      split at h
      · rename_i hn
        split at h
        · rename_i r' hr'
          cases h
          cases hv with
          | cons _ v _ vs h1 h2 =>
            cases h1
            obtain ⟨h3, h4⟩ := bytesA_ok hr' h2
            refine ⟨by simp [h3], fun j x hj => ?_⟩
            cases j with
            | zero =>
              simp only [List.getElem?_cons_zero, Option.some.injEq] at hj ⊢
              subst hj
              have : (UInt8.ofNat n).toNat = n := by simp [Nat.mod_eq_of_lt hn]
              rw [this]; rfl
            | succ j => simp only [List.getElem?_cons_succ] at hj ⊢; exact h4 j x hj
        · cases h
      · cases h
    · cases h
theorem hCopy_ok {args : List AV} {h : H} {r : AV × H} (hx : hCopy args h = some r) {w : World} {us : List Value} (hr : HR W σ h w) (hv : VL σ args us) :
    Calls Tryz.prog 135 us.toArray w (fun e w' => ∃ v, e = .returned v ∧ Rs W σ r v w') := by
  unfold hCopy at hx
  split at hx
  rotate_left
  · cases hx
  rename_i id
  split at hx
  rotate_left
  · cases hx
  rename_i p s ty hg
  split at hx
  rotate_left
  · cases hx
  rename_i hty
  subst hty
  cases hv with
  | cons _ v _ _ h1 h2 =>
    cases h2
    cases h1 with
    | ptr _ _ b k hb =>
      obtain ⟨b', k', hb', _, hlt, ho⟩ := hr.obj _ _ hg
      obtain ⟨rfl, rfl⟩ : b' = b ∧ k' = k := by rw [hb] at hb'; simpa using hb'.symm
      obtain ⟨c, hc, hck, hcl, hcv⟩ := ho.row
      have hl2 : 2 ≤ c.length := hcl
      obtain ⟨pv, hpv, hp1⟩ := hcv.get (i := 0) (x := p) rfl
      have hc0 : c[0]? = some pv := by rw [List.getElem?_take] at hpv; simpa using hpv
      have hcell : w.cell? ⟨b', 0, none⟩ = some pv := by simp [World.cell?, hc, hc0]
      have hfz : w.frozen? ⟨b', 0, none⟩ = false := by simp [World.frozen?, hc]
      have hsh : w.shape? b' = some (141, c.length) := by simp [World.shape?, hc]
      split at hx
      · cases hx
        cases hp1
        refine (copyFresh hl2 b' w hcell hsh hfz).mono ?_
        rintro e w' ⟨rfl, rfl⟩
        refine ⟨_, rfl, σ, Sg.le_refl _, .und, ?_⟩
        rw [setCell_eq hc]
        have e1 : c.toArray.setIfInBounds 0 (.pointer (some ⟨b', 0, none⟩)) = (putV c 0 [.pointer (some ⟨b', 0, none⟩)]).toArray := by simp [putV]
        rw [e1]
        exact hr.upd hg hb (OR.put hck hcl hcv (off := 0) (new := [.ptr id 0]) (by simp [putL]) (.cons _ _ _ _ (.ptr _ _ _ _ hb) .nil))
      · rename_i i
        split at hx
        · rename_i hii
          subst hii
          cases hx
          cases hp1 with
          | ptr _ _ b2 k2 hb2 =>
            obtain ⟨rfl, rfl⟩ : b' = b2 ∧ k' = k2 := by rw [hb] at hb2; simpa using hb2
            refine (copyUsed b' w hcell).mono ?_
            rintro e w' ⟨rfl, rfl⟩
            exact ⟨_, rfl, σ, Sg.le_refl _, .und, hr⟩
        · cases hx
      · cases hx
theorem hStr_ok {args : List AV} {h : H} {r : AV × H} (hx : hStr args h = some r) {w : World} {us : List Value} (hr : HR W σ h w) (hv : VL σ args us) :
    Calls Tryz.prog 70 us.toArray w (fun e w' => ∃ v, e = .returned v ∧ Rs W σ r v w') := by
  unfold hStr at hx
  split at hx
  rotate_left
  · cases hx
  rename_i id
  split at hx
  rotate_left
  · cases hx
  rename_i p q n ty hg
  split at hx
  rotate_left
  · cases hx
  rename_i row ty2 hg2
  split at hx
  rotate_left
  · cases hx
  rename_i hcond
  obtain ⟨rfl, hn0, hn1, hn2⟩ := hcond
  split at hx
  rotate_left
  · cases hx
  rename_i l hl
  cases hx
  cases hv with
  | cons _ v _ _ h1 h2 =>
    cases h2
    cases h1 with
    | ptr _ _ b k hb =>
      obtain ⟨b', k', hb', _, hlt, ho⟩ := hr.obj _ _ hg
      obtain ⟨rfl, rfl⟩ : b' = b ∧ k' = k := by rw [hb] at hb'; simpa using hb'.symm
      obtain ⟨c, hc, hck, hcl, hcv⟩ := ho.row
      obtain ⟨sv, hsv, hs1⟩ := hcv.get (i := 1) (x := .so q 0 n 1) rfl
      have hc1 : c[1]? = some sv := by rw [List.getElem?_take] at hsv; simpa using hsv
      have hcell : w.cell? ⟨b', 1, none⟩ = some sv := by simp [World.cell?, hc, hc1]
      cases hs1 with
      | so _ _ _ _ g kg cap hgs hk =>
        obtain ⟨g', kg', hgs', _, hglt, hor⟩ := hr.obj _ _ hg2
        obtain ⟨rfl, rfl⟩ : g' = g ∧ kg' = kg := by rw [hgs] at hgs'; simpa using hgs'.symm
        obtain ⟨cc, hcc, hcck, hccl, hccv⟩ := hor.row
        obtain ⟨h3, h4⟩ := bytesA_ok hl (hccv.take n)
        have hln : l.length = n := by rw [h3, List.length_take]; omega
        have hne : l ≠ [] := fun e => by rw [e] at hln; simp at hln; omega
        subst hln
        refine (strRow b' g' cap cc.toArray l w hne hn1 hcell (by omega) hcc (by simp; omega) fun j x hj => ?_).mono ?_
        · have hjl : j < l.length := (List.getElem?_eq_some_iff.1 hj).1
          have h5 := h4 j x hj
          rw [List.take_take, List.getElem?_take] at h5
          split at h5
          · simp [World.cell?, hcc, h5]
          · cases h5
        · rintro e w' ⟨rfl, rfl⟩
          refine ⟨_, rfl, σ, Sg.le_refl _, .s _, ?_⟩
          rw [freeze_eq (w := w.drew) hcc (by omega)]
          exact hr.drew.loose hg2 hgs _
theorem hIdx_ok {args : List AV} {h : H} {r : AV × H} (hx : hIdx args h = some r) {w : World} {us : List Value} (hr : HR W σ h w) (hv : VL σ args us) :
    Calls Tryz.prog 235 us.toArray w (fun e w' => ∃ v, e = .returned v ∧ Rs W σ r v w') := by
  unfold hIdx at hx
  split at hx
  · rename_i x c
    cases hx
    cases hv with
    | cons _ v _ _ h1 h2 => cases h2 with
      | cons _ v2 _ _ h3 h4 =>
        cases h4; cases h1; cases h3
        refine (indexByte_p x c w).mono ?_
        rintro e w' ⟨rfl, rfl⟩
        exact ⟨_, rfl, σ, Sg.le_refl _, by rw [Lib.toList_data]; exact .i _ _, hr⟩
  · cases hx
theorem hName_ok {args : List AV} {h : H} {r : AV × H} (hx : hName args h = some r) {w : World} {us : List Value} (hr : HR W σ h w) (hv : VL σ args us) :
    Calls Tryz.prog 144 us.toArray w (fun e w' => ∃ v, e = .returned v ∧ Rs W σ r v w') := by
  unfold hName at hx
  split at hx
  · rename_i x
    split at hx
    · rename_i hs
      cases hx
      cases hv with
      | cons _ v _ _ h1 h2 =>
        cases h2; cases h1
        refine (name_p x w (by omega)).mono ?_
        rintro e w' ⟨rfl, hb⟩
        exact ⟨_, rfl, σ, Sg.le_refl _, by rw [Lib.toList_data]; exact .b _, hr.below hb⟩
    · cases hx
  · cases hx
/-! ### The set-up -/
noncomputable def hook (n : Nat) : Option (List AV → H → Option (AV × H)) :=
  match decide (n = 135), decide (n = 70), decide (n = 235), decide (n = 144) with
  | true, _, _, _ => some hCopy
  | _, true, _, _ => some hStr
  | _, _, true, _ => some hIdx
  | _, _, _, true => some hName
  | _, _, _, _ => none
noncomputable def cfg : Cfg := { hook := hook, fuel := 400, draw := fun call _ => drawC Tryz.prog call }
theorem follows : Tryz.prog.follows .mixedOrders = true := by kernel_rfl
theorem names_all : (Tryz.prog.funcs.toList.all fun fn => !(fn.name == "runtime.NumGoroutine")) = true := by kernel_rfl
theorem names_ok (k : Nat) (fn : Func) (h : Tryz.prog.funcs[k]? = some fn) : (fn.name == "runtime.NumGoroutine") = false := by
  have h1 := List.all_eq_true.1 names_all fn (Array.mem_toList_iff.2 (Array.mem_of_getElem? h))
  simpa using h1
theorem hook_ok (k : Nat) (g : List AV → H → Option (AV × H)) (hk : hook k = some g) (args : List AV) (h : H) (r : AV × H) (hx : g args h = some r) (σ : Sg) (w : World) (us : List Value) (hr : HR W σ h w) (hv : VL σ args us) :
    (callFunc k us.toArray).run Tryz.prog w = .ok (.enter k us.toArray) w ∧ Calls Tryz.prog k us.toArray w (fun e w' => ∃ v, e = .returned v ∧ Rs W σ r v w') := by
  unfold hook at hk
  split at hk
  · rename_i h1; cases hk; simp only [decide_eq_true_eq] at h1; subst h1
    exact ⟨ent Tryz.func135 (by kernel_rfl) (names_ok _ _ Tryz.func135) _ _, hCopy_ok hx hr hv⟩
  · rename_i h1 _; cases hk; simp only [decide_eq_true_eq] at h1; subst h1
    exact ⟨ent Tryz.func70 (by kernel_rfl) (names_ok _ _ Tryz.func70) _ _, hStr_ok hx hr hv⟩
  · rename_i h1 _ _; cases hk; simp only [decide_eq_true_eq] at h1; subst h1
    exact ⟨ent Tryz.func235 (by kernel_rfl) (names_ok _ _ Tryz.func235) _ _, hIdx_ok hx hr hv⟩
  · rename_i h1 _ _ _; cases hk; simp only [decide_eq_true_eq] at h1; subst h1
    exact ⟨ent Tryz.func144 (by kernel_rfl) (names_ok _ _ Tryz.func144) _ _, hName_ok hx hr hv⟩
  · cases hk
theorem cfg_ok : CfgOK Tryz.prog W cfg := ⟨names_ok, hook_ok, fun _ hcall _ => drawC_ok follows hcall⟩
end Go.Proofs.YtpidmmfjcghmeaaGreat.Ab
