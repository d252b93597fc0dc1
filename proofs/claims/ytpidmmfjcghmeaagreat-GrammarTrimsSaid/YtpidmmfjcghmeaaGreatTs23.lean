/- Texts in one: AbOp4. -/
import Derived.Test.YtpidmmfjcghmeaaGreatTs22
import Derived.Deep.AppendSrc
import Derived.Lib.AppendZeros
import Derived.Laws.AppendOwn
import Derived.Laws.IdiomCopy
import Derived.Deep.Upon
namespace Go.Proofs.YtpidmmfjcghmeaaGreat.Ab
open Go.RowKit
variable {P : Program} {σ : Sg} {W : World}
/-- What a value and a heap say of the model's, in a greater map. -/
def Rs (W : World) (σ : Sg) (r : AV × H) (v : Value) (w' : World) : Prop := ∃ σ', Sg.le σ σ' ∧ VR σ' r.1 v ∧ HR W σ' r.2 w'
theorem upd_same {w : World} {b : Nat} {o : Obj} (h : w.heap[b]? = some o) : World.upd w b o = w := by
  unfold World.upd
  have : w.heap.setIfInBounds b o = w.heap := by
    apply Array.ext_getElem?
    intro i
    rw [Array.getElem?_setIfInBounds]
    by_cases e : b = i
    · subst e
      have hlt : b < w.heap.size := (Array.getElem?_eq_some_iff.1 h).1
      rw [if_pos rfl, if_pos hlt, h]
    · rw [if_neg e]
  rw [this]
theorem setCells_upd {b : Nat} {ty : TypeId} : ∀ (vs : List Value) (o : Nat) (c : List Value) (w : World), w.heap[b]? = some (.cells c.toArray ty (0, 0)) → w.setCells b o vs = World.upd w b (.cells (putV c o vs).toArray ty (0, 0))
  | [], o, c, w, h => (upd_same h).symm
  | v :: vs, o, c, w, h => by
    have hlt : b < w.heap.size := (Array.getElem?_eq_some_iff.1 h).1
    rw [World.setCells, setCell_eq h, putV]
    have e : c.toArray.setIfInBounds o v = (c.set o v).toArray := by simp
    rw [e, setCells_upd vs (o + 1) (c.set o v) _ (upd_heap hlt), upd_upd]
theorem new_res {h : H} {w : World} (hr : HR W σ h w) (x : AO) (k : Nat) (o : Obj) (ho : OR σ x k (some o)) :
    ∃ σ', Sg.le σ σ' ∧ σ' (h.new x).1 = some (w.heap.size, k) ∧ HR W σ' (h.new x).2 (w.alloc o) := by
  obtain ⟨h1, h2⟩ := hr.new x k o ho
  exact ⟨_, Sg.le_put h1 _, by simp [Sg.put], h2⟩
theorem cells_new {x : AV} {v : Value} (hv : VR σ x v) (ty : Nat) : OR σ (.cells (cellsOf x) ty) v.cells.size (some (.cells v.cells ty (0, 0))) := by
  have h := cellsOf_ok hv
  have hl := h.len
  exact ⟨v.cells.toList, by simp, by simp, v.cells.toList, by rw [← hl], h, by rw [hl, List.take_length]⟩
theorem run_new (e : TypeId) (v : Value) (w : World) : (newVar e v).run P w = .ok ⟨w.heap.size, 0, none⟩ (w.alloc (.cells v.cells e)) := rfl
theorem oneA' {x : AV} {v : Value} (h : VR σ x v) (hx : oneA x = true) : v.oneCell' = true := by
  cases h <;> first | rfl | simp [oneA] at hx
theorem oneAs' {l : List AV} {c : List Value} (h : VL σ l c) (ha : l.all oneA = true) : ∀ v ∈ c, v.oneCell' = true := by
  induction l generalizing c with
  | nil => cases h; simp
  | cons x l ih =>
    cases h with
    | cons _ v _ c h1 h2 =>
      simp only [List.all_cons, Bool.and_eq_true] at ha
      intro u hu
      cases hu with
      | head => exact oneA' h1 ha.1
      | tail _ hm => exact ih h2 ha.2 u hm
/-! ### Rows of many -/
def repV (z : List Value) : Nat → List Value
  | 0 => []
  | n + 1 => z ++ repV z n
theorem rep_ok {z : List AV} {zv : List Value} (h : VL σ z zv) : ∀ n, VL σ (rep z n) (repV zv n)
  | 0 => .nil
  | n + 1 => h.append (rep_ok h n)
theorem repV_len (z : List Value) : ∀ n, (repV z n).length = n * z.length
  | 0 => by simp [repV]
  | n + 1 => by rw [repV, List.length_append, repV_len z n, Nat.succ_mul]; omega
theorem repV_get (z : List Value) : ∀ n i, i < n * z.length → (repV z n)[i]? = z[i % z.length]?
  | 0, i, h => by simp at h
  | n + 1, i, h => by
    rw [repV]
    by_cases hi : i < z.length
    · rw [List.getElem?_append_left hi, Nat.mod_eq_of_lt hi]
    · rw [List.getElem?_append_right (by omega), repV_get z n _ (by rw [Nat.succ_mul] at h; omega), ← Nat.mod_eq_sub_mod (by omega)]
theorem repV_eq (z : Array Value) (n m : Nat) (hm : m = n * z.size) : (Array.range m).map (fun i => z[i % z.size]!) = (repV z.toList n).toArray := by
  subst hm
  apply Array.ext_getElem?
  intro i
  have hr : (repV z.toList n).toArray[i]? = (repV z.toList n)[i]? := by simp
  rw [Array.getElem?_map, hr]
  by_cases hi : i < n * z.size
  · have h0 : 0 < z.size := Nat.pos_of_ne_zero fun e => by rw [e] at hi; simp at hi
    rw [repV_get _ _ _ (by rw [Array.length_toList]; exact hi), Array.length_toList]
    have h1 : i % z.size < z.size := Nat.mod_lt _ h0
    simp [hi, h1]
  · have hl : (repV z.toList n).length = n * z.size := by rw [repV_len]; simp
    rw [List.getElem?_eq_none (by omega)]
    simp; omega
theorem zeroCells_eq (z : Array Value) (n : Nat) : Builtin.zeroCells z n = (repV z.toList n).toArray := by
  unfold Builtin.zeroCells
  exact repV_eq z n _ rfl
/-! ### Appends -/
theorem slice_room (b off : Nat) {c : List Value} {ty : TypeId} {w : World} (hc : w.heap[b]? = some (.cells c.toArray ty (0, 0))) (m : Nat) (hm : off + m ≤ c.length) :
    (∀ j, j < m → (w.cell? ⟨b, off + j, none⟩).isSome = true) ∧ (∀ j, j < m → w.frozen? ⟨b, off + j, none⟩ = false) := by
  refine ⟨fun j hj => ?_, fun j hj => ?_⟩
  · have : off + j < c.length := by omega
    simp [World.cell?, hc, this]
  · simp [World.frozen?, hc]
theorem first_row {b off size n len cap : Nat} {c : List Value} {ty : TypeId} {w : World} (hc : w.heap[b]? = some (.cells c.toArray ty (0, 0))) (hl : off + n * size ≤ c.length) :
    (Builtin.firstCells size n (.slice (some ⟨b, off, none⟩) len cap)).run P w = .ok ((c.drop off).take (n * size)).toArray w := by
  rw [Builtin.firstCells]; exact loads hc _ hl
/-- What is appended. -/
theorem first_ok {h : H} {w : World} (hr : HR W σ h w) {size : Nat} {x : AV} {v : Value} {n m : Nat} {l : List AV} (hx : VR σ x v) (hn : needOf x = some n) (hl : firstA h size m x = some l) :
    ∃ us, VL σ l us ∧ (Builtin.lenOf v = Sem.pure n) ∧ (Builtin.firstCells size m v).run P w = .ok us.toArray w ∧ (Builtin.firstCells size m v).run P w.drew = .ok us.toArray w.drew := by
  unfold firstA at hl
  cases x with
  | sl id off len cap =>
    simp only [needOf] at hn hl
    cases hn
    split at hl
    · rename_i row ty hg
      obtain ⟨b, k, hb, _, _, ho⟩ := hr.obj _ _ hg
      obtain ⟨c, hc, hck, hcl, hcv⟩ := ho.row
      cases hx with
      | sl _ _ _ _ b' k' hb' =>
        obtain ⟨rfl, rfl⟩ : b = b' ∧ k = k' := by rw [hb] at hb'; simpa using hb'
        obtain ⟨h1, h2⟩ := slots_ok hl hcv
        rw [List.length_take] at h2
        rw [List.drop_take, List.take_take, Nat.min_eq_left (by omega)] at h1
        have hcd : (w.drew).heap[b]? = some (.cells c.toArray ty (0, 0)) := hc
        exact ⟨_, h1, rfl, first_row hc (by omega), first_row hcd (by omega)⟩
    · cases hl
  | so id off len s =>
    simp only [needOf] at hn hl
    cases hn
    split at hl
    · rename_i row ty hg
      obtain ⟨b, k, hb, _, _, ho⟩ := hr.obj _ _ hg
      obtain ⟨c, hc, hck, hcl, hcv⟩ := ho.row
      cases hx with
      | so _ _ _ _ b' k' cc hb' hkk =>
        obtain ⟨rfl, rfl⟩ : b = b' ∧ k = k' := by rw [hb] at hb'; simpa using hb'
        obtain ⟨h1, h2⟩ := slots_ok hl hcv
        rw [List.length_take] at h2
        rw [List.drop_take, List.take_take, Nat.min_eq_left (by omega)] at h1
        have hcd : (w.drew).heap[b]? = some (.cells c.toArray ty (0, 0)) := hc
        exact ⟨_, h1, rfl, first_row hc (by omega), first_row hcd (by omega)⟩
    · cases hl
  | ns =>
    simp only [needOf] at hn hl
    cases hn; cases hl; cases hx
    exact ⟨[], .nil, rfl, rfl, rfl⟩
  | _ => simp only [needOf] at hn; cases hn
theorem src_ok {h : H} {w : World} (hr : HR W σ h w) {size tx : Nat} {x : AV} {v : Value} {n : Nat} {new : List AV} (hx : VR σ x v) (ha : addsA P h size tx x = some (n, new)) : ∃ us, VL σ new us ∧ Src P size tx v n us w := by
  unfold addsA at ha
  split at ha
  · rename_i y hu
    split at ha
    · rename_i hs
      subst hs
      cases ha; cases hx
      refine ⟨byteCells y, ?_, .ofString w hu y⟩
      unfold byteCells
      have : ∀ l : List UInt8, VL σ (l.map fun b => AV.i .u8 b.toNat) (l.map fun b => Value.int .u8 b.toNat) := fun l => by
        induction l with
        | nil => exact .nil
        | cons b l ih => exact .cons _ _ _ _ (.i _ _) ih
      exact this _
    · cases ha
  · cases ha
  · rename_i e' hu _
    split at ha
    · rename_i m hm
      split at ha
      · rename_i l hl
        split at ha
        · rename_i hlen
          obtain ⟨hlen, hone⟩ := hlen
          cases ha
          obtain ⟨us, h1, h2, h3, h4⟩ := first_ok (P := P) hr hx hm hl
          exact ⟨us, h1, .inl ⟨_, hu⟩, fun w' => by rw [h2]; rfl, h3, h4, by rw [← h1.len]; exact hlen, oneAs' h1 hone⟩
        · cases ha
      · cases ha
    · cases ha
  · cases ha
theorem putV_split : ∀ (vs c : List Value) (off : Nat), off + vs.length ≤ c.length → putV c off vs = c.take off ++ vs ++ c.drop (off + vs.length)
  | [], c, off, _ => by simp [putV]
  | v :: vs, c, off, h => by
    simp only [List.length_cons] at h
    rw [putV, putV_split vs (c.set off v) (off + 1) (by simp; omega)]
    have h1 : (c.set off v).take (off + 1) = c.take off ++ [v] := by
      rw [List.take_add_one, List.take_set_of_le (Nat.le_refl _)]
      congr 1
      rw [List.getElem?_set_self (by omega)]
      rfl
    have h2 : (c.set off v).drop (off + 1 + vs.length) = c.drop (off + (v :: vs).length) := by
      rw [List.drop_set_of_lt (by omega)]
      congr 1
      simp only [List.length_cons]; omega
    rw [h1, h2]
    simp
theorem needN {e size len n : Nat} {h : H} {old new : List AV} : growA h e size len n old new = (AV.so (h.new (.cells (old ++ new) e)).1 0 (len + n) size, (h.new (.cells (old ++ new) e)).2) := rfl
/-- A row that has grown: a new block. -/
theorem grow_ok {h : H} {w : World} (hr : HR W σ h w) {e size len n cap : Nat} {old new : List AV} {os ns rest : List Value} (ho : VL σ old os) (hn : VL σ new ns) (hol : os.length = len * size) (hnl : ns.length = n * size) (hrl : rest.length = (cap - (len + n)) * size) (hc : len + n ≤ cap) :
    Rs W σ (growA h e size len n old new) (.slice (some ⟨w.heap.size, 0, none⟩) (len + n) cap) (w.drew.alloc (.cells (os ++ ns ++ rest).toArray e)) := by
  have h1 := ho.append hn
  have hlen := h1.len
  have hk : (os ++ ns ++ rest).length = cap * size := by
    simp only [List.length_append, hol, hnl, hrl]
    rw [← Nat.add_mul, ← Nat.add_mul]; congr 1; omega
  obtain ⟨σ', h2, h3, h4⟩ := new_res (w := w.drew) hr.drew (.cells (old ++ new) e) (cap * size) (.cells (os ++ ns ++ rest).toArray e (0, 0))
    ⟨_, rfl, hk, os ++ ns, by rw [hlen], h1, by rw [hlen, List.take_append_of_le_length (Nat.le_refl _), List.take_length]⟩
  exact ⟨σ', h2, .so _ _ _ _ _ _ cap h3 (by omega), h4⟩
theorem store_cells {h : H} {w : World} (hr : HR W σ h w) {id b k : Nat} {l l' new : List AV} {ty off : Nat} {c ns : List Value} (hg : h.get id = some (.cells l ty)) (hb : σ id = some (b, k)) (hc : w.heap[b]? = some (.cells c.toArray ty (0, 0))) (hck : c.length = k)
    (hcl : l.length ≤ c.length) (hcv : VL σ l (c.take l.length)) (hp : putL l off new = some l') (hn : VL σ new ns) : HR W σ (h.set id (some (.cells l' ty))) (w.setCells b off ns) := by
  rw [setCells_upd _ _ c w hc]
  exact hr.upd hg hb (OR.put hck hcl hcv hp hn)
theorem append_ok {h : H} {w : World} (hr : HR W σ h w) {t tx : Nat} {s x : AV} {sv xv : Value} (hs : VR σ s sv) (hx : VR σ x xv) {r : AV × H} (ha : appendA P h t tx s x = some r) (ty : TypeId) :
    ∃ v w', (Builtin.append_ #[t, tx] ty #[sv, xv]).run P w = .ok v w' ∧ Rs W σ r v w' := by
  unfold appendA at ha
  split at ha
  rotate_left
  · cases ha
  rename_i e ht
  split at ha
  · cases ha
  rename_i i hi
  split at ha
  · cases ha
  rename_i zv hz
  split at ha
  · cases ha
  rename_i z hzv
  split at ha
  · cases ha
  rename_i hcond
  have hi0 : 0 < i.size := Nat.pos_of_ne_zero fun e => hcond (.inl e)
  have hib : i.bytes ≤ 1000 := Nat.le_of_not_lt fun e => hcond (.inr (.inl e))
  have hzl : zv.cells.size = i.size := Classical.byContradiction fun e => hcond (.inr (.inr e))
  clear hcond
  have hzr := cellsOf_ok (σ := σ) (ofV_ok hzv)
  have fit : ∀ {need old : Nat}, old < need → need ≤ 2000000 → Builtin.nextslicecap need old * i.bytes ≤ 281474976710656 := fun {need old} h1 h2 => by
    have h3 := nextslicecap_le h1
    calc Builtin.nextslicecap need old * i.bytes ≤ (2 * need) * 1000 := Nat.mul_le_mul h3 hib
      _ ≤ 281474976710656 := by omega
  have rest : ∀ m, (repV zv.cells.toList m).length = m * i.size := fun m => by rw [repV_len, Array.length_toList, hzl]
  split at ha
  · rename_i kk hu
    split at ha
    rotate_left
    · cases ha
    rename_i n hn
    split at ha
    · cases ha
    rename_i hlt
    cases ha
    cases hs
    obtain ⟨k, rfl⟩ := nat_ok hn hx
    have h0 : 0 < n := Nat.pos_of_ne_zero fun e => hlt (.inl e)
    have h1 : n ≤ 1000000 := Nat.le_of_not_lt fun e => hlt (.inr e)
    have hrun := Lib.run_append_nil_zeros w t tx ty e i zv k kk ht hu hi hz n h0 hi0 (by omega) (by
      calc n * i.bytes ≤ 1000000 * 1000 := Nat.mul_le_mul h1 hib
        _ ≤ 281474976710656 := by omega)
    refine ⟨_, _, hrun, ?_⟩
    have hg := grow_ok hr (e := e) (size := i.size) (len := 0) (n := n) (cap := grownCap w n 0 e) (old := []) (os := []) (rest := repV zv.cells.toList (grownCap w n 0 e - n)) .nil (rep_ok hzr n) (by simp) (rest n) (by rw [rest]; simp) (by simpa using grownCap_ge w n 0 e)
    simp only [Nat.zero_add, List.nil_append] at hg
    rw [zeroCells_eq zv.cells n, zeroCells_eq zv.cells, List.append_toArray]
    exact hg
  · cases ha
  · rename_i d s' x' hd hu
    split at ha
    · cases ha
    rename_i n new hadd
    split at ha
    · cases ha
    rename_i hn1
    have hn1 : n ≤ 1000000 := Nat.le_of_not_lt hn1
    obtain ⟨us, hus, hsrc⟩ := src_ok (P := P) hr hx hadd
    -- a new row, in place of one of known cells
    have grows : ∀ {h1 : H} {σ1 : Sg} {base : Option Addr} {sLen sCap : Nat} {old : List AV} {os : List Value}, HR W σ1 h1 w → Sg.le σ σ1 → VL σ1 old os → os.length = sLen * i.size → (Builtin.firstCells i.size sLen (.slice base sLen sCap)).run P w.drew = .ok os.toArray w.drew →
        sCap < sLen + n → sLen ≤ 1000000 →
        ∃ v w', (Builtin.append_ #[t, tx] ty #[.slice base sLen sCap, xv]).run P w = .ok v w' ∧ Rs W σ (growA h1 e i.size sLen n old new) v w' := by
      intro h1 σ1 base sLen sCap old os hr1 hle ho hol hold hg hl
      have hrun := run_append_grow_src w t tx ty e i zv ht hi hz base sLen sCap os hold xv n us hsrc hg (by omega) (fit hg (by omega))
      refine ⟨_, _, hrun, ?_⟩
      have hgo := grow_ok hr1 (e := e) (size := i.size) (len := sLen) (n := n) (cap := grownCap w (sLen + n) sCap e) (rest := repV zv.cells.toList (grownCap w (sLen + n) sCap e - (sLen + n))) ho (hus.mono hle) hol hsrc.newsLen (rest _) (grownCap_ge _ _ _ _)
      rw [zeroCells_eq zv.cells, List.append_toArray]
      obtain ⟨σ', h2, h3⟩ := hgo
      exact ⟨σ', Sg.le_trans hle h2, h3⟩
    split at ha
    · split at ha
      · rename_i hn0
        subst hn0
        cases ha
        cases hs
        obtain rfl : us = [] := List.eq_nil_of_length_eq_zero (by rw [hsrc.newsLen]; simp)
        exact ⟨.slice none 0 0, w, run_append_nothing w t tx ty e i ht hi none 0 0 (Nat.le_refl _) xv hsrc, σ, Sg.le_refl _, .ns, hr⟩
      · rename_i hn0
        cases ha
        cases hs
        have := grows (sLen := 0) (sCap := 0) (base := none) (old := []) (os := []) hr (Sg.le_refl _) .nil (by simp) rfl (by omega) (by omega)
        exact this
    · rename_i id off len cap
      split at ha
      · cases ha
      rename_i hb0
      have hcap : cap ≤ 1000000 := Nat.le_of_not_lt fun e => hb0 (.inl e)
      have hlen : len ≤ 1000000 := Nat.le_of_not_lt fun e => hb0 (.inr e)
      split at ha
      rotate_left
      · cases ha
      rename_i l ty' hg
      obtain ⟨b, k, hb, _, _, hor⟩ := hr.obj _ _ hg
      obtain ⟨c, hc, hck, hcl, hcv⟩ := hor.row
      cases hs with
      | sl _ _ _ _ b' k' hb' =>
        obtain ⟨rfl, rfl⟩ : b = b' ∧ k = k' := by rw [hb] at hb'; simpa using hb'
        split at ha
        · rename_i hroom
          split at ha
          rotate_left
          · cases ha
          rename_i l' hp
          cases ha
          have hm : off + len * i.size + us.length ≤ c.length ∨ us = [] := by
            cases us with
            | nil => exact .inr rfl
            | cons u us =>
              have := (putL_len hp).2 (fun e => by rw [e] at hus; cases hus)
              have hl := hus.len
              exact .inl (by omega)
          have hrm : (∀ j, j < us.length → (w.cell? ⟨b, off + len * i.size + j, none⟩).isSome = true) ∧ (∀ j, j < us.length → w.frozen? ⟨b, off + len * i.size + j, none⟩ = false) := by
            rcases hm with hm | rfl
            · exact slice_room b (off + len * i.size) hc us.length hm
            · exact ⟨fun j hj => by simp at hj, fun j hj => by simp at hj⟩
          exact ⟨_, _, run_append_room_src w t tx ty e i ht hi b off len cap xv n us hsrc hroom hrm.1 hrm.2, σ, Sg.le_refl _, .sl _ _ _ _ b k hb, store_cells hr hg hb hc hck hcl hcv hp hus⟩
        · rename_i hroom
          split at ha
          rotate_left
          · cases ha
          rename_i old hold
          cases ha
          obtain ⟨h1, h2⟩ := slots_ok hold hcv
          rw [List.length_take] at h2
          rw [List.drop_take, List.take_take, Nat.min_eq_left (by omega)] at h1
          exact grows hr (Sg.le_refl _) h1 (by rw [List.length_take, List.length_drop]; omega) (first_row (w := w.drew) hc (by omega)) (by omega) hlen
    · rename_i id off len s2
      split at ha
      · cases ha
      rename_i hb0
      have hs2 : s2 = i.size := Classical.byContradiction fun e => hb0 (.inl e)
      have hlen : len ≤ 1000000 := Nat.le_of_not_lt fun e => hb0 (.inr e)
      subst hs2
      split at ha
      rotate_left
      · cases ha
      rename_i l ty' hg
      obtain ⟨b, k, hb, hWb, hblt, hor⟩ := hr.obj _ _ hg
      obtain ⟨c, hc, hck, hcl, hcv⟩ := hor.row
      cases hs with
      | so _ _ _ _ b' k' cap hb' hkk =>
        obtain ⟨rfl, rfl⟩ : b = b' ∧ k = k' := by rw [hb] at hb'; simpa using hb'
        split at ha
        · rename_i hroom
          have hcap : len + n ≤ cap := Nat.le_of_mul_le_mul_right (by omega : (len + n) * i.size ≤ cap * i.size) hi0
          split at ha
          rotate_left
          · cases ha
          rename_i l' hp
          cases ha
          have hul := hsrc.newsLen
          have hrm := slice_room b (off + len * i.size) hc us.length (by rw [hul]; rw [Nat.add_mul] at hroom; omega)
          exact ⟨_, _, run_append_room_src w t tx ty e i ht hi b off len cap xv n us hsrc hcap hrm.1 hrm.2, σ, Sg.le_refl _, .so _ _ _ _ b k cap hb hkk, store_cells hr hg hb hc hck hcl hcv hp hus⟩
        · rename_i hroom
          split at ha
          rotate_left
          · cases ha
          rename_i hoff
          obtain ⟨rfl, rfl⟩ := hoff
          split at ha
          rotate_left
          · cases ha
          rename_i old hold
          cases ha
          obtain ⟨h1, h2⟩ := slots_ok hold hcv
          rw [List.length_take] at h2
          rw [List.drop_take, List.take_take, Nat.min_eq_left (by omega), List.drop_zero] at h1
          by_cases hcap : len + n ≤ cap
          · have hul := hsrc.newsLen
            have hfit : 0 + len * i.size + us.length ≤ c.length := by
              have : (len + n) * i.size ≤ cap * i.size := Nat.mul_le_mul_right _ hcap
              rw [Nat.add_mul] at this
              omega
            have hrm := slice_room b (0 + len * i.size) hc us.length hfit
            refine ⟨_, _, run_append_room_src w t tx ty ty' i ht hi b 0 len cap xv n us hsrc hcap hrm.1 hrm.2, ?_⟩
            have hw : w.setCells b (0 + len * i.size) us = World.upd w b (.cells (putV c (0 + len * i.size) us).toArray ty' (0, 0)) := setCells_upd _ _ c w hc
            have hloose := hr.loose hg hb (.cells (putV c (0 + len * i.size) us).toArray ty' (0, 0))
            obtain ⟨σ', h3, h4, h5⟩ := hloose.place (w' := World.upd w b (.cells (putV c (0 + len * i.size) us).toArray ty' (0, 0))) (.cells (old ++ new) ty') (b := b) (k := k) hWb (by simpa [World.upd] using hblt) (Nat.le_refl _)
              (fun σ' hle => by
                rw [upd_heap hblt]
                have h6 := (h1.mono hle).append (hus.mono hle)
                have h7 := h6.len
                refine ⟨_, rfl, by rw [putV_len]; exact hck, c.take (len * i.size) ++ us, h7.symm, h6, ?_⟩
                rw [putV_split _ _ _ hfit, Nat.zero_add, h7, List.take_append_of_le_length (Nat.le_refl _), List.take_length])
              (fun j o b2 k2 hj hb2 => by
                refine ⟨fun e => ?_, rfl⟩
                subst e
                have hgj : (h.set id none).get j = if j = id then none else h.get j := T.get_set _ _ _ _
                have hji : j ≠ id := fun e => by rw [hgj, if_pos e] at hj; cases hj
                rw [hgj, if_neg hji] at hj
                exact hji (hr.inj j id b2 k2 k (by rw [hj]; simp) (by rw [hg]; simp) hb2 hb))
              hloose.bel
            rw [hw]
            exact ⟨σ', h3, .so _ _ _ _ b k cap h4 hkk, h5⟩
          · exact grows (hr.drop id) (Sg.le_refl _) h1 (by rw [List.length_take]; omega) (first_row (w := w.drew) hc (by omega)) (by omega) hlen
    · cases ha
  · cases ha
end Go.Proofs.YtpidmmfjcghmeaaGreat.Ab
