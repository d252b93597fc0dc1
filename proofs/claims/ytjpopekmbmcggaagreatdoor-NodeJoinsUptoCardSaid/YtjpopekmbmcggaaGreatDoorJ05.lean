/- Towards nodeJoins_card: Builder, WordMem, WordCmd, UqText. Merged from smaller texts by a program of the author's. -/
import Derived.Test.YtjpopekmbmcggaaGreatDoorJ01
import Derived.Lib.Builder
import Derived.Lib.AppendStr
import Derived.Lib.UnsafeStr
import Derived.RegionTactic
import Derived.Laws.Strings
import Derived.StillTailTactics
import Derived.BigQuiet
import Derived.Deep.RegionWith
import Derived.Test.YtjpopekmbmcggaaGreatDoorJ04
import Derived.Outline
namespace Go.Proofs.YtjpopekmbmcggaaGreatDoor
open Go.RowKit
def byteRow (w : World) (k : Nat) : Prop := ∃ c fz, w.heap[k]? = some (.cells c 5 fz)
structure Kp (B : Nat) (X : Nat → Prop) (w w' : World) : Prop where
  os : w'.os = w.os
  tape : w'.tape = w.tape
  output : w'.output = w.output
  size : w.heap.size ≤ w'.heap.size
  block : ∀ k, k < w.heap.size → (k < B ∨ (¬ X k ∧ ¬ byteRow w k)) → w'.heap[k]? = w.heap[k]?
section
variable {B : Nat} {X Y : Nat → Prop} {w w' w'' : World}
theorem Kp.refl (B : Nat) (X : Nat → Prop) (w : World) : Kp B X w w := ⟨rfl, rfl, rfl, Nat.le_refl _, fun _ _ _ => rfl⟩
theorem Kp.wide (h : Kp B X w w') (hX : ∀ k, X k → Y k) : Kp B Y w w' :=
  ⟨h.os, h.tape, h.output, h.size, fun k hk hg => h.block k hk (by rcases hg with hg | hg; exact .inl hg; exact .inr ⟨fun hx => hg.1 (hX k hx), hg.2⟩)⟩
theorem Kp.trans (h : Kp B X w w') (k : Kp B X w' w'') : Kp B X w w'' :=
  ⟨k.os.trans h.os, k.tape.trans h.tape, k.output.trans h.output, Nat.le_trans h.size k.size, fun i hi hg => by
    have h1 := h.block i hi hg
    rw [k.block i (Nat.lt_of_lt_of_le hi h.size) ?_, h1]
    rcases hg with hg | ⟨hg, hr⟩
    · exact .inl hg
    · exact .inr ⟨hg, fun ⟨c, fz, hc⟩ => hr ⟨c, fz, by rw [← h1]; exact hc⟩⟩⟩
theorem Kp.of_below (h : Below w.heap.size w w') : Kp B X w w' := ⟨h.os, h.tape, h.output, h.size, fun k hk _ => h.block k hk⟩
theorem Kp.alloc (h : Kp B X w w') (o : Obj) : Kp B X w (w'.alloc o) := h.trans (.of_below ((Below.refl _ _).alloc (Nat.le_refl _) o))
theorem Kp.drew (h : Kp B X w w') : Kp B X w w'.drew := h.trans (.of_below (Below.refl _ _).drew)
theorem Kp.drewN (h : Kp B X w w') (n : Nat) : Kp B X w (w'.drewN n) := h.trans (.of_below (belowN (Below.refl _ _) n))
theorem Kp.set (h : Kp B X w w') {b : Nat} (hB : B ≤ b) (hX : X b) (i : Nat) (u : Value) : Kp B X w (w'.setCell ⟨b, i, none⟩ u) :=
  h.trans ⟨rfl, rfl, rfl, by simp [World.setCell], fun k _ hg => Below.heap_setCell _ _ _ _ (by
    rcases hg with hg | hg
    · simp; omega
    · rintro rfl; exact hg.1 hX)⟩
theorem Kp.grown (h : Kp B X w w') {row : Option Nat} (hg : w'.grownBy w'' row) (hr : ∀ g, row = some g → B ≤ g ∧ byteRow w' g) : Kp B X w w'' :=
  h.trans ⟨hg.os, hg.tape, hg.output, hg.size, fun k hk hgk => hg.block k hk (fun e => by
    have := hr k e.symm
    rcases hgk with hgk | hgk
    · omega
    · exact hgk.2 this.2)⟩
theorem Kp.freeze (h : Kp B X w w') {g : Nat} (hB : B ≤ g) (hr : byteRow w' g) (n : Nat) : Kp B X w (w'.freeze ⟨g, 0, none⟩ n) := by
  refine h.trans ?_
  unfold World.freeze
  split
  · exact Kp.refl _ _ _
  · refine ⟨rfl, rfl, rfl, by simp, fun k _ hgk => ?_⟩
    rw [Array.getElem?_modify]
    split
    · rename_i e
      have e' : g = k := e
      subst e'
      rcases hgk with hgk | hgk
      · omega
      · exact absurd hr hgk.2
    · rfl
theorem Kp.below (h : Kp B X w w') (hB : B ≤ w.heap.size) : Below B w w' := ⟨h.os, h.tape, h.output, h.size, fun k hk => h.block k (by omega) (.inl hk)⟩
def Gd (B : Nat) (X : Nat → Prop) (w : World) (G : Nat → Prop) : Prop := ∀ k, G k → k < w.heap.size ∧ (k < B ∨ (¬ X k ∧ ¬ byteRow w k))
theorem Gd.keep {G : Nat → Prop} (h : Gd B X w G) (k : Kp B X w w') : Gd B X w' G := fun i hi => by
  obtain ⟨h1, h2⟩ := h i hi
  refine ⟨Nat.lt_of_lt_of_le h1 k.size, ?_⟩
  rcases h2 with h2 | ⟨h2, hr⟩
  · exact .inl h2
  · exact .inr ⟨h2, fun ⟨c, fz, hc⟩ => hr ⟨c, fz, by rw [← k.block i h1 (.inr ⟨h2, hr⟩)]; exact hc⟩⟩
theorem Gd.cell {G : Nat → Prop} (h : Gd B X w G) (k : Kp B X w w') (p : Addr) (hp : G p.block) : w'.cell? p = w.cell? p :=
  World.cell?_of_block (k.block _ (h _ hp).1 (h _ hp).2)
end
def bcs (l : List UInt8) : List Value := l.map fun x => .int .u8 (x.toNat : Int)
theorem bcs_str (s : ByteArray) : Lib.strCells s = bcs s.toList := by rw [Lib.toList_data]; rfl
theorem bcs_app (l r : List UInt8) : bcs (l ++ r) = bcs l ++ bcs r := by simp [bcs]
def Bld (T : TypeId) (B b : Nat) (rest : List Value) (p : Value) (l : List UInt8) (w : World) : Prop :=
  B ≤ b ∧ ∃ v, w.heap[b]? = some (.cells (p :: v :: rest).toArray T (0, 0)) ∧ w.ownsRow B 5 1 v l.length (bcs l) ∧ (v = .slice none 0 0 ↔ l = [])
def IsB (T : TypeId) (B b : Nat) (rest : List Value) (l : List UInt8) (w : World) : Prop := Bld T B b rest (.pointer none) l w ∨ Bld T B b rest (.pointer (some ⟨b, 0, none⟩)) l w
structure Hd (T : TypeId) (n : Nat) : Prop where
  lies : liesAt Tryz.prog Tryz.prog.depth T ((n + 2) / Tryz.prog.cellsOf T) 0 108 1 = true
  ne : T ≠ 5
section
variable {T : TypeId} {B b : Nat} {rest : List Value} {p : Value} {l : List UInt8} {w w' : World}
theorem Bld.lt (h : Bld T B b rest p l w) : b < w.heap.size := by
  obtain ⟨_, v, hb, _⟩ := h
  exact (Array.getElem?_eq_some_iff.1 hb).1
theorem Bld.cell0 (h : Bld T B b rest p l w) : w.cell? ⟨b, 0, none⟩ = some p := by
  obtain ⟨_, v, hb, _⟩ := h
  simp [World.cell?, hb]
theorem Bld.frozen (h : Bld T B b rest p l w) (i : Nat) : w.frozen? ⟨b, i, none⟩ = false := by
  obtain ⟨_, v, hb, _⟩ := h
  simp [World.frozen?, hb]
theorem Bld.shape (h : Bld T B b rest p l w) : w.shape? b = some (T, rest.length + 2) := by
  obtain ⟨_, v, hb, _⟩ := h
  simp [World.shape?, hb]
theorem own_ne {v : Value} {n : Nat} {xs : List Value} {cs : Array Value} {fr : Nat × Nat} (hown : w.ownsRow B 5 1 v n xs) (hb : w.heap[b]? = some (.cells cs T fr)) (hT : T ≠ 5) : v.ownBlock ≠ some b := Lib.ownBlock_ne hown hb hT
theorem own_row {v : Value} {n : Nat} {xs : List Value} (hown : w.ownsRow B 5 1 v n xs) : ∀ g, v.ownBlock = some g → B ≤ g ∧ byteRow w g := by
  intro g hg
  rcases hown.2 with ⟨rfl, _⟩ | ⟨g', cap, cur, rfl, hb, hh, _⟩
  · simp [Value.ownBlock] at hg
  · simp [Value.ownBlock] at hg
    subst hg
    exact ⟨hb, cur, _, hh⟩
theorem Bld.used (h : Bld T B b rest p l w) (hT : T ≠ 5) (q : Value) : Bld T B b rest q l (w.setCell ⟨b, 0, none⟩ q) := by
  obtain ⟨hB, v, hb, hown, hn⟩ := h
  have hne := own_ne hown hb hT
  refine ⟨hB, v, ?_, ?_, hn⟩
  · simp [World.setCell, Array.getElem?_modify, hb]
  · exact hown.kept (row := some b) ⟨rfl, rfl, rfl, by simp [World.setCell], fun k _ hk => Below.heap_setCell _ _ _ _ (fun e => hk (by simp [e]))⟩ (.inr hne)
theorem Bld.put {v v' : Value} {l' : List UInt8} (hB : B ≤ b) (hb : w.heap[b]? = some (.cells (p :: v :: rest).toArray T (0, 0))) (hT : T ≠ 5) (hown : w.ownsRow B 5 1 v' l'.length (bcs l')) (hn : v' = .slice none 0 0 ↔ l' = []) :
    Bld T B b rest p l' (w.setCell ⟨b, 1, none⟩ v') := by
  have hne := own_ne hown hb hT
  refine ⟨hB, v', ?_, ?_, hn⟩
  · simp [World.setCell, Array.getElem?_modify, hb]
  · exact hown.kept (row := some b) ⟨rfl, rfl, rfl, by simp [World.setCell], fun k _ hk => Below.heap_setCell _ _ _ _ (fun e => hk (by simp [e]))⟩ (.inr hne)
theorem Bld.keep (h : Bld T B b rest p l w) (hb : Below w.heap.size w w') : Bld T B b rest p l w' := by
  have hlt := h.lt
  obtain ⟨hB, v, hh, hown, hn⟩ := h
  refine ⟨hB, v, (hb.block b hlt).trans hh, hown.kept (row := none) ⟨hb.os, hb.tape, hb.output, hb.size, fun k hk _ => hb.block k hk⟩ ?_, hn⟩
  cases v.ownBlock <;> simp
theorem IsB.keep (h : IsB T B b rest l w) (hb : Below w.heap.size w w') : IsB T B b rest l w' := by
  rcases h with h | h
  · exact .inl (h.keep hb)
  · exact .inr (h.keep hb)
theorem IsB.lt (h : IsB T B b rest l w) : b < w.heap.size := by rcases h with h | h <;> exact h.lt
theorem IsB.le (h : IsB T B b rest l w) : B ≤ b := by rcases h with h | h <;> exact h.1
end
theorem size_builder : (Tryz.prog.info? 108).map (·.size) = some 2 := by kernel_rfl
theorem info_byte : (Tryz.prog.info? 5).map (fun i => (i.zero, i.size, i.bytes)) = some (some (.int .u8 0), 1, 1) := by kernel_rfl
theorem cells_byte : Tryz.prog.cellsOf 5 = 1 := by kernel_rfl
set_option maxHeartbeats 1000000 in
set_option maxRecDepth 100000 in
theorem copyCheck_used (b : Nat) (w : World) (h0 : w.cell? ⟨b, 0, none⟩ = some (.pointer (some ⟨b, 0, none⟩))) :
    Calls Tryz.prog 167 #[.pointer (some ⟨b, 0, none⟩)] w fun e w' => e = .returned (.tuple #[]) ∧ w = w' := by
  obtain ⟨j, hj, _⟩ := Option.map_eq_some_iff.1 size_builder
  go_enter Tryz.func167, Tryz.ntmps167
  go_wp2
  rw [Lib.run_neq_ptr_same w _ Tryz.underlying105 hj]
  go_wp2
  go_end0
  exact ⟨rfl, rfl⟩
set_option maxHeartbeats 1000000 in
set_option maxRecDepth 100000 in
theorem copyCheck_fresh {T : TypeId} {n : Nat} (hd : Hd T n) (b : Nat) (w : World) (h0 : w.cell? ⟨b, 0, none⟩ = some (.pointer none)) (hsh : w.shape? b = some (T, n + 2)) (hfz : w.frozen? ⟨b, 0, none⟩ = false) :
    Calls Tryz.prog 167 #[.pointer (some ⟨b, 0, none⟩)] w fun e w' => e = .returned (.tuple #[]) ∧ w.setCell ⟨b, 0, none⟩ (.pointer (some ⟨b, 0, none⟩)) = w' := by
  obtain ⟨j, hj, hjs⟩ := Option.map_eq_some_iff.1 size_builder
  go_enter Tryz.func167, Tryz.ntmps167
  go_wp2
  rw [Lib.run_to_unsafe w ⟨b, 0, none⟩ Tryz.underlying105 Tryz.underlying164 hj (by rw [hjs]; decide) hsh (by simp)]
  simp only [Result.andThen]
  rw [Oper.upon_value]
  go_wp2
  rw [run_callFunc_extern Tryz.func204 (by kernel_rfl) (by kernel_rfl) (by kernel_rfl) (e := Extern.AbiNoEscape.same) (by kernel_rfl)]
  rw [Lib.run_noEscape]
  simp only [Result.andThen]
  rw [Oper.upon_value]
  go_wp2
  rw [Lib.run_from_unsafe w ⟨b, 0, none⟩ Tryz.underlying164 Tryz.underlying105 hj hsh hd.lies]
  simp only [Result.andThen]
  rw [Oper.upon_value]
  go_wp2
  go_end0
  exact ⟨rfl, rfl⟩
theorem copyCheck_any {T : TypeId} {B b : Nat} {rest : List Value} (hd : Hd T rest.length) (l : List UInt8) (w : World) (h : IsB T B b rest l w) :
    Calls Tryz.prog 167 #[.pointer (some ⟨b, 0, none⟩)] w fun e w' => e = .returned (.tuple #[]) ∧ Bld T B b rest (.pointer (some ⟨b, 0, none⟩)) l w' ∧ Kp B (· = b) w w' := by
  rcases h with h | h
  · refine (copyCheck_fresh hd b w h.cell0 h.shape (h.frozen 0)).mono ?_
    rintro e w' ⟨rfl, rfl⟩
    exact ⟨rfl, h.used hd.ne _, (Kp.refl B (· = b) w).set (X := (· = b)) h.1 rfl _ _⟩
  · refine (copyCheck_used b w h.cell0).mono ?_
    rintro e w' ⟨rfl, rfl⟩
    exact ⟨rfl, h, Kp.refl _ _ _⟩
set_option maxHeartbeats 2000000 in
set_option maxRecDepth 100000 in
theorem writeString_any {T : TypeId} {B b : Nat} {rest : List Value} (hd : Hd T rest.length) (l : List UInt8) (s : ByteArray) (w : World) (h : IsB T B b rest l w) (hlen : l.length + s.size ≤ 140737488355328) (hBw : B ≤ w.heap.size) :
    Calls Tryz.prog 133 #[.pointer (some ⟨b, 0, none⟩), .string s] w fun e w' => e = .returned (.tuple #[.int .i64 s.size, .nilIface]) ∧ Bld T B b rest (.pointer (some ⟨b, 0, none⟩)) (l ++ s.toList) w' ∧ Kp B (· = b) w w' := by
  obtain ⟨i0, hi, hz0, hz1, hz2⟩ := info_parts info_byte
  go_enter Tryz.func133, Tryz.ntmps133
  go_wp2_with (go_at_call 167; refine (copyCheck_any hd l _ h).mono ?_)
  rintro e w1 ⟨rfl, h1, hb1⟩
  obtain ⟨hB, v, hbk, hown, hn⟩ := h1
  have HN0 := Lib.hid hn; clear hn
  have c0 : w1.cell? ⟨b, 0, none⟩ = some (.pointer (some ⟨b, 0, none⟩)) := by simp [World.cell?, hbk]
  have c1 : w1.cell? ⟨b, 1, none⟩ = some v := by simp [World.cell?, hbk]
  go_wp2_with (at_builtin; refine Lib.wpList_append_own_string _ rfl _ _ 106 9 rfl B 5 i0 Tryz.underlying106 Tryz.underlying9 hi hz0 hz1 hz2 _ _ _ rfl hown s rfl ?c3 ?c4 ?c5 ?_)
  case c3 => unfold maxLen; omega
  case c4 => omega
  case c5 => have := hb1.size; omega
  intro v' w2 hown' hgrow hnil
  have hlt : b < w1.heap.size := (Array.getElem?_eq_some_iff.1 hbk).1
  have hne := own_ne hown hbk hd.ne
  have hb2 : w2.heap[b]? = some (.cells (.pointer (some ⟨b, 0, none⟩) :: v :: rest).toArray T (0, 0)) := by
    rw [hgrow.block b hlt (fun e => hne e.symm)]
    exact hbk
  have d0 : w2.cell? ⟨b, 0, none⟩ = some (.pointer (some ⟨b, 0, none⟩)) := by simp [World.cell?, hb2]
  have d1 : w2.cell? ⟨b, 1, none⟩ = some v := by simp [World.cell?, hb2]
  have f1 : w2.frozen? ⟨b, 1, none⟩ = false := by simp [World.frozen?, hb2]
  obtain ⟨ao, n', cap, rfl⟩ : ∃ ao n' cap, v' = .slice ao n' cap := by
    rcases hown'.2 with ⟨hv, _⟩ | ⟨g, cap, cur, hv, _⟩
    · exact ⟨_, _, _, hv⟩
    · exact ⟨_, _, _, hv⟩
  have HN := Lib.hid hnil; clear hnil
  go_wp2
  go_ret2
  refine ⟨rfl, ?_, ?_⟩
  · refine Bld.put hB hb2 hd.ne (by rw [List.length_append, ← size_list, bcs_app, ← bcs_str]; exact hown') ?_
    have hs := empty_iff s
    have hs2 : s.size = 0 ↔ s.toList = [] := by rw [size_list]; simp
    have := HN.out
    first
      | (rw [this, HN0.out, hs, List.append_eq_nil_iff])
      | (rw [this, HN0.out, hs2, List.append_eq_nil_iff])
  · exact (hb1.grown hgrow (own_row hown)).set (X := (· = b)) hB rfl _ _
set_option maxHeartbeats 2000000 in
set_option maxRecDepth 100000 in
theorem builderString_any {T : TypeId} {B b : Nat} {rest : List Value} (l : List UInt8) (w : World) (h : IsB T B b rest l w) :
    Calls Tryz.prog 117 #[.pointer (some ⟨b, 0, none⟩)] w fun e w' => e = .returned (bs l) ∧ Kp B (· = b) w w' := by
  obtain ⟨p, hB, v, hbk, hown, hn⟩ : ∃ p, Bld T B b rest p l w := by
    rcases h with h | h
    · exact ⟨_, h⟩
    · exact ⟨_, h⟩
  by_cases h0 : l = []
  · subst h0
    have hv := hn.2 rfl
    subst hv
    have hUS : ∀ (W : World) (q : Option Addr), (Builtin.unsafeString_ #[143, 3] 9 #[.pointer q, .int .i64 0]).run Tryz.prog W = .ok (.string .empty) W := fun W q => Lib.run_unsafeString_none W _ _ _ q
    have c1 : w.drew.cell? ⟨b, 1, none⟩ = some (.slice none 0 0) := by
      have : w.drew.heap[b]? = some (.cells (p :: .slice none 0 0 :: rest).toArray T (0, 0)) := hbk
      simp [World.cell?, this]
    have hSD : (Builtin.unsafeSliceData_ #[106] 143 #[.slice none 0 0]).run Tryz.prog w.drew = .ok (.pointer none) w.drew := rfl
    go_enter Tryz.func117, Tryz.ntmps117
    go_wp2
    go_region
    all_goals (go_wp2; go_ret; exact ⟨rfl, (Kp.refl _ _ _).drew⟩)
  · have hl0 : l.length ≠ 0 := by simpa using h0
    obtain ⟨g, cap, cur, rfl, hbg, hg, hnc, hcm, hcs, htake⟩ : ∃ g cap cur, v = .slice (some ⟨g, 0, none⟩) l.length cap ∧ B ≤ g ∧ w.heap[g]? = some (.cells cur 5 (0, 0)) ∧ l.length ≤ cap ∧ cap ≤ maxLen ∧ cur.size = cap * 1 ∧ cur.toList.take (l.length * 1) = bcs l := by
      rcases hown.2 with ⟨_, hz⟩ | ⟨g, cap, cur, hv, r⟩
      · exact absurd hz hl0
      · exact ⟨g, cap, cur, hv, r⟩
    have c1 : w.drew.cell? ⟨b, 1, none⟩ = some (.slice (some ⟨g, 0, none⟩) l.length cap) := by
      have : w.drew.heap[b]? = some (.cells (p :: .slice (some ⟨g, 0, none⟩) l.length cap :: rest).toArray T (0, 0)) := hbk
      simp [World.cell?, this]
    have hSD : (Builtin.unsafeSliceData_ #[106] 143 #[.slice (some ⟨g, 0, none⟩) l.length cap]).run Tryz.prog w.drew = .ok (.pointer (some ⟨g, 0, none⟩)) w.drew :=
      Lib.run_unsafeSliceData_row _ _ _ _ _ _ (by omega)
    have hUS : (Builtin.unsafeString_ #[143, 3] 9 #[.pointer (some ⟨g, 0, none⟩), .int .i64 l.length]).run Tryz.prog w.drew = .ok (.string ⟨l.toArray⟩) (w.drew.freeze ⟨g, 0, none⟩ l.length) := by
      refine Lib.run_unsafeString_row w.drew 143 3 9 5 Tryz.underlying143 cells_byte g cur.size (by have hg' : w.drew.heap[g]? = some (.cells cur 5 (0, 0)) := hg; simp [World.shape?, hg']) l h0 (by omega) (by unfold maxLen at hcm; omega) ?_
      intro j x hx
      have := hown.cells (g := g) rfl j (.int .u8 x.toNat) (by simp [bcs, hx])
      exact this
    clear hn
    go_enter Tryz.func117, Tryz.ntmps117
    go_wp2
    go_region
    all_goals (go_wp2; go_ret; exact ⟨rfl, (Kp.refl _ _ _).drew.freeze hbg ⟨cur, _, hg⟩ _⟩)
end Go.Proofs.YtjpopekmbmcggaaGreatDoor
namespace Go.Proofs.YtjpopekmbmcggaaGreatDoor
open Go.RowKit
def StrsAt (G : Nat → Prop) (w : World) (C : Option Addr) (cs : List (List UInt8)) : Prop :=
  cs ≠ [] → ∃ ad, C = some ad ∧ G ad.block ∧ ∀ j s, cs[j]? = some s → w.cell? (ad.add j) = some (bs s)
theorem StrsAt.keep {G : Nat → Prop} {w w' : World} {C : Option Addr} {cs : List (List UInt8)} (h : StrsAt G w C cs) (hk : ∀ p : Addr, G p.block → w'.cell? p = w.cell? p) : StrsAt G w' C cs := fun hne => by
  obtain ⟨ad, hC, hG, hc⟩ := h hne
  exact ⟨ad, hC, hG, fun j s hs => (hk _ (by rw [block_add]; exact hG)).trans (hc j s hs)⟩
theorem StrsAt.nil {G : Nat → Prop} {w : World} {C : Option Addr} : StrsAt G w C [] := fun h => absurd rfl h
structure Snk (B b : Nat) (ti : TypeId) (fi : FuncId) (Sk : List UInt8 → World → Prop) : Prop where
  meth : ∀ W : World, (method 307 ti (.pointer (some ⟨b, 0, none⟩)) "conch/wordfmt.put").run Tryz.prog W = .ok (fi, .pointer (some ⟨b, 0, none⟩)) W
  enter : ∀ (args : Array Value) (W : World), (callFunc fi args).run Tryz.prog W = .ok (.enter fi args) W
  put : ∀ (l : List UInt8) (s : ByteArray) (w : World), Sk l w → l.length + s.size ≤ 70368744177664 → B ≤ w.heap.size →
    Calls Tryz.prog fi #[.pointer (some ⟨b, 0, none⟩), .string s] w fun e w' => e = .returned (.tuple #[]) ∧ Sk (l ++ s.toList) w' ∧ Kp B (· = b) w w'
  keep : ∀ (l : List UInt8) (w w' : World), Sk l w → w.heap.size ≤ w'.heap.size → (∀ k, k < w.heap.size → (k = b ∨ byteRow w k) → w'.heap[k]? = w.heap[k]?) → Sk l w'
  lt : ∀ (l : List UInt8) (w : World), Sk l w → b < w.heap.size
def Prt (G : Nat → Prop) (B b bp : Nat) (ti : TypeId) (cs : List (List UInt8)) (w : World) : Prop :=
  B ≤ bp ∧ b ≠ bp ∧ ∃ (C : Option Addr) (c : Nat), w.heap[bp]? = some (.cells #[.iface ti (.pointer (some ⟨b, 0, none⟩)), .slice C cs.length c] 154 (0, 0)) ∧ cs.length ≤ c ∧ StrsAt G w C cs
def Xp (b bp : Nat) : Nat → Prop := fun k => k = b ∨ k = bp
section
variable {G : Nat → Prop} {B b bp : Nat} {ti : TypeId} {cs : List (List UInt8)} {w w' : World}
theorem Prt.notbytes (h : Prt G B b bp ti cs w) : ¬ byteRow w bp := by
  obtain ⟨_, _, C, c, hh, _⟩ := h
  rintro ⟨cur, fz, h⟩
  rw [hh] at h
  injection h with h
  injection h with _ h
  exact absurd h (by decide)
theorem Prt.lt (h : Prt G B b bp ti cs w) : bp < w.heap.size := by
  obtain ⟨_, _, C, c, hh, _⟩ := h
  exact (Array.getElem?_eq_some_iff.1 hh).1
theorem Prt.put (h : Prt G B b bp ti cs w) (hG : Gd B (Xp b bp) w G) (hk : Kp B (· = b) w w') : Prt G B b bp ti cs w' := by
  have hn := h.notbytes
  have hl := h.lt
  obtain ⟨hB, hne, C, c, hh, hc, hs⟩ := h
  refine ⟨hB, hne, C, c, (hk.block bp hl (.inr ⟨fun e => hne e.symm, hn⟩)).trans hh, hc, hs.keep fun p hp => ?_⟩
  exact hG.cell (hk.wide fun k e => .inl e) p hp
theorem Prt.below (h : Prt G B b bp ti cs w) (hG : Gd B (Xp b bp) w G) (hk : Below w.heap.size w w') : Prt G B b bp ti cs w' := by
  have hl := h.lt
  obtain ⟨hB, hne, C, c, hh, hc, hs⟩ := h
  exact ⟨hB, hne, C, c, (hk.block bp hl).trans hh, hc, hs.keep fun p hp => hG.cell (X := Xp b bp) (Kp.of_below hk) p hp⟩
theorem Snk.below {fi : FuncId} {Sk : List UInt8 → World → Prop} (S : Snk B b ti fi Sk) {l : List UInt8} (h : Sk l w) (hk : Below w.heap.size w w') : Sk l w' := S.keep l w w' h hk.size fun k hk1 _ => hk.block k hk1
theorem Snk.set {fi : FuncId} {Sk : List UInt8 → World → Prop} (S : Snk B b ti fi Sk) {l : List UInt8} (h : Sk l w) (hp : Prt G B b bp ti cs w) (i : Nat) (u : Value) : Sk l (w.setCell ⟨bp, i, none⟩ u) :=
  S.keep l w _ h (by simp [World.setCell]) fun k _ hk => Below.heap_setCell _ _ _ _ (by
    intro e
    have e' : k = bp := e
    subst e'
    rcases hk with hk | hk
    · exact hp.2.1 hk.symm
    · exact hp.notbytes hk)
end
end Go.Proofs.YtjpopekmbmcggaaGreatDoor
namespace Go.Proofs.YtjpopekmbmcggaaGreatDoor
open Go.RowKit
theorem prt_cells {G : Nat → Prop} {B b bp : Nat} {ti : TypeId} {cs : List (List UInt8)} {w : World} (h : Prt G B b bp ti cs w) : ∃ (C : Option Addr) (c : Nat),
    w.cell? ⟨bp, 0, none⟩ = some (.iface ti (.pointer (some ⟨b, 0, none⟩))) ∧ w.cell? ⟨bp, 1, none⟩ = some (.slice C cs.length c) ∧ w.frozen? ⟨bp, 1, none⟩ = false ∧ cs.length ≤ c ∧ StrsAt G w C cs := by
  obtain ⟨_, _, C, c, hh, hc, hs⟩ := h
  exact ⟨C, c, by simp [World.cell?, hh], by simp [World.cell?, hh], by simp [World.frozen?, hh], hc, hs⟩
end Go.Proofs.YtjpopekmbmcggaaGreatDoor
namespace Go.Proofs.YtjpopekmbmcggaaGreatDoor
open Go.RowKit
def Pts.utx : Pts → Option (List UInt8)
  | .nil => some []
  | .cons k t _ kids _ r => if k = 1 ∨ k = 2 ∨ k = 3 then r.utx.map (t.toList ++ ·) else if k = 4 then kids.utx.bind fun s => r.utx.map (s ++ ·) else none
theorem Pts.utx_len : ∀ (l : Pts) (s : List UInt8), l.utx = some s → s.length ≤ l.wt
  | .nil, s, h => by simp [Pts.utx] at h; subst h; simp
  | .cons k t o kids cm r, s, h => by
    unfold Pts.utx at h
    rw [Pts.wt]
    by_cases h1 : k = 1 ∨ k = 2 ∨ k = 3
    · rw [if_pos h1] at h
      cases hr : r.utx with
      | none => rw [hr] at h; simp at h
      | some x =>
        rw [hr] at h
        simp at h
        have := Pts.utx_len r x hr
        rw [← h, List.length_append, ← size_list]
        omega
    · rw [if_neg h1] at h
      by_cases h4 : k = 4
      · rw [if_pos h4] at h
        cases hk : kids.utx with
        | none => rw [hk] at h; simp at h
        | some y =>
          rw [hk] at h
          cases hr : r.utx with
          | none => rw [hr] at h; simp at h
          | some x =>
            rw [hr] at h
            simp at h
            have := Pts.utx_len r x hr
            have := Pts.utx_len kids y hk
            rw [← h, List.length_append]
            omega
      · rw [if_neg h4] at h; cases h
theorem heap_alloc_t (w : World) (o : Obj) : (w.alloc o).heap[w.heap.size]? = some o := Array.getElem?_push_size
theorem hd_sb : Hd 108 0 := ⟨by kernel_rfl, by decide⟩
set_option maxRecDepth 100000 in
set_option maxHeartbeats 8000000 in
theorem utext_any (B b : Nat) : ∀ (n : Nat) (l : Pts) (G : Nat → Prop) (A : Option Addr) (c : Nat) (acc : List UInt8) (w : World), l.deep < n → l.wt ≤ 1073741824 → acc.length + l.wt ≤ 1099511627776 → Gd B (· = b) w G → IsB 108 B b [] acc w → B ≤ w.heap.size → PtsAt G w A 0 l →
    Calls Tryz.prog 116 #[.pointer (some ⟨b, 0, none⟩), .slice A l.len c] w fun e w' => e = .returned (.bool l.utx.isSome) ∧ (∀ s, l.utx = some s → IsB 108 B b [] (acc ++ s) w') ∧ Kp B (· = b) w w' := by
  intro n
  induction n with
  | zero => intro l _ _ _ _ _ h; omega
  | succ n ih =>
    intro l G A c acc w hd hwt hal hG hI hB hp
    have hlw := Pts.len_wt l
    have IH := Lib.hid ih; have HG := Lib.hid hG; have HI := Lib.hid hI; have HP := Lib.hid hp
    clear ih hG hI hp
    go_enter Tryz.func116, Tryz.ntmps116
    go_wp2
    go_loopw [9] (fun i wr => ∃ (k : Nat) (pre : List UInt8), k ≤ l.len ∧ i = .int .i64 k ∧ l.utx = (l.drop k).utx.map (pre ++ ·) ∧ pre.length + (l.drop k).wt ≤ l.wt ∧ IsB 108 B b [] (acc ++ pre) wr ∧ Kp B (· = b) w wr) (fun i _ => l.len - (intOf i).toNat)
    case atStart => exact ⟨0, [], by omega, rfl, by rw [Pts.drop_zero]; cases l.utx <;> simp, by rw [Pts.drop_zero]; simp, by rw [List.append_nil]; exact HI.out, Kp.refl _ _ _⟩
    case round =>
      obtain ⟨k, pre, hk, rfl, hf, hl0, hi, hkp⟩ := hrel
      have HF := Lib.hid hf; have HL := Lib.hid hl0; have HIR := Lib.hid hi; have HKR := Lib.hid hkp
      clear hf hi hkp
      by_cases hlt : k < l.len
      · obtain ⟨pk, t, o, kids, cm, r, hdr⟩ := Pts.drop_cons k l hlt
        have hp' := (HP.out.keep fun p hp => HG.out.cell HKR.out p hp).at_ k
        rw [hdr, Nat.zero_add] at hp'
        obtain ⟨bb, off, Ak, ck, rfl, hg, c0, c1, c2, c3, c4, hl, h1, h2⟩ := hp'
        have hwd := hl0
        rw [hdr, Pts.wt] at hwd
        have hkd := Pts.deep_drop k l hdr
        have HD := Lib.hid hdr; clear hdr hl h2 hl0
        have HK1 := Lib.hid h1; clear h1
        unfold Cm.val at c4
        have hX : Below wr.heap.size wr (wr.alloc (.cells #[.int .i64 pk, .string t, .string o, .slice Ak kids.len ck, .slice cm.a cm.n cm.c] 50)) := (Below.refl _ _).alloc (Nat.le_refl _) _
        have HIX := Lib.hid (HIR.out.keep hX)
        cases m1 : (pk == 1)
        · cases m2 : (pk == 2)
          · cases m3 : (pk == 3)
            · have h123 : ¬ (pk = 1 ∨ pk = 2 ∨ pk = 3) := by
                have a1 := beq_eq_false_iff_ne.1 m1; have a2 := beq_eq_false_iff_ne.1 m2; have a3 := beq_eq_false_iff_ne.1 m3
                omega
              have H123 := Lib.hid h123
              clear h123
              cases m4 : (pk == 4)
              · have HN4 := Lib.hid (show ¬ pk = 4 from beq_eq_false_iff_ne.1 m4)
                have HKX := Lib.hid (HKR.out.trans (.of_below hX))
                clear hX
                go_wp2_with fail
                go_ret
                have hno : l.utx = none := by rw [HF.out, HD.out, Pts.utx, if_neg H123.out, if_neg HN4.out]; rfl
                exact ⟨ret_bool (by rw [hno]; rfl), (fun s hs => by rw [hno] at hs; cases hs), HKX.out⟩
              · have H4 := Lib.hid (show pk = 4 from by simpa using m4)
                have hkx := HKR.out.trans (.of_below hX)
                have HKX := Lib.hid hkx
                have HGX := Lib.hid (HG.out.keep hkx)
                have hbx : B ≤ (wr.alloc (.cells #[.int .i64 pk, .string t, .string o, .slice Ak kids.len ck, .slice cm.a cm.n cm.c] 50)).heap.size := by have := hX.size; have := HKR.out.size; omega
                have HPX := Lib.hid (HK1.out.keep fun p hp => World.cell?_of_block (hX.block _ ((HG.out.keep HKR.out) _ hp).1))
                have hall : (acc ++ pre).length + kids.wt ≤ 1099511627776 := by rw [List.length_append]; omega
                clear hX hkx
                go_wp2_with fail
                refine (IH.out kids G Ak ck (acc ++ pre) _ (by omega) (by omega) hall HGX.out HIX.out hbx HPX.out).mono ?_
                rintro e w1 ⟨he, hi1, hk1⟩
                have HK2 := Lib.hid (HKX.out.trans hk1)
                have HI1 := Lib.hid hi1
                clear hk1 hi1
                cases hku : kids.utx with
                | none =>
                  rw [hku] at he
                  subst he
                  have HU := Lib.hid hku
                  simp only [Option.isSome_none]
                  go_wp2_with fail
                  go_ret
                  have hno : l.utx = none := by rw [HF.out, HD.out, Pts.utx, if_neg H123.out, if_pos H4.out, HU.out]; rfl
                  exact ⟨ret_bool (by rw [hno]; rfl), (fun s hs => by rw [hno] at hs; cases hs), HK2.out⟩
                | some sk =>
                  rw [hku] at he
                  subst he
                  have HU := Lib.hid hku
                  simp only [Option.isSome_some]
                  go_wp2_with fail
                  go_roundw
                  case rel =>
                    refine ⟨k + 1, pre ++ sk, by omega, by go_num, ?_, ?_, by rw [← List.append_assoc]; exact HI1.out sk HU.out, HK2.out⟩
                    · have h := HF.out
                      rw [HD.out, Pts.utx, if_neg H123.out, if_pos H4.out, HU.out] at h
                      rw [Pts.drop_succ k l HD.out, h]
                      cases r.utx <;> simp
                    · rw [Pts.drop_succ k l HD.out, List.length_append]
                      have h5 := Pts.utx_len kids sk HU.out
                      have := HL.out
                      rw [HD.out, Pts.wt] at this
                      omega
                  case measure => simp only [intOf]; omega
            · have HM := Lib.hid (show pk = 1 ∨ pk = 2 ∨ pk = 3 from .inr (.inr (by simpa using m3)))
              go_wp2_with fail
              refine (writeString_any hd_sb (acc ++ pre) t _ HIX.out (by rw [List.length_append]; omega) (by have := hX.size; have := HKR.out.size; omega)).mono ?_
              rintro e w1 ⟨rfl, hw1, hk1⟩
              have HW1 := Lib.hid (show IsB 108 B b [] (acc ++ pre ++ t.toList) w1 from .inr hw1)
              have HK1 := Lib.hid ((HKR.out.trans (.of_below hX)).trans hk1)
              clear hw1 hk1 hX
              go_wp2_with fail
              go_roundw
              case rel =>
                refine ⟨k + 1, pre ++ t.toList, by omega, by go_num, ?_, ?_, by rw [← List.append_assoc]; exact HW1.out, HK1.out⟩
                · have h := HF.out
                  rw [HD.out, Pts.utx, if_pos HM.out] at h
                  rw [Pts.drop_succ k l HD.out, h]
                  cases r.utx <;> simp
                · rw [Pts.drop_succ k l HD.out, List.length_append, ← size_list]
                  have := HL.out
                  rw [HD.out, Pts.wt] at this
                  omega
              case measure => simp only [intOf]; omega
          · have HM := Lib.hid (show pk = 1 ∨ pk = 2 ∨ pk = 3 from .inr (.inl (by simpa using m2)))
            go_wp2_with fail
            refine (writeString_any hd_sb (acc ++ pre) t _ HIX.out (by rw [List.length_append]; omega) (by have := hX.size; have := HKR.out.size; omega)).mono ?_
            rintro e w1 ⟨rfl, hw1, hk1⟩
            have HW1 := Lib.hid (show IsB 108 B b [] (acc ++ pre ++ t.toList) w1 from .inr hw1)
            have HK1 := Lib.hid ((HKR.out.trans (.of_below hX)).trans hk1)
            clear hw1 hk1 hX
            go_wp2_with fail
            go_roundw
            case rel =>
              refine ⟨k + 1, pre ++ t.toList, by omega, by go_num, ?_, ?_, by rw [← List.append_assoc]; exact HW1.out, HK1.out⟩
              · have h := HF.out
                rw [HD.out, Pts.utx, if_pos HM.out] at h
                rw [Pts.drop_succ k l HD.out, h]
                cases r.utx <;> simp
              · rw [Pts.drop_succ k l HD.out, List.length_append, ← size_list]
                have := HL.out
                rw [HD.out, Pts.wt] at this
                omega
            case measure => simp only [intOf]; omega
        · have HM := Lib.hid (show pk = 1 ∨ pk = 2 ∨ pk = 3 from .inl (by simpa using m1))
          go_wp2_with fail
          refine (writeString_any hd_sb (acc ++ pre) t _ HIX.out (by rw [List.length_append]; omega) (by have := hX.size; have := HKR.out.size; omega)).mono ?_
          rintro e w1 ⟨rfl, hw1, hk1⟩
          have HW1 := Lib.hid (show IsB 108 B b [] (acc ++ pre ++ t.toList) w1 from .inr hw1)
          have HK1 := Lib.hid ((HKR.out.trans (.of_below hX)).trans hk1)
          clear hw1 hk1 hX
          go_wp2_with fail
          go_roundw
          case rel =>
            refine ⟨k + 1, pre ++ t.toList, by omega, by go_num, ?_, ?_, by rw [← List.append_assoc]; exact HW1.out, HK1.out⟩
            · have h := HF.out
              rw [HD.out, Pts.utx, if_pos HM.out] at h
              rw [Pts.drop_succ k l HD.out, h]
              cases r.utx <;> simp
            · rw [Pts.drop_succ k l HD.out, List.length_append, ← size_list]
              have := HL.out
              rw [HD.out, Pts.wt] at this
              omega
          case measure => simp only [intOf]; omega
      · have HE := Lib.hid (Pts.drop_end k l (by omega))
        go_wp2_with fail
        go_ret
        have hs : l.utx = some pre := by rw [HF.out, HE.out]; simp [Pts.utx]
        exact ⟨ret_bool (by rw [hs]; rfl), (fun s h => by rw [hs] at h; cases h; exact HIR.out), HKR.out⟩
set_option maxRecDepth 100000 in
set_option maxHeartbeats 2000000 in
theorem utext_p (l : Pts) (A : Option Addr) (c : Nat) (G : Nat → Prop) (w : World) (hwt : l.wt ≤ 1073741824) (hG : ∀ k, G k → k < w.heap.size) (hp : PtsAt G w A 0 l) :
    Calls Tryz.prog 45 #[.agg #[.slice A l.len c]] w fun e w' => e = .returned (.tuple #[bs (l.utx.getD []), .bool l.utx.isSome]) ∧ Below w.heap.size w w' := by
  generalize hW : (w.alloc (.cells #[.slice A l.len c] 31)).alloc (.cells #[.pointer none, .slice none 0 0] 108) = W
  have hbW : Below w.heap.size w W := by rw [← hW]; exact ((Below.refl _ _).alloc (Nat.le_refl _) _).alloc (by simp) _
  have q0 : W.cell? ⟨w.heap.size, 0, none⟩ = some (.slice A l.len c) := by rw [← hW]; simp
  have q1 : W.heap[w.heap.size + 1]? = some (.cells #[.pointer none, .slice none 0 0] 108 (0, 0)) := by
    rw [← hW]
    have := heap_alloc_t (w.alloc (.cells #[.slice A l.len c] 31)) (.cells #[.pointer none, .slice none 0 0] 108)
    simpa using this
  have hI : IsB 108 (w.heap.size + 1) (w.heap.size + 1) [] [] W := .inl ⟨Nat.le_refl _, _, q1, ⟨rfl, .inl ⟨rfl, rfl⟩⟩, by simp⟩
  have hsz : W.heap.size = w.heap.size + 2 := by rw [← hW]; simp
  have hgd : Gd (w.heap.size + 1) (· = w.heap.size + 1) W G := fun k hk => ⟨by have := hG k hk; omega, .inl (by have := hG k hk; omega)⟩
  have hpW := hp.old hG hbW
  have HT := Lib.hid (utext_any (w.heap.size + 1) (w.heap.size + 1) (l.deep + 1) l G A c [] W (by omega) hwt (by simp; omega) hgd hI (by omega) hpW)
  have HBW := Lib.hid hbW
  clear hI hsz hgd hpW hp hG q1 hbW
  go_enter Tryz.func45, Tryz.ntmps45
  go_wp2_with fail
  refine HT.out.mono ?_
  rintro e w1 ⟨he, hi1, hk1⟩
  have hb1 : Below w.heap.size w w1 := HBW.out.trans (hk1.below (by have := HBW.out.size; have : W.heap.size = w.heap.size + 2 := by rw [← hW]; simp
                                                                    omega) |>.mono (by omega))
  clear hW hk1
  cases hu : l.utx with
  | none =>
    rw [hu] at he
    subst he
    have HB1 := Lib.hid hb1
    have HU := Lib.hid hu
    clear hi1 hb1 hu
    simp only [Option.isSome_none]
    go_wp2_with fail
    go_ret2
    exact ⟨by rw [HU.out]; rfl, HB1.out⟩
  | some s =>
    rw [hu] at he
    subst he
    have hi2 := hi1 s hu
    rw [List.nil_append] at hi2
    have HI := Lib.hid hi2; have HB1 := Lib.hid hb1; have HU := Lib.hid hu
    clear hi1 hi2 hb1 hu
    simp only [Option.isSome_some]
    go_wp2_with fail
    refine (builderString_any s _ HI.out).mono ?_
    rintro e w2 ⟨rfl, hk2⟩
    have HB2 := Lib.hid (HB1.out.trans ((hk2.below (by have := HI.out.lt; omega)).mono (by omega)))
    clear hk2
    go_wp2_with fail
    go_ret2
    exact ⟨by rw [HU.out]; rfl, HB2.out⟩
end Go.Proofs.YtjpopekmbmcggaaGreatDoor
