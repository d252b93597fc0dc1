/- strings.Builder in a block of the call's own, at the head of whatever struct: WriteString and String, by contracts that say what is kept: every block below B, and every other block that is no row of bytes. -/
import Derived.Test.YtpefkhbejjndeaaBase
import Derived.Lib.Builder
import Derived.Lib.AppendStr
import Derived.Lib.UnsafeStr
import Derived.RegionTactic
namespace Go.Proofs.Ytpefkhbejjndeaa
open Go.RowKit

def byteRow (w : World) (k : Nat) : Prop := ∃ c fz, w.heap[k]? = some (.cells c 5 fz)

/-- Kept: every block below B; every block but those of X that is no row of bytes. -/
structure Kp (B : Nat) (X : Nat → Prop) (w w' : World) : Prop where
  os : w'.os = w.os
  tape : w'.tape = w.tape
  output : w'.output = w.output
  size : w.heap.size ≤ w'.heap.size
  block : ∀ k, k < w.heap.size → (k < B ∨ (¬ X k ∧ ¬ byteRow w k)) → w'.heap[k]? = w.heap[k]?

section
variable {B : Nat} {X Y : Nat → Prop} {w w' w'' : World}
theorem Kp.refl (B : Nat) (X : Nat → Prop) (w : World) : Kp B X w w := ⟨rfl, rfl, rfl, Nat.le_refl _, fun _ _ _ => rfl⟩
theorem Kp.wide (h : Kp B X w w') (hX : ∀ k, X k → Y k) : Kp B Y w w' :=
  ⟨h.os, h.tape, h.output, h.size, fun k hk hg => h.block k hk (by rcases hg with hg | hg; exact .inl hg; exact .inr ⟨fun hx => hg.1 (hX k hx), hg.2⟩)⟩
theorem Kp.trans (h : Kp B X w w') (k : Kp B X w' w'') : Kp B X w w'' :=
  ⟨k.os.trans h.os, k.tape.trans h.tape, k.output.trans h.output, Nat.le_trans h.size k.size, fun i hi hg => by
    have h1 := h.block i hi hg
    rw [k.block i (Nat.lt_of_lt_of_le hi h.size) ?_, h1]
    rcases hg with hg | ⟨hg, hr⟩
    · exact .inl hg
    · exact .inr ⟨hg, fun ⟨c, fz, hc⟩ => hr ⟨c, fz, by rw [← h1]; exact hc⟩⟩⟩
theorem Kp.of_below (h : Below w.heap.size w w') : Kp B X w w' := ⟨h.os, h.tape, h.output, h.size, fun k hk _ => h.block k hk⟩
theorem Kp.alloc (h : Kp B X w w') (o : Obj) : Kp B X w (w'.alloc o) := h.trans (.of_below ((Below.refl _ _).alloc (Nat.le_refl _) o))
theorem Kp.drew (h : Kp B X w w') : Kp B X w w'.drew := h.trans (.of_below (Below.refl _ _).drew)
theorem Kp.drewN (h : Kp B X w w') (n : Nat) : Kp B X w (w'.drewN n) := h.trans (.of_below (belowN (Below.refl _ _) n))
theorem Kp.set (h : Kp B X w w') {b : Nat} (hB : B ≤ b) (hX : X b) (i : Nat) (u : Value) : Kp B X w (w'.setCell ⟨b, i, none⟩ u) :=
  h.trans ⟨rfl, rfl, rfl, by simp [World.setCell], fun k _ hg => Below.heap_setCell _ _ _ _ (by
    rcases hg with hg | hg
    · simp; omega
    · rintro rfl; exact hg.1 hX)⟩
theorem Kp.grown (h : Kp B X w w') {row : Option Nat} (hg : w'.grownBy w'' row) (hr : ∀ g, row = some g → B ≤ g ∧ byteRow w' g) : Kp B X w w'' :=
  h.trans ⟨hg.os, hg.tape, hg.output, hg.size, fun k hk hgk => hg.block k hk (fun e => by
    have := hr k e.symm
    rcases hgk with hgk | hgk
    · omega
    · exact hgk.2 this.2)⟩
/-- An append to a row of the call's own that is no row of bytes. -/
theorem Kp.grownX (h : Kp B X w w') {row : Option Nat} (hg : w'.grownBy w'' row) (hr : ∀ g, row = some g → B ≤ g ∧ X g) : Kp B X w w'' :=
  h.trans ⟨hg.os, hg.tape, hg.output, hg.size, fun k hk hgk => hg.block k hk (fun e => by
    have := hr k e.symm
    rcases hgk with hgk | hgk
    · omega
    · exact hgk.1 this.2)⟩
theorem Kp.freeze (h : Kp B X w w') {g : Nat} (hB : B ≤ g) (hr : byteRow w' g) (n : Nat) : Kp B X w (w'.freeze ⟨g, 0, none⟩ n) := by
  refine h.trans ?_
  unfold World.freeze
  split
  · exact Kp.refl _ _ _
  · refine ⟨rfl, rfl, rfl, by simp, fun k _ hgk => ?_⟩
    rw [Array.getElem?_modify]
    split
    · rename_i e
      have e' : g = k := e
      subst e'
      rcases hgk with hgk | hgk
      · omega
      · exact absurd hr hgk.2
    · rfl
theorem Kp.below (h : Kp B X w w') (hB : B ≤ w.heap.size) : Below B w w' := ⟨h.os, h.tape, h.output, h.size, fun k hk => h.block k (by omega) (.inl hk)⟩

/-- The blocks of G are among those that are kept. -/
def Gd (B : Nat) (X : Nat → Prop) (w : World) (G : Nat → Prop) : Prop := ∀ k, G k → k < w.heap.size ∧ (k < B ∨ (¬ X k ∧ ¬ byteRow w k))
theorem Gd.keep {G : Nat → Prop} (h : Gd B X w G) (k : Kp B X w w') : Gd B X w' G := fun i hi => by
  obtain ⟨h1, h2⟩ := h i hi
  refine ⟨Nat.lt_of_lt_of_le h1 k.size, ?_⟩
  rcases h2 with h2 | ⟨h2, hr⟩
  · exact .inl h2
  · exact .inr ⟨h2, fun ⟨c, fz, hc⟩ => hr ⟨c, fz, by rw [← k.block i h1 (.inr ⟨h2, hr⟩)]; exact hc⟩⟩
theorem Gd.cell {G : Nat → Prop} (h : Gd B X w G) (k : Kp B X w w') (p : Addr) (hp : G p.block) : w'.cell? p = w.cell? p :=
  World.cell?_of_block (k.block _ (h _ hp).1 (h _ hp).2)
end

def bcs (l : List UInt8) : List Value := l.map fun x => .int .u8 (x.toNat : Int)
theorem bcs_len (l : List UInt8) : (bcs l).length = l.length := by simp [bcs]
theorem bcs_str (s : ByteArray) : Lib.strCells s = bcs s.toList := by rw [Lib.toList_data]; rfl
theorem bcs_app (l r : List UInt8) : bcs (l ++ r) = bcs l ++ bcs r := by simp [bcs]

/-- A builder at the head of block b (of type T; 'rest': the cells behind it), holding the bytes l. -/
def Bld (T : TypeId) (B b : Nat) (rest : List Value) (p : Value) (l : List UInt8) (w : World) : Prop :=
  B ≤ b ∧ ∃ v, w.heap[b]? = some (.cells (p :: v :: rest).toArray T (0, 0)) ∧ w.ownsRow B 5 1 v l.length (bcs l) ∧ (v = .slice none 0 0 ↔ l = [])
/-- .. fresh, or used. -/
def IsB (T : TypeId) (B b : Nat) (rest : List Value) (l : List UInt8) (w : World) : Prop := Bld T B b rest (.pointer none) l w ∨ Bld T B b rest (.pointer (some ⟨b, 0, none⟩)) l w

/-- What is asked of the struct's type. -/
structure Hd (T : TypeId) (n : Nat) : Prop where
  lies : liesAt Try.prog Try.prog.depth T ((n + 2) / Try.prog.cellsOf T) 0 67 1 = true
  ne : T ≠ 5

section
variable {T : TypeId} {B b : Nat} {rest : List Value} {p : Value} {l : List UInt8} {w w' : World}
theorem Bld.lt (h : Bld T B b rest p l w) : b < w.heap.size := by
  obtain ⟨_, v, hb, _⟩ := h
  exact (Array.getElem?_eq_some_iff.1 hb).1
theorem Bld.cell0 (h : Bld T B b rest p l w) : w.cell? ⟨b, 0, none⟩ = some p := by
  obtain ⟨_, v, hb, _⟩ := h
  simp [World.cell?, hb]
theorem Bld.frozen (h : Bld T B b rest p l w) (i : Nat) : w.frozen? ⟨b, i, none⟩ = false := by
  obtain ⟨_, v, hb, _⟩ := h
  simp [World.frozen?, hb]
theorem Bld.shape (h : Bld T B b rest p l w) : w.shape? b = some (T, rest.length + 2) := by
  obtain ⟨_, v, hb, _⟩ := h
  simp [World.shape?, hb]
theorem own_ne {v : Value} {n : Nat} {xs : List Value} {cs : Array Value} {fr : Nat × Nat} (hown : w.ownsRow B 5 1 v n xs) (hb : w.heap[b]? = some (.cells cs T fr)) (hT : T ≠ 5) : v.ownBlock ≠ some b := Lib.ownBlock_ne hown hb hT
theorem own_row {v : Value} {n : Nat} {xs : List Value} (hown : w.ownsRow B 5 1 v n xs) : ∀ g, v.ownBlock = some g → B ≤ g ∧ byteRow w g := by
  intro g hg
  rcases hown.2 with ⟨rfl, _⟩ | ⟨g', cap, cur, rfl, hb, hh, _⟩
  · simp [Value.ownBlock] at hg
  · simp [Value.ownBlock] at hg
    subst hg
    exact ⟨hb, cur, _, hh⟩
/-- A store into one of the block's own cells but the buffer's. -/
theorem Bld.used (h : Bld T B b rest p l w) (hT : T ≠ 5) (q : Value) : Bld T B b rest q l (w.setCell ⟨b, 0, none⟩ q) := by
  obtain ⟨hB, v, hb, hown, hn⟩ := h
  have hne := own_ne hown hb hT
  refine ⟨hB, v, ?_, ?_, hn⟩
  · simp [World.setCell, Array.getElem?_modify, hb]
  · exact hown.kept (row := some b) ⟨rfl, rfl, rfl, by simp [World.setCell], fun k _ hk => Below.heap_setCell _ _ _ _ (fun e => hk (by simp [e]))⟩ (.inr hne)
theorem Bld.put {v v' : Value} {l' : List UInt8} (hB : B ≤ b) (hb : w.heap[b]? = some (.cells (p :: v :: rest).toArray T (0, 0))) (hT : T ≠ 5) (hown : w.ownsRow B 5 1 v' l'.length (bcs l')) (hn : v' = .slice none 0 0 ↔ l' = []) :
    Bld T B b rest p l' (w.setCell ⟨b, 1, none⟩ v') := by
  have hne := own_ne hown hb hT
  refine ⟨hB, v', ?_, ?_, hn⟩
  · simp [World.setCell, Array.getElem?_modify, hb]
  · exact hown.kept (row := some b) ⟨rfl, rfl, rfl, by simp [World.setCell], fun k _ hk => Below.heap_setCell _ _ _ _ (fun e => hk (by simp [e]))⟩ (.inr hne)
/-- What changes nothing that was there keeps the builder. -/
theorem Bld.keep (h : Bld T B b rest p l w) (hb : Below w.heap.size w w') : Bld T B b rest p l w' := by
  have hlt := h.lt
  obtain ⟨hB, v, hh, hown, hn⟩ := h
  refine ⟨hB, v, (hb.block b hlt).trans hh, hown.kept (row := none) ⟨hb.os, hb.tape, hb.output, hb.size, fun k hk _ => hb.block k hk⟩ ?_, hn⟩
  cases v.ownBlock <;> simp
theorem IsB.keep (h : IsB T B b rest l w) (hb : Below w.heap.size w w') : IsB T B b rest l w' := by
  rcases h with h | h
  · exact .inl (h.keep hb)
  · exact .inr (h.keep hb)
theorem IsB.lt (h : IsB T B b rest l w) : b < w.heap.size := by rcases h with h | h <;> exact h.lt
theorem IsB.le (h : IsB T B b rest l w) : B ≤ b := by rcases h with h | h <;> exact h.1
end

theorem size_builder : (Try.prog.info? 67).map (·.size) = some 2 := by kernel_rfl
theorem info_byte : (Try.prog.info? 5).map (fun i => (i.zero, i.size, i.bytes)) = some (some (.int .u8 0), 1, 1) := by kernel_rfl
theorem cells_byte : Try.prog.cellsOf 5 = 1 := by kernel_rfl

set_option maxHeartbeats 1000000 in
set_option maxRecDepth 100000 in
theorem copyCheck_used (b : Nat) (w : World) (h0 : w.cell? ⟨b, 0, none⟩ = some (.pointer (some ⟨b, 0, none⟩))) :
    Calls Try.prog 105 #[.pointer (some ⟨b, 0, none⟩)] w fun e w' => e = .returned (.tuple #[]) ∧ w = w' := by
  obtain ⟨j, hj, _⟩ := Option.map_eq_some_iff.1 size_builder
  go_enter Try.func105, Try.ntmps105
  go_wp2
  rw [Lib.run_neq_ptr_same w _ Try.underlying65 hj]
  go_wp2
  go_end0
  exact ⟨rfl, rfl⟩

set_option maxHeartbeats 1000000 in
set_option maxRecDepth 100000 in
theorem copyCheck_fresh {T : TypeId} {n : Nat} (hd : Hd T n) (b : Nat) (w : World) (h0 : w.cell? ⟨b, 0, none⟩ = some (.pointer none)) (hsh : w.shape? b = some (T, n + 2)) (hfz : w.frozen? ⟨b, 0, none⟩ = false) :
    Calls Try.prog 105 #[.pointer (some ⟨b, 0, none⟩)] w fun e w' => e = .returned (.tuple #[]) ∧ w.setCell ⟨b, 0, none⟩ (.pointer (some ⟨b, 0, none⟩)) = w' := by
  obtain ⟨j, hj, hjs⟩ := Option.map_eq_some_iff.1 size_builder
  go_enter Try.func105, Try.ntmps105
  go_wp2
  rw [Lib.run_to_unsafe w ⟨b, 0, none⟩ Try.underlying65 Try.underlying121 hj (by rw [hjs]; decide) hsh (by simp)]
  simp only [Result.andThen]
  rw [Oper.upon_value]
  go_wp2
  rw [run_callFunc_extern Try.func115 (by kernel_rfl) (by kernel_rfl) (by kernel_rfl) (e := Extern.AbiNoEscape.same) (by kernel_rfl)]
  rw [Lib.run_noEscape]
  simp only [Result.andThen]
  rw [Oper.upon_value]
  go_wp2
  rw [Lib.run_from_unsafe w ⟨b, 0, none⟩ Try.underlying121 Try.underlying65 hj hsh hd.lies]
  simp only [Result.andThen]
  rw [Oper.upon_value]
  go_wp2
  go_end0
  exact ⟨rfl, rfl⟩

theorem copyCheck_any {T : TypeId} {B b : Nat} {rest : List Value} (hd : Hd T rest.length) (l : List UInt8) (w : World) (h : IsB T B b rest l w) :
    Calls Try.prog 105 #[.pointer (some ⟨b, 0, none⟩)] w fun e w' => e = .returned (.tuple #[]) ∧ Bld T B b rest (.pointer (some ⟨b, 0, none⟩)) l w' ∧ Kp B (· = b) w w' := by
  rcases h with h | h
  · refine (copyCheck_fresh hd b w h.cell0 h.shape (h.frozen 0)).mono ?_
    rintro e w' ⟨rfl, rfl⟩
    exact ⟨rfl, h.used hd.ne _, (Kp.refl B (· = b) w).set (X := (· = b)) h.1 rfl _ _⟩
  · refine (copyCheck_used b w h.cell0).mono ?_
    rintro e w' ⟨rfl, rfl⟩
    exact ⟨rfl, h, Kp.refl _ _ _⟩

set_option maxHeartbeats 2000000 in
set_option maxRecDepth 100000 in
theorem writeString_any {T : TypeId} {B b : Nat} {rest : List Value} (hd : Hd T rest.length) (l : List UInt8) (s : ByteArray) (w : World) (h : IsB T B b rest l w) (hlen : l.length + s.size ≤ 140737488355328) (hBw : B ≤ w.heap.size) :
    Calls Try.prog 88 #[.pointer (some ⟨b, 0, none⟩), .string s] w fun e w' => e = .returned (.tuple #[.int .i64 s.size, .nilIface]) ∧ Bld T B b rest (.pointer (some ⟨b, 0, none⟩)) (l ++ s.toList) w' ∧ Kp B (· = b) w w' := by
  obtain ⟨i0, hi, hz0, hz1, hz2⟩ := info_parts info_byte
  go_enter Try.func88, Try.ntmps88
  go_wp2_with (go_at_call 105; refine (copyCheck_any hd l _ h).mono ?_)
  rintro e w1 ⟨rfl, h1, hb1⟩
  obtain ⟨hB, v, hbk, hown, hn⟩ := h1
  have HN0 := Lib.hid hn; clear hn
  have c0 : w1.cell? ⟨b, 0, none⟩ = some (.pointer (some ⟨b, 0, none⟩)) := by simp [World.cell?, hbk]
  have c1 : w1.cell? ⟨b, 1, none⟩ = some v := by simp [World.cell?, hbk]
  go_wp2_with (at_builtin; refine Lib.wpList_append_own_string _ rfl _ _ 28 9 rfl B 5 i0 Try.underlying28 Try.underlying9 hi hz0 hz1 hz2 _ _ _ rfl hown s rfl ?c3 ?c4 ?c5 ?_)
  case c3 => unfold maxLen; omega
  case c4 => omega
  case c5 => have := hb1.size; omega
  intro v' w2 hown' hgrow hnil
  have hlt : b < w1.heap.size := (Array.getElem?_eq_some_iff.1 hbk).1
  have hne := own_ne hown hbk hd.ne
  have hb2 : w2.heap[b]? = some (.cells (.pointer (some ⟨b, 0, none⟩) :: v :: rest).toArray T (0, 0)) := by
    rw [hgrow.block b hlt (fun e => hne e.symm)]
    exact hbk
  have d0 : w2.cell? ⟨b, 0, none⟩ = some (.pointer (some ⟨b, 0, none⟩)) := by simp [World.cell?, hb2]
  have d1 : w2.cell? ⟨b, 1, none⟩ = some v := by simp [World.cell?, hb2]
  have f1 : w2.frozen? ⟨b, 1, none⟩ = false := by simp [World.frozen?, hb2]
  obtain ⟨ao, n', cap, rfl⟩ : ∃ ao n' cap, v' = .slice ao n' cap := by
    rcases hown'.2 with ⟨hv, _⟩ | ⟨g, cap, cur, hv, _⟩
    · exact ⟨_, _, _, hv⟩
    · exact ⟨_, _, _, hv⟩
  have HN := Lib.hid hnil; clear hnil
  go_wp2
  go_ret2
  refine ⟨rfl, ?_, ?_⟩
  · refine Bld.put hB hb2 hd.ne (by rw [List.length_append, ← size_list, bcs_app, ← bcs_str]; exact hown') ?_
    have hs := empty_iff s
    have hs2 : s.size = 0 ↔ s.toList = [] := by rw [size_list]; simp
    have := HN.out
    first
      | (rw [this, HN0.out, hs, List.append_eq_nil_iff])
      | (rw [this, HN0.out, hs2, List.append_eq_nil_iff])
  · exact (hb1.grown hgrow (own_row hown)).set (X := (· = b)) hB rfl _ _

set_option maxHeartbeats 2000000 in
set_option maxRecDepth 100000 in
theorem builderString_any {T : TypeId} {B b : Nat} {rest : List Value} (l : List UInt8) (w : World) (h : IsB T B b rest l w) :
    Calls Try.prog 61 #[.pointer (some ⟨b, 0, none⟩)] w fun e w' => e = .returned (bs l) ∧ Kp B (· = b) w w' := by
  obtain ⟨p, hB, v, hbk, hown, hn⟩ : ∃ p, Bld T B b rest p l w := by
    rcases h with h | h
    · exact ⟨_, h⟩
    · exact ⟨_, h⟩
  by_cases h0 : l = []
  · subst h0
    have hv := hn.2 rfl
    subst hv
    have hUS : ∀ (W : World) (q : Option Addr), (Builtin.unsafeString_ #[102, 3] 9 #[.pointer q, .int .i64 0]).run Try.prog W = .ok (.string .empty) W := fun W q => Lib.run_unsafeString_none W _ _ _ q
    have c1 : w.drew.cell? ⟨b, 1, none⟩ = some (.slice none 0 0) := by
      have : w.drew.heap[b]? = some (.cells (p :: .slice none 0 0 :: rest).toArray T (0, 0)) := hbk
      simp [World.cell?, this]
    have hSD : (Builtin.unsafeSliceData_ #[28] 102 #[.slice none 0 0]).run Try.prog w.drew = .ok (.pointer none) w.drew := rfl
    go_enter Try.func61, Try.ntmps61
    go_wp2
    go_region
    all_goals (go_wp2; go_ret; exact ⟨rfl, (Kp.refl _ _ _).drew⟩)
  · have hl0 : l.length ≠ 0 := by simpa using h0
    obtain ⟨g, cap, cur, rfl, hbg, hg, hnc, hcm, hcs, htake⟩ : ∃ g cap cur, v = .slice (some ⟨g, 0, none⟩) l.length cap ∧ B ≤ g ∧ w.heap[g]? = some (.cells cur 5 (0, 0)) ∧ l.length ≤ cap ∧ cap ≤ maxLen ∧ cur.size = cap * 1 ∧ cur.toList.take (l.length * 1) = bcs l := by
      rcases hown.2 with ⟨_, hz⟩ | ⟨g, cap, cur, hv, r⟩
      · exact absurd hz hl0
      · exact ⟨g, cap, cur, hv, r⟩
    have c1 : w.drew.cell? ⟨b, 1, none⟩ = some (.slice (some ⟨g, 0, none⟩) l.length cap) := by
      have : w.drew.heap[b]? = some (.cells (p :: .slice (some ⟨g, 0, none⟩) l.length cap :: rest).toArray T (0, 0)) := hbk
      simp [World.cell?, this]
    have hSD : (Builtin.unsafeSliceData_ #[28] 102 #[.slice (some ⟨g, 0, none⟩) l.length cap]).run Try.prog w.drew = .ok (.pointer (some ⟨g, 0, none⟩)) w.drew :=
      Lib.run_unsafeSliceData_row _ _ _ _ _ _ (by omega)
    have hUS : (Builtin.unsafeString_ #[102, 3] 9 #[.pointer (some ⟨g, 0, none⟩), .int .i64 l.length]).run Try.prog w.drew = .ok (.string ⟨l.toArray⟩) (w.drew.freeze ⟨g, 0, none⟩ l.length) := by
      refine Lib.run_unsafeString_row w.drew 102 3 9 5 Try.underlying102 cells_byte g cur.size (by have hg' : w.drew.heap[g]? = some (.cells cur 5 (0, 0)) := hg; simp [World.shape?, hg']) l h0 (by omega) (by unfold maxLen at hcm; omega) ?_
      intro j x hx
      have := hown.cells (g := g) rfl j (.int .u8 x.toNat) (by simp [bcs, hx])
      exact this
    clear hn
    go_enter Try.func61, Try.ntmps61
    go_wp2
    go_region
    all_goals (go_wp2; go_ret; exact ⟨rfl, (Kp.refl _ _ _).drew.freeze hbg ⟨cur, _, hg⟩ _⟩)
end Go.Proofs.Ytpefkhbejjndeaa
