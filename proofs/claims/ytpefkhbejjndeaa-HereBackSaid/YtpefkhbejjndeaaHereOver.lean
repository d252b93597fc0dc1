/- here.Reader: over, Feed -/
import Derived.Test.YtpefkhbejjndeaaHereLines
import Derived.BigRegion
import Derived.Test.YtpefkhbejjndeaaWr
import Derived.RegionTactic
namespace Go.Proofs.Ytpefkhbejjndeaa
open Go.RowKit

theorem Below.grow' {w w' : World} (h : Below w.heap.size w w') (o : Obj) : Below w.heap.size w (w'.alloc o) := h.alloc h.size o
/-- An append whose run is known, at a step of a region that draws its order. -/
theorem step_append_run {ops : Array Oper} {o : Oper} {a : Act} {w : World} {K : Act → World → Prop} {Q : Exit → Act → World → Prop} {E : Prop} (hgd : o.guard = none) (s x : Operand) (t : TypeId)
    (ho : o.op = .call { callee := .builtin .append, args := #[s, x], argTypes := #[t, t] }) {vs vx v' : Value} {w' : World} (hs : a.eval s = vs) (hx : a.eval x = vx)
    (hr : (Builtin.append_ #[t, t] o.type #[vs, vx]).run Try.prog w = .ok v' w') (hK : K (a.put o.dst v') w') : if Region.wanted o (yielded ops a.tmps) = true then Oper.wp Try.prog o a w K Q else E := by
  have hw : Region.wanted o (yielded ops a.tmps) = true := by simp [Region.wanted, hgd]
  rw [if_pos hw]
  unfold Oper.wp execOp
  simp only [ho, resolve, invoke, builtin, Sem.run_bind, Sem.run_pure, Result.andThen_ok, List.map_toArray, List.map_cons, List.map_nil, hs, hx, hr]
  exact hK
attribute [local go_sem ↓] wp_append_wr
theorem size_lit' (l : List UInt8) : (⟨l.toArray⟩ : ByteArray).size = l.length := by rw [size_list, list_mk]

theorem rd_line {B b : Nat} {e : ByteArray} {t : Bool} {ls : List (List UInt8)} {v0 v1 v : Value} {sm : Bool} {w : World} (hB : B ≤ b) (hh : w.heap[b]? = some (.cells #[.string e, .bool t, v0, v1, .bool sm, .int .i64 0] 97 (0, 0)))
    (ho : w.ownsRow B 9 1 v ls.length (ls.map bs)) : Rd B b e t ls [] false 0 (((w.setCell ⟨b, 2, none⟩ v).setCell ⟨b, 3, none⟩ (.slice none 0 0)).setCell ⟨b, 4, none⟩ (.bool false)) := by
  have h1 : (w.setCell ⟨b, 2, none⟩ v).heap[b]? = some (.cells #[.string e, .bool t, v, v1, .bool sm, .int .i64 0] 97 (0, 0)) := by simp [World.setCell, Array.getElem?_modify, hh]
  have h2 : ((w.setCell ⟨b, 2, none⟩ v).setCell ⟨b, 3, none⟩ (.slice none 0 0)).heap[b]? = some (.cells #[.string e, .bool t, v, .slice none 0 0, .bool sm, .int .i64 0] 97 (0, 0)) := by
    rw [World.setCell]; simp [Array.getElem?_modify, h1]
  refine ⟨hB, v, .slice none 0 0, ?_, own_set (own_set (own_set ho hh (by decide) _ _) h1 (by decide) _ _) h2 (by decide) _ _, ⟨rfl, .inl ⟨rfl, rfl⟩⟩⟩
  rw [World.setCell]; simp [Array.getElem?_modify, h2]

set_option maxRecDepth 100000 in
set_option maxHeartbeats 2000000 in
theorem over_goes {B b : Nat} {e : ByteArray} {t : Bool} {ls : List (List UInt8)} {l : List UInt8} {sm : Bool} (w : World) (h : Rd B b e t ls l sm 0 w) (he : ¬ l = e.toList) (hl : l.length ≤ 1099511627776) (hls : ls.length ≤ 1099511627776) (hB : B ≤ w.heap.size) :
    Calls Try.prog 81 #[.pointer (some ⟨b, 0, none⟩)] w fun r w' => r = .returned (.int .i64 0) ∧ Rd B b e t (ls ++ [l ++ [10]]) [] false 0 w' ∧ Below B w w' := by
  have hlt := h.lt
  have hBb := h.1
  have H := Lib.hid h
  obtain ⟨vls, vl, c0, c1, c2, c3, c4, c5, fz, o1, o2, hh⟩ := h.cells
  obtain ⟨A1, k1, rfl, hk1, hn1⟩ := own_form o1
  have hconv : ∀ n, (convert 28 9 vl).run Try.prog (w.drewN n) = .ok (.string ⟨l.toArray⟩) (w.drewN n) := fun n => conv_row (own_drewN o2 n)
  have hne2 : (l == e.toList) = false := by rw [beq_eq_false_iff_ne]; exact he
  have HO1 := Lib.hid o1; have HO2 := Lib.hid o2; have HH := Lib.hid hh
  clear h o1 o2 hh
  go_enter Try.func81, Try.ntmps81
  go_wp2_with fail
  go_quiet (fail)
  go_wp2_with fail
  have c2' : (w.drewN nq).cell? ⟨b, 2, none⟩ = some (.slice A1 ls.length k1) := by simpa using c2
  have c3' : (w.drewN nq).cell? ⟨b, 3, none⟩ = some vl := by simpa using c3
  have fz' : ∀ i, (w.drewN nq).frozen? ⟨b, i, none⟩ = false := fun i => by simpa using fz i
  have hbw := belowN (Below.refl w.heap.size w) nq
  have hsz : b < (w.drewN nq).heap.size := by simpa using hlt
  have hcv := hconv nq
  have hcv2 := hconv (nq + 1)
  have ho1 := own_drewN HO1.out nq
  have ho2 := own_drewN HO2.out nq
  have hBw : B ≤ (w.drewN nq).heap.size := by simpa using hB
  rw [show w.drewN (nq + 1) = (w.drewN nq).drew from rfl] at hcv2
  have HW := Lib.hid hbw
  clear c0 c1 c2 c3 c4 c5 fz hconv hbw
  revert c2' c3' fz' HW hsz hcv hcv2 ho1 ho2 hBw
  generalize w.drewN nq = W
  intro c2' c3' fz' hsz hcv hcv2 ho1 ho2 hBw HW
  have hadd : ∀ X : World, (Op.stringOp .add ⟨l.toArray⟩ ⟨#[10]⟩).run Try.prog X = .ok (.string ⟨(l ++ [10]).toArray⟩) X := fun X => by
    have := run_string_add_sum (P := Try.prog) X ⟨l.toArray⟩ ⟨#[10]⟩ (by rw [size_lit', size_lit' [10]]; simp; omega)
    rw [this]
    congr 3
  have hi0 : (0 : Int) ≤ (ls.length : Int) := by omega
  have hi1 : (ls.length : Int) ≤ (k1 : Int) := by omega
  obtain ⟨cap, w3, hrun, hown3, hbel3⟩ := lines_append (w := (W.alloc (.cells #[bs (l ++ [10])] 9)).drew) 49 ((ho1.alloc _).drew) (l ++ [10]) ⟨W.heap.size, 0, none⟩ (by simp) hls (by simp; omega)
  have hbel3' : Below W.heap.size (W.alloc (.cells #[bs (l ++ [10])] 9)).drew w3 := ⟨hbel3.os, hbel3.tape, hbel3.output, hbel3.size, fun k hk => hbel3.block k (by simp; omega)⟩
  have hcvX : ∀ X : World, Below W.heap.size W X → (convert 28 9 vl).run Try.prog X = .ok (.string ⟨l.toArray⟩) X := fun X hX => conv_row (ho2.kept (row := none) ⟨hX.os, hX.tape, hX.output, hX.size, fun k hk _ => hX.block k hk⟩ (by cases vl.ownBlock <;> simp))
  have hcX : ∀ (X : World) (p : Addr) (v : Value), W.cell? p = some v → Below W.heap.size W X → X.cell? p = some v := fun X p v h hX => (World.cell?_of_block (hX.block _ (World.block_lt_of_cell? W p h))).trans h
  have hwb : W.heap[b]? = some (.cells #[.string e, .bool t, .slice A1 ls.length k1, vl, .bool sm, .int .i64 0] 97 (0, 0)) := (HW.out.block b hlt).trans HH.out
  have hW3 : Below W.heap.size W w3 := (((Below.refl _ _).alloc (Nat.le_refl _) _).drew).trans hbel3'
  have h3b : w3.heap[b]? = some (.cells #[.string e, .bool t, .slice A1 ls.length k1, vl, .bool sm, .int .i64 0] 97 (0, 0)) := (hW3.block b hsz).trans hwb
  have q3 : w3.cell? ⟨b, 2, none⟩ = some (.slice A1 ls.length k1) := by simp [World.cell?, h3b]
  have f3 : w3.frozen? ⟨b, 2, none⟩ = false := by simp [World.frozen?, h3b]
  have hwr := WrA.of hrun
  simp only [bs] at hwr
  have hcv3 : (convert 28 9 vl).run Try.prog (W.drew.alloc (.cells #[bs (l ++ [10])] 9)) = .ok (.string ⟨l.toArray⟩) (W.drew.alloc (.cells #[bs (l ++ [10])] 9)) := hcvX _ (((Below.refl _ _).drew).alloc (by simp) _)
  clear hcvX hcX hcv hrun
  have q33 : w3.cell? ⟨b, 3, none⟩ = some vl := by simp [World.cell?, h3b]
  have f33 : w3.frozen? ⟨b, 3, none⟩ = false := by simp [World.frozen?, h3b]
  have q34 : w3.cell? ⟨b, 4, none⟩ = some (.bool sm) := by simp [World.cell?, h3b]
  have f34 : w3.frozen? ⟨b, 4, none⟩ = false := by simp [World.frozen?, h3b]
  go_region
  go_wp2
  go_ret
  rw [show (W.alloc (.cells #[bs (l ++ [10])] 9)).drew.heap.size = W.heap.size + 1 by simp] at hown3
  refine ⟨rfl, rd_line hBb h3b hown3, ?_⟩
  have hB3 : Below B w w3 := ⟨hW3.os.trans HW.out.os, hW3.tape.trans HW.out.tape, hW3.output.trans HW.out.output, Nat.le_trans HW.out.size hW3.size, fun k hk => (hW3.block k (by omega)).trans (HW.out.block k (by omega))⟩
  exact ((hB3.setCell hBb _).setCell hBb _).setCell hBb _
end Go.Proofs.Ytpefkhbejjndeaa
