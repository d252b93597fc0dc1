/- The table's map, looked up, written, struck, counted: the runs as equations. -/
import Derived.Test.YtbkmfnjjfamjjaaAlRow
import Derived.Maps.OwnSet
namespace Go.Proofs.Ytbkmfnjjfamjjaa
open Go.RowKit Go.Maps Go.WideMaps

theorem own_tight {P : Program} {k : TypeId} {R : Value → Option (DataW Unit × List MemPlace)} {w : World} {b n : Nat} {D : DataW Unit} (h : w.ownsMap P k R b n D) : w.ownsMap P k R b (Maps.size D) D := by
  obtain ⟨es, clock, hb, F, hs, rfl⟩ := h
  exact ⟨es, clock, hb, F, by simp [Maps.size, length_sorted], rfl⟩
theorem law : Keyed Try.prog 9 := string_keyed Try.underlying9
theorem zeroS (w : World) : (zeroValue 9).run Try.prog w = .ok (.string ⟨#[]⟩) w := by kernel_rfl

/-- A map that holds these aliases. -/
def Mp (w : World) (b : Nat) (L : Al) : Prop := w.ownsMap Try.prog 9 (plainElem Try.prog 9) b L.length (L.data (H := Unit))
section
variable {w w' : World} {b : Nat} {L : Al}
theorem Mp.lt (h : Mp w b L) : b < w.heap.size := World.ownsMap.lt h
theorem Mp.rising (h : Mp w b L) : L.Rising := Al.rising_of_canon (World.ownsMap.canon h law)
theorem Mp.kept {row : Option Nat} (h : Mp w b L) (hg : w.grownBy w' row) (hne : some b ≠ row) : Mp w' b L := World.ownsMap.kept h hg hne
theorem Mp.look (h : Mp w b L) (s : ByteArray) (hs : s.size ≤ maxLen) :
    (Instr.lookup 45 (.map (some b)) (.string s) true).run Try.prog w = .ok (.tuple #[.string ((L.val s).getD ⟨#[]⟩), .bool (L.has s)]) w := by
  obtain ⟨v, ps, hrun, hv⟩ := World.ownsMap.look_ok h law Try.underlying45 (zeroS w) (plainElem_string (H := Unit) (s := ⟨#[]⟩) Try.underlying9 (by decide)) (keyOf_string_mk Try.underlying9 hs)
  obtain ⟨c, rfl, hc, _⟩ := plainElem_string_inv Try.underlying9 hv
  rw [hrun, Al.has_data]
  have h1 := congrArg Prod.fst hc
  simp only at h1
  rw [Al.at_data] at h1
  have h2 : c = (L.val s).getD ⟨#[]⟩ := by
    apply keyB_inj
    have : ((L.val s).map (·.data.toList)).getD (⟨#[]⟩ : ByteArray).data.toList = c.data.toList := by injection h1 with h1; injection h1
    rw [← this]
    cases L.val s <;> rfl
  rw [h2]
theorem Mp.get (h : Mp w b L) (s : ByteArray) (hs : s.size ≤ maxLen) :
    (Instr.lookup 45 (.map (some b)) (.string s) false).run Try.prog w = .ok (.string ((L.val s).getD ⟨#[]⟩)) w := by
  obtain ⟨v, ps, hrun, hv⟩ := World.ownsMap.lookup h law Try.underlying45 (zeroS w) (plainElem_string (H := Unit) (s := ⟨#[]⟩) Try.underlying9 (by decide)) (keyOf_string_mk Try.underlying9 hs)
  obtain ⟨c, rfl, hc, _⟩ := plainElem_string_inv Try.underlying9 hv
  rw [hrun]
  have h1 := congrArg Prod.fst hc
  simp only at h1
  rw [Al.at_data] at h1
  have h2 : c = (L.val s).getD ⟨#[]⟩ := by
    apply keyB_inj
    have : ((L.val s).map (·.data.toList)).getD (⟨#[]⟩ : ByteArray).data.toList = c.data.toList := by injection h1 with h1; injection h1
    rw [← this]
    cases L.val s <;> rfl
  rw [h2]
theorem Mp.len (h : Mp w b L) (ty : TypeId) : (Builtin.len_ #[45] ty #[.map (some b)]).run Try.prog w = .ok (.int .i64 L.length) w := by
  have := World.ownsMap.len h Try.underlying45 ty
  rwa [Al.size_data] at this
theorem Mp.store (h : Mp w b L) (s v : ByteArray) (hs : s.size ≤ maxLen) (hv : v.size ≤ maxLen) (hn : L.length < maxLen) :
    ∃ w', (Instr.mapUpdate 45 (.map (some b)) (.string s) (.string v)).run Try.prog w = .ok () w' ∧ Mp w' b (L.put s v) ∧ w.grownBy w' (some b) ∧ w'.heap.size = w.heap.size := by
  obtain ⟨w', h1, h2, h3⟩ := World.ownsMap.store h law Try.underlying45 hn (keyOf_string_mk Try.underlying9 hs) (plainElem_string (H := Unit) Try.underlying9 hv)
  refine ⟨w', h1, ?_, h3.grown, ?_⟩
  · rw [Al.put_data] at h2
    have := own_tight h2
    rw [Al.size_data] at this
    exact this
  · obtain ⟨es, clock, es', clock', _, rfl⟩ := h3
    simp [ChangeMaps.setBlock]
theorem Mp.drop (h : Mp w b L) (s : ByteArray) (hs : s.size ≤ maxLen) (ty : TypeId) :
    ∃ w', (Builtin.delete_ #[45, 9] ty #[.map (some b), .string s]).run Try.prog w = .ok (.tuple #[]) w' ∧ Mp w' b (L.del s) ∧ w.grownBy w' (some b) ∧ w'.heap.size = w.heap.size := by
  obtain ⟨w', h1, h2, h3⟩ := World.ownsMap.drop h law Try.underlying45 (keyOf_string_mk Try.underlying9 hs) ty
  refine ⟨w', h1, ?_, h3.grown, ?_⟩
  · rw [Al.del_data] at h2
    have := own_tight h2
    rw [Al.size_data] at this
    exact this
  · obtain ⟨es, clock, es', clock', _, rfl⟩ := h3
    simp [ChangeMaps.setBlock]
theorem Mp.made (w : World) : Mp (w.alloc (.map #[] 0)) w.heap.size [] := World.ownsMap_made w _ _ _
end
end Go.Proofs.Ytbkmfnjjfamjjaa
