/- Towards unparseHeres_card. -/
import Derived.Test.YtjpopekmbmcggaaGreatDoorUh33
import Derived.Test.YtjpopekmbmcggaaGreatDoorUh24
import Derived.Test.YtjpopekmbmcggaaGreatDoorUh32
set_option maxRecDepth 100000
set_option maxHeartbeats 16000000
namespace Go.Proofs.YtjpopekmbmcggaaGreatDoor
open Go.RowKit
def Tx (b:Nat) (s:St) (w:World):Prop:=w.heap[b]? = some (.cells #[.string ⟨s.1.toArray⟩,.string ⟨s.2.toArray⟩] 122 (0,0))
structure Kb (b:Nat) (w w':World):Prop where
 os:w'.os=w.os
 tape:w'.tape=w.tape
 output:w'.output=w.output
 size:w.heap.size≤w'.heap.size
 block:∀ k,k<w.heap.size→k≠b→w'.heap[k]? = w.heap[k]?
section
variable {b:Nat} {s:St} {w w' w'':World}
theorem Kb.refl (b:Nat) (w:World):Kb b w w:=⟨rfl,rfl,rfl,Nat.le_refl _,fun _ _ _=>rfl⟩
theorem Kb.trans (h:Kb b w w') (k:Kb b w' w''):Kb b w w'':=⟨k.os.trans h.os,k.tape.trans h.tape,k.output.trans h.output,Nat.le_trans h.size k.size,fun i hi hb=>(k.block i (gK hi h.size) hb).trans (h.block i hi hb)⟩
theorem Kb.of_below (h:Below w.heap.size w w'):Kb b w w':=⟨h.os,h.tape,h.output,h.size,fun k hk _=>h.block k hk⟩
theorem Kb.below (h:Kb b w w') (hb:b≤w.heap.size):Below b w w':=⟨h.os,h.tape,h.output,h.size,fun k hk=>h.block k (by omega) (by omega)⟩
theorem Kb.set (h:Kb b w w') (i:Nat) (u:Value):Kb b w (w'.setCell ⟨b,i,none⟩ u):=
 h.trans ⟨rfl,rfl,rfl,by simp [World.setCell],fun _ _ hk=>Below.heap_setCell _ _ _ _ hk⟩
theorem Kb.box (h:Kb b w w') {k:Nat} {cs:Array Value} {T:TypeId} {fz:Nat×Nat} (hh:w.heap[k]? = some (.cells cs T fz)) (hb:k≠b):w'.heap[k]? = some (.cells cs T fz):=
 (h.block k (Array.getElem?_eq_some_iff.1 hh).1 hb).trans hh
theorem Kb.cell (h:Kb b w w') {p:Addr} {v:Value} (hc:w.cell? p=some v) (hp:p.block≠b):w'.cell? p=some v:=(World.cell?_of_block (h.block _ (fG hc) hp)).trans hc
theorem Kb.grown (h:Kb b w w') (hw:w'.heap[b]? = w.heap[b]?):Below w.heap.size w w':=
 ⟨h.os,h.tape,h.output,h.size,fun k hk=>by
  by_cases e:k=b
  ·rw [e];exact hw
  ·exact h.block k hk e⟩
theorem Tx.lt (h:Tx b s w):b<w.heap.size:=(Array.getElem?_eq_some_iff.1 h).1
theorem Tx.keep (h:Tx b s w) (hb:Below w.heap.size w w'):Tx b s w':=(hb.block b h.lt).trans h
theorem Tx.set0 (h:Tx b s w) (x:List UInt8):Tx b (x,s.2) (w.setCell ⟨b,0,none⟩ (.string ⟨x.toArray⟩)):=by
 unfold Tx at h ⊢;simp [World.setCell,Array.getElem?_modify,h]
theorem Tx.put (h:Tx b s w) (x:List UInt8):Tx b (s.put x) (w.setCell ⟨b,0,none⟩ (.string ⟨(s.1++x).toArray⟩)):=h.set0 (s.1++x)
theorem Tx.c0 (h:Tx b s w):w.cell? ⟨b,0,none⟩=some (.string ⟨s.1.toArray⟩):=aE h 0 _ rfl
theorem Tx.c1 (h:Tx b s w):w.cell? ⟨b,1,none⟩=some (.string ⟨s.2.toArray⟩):=aE h 1 _ rfl
theorem Tx.f (h:Tx b s w) (j:Nat):w.frozen? ⟨b,j,none⟩=false:=by
 unfold Tx at h;simp [World.frozen?,h]
theorem Tx.all (h:Tx b s w):w.cell? ⟨b,0,none⟩=some (.string ⟨s.1.toArray⟩)∧w.cell? ⟨b,1,none⟩=some (.string ⟨s.2.toArray⟩)∧w.frozen? ⟨b,0,none⟩=false∧w.frozen? ⟨b,1,none⟩=false:=⟨h.c0,h.c1,h.f 0,h.f 1⟩
end
end Go.Proofs.YtjpopekmbmcggaaGreatDoor
