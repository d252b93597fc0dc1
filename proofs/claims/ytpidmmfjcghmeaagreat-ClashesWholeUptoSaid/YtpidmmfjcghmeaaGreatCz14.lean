/- Towards clashesWhole_upto. -/
import Derived.Test.YtpidmmfjcghmeaaGreatCz06
import Derived.Maps.OwnSet
set_option maxRecDepth 100000
set_option maxHeartbeats 16000000
set_option linter.all false
namespace Go.Proofs.YtpidmmfjcghmeaaGreat
open Go.RowKit Go.Maps Go.WideMaps
theorem ET:Keyed Tryz.prog 9:=string_keyed Tryz.underlying9
theorem GD (w:World):(zeroValue 3).run Tryz.prog w=.ok (.int .i64 0) w:=by kernel_rfl
def MI (w:World) (b:Nat) (f:List UInt8→Option Int) (n:Nat):Prop:=
 ∃ D:DataW Unit,w.ownsMap Tryz.prog 9 (plainElem Tryz.prog 3) b n D∧Maps.size D=n∧∀ s,Maps.has D (.string s)=(f s).isSome∧D.atKey (.string s) (.lit (.int .i64 0))=.lit (.int .i64 ((f s).getD 0))
def upd (f:List UInt8→Option Int) (s:List UInt8) (v:Int):List UInt8→Option Int:=fun t=>if t=s then some v else f t
section
variable {w w':World} {b n:Nat} {f:List UInt8→Option Int}
theorem MI.lt (h:MI w b f n):b<w.heap.size:=by
 obtain ⟨D,h1,_⟩:=h;exact World.ownsMap.lt h1
theorem MI.kept {row:Option Nat} (h:MI w b f n) (hg:w.grownBy w' row) (hne:some b≠row):MI w' b f n:=by
 obtain ⟨D,h1,h2⟩:=h;exact ⟨D,World.ownsMap.kept h1 hg hne,h2⟩
theorem MI.made (w:World):MI (w.alloc (.map #[] 0)) w.heap.size (fun _=>none) 0:=
 ⟨_,World.ownsMap_made w _ _ _,rfl,fun _=>⟨rfl,rfl⟩⟩
theorem MI.get (h:MI w b f n) (s:List UInt8) (hs:s.length≤9223372036854775807):(Instr.lookup 115 (.map (some b)) (bs s) false).run Tryz.prog w=.ok (.int .i64 ((f s).getD 0)) w:=by
 obtain ⟨D,h1,_,h3⟩:=h;obtain ⟨v,ps,hrun,hv⟩:=World.ownsMap.lookup h1 ET Tryz.underlying115 (GD w) (plainElem_int (H:=Unit) Tryz.underlying3 (a:=0) (by decide)) (keyOf_string_mk Tryz.underlying9 (s:=⟨s.toArray⟩) (by rw [aT,cJ];exact hs));obtain ⟨c,rfl,hc,_⟩:=plainElem_int_inv Tryz.underlying3 hv;unfold bs;rw [hrun];have h1:=congrArg Prod.fst hc;simp only at h1;rw [(h3 s).2] at h1;have h2:c=(f s).getD 0:=by injection h1 with h1;injection h1 with _ h1;exact h1.symm
 rw [h2]
theorem MI.look (h:MI w b f n) (s:List UInt8) (hs:s.length≤9223372036854775807):(Instr.lookup 115 (.map (some b)) (bs s) true).run Tryz.prog w=.ok (.tuple #[.int .i64 ((f s).getD 0),.bool (f s).isSome]) w:=by
 obtain ⟨D,h1,_,h3⟩:=h;obtain ⟨v,ps,hrun,hv⟩:=World.ownsMap.look_ok h1 ET Tryz.underlying115 (GD w) (plainElem_int (H:=Unit) Tryz.underlying3 (a:=0) (by decide)) (keyOf_string_mk Tryz.underlying9 (s:=⟨s.toArray⟩) (by rw [aT,cJ];exact hs));obtain ⟨c,rfl,hc,_⟩:=plainElem_int_inv Tryz.underlying3 hv;unfold bs;rw [hrun];have h1:=congrArg Prod.fst hc;simp only at h1;rw [(h3 s).2] at h1;have h2:c=(f s).getD 0:=by injection h1 with h1;injection h1 with _ h1;exact h1.symm
 rw [h2];exact congrArg (fun z=>Result.ok (Value.tuple #[.int .i64 ((f s).getD 0),.bool z]) w) (h3 s).1
theorem MI.len (h:MI w b f n) (ty:TypeId):(Builtin.len_ #[115] ty #[.map (some b)]).run Tryz.prog w=.ok (.int .i64 n) w:=by
 obtain ⟨D,h1,h2,_⟩:=h;have:=World.ownsMap.len h1 Tryz.underlying115 ty
 rwa [h2] at this
theorem MI.store (h:MI w b f n) (s:List UInt8) (v:Int) (hs:s.length≤9223372036854775807) (hv:(Lit.int .i64 v).wf=true) (hn:n<9223372036854775807):
  ∃ w',(Instr.mapUpdate 115 (.map (some b)) (bs s) (.int .i64 v)).run Tryz.prog w=.ok () w'∧MI w' b (upd f s v) (if (f s).isSome then n else n+1)∧w.grownBy w' (some b)∧w'.heap.size=w.heap.size:=by
 obtain ⟨D,h1,h2,h3⟩:=h;have hk:=keyOf_string_mk Tryz.underlying9 (s:=⟨s.toArray⟩) (by rw [aT,cJ];exact hs);obtain ⟨w',k1,k2,k3⟩:=World.ownsMap.store h1 ET Tryz.underlying115 hn hk (plainElem_int (H:=Unit) Tryz.underlying3 hv);have hT:=World.ownsMap.tidy h1 ET;have hM:=World.ownsMap.isMap h1;have e0:({ data:=s.toArray }:ByteArray).data.toList=s:=rfl;rw [e0] at k2;have hsz:Maps.size (D.put (.string s) (.lit (.int .i64 v)))=if (f s).isSome then n else n+1:=by
  rw [Maps.size_put hT,(h3 s).1,h2]
 refine ⟨w',k1,⟨D.put (.string s) (.lit (.int .i64 v)), ?_,hsz,fun t=>?_⟩,k3.grown, ?_⟩
 ·rw [← hsz];obtain ⟨es,clock,hb,F,_,e⟩:=k2;exact ⟨es,clock,hb,F,by rw [e];simp [Maps.size,length_sorted],e⟩
 ·unfold upd;by_cases ht:t=s
  ·subst ht;rw [if_pos rfl];exact ⟨Maps.has_put_same hM (show WideAt.IsKeyLit (.string t) from trivial) _,Maps.atKey_put_same hM (show WideAt.IsKeyLit (.string t) from trivial) _ _⟩
  ·rw [if_neg ht,Maps.has_put_other (fun e=>ht (by injection e)),Maps.atKey_put_other (fun e=>ht (by injection e))];exact h3 t
 ·obtain ⟨es,clock,es',clock',_,rfl⟩:=k3;simp [ChangeMaps.setBlock]
end
end Go.Proofs.YtpidmmfjcghmeaaGreat
