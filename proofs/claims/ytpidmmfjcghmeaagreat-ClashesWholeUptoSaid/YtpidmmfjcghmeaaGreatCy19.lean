/- Towards clashesWhole_upto. -/
import Derived.Test.YtpidmmfjcghmeaaGreatCy13
import Derived.Deep.Slices
import Derived.Deep.Fields
import Derived.ChangeSame
import Derived.Lib.SmallJoins
set_option maxRecDepth 100000
set_option maxHeartbeats 16000000
set_option linter.all false
namespace Go.Proofs.YtpidmmfjcghmeaaGreat
open Go.RowKit Go.ChangeShapes Go.WideShapes Go.Deep
section
variable {H:Type}
theorem zY (d:DataW H):1≤Rows.uptoBulk d:=by
 cases d with
 | lit l=>cases l <;> simp [Rows.uptoBulk]
 | nil=>simp [Rows.uptoBulk]
 | ptr d=>simp [Rows.uptoBulk]
 | slice elems spare=>simp [Rows.uptoBulk]
 | agg parts=>simp [Rows.uptoBulk]
 | iface t d=>simp [Rows.uptoBulk]
 | map entries=>simp [Rows.uptoBulk]
 | held h=>simp [Rows.uptoBulk]
theorem zX (l:List (DataW H)):l.length≤Rows.uptoBulkAll l:=by
 induction l with
 | nil=>simp
 | cons x r ih=>have:=zY x;simp only [Rows.uptoBulkAll,gG];omega
theorem rC {d:DataW H}:∀ {l:List (DataW H)},d∈l→Rows.uptoBulk d≤Rows.uptoBulkAll l
 | [],h=>by cases h
 | y::r,h=>by
  simp only [Rows.uptoBulkAll];rcases List.mem_cons.1 h with e | e
  ·subst e;omega
  ·have:=rC e;omega
theorem zZ (s:ByteArray):Rows.uptoBulk (DataW.lit (H:=H) (.string s.data.toList))=s.size+1:=by
 simp only [Rows.uptoBulk];rw [Array.length_toList];rfl
end
theorem vK {w:World} {a:Addr} {v:Value} (h:w.cell? a=some v):a.spot=none∧a.block<w.heap.size:=by
 unfold World.cell? at h
 split at h
 ·rename_i c _ _ hc;refine ⟨?_,(gL hc).1⟩
  split at h
  ·exact absurd h (by simp)
  ·rename_i hs;simpa using hs
 ·exact absurd h (by simp)
theorem qU (b off n:Nat):(⟨b,off,none⟩:Addr).add n=⟨b,off+n,none⟩:=by
 unfold Addr.add
 split
 ·rename_i h;subst h;rfl
 ·rfl
section
variable {H:Type} {enc:TypeId×Value→H} {w:World} {base:Nat} {spare:Nat→Bool} {held:Bool}
theorem qA {β:Type} {t e:TypeId} {sz:Nat} {R:List Value→β→Prop} {B:β→Nat} (ht:Tryz.prog.underlying t=some (.slice e)) (hc:Tryz.prog.cellsOf e=sz) (hsz:0<sz)
  (hR:∀ n cs x,cs.length=sz→DataW.trod enc Tryz.prog w base spare held n e cs=some x→∃ b,R cs b∧B b≤Rows.uptoBulk x.1)
  {fuel:Nat} {cs:List Value} {x:DataW H×List MemPlace} (h:DataW.trod enc Tryz.prog w base spare held fuel t cs=some x):
  ∃ (v:Value) (l:List β),cs=[v]∧aH (Old w) w sz R v l∧l.length≤Rows.uptoBulk x.1∧∀ b∈l,B b≤Rows.uptoBulk x.1:=by
 rcases open_slice ht h with h0 | ⟨a,len,cap,m,n,D,Pl,hcs,hb,hl,hm,hmm,hx,hi⟩
 ·exact ⟨_,[],h0.1,aH.nil0,gX _,fun b hb=>by cases hb⟩
 ·have hle:len≤m:=by rw [hmm];split <;> omega
  have hbk:Rows.uptoBulkAll ((List.range len).map D)≤Rows.uptoBulk x.1:=by rw [hx];simp only [Rows.uptoBulk];omega
  have hlen:len≤Rows.uptoBulk x.1:=by
   have:=zX ((List.range len).map D);simp only [List.length_map,yG] at this;omega
  have hel:∀ i,i<len→∃ b cs',R cs' b∧cs'.length=sz∧B b≤Rows.uptoBulk x.1∧∀ j u,cs'[j]? = some u→w.cell? ((a.add (i*sz)).add j)=some u:=fun i hil=>by
   obtain ⟨cs',h1,h2⟩:=hi i (by omega);rw [hc] at h1;obtain ⟨_,h3,h4⟩:=World.cells?_some h1;obtain ⟨b,h5,h6⟩:=hR _ _ _ h3 h2;refine ⟨b,cs',h5,h3,gP h6 (gP (rC (List.mem_map.2 ⟨i,List.mem_range.2 hil,rfl⟩)) hbk),fun j u hj=>?_⟩;have:=(gY hj).1;rw [h4 j (by omega),hj]
  by_cases hz:len=0
  ·subst hz;exact ⟨_,[],hcs,⟨some a,cap,rfl,gX _,hm,fun h=>absurd h (Nat.lt_irrefl 0)⟩,gX _,fun b hb=>by cases hb⟩
  obtain ⟨b0,off,ha⟩:∃ b off,a=⟨b,off,none⟩:=by
   obtain ⟨b,cs',_,h2,_,h3⟩:=hel 0 (by omega)
   match cs',h2 with
   | [],h2=>simp at h2;omega
   | u::_,_=>
    have h4:=h3 0 u rfl;have h5:=(vK h4).1;obtain ⟨b,off,sp⟩:=a;refine ⟨b,off, ?_⟩;rw [Nat.zero_mul] at h5;have:sp=none:=h5;rw [this]
  subst ha;have key:∀ n,n≤len→∃ l:List β,l.length=n∧(∀ b∈l,B b≤Rows.uptoBulk x.1)∧∀ i (h:i<l.length),∃ vs:List Value,vs.length=sz∧R vs l[i]∧∀ j u,vs[j]? = some u→w.cell? ⟨b0,off+i*sz+j,none⟩=some u:=by
   intro n
   induction n with
   | zero=>exact fun _=>⟨[],rfl,fun b hb=>(by cases hb),fun i h=>absurd h (yJ i)⟩
   | succ n ih=>
    intro hn;obtain ⟨l,h1,h2,h3⟩:=ih (by omega);obtain ⟨b,cs',k1,k2,k3,k4⟩:=hel n (by omega);refine ⟨l++[b],by simp [h1],fun y hy=>?_,fun i hi=>?_⟩
    ·rcases yC hy with hy | hy
     ·exact h2 y hy
     ·rw [List.mem_singleton.1 hy];exact k3
    ·by_cases hin:i<l.length
     ·obtain ⟨vs,q1,q2,q3⟩:=h3 i hin;exact ⟨vs,q1,by rw [List.getElem_append_left hin];exact q2,q3⟩
     ·have hil:i=l.length:=by simp at hi;omega
      subst hil;refine ⟨cs',k2,by rw [List.getElem_append_right (by omega)];simpa using k1,fun j u hj=>?_⟩;have:=k4 j u hj;rw [qU,qU,← h1] at this;exact this
  obtain ⟨l,h1,h2,h3⟩:=key len (gO _);subst h1;refine ⟨_,l,hcs,⟨_,cap,rfl,hl,hm,fun _=>⟨b0,off,rfl, ?_,h3⟩⟩,hlen,h2⟩;obtain ⟨vs,q1,_,q3⟩:=h3 0 (by omega)
  match vs,q1 with
  | [],q1=>simp at q1;omega
  | u::_,_=>exact (vK (q3 0 u rfl)).2
theorem xV {fuel:Nat} {cs:List Value} {x:DataW H×List MemPlace} (h:DataW.trod enc Tryz.prog w base spare held fuel 26 cs=some x):
  ∃ (v:Value) (l:List Int),cs=[v]∧aF (Old w) w v l∧l.length≤Rows.uptoBulk x.1:=by
 obtain ⟨v,l,h1,h2,h3,_⟩:=qA (R:=cF) (B:=fun _=>0) Tryz.underlying26 (show Tryz.prog.cellsOf 3=1 by kernel_rfl) (by decide)
  (fun n cs x _ h=>by
   obtain ⟨k,rfl,_⟩:=DataW.trod_int Tryz.underlying3 h;exact ⟨k,rfl,gX _⟩) h
 exact ⟨v,l,h1,h2,h3⟩
theorem oT {fuel:Nat} {cs:List Value} {x:DataW H×List MemPlace} (h:DataW.trod enc Tryz.prog w base spare held fuel 22 cs=some x):
  ∃ (v:Value) (l:List (List UInt8)),cs=[v]∧aW (Old w) w v l∧l.length≤Rows.uptoBulk x.1∧∀ s∈l,s.length≤Rows.uptoBulk x.1:=
 qA (R:=iT) (B:=fun s=>s.length) Tryz.underlying22 (show Tryz.prog.cellsOf 9=1 by kernel_rfl) (by decide)
  (fun n cs x _ h=>by
   obtain ⟨S,rfl,hx,_⟩:=DataW.trod_string Tryz.underlying9 h;refine ⟨S.toList, ?_, ?_⟩
   ·show [Value.string S]=[bs S.toList];unfold bs;rw [show (⟨S.toList.toArray⟩:ByteArray)=S by rw [Lib.toList_data]]
   ·rw [hx];have:=zZ (H:=H) S;rw [← aT];simp only at this ⊢;omega) h
theorem tO {fuel:Nat} {cs:List Value} {x:DataW H×List MemPlace} (h:DataW.trod enc Tryz.prog w base spare held fuel 23 cs=some x):
  ∃ (v:Value) (l:List (Int×List Int)),cs=[v]∧cD (Old w) w v l∧l.length≤Rows.uptoBulk x.1∧∀ r∈l,r.2.length≤Rows.uptoBulk x.1:=
 qA (R:=RuV (Old w) w) (B:=fun r=>r.2.length) Tryz.underlying23 (show Tryz.prog.cellsOf 64=2 by kernel_rfl) (by decide)
  (fun n cs x hcs h=>by
   match cs,hcs with
   | [c0,c1],_=>
    obtain ⟨xs,n',_,hx,_,hlen,hg⟩:=DataW.trod_struct Tryz.underlying64 h
    match xs,hlen with
    | [y0,y1],_=>
     have h0:DataW.trod enc Tryz.prog w base spare held n' 3 ([c0,c1].take (Tryz.prog.cellsOf 3))=some y0:=hg 0 _ rfl;have h1:DataW.trod enc Tryz.prog w base spare held n' 26 ([c1].take (Tryz.prog.cellsOf 26))=some y1:=hg 1 _ rfl;rw [show Tryz.prog.cellsOf 3=1 by kernel_rfl] at h0;rw [show Tryz.prog.cellsOf 26=1 by kernel_rfl] at h1;obtain ⟨k,e0,_⟩:=DataW.trod_int Tryz.underlying3 h0;obtain ⟨v,l,e1,hl,hb⟩:=xV h1;obtain rfl:c0=.int .i64 k:=(List.cons.inj e0).1;obtain rfl:c1=v:=(List.cons.inj e1).1;refine ⟨(k,l),⟨_,rfl,hl⟩, ?_⟩;rw [hx];simp only [List.map_cons,List.map_nil,Rows.uptoBulk,Rows.uptoBulkAll];omega) h
theorem xU {r:Reach} {b0:Nat} {v:Value} {d:DataW H} {ps:List MemPlace} (hv:Value.okWide Tryz.prog w r b0 25 v) (h:DataW.Trod enc Tryz.prog w base spare held 25 v d ps) (hd:Rows.uptoBulk d≤1048576):
  ∃ (vs:List Value) (g:Gm),v=ag vs∧GmV (Old w) w vs g∧g.Fit:=by
 obtain ⟨cs,rfl,hsz⟩:=okWide_struct Tryz.underlying25 hv;obtain ⟨l⟩:=cs
 match l,hsz.trans (show Tryz.prog.cellsOf 25=4 by kernel_rfl) with
 | [c0,c1,c2,c3],_=>
  obtain ⟨fuel,hf⟩:=h;obtain ⟨xs,n,_,hx,_,hlen,hg⟩:=DataW.trod_struct Tryz.underlying25 hf
  match xs,hlen with
  | [y0,y1,y2,y3],_=>
   simp only [Prod.mk.injEq] at hx;have h0:DataW.trod enc Tryz.prog w base spare held n 22 ([c0,c1,c2,c3].take (Tryz.prog.cellsOf 22))=some y0:=hg 0 _ rfl;have h1:DataW.trod enc Tryz.prog w base spare held n 22 ([c1,c2,c3].take (Tryz.prog.cellsOf 22))=some y1:=hg 1 _ rfl;have h2:DataW.trod enc Tryz.prog w base spare held n 23 ([c2,c3].take (Tryz.prog.cellsOf 23))=some y2:=hg 2 _ rfl;have h3:DataW.trod enc Tryz.prog w base spare held n 3 ([c3].take (Tryz.prog.cellsOf 3))=some y3:=hg 3 _ rfl;rw [show Tryz.prog.cellsOf 22=1 by kernel_rfl] at h0 h1;rw [show Tryz.prog.cellsOf 23=1 by kernel_rfl] at h2;rw [show Tryz.prog.cellsOf 3=1 by kernel_rfl] at h3;obtain ⟨v0,l0,e0,q0,b0,s0⟩:=oT h0;obtain ⟨v1,l1,e1,q1,b1,s1⟩:=oT h1;obtain ⟨v2,l2,e2,q2,b2,s2⟩:=tO h2;obtain ⟨k,e3,_⟩:=DataW.trod_int Tryz.underlying3 h3;obtain rfl:c0=v0:=(List.cons.inj e0).1;obtain rfl:c1=v1:=(List.cons.inj e1).1;obtain rfl:c2=v2:=(List.cons.inj e2).1;obtain rfl:c3=.int .i64 k:=(List.cons.inj e3).1;rw [hx.1] at hd;simp only [List.map_cons,List.map_nil,Rows.uptoBulk,Rows.uptoBulkAll] at hd;exact ⟨_,⟨l0,l1,k,l2⟩,rfl,⟨_,_,_,rfl,q0,q1,q2⟩,
    ⟨by show l0.length≤_;omega,by show l1.length≤_;omega,by show l2.length≤_;omega,fun s hs=>by have:=s0 s hs;omega,fun s hs=>by have:=s1 s hs;omega,fun s hs=>by have:=s2 s hs;omega⟩⟩
end
end Go.Proofs.YtpidmmfjcghmeaaGreat
