/- Towards clashesWhole_upto. -/
import Derived.Test.YtpidmmfjcghmeaaGreatRows
import Derived.WalkKit
import Derived.WalkSpells
import Derived.WalkLawsBesides
import Derived.Lib.Strings
import Derived.Maps.AppendAt
import Derived.Deep.AppendLies
import Derived.Deep.Draws
import Derived.BigQuiet
import Derived.Laws.EntriesVeiled
import Derived.LoopTactic
import Derived.Outline
import Derived.Deep.Upon
import Derived.Deep.OwnRows
import Derived.Below
import Derived.Test.YtpidmmfjcghmeaaGreatCs01
set_option maxRecDepth 100000
set_option maxHeartbeats 16000000
set_option linter.all false
namespace Go.Proofs.YtpidmmfjcghmeaaGreat
open Go.RowKit
def bs (l:List UInt8):Value:=.string ⟨l.toArray⟩
theorem bG {k:IntKind} {a b:Int} (h:a=b):Ending.returned (.int k a)=.returned (.int k b):=by rw [h]
theorem aJ {a b:Bool} (h:a=b):Ending.returned (.bool a)=.returned (.bool b):=by rw [h]
theorem aT (s:ByteArray):s.size=s.toList.length:=by rw [Lib.toList_data];exact Lib.size_eq s
theorem cJ (l:List UInt8):(⟨l.toArray⟩:ByteArray).toList=l:=ByteArray.toList_mk l
theorem jA (s : ByteArray) (i : Nat) (h : i < s.size) : s.toList[i]'(by rw [← aT]; exact h) = s[i] := by
 have e:=Lib.toList_data s;simp only [e];rfl
theorem get?_list (s:ByteArray) (i:Nat) (h:i<s.size):s.toList[i]? = some s[i]:=by
 rw [← jA s i h];exact List.getElem?_eq_getElem _
theorem wI (a:Addr) (n:Nat):(a.add n).block=a.block:=by unfold Addr.add;split <;> rfl
def Row (w:World) (B size:Nat) (A:Option Addr) (n:Nat) (xs:List Value):Prop:=
 xs.length=n*size∧(0<n→∃ ad,A=some ad∧ad.block<B∧∀ j u,xs[j]? = some u→w.cell? (ad.add j)=some u)
section
variable {w w':World} {B B' size n:Nat} {A:Option Addr} {xs:List Value}
theorem Row.nil:Row w B size A 0 []:=⟨by simp,fun h=>absurd h (by omega)⟩
theorem Row.keep (h:Row w B size A n xs) (hk:∀ p:Addr,p.block<B→w'.cell? p=w.cell? p):Row w' B size A n xs:=
 ⟨h.1,fun hn=>by
  obtain ⟨ad,e,hb,hc⟩:=h.2 hn;exact ⟨ad,e,hb,fun j u hu=>(hk _ (by rw [wI];exact hb)).trans (hc j u hu)⟩⟩
theorem Row.more (h:Row w B size A n xs) (hB:B≤B'):Row w B' size A n xs:=
 ⟨h.1,fun hn=>by
  obtain ⟨ad,e,hb,hc⟩:=h.2 hn;exact ⟨ad,e,by omega,hc⟩⟩
theorem Row.below (h:Row w B size A n xs) (hb:Below B w w'):Row w' B size A n xs:=h.keep fun _ hp=>hb.cell hp
theorem Row.alloc (h:Row w B size A n xs) (hB:B≤w.heap.size) (o:Obj):Row (w.alloc o) B size A n xs:=h.keep fun p hp=>World.cell?_alloc_lt w o p (by omega)
theorem Row.drew (h:Row w B size A n xs):Row w.drew B size A n xs:=h
end
theorem lI {B:Nat} {a w:World} (h:Below B a w) (n:Nat):Below B a (w.drewN n):=⟨h.os,h.tape,h.output,h.size,h.block⟩
end Go.Proofs.YtpidmmfjcghmeaaGreat
namespace Go.Proofs.YtpidmmfjcghmeaaGreat
structure Gm where
 terms:List (List UInt8)
 nons:List (List UInt8)
 start:Int
 rules:List (Int×List Int)
namespace Gm
variable (g:Gm)
def top:Nat:=g.terms.length+g.nons.length
def T (s:Int):Prop:=1≤s∧s≤(g.terms.length:Int)
def N (s:Int):Prop:=(g.terms.length:Int)<s∧s≤(g.top:Int)
instance (s:Int):Decidable (g.T s):=by unfold T;infer_instance
instance (s:Int):Decidable (g.N s):=by unfold N;infer_instance
def names:List (List UInt8):=g.terms++g.nons
def name (s:Int):List UInt8:=g.names.getD (s-1).toNat []
inductive Der:List Int→List Int→Prop
 | nil:Der [] []
 | term {s:Int} {a w:List Int}:g.T s→Der a w→Der (s::a) (s::w)
 | rule {A:Int} {b a u v:List Int}:(A,b)∈g.rules→Der b u→Der a v→Der (A::a) (u++v)
inductive Reach:Int→Prop
 | start:Reach g.start
 | step {A:Int} {b:List Int} {s:Int}:(A,b)∈g.rules→Reach A→s∈b→Reach s
structure Known:Prop where
 st:g.N g.start
 left:∀ r∈g.rules,g.N r.1
 right:∀ r∈g.rules,∀ s∈r.2,g.T s∨g.N s
variable {g}
theorem Der.app {a b u v:List Int} (h:g.Der a u) (k:g.Der b v):g.Der (a++b) (u++v):=by
 induction h with
 | nil=>exact k
 | term ht _ ih=>exact .term ht ih
 | rule hr h1 _ _ ih=>rw [List.cons_append,List.append_assoc];exact .rule hr h1 ih
theorem Der.split:∀ {c w:List Int},g.Der c w→∀ a b,c=a++b→∃ u v,w=u++v∧g.Der a u∧g.Der b v:=by
 intro c w h
 induction h with
 | nil=>
  intro a b e;obtain ⟨rfl,rfl⟩:=List.append_eq_nil_iff.1 e.symm;exact ⟨[],[],rfl,.nil,.nil⟩
 | @term s c w ht h ih=>
  intro a b e;cases a with
  | nil=>exact ⟨[],_,rfl,.nil,by rw [show b=s::c from e.symm];exact .term ht h⟩
  | cons x a=>
   injection e with e1 e2
   subst e1;obtain ⟨u,v,rfl,h1,h2⟩:=ih a b e2;exact ⟨s::u,v,rfl,.term ht h1,h2⟩
 | @rule A bb c u0 v0 hr h1 h2 _ ih=>
  intro a b e;cases a with
  | nil=>exact ⟨[],_,rfl,.nil,by rw [show b=A::c from e.symm];exact .rule hr h1 h2⟩
  | cons x a=>
   injection e with e1 e2
   subst e1;obtain ⟨u,v,rfl,k1,k2⟩:=ih a b e2;exact ⟨u0++u,v,by rw [List.append_assoc],.rule hr h1 k1,k2⟩
theorem Der.mem {a w:List Int} (h:g.Der a w) {s:Int} (hs:s∈a):∃ u,g.Der [s] u:=by
 obtain ⟨x,y,rfl⟩:=List.append_of_mem hs;obtain ⟨_,v,_,_,h2⟩:=h.split x (s::y) rfl;obtain ⟨u,_,_,h3,_⟩:=h2.split [s] y rfl;exact ⟨u,h3⟩
theorem Der.one {s:Int} {a w:List Int} (h:g.Der (s::a) w):∃ u v,w=u++v∧g.Der [s] u∧g.Der a v:=h.split [s] a rfl
theorem Der.terms {a w:List Int} (h:g.Der a w):∀ t∈w,g.T t:=by
 induction h with
 | nil=>intro t ht;cases ht
 | term hs _ ih=>intro t ht;rcases List.mem_cons.1 ht with rfl | ht;exact hs;exact ih t ht
 | rule _ _ _ ih1 ih2=>intro t ht;rcases yC ht with ht | ht;exact ih1 t ht;exact ih2 t ht
theorem not_T_of_N {s:Int} (h:g.N s):¬g.T s:=fun k=>by unfold N at h;unfold T at k;omega
theorem Der.of_rule {A:Int} {u:List Int} (hA:g.N A):g.Der [A] u↔∃ b,(A,b)∈g.rules∧g.Der b u:=by
 constructor
 ·intro h;cases h with
  | term ht _=>exact absurd ht (not_T_of_N hA)
  | rule hr h1 h2=>cases h2;exact ⟨_,hr,by rw [List.append_nil];exact h1⟩
 ·rintro ⟨b,hr,h⟩;have:=Der.rule hr h .nil
  rwa [List.append_nil] at this
theorem Der.of_term (hk:g.Known) {s:Int} {u:List Int} (hs:g.T s):g.Der [s] u↔u=[s]:=by
 constructor
 ·intro h;cases h with
  | term _ h2=>cases h2;rfl
  | rule hr _ _=>exact absurd hs (not_T_of_N (hk.left _ hr))
 ·rintro rfl;exact .term hs .nil
def cut (g:Gm) (keep:Int×List Int→Bool):Gm:={ g with rules:=g.rules.filter keep }
theorem Known.cut (hk:g.Known) (keep:Int×List Int→Bool):(g.cut keep).Known:=
 ⟨hk.st,fun r hr=>hk.left r (List.mem_filter.1 hr).1,fun r hr=>hk.right r (List.mem_filter.1 hr).1⟩
theorem Reach.sym (hk:g.Known) {s:Int} (h:g.Reach s):g.T s∨g.N s:=by
 cases h with
 | start=>exact .inr hk.st
 | step hr _ hs=>exact hk.right _ hr _ hs
theorem Der.reach {a w:List Int} (h:g.Der a w):(∀ s∈a,g.Reach s)→∀ t∈w,g.Reach t:=by
 induction h with
 | nil=>intro _ t ht;cases ht
 | term _ _ ih=>
  intro ha t ht;rcases List.mem_cons.1 ht with rfl | ht
  ·exact ha _ (yH ..)
  ·exact ih (fun s hs=>ha s (yI _ hs)) t ht
 | rule hr _ _ ih1 ih2=>
  intro ha t ht;rcases yC ht with ht | ht
  ·exact ih1 (fun s hs=>.step hr (ha _ (yH ..)) hs) t ht
  ·exact ih2 (fun s hs=>ha s (yI _ hs)) t ht
def pos (R:List Int) (s:Int):Int:=(R.idxOf s:Int)+1
def only (g:Gm) (R:List Int):Gm where
 terms:=(R.filter fun s=>decide (g.T s)).map g.name
 nons:=(R.filter fun s=>!decide (g.T s)).map g.name
 start:=pos R g.start
 rules:=(g.rules.filter fun r=>R.contains r.1).map fun r=>(pos R r.1,r.2.map (pos R))
structure Just (g:Gm) (R:List Int):Prop where
 up:R.Pairwise (· < ·)
 iff:∀ s,s∈R↔g.Reach s
theorem oX {p:Int→Bool}:∀ {l:List Int},l.Pairwise (fun a b=>p b=true→p a=true)→l=l.filter p++l.filter (fun s=>!p s)
 | [],_=>rfl
 | x::l,h=>by
  rw [List.pairwise_cons] at h;cases hx:p x
  ·have hn:∀ y∈l,p y=false:=fun y hy=>by
    cases hy2:p y with
    | false=>rfl
    | true=>rw [h.1 y hy hy2] at hx;cases hx
   rw [List.filter_cons_of_neg (by simp [hx]),List.filter_cons_of_pos (by simp [hx]),show l.filter p=[] from List.filter_eq_nil_iff.2 fun y hy=>by simp [hn y hy],
    show l.filter (fun s=>!p s)=l from List.filter_eq_self.2 fun y hy=>by simp [hn y hy]]
   rfl
  ·rw [List.filter_cons_of_pos hx,List.filter_cons_of_neg (by simp [hx]),List.cons_append,← oX h.2]
theorem mem_T_le {s:Int} (h:g.T s∨g.N s):1≤s∧s≤(g.top:Int):=by
 unfold T N top at *;omega
section
variable {R:List Int} (hk:g.Known) (hR:g.Just R)
include hk hR
theorem Just.sym {s:Int} (h:s∈R):g.T s∨g.N s:=((hR.iff s).1 h).sym hk
theorem Just.parts:R=(R.filter fun s=>decide (g.T s))++(R.filter fun s=>!decide (g.T s)):=by
 refine oX ((List.Pairwise.imp_of_mem (fun {a b} ha hb hab=>?_) hR.up));intro h;have h1:=hR.sym hk ha;simp only [decide_eq_true_eq] at h ⊢;unfold T N at *;omega
omit hk hR in
theorem vG {s t:Int} (hs:s∈R) (ht:t∈R) (h:pos R s=pos R t):s=t:=by
 unfold pos at h;have h1:R.idxOf s=R.idxOf t:=by omega
 have h2:=List.getElem_idxOf (List.idxOf_lt_length_iff.2 hs);have h3:=List.getElem_idxOf (List.idxOf_lt_length_iff.2 ht);rw [← h2,← h3];simp [h1]
theorem Just.len:(g.only R).terms.length+(g.only R).nons.length=R.length:=by
 have h:=congrArg List.length (hR.parts hk);rw [gI] at h;simp only [only,List.length_map];omega
theorem Just.pos_T {s:Int} (hs:s∈R):(g.only R).T (pos R s)↔g.T s:=by
 have hp:=hR.parts hk;have hl:(g.only R).terms.length=(R.filter fun s=>decide (g.T s)).length:=by simp [only]
 unfold T pos;rw [hl];constructor
 ·intro h;have hlt:R.idxOf s<(R.filter fun s=>decide (g.T s)).length:=by omega
  have h2 := List.getElem_idxOf (List.idxOf_lt_length_iff.2 hs); have h3 : R[R.idxOf s]'(List.idxOf_lt_length_iff.2 hs) ∈ R.filter fun s => decide (g.T s) := by
   have:∀ (A B:List Int) (i:Nat) (h:i<R.length),R=A++B→i<A.length→R[i]∈A:=fun A B i h e hi=>by
    subst e;rw [List.getElem_append_left hi];exact gN hi
   exact this _ _ _ _ hp hlt
  rw [h2] at h3;exact of_decide_eq_true (List.mem_filter.1 h3).2
 ·intro h;have hm:s∈R.filter fun s=>decide (g.T s):=List.mem_filter.2 ⟨hs,yD h⟩;have:R.idxOf s<(R.filter fun s=>decide (g.T s)).length:=by
   have h3:R.idxOf s=(R.filter fun s=>decide (g.T s)).idxOf s:=by
    conv=>lhs;rw [hp]
    rw [List.idxOf_append,if_pos hm]
   rw [h3];exact List.idxOf_lt_length_iff.2 hm
  omega
theorem Just.pos_N {s:Int} (hs:s∈R):(g.only R).N (pos R s)↔g.N s:=by
 have h1:=hR.pos_T hk hs;have h2:=hR.sym hk hs;have h3:=hR.len hk;have h4:pos R s≤(R.length:Int):=by
  have:=List.idxOf_lt_length_iff.2 hs;unfold pos;omega
 have h5:(1:Int)≤pos R s:=by unfold pos;omega
 unfold T N top at *;omega
omit hk in
theorem Just.right {r:Int×List Int} (hr:r∈g.rules) (hl:r.1∈R):∀ s∈r.2,s∈R:=fun s hs=>(hR.iff s).2 (.step (A:=r.1) (b:=r.2) hr ((hR.iff _).1 hl) hs)
omit hk hR in
theorem fL {q:Int×List Int}:q∈(g.only R).rules↔∃ r∈g.rules,r.1∈R∧q=(pos R r.1,r.2.map (pos R)):=by
 simp only [only,List.mem_map,List.mem_filter,List.contains_iff_mem];constructor
 ·rintro ⟨r,⟨h1,h2⟩,rfl⟩;exact ⟨r,h1,h2,rfl⟩
 ·rintro ⟨r,h1,h2,rfl⟩;exact ⟨r,⟨h1,h2⟩,rfl⟩
omit hk hR in
theorem vA:∀ {a b:List Int},(∀ s∈a,s∈R)→(∀ s∈b,s∈R)→a.map (pos R)=b.map (pos R)→a=b
 | [],[],_,_,_=>rfl
 | [],_::_,_,_,h=>by simp at h
 | _::_,[],_,_,h=>by simp at h
 | x::a,y::b,ha,hb,h=>by
  rw [List.map_cons,List.map_cons] at h
  injection h with h1 h2
  rw [vG (ha x (yH ..)) (hb y (yH ..)) h1,vA (fun s hs=>ha s (yI _ hs)) (fun s hs=>hb s (yI _ hs)) h2]
theorem Just.der {a w:List Int} (h:g.Der a w):(∀ s∈a,s∈R)→(g.only R).Der (a.map (pos R)) (w.map (pos R)):=by
 induction h with
 | nil=>intro _;exact .nil
 | term hs _ ih=>
  intro ha;exact .term ((hR.pos_T hk (ha _ (yH ..))).2 hs) (ih fun s hs=>ha s (yI _ hs))
 | @rule A b a u v hr _ _ ih1 ih2=>
  intro ha;have hA:=ha A (yH ..);rw [List.map_append,List.map_cons];exact .rule (fL.2 ⟨(A,b),hr,hA,rfl⟩) (ih1 (hR.right hr hA)) (ih2 fun s hs=>ha s (yI _ hs))
theorem Just.der' {a' w':List Int} (h:(g.only R).Der a' w'):∀ a,a'=a.map (pos R)→(∀ s∈a,s∈R)→∃ w,w'=w.map (pos R)∧g.Der a w:=by
 induction h with
 | nil=>
  intro a e _;obtain rfl:=List.map_eq_nil_iff.1 e.symm;exact ⟨[],rfl,.nil⟩
 | term hs _ ih=>
  intro a e ha;cases a with
  | nil=>cases e
  | cons s a=>
   injection e with e1 e2
   subst e1;obtain ⟨w,rfl,hw⟩:=ih a e2 fun s hs=>ha s (yI _ hs);exact ⟨s::w,rfl,.term ((hR.pos_T hk (ha s (yH ..))).1 hs) hw⟩
 | rule hr _ _ ih1 ih2=>
  intro a e ha;cases a with
  | nil=>cases e
  | cons s a=>
   injection e with e1 e2
   obtain ⟨⟨A,b⟩,h1,h2,h3⟩:=fL.1 hr
   injection h3 with h3 h4
   obtain rfl:s=A:=vG (ha s (yH ..)) h2 (e1.symm.trans h3);obtain ⟨u,rfl,hu⟩:=ih1 b h4 (hR.right h1 h2);obtain ⟨v,rfl,hv⟩:=ih2 a e2 fun s hs=>ha s (yI _ hs);exact ⟨u++v,by rw [List.map_append],.rule h1 hu hv⟩
theorem Just.word {l:List Int} (hl:∀ s∈l,s∈R):g.Der [g.start] l↔(g.only R).Der [(g.only R).start] (l.map (pos R)):=by
 have hs:∀ s∈[g.start],s∈R:=fun s hs=>by rw [gV] at hs;subst hs;exact (hR.iff _).2 .start
 constructor
 ·intro h;exact hR.der hk h hs
 ·intro h;obtain ⟨w,e,hw⟩:=hR.der' hk h [g.start] rfl hs;have:=vA hl (fun s hm=>(hR.iff s).2 (hw.reach (fun s k=>(hR.iff s).1 (hs s k)) s hm)) e
  rwa [this]
theorem Just.known:(g.only R).Known where
 st:=(hR.pos_N hk ((hR.iff _).2 .start)).2 hk.st
 left r hr:=by
  obtain ⟨q,h1,h2,rfl⟩:=fL.1 hr;exact (hR.pos_N hk h2).2 (hk.left q h1)
 right r hr s hs:=by
  obtain ⟨q,h1,h2,rfl⟩:=fL.1 hr;obtain ⟨t,ht,rfl⟩:=List.mem_map.1 hs;have hm:=hR.right h1 h2 t ht;exact (hk.right q h1 t ht).imp (hR.pos_T hk hm).2 (hR.pos_N hk hm).2
omit hk in
theorem Just.reach {s:Int} (h:g.Reach s):(g.only R).Reach (pos R s):=by
 induction h with
 | start=>exact .start
 | @step A b s hr hA hs ih=>exact .step (fL.2 ⟨(A,b),hr,(hR.iff _).2 hA,rfl⟩) ih (List.mem_map.2 ⟨s,hs,rfl⟩)
theorem Just.names:(g.only R).names=R.map g.name:=by
 conv=>rhs;rw [hR.parts hk]
 rw [List.map_append];rfl
end
section
variable {R:List Int} (hk:g.Known) (hR:g.Just R) (hn:g.names.Nodup)
include hk hR hn
end
end Gm
namespace Gm
structure Wf (pt pn:List UInt8→Prop) (mt mn mr mx:Nat) (g:Gm):Prop where
 lt:g.terms.length≤mt
 ln:g.nons.length≤mn
 lr:g.rules.length≤mr
 lx:∀ r∈g.rules,r.2.length≤mx
 ft:∀ s∈g.terms,pt s
 fn:∀ s∈g.nons,pn s
 nd:g.names.Nodup
 kn:g.Known
 ul:g.rules.Nodup
 has:∀ s,g.N s→∃ r∈g.rules,r.1=s
def seg (l:List Int) (i j:Nat):List Int:=(l.drop i).take (j-i)
def Span (D:Int→Nat→Nat→Prop):List Int→Nat→Nat→Prop
 | [],i,j=>i=j
 | x::r,i,j=>∃ m,i≤m∧m≤j∧D x i m∧Span D r m j
theorem kY {l:List Int} {i j:Nat} (hij:i≤j) (hj:j≤l.length):(seg l i j).length=j-i:=by
 unfold seg;rw [yA,List.length_drop];omega
theorem qF {l:List Int} {i m j:Nat} (h1:i≤m) (h2:m≤j) (_:j≤l.length):seg l i m++seg l m j=seg l i j:=by
 unfold seg;have:l.drop m=(l.drop i).drop (m-i):=by rw [List.drop_drop];congr 1;omega
 rw [this,show j-i=(m-i)+(j-m) by omega,List.take_add]
theorem seg_one {l:List Int} {i:Nat} (h:i<l.length):seg l i (i+1)=[l[i]]:=by
 unfold seg;rw [show i+1-i=1 by omega,List.drop_eq_getElem_cons h];rfl
theorem span_sound {g:Gm} {l:List Int} {D:Int→Nat→Nat→Prop} (hD:∀ s i j,i≤j→j≤l.length→D s i j→g.Der [s] (seg l i j)):∀ (a:List Int) (i j:Nat),i≤j→j≤l.length→Span D a i j→g.Der a (seg l i j)
 | [],_,_,_,_,h=>by
  obtain rfl:=(show _=_ from h);unfold seg;rw [Nat.sub_self,List.take_zero];exact .nil
 | x::r,i,j,hij,hj,⟨m,h1,h2,h3,h4⟩=>have _:=hij;qF h1 h2 hj▸(hD x i m h1 (gP h2 hj) h3).app (span_sound hD r m j h2 hj h4)
theorem span_complete {g:Gm} {l:List Int} {D:Int→Nat→Nat→Prop} (h0:∀ (i:Nat) (h:i<l.length),g.T l[i]→D l[i] i (i+1))
  (hc:∀ r∈g.rules,∀ i j,i≤j→j≤l.length→Span D r.2 i j→D r.1 i j) {a w:List Int} (h:g.Der a w):∀ i j,i≤j→j≤l.length→seg l i j=w→Span D a i j:=by
 induction h with
 | nil=>
  intro i j hij hj e;have:=kY hij hj;rw [e] at this;simp at this;show i=j;omega
 | @term s a w hs _ ih=>
  intro i j hij hj e;have hl:=kY hij hj;rw [e,gG] at hl;have hi:i<l.length:=by omega
  have h1:=qF (l:=l) (i:=i) (m:=i+1) (j:=j) (by omega) (by omega) hj;rw [e,seg_one hi] at h1
  injection h1 with h1 h2
  subst h1;exact ⟨i+1,by omega,by omega,h0 i hi hs,ih _ _ (by omega) hj h2⟩
 | @rule A b a u v hr _ _ ih1 ih2=>
  intro i j hij hj e;have hl:=kY hij hj;rw [e,gI] at hl;have h1:=qF (l:=l) (i:=i) (m:=i+u.length) (j:=j) (by omega) (by omega) hj;rw [e] at h1;have h2:=List.append_inj h1 (by rw [kY (by omega) (by omega)];omega);exact ⟨i+u.length,by omega,by omega,hc _ hr _ _ (by omega) (by omega) (ih1 _ _ (by omega) (by omega) h2.1),ih2 _ _ (by omega) hj h2.2⟩
end Gm
namespace Gm
def Prod (g:Gm) (s:Int):Prop:=∃ w,g.Der [s] w
def Fine (g:Gm) (r:Int×List Int):Prop:=∀ s∈r.2,g.N s→g.Prod s
noncomputable def keep (g:Gm) (r:Int×List Int):Bool:=@decide (g.Fine r) (Classical.propDecidable _)
end Gm
open Go.RowKit
section
variable {P:Program}
theorem aN {id:Nat} {Q:Exit→Act→World→Prop} {a:Act} {w:World} {l:List Oper} {S:Type} (f:S→World) (hm:P.follows .mixedOrders=true) (hB:Region.lexB .any l.toArray=true)
  (hC:∃ x,w.drew=f x) (h:wpQuiet P l.toArray (fun w'=>∃ x,w'=f x) (fun a'=>∀ w',(∃ x,w'=f x)→Q .normal a' w') l a):(Code.region id l.toArray true).wp P Q a w:=
 wp_region_quiet (C:=fun w'=>∃ x,w'=f x) hm hB hC (by simpa using h)
end
def Gr (w:World):Type:={ w':World // Below w.heap.size w w' }
def Gr.at_ {w:World} (x:Gr w):World:=x.1
theorem i1 {w:World} {p:Addr} {v:Value} (h:w.cell? p=some v):p.block<w.heap.size:=by
 unfold World.cell? at h
 split at h
 ·rename_i hc;exact (gL hc).1
 ·exact absurd h (by simp)
theorem Gr.cell {w:World} (x:Gr w) (p:Addr) (v:Value) (h:w.cell? p=some v):x.at_.cell? p=some v:=by
 rw [← h];exact gM (x.2.block _ (i1 h))
theorem Gr.drew (w:World):∃ x:Gr w,w.drew=x.at_:=⟨⟨w.drew,(gR _ _).drew⟩,rfl⟩
theorem Gr.calls {P:Program} {f:FuncId} {args:Array Value} {w:World} (x:Gr w) {v:Value}
  (h:Calls P f args x.at_ fun e w'=>e=.returned v∧Below x.at_.heap.size x.at_ w'):Calls P f args x.at_ fun e w'=>e=.returned v∧∃ y:Gr w,w'=y.at_:=
 h.mono fun _ w' ⟨he,hb⟩=>⟨he,⟨⟨w',x.2.trans ⟨hb.os,hb.tape,hb.output,hb.size,fun k hk=>hb.block k (gK hk x.2.size)⟩⟩,rfl⟩⟩
def WrA (P:Program) (ts:Array TypeId) (ty:TypeId) (vs:Array Value) (w:World):Result Value:=(Builtin.append_ ts ty vs).run P w
theorem aI {P:Program} {d:Option Tmp} {s x:Operand} {t t' ty:TypeId} {pos:String} {af:Array Edge} {g:Option (Nat×Bool)} {a:Act} {w:World} {K:Act→World→Prop} {Q:Exit→Act→World→Prop}:
  Oper.wp P ⟨d,.call ⟨.builtin .append,#[s,x],#[t,t']⟩,ty,pos,af,g⟩ a w K Q=
   Oper.upon P ⟨d,.call ⟨.builtin .append,#[s,x],#[t,t']⟩,ty,pos,af,g⟩ a K Q ((WrA P #[t,t'] ty #[a.eval s,a.eval x] w).andThen fun v w'=>.ok (.value v) w'):=by
 unfold Oper.wp execOp WrA;simp only [resolve,invoke,builtin,Sem.run_bind,Sem.run_pure,Result.andThen_ok,List.map_toArray,List.map_cons,List.map_nil]
theorem WrA.of {P:Program} {ts:Array TypeId} {ty:TypeId} {vs:Array Value} {w w':World} {v:Value} (h:(Builtin.append_ ts ty vs).run P w=.ok v w'):WrA P ts ty vs w=.ok v w':=h
def nC {α β:Type} (R:α→β→Prop):List α→List β→Prop
 | [],[]=>True
 | a::l,b::m=>R a b∧nC R l m
 | _,_=>False
namespace nC
variable {α β:Type} {R S:α→β→Prop}
theorem len:∀ {l:List α} {m:List β},nC R l m→l.length=m.length
 | [],[],_=>rfl
 | _::_,_::_,h=>by simp [len h.2]
 | [],_::_,h=>h.elim
 | _::_,[],h=>h.elim
theorem mono (hRS:∀ a b,R a b→S a b):∀ {l:List α} {m:List β},nC R l m→nC S l m
 | [],[],_=>trivial
 | _::_,_::_,h=>⟨hRS _ _ h.1,mono hRS h.2⟩
 | [],_::_,h=>h.elim
 | _::_,[],h=>h.elim
theorem get:∀ {l:List α} {m:List β} (_:nC R l m) (i:Nat) (h1:i<l.length) (h2:i<m.length),R l[i] m[i]
 | _::_,_::_,h,0,_,_=>h.1
 | _::_,_::_,h,i+1,h1,h2=>get h.2 i (by simpa using h1) (by simpa using h2)
 | [],_,_,_,h1,_=>by simp at h1
 | _::_,[],h,_,_,_=>h.elim
end nC
def Old (w:World) (k:Nat):Prop:=k<w.heap.size
theorem aC (w:World) (o:Obj):(w.alloc o).heap[w.heap.size]? = some o:=Array.getElem?_push_size
def ag (vs:List Value):Value:=.agg vs.toArray
def aH {β:Type} (G:Nat→Prop) (w:World) (sz:Nat) (R:List Value→β→Prop) (v:Value) (xs:List β):Prop:=
 ∃ A c,v=.slice A xs.length c∧xs.length≤c∧c≤maxLen∧(0<xs.length→∃ b off,A=some ⟨b,off,none⟩∧G b∧
  ∀ i (h:i<xs.length),∃ vs:List Value,vs.length=sz∧R vs xs[i]∧∀ j u,vs[j]? = some u→w.cell? ⟨b,off+i*sz+j,none⟩=some u)
theorem aH.keep {β:Type} {G G':Nat→Prop} {w w':World} {sz:Nat} {R R':List Value→β→Prop} {v:Value} {xs:List β} (h:aH G w sz R v xs) (hG:∀ k,G k→G' k) (hk:∀ p:Addr,G p.block→w'.cell? p=w.cell? p) (hR:∀ vs x,R vs x→R' vs x):aH G' w' sz R' v xs:=by
 obtain ⟨A,c,h1,h2,h3,h4⟩:=h;refine ⟨A,c,h1,h2,h3,fun hn=>?_⟩;obtain ⟨b,off,h5,h6,h7⟩:=h4 hn;refine ⟨b,off,h5,hG _ h6,fun i hi=>?_⟩;obtain ⟨vs,h8,h9,h10⟩:=h7 i hi;exact ⟨vs,h8,hR _ _ h9,fun j u hj=>(hk _ h6).trans (h10 j u hj)⟩
def cF (vs:List Value) (n:Int):Prop:=vs=[.int .i64 n]
theorem aH.shape {β:Type} {G:Nat→Prop} {w:World} {sz:Nat} {R:List Value→β→Prop} {v:Value} {xs:List β} (h:aH G w sz R v xs):∃ A c,v=.slice A xs.length c∧xs.length≤c∧c≤maxLen:=by
 obtain ⟨A,c,h1,h2,h3,_⟩:=h;exact ⟨A,c,h1,h2,h3⟩
theorem aH.nil0 {β:Type} {G:Nat→Prop} {w:World} {sz:Nat} {R:List Value→β→Prop}:aH G w sz R (.slice none 0 0) []:=⟨none,0,rfl,gO _,gX _,fun h=>absurd h (Nat.lt_irrefl 0)⟩
theorem aH.cell1 {β:Type} {G:Nat→Prop} {w:World} {R:List Value→β→Prop} {A:Option Addr} {n c:Nat} {xs:List β} (h:aH G w 1 R (.slice A n c) xs) {k:Nat} (hk:k<xs.length):
  ∃ b off u,A=some ⟨b,off,none⟩∧G b∧R [u] xs[k]∧w.cell? ⟨b,off+k,none⟩=some u:=by
 obtain ⟨A',c',e,_,_,h4⟩:=h
 injection e with e1 _ _
 subst e1;obtain ⟨b,off,rfl,hg,h5⟩:=h4 (by omega);obtain ⟨vs,h6,h7,h8⟩:=h5 k hk
 match vs,h6 with
 | [u],_=>exact ⟨b,off,u,rfl,hg,h7,by simpa using h8 0 u rfl⟩
def iT (vs:List Value) (s:List UInt8):Prop:=vs=[bs s]
section
variable (G:Nat→Prop) (w:World)
def aF (v:Value) (l:List Int):Prop:=aH G w 1 cF v l
def aW (v:Value) (l:List (List UInt8)):Prop:=aH G w 1 iT v l
def RuV (vs:List Value) (r:Int×List Int):Prop:=∃ v,vs=[.int .i64 r.1,v]∧aH G w 1 cF v r.2
def cD (v:Value) (l:List (Int×List Int)):Prop:=aH G w 2 (RuV G w) v l
def GmV (vs:List Value) (g:Gm):Prop:=∃ vt vn vr,vs=[vt,vn,vr,.int .i64 g.start]∧aW G w vt g.terms∧aW G w vn g.nons∧cD G w vr g.rules
end
section
variable {G G':Nat→Prop} {w w':World} (hG:∀ k,G k→G' k) (hk:∀ p:Addr,G p.block→w'.cell? p=w.cell? p)
include hG hk
theorem aF.keep {v:Value} {l:List Int} (h:aF G w v l):aF G' w' v l:=aH.keep h hG hk fun _ _ h=>h
theorem aW.keep {v:Value} {l:List (List UInt8)} (h:aW G w v l):aW G' w' v l:=aH.keep h hG hk fun _ _ h=>h
theorem RuV.keep {vs:List Value} {r:Int×List Int} (h:RuV G w vs r):RuV G' w' vs r:=by
 obtain ⟨v,h1,h2⟩:=h;exact ⟨v,h1,h2.keep hG hk fun _ _ h=>h⟩
theorem cD.keep {v:Value} {l:List (Int×List Int)} (h:cD G w v l):cD G' w' v l:=aH.keep h hG hk fun _ _ h=>h.keep hG hk
theorem GmV.keep {vs:List Value} {g:Gm} (h:GmV G w vs g):GmV G' w' vs g:=by
 obtain ⟨vt,vn,vr,h1,h2,h3,h4⟩:=h;exact ⟨vt,vn,vr,h1,h2.keep hG hk,h3.keep hG hk,h4.keep hG hk⟩
end
theorem cI {G:Nat→Prop} {w w':World} (hG:∀ k,G k→k<w.heap.size) (hb:Below w.heap.size w w'):∀ p:Addr,G p.block→w'.cell? p=w.cell? p:=fun _ hp=>gM (hb.block _ (hG _ hp))
theorem bN {G:Nat→Prop} {w w':World} (hG:∀ k,G k→k<w.heap.size) (hb:Below w.heap.size w w'):∀ k,G k→k<w'.heap.size:=fun k hk=>gK (hG k hk) hb.size
section
variable {G:Nat→Prop} {w w':World} (hG:∀ k,G k→k<w.heap.size) (hb:Below w.heap.size w w')
include hG hb
theorem aF.below {v:Value} {l:List Int} (h:aF G w v l):aF G w' v l:=h.keep (fun _ h=>h) (cI hG hb)
theorem aW.below {v:Value} {l:List (List UInt8)} (h:aW G w v l):aW G w' v l:=h.keep (fun _ h=>h) (cI hG hb)
theorem RuV.below {vs:List Value} {r:Int×List Int} (h:RuV G w vs r):RuV G w' vs r:=h.keep (fun _ h=>h) (cI hG hb)
theorem cD.below {v:Value} {l:List (Int×List Int)} (h:cD G w v l):cD G w' v l:=h.keep (fun _ h=>h) (cI hG hb)
theorem GmV.below {vs:List Value} {g:Gm} (h:GmV G w vs g):GmV G w' vs g:=h.keep (fun _ h=>h) (cI hG hb)
end
theorem RuV.shape {G:Nat→Prop} {w:World} {vs:List Value} {r:Int×List Int} (h:RuV G w vs r):∃ A c,vs=[.int .i64 r.1,.slice A r.2.length c]∧r.2.length≤c∧c≤maxLen:=by
 obtain ⟨v,rfl,h2⟩:=h;obtain ⟨A,c,rfl,h3,h4⟩:=h2.shape;exact ⟨A,c,rfl,h3,h4⟩
theorem GmV.shape {G:Nat→Prop} {w:World} {vs:List Value} {g:Gm} (h:GmV G w vs g):∃ A0 c0 A1 c1 A2 c2,vs=[.slice A0 g.terms.length c0,.slice A1 g.nons.length c1,.slice A2 g.rules.length c2,.int .i64 g.start]∧
  aW G w (.slice A0 g.terms.length c0) g.terms∧aW G w (.slice A1 g.nons.length c1) g.nons∧cD G w (.slice A2 g.rules.length c2) g.rules:=by
 obtain ⟨vt,vn,vr,rfl,h2,h3,h4⟩:=h;obtain ⟨A0,c0,rfl,_⟩:=aH.shape h2;obtain ⟨A1,c1,rfl,_⟩:=aH.shape h3;obtain ⟨A2,c2,rfl,_⟩:=aH.shape h4;exact ⟨A0,c0,A1,c1,A2,c2,rfl,h2,h3,h4⟩
def cZ {β:Type} (sz:Nat) (R:List Value→β→Prop):List (List Value)→List β→Prop:=nC fun vs x=>vs.length=sz∧R vs x
section
variable {β:Type} {sz:Nat} {R:List Value→β→Prop}
theorem cZ.len:∀ {us:List (List Value)} {xs:List β},cZ sz R us xs→us.flatten.length=xs.length*sz
 | [],[],_=>by simp
 | [],_::_,h=>h.elim
 | _::_,[],h=>h.elim
 | vs::us,x::xs,h=>by
  have:=cZ.len (us:=us) (xs:=xs) h.2;rw [List.flatten_cons,gI,this,h.1.1,gG,Nat.add_mul];omega
theorem cZ.app:∀ {us:List (List Value)} {xs:List β} {ts:List (List Value)} {ys:List β},cZ sz R us xs→cZ sz R ts ys→cZ sz R (us++ts) (xs++ys)
 | [],[],_,_,_,k=>k
 | [],_::_,_,_,h,_=>h.elim
 | _::_,[],_,_,h,_=>h.elim
 | _::_,_::_,_,_,h,k=>⟨h.1,cZ.app h.2 k⟩
theorem cZ.get:∀ {us:List (List Value)} {xs:List β},cZ sz R us xs→∀ i (h:i<xs.length),∃ vs,vs.length=sz∧R vs xs[i]∧∀ j u,vs[j]? = some u→us.flatten[i*sz+j]? = some u
 | [],[],_,i,h=>absurd h (yJ i)
 | [],_::_,h,_,_=>h.elim
 | _::_,[],h,_,_=>h.elim
 | vs::us,x::xs,h,0,_=>⟨vs,h.1.1,h.1.2,fun j u hj=>by
   have hl:=(gY hj).1;rw [Nat.zero_mul,Nat.zero_add,List.flatten_cons,List.getElem?_append_left hl];exact hj⟩
 | vs::us,x::xs,h,i+1,hi=>by
  obtain ⟨ts,h1,h2,h3⟩:=cZ.get h.2 i (by simpa using hi);refine ⟨ts,h1,by simpa using h2,fun j u hj=>?_⟩;have e:=h.1.1;rw [List.flatten_cons,List.getElem?_append_right (by rw [Nat.add_mul];omega),show (i+1)*sz+j-vs.length=i*sz+j by rw [Nat.add_mul];omega];exact h3 j u hj
theorem cZ.all {P:Value→Prop} (hP:∀ vs x,R vs x→∀ u∈vs,P u):∀ {us:List (List Value)} {xs:List β},cZ sz R us xs→∀ u∈us.flatten,P u
 | [],[],_,u,hu=>by simp at hu
 | [],_::_,h,_,_=>h.elim
 | _::_,[],h,_,_=>h.elim
 | vs::us,x::xs,h,u,hu=>by
  rw [List.flatten_cons,List.mem_append] at hu;rcases hu with hu | hu
  ·exact hP _ _ h.1.2 u hu
  ·exact cZ.all hP h.2 u hu
theorem uT {w:World} {b:Nat}:∀ (xs:List β) (off:Nat),(∀ i (h:i<xs.length),∃ vs:List Value,vs.length=sz∧R vs xs[i]∧∀ j u,vs[j]? = some u→w.cell? ⟨b,off+i*sz+j,none⟩=some u)→
  ∃ us,cZ sz R us xs∧∀ j u,us.flatten[j]? = some u→w.cell? ⟨b,off+j,none⟩=some u
 | [],off,_=>⟨[],trivial,fun j u h=>by simp at h⟩
 | x::xs,off,h=>by
  obtain ⟨vs,h1,h2,h3⟩:=h 0 (by simp);obtain ⟨us,k1,k2⟩:=uT xs (off+sz) fun i hi=>by
   obtain ⟨ts,t1,t2,t3⟩:=h (i+1) (by simpa using hi);refine ⟨ts,t1,by simpa using t2,fun j u hj=>?_⟩;rw [show off+sz+i*sz+j=off+(i+1)*sz+j by rw [Nat.add_mul];omega];exact t3 j u hj
  refine ⟨vs::us,⟨⟨h1,by simpa using h2⟩,k1⟩,fun j u hj=>?_⟩;rw [List.flatten_cons] at hj;by_cases hl:j<vs.length
  ·rw [List.getElem?_append_left hl] at hj;have:=h3 j u hj;rw [Nat.zero_mul,Nat.add_zero] at this;exact this
  ·rw [List.getElem?_append_right (by omega)] at hj;have:=k2 _ u hj;rw [show off+sz+(j-vs.length)=off+j by omega] at this;exact this
theorem aH.flat {G:Nat→Prop} {w:World} {v:Value} {xs:List β} (h:aH G w sz R v xs):
  ∃ us,cZ sz R us xs∧∃ A c,v=.slice A xs.length c∧xs.length≤c∧c≤maxLen∧(0<xs.length→∃ b off,A=some ⟨b,off,none⟩∧G b∧∀ j u,us.flatten[j]? = some u→w.cell? ⟨b,off+j,none⟩=some u):=by
 obtain ⟨A,c,h1,h2,h3,h4⟩:=h;by_cases hn:0<xs.length
 ·obtain ⟨b,off,h5,h6,h7⟩:=h4 hn;obtain ⟨us,k1,k2⟩:=uT xs off h7;exact ⟨us,k1,A,c,h1,h2,h3,fun _=>⟨b,off,h5,h6,k2⟩⟩
 ·obtain rfl:xs=[]:=yM (by omega);exact ⟨[],trivial,A,c,h1,h2,h3,fun h=>absurd h hn⟩
end
def aG {β:Type} (B:Nat) (T:TypeId) (sz:Nat) (R:List Value→β→Prop) (w:World) (v:Value) (xs:List β):Prop:=∃ us,cZ sz R us xs∧w.ownsRow B T sz v xs.length us.flatten
section
variable {β:Type} {B:Nat} {T:TypeId} {sz:Nat} {R:List Value→β→Prop} {w w':World} {v:Value} {xs ys:List β}
theorem aG.look (h:aG B T sz R w v xs) {G:Nat→Prop} (hG:∀ g,v.ownBlock=some g→G g):aH G w sz R v xs:=by
 obtain ⟨us,hf,_,ho⟩:=h;rcases ho with ⟨rfl,hn⟩ | ⟨g,cap,cur,rfl,hB,hh,hc,hm,hcs,htake⟩
 ·exact ⟨none,0,by rw [hn],by omega,gX _,fun h=>by omega⟩
 ·refine ⟨some ⟨g,0,none⟩,cap,rfl,hc,hm,fun _=>⟨g,0,rfl,hG g rfl,fun i hi=>?_⟩⟩;obtain ⟨vs,h1,h2,h3⟩:=hf.get i hi;refine ⟨vs,h1,h2,fun j u hj=>?_⟩;have h4:=h3 j u hj;rw [← htake] at h4;have h5:i*sz+j<xs.length*sz:=by
   have:=(gY h4).1;rw [yA] at this;omega
  rw [List.getElem?_take_of_lt h5] at h4;rw [Nat.zero_add];simp only [World.cell?,hh]
  simpa using h4
theorem aG.shape (h:aG B T sz R w v xs):∃ A c,v=.slice A xs.length c∧xs.length≤c∧c≤maxLen:=(h.look (G:=fun _=>True) fun _ _=>trivial).shape
theorem aG.lt (h:aG B T sz R w v xs) {g:Nat} (hg:v.ownBlock=some g):B≤g∧g<w.heap.size:=by
 obtain ⟨us,hf,_,ho⟩:=h;rcases ho with ⟨rfl,_⟩ | ⟨g',cap,cur,rfl,hB,hh,_⟩
 ·simp [Value.ownBlock] at hg
 ·simp [Value.ownBlock] at hg;subst hg;exact ⟨hB,(gL hh).1⟩
theorem aG.keep (h:aG B T sz R w v xs) (hv:∀ g,v.ownBlock=some g→w'.heap[g]? = w.heap[g]?):aG B T sz R w' v xs:=by
 obtain ⟨us,hf,hl,ho⟩:=h;refine ⟨us,hf,hl, ?_⟩;rcases ho with h0 | ⟨g,cap,cur,rfl,hB,hh,hrest⟩
 ·exact .inl h0
 ·exact .inr ⟨g,cap,cur,rfl,hB,(hv g rfl).trans hh,hrest⟩
theorem aG.below (h:aG B T sz R w v xs) (hb:Below w.heap.size w w'):aG B T sz R w' v xs:=h.keep fun _ hg=>hb.block _ (h.lt hg).2
theorem aG.fresh (w:World) (hB:B≤w.heap.size) (Rr:List Value→β→Prop):aG B T sz Rr (w.alloc (.cells #[] T)) (.slice (some ⟨w.heap.size,0,none⟩) 0 0) []:=
 ⟨[],trivial,by simp,.inr ⟨w.heap.size,0,#[],rfl,hB,aC w _,gO _,gX _,by simp,by simp⟩⟩
theorem aG.started {g:Nat} (hB:B≤g) (hh:w.heap[g]? = some (.cells #[] T (0,0))) (Rr:List Value→β→Prop):aG B T sz Rr w (.slice (some ⟨g,0,none⟩) 0 0) []:=
 ⟨[],trivial,by simp,.inr ⟨g,0,#[],rfl,hB,hh,gO _,gX _,by simp,by simp⟩⟩
theorem aG.append (t:TypeId) {z:Value} {bytes:Nat} (hu:Tryz.prog.underlying t=some (.slice T)) (hi:(Tryz.prog.info? T).map (fun i=>(i.zero,i.size,i.bytes))=some (some z,sz,bytes)) (hzs:z.cells.size=sz) (hsz:0<sz)
  (hone:∀ vs x,R vs x→∀ u∈vs,u.oneCell'=true) (ty:TypeId) {G:Nat→Prop} {v2:Value} (h:aG B T sz R w v xs) (hx:aH G w sz R v2 ys) (hlen:(xs.length+ys.length)*bytes≤140737488355328) (hmx:xs.length+ys.length≤maxLen) (hB:B≤w.heap.size):
  ∃ v' w',WrA Tryz.prog #[t,t] ty #[v,v2] w=.ok v' w'∧aG B T sz R w' v' (xs++ys)∧w.grownBy w' v.ownBlock∧(v'.ownBlock=v.ownBlock∨v'.ownBlock=some w.heap.size):=by
 obtain ⟨i0,hi0,hz0,hz1,hz2⟩:=info_parts hi;obtain ⟨ts,hf2,A,c,rfl,hc,hm,hcell⟩:=hx.flat;by_cases hz:ys.length=0
 ·obtain rfl:ys=[]:=yM hz;obtain ⟨A1,c1,rfl,hl1,hm1⟩:=h.shape;refine ⟨_,w,WrA.of (run_append_nothing w _ _ _ _ i0 hu hi0 A1 xs.length c1 hl1 _ ?_),by rw [List.append_nil];exact h,⟨rfl,rfl,rfl,gO _,fun _ _ _=>rfl⟩,.inl rfl⟩;cases A with
  | none=>exact Src.ofNil w hu c
  | some a=>exact Src.ofSlice w hu a 0 c [] (by simp) (fun j u hj=>by simp at hj) (fun u hu=>by cases hu)
 ·obtain ⟨b,off,rfl,_,hcl⟩:=hcell (by omega);obtain ⟨us,hf,hown⟩:=h;obtain ⟨v',w',hrun,hown',hgr,hnil,hat⟩:=run_append_own_at (P:=Tryz.prog) (w:=w) B t ty _ i0 _ sz bytes hu hi0 hz0 hz1 hz2 hzs hsz v xs.length us.flatten hown ⟨b,off,none⟩ ys.length c ts.flatten hf2.len
   (fun j u hj=>by rw [show (⟨b,off,none⟩:Addr).add j=⟨b,off+j,none⟩ by unfold Addr.add;split <;> simp_all];exact hcl j u hj) (cZ.all hone hf2) hmx hlen hB
  refine ⟨v',w',WrA.of hrun,⟨us++ts,hf.app hf2, ?_⟩,hgr,hat⟩;rw [gI,List.flatten_append];exact hown'
end
theorem cB:(Tryz.prog.info? 3).map (fun i=>(i.zero,i.size,i.bytes))=some (some (.int .i64 0),1,8):=by kernel_rfl
theorem fT:(Tryz.prog.info? 9).map (fun i=>(i.zero,i.size,i.bytes))=some (some (.string ⟨#[]⟩),1,16):=by kernel_rfl
theorem BS:(Tryz.prog.info? 64).map (fun i=>(i.zero,i.size,i.bytes))=some (some (.agg #[.int .i64 0,.slice none 0 0]),2,32):=by kernel_rfl
theorem cF.one:∀ (vs:List Value) (x:Int),cF vs x→∀ u∈vs,u.oneCell'=true:=by
 rintro vs x rfl u hu;simp only [List.mem_cons,List.not_mem_nil,or_false] at hu;subst hu;rfl
theorem iT.one:∀ (vs:List Value) (x:List UInt8),iT vs x→∀ u∈vs,u.oneCell'=true:=by
 rintro vs x rfl u hu;simp only [List.mem_cons,List.not_mem_nil,or_false] at hu;subst hu;rfl
theorem RuV.one {G:Nat→Prop} {w:World}:∀ (vs:List Value) (x:Int×List Int),RuV G w vs x→∀ u∈vs,u.oneCell'=true:=by
 intro vs x h u hu;obtain ⟨A,c,rfl,_⟩:=h.shape;simp only [List.mem_cons,List.not_mem_nil,or_false] at hu;rcases hu with rfl | rfl <;> rfl
def bM (fn:Nat):Prop:=∀ (args:Array Value) (w:World),(callFunc fn args).run Tryz.prog w=.ok (.enter fn args) w
def iE {β:Type} (R:World→List Value→β→Prop) (arg:List Value→Value) (w:World) (fn:Nat) (cap:Array Value) (p:β→Bool):Prop:=
 ∀ X,Below w.heap.size w X→∀ vs x,R X vs x→Calls Tryz.prog fn (#[arg vs]++cap) X fun e w'=>e=.returned (.bool (p x))∧Below X.heap.size X w'
theorem iE.on {β:Type} {R:World→List Value→β→Prop} {arg:List Value→Value} {w w':World} {fn:Nat} {cap:Array Value} {p:β→Bool} (h:iE R arg w fn cap p) (hb:Below w.heap.size w w'):iE R arg w' fn cap p:=
 fun X hX vs x hr=>h X (hb.trans (hX.mono hb.size)) vs x hr
def one (vs:List Value):Value:=vs.headD (.bool false)
def jQ (_:World):List Value→Int→Prop:=cF
theorem jQ.below {G:Nat→Prop} {w w':World} {vs:List Value} {x:Int} (_:∀ k,G k→k<w.heap.size) (_:Below w.heap.size w w') (h:jQ w vs x):jQ w' vs x:=h
def iS (Q:List UInt8→Prop) (_:World) (vs:List Value) (x:List UInt8):Prop:=iT vs x∧Q x
theorem iS.below {Q:List UInt8→Prop} {G:Nat→Prop} {w w':World} {vs:List Value} {x:List UInt8} (_:∀ k,G k→k<w.heap.size) (_:Below w.heap.size w w') (h:iS Q w vs x):iS Q w' vs x:=h
theorem aW.with {Q:List UInt8→Prop} {G:Nat→Prop} {w:World} {v:Value} {l:List (List UInt8)} (h:aW G w v l) (hQ:∀ s∈l,Q s):aH G w 1 (iS Q w) v l:=by
 obtain ⟨A,c,h1,h2,h3,h4⟩:=h;refine ⟨A,c,h1,h2,h3,fun hn=>?_⟩;obtain ⟨b,off,h5,h6,h7⟩:=h4 hn;refine ⟨b,off,h5,h6,fun i hi=>?_⟩;obtain ⟨vs,k1,k2,k3⟩:=h7 i hi;exact ⟨vs,k1,⟨k2,hQ _ (gN hi)⟩,k3⟩
theorem lL {Y:World} {b:Nat} {T:TypeId} {v0:Value} (h:Y.heap[b]? = some (.cells #[v0] T (0,0))):Y.cell? ⟨b,0,none⟩=some v0:=by simp [World.cell?,h]
def fidx {β:Type} (p:β→Bool):List β→Nat→Int
 | [],_=>-1
 | x::l,k=>if p x then (k:Int) else fidx p l (k+1)
theorem fJ {β:Type} (p:β→Bool):∀ (l:List β) (k:Nat),decide (0≤fidx p l k)=l.any p
 | [],_=>rfl
 | x::l,k=>by
  rw [List.any_cons,fidx];cases hx:p x
  ·rw [if_neg (by decide),Bool.false_or];exact fJ p l (k+1)
  ·rw [if_pos rfl,Bool.true_or];exact yD (by omega)
theorem bD {β:Type} (xs:List β) (k:Nat) (h:k<xs.length):xs.drop k=xs[k]::xs.drop (k+1):=List.drop_eq_getElem_cons h
theorem xB (Q:List UInt8→Prop) (G:Nat→Prop) (fn:Nat) (cap:Array Value) (p:List UInt8→Bool) (v:Value) (xs:List (List UInt8)) (w:World) (hG:∀ k,G k→k<w.heap.size) (hs:aH G w 1 (iS Q w) v xs) (hent:bM fn) (hst:iE (iS Q) one w fn cap p):
  Calls Tryz.prog 210 #[v,.func (.func fn) #[] cap] w fun e w'=>e=.returned (.int .i64 (fidx p xs 0))∧Below w.heap.size w w':=by
 obtain ⟨A,c,rfl,hl,hm,hc⟩:=hs;unfold maxLen at hm;obtain ⟨HC,HG,HE,HST⟩:=Zh4 hc hG hent hst;clear hc hG hent hst;go_enter Tryz.func210,Tryz.ntmps210;go_wp2
 go_loopw [8] (fun i wr=>∃ (k:Nat),k≤xs.length∧i=.int .i64 k∧fidx p (xs.drop k) k=fidx p xs 0∧Below w.heap.size w wr) (fun i _=>xs.length-(intOf i).toNat)
 case atStart=>exact ⟨0,by omega,rfl,rfl,gR _ _⟩
 case round=>
  obtain ⟨k,hk,rfl,hf,hb⟩:=hrel;have HF:=Ha hf;have HB:=Ha hb;clear hf hb;by_cases hlt:k<xs.length
  ·obtain ⟨b,off,rfl,hg,hel⟩:=HC.out (by omega);obtain ⟨vs,hvl,hR,hcell⟩:=hel k hlt;have hR':=iS.below HG.out HB.out hR;have HR:=Ha hR';obtain ⟨rfl,_⟩:=hR';have z:=fun j u hj=>(cI HG.out HB.out _ hg).trans (hcell j u hj);have c0:wr.cell? ⟨b,off+k,none⟩=some (bs xs[k]):=by simpa using z 0 _ rfl
   clear z hel hcell hvl hR hg;go_wp2_with fail;rw [HE.out,Oper.upon_enter];refine (HST.out _ HB.out _ _ HR.out).mono ?_;rintro e w1 ⟨he,hb1⟩;have HB1:=Ha (HB.out.trans (hb1.mono HB.out.size));clear hb1 c0;cases hq:p xs[k]
   ·rw [hq] at he;subst he;have HQ:=Ha hq;clear hq;go_wp2_with fail
    go_roundw
    case rel=>
     refine ⟨k+1,by omega,by go_num, ?_,HB1.out⟩;have h:=HF.out;rw [bD xs k hlt,fidx,if_neg (by rw [HQ.out];decide)] at h;exact h
    case measure=>simp only [intOf];omega
   ·rw [hq] at he;subst he;have HQ:=Ha hq;clear hq;go_wp2_with fail;go_ret;have h:=HF.out;rw [bD xs k hlt,fidx,if_pos HQ.out] at h;exact ⟨bG h,HB1.out⟩
  ·have HD:=Ha (List.drop_eq_nil_of_le (show xs.length≤k by omega));go_wp2_with fail;go_ret;have h:=HF.out;rw [HD.out,fidx] at h;exact ⟨bG h,HB.out⟩
theorem pF (Q:List UInt8→Prop) (G:Nat→Prop) (fn:Nat) (cap:Array Value) (p:List UInt8→Bool) (v:Value) (xs:List (List UInt8)) (w:World) (hG:∀ k,G k→k<w.heap.size) (hs:aH G w 1 (iS Q w) v xs) (hent:bM fn) (hst:iE (iS Q) one w fn cap p):
  Calls Tryz.prog 142 #[v,.func (.func fn) #[] cap] w fun e w'=>e=.returned (.bool (xs.any p))∧Below w.heap.size w w':=by
 have HX:=Ha (xB Q G fn cap p v xs w hG hs hent hst);have HQ:=Ha (fJ p xs 0);generalize fidx p xs 0=r at HX HQ;clear hG hs hent hst;go_enter Tryz.func142,Tryz.ntmps142;go_wp2_with fail;refine HX.out.mono ?_;rintro e w1 ⟨rfl,hb⟩;go_wp2_with fail;go_ret;exact ⟨aJ HQ.out,hb⟩
theorem nH:bM 143:=fun args w=>by simp [callFunc,go_sem,Tryz.func143,Tryz.f143]
theorem zL (Q:List UInt8→Prop) (fn:Nat) (cap:Array Value) (p:List UInt8→Bool) (X:World) (bo:Nat) (hent:bM fn) (hst:iE (iS Q) one X fn cap p)
  (hc:X.cell? ⟨bo,0,none⟩=some (.func (.func fn) #[] cap)) (vs:List Value) (x:List UInt8) (hr:iS Q X vs x):
  Calls Tryz.prog 143 (#[one vs]++#[.pointer (some ⟨bo,0,none⟩)]) X fun e w'=>e=.returned (.bool (!p x))∧Below X.heap.size X w':=by
 have HX:=Ha (hst X (gR _ _) _ _ hr);obtain ⟨rfl,_⟩:=hr;have HE:=Ha hent;clear hent hst;show Calls Tryz.prog 143 #[bs x,.pointer (some ⟨bo,0,none⟩)] X _;go_enter Tryz.func143,Tryz.ntmps143;go_wp2_with fail;rw [HE.out,Oper.upon_enter];refine HX.out.mono ?_;rintro e w1 ⟨rfl,hb1⟩;go_wp2_with fail;go_ret;exact ⟨rfl,hb1⟩
theorem uE (Q:List UInt8→Prop) (G:Nat→Prop) (fn:Nat) (cap:Array Value) (p:List UInt8→Bool) (v:Value) (xs:List (List UInt8)) (w:World) (hG:∀ k,G k→k<w.heap.size) (hs:aH G w 1 (iS Q w) v xs) (hent:bM fn) (hst:iE (iS Q) one w fn cap p):
  Calls Tryz.prog 76 #[v,.func (.func fn) #[] cap] w fun e w'=>e=.returned (.bool (xs.all p))∧Below w.heap.size w w':=by
 have hb:Below w.heap.size w (w.alloc (.cells #[.func (.func fn) #[] cap] 146)):=(gR _ _).alloc (gO _) _;have hG1:∀ k,G k→k<(w.alloc (.cells #[.func (.func fn) #[] cap] 146)).heap.size:=fun k hk=>gK (hG k hk) hb.size;have hcc:(w.alloc (.cells #[.func (.func fn) #[] cap] 146)).cell? ⟨w.heap.size,0,none⟩=some (.func (.func fn) #[] cap):=lL (aC w _);have HX:=Ha (pF Q G 143 #[.pointer (some ⟨w.heap.size,0,none⟩)] (fun x=>!p x) v xs _ hG1 (hs.keep (fun _ h=>h) (cI hG hb) (fun _ _ h=>iS.below hG hb h)) nH
  (fun X hX vs x hr=>zL Q fn cap p X w.heap.size hent ((hst.on hb).on hX) ((hX.cell (p:=⟨w.heap.size,0,none⟩) (by simp)).trans hcc) vs x hr))
 have HB:=Ha hb;have HA:=Ha (show (!xs.any fun x=>!p x)=xs.all p by rw [List.all_eq_not_any_not]);clear hb hG hs hent hst hG1 hcc;go_enter Tryz.func76,Tryz.ntmps76;go_wp2_with fail;refine HX.out.mono ?_;rintro e w1 ⟨rfl,hb1⟩;have HB1:=Ha (HB.out.trans (hb1.mono HB.out.size));clear hb1;go_wp2_with fail;go_ret;exact ⟨aJ HA.out,HB1.out⟩
theorem tF (G:Nat→Prop) (fn:Nat) (cap:Array Value) (p:Int×List Int→Bool) (v:Value) (xs:List (Int×List Int)) (w:World) (hG:∀ k,G k→k<w.heap.size) (hs:aH G w 2 (RuV G w) v xs) (hent:bM fn) (hst:iE (RuV G) ag w fn cap p):
  Calls Tryz.prog 132 #[v,.func (.func fn) #[] cap] w fun e w'=>e=.returned (.int .i64 (fidx p xs 0))∧Below w.heap.size w w':=by
 obtain ⟨A,c,rfl,hl,hm,hc⟩:=hs;unfold maxLen at hm;obtain ⟨HC,HG,HE,HST⟩:=Zh4 hc hG hent hst;clear hc hG hent hst;go_enter Tryz.func132,Tryz.ntmps132;go_wp2
 go_loopw [8] (fun i wr=>∃ (k:Nat),k≤xs.length∧i=.int .i64 k∧fidx p (xs.drop k) k=fidx p xs 0∧Below w.heap.size w wr) (fun i _=>xs.length-(intOf i).toNat)
 case atStart=>exact ⟨0,by omega,rfl,rfl,gR _ _⟩
 case round=>
  obtain ⟨k,hk,rfl,hf,hb⟩:=hrel;have HF:=Ha hf;have HB:=Ha hb;clear hf hb;by_cases hlt:k<xs.length
  ·obtain ⟨b,off,rfl,hg,hel⟩:=HC.out (by omega);obtain ⟨vs,hvl,hR,hcell⟩:=hel k hlt;have hR':=RuV.below HG.out HB.out hR;have HR:=Ha hR';obtain ⟨A1,c1,rfl,_,_⟩:=hR'.shape;have z:=fun j u hj=>(cI HG.out HB.out _ hg).trans (hcell j u hj);have c0:wr.cell? ⟨b,off+k*2,none⟩=some (.int .i64 xs[k].1):=by simpa using z 0 _ rfl
   have c1:wr.cell? ⟨b,off+k*2+1,none⟩=some (.slice A1 xs[k].2.length c1):=by simpa using z 1 _ rfl
   clear z hel hcell hvl hR hg;go_wp2_with fail;rw [HE.out,Oper.upon_enter];refine (HST.out _ HB.out _ _ HR.out).mono ?_;rintro e w1 ⟨he,hb1⟩;have HB1:=Ha (HB.out.trans (hb1.mono HB.out.size));clear hb1 c0 c1;cases hq:p xs[k]
   ·rw [hq] at he;subst he;have HQ:=Ha hq;clear hq;go_wp2_with fail
    go_roundw
    case rel=>
     refine ⟨k+1,by omega,by go_num, ?_,HB1.out⟩;have h:=HF.out;rw [bD xs k hlt,fidx,if_neg (by rw [HQ.out];decide)] at h;exact h
    case measure=>simp only [intOf];omega
   ·rw [hq] at he;subst he;have HQ:=Ha hq;clear hq;go_wp2_with fail;go_ret;have h:=HF.out;rw [bD xs k hlt,fidx,if_pos HQ.out] at h;exact ⟨bG h,HB1.out⟩
  ·have HD:=Ha (List.drop_eq_nil_of_le (show xs.length≤k by omega));go_wp2_with fail;go_ret;have h:=HF.out;rw [HD.out,fidx] at h;exact ⟨bG h,HB.out⟩
theorem hH (G:Nat→Prop) (fn:Nat) (cap:Array Value) (p:Int×List Int→Bool) (v:Value) (xs:List (Int×List Int)) (w:World) (hG:∀ k,G k→k<w.heap.size) (hs:aH G w 2 (RuV G w) v xs) (hent:bM fn) (hst:iE (RuV G) ag w fn cap p):
  Calls Tryz.prog 140 #[v,.func (.func fn) #[] cap] w fun e w'=>e=.returned (.bool (xs.any p))∧Below w.heap.size w w':=by
 have HX:=Ha (tF G fn cap p v xs w hG hs hent hst);have HQ:=Ha (fJ p xs 0);generalize fidx p xs 0=r at HX HQ;clear hG hs hent hst;go_enter Tryz.func140,Tryz.ntmps140;go_wp2_with fail;refine HX.out.mono ?_;rintro e w1 ⟨rfl,hb⟩;go_wp2_with fail;go_ret;exact ⟨aJ HQ.out,hb⟩
theorem lS:bM 141:=fun args w=>by simp [callFunc,go_sem,Tryz.func141,Tryz.f141]
theorem wF (G:Nat→Prop) (fn:Nat) (cap:Array Value) (p:Int×List Int→Bool) (X:World) (bo:Nat) (hG:∀ k,G k→k<X.heap.size) (hbo:bo<X.heap.size) (hent:bM fn) (hst:iE (RuV G) ag X fn cap p)
  (hc:X.cell? ⟨bo,0,none⟩=some (.func (.func fn) #[] cap)) (vs:List Value) (x:Int×List Int) (hr:RuV G X vs x):
  Calls Tryz.prog 141 (#[ag vs]++#[.pointer (some ⟨bo,0,none⟩)]) X fun e w'=>e=.returned (.bool (!p x))∧Below X.heap.size X w':=by
 obtain ⟨A,c,rfl,_,_⟩:=hr.shape;have hb:Below X.heap.size X (X.alloc (.cells #[.int .i64 x.1,.slice A x.2.length c] 64)):=(gR _ _).alloc (gO _) _;have HX:=Ha (hst _ hb _ _ (hr.below hG hb));have hc':(X.alloc (.cells #[.int .i64 x.1,.slice A x.2.length c] 64)).cell? ⟨bo,0,none⟩=some (.func (.func fn) #[] cap):=(hb.cell (p:=⟨bo,0,none⟩) hbo).trans hc;have HB:=Ha hb;have HE:=Ha hent;clear hb hc hent hst hr;show Calls Tryz.prog 141 #[.agg #[.int .i64 x.1,.slice A x.2.length c],.pointer (some ⟨bo,0,none⟩)] X _;go_enter Tryz.func141,Tryz.ntmps141;go_wp2_with fail;rw [HE.out,Oper.upon_enter];refine HX.out.mono ?_;rintro e w1 ⟨rfl,hb1⟩;have HB1:=Ha (HB.out.trans (hb1.mono HB.out.size));clear hb1 hc';go_wp2_with fail;go_ret;exact ⟨rfl,HB1.out⟩
theorem qV (G:Nat→Prop) (fn:Nat) (cap:Array Value) (p:Int×List Int→Bool) (v:Value) (xs:List (Int×List Int)) (w:World) (hG:∀ k,G k→k<w.heap.size) (hs:aH G w 2 (RuV G w) v xs) (hent:bM fn) (hst:iE (RuV G) ag w fn cap p):
  Calls Tryz.prog 75 #[v,.func (.func fn) #[] cap] w fun e w'=>e=.returned (.bool (xs.all p))∧Below w.heap.size w w':=by
 have hb:Below w.heap.size w (w.alloc (.cells #[.func (.func fn) #[] cap] 148)):=(gR _ _).alloc (gO _) _;have hG1:∀ k,G k→k<(w.alloc (.cells #[.func (.func fn) #[] cap] 148)).heap.size:=fun k hk=>gK (hG k hk) hb.size;have hcc:(w.alloc (.cells #[.func (.func fn) #[] cap] 148)).cell? ⟨w.heap.size,0,none⟩=some (.func (.func fn) #[] cap):=lL (aC w _);have HX:=Ha (hH G 141 #[.pointer (some ⟨w.heap.size,0,none⟩)] (fun x=>!p x) v xs _ hG1 (hs.keep (fun _ h=>h) (cI hG hb) (fun vs x h=>RuV.below hG hb h)) lS
  (fun X hX vs x hr=>wF G fn cap p X w.heap.size (fun k hk=>gK (hG1 k hk) hX.size) (gK (by simp) hX.size) hent ((hst.on hb).on hX) ((hX.cell (p:=⟨w.heap.size,0,none⟩) (by simp)).trans hcc) vs x hr))
 have HB:=Ha hb;have HA:=Ha (show (!xs.any fun x=>!p x)=xs.all p by rw [List.all_eq_not_any_not]);clear hb hG hs hent hst hG1 hcc;go_enter Tryz.func75,Tryz.ntmps75;go_wp2_with fail;refine HX.out.mono ?_;rintro e w1 ⟨rfl,hb1⟩;have HB1:=Ha (HB.out.trans (hb1.mono HB.out.size));clear hb1;go_wp2_with fail;go_ret;exact ⟨aJ HA.out,HB1.out⟩
theorem xA (G:Nat→Prop) (fn:Nat) (cap:Array Value) (p:Int→Bool) (v:Value) (xs:List (Int)) (w:World) (hG:∀ k,G k→k<w.heap.size) (hs:aH G w 1 (jQ w) v xs) (hent:bM fn) (hst:iE (jQ) one w fn cap p):
  Calls Tryz.prog 243 #[v,.func (.func fn) #[] cap] w fun e w'=>e=.returned (.int .i64 (fidx p xs 0))∧Below w.heap.size w w':=by
 obtain ⟨A,c,rfl,hl,hm,hc⟩:=hs;unfold maxLen at hm;obtain ⟨HC,HG,HE,HST⟩:=Zh4 hc hG hent hst;clear hc hG hent hst;go_enter Tryz.func243,Tryz.ntmps243;go_wp2
 go_loopw [8] (fun i wr=>∃ (k:Nat),k≤xs.length∧i=.int .i64 k∧fidx p (xs.drop k) k=fidx p xs 0∧Below w.heap.size w wr) (fun i _=>xs.length-(intOf i).toNat)
 case atStart=>exact ⟨0,by omega,rfl,rfl,gR _ _⟩
 case round=>
  obtain ⟨k,hk,rfl,hf,hb⟩:=hrel;have HF:=Ha hf;have HB:=Ha hb;clear hf hb;by_cases hlt:k<xs.length
  ·obtain ⟨b,off,rfl,hg,hel⟩:=HC.out (by omega);obtain ⟨vs,hvl,hR,hcell⟩:=hel k hlt;have hR':=jQ.below HG.out HB.out hR;have HR:=Ha hR';obtain rfl:=hR';have z:=fun j u hj=>(cI HG.out HB.out _ hg).trans (hcell j u hj);have c0:wr.cell? ⟨b,off+k,none⟩=some (.int .i64 xs[k]):=by simpa using z 0 _ rfl
   clear z hel hcell hvl hR hg;go_wp2_with fail;rw [HE.out,Oper.upon_enter];refine (HST.out _ HB.out _ _ HR.out).mono ?_;rintro e w1 ⟨he,hb1⟩;have HB1:=Ha (HB.out.trans (hb1.mono HB.out.size));clear hb1 c0;cases hq:p xs[k]
   ·rw [hq] at he;subst he;have HQ:=Ha hq;clear hq;go_wp2_with fail
    go_roundw
    case rel=>
     refine ⟨k+1,by omega,by go_num, ?_,HB1.out⟩;have h:=HF.out;rw [bD xs k hlt,fidx,if_neg (by rw [HQ.out];decide)] at h;exact h
    case measure=>simp only [intOf];omega
   ·rw [hq] at he;subst he;have HQ:=Ha hq;clear hq;go_wp2_with fail;go_ret;have h:=HF.out;rw [bD xs k hlt,fidx,if_pos HQ.out] at h;exact ⟨bG h,HB1.out⟩
  ·have HD:=Ha (List.drop_eq_nil_of_le (show xs.length≤k by omega));go_wp2_with fail;go_ret;have h:=HF.out;rw [HD.out,fidx] at h;exact ⟨bG h,HB.out⟩
theorem pE (G:Nat→Prop) (fn:Nat) (cap:Array Value) (p:Int→Bool) (v:Value) (xs:List (Int)) (w:World) (hG:∀ k,G k→k<w.heap.size) (hs:aH G w 1 (jQ w) v xs) (hent:bM fn) (hst:iE (jQ) one w fn cap p):
  Calls Tryz.prog 216 #[v,.func (.func fn) #[] cap] w fun e w'=>e=.returned (.bool (xs.any p))∧Below w.heap.size w w':=by
 have HX:=Ha (xA G fn cap p v xs w hG hs hent hst);have HQ:=Ha (fJ p xs 0);generalize fidx p xs 0=r at HX HQ;clear hG hs hent hst;go_enter Tryz.func216,Tryz.ntmps216;go_wp2_with fail;refine HX.out.mono ?_;rintro e w1 ⟨rfl,hb⟩;go_wp2_with fail;go_ret;exact ⟨aJ HQ.out,hb⟩
theorem nG:bM 217:=fun args w=>by simp [callFunc,go_sem,Tryz.func217,Tryz.f217]
theorem zK (fn:Nat) (cap:Array Value) (p:Int→Bool) (X:World) (bo:Nat) (hent:bM fn) (hst:iE (jQ) one X fn cap p)
  (hc:X.cell? ⟨bo,0,none⟩=some (.func (.func fn) #[] cap)) (vs:List Value) (x:Int) (hr:jQ X vs x):
  Calls Tryz.prog 217 (#[one vs]++#[.pointer (some ⟨bo,0,none⟩)]) X fun e w'=>e=.returned (.bool (!p x))∧Below X.heap.size X w':=by
 have HX:=Ha (hst X (gR _ _) _ _ hr);obtain rfl:=hr;have HE:=Ha hent;clear hent hst;show Calls Tryz.prog 217 #[.int .i64 x,.pointer (some ⟨bo,0,none⟩)] X _;go_enter Tryz.func217,Tryz.ntmps217;go_wp2_with fail;rw [HE.out,Oper.upon_enter];refine HX.out.mono ?_;rintro e w1 ⟨rfl,hb1⟩;go_wp2_with fail;go_ret;exact ⟨rfl,hb1⟩
theorem D9 (G:Nat→Prop) (fn:Nat) (cap:Array Value) (p:Int→Bool) (v:Value) (xs:List (Int)) (w:World) (hG:∀ k,G k→k<w.heap.size) (hs:aH G w 1 (jQ w) v xs) (hent:bM fn) (hst:iE (jQ) one w fn cap p):
  Calls Tryz.prog 147 #[v,.func (.func fn) #[] cap] w fun e w'=>e=.returned (.bool (xs.all p))∧Below w.heap.size w w':=by
 have hb:Below w.heap.size w (w.alloc (.cells #[.func (.func fn) #[] cap] 70)):=(gR _ _).alloc (gO _) _;have hG1:∀ k,G k→k<(w.alloc (.cells #[.func (.func fn) #[] cap] 70)).heap.size:=fun k hk=>gK (hG k hk) hb.size;have hcc:(w.alloc (.cells #[.func (.func fn) #[] cap] 70)).cell? ⟨w.heap.size,0,none⟩=some (.func (.func fn) #[] cap):=lL (aC w _);have HX:=Ha (pE G 217 #[.pointer (some ⟨w.heap.size,0,none⟩)] (fun x=>!p x) v xs _ hG1 (hs.keep (fun _ h=>h) (cI hG hb) (fun _ _ h=>jQ.below hG hb h)) nG
  (fun X hX vs x hr=>zK fn cap p X w.heap.size hent ((hst.on hb).on hX) ((hX.cell (p:=⟨w.heap.size,0,none⟩) (by simp)).trans hcc) vs x hr))
 have HB:=Ha hb;have HA:=Ha (show (!xs.any fun x=>!p x)=xs.all p by rw [List.all_eq_not_any_not]);clear hb hG hs hent hst hG1 hcc;go_enter Tryz.func147,Tryz.ntmps147;go_wp2_with fail;refine HX.out.mono ?_;rintro e w1 ⟨rfl,hb1⟩;have HB1:=Ha (HB.out.trans (hb1.mono HB.out.size));clear hb1;go_wp2_with fail;go_ret;exact ⟨aJ HA.out,HB1.out⟩
structure GBox (G:Nat→Prop) (w:World) (b:Nat) (A0:Option Addr) (c0:Nat) (A1:Option Addr) (c1:Nat) (A2:Option Addr) (c2:Nat) (g:Gm):Prop where
 old:∀ k,G k→k<w.heap.size
 lt:b<w.heap.size
 x0:w.cell? ⟨b,0,none⟩=some (.slice A0 g.terms.length c0)
 x1:w.cell? ⟨b,1,none⟩=some (.slice A1 g.nons.length c1)
 x2:w.cell? ⟨b,2,none⟩=some (.slice A2 g.rules.length c2)
 x3:w.cell? ⟨b,3,none⟩=some (.int .i64 g.start)
 ht:aW G w (.slice A0 g.terms.length c0) g.terms
 hn:aW G w (.slice A1 g.nons.length c1) g.nons
 hr:cD G w (.slice A2 g.rules.length c2) g.rules
theorem aD {w w':World} {b j:Nat} {v:Value} (h:w.cell? ⟨b,j,none⟩=some v) (hb:Below w.heap.size w w'):w'.cell? ⟨b,j,none⟩=some v:=(gM (hb.block _ (i1 h))).trans h
theorem cpd (w:World) (o:Obj):∃ X:World,w.alloc o=X∧Below w.heap.size w X∧X.heap[w.heap.size]? =some o:=⟨_,rfl,(Below.refl _ _).alloc (Nat.le_refl _) _,aC _ _⟩
theorem c10 {w:World} {k:Nat} {a0 a1 a2 a3 a4 a5 a6 a7 a8 a9:Value} {T:TypeId} {z:Nat×Nat} (h:w.heap[k]? =some (.cells #[a0,a1,a2,a3,a4,a5,a6,a7,a8,a9] T z)):w.cell? ⟨k,0,none⟩=some a0∧w.cell? ⟨k,1,none⟩=some a1∧w.cell? ⟨k,2,none⟩=some a2∧w.cell? ⟨k,3,none⟩=some a3∧w.cell? ⟨k,4,none⟩=some a4∧w.cell? ⟨k,5,none⟩=some a5∧w.cell? ⟨k,6,none⟩=some a6∧w.cell? ⟨k,7,none⟩=some a7∧w.cell? ⟨k,8,none⟩=some a8∧w.cell? ⟨k,9,none⟩=some a9:=by
 simp [World.cell?,h]
theorem Zk3 {W X:World} {b0 j0 b1 j1 b2 j2:Nat} {v0 v1 v2:Value} (h:Below W.heap.size W X) (x0:W.cell? ⟨b0,j0,none⟩=some v0) (x1:W.cell? ⟨b1,j1,none⟩=some v1) (x2:W.cell? ⟨b2,j2,none⟩=some v2):X.cell? ⟨b0,j0,none⟩=some v0∧X.cell? ⟨b1,j1,none⟩=some v1∧X.cell? ⟨b2,j2,none⟩=some v2:=⟨aD x0 h,aD x1 h,aD x2 h⟩
theorem Zk4 {W X:World} {b0 j0 b1 j1 b2 j2 b3 j3:Nat} {v0 v1 v2 v3:Value} (h:Below W.heap.size W X) (x0:W.cell? ⟨b0,j0,none⟩=some v0) (x1:W.cell? ⟨b1,j1,none⟩=some v1) (x2:W.cell? ⟨b2,j2,none⟩=some v2) (x3:W.cell? ⟨b3,j3,none⟩=some v3):X.cell? ⟨b0,j0,none⟩=some v0∧X.cell? ⟨b1,j1,none⟩=some v1∧X.cell? ⟨b2,j2,none⟩=some v2∧X.cell? ⟨b3,j3,none⟩=some v3:=⟨aD x0 h,aD x1 h,aD x2 h,aD x3 h⟩
theorem Zk5 {W X:World} {b0 j0 b1 j1 b2 j2 b3 j3 b4 j4:Nat} {v0 v1 v2 v3 v4:Value} (h:Below W.heap.size W X) (x0:W.cell? ⟨b0,j0,none⟩=some v0) (x1:W.cell? ⟨b1,j1,none⟩=some v1) (x2:W.cell? ⟨b2,j2,none⟩=some v2) (x3:W.cell? ⟨b3,j3,none⟩=some v3) (x4:W.cell? ⟨b4,j4,none⟩=some v4):X.cell? ⟨b0,j0,none⟩=some v0∧X.cell? ⟨b1,j1,none⟩=some v1∧X.cell? ⟨b2,j2,none⟩=some v2∧X.cell? ⟨b3,j3,none⟩=some v3∧X.cell? ⟨b4,j4,none⟩=some v4:=⟨aD x0 h,aD x1 h,aD x2 h,aD x3 h,aD x4 h⟩
theorem Zk6 {W X:World} {b0 j0 b1 j1 b2 j2 b3 j3 b4 j4 b5 j5:Nat} {v0 v1 v2 v3 v4 v5:Value} (h:Below W.heap.size W X) (x0:W.cell? ⟨b0,j0,none⟩=some v0) (x1:W.cell? ⟨b1,j1,none⟩=some v1) (x2:W.cell? ⟨b2,j2,none⟩=some v2) (x3:W.cell? ⟨b3,j3,none⟩=some v3) (x4:W.cell? ⟨b4,j4,none⟩=some v4) (x5:W.cell? ⟨b5,j5,none⟩=some v5):X.cell? ⟨b0,j0,none⟩=some v0∧X.cell? ⟨b1,j1,none⟩=some v1∧X.cell? ⟨b2,j2,none⟩=some v2∧X.cell? ⟨b3,j3,none⟩=some v3∧X.cell? ⟨b4,j4,none⟩=some v4∧X.cell? ⟨b5,j5,none⟩=some v5:=⟨aD x0 h,aD x1 h,aD x2 h,aD x3 h,aD x4 h,aD x5 h⟩
theorem Zk7 {W X:World} {b0 j0 b1 j1 b2 j2 b3 j3 b4 j4 b5 j5 b6 j6:Nat} {v0 v1 v2 v3 v4 v5 v6:Value} (h:Below W.heap.size W X) (x0:W.cell? ⟨b0,j0,none⟩=some v0) (x1:W.cell? ⟨b1,j1,none⟩=some v1) (x2:W.cell? ⟨b2,j2,none⟩=some v2) (x3:W.cell? ⟨b3,j3,none⟩=some v3) (x4:W.cell? ⟨b4,j4,none⟩=some v4) (x5:W.cell? ⟨b5,j5,none⟩=some v5) (x6:W.cell? ⟨b6,j6,none⟩=some v6):X.cell? ⟨b0,j0,none⟩=some v0∧X.cell? ⟨b1,j1,none⟩=some v1∧X.cell? ⟨b2,j2,none⟩=some v2∧X.cell? ⟨b3,j3,none⟩=some v3∧X.cell? ⟨b4,j4,none⟩=some v4∧X.cell? ⟨b5,j5,none⟩=some v5∧X.cell? ⟨b6,j6,none⟩=some v6:=⟨aD x0 h,aD x1 h,aD x2 h,aD x3 h,aD x4 h,aD x5 h,aD x6 h⟩
theorem Zk8 {W X:World} {b0 j0 b1 j1 b2 j2 b3 j3 b4 j4 b5 j5 b6 j6 b7 j7:Nat} {v0 v1 v2 v3 v4 v5 v6 v7:Value} (h:Below W.heap.size W X) (x0:W.cell? ⟨b0,j0,none⟩=some v0) (x1:W.cell? ⟨b1,j1,none⟩=some v1) (x2:W.cell? ⟨b2,j2,none⟩=some v2) (x3:W.cell? ⟨b3,j3,none⟩=some v3) (x4:W.cell? ⟨b4,j4,none⟩=some v4) (x5:W.cell? ⟨b5,j5,none⟩=some v5) (x6:W.cell? ⟨b6,j6,none⟩=some v6) (x7:W.cell? ⟨b7,j7,none⟩=some v7):X.cell? ⟨b0,j0,none⟩=some v0∧X.cell? ⟨b1,j1,none⟩=some v1∧X.cell? ⟨b2,j2,none⟩=some v2∧X.cell? ⟨b3,j3,none⟩=some v3∧X.cell? ⟨b4,j4,none⟩=some v4∧X.cell? ⟨b5,j5,none⟩=some v5∧X.cell? ⟨b6,j6,none⟩=some v6∧X.cell? ⟨b7,j7,none⟩=some v7:=⟨aD x0 h,aD x1 h,aD x2 h,aD x3 h,aD x4 h,aD x5 h,aD x6 h,aD x7 h⟩
theorem Zk9 {W X:World} {b0 j0 b1 j1 b2 j2 b3 j3 b4 j4 b5 j5 b6 j6 b7 j7 b8 j8:Nat} {v0 v1 v2 v3 v4 v5 v6 v7 v8:Value} (h:Below W.heap.size W X) (x0:W.cell? ⟨b0,j0,none⟩=some v0) (x1:W.cell? ⟨b1,j1,none⟩=some v1) (x2:W.cell? ⟨b2,j2,none⟩=some v2) (x3:W.cell? ⟨b3,j3,none⟩=some v3) (x4:W.cell? ⟨b4,j4,none⟩=some v4) (x5:W.cell? ⟨b5,j5,none⟩=some v5) (x6:W.cell? ⟨b6,j6,none⟩=some v6) (x7:W.cell? ⟨b7,j7,none⟩=some v7) (x8:W.cell? ⟨b8,j8,none⟩=some v8):X.cell? ⟨b0,j0,none⟩=some v0∧X.cell? ⟨b1,j1,none⟩=some v1∧X.cell? ⟨b2,j2,none⟩=some v2∧X.cell? ⟨b3,j3,none⟩=some v3∧X.cell? ⟨b4,j4,none⟩=some v4∧X.cell? ⟨b5,j5,none⟩=some v5∧X.cell? ⟨b6,j6,none⟩=some v6∧X.cell? ⟨b7,j7,none⟩=some v7∧X.cell? ⟨b8,j8,none⟩=some v8:=⟨aD x0 h,aD x1 h,aD x2 h,aD x3 h,aD x4 h,aD x5 h,aD x6 h,aD x7 h,aD x8 h⟩
theorem Zk10 {W X:World} {b0 j0 b1 j1 b2 j2 b3 j3 b4 j4 b5 j5 b6 j6 b7 j7 b8 j8 b9 j9:Nat} {v0 v1 v2 v3 v4 v5 v6 v7 v8 v9:Value} (h:Below W.heap.size W X) (x0:W.cell? ⟨b0,j0,none⟩=some v0) (x1:W.cell? ⟨b1,j1,none⟩=some v1) (x2:W.cell? ⟨b2,j2,none⟩=some v2) (x3:W.cell? ⟨b3,j3,none⟩=some v3) (x4:W.cell? ⟨b4,j4,none⟩=some v4) (x5:W.cell? ⟨b5,j5,none⟩=some v5) (x6:W.cell? ⟨b6,j6,none⟩=some v6) (x7:W.cell? ⟨b7,j7,none⟩=some v7) (x8:W.cell? ⟨b8,j8,none⟩=some v8) (x9:W.cell? ⟨b9,j9,none⟩=some v9):X.cell? ⟨b0,j0,none⟩=some v0∧X.cell? ⟨b1,j1,none⟩=some v1∧X.cell? ⟨b2,j2,none⟩=some v2∧X.cell? ⟨b3,j3,none⟩=some v3∧X.cell? ⟨b4,j4,none⟩=some v4∧X.cell? ⟨b5,j5,none⟩=some v5∧X.cell? ⟨b6,j6,none⟩=some v6∧X.cell? ⟨b7,j7,none⟩=some v7∧X.cell? ⟨b8,j8,none⟩=some v8∧X.cell? ⟨b9,j9,none⟩=some v9:=⟨aD x0 h,aD x1 h,aD x2 h,aD x3 h,aD x4 h,aD x5 h,aD x6 h,aD x7 h,aD x8 h,aD x9 h⟩
theorem Zk11 {W X:World} {b0 j0 b1 j1 b2 j2 b3 j3 b4 j4 b5 j5 b6 j6 b7 j7 b8 j8 b9 j9 b10 j10:Nat} {v0 v1 v2 v3 v4 v5 v6 v7 v8 v9 v10:Value} (h:Below W.heap.size W X) (x0:W.cell? ⟨b0,j0,none⟩=some v0) (x1:W.cell? ⟨b1,j1,none⟩=some v1) (x2:W.cell? ⟨b2,j2,none⟩=some v2) (x3:W.cell? ⟨b3,j3,none⟩=some v3) (x4:W.cell? ⟨b4,j4,none⟩=some v4) (x5:W.cell? ⟨b5,j5,none⟩=some v5) (x6:W.cell? ⟨b6,j6,none⟩=some v6) (x7:W.cell? ⟨b7,j7,none⟩=some v7) (x8:W.cell? ⟨b8,j8,none⟩=some v8) (x9:W.cell? ⟨b9,j9,none⟩=some v9) (x10:W.cell? ⟨b10,j10,none⟩=some v10):X.cell? ⟨b0,j0,none⟩=some v0∧X.cell? ⟨b1,j1,none⟩=some v1∧X.cell? ⟨b2,j2,none⟩=some v2∧X.cell? ⟨b3,j3,none⟩=some v3∧X.cell? ⟨b4,j4,none⟩=some v4∧X.cell? ⟨b5,j5,none⟩=some v5∧X.cell? ⟨b6,j6,none⟩=some v6∧X.cell? ⟨b7,j7,none⟩=some v7∧X.cell? ⟨b8,j8,none⟩=some v8∧X.cell? ⟨b9,j9,none⟩=some v9∧X.cell? ⟨b10,j10,none⟩=some v10:=⟨aD x0 h,aD x1 h,aD x2 h,aD x3 h,aD x4 h,aD x5 h,aD x6 h,aD x7 h,aD x8 h,aD x9 h,aD x10 h⟩
theorem Zk12 {W X:World} {b0 j0 b1 j1 b2 j2 b3 j3 b4 j4 b5 j5 b6 j6 b7 j7 b8 j8 b9 j9 b10 j10 b11 j11:Nat} {v0 v1 v2 v3 v4 v5 v6 v7 v8 v9 v10 v11:Value} (h:Below W.heap.size W X) (x0:W.cell? ⟨b0,j0,none⟩=some v0) (x1:W.cell? ⟨b1,j1,none⟩=some v1) (x2:W.cell? ⟨b2,j2,none⟩=some v2) (x3:W.cell? ⟨b3,j3,none⟩=some v3) (x4:W.cell? ⟨b4,j4,none⟩=some v4) (x5:W.cell? ⟨b5,j5,none⟩=some v5) (x6:W.cell? ⟨b6,j6,none⟩=some v6) (x7:W.cell? ⟨b7,j7,none⟩=some v7) (x8:W.cell? ⟨b8,j8,none⟩=some v8) (x9:W.cell? ⟨b9,j9,none⟩=some v9) (x10:W.cell? ⟨b10,j10,none⟩=some v10) (x11:W.cell? ⟨b11,j11,none⟩=some v11):X.cell? ⟨b0,j0,none⟩=some v0∧X.cell? ⟨b1,j1,none⟩=some v1∧X.cell? ⟨b2,j2,none⟩=some v2∧X.cell? ⟨b3,j3,none⟩=some v3∧X.cell? ⟨b4,j4,none⟩=some v4∧X.cell? ⟨b5,j5,none⟩=some v5∧X.cell? ⟨b6,j6,none⟩=some v6∧X.cell? ⟨b7,j7,none⟩=some v7∧X.cell? ⟨b8,j8,none⟩=some v8∧X.cell? ⟨b9,j9,none⟩=some v9∧X.cell? ⟨b10,j10,none⟩=some v10∧X.cell? ⟨b11,j11,none⟩=some v11:=⟨aD x0 h,aD x1 h,aD x2 h,aD x3 h,aD x4 h,aD x5 h,aD x6 h,aD x7 h,aD x8 h,aD x9 h,aD x10 h,aD x11 h⟩
theorem aA {w:World} {k:Nat} {cs:Array Value} {T:TypeId} {fz:Nat×Nat} (hh:w.heap[k]? = some (.cells cs T fz)) (i:Nat) (v:Value) (hi:cs[i]? = some v):w.cell? ⟨k,i,none⟩=some v:=by
 simp only [World.cell?,hh];exact hi
section
variable {G:Nat→Prop} {w w':World} {b:Nat} {A0 A1 A2:Option Addr} {c0 c1 c2:Nat} {g:Gm}
theorem GBox.on (h:GBox G w b A0 c0 A1 c1 A2 c2 g) (hb:Below w.heap.size w w'):GBox G w' b A0 c0 A1 c1 A2 c2 g:=
 ⟨bN h.old hb,gK h.lt hb.size,aD h.x0 hb,aD h.x1 hb,aD h.x2 hb,aD h.x3 hb,h.ht.below h.old hb,h.hn.below h.old hb,h.hr.below h.old hb⟩
theorem GBox.cells (h:GBox G w b A0 c0 A1 c1 A2 c2 g):w.cell? ⟨b,0,none⟩=some (.slice A0 g.terms.length c0)∧w.cell? ⟨b,1,none⟩=some (.slice A1 g.nons.length c1)∧w.cell? ⟨b,2,none⟩=some (.slice A2 g.rules.length c2)∧w.cell? ⟨b,3,none⟩=some (.int .i64 g.start):=
 ⟨h.x0,h.x1,h.x2,h.x3⟩
theorem GBox.gm (h:GBox G w b A0 c0 A1 c1 A2 c2 g):GmV G w [.slice A0 g.terms.length c0,.slice A1 g.nons.length c1,.slice A2 g.rules.length c2,.int .i64 g.start] g:=⟨_,_,_,rfl,h.ht,h.hn,h.hr⟩
theorem GBox.lens (h:GBox G w b A0 c0 A1 c1 A2 c2 g):g.terms.length≤9223372036854775807∧g.nons.length≤9223372036854775807∧g.rules.length≤9223372036854775807:=by
 have a1:=aH.shape h.ht;have a2:=aH.shape h.hn;have a3:=aH.shape h.hr;obtain ⟨_,_,e1,b1,d1⟩:=a1;obtain ⟨_,_,e2,b2,d2⟩:=a2;obtain ⟨_,_,e3,b3,d3⟩:=a3;unfold maxLen at d1 d2 d3;omega
theorem GBox.term (h:GBox G w b A0 c0 A1 c1 A2 c2 g) {k:Nat} (hk:k<g.terms.length):∃ bb off,A0=some ⟨bb,off,none⟩∧w.cell? ⟨bb,off+k,none⟩=some (bs g.terms[k]):=by
 obtain ⟨bb,off,u,e,_,hu,hc⟩:=aH.cell1 h.ht hk;unfold iT at hu
 injection hu with hu _
 subst hu;exact ⟨bb,off,e,hc⟩
theorem GBox.non (h:GBox G w b A0 c0 A1 c1 A2 c2 g) {k:Nat} (hk:k<g.nons.length):∃ bb off,A1=some ⟨bb,off,none⟩∧w.cell? ⟨bb,off+k,none⟩=some (bs g.nons[k]):=by
 obtain ⟨bb,off,u,e,_,hu,hc⟩:=aH.cell1 h.hn hk;unfold iT at hu
 injection hu with hu _
 subst hu;exact ⟨bb,off,e,hc⟩
theorem cD.at_ {A:Option Addr} {n c:Nat} {l:List (Int×List Int)} (h:cD G w (.slice A n c) l) {k:Nat} (hk:k<l.length):
  ∃ bb off Ar cr,A=some ⟨bb,off,none⟩∧G bb∧w.cell? ⟨bb,off+k*2,none⟩=some (.int .i64 l[k].1)∧w.cell? ⟨bb,off+k*2+1,none⟩=some (.slice Ar l[k].2.length cr)∧aF G w (.slice Ar l[k].2.length cr) l[k].2:=by
 obtain ⟨A',c',e,_,_,h4⟩:=h
 injection e with e1 _ _
 subst e1;obtain ⟨bb,off,rfl,hg,h5⟩:=h4 (by omega);obtain ⟨vs,h6,h7,h8⟩:=h5 k hk;obtain ⟨v,rfl,h9⟩:=h7;have z0:=h8 0 _ rfl;have z1:=h8 1 _ rfl;obtain ⟨Ar,cr,rfl,_,_⟩:=h9.shape;exact ⟨bb,off,Ar,cr,rfl,hg,by simpa using z0,z1,h9⟩
theorem GBox.rule (h:GBox G w b A0 c0 A1 c1 A2 c2 g) {k:Nat} (hk:k<g.rules.length):
  ∃ bb off Ar cr,A2=some ⟨bb,off,none⟩∧w.cell? ⟨bb,off+k*2,none⟩=some (.int .i64 g.rules[k].1)∧w.cell? ⟨bb,off+k*2+1,none⟩=some (.slice Ar g.rules[k].2.length cr)∧aF G w (.slice Ar g.rules[k].2.length cr) g.rules[k].2:=by
 obtain ⟨bb,off,Ar,cr,e,_,h1⟩:=cD.at_ h.hr hk;exact ⟨bb,off,Ar,cr,e,h1⟩
theorem aF.get {A:Option Addr} {n c:Nat} {l:List Int} (h:aF G w (.slice A n c) l) {k:Nat} (hk:k<l.length):∃ bb off,A=some ⟨bb,off,none⟩∧w.cell? ⟨bb,off+k,none⟩=some (.int .i64 l[k]):=by
 obtain ⟨bb,off,u,e,_,hu,hc⟩:=aH.cell1 h hk;unfold cF at hu
 injection hu with hu _
 subst hu;exact ⟨bb,off,e,hc⟩
theorem aW.get {A:Option Addr} {n c:Nat} {l:List (List UInt8)} (h:aW G w (.slice A n c) l) {k:Nat} (hk:k<l.length):∃ bb off,A=some ⟨bb,off,none⟩∧w.cell? ⟨bb,off+k,none⟩=some (bs l[k]):=by
 obtain ⟨bb,off,u,e,_,hu,hc⟩:=aH.cell1 h hk;unfold iT at hu
 injection hu with hu _
 subst hu;exact ⟨bb,off,e,hc⟩
theorem GBox.start {vs:List Value} (hG:∀ k,G k→k<w.heap.size) (h:GmV G w vs g):∃ A0 c0 A1 c1 A2 c2,vs=[.slice A0 g.terms.length c0,.slice A1 g.nons.length c1,.slice A2 g.rules.length c2,.int .i64 g.start]∧
  Below w.heap.size w (w.alloc (.cells #[.slice A0 g.terms.length c0,.slice A1 g.nons.length c1,.slice A2 g.rules.length c2,.int .i64 g.start] 25))∧
  GBox G (w.alloc (.cells #[.slice A0 g.terms.length c0,.slice A1 g.nons.length c1,.slice A2 g.rules.length c2,.int .i64 g.start] 25)) w.heap.size A0 c0 A1 c1 A2 c2 g:=by
 obtain ⟨A0,c0,A1,c1,A2,c2,rfl,ht,hn,hr⟩:=h.shape;have hb:Below w.heap.size w (w.alloc (.cells #[.slice A0 g.terms.length c0,.slice A1 g.nons.length c1,.slice A2 g.rules.length c2,.int .i64 g.start] 25)):=(gR _ _).alloc (gO _) _;have q:=aC w (.cells #[.slice A0 g.terms.length c0,.slice A1 g.nons.length c1,.slice A2 g.rules.length c2,.int .i64 g.start] 25);exact ⟨A0,c0,A1,c1,A2,c2,rfl,hb,bN hG hb,by simp,aA q 0 _ rfl,aA q 1 _ rfl,aA q 2 _ rfl,aA q 3 _ rfl,ht.below hG hb,hn.below hG hb,hr.below hG hb⟩
theorem GBox.go {vs:List Value} (hG:∀ k,G k→k<w.heap.size) (h:GmV G w vs g):∃ A0 c0 A1 c1 A2 c2 W,ag vs=.agg #[.slice A0 g.terms.length c0,.slice A1 g.nons.length c1,.slice A2 g.rules.length c2,.int .i64 g.start]∧w.alloc (.cells #[.slice A0 g.terms.length c0,.slice A1 g.nons.length c1,.slice A2 g.rules.length c2,.int .i64 g.start] 25)=W∧
  (W.cell? ⟨w.heap.size,0,none⟩=some (.slice A0 g.terms.length c0)∧W.cell? ⟨w.heap.size,1,none⟩=some (.slice A1 g.nons.length c1)∧W.cell? ⟨w.heap.size,2,none⟩=some (.slice A2 g.rules.length c2)∧W.cell? ⟨w.heap.size,3,none⟩=some (.int .i64 g.start))∧Hid (Below w.heap.size w W)∧Hid (GBox G W w.heap.size A0 c0 A1 c1 A2 c2 g):=by
 obtain ⟨A0,c0,A1,c1,A2,c2,rfl,hb,hx⟩:=GBox.start hG h;exact ⟨A0,c0,A1,c1,A2,c2,_,rfl,rfl,hx.cells,Ha hb,Ha hx⟩
end
end Go.Proofs.YtpidmmfjcghmeaaGreat
