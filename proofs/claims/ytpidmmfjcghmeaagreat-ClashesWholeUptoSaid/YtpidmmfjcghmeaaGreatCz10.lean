/- Towards clashesWhole_upto. -/
import Derived.Test.YtpidmmfjcghmeaaGreatCz05
import Derived.Tactics
import Derived.IntWalk
set_option maxRecDepth 100000
set_option maxHeartbeats 16000000
set_option linter.all false
namespace Go.Proofs.YtpidmmfjcghmeaaGreat.Ab
open Go.RowKit
variable {P:Program} {σ:Sg} {W:World}
theorem aU {f:F} {a:Act} (hf:FT σ f.n f.t a.tmps) {x:Operand} {v:AV} (h:evF f x=some v):VR σ v (a.eval x):=by
 cases x with
 | tmp t=>
  have:=hf.2 t;simp only [evF,F.get] at h;cases e:f.t.get t with
  | none=>rw [e] at h this;simp at h;subst h;exact this
  | some u=>rw [e] at h this;simp at h;subst h;exact this
 | const v=>exact kA h
 | func g=>simp only [evF] at h;cases h;exact .fn g [] [] [] [] .nil .nil
 | global g=>simp only [evF] at h;cases h
theorem AQ {f:F} {a:Act} (hf:FT σ f.n f.t a.tmps):∀ {l:List Operand} {vs:List AV},evL f l=some vs→VL σ vs (l.map a.eval)
 | [],vs,h=>by simp [evL] at h;subst h;exact .nil
 | x::l,vs,h=>by
  simp only [evL] at h
  split at h
  ·rename_i u us hu hus;cases h;exact .cons _ _ _ _ (aU hf hu) (AQ hf hus)
  ·cases h
inductive PL (σ:Sg):List (Nat×AV)→List (Nat×Value)→Prop
 | nil:PL σ [] []
 | cons (i x v l vs):VR σ x v→PL σ l vs→PL σ ((i,x)::l) ((i,v)::vs)
theorem pI {f:F} {a:Act} (hf:FT σ f.n f.t a.tmps):∀ {l:List (Nat×Operand)} {vs:List (Nat×AV)},evP f l=some vs→PL σ vs (l.map fun p=>(p.1,a.eval p.2))
 | [],vs,h=>by simp [evP] at h;subst h;exact .nil
 | (i,x)::l,vs,h=>by
  simp only [evP] at h
  split at h
  ·rename_i u us hu hus;cases h;exact .cons _ _ _ _ _ (aU hf hu) (pI hf hus)
  ·cases h
theorem dU {α:Type}:∀ {s:Sem α} {r:α},pureRun P s=some r→∀ w,s.run P w=.ok r w
 | .pure a,r,h,w=>by simp [pureRun] at h;subst h;rfl
 | .program k,r,h,w=>by simp only [pureRun] at h;exact dU h w
 | .load ..,_,h,_ | .store ..,_,h,_ | .new ..,_,h,_ | .shape ..,_,h,_ | .freeze ..,_,h,_ | .frozen ..,_,h,_ | .getObj ..,_,h,_ | .setObj ..,_,h,_ | .choose ..,_,h,_ | .sys ..,_,h,_
 | .mark ..,_,h,_ | .halt _,_,h,_=>by simp [pureRun] at h
theorem i9 {f:F} {a:Act} (hf:FT σ f.n f.t a.tmps) {o:Oper} {x:AV} (hs:∀ cs b,o.op≠.select cs b) (h:flatOp P f o=some x):
  ∃ v,VR σ x v∧∀ w,(execOp a.eval o).run P w=.ok (.value v) w:=by
 unfold flatOp at h
 split at h
 ·rename_i hall
  split at h
  ·rename_i v hv;refine ⟨v,kA h,fun w=>?_⟩;have hc:execOp a.eval o=execOp (fun x=>match evF f x with | some v=>(toV v).getD undef | none=>undef) o:=execOp_congr o hs fun y hy=>by
    have h1:=List.all_eq_true.1 hall y (Array.mem_toList_iff.2 hy);cases e:evF f y with
    | none=>rw [e] at h1;cases h1
    | some u=>
     rw [e] at h1;cases e2:toV u with
     | none=>simp [e2] at h1
     | some z=>simp only [e2,Option.getD_some];exact mX e2 (aU hf e)
   rw [hc];exact dU hv w
  ·cases h
 ·cases h
theorem eP:∀ {l:List AV} {off:Nat} {vs l':List AV},putL l off vs=some l'→l'.length=l.length∧(vs≠[]→off+vs.length≤l.length)
 | l,off,[],l',h=>by simp [putL] at h;subst h;simp
 | l,off,v::vs,l',h=>by
  simp only [putL] at h
  split at h
  ·have:=eP h;simp only [List.length_set] at this;refine ⟨this.1,fun _=>?_⟩;cases vs with
   | nil=>simp;omega
   | cons u us=>have:=this.2 (by simp);simp only [gG] at this ⊢;omega
  ·cases h
def dM:List Value→Nat→List Value→List Value
 | c,_,[]=>c
 | c,off,v::vs=>dM (c.set off v) (off+1) vs
theorem jG:∀ (vs:List Value) (c:List Value) (off:Nat),(dM c off vs).length=c.length
 | [],_,_=>rfl
 | v::vs,c,off=>by rw [dM,jG vs];simp
theorem p9:∀ {l:List AV} {off:Nat} {vs l':List AV},putL l off vs=some l'→∀ {c us:List Value},VL σ l c→VL σ vs us→VL σ l' (dM c off us)
 | l,off,[],l',h,c,us,hl,hv=>by simp [putL] at h;subst h;cases hv;exact hl
 | l,off,v::vs,l',h,c,us,hl,hv=>by
  simp only [putL] at h
  split at h
  ·cases hv with
   | cons _ u _ us h1 h2=>exact p9 h (hl.set h1) h2
  ·cases h
theorem oS:∀ (vs c:List Value) (off n:Nat),off+vs.length≤n→(dM c off vs).take n=dM (c.take n) off vs
 | [],c,off,n,_=>rfl
 | v::vs,c,off,n,h=>by
  simp only [gG] at h;rw [dM,dM,oS vs _ _ n (by omega),List.take_set]
theorem eS {l l':List AV} {off n:Nat} (h:slotsOf l off n=some l') {c:List Value} (hl:VL σ l c):VL σ l' ((c.drop off).take n)∧off+n≤c.length:=by
 unfold slotsOf at h
 split at h
 ·cases h;exact ⟨(hl.drop off).take n,by have:=hl.len;omega⟩
 ·cases h
theorem nZ (off:Nat):∀ (vs:List Value) (k:Nat) (c:List Value),
  (vs.zipIdx k).foldl (fun cs (p:Value×Nat)=>cs.setIfInBounds (off+p.2) p.1) c.toArray=(dM c (off+k) vs).toArray
 | [],_,_=>rfl
 | v::vs,k,c=>by
  rw [List.zipIdx_cons,List.foldl_cons,dM];have:c.toArray.setIfInBounds (off+k) v=(c.set (off+k) v).toArray:=by simp
  rw [this,nZ off vs (k+1)];rfl
theorem kS {place:Nat→Option (Nat×Nat)}:∀ {ps:List (Nat×AV)} {l l':List AV},fillA place l ps=some l'→∀ {qs:List (Nat×Value)} {c:List Value},PL σ ps qs→VL σ l c→
  ∃ c',Instr.fill place c.toArray qs=some c'.toArray∧VL σ l' c'
 | [],l,l',h,qs,c,hp,hl=>by simp [fillA] at h;subst h;cases hp;exact ⟨c,by simp [Instr.fill],hl⟩
 | (i,x)::ps,l,l',h,qs,c,hp,hl=>by
  cases hp with
  | cons _ _ v _ vs hx hvs=>
   simp only [fillA] at h
   split at h
   ·cases h
   ·rename_i off size hpl
    split at h
    ·cases h
    ·rename_i hsz;have hsz:(cellsOf x).length=size∧size≠0:=by
      constructor
      ·exact Classical.byContradiction fun e=>hsz (.inl e)
      ·exact fun e=>hsz (.inr e)
     split at h
     ·rename_i c1 hc1;have hcx:=cH hx;have hl1:=p9 hc1 hl hcx;obtain ⟨c',h1,h2⟩:=kS h hvs hl1;refine ⟨c', ?_,h2⟩;have hlen:=hcx.len;have h3:=(eP hc1).2 (fun e=>by rw [e] at hsz;simp at hsz;exact hsz.2 hsz.1.symm);have hll:=hl.len;simp only [Array.length_toList] at hlen;rw [Instr.fill,hpl];simp only [List.size_toArray];rw [if_neg (by simp only [Bool.or_eq_true,decide_eq_true_eq];omega)];rw [← Array.foldl_toList,Array.toList_zipIdx,nZ off v.cells.toList 0 c];exact h1
     ·cases h
theorem dQ (b off i:Nat):(⟨b,off,none⟩:Addr).add i=⟨b,off+i,none⟩:=by
 unfold Addr.add
 split
 ·rename_i e;subst e;rfl
 ·rfl
theorem mY {w:World} {b:Nat} {o:Obj} (h:b<w.heap.size):(World.upd w b o).heap[b]? = some o:=by
 simp [World.upd,h]
theorem vW (w:World) (b:Nat) (o o':Obj):World.upd (World.upd w b o) b o'=World.upd w b o':=by
 simp [World.upd]
theorem iL {w:World} {b off:Nat} {c:Array Value} {ty:TypeId} (h:w.heap[b]? = some (.cells c ty (0,0))) (v:Value):
  w.setCell ⟨b,off,none⟩ v=World.upd w b (.cells (c.setIfInBounds off v) ty (0,0)):=by
 unfold World.setCell World.upd
 congr 1
 apply Array.ext_getElem?;intro i;rw [Array.getElem?_modify,Array.getElem?_setIfInBounds];by_cases e:b=i
 ·subst e;rw [if_pos rfl,if_pos rfl,h];have hlt:b<w.heap.size:=(gL h).1;simp [hlt]
 ·rw [if_neg e,if_neg e]
def CD:Value→Bool
 | .agg _=>false
 | .tuple _=>false
 | _=>true
theorem DD {w:World} {b off:Nat} {c:Array Value} {ty:TypeId} (h:w.heap[b]? = some (.cells c ty (0,0))) (ho:off<c.size) {v:Value} (hv:CD v=true):
  (store ⟨b,off,none⟩ v).run P w=.ok () (World.upd w b (.cells (c.setIfInBounds off v) ty (0,0))):=by
 have hc:w.cell? ⟨b,off,none⟩=some c[off]:=by simp [World.cell?,h,ho]
 have hz:w.frozen? ⟨b,off,none⟩=false:=by simp [World.frozen?,h]
 rw [← iL h];unfold store;cases v <;> first | (simp [CD] at hv;done) | simp [Sem.run,hc,hz]
theorem stores {ty:TypeId} {b off:Nat}:∀ (vs:List Value) (i:Nat) (c:List Value) (w:World),w.heap[b]? = some (.cells c.toArray ty (0,0))→off+i+vs.length≤c.length→(∀ v∈vs,CD v=true)→vs≠[]→
  (storeCells ⟨b,off,none⟩ vs i).run P w=.ok () (World.upd w b (.cells (dM c (off+i) vs).toArray ty (0,0)))
 | [],_,_,_,_,_,_,hne=>absurd rfl hne
 | [v],i,c,w,h,hl,hv,_=>by
  simp only [gG,gH] at hl;rw [storeCells,Sem.run_bind,dQ,DD h (by simp;omega) (hv v (by simp)),Result.andThen_ok];simp [storeCells,dM,Pure.pure]
 | v::u::vs,i,c,w,h,hl,hv,_=>by
  simp only [gG] at hl;have hlt:b<w.heap.size:=(gL h).1;rw [storeCells,Sem.run_bind,dQ,DD h (by simp;omega) (hv v (by simp)),Result.andThen_ok];have e:c.toArray.setIfInBounds (off+i) v=(c.set (off+i) v).toArray:=by simp
  rw [e,stores (u::vs) (i+1) (c.set (off+i) v) _ (mY hlt) (by simp;omega) (fun z hz=>hv z (List.mem_cons_of_mem _ hz)) (by simp),vW];rfl
theorem oE {ty:TypeId} {b off:Nat} {c:List Value} {w:World} {fz:Nat×Nat} (h:w.heap[b]? = some (.cells c.toArray ty fz)):∀ (n i:Nat) (acc:Array Value),off+i+n≤c.length→
  (loadCellsFrom ⟨b,off,none⟩ i n acc).run P w=.ok (acc++((c.drop (off+i)).take n).toArray) w
 | 0,i,acc,_=>by simp [loadCellsFrom,Pure.pure]
 | n+1,i,acc,hl=>by
  have hlt:off+i<c.length:=by omega
  have hc:w.cell? ⟨b,off+i,none⟩=some c[off+i]:=by simp [World.cell?,h,hlt]
  have h1:(load ⟨b,off+i,none⟩).run P w=.ok c[off+i] w:=by simp [load,Sem.run,hc]
  rw [loadCellsFrom,Sem.run_bind,dQ,h1,Result.andThen_ok,oE h n (i+1) _ (by omega)]
  congr 1
  rw [List.drop_eq_getElem_cons hlt,List.take_succ_cons];apply Array.ext';simp [Nat.add_assoc]
theorem F8 {ty:TypeId} {b off:Nat} {c:List Value} {w:World} {fz:Nat×Nat} (h:w.heap[b]? = some (.cells c.toArray ty fz)) (n:Nat) (hl:off+n≤c.length):
  (loadCells ⟨b,off,none⟩ n).run P w=.ok ((c.drop off).take n).toArray w:=by
 rw [loadCells,oE h n 0 #[] (by omega)];simp
theorem aY {t:TypeId} {d:TypeDesc} (h:P.underlying t=some d) (w:World):(underlying t).run P w=.ok d w:=run_underlying h w
theorem vJ {t:TypeId} {i:TypeInfo} (h:P.info? t=some i) (w:World):(typeInfo t).run P w=.ok i w:=by
 simp [typeInfo,program,Bind.bind,Sem.bind,Sem.run,h,Pure.pure]
theorem dW {t n:Nat} (h:sz P t=some n) (w:World):(sizeOf t).run P w=.ok n w:=by
 unfold sz at h
 split at h
 ·rename_i i hi;cases h;rw [sizeOf,Sem.run_bind,vJ hi,Result.andThen_ok];rfl
 ·cases h
theorem kX {t:Nat} {b:Bool} (h:isA P t=some b) (w:World):(isAgg t).run P w=.ok b w:=by
 unfold isA at h;rw [isAgg,Sem.run_bind]
 split at h
 ·rename_i d hd;cases h;rw [aY hd];rfl
 ·rename_i d hd;cases h;rw [aY hd];rfl
 ·rename_i d h1 h2 hd;cases h;rw [aY hd,Result.andThen_ok]
  split
  ·exact (h1 _ rfl).elim
  ·exact (h2 _ _ rfl).elim
  ·rfl
 ·cases h
theorem eR {t:Nat} {x:AV} (h:zeroOf P t=some x):∃ v,VR σ x v∧∀ w,(zeroValue t).run P w=.ok v w:=by
 unfold zeroOf at h
 split at h
 ·rename_i i hi
  split at h
  ·rename_i z hz;exact ⟨z,kA h,fun w=>by rw [zeroValue,Sem.run_bind,vJ hi,Result.andThen_ok,hz];rfl⟩
  ·cases h
 ·cases h
theorem CW {t off:Nat} {l:List AV} {x:AV} (h:partOf P t l off=some x) {c:List Value} (hl:VL σ l c):∃ v,VR σ x v∧∀ w,(part t c.toArray off).run P w=.ok v w:=by
 unfold partOf at h
 split at h
 ·rename_i hA
  split at h
  ·rename_i n hn
   split at h
   ·rename_i l' hl';cases h;refine ⟨_,.agg _ _ (eS hl' hl).1,fun w=>?_⟩;rw [part,Sem.run_bind,kX hA,Result.andThen_ok];simp only [if_true];rw [Sem.run_bind,dW hn,Result.andThen_ok];simp only [Pure.pure,Sem.run]
    congr 2
    apply Array.ext';simp [List.take_drop]
   ·cases h
  ·cases h
 ·rename_i hA;obtain ⟨v,h1,h2⟩:=hl.get h;refine ⟨v,h2,fun w=>?_⟩;rw [part,Sem.run_bind,kX hA,Result.andThen_ok];simp [h1,Pure.pure]
 ·cases h
theorem OR.row {l:List AV} {ty k:Nat} {o:Option Obj} (h:OR σ (.cells l ty) k o):∃ c:List Value,o=some (.cells c.toArray ty (0,0))∧c.length=k∧l.length≤c.length∧VL σ l (c.take l.length):=by
 obtain ⟨c,e,e2,u,e3,e4,e5⟩:=h;subst e5;refine ⟨c,e,e2, ?_,e4⟩;rw [List.length_take] at e3;omega
theorem kU {h:H} {w:World} (hr:HR W σ h w) {t:Nat} {p x:AV} {pv:Value} (hp:VR σ p pv) (hx:loadA P h t p=some x):∃ v,VR σ x v∧(Instr.loadAt t pv).run P w=.ok v w:=by
 unfold loadA at hx
 split at hx
 ·rename_i id off
  split at hx
  ·rename_i l ty hg;obtain ⟨b,k,hb,_,_,ho⟩:=hr.obj _ _ hg;obtain ⟨c,hc,_,hlen,hl⟩:=ho.row;cases hp with
   | ptr _ _ b' k' hb'=>
    obtain ⟨rfl,rfl⟩:b=b'∧k=k':=by rw [hb] at hb';simpa using hb'
    rw [Instr.loadAt,Sem.run_bind];simp only [Instr.sureAddr,Pure.pure,Sem.run,Result.andThen_ok];unfold partOf at hx
    split at hx
    ·rename_i hA
     split at hx
     ·rename_i n hn
      split at hx
      ·rename_i l' hl';cases hx;have hs:=eS hl' hl;refine ⟨_,.agg _ _ hs.1, ?_⟩;rw [loadVar,Sem.run_bind,kX hA,Result.andThen_ok];simp only [if_true];rw [Sem.run_bind,dW hn,Result.andThen_ok,Sem.run_bind];have hs2:=hs.2;rw [List.length_take] at hs2;rw [F8 hc n (by omega),Result.andThen_ok];simp only [Pure.pure,Sem.run]
       congr 3
       rw [List.drop_take,List.take_take]
       congr 1
       omega
      ·cases hx
     ·cases hx
    ·rename_i hA;obtain ⟨v,h1,h2⟩:=hl.get hx;refine ⟨v,h2, ?_⟩;rw [loadVar,Sem.run_bind,kX hA,Result.andThen_ok];have hv:c[off]? = some v:=by
      rw [List.getElem?_take] at h1
      split at h1
      ·exact h1
      ·cases h1
     have hcell:w.cell? ⟨b,off,none⟩=some v:=by simp [World.cell?,hc,hv]
     simp [load,Sem.run,hcell]
    ·cases hx
  ·cases hx
 ·cases hx
theorem E7 {x:AV} {v:Value} (h:VR σ x v) (hx:oneA x=true):CD v=true:=by
 cases h <;> first | rfl | simp [oneA] at hx
theorem GB {l:List AV} {c:List Value} (h:VL σ l c) (ha:l.all oneA=true):∀ v∈c,CD v=true:=by
 induction l generalizing c with
 | nil=>cases h;simp
 | cons x l ih=>
  cases h with
  | cons _ v _ c h1 h2=>
   simp only [List.all_cons,Bool.and_eq_true] at ha;intro u hu;cases hu with
   | head=>exact E7 h1 ha.1
   | tail _ hm=>exact ih h2 ha.2 u hm
theorem OR.put {l l' new:List AV} {ty k off:Nat} {c us:List Value} (hk:c.length=k) (hlen:l.length≤c.length) (hl:VL σ l (c.take l.length)) (hp:putL l off new=some l') (hn:VL σ new us):
  OR σ (.cells l' ty) k (some (.cells (dM c off us).toArray ty (0,0))):=by
 have h1:=p9 hp hl hn;have h2:=eP hp;refine ⟨_,rfl,by rw [jG];exact hk,dM (c.take l.length) off us, ?_,h1, ?_⟩
 ·rw [jG,List.length_take,h2.1];omega
 ·rw [h2.1];cases us with
  | nil=>rfl
  | cons u us=>
   have h3:new.length=(u::us).length:=hn.len;have h4:=h2.2 (fun e=>by rw [e] at h3;simp at h3);rw [oS _ _ _ _ (by omega)]
theorem DE {h h':H} {w:World} (hr:HR W σ h w) {t:Nat} {p x:AV} {pv v:Value} (hp:VR σ p pv) (hv:VR σ x v) (hx:storeA P h t p x=some h'):∃ w',(Instr.storeAt t pv v).run P w=.ok () w'∧HR W σ h' w':=by
 unfold storeA at hx
 split at hx
 ·rename_i id off
  split at hx
  ·rename_i l ty hg;obtain ⟨b,k,hb,_,hlt,ho⟩:=hr.obj _ _ hg;obtain ⟨c,hc,hck,hlen,hl⟩:=ho.row;cases hp with
   | ptr _ _ b' k' hb'=>
    obtain ⟨rfl,rfl⟩:b=b'∧k=k':=by rw [hb] at hb';simpa using hb'
    split at hx
    ·rename_i hcond;obtain ⟨hsz,hone⟩:=hcond
     split at hx
     ·rename_i l' hl';cases hx;have hcx:=cH hv;have hclen:=hcx.len;simp only [Array.length_toList] at hclen;rw [Instr.storeAt,Sem.run_bind];simp only [Instr.sureAddr,Pure.pure,Sem.run,Result.andThen_ok];rw [storeVar,Sem.run_bind,dW hsz,Result.andThen_ok];rw [if_neg (by simp;exact hclen.symm)];cases hne:v.cells.toList with
      | nil=>
       have h0:cellsOf x=[]:=List.eq_nil_of_length_eq_zero (by rw [hclen,← Array.length_toList,hne];rfl);rw [h0] at hl';simp only [putL] at hl';cases hl';exact ⟨w,by simp [storeCells,Pure.pure],hr.same_set hg⟩
      | cons u us=>
       have h4:=(eP hl').2 (fun e=>by rw [e] at hcx;rw [hne] at hcx;cases hcx);have hul:(u::us).length=(cellsOf x).length:=by rw [← hne,Array.length_toList,hclen]
       have hst:=stores (P:=P) (off:=off) (u::us) 0 c w hc (by omega) (by rw [← hne];exact GB hcx hone) (by simp);refine ⟨_,hst,hr.upd hg hb ?_⟩;rw [hne] at hcx;exact OR.put hck hlen hl hl' hcx
     ·cases hx
    ·cases hx
  ·cases hx
 ·cases hx
end Go.Proofs.YtpidmmfjcghmeaaGreat.Ab
namespace Go.Proofs.YtpidmmfjcghmeaaGreat.Ab
open Go.RowKit
variable {P:Program} {σ:Sg} {W:World}
theorem aS {α β:Type} (a:α) (f:α→Sem β):(Pure.pure a >>= f)=f a:=rfl
theorem nL {α:Type}:∀ (x:Sem α),x.bind (fun a=>Sem.pure a)=x:=by
  intro x
  induction x <;> first | rfl | (rename_i ih;simp only [Sem.bind];congr 1;funext v;exact ih v) | (rename_i ih;simp only [Sem.bind,ih])
theorem yE {α β γ:Type} (x:Sem α) (f:α→Sem β) (g:β→Sem γ):(x.bind f).bind g=x.bind fun a=>(f a).bind g:=by
  induction x <;> first | rfl | (rename_i ih;simp only [Sem.bind];congr 1;funext v;exact ih v) | (rename_i ih;simp only [Sem.bind,ih])
instance:LawfulMonad Sem:=LawfulMonad.mk' Sem
  (id_map:=fun x=>nL x)
  (pure_bind:=fun _ _=>rfl)
  (bind_assoc:=fun x f g=>yE x f g)
theorem bH {s:Sem Value} {w w':World} {v:Value} (h:s.run P w=.ok v w'):(do let r ← s;pure (Next.value r):Sem Next).run P w=.ok (.value v) w':=by
  rw [Sem.run_bind,h,Result.andThen_ok];rfl
theorem cU {α:Type} (x:α) (w:World):(Pure.pure x:Sem α).run P w=.ok x w:=rfl
theorem iJ {x:AV} {n:Nat} (h:natOf x=some n) {v:Value} (hv:VR σ x v):∃ k,v=.int k (n:Int):=by
  unfold natOf at h
  split at h
  · cases h;cases hv;exact ⟨_,rfl⟩
  · cases h
theorem mM:∀ {fs:List Field} {pl:List (Nat×Nat)},placesOf P fs=some pl→∀ w,(fs.mapM (fun f=>do pure (f.offset,← sizeOf f.type):Field→Sem (Nat×Nat))).run P w=.ok pl w
  | [],pl,h,w=>by simp [placesOf] at h;subst h;rfl
  | x::l,pl,h,w=>by
    simp only [placesOf] at h
    split at h
    · rename_i n r hn hr;cases h;rw [List.mapM_cons,Sem.run_bind,Sem.run_bind,dW hn,Result.andThen_ok,cU,Result.andThen_ok,Sem.run_bind,mM hr,Result.andThen_ok,cU]
    · cases h
theorem xZ {t:Nat} {f:F} {h:H} {parts:Array (Nat×Operand)} {dst ty pos af gd} {x:AV} {a:Act} (hf:FT σ f.n f.t a.tmps)
    (hx:pureA P f h ⟨dst,.build t parts,ty,pos,af,gd⟩=some x):∃ v,VR σ x v∧∀ w,(Instr.build t (parts.map fun (i,x)=>(i,a.eval x))).run P w=.ok v w:=by
  have hparts:(parts.map fun (i,x)=>(i,a.eval x)).toList=parts.toList.map fun p=>(p.1,a.eval p.2):=by simp
  simp only [pureA,buildP] at hx
  split at hx
  · rename_i z fs ps hz hu hps;obtain ⟨zv,hzv,hzr⟩:=eR (σ:=σ) hz
    split at hx
    · rename_i pl hpl
      split at hx
      · rename_i c hc;cases hx;obtain ⟨c',h1,h2⟩:=kS hc (pI hf hps) (cH hzv);refine ⟨_,.agg _ _ h2,fun w=>?_⟩;have hm:(fs.mapM fun f=>do pure (f.offset,← sizeOf f.type):Sem (Array (Nat×Nat))).run P w=.ok pl.toArray w:=by
          rw [Array.mapM_eq_mapM_toList,map_eq_pure_bind,Sem.run_bind,mM hpl,Result.andThen_ok];rfl
        rw [Instr.build,Sem.run_bind,hzr,Result.andThen_ok,Sem.run_bind,aY hu,Result.andThen_ok];dsimp only;rw [Sem.run_bind,hm,Result.andThen_ok,hparts];have hpl':(fun (i:Nat)=>pl.toArray[i]?)=fun (i:Nat)=>pl[i]? := by funext i;simp
        simp only [hpl'];simp only [Array.toArray_toList] at h1;rw [h1];rfl
      · cases hx
    · cases hx
  · rename_i z n e ps hz hu hps;obtain ⟨zv,hzv,hzr⟩:=eR (σ:=σ) hz
    split at hx
    · rename_i k hk
      split at hx
      · rename_i c hc;cases hx;obtain ⟨c',h1,h2⟩:=kS hc (pI hf hps) (cH hzv);refine ⟨_,.agg _ _ h2,fun w=>?_⟩;rw [Instr.build,Sem.run_bind,hzr,Result.andThen_ok,Sem.run_bind,aY hu,Result.andThen_ok];dsimp only;rw [Sem.run_bind,dW hk,Result.andThen_ok,hparts];simp only [Array.toArray_toList] at h1;rw [h1];rfl
      · cases hx
    · cases hx
  · cases hx
theorem EE {d:TypeDesc} {x y:AV} (h:eqNil d x y=true) {t:Nat} (hd:P.underlying t=some d) {u v:Value} (hu:VR σ x u) (hv:VR σ y v) (w:World):
    (Op.equal t u v).run P w=.ok false w∧(∀ op X Y,(eqGuard op t X Y u v).run P w=.ok () w)∧(∀ b,binOp .eql t u v=(do pure (.bool (← Op.equal t u v)))∨b=0)∧(∀ b,binOp .neq t u v=(do pure (.bool (!(← Op.equal t u v))))∨b=0):=by
  have h10:Op.maxDepth=9999+1:=rfl;unfold eqNil at h
  split at h <;> first
    | (cases h;done)
    | (cases hu;cases hv
       refine ⟨?_,fun op X Y=>?_,fun b=>.inl rfl,fun b=>.inl rfl⟩
       · rw [Op.equal,h10,Op.equalIn,Sem.run_bind,aY hd,Result.andThen_ok];rfl
       · cases op <;> rfl)
theorem FI {d:TypeDesc} {x y:AV} (h:eqNil d x y=true) {t:Nat} (hd:P.underlying t=some d) {u v:Value} (hu:VR σ x u) (hv:VR σ y v) (w:World) (X Y:Operand):
    (do eqGuard .eql t X Y u v;binOp .eql t u v:Sem Value).run P w=.ok (.bool false) w∧(do eqGuard .neq t X Y u v;binOp .neq t u v:Sem Value).run P w=.ok (.bool true) w:=by
  obtain ⟨h1,h2,h3,h4⟩:=EE h hd hu hv w;constructor
  · rw [Sem.run_bind,h2,Result.andThen_ok,(h3 1).resolve_right (by decide),Sem.run_bind,h1,Result.andThen_ok];rfl
  · rw [Sem.run_bind,h2,Result.andThen_ok,(h4 1).resolve_right (by decide),Sem.run_bind,h1,Result.andThen_ok];rfl
theorem xY {k:IntKind} {n y:Nat} (h:n≤y) (code:BoundsCode) (w:World):(Instr.sliceBound (.int k (n:Int)) y code).run P w=.ok n w:=by
  rw [Instr.sliceBound,Sem.run_bind];simp only [asIntOf,Pure.pure,Sem.run,Result.andThen_ok];rw [if_pos ⟨by omega,by omega⟩];simp [Sem.run]
def NO (x:Option Nat) (v:Option Value):Prop:=(x=none∧v=none)∨∃ n k,x=some n∧v=some (.int k (n:Int))
theorem pV {f:F} {a:Act} (hf:FT σ f.n f.t a.tmps) {lo:Option Operand} {x:Option AV} {n:Option Nat} (h1:evO f lo=some x) (h2:natO x=some n):NO n (lo.map a.eval):=by
  unfold evO at h1
  split at h1
  · cases h1;simp [natO] at h2;subst h2;exact .inl ⟨rfl,rfl⟩
  · rename_i o
    split at h1
    · rename_i v hv;cases h1;simp only [natO] at h2
      split at h2
      · rename_i m hm;cases h2;obtain ⟨k,hk⟩:=iJ hm (aU hf hv);exact .inr ⟨m,k,rfl,by simp [hk]⟩
      · cases h2
    · cases h1
def kL (sb:Value→Nat→BoundsCode→Sem Nat) (isSlice:Bool) (len cap:Nat) (low high max:Option Value):Sem (Nat×Nat×Nat):=do
  let m ← match max with
    | some v=>sb v cap (if isSlice then .slice3Acap else .slice3Alen)
    | none=>pure cap
  let h ← match high,max with
    | some v,some _=>sb v m .slice3B
    | some v,none=>sb v m (if isSlice then .sliceAcap else .sliceAlen)
    | none,none=>pure len
    | none, some _ => stuck "Slice: max without high"
  let l ← match low with
    | some v=>sb v h (if max.isSome then .slice3C else .sliceB)
    | none=>pure 0
  pure (l,h,m)
theorem D5 (b:Bool) (len cap:Nat) (lo hi mx:Option Value):Instr.sliceBounds b len cap lo hi mx=kL Instr.sliceBound b len cap lo hi mx:=rfl
theorem CQ {sb:Value→Nat→BoundsCode→Sem Nat} (len cap:Nat) (w:World):(kL sb true len cap none none none).run P w=.ok (0,len,cap) w:=rfl
section
variable {sb:Value→Nat→BoundsCode→Sem Nat} (hsb:∀ (k:IntKind) (n y:Nat),n≤y→∀ (code:BoundsCode) (w:World),(sb (.int k (n:Int)) y code).run P w=.ok n w)
include hsb
theorem CR {len cap n:Nat} {k:IntKind} (h:n≤cap) (w:World):(kL sb true len cap none (some (.int k (n:Int))) none).run P w=.ok (0,n,cap) w:=by
  simp only [kL,aS,Sem.run_bind,hsb _ _ _ h,Result.andThen_ok,cU]
theorem CS {len cap n m:Nat} {k k':IntKind} (h:n≤m) (h':m≤cap) (w:World):(kL sb true len cap none (some (.int k (n:Int))) (some (.int k' (m:Int)))).run P w=.ok (0,n,m) w:=by
  simp only [kL,aS,Sem.run_bind,hsb _ _ _ h,hsb _ _ _ h',Result.andThen_ok,cU]
theorem CT {len cap l:Nat} {k:IntKind} (h:l≤len) (w:World):(kL sb true len cap (some (.int k (l:Int))) none none).run P w=.ok (l,len,cap) w:=by
  simp only [kL,aS,Sem.run_bind,hsb _ _ _ h,Result.andThen_ok,cU]
theorem CU {len cap l n:Nat} {k k':IntKind} (h:l≤n) (h':n≤cap) (w:World):(kL sb true len cap (some (.int k (l:Int))) (some (.int k' (n:Int))) none).run P w=.ok (l,n,cap) w:=by
  simp only [kL,aS,Sem.run_bind,hsb _ _ _ h,hsb _ _ _ h',Result.andThen_ok,cU]
theorem CV {len cap l n m:Nat} {k k' k2:IntKind} (h:l≤n) (h':n≤m) (h2:m≤cap) (w:World):(kL sb true len cap (some (.int k (l:Int))) (some (.int k' (n:Int))) (some (.int k2 (m:Int)))).run P w=.ok (l,n,m) w:=by
  simp only [kL,Sem.run_bind,hsb _ _ _ h,hsb _ _ _ h',hsb _ _ _ h2,Result.andThen_ok,cU]
end
theorem tS {len cap:Nat} {lo hi mx:Option Nat} {lv hv mv:Option Value} (hl:NO lo lv) (hh:NO hi hv) (hm:NO mx mv) (hmh:¬(mx.isSome=true∧hi.isNone=true)) (h1:lo.getD 0≤hi.getD len) (h2:hi.getD len≤mx.getD cap) (h3:mx.getD cap≤cap) (w:World):
    (Instr.sliceBounds true len cap lv hv mv).run P w=.ok (lo.getD 0,hi.getD len,mx.getD cap) w:=by
  rw [D5];have hsb:=fun (k:IntKind) (n y:Nat) (h:n≤y) (code:BoundsCode) (w:World)=>xY (P:=P) (k:=k) h code w
  revert hsb
  generalize Instr.sliceBound=sb;intro hsb;rcases hl with ⟨rfl,rfl⟩ | ⟨l,k1,rfl,rfl⟩ <;> rcases hh with ⟨rfl,rfl⟩ | ⟨h,k2,rfl,rfl⟩ <;> rcases hm with ⟨rfl,rfl⟩ | ⟨m,k3,rfl,rfl⟩ <;> simp only [Option.getD_none,Option.getD_some] at h1 h2 h3 ⊢
  · exact CQ _ _ _
  · exact (hmh ⟨rfl,rfl⟩).elim
  · exact CR hsb h2 _
  · exact CS hsb h2 h3 _
  · exact CT hsb h1 _
  · exact (hmh ⟨rfl,rfl⟩).elim
  · exact CU hsb h1 h2 _
  · exact CV hsb h1 h2 h3 _
theorem pG {size off len cap:Nat} {lo hi mx:Option Nat} {r:Nat×Nat×Nat} (h:cutK size off len cap lo hi mx=some r):
    lo.getD 0≤hi.getD len∧hi.getD len≤mx.getD cap∧mx.getD cap≤cap∧r=(if mx.getD cap=lo.getD 0 then off else off+lo.getD 0*size,hi.getD len-lo.getD 0,mx.getD cap-lo.getD 0):=by
  unfold cutK at h;simp only at h
  split at h
  · rename_i hc;cases h;exact ⟨hc.1,hc.2.1,hc.2.2,rfl⟩
  · cases h
theorem dD {t e n:Nat} (hu:P.underlying t=some (.slice e)) (hn:sz P e=some n) {A:Option Addr} {len cap:Nat} {lo hi mx:Option Nat} {lv hv mv:Option Value} (hl:NO lo lv) (hh:NO hi hv) (hm:NO mx mv) (hmh:¬(mx.isSome=true∧hi.isNone=true))
    (h1:lo.getD 0≤hi.getD len) (h2:hi.getD len≤mx.getD cap) (h3:mx.getD cap≤cap) (w:World):
    (Instr.sliceAt t (.slice A len cap) lv hv mv).run P w=.ok (.slice (if mx.getD cap=lo.getD 0 then A else A.map (·.add (lo.getD 0*n))) (hi.getD len-lo.getD 0) (mx.getD cap-lo.getD 0)) w:=by
  rw [Instr.sliceAt,Sem.run_bind,aY hu,Result.andThen_ok];dsimp only;rw [Instr.slice,Sem.run_bind,aY hu,Result.andThen_ok];dsimp only;rw [Sem.run_bind,tS hl hh hm hmh h1 h2 h3,Result.andThen_ok];dsimp only;rw [Sem.run_bind,dW hn,Result.andThen_ok];rfl
theorem CZ {h:H} {w:World} (hr:HR W σ h w) {x y:AV} {v:Value} {t e n:Nat} (hu:P.underlying t=some (.slice e)) (hn:sz P e=some n) {lo hi mx:Option Nat} {lv hv mv:Option Value} (hl:NO lo lv) (hh:NO hi hv) (hm:NO mx mv)
    (hx:VR σ x v) (hy:sliceA h n x lo hi mx=some y):∃ u,VR σ y u∧∀ w',(Instr.sliceAt t v lv hv mv).run P w'=.ok u w':=by
  unfold sliceA at hy
  split at hy
  · cases hy
  · rename_i hmh;have hmh:¬(mx.isSome=true∧hi.isNone=true):=fun e=>hmh (by simp [e.1,e.2])
    split at hy
    · split at hy
      · rename_i o hc;cases hy;cases hx;obtain ⟨h1,h2,h3,h4⟩:=pG hc;have h5:hi.getD 0=0:=by omega
        have h6:mx.getD 0=0:=by omega
        have h7:lo.getD 0=0:=by omega
        refine ⟨_,.ns,fun w'=>?_⟩;rw [dD hu hn hl hh hm hmh h1 h2 h3,h5,h6,h7];rfl
      · cases hy
    · rename_i id off len cap
      split at hy
      · rename_i o m c hc;cases hy;obtain ⟨h1,h2,h3,h4⟩:=pG hc;cases hx with
        | sl _ _ _ _ b k hb=>
          refine ⟨_, ?_,fun w'=>dD hu hn hl hh hm hmh h1 h2 h3 w'⟩;cases h4
          split
          · exact .sl _ _ _ _ b k hb
          · rw [Option.map_some,dQ];exact .sl _ _ _ _ b k hb
      · cases hy
    · rename_i id off len s
      split at hy
      · cases hy
      · rename_i hs;have hs1:s=n:=Classical.byContradiction fun e=>hs (.inl e);have hs0:0<n:=Nat.pos_of_ne_zero fun e=>hs (.inr e);subst hs1
        split at hy
        · rename_i l ty hg;obtain ⟨b,k,hb,_,_,ho⟩:=hr.obj _ _ hg;obtain ⟨cc,hcc,hck,hlen,_⟩:=ho.row;cases hx with
          | so _ _ _ _ b' k' c hb' hk=>
            obtain ⟨rfl,rfl⟩:b=b'∧k=k':=by rw [hb] at hb';simpa using hb'
            have hcap:∀ m,off+m*s≤l.length→m≤c:=fun m hm=>by
              have:m*s≤c*s:=by omega
              exact Nat.le_of_mul_le_mul_right this hs0
            cases mx with
            | some m=>
              simp only at hy
              split at hy
              · rename_i hml
                split at hy
                · rename_i o nn cc2 hc;cases hy;obtain ⟨h1,h2,h3,h4⟩:=pG hc;refine ⟨_, ?_,fun w'=>dD (cap:=c) hu hn hl hh hm hmh h1 (by simpa using h2) (by simpa using hcap m hml) w'⟩;cases h4;simp only [Option.getD_some]
                  split
                  · exact .sl _ _ _ _ b k hb
                  · rw [Option.map_some,dQ];exact .sl _ _ _ _ b k hb
                · cases hy
              · cases hy
            | none=>
              simp only at hy
              split at hy
              · rename_i hc;obtain ⟨h1,h2⟩:=hc;have h3:=hcap _ h2
                split at hy
                · rename_i h0;cases hy;refine ⟨_, ?_,fun w'=>dD hu hn hl hh hm hmh h1 h3 (gO _) w'⟩;rw [h0];simp only [Option.getD_none,Nat.zero_mul,Nat.sub_zero]
                  split
                  · exact .so _ _ _ _ b k c hb hk
                  · rw [Option.map_some,dQ];exact .so _ _ _ _ b k c hb hk
                · rename_i h0
                  split at hy
                  · rename_i hlt;cases hy;refine ⟨_, ?_,fun w'=>dD hu hn hl hh hm hmh h1 h3 (gO _) w'⟩;simp only [Option.getD_none] at h3 ⊢;rw [if_neg (by omega),Option.map_some,dQ];refine .so _ _ _ _ b k _ hb ?_;rw [Nat.mul_sub_right_distrib];have:lo.getD 0*s≤c*s:=Nat.mul_le_mul_right _ (by omega);omega
                  · cases hy;have he:hi.getD len-lo.getD 0=0:=by omega
                    refine ⟨_, ?_,fun w'=>dD hu hn hl hh hm hmh h1 h3 (gO _) w'⟩;rw [he]
                    split
                    · exact .es _ _
                    · rw [Option.map_some];exact .es _ _
              · cases hy
        · cases hy
    · cases hy
end Go.Proofs.YtpidmmfjcghmeaaGreat.Ab
namespace Go.Proofs.YtpidmmfjcghmeaaGreat.Ab
open Go.RowKit
variable {P:Program} {σ:Sg} {W:World}
theorem lU {f:F} {a:Act} (hf:FT σ f.n f.t a.tmps) {l:Array Operand} {vs:List AV} (h:evL f l.toList=some vs):∃ us:List Value,l.map a.eval=us.toArray∧VL σ vs us:=
 ⟨_,by rw [← Array.toList_map],AQ hf h⟩
theorem i4 (ρ:Operand→Value) (dst:Option Tmp) (b:Builtin) (xs:Array Operand) (ats:Array TypeId) (ty:TypeId) (pos:String) (af:Array Edge) (gd:Option (Nat×Bool)):
  ∃ cs,execOp ρ ⟨dst,.call ⟨.builtin b,xs,ats⟩,ty,pos,af,gd⟩=builtin b ats ty cs (xs.map ρ):=⟨_,rfl⟩
theorem fX {t:Nat} {ats:List TypeId} {ty:TypeId} {v:Value} {n:Nat} (w:World)
  (h:(∃ e a c,P.underlying t=some (.slice e)∧v=.slice a n c)∨(∃ s,P.underlying t=some .string∧v=.string s∧n=s.size)∨(∃ k e,P.underlying t=some (.map k e)∧v=.map none∧n=0)):
  (Builtin.len_ (t::ats).toArray ty #[v]).run P w=.ok (.int .i64 n) w:=by
 unfold Builtin.len_;simp only [List.getElem?_toArray,List.getElem?_cons_zero];rcases h with ⟨e,a,c,he,rfl⟩ | ⟨s,he,rfl,rfl⟩ | ⟨k,e,he,rfl,rfl⟩ <;> (refine Eq.trans (Sem.run_bind _ _ _ _) ?_;rw [aY he,Result.andThen_ok];rfl)
theorem vI {t:Nat} {ats:List TypeId} {ty:TypeId} {e:Nat} {A:Option Addr} {n c:Nat} (w:World) (he:P.underlying t=some (.slice e)):
  (Builtin.cap_ (t::ats).toArray ty #[.slice A n c]).run P w=.ok (.int .i64 c) w:=by
 unfold Builtin.cap_;simp only [List.getElem?_toArray,List.getElem?_cons_zero];refine Eq.trans (Sem.run_bind _ _ _ _) ?_;rw [aY he,Result.andThen_ok];rfl
theorem CI {b:Builtin} {d:TypeDesc} {args:List AV} {x:AV} (h:pureB d b args=some x) {t:Nat} (hd:P.underlying t=some d) {ats:List TypeId} {us:List Value} (hu:VL σ args us) (ty:TypeId) (cs:Array Bool):
  ∃ v,VR σ x v∧∀ w,(builtin b (t::ats).toArray ty cs us.toArray).run P w=.ok (.value v) w:=by
 unfold pureB at h
 split at h
 ·cases h;cases hu with | cons _ v _ _ h1 h2=>cases h2;cases h1;exact ⟨_,.i _ _,fun w=>bH (fX w (.inl ⟨_,_,_,hd,rfl⟩))⟩
 ·cases h;cases hu with | cons _ v _ _ h1 h2=>cases h2;cases h1;exact ⟨_,.i _ _,fun w=>bH (fX w (.inl ⟨_,_,_,hd,rfl⟩))⟩
 ·cases h;cases hu with | cons _ v _ _ h1 h2=>cases h2;cases h1;exact ⟨_,.i _ _,fun w=>bH (fX (n:=0) w (.inl ⟨_,_,_,hd,rfl⟩))⟩
 ·cases h;cases hu with | cons _ v _ _ h1 h2=>cases h2;cases h1;exact ⟨_,.i _ _,fun w=>bH (fX (n:=0) w (.inl ⟨_,_,_,hd,rfl⟩))⟩
 ·cases h;cases hu with | cons _ v _ _ h1 h2=>cases h2;cases h1;exact ⟨_,.i _ _,fun w=>bH (fX w (.inr (.inl ⟨_,hd,rfl,rfl⟩)))⟩
 ·cases h;cases hu with | cons _ v _ _ h1 h2=>cases h2;cases h1;exact ⟨_,.i _ _,fun w=>bH (fX (n:=0) w (.inr (.inr ⟨_,_,hd,rfl,rfl⟩)))⟩
 ·cases h;cases hu with | cons _ v _ _ h1 h2=>cases h2;cases h1;exact ⟨_,.i _ _,fun w=>bH (vI w hd)⟩
 ·cases h;cases hu with | cons _ v _ _ h1 h2=>cases h2;cases h1;exact ⟨_,.i _ _,fun w=>bH (vI (c:=0) w hd)⟩
 ·cases h;cases hu with | cons _ v _ _ h1 h2=>cases h1;cases h2 with | cons _ v _ _ h3 h4=>cases h3;cases h4;exact ⟨_,.i _ _,fun w=>bH rfl⟩
 ·cases h;cases hu with | cons _ v _ _ h1 h2=>cases h1;cases h2 with | cons _ v _ _ h3 h4=>cases h3;cases h4;exact ⟨_,.i _ _,fun w=>bH rfl⟩
 ·cases h
theorem fP {x:Bool} {v:Value} (h:VR σ (.b x) v):v=.bool x:=by cases h;rfl
theorem oU {t e n i len:Nat} {k:IntKind} {b off c:Nat} (hu:P.underlying t=some (.slice e)) (hn:sz P e=some n) (hi:i<len) (w:World):
  (Instr.indexAt t (.slice (some ⟨b,off,none⟩) len c) (.int k (i:Int))).run P w=.ok (.pointer (some ⟨b,off+i*n,none⟩)) w:=by
 unfold Instr.indexAt;simp only [asIntOf,aS];rw [Sem.run_bind,aY hu,Result.andThen_ok];simp only;rw [Sem.run_bind,aY hu,Result.andThen_ok];simp only;rw [if_pos ⟨by omega,by omega⟩,Sem.run_bind,dW hn,Result.andThen_ok,cU,dQ];simp
theorem tT {t e n i len:Nat} {k:IntKind} {b off:Nat} (hu:P.underlying t=some (.array len e)) (hn:sz P e=some n) (hi:i<len) (w:World):
  (Instr.indexAt t (.pointer (some ⟨b,off,none⟩)) (.int k (i:Int))).run P w=.ok (.pointer (some ⟨b,off+i*n,none⟩)) w:=by
 unfold Instr.indexAt;simp only [asIntOf,aS];rw [Sem.run_bind,aY hu,Result.andThen_ok];simp only [Instr.sureAddr,aS];rw [Sem.run_bind,aY hu,Result.andThen_ok];simp only;rw [if_pos ⟨by omega,by omega⟩,Sem.run_bind,dW hn,Result.andThen_ok,cU,dQ];simp
theorem yA {s n k:Nat} {fs:Array Field} {fd:Field} {b off:Nat} (hu:P.underlying s=some (.struct fs)) (hk:fs[k]? = some fd) (hn:sz P fd.type=some (n+1)) (w:World):
  (Instr.fieldAt s (.pointer (some ⟨b,off,none⟩)) k).run P w=.ok (.pointer (some ⟨b,off+fd.offset,none⟩)) w:=by
 unfold Instr.fieldAt;rw [Sem.run_bind,aY hu,Result.andThen_ok];simp only [hk,Instr.sureAddr,aS];rw [Sem.run_bind];unfold fieldPlace;rw [Sem.run_bind,dW hn,Result.andThen_ok,if_neg (by omega),cU,Result.andThen_ok,cU,dQ]
theorem pP {n:Int} {x:AV} (h:in64 n=some x):x=.i .i64 (IntKind.i64.wrap n):=by
 unfold in64 at h
 split at h
 ·rename_i hc;cases h;rw [IntWalk.i64_in n hc]
 ·cases h
theorem EH {op:BinOp} {x y r:AV} (h:fastBin op x y=some r) {u v:Value} (hu:VR σ x u) (hv:VR σ y v) (t:TypeId) (X:Operand×Operand):
  ∃ z,VR σ r z∧∀ w,(do let r ← (do eqGuard op t X.1 X.2 u v;binOp op t u v:Sem Value);pure (Next.value r):Sem Next).run P w=.ok (.value z) w:=by
 unfold fastBin at h
 split at h
 ·cases hu;cases hv
  split at h
  ·rw [pP h];exact ⟨_,.i _ _,fun w=>rfl⟩
  ·rw [pP h];exact ⟨_,.i _ _,fun w=>rfl⟩
  ·rw [pP h];exact ⟨_,.i _ _,fun w=>rfl⟩
  all_goals first | (cases h;exact ⟨_,.b _,fun w=>rfl⟩) | cases h
 ·cases hu;cases hv
  split at h
  all_goals first | (cases h;exact ⟨_,.b _,fun w=>rfl⟩) | cases h
 ·cases h
theorem p8 {f:F} {h:H} {a:Act} {w:World} (hf:FT σ f.n f.t a.tmps) (hr:HR W σ h w) {o:Oper} {x:AV} (hx:pureA P f h o=some x):
  ∃ v,VR σ x v∧∀ w',(execOp a.eval o).run P w'=.ok (.value v) w':=by
 obtain ⟨dst,op,ty,pos,af,gd⟩:=o;cases op with
 | move y=>exact ⟨_,aU hf hx,fun w'=>rfl⟩
 | assign y=>exact ⟨_,aU hf hx,fun w'=>rfl⟩
 | pick c y z=>
  simp only [pureA,pickP] at hx
  split at hx
  ·rename_i hc;refine ⟨_,aU hf hx,fun w'=>?_⟩;simp only [execOp,fP (aU hf hc)];rfl
  ·rename_i hc;refine ⟨_,aU hf hx,fun w'=>?_⟩;simp only [execOp,fP (aU hf hc)];rfl
  ·cases hx
 | build t parts=>
  obtain ⟨v,h1,h2⟩:=xZ hf hx;exact ⟨v,h1,fun w'=>bH (h2 w')⟩
 | nilCheck y=>
  simp only [pureA,nilCheckP] at hx
  split at hx
  ·rename_i hy;cases hx;have:=aU hf hy;refine ⟨_,this,fun w'=>?_⟩;simp only [execOp];generalize a.eval y=u at this ⊢;cases this;rfl
  ·rename_i hy;cases hx;have:=aU hf hy;refine ⟨_,this,fun w'=>?_⟩;simp only [execOp];generalize a.eval y=u at this ⊢;cases this;rfl
  ·cases hx
 | binOp op t y z yt=>
  simp only [pureA,binOpP] at hx
  split at hx
  ·rename_i u v hu hv
   split at hx
   ·rename_i r hfb;cases hx;exact EH hfb (aU hf hu) (aU hf hv) t (y,z)
   ·split at hx
    ·rename_i d hd
     split at hx
     ·rename_i hn;have h1:=FI hn hd (aU hf hu) (aU hf hv)
      split at hx
      ·cases hx;exact ⟨_,.b _,fun w'=>bH (h1 w' y z).1⟩
      ·cases hx;exact ⟨_,.b _,fun w'=>bH (h1 w' y z).2⟩
      ·cases hx
     ·exact i9 hf (fun _ _ e=>by cases e) hx
    ·cases hx
  ·cases hx
 | unOp op t y=>
  simp only [pureA,unOpP] at hx
  split at hx
  ·rename_i v hv;cases hx;refine ⟨_,.b _,fun w'=>bH ?_⟩;rw [fP (aU hf hv)];rfl
  ·exact i9 hf (fun _ _ e=>by cases e) hx
 | convert s d y=>exact i9 hf (fun _ _ e=>by cases e) hx
 | index t y z=>exact i9 hf (fun _ _ e=>by cases e) hx
 | makeInterface t y=>
  simp only [pureA,makeInterfaceP] at hx
  split at hx
  ·cases hx
  ·rename_i d v h1 hd hv;cases hx;refine ⟨_,.ifc t _ _ (aU hf hv),fun w'=>bH ?_⟩;rw [Instr.makeInterface,Sem.run_bind,aY hd,Result.andThen_ok]
   split
   ·rename_i e;exact (h1 _ rfl).elim
   ·rfl
  ·cases hx
 | makeFunc fn first cap=>
  simp only [pureA,makeFuncP] at hx
  split at hx
  ·rename_i g l m hl hm;cases hx;obtain ⟨us,h1,h2⟩:=lU hf hl;obtain ⟨vs,h3,h4⟩:=lU hf hm;refine ⟨_,.fn _ _ _ _ _ h2 h4,fun w'=>bH ?_⟩;rw [h1,h3];rfl
  ·cases hx
 | slice t y lo hi mx=>
  simp only [pureA,sliceP] at hx
  split at hx
  ·rename_i e v l1 l2 l3 hu hv h1 h2 h3
   split at hx
   ·rename_i n1 n2 n3 n h4 h5 h6 hn;obtain ⟨u,h7,h8⟩:=CZ hr hu hn (pV hf h1 h4) (pV hf h2 h5) (pV hf h3 h6) (aU hf hv) hx;exact ⟨u,h7,fun w'=>bH (h8 w')⟩
   ·cases hx
  ·exact i9 hf (fun _ _ e=>by cases e) hx
  ·cases hx
 | fieldAddr s y k=>
  simp only [pureA,fieldAddrP] at hx
  split at hx
  ·rename_i fs id off hu hy
   split at hx
   ·rename_i fd hk
    split at hx
    ·rename_i n hn;cases hx;have:=aU hf hy;cases hv:a.eval y <;> rw [hv] at this <;> cases this;rename_i b k' hb;exact ⟨_,.ptr _ _ b k' hb,fun w'=>bH (by rw [hv];exact yA hu hk hn w')⟩
    ·cases hx
   ·cases hx
  ·cases hx
 | field t y k=>
  simp only [pureA,fieldP] at hx
  split at hx
  ·rename_i fs l hu hy
   split at hx
   ·rename_i fd hk;have:=aU hf hy;cases hv:a.eval y <;> rw [hv] at this <;> cases this;rename_i xs hl;obtain ⟨v,h1,h2⟩:=CW hx hl;refine ⟨v,h1,fun w'=>bH ?_⟩;rw [hv,Instr.field,Sem.run_bind,aY hu,Result.andThen_ok];simp only [hk,asAgg,aS];exact h2 w'
   ·cases hx
  ·cases hx
 | indexAddr t y z=>
  simp only [pureA,indexAddrP] at hx
  split at hx
  ·rename_i e id off len cap iv hu hy hz
   split at hx
   ·rename_i n i hn hi
    split at hx
    ·rename_i hlt;cases hx;obtain ⟨k,hk⟩:=iJ hi (aU hf hz);have:=aU hf hy;cases hv:a.eval y <;> rw [hv] at this <;> cases this;rename_i b k' hb;exact ⟨_,.ptr _ _ b k' hb,fun w'=>bH (by rw [hv,hk];exact oU hu hn hlt w')⟩
    ·cases hx
   ·cases hx
  ·rename_i e id off len s iv hu hy hz
   split at hx
   ·rename_i n i hn hi
    split at hx
    ·rename_i hlt;cases hx;obtain ⟨k,hk⟩:=iJ hi (aU hf hz);have:=aU hf hy;cases hv:a.eval y <;> rw [hv] at this <;> cases this;rename_i c b k' hb h1;exact ⟨_,.ptr _ _ b k' hb,fun w'=>bH (by rw [hv,hk];exact oU hu hn hlt w')⟩
    ·cases hx
   ·cases hx
  ·rename_i len e id off iv hu hy hz
   split at hx
   ·rename_i n i hn hi
    split at hx
    ·rename_i hlt;cases hx;obtain ⟨k,hk⟩:=iJ hi (aU hf hz);have:=aU hf hy;cases hv:a.eval y <;> rw [hv] at this <;> cases this;rename_i b k' hb;exact ⟨_,.ptr _ _ b k' hb,fun w'=>bH (by rw [hv,hk];exact tT hu hn hlt w')⟩
    ·cases hx
   ·cases hx
  ·cases hx
 | extract y k=>
  simp only [pureA,extractP] at hx
  split at hx
  ·rename_i l hy;have:=aU hf hy;cases hv:a.eval y <;> rw [hv] at this <;> cases this;rename_i xs hl;obtain ⟨v,h1,h2⟩:=hl.get hx;refine ⟨v,h2,fun w'=>bH ?_⟩;rw [hv,Instr.extract];simp [h1]
  ·cases hx
 | call c=>
  obtain ⟨callee,args,ats⟩:=c;simp only [pureA,callP] at hx
  split at hx
  ·rename_i b
   split at hx
   ·rename_i aj t ts ha ht
    split at hx
    ·rename_i d hd;obtain ⟨us,h1,h2⟩:=lU hf ha;obtain ⟨cs,hcs⟩:=i4 a.eval dst b args ats ty pos af gd;obtain ⟨v,h3,h4⟩:=CI (ats:=ts) hx hd h2 ty cs;refine ⟨v,h3,fun w'=>?_⟩;rw [hcs,h1,show ats=(t::ts).toArray by rw [← ht]];exact h4 w'
    ·cases hx
   ·cases hx
  ·cases hx
 | typeAssert y xt t ok=>
  cases ok with
  | false=>simp only [pureA] at hx;cases hx
  | true=>
   simp only [pureA,typeAssertP] at hx
   split at hx
   ·rename_i d z hy hd hz;cases hx;obtain ⟨zv,hzv,hzr⟩:=eR (σ:=σ) hz;have h1:=aU hf hy;cases hv:a.eval y <;> rw [hv] at h1 <;> cases h1;refine ⟨.tuple #[zv,.bool false],.tup _ [zv,.bool false] (.cons _ _ _ _ hzv (.cons _ _ _ _ (.b _) .nil)),fun w'=>bH ?_⟩;rw [hv];unfold Instr.typeAssert;rw [Sem.run_bind,aY hd,Result.andThen_ok];cases d <;> (simp only [if_true];rw [Sem.run_bind,hzr,Result.andThen_ok];rfl)
   ·cases hx
 | alloc _ | box _ _ | buildSlice _ _ _ | insert _ _ _ _ | load _ _ | store _ _ _ | ready _ | waits _ | sliceToArrayPointer _ _ | makeMap _ _ | makeChan _ _ | makeSlice _ _ _ | lookup _ _ _ _ | mapUpdate _ _ _ _ | mapEntry _ _ _
 | entryStore _ _ _ _ | range _ _ | next _ _ | entry _ | go _ | defer _ | panic _ | send _ _ | recv _ _ _ | select _ _=>simp only [pureA] at hx;cases hx
end Go.Proofs.YtpidmmfjcghmeaaGreat.Ab
