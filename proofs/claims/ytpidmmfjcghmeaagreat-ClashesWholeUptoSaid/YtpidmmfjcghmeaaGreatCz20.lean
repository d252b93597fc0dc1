/- Towards clashesWhole_upto. -/
import Derived.Test.YtpidmmfjcghmeaaGreatCz17
import Derived.RecoverIn
set_option maxRecDepth 100000
set_option maxHeartbeats 16000000
set_option linter.all false
namespace Go.Proofs.YtpidmmfjcghmeaaGreat.Ab
open Go.RowKit
variable {P:Program} {σ:Sg} {W:World}
def k9 (P:Program) (W:World) (dr:fH):Prop:=
 ∀ i ops f h f' h',dr i ops f h=some (f',h')→∀ σ a w,FR σ f a→HR W σ h w→(Code.region i ops true).wp P (XQ W σ .nrm f' h') a w
def JW (P:Program) (c:Code) (Q:Exit→Act→World→Prop) (r:Code) (a:Act) (w:World):Prop:=
 ∀ (b:Frame) (k:List Item) (cs:List Frame),∃ e a' w',Q e a' w'∧Arrives P (lone (b.at a (.code r::.inScope c::k)) cs w) b k cs e a' w'
theorem rW {c r:Code} {Q Q1:Exit→Act→World→Prop} {a:Act} {w:World} (h:r.wp P Q1 a w) (hg:∀ l a w,Q1 (.goto l) a w→∃ r',findLabel c l=some r'∧JW P c Q r' a w)
  (hq:∀ e a w,(∀ l,e≠.goto l)→Q1 e a w→Q e a w):JW P c Q r a w:=by
 intro b k cs;obtain ⟨e,a₁,w₁,h1,harr⟩:=h b (.inScope c::k) cs;cases e with
 | normal=>exact ⟨.normal,a₁,w₁,hq _ _ _ (fun _ e=>by cases e) h1,Steps.trans harr (.one step_inScope)⟩
 | exit id=>exact ⟨.exit id,a₁,w₁,hq _ _ _ (fun _ e=>by cases e) h1,fun k' hk=>harr k' (by simp [exitTo,hk])⟩
 | goto l=>
  obtain ⟨r',hf,hj⟩:=hg l a₁ w₁ h1;obtain ⟨e₂,a₂,w₂,hq₂,harr₂⟩:=hj b k cs;exact ⟨e₂,a₂,w₂,hq₂,.of_steps (harr _ (by simp [gotoIn,hf])) harr₂⟩
 | ret=>exact ⟨_,a₁,w₁,hq _ _ _ (fun _ e=>by cases e) h1,harr⟩
 | panic ch=>exact ⟨_,a₁,w₁,hq _ _ _ (fun _ e=>by cases e) h1,harr⟩
 | outgrown=>exact ⟨_,a₁,w₁,hq _ _ _ (fun _ e=>by cases e) h1,harr⟩
theorem sQ {c:Code} {Q:Exit→Act→World→Prop} {a:Act} {w:World} (h:JW P c Q c a w):(Code.scope c).wp P Q a w:=by
 intro b k cs;obtain ⟨e,a',w',hq,harr⟩:=h b k cs;exact ⟨e,a',w',hq,.of_steps (.one step_scope) harr⟩
def FZ (P:Program) (W:World) (r:Option Nat) (n:Nat) (g:Code→F→H→Option (Ex×F×H)):Prop:=
 ∀ c f h e f' h',g c f h=some (e,f',h')→∀ σ a w,FR σ f a→HR W σ h w→c.wpIn (Fr r) n P (XQ W σ e f' h') a w
theorem rV {g:Code→F→H→Option (Ex×F×H)} {n:Nat} (hg:FZ P W none n g) {c:Code} {σ0:Sg}:∀ (m:Nat) {r:Code} {f f':F} {h h':H} {e:Ex},jumps g c m r f h=some (e,f',h')→∀ {σ:Sg} {a:Act} {w:World},Sg.le σ0 σ→FR σ f a→HR W σ h w→
  JW P c (XQ W σ0 e f' h') r a w
 | 0,r,f,f',h,h',e,hx,_,_,_,_,_,_=>by simp [jumps] at hx
 | m+1,r,f,f',h,h',e,hx,σ,a,w,hle,hf,hr=>by
  simp only [jumps] at hx
  split at hx
  ·rename_i l f1 h1 h2
   split at hx
   ·rename_i r' hfl;refine rW (wpIn_wide.1 (hg _ _ _ _ _ _ h2 σ a w hf hr)) ?_ ?_
    ·rintro l' a' w' ⟨e1,σ',h3,h4,h5⟩;cases e1;exact ⟨r',hfl,rV hg m hx (Sg.le_trans hle h3) h5 h4⟩
    ·intro e1 a' w' hne hq;cases e1 with
     | normal=>exact absurd hq.1 (by simp)
     | exit i=>exact absurd hq.1 (by simp)
     | ret=>exact absurd hq.1 (by simp)
     | goto l'=>exact absurd rfl (hne l')
     | panic ch=>exact hq.elim
     | outgrown=>exact hq.elim
   ·cases hx
  ·rename_i hne;refine rW (wpIn_wide.1 (hg _ _ _ _ _ _ hx σ a w hf hr)) ?_ ?_
   ·rintro l' a' w' ⟨e1,_⟩;subst e1;exact absurd hx (hne l' f' h')
   ·intro e1 a' w' _ hq;exact XQ.le hle _ _ _ hq
theorem pend_ok {pend:Option Code} {e:Ex} (h:pendA pend=some e):(pend=none∧e=.nrm)∨(pend=some .ret∧e=.ret)∨(∃ i,pend=some (.exit i)∧e=.ext i)∨(∃ l,pend=some (.goto l)∧e=.gt l):=by
 unfold pendA at h
 split at h <;> first | (cases h;simp;done) | cases h
theorem jE {h:H} {w:World} (hr:HR W σ h w) {id b k:Nat} {st:LoopState} {pend:Option Code} {n:Nat} {t:T AV} {ps:List Nat} {aj body:Code} (hg:h.get id=some (.loop st pend n t ps aj body)) (hb:σ id=some (b,k)):
  ∃ fn df tm,w.heap[b]? = some (.loop { state:=st,pending:=pend,fn:=fn,tmps:=tm,params:=ps.toArray,assign:=aj,body:=body,defers:=df })∧FT σ n t tm:=by
 obtain ⟨b',k',hb',_,_,ho⟩:=hr.obj _ _ hg;obtain ⟨rfl,rfl⟩:b'=b∧k'=k:=by rw [hb] at hb';simpa using hb'.symm
 exact ho
theorem eE {w:World} {b:Nat} {l:Loop} (h:w.heap[b]? = some (.loop l)):(Instr.getLoop b).run P w=.ok l w:=by
 unfold Instr.getLoop;rw [Sem.run_bind,dV h (fun _ _ _ e=>by cases e),Result.andThen_ok];rfl
theorem CM {call:aZ} (hcall:CallOK P W call) {n:Nat} {g:Operand} {ps:Array Tmp} {aj body:Code} {f:F} {h:H} {a:Act} {w:World} (hf:FR σ f a) (hr:HR W σ h w) {k:Nat} {first cap:List AV} (hg:evF f g=some (.fn k first cap))
  {r:AV×H} (hc:call (.fn k) (first++[.yl (((h.new .dfr).2.new (.loop .ready none f.n f.t ps.toList aj body)).1)]++cap) ((h.new .dfr).2.new (.loop .ready none f.n f.t ps.toList aj body)).2=some r)
  {st:LoopState} {pend:Option Code} {n2:Nat} {t2:T AV} {ps2:List Nat} {as2 body2:Code} (hl:r.2.get ((h.new .dfr).2.new (.loop .ready none f.n f.t ps.toList aj body)).1=some (.loop st pend n2 t2 ps2 as2 body2)) (hst:st≠.busy) {e:Ex} (hp:pendA pend=some e):
  (Code.rangeFunc g ps aj body).wpIn Fence.wide n P (XQ W σ e { f with df:=.inl (h.new .dfr).1::f.df } (r.2.set ((h.new .dfr).2.new (.loop .ready none f.n f.t ps.toList aj body)).1 none)) a w:=by
 refine wpIn_rangeFunc fun fn _=>?_;obtain ⟨σ1,hle1,hs1,hr1⟩:=eB hr .dfr 0 (.deferred (some [])) rfl;obtain ⟨σ2,hle2,hs2,hr2⟩:=eB hr1 (.loop .ready none f.n f.t ps.toList aj body) 0 (.loop { state:=.ready,pending:=none,fn,tmps:=a.tmps,params:=ps,assign:=aj,body,defers:=w.heap.size }) ⟨fn,w.heap.size,a.tmps,by simp,(hf.t.mono hle1)⟩;obtain ⟨w2,hw2⟩:∃ w2,w2=(w.alloc (.deferred (some []))).alloc (.loop { state:=.ready,pending:=none,fn,tmps:=a.tmps,params:=ps,assign:=aj,body,defers:=w.heap.size }):=⟨_,rfl⟩;rw [← hw2] at hr2;have h12:=Sg.le_trans hle1 hle2;have hgv:=(aU hf.t hg).mono h12;cases hgv':a.eval g <;> rw [hgv'] at hgv <;> cases hgv;rename_i xs ys hxs hys;obtain ⟨yv,hyv⟩:∃ yv:Value,yv=.func (.yield (w.alloc (.deferred (some []))).heap.size) #[] #[]:=⟨_,rfl⟩;have hall:VL σ2 (first++[.yl (((h.new .dfr).2.new (.loop .ready none f.n f.t ps.toList aj body)).1)]++cap) (xs++[yv]++ys):=
  (hxs.append (.cons _ _ _ _ (by rw [hyv];exact .yl _ _ _ hs2) .nil)).append hys
 obtain ⟨hent,hcl⟩:=hcall.fn _ _ _ _ hc σ2 _ _ hr2 hall;refine ⟨(w.alloc (.deferred (some []))).heap.size,[{ target:=.collected w.heap.size,args:=#[] }],w2,{ target:=.fn (.func k) ys.toArray,args:=xs.toArray++#[yv] },w2,k,(xs++[yv]++ys).toArray,w2,(by rw [hw2];rfl), ?_,(fun _ _=>trivial), ?_,(fun e=>by cases e),callsIn_wide.2 (hcl.mono ?_)⟩
 ·unfold resolve;simp only [hgv',Deferred.ofValue,List.map_toArray,List.map_cons,List.map_nil,hyv];rfl
 ·have e1:xs.toArray++#[yv]++ys.toArray=(xs++[yv]++ys).toArray:=by simp
  simp only [invoke,e1];exact hent
 ·rintro e' w3 ⟨v,rfl,σ3,hle3,_,hr3⟩;obtain ⟨fn',df',tm',hrow,_⟩:=jE hr3 hl (hle3 _ _ hs2);have hgl:=eE (P:=P) hrow;refine ⟨pend,World.upd w3 (w.alloc (.deferred (some []))).heap.size (.loop { state:=.exhausted,pending:=pend,fn:=fn',tmps:=tm',params:=ps2.toArray,assign:=as2,body:=body2,defers:=df' }), ?_, ?_⟩
  ·unfold Instr.endLoop;rw [Sem.run_bind,hgl,Result.andThen_ok,if_neg (by cases st <;> simp_all)];rw [Sem.run_bind,dC hrow (fun _ _ _ e=>by cases e),Result.andThen_ok];rfl
  ·have hst':∀ w4,St W σ { f with df:=.inl (h.new .dfr).1::f.df } (r.2.set ((h.new .dfr).2.new (.loop .ready none f.n f.t ps.toList aj body)).1 none) { a with defers:=[{ target:=.collected w.heap.size,args:=#[] }]++a.defers } w4↔St W σ { f with df:=.inl (h.new .dfr).1::f.df } (r.2.set ((h.new .dfr).2.new (.loop .ready none f.n f.t ps.toList aj body)).1 none) { a with defers:={ target:=.collected w.heap.size,args:=#[] }::a.defers } w4:=fun _=>Iff.rfl;have hfin:St W σ { f with df:=.inl (h.new .dfr).1::f.df } (r.2.set ((h.new .dfr).2.new (.loop .ready none f.n f.t ps.toList aj body)).1 none) { a with defers:=[{ target:=.collected w.heap.size,args:=#[] }]++a.defers } (World.upd w3 (w.alloc (.deferred (some []))).heap.size (.loop { state:=.exhausted,pending:=pend,fn:=fn',tmps:=tm',params:=ps2.toArray,assign:=as2,body:=body2,defers:=df' })):=
    ⟨σ3,Sg.le_trans h12 hle3,hr3.loose hl (hle3 _ _ hs2) _,hf.t.mono (Sg.le_trans h12 hle3),.mark _ _ _ _ _ (Sg.le_trans hle2 hle3 _ _ hs1) (hf.d.mono (Sg.le_trans h12 hle3))⟩
   rcases pend_ok hp with ⟨rfl,rfl⟩ | ⟨rfl,rfl⟩ | ⟨i,rfl,rfl⟩ | ⟨l,rfl,rfl⟩
   ·exact ⟨rfl,hfin⟩
   ·exact wpIn_ret ⟨rfl,hfin⟩
   ·exact wpIn_exit ⟨rfl,hfin⟩
   ·exact wpIn_goto ⟨rfl,hfin⟩
theorem vD {e:Ex} {f:F} {hh:H} {σ0:Sg} {next:Act→World→Prop} (hne:e≠.nrm):∀ x a w,XQ W σ0 e f hh x a w→Exit.then next (XQ W σ0 e f hh) x a w
 | .normal,_,_,hq=>absurd hq.1 hne
 | .exit _,_,_,hq | .ret,_,_,hq | .goto _,_,_,hq=>hq
 | .panic _,_,_,hq | .outgrown,_,_,hq=>hq.elim
theorem i2 {call:aZ} (hcall:CallOK P W call) {dr:fH} {r:Option Nat} (hdr:r=none→k9 P W dr) (N:Nat):∀ n,FZ P W r N (codeA P call dr r.isSome n)∧
  (∀ c f h e f' h',codeA P call dr r.isSome n (.loop c) f h=some (e,f',h')→∃ m,∀ σ0 σ a w,Sg.le σ0 σ→FR σ f a→HR W σ h w→Code.roundsIn (Fr r) N P c (XQ W σ0 e f' h') m a w):=by
 intro n
 induction n with
 | zero=>exact ⟨fun c f h e f' h' hx=>by simp [codeA] at hx,fun c f h e f' h' hx=>by simp [codeA] at hx⟩
 | succ n ih=>
  obtain ⟨ih,ihl⟩:=ih;have hloop:∀ c f h e f' h',codeA P call dr r.isSome (n+1) (.loop c) f h=some (e,f',h')→∃ m,∀ σ0 σ a w,Sg.le σ0 σ→FR σ f a→HR W σ h w→Code.roundsIn (Fr r) N P c (XQ W σ0 e f' h') m a w:=by
   intro c f h e f' h' hx;simp only [codeA] at hx
   split at hx
   ·rename_i f1 h1 h2;obtain ⟨m,hm⟩:=ihl _ _ _ _ _ _ hx;refine ⟨m+1,fun σ0 σ a w hle hf hr=>?_⟩;rw [roundsIn_succ];refine wpIn_mono (ih _ _ _ _ _ _ h2 σ a w hf hr) fun e1 a1 w1 hq=>?_;cases e1 with
    | normal=>obtain ⟨_,σ',h3,h4,h5⟩:=hq;exact hm σ0 σ' a1 w1 (Sg.le_trans hle h3) h5 h4
    | exit i=>exact absurd hq.1 (by simp)
    | ret=>exact absurd hq.1 (by simp)
    | goto l=>exact absurd hq.1 (by simp)
    | panic ch=>exact hq.elim
    | outgrown=>exact hq.elim
   ·rename_i hne;refine ⟨1,fun σ0 σ a w hle hf hr=>?_⟩;rw [roundsIn_succ];exact wpIn_mono (ih _ _ _ _ _ _ hx σ a w hf hr) fun e1 a1 w1 hq=>vD (fun e=>by subst e;exact hne _ _ hx) _ _ _ (XQ.le hle _ _ _ hq)
  refine ⟨fun c f h e f' h' hx σ a w hf hr=>?_,hloop⟩;have hst:∀ {f:F} {h:H} {a:Act} {w:World},FR σ f a→HR W σ h w→St W σ f h a w:=fun hf hr=>⟨σ,Sg.le_refl _,hr,hf⟩;cases c with
  | skip=>simp only [codeA] at hx;cases hx;exact wpIn_skip ⟨rfl,hst hf hr⟩
  | label l=>simp only [codeA] at hx;cases hx;exact wpIn_label ⟨rfl,hst hf hr⟩
  | ret=>simp only [codeA] at hx;cases hx;exact wpIn_ret ⟨rfl,hst hf hr⟩
  | exit i=>simp only [codeA] at hx;cases hx;exact wpIn_exit ⟨rfl,hst hf hr⟩
  | goto l=>simp only [codeA] at hx;cases hx;exact wpIn_goto ⟨rfl,hst hf hr⟩
  | seq x y=>
   simp only [codeA] at hx
   split at hx
   ·rename_i f1 h1 h2;refine wpIn_seq (wpIn_mono (ih _ _ _ _ _ _ h2 σ a w hf hr) fun e1 a1 w1 hq=>?_);cases e1 with
    | normal=>obtain ⟨_,σ',h3,h4,h5⟩:=hq;exact wpIn_mono (ih _ _ _ _ _ _ hx σ' a1 w1 h5 h4) (XQ.le h3)
    | exit i=>exact absurd hq.1 (by simp)
    | ret=>exact absurd hq.1 (by simp)
    | goto l=>exact absurd hq.1 (by simp)
    | panic ch=>exact hq.elim
    | outgrown=>exact hq.elim
   ·rename_i hne;exact wpIn_seq (wpIn_mono (ih _ _ _ _ _ _ hx σ a w hf hr) fun e1 a1 w1 hq=>vD (fun e=>by subst e;exact hne _ _ hx) _ _ _ hq)
  | cond c x y=>
   simp only [codeA] at hx
   split at hx
   ·rename_i hc;exact wpIn_cond_true (fP (aU hf.t hc)) (ih _ _ _ _ _ _ hx σ a w hf hr)
   ·rename_i hc;exact wpIn_cond_false (fP (aU hf.t hc)) (ih _ _ _ _ _ _ hx σ a w hf hr)
   ·cases hx
  | block i x=>
   simp only [codeA] at hx
   split at hx
   ·rename_i j f1 h1 h2;refine wpIn_block (wpIn_mono (ih _ _ _ _ _ _ h2 σ a w hf hr) fun e1 a1 w1 hq=>?_);cases e1 with
    | exit k=>
     obtain ⟨e2,hs⟩:=hq;cases e2;simp only [Exit.inBlock]
     split at hx
     ·rename_i hji;subst hji;cases hx;rw [if_pos rfl];exact ⟨rfl,hs⟩
     ·rename_i hji;cases hx;rw [if_neg hji];exact ⟨rfl,hs⟩
    | normal=>exact absurd hq.1 (by simp)
    | ret=>exact absurd hq.1 (by simp)
    | goto l=>exact absurd hq.1 (by simp)
    | panic ch=>exact hq.elim
    | outgrown=>exact hq.elim
   ·rename_i hne;refine wpIn_block (wpIn_mono (ih _ _ _ _ _ _ hx σ a w hf hr) fun e1 a1 w1 hq=>?_);cases e1 with
    | exit k=>obtain ⟨e2,hs⟩:=hq;subst e2;exact absurd hx (hne _ _ _)
    | normal=>exact hq
    | ret=>exact hq
    | goto l=>exact hq
    | panic ch=>exact hq.elim
    | outgrown=>exact hq.elim
  | loop c=>
   obtain ⟨m,hm⟩:=hloop _ _ _ _ _ _ hx;exact wpIn_loop_rounds m (hm σ σ a w (Sg.le_refl _) hf hr)
  | scope c=>
   simp only [codeA] at hx
   split at hx
   ·cases hx
   ·rename_i hro;have hr0:r=none:=by cases r <;> simp at hro ⊢
    subst hr0;exact wpIn_wide.2 (sQ (rV ih n hx (Sg.le_refl _) hf hr))
  | region i ops d=>
   simp only [codeA] at hx;cases d with
   | false=>
    simp only [Bool.false_eq_true,if_false] at hx
    split at hx
    ·rename_i f1 h1 h2;cases hx;exact wpIn_region_list (CE hcall (Sg.le_refl _) hf hr h2)
    ·cases hx
   | true=>
    simp only [if_true] at hx
    split at hx
    ·rename_i f1 h1 h2;cases hx
     split at h2
     ·cases h2
     ·rename_i hro;have hr0:r=none:=by cases r <;> simp at hro ⊢
      subst hr0;exact wpIn_wide.2 (hdr rfl _ _ _ _ _ _ h2 σ a w hf hr)
    ·cases hx
  | rangeFunc g ps aj body=>
   simp only [codeA,rangeA] at hx
   split at hx
   ·cases hx
   ·rename_i hro;have hr0:r=none:=by cases r <;> simp at hro ⊢
    subst hr0
    split at hx
    ·rename_i k first cap hg
     split at hx
     ·rename_i v h3 hc
      split at hx
      ·cases hx
      ·rename_i st pend n2 t2 ps2 as2 body2 hst hl
       split at hx
       ·rename_i e2 hp;cases hx;exact CM hcall hf hr hg hc hl hst hp
       ·cases hx
      ·cases hx
     ·cases hx
    ·cases hx
  | refuse why=>simp only [codeA] at hx;cases hx
end Go.Proofs.YtpidmmfjcghmeaaGreat.Ab
namespace Go.Proofs.YtpidmmfjcghmeaaGreat.Ab
open Go.RowKit
variable {P:Program} {σ:Sg} {W:World}
theorem nO:∀ (l:List AV) (i:Nat) (t:T AV) (j:Nat),(argsF i l t).get j=if i≤j∧j<i+l.length then l[j-i]? else t.get j
 | [],i,t,j=>by rw [argsF,if_neg (by simp)]
 | x::l,i,t,j=>by
  rw [argsF,nO l (i+1) _ j,T.get_set];simp only [gG];by_cases h1:i=j
  ·subst h1;rw [if_neg (by omega),if_pos rfl,if_pos (by omega)];simp
  ·by_cases h2:i+1≤j∧j<i+1+l.length
   ·rw [if_pos h2,if_pos (by omega),show j-i=(j-(i+1))+1 by omega,List.getElem?_cons_succ]
   ·rw [if_neg h2,if_neg (fun e=>h1 e.symm),if_neg (by omega)]
theorem uG {args:List AV} {us:List Value} (h:VL σ args us) {n:Nat} (hn:args.length≤n):FT σ n (argsF 0 args .nil) (us.toArray++Array.replicate (n-us.toArray.size) Go.undef):=by
 have hl:=h.len;refine ⟨by simp;omega,fun i=>?_⟩;rw [nO];simp only [gX,true_and,Nat.zero_add,Nat.sub_zero];by_cases hi:i<args.length
 ·rw [if_pos hi];obtain ⟨v,h1,h2⟩:=h.get (List.getElem?_eq_getElem hi);rw [List.getElem?_eq_getElem hi,Option.getD_some,Array.getD_eq_getD_getElem?,Array.getElem?_append_left (by simp;omega)];simp only [List.getElem?_toArray,h1,Option.getD_some];exact h2
 ·rw [if_neg hi,T.get_nil,Option.getD_none,Array.getD_eq_getD_getElem?,Array.getElem?_append_right (by simp;omega)];have:((Array.replicate (n-us.toArray.size) Go.undef)[i-us.toArray.size]?).getD Go.undef=Go.undef:=by
   rw [Array.getElem?_replicate]
   split <;> rfl
  rw [this];exact .und
theorem tQ {f:F} {a:Act} {h:H} {w:World} (hf:FT σ f.n f.t a.tmps) (hr:HR W σ h w):∀ {l:List ResultVar} {vs:List AV},resA P f h l=some vs→
  ∃ us,VL σ vs us∧(l.mapM (fun | .tmp t=>pure (a.tmps.getD t Go.undef) | .cell x t=>do loadVar t (← asAddr (a.tmps.getD x Go.undef)):ResultVar→Sem Value)).run P w=.ok us w
 | [],vs,hx=>by simp only [resA] at hx;cases hx;exact ⟨[],.nil,rfl⟩
 | .tmp t::l,vs,hx=>by
  simp only [resA] at hx
  split at hx
  ·rename_i r hrs;cases hx;obtain ⟨us,h1,h2⟩:=tQ hf hr hrs;refine ⟨a.tmps.getD t Go.undef::us,.cons _ _ _ _ (hf.2 t) h1, ?_⟩;rw [List.mapM_cons,Sem.run_bind];simp only [cU,Result.andThen_ok];rw [Sem.run_bind,h2,Result.andThen_ok,cU]
  ·cases hx
 | .cell x t::l,vs,hx=>by
  simp only [resA] at hx
  split at hx
  ·rename_i p r hp hrs
   split at hx
   ·rename_i v hv;cases hx;obtain ⟨us,h1,h2⟩:=tQ hf hr hrs;have hpv:=hf.2 x;have hp':f.t.get x=some p:=hp;rw [hp',Option.getD_some] at hpv;obtain ⟨u,h3,h4⟩:=kU (P:=P) hr hpv hv;refine ⟨u::us,.cons _ _ _ _ h3 h1, ?_⟩;have e:(do loadVar t (← asAddr (a.tmps.getD x Go.undef)):Sem Value).run P w=.ok u w:=by
     unfold loadA at hv
     split at hv
     ·cases hpv':a.tmps.getD x Go.undef <;> rw [hpv'] at hpv <;> cases hpv;rw [hpv'] at h4;exact h4
     ·cases hv
    rw [List.mapM_cons,Sem.run_bind];refine Eq.trans (congrArg (fun z=>Result.andThen z _) e) ?_;rw [Result.andThen_ok,Sem.run_bind,h2,Result.andThen_ok,cU]
   ·cases hx
  ·cases hx
theorem tJ {f:F} {a:Act} {h:H} {w:World} (hf:FT σ f.n f.t a.tmps) (hr:HR W σ h w) {fn:Func} {x:AV} (hx:outA P fn f h=some x):∃ v,VR σ x v∧(results fn a.tmps).run P w=.ok v w:=by
 unfold outA at hx;have key:∀ {vs:List AV},resA P f h fn.results.toList=some vs→∃ us:List Value,VL σ vs us∧(results fn a.tmps).run P w=.ok (if h:us.toArray.size=1 then us.toArray[0] else .tuple us.toArray) w:=fun hrs=>by
  obtain ⟨us,h1,h2⟩:=tQ hf hr hrs;refine ⟨us,h1, ?_⟩;unfold results;rw [Array.mapM_eq_mapM_toList,map_eq_pure_bind,Sem.run_bind,Sem.run_bind];refine Eq.trans (congrArg (fun z=>Result.andThen (Result.andThen z _) _) h2) ?_;rw [Result.andThen_ok,cU,Result.andThen_ok,cU]
 split at hx
 ·rename_i v hrs;cases hx;obtain ⟨us,h1,h2⟩:=key hrs;cases h1 with
  | cons _ u _ us h3 h4=>
   cases h4;exact ⟨u,h3,h2⟩
 ·rename_i l hne hrs;cases hx;obtain ⟨us,h1,h2⟩:=key hrs;refine ⟨_,.tup _ _ h1, ?_⟩;rw [h2];have hl:=h1.len;rw [dif_neg];intro e;simp only [List.size_toArray] at e;rw [e] at hl
  match l,hl with
  | [x],_=>exact hne x rfl
 ·cases hx
structure CfgOK (P:Program) (W:World) (C:Cfg):Prop where
 nam : ∀ (k : Nat) (fn : Func), P.funcs[k]? = some fn → (fn.name == "runtime.NumGoroutine") = false
 hook:∀ k g,C.hook k=some g→∀ args h r,g args h=some r→∀ σ w us,HR W σ h w→VL σ args us→
  (callFunc k us.toArray).run P w=.ok (.enter k us.toArray) w∧Calls P k us.toArray w (fun e w'=>∃ v,e=.returned v∧Rs W σ r v w')
 draw:∀ call,CallOK P W call→∀ k,k9 P W (C.draw call k)
theorem s8 {C:Cfg} (hC:CfgOK P W C) {k:Nat} {fn:Func} {c:Code} (hk:P.funcs[k]? = some fn) (hb:fn.body=some c) (args:Array Value) (w:World):(callFunc k args).run P w=.ok (.enter k args) w:=by
 unfold callFunc;simp only [program,Bind.bind,Sem.bind,Sem.run,hk,hC.nam k fn hk,hb,Option.isNone_some,Bool.false_eq_true,if_false];rfl
theorem rE {call:aZ} (hcall:CallOK P W call) {dr:fH} (hdr:k9 P W dr) (N:Nat) {fuel k:Nat} {args:List AV} {h h':H} {f:F} {fn:Func} (hx:enterA P call dr fuel k args h=some (fn,f,h')) {w:World} {us:List Value} (hr:HR W σ h w) (hv:VL σ args us):
  P.funcs[k]? = some fn∧∃ c,fn.body=some c∧c.wpIn Fence.wide N P (fun x a w'=>(x=.normal∨x=.ret)∧St W σ f h' a w') { tmps:=us.toArray++Array.replicate (fn.ntmps-us.toArray.size) Go.undef,defers:=[] } w:=by
 unfold enterA at hx
 split at hx
 rotate_left
 ·cases hx
 rename_i fn0 hfn
 split at hx
 rotate_left
 ·cases hx
 rename_i c hc
 split at hx
 rotate_left
 ·cases hx
 rename_i hlen;have hfr:FR σ ⟨fn0.ntmps,argsF 0 args .nil,[]⟩ { tmps:=us.toArray++Array.replicate (fn0.ntmps-us.toArray.size) Go.undef,defers:=[] }:=⟨uG hv hlen,.nil⟩
 split at hx
 ·rename_i f1 h1 h2;cases hx;refine ⟨hfn,c,hc,wpIn_mono ((i2 hcall (r:=none) (fun _=>hdr) N fuel).1 _ _ _ _ _ _ h2 σ _ w hfr hr) fun e a w' hq=>?_⟩;cases e with
  | normal=>exact ⟨.inl rfl,hq.2⟩
  | ret=>exact absurd hq.1 (by simp)
  | exit i=>exact absurd hq.1 (by simp)
  | goto l=>exact absurd hq.1 (by simp)
  | panic ch=>exact hq.elim
  | outgrown=>exact hq.elim
 ·rename_i f1 h1 h2;cases hx;refine ⟨hfn,c,hc,wpIn_mono ((i2 hcall (r:=none) (fun _=>hdr) N fuel).1 _ _ _ _ _ _ h2 σ _ w hfr hr) fun e a w' hq=>?_⟩;cases e with
  | ret=>exact ⟨.inr rfl,hq.2⟩
  | normal=>exact absurd hq.1 (by simp)
  | exit i=>exact absurd hq.1 (by simp)
  | goto l=>exact absurd hq.1 (by simp)
  | panic ch=>exact hq.elim
  | outgrown=>exact hq.elim
 ·cases hx
theorem fN {N:Nat} {ops:Array Oper} {h:H} {Q:Exit→Act→List Frame→World→Prop} {cs:List Frame} (hcs:recoverD cs=none) {w:World} (hr:HR W σ h w):∀ (l:List Oper) (k:Nat),(∀ j,l[j]? = ops[k+j]?)→∀ {f f':F} {a:Act},recovA P h l f=some f'→FR σ f a→
  (∀ a',FR σ f' a'→Q .normal a' cs w)→wpOpsSIn Fence.wide N P ops Q (List.range' k l.length) a cs w
 | [],k,_,f,f',a,hx,hf,hQ=>by
  simp only [recovA] at hx;cases hx;exact hQ a hf
 | o::l,k,hl,f,f',a,hx,hf,hQ=>by
  have h0:ops[k]? = some o:=by simpa using (hl 0).symm
  have hl':∀ j,l[j]? = ops[k+1+j]? := fun j=>by have:=hl (j+1);simpa [Nat.add_assoc,Nat.add_comm 1 j] using this
  simp only [gG,List.range'_succ,wpOpsSIn,h0];refine ⟨fun _ _=>trivial, ?_⟩;simp only [recovA] at hx
  split at hx
  ·cases hx
  rename_i hg;have hw:Region.wanted o (yielded ops a.tmps)=true:=by unfold Region.wanted;rw [hg]
  rw [if_pos hw]
  split at hx
  ·rename_i c hop
   split at hx
   ·rename_i hcal
    split at hx
    ·rename_i f1 hput;have he:(execOp a.eval o).run P w=.ok .recover w:=by
      obtain ⟨dst,op,ty,pos,af,gd⟩:=o;obtain ⟨callee,args,ats⟩:=c;simp only at hop hcal;subst hop hcal;rfl
     rw [he];simp only [hcs];exact fN hcs hr l (k+1) hl' hx (hf.put hput .ni) hQ
    ·cases hx
   ·cases hx
  ·split at hx
   ·rename_i v hv
    split at hx
    ·rename_i f1 hput;obtain ⟨u,h1,h2⟩:=p8 hf.t hr hv;rw [h2 w];exact fN hcs hr l (k+1) hl' hx (hf.put hput h1) hQ
    ·cases hx
   ·cases hx
theorem CO {call:aZ} (hcall:CallOK P W call) {dr:fH} (hdr:k9 P W dr) {fuel k:Nat} {args:List AV} {h h':H} {f:F} {fn:Func} (hx:enterR P call dr fuel k args h=some (fn,f,h')) {w:World} {us:List Value} (hr:HR W σ h w) (hv:VL σ args us) (hdf:f.df=[]) {o:AV} (ho:outA P fn f h'=some o):
  CallsDIn Fence.wide 0 P k us.toArray .returning w (fun e u' w'=>(∃ v,e=.returned v)∧u'=.returning∧∃ σ',Sg.le σ σ'∧HR W σ' h' w'):=by
 unfold enterR at hx
 split at hx
 rotate_left
 ·cases hx
 rename_i fn0 hfn
 split at hx
 rotate_left
 ·cases hx
 rename_i i ops c hc
 split at hx
 rotate_left
 ·cases hx
 rename_i hcond
 split at hx
 rotate_left
 ·cases hx
 rename_i f1 hrec;have hfr:FR σ ⟨fn0.ntmps,argsF 0 args .nil,[]⟩ { tmps:=us.toArray++Array.replicate (fn0.ntmps-us.toArray.size) Go.undef,defers:=[] }:=⟨uG hv hcond.2,.nil⟩;have key:∀ e,codeA P call dr false fuel c f1 h=some (e,f,h')→(e=.nrm∨e=.ret)→CallsDIn Fence.wide 0 P k us.toArray .returning w (fun e u' w'=>(∃ v,e=.returned v)∧u'=.returning∧∃ σ',Sg.le σ σ'∧HR W σ' h' w')∨outA P fn0 f h'≠some o:=fun e h2 he=>by
  by_cases hoo:outA P fn0 f h'=some o
  ·refine .inl (callsDIn_of_wpSIn hfn hc trivial fun c₀ cs hm=>?_);have hD:recoverD (c₀::cs)=none:=by unfold recoverD;simp only [hm]
   apply wpSIn_seq;apply wpSIn_region;rw [List.range_eq_range',← Array.length_toList];refine fN hD hr ops.toList 0 (by simp) hrec hfr fun a' hf'=>?_;refine wpSIn_of_wpIn rfl (wpIn_mono ((i2 hcall (r:=none) (fun _=>hdr) 0 fuel).1 _ _ _ _ _ _ h2 σ a' w hf' hr) fun x a w' hq=>?_);have fin:St W σ f h' a w'→a.defers=[]∧∃ u',c₀::cs={ c₀ with mode:=u' }::cs∧∃ v,(results fn0 a.tmps).run P w'=.ok v w'∧(∃ v',Ending.returned v=.returned v')∧u'=.returning∧∃ σ',Sg.le σ σ'∧HR W σ' h' w':=fun ⟨σ',h3,h4,h5⟩=>by
    have hdn:a.defers=[]:=by
     have:=h5.d;rw [hdf] at this;generalize a.defers=ds at this;cases this;rfl
    obtain ⟨v,_,h6⟩:=tJ h5.t h4 hoo;refine ⟨hdn,.returning, ?_,v,h6,⟨v,rfl⟩,rfl,σ',h3,h4⟩;rw [← hm]
   cases x with
   | normal=>exact fin hq.2
   | ret=>exact fin hq.2
   | exit i=>rcases he with rfl | rfl <;> exact absurd hq.1 (by simp)
   | goto l=>rcases he with rfl | rfl <;> exact absurd hq.1 (by simp)
   | panic ch=>exact hq.elim
   | outgrown=>exact hq.elim
  ·exact .inr hoo
 split at hx
 ·rename_i f2 h2 h3;cases hx;exact (key _ h3 (.inl rfl)).resolve_right (fun e=>e ho)
 ·rename_i f2 h2 h3;cases hx;exact (key _ h3 (.inr rfl)).resolve_right (fun e=>e ho)
 ·cases hx
theorem qB {C:Cfg} (hC:CfgOK P W C) {call:aZ} {dr:fH} {fuel k:Nat} {args:List AV} {h h':H} {f:F} {fn:Func} (hx:enterR P call dr fuel k args h=some (fn,f,h')) (us:Array Value) (w:World):(callFunc k us).run P w=.ok (.enter k us) w:=by
 unfold enterR at hx
 split at hx
 rotate_left
 ·cases hx
 rename_i fn0 hfn
 split at hx
 rotate_left
 ·cases hx
 rename_i i ops c hc;exact s8 hC hfn hc us w
theorem fU {C:Cfg} (hC:CfgOK P W C) {call:aZ} (hcall:CallOK P W call) {fn:Func} {tmps:Array Value} {R:Ending→World→Prop} {N:Nat}:∀ {l:List (Sum Nat (Nat×List AV))} {h h':H},defersA P call (C.draw call) C.fuel l h=some h'→
  ∀ {σ:Sg} {ds:List Deferred} {w:World},DL σ l ds→HR W σ h w→(∀ σ' w',Sg.le σ σ'→HR W σ' h' w'→∃ v,(results fn tmps).run P w'=.ok v w'∧R (.returned v) w')→LeavesInM Fence.wide N P fn tmps R ds .returning w
 | [],h,h',hx,σ,ds,w,hd,hr,hfin=>by
  simp only [defersA] at hx;cases hx;cases hd;exact hfin σ w (Sg.le_refl _) hr
 | .inl r::l,h,h',hx,σ,ds,w,hd,hr,hfin=>by
  simp only [defersA] at hx
  split at hx
  ·rename_i hg;cases hd with
   | mark _ b k _ ds hb hd=>
    obtain ⟨b',k',hb',_,_,ho⟩:=hr.obj _ _ hg;obtain ⟨rfl,rfl⟩:b'=b∧k'=k:=by rw [hb] at hb';simpa using hb'.symm
    have ho:w.heap[b']? = some (.deferred (some [])):=ho;refine ⟨by simp,.inl ⟨b',World.upd w b' (.deferred none),rfl, ?_,fU hC hcall hx hd (hr.loose hg hb _) hfin⟩⟩;unfold Instr.takeDeferred;rw [Sem.run_bind,dV ho (fun _ _ _ e=>by cases e),Result.andThen_ok];simp only [];rw [Sem.run_bind,dC ho (fun _ _ _ e=>by cases e),Result.andThen_ok];rfl
  ·cases hx
 | .inr (k,args)::l,h,h',hx,σ,ds,w,hd,hr,hfin=>by
  simp only [defersA] at hx;cases hd with
  | call _ _ us cap _ ds hv hd=>
   have e1:us.toArray++cap.toArray=(us++cap).toArray:=by simp
   split at hx
   ·rename_i fn2 f2 h2 hent
    split at hx
    ·rename_i o hdf ho;have hcd:=CO hcall (hC.draw call hcall k) hent hr hv hdf ho;have hen:=qB hC hent;refine ⟨by simp,.inr ⟨(fun e=>by cases e),_,_,k,(us++cap).toArray,rfl, ?_,(fun _ _=>trivial),trivial,fun c cs hm _=>?_⟩⟩
     ·simp only [invoke,e1];exact hen _ _
     ·obtain ⟨e,u',w',fr,⟨⟨v,rfl⟩,rfl,σ',h3,h4⟩,hrest⟩:=hcd.2 c cs hm (room_wide _);exact ⟨_,_,_,fr,fU hC hcall hx (hd.mono h3) h4 (fun τ w'' hle=>hfin τ w'' (Sg.le_trans h3 hle)),hrest⟩
    ·cases hx
   ·split at hx
    ·rename_i fn2 f2 h2 hent
     split at hx
     ·rename_i o hdf ho;obtain ⟨hk,c,hc,hwp⟩:=rE hcall (hC.draw call hcall k) 0 hent hr hv;have hcd:=callsDIn_of_wp (F:=Fence.wide) (n:=0) (u:=.returning) (R:=fun e w'=>(∃ v,e=.returned v)∧∃ σ',Sg.le σ σ'∧HR W σ' h2 w') hk hc trivial (wpIn_mono hwp fun e a w' hq=>by
       obtain ⟨he,σ',h3,h4,h5⟩:=hq;have hdn:a.defers=[]:=by
        have:=h5.d;rw [hdf] at this;generalize a.defers=ds at this;cases this;rfl
       obtain ⟨v,_,h6⟩:=tJ h5.t h4 ho;rcases he with rfl | rfl
       ·exact ⟨hdn,v,h6,⟨v,rfl⟩,σ',h3,h4⟩
       ·exact ⟨hdn,v,h6,⟨v,rfl⟩,σ',h3,h4⟩)
      refine ⟨by simp,.inr ⟨(fun e=>by cases e),_,_,k,(us++cap).toArray,rfl, ?_,(fun _ _=>trivial),trivial,fun c cs hm _=>?_⟩⟩
      ·simp only [invoke,e1];exact s8 hC hk hc _ _
      ·obtain ⟨e,u',w',fr,⟨rfl,⟨v,rfl⟩,σ',h3,h4⟩,hrest⟩:=hcd.2 c cs hm (room_wide _);exact ⟨_,_,_,fr,fU hC hcall hx (hd.mono h3) h4 (fun τ w'' hle=>hfin τ w'' (Sg.le_trans h3 hle)),hrest⟩
     ·cases hx
    ·cases hx
theorem vH {n:Nat}:∀ {ps:List Nat} {vs:List AV} {t t':T AV},putsF n ps vs t=some t'→∀ {us:List Value} {c:Array Value},VL σ vs us→FT σ n t c→
  us.length=ps.length∧FT σ n t' ((ps.zip us).foldl (fun tmps (p:Nat×Value)=>tmps.setIfInBounds p.1 p.2) c)
 | [],[],t,t',h,us,c,hv,hf=>by simp only [putsF] at h;cases h;cases hv;exact ⟨rfl,hf⟩
 | p::ps,v::vs,t,t',h,us,c,hv,hf=>by
  simp only [putsF] at h
  split at h
  ·rename_i hp;cases hv with
   | cons _ u _ us h1 h2=>
    obtain ⟨h3,h4⟩:=vH h h2 (hf.set hp h1);exact ⟨by simp [h3],h4⟩
  ·cases h
 | [],_::_,_,_,h,_,_,_,_=>by simp [putsF] at h
 | _::_,[],_,_,h,_,_,_,_=>by simp [putsF] at h
theorem GO {W:World} {h2:H} {w:World} {τ:Sg} (hr:HR W τ h2 w) {l b k:Nat} (hb:τ l=some (b,k)) {st:LoopState} {pend:Option Code} {n:Nat} {t:T AV} {ps:List Nat} {aj body:Code} (hg:h2.get l=some (.loop st pend n t ps aj body)) (j:Option Code):
  ∃ w',(Instr.endRound b j).run P w=.ok (.bool j.isNone) w'∧HR W τ (h2.set l (some (.loop (if j.isNone then .ready else .done) j n t ps aj body))) w':=by
 obtain ⟨fn,df,tm,hrow,hft⟩:=jE hr hg hb;refine ⟨World.upd w b (.loop { state:=if j.isNone then .ready else .done,pending:=j,fn:=fn,tmps:=tm,params:=ps.toArray,assign:=aj,body:=body,defers:=df }), ?_,hr.upd hg hb ⟨fn,df,tm,rfl,hft⟩⟩;unfold Instr.endRound;rw [Sem.run_bind,eE hrow,Result.andThen_ok,Sem.run_bind,dC hrow (fun _ _ _ e=>by cases e),Result.andThen_ok];rfl
theorem JM {C:Cfg} {call:aZ} (hcall:CallOK P W call) {l:Nat} {args:List AV} {h:H} {r:AV×H} {pend:Option Code} {n:Nat} {t:T AV} {ps:List Nat} {aj body:Code} (hg:h.get l=some (.loop .ready pend n t ps aj body)) {t1:T AV} (hp:putsF n ps args t=some t1)
  {f1:F} {h1:H} (ha:codeA P call (fun _ _ _ _=>none) true C.fuel aj ⟨n,t1,[]⟩ h=some (.nrm,f1,h1)) {pend2:Option Code} {n2:Nat} {t2:T AV} {ps2:List Nat} {as2 body2:Code} (hg1:h1.get l=some (.loop .ready pend2 n2 t2 ps2 as2 body2))
  {e:Ex} {f2:F} {h2:H} (hbd:codeA P call (fun _ _ _ _=>none) true C.fuel body f1 (h1.set l (some (.loop .busy pend2 n2 t2 ps2 as2 body2)))=some (e,f2,h2)) {st3:LoopState} {pend3:Option Code} {n3:Nat} {t3:T AV} {ps3:List Nat} {as3 body3:Code} (hg2:h2.get l=some (.loop st3 pend3 n3 t3 ps3 as3 body3))
  (hres:r=(.b (jumpOf e).isNone,h2.set l (some (.loop (if (jumpOf e).isNone then .ready else .done) (jumpOf e) n3 t3 ps3 as3 body3)))) {w:World} {us:List Value} {b k:Nat} (hr:HR W σ h w) (hv:VL σ args us) (hb:σ l=some (b,k)):
  ∃ fn tmps aj body,(Instr.yield b us.toArray).run P w=.ok (.round b fn tmps aj body) w∧RoundIn Fence.wide 0 P b fn tmps aj body w (fun e w'=>∃ v,e=.returned v∧Rs W σ r v w'):=by
 obtain ⟨fn,df,tm,hrow,hft⟩:=jE hr hg hb;obtain ⟨hlen,hft1⟩:=vH hp hv hft;refine ⟨fn,(ps.zip us).foldl (fun tmps (p:Nat×Value)=>tmps.setIfInBounds p.1 p.2) tm,aj,body, ?_,roundIn_of_wpIn trivial ?_⟩
 ·unfold Instr.yield;rw [Sem.run_bind,eE hrow,Result.andThen_ok,if_neg (by simp [hlen])];simp only [List.zip_toArray];rw [← Array.foldl_toList];rfl
 ·have hfr:FR σ ⟨n,t1,[]⟩ { tmps:=(ps.zip us).foldl (fun tmps (p:Nat×Value)=>tmps.setIfInBounds p.1 p.2) tm,defers:=[] }:=⟨hft1,.nil⟩;have h1ok:=(i2 hcall (r:=some b) (dr:=fun _ _ _ _=>none) (fun e=>by cases e) 0 C.fuel).1 _ _ _ _ _ _ ha σ _ w hfr hr;refine wpIn_mono h1ok fun x a1 w1 hq=>?_;cases x with
  | normal=>
   obtain ⟨_,σ1,hle1,hr1,hf1⟩:=hq;have hb1:=hle1 _ _ hb;obtain ⟨fn1,df1,tm1,hrow1,hft2⟩:=jE hr1 hg1 hb1;refine ⟨World.upd w1 b (.loop { state:=.busy,pending:=pend2,fn:=fn1,tmps:=tm1,params:=ps2.toArray,assign:=as2,body:=body2,defers:=df1 }), ?_, ?_⟩
   ·unfold Instr.beginRound;rw [Sem.run_bind,eE hrow1,Result.andThen_ok,Sem.run_bind,dC hrow1 (fun _ _ _ e=>by cases e),Result.andThen_ok];rfl
   ·have hr2:=hr1.upd (y:=.loop .busy pend2 n2 t2 ps2 as2 body2) hg1 hb1 (o:=.loop { state:=.busy,pending:=pend2,fn:=fn1,tmps:=tm1,params:=ps2.toArray,assign:=as2,body:=body2,defers:=df1 }) ⟨fn1,df1,tm1,rfl,hft2⟩;have h2ok:=(i2 hcall (r:=some b) (dr:=fun _ _ _ _=>none) (fun e=>by cases e) 0 C.fuel).1 _ _ _ _ _ _ hbd σ1 _ _ hf1 hr2;refine wpIn_mono h2ok fun y a2 w2 hq2=>?_;have fin:St W σ1 f2 h2 a2 w2→∃ v w',(Instr.endRound b (jumpOf e)).run P w2=.ok v w'∧∃ v',Ending.returned v=.returned v'∧Rs W σ r v' w':=fun ⟨σ2,hle2,hr3,_⟩=>by
     obtain ⟨w',h3,h4⟩:=GO (P:=P) hr3 (hle2 _ _ hb1) hg2 (jumpOf e);exact ⟨_,w',h3,_,rfl,σ2,Sg.le_trans hle1 hle2,by rw [hres];exact .b _,by rw [hres];exact h4⟩
    cases y with
    | normal=>obtain ⟨he,hs⟩:=hq2;subst he;exact fin hs
    | exit i=>obtain ⟨he,hs⟩:=hq2;subst he;exact fin hs
    | ret=>obtain ⟨he,hs⟩:=hq2;subst he;exact fin hs
    | goto i=>obtain ⟨he,hs⟩:=hq2;subst he;exact fin hs
    | panic ch=>exact hq2.elim
    | outgrown=>exact hq2.elim
  | exit i=>exact absurd hq.1 (by simp)
  | ret=>exact absurd hq.1 (by simp)
  | goto l=>exact absurd hq.1 (by simp)
  | panic ch=>exact hq.elim
  | outgrown=>exact hq.elim
theorem o8 {C:Cfg} (hC:CfgOK P W C):∀ d,CallOK P W (callA P C d)
 | 0=>⟨fun k args h r hx=>by simp [callA] at hx,fun l args h r hx=>by simp [callA] at hx⟩
 | d+1=>by
  have hcall:=o8 hC d;refine ⟨fun k args h r hx σ w us hr hv=>?_,fun l args h r hx σ w us b k hr hv hb=>?_⟩
  ·simp only [callA] at hx
   split at hx
   ·rename_i g hg;exact hC.hook k g hg args h r hx σ w us hr hv
   ·split at hx
    rotate_left
    ·cases hx
    rename_i fn f h1 hent
    split at hx
    rotate_left
    ·cases hx
    rename_i h2 hdf
    split at hx
    rotate_left
    ·cases hx
    rename_i v hout;cases hx;obtain ⟨hk,c,hc,hwp⟩:=rE hcall (hC.draw _ hcall k) 0 hent hr hv;refine ⟨s8 hC hk hc _ _,(callsIn_wide (n:=0)).1 (callsIn_of_wp_marks hk hc trivial (wpIn_mono hwp fun x a w' hq=>?_) rfl)⟩;obtain ⟨hx,σ1,hle1,hr1,hf1⟩:=hq;have hlv:LeavesInM Fence.wide 0 P fn a.tmps (fun e w'=>∃ u,e=.returned u∧Rs W σ (v,h2) u w') a.defers .returning w':=
     fU hC hcall hdf hf1.d hr1 fun σ2 w2 hle2 hr2=>by
      obtain ⟨u,h3,h4⟩:=tJ (P:=P) (hf1.t.mono hle2) hr2 hout;exact ⟨u,h4,u,rfl,σ2,Sg.le_trans hle1 hle2,h3,hr2⟩
    rcases hx with rfl | rfl
    ·exact hlv
    ·exact hlv
  ·simp only [callA] at hx
   split at hx
   rotate_left
   ·cases hx
   rename_i pend n t ps aj body hg
   split at hx
   rotate_left
   ·cases hx
   rename_i t1 hp
   split at hx
   rotate_left
   ·cases hx
   rename_i f1 h1 ha
   split at hx
   rotate_left
   ·cases hx
   rename_i pend2 n2 t2 ps2 as2 body2 hg1
   split at hx
   rotate_left
   ·cases hx
   rename_i e f2 h2 hbd
   split at hx
   rotate_left
   ·cases hx
   rename_i st3 pend3 n3 t3 ps3 as3 body3 hg2;cases hx;exact JM hcall hg hp ha hg1 hbd hg2 rfl hr hv hb
end Go.Proofs.YtpidmmfjcghmeaaGreat.Ab
