/- Towards clashesWhole_upto. -/
import Derived.Test.YtpidmmfjcghmeaaGreatCs11
import Derived.RecoverIn
import Derived.Test.YtpidmmfjcghmeaaGreatCs12
import Derived.OrdersHeld
import Derived.Test.YtpidmmfjcghmeaaGreatCs08
import Derived.Lib.Builder
import Derived.Lib.AppendStr
import Derived.Lib.UnsafeStr
import Derived.RegionTactic
import Derived.Recover
set_option maxRecDepth 100000
set_option maxHeartbeats 16000000
set_option linter.all false
namespace Go.Proofs.YtpidmmfjcghmeaaGreat.Ab
open Go.RowKit
variable {P:Program} {σ:Sg} {W:World}
def k9 (P:Program) (W:World) (dr:fH):Prop:=
 ∀ i ops f h f' h',dr i ops f h=some (f',h')→∀ σ a w,FR σ f a→HR W σ h w→(Code.region i ops true).wp P (XQ W σ .nrm f' h') a w
def JW (P:Program) (c:Code) (Q:Exit→Act→World→Prop) (r:Code) (a:Act) (w:World):Prop:=
 ∀ (b:Frame) (k:List Item) (cs:List Frame),∃ e a' w',Q e a' w'∧Arrives P (lone (b.at a (.code r::.inScope c::k)) cs w) b k cs e a' w'
theorem rW {c r:Code} {Q Q1:Exit→Act→World→Prop} {a:Act} {w:World} (h:r.wp P Q1 a w) (hg:∀ l a w,Q1 (.goto l) a w→∃ r',findLabel c l=some r'∧JW P c Q r' a w)
  (hq:∀ e a w,(∀ l,e≠.goto l)→Q1 e a w→Q e a w):JW P c Q r a w:=by
 intro b k cs;obtain ⟨e,a₁,w₁,h1,harr⟩:=h b (.inScope c::k) cs;cases e with
 | normal=>exact ⟨.normal,a₁,w₁,hq _ _ _ (fun _ e=>by cases e) h1,Steps.trans harr (.one step_inScope)⟩
 | exit id=>exact ⟨.exit id,a₁,w₁,hq _ _ _ (fun _ e=>by cases e) h1,fun k' hk=>harr k' (by simp [exitTo,hk])⟩
 | goto l=>
  obtain ⟨r',hf,hj⟩:=hg l a₁ w₁ h1;obtain ⟨e₂,a₂,w₂,hq₂,harr₂⟩:=hj b k cs;exact ⟨e₂,a₂,w₂,hq₂,.of_steps (harr _ (by simp [gotoIn,hf])) harr₂⟩
 | ret=>exact ⟨_,a₁,w₁,hq _ _ _ (fun _ e=>by cases e) h1,harr⟩
 | panic ch=>exact ⟨_,a₁,w₁,hq _ _ _ (fun _ e=>by cases e) h1,harr⟩
 | outgrown=>exact ⟨_,a₁,w₁,hq _ _ _ (fun _ e=>by cases e) h1,harr⟩
theorem sQ {c:Code} {Q:Exit→Act→World→Prop} {a:Act} {w:World} (h:JW P c Q c a w):(Code.scope c).wp P Q a w:=by
 intro b k cs;obtain ⟨e,a',w',hq,harr⟩:=h b k cs;exact ⟨e,a',w',hq,.of_steps (.one step_scope) harr⟩
def GD (P:Program) (W:World) (r:Option Nat) (n:Nat) (g:Code→F→H→Option (Ex×F×H)):Prop:=
 ∀ c f h e f' h',g c f h=some (e,f',h')→∀ σ a w,FR σ f a→HR W σ h w→c.wpIn (Fr r) n P (XQ W σ e f' h') a w
theorem rV {g:Code→F→H→Option (Ex×F×H)} {n:Nat} (hg:GD P W none n g) {c:Code} {σ0:Sg}:∀ (m:Nat) {r:Code} {f f':F} {h h':H} {e:Ex},jumps g c m r f h=some (e,f',h')→∀ {σ:Sg} {a:Act} {w:World},Sg.le σ0 σ→FR σ f a→HR W σ h w→
  JW P c (XQ W σ0 e f' h') r a w
 | 0,r,f,f',h,h',e,hx,_,_,_,_,_,_=>by simp [jumps] at hx
 | m+1,r,f,f',h,h',e,hx,σ,a,w,hle,hf,hr=>by
  simp only [jumps] at hx
  split at hx
  ·rename_i l f1 h1 h2
   split at hx
   ·rename_i r' hfl;refine rW (wpIn_wide.1 (hg _ _ _ _ _ _ h2 σ a w hf hr)) ?_ ?_
    ·rintro l' a' w' ⟨e1,σ',h3,h4,h5⟩;cases e1;exact ⟨r',hfl,rV hg m hx (Sg.le_trans hle h3) h5 h4⟩
    ·intro e1 a' w' hne hq;cases e1 with
     | normal=>exact absurd hq.1 (by simp)
     | exit i=>exact absurd hq.1 (by simp)
     | ret=>exact absurd hq.1 (by simp)
     | goto l'=>exact absurd rfl (hne l')
     | panic ch=>exact hq.elim
     | outgrown=>exact hq.elim
   ·cases hx
  ·rename_i hne;refine rW (wpIn_wide.1 (hg _ _ _ _ _ _ hx σ a w hf hr)) ?_ ?_
   ·rintro l' a' w' ⟨e1,_⟩;subst e1;exact absurd hx (hne l' f' h')
   ·intro e1 a' w' _ hq;exact XQ.le hle _ _ _ hq
theorem pend_ok {pend:Option Code} {e:Ex} (h:pendA pend=some e):(pend=none∧e=.nrm)∨(pend=some .ret∧e=.ret)∨(∃ i,pend=some (.exit i)∧e=.ext i)∨(∃ l,pend=some (.goto l)∧e=.gt l):=by
 unfold pendA at h
 split at h <;> first | (cases h;simp;done) | cases h
theorem jE {h:H} {w:World} (hr:HR W σ h w) {id b k:Nat} {st:LoopState} {pend:Option Code} {n:Nat} {t:T AV} {ps:List Nat} {aj body:Code} (hg:h.get id=some (.loop st pend n t ps aj body)) (hb:σ id=some (b,k)):
  ∃ fn df tm,w.heap[b]? = some (.loop { state:=st,pending:=pend,fn:=fn,tmps:=tm,params:=ps.toArray,assign:=aj,body:=body,defers:=df })∧FT σ n t tm:=by
 obtain ⟨b',k',hb',_,_,ho⟩:=hr.obj _ _ hg;obtain ⟨rfl,rfl⟩:b'=b∧k'=k:=by rw [hb] at hb';simpa using hb'.symm
 exact ho
theorem eE {w:World} {b:Nat} {l:Loop} (h:w.heap[b]? = some (.loop l)):(Instr.getLoop b).run P w=.ok l w:=by
 unfold Instr.getLoop;rw [Sem.run_bind,dV h (fun _ _ _ e=>by cases e),Result.andThen_ok];rfl
theorem CW {call:aZ} (hcall:CallOK P W call) {n:Nat} {g:Operand} {ps:Array Tmp} {aj body:Code} {f:F} {h:H} {a:Act} {w:World} (hf:FR σ f a) (hr:HR W σ h w) {k:Nat} {first cap:List AV} (hg:evF f g=some (.fn k first cap))
  {r:AV×H} (hc:call (.fn k) (first++[.yl (((h.new .dfr).2.new (.loop .ready none f.n f.t ps.toList aj body)).1)]++cap) ((h.new .dfr).2.new (.loop .ready none f.n f.t ps.toList aj body)).2=some r)
  {st:LoopState} {pend:Option Code} {n2:Nat} {t2:T AV} {ps2:List Nat} {as2 body2:Code} (hl:r.2.get ((h.new .dfr).2.new (.loop .ready none f.n f.t ps.toList aj body)).1=some (.loop st pend n2 t2 ps2 as2 body2)) (hst:st≠.busy) {e:Ex} (hp:pendA pend=some e):
  (Code.rangeFunc g ps aj body).wpIn Fence.wide n P (XQ W σ e { f with df:=.inl (h.new .dfr).1::f.df } (r.2.set ((h.new .dfr).2.new (.loop .ready none f.n f.t ps.toList aj body)).1 none)) a w:=by
 refine wpIn_rangeFunc fun fn _=>?_;obtain ⟨σ1,hle1,hs1,hr1⟩:=eB hr .dfr 0 (.deferred (some [])) rfl;obtain ⟨σ2,hle2,hs2,hr2⟩:=eB hr1 (.loop .ready none f.n f.t ps.toList aj body) 0 (.loop { state:=.ready,pending:=none,fn,tmps:=a.tmps,params:=ps,assign:=aj,body,defers:=w.heap.size }) ⟨fn,w.heap.size,a.tmps,by simp,(hf.t.mono hle1)⟩;obtain ⟨w2,hw2⟩:∃ w2,w2=(w.alloc (.deferred (some []))).alloc (.loop { state:=.ready,pending:=none,fn,tmps:=a.tmps,params:=ps,assign:=aj,body,defers:=w.heap.size }):=⟨_,rfl⟩;rw [← hw2] at hr2;have h12:=Sg.le_trans hle1 hle2;have hgv:=(aU hf.t hg).mono h12;cases hgv':a.eval g <;> rw [hgv'] at hgv <;> cases hgv;rename_i xs ys hxs hys;obtain ⟨yv,hyv⟩:∃ yv:Value,yv=.func (.yield (w.alloc (.deferred (some []))).heap.size) #[] #[]:=⟨_,rfl⟩;have hall:VL σ2 (first++[.yl (((h.new .dfr).2.new (.loop .ready none f.n f.t ps.toList aj body)).1)]++cap) (xs++[yv]++ys):=
  (hxs.append (.cons _ _ _ _ (by rw [hyv];exact .yl _ _ _ hs2) .nil)).append hys
 obtain ⟨hent,hcl⟩:=hcall.fn _ _ _ _ hc σ2 _ _ hr2 hall;refine ⟨(w.alloc (.deferred (some []))).heap.size,[{ target:=.collected w.heap.size,args:=#[] }],w2,{ target:=.fn (.func k) ys.toArray,args:=xs.toArray++#[yv] },w2,k,(xs++[yv]++ys).toArray,w2,(by rw [hw2];rfl), ?_,(fun _ _=>trivial), ?_,(fun e=>by cases e),callsIn_wide.2 (hcl.mono ?_)⟩
 ·unfold resolve;simp only [hgv',Deferred.ofValue,List.map_toArray,List.map_cons,List.map_nil,hyv];rfl
 ·have e1:xs.toArray++#[yv]++ys.toArray=(xs++[yv]++ys).toArray:=by simp
  simp only [invoke,e1];exact hent
 ·rintro e' w3 ⟨v,rfl,σ3,hle3,_,hr3⟩;obtain ⟨fn',df',tm',hrow,_⟩:=jE hr3 hl (hle3 _ _ hs2);have hgl:=eE (P:=P) hrow;refine ⟨pend,World.upd w3 (w.alloc (.deferred (some []))).heap.size (.loop { state:=.exhausted,pending:=pend,fn:=fn',tmps:=tm',params:=ps2.toArray,assign:=as2,body:=body2,defers:=df' }), ?_, ?_⟩
  ·unfold Instr.endLoop;rw [Sem.run_bind,hgl,Result.andThen_ok,if_neg (by cases st <;> simp_all)];rw [Sem.run_bind,dC hrow (fun _ _ _ e=>by cases e),Result.andThen_ok];rfl
  ·have hst':∀ w4,St W σ { f with df:=.inl (h.new .dfr).1::f.df } (r.2.set ((h.new .dfr).2.new (.loop .ready none f.n f.t ps.toList aj body)).1 none) { a with defers:=[{ target:=.collected w.heap.size,args:=#[] }]++a.defers } w4↔St W σ { f with df:=.inl (h.new .dfr).1::f.df } (r.2.set ((h.new .dfr).2.new (.loop .ready none f.n f.t ps.toList aj body)).1 none) { a with defers:={ target:=.collected w.heap.size,args:=#[] }::a.defers } w4:=fun _=>Iff.rfl;have hfin:St W σ { f with df:=.inl (h.new .dfr).1::f.df } (r.2.set ((h.new .dfr).2.new (.loop .ready none f.n f.t ps.toList aj body)).1 none) { a with defers:=[{ target:=.collected w.heap.size,args:=#[] }]++a.defers } (World.upd w3 (w.alloc (.deferred (some []))).heap.size (.loop { state:=.exhausted,pending:=pend,fn:=fn',tmps:=tm',params:=ps2.toArray,assign:=as2,body:=body2,defers:=df' })):=
    ⟨σ3,Sg.le_trans h12 hle3,hr3.loose hl (hle3 _ _ hs2) _,hf.t.mono (Sg.le_trans h12 hle3),.mark _ _ _ _ _ (Sg.le_trans hle2 hle3 _ _ hs1) (hf.d.mono (Sg.le_trans h12 hle3))⟩
   rcases pend_ok hp with ⟨rfl,rfl⟩ | ⟨rfl,rfl⟩ | ⟨i,rfl,rfl⟩ | ⟨l,rfl,rfl⟩
   ·exact ⟨rfl,hfin⟩
   ·exact wpIn_ret ⟨rfl,hfin⟩
   ·exact wpIn_exit ⟨rfl,hfin⟩
   ·exact wpIn_goto ⟨rfl,hfin⟩
theorem vD {e:Ex} {f:F} {hh:H} {σ0:Sg} {next:Act→World→Prop} (hne:e≠.nrm):∀ x a w,XQ W σ0 e f hh x a w→Exit.then next (XQ W σ0 e f hh) x a w
 | .normal,_,_,hq=>absurd hq.1 hne
 | .exit _,_,_,hq | .ret,_,_,hq | .goto _,_,_,hq=>hq
 | .panic _,_,_,hq | .outgrown,_,_,hq=>hq.elim
theorem i2 {call:aZ} (hcall:CallOK P W call) {dr:fH} {r:Option Nat} (hdr:r=none→k9 P W dr) (N:Nat):∀ n,GD P W r N (codeA P call dr r.isSome n)∧
  (∀ c f h e f' h',codeA P call dr r.isSome n (.loop c) f h=some (e,f',h')→∃ m,∀ σ0 σ a w,Sg.le σ0 σ→FR σ f a→HR W σ h w→Code.roundsIn (Fr r) N P c (XQ W σ0 e f' h') m a w):=by
 intro n
 induction n with
 | zero=>exact ⟨fun c f h e f' h' hx=>by simp [codeA] at hx,fun c f h e f' h' hx=>by simp [codeA] at hx⟩
 | succ n ih=>
  obtain ⟨ih,ihl⟩:=ih;have hloop:∀ c f h e f' h',codeA P call dr r.isSome (n+1) (.loop c) f h=some (e,f',h')→∃ m,∀ σ0 σ a w,Sg.le σ0 σ→FR σ f a→HR W σ h w→Code.roundsIn (Fr r) N P c (XQ W σ0 e f' h') m a w:=by
   intro c f h e f' h' hx;simp only [codeA] at hx
   split at hx
   ·rename_i f1 h1 h2;obtain ⟨m,hm⟩:=ihl _ _ _ _ _ _ hx;refine ⟨m+1,fun σ0 σ a w hle hf hr=>?_⟩;rw [roundsIn_succ];refine wpIn_mono (ih _ _ _ _ _ _ h2 σ a w hf hr) fun e1 a1 w1 hq=>?_;cases e1 with
    | normal=>obtain ⟨_,σ',h3,h4,h5⟩:=hq;exact hm σ0 σ' a1 w1 (Sg.le_trans hle h3) h5 h4
    | exit i=>exact absurd hq.1 (by simp)
    | ret=>exact absurd hq.1 (by simp)
    | goto l=>exact absurd hq.1 (by simp)
    | panic ch=>exact hq.elim
    | outgrown=>exact hq.elim
   ·rename_i hne;refine ⟨1,fun σ0 σ a w hle hf hr=>?_⟩;rw [roundsIn_succ];exact wpIn_mono (ih _ _ _ _ _ _ hx σ a w hf hr) fun e1 a1 w1 hq=>vD (fun e=>by subst e;exact hne _ _ hx) _ _ _ (XQ.le hle _ _ _ hq)
  refine ⟨fun c f h e f' h' hx σ a w hf hr=>?_,hloop⟩;have hst:∀ {f:F} {h:H} {a:Act} {w:World},FR σ f a→HR W σ h w→St W σ f h a w:=fun hf hr=>⟨σ,Sg.le_refl _,hr,hf⟩;cases c with
  | skip=>simp only [codeA] at hx;cases hx;exact wpIn_skip ⟨rfl,hst hf hr⟩
  | label l=>simp only [codeA] at hx;cases hx;exact wpIn_label ⟨rfl,hst hf hr⟩
  | ret=>simp only [codeA] at hx;cases hx;exact wpIn_ret ⟨rfl,hst hf hr⟩
  | exit i=>simp only [codeA] at hx;cases hx;exact wpIn_exit ⟨rfl,hst hf hr⟩
  | goto l=>simp only [codeA] at hx;cases hx;exact wpIn_goto ⟨rfl,hst hf hr⟩
  | seq x y=>
   simp only [codeA] at hx
   split at hx
   ·rename_i f1 h1 h2;refine wpIn_seq (wpIn_mono (ih _ _ _ _ _ _ h2 σ a w hf hr) fun e1 a1 w1 hq=>?_);cases e1 with
    | normal=>obtain ⟨_,σ',h3,h4,h5⟩:=hq;exact wpIn_mono (ih _ _ _ _ _ _ hx σ' a1 w1 h5 h4) (XQ.le h3)
    | exit i=>exact absurd hq.1 (by simp)
    | ret=>exact absurd hq.1 (by simp)
    | goto l=>exact absurd hq.1 (by simp)
    | panic ch=>exact hq.elim
    | outgrown=>exact hq.elim
   ·rename_i hne;exact wpIn_seq (wpIn_mono (ih _ _ _ _ _ _ hx σ a w hf hr) fun e1 a1 w1 hq=>vD (fun e=>by subst e;exact hne _ _ hx) _ _ _ hq)
  | cond c x y=>
   simp only [codeA] at hx
   split at hx
   ·rename_i hc;exact wpIn_cond_true (fP (aU hf.t hc)) (ih _ _ _ _ _ _ hx σ a w hf hr)
   ·rename_i hc;exact wpIn_cond_false (fP (aU hf.t hc)) (ih _ _ _ _ _ _ hx σ a w hf hr)
   ·cases hx
  | block i x=>
   simp only [codeA] at hx
   split at hx
   ·rename_i j f1 h1 h2;refine wpIn_block (wpIn_mono (ih _ _ _ _ _ _ h2 σ a w hf hr) fun e1 a1 w1 hq=>?_);cases e1 with
    | exit k=>
     obtain ⟨e2,hs⟩:=hq;cases e2;simp only [Exit.inBlock]
     split at hx
     ·rename_i hji;subst hji;cases hx;rw [if_pos rfl];exact ⟨rfl,hs⟩
     ·rename_i hji;cases hx;rw [if_neg hji];exact ⟨rfl,hs⟩
    | normal=>exact absurd hq.1 (by simp)
    | ret=>exact absurd hq.1 (by simp)
    | goto l=>exact absurd hq.1 (by simp)
    | panic ch=>exact hq.elim
    | outgrown=>exact hq.elim
   ·rename_i hne;refine wpIn_block (wpIn_mono (ih _ _ _ _ _ _ hx σ a w hf hr) fun e1 a1 w1 hq=>?_);cases e1 with
    | exit k=>obtain ⟨e2,hs⟩:=hq;subst e2;exact absurd hx (hne _ _ _)
    | normal=>exact hq
    | ret=>exact hq
    | goto l=>exact hq
    | panic ch=>exact hq.elim
    | outgrown=>exact hq.elim
  | loop c=>
   obtain ⟨m,hm⟩:=hloop _ _ _ _ _ _ hx;exact wpIn_loop_rounds m (hm σ σ a w (Sg.le_refl _) hf hr)
  | scope c=>
   simp only [codeA] at hx
   split at hx
   ·cases hx
   ·rename_i hro;have hr0:r=none:=by cases r <;> simp at hro ⊢
    subst hr0;exact wpIn_wide.2 (sQ (rV ih n hx (Sg.le_refl _) hf hr))
  | region i ops d=>
   simp only [codeA] at hx;cases d with
   | false=>
    simp only [Bool.false_eq_true,if_false] at hx
    split at hx
    ·rename_i f1 h1 h2;cases hx;exact wpIn_region_list (CP hcall (Sg.le_refl _) hf hr h2)
    ·cases hx
   | true=>
    simp only [if_true] at hx
    split at hx
    ·rename_i f1 h1 h2;cases hx
     split at h2
     ·cases h2
     ·rename_i hro;have hr0:r=none:=by cases r <;> simp at hro ⊢
      subst hr0;exact wpIn_wide.2 (hdr rfl _ _ _ _ _ _ h2 σ a w hf hr)
    ·cases hx
  | rangeFunc g ps aj body=>
   simp only [codeA,rangeA] at hx
   split at hx
   ·cases hx
   ·rename_i hro;have hr0:r=none:=by cases r <;> simp at hro ⊢
    subst hr0
    split at hx
    ·rename_i k first cap hg
     split at hx
     ·rename_i v h3 hc
      split at hx
      ·cases hx
      ·rename_i st pend n2 t2 ps2 as2 body2 hst hl
       split at hx
       ·rename_i e2 hp;cases hx;exact CW hcall hf hr hg hc hl hst hp
       ·cases hx
      ·cases hx
     ·cases hx
    ·cases hx
  | refuse why=>simp only [codeA] at hx;cases hx
end Go.Proofs.YtpidmmfjcghmeaaGreat.Ab
namespace Go.Proofs.YtpidmmfjcghmeaaGreat.Ab
open Go.RowKit
variable {P:Program} {σ:Sg} {W:World}
theorem nO:∀ (l:List AV) (i:Nat) (t:T AV) (j:Nat),(argsF i l t).get j=if i≤j∧j<i+l.length then l[j-i]? else t.get j
 | [],i,t,j=>by rw [argsF,if_neg (by simp)]
 | x::l,i,t,j=>by
  rw [argsF,nO l (i+1) _ j,T.get_set];simp only [gG];by_cases h1:i=j
  ·subst h1;rw [if_neg (by omega),if_pos rfl,if_pos (by omega)];simp
  ·by_cases h2:i+1≤j∧j<i+1+l.length
   ·rw [if_pos h2,if_pos (by omega),show j-i=(j-(i+1))+1 by omega,List.getElem?_cons_succ]
   ·rw [if_neg h2,if_neg (fun e=>h1 e.symm),if_neg (by omega)]
theorem uG {args:List AV} {us:List Value} (h:VL σ args us) {n:Nat} (hn:args.length≤n):FT σ n (argsF 0 args .nil) (us.toArray++Array.replicate (n-us.toArray.size) Go.undef):=by
 have hl:=h.len;refine ⟨by simp;omega,fun i=>?_⟩;rw [nO];simp only [gX,true_and,Nat.zero_add,Nat.sub_zero];by_cases hi:i<args.length
 ·rw [if_pos hi];obtain ⟨v,h1,h2⟩:=h.get (List.getElem?_eq_getElem hi);rw [List.getElem?_eq_getElem hi,Option.getD_some,Array.getD_eq_getD_getElem?,Array.getElem?_append_left (by simp;omega)];simp only [List.getElem?_toArray,h1,Option.getD_some];exact h2
 ·rw [if_neg hi,T.get_nil,Option.getD_none,Array.getD_eq_getD_getElem?,Array.getElem?_append_right (by simp;omega)];have:((Array.replicate (n-us.toArray.size) Go.undef)[i-us.toArray.size]?).getD Go.undef=Go.undef:=by
   rw [Array.getElem?_replicate]
   split <;> rfl
  rw [this];exact .und
theorem tQ {f:F} {a:Act} {h:H} {w:World} (hf:FT σ f.n f.t a.tmps) (hr:HR W σ h w):∀ {l:List ResultVar} {vs:List AV},resA P f h l=some vs→
  ∃ us,VL σ vs us∧(l.mapM (fun | .tmp t=>pure (a.tmps.getD t Go.undef) | .cell x t=>do loadVar t (← asAddr (a.tmps.getD x Go.undef)):ResultVar→Sem Value)).run P w=.ok us w
 | [],vs,hx=>by simp only [resA] at hx;cases hx;exact ⟨[],.nil,rfl⟩
 | .tmp t::l,vs,hx=>by
  simp only [resA] at hx
  split at hx
  ·rename_i r hrs;cases hx;obtain ⟨us,h1,h2⟩:=tQ hf hr hrs;refine ⟨a.tmps.getD t Go.undef::us,.cons _ _ _ _ (hf.2 t) h1, ?_⟩;rw [List.mapM_cons,Sem.run_bind];simp only [cU,Result.andThen_ok];rw [Sem.run_bind,h2,Result.andThen_ok,cU]
  ·cases hx
 | .cell x t::l,vs,hx=>by
  simp only [resA] at hx
  split at hx
  ·rename_i p r hp hrs
   split at hx
   ·rename_i v hv;cases hx;obtain ⟨us,h1,h2⟩:=tQ hf hr hrs;have hpv:=hf.2 x;have hp':f.t.get x=some p:=hp;rw [hp',Option.getD_some] at hpv;obtain ⟨u,h3,h4⟩:=kU (P:=P) hr hpv hv;refine ⟨u::us,.cons _ _ _ _ h3 h1, ?_⟩;have e:(do loadVar t (← asAddr (a.tmps.getD x Go.undef)):Sem Value).run P w=.ok u w:=by
     unfold loadA at hv
     split at hv
     ·cases hpv':a.tmps.getD x Go.undef <;> rw [hpv'] at hpv <;> cases hpv;rw [hpv'] at h4;exact h4
     ·cases hv
    rw [List.mapM_cons,Sem.run_bind];refine Eq.trans (congrArg (fun z=>Result.andThen z _) e) ?_;rw [Result.andThen_ok,Sem.run_bind,h2,Result.andThen_ok,cU]
   ·cases hx
  ·cases hx
theorem tJ {f:F} {a:Act} {h:H} {w:World} (hf:FT σ f.n f.t a.tmps) (hr:HR W σ h w) {fn:Func} {x:AV} (hx:outA P fn f h=some x):∃ v,VR σ x v∧(results fn a.tmps).run P w=.ok v w:=by
 unfold outA at hx;have key:∀ {vs:List AV},resA P f h fn.results.toList=some vs→∃ us:List Value,VL σ vs us∧(results fn a.tmps).run P w=.ok (if h:us.toArray.size=1 then us.toArray[0] else .tuple us.toArray) w:=fun hrs=>by
  obtain ⟨us,h1,h2⟩:=tQ hf hr hrs;refine ⟨us,h1, ?_⟩;unfold results;rw [Array.mapM_eq_mapM_toList,map_eq_pure_bind,Sem.run_bind,Sem.run_bind];refine Eq.trans (congrArg (fun z=>Result.andThen (Result.andThen z _) _) h2) ?_;rw [Result.andThen_ok,cU,Result.andThen_ok,cU]
 split at hx
 ·rename_i v hrs;cases hx;obtain ⟨us,h1,h2⟩:=key hrs;cases h1 with
  | cons _ u _ us h3 h4=>
   cases h4;exact ⟨u,h3,h2⟩
 ·rename_i l hne hrs;cases hx;obtain ⟨us,h1,h2⟩:=key hrs;refine ⟨_,.tup _ _ h1, ?_⟩;rw [h2];have hl:=h1.len;rw [dif_neg];intro e;simp only [List.size_toArray] at e;rw [e] at hl
  match l,hl with
  | [x],_=>exact hne x rfl
 ·cases hx
structure CfgOK (P:Program) (W:World) (C:Cfg):Prop where
 nam : ∀ (k : Nat) (fn : Func), P.funcs[k]? = some fn → (fn.name == "runtime.NumGoroutine") = false
 hook:∀ k g,C.hook k=some g→∀ args h r,g args h=some r→∀ σ w us,HR W σ h w→VL σ args us→
  (callFunc k us.toArray).run P w=.ok (.enter k us.toArray) w∧Calls P k us.toArray w (fun e w'=>∃ v,e=.returned v∧Rs W σ r v w')
 draw:∀ call,CallOK P W call→∀ k,k9 P W (C.draw call k)
theorem s8 {C:Cfg} (hC:CfgOK P W C) {k:Nat} {fn:Func} {c:Code} (hk:P.funcs[k]? = some fn) (hb:fn.body=some c) (args:Array Value) (w:World):(callFunc k args).run P w=.ok (.enter k args) w:=by
 unfold callFunc;simp only [program,Bind.bind,Sem.bind,Sem.run,hk,hC.nam k fn hk,hb,Option.isNone_some,Bool.false_eq_true,if_false];rfl
theorem rE {call:aZ} (hcall:CallOK P W call) {dr:fH} (hdr:k9 P W dr) (N:Nat) {fuel k:Nat} {args:List AV} {h h':H} {f:F} {fn:Func} (hx:enterA P call dr fuel k args h=some (fn,f,h')) {w:World} {us:List Value} (hr:HR W σ h w) (hv:VL σ args us):
  P.funcs[k]? = some fn∧∃ c,fn.body=some c∧c.wpIn Fence.wide N P (fun x a w'=>(x=.normal∨x=.ret)∧St W σ f h' a w') { tmps:=us.toArray++Array.replicate (fn.ntmps-us.toArray.size) Go.undef,defers:=[] } w:=by
 unfold enterA at hx
 split at hx
 rotate_left
 ·cases hx
 rename_i fn0 hfn
 split at hx
 rotate_left
 ·cases hx
 rename_i c hc
 split at hx
 rotate_left
 ·cases hx
 rename_i hlen;have hfr:FR σ ⟨fn0.ntmps,argsF 0 args .nil,[]⟩ { tmps:=us.toArray++Array.replicate (fn0.ntmps-us.toArray.size) Go.undef,defers:=[] }:=⟨uG hv hlen,.nil⟩
 split at hx
 ·rename_i f1 h1 h2;cases hx;refine ⟨hfn,c,hc,wpIn_mono ((i2 hcall (r:=none) (fun _=>hdr) N fuel).1 _ _ _ _ _ _ h2 σ _ w hfr hr) fun e a w' hq=>?_⟩;cases e with
  | normal=>exact ⟨.inl rfl,hq.2⟩
  | ret=>exact absurd hq.1 (by simp)
  | exit i=>exact absurd hq.1 (by simp)
  | goto l=>exact absurd hq.1 (by simp)
  | panic ch=>exact hq.elim
  | outgrown=>exact hq.elim
 ·rename_i f1 h1 h2;cases hx;refine ⟨hfn,c,hc,wpIn_mono ((i2 hcall (r:=none) (fun _=>hdr) N fuel).1 _ _ _ _ _ _ h2 σ _ w hfr hr) fun e a w' hq=>?_⟩;cases e with
  | ret=>exact ⟨.inr rfl,hq.2⟩
  | normal=>exact absurd hq.1 (by simp)
  | exit i=>exact absurd hq.1 (by simp)
  | goto l=>exact absurd hq.1 (by simp)
  | panic ch=>exact hq.elim
  | outgrown=>exact hq.elim
 ·cases hx
theorem fN {N:Nat} {ops:Array Oper} {h:H} {Q:Exit→Act→List Frame→World→Prop} {cs:List Frame} (hcs:recoverD cs=none) {w:World} (hr:HR W σ h w):∀ (l:List Oper) (k:Nat),(∀ j,l[j]? = ops[k+j]?)→∀ {f f':F} {a:Act},recovA P h l f=some f'→FR σ f a→
  (∀ a',FR σ f' a'→Q .normal a' cs w)→wpOpsSIn Fence.wide N P ops Q (List.range' k l.length) a cs w
 | [],k,_,f,f',a,hx,hf,hQ=>by
  simp only [recovA] at hx;cases hx;exact hQ a hf
 | o::l,k,hl,f,f',a,hx,hf,hQ=>by
  have h0:ops[k]? = some o:=by simpa using (hl 0).symm
  have hl':∀ j,l[j]? = ops[k+1+j]? := fun j=>by have:=hl (j+1);simpa [Nat.add_assoc,Nat.add_comm 1 j] using this
  simp only [gG,List.range'_succ,wpOpsSIn,h0];refine ⟨fun _ _=>trivial, ?_⟩;simp only [recovA] at hx
  split at hx
  ·cases hx
  rename_i hg;have hw:Region.wanted o (yielded ops a.tmps)=true:=by unfold Region.wanted;rw [hg]
  rw [if_pos hw]
  split at hx
  ·rename_i c hop
   split at hx
   ·rename_i hcal
    split at hx
    ·rename_i f1 hput;have he:(execOp a.eval o).run P w=.ok .recover w:=by
      obtain ⟨dst,op,ty,pos,af,gd⟩:=o;obtain ⟨callee,args,ats⟩:=c;simp only at hop hcal;subst hop hcal;rfl
     rw [he];simp only [hcs];exact fN hcs hr l (k+1) hl' hx (hf.put hput .ni) hQ
    ·cases hx
   ·cases hx
  ·split at hx
   ·rename_i v hv
    split at hx
    ·rename_i f1 hput;obtain ⟨u,h1,h2⟩:=p8 hf.t hr hv;rw [h2 w];exact fN hcs hr l (k+1) hl' hx (hf.put hput h1) hQ
    ·cases hx
   ·cases hx
theorem CY {call:aZ} (hcall:CallOK P W call) {dr:fH} (hdr:k9 P W dr) {fuel k:Nat} {args:List AV} {h h':H} {f:F} {fn:Func} (hx:enterR P call dr fuel k args h=some (fn,f,h')) {w:World} {us:List Value} (hr:HR W σ h w) (hv:VL σ args us) (hdf:f.df=[]) {o:AV} (ho:outA P fn f h'=some o):
  CallsDIn Fence.wide 0 P k us.toArray .returning w (fun e u' w'=>(∃ v,e=.returned v)∧u'=.returning∧∃ σ',Sg.le σ σ'∧HR W σ' h' w'):=by
 unfold enterR at hx
 split at hx
 rotate_left
 ·cases hx
 rename_i fn0 hfn
 split at hx
 rotate_left
 ·cases hx
 rename_i i ops c hc
 split at hx
 rotate_left
 ·cases hx
 rename_i hcond
 split at hx
 rotate_left
 ·cases hx
 rename_i f1 hrec;have hfr:FR σ ⟨fn0.ntmps,argsF 0 args .nil,[]⟩ { tmps:=us.toArray++Array.replicate (fn0.ntmps-us.toArray.size) Go.undef,defers:=[] }:=⟨uG hv hcond.2,.nil⟩;have key:∀ e,codeA P call dr false fuel c f1 h=some (e,f,h')→(e=.nrm∨e=.ret)→CallsDIn Fence.wide 0 P k us.toArray .returning w (fun e u' w'=>(∃ v,e=.returned v)∧u'=.returning∧∃ σ',Sg.le σ σ'∧HR W σ' h' w')∨outA P fn0 f h'≠some o:=fun e h2 he=>by
  by_cases hoo:outA P fn0 f h'=some o
  ·refine .inl (callsDIn_of_wpSIn hfn hc trivial fun c₀ cs hm=>?_);have hD:recoverD (c₀::cs)=none:=by unfold recoverD;simp only [hm]
   apply wpSIn_seq;apply wpSIn_region;rw [List.range_eq_range',← Array.length_toList];refine fN hD hr ops.toList 0 (by simp) hrec hfr fun a' hf'=>?_;refine wpSIn_of_wpIn rfl (wpIn_mono ((i2 hcall (r:=none) (fun _=>hdr) 0 fuel).1 _ _ _ _ _ _ h2 σ a' w hf' hr) fun x a w' hq=>?_);have fin:St W σ f h' a w'→a.defers=[]∧∃ u',c₀::cs={ c₀ with mode:=u' }::cs∧∃ v,(results fn0 a.tmps).run P w'=.ok v w'∧(∃ v',Ending.returned v=.returned v')∧u'=.returning∧∃ σ',Sg.le σ σ'∧HR W σ' h' w':=fun ⟨σ',h3,h4,h5⟩=>by
    have hdn:a.defers=[]:=by
     have:=h5.d;rw [hdf] at this;generalize a.defers=ds at this;cases this;rfl
    obtain ⟨v,_,h6⟩:=tJ h5.t h4 hoo;refine ⟨hdn,.returning, ?_,v,h6,⟨v,rfl⟩,rfl,σ',h3,h4⟩;rw [← hm]
   cases x with
   | normal=>exact fin hq.2
   | ret=>exact fin hq.2
   | exit i=>rcases he with rfl | rfl <;> exact absurd hq.1 (by simp)
   | goto l=>rcases he with rfl | rfl <;> exact absurd hq.1 (by simp)
   | panic ch=>exact hq.elim
   | outgrown=>exact hq.elim
  ·exact .inr hoo
 split at hx
 ·rename_i f2 h2 h3;cases hx;exact (key _ h3 (.inl rfl)).resolve_right (fun e=>e ho)
 ·rename_i f2 h2 h3;cases hx;exact (key _ h3 (.inr rfl)).resolve_right (fun e=>e ho)
 ·cases hx
theorem qB {C:Cfg} (hC:CfgOK P W C) {call:aZ} {dr:fH} {fuel k:Nat} {args:List AV} {h h':H} {f:F} {fn:Func} (hx:enterR P call dr fuel k args h=some (fn,f,h')) (us:Array Value) (w:World):(callFunc k us).run P w=.ok (.enter k us) w:=by
 unfold enterR at hx
 split at hx
 rotate_left
 ·cases hx
 rename_i fn0 hfn
 split at hx
 rotate_left
 ·cases hx
 rename_i i ops c hc;exact s8 hC hfn hc us w
theorem fU {C:Cfg} (hC:CfgOK P W C) {call:aZ} (hcall:CallOK P W call) {fn:Func} {tmps:Array Value} {R:Ending→World→Prop} {N:Nat}:∀ {l:List (Sum Nat (Nat×List AV))} {h h':H},defersA P call (C.draw call) C.fuel l h=some h'→
  ∀ {σ:Sg} {ds:List Deferred} {w:World},DL σ l ds→HR W σ h w→(∀ σ' w',Sg.le σ σ'→HR W σ' h' w'→∃ v,(results fn tmps).run P w'=.ok v w'∧R (.returned v) w')→LeavesInM Fence.wide N P fn tmps R ds .returning w
 | [],h,h',hx,σ,ds,w,hd,hr,hfin=>by
  simp only [defersA] at hx;cases hx;cases hd;exact hfin σ w (Sg.le_refl _) hr
 | .inl r::l,h,h',hx,σ,ds,w,hd,hr,hfin=>by
  simp only [defersA] at hx
  split at hx
  ·rename_i hg;cases hd with
   | mark _ b k _ ds hb hd=>
    obtain ⟨b',k',hb',_,_,ho⟩:=hr.obj _ _ hg;obtain ⟨rfl,rfl⟩:b'=b∧k'=k:=by rw [hb] at hb';simpa using hb'.symm
    have ho:w.heap[b']? = some (.deferred (some [])):=ho;refine ⟨by simp,.inl ⟨b',World.upd w b' (.deferred none),rfl, ?_,fU hC hcall hx hd (hr.loose hg hb _) hfin⟩⟩;unfold Instr.takeDeferred;rw [Sem.run_bind,dV ho (fun _ _ _ e=>by cases e),Result.andThen_ok];simp only [];rw [Sem.run_bind,dC ho (fun _ _ _ e=>by cases e),Result.andThen_ok];rfl
  ·cases hx
 | .inr (k,args)::l,h,h',hx,σ,ds,w,hd,hr,hfin=>by
  simp only [defersA] at hx;cases hd with
  | call _ _ us cap _ ds hv hd=>
   have e1:us.toArray++cap.toArray=(us++cap).toArray:=by simp
   split at hx
   ·rename_i fn2 f2 h2 hent
    split at hx
    ·rename_i o hdf ho;have hcd:=CY hcall (hC.draw call hcall k) hent hr hv hdf ho;have hen:=qB hC hent;refine ⟨by simp,.inr ⟨(fun e=>by cases e),_,_,k,(us++cap).toArray,rfl, ?_,(fun _ _=>trivial),trivial,fun c cs hm _=>?_⟩⟩
     ·simp only [invoke,e1];exact hen _ _
     ·obtain ⟨e,u',w',fr,⟨⟨v,rfl⟩,rfl,σ',h3,h4⟩,hrest⟩:=hcd.2 c cs hm (room_wide _);exact ⟨_,_,_,fr,fU hC hcall hx (hd.mono h3) h4 (fun τ w'' hle=>hfin τ w'' (Sg.le_trans h3 hle)),hrest⟩
    ·cases hx
   ·split at hx
    ·rename_i fn2 f2 h2 hent
     split at hx
     ·rename_i o hdf ho;obtain ⟨hk,c,hc,hwp⟩:=rE hcall (hC.draw call hcall k) 0 hent hr hv;have hcd:=callsDIn_of_wp (F:=Fence.wide) (n:=0) (u:=.returning) (R:=fun e w'=>(∃ v,e=.returned v)∧∃ σ',Sg.le σ σ'∧HR W σ' h2 w') hk hc trivial (wpIn_mono hwp fun e a w' hq=>by
       obtain ⟨he,σ',h3,h4,h5⟩:=hq;have hdn:a.defers=[]:=by
        have:=h5.d;rw [hdf] at this;generalize a.defers=ds at this;cases this;rfl
       obtain ⟨v,_,h6⟩:=tJ h5.t h4 ho;rcases he with rfl | rfl
       ·exact ⟨hdn,v,h6,⟨v,rfl⟩,σ',h3,h4⟩
       ·exact ⟨hdn,v,h6,⟨v,rfl⟩,σ',h3,h4⟩)
      refine ⟨by simp,.inr ⟨(fun e=>by cases e),_,_,k,(us++cap).toArray,rfl, ?_,(fun _ _=>trivial),trivial,fun c cs hm _=>?_⟩⟩
      ·simp only [invoke,e1];exact s8 hC hk hc _ _
      ·obtain ⟨e,u',w',fr,⟨rfl,⟨v,rfl⟩,σ',h3,h4⟩,hrest⟩:=hcd.2 c cs hm (room_wide _);exact ⟨_,_,_,fr,fU hC hcall hx (hd.mono h3) h4 (fun τ w'' hle=>hfin τ w'' (Sg.le_trans h3 hle)),hrest⟩
     ·cases hx
    ·cases hx
theorem vH {n:Nat}:∀ {ps:List Nat} {vs:List AV} {t t':T AV},putsF n ps vs t=some t'→∀ {us:List Value} {c:Array Value},VL σ vs us→FT σ n t c→
  us.length=ps.length∧FT σ n t' ((ps.zip us).foldl (fun tmps (p:Nat×Value)=>tmps.setIfInBounds p.1 p.2) c)
 | [],[],t,t',h,us,c,hv,hf=>by simp only [putsF] at h;cases h;cases hv;exact ⟨rfl,hf⟩
 | p::ps,v::vs,t,t',h,us,c,hv,hf=>by
  simp only [putsF] at h
  split at h
  ·rename_i hp;cases hv with
   | cons _ u _ us h1 h2=>
    obtain ⟨h3,h4⟩:=vH h h2 (hf.set hp h1);exact ⟨by simp [h3],h4⟩
  ·cases h
 | [],_::_,_,_,h,_,_,_,_=>by simp [putsF] at h
 | _::_,[],_,_,h,_,_,_,_=>by simp [putsF] at h
theorem GZ {W:World} {h2:H} {w:World} {τ:Sg} (hr:HR W τ h2 w) {l b k:Nat} (hb:τ l=some (b,k)) {st:LoopState} {pend:Option Code} {n:Nat} {t:T AV} {ps:List Nat} {aj body:Code} (hg:h2.get l=some (.loop st pend n t ps aj body)) (j:Option Code):
  ∃ w',(Instr.endRound b j).run P w=.ok (.bool j.isNone) w'∧HR W τ (h2.set l (some (.loop (if j.isNone then .ready else .done) j n t ps aj body))) w':=by
 obtain ⟨fn,df,tm,hrow,hft⟩:=jE hr hg hb;refine ⟨World.upd w b (.loop { state:=if j.isNone then .ready else .done,pending:=j,fn:=fn,tmps:=tm,params:=ps.toArray,assign:=aj,body:=body,defers:=df }), ?_,hr.upd hg hb ⟨fn,df,tm,rfl,hft⟩⟩;unfold Instr.endRound;rw [Sem.run_bind,eE hrow,Result.andThen_ok,Sem.run_bind,dC hrow (fun _ _ _ e=>by cases e),Result.andThen_ok];rfl
theorem JY {C:Cfg} {call:aZ} (hcall:CallOK P W call) {l:Nat} {args:List AV} {h:H} {r:AV×H} {pend:Option Code} {n:Nat} {t:T AV} {ps:List Nat} {aj body:Code} (hg:h.get l=some (.loop .ready pend n t ps aj body)) {t1:T AV} (hp:putsF n ps args t=some t1)
  {f1:F} {h1:H} (ha:codeA P call (fun _ _ _ _=>none) true C.fuel aj ⟨n,t1,[]⟩ h=some (.nrm,f1,h1)) {pend2:Option Code} {n2:Nat} {t2:T AV} {ps2:List Nat} {as2 body2:Code} (hg1:h1.get l=some (.loop .ready pend2 n2 t2 ps2 as2 body2))
  {e:Ex} {f2:F} {h2:H} (hbd:codeA P call (fun _ _ _ _=>none) true C.fuel body f1 (h1.set l (some (.loop .busy pend2 n2 t2 ps2 as2 body2)))=some (e,f2,h2)) {st3:LoopState} {pend3:Option Code} {n3:Nat} {t3:T AV} {ps3:List Nat} {as3 body3:Code} (hg2:h2.get l=some (.loop st3 pend3 n3 t3 ps3 as3 body3))
  (hres:r=(.b (jumpOf e).isNone,h2.set l (some (.loop (if (jumpOf e).isNone then .ready else .done) (jumpOf e) n3 t3 ps3 as3 body3)))) {w:World} {us:List Value} {b k:Nat} (hr:HR W σ h w) (hv:VL σ args us) (hb:σ l=some (b,k)):
  ∃ fn tmps aj body,(Instr.yield b us.toArray).run P w=.ok (.round b fn tmps aj body) w∧RoundIn Fence.wide 0 P b fn tmps aj body w (fun e w'=>∃ v,e=.returned v∧Rs W σ r v w'):=by
 obtain ⟨fn,df,tm,hrow,hft⟩:=jE hr hg hb;obtain ⟨hlen,hft1⟩:=vH hp hv hft;refine ⟨fn,(ps.zip us).foldl (fun tmps (p:Nat×Value)=>tmps.setIfInBounds p.1 p.2) tm,aj,body, ?_,roundIn_of_wpIn trivial ?_⟩
 ·unfold Instr.yield;rw [Sem.run_bind,eE hrow,Result.andThen_ok,if_neg (by simp [hlen])];simp only [List.zip_toArray];rw [← Array.foldl_toList];rfl
 ·have hfr:FR σ ⟨n,t1,[]⟩ { tmps:=(ps.zip us).foldl (fun tmps (p:Nat×Value)=>tmps.setIfInBounds p.1 p.2) tm,defers:=[] }:=⟨hft1,.nil⟩;have h1ok:=(i2 hcall (r:=some b) (dr:=fun _ _ _ _=>none) (fun e=>by cases e) 0 C.fuel).1 _ _ _ _ _ _ ha σ _ w hfr hr;refine wpIn_mono h1ok fun x a1 w1 hq=>?_;cases x with
  | normal=>
   obtain ⟨_,σ1,hle1,hr1,hf1⟩:=hq;have hb1:=hle1 _ _ hb;obtain ⟨fn1,df1,tm1,hrow1,hft2⟩:=jE hr1 hg1 hb1;refine ⟨World.upd w1 b (.loop { state:=.busy,pending:=pend2,fn:=fn1,tmps:=tm1,params:=ps2.toArray,assign:=as2,body:=body2,defers:=df1 }), ?_, ?_⟩
   ·unfold Instr.beginRound;rw [Sem.run_bind,eE hrow1,Result.andThen_ok,Sem.run_bind,dC hrow1 (fun _ _ _ e=>by cases e),Result.andThen_ok];rfl
   ·have hr2:=hr1.upd (y:=.loop .busy pend2 n2 t2 ps2 as2 body2) hg1 hb1 (o:=.loop { state:=.busy,pending:=pend2,fn:=fn1,tmps:=tm1,params:=ps2.toArray,assign:=as2,body:=body2,defers:=df1 }) ⟨fn1,df1,tm1,rfl,hft2⟩;have h2ok:=(i2 hcall (r:=some b) (dr:=fun _ _ _ _=>none) (fun e=>by cases e) 0 C.fuel).1 _ _ _ _ _ _ hbd σ1 _ _ hf1 hr2;refine wpIn_mono h2ok fun y a2 w2 hq2=>?_;have fin:St W σ1 f2 h2 a2 w2→∃ v w',(Instr.endRound b (jumpOf e)).run P w2=.ok v w'∧∃ v',Ending.returned v=.returned v'∧Rs W σ r v' w':=fun ⟨σ2,hle2,hr3,_⟩=>by
     obtain ⟨w',h3,h4⟩:=GZ (P:=P) hr3 (hle2 _ _ hb1) hg2 (jumpOf e);exact ⟨_,w',h3,_,rfl,σ2,Sg.le_trans hle1 hle2,by rw [hres];exact .b _,by rw [hres];exact h4⟩
    cases y with
    | normal=>obtain ⟨he,hs⟩:=hq2;subst he;exact fin hs
    | exit i=>obtain ⟨he,hs⟩:=hq2;subst he;exact fin hs
    | ret=>obtain ⟨he,hs⟩:=hq2;subst he;exact fin hs
    | goto i=>obtain ⟨he,hs⟩:=hq2;subst he;exact fin hs
    | panic ch=>exact hq2.elim
    | outgrown=>exact hq2.elim
  | exit i=>exact absurd hq.1 (by simp)
  | ret=>exact absurd hq.1 (by simp)
  | goto l=>exact absurd hq.1 (by simp)
  | panic ch=>exact hq.elim
  | outgrown=>exact hq.elim
theorem o8 {C:Cfg} (hC:CfgOK P W C):∀ d,CallOK P W (callA P C d)
 | 0=>⟨fun k args h r hx=>by simp [callA] at hx,fun l args h r hx=>by simp [callA] at hx⟩
 | d+1=>by
  have hcall:=o8 hC d;refine ⟨fun k args h r hx σ w us hr hv=>?_,fun l args h r hx σ w us b k hr hv hb=>?_⟩
  ·simp only [callA] at hx
   split at hx
   ·rename_i g hg;exact hC.hook k g hg args h r hx σ w us hr hv
   ·split at hx
    rotate_left
    ·cases hx
    rename_i fn f h1 hent
    split at hx
    rotate_left
    ·cases hx
    rename_i h2 hdf
    split at hx
    rotate_left
    ·cases hx
    rename_i v hout;cases hx;obtain ⟨hk,c,hc,hwp⟩:=rE hcall (hC.draw _ hcall k) 0 hent hr hv;refine ⟨s8 hC hk hc _ _,(callsIn_wide (n:=0)).1 (callsIn_of_wp_marks hk hc trivial (wpIn_mono hwp fun x a w' hq=>?_) rfl)⟩;obtain ⟨hx,σ1,hle1,hr1,hf1⟩:=hq;have hlv:LeavesInM Fence.wide 0 P fn a.tmps (fun e w'=>∃ u,e=.returned u∧Rs W σ (v,h2) u w') a.defers .returning w':=
     fU hC hcall hdf hf1.d hr1 fun σ2 w2 hle2 hr2=>by
      obtain ⟨u,h3,h4⟩:=tJ (P:=P) (hf1.t.mono hle2) hr2 hout;exact ⟨u,h4,u,rfl,σ2,Sg.le_trans hle1 hle2,h3,hr2⟩
    rcases hx with rfl | rfl
    ·exact hlv
    ·exact hlv
  ·simp only [callA] at hx
   split at hx
   rotate_left
   ·cases hx
   rename_i pend n t ps aj body hg
   split at hx
   rotate_left
   ·cases hx
   rename_i t1 hp
   split at hx
   rotate_left
   ·cases hx
   rename_i f1 h1 ha
   split at hx
   rotate_left
   ·cases hx
   rename_i pend2 n2 t2 ps2 as2 body2 hg1
   split at hx
   rotate_left
   ·cases hx
   rename_i e f2 h2 hbd
   split at hx
   rotate_left
   ·cases hx
   rename_i st3 pend3 n3 t3 ps3 as3 body3 hg2;cases hx;exact JY hcall hg hp ha hg1 hbd hg2 rfl hr hv hb
end Go.Proofs.YtpidmmfjcghmeaaGreat.Ab
namespace Go.Proofs.YtpidmmfjcghmeaaGreat.Ab
open Go.RowKit
variable {P:Program} {σ:Sg} {W:World}
inductive Plan where
  | done
  | take (i:Nat) (p:Plan)
  | exec (i:Nat) (s:Option Nat) (p:Plan)
  | fork (i:Nat) (s:Option Nat) (p:Plan) (j:Nat) (s':Option Nat) (q:Plan)
noncomputable def early (o:Oper):Bool:=
  match o.op with
  | .move _ | .assign _ | .pick _ _ _ | .build _ _ | .nilCheck _ | .binOp _ _ _ _ _ | .unOp _ _ _ | .convert _ _ _ | .index _ _ _ | .makeInterface _ _ | .makeFunc _ _ _ | .slice _ _ _ _ _ | .fieldAddr _ _ _ | .field _ _ _ | .indexAddr _ _ _ | .extract _ _ | .load _ _=>true
  | .call c=>match c.callee with
    | .builtin .len=>true
    | .builtin .cap=>true
    | .builtin .max=>true
    | .builtin .min=>true
    | _=>false
  | _=>false
noncomputable def makes (o:Oper):Bool:=
  match o.op with
  | .alloc _ | .box _ _ | .buildSlice _ _ _=>true
  | .call c=>match c.callee with | .builtin .append=>true | _=>false
  | _=>false
noncomputable def slotOf (ops:Array Oper) (i:Nat):Option Nat:=match ops[i]? with | some o=>if makes o then some i else none | none=>none
noncomputable def firstOf (ops:Array Oper) (l:Array Bool):List Nat→Option Nat
  | []=>none
  | i::r=>match ops[i]? with
    | some o=>if early o&&Region.free .any ops l i then some i else firstOf ops l r
    | none=>none
noncomputable def planOf (fk:Bool) (ops:Array Oper):Nat→Array Bool→Plan
  | 0,_=>.done
  | n+1,l=>
    let rs:=Region.ready .any ops l
    match firstOf ops l rs with
    | some i=>.take i (planOf fk ops n (l.setIfInBounds i true))
    | none=>match rs with
      | [i]=>(if fk then .exec i (slotOf ops i) (planOf fk ops n (l.setIfInBounds i true)) else .exec i none (planOf fk ops n (l.setIfInBounds i true)))
      | [i,j]=>.fork i (slotOf ops i) (planOf fk ops n (l.setIfInBounds i true)) j (slotOf ops j) (planOf fk ops n (l.setIfInBounds j true))
      | _=>.done
noncomputable def planOk (ops:Array Oper):Nat→Array Bool→Plan→Bool
  | _,l,.done=>(Region.ready .any ops l).isEmpty
  | n+1,l,.take i p=>(Region.ready .any ops l).contains i&&(Region.free .any ops l i&&planOk ops n (l.setIfInBounds i true) p)
  | n+1,l,.exec i _ p=>decide (Region.ready .any ops l=[i])&&planOk ops n (l.setIfInBounds i true) p
  | n+1,l,.fork i _ p j _ q=>decide (Region.ready .any ops l=[i,j])&&(planOk ops n (l.setIfInBounds i true) p&&planOk ops n (l.setIfInBounds j true) q)
  | 0,_,_=>false
abbrev Con:=Nat×TypeId×AV×AV
noncomputable def consOk (P:Program) (h:H):List Con→Bool
  | []=>true
  | (_,t,p,v)::l=>(match loadA P h t p with | some u=>eqA u v | none=>false)&&consOk P h l
noncomputable def waits (o:Oper) (i:Nat):Bool:=o.after.any fun e=>Region.binds .any e&&e.on==i
noncomputable def keepC (o:Oper) (C:List Con):List Con:=C.filter fun c=>!waits o c.1
noncomputable def slotH (h:H):Option Nat→Option H
  | none=>some h
  | some s=>if s∈h.rs∧h.sl=none then some { h with rs:=h.rs.erase s,sl:=some s } else none
noncomputable def execA (P:Program) (call:aZ) (ops:Array Oper) (f:F) (h:H) (C:List Con) (i:Nat) (s:Option Nat):Option (F×H×List Con):=
  match ops[i]? with
  | none=>none
  | some o=>match o.op with
    | .defer _=>none
    | _=>match slotH h s with
      | none=>none
      | some h0=>match stepA P call false ops f h0 o with
        | some (f1,h1)=>if h1.sl.isNone&&consOk P h1 (keepC o C) then some (f1,h1,keepC o C) else none
        | none=>none
noncomputable def drawA (P:Program) (call:aZ) (ops:Array Oper) (base:Nat):Plan→F→H→List Con→Option (F×H)
  | .done,f,h,_=>some (f,h)
  | .take i p,f,h,C=>match ops[i]? with
    | none=>none
    | some o=>match wantedA ops f o with
      | false=>(match putF f o.dst und with | some f=>drawA P call ops base p f h C | none=>none)
      | true=>match pureA P f h o with
        | some v=>(match putF f o.dst v with | some f=>drawA P call ops base p f h C | none=>none)
        | none=>match o.op with
          | .load t a=>match evF f a with
            | some pv=>match loadA P h t pv with
              | some v=>if det v then (match putF f o.dst v with | some f=>drawA P call ops base p f h ((i,t,pv,v)::C) | none=>none) else none
              | none=>none
            | none=>none
          | _=>none
  | .exec i s p,f,h,C=>match execA P call ops f h C i (s.map (base + ·)) with
    | some (f,h,C)=>drawA P call ops base p f h C
    | none=>none
  | .fork i s p j s' q,f,h,C=>match execA P call ops f h C i (s.map (base + ·)),execA P call ops f h C j (s'.map (base + ·)) with
    | some (f1,h1,C1),some (f2,h2,C2)=>match drawA P call ops base p f1 h1 C1,drawA P call ops base q f2 h2 C2 with
      | some r1,some r2=>if eqS r1 r2 then some r1 else none
      | _,_=>none
    | _,_=>none
noncomputable def range':Nat→Nat→List Nat
  | _,0=>[]
  | b,n+1=>b::range' (b+1) n
noncomputable def reserve (h:H) (n:Nat):H:={ h with nx:=h.nx+n,rs:=range' h.nx n++h.rs }
noncomputable def noYl (call:aZ):aZ
  | .fn k,args,h=>call (.fn k) args h
  | .yl _,_,_=>none
noncomputable def forks:Plan→Bool
  | .done=>false
  | .take _ p=>forks p
  | .exec _ _ p=>forks p
  | .fork _ _ _ _ _ _=>true
noncomputable def relieve (h:H) (b:Nat):H:={ h with rs:=h.rs.filter fun i=>decide (i<b) }
noncomputable def drawC (P:Program) (call:aZ):fH:=fun _ ops f h=>
  let l:=Array.replicate ops.size false;let p:=planOf false ops ops.size l
  if Region.noSelect ops&&h.sl.isNone then
    (if forks p then
      (let p:=planOf true ops ops.size l
       if planOk ops ops.size l p then (match drawA P (noYl call) ops h.nx p f (reserve h ops.size) [] with
        | some (f1,h1)=>some (f1,relieve h1 h.nx)
        | none=>none) else none)
    else if planOk ops ops.size l p then drawA P (noYl call) ops 0 p f h [] else none)
  else none
theorem Does.wp {o:Oper} {a:Act} {w:World} {R:Value→World→Prop} (h:Does P false o a w R) {K:Act→World→Prop} {Q:Exit→Act→World→Prop} (hK:∀ v w',R v w'→K (a.put o.dst v) w'):o.wp P a w K Q:=by
  unfold Oper.wp;cases h with
  | val v w' h1 h2=>rw [h1];exact hK v w' h2
  | skp w' h1 h2=>rw [h1];exact hK _ w' h2
  | ent k args w' h1 h2=>
    rw [h1];refine h2.mono ?_;rintro e w'' ⟨v,rfl,hv⟩;exact hK v w'' hv
  | rnd l fn tmps aj body w' hb h1 h2=>cases hb
theorem FH {call:aZ} (h:CallOK P W call):CallOK P W (noYl call):=⟨fun k args hh r hx=>h.fn k args hh r hx,fun l args hh r hx=>by simp [noYl] at hx⟩
theorem eZ:∀ (n b i:Nat),i∈range' b n↔b≤i∧i<b+n
  | 0,b,i=>by simp [range']
  | n+1,b,i=>by rw [range',List.mem_cons,eZ n (b+1) i];omega
theorem jH:∀ (n b:Nat),(range' b n).Nodup
  | 0,_=>by simp [range']
  | n+1,b=>by rw [range',List.nodup_cons];exact ⟨fun h=>by have:=(eZ n (b+1) b).1 h;omega,jH n (b+1)⟩
theorem tR {h:H} {w:World} (hr:HR W σ h w) (n:Nat):HR W σ (reserve h n) w:=by
  have hmem:∀ i,i∈(reserve h n).rs↔(h.nx≤i∧i<h.nx+n)∨i∈h.rs:=fun i=>by simp only [reserve,List.mem_append,eZ]
  refine ⟨hr.obj,hr.inj,fun i hi=>hr.fre i (by simp only [reserve] at hi;omega),fun i hi=>?_,fun i hi=>?_,fun i hi=>?_, ?_,hr.bel⟩
  · rcases (hmem i).1 hi with h1 | h1
    · exact hr.fre i h1.1
    · exact hr.frs i h1
  · obtain ⟨h1,h2,h3⟩:=hr.fsl i hi
    exact ⟨h1, by simp only [reserve]; omega, fun e => by rcases (hmem i).1 e with h4 | h4; · omega
                                                          · exact h3 h4⟩
  · rcases (hmem i).1 hi with h1 | h1
    · exact h1.2
    · have:=hr.rsl i h1;simp only [reserve];omega
  · simp only [reserve];rw [List.nodup_append];refine ⟨jH _ _,hr.rnd,fun a ha b hb e=>?_⟩;subst e;have h1:=(eZ _ _ _).1 ha;have h2:=hr.rsl _ hb;omega
theorem F4 {h h0:H} {w:World} (hr:HR W σ h w) {s:Option Nat} (hs:slotH h s=some h0):HR W σ h0 w:=by
  unfold slotH at hs
  split at hs
  · cases hs;exact hr
  · rename_i s
    split at hs
    · rename_i hc;obtain ⟨h1,h2⟩:=hc;cases hs;exact ⟨hr.obj,hr.inj,hr.fre,fun i hi=>hr.frs i (List.mem_of_mem_erase hi),fun i hi=>by
        cases hi;exact ⟨hr.frs _ h1,hr.rsl _ h1,fun e=>(List.Nodup.mem_erase_iff hr.rnd).1 e |>.1 rfl⟩,fun i hi=>hr.rsl i (List.mem_of_mem_erase hi),hr.rnd.erase _,hr.bel⟩
    · cases hs
noncomputable def waitsAt (ops:Array Oper) (j i:Nat):Bool:=match ops[j]? with | some o=>waits o i | none=>false
noncomputable def keepL (ops:Array Oper) (j:Nat) (L:List (Nat×(World→Prop))):List (Nat×(World→Prop)):=L.filter fun c=>!waitsAt ops j c.1
section
variable {ops:Array Oper} {Q:Exit→Act→World→Prop}
noncomputable def wpAnyK (P:Program) (ops:Array Oper) (Q:Exit→Act→World→Prop):Nat→Array Bool→List (Nat×(World→Prop))→Act→World→Prop
  | 0,listed,_,a,w=>Region.ready .any ops listed=[]∧Q .normal a w
  | n+1,listed,L,a,w=>
    (Region.ready .any ops listed=[]→Q .normal a w)∧
    ∀ j∈Region.ready .any ops listed,wpOp P ops Q j (fun a' w'=>(∀ c∈keepL ops j L,c.2 w')∧wpAnyK P ops Q n (listed.setIfInBounds j true) (keepL ops j L) a' w') a w
theorem nA:∀ (n:Nat) (listed:Array Bool) (L:List (Nat×(World→Prop))) (a:Act) (w:World),wpAnyK P ops Q n listed L a w→wpAny P .any ops Q n listed a w
  | 0,_,_,_,_,h=>h
  | n+1,_,_,_,_,h=>⟨h.1,fun j hj=>wpOp_mono (fun a' w' h'=>nA n _ _ a' w' h'.2) (h.2 j hj)⟩
theorem oC {j:Nat} {L L':List (Nat×(World→Prop))} (h:∀ c∈L',c∈L):∀ c∈keepL ops j L',c∈keepL ops j L:=fun c hc=>by
  unfold keepL at *;rw [List.mem_filter] at *;exact ⟨h c hc.1,hc.2⟩
theorem mZ:∀ (n:Nat) (listed:Array Bool) (L L':List (Nat×(World→Prop))) (a:Act) (w:World),(∀ c∈L',c∈L)→wpAnyK P ops Q n listed L a w→wpAnyK P ops Q n listed L' a w
  | 0,_,_,_,_,_,_,h=>h
  | n+1,_,_,_,_,_,hs,h=>⟨h.1,fun j hj=>wpOp_mono (fun a' w' h'=>⟨fun c hc=>h'.1 c (oC hs c hc),mZ n _ _ _ a' w' (oC hs) h'.2⟩) (h.2 j hj)⟩
theorem yU {j i:Nat} {oj:Oper} (hoj:ops[j]? = some oj) (h:∀ e∈oj.after,Region.binds .any e=true→e.on≠i):waitsAt ops j i=false:=by
  unfold waitsAt;rw [hoj];simp only [waits];rw [Array.any_eq_false'];intro e he;by_cases hb:Region.binds .any e=true
  · have:=h e he hb;simp [this]
  · simp [hb]
theorem qK {i:Nat} {oi:Oper} {v:Value} {S:World→Prop} (hi:ops[i]? = some oi) (hsel:∀ (j:Nat) (o:Oper) cs b,ops[j]? = some o→o.op≠.select cs b)
    (hQ:∀ c a w,Q (.panic c) (a.put oi.dst v) w→Q (.panic c) a w):
    ∀ (n:Nat) (listed:Array Bool) (L:List (Nat×(World→Prop))) (a:Act) (w:World),
      (∀ j oj,ops[j]? = some oj→j≠i→listed.getD j true=false→(∀ e∈oj.after,Region.binds .any e=true→e.on≠i)→oi.apart ops oj=true)→
      i∈Region.ready .any ops listed→YieldsIf P ops S oi v a→S w→(∀ c∈L,c.2 w)→
      wpAnyK P ops Q n (listed.setIfInBounds i true) ((i,S)::L) (a.put oi.dst v) w→wpAnyK P ops Q (n+1) listed L a w:=by
  intro n
  induction n with
  | zero=>
    intro listed L a w _ hr hy hS hL H;refine ⟨fun h=>(by rw [h] at hr;cases hr),fun j hj=>?_⟩;by_cases hji:j=i
    · subst hji;exact hy.wpOp hi hS ⟨fun c hc=>hL c (List.mem_filter.1 hc).1,H⟩
    · have:=ready_mono hj hji;rw [H.1] at this;cases this
  | succ n ih=>
    intro listed L a w hfree hr hy hS hL H;refine ⟨fun h=>(by rw [h] at hr;cases hr),fun j hj=>?_⟩;by_cases hji:j=i
    · subst hji;exact hy.wpOp hi hS ⟨fun c hc=>hL c (List.mem_filter.1 hc).1,mZ _ _ _ _ _ _ (fun c hc=>yI _ (List.mem_filter.1 hc).1) H⟩
    · have h1:=H.2 j (ready_mono hj hji);obtain ⟨hjun,oj,hoj,hall⟩:=mem_ready.1 hj;have hnot:∀ e∈oj.after,Region.binds .any e=true→e.on≠i:=fun e he hb heq=>by
        have h1:=hall e he hb;have h0:=(mem_ready.1 hr).1;rw [heq] at h1;rcases Nat.lt_or_ge i listed.size with h' | h'
        · simp [h'] at h0 h1;rw [h0] at h1;cases h1
        · simp [Array.getElem?_eq_none h'] at h1
      have hk:keepL ops j ((i,S)::L)=(i,S)::keepL ops j L:=by
        unfold keepL;rw [List.filter_cons_of_pos (by rw [yU hoj hnot];rfl)]
      rw [hk] at h1;have h2:=wpOp_putIf hoj (hfree j oj hoj hji hjun hnot) (fun cs b=>hsel i oi cs b hi) (fun cs b=>hsel j oj cs b hoj) hQ hy h1;have hfree':∀ k ok,ops[k]? = some ok→k≠i→(listed.setIfInBounds j true).getD k true=false→
          (∀ e∈ok.after,Region.binds .any e=true→e.on≠i)→oi.apart ops ok=true:=fun k ok hk hki hun hno=>by
        refine hfree k ok hk hki ?_ hno;by_cases hjk:j=k
        · subst hjk;exact hjun
        · rw [getD_set_ne true hjk] at hun;exact hun
      refine wpOp_mono (fun a' w' h3=>?_) h2;obtain ⟨h4,h5,h6⟩:=h3;have hLk:∀ c∈keepL ops j L,c.2 w':=fun c hc=>h5 c (yI _ hc);refine ⟨hLk,ih (listed.setIfInBounds j true) (keepL ops j L) a' w' hfree' (ready_mono hr (Ne.symm hji)) h4 (h5 (i,S) (yH ..)) hLk ?_⟩;rw [Array.setIfInBounds_comm _ _ hji];exact h6
end
theorem kK {ops:Array Oper} {Q:Exit→Act→World→Prop} {i:Nat} {S:World→Prop} (n:Nat) (listed:Array Bool) (L:List (Nat×(World→Prop))) (a:Act) (w:World) (hS:∀ w,S w) (h:wpAnyK P ops Q n listed L a w):wpAnyK P ops Q n listed ((i,S)::L) a w:=by
  induction n generalizing listed L a w with
  | zero=>exact h
  | succ n ih=>
    refine ⟨h.1,fun j hj=>wpOp_mono (fun a' w' h'=>?_) (h.2 j hj)⟩;have hk:keepL ops j ((i,S)::L)=(i,S)::keepL ops j L∨keepL ops j ((i,S)::L)=keepL ops j L:=by
      unfold keepL;rw [List.filter_cons]
      split
      · exact .inl rfl
      · exact .inr rfl
    rcases hk with hk | hk
    · rw [hk];exact ⟨fun c hc=>by
        rcases List.mem_cons.1 hc with rfl | hc
        · exact hS w'
        · exact h'.1 c hc,ih _ _ _ _ h'.2⟩
    · rw [hk];exact h'
abbrev Kon:=Nat×TypeId×Value×Value
noncomputable def KL (P:Program) (K:List Kon):List (Nat×(World→Prop)):=K.map fun c=>(c.1,fun w=>(Instr.loadAt c.2.1 c.2.2.1).run P w=.ok c.2.2.2 w)
inductive CL (σ:Sg):List Con→List Kon→Prop
  | nil:CL σ [] []
  | cons (i t p v pv vv C K):VR σ p pv→VR σ v vv→det v=true→CL σ C K→CL σ ((i,t,p,v)::C) ((i,t,pv,vv)::K)
theorem CL.mono {σ σ':Sg} (h:Sg.le σ σ'):∀ {C:List Con} {K:List Kon},CL σ C K→CL σ' C K
  | _,_,.nil=>.nil
  | _,_,.cons i t p v pv vv C K h1 h2 h3 h4=>.cons i t p v pv vv C K (h1.mono h) (h2.mono h) h3 (h4.mono h)
theorem CL.keep (o:Oper):∀ {C:List Con} {K:List Kon},CL σ C K→CL σ (keepC o C) (K.filter fun c=>!waits o c.1)
  | _,_,.nil=>.nil
  | _,_,.cons i t p v pv vv C K h1 h2 h3 h4=>by
    unfold keepC;by_cases hw:waits o i=true
    · rw [List.filter_cons_of_neg (by simp [hw]),List.filter_cons_of_neg (by simp [hw])];exact h4.keep o
    · rw [List.filter_cons_of_pos (by simp [hw]),List.filter_cons_of_pos (by simp [hw])];exact .cons i t p v pv vv _ _ h1 h2 h3 (h4.keep o)
theorem uM {h:H} {w:World} (hr:HR W σ h w):∀ {C:List Con} {K:List Kon},CL σ C K→consOk P h C=true→∀ c∈KL P K,c.2 w
  | _,_,.nil,_=>by simp [KL]
  | _,_,.cons i t p v pv vv C K h1 h2 h3 h4,hc=>by
    simp only [consOk,yF] at hc;intro c hm;simp only [KL,List.map_cons,List.mem_cons] at hm;rcases hm with rfl | hm
    · obtain ⟨hc1,_⟩:=hc
      split at hc1
      · rename_i u hu;have:=lT hc1;subst this;obtain ⟨u',h5,h6⟩:=kU (P:=P) hr h1 hu;rw [s6 h3 h2 h5];exact h6
      · cases hc1
    · exact uM hr h4 hc.2 c hm
theorem B8 {ops:Array Oper} {i:Nat} {o:Oper} (hi:ops[i]? = some o) (K:List Kon):keepL ops i (KL P K)=KL P (K.filter fun c=>!waits o c.1):=by
  unfold keepL KL;rw [List.filter_map]
  congr 1
  apply List.filter_congr;intro c _;simp [waitsAt,hi]
theorem F7 {call:aZ} (hcall:CallOK P W call) {ops:Array Oper} {f f':F} {h h':H} {a:Act} {w:World} (hf:FR σ f a) (hr:HR W σ h w) {i:Nat} {o:Oper} (hi:ops[i]? = some o) (hnd:∀ c,o.op≠.defer c) (hx:stepA P (noYl call) false ops f h o=some (f',h'))
    {K:Act→World→Prop} {Q:Exit→Act→World→Prop} (hK:∀ a w,St W σ f' h' a w→K a w):wpOp P ops Q i K a w:=by
  unfold wpOp;rw [hi];simp only;rw [gQ hf.t];unfold stepA at hx
  split at hx
  · rename_i hw;rw [hw,if_pos rfl]
    split at hx
    · rename_i c hop;exact absurd hop (hnd c)
    · split at hx
      rotate_left
      · cases hx
      rename_i v h1 hv
      split at hx
      rotate_left
      · cases hx
      rename_i f2 hp;cases hx;refine .inl ((zM (y:=false) (FH hcall) (fun _ l args h=>rfl) hf.t hr hv).wp ?_);rintro u w' ⟨σ',h2,h3,h4⟩;exact hK _ _ ⟨σ',h2,h4,(hf.mono h2).put hp h3⟩
  · rename_i hw;rw [hw,if_neg (by simp)]
    split at hx
    · rename_i f1 hp;cases hx;exact hK _ _ ⟨σ,Sg.le_refl _,hr,hf.put hp .und⟩
    · cases hx
theorem pJ {call:aZ} (hcall:CallOK P W call) {ops:Array Oper} {f f':F} {h h':H} {C C':List Con} {a:Act} {w:World} {i:Nat} {s:Option Nat} (hx:execA P (noYl call) ops f h C i s=some (f',h',C')) {σ0:Sg} (hle:Sg.le σ0 σ) (hf:FR σ f a) (hr:HR W σ h w) {K:List Kon} (hc:CL σ C K)
    {Q:Exit→Act→World→Prop} {R:List (Nat×(World→Prop))→Act→World→Prop}
    (hR:∀ σ' K' a' w',Sg.le σ0 σ'→FR σ' f' a'→HR W σ' h' w'→CL σ' C' K'→(∀ c∈KL P K',c.2 w')→R (KL P K') a' w'):
    wpOp P ops Q i (fun a' w'=>(∀ c∈keepL ops i (KL P K),c.2 w')∧R (keepL ops i (KL P K)) a' w') a w:=by
  unfold execA at hx
  split at hx
  · cases hx
  rename_i o hi
  split at hx
  · cases hx
  rename_i hnd
  split at hx
  · cases hx
  rename_i h0 hs
  split at hx
  rotate_left
  · cases hx
  rename_i f1 h1 hst
  split at hx
  rotate_left
  · cases hx
  rename_i hok;cases hx;simp only [yF] at hok;refine F7 hcall hf (F4 hr hs) hi hnd hst ?_;rintro a' w' ⟨σ',h2,h3,h4⟩;rw [B8 hi];have hc':=(hc.mono h2).keep o;have hall:=uM (P:=P) h3 hc' hok.2;exact ⟨hall,hR σ' _ a' w' (Sg.le_trans hle h2) h4 h3 hc' hall⟩
theorem XQ.panic {σ0:Sg} {e:Ex} {f:F} {h:H}:∀ c (a a':Act) w,XQ W σ0 e f h (.panic c) a w→XQ W σ0 e f h (.panic c) a' w:=fun _ _ _ _ hq=>hq.elim
theorem EM {call:aZ} (hcall:CallOK P W call) {ops:Array Oper} (hns:Region.noSelect ops=true) (base:Nat) {σ0:Sg}:∀ (p:Plan) (n:Nat) (listed:Array Bool) {f f':F} {h h':H} {C:List Con},planOk ops n listed p=true→drawA P (noYl call) ops base p f h C=some (f',h')→
    ∀ {σ:Sg} {K:List Kon} {a:Act} {w:World},Sg.le σ0 σ→FR σ f a→HR W σ h w→CL σ C K→(∀ c∈KL P K,c.2 w)→wpAnyK P ops (XQ W σ0 .nrm f' h') n listed (KL P K) a w:=by
  intro p
  induction p with
  | done=>
    intro n listed f f' h h' C hp hx σ K a w hle hf hr hc hL;simp only [drawA] at hx;cases hx;have hq:XQ W σ0 .nrm f h .normal a w:=⟨rfl,σ,hle,hr,hf⟩;cases n with
    | zero=>simp only [planOk,List.isEmpty_iff] at hp;exact ⟨hp,hq⟩
    | succ n=>simp only [planOk,List.isEmpty_iff] at hp;exact ⟨fun _=>hq,by rw [hp];simp⟩
  | take i p ih=>
    intro n listed f f' h h' C hp hx σ K a w hle hf hr hc hL;cases n with
    | zero=>simp [planOk] at hp
    | succ n=>
      simp only [planOk,yF] at hp;obtain ⟨hp1,hp2,hp3⟩:=hp;have hrd:i∈Region.ready .any ops listed:=by simpa using hp1
      simp only [drawA] at hx
      split at hx
      · cases hx
      rename_i o hi;have first:=fun {v:Value} {S:World→Prop} (hy:YieldsIf P ops S o v a) (hS:S w) (H:wpAnyK P ops (XQ W σ0 .nrm f' h') n (listed.setIfInBounds i true) ((i,S)::KL P K) (a.put o.dst v) w)=>
        qK hi (Region.noSelect_spec hns) (fun c a w hq=>XQ.panic c _ a w hq) n listed (KL P K) a w (Region.free_spec hi hp2) hrd hy hS hL H
      split at hx
      · rename_i hw
        split at hx
        · rename_i f1 hput;exact first (v:=Go.undef) (S:=fun _=>True) (.inr ⟨by rw [gQ hf.t];exact hw,rfl⟩) trivial (kK _ _ _ _ _ (fun _=>trivial) (ih n _ hp3 hx hle (hf.put hput .und) hr hc hL))
        · cases hx
      · rename_i hw;have hwt:Region.wanted o (yielded ops a.tmps)=true:=by rw [gQ hf.t];exact hw
        split at hx
        · rename_i v hv
          split at hx
          · rename_i f1 hput;obtain ⟨u,h1,h2⟩:=p8 hf.t hr hv;exact first (v:=u) (S:=fun _=>True) (.inl ⟨hwt,fun w _=>h2 w⟩) trivial (kK _ _ _ _ _ (fun _=>trivial) (ih n _ hp3 hx hle (hf.put hput h1) hr hc hL))
          · cases hx
        · split at hx
          rotate_left
          · cases hx
          rename_i t x hop
          split at hx
          rotate_left
          · cases hx
          rename_i pv hpv
          split at hx
          rotate_left
          · cases hx
          rename_i v hv
          split at hx
          rotate_left
          · cases hx
          rename_i hdet
          split at hx
          rotate_left
          · cases hx
          rename_i f1 hput;obtain ⟨u,h1,h2⟩:=kU (P:=P) hr (aU hf.t hpv) hv;have hc':CL σ ((i,t,pv,v)::C) ((i,t,a.eval x,u)::K):=.cons i t pv v (a.eval x) u C K (aU hf.t hpv) h1 hdet hc;refine first (v:=u) (S:=fun w=>(Instr.loadAt t (a.eval x)).run P w=.ok u w) (.inl ⟨hwt,fun w hwl=>?_⟩) h2 ?_
          · obtain ⟨dst,op,ty,pos,af,gd⟩:=o;simp only at hop;subst hop;exact bH hwl
          · have:=ih n _ hp3 hx hle (hf.put hput h1) hr hc' (fun c hm=>by
              simp only [KL,List.map_cons,List.mem_cons] at hm;rcases hm with rfl | hm
              · exact h2
              · exact hL c hm)
            exact this
  | exec i s p ih=>
    intro n listed f f' h h' C hp hx σ K a w hle hf hr hc hL;cases n with
    | zero=>simp [planOk] at hp
    | succ n=>
      simp only [planOk,yF,decide_eq_true_eq] at hp;simp only [drawA] at hx
      split at hx
      rotate_left
      · cases hx
      rename_i f1 h1 C1 hex;refine ⟨fun e=>(by rw [hp.1] at e;cases e),fun j hj=>?_⟩;rw [hp.1] at hj;obtain rfl:j=i:=by simpa using hj
      exact pJ hcall hex hle hf hr hc (R:=fun L a' w'=>wpAnyK P ops (XQ W σ0 .nrm f' h') n (listed.setIfInBounds j true) L a' w') fun σ' K' a' w' h2 h3 h4 h5 h6=>ih n _ hp.2 hx h2 h3 h4 h5 h6
  | fork i s p j s' q ihp ihq=>
    intro n listed f f' h h' C hp hx σ K a w hle hf hr hc hL;cases n with
    | zero=>simp [planOk] at hp
    | succ n=>
      simp only [planOk,yF,decide_eq_true_eq] at hp;simp only [drawA] at hx
      split at hx
      rotate_left
      · cases hx
      rename_i f1 h1 C1 f2 h2 C2 hex1 hex2
      split at hx
      rotate_left
      · cases hx
      rename_i r1 r2 hd1 hd2
      split at hx
      rotate_left
      · cases hx
      rename_i heq;have e12:=G0 heq;cases hx;subst e12;refine ⟨fun e=>(by rw [hp.1] at e;cases e),fun k hk=>?_⟩;rw [hp.1] at hk;simp only [List.mem_cons,List.not_mem_nil,or_false] at hk;rcases hk with rfl | rfl
      · exact pJ hcall hex1 hle hf hr hc (R:=fun L a' w'=>wpAnyK P ops (XQ W σ0 .nrm f' h') n (listed.setIfInBounds k true) L a' w') fun σ' K' a' w' h2 h3 h4 h5 h6=>ihp n _ hp.2.1 hd1 h2 h3 h4 h5 h6
      · exact pJ hcall hex2 hle hf hr hc (R:=fun L a' w'=>wpAnyK P ops (XQ W σ0 .nrm f' h') n (listed.setIfInBounds k true) L a' w') fun σ' K' a' w' h2 h3 h4 h5 h6=>ihq n _ hp.2.2 hd2 h2 h3 h4 h5 h6
theorem tP {h:H} {w:World} (hr:HR W σ h w) (b:Nat):HR W σ (relieve h b) w:=by
  have hs:∀ i,i∈(relieve h b).rs→i∈h.rs:=fun i hi=>(List.mem_filter.1 hi).1;exact ⟨hr.obj,hr.inj,hr.fre,fun i hi=>hr.frs i (hs i hi),fun i hi=>⟨(hr.fsl i hi).1,(hr.fsl i hi).2.1,fun e=>(hr.fsl i hi).2.2 (hs i e)⟩,fun i hi=>hr.rsl i (hs i hi),hr.rnd.filter _,hr.bel⟩
theorem AS (hm:P.follows .mixedOrders=true) {call:aZ} (hcall:CallOK P W call):k9 P W (drawC P call):=by
  intro id ops f h f' h' hx σ a w hf hr;unfold drawC at hx;simp only at hx
  split at hx
  rotate_left
  · cases hx
  rename_i hc;simp only [yF] at hc;have key:∀ (base:Nat) (p:Plan) (hs:H) (f1:F) (h1:H),planOk ops ops.size (Array.replicate ops.size false) p=true→drawA P (noYl call) ops base p f hs []=some (f1,h1)→HR W σ hs w→
      (Code.region id ops true).wp P (XQ W σ .nrm f1 h1) a w:=fun base p hs f1 h1 hp hd hr'=>
    wp_region_any hm (nA _ _ _ _ _ (EM hcall hc.1 base p ops.size _ hp hd (Sg.le_refl _) hf hr'.drew .nil (by simp [KL])))
  split at hx
  · split at hx
    · rename_i hp
      split at hx
      · rename_i f1 h1 hd;cases hx;refine wp_mono (key _ _ _ _ _ hp hd (tR hr _)) fun e a' w' hq=>?_;cases e with
        | normal=>obtain ⟨_,σ',h2,h3,h4⟩:=hq;exact ⟨rfl,σ',h2,tP h3 _,h4⟩
        | exit i=>exact absurd hq.1 (by simp)
        | ret=>exact absurd hq.1 (by simp)
        | goto l=>exact absurd hq.1 (by simp)
        | panic ch=>exact hq.elim
        | outgrown=>exact hq.elim
      · cases hx
    · cases hx
  · split at hx
    · rename_i hp;exact key _ _ _ _ _ hp hx hr
    · cases hx
end Go.Proofs.YtpidmmfjcghmeaaGreat.Ab
namespace Go.Proofs.YtpidmmfjcghmeaaGreat.Ab
open Go.RowKit
variable {σ:Sg} {W:World}
theorem cV:(Tryz.prog.info? 141).map (·.size)=some 2:=by kernel_rfl
theorem g9:Tryz.prog.cellsOf 141=2:=by kernel_rfl
theorem pL:sameLayout Tryz.prog Tryz.prog.depth 141 141=true:=by kernel_rfl
theorem pS (k:Nat) (hk:2≤k):liesAt Tryz.prog Tryz.prog.depth 141 (k / Tryz.prog.cellsOf 141) 0 141 1=true:=by
 rw [g9];have h2:1≤k / 2:=by omega
 have hr:∀ d,rowAt Tryz.prog (sameLayout Tryz.prog Tryz.prog.depth · 141) (d+1) 141 (k / 2) 0 1=true:=fun d=>by
  rw [rowAt];simp only [g9];rw [if_neg (by decide)];simp [h2,pL]
 have hd:∃ d,Tryz.prog.depth=d+1:=⟨2*(Tryz.prog.types.size+Made.depth)+1,rfl⟩;obtain ⟨d,hd⟩:=hd;have h3:=hr d;rw [← hd] at h3;have h4:∀ e,liesAt Tryz.prog (e+1) 141 (k / 2) 0 141 1=true:=fun e=>by
  rw [liesAt,h3];rfl
 have h5:=h4 d;rw [← hd] at h5;exact h5
theorem AP (b:Nat) (w:World) (h0:w.cell? ⟨b,0,none⟩=some (.pointer (some ⟨b,0,none⟩))):
  Calls Tryz.prog 135 #[.pointer (some ⟨b,0,none⟩)] w fun e w'=>e=.returned (.tuple #[])∧w=w':=by
 obtain ⟨j,hj,_⟩:=Option.map_eq_some_iff.1 cV;go_enter Tryz.func135,Tryz.ntmps135;go_wp2;rw [Lib.run_neq_ptr_same w _ Tryz.underlying138 hj];go_wp2
 go_end0
 exact ⟨rfl,rfl⟩
theorem wT {k:Nat} (hk:2≤k) (b:Nat) (w:World) (h0:w.cell? ⟨b,0,none⟩=some (.pointer none)) (hsh:w.shape? b=some (141,k)) (hfz:w.frozen? ⟨b,0,none⟩=false):
  Calls Tryz.prog 135 #[.pointer (some ⟨b,0,none⟩)] w fun e w'=>e=.returned (.tuple #[])∧w.setCell ⟨b,0,none⟩ (.pointer (some ⟨b,0,none⟩))=w':=by
 obtain ⟨j,hj,hjs⟩:=Option.map_eq_some_iff.1 cV;go_enter Tryz.func135,Tryz.ntmps135;go_wp2;rw [Lib.run_to_unsafe w ⟨b,0,none⟩ Tryz.underlying138 Tryz.underlying285 hj (by rw [hjs];decide) hsh (by show 0<k;omega)];simp only [Result.andThen];rw [Oper.upon_value];go_wp2;rw [run_callFunc_extern Tryz.func207 (by kernel_rfl) (by kernel_rfl) (by kernel_rfl) (e:=Extern.AbiNoEscape.same) (by kernel_rfl)];rw [Lib.run_noEscape];simp only [Result.andThen];rw [Oper.upon_value];go_wp2;rw [Lib.run_from_unsafe w ⟨b,0,none⟩ Tryz.underlying285 Tryz.underlying138 hj hsh (pS k hk)];simp only [Result.andThen];rw [Oper.upon_value];go_wp2
 go_end0
 exact ⟨rfl,rfl⟩
theorem iF:Tryz.prog.cellsOf 5=1:=by kernel_rfl
theorem wY {w:World} {b n:Nat} {c:Array Value} {ty:TypeId} (h:w.heap[b]? = some (.cells c ty (0,0))) (hn:n≠0):w.freeze ⟨b,0,none⟩ n=World.upd w b (.cells c ty (0,0+n)):=by
 unfold World.freeze World.upd;rw [if_neg hn]
 congr 1
 apply Array.ext_getElem?;intro i;rw [Array.getElem?_modify,Array.getElem?_setIfInBounds];by_cases e:b=i
 ·subst e;rw [if_pos rfl,if_pos rfl,h];have hlt:b<w.heap.size:=(gL h).1;simp [hlt]
 ·rw [if_neg e,if_neg e]
theorem I1 (b g cap:Nat) (cur:Array Value) (l:List UInt8) (w:World) (h0:l≠[]) (hsm:l.length≤1000000) (h1:w.cell? ⟨b,1,none⟩=some (.slice (some ⟨g,0,none⟩) l.length cap)) (hcap:l.length≤cap)
  (hg:w.heap[g]? = some (.cells cur 5 (0,0))) (hle:l.length≤cur.size) (hc:∀ j x,l[j]? = some x→w.cell? ⟨g,j,none⟩=some (.int .u8 x.toNat)):
  Calls Tryz.prog 70 #[.pointer (some ⟨b,0,none⟩)] w fun e w'=>e=.returned (.string ⟨l.toArray⟩)∧w'=w.drew.freeze ⟨g,0,none⟩ l.length:=by
 have hl0:l.length≠0:=by simpa using h0
 have c1:w.drew.cell? ⟨b,1,none⟩=some (.slice (some ⟨g,0,none⟩) l.length cap):=h1;have hSD:(Builtin.unsafeSliceData_ #[139] 231 #[.slice (some ⟨g,0,none⟩) l.length cap]).run Tryz.prog w.drew=.ok (.pointer (some ⟨g,0,none⟩)) w.drew:=
  Lib.run_unsafeSliceData_row _ _ _ _ _ _ (by omega)
 have hUS:(Builtin.unsafeString_ #[231,3] 9 #[.pointer (some ⟨g,0,none⟩),.int .i64 l.length]).run Tryz.prog w.drew=.ok (.string ⟨l.toArray⟩) (w.drew.freeze ⟨g,0,none⟩ l.length):=by
  refine Lib.run_unsafeString_row w.drew 231 3 9 5 Tryz.underlying231 iF g cur.size (by have hg':w.drew.heap[g]? = some (.cells cur 5 (0,0)):=hg;simp [World.shape?,hg']) l h0 hle (by omega) ?_;intro j x hx;rw [dQ,Nat.zero_add];exact hc j x hx
 go_enter Tryz.func70,Tryz.ntmps70;go_wp2
 go_region
 all_goals (go_wp2;go_ret;exact ⟨rfl,rfl⟩)
noncomputable def bytesA:List AV→Option (List UInt8)
 | []=>some []
 | .i .u8 (.ofNat n)::l=>if n<256 then (match bytesA l with | some r=>some (UInt8.ofNat n::r) | none=>none) else none
 | _=>none
noncomputable def hCopy (args:List AV) (h:H):Option (AV×H):=match args with
 | [.ptr id 0]=>match h.get id with
  | some (.cells [p,s] ty)=>if ty=141 then (match p with
   | .np=>some (und,h.set id (some (.cells [.ptr id 0,s] ty)))
   | .ptr i 0=>if i=id then some (und,h) else none
   | _=>none) else none
  | _=>none
 | _=>none
noncomputable def hStr (args:List AV) (h:H):Option (AV×H):=match args with
 | [.ptr id 0]=>match h.get id with
  | some (.cells [_,.so r 0 n 1] _)=>match h.get r with
   | some (.cells c ty)=>if ty=5∧0<n∧n≤1000000∧n≤c.length then (match bytesA (c.take n) with | some l=>some (.s ⟨l.toArray⟩,h.set r none) | none=>none) else none
   | _=>none
  | _=>none
 | _=>none
noncomputable def hIdx (args:List AV) (h:H):Option (AV×H):=match args with
 | [.s x,.i .u8 c]=>some (.i .i64 (Lib.indexByte x.data.toList c.toNat.toUInt8),h)
 | _=>none
noncomputable def hName (args:List AV) (h:H):Option (AV×H):=match args with
 | [.s x]=>if x.size≤1000000 then some (.b (Chr.name x.data.toList),h) else none
 | _=>none
theorem HR.below {h:H} {w w':World} (hr:HR W σ h w) (hb:Below w.heap.size w w'):HR W σ h w':=by
 refine ⟨fun i o hi=>?_,hr.inj,hr.fre,hr.frs,hr.fsl,hr.rsl,hr.rnd, ?_⟩
 ·obtain ⟨b,k,h1,h2,h3,h4⟩:=hr.obj i o hi;have hs:=hb.size;exact ⟨b,k,h1,h2,by omega,by rw [hb.block b h3];exact h4⟩
 ·have hs:=hr.bel.size;exact hr.bel.trans ⟨hb.os,hb.tape,hb.output,hb.size,fun k hk=>hb.block k (by omega)⟩
theorem ent {k : Nat} {fn : Func} (hk : Tryz.prog.funcs[k]? = some fn) (hb : fn.body.isNone = false) (hn : (fn.name == "runtime.NumGoroutine") = false) (args : Array Value) (w : World) : (callFunc k args).run Tryz.prog w = .ok (.enter k args) w := by
 unfold callFunc;simp only [program,Bind.bind,Sem.bind,Sem.run,hk,hn,hb,Bool.false_eq_true,if_false];rfl
theorem nP:∀ {l:List AV} {r:List UInt8},bytesA l=some r→∀ {vs:List Value},VL σ l vs→r.length=l.length∧∀ (j:Nat) (x:UInt8),r[j]? = some x→vs[j]? = some (.int .u8 x.toNat)
 | [],r,h,vs,hv=>by simp only [bytesA] at h;cases h;exact ⟨rfl,fun j x hj=>by simp at hj⟩
 | x::l,r,h,vs,hv=>by
  unfold bytesA at h
  split at h
  ·rename_i e;cases e
  ·rename_i n l' e;cases e
   split at h
   ·rename_i hn
    split at h
    ·rename_i r' hr';cases h;cases hv with
     | cons _ v _ vs h1 h2=>
      cases h1;obtain ⟨h3,h4⟩:=nP hr' h2;refine ⟨by simp [h3],fun j x hj=>?_⟩;cases j with
      | zero=>
       simp only [List.getElem?_cons_zero,Option.some.injEq] at hj ⊢;subst hj;have:(UInt8.ofNat n).toNat=n:=by simp [Nat.mod_eq_of_lt hn]
       rw [this];rfl
      | succ j=>simp only [List.getElem?_cons_succ] at hj ⊢;exact h4 j x hj
    ·cases h
   ·cases h
  ·cases h
theorem BE {args:List AV} {h:H} {r:AV×H} (hx:hCopy args h=some r) {w:World} {us:List Value} (hr:HR W σ h w) (hv:VL σ args us):
  Calls Tryz.prog 135 us.toArray w (fun e w'=>∃ v,e=.returned v∧Rs W σ r v w'):=by
 unfold hCopy at hx
 split at hx
 rotate_left
 ·cases hx
 rename_i id
 split at hx
 rotate_left
 ·cases hx
 rename_i p s ty hg
 split at hx
 rotate_left
 ·cases hx
 rename_i hty;subst hty;cases hv with
 | cons _ v _ _ h1 h2=>
  cases h2;cases h1 with
  | ptr _ _ b k hb=>
   obtain ⟨b',k',hb',_,hlt,ho⟩:=hr.obj _ _ hg;obtain ⟨rfl,rfl⟩:b'=b∧k'=k:=by rw [hb] at hb';simpa using hb'.symm
   obtain ⟨c,hc,hck,hcl,hcv⟩:=ho.row;have hl2:2≤c.length:=hcl;obtain ⟨pv,hpv,hp1⟩:=hcv.get (i:=0) (x:=p) rfl;have hc0:c[0]? = some pv:=by rw [List.getElem?_take] at hpv;simpa using hpv
   have hcell:w.cell? ⟨b',0,none⟩=some pv:=by simp [World.cell?,hc,hc0]
   have hfz:w.frozen? ⟨b',0,none⟩=false:=by simp [World.frozen?,hc]
   have hsh:w.shape? b'=some (141,c.length):=by simp [World.shape?,hc]
   split at hx
   ·cases hx;cases hp1;refine (wT hl2 b' w hcell hsh hfz).mono ?_;rintro e w' ⟨rfl,rfl⟩;refine ⟨_,rfl,σ,Sg.le_refl _,.und, ?_⟩;rw [iL hc];have e1:c.toArray.setIfInBounds 0 (.pointer (some ⟨b',0,none⟩))=(dM c 0 [.pointer (some ⟨b',0,none⟩)]).toArray:=by simp [dM]
    rw [e1];exact hr.upd hg hb (OR.put hck hcl hcv (off:=0) (new:=[.ptr id 0]) (by simp [putL]) (.cons _ _ _ _ (.ptr _ _ _ _ hb) .nil))
   ·rename_i i
    split at hx
    ·rename_i hii;subst hii;cases hx;cases hp1 with
     | ptr _ _ b2 k2 hb2=>
      obtain ⟨rfl,rfl⟩:b'=b2∧k'=k2:=by rw [hb] at hb2;simpa using hb2
      refine (AP b' w hcell).mono ?_;rintro e w' ⟨rfl,rfl⟩;exact ⟨_,rfl,σ,Sg.le_refl _,.und,hr⟩
    ·cases hx
   ·cases hx
theorem EV {args:List AV} {h:H} {r:AV×H} (hx:hStr args h=some r) {w:World} {us:List Value} (hr:HR W σ h w) (hv:VL σ args us):
  Calls Tryz.prog 70 us.toArray w (fun e w'=>∃ v,e=.returned v∧Rs W σ r v w'):=by
 unfold hStr at hx
 split at hx
 rotate_left
 ·cases hx
 rename_i id
 split at hx
 rotate_left
 ·cases hx
 rename_i p q n ty hg
 split at hx
 rotate_left
 ·cases hx
 rename_i row ty2 hg2
 split at hx
 rotate_left
 ·cases hx
 rename_i hcond;obtain ⟨rfl,hn0,hn1,hn2⟩:=hcond
 split at hx
 rotate_left
 ·cases hx
 rename_i l hl;cases hx;cases hv with
 | cons _ v _ _ h1 h2=>
  cases h2;cases h1 with
  | ptr _ _ b k hb=>
   obtain ⟨b',k',hb',_,hlt,ho⟩:=hr.obj _ _ hg;obtain ⟨rfl,rfl⟩:b'=b∧k'=k:=by rw [hb] at hb';simpa using hb'.symm
   obtain ⟨c,hc,hck,hcl,hcv⟩:=ho.row;obtain ⟨sv,hsv,hs1⟩:=hcv.get (i:=1) (x:=.so q 0 n 1) rfl;have hc1:c[1]? = some sv:=by rw [List.getElem?_take] at hsv;simpa using hsv
   have hcell:w.cell? ⟨b',1,none⟩=some sv:=by simp [World.cell?,hc,hc1]
   cases hs1 with
   | so _ _ _ _ g kg cap hgs hk=>
    obtain ⟨g',kg',hgs',_,hglt,hor⟩:=hr.obj _ _ hg2;obtain ⟨rfl,rfl⟩:g'=g∧kg'=kg:=by rw [hgs] at hgs';simpa using hgs'.symm
    obtain ⟨cc,hcc,hcck,hccl,hccv⟩:=hor.row;obtain ⟨h3,h4⟩:=nP hl (hccv.take n);have hln:l.length=n:=by rw [h3,yA];omega
    have hne:l≠[]:=fun e=>by rw [e] at hln;simp at hln;omega
    subst hln;refine (I1 b' g' cap cc.toArray l w hne hn1 hcell (by omega) hcc (by simp;omega) fun j x hj=>?_).mono ?_
    ·have hjl:j<l.length:=(gY hj).1;have h5:=h4 j x hj;rw [List.take_take,List.getElem?_take] at h5
     split at h5
     ·simp [World.cell?,hcc,h5]
     ·cases h5
    ·rintro e w' ⟨rfl,rfl⟩;refine ⟨_,rfl,σ,Sg.le_refl _,.s _, ?_⟩;rw [wY (w:=w.drew) hcc (by omega)];exact hr.drew.loose hg2 hgs _
theorem EU {args:List AV} {h:H} {r:AV×H} (hx:hIdx args h=some r) {w:World} {us:List Value} (hr:HR W σ h w) (hv:VL σ args us):
  Calls Tryz.prog 235 us.toArray w (fun e w'=>∃ v,e=.returned v∧Rs W σ r v w'):=by
 unfold hIdx at hx
 split at hx
 ·rename_i x c;cases hx;cases hv with
  | cons _ v _ _ h1 h2=>cases h2 with
   | cons _ v2 _ _ h3 h4=>
    cases h4;cases h1;cases h3;refine (rJ x c w).mono ?_;rintro e w' ⟨rfl,rfl⟩;exact ⟨_,rfl,σ,Sg.le_refl _,by rw [Lib.toList_data];exact .i _ _,hr⟩
 ·cases hx
theorem BF {args:List AV} {h:H} {r:AV×H} (hx:hName args h=some r) {w:World} {us:List Value} (hr:HR W σ h w) (hv:VL σ args us):
  Calls Tryz.prog 144 us.toArray w (fun e w'=>∃ v,e=.returned v∧Rs W σ r v w'):=by
 unfold hName at hx
 split at hx
 ·rename_i x
  split at hx
  ·rename_i hs;cases hx;cases hv with
   | cons _ v _ _ h1 h2=>
    cases h2;cases h1;refine (CJ x w (by omega)).mono ?_;rintro e w' ⟨rfl,hb⟩;exact ⟨_,rfl,σ,Sg.le_refl _,by rw [Lib.toList_data];exact .b _,hr.below hb⟩
  ·cases hx
 ·cases hx
noncomputable def hook (n:Nat):Option (List AV→H→Option (AV×H)):=
 match decide (n=135),decide (n=70),decide (n=235),decide (n=144) with
 | true,_,_,_=>some hCopy
 | _,true,_,_=>some hStr
 | _,_,true,_=>some hIdx
 | _,_,_,true=>some hName
 | _,_,_,_=>none
noncomputable def cfg:Cfg:={ hook:=hook,fuel:=400,draw:=fun call _=>drawC Tryz.prog call }
theorem follows:Tryz.prog.follows .mixedOrders=true:=by kernel_rfl
theorem xK : (Tryz.prog.funcs.toList.all fun fn => !(fn.name == "runtime.NumGoroutine")) = true := by kernel_rfl
theorem fM (k : Nat) (fn : Func) (h : Tryz.prog.funcs[k]? = some fn) : (fn.name == "runtime.NumGoroutine") = false := by
 have h1:=List.all_eq_true.1 xK fn (Array.mem_toList_iff.2 (Array.mem_of_getElem? h))
 simpa using h1
theorem EW (k:Nat) (g:List AV→H→Option (AV×H)) (hk:hook k=some g) (args:List AV) (h:H) (r:AV×H) (hx:g args h=some r) (σ:Sg) (w:World) (us:List Value) (hr:HR W σ h w) (hv:VL σ args us):
  (callFunc k us.toArray).run Tryz.prog w=.ok (.enter k us.toArray) w∧Calls Tryz.prog k us.toArray w (fun e w'=>∃ v,e=.returned v∧Rs W σ r v w'):=by
 unfold hook at hk
 split at hk
 ·rename_i h1;cases hk;simp only [decide_eq_true_eq] at h1;subst h1;exact ⟨ent Tryz.func135 (by kernel_rfl) (fM _ _ Tryz.func135) _ _,BE hx hr hv⟩
 ·rename_i h1 _;cases hk;simp only [decide_eq_true_eq] at h1;subst h1;exact ⟨ent Tryz.func70 (by kernel_rfl) (fM _ _ Tryz.func70) _ _,EV hx hr hv⟩
 ·rename_i h1 _ _;cases hk;simp only [decide_eq_true_eq] at h1;subst h1;exact ⟨ent Tryz.func235 (by kernel_rfl) (fM _ _ Tryz.func235) _ _,EU hx hr hv⟩
 ·rename_i h1 _ _ _;cases hk;simp only [decide_eq_true_eq] at h1;subst h1;exact ⟨ent Tryz.func144 (by kernel_rfl) (fM _ _ Tryz.func144) _ _,BF hx hr hv⟩
 ·cases hk
theorem fI:CfgOK Tryz.prog W cfg:=⟨fM,EW,fun _ hcall _=>AS follows hcall⟩
end Go.Proofs.YtpidmmfjcghmeaaGreat.Ab
