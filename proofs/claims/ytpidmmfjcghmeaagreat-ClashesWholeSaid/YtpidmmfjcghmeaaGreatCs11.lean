/- Towards clashesWhole_upto. -/
import Derived.Test.YtpidmmfjcghmeaaGreatCs05
import Derived.IntWalk
import Derived.Deep.AppendSrc
import Derived.Lib.AppendZeros
import Derived.Laws.AppendOwn
import Derived.Laws.IdiomCopy
import Derived.Deep.Upon
import Derived.CallsIn
import Derived.Laws.MakeOwn
import Derived.RangeFuncLeaves
import Derived.LoopNIn
import Derived.ScopeJumps
import Derived.TacticsIn
set_option maxRecDepth 100000
set_option maxHeartbeats 16000000
set_option linter.all false
namespace Go.Proofs.YtpidmmfjcghmeaaGreat.Ab
open Go.RowKit
variable {P:Program} {σ:Sg} {W:World}
theorem aS {α β:Type} (a:α) (f:α→Sem β):(Pure.pure a >>= f)=f a:=rfl
theorem nL {α:Type}:∀ (x:Sem α),x.bind (fun a=>Sem.pure a)=x:=by
  intro x
  induction x <;> first | rfl | (rename_i ih;simp only [Sem.bind];congr 1;funext v;exact ih v) | (rename_i ih;simp only [Sem.bind,ih])
theorem yO {α β γ:Type} (x:Sem α) (f:α→Sem β) (g:β→Sem γ):(x.bind f).bind g=x.bind fun a=>(f a).bind g:=by
  induction x <;> first | rfl | (rename_i ih;simp only [Sem.bind];congr 1;funext v;exact ih v) | (rename_i ih;simp only [Sem.bind,ih])
instance:LawfulMonad Sem:=LawfulMonad.mk' Sem
  (id_map:=fun x=>nL x)
  (pure_bind:=fun _ _=>rfl)
  (bind_assoc:=fun x f g=>yO x f g)
theorem bH {s:Sem Value} {w w':World} {v:Value} (h:s.run P w=.ok v w'):(do let r ← s;pure (Next.value r):Sem Next).run P w=.ok (.value v) w':=by
  rw [Sem.run_bind,h,Result.andThen_ok];rfl
theorem cU {α:Type} (x:α) (w:World):(Pure.pure x:Sem α).run P w=.ok x w:=rfl
theorem iJ {x:AV} {n:Nat} (h:natOf x=some n) {v:Value} (hv:VR σ x v):∃ k,v=.int k (n:Int):=by
  unfold natOf at h
  split at h
  · cases h;cases hv;exact ⟨_,rfl⟩
  · cases h
theorem mM:∀ {fs:List Field} {pl:List (Nat×Nat)},placesOf P fs=some pl→∀ w,(fs.mapM (fun f=>do pure (f.offset,← sizeOf f.type):Field→Sem (Nat×Nat))).run P w=.ok pl w
  | [],pl,h,w=>by simp [placesOf] at h;subst h;rfl
  | x::l,pl,h,w=>by
    simp only [placesOf] at h
    split at h
    · rename_i n r hn hr;cases h;rw [List.mapM_cons,Sem.run_bind,Sem.run_bind,dW hn,Result.andThen_ok,cU,Result.andThen_ok,Sem.run_bind,mM hr,Result.andThen_ok,cU]
    · cases h
theorem xZ {t:Nat} {f:F} {h:H} {parts:Array (Nat×Operand)} {dst ty pos af gd} {x:AV} {a:Act} (hf:FT σ f.n f.t a.tmps)
    (hx:pureA P f h ⟨dst,.build t parts,ty,pos,af,gd⟩=some x):∃ v,VR σ x v∧∀ w,(Instr.build t (parts.map fun (i,x)=>(i,a.eval x))).run P w=.ok v w:=by
  have hparts:(parts.map fun (i,x)=>(i,a.eval x)).toList=parts.toList.map fun p=>(p.1,a.eval p.2):=by simp
  simp only [pureA,buildP] at hx
  split at hx
  · rename_i z fs ps hz hu hps;obtain ⟨zv,hzv,hzr⟩:=eR (σ:=σ) hz
    split at hx
    · rename_i pl hpl
      split at hx
      · rename_i c hc;cases hx;obtain ⟨c',h1,h2⟩:=kS hc (pI hf hps) (cH hzv);refine ⟨_,.agg _ _ h2,fun w=>?_⟩;have hm:(fs.mapM fun f=>do pure (f.offset,← sizeOf f.type):Sem (Array (Nat×Nat))).run P w=.ok pl.toArray w:=by
          rw [Array.mapM_eq_mapM_toList,map_eq_pure_bind,Sem.run_bind,mM hpl,Result.andThen_ok];rfl
        rw [Instr.build,Sem.run_bind,hzr,Result.andThen_ok,Sem.run_bind,aY hu,Result.andThen_ok];dsimp only;rw [Sem.run_bind,hm,Result.andThen_ok,hparts];have hpl':(fun (i:Nat)=>pl.toArray[i]?)=fun (i:Nat)=>pl[i]? := by funext i;simp
        simp only [hpl'];simp only [Array.toArray_toList] at h1;rw [h1];rfl
      · cases hx
    · cases hx
  · rename_i z n e ps hz hu hps;obtain ⟨zv,hzv,hzr⟩:=eR (σ:=σ) hz
    split at hx
    · rename_i k hk
      split at hx
      · rename_i c hc;cases hx;obtain ⟨c',h1,h2⟩:=kS hc (pI hf hps) (cH hzv);refine ⟨_,.agg _ _ h2,fun w=>?_⟩;rw [Instr.build,Sem.run_bind,hzr,Result.andThen_ok,Sem.run_bind,aY hu,Result.andThen_ok];dsimp only;rw [Sem.run_bind,dW hk,Result.andThen_ok,hparts];simp only [Array.toArray_toList] at h1;rw [h1];rfl
      · cases hx
    · cases hx
  · cases hx
theorem EO {d:TypeDesc} {x y:AV} (h:eqNil d x y=true) {t:Nat} (hd:P.underlying t=some d) {u v:Value} (hu:VR σ x u) (hv:VR σ y v) (w:World):
    (Op.equal t u v).run P w=.ok false w∧(∀ op X Y,(eqGuard op t X Y u v).run P w=.ok () w)∧(∀ b,binOp .eql t u v=(do pure (.bool (← Op.equal t u v)))∨b=0)∧(∀ b,binOp .neq t u v=(do pure (.bool (!(← Op.equal t u v))))∨b=0):=by
  have h10:Op.maxDepth=9999+1:=rfl;unfold eqNil at h
  split at h <;> first
    | (cases h;done)
    | (cases hu;cases hv
       refine ⟨?_,fun op X Y=>?_,fun b=>.inl rfl,fun b=>.inl rfl⟩
       · rw [Op.equal,h10,Op.equalIn,Sem.run_bind,aY hd,Result.andThen_ok];rfl
       · cases op <;> rfl)
theorem FY {d:TypeDesc} {x y:AV} (h:eqNil d x y=true) {t:Nat} (hd:P.underlying t=some d) {u v:Value} (hu:VR σ x u) (hv:VR σ y v) (w:World) (X Y:Operand):
    (do eqGuard .eql t X Y u v;binOp .eql t u v:Sem Value).run P w=.ok (.bool false) w∧(do eqGuard .neq t X Y u v;binOp .neq t u v:Sem Value).run P w=.ok (.bool true) w:=by
  obtain ⟨h1,h2,h3,h4⟩:=EO h hd hu hv w;constructor
  · rw [Sem.run_bind,h2,Result.andThen_ok,(h3 1).resolve_right (by decide),Sem.run_bind,h1,Result.andThen_ok];rfl
  · rw [Sem.run_bind,h2,Result.andThen_ok,(h4 1).resolve_right (by decide),Sem.run_bind,h1,Result.andThen_ok];rfl
theorem xY {k:IntKind} {n y:Nat} (h:n≤y) (code:BoundsCode) (w:World):(Instr.sliceBound (.int k (n:Int)) y code).run P w=.ok n w:=by
  rw [Instr.sliceBound,Sem.run_bind];simp only [asIntOf,Pure.pure,Sem.run,Result.andThen_ok];rw [if_pos ⟨by omega,by omega⟩];simp [Sem.run]
def NO (x:Option Nat) (v:Option Value):Prop:=(x=none∧v=none)∨∃ n k,x=some n∧v=some (.int k (n:Int))
theorem pV {f:F} {a:Act} (hf:FT σ f.n f.t a.tmps) {lo:Option Operand} {x:Option AV} {n:Option Nat} (h1:evO f lo=some x) (h2:natO x=some n):NO n (lo.map a.eval):=by
  unfold evO at h1
  split at h1
  · cases h1;simp [natO] at h2;subst h2;exact .inl ⟨rfl,rfl⟩
  · rename_i o
    split at h1
    · rename_i v hv;cases h1;simp only [natO] at h2
      split at h2
      · rename_i m hm;cases h2;obtain ⟨k,hk⟩:=iJ hm (aU hf hv);exact .inr ⟨m,k,rfl,by simp [hk]⟩
      · cases h2
    · cases h1
def kL (sb:Value→Nat→BoundsCode→Sem Nat) (isSlice:Bool) (len cap:Nat) (low high max:Option Value):Sem (Nat×Nat×Nat):=do
  let m ← match max with
    | some v=>sb v cap (if isSlice then .slice3Acap else .slice3Alen)
    | none=>pure cap
  let h ← match high,max with
    | some v,some _=>sb v m .slice3B
    | some v,none=>sb v m (if isSlice then .sliceAcap else .sliceAlen)
    | none,none=>pure len
    | none, some _ => stuck "Slice: max without high"
  let l ← match low with
    | some v=>sb v h (if max.isSome then .slice3C else .sliceB)
    | none=>pure 0
  pure (l,h,m)
theorem EF (b:Bool) (len cap:Nat) (lo hi mx:Option Value):Instr.sliceBounds b len cap lo hi mx=kL Instr.sliceBound b len cap lo hi mx:=rfl
theorem C0 {sb:Value→Nat→BoundsCode→Sem Nat} (len cap:Nat) (w:World):(kL sb true len cap none none none).run P w=.ok (0,len,cap) w:=rfl
section
variable {sb:Value→Nat→BoundsCode→Sem Nat} (hsb:∀ (k:IntKind) (n y:Nat),n≤y→∀ (code:BoundsCode) (w:World),(sb (.int k (n:Int)) y code).run P w=.ok n w)
include hsb
theorem C8 {len cap n:Nat} {k:IntKind} (h:n≤cap) (w:World):(kL sb true len cap none (some (.int k (n:Int))) none).run P w=.ok (0,n,cap) w:=by
  simp only [kL,aS,Sem.run_bind,hsb _ _ _ h,Result.andThen_ok,cU]
theorem C9 {len cap n m:Nat} {k k':IntKind} (h:n≤m) (h':m≤cap) (w:World):(kL sb true len cap none (some (.int k (n:Int))) (some (.int k' (m:Int)))).run P w=.ok (0,n,m) w:=by
  simp only [kL,aS,Sem.run_bind,hsb _ _ _ h,hsb _ _ _ h',Result.andThen_ok,cU]
theorem DA {len cap l:Nat} {k:IntKind} (h:l≤len) (w:World):(kL sb true len cap (some (.int k (l:Int))) none none).run P w=.ok (l,len,cap) w:=by
  simp only [kL,aS,Sem.run_bind,hsb _ _ _ h,Result.andThen_ok,cU]
theorem DB {len cap l n:Nat} {k k':IntKind} (h:l≤n) (h':n≤cap) (w:World):(kL sb true len cap (some (.int k (l:Int))) (some (.int k' (n:Int))) none).run P w=.ok (l,n,cap) w:=by
  simp only [kL,aS,Sem.run_bind,hsb _ _ _ h,hsb _ _ _ h',Result.andThen_ok,cU]
theorem DC {len cap l n m:Nat} {k k' k2:IntKind} (h:l≤n) (h':n≤m) (h2:m≤cap) (w:World):(kL sb true len cap (some (.int k (l:Int))) (some (.int k' (n:Int))) (some (.int k2 (m:Int)))).run P w=.ok (l,n,m) w:=by
  simp only [kL,Sem.run_bind,hsb _ _ _ h,hsb _ _ _ h',hsb _ _ _ h2,Result.andThen_ok,cU]
end
theorem tS {len cap:Nat} {lo hi mx:Option Nat} {lv hv mv:Option Value} (hl:NO lo lv) (hh:NO hi hv) (hm:NO mx mv) (hmh:¬(mx.isSome=true∧hi.isNone=true)) (h1:lo.getD 0≤hi.getD len) (h2:hi.getD len≤mx.getD cap) (h3:mx.getD cap≤cap) (w:World):
    (Instr.sliceBounds true len cap lv hv mv).run P w=.ok (lo.getD 0,hi.getD len,mx.getD cap) w:=by
  rw [EF];have hsb:=fun (k:IntKind) (n y:Nat) (h:n≤y) (code:BoundsCode) (w:World)=>xY (P:=P) (k:=k) h code w
  revert hsb
  generalize Instr.sliceBound=sb;intro hsb;rcases hl with ⟨rfl,rfl⟩ | ⟨l,k1,rfl,rfl⟩ <;> rcases hh with ⟨rfl,rfl⟩ | ⟨h,k2,rfl,rfl⟩ <;> rcases hm with ⟨rfl,rfl⟩ | ⟨m,k3,rfl,rfl⟩ <;> simp only [Option.getD_none,Option.getD_some] at h1 h2 h3 ⊢
  · exact C0 _ _ _
  · exact (hmh ⟨rfl,rfl⟩).elim
  · exact C8 hsb h2 _
  · exact C9 hsb h2 h3 _
  · exact DA hsb h1 _
  · exact (hmh ⟨rfl,rfl⟩).elim
  · exact DB hsb h1 h2 _
  · exact DC hsb h1 h2 h3 _
theorem pG {size off len cap:Nat} {lo hi mx:Option Nat} {r:Nat×Nat×Nat} (h:cutK size off len cap lo hi mx=some r):
    lo.getD 0≤hi.getD len∧hi.getD len≤mx.getD cap∧mx.getD cap≤cap∧r=(if mx.getD cap=lo.getD 0 then off else off+lo.getD 0*size,hi.getD len-lo.getD 0,mx.getD cap-lo.getD 0):=by
  unfold cutK at h;simp only at h
  split at h
  · rename_i hc;cases h;exact ⟨hc.1,hc.2.1,hc.2.2,rfl⟩
  · cases h
theorem dD {t e n:Nat} (hu:P.underlying t=some (.slice e)) (hn:sz P e=some n) {A:Option Addr} {len cap:Nat} {lo hi mx:Option Nat} {lv hv mv:Option Value} (hl:NO lo lv) (hh:NO hi hv) (hm:NO mx mv) (hmh:¬(mx.isSome=true∧hi.isNone=true))
    (h1:lo.getD 0≤hi.getD len) (h2:hi.getD len≤mx.getD cap) (h3:mx.getD cap≤cap) (w:World):
    (Instr.sliceAt t (.slice A len cap) lv hv mv).run P w=.ok (.slice (if mx.getD cap=lo.getD 0 then A else A.map (·.add (lo.getD 0*n))) (hi.getD len-lo.getD 0) (mx.getD cap-lo.getD 0)) w:=by
  rw [Instr.sliceAt,Sem.run_bind,aY hu,Result.andThen_ok];dsimp only;rw [Instr.slice,Sem.run_bind,aY hu,Result.andThen_ok];dsimp only;rw [Sem.run_bind,tS hl hh hm hmh h1 h2 h3,Result.andThen_ok];dsimp only;rw [Sem.run_bind,dW hn,Result.andThen_ok];rfl
theorem DG {h:H} {w:World} (hr:HR W σ h w) {x y:AV} {v:Value} {t e n:Nat} (hu:P.underlying t=some (.slice e)) (hn:sz P e=some n) {lo hi mx:Option Nat} {lv hv mv:Option Value} (hl:NO lo lv) (hh:NO hi hv) (hm:NO mx mv)
    (hx:VR σ x v) (hy:sliceA h n x lo hi mx=some y):∃ u,VR σ y u∧∀ w',(Instr.sliceAt t v lv hv mv).run P w'=.ok u w':=by
  unfold sliceA at hy
  split at hy
  · cases hy
  · rename_i hmh;have hmh:¬(mx.isSome=true∧hi.isNone=true):=fun e=>hmh (by simp [e.1,e.2])
    split at hy
    · split at hy
      · rename_i o hc;cases hy;cases hx;obtain ⟨h1,h2,h3,h4⟩:=pG hc;have h5:hi.getD 0=0:=by omega
        have h6:mx.getD 0=0:=by omega
        have h7:lo.getD 0=0:=by omega
        refine ⟨_,.ns,fun w'=>?_⟩;rw [dD hu hn hl hh hm hmh h1 h2 h3,h5,h6,h7];rfl
      · cases hy
    · rename_i id off len cap
      split at hy
      · rename_i o m c hc;cases hy;obtain ⟨h1,h2,h3,h4⟩:=pG hc;cases hx with
        | sl _ _ _ _ b k hb=>
          refine ⟨_, ?_,fun w'=>dD hu hn hl hh hm hmh h1 h2 h3 w'⟩;cases h4
          split
          · exact .sl _ _ _ _ b k hb
          · rw [Option.map_some,dQ];exact .sl _ _ _ _ b k hb
      · cases hy
    · rename_i id off len s
      split at hy
      · cases hy
      · rename_i hs;have hs1:s=n:=Classical.byContradiction fun e=>hs (.inl e);have hs0:0<n:=Nat.pos_of_ne_zero fun e=>hs (.inr e);subst hs1
        split at hy
        · rename_i l ty hg;obtain ⟨b,k,hb,_,_,ho⟩:=hr.obj _ _ hg;obtain ⟨cc,hcc,hck,hlen,_⟩:=ho.row;cases hx with
          | so _ _ _ _ b' k' c hb' hk=>
            obtain ⟨rfl,rfl⟩:b=b'∧k=k':=by rw [hb] at hb';simpa using hb'
            have hcap:∀ m,off+m*s≤l.length→m≤c:=fun m hm=>by
              have:m*s≤c*s:=by omega
              exact Nat.le_of_mul_le_mul_right this hs0
            cases mx with
            | some m=>
              simp only at hy
              split at hy
              · rename_i hml
                split at hy
                · rename_i o nn cc2 hc;cases hy;obtain ⟨h1,h2,h3,h4⟩:=pG hc;refine ⟨_, ?_,fun w'=>dD (cap:=c) hu hn hl hh hm hmh h1 (by simpa using h2) (by simpa using hcap m hml) w'⟩;cases h4;simp only [Option.getD_some]
                  split
                  · exact .sl _ _ _ _ b k hb
                  · rw [Option.map_some,dQ];exact .sl _ _ _ _ b k hb
                · cases hy
              · cases hy
            | none=>
              simp only at hy
              split at hy
              · rename_i hc;obtain ⟨h1,h2⟩:=hc;have h3:=hcap _ h2
                split at hy
                · rename_i h0;cases hy;refine ⟨_, ?_,fun w'=>dD hu hn hl hh hm hmh h1 h3 (gO _) w'⟩;rw [h0];simp only [Option.getD_none,Nat.zero_mul,Nat.sub_zero]
                  split
                  · exact .so _ _ _ _ b k c hb hk
                  · rw [Option.map_some,dQ];exact .so _ _ _ _ b k c hb hk
                · rename_i h0
                  split at hy
                  · rename_i hlt;cases hy;refine ⟨_, ?_,fun w'=>dD hu hn hl hh hm hmh h1 h3 (gO _) w'⟩;simp only [Option.getD_none] at h3 ⊢;rw [if_neg (by omega),Option.map_some,dQ];refine .so _ _ _ _ b k _ hb ?_;rw [Nat.mul_sub_right_distrib];have:lo.getD 0*s≤c*s:=Nat.mul_le_mul_right _ (by omega);omega
                  · cases hy;have he:hi.getD len-lo.getD 0=0:=by omega
                    refine ⟨_, ?_,fun w'=>dD hu hn hl hh hm hmh h1 h3 (gO _) w'⟩;rw [he]
                    split
                    · exact .es _ _
                    · rw [Option.map_some];exact .es _ _
              · cases hy
        · cases hy
    · cases hy
end Go.Proofs.YtpidmmfjcghmeaaGreat.Ab
namespace Go.Proofs.YtpidmmfjcghmeaaGreat.Ab
open Go.RowKit
variable {P:Program} {σ:Sg} {W:World}
theorem lU {f:F} {a:Act} (hf:FT σ f.n f.t a.tmps) {l:Array Operand} {vs:List AV} (h:evL f l.toList=some vs):∃ us:List Value,l.map a.eval=us.toArray∧VL σ vs us:=
 ⟨_,by rw [← Array.toList_map],BC hf h⟩
theorem i4 (ρ:Operand→Value) (dst:Option Tmp) (b:Builtin) (xs:Array Operand) (ats:Array TypeId) (ty:TypeId) (pos:String) (af:Array Edge) (gd:Option (Nat×Bool)):
  ∃ cs,execOp ρ ⟨dst,.call ⟨.builtin b,xs,ats⟩,ty,pos,af,gd⟩=builtin b ats ty cs (xs.map ρ):=⟨_,rfl⟩
theorem fX {t:Nat} {ats:List TypeId} {ty:TypeId} {v:Value} {n:Nat} (w:World)
  (h:(∃ e a c,P.underlying t=some (.slice e)∧v=.slice a n c)∨(∃ s,P.underlying t=some .string∧v=.string s∧n=s.size)∨(∃ k e,P.underlying t=some (.map k e)∧v=.map none∧n=0)):
  (Builtin.len_ (t::ats).toArray ty #[v]).run P w=.ok (.int .i64 n) w:=by
 unfold Builtin.len_;simp only [List.getElem?_toArray,List.getElem?_cons_zero];rcases h with ⟨e,a,c,he,rfl⟩ | ⟨s,he,rfl,rfl⟩ | ⟨k,e,he,rfl,rfl⟩ <;> (refine Eq.trans (Sem.run_bind _ _ _ _) ?_;rw [aY he,Result.andThen_ok];rfl)
theorem vI {t:Nat} {ats:List TypeId} {ty:TypeId} {e:Nat} {A:Option Addr} {n c:Nat} (w:World) (he:P.underlying t=some (.slice e)):
  (Builtin.cap_ (t::ats).toArray ty #[.slice A n c]).run P w=.ok (.int .i64 c) w:=by
 unfold Builtin.cap_;simp only [List.getElem?_toArray,List.getElem?_cons_zero];refine Eq.trans (Sem.run_bind _ _ _ _) ?_;rw [aY he,Result.andThen_ok];rfl
theorem CT {b:Builtin} {d:TypeDesc} {args:List AV} {x:AV} (h:pureB d b args=some x) {t:Nat} (hd:P.underlying t=some d) {ats:List TypeId} {us:List Value} (hu:VL σ args us) (ty:TypeId) (cs:Array Bool):
  ∃ v,VR σ x v∧∀ w,(builtin b (t::ats).toArray ty cs us.toArray).run P w=.ok (.value v) w:=by
 unfold pureB at h
 split at h
 ·cases h;cases hu with | cons _ v _ _ h1 h2=>cases h2;cases h1;exact ⟨_,.i _ _,fun w=>bH (fX w (.inl ⟨_,_,_,hd,rfl⟩))⟩
 ·cases h;cases hu with | cons _ v _ _ h1 h2=>cases h2;cases h1;exact ⟨_,.i _ _,fun w=>bH (fX w (.inl ⟨_,_,_,hd,rfl⟩))⟩
 ·cases h;cases hu with | cons _ v _ _ h1 h2=>cases h2;cases h1;exact ⟨_,.i _ _,fun w=>bH (fX (n:=0) w (.inl ⟨_,_,_,hd,rfl⟩))⟩
 ·cases h;cases hu with | cons _ v _ _ h1 h2=>cases h2;cases h1;exact ⟨_,.i _ _,fun w=>bH (fX (n:=0) w (.inl ⟨_,_,_,hd,rfl⟩))⟩
 ·cases h;cases hu with | cons _ v _ _ h1 h2=>cases h2;cases h1;exact ⟨_,.i _ _,fun w=>bH (fX w (.inr (.inl ⟨_,hd,rfl,rfl⟩)))⟩
 ·cases h;cases hu with | cons _ v _ _ h1 h2=>cases h2;cases h1;exact ⟨_,.i _ _,fun w=>bH (fX (n:=0) w (.inr (.inr ⟨_,_,hd,rfl,rfl⟩)))⟩
 ·cases h;cases hu with | cons _ v _ _ h1 h2=>cases h2;cases h1;exact ⟨_,.i _ _,fun w=>bH (vI w hd)⟩
 ·cases h;cases hu with | cons _ v _ _ h1 h2=>cases h2;cases h1;exact ⟨_,.i _ _,fun w=>bH (vI (c:=0) w hd)⟩
 ·cases h;cases hu with | cons _ v _ _ h1 h2=>cases h1;cases h2 with | cons _ v _ _ h3 h4=>cases h3;cases h4;exact ⟨_,.i _ _,fun w=>bH rfl⟩
 ·cases h;cases hu with | cons _ v _ _ h1 h2=>cases h1;cases h2 with | cons _ v _ _ h3 h4=>cases h3;cases h4;exact ⟨_,.i _ _,fun w=>bH rfl⟩
 ·cases h
theorem fP {x:Bool} {v:Value} (h:VR σ (.b x) v):v=.bool x:=by cases h;rfl
theorem oU {t e n i len:Nat} {k:IntKind} {b off c:Nat} (hu:P.underlying t=some (.slice e)) (hn:sz P e=some n) (hi:i<len) (w:World):
  (Instr.indexAt t (.slice (some ⟨b,off,none⟩) len c) (.int k (i:Int))).run P w=.ok (.pointer (some ⟨b,off+i*n,none⟩)) w:=by
 unfold Instr.indexAt;simp only [asIntOf,aS];rw [Sem.run_bind,aY hu,Result.andThen_ok];simp only;rw [Sem.run_bind,aY hu,Result.andThen_ok];simp only;rw [if_pos ⟨by omega,by omega⟩,Sem.run_bind,dW hn,Result.andThen_ok,cU,dQ];simp
theorem tT {t e n i len:Nat} {k:IntKind} {b off:Nat} (hu:P.underlying t=some (.array len e)) (hn:sz P e=some n) (hi:i<len) (w:World):
  (Instr.indexAt t (.pointer (some ⟨b,off,none⟩)) (.int k (i:Int))).run P w=.ok (.pointer (some ⟨b,off+i*n,none⟩)) w:=by
 unfold Instr.indexAt;simp only [asIntOf,aS];rw [Sem.run_bind,aY hu,Result.andThen_ok];simp only [Instr.sureAddr,aS];rw [Sem.run_bind,aY hu,Result.andThen_ok];simp only;rw [if_pos ⟨by omega,by omega⟩,Sem.run_bind,dW hn,Result.andThen_ok,cU,dQ];simp
theorem yK {s n k:Nat} {fs:Array Field} {fd:Field} {b off:Nat} (hu:P.underlying s=some (.struct fs)) (hk:fs[k]? = some fd) (hn:sz P fd.type=some (n+1)) (w:World):
  (Instr.fieldAt s (.pointer (some ⟨b,off,none⟩)) k).run P w=.ok (.pointer (some ⟨b,off+fd.offset,none⟩)) w:=by
 unfold Instr.fieldAt;rw [Sem.run_bind,aY hu,Result.andThen_ok];simp only [hk,Instr.sureAddr,aS];rw [Sem.run_bind];unfold fieldPlace;rw [Sem.run_bind,dW hn,Result.andThen_ok,if_neg (by omega),cU,Result.andThen_ok,cU,dQ]
theorem pP {n:Int} {x:AV} (h:in64 n=some x):x=.i .i64 (IntKind.i64.wrap n):=by
 unfold in64 at h
 split at h
 ·rename_i hc;cases h;rw [IntWalk.i64_in n hc]
 ·cases h
theorem ER {op:BinOp} {x y r:AV} (h:fastBin op x y=some r) {u v:Value} (hu:VR σ x u) (hv:VR σ y v) (t:TypeId) (X:Operand×Operand):
  ∃ z,VR σ r z∧∀ w,(do let r ← (do eqGuard op t X.1 X.2 u v;binOp op t u v:Sem Value);pure (Next.value r):Sem Next).run P w=.ok (.value z) w:=by
 unfold fastBin at h
 split at h
 ·cases hu;cases hv
  split at h
  ·rw [pP h];exact ⟨_,.i _ _,fun w=>rfl⟩
  ·rw [pP h];exact ⟨_,.i _ _,fun w=>rfl⟩
  ·rw [pP h];exact ⟨_,.i _ _,fun w=>rfl⟩
  all_goals first | (cases h;exact ⟨_,.b _,fun w=>rfl⟩) | cases h
 ·cases hu;cases hv
  split at h
  all_goals first | (cases h;exact ⟨_,.b _,fun w=>rfl⟩) | cases h
 ·cases h
theorem p8 {f:F} {h:H} {a:Act} {w:World} (hf:FT σ f.n f.t a.tmps) (hr:HR W σ h w) {o:Oper} {x:AV} (hx:pureA P f h o=some x):
  ∃ v,VR σ x v∧∀ w',(execOp a.eval o).run P w'=.ok (.value v) w':=by
 obtain ⟨dst,op,ty,pos,af,gd⟩:=o;cases op with
 | move y=>exact ⟨_,aU hf hx,fun w'=>rfl⟩
 | assign y=>exact ⟨_,aU hf hx,fun w'=>rfl⟩
 | pick c y z=>
  simp only [pureA,pickP] at hx
  split at hx
  ·rename_i hc;refine ⟨_,aU hf hx,fun w'=>?_⟩;simp only [execOp,fP (aU hf hc)];rfl
  ·rename_i hc;refine ⟨_,aU hf hx,fun w'=>?_⟩;simp only [execOp,fP (aU hf hc)];rfl
  ·cases hx
 | build t parts=>
  obtain ⟨v,h1,h2⟩:=xZ hf hx;exact ⟨v,h1,fun w'=>bH (h2 w')⟩
 | nilCheck y=>
  simp only [pureA,nilCheckP] at hx
  split at hx
  ·rename_i hy;cases hx;have:=aU hf hy;refine ⟨_,this,fun w'=>?_⟩;simp only [execOp];generalize a.eval y=u at this ⊢;cases this;rfl
  ·rename_i hy;cases hx;have:=aU hf hy;refine ⟨_,this,fun w'=>?_⟩;simp only [execOp];generalize a.eval y=u at this ⊢;cases this;rfl
  ·cases hx
 | binOp op t y z yt=>
  simp only [pureA,binOpP] at hx
  split at hx
  ·rename_i u v hu hv
   split at hx
   ·rename_i r hfb;cases hx;exact ER hfb (aU hf hu) (aU hf hv) t (y,z)
   ·split at hx
    ·rename_i d hd
     split at hx
     ·rename_i hn;have h1:=FY hn hd (aU hf hu) (aU hf hv)
      split at hx
      ·cases hx;exact ⟨_,.b _,fun w'=>bH (h1 w' y z).1⟩
      ·cases hx;exact ⟨_,.b _,fun w'=>bH (h1 w' y z).2⟩
      ·cases hx
     ·exact i9 hf (fun _ _ e=>by cases e) hx
    ·cases hx
  ·cases hx
 | unOp op t y=>
  simp only [pureA,unOpP] at hx
  split at hx
  ·rename_i v hv;cases hx;refine ⟨_,.b _,fun w'=>bH ?_⟩;rw [fP (aU hf hv)];rfl
  ·exact i9 hf (fun _ _ e=>by cases e) hx
 | convert s d y=>exact i9 hf (fun _ _ e=>by cases e) hx
 | index t y z=>exact i9 hf (fun _ _ e=>by cases e) hx
 | makeInterface t y=>
  simp only [pureA,makeInterfaceP] at hx
  split at hx
  ·cases hx
  ·rename_i d v h1 hd hv;cases hx;refine ⟨_,.ifc t _ _ (aU hf hv),fun w'=>bH ?_⟩;rw [Instr.makeInterface,Sem.run_bind,aY hd,Result.andThen_ok]
   split
   ·rename_i e;exact (h1 _ rfl).elim
   ·rfl
  ·cases hx
 | makeFunc fn first cap=>
  simp only [pureA,makeFuncP] at hx
  split at hx
  ·rename_i g l m hl hm;cases hx;obtain ⟨us,h1,h2⟩:=lU hf hl;obtain ⟨vs,h3,h4⟩:=lU hf hm;refine ⟨_,.fn _ _ _ _ _ h2 h4,fun w'=>bH ?_⟩;rw [h1,h3];rfl
  ·cases hx
 | slice t y lo hi mx=>
  simp only [pureA,sliceP] at hx
  split at hx
  ·rename_i e v l1 l2 l3 hu hv h1 h2 h3
   split at hx
   ·rename_i n1 n2 n3 n h4 h5 h6 hn;obtain ⟨u,h7,h8⟩:=DG hr hu hn (pV hf h1 h4) (pV hf h2 h5) (pV hf h3 h6) (aU hf hv) hx;exact ⟨u,h7,fun w'=>bH (h8 w')⟩
   ·cases hx
  ·exact i9 hf (fun _ _ e=>by cases e) hx
  ·cases hx
 | fieldAddr s y k=>
  simp only [pureA,fieldAddrP] at hx
  split at hx
  ·rename_i fs id off hu hy
   split at hx
   ·rename_i fd hk
    split at hx
    ·rename_i n hn;cases hx;have:=aU hf hy;cases hv:a.eval y <;> rw [hv] at this <;> cases this;rename_i b k' hb;exact ⟨_,.ptr _ _ b k' hb,fun w'=>bH (by rw [hv];exact yK hu hk hn w')⟩
    ·cases hx
   ·cases hx
  ·cases hx
 | field t y k=>
  simp only [pureA,fieldP] at hx
  split at hx
  ·rename_i fs l hu hy
   split at hx
   ·rename_i fd hk;have:=aU hf hy;cases hv:a.eval y <;> rw [hv] at this <;> cases this;rename_i xs hl;obtain ⟨v,h1,h2⟩:=DD hx hl;refine ⟨v,h1,fun w'=>bH ?_⟩;rw [hv,Instr.field,Sem.run_bind,aY hu,Result.andThen_ok];simp only [hk,asAgg,aS];exact h2 w'
   ·cases hx
  ·cases hx
 | indexAddr t y z=>
  simp only [pureA,indexAddrP] at hx
  split at hx
  ·rename_i e id off len cap iv hu hy hz
   split at hx
   ·rename_i n i hn hi
    split at hx
    ·rename_i hlt;cases hx;obtain ⟨k,hk⟩:=iJ hi (aU hf hz);have:=aU hf hy;cases hv:a.eval y <;> rw [hv] at this <;> cases this;rename_i b k' hb;exact ⟨_,.ptr _ _ b k' hb,fun w'=>bH (by rw [hv,hk];exact oU hu hn hlt w')⟩
    ·cases hx
   ·cases hx
  ·rename_i e id off len s iv hu hy hz
   split at hx
   ·rename_i n i hn hi
    split at hx
    ·rename_i hlt;cases hx;obtain ⟨k,hk⟩:=iJ hi (aU hf hz);have:=aU hf hy;cases hv:a.eval y <;> rw [hv] at this <;> cases this;rename_i c b k' hb h1;exact ⟨_,.ptr _ _ b k' hb,fun w'=>bH (by rw [hv,hk];exact oU hu hn hlt w')⟩
    ·cases hx
   ·cases hx
  ·rename_i len e id off iv hu hy hz
   split at hx
   ·rename_i n i hn hi
    split at hx
    ·rename_i hlt;cases hx;obtain ⟨k,hk⟩:=iJ hi (aU hf hz);have:=aU hf hy;cases hv:a.eval y <;> rw [hv] at this <;> cases this;rename_i b k' hb;exact ⟨_,.ptr _ _ b k' hb,fun w'=>bH (by rw [hv,hk];exact tT hu hn hlt w')⟩
    ·cases hx
   ·cases hx
  ·cases hx
 | extract y k=>
  simp only [pureA,extractP] at hx
  split at hx
  ·rename_i l hy;have:=aU hf hy;cases hv:a.eval y <;> rw [hv] at this <;> cases this;rename_i xs hl;obtain ⟨v,h1,h2⟩:=hl.get hx;refine ⟨v,h2,fun w'=>bH ?_⟩;rw [hv,Instr.extract];simp [h1]
  ·cases hx
 | call c=>
  obtain ⟨callee,args,ats⟩:=c;simp only [pureA,callP] at hx
  split at hx
  ·rename_i b
   split at hx
   ·rename_i aj t ts ha ht
    split at hx
    ·rename_i d hd;obtain ⟨us,h1,h2⟩:=lU hf ha;obtain ⟨cs,hcs⟩:=i4 a.eval dst b args ats ty pos af gd;obtain ⟨v,h3,h4⟩:=CT (ats:=ts) hx hd h2 ty cs;refine ⟨v,h3,fun w'=>?_⟩;rw [hcs,h1,show ats=(t::ts).toArray by rw [← ht]];exact h4 w'
    ·cases hx
   ·cases hx
  ·cases hx
 | typeAssert y xt t ok=>
  cases ok with
  | false=>simp only [pureA] at hx;cases hx
  | true=>
   simp only [pureA,typeAssertP] at hx
   split at hx
   ·rename_i d z hy hd hz;cases hx;obtain ⟨zv,hzv,hzr⟩:=eR (σ:=σ) hz;have h1:=aU hf hy;cases hv:a.eval y <;> rw [hv] at h1 <;> cases h1;refine ⟨.tuple #[zv,.bool false],.tup _ [zv,.bool false] (.cons _ _ _ _ hzv (.cons _ _ _ _ (.b _) .nil)),fun w'=>bH ?_⟩;rw [hv];unfold Instr.typeAssert;rw [Sem.run_bind,aY hd,Result.andThen_ok];cases d <;> (simp only [if_true];rw [Sem.run_bind,hzr,Result.andThen_ok];rfl)
   ·cases hx
 | alloc _ | box _ _ | buildSlice _ _ _ | insert _ _ _ _ | load _ _ | store _ _ _ | ready _ | waits _ | sliceToArrayPointer _ _ | makeMap _ _ | makeChan _ _ | makeSlice _ _ _ | lookup _ _ _ _ | mapUpdate _ _ _ _ | mapEntry _ _ _
 | entryStore _ _ _ _ | range _ _ | next _ _ | entry _ | go _ | defer _ | panic _ | send _ _ | recv _ _ _ | select _ _=>simp only [pureA] at hx;cases hx
end Go.Proofs.YtpidmmfjcghmeaaGreat.Ab
namespace Go.Proofs.YtpidmmfjcghmeaaGreat.Ab
open Go.RowKit
variable {P:Program} {σ:Sg} {W:World}
def Rs (W:World) (σ:Sg) (r:AV×H) (v:Value) (w':World):Prop:=∃ σ',Sg.le σ σ'∧VR σ' r.1 v∧HR W σ' r.2 w'
theorem D3 {w:World} {b:Nat} {o:Obj} (h:w.heap[b]? = some o):World.upd w b o=w:=by
 unfold World.upd;have:w.heap.setIfInBounds b o=w.heap:=by
  apply Array.ext_getElem?;intro i;rw [Array.getElem?_setIfInBounds];by_cases e:b=i
  ·subst e;have hlt:b<w.heap.size:=(gL h).1;rw [if_pos rfl,if_pos hlt,h]
  ·rw [if_neg e]
 rw [this]
theorem fA {b:Nat} {ty:TypeId}:∀ (vs:List Value) (o:Nat) (c:List Value) (w:World),w.heap[b]? = some (.cells c.toArray ty (0,0))→w.setCells b o vs=World.upd w b (.cells (dM c o vs).toArray ty (0,0))
 | [],o,c,w,h=>(D3 h).symm
 | v::vs,o,c,w,h=>by
  have hlt:b<w.heap.size:=(gL h).1;rw [World.setCells,iL h,dM];have e:c.toArray.setIfInBounds o v=(c.set o v).toArray:=by simp
  rw [e,fA vs (o+1) (c.set o v) _ (mY hlt),vW]
theorem eB {h:H} {w:World} (hr:HR W σ h w) (x:AO) (k:Nat) (o:Obj) (ho:OR σ x k (some o)):
  ∃ σ',Sg.le σ σ'∧σ' (h.new x).1=some (w.heap.size,k)∧HR W σ' (h.new x).2 (w.alloc o):=by
 obtain ⟨h1,h2⟩:=hr.new x k o ho;exact ⟨_,Sg.le_put h1 _,by simp [Sg.put],h2⟩
theorem nQ {x:AV} {v:Value} (hv:VR σ x v) (ty:Nat):OR σ (.cells (cellsOf x) ty) v.cells.size (some (.cells v.cells ty (0,0))):=by
 have h:=cH hv;have hl:=h.len;exact ⟨v.cells.toList,by simp,by simp,v.cells.toList,by rw [← hl],h,by rw [hl,List.take_length]⟩
theorem JO {x:AV} {v:Value} (h:VR σ x v) (hx:oneA x=true):v.oneCell'=true:=by
 cases h <;> first | rfl | simp [oneA] at hx
theorem IP {l:List AV} {c:List Value} (h:VL σ l c) (ha:l.all oneA=true):∀ v∈c,v.oneCell'=true:=by
 induction l generalizing c with
 | nil=>cases h;simp
 | cons x l ih=>
  cases h with
  | cons _ v _ c h1 h2=>
   simp only [List.all_cons,yF] at ha;intro u hu;cases hu with
   | head=>exact JO h1 ha.1
   | tail _ hm=>exact ih h2 ha.2 u hm
def eQ (z:List Value):Nat→List Value
 | 0=>[]
 | n+1=>z++eQ z n
theorem qD {z:List AV} {zv:List Value} (h:VL σ z zv):∀ n,VL σ (rep z n) (eQ zv n)
 | 0=>.nil
 | n+1=>h.append (qD h n)
theorem jI (z:List Value):∀ n,(eQ z n).length=n*z.length
 | 0=>by simp [eQ]
 | n+1=>by rw [eQ,gI,jI z n,Nat.succ_mul];omega
theorem sF (z:List Value):∀ n i,i<n*z.length→(eQ z n)[i]? = z[i % z.length]?
 | 0,i,h=>by simp at h
 | n+1,i,h=>by
  rw [eQ];by_cases hi:i<z.length
  ·rw [List.getElem?_append_left hi,Nat.mod_eq_of_lt hi]
  ·rw [List.getElem?_append_right (by omega),sF z n _ (by rw [Nat.succ_mul] at h;omega),← Nat.mod_eq_sub_mod (by omega)]
theorem qC (z:Array Value) (n m:Nat) (hm:m=n*z.size):(Array.range m).map (fun i=>z[i % z.size]!)=(eQ z.toList n).toArray:=by
 subst hm;apply Array.ext_getElem?;intro i;have hr:(eQ z.toList n).toArray[i]? = (eQ z.toList n)[i]? := by simp
 rw [Array.getElem?_map,hr];by_cases hi:i<n*z.size
 ·have h0:0<z.size:=Nat.pos_of_ne_zero fun e=>by rw [e] at hi;simp at hi
  rw [sF _ _ _ (by rw [Array.length_toList];exact hi),Array.length_toList];have h1:i % z.size<z.size:=Nat.mod_lt _ h0;simp [hi,h1]
 ·have hl:(eQ z.toList n).length=n*z.size:=by rw [jI];simp
  rw [List.getElem?_eq_none (by omega)];simp;omega
theorem fE (z:Array Value) (n:Nat):Builtin.zeroCells z n=(eQ z.toList n).toArray:=by
 unfold Builtin.zeroCells;exact qC z n _ rfl
theorem iM (b off:Nat) {c:List Value} {ty:TypeId} {w:World} (hc:w.heap[b]? = some (.cells c.toArray ty (0,0))) (m:Nat) (hm:off+m≤c.length):
  (∀ j,j<m→(w.cell? ⟨b,off+j,none⟩).isSome=true)∧(∀ j,j<m→w.frozen? ⟨b,off+j,none⟩=false):=by
 refine ⟨fun j hj=>?_,fun j hj=>?_⟩
 ·have:off+j<c.length:=by omega
  simp [World.cell?,hc,this]
 ·simp [World.frozen?,hc]
theorem dO {b off size n len cap:Nat} {c:List Value} {ty:TypeId} {w:World} (hc:w.heap[b]? = some (.cells c.toArray ty (0,0))) (hl:off+n*size≤c.length):
  (Builtin.firstCells size n (.slice (some ⟨b,off,none⟩) len cap)).run P w=.ok ((c.drop off).take (n*size)).toArray w:=by
 rw [Builtin.firstCells];exact GJ hc _ hl
theorem rG {h:H} {w:World} (hr:HR W σ h w) {size:Nat} {x:AV} {v:Value} {n m:Nat} {l:List AV} (hx:VR σ x v) (hn:needOf x=some n) (hl:firstA h size m x=some l):
  ∃ us,VL σ l us∧(Builtin.lenOf v=Sem.pure n)∧(Builtin.firstCells size m v).run P w=.ok us.toArray w∧(Builtin.firstCells size m v).run P w.drew=.ok us.toArray w.drew:=by
 unfold firstA at hl;cases x with
 | sl id off len cap=>
  simp only [needOf] at hn hl;cases hn
  split at hl
  ·rename_i row ty hg;obtain ⟨b,k,hb,_,_,ho⟩:=hr.obj _ _ hg;obtain ⟨c,hc,hck,hcl,hcv⟩:=ho.row;cases hx with
   | sl _ _ _ _ b' k' hb'=>
    obtain ⟨rfl,rfl⟩:b=b'∧k=k':=by rw [hb] at hb';simpa using hb'
    obtain ⟨h1,h2⟩:=eS hl hcv;rw [yA] at h2;rw [List.drop_take,List.take_take,Nat.min_eq_left (by omega)] at h1;have hcd:(w.drew).heap[b]? = some (.cells c.toArray ty (0,0)):=hc;exact ⟨_,h1,rfl,dO hc (by omega),dO hcd (by omega)⟩
  ·cases hl
 | so id off len s=>
  simp only [needOf] at hn hl;cases hn
  split at hl
  ·rename_i row ty hg;obtain ⟨b,k,hb,_,_,ho⟩:=hr.obj _ _ hg;obtain ⟨c,hc,hck,hcl,hcv⟩:=ho.row;cases hx with
   | so _ _ _ _ b' k' cc hb' hkk=>
    obtain ⟨rfl,rfl⟩:b=b'∧k=k':=by rw [hb] at hb';simpa using hb'
    obtain ⟨h1,h2⟩:=eS hl hcv;rw [yA] at h2;rw [List.drop_take,List.take_take,Nat.min_eq_left (by omega)] at h1;have hcd:(w.drew).heap[b]? = some (.cells c.toArray ty (0,0)):=hc;exact ⟨_,h1,rfl,dO hc (by omega),dO hcd (by omega)⟩
  ·cases hl
 | ns=>
  simp only [needOf] at hn hl;cases hn;cases hl;cases hx;exact ⟨[],.nil,rfl,rfl,rfl⟩
 | _=>simp only [needOf] at hn;cases hn
theorem IZ {h:H} {w:World} (hr:HR W σ h w) {size tx:Nat} {x:AV} {v:Value} {n:Nat} {new:List AV} (hx:VR σ x v) (ha:addsA P h size tx x=some (n,new)):∃ us,VL σ new us∧Src P size tx v n us w:=by
 unfold addsA at ha
 split at ha
 ·rename_i y hu
  split at ha
  ·rename_i hs;subst hs;cases ha;cases hx;refine ⟨byteCells y, ?_,.ofString w hu y⟩;unfold byteCells;have:∀ l:List UInt8,VL σ (l.map fun b=>AV.i .u8 b.toNat) (l.map fun b=>Value.int .u8 b.toNat):=fun l=>by
    induction l with
    | nil=>exact .nil
    | cons b l ih=>exact .cons _ _ _ _ (.i _ _) ih
   exact this _
  ·cases ha
 ·cases ha
 ·rename_i e' hu _
  split at ha
  ·rename_i m hm
   split at ha
   ·rename_i l hl
    split at ha
    ·rename_i hlen;obtain ⟨hlen,hone⟩:=hlen;cases ha;obtain ⟨us,h1,h2,h3,h4⟩:=rG (P:=P) hr hx hm hl;exact ⟨us,h1,.inl ⟨_,hu⟩,fun w'=>by rw [h2];rfl,h3,h4,by rw [← h1.len];exact hlen,IP h1 hone⟩
    ·cases ha
   ·cases ha
  ·cases ha
 ·cases ha
theorem mJ:∀ (vs c:List Value) (off:Nat),off+vs.length≤c.length→dM c off vs=c.take off++vs++c.drop (off+vs.length)
 | [],c,off,_=>by simp [dM]
 | v::vs,c,off,h=>by
  simp only [gG] at h;rw [dM,mJ vs (c.set off v) (off+1) (by simp;omega)];have h1:(c.set off v).take (off+1)=c.take off++[v]:=by
   rw [List.take_add_one,List.take_set_of_le (gO _)]
   congr 1
   rw [List.getElem?_set_self (by omega)];rfl
  have h2:(c.set off v).drop (off+1+vs.length)=c.drop (off+(v::vs).length):=by
   rw [List.drop_set_of_lt (by omega)]
   congr 1
   simp only [gG];omega
  rw [h1,h2];simp
theorem uX {h:H} {w:World} (hr:HR W σ h w) {e size len n cap:Nat} {old new:List AV} {os ns rest:List Value} (ho:VL σ old os) (hn:VL σ new ns) (hol:os.length=len*size) (hnl:ns.length=n*size) (hrl:rest.length=(cap-(len+n))*size) (hc:len+n≤cap):
  Rs W σ (growA h e size len n old new) (.slice (some ⟨w.heap.size,0,none⟩) (len+n) cap) (w.drew.alloc (.cells (os++ns++rest).toArray e)):=by
 have h1:=ho.append hn;have hlen:=h1.len;have hk:(os++ns++rest).length=cap*size:=by
  simp only [gI,hol,hnl,hrl];rw [← Nat.add_mul,← Nat.add_mul];congr 1;omega
 obtain ⟨σ',h2,h3,h4⟩:=eB (w:=w.drew) hr.drew (.cells (old++new) e) (cap*size) (.cells (os++ns++rest).toArray e (0,0))
  ⟨_,rfl,hk,os++ns,by rw [hlen],h1,by rw [hlen,List.take_append_of_le_length (gO _),List.take_length]⟩
 exact ⟨σ',h2,.so _ _ _ _ _ _ cap h3 (by omega),h4⟩
theorem kJ {h:H} {w:World} (hr:HR W σ h w) {id b k:Nat} {l l' new:List AV} {ty off:Nat} {c ns:List Value} (hg:h.get id=some (.cells l ty)) (hb:σ id=some (b,k)) (hc:w.heap[b]? = some (.cells c.toArray ty (0,0))) (hck:c.length=k)
  (hcl:l.length≤c.length) (hcv:VL σ l (c.take l.length)) (hp:putL l off new=some l') (hn:VL σ new ns):HR W σ (h.set id (some (.cells l' ty))) (w.setCells b off ns):=by
 rw [fA _ _ c w hc];exact hr.upd hg hb (OR.put hck hcl hcv hp hn)
theorem wH {h:H} {w:World} (hr:HR W σ h w) {t tx:Nat} {s x:AV} {sv xv:Value} (hs:VR σ s sv) (hx:VR σ x xv) {r:AV×H} (ha:appendA P h t tx s x=some r) (ty:TypeId):
  ∃ v w',(Builtin.append_ #[t,tx] ty #[sv,xv]).run P w=.ok v w'∧Rs W σ r v w':=by
 unfold appendA at ha
 split at ha
 rotate_left
 ·cases ha
 rename_i e ht
 split at ha
 ·cases ha
 rename_i i hi
 split at ha
 ·cases ha
 rename_i zv hz
 split at ha
 ·cases ha
 rename_i z hzv
 split at ha
 ·cases ha
 rename_i hcond;have hi0:0<i.size:=Nat.pos_of_ne_zero fun e=>hcond (.inl e);have hib:i.bytes≤1000:=Nat.le_of_not_lt fun e=>hcond (.inr (.inl e));have hzl:zv.cells.size=i.size:=Classical.byContradiction fun e=>hcond (.inr (.inr e));clear hcond;have hzr:=cH (σ:=σ) (kA hzv);have fit:∀ {need old:Nat},old<need→need≤2000000→Builtin.nextslicecap need old*i.bytes≤281474976710656:=fun {need old} h1 h2=>by
  have h3:=nextslicecap_le h1
  calc Builtin.nextslicecap need old*i.bytes≤(2*need)*1000:=Nat.mul_le_mul h3 hib
   _≤281474976710656:=by omega
 have rest:∀ m,(eQ zv.cells.toList m).length=m*i.size:=fun m=>by rw [jI,Array.length_toList,hzl]
 split at ha
 ·rename_i kk hu
  split at ha
  rotate_left
  ·cases ha
  rename_i n hn
  split at ha
  ·cases ha
  rename_i hlt;cases ha;cases hs;obtain ⟨k,rfl⟩:=iJ hn hx;have h0:0<n:=Nat.pos_of_ne_zero fun e=>hlt (.inl e);have h1:n≤1000000:=Nat.le_of_not_lt fun e=>hlt (.inr e);have hrun:=Lib.run_append_nil_zeros w t tx ty e i zv k kk ht hu hi hz n h0 hi0 (by omega) (by
   calc n*i.bytes≤1000000*1000:=Nat.mul_le_mul h1 hib
    _≤281474976710656:=by omega)
  refine ⟨_,_,hrun, ?_⟩;have hg:=uX hr (e:=e) (size:=i.size) (len:=0) (n:=n) (cap:=grownCap w n 0 e) (old:=[]) (os:=[]) (rest:=eQ zv.cells.toList (grownCap w n 0 e-n)) .nil (qD hzr n) (by simp) (rest n) (by rw [rest];simp) (by simpa using grownCap_ge w n 0 e);simp only [Nat.zero_add,List.nil_append] at hg;rw [fE zv.cells n,fE zv.cells,List.append_toArray];exact hg
 ·cases ha
 ·rename_i d s' x' hd hu
  split at ha
  ·cases ha
  rename_i n new hadd
  split at ha
  ·cases ha
  rename_i hn1;have hn1:n≤1000000:=Nat.le_of_not_lt hn1;obtain ⟨us,hus,hsrc⟩:=IZ (P:=P) hr hx hadd
  -- a new row,in place of one of known cells
  have grows:∀ {h1:H} {σ1:Sg} {base:Option Addr} {sLen sCap:Nat} {old:List AV} {os:List Value},HR W σ1 h1 w→Sg.le σ σ1→VL σ1 old os→os.length=sLen*i.size→(Builtin.firstCells i.size sLen (.slice base sLen sCap)).run P w.drew=.ok os.toArray w.drew→
    sCap<sLen+n→sLen≤1000000→
    ∃ v w',(Builtin.append_ #[t,tx] ty #[.slice base sLen sCap,xv]).run P w=.ok v w'∧Rs W σ (growA h1 e i.size sLen n old new) v w':=by
   intro h1 σ1 base sLen sCap old os hr1 hle ho hol hold hg hl;have hrun:=run_append_grow_src w t tx ty e i zv ht hi hz base sLen sCap os hold xv n us hsrc hg (by omega) (fit hg (by omega));refine ⟨_,_,hrun, ?_⟩;have hgo:=uX hr1 (e:=e) (size:=i.size) (len:=sLen) (n:=n) (cap:=grownCap w (sLen+n) sCap e) (rest:=eQ zv.cells.toList (grownCap w (sLen+n) sCap e-(sLen+n))) ho (hus.mono hle) hol hsrc.newsLen (rest _) (grownCap_ge _ _ _ _);rw [fE zv.cells,List.append_toArray];obtain ⟨σ',h2,h3⟩:=hgo;exact ⟨σ',Sg.le_trans hle h2,h3⟩
  split at ha
  ·split at ha
   ·rename_i hn0;subst hn0;cases ha;cases hs;obtain rfl:us=[]:=yM (by rw [hsrc.newsLen];simp);exact ⟨.slice none 0 0,w,run_append_nothing w t tx ty e i ht hi none 0 0 (gO _) xv hsrc,σ,Sg.le_refl _,.ns,hr⟩
   ·rename_i hn0;cases ha;cases hs;have:=grows (sLen:=0) (sCap:=0) (base:=none) (old:=[]) (os:=[]) hr (Sg.le_refl _) .nil (by simp) rfl (by omega) (by omega);exact this
  ·rename_i id off len cap
   split at ha
   ·cases ha
   rename_i hb0;have hcap:cap≤1000000:=Nat.le_of_not_lt fun e=>hb0 (.inl e);have hlen:len≤1000000:=Nat.le_of_not_lt fun e=>hb0 (.inr e)
   split at ha
   rotate_left
   ·cases ha
   rename_i l ty' hg;obtain ⟨b,k,hb,_,_,hor⟩:=hr.obj _ _ hg;obtain ⟨c,hc,hck,hcl,hcv⟩:=hor.row;cases hs with
   | sl _ _ _ _ b' k' hb'=>
    obtain ⟨rfl,rfl⟩:b=b'∧k=k':=by rw [hb] at hb';simpa using hb'
    split at ha
    ·rename_i hroom
     split at ha
     rotate_left
     ·cases ha
     rename_i l' hp;cases ha;have hm:off+len*i.size+us.length≤c.length∨us=[]:=by
      cases us with
      | nil=>exact .inr rfl
      | cons u us=>
       have:=(eP hp).2 (fun e=>by rw [e] at hus;cases hus);have hl:=hus.len;exact .inl (by omega)
     have hrm:(∀ j,j<us.length→(w.cell? ⟨b,off+len*i.size+j,none⟩).isSome=true)∧(∀ j,j<us.length→w.frozen? ⟨b,off+len*i.size+j,none⟩=false):=by
      rcases hm with hm | rfl
      ·exact iM b (off+len*i.size) hc us.length hm
      ·exact ⟨fun j hj=>by simp at hj,fun j hj=>by simp at hj⟩
     exact ⟨_,_,run_append_room_src w t tx ty e i ht hi b off len cap xv n us hsrc hroom hrm.1 hrm.2,σ,Sg.le_refl _,.sl _ _ _ _ b k hb,kJ hr hg hb hc hck hcl hcv hp hus⟩
    ·rename_i hroom
     split at ha
     rotate_left
     ·cases ha
     rename_i old hold;cases ha;obtain ⟨h1,h2⟩:=eS hold hcv;rw [yA] at h2;rw [List.drop_take,List.take_take,Nat.min_eq_left (by omega)] at h1;exact grows hr (Sg.le_refl _) h1 (by rw [yA,List.length_drop];omega) (dO (w:=w.drew) hc (by omega)) (by omega) hlen
  ·rename_i id off len s2
   split at ha
   ·cases ha
   rename_i hb0;have hs2:s2=i.size:=Classical.byContradiction fun e=>hb0 (.inl e);have hlen:len≤1000000:=Nat.le_of_not_lt fun e=>hb0 (.inr e);subst hs2
   split at ha
   rotate_left
   ·cases ha
   rename_i l ty' hg;obtain ⟨b,k,hb,hWb,hblt,hor⟩:=hr.obj _ _ hg;obtain ⟨c,hc,hck,hcl,hcv⟩:=hor.row;cases hs with
   | so _ _ _ _ b' k' cap hb' hkk=>
    obtain ⟨rfl,rfl⟩:b=b'∧k=k':=by rw [hb] at hb';simpa using hb'
    split at ha
    ·rename_i hroom;have hcap:len+n≤cap:=Nat.le_of_mul_le_mul_right (by omega:(len+n)*i.size≤cap*i.size) hi0
     split at ha
     rotate_left
     ·cases ha
     rename_i l' hp;cases ha;have hul:=hsrc.newsLen;have hrm:=iM b (off+len*i.size) hc us.length (by rw [hul];rw [Nat.add_mul] at hroom;omega);exact ⟨_,_,run_append_room_src w t tx ty e i ht hi b off len cap xv n us hsrc hcap hrm.1 hrm.2,σ,Sg.le_refl _,.so _ _ _ _ b k cap hb hkk,kJ hr hg hb hc hck hcl hcv hp hus⟩
    ·rename_i hroom
     split at ha
     rotate_left
     ·cases ha
     rename_i hoff;obtain ⟨rfl,rfl⟩:=hoff
     split at ha
     rotate_left
     ·cases ha
     rename_i old hold;cases ha;obtain ⟨h1,h2⟩:=eS hold hcv;rw [yA] at h2;rw [List.drop_take,List.take_take,Nat.min_eq_left (by omega),List.drop_zero] at h1;by_cases hcap:len+n≤cap
     ·have hul:=hsrc.newsLen;have hfit:0+len*i.size+us.length≤c.length:=by
       have:(len+n)*i.size≤cap*i.size:=Nat.mul_le_mul_right _ hcap;rw [Nat.add_mul] at this;omega
      have hrm:=iM b (0+len*i.size) hc us.length hfit;refine ⟨_,_,run_append_room_src w t tx ty ty' i ht hi b 0 len cap xv n us hsrc hcap hrm.1 hrm.2, ?_⟩;have hw:w.setCells b (0+len*i.size) us=World.upd w b (.cells (dM c (0+len*i.size) us).toArray ty' (0,0)):=fA _ _ c w hc;have hloose:=hr.loose hg hb (.cells (dM c (0+len*i.size) us).toArray ty' (0,0));obtain ⟨σ',h3,h4,h5⟩:=hloose.place (w':=World.upd w b (.cells (dM c (0+len*i.size) us).toArray ty' (0,0))) (.cells (old++new) ty') (b:=b) (k:=k) hWb (by simpa [World.upd] using hblt) (gO _)
       (fun σ' hle=>by
        rw [mY hblt];have h6:=(h1.mono hle).append (hus.mono hle);have h7:=h6.len;refine ⟨_,rfl,by rw [jG];exact hck,c.take (len*i.size)++us,h7.symm,h6, ?_⟩;rw [mJ _ _ _ hfit,Nat.zero_add,h7,List.take_append_of_le_length (gO _),List.take_length])
       (fun j o b2 k2 hj hb2=>by
        refine ⟨fun e=>?_,rfl⟩;subst e;have hgj:(h.set id none).get j=if j=id then none else h.get j:=T.get_set _ _ _ _;have hji:j≠id:=fun e=>by rw [hgj,if_pos e] at hj;cases hj
        rw [hgj,if_neg hji] at hj;exact hji (hr.inj j id b2 k2 k (by rw [hj];simp) (by rw [hg];simp) hb2 hb))
       hloose.bel
      rw [hw];exact ⟨σ',h3,.so _ _ _ _ b k cap h4 hkk,h5⟩
     ·exact grows (hr.drop id) (Sg.le_refl _) h1 (by rw [yA];omega) (dO (w:=w.drew) hc (by omega)) (by omega) hlen
  ·cases ha
 ·cases ha
end Go.Proofs.YtpidmmfjcghmeaaGreat.Ab
namespace Go.Proofs.YtpidmmfjcghmeaaGreat.Ab
open Go.RowKit
variable {P:Program} {σ:Sg} {W:World}
inductive Does (P:Program) (y:Bool) (o:Oper) (a:Act) (w:World) (R:Value→World→Prop):Prop
 | val (v w'):(execOp a.eval o).run P w=.ok (.value v) w'→R v w'→Does P y o a w R
 | skp (w'):(execOp a.eval o).run P w=.ok .skip w'→R Go.undef w'→Does P y o a w R
 | ent (k args w'):(execOp a.eval o).run P w=.ok (.enter k args) w'→Calls P k args w' (fun e w''=>∃ v,e=.returned v∧R v w'')→Does P y o a w R
 | rnd (l fn tmps aj body w'):y=true→(execOp a.eval o).run P w=.ok (.round l fn tmps aj body) w'→RoundIn Fence.wide 0 P l fn tmps aj body w' (fun e w''=>∃ v,e=.returned v∧R v w'')→Does P y o a w R
structure CallOK (P:Program) (W:World) (call:aZ):Prop where
 fn:∀ k args h r,call (.fn k) args h=some r→∀ σ w us,HR W σ h w→VL σ args us→
  (callFunc k us.toArray).run P w=.ok (.enter k us.toArray) w∧Calls P k us.toArray w (fun e w'=>∃ v,e=.returned v∧Rs W σ r v w')
 yl:∀ l args h r,call (.yl l) args h=some r→∀ σ w us b k,HR W σ h w→VL σ args us→σ l=some (b,k)→
  ∃ fn tmps aj body,(Instr.yield b us.toArray).run P w=.ok (.round b fn tmps aj body) w∧RoundIn Fence.wide 0 P b fn tmps aj body w (fun e w'=>∃ v,e=.returned v∧Rs W σ r v w')
theorem pT {h:H} {w:World} (hr:HR W σ h w) {id b k:Nat} {es:Array MapEntry} {cl:Nat} (hg:h.get id=some (.map es cl)) (hb:σ id=some (b,k)):w.heap[b]? = some (.map es cl):=by
 obtain ⟨b',k',hb',_,_,ho⟩:=hr.obj _ _ hg;obtain ⟨rfl,rfl⟩:b'=b∧k'=k:=by rw [hb] at hb';simpa using hb'.symm
 exact ho
theorem dV {w:World} {b:Nat} {o:Obj} (h:w.heap[b]? = some o) (hn:∀ c e f,o≠.cells c e f):(getObj b).run P w=.ok o w:=by
 unfold getObj;cases o <;> first | exact absurd rfl (hn _ _ _) | simp [Sem.run,h]
theorem dC {w:World} {b:Nat} {o o':Obj} (h:w.heap[b]? = some o) (hn:∀ c e f,o≠.cells c e f):(setObj b o').run P w=.ok () (World.upd w b o'):=by
 unfold setObj World.upd;cases o <;> first | exact absurd rfl (hn _ _ _) | simp [Sem.run,h]
theorem pK {kt:Nat} {es:Array MapEntry} {emp:Bool} {kv:Value} {r:Option (Nat×Value)} (h:mapFind P kt es emp kv=some r) (w:World):
  (Instr.checkKey emp 10000 kt kv).run P w=.ok () w∧(Instr.findKey kt kv es.toList).run P w=.ok r w:=by
 unfold mapFind at h
 split at h
 ·rename_i u hu;exact ⟨dU hu w,dU h w⟩
 ·cases h
theorem oF {h:H} {w:World} (hr:HR W σ h w) {t kt e id:Nat} {es:Array MapEntry} {cl:Nat} {kv:Value} {z:AV} {ok:Bool} {mv:Value} (hu:P.underlying t=some (.map kt e)) (hm:VR σ (.mp id) mv) (hg:h.get id=some (.map es cl)) (hz:zeroOf P e=some z)
  {r:Option (Nat×Value)} (hf:mapFind P kt es es.isEmpty kv=some r):
  (∀ i v x,r=some (i,v)→ofV v=some x→∃ u,VR σ (okA ok x true) u∧(Instr.lookup t mv kv ok).run P w=.ok u w)∧
  (r=none→∃ u,VR σ (okA ok z false) u∧(Instr.lookup t mv kv ok).run P w=.ok u w):=by
 cases hm with
 | mp _ b k hb=>
  have hrow:=pT hr hg hb;have hgo:=dV (P:=P) hrow (fun _ _ _ e=>by cases e);obtain ⟨h1,h2⟩:=pK hf w;constructor
  ·intro i v x hr' hv;subst hr';refine ⟨if ok then .tuple #[v,.bool true] else v, ?_, ?_⟩
   ·have:=kA (σ:=σ) hv;cases ok
    ·exact this
    ·exact .tup _ [v,.bool true] (.cons _ _ _ _ this (.cons _ _ _ _ (.b _) .nil))
   ·unfold Instr.lookup;rw [Sem.run_bind,aY hu,Result.andThen_ok];simp only [Sem.run_bind,hgo,Result.andThen_ok,cU,h1,h2]
  ·intro hr';subst hr';obtain ⟨zv,hzv,hzr⟩:=eR (σ:=σ) hz;refine ⟨if ok then .tuple #[zv,.bool false] else zv, ?_, ?_⟩
   ·cases ok
    ·exact hzv
    ·exact .tup _ [zv,.bool false] (.cons _ _ _ _ hzv (.cons _ _ _ _ (.b _) .nil))
   ·unfold Instr.lookup;rw [Sem.run_bind,aY hu,Result.andThen_ok];simp only [Sem.run_bind,hgo,Result.andThen_ok,cU,h1,h2,hzr]
theorem D2 {f:F} {h:H} {a:Act} {w:World} (hf:FT σ f.n f.t a.tmps) (hr:HR W σ h w) {t:Nat} {m k v:Operand} {r:AV×H} (hx:updA P f h t m k v=some r):
  ∃ w',(Instr.mapUpdate t (a.eval m) (a.eval k) (a.eval v)).run P w=.ok () w'∧Rs W σ r Go.undef w':=by
 unfold updA at hx
 split at hx
 rotate_left
 ·cases hx
 rename_i kt e id kx vx hu hm hk hv
 split at hx
 rotate_left
 ·cases hx
 rename_i kv vv es cl hkv hvv hg;have ek:=mX hkv (aU hf hk);have ev:=mX hvv (aU hf hv);have hmv:=aU hf hm;cases hm':a.eval m <;> rw [hm'] at hmv <;> cases hmv;rename_i b kk hb;have hrow:=pT hr hg hb;have hgo:=dV (P:=P) hrow (fun _ _ _ e=>by cases e);rw [ek,ev]
 split at hx
 ·rename_i i u hfd;obtain ⟨h1,h2⟩:=pK hfd w
  split at hx
  rotate_left
  ·cases hx
  rename_i key hkey;cases hx;have h3:=dU hkey w;refine ⟨_, ?_,σ,Sg.le_refl _,.und,hr.upd (y:=.map (es.modify i fun e=>{ e with key,val:=vv }) cl) hg hb rfl⟩;unfold Instr.mapUpdate;rw [Sem.run_bind,aY hu,Result.andThen_ok];simp only [Sem.run_bind,hgo,Result.andThen_ok,h1,h2,h3];exact dC hrow (fun _ _ _ e=>by cases e)
 ·rename_i hfd;obtain ⟨h1,h2⟩:=pK hfd w;cases hx;refine ⟨_, ?_,σ,Sg.le_refl _,.und,hr.upd (y:=.map (es.push { key:=kv,val:=vv,born:=cl }) (cl+1)) hg hb rfl⟩;unfold Instr.mapUpdate;rw [Sem.run_bind,aY hu,Result.andThen_ok];simp only [Sem.run_bind,hgo,Result.andThen_ok,h1,h2];exact dC hrow (fun _ _ _ e=>by cases e)
 ·cases hx
theorem xX {e:Nat} {zv:Value} (h:∀ w,(zeroValue e).run P w=.ok zv w) (w:World):(Instr.alloc e true (.tuple #[])).run P w=.ok (.pointer (some ⟨w.heap.size,0,none⟩)) (w.alloc (.cells zv.cells e)):=by
 unfold Instr.alloc;rw [Sem.run_bind,h,Result.andThen_ok];rfl
theorem FZ (e:Nat) (v:Value) (w:World):(Instr.box e v).run P w=.ok (.pointer (some ⟨w.heap.size,0,none⟩)) (w.alloc (.cells v.cells e)):=rfl
theorem EL {h:H} {w:World} (hr:HR W σ h w) {t tx e id off dl cap n k:Nat} {l l' new:List AV} {ty:Nat} {x:AV} {xv dv:Value} (hu:P.underlying t=some (.slice e)) (hs:sz P e=some 1) (hd:VR σ (.sl id off dl cap) dv) (hx:VR σ x xv) (hn:needOf x=some n)
  (hfa:firstA h 1 (Nat.min n dl) x=some new) (hg:h.get id=some (.cells l ty)) (hlen:new.length=Nat.min n dl) (hone:new.all oneA=true) (hp:putL l off new=some l'):
  ∃ w',(Builtin.copy_ #[t,tx] k #[dv,xv]).run P w=.ok (.int .i64 (Nat.min n dl:Nat)) w'∧HR W σ (h.set id (some (.cells l' ty))) w':=by
 obtain ⟨us,h1,h2,h3,h4⟩:=rG (P:=P) hr hx hn hfa;cases hd with
 | sl _ _ _ _ b kk hb=>
  obtain ⟨b',k',hb',_,_,hor⟩:=hr.obj _ _ hg;obtain ⟨rfl,rfl⟩:b'=b∧k'=kk:=by rw [hb] at hb';simpa using hb'.symm
  obtain ⟨c,hc,hck,hcl,hcv⟩:=hor.row;have hl1:=h1.len;unfold Builtin.copy_;simp only [List.getElem?_toArray,List.getElem?_cons_zero,List.getElem?_cons_succ];have hlo:(Builtin.lenOf xv).run P w=.ok n w:=by rw [h2];rfl
  rw [Sem.run_bind,aY hu,Result.andThen_ok];simp only [Sem.run_bind,hlo,Result.andThen_ok,dW hs,h3];cases us with
  | nil=>
   have h0:new=[]:=yM (by rw [hl1];rfl);subst h0;simp only [putL] at hp;cases hp;refine ⟨w, ?_,hr.same_set hg⟩;simp [storeCells,goInt]
  | cons u us=>
   have h5:=(eP hp).2 (fun e=>by rw [e] at h1;cases h1);have hst:=stores (P:=P) (off:=off) (u::us) 0 c w hc (by omega) (GL h1 hone) (by simp);refine ⟨_, ?_,hr.upd hg hb (OR.put hck hcl hcv hp h1)⟩;simp only [hst,Result.andThen_ok,cU,goInt];rfl
theorem nD {h:H} {w:World} (hr:HR W σ h w) {t e n len:Nat} {z:AV} {ps:List (Nat×AV)} {qs:List (Nat×Value)} {c:List AV} (hu:P.underlying t=some (.slice e)) (hn:sz P e=some n) (hz:zeroOf P e=some z) (hsz:len*n≤1000000) (hzl:(cellsOf z).length=n)
  (hp:PL σ ps qs) (hf:fillA (fun i=>some (i*n,n)) (rep (cellsOf z) len) ps=some c):
  ∃ v w',(Instr.buildSlice t len qs.toArray).run P w=.ok v w'∧Rs W σ (AV.sl (h.new (.cells c e)).1 0 len len,(h.new (.cells c e)).2) v w':=by
 obtain ⟨zv,hzv,hzr⟩:=eR (σ:=σ) hz;have hzc:=cH hzv;obtain ⟨c',h1,h2⟩:=kS hf hp (qD hzc len);have hzs:zv.cells.size=n:=by rw [← hzl,hzc.len,Array.length_toList]
 obtain ⟨σ',h3,h4,h5⟩:=eB hr (.cells c e) c'.length (.cells c'.toArray e (0,0)) ⟨c',rfl,rfl,c',h2.len.symm,h2,by rw [h2.len,List.take_length]⟩;refine ⟨_,_, ?_,σ',h3,.sl _ _ _ _ _ _ h4,h5⟩;unfold Instr.buildSlice;rw [Sem.run_bind,aY hu,Result.andThen_ok];simp only [];rw [Sem.run_bind,dW hn,Result.andThen_ok,if_neg (by omega)];by_cases h0:len*n=0
 ·have h6:(eQ zv.cells.toList len).length=0:=by rw [jI,Array.length_toList,hzs];exact h0
  have h7:=yM h6;rw [h7] at h1;have h8:(Array.range (len*n)).map (fun x=>(#[]:Array Value)[x % (#[]:Array Value).size]!)=([]:List Value).toArray:=by rw [h0];simp
  rw [if_pos h0];simp only [aS,h8,h1];rfl
 ·have h8:(Array.range (len*n)).map (fun x=>zv.cells[x % zv.cells.size]!)=(eQ zv.cells.toList len).toArray:=qC _ _ _ (by rw [hzs]);rw [if_neg h0,Sem.run_bind,hzr,Result.andThen_ok];simp only [aS,h8,h1];rfl
theorem E9 {h:H} {w:World} (hr:HR W σ h w) {t e n m:Nat} {k1 k2:IntKind} {z:AV} {inf:TypeInfo} (hu:P.underlying t=some (.slice e)) (hz:zeroOf P e=some z) (hi:P.info? e=some inf) (hn:n≤m) (hm:m≤1000000) (hb:inf.bytes≤1000) (hzl:(cellsOf z).length=inf.size):
  ∃ v w',(Instr.makeSlice t (.int k1 (n:Int)) (.int k2 (m:Int))).run P w=.ok v w'∧Rs W σ (AV.sl (h.new (.cells (rep (cellsOf z) m) e)).1 0 n m,(h.new (.cells (rep (cellsOf z) m) e)).2) v w':=by
 have hz':=hz;unfold zeroOf at hz';rw [hi] at hz';simp only at hz'
 split at hz'
 rotate_left
 ·cases hz'
 rename_i zv hzv;have hzr:=cH (σ:=σ) (kA hz');have hzs:zv.cells.size=inf.size:=by rw [← hzl,hzr.len,Array.length_toList]
 have hrun:=run_make (P:=P) w t e inf zv hu hi hzv k1 k2 (n:Int) (m:Int) (by omega) (by omega) (by
  have:inf.bytes*m≤1000*1000000:=Nat.mul_le_mul hb hm;rw [← Int.natCast_mul];omega) (by omega)
 have hrp:=qD hzr m;have hmade:madeCells zv.cells (m*inf.size)=(eQ zv.cells.toList m).toArray:=by
  unfold madeCells;exact qC _ _ _ (by rw [hzs])
 obtain ⟨σ',h3,h4,h5⟩:=eB hr (.cells (rep (cellsOf z) m) e) (eQ zv.cells.toList m).length (.cells (eQ zv.cells.toList m).toArray e (0,0)) ⟨_,rfl,rfl,_,hrp.len.symm,hrp,by rw [hrp.len,List.take_length]⟩;refine ⟨_,_,hrun,σ',h3, ?_, ?_⟩
 ·simp only [yB];exact .sl _ _ _ _ _ _ h4
 ·simp only [yB];rw [hmade];exact h5
theorem nS (ρ:Operand→Value) (dst:Option Tmp) (g:Operand) (xs:Array Operand) (ats:Array TypeId) (ty:TypeId) (pos:String) (af:Array Edge) (gd:Option (Nat×Bool)):
  execOp ρ ⟨dst,.call ⟨.value g,xs,ats⟩,ty,pos,af,gd⟩=(do let d ← Deferred.ofValue (ρ g) (xs.map ρ);invoke d.target d.args):=rfl
theorem GY {call:aZ} (hcall:CallOK P W call) {y:Bool} (hy:y=false→∀ l args h,call (.yl l) args h=none) {f:F} {h:H} {a:Act} {w:World} (hf:FT σ f.n f.t a.tmps) (hr:HR W σ h w) {o:Oper} {r:AV×H} (hx:effA P call f h o=some r):Does P y o a w (Rs W σ r):=by
 obtain ⟨dst,op,ty,pos,af,gd⟩:=o;cases op with
 | load t p=>
  simp only [effA,loadE] at hx
  split at hx
  ·rename_i pv hp
   split at hx
   ·rename_i v hv;cases hx;obtain ⟨u,h1,h2⟩:=kU (P:=P) hr (aU hf hp) hv;exact .val u w (bH h2) ⟨σ,Sg.le_refl _,h1,hr⟩
   ·cases hx
  ·cases hx
 | alloc e=>
  simp only [effA,allocE] at hx
  split at hx
  ·rename_i z hz;cases hx;obtain ⟨zv,hzv,hzr⟩:=eR (σ:=σ) hz;obtain ⟨σ',h3,h4,h5⟩:=eB hr _ _ _ (nQ hzv e);exact .val _ _ (bH (xX hzr w)) ⟨σ',h3,.ptr _ _ _ _ h4,h5⟩
  ·cases hx
 | box e y'=>
  simp only [effA,boxE] at hx
  split at hx
  ·rename_i v hv;cases hx;obtain ⟨σ',h3,h4,h5⟩:=eB hr _ _ _ (nQ (aU hf hv) e);exact .val _ _ (bH (FZ e _ w)) ⟨σ',h3,.ptr _ _ _ _ h4,h5⟩
  ·cases hx
 | buildSlice t len parts=>
  simp only [effA,buildSliceE] at hx
  split at hx
  ·rename_i e ps hu hps
   split at hx
   ·rename_i n z hn hz
    split at hx
    ·cases hx
    ·rename_i hc
     split at hx
     ·rename_i c hfl;cases hx;have hparts:(parts.map fun (i,x)=>(i,a.eval x))=(parts.toList.map fun p=>(p.1,a.eval p.2)).toArray:=by
       apply Array.ext';simp
      obtain ⟨v,w',h1,h2⟩:=nD hr hu hn hz (Nat.le_of_not_lt fun e=>hc (.inr (.inl e))) (Classical.byContradiction fun e=>hc (.inr (.inr e))) (pI hf hps) hfl;exact .val v w' (bH (by rw [hparts];exact h1)) h2
     ·cases hx
   ·cases hx
  ·cases hx
 | store t p x=>
  simp only [effA,storeE] at hx
  split at hx
  ·rename_i pv v hp hv
   split at hx
   ·rename_i h' hs;cases hx;obtain ⟨w',h1,h2⟩:=DP (P:=P) hr (aU hf hp) (aU hf hv) hs;refine .skp w' ?_ ⟨σ,Sg.le_refl _,.und,h2⟩;simp only [execOp];rw [Sem.run_bind,h1,Result.andThen_ok];rfl
   ·cases hx
  ·cases hx
 | makeMap t rv=>
  cases rv with
  | none=>
   simp only [effA] at hx;cases hx;obtain ⟨σ',h3,h4,h5⟩:=eB hr (.map #[] 0) 0 (.map #[] 0) rfl;exact .val (.map (some w.heap.size)) (w.alloc (.map #[] 0)) (bH rfl) ⟨σ',h3,.mp _ _ _ h4,h5⟩
  | some rv=>simp only [effA] at hx;cases hx
 | makeSlice t l c=>
  simp only [effA,makeSliceE] at hx
  split at hx
  ·rename_i e lv cv hu hl hc
   split at hx
   ·rename_i n m z inf hn hm hz hi
    split at hx
    ·rename_i hcond;cases hx;obtain ⟨k1,e1⟩:=iJ hn (aU hf hl);obtain ⟨k2,e2⟩:=iJ hm (aU hf hc);obtain ⟨v,w',h1,h2⟩:=E9 (P:=P) (k1:=k1) (k2:=k2) hr hu hz hi hcond.1 hcond.2.1 hcond.2.2.2.2.1 hcond.2.2.2.2.2;exact .val v w' (bH (by rw [e1,e2];exact h1)) h2
    ·cases hx
   ·cases hx
  ·cases hx
 | lookup t m k ok=>
  simp only [effA,lookupE] at hx
  split at hx
  ·rename_i kt e id kv hu hm hk
   split at hx
   ·rename_i kvv es cl z hkv hg hz;have ek:=mX hkv (aU hf hk)
    split at hx
    ·rename_i i v hfd
     split at hx
     ·rename_i x hv;cases hx;obtain ⟨u,h1,h2⟩:=(oF (ok:=ok) hr hu (aU hf hm) hg hz hfd).1 _ _ _ rfl hv;exact .val u w (bH (by rw [ek];exact h2)) ⟨σ,Sg.le_refl _,h1,hr⟩
     ·cases hx
    ·rename_i hfd;cases hx;obtain ⟨u,h1,h2⟩:=(oF (ok:=ok) hr hu (aU hf hm) hg hz hfd).2 rfl;exact .val u w (bH (by rw [ek];exact h2)) ⟨σ,Sg.le_refl _,h1,hr⟩
    ·cases hx
   ·cases hx
  ·cases hx
 | mapUpdate t m k v=>
  obtain ⟨w',h1,h2⟩:=D2 (P:=P) hf hr hx;refine .skp w' ?_ h2;simp only [execOp];rw [Sem.run_bind,h1,Result.andThen_ok];rfl
 | insert t m k v=>
  obtain ⟨w',h1,h2⟩:=D2 (P:=P) hf hr hx;refine .skp w' ?_ h2;simp only [execOp];rw [Sem.run_bind,h1,Result.andThen_ok];rfl
 | call c=>
  obtain ⟨callee,args,ats⟩:=c;simp only [effA,callE] at hx
  split at hx
  ·cases hx
  rename_i aj has;obtain ⟨us,hus,hvs⟩:=lU hf has
  split at hx
  ·rename_i b;obtain ⟨cs,hcs⟩:=i4 a.eval dst b args ats ty pos af gd;unfold effB at hx
   split at hx
   ·rename_i s x t tx hats;cases hvs with
    | cons _ sv _ _ h1 h2=>cases h2 with
     | cons _ xv _ _ h3 h4=>
      cases h4;obtain ⟨v,w',h5,h6⟩:=wH (P:=P) hr h1 h3 hx ty;refine .val v w' ?_ h6;rw [hcs,hus,show ats=#[t,tx] by rw [← hats]];exact bH h5
   ·rename_i id t hats
    split at hx
    ·rename_i kt e es cl hu hg;cases hx;cases hvs with
     | cons _ mv _ _ h1 h2=>
      cases h2;cases h1 with
      | mp _ b k hb=>
       have hrow:=pT hr hg hb;have hgo:=dV (P:=P) hrow (fun _ _ _ e=>by cases e);refine .val (.int .i64 es.size) w ?_ ⟨σ,Sg.le_refl _,.i _ _,hr⟩;rw [hcs,hus,show ats=#[t] by rw [← hats]];refine bH ?_;unfold Builtin.len_;simp only [List.getElem?_toArray,List.getElem?_cons_zero];rw [Sem.run_bind,aY hu,Result.andThen_ok];simp only [];rw [Sem.run_bind,hgo,Result.andThen_ok];rfl
    ·cases hx
   ·rename_i d x t tx hats
    split at hx
    ·rename_i e id off dl cap n hu hn
     split at hx
     ·rename_i hs
      split at hx
      ·rename_i new l ty' hfa hg
       split at hx
       ·rename_i hcond
        split at hx
        ·rename_i l' hp;cases hx;cases hvs with
         | cons _ dv _ _ h1 h2=>cases h2 with
          | cons _ xv _ _ h3 h4=>
           cases h4;obtain ⟨w',h5,h6⟩:=EL (P:=P) (tx:=tx) (k:=ty) hr hu hs h1 h3 hn hfa hg hcond.1 hcond.2 hp;refine .val _ w' ?_ ⟨σ,Sg.le_refl _,.i _ _,h6⟩;rw [hcs,hus,show ats=#[t,tx] by rw [← hats]];exact bH h5
        ·cases hx
       ·cases hx
      ·cases hx
     ·cases hx
    ·cases hx
   ·cases hx
  ·rename_i g
   split at hx
   ·rename_i k first cap hg
    have hgv:=aU hf hg;cases hgv':a.eval g <;> rw [hgv'] at hgv <;> cases hgv;rename_i xs ys hxs hys;have hall:VL σ (first++aj++cap) (xs++us++ys):=(hxs.append hvs).append hys;obtain ⟨h1,h2⟩:=hcall.fn _ _ _ _ hx σ w _ hr hall;refine .ent k _ w ?_ h2;rw [nS,hgv',hus];have e1:xs.toArray++us.toArray++ys.toArray=(xs++us++ys).toArray:=by simp
    simp only [Deferred.ofValue,aS,invoke,e1];exact h1
   ·rename_i l hg;have hgv:=aU hf hg;cases hgv':a.eval g <;> rw [hgv'] at hgv <;> cases hgv;rename_i b k hb;obtain ⟨fn,tmps,as',body,h1,h2⟩:=hcall.yl _ _ _ _ hx σ w _ _ _ hr hvs hb;refine .rnd b fn tmps as' body w (by cases y with | true=>rfl | false=>rw [hy rfl] at hx;cases hx) ?_ h2;rw [nS,hgv',hus];have e1:(#[]:Array Value)++us.toArray=us.toArray:=by simp
    simp only [Deferred.ofValue,aS,invoke,e1];exact h1
   ·cases hx
  ·cases hx
 | move _ | assign _ | pick _ _ _ | build _ _ | ready _ | waits _ | nilCheck _ | binOp _ _ _ _ _ | unOp _ _ _ | convert _ _ _ | sliceToArrayPointer _ _ | makeInterface _ _ | makeFunc _ _ _ | makeChan _ _ | slice _ _ _ _ _
 | fieldAddr _ _ _ | field _ _ _ | indexAddr _ _ _ | index _ _ _ | mapEntry _ _ _ | entryStore _ _ _ _ | range _ _ | next _ _ | entry _ | typeAssert _ _ _ _ | extract _ _ | go _ | defer _ | panic _ | send _ _ | recv _ _ _ | select _ _=>
  simp only [effA] at hx;cases hx
end Go.Proofs.YtpidmmfjcghmeaaGreat.Ab
namespace Go.Proofs.YtpidmmfjcghmeaaGreat.Ab
open Go.RowKit
variable {P:Program} {σ:Sg} {W:World}
def Fr:Option Nat→Fence
 | none=>Fence.wide
 | some l=>Fence.wide.inRound l
theorem Fr.round (r:Option Nat):(Fr r).round=r:=by cases r <;> rfl
theorem Fr.fn (r:Option Nat) (k:FuncId):(Fr r).fn k:=by cases r <;> trivial
theorem Fr.depth (r:Option Nat):(Fr r).depth=none:=by cases r <;> rfl
theorem Fr.calls {r:Option Nat} {n:Nat} {f:FuncId} {args:Array Value} {w:World} {R:Ending→World→Prop} (h:Calls P f args w R):CallsIn (Fr r) n P f args w R:=by
 have:=(callsIn_wide (n:=n)).2 h;cases r with
 | none=>exact this
 | some l=>exact this
theorem Fr.rnd {r:Option Nat} {n m l:Nat} {f:FuncId} {tmps:Array Value} {aj body:Code} {w:World} {R:Ending→World→Prop} (h:RoundIn Fence.wide n P l f tmps aj body w R):RoundIn (Fr r) m P l f tmps aj body w R:=by
 have hw:RoundIn Fence.wide m P l f tmps aj body w R:=⟨trivial,fun c cs _=>h.2 c cs (room_wide _)⟩;cases r with
 | none=>exact hw
 | some l'=>exact hw
theorem Does.wpIn {y:Bool} {o:Oper} {a:Act} {w:World} {R:Value→World→Prop} (h:Does P y o a w R) (hd:∀ c,o.op≠.defer c) (r:Option Nat) (n:Nat) {K:Act→World→Prop} {Q:Exit→Act→World→Prop} (hK:∀ v w',R v w'→K (a.put o.dst v) w'):o.wpIn (Fr r) n P a w K Q:=by
 refine ⟨fun f _=>Fr.fn r f, ?_⟩;rw [Fr.round,Oper.semAt_eq _ _ _ hd];cases h with
 | val v w' h1 h2=>rw [h1];exact hK v w' h2
 | skp w' h1 h2=>rw [h1];exact hK _ w' h2
 | ent k args w' h1 h2=>
  rw [h1];refine ⟨fun e=>(by rw [Fr.depth] at e;cases e),Fr.calls (h2.mono ?_)⟩;rintro e w'' ⟨v,rfl,hv⟩;exact hK v w'' hv
 | rnd l fn tmps aj body w' _ h1 h2=>
  rw [h1];refine ⟨fun e=>(by rw [Fr.depth] at e;cases e),Fr.rnd (h2.mono ?_)⟩;rintro e w'' ⟨v,rfl,hv⟩;exact hK v w'' hv
inductive DL (σ:Sg):List (Sum Nat (Nat×List AV))→List Deferred→Prop
 | nil:DL σ [] []
 | mark (r b k l ds):σ r=some (b,k)→DL σ l ds→DL σ (.inl r::l) ({ target:=.collected b,args:=#[] }::ds)
 | call (k args us cap l ds):VL σ args (us++cap)→DL σ l ds→DL σ (.inr (k,args)::l) ({ target:=.fn (.func k) cap.toArray,args:=us.toArray }::ds)
theorem DL.mono {σ σ':Sg} (h:Sg.le σ σ'):∀ {l:List (Sum Nat (Nat×List AV))} {ds:List Deferred},DL σ l ds→DL σ' l ds
 | _,_,.nil=>.nil
 | _,_,.mark r b k l ds hr hd=>.mark r b k l ds (h _ _ hr) (hd.mono h)
 | _,_,.call k args us cap l ds hv hd=>.call k args us cap l ds (hv.mono h) (hd.mono h)
structure FR (σ:Sg) (f:F) (a:Act):Prop where
 t:FT σ f.n f.t a.tmps
 d:DL σ f.df a.defers
theorem FR.mono {σ σ':Sg} (h:Sg.le σ σ') {f:F} {a:Act} (hf:FR σ f a):FR σ' f a:=⟨hf.t.mono h,hf.d.mono h⟩
theorem FR.put {f f':F} {a:Act} (hf:FR σ f a) {d:Option Tmp} {x:AV} {v:Value} (hp:putF f d x=some f') (hv:VR σ x v):FR σ f' (a.put d v):=by
 unfold putF at hp;cases d with
 | none=>simp only at hp;cases hp;exact hf
 | some d=>
  obtain ⟨n,t,df⟩:=f;simp only at hp
  split at hp
  ·rename_i hd;cases hp;exact ⟨hf.t.set hd hv,hf.d⟩
  ·cases hp
def St (W:World) (σ:Sg) (f:F) (h:H) (a:Act) (w:World):Prop:=∃ σ',Sg.le σ σ'∧HR W σ' h w∧FR σ' f a
def XQ (W:World) (σ:Sg) (e:Ex) (f:F) (h:H):Exit→Act→World→Prop
 | .normal,a,w=>e=.nrm∧St W σ f h a w
 | .exit i,a,w=>e=.ext i∧St W σ f h a w
 | .ret,a,w=>e=.ret∧St W σ f h a w
 | .goto l,a,w=>e=.gt l∧St W σ f h a w
 | _,_,_=>False
theorem St.le {σ σ':Sg} (h:Sg.le σ σ') {f:F} {hh:H} {a:Act} {w:World} (hs:St W σ' f hh a w):St W σ f hh a w:=
 let ⟨τ,h1,h2,h3⟩:=hs;⟨τ,Sg.le_trans h h1,h2,h3⟩
theorem XQ.le {σ σ':Sg} (h:Sg.le σ σ') {e:Ex} {f:F} {hh:H}:∀ x a w,XQ W σ' e f hh x a w→XQ W σ e f hh x a w
 | .normal,_,_,hq | .exit _,_,_,hq | .ret,_,_,hq | .goto _,_,_,hq=>⟨hq.1,hq.2.le h⟩
 | .panic _,_,_,hq | .outgrown,_,_,hq=>hq.elim
theorem gQ {ops:Array Oper} {f:F} {a:Act} (hf:FT σ f.n f.t a.tmps) (o:Oper):Region.wanted o (yielded ops a.tmps)=wantedA ops f o:=by
 unfold Region.wanted wantedA
 split
 ·rename_i hg;rw [hg]
 ·rename_i g want hg;rw [hg];simp only;unfold yielded;cases ht:(ops[g]?).bind (·.dst) with
  | none=>simp
  | some t=>
   have h1:=hf.2 t;simp only [Option.bind_some,F.get];rw [Array.getD_eq_getD_getElem?] at h1;cases h2:a.tmps[t]? with
   | none=>
    rw [h2] at h1;simp only [Option.getD_none] at h1;cases h3:f.t.get t with
    | none=>simp
    | some x=>
     rw [h3] at h1;simp only [Option.getD_some] at h1;cases x <;> first | (simp;done) | cases h1
   | some v=>
    rw [h2] at h1;simp only [Option.getD_some] at h1;cases h3:f.t.get t with
    | none=>
     rw [h3] at h1;simp only [Option.getD_none] at h1;cases h1;simp
    | some x=>
     rw [h3] at h1;simp only [Option.getD_some] at h1;cases h1 <;> simp
theorem zM {call:aZ} (hcall:CallOK P W call) {y:Bool} (hy:y=false→∀ l args h,call (.yl l) args h=none) {f:F} {h:H} {a:Act} {w:World} (hf:FT σ f.n f.t a.tmps) (hr:HR W σ h w) {o:Oper} {r:AV×H} (hx:aop P call f h o=some r):Does P y o a w (Rs W σ r):=by
 unfold aop at hx
 split at hx
 ·rename_i v hv;cases hx;obtain ⟨u,h1,h2⟩:=p8 hf hr hv;exact .val u w (h2 w) ⟨σ,Sg.le_refl _,h1,hr⟩
 ·exact GY hcall hy hf hr hx
theorem AQ {f f':F} {a:Act} {ro:Bool} {c:Call} (hf:FR σ f a) (hx:deferA ro f c=some f') (ty:TypeId):ro=false∧∃ d,(∀ w,(resolve a.eval c ty).run P w=.ok d w)∧FR σ f' { a with defers:=d::a.defers }:=by
 unfold deferA at hx;obtain ⟨callee,args,ats⟩:=c
 split at hx
 ·cases hx
 rename_i hro;refine ⟨by simpa using hro, ?_⟩
 split at hx
 rotate_left
 ·cases hx
 rename_i g aj hg has;simp only at hg has;subst hg
 split at hx
 rotate_left
 ·cases hx
 rename_i k first cap hgv
 cases hx;obtain ⟨us,hus,hvs⟩:=lU hf.t has;have h1:=aU hf.t hgv;cases h2:a.eval g <;> rw [h2] at h1 <;> cases h1;rename_i xs ys hxs hys;refine ⟨{ target:=.fn (.func k) ys.toArray,args:=xs.toArray++us.toArray },fun w=>?_,hf.t, ?_⟩
 ·unfold resolve;simp only [hus,h2,Deferred.ofValue];rfl
 ·have e:xs.toArray++us.toArray=(xs++us).toArray:=by simp
  rw [e];exact .call k _ (xs++us) ys _ _ ((hxs.append hvs).append hys) hf.d
theorem F5 {call:aZ} (hcall:CallOK P W call) {r:Option Nat} {n:Nat} {ops:Array Oper} {f f':F} {h h':H} {a:Act} {w:World} (hf:FR σ f a) (hr:HR W σ h w) {o:Oper} (hx:stepA P call r.isSome ops f h o=some (f',h')) {K:Act→World→Prop} {Q:Exit→Act→World→Prop}
  (hK:∀ a w,St W σ f' h' a w→K a w):
  (Region.wanted o (yielded ops a.tmps)=true→o.wpIn (Fr r) n P a w K Q)∧(Region.wanted o (yielded ops a.tmps)=false→K (a.put o.dst Go.undef) w):=by
 rw [gQ hf.t];unfold stepA at hx
 split at hx
 ·rename_i hw;refine ⟨fun _=>?_,fun e=>(by rw [hw] at e;cases e)⟩
  split at hx
  ·rename_i c hop
   split at hx
   rotate_left
   ·cases hx
   rename_i f1 hd
   split at hx
   rotate_left
   ·cases hx
   rename_i f2 hp;cases hx;obtain ⟨hro,d,h1,h2⟩:=AQ (P:=P) hf hd o.type;have hr0:r=none:=by cases r <;> simp at hro ⊢
   subst hr0;refine ⟨fun f _=>trivial, ?_⟩;have he:(o.semAt (Fr none).round a.eval).run P w=.ok (.defer d) w:=by
    rw [Fr.round,Oper.semAt_none];obtain ⟨dst,op,ty,pos,af,gd⟩:=o;simp only at hop;subst hop;simp only [execOp];rw [Sem.run_bind,h1,Result.andThen_ok];rfl
   rw [he];exact hK _ _ ⟨σ,Sg.le_refl _,hr,h2.put hp .und⟩
  ·rename_i hnd
   split at hx
   rotate_left
   ·cases hx
   rename_i v h1 hv
   split at hx
   rotate_left
   ·cases hx
   rename_i f2 hp;cases hx;refine (zM (y:=true) hcall (fun e=>by cases e) hf.t hr hv).wpIn (fun c=>hnd c) r n ?_;rintro u w' ⟨σ',h2,h3,h4⟩;exact hK _ _ ⟨σ',h2,h4,(hf.mono h2).put hp h3⟩
 ·rename_i hw;refine ⟨fun e=>(by rw [hw] at e;cases e),fun _=>?_⟩
  split at hx
  ·rename_i f1 hp;cases hx;exact hK _ _ ⟨σ,Sg.le_refl _,hr,hf.put hp .und⟩
  ·cases hx
theorem CP {call:aZ} (hcall:CallOK P W call) {r:Option Nat} {n:Nat} {ops:Array Oper} {σ0:Sg}:∀ {l:List Oper} {σ:Sg} {f f':F} {h h':H} {a:Act} {w:World},Sg.le σ0 σ→FR σ f a→HR W σ h w→opsA P call r.isSome ops l f h=some (f',h')→
  wpListIn (Fr r) n P ops (XQ W σ0 .nrm f' h') l a w
 | [],σ,f,f',h,h',a,w,hle,hf,hr,hx=>by simp only [opsA] at hx;cases hx;exact ⟨rfl,σ,hle,hr,hf⟩
 | o::l,σ,f,f',h,h',a,w,hle,hf,hr,hx=>by
  simp only [opsA] at hx
  split at hx
  ·rename_i f1 h1 hs;have hK:∀ a w,St W σ f1 h1 a w→wpListIn (Fr r) n P ops (XQ W σ0 .nrm f' h') l a w:=fun a w ⟨σ',h2,h3,h4⟩=>
    CP hcall (n:=n) (Sg.le_trans hle h2) h4 h3 hx
   have:=F5 hcall (n:=n) (Q:=XQ W σ0 .nrm f' h') hf hr hs hK;simp only [wpListIn]
   split
   ·rename_i hw;exact this.1 hw
   ·rename_i hw;exact ⟨fun k _=>Fr.fn r k,this.2 (by simpa using hw)⟩
  ·cases hx
end Go.Proofs.YtpidmmfjcghmeaaGreat.Ab
