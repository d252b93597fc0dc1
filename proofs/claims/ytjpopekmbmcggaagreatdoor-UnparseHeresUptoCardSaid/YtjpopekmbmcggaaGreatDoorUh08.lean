/- Towards unparseHeres_card. -/
import Derived.Test.YtjpopekmbmcggaaGreatDoorUh03
import Derived.Test.YtjpopekmbmcggaaGreatDoorUh04
import Derived.Deep.Upon
import Derived.Deep.Slices
import Derived.Deep.Fields
import Derived.ChangeSame
import Derived.Lib.SmallJoins
import Derived.Laws.CopyRow
import Derived.Lib.AppendZerosOnto
import Derived.Deep.RegionHeld3
import Derived.BigRegion
import Derived.Lib.Overlaps
import Derived.Laws.Externs
import Derived.StillTailTactics
import Derived.Deep.RegionWith
import Derived.Laws.Concat
set_option maxRecDepth 100000
set_option maxHeartbeats 16000000
namespace Go.Proofs.YtjpopekmbmcggaaGreatDoor
open Go.RowKit
def aY (G:Nat→Prop) (w:World):Option Addr→Nat→Pts→Prop
 | _,_,.nil=>True
 | A,i,.cons k t o kids cm rest=>∃ (b off:Nat) (Ak:Option Addr) (ck:Nat),A=some ⟨b,off,none⟩∧G b∧
   w.cell? ⟨b,off+i*5,none⟩=some (.int .i64 k)∧w.cell? ⟨b,off+i*5+1,none⟩=some (.string t)∧w.cell? ⟨b,off+i*5+2,none⟩=some (.string o)∧
   w.cell? ⟨b,off+i*5+3,none⟩=some (.slice Ak kids.len ck)∧w.cell? ⟨b,off+i*5+4,none⟩=some cm.val∧kids.len≤ck∧aY G w Ak 0 kids∧aY G w A (i+1) rest
theorem aY.keep {G:Nat→Prop} {w w':World} (hk:∀ p:Addr,G p.block→w'.cell? p=w.cell? p):∀ {l:Pts} {A:Option Addr} {i:Nat},aY G w A i l→aY G w' A i l
 | .nil,_,_,_=>trivial
 | .cons k t o kids cm rest,A,i,h=>by
  obtain ⟨b,off,Ak,ck,hA,hG,c0,c1,c2,c3,c4,hl,h1,h2⟩:=h;exact ⟨b,off,Ak,ck,hA,hG,(hk _ hG).trans c0,(hk _ hG).trans c1,(hk _ hG).trans c2,(hk _ hG).trans c3,(hk _ hG).trans c4,hl,h1.keep hk,h2.keep hk⟩
theorem aY.more {G G':Nat→Prop} {w:World} (hG:∀ k,G k→G' k):∀ {l:Pts} {A:Option Addr} {i:Nat},aY G w A i l→aY G' w A i l
 | .nil,_,_,_=>trivial
 | .cons k t o kids cm rest,A,i,h=>by
  obtain ⟨b,off,Ak,ck,hA,hg,c0,c1,c2,c3,c4,hl,h1,h2⟩:=h;exact ⟨b,off,Ak,ck,hA,hG _ hg,c0,c1,c2,c3,c4,hl,h1.more hG,h2.more hG⟩
theorem aY.at_ {G:Nat→Prop} {w:World}:∀ {l:Pts} {A:Option Addr} {i:Nat} (j:Nat),aY G w A i l→aY G w A (i+j) (l.drop j)
 | l,A,i,0,h=>by rw [Pts.drop_zero];exact h
 | .nil,_,_,_+1,_=>trivial
 | .cons k t o kids cm rest,A,i,j+1,h=>by
  obtain ⟨b,off,Ak,ck,hA,hG,c0,c1,c2,c3,c4,hl,h1,h2⟩:=h;have:=h2.at_ j;rw [Pts.drop];rw [show i+(j+1)=i+1+j by omega];exact this
theorem aY.drewN {G:Nat→Prop} {w:World} {l:Pts} {A:Option Addr} {i:Nat} (h:aY G w A i l) (n:Nat):aY G (w.drewN n) A i l:=
 h.keep fun p _=>by simp
def cF (G:Nat→Prop) (w:World) (xs:List Value):Pts→Prop
 | .nil=>xs=[]
 | .cons k t o kids cm rest=>∃ (Ak:Option Addr) (ck:Nat) (r:List Value),xs=.int .i64 k::.string t::.string o::.slice Ak kids.len ck::cm.val::r∧kids.len≤ck∧aY G w Ak 0 kids∧cF G w r rest
theorem cF.len {G:Nat→Prop} {w:World}:∀ {l:Pts} {xs:List Value},cF G w xs l→xs.length=l.len*5
 | .nil,xs,h=>by rw [show xs=[] from h];rfl
 | .cons k t o kids cm rest,xs,h=>by
  obtain ⟨Ak,ck,r,rfl,_,_,hr⟩:=h;have:=cF.len hr;simp only [gG,Pts.len];omega
theorem cF.keep {G:Nat→Prop} {w w':World} (hk:∀ p:Addr,G p.block→w'.cell? p=w.cell? p):∀ {l:Pts} {xs:List Value},cF G w xs l→cF G w' xs l
 | .nil,_,h=>h
 | .cons k t o kids cm rest,xs,h=>by
  obtain ⟨Ak,ck,r,rfl,hl,hp,hr⟩:=h;exact ⟨Ak,ck,r,rfl,hl,hp.keep hk,hr.keep hk⟩
theorem cF.more {G G':Nat→Prop} {w:World} (hG:∀ k,G k→G' k):∀ {l:Pts} {xs:List Value},cF G w xs l→cF G' w xs l
 | .nil,_,h=>h
 | .cons k t o kids cm rest,xs,h=>by
  obtain ⟨Ak,ck,r,rfl,hl,hp,hr⟩:=h;exact ⟨Ak,ck,r,rfl,hl,hp.more hG,hr.more hG⟩
theorem cF.app {G:Nat→Prop} {w:World} {l2:Pts} {ys:List Value} (hy:cF G w ys l2):∀ {l:Pts} {xs:List Value},cF G w xs l→cF G w (xs++ys) (l.app l2)
 | .nil,xs,h=>by rw [show xs=[] from h];exact hy
 | .cons k t o kids cm rest,xs,h=>by
  obtain ⟨Ak,ck,r,rfl,hl,hp,hr⟩:=h;exact ⟨Ak,ck,r++ys,rfl,hl,hp,cF.app hy hr⟩
theorem cF.one {G:Nat→Prop} {w:World}:∀ {l:Pts} {xs:List Value},cF G w xs l→∀ u∈xs,u.oneCell'=true
 | .nil,xs,h=>by rw [show xs=[] from h];intro u hu;cases hu
 | .cons k t o kids cm rest,xs,h=>by
  obtain ⟨Ak,ck,r,rfl,hl,hp,hr⟩:=h;intro u hu;simp only [List.mem_cons] at hu;rcases hu with rfl | rfl | rfl | rfl | rfl | hu
  ·rfl
  ·rfl
  ·rfl
  ·rfl
  ·rfl
  ·exact cF.one hr u hu
theorem aY.row {G:Nat→Prop} {w:World} {b off:Nat}:∀ {l:Pts} {i:Nat},aY G w (some ⟨b,off,none⟩) i l→∃ xs,cF G w xs l∧∀ j u,xs[j]? = some u→w.cell? ⟨b,off+i*5+j,none⟩=some u
 | .nil,i,_=>⟨[],rfl,fun _ _ h=>by simp at h⟩
 | .cons k t o kids cm rest,i,h=>by
  obtain ⟨b',off',Ak,ck,hA,hG,c0,c1,c2,c3,c4,hl,h1,h2⟩:=h
  injection hA with hA
  injection hA with e1 e2
  subst e1 e2;obtain ⟨xs,hr,hc⟩:=h2.row;refine ⟨.int .i64 k::.string t::.string o::.slice Ak kids.len ck::cm.val::xs,⟨Ak,ck,xs,rfl,hl,h1,hr⟩,fun j u hj=>?_⟩
  match j,hj with
  | 0,hj=>simp only [List.getElem?_cons_zero,Option.some.injEq] at hj;subst hj;exact c0
  | 1,hj=>simp only [List.getElem?_cons_succ,List.getElem?_cons_zero,Option.some.injEq] at hj;subst hj;exact c1
  | 2,hj=>simp only [List.getElem?_cons_succ,List.getElem?_cons_zero,Option.some.injEq] at hj;subst hj;exact c2
  | 3,hj=>simp only [List.getElem?_cons_succ,List.getElem?_cons_zero,Option.some.injEq] at hj;subst hj;exact c3
  | 4,hj=>simp only [List.getElem?_cons_succ,List.getElem?_cons_zero,Option.some.injEq] at hj;subst hj;exact c4
  | j+5,hj=>
   simp only [List.getElem?_cons_succ] at hj;have:=hc j u hj;rw [show off+i*5+(j+5)=off+(i+1)*5+j by omega];exact this
theorem cF.at_ {G:Nat→Prop} {w:World} {b off:Nat} (hb:G b):∀ {l:Pts} {xs:List Value} {i:Nat},cF G w xs l→(∀ j u,xs[j]? = some u→w.cell? ⟨b,off+i*5+j,none⟩=some u)→aY G w (some ⟨b,off,none⟩) i l
 | .nil,_,_,_,_=>trivial
 | .cons k t o kids cm rest,xs,i,h,hc=>by
  obtain ⟨Ak,ck,r,rfl,hl,hp,hr⟩:=h;refine ⟨b,off,Ak,ck,rfl,hb,hc 0 _ rfl,hc 1 _ rfl,hc 2 _ rfl,hc 3 _ rfl,hc 4 _ rfl,hl,hp,cF.at_ hb hr fun j u hj=>?_⟩;have:=hc (j+5) u (by simpa using hj);rw [show off+i*5+(j+5)=off+(i+1)*5+j by omega] at this;exact this
end Go.Proofs.YtjpopekmbmcggaaGreatDoor
namespace Go.Proofs.YtjpopekmbmcggaaGreatDoor
open Go.RowKit
theorem kW:(Tryz.prog.info? 50).map (fun i=>(i.zero,i.size,i.bytes))=some (some (.agg #[.int .i64 0,.string ⟨#[]⟩,.string ⟨#[]⟩,.slice none 0 0,.slice none 0 0]),5,88):=by kernel_rfl
theorem oR (b off n:Nat):(⟨b,off,none⟩:Addr).add n=⟨b,off+n,none⟩:=by
 unfold Addr.add
 split
 ·rename_i h;subst h;rfl
 ·rfl
def cK (G:Nat→Prop) (B:Nat) (w:World) (v:Value) (l:Pts):Prop:=∃ xs,w.ownsRow B 50 5 v l.len xs∧cF G w xs l
section
variable {G:Nat→Prop} {B:Nat} {w w':World} {v:Value} {l l2:Pts}
theorem cK.nothing:cK G B w (.slice none 0 0) .nil:=⟨[],⟨rfl,.inl ⟨rfl,rfl⟩⟩,rfl⟩
theorem cK.at_ (h:cK G B w v l):∃ A c,v=.slice A l.len c∧l.len≤c∧c≤maxLen∧aY (fun k=>G k∨v.ownBlock=some k) w A 0 l:=by
 obtain ⟨xs,⟨hxl,hv⟩,hr⟩:=h;rcases hv with ⟨rfl,hn⟩ | ⟨g,cap,cur,rfl,hB,hh,hc,hm,hcs,htake⟩
 ·refine ⟨none,0,by rw [hn],by omega,Nat.zero_le _, ?_⟩;cases l with
  | nil=>trivial
  | cons=>simp [Pts.len] at hn
 ·refine ⟨some ⟨g,0,none⟩,cap,rfl,hc,hm,(hr.more fun k hk=>.inl hk).at_ (.inr rfl) fun j u hj=>?_⟩;rw [← htake] at hj;have hlt:j<l.len*5:=by
   have:=(List.getElem?_eq_some_iff.1 hj).1;rw [List.length_take] at this;omega
  rw [List.getElem?_take_of_lt hlt] at hj;simp only [World.cell?,hh]
  simpa using hj
theorem cK.lt (h:cK G B w v l) {g:Nat} (hg:v.ownBlock=some g):B≤g∧g<w.heap.size:=by
 obtain ⟨xs,⟨hxl,hv⟩,hr⟩:=h;rcases hv with ⟨rfl,_⟩ | ⟨g',cap,cur,rfl,hB,hh,_⟩
 ·simp [Value.ownBlock] at hg
 ·simp [Value.ownBlock] at hg;subst hg;exact ⟨hB,(Array.getElem?_eq_some_iff.1 hh).1⟩
theorem cK.keep (h:cK G B w v l) (hG:∀ p:Addr,G p.block→w'.cell? p=w.cell? p) (hv:∀ g,v.ownBlock=some g→w'.heap[g]? = w.heap[g]?):cK G B w' v l:=by
 obtain ⟨xs,⟨hxl,ho⟩,hr⟩:=h;refine ⟨xs,⟨hxl, ?_⟩,hr.keep hG⟩;rcases ho with ho | ⟨g,cap,cur,rfl,hB,hh,hrest⟩
 ·exact .inl ho
 ·exact .inr ⟨g,cap,cur,rfl,hB,(hv g rfl).trans hh,hrest⟩
theorem cK.below (h:cK G B w v l) (hG:∀ k,G k→k<w.heap.size) (hb:Below w.heap.size w w'):cK G B w' v l:=
 h.keep (fun _ hp=>World.cell?_of_block (hb.block _ (hG _ hp))) fun _ hg=>hb.block _ (h.lt hg).2
theorem cK.append {A:Option Addr} {c:Nat} {G2:Nat→Prop} (ty:TypeId) (h:cK G B w v l) (hp:aY G2 w A 0 l2) (hG2:∀ k,G2 k→G k) (hG:∀ k,G k→k<B) (hlen:l.len+l2.len≤1099511627776) (hB:B≤w.heap.size) (hc:l2.len≤c):
  ∃ v' w',(Builtin.append_ #[29,29] ty #[v,.slice A l2.len c]).run Tryz.prog w=.ok v' w'∧cK G B w' v' (l.app l2)∧w.grownBy w' v.ownBlock∧(v'.ownBlock=v.ownBlock∨v'.ownBlock=some w.heap.size):=by
 obtain ⟨i0,hi,hz0,hz1,hz2⟩:=info_parts kW;have h0:=h;obtain ⟨xs,hown,hr⟩:=h;by_cases hz:l2.len=0
 ·obtain rfl:l2=.nil:=by
   cases l2 with
   | nil=>rfl
   | cons=>simp [Pts.len] at hz
  obtain ⟨A1,c1,rfl,hl1,hm1,_⟩:=h0.at_;refine ⟨_,w,run_append_nothing w _ _ ty _ i0 Tryz.underlying29 hi A1 l.len c1 hl1 _ ?_,by rw [Pts.app_nil];exact ⟨xs,hown,hr⟩,⟨rfl,rfl,rfl,Nat.le_refl _,fun _ _ _=>rfl⟩,.inl rfl⟩;cases A with
  | none=>exact Src.ofNil w Tryz.underlying29 c
  | some a=>exact Src.ofSlice w Tryz.underlying29 a 0 c [] (by simp) (fun j u hj=>by simp at hj) (fun u hu=>by cases hu)
 ·obtain ⟨b,off,rfl⟩:∃ b off,A=some ⟨b,off,none⟩:=by
   cases l2 with
   | nil=>exact absurd rfl hz
   | cons=>obtain ⟨b,off,_,_,hA,_⟩:=hp;exact ⟨b,off,hA⟩
  obtain ⟨ys,hys,hyc⟩:=hp.row;obtain ⟨v',w',hrun,hown',hgr,hnil,hat⟩:=run_append_own_at (P:=Tryz.prog) (w:=w) B _ ty _ i0 _ 5 88 Tryz.underlying29 hi hz0 hz1 hz2 rfl (by omega) v l.len xs hown ⟨b,off,none⟩ l2.len c ys hys.len
   (fun j u hj=>by have:=hyc j u hj;rw [oR];simpa using this) hys.one (by unfold maxLen;omega) (by omega) hB
  refine ⟨v',w',hrun, ?_,hgr,hat⟩;have hkeep:∀ p:Addr,G p.block→w'.cell? p=w.cell? p:=fun p hp=>by
   have hlt:=hG _ hp;refine World.cell?_of_block (hgr.block _ (by omega) fun e=>?_);have:=h0.lt e.symm;omega
  refine ⟨xs++ys, ?_,((hys.more hG2).app hr).keep hkeep⟩;rw [Pts.len_app];exact hown'
end
end Go.Proofs.YtjpopekmbmcggaaGreatDoor
namespace Go.Proofs.YtjpopekmbmcggaaGreatDoor
open Go.RowKit Go.ChangeShapes Go.WideShapes Go.Deep
section
variable {H:Type} {enc:TypeId×Value→H} {P:Program} {w:World} {base:Nat} {spare:Nat→Bool} {held:Bool}
theorem open_structs {t e:TypeId} {fs:Array Field} {fuel:Nat} {cs:List Value} {x:DataW H×List MemPlace} (ht:P.underlying t=some (.slice e)) (he:P.underlying e=some (.struct fs))
  (hone:oneCellFields P fs=true) (hC:P.cellsOf e=fs.size) (h:DataW.trod enc P w base spare held fuel t cs=some x):
  (cs=[.slice none 0 0]∧x.1=.nil)∨
  ∃ (a:Addr) (len cap:Nat) (D:Nat→DataW H) (sp:List (DataW H)),cs=[.slice (some a) len cap]∧len≤cap∧cap≤maxLen∧x.1=.slice ((List.range len).map D) sp∧
   ∀ i,i<len→∃ (ys:List (DataW H×List MemPlace)) (n:Nat),D i=.agg (ys.map (·.1))∧ys.length=fs.size∧
    ∀ (j:Nat) (f:Field),fs[j]? = some f→∃ (v:Value) (y:DataW H×List MemPlace),w.cell? (a.add (i*fs.size+j))=some v∧ys[j]? = some y∧DataW.trod enc P w base spare held n f.type [v]=some y:=by
 rcases open_slice ht h with h0 | ⟨a,len,cap,m,n,D,Pl,hcs,hb,hl,hm,hmm,hx,hi⟩
 ·exact .inl ⟨h0.1,by rw [h0.2]⟩
 ·refine .inr ⟨a,len,cap,D,_,hcs,hl,hm,by rw [hx],fun i hil=>?_⟩;have him:i<m:=by rw [hmm];split <;> omega
  obtain ⟨cs', hc, ht'⟩ := hi i him; rw [hC] at hc; obtain ⟨ys, n', hn', hy, hlen, hyl, hf⟩ := DataW.trod_struct he ht'; obtain ⟨_, hcl, hat⟩ := World.cells?_some hc; simp only [Prod.mk.injEq] at hy; refine ⟨ys, n', hy.1, hyl, fun j f hj => ?_⟩; obtain ⟨ho, hk⟩ := hone_of hone j f hj; have hjl : j < fs.size := (Array.getElem?_eq_some_iff.1 hj).1; have hcell := hat j hjl; have hv : cs'[j]? = some (cs'[j]'(by omega)) := List.getElem?_eq_getElem (by omega); have h1 := hf j f hj; rw [ho, hk] at h1; have hone' : (cs'.drop j).take 1 = [cs'[j]'(by omega)] := by
   rw [List.drop_eq_getElem_cons (by omega)];rfl
  rw [hone'] at h1; have hys : ys[j]? = some (ys[j]'(by omega)) := List.getElem?_eq_getElem (by omega); refine ⟨_, _, ?_, hys, h1.trans hys⟩; rw [← Go.Deep.add_add, hcell, hv]
end
section
variable {H:Type}
theorem dC (d:DataW H):1≤Rows.uptoBulk d:=by
 cases d with
 | lit l=>cases l <;> simp [Rows.uptoBulk]
 | nil=>simp [Rows.uptoBulk]
 | ptr d=>simp [Rows.uptoBulk]
 | slice elems spare=>simp [Rows.uptoBulk]
 | agg parts=>simp [Rows.uptoBulk]
 | iface t d=>simp [Rows.uptoBulk]
 | map entries=>simp [Rows.uptoBulk]
 | held h=>simp [Rows.uptoBulk]
end
def Old (w:World) (k:Nat):Prop:=k<w.heap.size
theorem lZ {w:World} {a:Addr} {v:Value} (h:w.cell? a=some v):a.spot=none∧a.block<w.heap.size:=by
 unfold World.cell? at h
 split at h
 ·rename_i c _ _ hc;refine ⟨?_,(Array.getElem?_eq_some_iff.1 hc).1⟩
  split at h
  ·exact absurd h (by simp)
  ·rename_i hs;simpa using hs
 ·exact absurd h (by simp)
theorem mG {H:Type} {d:DataW H}:∀ {l:List (DataW H)},d∈l→Rows.uptoBulk d≤Rows.uptoBulkAll l
 | [],h=>by cases h
 | y::r,h=>by
  simp only [Rows.uptoBulkAll];rcases List.mem_cons.1 h with e | e
  ·subst e;omega
  ·have:=mG e;omega
theorem mC (b off n:Nat):(⟨b,off,none⟩:Addr).add n=⟨b,off+n,none⟩:=by
 unfold Addr.add
 split
 ·rename_i h;subst h;rfl
 ·rfl
section
variable {H:Type} {enc:TypeId×Value→H} {w:World} {base:Nat} {spare:Nat→Bool} {held:Bool}
end
end Go.Proofs.YtjpopekmbmcggaaGreatDoor
namespace Go.Proofs.YtjpopekmbmcggaaGreatDoor
open Go.RowKit
def CpA (P:Program) (ts:Array TypeId) (ty:TypeId) (vs:Array Value) (w:World):Result Value:=(Builtin.copy_ ts ty vs).run P w
theorem tT {P:Program} {d:Option Tmp} {s x:Operand} {t t' ty:TypeId} {pos:String} {af:Array Edge} {g:Option (Nat×Bool)} {a:Act} {w:World} {K:Act→World→Prop} {Q:Exit→Act→World→Prop}:
  Oper.wp P ⟨d,.call ⟨.builtin .copy,#[s,x],#[t,t']⟩,ty,pos,af,g⟩ a w K Q=
   Oper.upon P ⟨d,.call ⟨.builtin .copy,#[s,x],#[t,t']⟩,ty,pos,af,g⟩ a K Q ((CpA P #[t,t'] ty #[a.eval s,a.eval x] w).andThen fun v w'=>.ok (.value v) w'):=by
 unfold Oper.wp execOp CpA;simp only [resolve,invoke,builtin,Sem.run_bind,Sem.run_pure,Result.andThen_ok,List.map_toArray,List.map_cons,List.map_nil]
theorem fA {P:Program} (w:World) (dT sT ty elem:TypeId) (size g o dLen dCap:Nat) (a:Addr) (sLen sCap:Nat) (cur:Array Value) (t:TypeId) (cs:List Value)
  (hu:P.underlying dT=some (.slice elem)) (hs:(P.info? elem).map (·.size)=some size)
  (hg:w.heap[g]? = some (.cells cur t (0,0))) (hn:cs.length=Nat.min sLen dLen*size)
  (hsrc:∀ j v,cs[j]? = some v→w.cell? (a.add j)=some v) (hfit:o+cs.length≤cur.size) (h1:∀ v∈cs,v.oneCell'=true):
  CpA P #[dT,sT] ty #[.slice (some ⟨g,o,none⟩) dLen dCap,.slice (some a) sLen sCap] w=
   .ok (goInt (Nat.min sLen dLen)) (w.setRow g (cur.toList.take o++cs++cur.toList.drop (o+cs.length)).toArray):=by
 have hl:=run_loadCells_list (P:=P) w a cs hsrc;have hst:=run_storeCells_at P g o t cs 0 cur w hg (by simpa using hfit) h1;unfold CpA;cases hq:P.info? elem with
 | none=>simp [hq] at hs
 | some i=>
  have hi:i.size=size:=by simpa [hq] using hs
  simp [Builtin.copy_,run_underlying hu,Builtin.lenOf,Builtin.firstCells,sizeOf,typeInfo,hq,hi,← hn,hl,hst]
theorem heap_alloc (w:World) (o:Obj):(w.alloc o).heap[w.heap.size]? = some o:=Array.getElem?_push_size
theorem cK.start {G:Nat→Prop} {B:Nat} {w:World} {g:Nat} (hB:B≤g) (hh:w.heap[g]? = some (.cells #[] 50 (0,0))):cK G B w (.slice (some ⟨g,0,none⟩) 0 0) .nil:=
 ⟨[],⟨rfl,.inr ⟨g,0,#[],rfl,hB,hh,Nat.le_refl _,Nat.zero_le _,rfl,rfl⟩⟩,rfl⟩
attribute [local go_sem ↓] cN
theorem tX (l:Pts) (A:Option Addr) (c:Nat) (G:Nat→Prop) (w:World) (hG:∀ k,G k→k<w.heap.size) (hp:aY G w A 0 l) (hc:l.len≤c) (hwt:l.len≤1099511627776) (hn:A=none→l.len=0∧c=0):
  Calls Tryz.prog 212 #[.slice A l.len c] w fun e w'=>∃ v,e=.returned v∧cK G w.heap.size w' v l∧Below w.heap.size w w':=by
 have q31:∀ (w:World) (a:Option Addr) (n c:Nat),(binOp .eql 29 (.slice a n c) (.slice none 0 0)).run Tryz.prog w=.ok (.bool a.isNone) w:=fun w a n c=>Lib.run_eql_slice_nil w _ _ a n c 0 0 Tryz.underlying29;cases A with
 | none=>
  obtain ⟨h0,rfl⟩:=hn rfl;have hl:l=.nil:=by
   cases l with
   | nil=>rfl
   | cons=>simp [Pts.len] at h0
  subst hl;rw [show (Pts.nil).len=0 from rfl];go_enter Tryz.func212,Tryz.ntmps212;go_wp2;go_ret;exact ⟨_,rfl,cK.nothing,Below.refl _ _⟩
 | some a=>
  have hb:Below w.heap.size w (w.alloc (.cells #[] 50)):=(Below.refl _ _).alloc (Nat.le_refl _) _;have h0:=cK.start (G:=G) (B:=w.heap.size) (Nat.le_refl _) (heap_alloc w (.cells #[] 50));obtain ⟨v',w',hr,h2,h3,_⟩:=h0.append 29 (hp.keep fun p hp'=>World.cell?_of_block (hb.block _ (hG _ hp'))) (fun _ h=>h) hG (by show 0+l.len≤_;omega) hb.size hc;have hr':=WrA.of hr;have H2:=Ha h2;have HB:=Ha (hb.grown h3 hb.size (fun k hk=>(h0.lt hk).1));clear h2 h3 h0 hr hn;go_enter Tryz.func212,Tryz.ntmps212;go_wp2_with fail;go_ret;exact ⟨v',rfl,H2.out,HB.out⟩
end Go.Proofs.YtjpopekmbmcggaaGreatDoor
namespace Go.Proofs.YtjpopekmbmcggaaGreatDoor
open Go.RowKit
attribute [local go_sem ↓] cN
attribute [local go_sem ↓] tT
def litPs (t:ByteArray):List Value:=[.int .i64 1,.string t,.string ⟨#[]⟩,.slice none 0 0,.slice none 0 0]
def Pts.lit (t:ByteArray) (l:Pts):Pts:=.cons 1 t ⟨#[]⟩ .nil ⟨none,0,0⟩ l
theorem i5 (t:ByteArray):∀ u∈litPs t,u.oneCell'=true:=by
 intro u hu;simp only [litPs,List.mem_cons,List.not_mem_nil,or_false] at hu;rcases hu with rfl | rfl | rfl | rfl | rfl <;> rfl
theorem i6 (G:Nat→Prop) (w:World) (t:ByteArray) {xs:List Value} {l:Pts} (h:cF G w xs l):cF G w (litPs t++xs) (Pts.lit t l):=
 ⟨none,0,xs,rfl,Nat.le_refl _,trivial,h⟩
theorem jX {w:World} {vb:Nat} {t:ByteArray} (hv:w.heap[vb]? = some (.cells (litPs t).toArray 50 (0,0))) (j:Nat) (u:Value) (hj:(litPs t)[j]? = some u):w.cell? ((⟨vb,0,none⟩:Addr).add j)=some u:=by
 rw [oR,Nat.zero_add];simp only [World.cell?,hv]
 simpa using hj
theorem zO {w:World} {g:Nat} {cur:Array Value} {xs:List Value} {k:Nat} (hh:w.heap[g]? = some (.cells cur 50 (0,0))) (ht:cur.toList.take k=xs) (j:Nat) (u:Value) (hj:xs[j]? = some u):w.cell? ((⟨g,0,none⟩:Addr).add j)=some u:=by
 rw [oR,Nat.zero_add];rw [← ht] at hj;have hlt:=(List.getElem?_eq_some_iff.1 hj).1;rw [List.length_take] at hlt;rw [List.getElem?_take_of_lt (by omega)] at hj;simp only [World.cell?,hh]
 simpa using hj
theorem pT (L cs:List Value) (o:Nat) (h:o+cs.length≤L.length):(L.take o++cs++L.drop (o+cs.length)).length=L.length:=by
 simp only [gI,List.length_take,List.length_drop];omega
theorem rG (L cs:List Value) (o:Nat) (h:o+cs.length≤L.length):(L.take o++cs++L.drop (o+cs.length)).take (o+cs.length)=L.take o++cs:=by
 have:o+cs.length=(L.take o++cs).length:=by rw [gI,List.length_take];omega
 rw [this];exact List.take_left' rfl
theorem uF (l:Pts) (t:ByteArray) (v:Value) (vb B:Nat) (G:Nat→Prop) (w:World) (h:cK G B w v l) (hv:w.heap[vb]? = some (.cells (litPs t).toArray 50 (0,0))) (hne:v.ownBlock≠some vb) (hG:∀ k,G k→k<B) (hB:B≤w.heap.size) (hlen:l.len≤1073741824):
  Calls Tryz.prog 213 #[v,.int .i64 0,.slice (some ⟨vb,0,none⟩) 1 1] w fun e w'=>∃ v',e=.returned v'∧cK G B w' v' (Pts.lit t l)∧Below B w w':=by
 obtain ⟨i0,hi,hz0,hz1,hz2⟩:=info_parts kW;have hsz:(Tryz.prog.info? 50).map (·.size)=some 5:=by rw [hi];simp [hz1]
 obtain ⟨xs,hown,hr⟩:=h;by_cases hn:l.len=0
 ·have hl:l=.nil:=by
   cases l with
   | nil=>rfl
   | cons=>simp [Pts.len] at hn
  subst hl;have hx:xs=[]:=hr;subst hx;replace hown:w.ownsRow B 50 5 v 0 []:=hown;obtain ⟨v',w',hrun,hown',hgr,hnil,hat⟩:=run_append_own_at (P:=Tryz.prog) (w:=w) B 29 29 _ i0 _ 5 88 Tryz.underlying29 hi hz0 hz1 hz2 rfl (by omega) v 0 [] hown ⟨vb,0,none⟩ 1 1 (litPs t) rfl (jX hv) (i5 t) (by unfold maxLen;omega) (by omega) hB;have hr':=WrA.of hrun;have HP:=Ha (show cK G B w' v' (Pts.lit t .nil) from ⟨litPs t,hown',i6 G w' t (l:=.nil) (xs:=[]) rfl⟩);have HB:=Ha ((Below.refl B w).grown hgr hB (fun k hk=>by
   rcases hown.2 with ⟨rfl,_⟩ | ⟨g,cap,cur,rfl,hb,_⟩
   ·simp [Value.ownBlock] at hk
   ·simp [Value.ownBlock] at hk;omega))
  clear hrun hown' hgr hnil hat;rcases hown.2 with ⟨rfl,_⟩ | ⟨g,cap,cur,rfl,_,_,_,hm,_⟩
  ·clear hown;go_enter Tryz.func213,Tryz.ntmps213;go_wp2_with fail;go_ret;exact ⟨v',rfl,HP.out,HB.out⟩
  ·clear hown;have hm':(cap:Int)≤9223372036854775807:=by unfold maxLen at hm;omega
   have hc0:(0:Int)≤(cap:Int):=by omega
   by_cases hcap:cap=0
   ·subst hcap;go_enter Tryz.func213,Tryz.ntmps213;go_wp2_with fail;go_ret;exact ⟨v',rfl,HP.out,HB.out⟩
   ·skip
    go_enter Tryz.func213,Tryz.ntmps213;go_wp2_with fail;go_ret;exact ⟨v',rfl,HP.out,HB.out⟩
 ·rcases hown.2 with ⟨_,h0⟩ | ⟨g,cap,cur,rfl,hBg,hh,hc,hm,hcs,htk⟩
  ·exact absurd h0 hn
  have hgv:g≠vb:=fun e=>hne (by rw [e];rfl);have hxl:xs.length=l.len*5:=hown.1;have hnz:((0:Int)==(l.len:Int))=false:=by rw [gJ];omega
  have hglt:g<w.heap.size:=(Array.getElem?_eq_some_iff.1 hh).1;have hvlt:vb<w.heap.size:=(Array.getElem?_eq_some_iff.1 hv).1;have hwr:IntKind.i64.wrap ((l.len:Int)+1)=(l.len:Int)+1:=by rw [IntKind.wrap_i64];omega
  have hto:((l.len:Int)+1).toNat=l.len+1:=by omega
  have hs0:(0:Int)≤(l.len:Int)+1:=by omega
  have hlc:(l.len:Int)≤(cap:Int):=by omega
  by_cases hroom:cap<l.len+1
  ·have hgi:(cap:Int)<(l.len:Int)+1:=by omega
   -- a new row
   have hold:(Builtin.firstCells i0.size 0 (.slice (some ⟨g,0,none⟩) 0 cap)).run Tryz.prog w.drew=.ok ([]:List Value).toArray w.drew:=run_firstCells_some w.drew i0.size 0 ⟨g,0,none⟩ 0 cap [] (by simp) (fun j u hj=>by simp at hj);have hrz:=Lib.run_append_grow_zeros (P:=Tryz.prog) w 29 3 29 50 i0 _ .i64 .i64 Tryz.underlying29 Tryz.underlying3 hi hz0 (some ⟨g,0,none⟩) 0 cap [] hold (l.len+1) (by omega) (by omega) (by omega) (by omega) (by rw [hz2];omega) (by rw [hz2];exact growslice_fits (by omega) (by omega));have hge:=grownCap_ge w (0+(l.len+1)) cap 50;have hle:=grownCap_le_maxLen w (0+(l.len+1)) cap 50 (by unfold maxLen;omega);rw [Nat.zero_add] at hrz hge hle;have hrz':=WrA.of hrz;generalize hNC:grownCap w (l.len+1) cap 50=nc at hrz' hge hle;generalize hZ:(([]:List Value).toArray++Builtin.zeroCells (Value.agg #[.int .i64 0,.string ⟨#[]⟩,.string ⟨#[]⟩,.slice none 0 0,.slice none 0 0]).cells (l.len+1)++Builtin.zeroCells (Value.agg #[.int .i64 0,.string ⟨#[]⟩,.string ⟨#[]⟩,.slice none 0 0,.slice none 0 0]).cells (nc-(l.len+1)))=Z at hrz';have hZs:Z.size=nc*5:=by
    rw [← hZ];simp [Builtin.zeroCells,Value.cells];omega
   have hgw:g≠w.heap.size:=by omega
   have hvw:vb≠w.heap.size:=by omega
   clear hNC hold hrz
   -- the world behind the new row
   obtain ⟨W1,hW1⟩:∃ W1,W1=w.drew.alloc (.cells Z 50):=⟨_,rfl⟩;rw [← hW1] at hrz';have hb1:Below w.heap.size w W1:=by rw [hW1];exact (Below.refl _ _).drew.alloc (by simp) _
   have hz1':W1.heap[w.heap.size]? = some (.cells Z 50 (0,0)):=by rw [hW1];exact heap_alloc w.drew _
   have hv1:=(hb1.block vb hvlt).trans hv;have hg1:=(hb1.block g hglt).trans hh;have hcp1:=fA (P:=Tryz.prog) W1 29 29 3 50 5 w.heap.size 0 (l.len+1) nc ⟨vb,0,none⟩ 1 1 Z 50 (litPs t) Tryz.underlying29 hsz hz1' (by rw [show Nat.min 1 (l.len+1)=1 by simp];rfl) (jX hv1) (by rw [hZs];show 0+5≤_;omega) (i5 t);rw [show Nat.min 1 (l.len+1)=1 by simp] at hcp1;have hZl:Z.toList.length=nc*5:=by rw [Array.length_toList];exact hZs
   have hsl1:=pT Z.toList (litPs t) 0 (by rw [hZl];show 0+5≤_;omega);have hst1:=rG Z.toList (litPs t) 0 (by rw [hZl];show 0+5≤_;omega);rw [hZl] at hsl1
   revert hcp1 hsl1 hst1
   generalize Z.toList.take 0++litPs t++Z.toList.drop (0+(litPs t).length)=R1;intro hcp1 hsl1 hst1;obtain ⟨W2,hW2⟩:∃ W2,W2=W1.setRow w.heap.size R1.toArray:=⟨_,rfl⟩;rw [← hW2] at hcp1;have hz2':W2.heap[w.heap.size]? = some (.cells R1.toArray 50 (0,0)):=by rw [hW2];exact setRow_heap _ _ _ _ _ _ hz1'
   have hg2:W2.heap[g]? = some (.cells cur 50 (0,0)):=by rw [hW2,setRow_other _ _ _ _ hgw];exact hg1
   have hcp2:=fA (P:=Tryz.prog) W2.drew 29 29 3 50 5 w.heap.size 5 l.len (nc-1) ⟨g,0,none⟩ l.len cap R1.toArray 50 xs Tryz.underlying29 hsz hz2' (by rw [show Nat.min l.len l.len=l.len from Nat.min_self _];exact hxl) (zO (w:=W2.drew) hg2 htk) (by rw [hxl];show 5+l.len*5≤R1.length;omega) (fun u hu=>cF.one hr u hu);rw [show Nat.min l.len l.len=l.len from Nat.min_self _,show R1.toArray.toList=R1 from rfl] at hcp2;have hsl2:=pT R1 xs 5 (by rw [hxl];omega);have hst2:=rG R1 xs 5 (by rw [hxl];omega);rw [show R1.take 5=litPs t from hst1] at hcp2 hsl2 hst2
   revert hcp2 hsl2 hst2
   generalize litPs t++xs++R1.drop (5+xs.length)=R2;intro hcp2 hsl2 hst2;have hb2:Below w.heap.size w W2:=by
    rw [hW2];exact ⟨hb1.os,hb1.tape,hb1.output,by simpa using hb1.size,fun k hk=>(setRow_other _ _ _ _ (by omega)).trans (hb1.block k hk)⟩
   have hb3:Below w.heap.size w (W2.drew.setRow w.heap.size R2.toArray):=⟨hb2.os,hb2.tape,hb2.output,by simpa using hb2.size,fun k hk=>(setRow_other _ _ _ _ (by omega)).trans (hb2.block k hk)⟩;have hP:cK G B (W2.drew.setRow w.heap.size R2.toArray) (.slice (some ⟨w.heap.size,0,none⟩) (l.len+1) nc) (Pts.lit t l):=by
    refine ⟨litPs t++xs,⟨?_,.inr ⟨w.heap.size,nc,R2.toArray,rfl,hB,setRow_heap _ _ _ _ _ _ (show W2.drew.heap[w.heap.size]? = _ from hz2'),hge,hle, ?_, ?_⟩⟩,i6 _ _ t (hr.keep fun p hp=>World.cell?_of_block (hb3.block _ (gK (hG _ hp) hB)))⟩
    ·rw [gI,hxl];show 5+l.len*5=(l.len+1)*5;omega
    ·show R2.length=nc*5;omega
    ·show R2.take ((l.len+1)*5)=_;rw [show (l.len+1)*5=5+xs.length by rw [hxl];omega];exact hst2
   have HP:=Ha hP;have HB3:=Ha hb3;have hnci:(l.len:Int)+1≤(nc:Int):=by omega
   have hnci1:(1:Int)≤(nc:Int):=by omega
   have hncn:¬nc=1:=by omega
   have hncm:(nc:Int)≤9223372036854775807:=by unfold maxLen at hle;omega
   have hcapm:(cap:Int)≤9223372036854775807:=by unfold maxLen at hm;omega
   have hcp0:¬cap=0:=by omega
   have hl1:(l.len:Int)≤1073741824:=by omega
   rw [Int.natCast_add,show ((1:Nat):Int)=1 from rfl] at hrz';clear hb1 hb2 hb3 hP hz1' hz2' hv1 hg1 hg2 hW1 hW2 hsl1 hsl2 hst1 hst2 hZ hZs hown hh hv hcs htk hr hxl;go_enter Tryz.func213,Tryz.ntmps213;go_wp2_with fail
   go_region
   go_wp2;go_ret;exact ⟨_,rfl,HP.out,HB3.out.mono hB⟩
  ·
   have hgi:¬(cap:Int)<(l.len:Int)+1:=by omega
   have hsa:w.shape? vb=some (50,5):=by simp [World.shape?,hv,litPs]
   have hsb:w.shape? g=some (50,cap*5):=by simp [World.shape?,hh,hcs]
   have hov:∀ lb cb,(callFunc 239 #[.slice (some ⟨vb,0,none⟩) 1 1,.slice (some ⟨g,5,none⟩) lb cb]).run Tryz.prog w=.ok (.value (.bool false)) w:=fun lb cb=>by
    rw [run_callFunc_extern Tryz.func239 (by kernel_rfl) (by kernel_rfl) (by kernel_rfl) (e:=Extern.SlicesOverlaps.overlaps #[29,29] #[4]) (by kernel_rfl),
     Lib.run_overlaps_apart w 29 4 50 Tryz.underlying29 5 Tryz.sizeOf50 ⟨vb,0,none⟩ ⟨g,5,none⟩ 1 1 lb cb (Ne.symm hgv) _ _ _ _ hsa hsb (by omega) (by simp [World.frozen?,hv]) (by simp [World.frozen?,hv])]
    rfl
   have hcl:cur.toList.length=cap*5:=by rw [Array.length_toList];exact hcs
   have hcp1:=fA (P:=Tryz.prog) w.drew 29 29 3 50 5 g 5 l.len (cap-1) ⟨g,0,none⟩ (l.len+1) cap cur 50 xs Tryz.underlying29 hsz hh (by rw [show Nat.min (l.len+1) l.len=l.len from Nat.min_eq_right (by omega)];exact hxl) (zO (w:=w.drew) hh htk) (by rw [hxl];omega) (fun u hu=>cF.one hr u hu);rw [show Nat.min (l.len+1) l.len=l.len from Nat.min_eq_right (by omega)] at hcp1;have hR1l:=pT cur.toList xs 5 (by rw [hxl,hcl];omega);rw [hcl] at hR1l;have hR1d:(cur.toList.take 5++xs++cur.toList.drop (5+xs.length)).drop 5=xs++cur.toList.drop (5+xs.length):=by
    rw [List.append_assoc];exact List.drop_left' (by rw [List.length_take,hcl];omega)
   revert hcp1 hR1l hR1d
   generalize cur.toList.take 5++xs++cur.toList.drop (5+xs.length)=R1;generalize cur.toList.drop (5+xs.length)=D;intro hcp1 hR1l hR1d;obtain ⟨W1,hW1⟩:∃ W1,W1=w.drew.setRow g R1.toArray:=⟨_,rfl⟩;rw [← hW1] at hcp1;have hg1:W1.heap[g]? = some (.cells R1.toArray 50 (0,0)):=by rw [hW1];exact setRow_heap _ _ _ _ _ _ (show w.drew.heap[g]? = _ from hh)
   have hv1:W1.heap[vb]? = some (.cells (litPs t).toArray 50 (0,0)):=by rw [hW1,setRow_other _ _ _ _ (Ne.symm hgv)];exact hv
   have hcp2:=fA (P:=Tryz.prog) W1 29 29 3 50 5 g 0 (l.len+1) cap ⟨vb,0,none⟩ 1 1 R1.toArray 50 (litPs t) Tryz.underlying29 hsz hg1 (by rw [show Nat.min 1 (l.len+1)=1 by simp];rfl) (jX hv1) (by show 0+5≤R1.length;omega) (i5 t);rw [show Nat.min 1 (l.len+1)=1 by simp,show R1.toArray.toList=R1 from rfl,show R1.take 0++litPs t++R1.drop (0+(litPs t).length)=litPs t++(xs++D) from congrArg (litPs t ++ ·) hR1d] at hcp2;have hlen2:(litPs t++(xs++D)).length=cap*5:=by
    rw [← hR1d,gI,List.length_drop,hR1l];show 5+(cap*5-5)=_;omega
   have htk2:(litPs t++(xs++D)).take ((l.len+1)*5)=litPs t++xs:=by
    rw [← List.append_assoc,show (l.len+1)*5=(litPs t++xs).length by rw [gI,hxl];show _=5+l.len*5;omega];exact List.take_left' rfl
   have hb1:Below B w W1:=by
    rw [hW1];exact ⟨rfl,rfl,rfl,by simp,fun k hk=>setRow_other _ _ _ _ (by omega)⟩
   have hb2:Below B w (W1.setRow g (litPs t++(xs++D)).toArray):=⟨hb1.os,hb1.tape,hb1.output,by simpa using hb1.size,fun k hk=>(setRow_other _ _ _ _ (by omega)).trans (hb1.block k hk)⟩;have hP:cK G B (W1.setRow g (litPs t++(xs++D)).toArray) (.slice (some ⟨g,0,none⟩) (l.len+1) cap) (Pts.lit t l):=by
    refine ⟨litPs t++xs,⟨?_,.inr ⟨g,cap,_,rfl,hBg,setRow_heap _ _ _ _ _ _ hg1,by show l.len+1≤cap;omega,hm,hlen2,htk2⟩⟩,i6 _ _ t (hr.keep fun p hp=>World.cell?_of_block (hb2.block _ (hG _ hp)))⟩;rw [gI,hxl];show 5+l.len*5=(l.len+1)*5;omega
   have HP:=Ha hP;have HB2:=Ha hb2;have hcapm:(cap:Int)≤9223372036854775807:=by unfold maxLen at hm;omega
   have hcp0:¬cap=0:=by omega
   have hcp1':¬cap=1:=by omega
   have hci:(l.len:Int)+1≤(cap:Int):=by omega
   have hci1:(1:Int)≤(cap:Int):=by omega
   have hl1:(l.len:Int)≤1073741824:=by omega
   clear hb1 hb2 hP hg1 hv1 hW1 hlen2 htk2 hown hh hv hcs htk hr hxl hR1l hR1d hcl hsa hsb;go_enter Tryz.func213,Tryz.ntmps213;go_wp2_with fail
   go_region
   go_wp2_with fail;go_ret;exact ⟨_,rfl,HP.out,HB2.out⟩
end Go.Proofs.YtjpopekmbmcggaaGreatDoor
namespace Go.Proofs.YtjpopekmbmcggaaGreatDoor
open Go.RowKit
def dB (G:Nat→Prop) (w:World) (C:Option Addr) (cs:List (List UInt8)):Prop:=
 cs≠[]→∃ ad,C=some ad∧G ad.block∧∀ j s,cs[j]? = some s→w.cell? (ad.add j)=some (bs s)
theorem dB.keep {G:Nat→Prop} {w w':World} {C:Option Addr} {cs:List (List UInt8)} (h:dB G w C cs) (hk:∀ p:Addr,G p.block→w'.cell? p=w.cell? p):dB G w' C cs:=fun hne=>by
 obtain ⟨ad,hC,hG,hc⟩:=h hne;exact ⟨ad,hC,hG,fun j s hs=>(hk _ (by rw [kR];exact hG)).trans (hc j s hs)⟩
theorem dB.nil {G:Nat→Prop} {w:World} {C:Option Addr}:dB G w C []:=fun h=>absurd rfl h
theorem dB.cut {G:Nat→Prop} {w:World} {C:Option Addr} {c:List UInt8} {cs:List (List UInt8)} (h:dB G w C (c::cs)) (cap:Nat) (hcap:cs.length+1≤cap):
  dB G w (if cap=1 then C else C.map (·.add 1)) cs:=fun hne=>by
 obtain ⟨ad,rfl,hG,hc⟩:=h (by simp);have:0<cs.length:=List.length_pos_iff.2 hne;rw [if_neg (by omega)];refine ⟨ad.add 1,rfl,by rw [kR];exact hG,fun j s hs=>?_⟩;rw [xE,Nat.add_comm 1 j];exact hc (j+1) s hs
structure Snk (B b:Nat) (ti:TypeId) (fi:FuncId) (Sk:List UInt8→World→Prop):Prop where
 meth : ∀ W : World, (method 307 ti (.pointer (some ⟨b, 0, none⟩)) "conch/wordfmt.put").run Tryz.prog W = .ok (fi, .pointer (some ⟨b, 0, none⟩)) W
 enter:∀ (args:Array Value) (W:World),(callFunc fi args).run Tryz.prog W=.ok (.enter fi args) W
 put:∀ (l:List UInt8) (s:ByteArray) (w:World),Sk l w→l.length+s.size≤70368744177664→B≤w.heap.size→
  Calls Tryz.prog fi #[.pointer (some ⟨b,0,none⟩),.string s] w fun e w'=>e=.returned (.tuple #[])∧Sk (l++s.toList) w'∧Kp B (· = b) w w'
 keep:∀ (l:List UInt8) (w w':World),Sk l w→w.heap.size≤w'.heap.size→(∀ k,k<w.heap.size→(k=b∨fF w k)→w'.heap[k]? = w.heap[k]?)→Sk l w'
 lt:∀ (l:List UInt8) (w:World),Sk l w→b<w.heap.size
def Prt (G:Nat→Prop) (B b bp:Nat) (ti:TypeId) (cs:List (List UInt8)) (w:World):Prop:=
 B≤bp∧b≠bp∧∃ (C:Option Addr) (c:Nat),w.heap[bp]? = some (.cells #[.iface ti (.pointer (some ⟨b,0,none⟩)),.slice C cs.length c] 154 (0,0))∧cs.length≤c∧dB G w C cs
def Xp (b bp:Nat):Nat→Prop:=fun k=>k=b∨k=bp
section
variable {G:Nat→Prop} {B b bp:Nat} {ti:TypeId} {cs:List (List UInt8)} {w w':World}
theorem Prt.notbytes (h:Prt G B b bp ti cs w):¬fF w bp:=by
 obtain ⟨_,_,C,c,hh,_⟩:=h;rintro ⟨cur,fz,h⟩;rw [hh] at h
 injection h with h
 injection h with _ h
 exact absurd h (by decide)
theorem Prt.lt (h:Prt G B b bp ti cs w):bp<w.heap.size:=by
 obtain ⟨_,_,C,c,hh,_⟩:=h;exact (Array.getElem?_eq_some_iff.1 hh).1
theorem Prt.put (h:Prt G B b bp ti cs w) (hG:Gd B (Xp b bp) w G) (hk:Kp B (· = b) w w'):Prt G B b bp ti cs w':=by
 have hn:=h.notbytes;have hl:=h.lt;obtain ⟨hB,hne,C,c,hh,hc,hs⟩:=h;refine ⟨hB,hne,C,c,(hk.block bp hl (.inr ⟨fun e=>hne e.symm,hn⟩)).trans hh,hc,hs.keep fun p hp=>?_⟩;exact hG.cell (hk.wide fun k e=>.inl e) p hp
theorem Prt.below (h:Prt G B b bp ti cs w) (hG:Gd B (Xp b bp) w G) (hk:Below w.heap.size w w'):Prt G B b bp ti cs w':=by
 have hl:=h.lt;obtain ⟨hB,hne,C,c,hh,hc,hs⟩:=h;exact ⟨hB,hne,C,c,(hk.block bp hl).trans hh,hc,hs.keep fun p hp=>hG.cell (X:=Xp b bp) (Kp.of_below hk) p hp⟩
theorem Snk.below {fi:FuncId} {Sk:List UInt8→World→Prop} (S:Snk B b ti fi Sk) {l:List UInt8} (h:Sk l w) (hk:Below w.heap.size w w'):Sk l w':=S.keep l w w' h hk.size fun k hk1 _=>hk.block k hk1
theorem Snk.set {fi:FuncId} {Sk:List UInt8→World→Prop} (S:Snk B b ti fi Sk) {l:List UInt8} (h:Sk l w) (hp:Prt G B b bp ti cs w) (i:Nat) (u:Value):Sk l (w.setCell ⟨bp,i,none⟩ u):=
 S.keep l w _ h (by simp [World.setCell]) fun k _ hk=>Below.heap_setCell _ _ _ _ (by
  intro e;have e':k=bp:=e;subst e';rcases hk with hk | hk
  ·exact hp.2.1 hk.symm
  ·exact hp.notbytes hk)
end
end Go.Proofs.YtjpopekmbmcggaaGreatDoor
namespace Go.Proofs.YtjpopekmbmcggaaGreatDoor
open Go.RowKit
theorem aS (l:List UInt8):(⟨l.toArray⟩:ByteArray).size=l.length:=by rw [aL,aI]
theorem i9 {G:Nat→Prop} {B b bp:Nat} {ti:TypeId} {cs:List (List UInt8)} {w:World} (h:Prt G B b bp ti cs w):∃ (C:Option Addr) (c:Nat),
  w.cell? ⟨bp,0,none⟩=some (.iface ti (.pointer (some ⟨b,0,none⟩)))∧w.cell? ⟨bp,1,none⟩=some (.slice C cs.length c)∧w.frozen? ⟨bp,1,none⟩=false∧cs.length≤c∧dB G w C cs:=by
 obtain ⟨_,_,C,c,hh,hc,hs⟩:=h;exact ⟨C,c,by simp [World.cell?,hh],by simp [World.cell?,hh],by simp [World.frozen?,hh],hc,hs⟩
theorem Prt.setCmds {G:Nat→Prop} {B b bp:Nat} {ti:TypeId} {cs cs':List (List UInt8)} {w:World} (h:Prt G B b bp ti cs w) (hG:Gd B (Xp b bp) w G) {C:Option Addr} {c:Nat} (hc:cs'.length≤c) (hs:dB G w C cs'):
  Prt G B b bp ti cs' (w.setCell ⟨bp,1,none⟩ (.slice C cs'.length c)):=by
 have hl:=h.lt;obtain ⟨hB,hne,C0,c0,hh,_⟩:=h;refine ⟨hB,hne,C,c, ?_,hc,hs.keep fun p hp=>?_⟩
 ·simp [World.setCell,Array.getElem?_modify,hh]
 ·exact hG.cell ((Kp.refl B (Xp b bp) w).set hB (.inr rfl) 1 _) p hp
theorem BD {G:Nat→Prop} {B b bp:Nat} {ti:TypeId} {fi:FuncId} {Sk:List UInt8→World→Prop} (S:Snk B b ti fi Sk) (acc:List UInt8) (cs:List (List UInt8)) (w:World)
  (hk:Sk acc w) (hp:Prt G B b bp ti cs w) (hG:Gd B (Xp b bp) w G) (hB:B≤w.heap.size) (hlen:acc.length+8+Pts.total cs≤70368744177664):
  Calls Tryz.prog 206 #[.pointer (some ⟨bp,0,none⟩)] w fun e w'=>e=.returned (.tuple #[])∧Sk (acc++Pts.cmdText cs) w'∧Prt G B b bp ti cs.tail w'∧Kp B (Xp b bp) w w':=by
 have hme:=S.meth;have hen:=S.enter;obtain ⟨C,c,c0,c1,f1,hc,hs⟩:=i9 hp;have hlt:=hp.lt;go_enter Tryz.func206,Tryz.ntmps206;go_wp2_with fail;refine (S.put acc ⟨#[36,40,32]⟩ _ hk (by rw [aS [36,40,32]];simp;omega) hB).mono ?_;rintro e w1 ⟨rfl,hk1,kp1⟩;have hp1:=hp.put hG kp1;clear c0 c1 f1;obtain ⟨C1,d1,c0,c1,f1,hc1,hs1⟩:=i9 hp1;have hl1:=hp1.lt;have hacc:(acc++(⟨#[36,40,32]⟩:ByteArray).toList)=acc++[36,40,32]:=by rw [aI]
 rw [hacc] at hk1;have hB1:B≤w1.heap.size:=Nat.le_trans hB kp1.size;have HK:=Ha hk1;have HP:=Ha hp1;clear hk1 hp1;cases cs with
 | nil=>
  go_wp2_with fail;refine (S.put (acc++[36,40,32]) ⟨#[41]⟩ _ HK.out (by rw [aS [41]];simp;omega) hB1).mono ?_;rintro e w2 ⟨rfl,hk2,kp2⟩;go_wp2_with fail
  go_end0
  refine ⟨rfl, ?_,HP.out.put (hG.keep (kp1.wide fun k e=>.inl e)) kp2,(kp1.trans kp2).wide fun k e=>.inl e⟩;rw [aI,List.append_assoc] at hk2;exact hk2
 | cons t cs=>
  obtain ⟨ad,rfl,hGa,hca⟩:=hs1 (by simp);have ha0:=hca 0 t rfl;simp [Addr.add] at ha0;unfold bs at ha0;go_wp2_with fail
  go_still_tail 12,(by kernel_rfl)
  change wpList _ _ _ _ _ w1.drew;have hbd:Below w1.heap.size w1 w1.drew:=(Below.refl _ _).drew;have hG1:=(hG.keep (kp1.wide fun k e=>.inl e));have hpd:=HP.out.below hG1 hbd;have hGd:=hG1.keep (X:=Xp b bp) (.of_below hbd);have hkd:=S.below HK.out hbd;have HK2:=Ha hkd;have HP2:=Ha hpd;clear hkd hpd;go_wp2_with fail;refine (S.put (acc++[36,40,32]) ⟨t.toArray⟩ _ HK2.out (by rw [aS];simp [Pts.total] at hlen ⊢;omega) hB1).mono ?_;rintro e w2 ⟨rfl,hk2,kp2⟩;have hp2:=HP2.out.put hGd kp2;have hl2:=hp2.lt;have hG2:=hGd.keep (X:=Xp b bp) (kp2.wide fun k e=>.inl e);clear c0 c1 f1 ha0;obtain ⟨C2,d2,c0,c1,f1,hc2,hs2⟩:=i9 hp2;rw [aI] at hk2;have hB2:B≤w2.heap.size:=Nat.le_trans hB1 kp2.size;have key:∀ (C':Option Addr) (c':Nat),cs.length≤c'→dB G w2 C' cs→
    Sk (acc++[36,40,32]++t) (w2.setCell ⟨bp,1,none⟩ (.slice C' cs.length c'))∧Prt G B b bp ti cs (w2.setCell ⟨bp,1,none⟩ (.slice C' cs.length c'))∧Kp B (Xp b bp) w (w2.setCell ⟨bp,1,none⟩ (.slice C' cs.length c'))∧
     B≤(w2.setCell ⟨bp,1,none⟩ (.slice C' cs.length c')).heap.size∧Gd B (Xp b bp) (w2.setCell ⟨bp,1,none⟩ (.slice C' cs.length c')) G:=by
   intro C' c' h1 h2;have hset:Kp B (Xp b bp) w2 (w2.setCell ⟨bp,1,none⟩ (.slice C' cs.length c')):=(Kp.refl B (Xp b bp) w2).set hp2.1 (.inr rfl) 1 _;exact ⟨S.set hk2 hp2 1 _,hp2.setCmds hG2 h1 h2,((((kp1.wide fun k e=>.inl e)).trans (.of_below hbd)).trans (kp2.wide fun k e=>.inl e)).trans hset,by simpa [World.setCell] using hB2,hG2.keep hset⟩
  have KEY:=Ha key;clear key;have hcut:=hs2.cut d2 hc2;have ha:d2=1→dB G w2 C2 cs:=fun h=>by rw [if_pos h] at hcut;exact hcut
  have hb:¬d2=1→dB G w2 (C2.map (fun x=>x.add 1)) cs:=fun h=>by rw [if_neg h] at hcut;exact hcut
  have HA:=Ha ha;have HB:=Ha hb;clear hcut ha hb hk2 hp2;have hlen2:(t::cs).length=cs.length+1:=rfl;rw [hlen2] at c1 hc2;clear hlen2;have HL:=Ha hlen;clear hlen;have hfin:∀ w':World,Sk (acc++[36,40,32]++t) w'→Prt G B b bp ti cs w'→Kp B (Xp b bp) w w'→B≤w'.heap.size→Gd B (Xp b bp) w' G→
    Calls Tryz.prog fi #[.pointer (some ⟨b,0,none⟩),.string ⟨#[41]⟩] w' fun e w3=>e=.returned (.tuple #[])∧Sk (acc++Pts.cmdText (t::cs)) w3∧Prt G B b bp ti cs w3∧Kp B (Xp b bp) w w3:=fun w' k1 k2 k3 k4 k5=>by
   refine (S.put (acc++[36,40,32]++t) ⟨#[41]⟩ _ k1 (by rw [aS [41]];have:=HL.out;simp [Pts.total] at this ⊢;omega) k4).mono ?_;rintro e w3 ⟨rfl,hk3,kp3⟩;refine ⟨rfl, ?_,k2.put k5 kp3,k3.trans (kp3.wide fun k e=>.inl e)⟩;rw [aI] at hk3
   simpa [Pts.cmdText] using hk3
  have HF:=Ha hfin;clear hfin;go_wp2_with fail
  ·obtain ⟨k1,k2,k3,k4,k5⟩:=KEY.out C2 0 (by omega) (HA.out ‹_›);refine (HF.out _ k1 k2 k3 k4 k5).mono ?_;rintro e w3 ⟨rfl,h3⟩;go_wp2_with fail
   go_end0
   exact ⟨rfl,h3⟩
  ·obtain ⟨k1,k2,k3,k4,k5⟩:=KEY.out (C2.map fun x=>x.add 1) (d2-1) (by omega) (HB.out ‹_›);refine (HF.out _ k1 k2 k3 k4 k5).mono ?_;rintro e w3 ⟨rfl,h3⟩;go_wp2_with fail
   go_end0
   exact ⟨rfl,h3⟩
end Go.Proofs.YtjpopekmbmcggaaGreatDoor
namespace Go.Proofs.YtjpopekmbmcggaaGreatDoor
open Go.RowKit
structure Prn (G:Nat→Prop) (B b bp:Nat) (ti:TypeId) (Sk:List UInt8→World→Prop) (acc:List UInt8) (cs:List (List UInt8)) (w:World):Prop where
 sk:Sk acc w
 prt:Prt G B b bp ti cs w
 gd:Gd B (Xp b bp) w G
 le:B≤w.heap.size
theorem eX (w:World) (o:Obj):(w.alloc o).heap.size=w.heap.size+1:=Array.size_push ..
theorem eL (a b:ByteArray):(a++b).size=a.size+b.size:=by rw [aL,aL,aL,eD,gI]
section
variable {G:Nat→Prop} {B b bp:Nat} {ti:TypeId} {fi:FuncId} {Sk:List UInt8→World→Prop} {acc:List UInt8} {cs:List (List UInt8)} {w w':World}
theorem Prn.below (S:Snk B b ti fi Sk) (h:Prn G B b bp ti Sk acc cs w) (hk:Below w.heap.size w w'):Prn G B b bp ti Sk acc cs w':=
 ⟨S.below h.sk hk,h.prt.below h.gd hk,h.gd.keep (X:=Xp b bp) (.of_below hk),Nat.le_trans h.le hk.size⟩
theorem Prn.put (S:Snk B b ti fi Sk) (h:Prn G B b bp ti Sk acc cs w) (s:ByteArray) (hl:acc.length+s.size≤70368744177664):
  Calls Tryz.prog fi #[.pointer (some ⟨b,0,none⟩),.string s] w fun e w'=>e=.returned (.tuple #[])∧Prn G B b bp ti Sk (acc++s.toList) cs w'∧Kp B (Xp b bp) w w':=
 (S.put acc s w h.sk hl h.le).mono fun _ _ ⟨he,hs,hk⟩=>
  have hk':Kp B (Xp b bp) w _:=hk.wide fun _ e=>.inl e
  ⟨he,⟨hs,h.prt.put h.gd hk,h.gd.keep hk',Nat.le_trans h.le hk.size⟩,hk'⟩
theorem Prn.cmd (S:Snk B b ti fi Sk) (h:Prn G B b bp ti Sk acc cs w) (hl:acc.length+8+Pts.total cs≤70368744177664):
  Calls Tryz.prog 206 #[.pointer (some ⟨bp,0,none⟩)] w fun e w'=>e=.returned (.tuple #[])∧Prn G B b bp ti Sk (acc++Pts.cmdText cs) cs.tail w'∧Kp B (Xp b bp) w w':=
 (BD S acc cs w h.sk h.prt h.gd h.le hl).mono fun _ _ ⟨he,hs,hp,hk⟩=>⟨he,⟨hs,hp,h.gd.keep hk,Nat.le_trans h.le hk.size⟩,hk⟩
theorem Prn.cell0 (h:Prn G B b bp ti Sk acc cs w):w.cell? ⟨bp,0,none⟩=some (.iface ti (.pointer (some ⟨b,0,none⟩))):=by
 obtain ⟨_,_,h,_⟩:=i9 h.prt;exact h
theorem Prn.box (S:Snk B b ti fi Sk) (h:Prn G B b bp ti Sk acc cs w) (cells:Array Value) (T:TypeId) (hT:T≠5):
  Prn G B b bp ti Sk acc cs (w.alloc (.cells cells T))∧Gd B (Xp b bp) (w.alloc (.cells cells T)) (· = w.heap.size):=by
 refine ⟨h.below S ((Below.refl _ _).alloc (Nat.le_refl _) _),fun k hk=>?_⟩;subst hk;have h1:=S.lt _ _ h.sk;have h2:=h.prt.lt;refine ⟨by rw [eX];omega,.inr ⟨fun hx=>by rcases hx with hx | hx <;> omega, ?_⟩⟩;rintro ⟨c,fz,hc⟩;rw [heap_alloc] at hc
 injection hc with hc
 injection hc with _ hc
 exact hT hc
end
def tU (G:Nat→Prop) (B b bp:Nat) (ti:TypeId) (Sk:List UInt8→World→Prop) (n:Nat):Prop:=
 ∀ (l:Pts) (A:Option Addr) (c:Nat) (acc:List UInt8) (cs:List (List UInt8)) (w:World),l.deep<n→Prn G B b bp ti Sk acc cs w→aY G w A 0 l→acc.length+6*l.wt+Pts.total cs+64≤70368744177664→
  Calls Tryz.prog 168 #[.pointer (some ⟨bp,0,none⟩),.slice A l.len c] w fun e w'=>e=.returned (.tuple #[])∧Prn G B b bp ti Sk (acc++(l.shw cs).1) (l.shw cs).2 w'∧Kp B (Xp b bp) w w'
theorem wG {G:Nat→Prop} {B b bp:Nat} {ti:TypeId} {fi:FuncId} {Sk:List UInt8→World→Prop} (S:Snk B b ti fi Sk) (n:Nat) (IH:tU G B b bp ti Sk n)
  (k:Int) (t o:ByteArray) (kids:Pts) (A:Option Addr) (c:Nat) (cm:Cm) (acc:List UInt8) (cs:List (List UInt8)) (w:World)
  (hd:kids.deep<n) (h:Prn G B b bp ti Sk acc cs w) (hp:aY G w A 0 kids) (hlen:acc.length+6*(1+t.size+o.size+kids.wt)+Pts.total cs+64≤70368744177664):
  Calls Tryz.prog 205 #[.pointer (some ⟨bp,0,none⟩),.agg #[.int .i64 k,.string t,.string o,.slice A kids.len c,cm.val]] w fun e w'=>e=.returned (.tuple #[])∧
   Prn G B b bp ti Sk (acc++([36,123]++Pts.paramHead t.toList o.toList++(kids.shw cs).1++[125])) (kids.shw cs).2 w'∧Kp B (Xp b bp) w w':=by
 have hme:=S.meth;have hen:=S.enter;have hlt:=h.prt.lt;have hcm:cm.val=.slice cm.a cm.n cm.c:=rfl;rw [hcm];have hc0:=h.cell0;have a1:∀ W:World,(Op.stringOp .add ⟨#[35]⟩ t).run Tryz.prog W=.ok (.string (⟨#[35]⟩++t)) W:=fun W=>run_string_add_sum W _ _ (by rw [aS [35]];simp;omega);have a2:∀ W:World,(Op.stringOp .add t o).run Tryz.prog W=.ok (.string (t++o)) W:=fun W=>run_string_add_sum W _ _ (by omega);have H:=Ha h;clear h;have HH:=Ha IH;clear IH;have HL:=Ha hlen;clear hlen;go_enter Tryz.func205,Tryz.ntmps205;go_wp2_with fail;have hbx:=H.out.box S #[.int .i64 k,.string t,.string o,.slice A kids.len c,.slice cm.a cm.n cm.c] 50 (by decide);obtain ⟨h1,g1⟩:=hbx;have kp1:Kp B (Xp b bp) w (w.alloc (.cells #[.int .i64 k,.string t,.string o,.slice A kids.len c,.slice cm.a cm.n cm.c] 50)):=(Kp.refl _ _ _).alloc _;have hp1:=hp.keep fun p hG=>H.out.gd.cell kp1 p hG;have e1:(w.alloc (.cells #[.int .i64 k,.string t,.string o,.slice A kids.len c,.slice cm.a cm.n cm.c] 50)).cell? ⟨w.heap.size,1,none⟩=some (.string t):=by simp
 have e2:(w.alloc (.cells #[.int .i64 k,.string t,.string o,.slice A kids.len c,.slice cm.a cm.n cm.c] 50)).cell? ⟨w.heap.size,2,none⟩=some (.string o):=by simp
 have e3:(w.alloc (.cells #[.int .i64 k,.string t,.string o,.slice A kids.len c,.slice cm.a cm.n cm.c] 50)).cell? ⟨w.heap.size,3,none⟩=some (.slice A kids.len c):=by simp
 have hl1:w.heap.size<(w.alloc (.cells #[.int .i64 k,.string t,.string o,.slice A kids.len c,.slice cm.a cm.n cm.c] 50)).heap.size:=by rw [eX];omega
 revert h1 g1 kp1 hp1 e1 e2 e3 hl1
 generalize w.alloc (.cells #[.int .i64 k,.string t,.string o,.slice A kids.len c,.slice cm.a cm.n cm.c] 50)=w1;generalize w.heap.size=bx;intro h1 g1 kp1 hp1 e1 e2 e3 hl1;refine (h1.put S ⟨#[36,123]⟩ (by rw [aS [36,123]];have:=HL.out;simp;omega)).mono ?_;rintro e w2 ⟨rfl,h2,kp2⟩;have g2:=g1.keep kp2;have hp2:=hp1.keep fun p hG=>h1.gd.cell kp2 p hG;have e1:=(g1.cell kp2 ⟨bx,1,none⟩ rfl).trans e1;have e2:=(g1.cell kp2 ⟨bx,2,none⟩ rfl).trans e2;have e3:=(g1.cell kp2 ⟨bx,3,none⟩ rfl).trans e3;have hc0:=h2.cell0;have hb2:=h2.prt.lt;have hx2:=(g2 bx rfl).1;have K2:=Ha (kp1.trans kp2);clear kp1 kp2 hp1 h1 hl1;rw [aI] at h2;have H2:=Ha h2;clear h2;have hmid:∀ w3:World,Prn G B b bp ti Sk (acc++[36,123]++Pts.paramHead t.toList o.toList) cs w3→Kp B (Xp b bp) w2 w3→
   aY G w3 A 0 kids∧w3.cell? ⟨bx,3,none⟩=some (.slice A kids.len c)∧Calls Tryz.prog 168 #[.pointer (some ⟨bp,0,none⟩),.slice A kids.len c] w3 fun e w'=>e=.returned (.tuple #[])∧
    Prn G B b bp ti Sk (acc++[36,123]++Pts.paramHead t.toList o.toList++(kids.shw cs).1) (kids.shw cs).2 w'∧Kp B (Xp b bp) w w':=fun w3 h3 kp3=>by
  have hp3:=hp2.keep fun p hG=>H2.out.gd.cell kp3 p hG;have hl:=Pts.paramHead_len t.toList o.toList;have hl1:=Pts.len_list t;have hl2:=Pts.len_list o;refine ⟨hp3,(g2.cell kp3 ⟨bx,3,none⟩ rfl).trans e3,(HH.out kids A c _ cs w3 hd h3 hp3 ?_).mono ?_⟩
  ·have:=HL.out;simp only [gI,gG,gH];omega
  ·rintro e w4 ⟨he,h4,kp4⟩;exact ⟨he,h4,(K2.out.trans kp3).trans kp4⟩
 have HM:=Ha hmid;clear hmid;go_wp2_with fail
 ·go_still_tail 7,(by kernel_rfl)
  change wpList _ _ _ _ _ w2.drew;have hbd:Below w2.heap.size w2 w2.drew:=(Below.refl _ _).drew;have hH:(⟨#[35]⟩:ByteArray).toList++t.toList=Pts.paramHead t.toList o.toList:=by
   rw [aI,Pts.paramHead,if_pos (by simpa using ‹(o.toList==[108,101,110])=true›)]
  have H2d:=Ha (H2.out.below S hbd);go_wp2_with fail;refine (H2d.out.put S (⟨#[35]⟩++t) (by rw [eL,aS [35]];have:=HL.out;have hl1:=Pts.len_list t;have hl2:=Pts.len_list o;simp;omega)).mono ?_;rintro e w3 ⟨rfl,h3,kp3⟩;rw [eD,hH] at h3;obtain ⟨hp3,e33,hall⟩:=HM.out w3 h3 ((Kp.of_below hbd).trans kp3);have hx3:bx<w3.heap.size:=gK hx2 ((Kp.of_below (B:=B) (X:=Xp b bp) hbd).trans kp3).size;have HA:=Ha hall;clear hall h3 hp3;go_wp2_with fail;refine HA.out.mono ?_;rintro e w4 ⟨rfl,h4,kp4⟩;have hc0:=h4.cell0;have hb4:=h4.prt.lt;have H4:=Ha h4;clear h4;go_wp2_with fail;refine (H4.out.put S ⟨#[125]⟩ (by rw [aS [125]];have:=HL.out;have hl1:=Pts.len_list t;have hl2:=Pts.len_list o;have hl:=Pts.paramHead_len t.toList o.toList;have hk:=Pts.shw_len kids cs;simp only [gI,gG,gH];omega)).mono ?_;rintro e w5 ⟨rfl,h5,kp5⟩;rw [aI [125]] at h5;go_wp2_with fail
  go_end0
  refine ⟨rfl, ?_,kp4.trans kp5⟩;simp only [List.append_assoc,List.cons_append,List.nil_append] at h5 ⊢;exact h5
 ·go_still_tail 9,(by kernel_rfl)
  change wpList _ _ _ _ _ w2.drew;have hbd:Below w2.heap.size w2 w2.drew:=(Below.refl _ _).drew;have hH:t.toList++o.toList=Pts.paramHead t.toList o.toList:=by
   rw [Pts.paramHead,if_neg (by simpa using ‹(o.toList==[108,101,110])=false›)]
  have H2d:=Ha (H2.out.below S hbd);go_wp2_with fail;refine (H2d.out.put S (t++o) (by rw [eL];have:=HL.out;have hl1:=Pts.len_list t;have hl2:=Pts.len_list o;simp;omega)).mono ?_;rintro e w3 ⟨rfl,h3,kp3⟩;rw [eD,hH] at h3;obtain ⟨hp3,e33,hall⟩:=HM.out w3 h3 ((Kp.of_below hbd).trans kp3);have hx3:bx<w3.heap.size:=gK hx2 ((Kp.of_below (B:=B) (X:=Xp b bp) hbd).trans kp3).size;have HA:=Ha hall;clear hall h3 hp3;go_wp2_with fail;refine HA.out.mono ?_;rintro e w4 ⟨rfl,h4,kp4⟩;have hc0:=h4.cell0;have hb4:=h4.prt.lt;have H4:=Ha h4;clear h4;go_wp2_with fail;refine (H4.out.put S ⟨#[125]⟩ (by rw [aS [125]];have:=HL.out;have hl1:=Pts.len_list t;have hl2:=Pts.len_list o;have hl:=Pts.paramHead_len t.toList o.toList;have hk:=Pts.shw_len kids cs;simp only [gI,gG,gH];omega)).mono ?_;rintro e w5 ⟨rfl,h5,kp5⟩;rw [aI [125]] at h5;go_wp2_with fail
  go_end0
  refine ⟨rfl, ?_,kp4.trans kp5⟩;simp only [List.append_assoc,List.cons_append,List.nil_append] at h5 ⊢;exact h5
end Go.Proofs.YtjpopekmbmcggaaGreatDoor
namespace Go.Proofs.YtjpopekmbmcggaaGreatDoor
open Go.RowKit
section
variable {G:Nat→Prop} {B b bp:Nat} {ti:TypeId} {fi:FuncId} {Sk:List UInt8→World→Prop} {acc:List UInt8} {cs:List (List UInt8)} {w w':World}
theorem Prn.drew (S:Snk B b ti fi Sk) (h:Prn G B b bp ti Sk acc cs w):Prn G B b bp ti Sk acc cs w.drew:=h.below S (Below.refl _ _).drew
end
theorem xH {G:Nat→Prop} {B b bp:Nat} {ti:TypeId} {fi:FuncId} {Sk:List UInt8→World→Prop} (S:Snk B b ti fi Sk) (n:Nat) (IH:tU G B b bp ti Sk n):tU G B b bp ti Sk (n+1):=by
 intro l A c acc cs w hd h hp hlen;have hme:=S.meth;have hen:=S.enter;have hlw:=Pts.len_wt l;have HH:=Ha IH;clear IH;have hgc:=Ha (fun (w':World) (kp:Kp B (Xp b bp) w w')=>hp.keep fun p hG=>h.gd.cell kp p hG);go_enter Tryz.func168,Tryz.ntmps168;go_wp2_with fail
 go_loopw [8] (fun i wr=>∃ (k:Nat) (acc':List UInt8) (cs':List (List UInt8)),k≤l.len∧i=.int .i64 k∧Prn G B b bp ti Sk acc' cs' wr∧Kp B (Xp b bp) w wr∧
   acc'++((l.drop k).shw cs').1=acc++(l.shw cs).1∧((l.drop k).shw cs').2=(l.shw cs).2∧acc'.length+6*(l.drop k).wt+Pts.total cs'≤acc.length+6*l.wt+Pts.total cs) (fun i _=>l.len-(intOf i).toNat)
 case atStart=>exact ⟨0,acc,cs,by omega,rfl,h,Kp.refl _ _ _,by rw [Pts.drop_zero],by rw [Pts.drop_zero],by rw [Pts.drop_zero];omega⟩
 case round=>
  obtain ⟨k,acc',cs',hk,rfl,hpr,hkp,ht,hcs,hln⟩:=hrel;by_cases hlt:k<l.len
  ·obtain ⟨pk,t,o,kids,cm,r,hdr⟩:=Pts.drop_cons k l hlt;have hp':=(hgc.out _ hkp).at_ k;rw [hdr,Nat.zero_add] at hp';obtain ⟨pb,off,Ak,ck,rfl,hG,c0,c1,c2,c3,c4,hl,h1,h2⟩:=hp';unfold Cm.val at c4;have hkd:=Pts.deep_drop k l hdr;have hbx:=hpr.box S #[.int .i64 pk,.string t,.string o,.slice Ak kids.len ck,.slice cm.a cm.n cm.c] 50 (by decide);rw [hdr] at ht hcs hln;have hc0:=hpr.cell0;have hbp:=hpr.prt.lt;have hwd:=Pts.wt_drop k l;rw [hdr] at hwd;simp only [Pts.wt] at hwd hln;have hlt1:=Pts.len_list t;have hrs:=Pts.drop_succ k l hdr;have kp1:Kp B (Xp b bp) wr (wr.alloc (.cells #[.int .i64 pk,.string t,.string o,.slice Ak kids.len ck,.slice cm.a cm.n cm.c] 50)):=(Kp.refl _ _ _).alloc _;have hp1:=h1.keep fun p hG=>hpr.gd.cell kp1 p hG;have hts:t.size≤70368744177664:=by omega
   have s2:∀ W:World,(Op.stringOp .add ⟨#[92]⟩ t).run Tryz.prog W=.ok (.string (⟨#[92]⟩++t)) W:=fun W=>run_string_add_sum W _ _ (by rw [aS [92]];simp;omega);have s3:∀ W:World,(Op.stringOp .add ⟨#[39]⟩ t).run Tryz.prog W=.ok (.string (⟨#[39]⟩++t)) W:=fun W=>run_string_add_sum W _ _ (by rw [aS [39]];simp;omega);have s3':∀ W:World,(Op.stringOp .add (⟨#[39]⟩++t) ⟨#[39]⟩).run Tryz.prog W=.ok (.string (⟨#[39]⟩++t++⟨#[39]⟩)) W:=fun W=>run_string_add_sum W _ _ (by rw [eL,aS [39]];simp;omega);have s7:∀ W:World,(Op.stringOp .add ⟨#[36,40,40]⟩ t).run Tryz.prog W=.ok (.string (⟨#[36,40,40]⟩++t)) W:=fun W=>run_string_add_sum W _ _ (by rw [aS [36,40,40]];simp;omega);have s7':∀ W:World,(Op.stringOp .add (⟨#[36,40,40]⟩++t) ⟨#[41,41]⟩).run Tryz.prog W=.ok (.string (⟨#[36,40,40]⟩++t++⟨#[41,41]⟩)) W:=fun W=>run_string_add_sum W _ _ (by rw [eL,aS [36,40,40],aS [41,41]];simp;omega);have hfin:∀ (w3:World) (a3:List UInt8) (cs3:List (List UInt8)),Prn G B b bp ti Sk (acc'++a3) cs3 w3→Kp B (Xp b bp) (wr.alloc (.cells #[.int .i64 pk,.string t,.string o,.slice Ak kids.len ck,.slice cm.a cm.n cm.c] 50)) w3→(Pts.cons pk t o kids cm r).shw cs'=(a3++(r.shw cs3).1,(r.shw cs3).2)→
     a3.length+Pts.total cs3≤6*(1+t.size+o.size+cm.n+kids.wt)+Pts.total cs'→
     Prn G B b bp ti Sk (acc'++a3) cs3 w3∧Kp B (Xp b bp) w w3∧(acc'++a3)++((l.drop (k+1)).shw cs3).1=acc++(l.shw cs).1∧((l.drop (k+1)).shw cs3).2=(l.shw cs).2∧
      (acc'++a3).length+6*(l.drop (k+1)).wt+Pts.total cs3≤acc.length+6*l.wt+Pts.total cs:=fun w3 a3 cs3 h3 kp3 he hle=>by
    rw [hrs];rw [he] at ht hcs;refine ⟨h3,(hkp.trans kp1).trans kp3,by rw [List.append_assoc];exact ht,hcs, ?_⟩;rw [gI];omega
   have HF:=Ha hfin;clear hfin;have HN:=Ha hln;have HW:=Ha hwd;clear ht hcs hln hwd hdr hrs;obtain ⟨b1,g1⟩:=hbx;have HX:=Ha b1;have HG:=Ha g1;clear b1 g1;have HP1:=Ha hp1;clear h1 h2 hp1 hpr hkp kp1;have e0:(wr.alloc (.cells #[.int .i64 pk,.string t,.string o,.slice Ak kids.len ck,.slice cm.a cm.n cm.c] 50)).cell? ⟨wr.heap.size,0,none⟩=some (.int .i64 pk):=by simp
   have e1:(wr.alloc (.cells #[.int .i64 pk,.string t,.string o,.slice Ak kids.len ck,.slice cm.a cm.n cm.c] 50)).cell? ⟨wr.heap.size,1,none⟩=some (.string t):=by simp
   have e2:(wr.alloc (.cells #[.int .i64 pk,.string t,.string o,.slice Ak kids.len ck,.slice cm.a cm.n cm.c] 50)).cell? ⟨wr.heap.size,2,none⟩=some (.string o):=by simp
   have e3:(wr.alloc (.cells #[.int .i64 pk,.string t,.string o,.slice Ak kids.len ck,.slice cm.a cm.n cm.c] 50)).cell? ⟨wr.heap.size,3,none⟩=some (.slice Ak kids.len ck):=by simp
   have e4:(wr.alloc (.cells #[.int .i64 pk,.string t,.string o,.slice Ak kids.len ck,.slice cm.a cm.n cm.c] 50)).cell? ⟨wr.heap.size,4,none⟩=some (.slice cm.a cm.n cm.c):=by simp
   have hl1:wr.heap.size<(wr.alloc (.cells #[.int .i64 pk,.string t,.string o,.slice Ak kids.len ck,.slice cm.a cm.n cm.c] 50)).heap.size:=by rw [eX];omega
   have hb1:=HX.out.prt.lt;have hd0:=HX.out.cell0;go_wp2_with fail;all_goals
    revert HX HG HF HP1 e0 e1 e2 e3 e4 hl1 hb1 hd0
    generalize (wr.alloc (.cells #[.int .i64 pk,.string t,.string o,.slice Ak kids.len ck,.slice cm.a cm.n cm.c] 50))=w1;generalize wr.heap.size=bx;intro HF HX HG HP1 e0 e1 e2 e3 e4 hl1 hb1 hd0
   ·go_still_tail 6,(by kernel_rfl)
    change wpList _ _ _ _ _ w1.drew;have hbd:Below w1.heap.size w1 w1.drew:=(Below.refl _ _).drew;have H2:=Ha (HX.out.below S hbd);go_wp2_with fail;refine (H2.out.put S t (by  have:=HN.out;omega)).mono ?_;rintro e w3 ⟨rfl,h3,kp3⟩;have hkd:pk=1:=by simpa using ‹(pk==1)=true›
    have hf:=HF.out w3 t.toList cs' h3 ((Kp.of_below hbd).trans kp3) (by subst hkd;simp [Pts.shw]) (by omega);go_wp2_with fail
    go_roundw
    case rel=>exact ⟨k+1,_,_,by omega,by go_num,hf⟩
    case measure=>simp only [intOf];omega
   ·go_still_tail 7,(by kernel_rfl)
    change wpList _ _ _ _ _ w1.drew;have hbd:Below w1.heap.size w1 w1.drew:=(Below.refl _ _).drew;have H2:=Ha (HX.out.below S hbd);go_wp2_with fail;refine (H2.out.put S (⟨#[92]⟩++t) (by rw [eL,aS [92]];simp only [gG,gH];have:=HN.out;omega)).mono ?_;rintro e w3 ⟨rfl,h3,kp3⟩;have hkd:pk=2:=by simpa using ‹(pk==2)=true›
    have hf:=HF.out w3 ([92]++t.toList) cs' (by simp only [eD,aI] at h3 ⊢;exact h3) ((Kp.of_below hbd).trans kp3) (by subst hkd;simp [Pts.shw]) (by simp only [gI,gG,gH];omega);go_wp2_with fail
    go_roundw
    case rel=>exact ⟨k+1,_,_,by omega,by go_num,hf⟩
    case measure=>simp only [intOf];omega
   ·go_still_tail 8,(by kernel_rfl)
    change wpList _ _ _ _ _ w1.drew;have hbd:Below w1.heap.size w1 w1.drew:=(Below.refl _ _).drew;have H2:=Ha (HX.out.below S hbd);go_wp2_with fail;refine (H2.out.put S (⟨#[39]⟩++t++⟨#[39]⟩) (by rw [eL,eL,aS [39]];simp only [gG,gH];have:=HN.out;omega)).mono ?_;rintro e w3 ⟨rfl,h3,kp3⟩;have hkd:pk=3:=by simpa using ‹(pk==3)=true›
    have hf:=HF.out w3 ([39]++t.toList++[39]) cs' (by simp only [eD,aI,List.append_assoc] at h3 ⊢;exact h3) ((Kp.of_below hbd).trans kp3) (by subst hkd;simp [Pts.shw]) (by simp only [gI,gG,gH];omega);go_wp2_with fail
    go_roundw
    case rel=>exact ⟨k+1,_,_,by omega,by go_num,hf⟩
    case measure=>simp only [intOf];omega
   ·refine (HX.out.put S ⟨#[34]⟩ (by rw [aS [34]];have:=HN.out;simp only [gG,gH];omega)).mono ?_;rintro e w2 ⟨rfl,h2,kp2⟩;rw [aI [34]] at h2;have hp2:=HP1.out.keep fun p hG=>HX.out.gd.cell kp2 p hG;have e3:=(HG.out.cell kp2 ⟨bx,3,none⟩ rfl).trans e3;have hl2:bx<w2.heap.size:=(HG.out.keep kp2 bx rfl).1;have hb2:=h2.prt.lt;have H2:=Ha h2;have HP2:=Ha hp2;clear h2 hp2;go_wp2_with fail;refine (HH.out kids Ak ck _ _ w2 (by omega) H2.out HP2.out (by have:=HN.out;simp only [gI,gG,gH];omega)).mono ?_;rintro e w3 ⟨rfl,h3,kp3⟩;have hd0:=h3.cell0;have hb3:=h3.prt.lt;have hsl:=Pts.shw_len kids cs';have H3:=Ha h3;clear h3;go_wp2_with fail;refine (H3.out.put S ⟨#[34]⟩ (by rw [aS [34]];have:=HN.out;simp only [gI,gG,gH];omega)).mono ?_;rintro e w4 ⟨rfl,h4,kp4⟩;rw [aI [34]] at h4;have hkd:pk=4:=by simpa using ‹(pk==4)=true›
    have hf:=HF.out w4 ([34]++(kids.shw cs').1++[34]) (kids.shw cs').2 (by simpa only [List.append_assoc] using h4) ((kp2.trans kp3).trans kp4) (by subst hkd;simp [Pts.shw]) (by simp only [gI,gG,gH];omega);go_wp2_with fail
    go_roundw
    case rel=>exact ⟨k+1,_,_,by omega,by go_num,hf⟩
    case measure=>simp only [intOf];omega
   ·refine (wG S n HH.out pk t o kids Ak ck cm _ _ w1 (by omega) HX.out HP1.out (by have:=HN.out;omega)).mono ?_;rintro e w2 ⟨rfl,h2,kp2⟩;have hsl:=Pts.shw_len kids cs';have hpl:=Pts.paramHead_len t.toList o.toList;have hlo:=Pts.len_list o;have hkd:pk=5:=by simpa using ‹(pk==5)=true›
    have hf:=HF.out w2 ([36,123]++Pts.paramHead t.toList o.toList++(kids.shw cs').1++[125]) (kids.shw cs').2 h2 kp2 (by subst hkd;simp [Pts.shw]) (by simp only [gI,gG,gH];omega);go_wp2_with fail
    go_roundw
    case rel=>exact ⟨k+1,_,_,by omega,by go_num,hf⟩
    case measure=>simp only [intOf];omega
   ·refine (HX.out.cmd S (by have:=HN.out;omega)).mono ?_;rintro e w2 ⟨rfl,h2,kp2⟩;have hkd:pk=6:=by simpa using ‹(pk==6)=true›
    have hf:=HF.out w2 (Pts.cmdText cs') cs'.tail h2 kp2 (by subst hkd;simp [Pts.shw]) (by cases cs' with | nil=>simp [Pts.cmdText,Pts.total];omega | cons c0 c'=>simp [Pts.cmdText,Pts.total];omega);go_wp2_with fail
    go_roundw
    case rel=>exact ⟨k+1,_,_,by omega,by go_num,hf⟩
    case measure=>simp only [intOf];omega
   ·go_still_tail 8,(by kernel_rfl)
    change wpList _ _ _ _ _ w1.drew;have hbd:Below w1.heap.size w1 w1.drew:=(Below.refl _ _).drew;have H2:=Ha (HX.out.below S hbd);go_wp2_with fail;refine (H2.out.put S (⟨#[36,40,40]⟩++t++⟨#[41,41]⟩) (by rw [eL,eL,aS [36,40,40],aS [41,41]];simp only [gG,gH];have:=HN.out;omega)).mono ?_;rintro e w3 ⟨rfl,h3,kp3⟩;have hkd:pk=7:=by simpa using ‹(pk==7)=true›
    have hf:=HF.out w3 ([36,40,40]++t.toList++[41,41]) cs' (by simp only [eD,aI,List.append_assoc] at h3 ⊢;exact h3) ((Kp.of_below hbd).trans kp3) (by subst hkd;simp [Pts.shw]) (by simp only [gI,gG,gH];omega);go_wp2_with fail
    go_roundw
    case rel=>exact ⟨k+1,_,_,by omega,by go_num,hf⟩
    case measure=>simp only [intOf];omega
   ·have hf:=HF.out w1 [] cs' (by simpa using HX.out) (Kp.refl _ _ _) (by
     have h1:¬pk=1:=by simpa using ‹(pk==1)=false›
     have h2:¬pk=2:=by simpa using ‹(pk==2)=false›
     have h3:¬pk=3:=by simpa using ‹(pk==3)=false›
     have h4:¬pk=4:=by simpa using ‹(pk==4)=false›
     have h5:¬pk=5:=by simpa using ‹(pk==5)=false›
     have h6:¬pk=6:=by simpa using ‹(pk==6)=false›
     have h7:¬pk=7:=by simpa using ‹(pk==7)=false›
     simp [Pts.shw,h1,h2,h3,h4,h5,h6,h7]) (by simp)
    go_roundw
    case rel=>exact ⟨k+1,_,_,by omega,by go_num,hf⟩
    case measure=>simp only [intOf];omega
  ·have hdr:=Pts.drop_end k l (by omega);rw [hdr] at ht hcs;have HT:=Ha ht;have HC:=Ha hcs;clear ht hcs hln;have HP:=Ha hpr;clear hpr;have HK:=Ha hkp;clear hkp;go_wp2_with fail
   go_end0
   have e1:=HT.out;have e2:=HC.out;simp only [Pts.shw,List.append_nil] at e1 e2;have h3:=HP.out;rw [e1,e2] at h3;exact ⟨rfl,h3,HK.out⟩
theorem tV {G:Nat→Prop} {B b bp:Nat} {ti:TypeId} {fi:FuncId} {Sk:List UInt8→World→Prop} (S:Snk B b ti fi Sk):∀ n:Nat,tU G B b bp ti Sk n
 | 0=>fun _ _ _ _ _ _ h=>absurd h (by omega)
 | n+1=>xH S n (tV S n)
end Go.Proofs.YtjpopekmbmcggaaGreatDoor
namespace Go.Proofs.YtjpopekmbmcggaaGreatDoor
open Go.RowKit
theorem BI:Hd 149 0:=⟨by kernel_rfl,by decide⟩
theorem vX (b : Nat) (W : World) : (method 307 147 (.pointer (some ⟨b, 0, none⟩)) "conch/wordfmt.put").run Tryz.prog W = .ok (272, .pointer (some ⟨b, 0, none⟩)) W := by rfl
theorem sG (args:Array Value) (W:World):(callFunc 272 args).run Tryz.prog W=.ok (.enter 272 args) W:=by rfl
theorem IsB.keep2 {T:TypeId} {B b:Nat} {l:List UInt8} {w w':World} (h:IsB T B b [] l w) (hk:∀ k,k<w.heap.size→(k=b∨fF w k)→w'.heap[k]? = w.heap[k]?):IsB T B b [] l w':=by
 have hone:∀ p,Bld T B b [] p l w→Bld T B b [] p l w':=by
  rintro p ⟨hB,v,hh,hown,hn⟩;have hlt:=(Array.getElem?_eq_some_iff.1 hh).1;refine ⟨hB,v,(hk b hlt (.inl rfl)).trans hh,⟨hown.1, ?_⟩,hn⟩;rcases hown.2 with h | ⟨g,cap,cur,hv,hb,hg,h⟩
  ·exact .inl h
  ·exact .inr ⟨g,cap,cur,hv,hb,(hk g (Array.getElem?_eq_some_iff.1 hg).1 (.inr ⟨cur,_,hg⟩)).trans hg,h⟩
 rcases h with h | h
 ·exact .inl (hone _ h)
 ·exact .inr (hone _ h)
theorem AH (B b:Nat):Snk B b 147 272 (fun l w=>IsB 149 B b [] l w) where
 meth:=vX b
 enter:=sG
 lt _ _ h:=h.lt
 keep _ _ _ h _ hk:=h.keep2 hk
 put l s w h hlen hB:=by
  go_enter Tryz.func272,Tryz.ntmps272;go_wp2_with fail;refine (cV BI l s w h (by omega) hB).mono ?_;rintro e w1 ⟨rfl,h1,kp1⟩;go_wp2_with fail
  go_end0
  exact ⟨rfl,.inr h1,kp1⟩
theorem D0 (B:Nat) (X:Nat→Prop) (w:World) (G:Nat→Prop) (hG:∀ k,G k→k<B) (hB:B≤w.heap.size):Gd B X w G:=fun k hk=>⟨gK (hG k hk) hB,.inl (hG k hk)⟩
theorem EE (w:World) (o1 o2 o3:Obj):(((w.alloc o1).alloc o2).alloc o3).heap[w.heap.size+1]? = some o2∧(((w.alloc o1).alloc o2).alloc o3).heap[w.heap.size+1+1]? = some o3∧(((w.alloc o1).alloc o2).alloc o3).heap.size=w.heap.size+3∧
  Below w.heap.size w (((w.alloc o1).alloc o2).alloc o3):=by
 have e1:=eX w o1;have e2:=eX (w.alloc o1) o2;have e3:=eX ((w.alloc o1).alloc o2) o3;have h2:=heap_alloc (w.alloc o1) o2;have h3:=heap_alloc ((w.alloc o1).alloc o2) o3;have hb:=(Below.refl ((w.alloc o1).alloc o2).heap.size ((w.alloc o1).alloc o2)).alloc (Nat.le_refl _) o3;rw [e2,e1] at h3;rw [e1] at h2;refine ⟨?_,h3,by omega, ?_⟩
 ·rw [← h2];exact hb.block _ (by omega)
 ·exact (((Below.refl w.heap.size w).alloc (Nat.le_refl _) o1).alloc (by omega) o2).alloc (by omega) o3
theorem wH {G:Nat→Prop} {ti:TypeId} {Sk:List UInt8→World→Prop} {w w3:World} {C:Option Addr} {cc:Nat} {cs:List (List UInt8)} (hG:∀ k,G k→k<w.heap.size) (hs:dB G w C cs) (hc:cs.length≤cc)
  (hb:Below w.heap.size w w3) (hbp:w3.heap[w.heap.size+1+1]? = some (.cells #[.iface ti (.pointer (some ⟨w.heap.size+1,0,none⟩)),.slice C cs.length cc] 154 (0,0)))
  (hk:Sk [] w3):Prn G w.heap.size (w.heap.size+1) (w.heap.size+1+1) ti Sk [] cs w3:=
 ⟨hk,⟨by omega,by omega,C,cc,hbp,hc,hs.keep fun p hp=>World.cell?_of_block (hb.block _ (hG _ hp))⟩,D0 _ _ _ _ hG hb.size,hb.size⟩
theorem AD (G:Nat→Prop) (l:Pts) (A:Option Addr) (c:Nat) (C:Option Addr) (cc:Nat) (cs:List (List UInt8)) (w:World)
  (hG:∀ k,G k→k<w.heap.size) (hp:aY G w A 0 l) (hs:dB G w C cs) (hc:cs.length≤cc) (hlen:6*l.wt+Pts.total cs+64≤70368744177664):
  Calls Tryz.prog 134 #[.agg #[.slice A l.len c],.slice C cs.length cc] w fun e w'=>e=.returned (bs (l.shw cs).1)∧Below w.heap.size w w':=by
 go_enter Tryz.func134,Tryz.ntmps134;go_wp2_with fail;obtain ⟨hb2,hb3,hsz,hbw⟩:=EE w (.cells #[.slice A l.len c] 31) (.cells #[.pointer none,.slice none 0 0] 149) (.cells #[.iface 147 (.pointer (some ⟨w.heap.size+1,0,none⟩)),.slice C cs.length cc] 154);have hprn:=wH (Sk:=fun l w'=>IsB 149 w.heap.size (w.heap.size+1) [] l w') hG hs hc hbw hb3 (.inl ⟨by omega,.slice none 0 0,hb2,⟨rfl,.inl ⟨rfl,rfl⟩⟩,by simp⟩);have hp3:=hp.keep fun p hp=>World.cell?_of_block (hbw.block _ (hG _ hp));refine (tV (AH _ _) (l.deep+1) l A c [] cs _ (by omega) hprn hp3 (by simp;omega)).mono ?_;rintro e w4 ⟨rfl,h4,kp4⟩;have hlt:=IsB.lt h4.sk;have hb4:=hbw.trans (kp4.below (by omega));have H4:=Ha h4;have HB:=Ha hb4;clear h4 hb4 hbw hb2 hb3 hprn hp3;go_wp2_with fail;refine (dI _ w4 H4.out.sk).mono ?_;rintro e w5 ⟨rfl,kp5⟩;have hb5:=HB.out.trans (kp5.below (by have:=H4.out.le;omega));have H5:=Ha hb5;clear hb5;unfold bs;go_wp2_with fail;go_ret;exact ⟨by simp [bs],H5.out⟩
namespace Pts
def count:Pts→Nat
 | nil=>0
 | cons _ _ _ kids _ rest=>1+kids.count+rest.count
theorem count_wt:∀ l:Pts,l.count≤l.wt
 | nil=>Nat.le_refl _
 | cons _ _ _ kids _ rest=>by have:=count_wt kids;have:=count_wt rest;rw [count,wt];omega
end Pts
end Go.Proofs.YtjpopekmbmcggaaGreatDoor
namespace Go.Proofs.YtjpopekmbmcggaaGreatDoor
open Go.RowKit
namespace Pts
def cmds:Pts→List Cm
 | nil=>[]
 | cons k _ _ kids cm rest=>(if k=6 then [cm] else [])++kids.cmds++rest.cmds
theorem cmds_count:∀ l:Pts,l.cmds.length≤l.count
 | nil=>Nat.le_refl _
 | cons k _ _ kids cm rest=>by
  have h1:=cmds_count kids;have h2:=cmds_count rest;rw [cmds,count,gI,gI]
  split <;> simp <;> omega
end Pts
def dH (B:Nat) (w:World) (v:Value) (l:List Cm):Prop:=w.ownsRow B 26 1 v l.length (l.map Cm.val)
theorem nZ:(Tryz.prog.info? 26).map (fun i=>(i.zero,i.size,i.bytes))=some (some (.slice none 0 0),1,24):=by kernel_rfl
section
variable {B:Nat} {w w':World} {v:Value} {l m:List Cm}
theorem dH.nothing:dH B w (.slice none 0 0) []:=⟨rfl,.inl ⟨rfl,rfl⟩⟩
theorem dH.shape (h:dH B w v l):∃ A c,v=.slice A l.length c∧l.length≤c∧c≤maxLen:=wF h
theorem dH.lt (h:dH B w v l) {g:Nat} (hg:v.ownBlock=some g):B≤g∧g<w.heap.size:=by
 rcases h.2 with ⟨rfl,_⟩ | ⟨g',cap,cur,rfl,hb,hh,_⟩
 ·simp [Value.ownBlock] at hg
 ·simp [Value.ownBlock] at hg;subst hg;exact ⟨hb,(Array.getElem?_eq_some_iff.1 hh).1⟩
theorem dH.keep (h:dH B w v l) (hv:∀ g,v.ownBlock=some g→w'.heap[g]? = w.heap[g]?):dH B w' v l:=by
 refine ⟨h.1, ?_⟩;rcases h.2 with h0 | ⟨g,cap,cur,rfl,hB,hh,hrest⟩
 ·exact .inl h0
 ·exact .inr ⟨g,cap,cur,rfl,hB,(hv g rfl).trans hh,hrest⟩
theorem dH.below (h:dH B w v l) (hb:Below w.heap.size w w'):dH B w' v l:=h.keep fun _ hg=>hb.block _ (h.lt hg).2
theorem dH.cells {a:Addr} {c:Nat} (h:dH B w (.slice (some a) l.length c) l) (j:Nat) (u:Value) (hj:(l.map Cm.val)[j]? = some u):w.cell? (a.add j)=some u:=by
 rcases h.2 with ⟨h0,_⟩ | ⟨g,cap,cur,hv,hB,hh,_⟩
 ·cases h0
 ·have ha:a=⟨g,0,none⟩:=by injection hv with h1;injection h1
  subst ha;exact World.ownsRow.cells h (g:=g) rfl j u hj
theorem dH.append (h:dH B w v l) (m:List Cm) (ad:Addr) (c:Nat) (hx:∀ j u,(m.map Cm.val)[j]? = some u→w.cell? (ad.add j)=some u) (hlen:l.length+m.length≤1099511627776) (hB:B≤w.heap.size):
  ∃ v' w',WrA Tryz.prog #[56,56] 56 #[v,.slice (some ad) m.length c] w=.ok v' w'∧dH B w' v' (l++m)∧w.grownBy w' v.ownBlock∧(v'.ownBlock=v.ownBlock∨v'.ownBlock=some w.heap.size):=by
 obtain ⟨i0,hi,hz0,hz1,hz2⟩:=info_parts nZ;obtain ⟨v',w',hrun,hown,hg,_,hat⟩:=run_append_own_at (P:=Tryz.prog) (w:=w) B 56 56 26 i0 (.slice none 0 0) 1 24 Tryz.underlying56 hi hz0 hz1 hz2 rfl (by decide) v l.length (l.map Cm.val) h ad m.length c (m.map Cm.val) (by simp) hx
  (by intro u hu;obtain ⟨x,_,rfl⟩:=List.mem_map.1 hu;rfl) (by unfold maxLen;omega) (by omega) hB
 refine ⟨v',w',WrA.of hrun, ?_,hg,hat⟩;unfold dH;rw [gI,List.map_append];exact hown
theorem dH.append_nil (h:dH B w v l) (c:Nat):WrA Tryz.prog #[56,56] 56 #[v,.slice none 0 c] w=.ok v w:=by
 obtain ⟨i0,hi,hz0,hz1,hz2⟩:=info_parts nZ;obtain ⟨A1,c1,rfl,hl1,hm1⟩:=h.shape;exact WrA.of (run_append_nothing w _ _ _ _ i0 Tryz.underlying56 hi A1 l.length c1 hl1 _ (Src.ofNil w Tryz.underlying56 c))
end
end Go.Proofs.YtjpopekmbmcggaaGreatDoor
