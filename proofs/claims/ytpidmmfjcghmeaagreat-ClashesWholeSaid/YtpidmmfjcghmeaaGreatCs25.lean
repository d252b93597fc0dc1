/- Towards clashesWhole_upto. -/
import Derived.Test.YtpidmmfjcghmeaaGreatCs23
import Derived.Test.YtpidmmfjcghmeaaGreatCs24
import Derived.Test.YtpidmmfjcghmeaaGreatCs04
import Derived.Sort.OwnSorted
import Derived.Laws.StructEq
import Derived.Shelf.SlSortCmp.NoneTotal
set_option maxRecDepth 100000
set_option maxHeartbeats 16000000
set_option linter.all false
namespace Go.Proofs.YtpidmmfjcghmeaaGreat
open Go.RowKit Go.Sort Go.Shelf
abbrev ItB:=Fin 1000000×Fin 1000000
def mV (x:ItB):Itm:=((x.1.val:Int),(x.2.val:Int))
def toB (x:Itm):ItB:=(⟨x.1.toNat % 1000000,Nat.mod_lt _ (by decide)⟩,⟨x.2.toNat % 1000000,Nat.mod_lt _ (by decide)⟩)
def Bd (x:Itm):Prop:=0≤x.1∧x.1<1000000∧0≤x.2∧x.2<1000000
theorem DY {x:Itm} (h:Bd x):mV (toB x)=x:=by
 obtain ⟨a,b⟩:=x;unfold Bd at h;unfold mV toB;simp only at h ⊢;rw [Nat.mod_eq_of_lt (by omega),Nat.mod_eq_of_lt (by omega)];exact Prod.ext (by simp only;omega) (by simp only;omega)
def itCmp (x y:ItB):Int:=if (x.1.val:Int)≠(y.1.val:Int) then (x.1.val:Int)-(y.1.val:Int) else (x.2.val:Int)-(y.2.val:Int)
def lR (x:ItB):List Value:=[.int .i64 (x.1.val:Int),.int .i64 (x.2.val:Int)]
theorem kV (x y:ItB):ltOf itCmp x y=decide (bL (mV x) (mV y)):=by
 unfold ltOf itCmp bL mV;simp only;by_cases h:(x.1.val:Int)=(y.1.val:Int)
 ·simp [h];omega
 ·simp [h];omega
theorem I2:SWO (ltOf itCmp) where
 irrefl x:=by rw [kV];unfold bL;simp
 trans x y z h1 h2:=by rw [kV] at *;simp only [decide_eq_true_eq] at *;unfold bL at *;omega
 ntrans x y z h1 h2:=by rw [kV] at *;simp only [decide_eq_false_iff_not] at *;unfold bL at *;omega
theorem JB (x y:ItB) (w:World):Calls Tryz.prog 228 #[.agg #[.int .i64 (x.1.val:Int),.int .i64 (x.2.val:Int)],.agg #[.int .i64 (y.1.val:Int),.int .i64 (y.2.val:Int)]] w fun e w'=>e=.returned (.int .i64 (itCmp x y))∧∃ q os',w'=grow (w.drewN q) os':=by
 have HE:=Ha (show itCmp x y=if (x.1.val:Int)≠(y.1.val:Int) then (x.1.val:Int)-(y.1.val:Int) else (x.2.val:Int)-(y.2.val:Int) from rfl);obtain ⟨⟨a,ha⟩,⟨b,hb⟩⟩:=x;obtain ⟨⟨c,hc⟩,⟨d,hd⟩⟩:=y;dsimp only at HE ⊢;generalize itCmp _ _=r at HE ⊢;have e1:IntKind.i64.wrap ((a:Int)-(c:Int))=(a:Int)-(c:Int):=IntWalk.i64_in _ (by omega);have e2:IntKind.i64.wrap ((b:Int)-(d:Int))=(b:Int)-(d:Int):=IntWalk.i64_in _ (by omega);go_enter Tryz.func228,Tryz.ntmps228;by_cases h:(a:Int)=(c:Int)
 ·have HR:=Ha (show r=(b:Int)-(d:Int) by rw [HE.out,if_neg (not_not_intro h)]);have hn:((a:Int) != (c:Int))=false:=by simpa using h
  have HH:=Ha h;clear h;go_wp2_with fail;go_ret;exact ⟨by rw [HR.out];rfl,0,_,by rw [alloc_eq_grow,alloc_eq_grow,grow_grow];rfl⟩
 ·have HR:=Ha (show r=(a:Int)-(c:Int) by rw [HE.out,if_pos h]);have hn:((a:Int) != (c:Int))=true:=by simpa using h
  clear h;go_wp2_with fail;go_ret;exact ⟨by rw [HR.out];rfl,0,_,by rw [alloc_eq_grow,alloc_eq_grow,grow_grow];rfl⟩
def cY (l:List Itm):List Value:=(l.map fun x=>[Value.int .i64 x.1,.int .i64 x.2]).flatten
theorem cP (x:Itm) (l:List Itm):cY (x::l)=.int .i64 x.1::.int .i64 x.2::cY l:=rfl
theorem fQ:∀ (l:List Itm),(cY l).length=l.length*2
 | []=>rfl
 | x::l=>by rw [cP,gG,gG,fQ l,gG];omega
theorem nW:∀ (l:List Itm) (t:Nat) (h:t / 2<l.length),(cY l)[t]? = some (if t % 2=0 then Value.int .i64 l[t / 2].1 else .int .i64 l[t / 2].2)
 | x::l,0,_=>rfl
 | x::l,1,_=>rfl
 | x::l,t+2,h=>by
  have h2:(t+2) / 2=t / 2+1:=by omega
  have h3:t / 2<l.length:=by rw [gG] at h;omega
  have h4:(t+2) % 2=t % 2:=by omega
  rw [cP,List.getElem?_cons_succ,List.getElem?_cons_succ,nW l t h3,h4];simp only [h2,gB]
theorem lZ:∀ {us:List (List Value)} {xs:List Itm},cZ 2 ItV us xs→us.flatten=cY xs
 | [],[],_=>rfl
 | [],_::_,h=>h.elim
 | _::_,[],h=>h.elim
 | vs::us,x::xs,h=>by
  have e:vs=_:=h.1.2;rw [List.flatten_cons,lZ h.2,e,cP];rfl
theorem iB:∀ (xs:List Itm),cZ 2 ItV (xs.map fun x=>[Value.int .i64 x.1,.int .i64 x.2]) xs
 | []=>trivial
 | _::xs=>⟨⟨rfl,rfl⟩,iB xs⟩
theorem jD {B:Nat} {w:World} {v:Value} {l:List Itm}:Its B w v l↔w.ownsRow B 250 2 v l.length (cY l):=by
 constructor
 ·rintro ⟨us,h1,h2⟩
  rwa [lZ h1] at h2
 ·intro h;exact ⟨_,iB l,h⟩
theorem lW (d:Array ItB):(flatK lR 2 d).toList=cY (d.toList.map mV):=by
 apply List.ext_getElem?;intro t;by_cases ht:t<d.size*2
 ·rw [nW _ t (by simp;omega),Array.getElem?_toList];have h1:t / 2<d.size:=by omega
  simp [flatK,ht];rw [getElem!_pos d (t / 2) h1];rcases Nat.mod_two_eq_zero_or_one t with h | h
  ·rw [h];rfl
  ·rw [h];rfl
 ·rw [List.getElem?_eq_none (by simp;omega),List.getElem?_eq_none (by rw [fQ];simp;omega)]
theorem IA {w:World} {g:Nat} {cur:Array Value} {e:TypeId} {F:Array Value} (hb:w.heap[g]? = some (.cells cur e (0,0))) (ht:cur.toList.take F.size=F.toList):Holds id w g 0 F:=by
 intro j hj;refine ⟨?_,by simp [World.frozen?,hb]⟩;have h1:(cur.toList.take F.size)[j]? = F.toList[j]? := by rw [ht]
 rw [List.getElem?_take_of_lt hj] at h1;simp only [World.cell?,hb,Nat.zero_add];simp only [Option.isSome_none,Bool.false_eq_true,if_false];rw [← Array.getElem?_toList,h1];simp [hj]
theorem pO {w:World} {g n:Nat} {os:Array Obj} {cur:Array Value} {e:TypeId} {fr:Nat×Nat} (F:Array Value) (hb:w.heap[g]? = some (.cells cur e fr)):
  (grow (putRow id (Sort.ahead w n) g 0 F) os).heap[g]? = some (.cells (putCells id 0 F cur) e fr):=by
 have hg:g<w.heap.size:=(gL hb).1;rw [heap_grow_old _ _ (by simpa using hg)];simp [putRow,mapBlock,Sort.ahead,Array.getElem?_modify,hb,onCells]
theorem kO {w:World} {g n:Nat} {os:Array Obj} (F:Array Value):w.grownBy (grow (putRow id (Sort.ahead w n) g 0 F) os) (some g):=by
 refine ⟨rfl,rfl,rfl,by simp,fun k hk hne=>?_⟩;rw [heap_grow_old _ _ (by simpa using hk)];have:g≠k:=fun e=>hne (by rw [e]);simp [putRow,mapBlock,Sort.ahead,Array.getElem?_modify,this]
theorem mU (cur F:Array Value) (h:F.size≤cur.size):(putCells id 0 F cur).toList.take F.size=F.toList:=by
 apply List.ext_getElem?;intro j;by_cases hj:j<F.size
 ·rw [List.getElem?_take_of_lt hj,Array.getElem?_toList];simp [putCells,hj,show j<cur.size by omega]
 ·rw [List.getElem?_take_eq_none (by omega),List.getElem?_eq_none (by simp;omega)]
theorem yP {B g cap:Nat} {w:World} {l:List Itm} (h:Its B w (.slice (some ⟨g,0,none⟩) l.length cap) l) (hbd:∀ x∈l,Bd x) (hl:l.length≤1000000000):
  Calls Tryz.prog 227 #[.slice (some ⟨g,0,none⟩) l.length cap,.func (.func 228) #[] #[]] w fun e w'=>e=.returned (.tuple #[])∧
   ∃ r,Its B w' (.slice (some ⟨g,0,none⟩) r.length cap) r∧r.Perm l∧r.Pairwise (fun x y=>¬bL y x)∧w.grownBy w' (some g):=by
 have h':=jD.1 h;rcases h'.2 with ⟨hv,_⟩ | ⟨g',cap',cur,hv,hB,hh,hc,hm,hcs,ht⟩
 ·cases hv
 obtain ⟨rfl,rfl⟩:g=g'∧cap=cap':=by injection hv with e1 _ e2;injection e1 with e1;injection e1 with e1;exact ⟨e1,e2⟩
 obtain ⟨d,hd⟩:∃ d:Array ItB,d=(l.map toB).toArray:=⟨_,rfl⟩;have hdl:d.toList.map mV=l:=by
  rw [hd];simp only [List.map_map]
  conv=>rhs;rw [← List.map_id l]
  exact List.map_congr_left fun x hx=>DY (hbd x hx)
 have hds:d.size=l.length:=by rw [hd];simp
 have hF:(flatK lR 2 d).toList=cY l:=by rw [lW,hdl]
 have hFs:(flatK lR 2 d).size=l.length*2:=by rw [size_flatK,hds]
 have hold:HoldsK lR 2 w g 0 d:=IA hh (by rw [hFs,hF];exact ht);have eg:∀ args w,(callFunc 228 args).run Tryz.prog w=.ok (.enter 228 args) w:=enters_of Tryz.func228 (by kernel_rfl) rfl;have hcmp:CmpLays Tryz.prog 228 #[] lR 2 itCmp g 0 d.size w:=fun _ _ _ _ x y=>JB x y _;have hcon:=AnyQ.slices_SortFunc Try.ShItem 2 (fun w=>by kernel_rfl) (fun w=>by kernel_rfl) lR (fun _=>rfl) (fun x v hv=>by simp [lR] at hv;rcases hv with rfl | rfl <;> rfl) itCmp I2 228 #[] g 0 cap d w eg hcmp hold (gL hh).1 (by omega);rw [hds] at hcon;refine hcon.mono fun e w' hp=>?_;obtain ⟨he,d',n,os,hperm,hsort,hw⟩:=hp;subst hw;have hr:(d'.toList.map mV).length=l.length:=by rw [List.length_map,Array.length_toList,← hds];exact hperm.1
 have hF':(flatK lR 2 d').toList=cY (d'.toList.map mV):=lW d';have hFs':(flatK lR 2 d').size=l.length*2:=by rw [size_flatK,← hds];congr 1;exact hperm.1
 have hle:(flatK lR 2 d').size≤cur.size:=by rw [hFs',hcs];exact Nat.mul_le_mul_right 2 hc
 refine ⟨he,d'.toList.map mV,jD.2 ⟨by rw [fQ],.inr ⟨g,cap,putCells id 0 (flatK lR 2 d') cur,rfl,hB,pO _ hh,by rw [hr];exact hc,hm,by simp [putCells,hcs], ?_⟩⟩, ?_, ?_,kO _⟩
 ·have:=mU cur _ hle;rw [hFs',hF'] at this;rw [hr];exact this
 ·have h1:=hperm.2.2;have e1:d.extract 0 l.length=d:=by rw [← hds];exact Array.extract_size
  have e2:d'.extract 0 l.length=d':=by rw [← hds,← hperm.1];exact Array.extract_size
  rw [e1,e2] at h1;have h2:=h1.map mV
  rwa [hdl] at h2
 ·rw [List.pairwise_iff_getElem];intro i j hi hj hij;have hj':j<d'.size:=by simpa using hj
  have h1:=hsort i j (gX _) hij (by rw [← hds,← hperm.1];exact hj');rw [kV,getElem!_pos d' j hj',getElem!_pos d' i (by omega)] at h1;have h2:=of_decide_eq_false h1
  simpa using h2
section
attribute [local go_sem ↓] aI
theorem nR (a b c d:Int) (w:World):(binOp .eql 250 (.agg #[.int .i64 a,.int .i64 b]) (.agg #[.int .i64 c,.int .i64 d])).run Tryz.prog w=.ok (.bool (decide (a=c)&&decide (b=d))) w:=by
 have hS:Tryz.prog.underlying 250=some (.struct (Tryz.prog.fieldsOf 250)):=by kernel_rfl
 have hp:Tryz.prog.stoodInHeld 250=false:=by kernel_rfl
 have a3:=Tryz.isAgg3;have z3:=Tryz.sizeOf3;have u3:=Tryz.underlying3;rw [run_eql_struct,show (10000:Nat)=9999+1 from rfl,run_equalIn_agg w 9999 250 _ _ hS hp];simp only [Program.fieldsOf,Tryz.underlying250];by_cases h1:a=c
 ·by_cases h2:b=d
  ·subst h1 h2;go_simp
  ·subst h1;go_simp
 ·go_simp
theorem oK (a b c d:Int) (w:World):(binOp .neq 250 (.agg #[.int .i64 a,.int .i64 b]) (.agg #[.int .i64 c,.int .i64 d])).run Tryz.prog w=.ok (.bool (!(decide (a=c)&&decide (b=d)))) w:=by
 have hS:Tryz.prog.underlying 250=some (.struct (Tryz.prog.fieldsOf 250)):=by kernel_rfl
 have hp:Tryz.prog.stoodInHeld 250=false:=by kernel_rfl
 have a3:=Tryz.isAgg3;have z3:=Tryz.sizeOf3;have u3:=Tryz.underlying3;rw [run_neq_struct,show (10000:Nat)=9999+1 from rfl,run_equalIn_agg w 9999 250 _ _ hS hp];simp only [Program.fieldsOf,Tryz.underlying250];by_cases h1:a=c
 ·by_cases h2:b=d
  ·subst h1 h2;go_simp
  ·subst h1;go_simp
 ·go_simp
theorem DH {B:Nat} {w:World} {v:Value} {l:List Itm} (h:Its B w v l) (hbd:∀ x∈l,Bd x) (hl:l.length≤1000000000):
  Calls Tryz.prog 227 #[v,.func (.func 228) #[] #[]] w fun e w'=>e=.returned (.tuple #[])∧
   ∃ r,r.length=l.length∧Its B w' v r∧r.Perm l∧r.Pairwise (fun x y=>¬bL y x)∧Chg (fun k=>v.ownBlock=some k) w w':=by
 obtain ⟨A,c,rfl⟩:=h.shape;by_cases hn:l.length=0
 ·obtain rfl:l=[]:=yM hn;refine (AnyF.slices_SortFunc_none Try.ShItem A c _ w).mono ?_;rintro e w' ⟨rfl,rfl⟩;exact ⟨rfl,[],rfl,h,List.Perm.refl _,List.Pairwise.nil,Chg.refl _ _⟩
 ·obtain ⟨us,hf,hr⟩:=h;obtain ⟨g,cap,e,hg,hgl⟩:∃ g cap,Value.slice A l.length c=.slice (some ⟨g,0,none⟩) l.length cap∧B≤g∧g<w.heap.size:=by
   rcases hr.2 with ⟨e,_⟩ | ⟨g,cap,cur,e,hB,hh,_⟩
   ·injection e with _ e _;omega
   ·exact ⟨g,cap,e,hB,(gL hh).1⟩
  have h:Its B w (.slice A l.length c) l:=⟨us,hf,hr⟩;rw [e] at h ⊢;refine (yP h hbd hl).mono ?_;rintro e' w' ⟨rfl,r,h1,h2,h3,h4⟩;have hle:r.length=l.length:=h2.length_eq;rw [hle] at h1;exact ⟨rfl,r,hle,h1,h2,h3,(Chg.refl _ w).grown h4 fun k e _=>e⟩
theorem sJ {l:List Itm} (hw:l.Pairwise fun x y=>¬bL y x) {k:Nat} (hk:k+1<l.length) (h:(l.take (k+1)).Pairwise bL) (hne:l[k]≠l[k+1]):(l.take (k+2)).Pairwise bL:=by
 rw [List.take_succ_eq_append_getElem hk,List.pairwise_append];refine ⟨h,by simp,fun x hx y hy=>?_⟩;rw [gV] at hy;subst hy;have h1:bL l[k] l[k+1]:=by
  have h2:=List.pairwise_iff_getElem.1 hw k (k+1) (by omega) hk (by omega);exact Classical.byContradiction fun h3=>hne (bL.total h3 h2)
 obtain ⟨i,hi,rfl⟩:=List.mem_iff_getElem.1 hx;rw [yA] at hi;rw [List.getElem_take];by_cases e:i=k
 ·subst e;exact h1
 ·have h2:=List.pairwise_iff_getElem.1 h i k (by rw [yA];omega) (by rw [yA];omega) (by omega);rw [List.getElem_take,List.getElem_take] at h2;exact h2.trans h1
end
section
attribute [local go_sem ↓] aI
theorem nX:∀ (l:List Itm) (k:Nat) (x:Itm),((cY l).set (k*2) (.int .i64 x.1)).set (k*2+1) (.int .i64 x.2)=cY (l.set k x)
 | [],k,x=>rfl
 | y::l,0,x=>rfl
 | y::l,k+1,x=>by
  rw [cP,show (k+1)*2=k*2+1+1 by omega,List.set_cons_succ,List.set_cons_succ];show Value.int .i64 y.1::Value.int .i64 y.2::(((cY l).set (k*2) _).set (k*2+1) _)=_;rw [nX l k x,List.set_cons_succ,cP]
theorem lV:∀ (l:List Itm) (k:Nat),(cY l).take (k*2)=cY (l.take k)
 | [],k=>by simp [cY]
 | y::l,0=>by simp [cY]
 | y::l,k+1=>by
  rw [cP,show (k+1)*2=k*2+1+1 by omega,List.take_succ_cons,List.take_succ_cons,lV l k,List.take_succ_cons,cP]
section
variable {B g cap n:Nat} {w:World} {l:List Itm}
theorem Its.blk (h:Its B w (.slice (some ⟨g,0,none⟩) n cap) l):n=l.length∧l.length≤cap∧cap≤maxLen∧B≤g∧∃ cur,w.heap[g]? = some (.cells cur 250 (0,0))∧cur.size=cap*2∧cur.toList.take (l.length*2)=cY l:=by
 rcases (jD.1 h).2 with ⟨hv,_⟩ | ⟨g',cap',cur,hv,hB,hh,hc,hm,hcs,ht⟩
 ·cases hv
 ·injection hv with e1 e2 e3
  injection e1 with e1
  injection e1 with e1
  subst e1 e2 e3;exact ⟨rfl,hc,hm,hB,cur,hh,hcs,ht⟩
theorem Its.mk {cur:Array Value} (hB:B≤g) (hh:w.heap[g]? = some (.cells cur 250 (0,0))) (hc:l.length≤cap) (hm:cap≤maxLen) (hcs:cur.size=cap*2) (ht:cur.toList.take (l.length*2)=cY l):Its B w (.slice (some ⟨g,0,none⟩) l.length cap) l:=
 jD.2 ⟨by rw [fQ],.inr ⟨g,cap,cur,rfl,hB,hh,hc,hm,hcs,ht⟩⟩
theorem Its.cells (h:Its B w (.slice (some ⟨g,0,none⟩) n cap) l) {k:Nat} (hk:k<l.length):w.cell? ⟨g,k*2,none⟩=some (.int .i64 l[k].1)∧w.cell? ⟨g,k*2+1,none⟩=some (.int .i64 l[k].2)∧w.frozen? ⟨g,k*2,none⟩=false∧w.frozen? ⟨g,k*2+1,none⟩=false:=by
 obtain ⟨hn,_,_,_,cur,hh,_,_⟩:=h.blk;obtain ⟨bb,off,e,_,h1,h2⟩:=aR.at_ (hn▸h.at_) hk
 injection e with e
 injection e with e1 e2
 subst e1 e2;rw [Nat.zero_add] at h1 h2;exact ⟨h1,h2,by simp [World.frozen?,hh],by simp [World.frozen?,hh]⟩
theorem Its.putAt (h:Its B w (.slice (some ⟨g,0,none⟩) n cap) l) (k:Nat) (x:Itm):
  Its B ((w.setCell ⟨g,k*2,none⟩ (.int .i64 x.1)).setCell ⟨g,k*2+1,none⟩ (.int .i64 x.2)) (.slice (some ⟨g,0,none⟩) n cap) (l.set k x):=by
 obtain ⟨hn,hc,hm,hB,cur,hh,hcs,ht⟩:=h.blk;subst hn;have hl:(l.set k x).length=l.length:=by simp
 rw [← hl];refine Its.mk hB (aO (aO hh _ _) _ _) (by rw [hl];exact hc) hm (by simp [hcs]) ?_;rw [hl];simp only [Array.toList_setIfInBounds];rw [← nX,← ht,List.take_set,List.take_set]
end
theorem nK {P:Program} (w:World) (t ty elem:TypeId) (size g o n c:Nat) (z:Value) (cur:Array Value) (T:TypeId)
  (hu:P.underlying t=some (.slice elem)) (hv:(zeroValue elem).run P w=.ok z w) (hz:(Builtin.zeroCells z.cells n).size=n*size) (hn:0<n)
  (hg:w.heap[g]? = some (.cells cur T (0,0))) (hfit:o+n*size≤cur.size) (h1:∀ v∈(Builtin.zeroCells z.cells n).toList,v.oneCell'=true):
  (Builtin.clear_ #[t] ty #[.slice (some ⟨g,o,none⟩) n c]).run P w=.ok (.tuple #[]) (w.setRow g (cur.toList.take o++(Builtin.zeroCells z.cells n).toList++cur.toList.drop (o+n*size)).toArray):=by
 have hst:=run_storeCells_at P g o T (Builtin.zeroCells z.cells n).toList 0 cur w hg (by simpa [hz] using hfit) h1;obtain ⟨m,rfl⟩:∃ m,n=m+1:=⟨n-1,by omega⟩;simp only [Nat.add_zero,Array.length_toList,hz] at hst;simp [Builtin.clear_,run_underlying hu,hv,hst]
end
section
attribute [local go_sem ↓] aI
structure Cmp (l c:List Itm) (k p:Nat):Prop where
 len:c.length=l.length
 pl:p≤l.length
 k1:1≤k
 kp:k<p
 rest:∀ i (h:i<l.length) (h2:i<c.length),k≤i→c[i]=l[i]
 str:(c.take k).Pairwise bL
 mem:∀ x,x∈c.take k↔x∈l.take p
 last:∀ (h1:k-1<c.length) (h2:p-1<l.length),c[k-1]=l[p-1]
theorem Cmp.start {l:List Itm} {k:Nat} (h1:1≤k) (hk:k<l.length) (hs:(l.take k).Pairwise bL) (he:l[k]=l[k-1]):Cmp l l k (k+1):=by
 refine ⟨rfl,hk,h1,by omega,fun i _ _ _=>rfl,hs,fun x=>?_,fun _ _=>by simpa using he.symm⟩;rw [List.take_succ_eq_append_getElem hk,List.mem_append,gV];constructor
 ·exact .inl
 ·rintro (h | rfl)
  ·exact h
  ·rw [he,List.mem_take_iff_getElem];exact ⟨k-1,by omega,rfl⟩
theorem Cmp.dup {l c : List Itm} {k p : Nat} (h : Cmp l c k p) (hp : p < l.length) (he : l[p] = l[p - 1]'(by omega)) : Cmp l c k (p + 1) := by
 have hkp:=h.kp;refine ⟨h.len,hp,h.k1,by omega,h.rest,h.str,fun x=>?_,fun h1 h2=>by rw [h.last h1 (by omega)];simpa using he.symm⟩;rw [h.mem,List.take_succ_eq_append_getElem hp,List.mem_append,gV];constructor
 ·exact .inl
 ·rintro (h | rfl)
  ·exact h
  ·rw [he,List.mem_take_iff_getElem];exact ⟨p-1,by omega,rfl⟩
theorem Cmp.new {l c : List Itm} {k p : Nat} (h : Cmp l c k p) (hw : l.Pairwise fun x y => ¬ bL y x) (hp : p < l.length) (he : l[p] ≠ l[p - 1]'(by omega)) : Cmp l (c.set k l[p]) (k + 1) (p + 1) := by
 have hlen:=h.len;have hkp:=h.kp;have hk1:=h.k1;have hkc:k<c.length:=by omega
 have ht:(c.set k l[p]).take (k+1)=c.take k++[l[p]]:=by
  rw [List.take_succ_eq_append_getElem (by simpa using hkc),List.take_set_of_le (gO _),List.getElem_set_self]
 have hlt : bL (l[p - 1]'(by omega)) l[p] := by
  have h2:=List.pairwise_iff_getElem.1 hw (p-1) p (by omega) hp (by omega);exact Classical.byContradiction fun h3=>he (bL.total h2 h3)
 refine ⟨by simpa using hlen,hp,by omega,by omega,fun i h1 h2 hi=>?_, ?_,fun x=>?_,fun h1 h2=>by simp⟩
 ·rw [List.getElem_set_ne (by omega)];exact h.rest i h1 (by simpa using h2) (by omega)
 ·rw [ht,List.pairwise_append];refine ⟨h.str,by simp,fun x hx y hy=>?_⟩;rw [gV] at hy;subst hy;have hlast:=h.last (by omega) (by omega);rw [← hlast] at hlt;obtain ⟨i,hi,rfl⟩:=List.mem_iff_getElem.1 hx;rw [yA] at hi;rw [List.getElem_take];by_cases e:i=k-1
  ·subst e;exact hlt
  ·have h2:=List.pairwise_iff_getElem.1 h.str i (k-1) (by rw [yA];omega) (by rw [yA];omega) (by omega);rw [List.getElem_take,List.getElem_take] at h2;exact h2.trans hlt
 ·rw [ht,List.take_succ_eq_append_getElem hp,List.mem_append,List.mem_append,h.mem]
theorem EP {x y:Itm} (h:x=y) (w:World):(binOp .eql 250 (.agg #[.int .i64 x.1,.int .i64 x.2]) (.agg #[.int .i64 y.1,.int .i64 y.2])).run Tryz.prog w=.ok (.bool true) w:=by
 subst h;rw [nR];simp
theorem G1 {x y:Itm} (h:x≠y) (w:World):(binOp .eql 250 (.agg #[.int .i64 x.1,.int .i64 x.2]) (.agg #[.int .i64 y.1,.int .i64 y.2])).run Tryz.prog w=.ok (.bool false) w:=by
 rw [nR];have:(decide (x.1=y.1)&&decide (x.2=y.2))=false:=by
  rw [Bool.eq_false_iff];intro h1;rw [yF,decide_eq_true_iff,decide_eq_true_iff] at h1;exact h (Prod.ext h1.1 h1.2)
 rw [this]
theorem FG {x y:Itm} (h:x≠y) (w:World):(binOp .neq 250 (.agg #[.int .i64 x.1,.int .i64 x.2]) (.agg #[.int .i64 y.1,.int .i64 y.2])).run Tryz.prog w=.ok (.bool true) w:=by
 rw [oK];have:(decide (x.1=y.1)&&decide (x.2=y.2))=false:=by
  rw [Bool.eq_false_iff];intro h1;rw [yF,decide_eq_true_iff,decide_eq_true_iff] at h1;exact h (Prod.ext h1.1 h1.2)
 rw [this];rfl
theorem IL {x y:Itm} (h:x=y) (w:World):(binOp .neq 250 (.agg #[.int .i64 x.1,.int .i64 x.2]) (.agg #[.int .i64 y.1,.int .i64 y.2])).run Tryz.prog w=.ok (.bool false) w:=by
 subst h;rw [oK];simp
theorem wS (B g n cap:Nat) (w:World) (l:List Itm) (h:Its B w (.slice (some ⟨g,0,none⟩) n cap) l) (hs:l.Pairwise fun x y=>¬bL y x):
  Calls Tryz.prog 229 #[.slice (some ⟨g,0,none⟩) n cap] w fun e w'=>(∃ r,e=.returned (.slice (some ⟨g,0,none⟩) r.length cap)∧Its B w' (.slice (some ⟨g,0,none⟩) r.length cap) r∧r.Pairwise bL∧∀ x,x∈r↔x∈l)∧Chg (· = g) w w':=by
 have hgt:Tryz.prog.eqGuardType Tryz.prog.depth 250=false:=by kernel_rfl
 obtain ⟨hn,hc,hm,hB,_⟩:=h.blk;subst hn;have hlm:=(aH.len h.at_).2;have H:=Ha h;have HS:=Ha hs;clear h hs;go_enter Tryz.func229,Tryz.ntmps229;by_cases h2:l.length<2
 ·have h3:(l.length:Int)<2:=by omega
  clear h2;go_wp2_with fail;go_ret;refine ⟨⟨l,rfl,H.out, ?_,fun _=>Iff.rfl⟩,Chg.refl _ _⟩
  match l,h3 with
  | [],_=>exact .nil
  | [x],_=>simp
  | _::_::_,h3=>simp at h3;omega
 have h3:¬(l.length:Int)<2:=by omega
 go_wp2_with fail
 go_loopw [3] (fun iv wr=>∃ k:Nat,1≤k∧k≤l.length∧iv=.int .i64 k∧(l.take k).Pairwise bL∧Its B wr (.slice (some ⟨g,0,none⟩) l.length cap) l∧Chg (· = g) w wr) (fun iv _=>l.length-(intOf iv).toNat)
 case atStart=>exact ⟨1,gO _,by omega,rfl,by
  match l,h2 with
  | [],h2=>simp at h2
  | x::l,_=>simp,H.out,Chg.refl _ _⟩
 case round=>
  obtain ⟨k,hk1,hk,rfl,hst,hi,hcg⟩:=hrel;obtain ⟨HI,HST,HC⟩:=Zh3 hi hst hcg;clear hi hst hcg;have hd:∀ m,Below wr.heap.size wr (wr.drewN m):=fun m=>lI (gR _ _) m;by_cases hlt:k<l.length
  ·obtain ⟨j,hj⟩:∃ j,j=k-1:=⟨_,rfl⟩;have hjk:IntKind.i64.wrap ((k:Int)-1)=(j:Int):=by rw [hj,IntWalk.i64_in _ (by omega)];omega
   have hjl:j<l.length:=by omega
   have HJ:=Ha hj;clear hj;obtain ⟨z0,z1,_,_⟩:=HI.out.cells hlt;obtain ⟨y0,y1,_,_⟩:=HI.out.cells hjl;obtain ⟨x,hx⟩:∃ x,x=l[k]:=⟨_,rfl⟩;obtain ⟨y,hy⟩:∃ y,y=l[j]:=⟨_,rfl⟩;rw [← hx] at z0 z1;rw [← hy] at y0 y1;have HX:=Ha hx;have HY:=Ha hy;clear hx hy;by_cases he:x=y
   ·have heq:=EP he;have HE:=Ha he;clear he;go_wp2_with fail
    go_quiet (fail)
    have HCS:=Ha (show Cmp l l k (k+1) from Cmp.start hk1 hlt HST.out (by
     have:=HE.out;rw [HX.out,HY.out] at this;rw [this]
     congr 1))
    have HD:=Ha hd;have hck:¬cap=k:=by omega
    have hkc:(k:Int)≤(cap:Int):=by omega
    have hkl:(k:Int)≤(l.length:Int):=by omega
    clear z0 z1 y0 y1 heq hjk;go_wp2_with fail
    go_loopw [3,5] (fun kv iv wq=>∃ (k' q:Nat) (c:List Itm),kv=.int .i64 k'∧iv=.int .i64 q∧1≤q∧q≤l.length-k∧Cmp l c k' (k+q)∧Its B wq (.slice (some ⟨g,0,none⟩) l.length cap) c∧Chg (· = g) w wq) (fun _ iv _=>l.length-k-(intOf iv).toNat)
    case atStart=>exact ⟨k,1,l,rfl,rfl,gO _,by omega,HCS.out,HI.out.below (HD.out _),HC.out.trans (Chg.of (HD.out _))⟩
    case round=>
     obtain ⟨k',q,c,rfl,rfl,hq1,hq,hcm,hi,hcg⟩:=hrel;clear HI HC HD HCS;obtain ⟨HI,HCM,HC⟩:=Zh3 hi hcm hcg;have hcl:=hcm.len;have hkp:=hcm.kp;have hd:∀ m,Below wr.heap.size wr (wr.drewN m):=fun m=>lI (gR _ _) m;have HCL:=Ha hcl;clear hi hcm hcg hcl;by_cases hql:q<l.length-k
     ·obtain ⟨i,hi⟩:∃ i,i=q-1:=⟨_,rfl⟩;have hiq:IntKind.i64.wrap ((q:Int)-1)=(i:Int):=by rw [hi,IntWalk.i64_in _ (by omega)];omega
      have hqi:(q:Int)<((l.length-k:Nat):Int):=by omega
      have hil:i<l.length-k:=by omega
      have hp:k+q<l.length:=by omega
      have hp2:k+i<l.length:=by omega
      have HII:=Ha hi;have hii:k'≤k+i:=by omega
      have HPI:Hid (k+q-1=k+i):=by show _=_;omega
      clear hi;obtain ⟨z0,z1,_,_⟩:=HI.out.cells (k:=k+q) (by have:=HCL.out;omega);obtain ⟨y0,y1,_,_⟩:=HI.out.cells (k:=k+i) (by have:=HCL.out;omega);obtain ⟨s0,s1,f0,f1⟩:=HI.out.cells (k:=k') (by have:=HCL.out;omega);rw [HCM.out.rest (k+q) hp (by have:=HCL.out;omega) (by omega)] at z0 z1;rw [HCM.out.rest (k+i) hp2 (by have:=HCL.out;omega) hii] at y0 y1;rw [show (k+q)*2=k*2+q*2 by omega] at z0 z1;rw [show (k+i)*2=k*2+i*2 by omega] at y0 y1;obtain ⟨X,hX⟩:∃ X,X=l[k+q]:=⟨_,rfl⟩;obtain ⟨Y,hY⟩:∃ Y,Y=l[k+i]:=⟨_,rfl⟩;rw [← hX] at z0 z1;rw [← hY] at y0 y1;have HXX:=Ha hX;have HYY:=Ha hY;have hkn:k'<l.length:=by omega
      clear hX hY;by_cases he:X=Y
      ·have heq:=IL he;have HEE:=Ha he;clear he;go_wp2_with fail
       go_quiet (fail)
       go_wp2_with fail
       go_roundw
       case rel=>
        refine ⟨k',q+1,c,rfl,by go_num,by omega,by omega, ?_,HI.out.below (hd _),HC.out.trans (Chg.of (hd _))⟩;refine HCM.out.dup hp ?_;have:=HEE.out;rw [HXX.out,HYY.out] at this;simp only [HPI.out];exact this
       case measure=>simp only [intOf];omega
      ·have heq:=FG he;have HEE:=Ha he;clear he;go_wp2_with fail
       go_quiet (fail)
       go_wp2_with fail
       go_roundw
       case rel=>
        refine ⟨k'+1,q+1,c.set k' X,by go_num,by go_num,by omega,by omega, ?_,(HI.out.below (hd _)).putAt k' X,((HC.out.trans (Chg.of (hd _))).setCell (p:=⟨g,_,none⟩) (fun _=>rfl) _).setCell (p:=⟨g,_,none⟩) (fun _=>rfl) _⟩;have:=HCM.out.new HS.out hp (fun e=>HEE.out (by rw [HXX.out,HYY.out,e];simp only [HPI.out]));rw [HXX.out];exact this
       case measure=>simp only [intOf];omega
     ·have hqe:¬(q:Int)<((l.length-k:Nat):Int):=by omega
      have hpe:k+q=l.length:=by omega
      have hcle:=HCL.out;obtain ⟨-,hcc,hcm,-,cur,hh,hcs,ht⟩:=HI.out.blk;have hzc:(Builtin.zeroCells (Value.agg #[.int .i64 0,.int .i64 0]).cells (l.length-k')).size=(l.length-k')*2:=by simp [Builtin.zeroCells,Value.cells]
      have hcl:=fun ty=>nK (P:=Tryz.prog) wr 97 ty 250 2 g (k'*2) (l.length-k') (cap-k') (.agg #[.int .i64 0,.int .i64 0]) cur 250 Tryz.underlying97 (by kernel_rfl) hzc (by omega) hh (by rw [hcs];omega) (fun v hv=>by
       simp [Builtin.zeroCells,Value.cells] at hv;obtain ⟨m,_,rfl⟩:=hv;rcases Nat.mod_two_eq_zero_or_one m with h | h <;> simp [h] <;> rfl)
      generalize hcur:(cur.toList.take (k'*2)++(Builtin.zeroCells (Value.agg #[.int .i64 0,.int .i64 0]).cells (l.length-k')).toList++cur.toList.drop (k'*2+(l.length-k')*2)).toArray=cur' at hcl;have hcz:cur'.size=cap*2:=by
       rw [← hcur];simp only [List.size_toArray,gI,yA,List.length_drop,Array.length_toList,hzc,hcs];omega
      have hct:cur'.toList.take (k'*2)=cur.toList.take (k'*2):=by
       rw [← hcur,List.append_assoc,List.take_append_of_le_length (by rw [yA,Array.length_toList,hcs];omega),List.take_take,Nat.min_self]
      have HR:=Ha (show Its B (wr.setRow g cur') (.slice (some ⟨g,0,none⟩) k' cap) (c.take k') from by
       have hl:(c.take k').length=k':=by rw [yA];omega
       have:=Its.mk (l:=c.take k') hB (dA (cur':=cur') hh) (by omega) hm hcz (by
        rw [hl,hct,← lV,← ht,List.take_take]
        congr 1
        omega)
       rwa [hl] at this)
      obtain ⟨HLK,HW,HME⟩:=Zh3 (show (c.take k').length=k' by rw [yA];omega) (show Chg (· = g) wr (wr.setRow g cur') from ⟨rfl,rfl,rfl,by simp [World.setRow],fun i _ hi=>dS hi⟩) (show ∀ x,x∈c.take k'↔x∈l from fun x=>by rw [HCM.out.mem,hpe,List.take_length]);have hck:¬cap=k':=by omega
      have hkc:(k':Int)≤(cap:Int):=by omega
      have hkl:(k':Int)≤(l.length:Int):=by omega
      clear hcur hcz hct hcs ht hh hzc hpe hcle;generalize hW5:wr.setRow g cur'=w5 at *;go_wp2_with fail;go_ret;refine ⟨⟨c.take k', ?_, ?_,HCM.out.str,by intros;exact HME.out _⟩,HC.out.trans HW.out⟩
      ·rw [HLK.out];rfl
      ·rw [HLK.out];exact HR.out
   ·have heq:=G1 he;have HE:=Ha he;clear he;go_wp2_with fail
    go_quiet (fail)
    go_wp2_with fail
    go_roundw
    case rel=>
     refine ⟨k+1,by omega,by omega,by go_num, ?_,HI.out.below (hd _),HC.out.trans (Chg.of (hd _))⟩;obtain ⟨i,rfl⟩:∃ i,k=i+1:=⟨j,by have:=HJ.out;omega⟩;refine sJ HS.out hlt HST.out fun e=>HE.out ?_;have hji:j=i:=by have:=HJ.out;omega
     rw [HX.out,HY.out];simp only [hji];exact e.symm
    case measure=>simp only [intOf];omega
  ·obtain rfl:k=l.length:=by omega
   rw [List.take_length] at HST;go_wp2_with fail;go_ret;exact ⟨⟨l,rfl,HI.out,HST.out,fun _=>Iff.rfl⟩,HC.out⟩
theorem pD (w:World) (c:Nat):
  Calls Tryz.prog 229 #[.slice none 0 c] w fun e w'=>e=.returned (.slice none 0 c)∧w'=w:=by
 go_enter Tryz.func229,Tryz.ntmps229;go_wp2_with fail;go_ret;exact ⟨rfl,rfl⟩
theorem eO {α:Type} [DecidableEq α]:∀ {l m:List α},l.Nodup→(∀ x∈l,x∈m)→l.length≤m.length
 | [],_,_,_=>gX _
 | x::l,m,h,hm=>by
  rw [List.nodup_cons] at h;have hx:=hm x (yH ..);have h1:=eO (l:=l) (m:=m.erase x) h.2 fun y hy=>(List.mem_erase_of_ne fun e=>h.1 (by subst e;exact hy)).2 (hm y (yI _ hy));have h2:=List.length_erase_of_mem hx;have h3:=List.length_pos_of_mem hx;rw [gG];omega
theorem FK (B:Nat) (v:Value) (w:World) (l:List Itm) (h:Its B w v l) (hbd:∀ x∈l,Bd x) (hl:l.length≤1000000000):
  Calls Tryz.prog 165 #[v] w fun e w'=>(∃ u r,e=.returned u∧Its B w' u r∧r.Pairwise bL∧(∀ x,x∈r↔x∈l)∧r.length≤l.length∧(u.ownBlock=v.ownBlock))∧Chg (fun k=>v.ownBlock=some k) w w':=by
 have HSO:=Ha (DH h hbd hl);obtain ⟨A,c,rfl⟩:=h.shape;have hsh:(A=none∧l=[]∧c=0)∨∃ g,A=some ⟨g,0,none⟩:=by
  rcases (jD.1 h).2 with ⟨e,hn⟩ | ⟨g,cap,cur,e,_⟩
  ·injection e with e1 e2 e3
   exact .inl ⟨e1,yM hn,e3⟩
  ·injection e with e1 e2 e3
   exact .inr ⟨g,e1⟩
 clear h hbd;go_enter Tryz.func165,Tryz.ntmps165;go_wp2_with fail;refine (HSO.out).mono ?_;rintro e w1 ⟨rfl,r,hlen,hr,hp,hst,hc⟩;rcases hsh with ⟨rfl,rfl,rfl⟩ | ⟨g,rfl⟩
 ·have HR:=Ha hr;have HC:=Ha hc;obtain rfl:r=[]:=yM hlen;have HCO:=Ha (pD w1 0);rw [show ([]:List Itm).length=0 from rfl] at *;clear hr hp hst hc hlen;go_wp2_with fail;refine (HCO.out).mono ?_;rintro e w2 ⟨rfl,rfl⟩;go_wp2_with fail;go_ret;exact ⟨⟨_,[],rfl,HR.out,List.Pairwise.nil,fun _=>Iff.rfl,gO _,rfl⟩,HC.out⟩
 ·rw [← hlen] at hr;have HCO:=Ha (wS _ _ _ _ _ _ hr hst);have HC:=Ha hc;have HP:=Ha hp;have HLN:=Ha hlen;rw [hlen] at HCO;clear hr hp hst hc hlen;go_wp2_with fail;refine (HCO.out).mono ?_;rintro e w2 ⟨⟨q,rfl,hq,hqs,hqm⟩,hc2⟩;have HQ:=Ha hq;have HQS:=Ha hqs;have HC2:=Ha hc2;have HQM:=Ha (show ∀ x,x∈q↔x∈l from fun x=>(hqm x).trans HP.out.mem_iff);clear hq hqs hqm hc2;have HQL:=Ha (show q.length≤l.length from by
   have hn:q.Nodup:=HQS.out.imp fun h e=>by subst e;exact bL.irr _ h
   exact eO hn fun x hx=>(HQM.out x).1 hx)
  go_wp2_with fail;go_ret;exact ⟨⟨_,q,rfl,HQ.out,HQS.out,by intros;exact HQM.out _,HQL.out,rfl⟩,HC.out.trans (HC2.out.mono fun i _ e=>by subst e;rfl)⟩
end
end Go.Proofs.YtpidmmfjcghmeaaGreat
