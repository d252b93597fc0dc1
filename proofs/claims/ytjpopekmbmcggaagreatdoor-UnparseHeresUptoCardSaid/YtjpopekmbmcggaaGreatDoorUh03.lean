/- Towards unparseHeres_card. -/
import Derived.Test.YtjpopekmbmcggaaGreatDoorRows
import Derived.WalkKit
import Derived.WalkSpells
import Derived.WalkLawsBesides
import Derived.Lib.Strings
import Derived.Maps.AppendAt
import Derived.Deep.AppendLies
import Derived.Deep.Draws
import Derived.BigQuiet
import Derived.Lib.Builder
import Derived.Lib.AppendStr
import Derived.Lib.UnsafeStr
import Derived.RegionTactic
import Derived.Test.YtjpopekmbmcggaaGreatDoorUh01
import Derived.Laws.RangeAny
import Derived.Laws.Runes
import Derived.Lib.OthersKept
import Derived.LoopTactic
import Derived.Outline
import Derived.Deep.LoopGhost
import Derived.Deep.QuietTactic
import Derived.Deep.RegionHeld
set_option maxRecDepth 100000
set_option maxHeartbeats 16000000
namespace Go.Proofs.YtjpopekmbmcggaaGreatDoor
open Go.RowKit
def bs (l:List UInt8):Value:=.string ⟨l.toArray⟩
theorem bN {k:IntKind} {a b:Int} (h:a=b):Ending.returned (.int k a)=.returned (.int k b):=by rw [h]
theorem aC {a b:Bool} (h:a=b):Ending.returned (.bool a)=.returned (.bool b):=by rw [h]
theorem aL (s:ByteArray):s.size=s.toList.length:=by rw [Lib.toList_data];exact Lib.size_eq s
theorem aX {s t:ByteArray} (h:s.toList=t.toList):s=t:=by
 rw [Lib.toList_data,Lib.toList_data] at h;rw [← Lib.mk_data s,← Lib.mk_data t,h]
theorem cM (s:ByteArray):(⟨s.toList.toArray⟩:ByteArray)=s:=by rw [Lib.toList_data,Lib.mk_data]
theorem aI (l:List UInt8):(⟨l.toArray⟩:ByteArray).toList=l:=ByteArray.toList_mk l
theorem mK:ByteArray.empty.toList=[]:=aI []
theorem vK (s:ByteArray):s=ByteArray.empty↔s.toList=[]:=⟨fun e=>by rw [e,mK],fun e=>aX (by rw [e,mK])⟩
theorem gX (s:ByteArray) (a b:Nat):(s.extract a b).toList=(s.toList.drop a).take (b-a):=by rw [Lib.extract_toList,Lib.toList_data]
theorem gS (s:ByteArray) (b:Nat):(s.extract 0 b).toList=s.toList.take b:=by rw [gX];simp
theorem kT (s:ByteArray) (a:Nat):(s.extract a s.size).toList=s.toList.drop a:=by
 rw [gX,aL];exact List.take_of_length_le (by simp)
theorem eD (s t:ByteArray):(s++t).toList=s.toList++t.toList:=by
 rw [Lib.toList_data,Lib.toList_data,Lib.toList_data];simp [ByteArray.data_append]
theorem eH (s : ByteArray) (i : Nat) (h : i < s.size) : s.toList[i]'(by rw [← aL]; exact h) = s[i] := by
 have e:=Lib.toList_data s;simp only [e];rfl
theorem get?_list (s:ByteArray) (i:Nat) (h:i<s.size):s.toList[i]? = some s[i]:=by
 rw [← eH s i h];exact List.getElem?_eq_getElem _
theorem kR (a:Addr) (n:Nat):(a.add n).block=a.block:=by unfold Addr.add;split <;> rfl
theorem xE (a:Addr) (i j:Nat):(a.add i).add j=a.add (i+j):=by
 unfold Addr.add;by_cases hi:i=0 <;> by_cases hj:j=0 <;> simp [hi,hj,Nat.add_assoc]
def Row (w:World) (B size:Nat) (A:Option Addr) (n:Nat) (xs:List Value):Prop:=
 xs.length=n*size∧(0<n→∃ ad,A=some ad∧ad.block<B∧∀ j u,xs[j]? = some u→w.cell? (ad.add j)=some u)
section
variable {w w':World} {B B' size n:Nat} {A:Option Addr} {xs:List Value}
theorem Row.nil:Row w B size A 0 []:=⟨by simp,fun h=>absurd h (by omega)⟩
theorem Row.keep (h:Row w B size A n xs) (hk:∀ p:Addr,p.block<B→w'.cell? p=w.cell? p):Row w' B size A n xs:=
 ⟨h.1,fun hn=>by
  obtain ⟨ad,e,hb,hc⟩:=h.2 hn;exact ⟨ad,e,hb,fun j u hu=>(hk _ (by rw [kR];exact hb)).trans (hc j u hu)⟩⟩
theorem Row.more (h:Row w B size A n xs) (hB:B≤B'):Row w B' size A n xs:=
 ⟨h.1,fun hn=>by
  obtain ⟨ad,e,hb,hc⟩:=h.2 hn;exact ⟨ad,e,by omega,hc⟩⟩
theorem Row.below (h:Row w B size A n xs) (hb:Below B w w'):Row w' B size A n xs:=h.keep fun _ hp=>hb.cell hp
theorem Row.alloc (h:Row w B size A n xs) (hB:B≤w.heap.size) (o:Obj):Row (w.alloc o) B size A n xs:=h.keep fun p hp=>World.cell?_alloc_lt w o p (by omega)
theorem Row.drew (h:Row w B size A n xs):Row w.drew B size A n xs:=h
end
theorem wF {w:World} {base size n:Nat} {e:TypeId} {v:Value} {xs:List Value} (h:w.ownsRow base e size v n xs):∃ A c,v=.slice A n c∧n≤c∧c≤maxLen:=by
 rcases h.2 with ⟨rfl,rfl⟩ | ⟨g,cap,cur,rfl,_,_,h1,h2,_⟩
 ·exact ⟨none,0,rfl,Nat.le_refl _,by simp [maxLen]⟩
 ·exact ⟨_,cap,rfl,h1,h2⟩
theorem CI {W w1:World} (hb:Below W.heap.size W w1):(∀ b o,b<W.heap.size→w1.cell? ⟨b,o,none⟩=W.cell? ⟨b,o,none⟩)∧(∀ b o,b<W.heap.size→w1.frozen? ⟨b,o,none⟩=W.frozen? ⟨b,o,none⟩):=
 ⟨fun b o h=>hb.cell (p:=⟨b,o,none⟩) h,fun b o h=>hb.frozen (p:=⟨b,o,none⟩) h⟩
theorem belowN {B:Nat} {a w:World} (h:Below B a w) (n:Nat):Below B a (w.drewN n):=⟨h.os,h.tape,h.output,h.size,h.block⟩
end Go.Proofs.YtjpopekmbmcggaaGreatDoor
namespace Go.Proofs.YtjpopekmbmcggaaGreatDoor
open Go.RowKit
section
variable {P:Program}
theorem bW {id:Nat} {Q:Exit→Act→World→Prop} {a:Act} {w:World} {l:List Oper} {S:Type} (f:S→World) (hm:P.follows .mixedOrders=true) (hB:Region.lexB .any l.toArray=true)
  (hC:∃ x,w.drew=f x) (h:wpQuiet P l.toArray (fun w'=>∃ x,w'=f x) (fun a'=>∀ w',(∃ x,w'=f x)→Q .normal a' w') l a):(Code.region id l.toArray true).wp P Q a w:=
 wp_region_quiet (C:=fun w'=>∃ x,w'=f x) hm hB hC (by simpa using h)
end
def Gr (w:World):Type:={ w':World // Below w.heap.size w w' }
def Gr.at_ {w:World} (x:Gr w):World:=x.1
theorem fG {w:World} {p:Addr} {v:Value} (h:w.cell? p=some v):p.block<w.heap.size:=by
 unfold World.cell? at h
 split at h
 ·rename_i hc;exact (Array.getElem?_eq_some_iff.1 hc).1
 ·exact absurd h (by simp)
theorem Gr.cell {w:World} (x:Gr w) (p:Addr) (v:Value) (h:w.cell? p=some v):x.at_.cell? p=some v:=by
 rw [← h];exact World.cell?_of_block (x.2.block _ (fG h))
theorem Gr.drew (w:World):∃ x:Gr w,w.drew=x.at_:=⟨⟨w.drew,(Below.refl _ _).drew⟩,rfl⟩
theorem Gr.calls {P:Program} {f:FuncId} {args:Array Value} {w:World} (x:Gr w) {v:Value}
  (h:Calls P f args x.at_ fun e w'=>e=.returned v∧Below x.at_.heap.size x.at_ w'):Calls P f args x.at_ fun e w'=>e=.returned v∧∃ y:Gr w,w'=y.at_:=
 h.mono fun _ w' ⟨he,hb⟩=>⟨he,⟨⟨w',x.2.trans ⟨hb.os,hb.tape,hb.output,hb.size,fun k hk=>hb.block k (gK hk x.2.size)⟩⟩,rfl⟩⟩
end Go.Proofs.YtjpopekmbmcggaaGreatDoor
namespace Go.Proofs.YtjpopekmbmcggaaGreatDoor
open Go.RowKit
def WrA (P:Program) (ts:Array TypeId) (ty:TypeId) (vs:Array Value) (w:World):Result Value:=(Builtin.append_ ts ty vs).run P w
theorem cN {P:Program} {d:Option Tmp} {s x:Operand} {t t' ty:TypeId} {pos:String} {af:Array Edge} {g:Option (Nat×Bool)} {a:Act} {w:World} {K:Act→World→Prop} {Q:Exit→Act→World→Prop}:
  Oper.wp P ⟨d,.call ⟨.builtin .append,#[s,x],#[t,t']⟩,ty,pos,af,g⟩ a w K Q=
   Oper.upon P ⟨d,.call ⟨.builtin .append,#[s,x],#[t,t']⟩,ty,pos,af,g⟩ a K Q ((WrA P #[t,t'] ty #[a.eval s,a.eval x] w).andThen fun v w'=>.ok (.value v) w'):=by
 unfold Oper.wp execOp WrA;simp only [resolve,invoke,builtin,Sem.run_bind,Sem.run_pure,Result.andThen_ok,List.map_toArray,List.map_cons,List.map_nil]
theorem WrA.of {P:Program} {ts:Array TypeId} {ty:TypeId} {vs:Array Value} {w w':World} {v:Value} (h:(Builtin.append_ ts ty vs).run P w=.ok v w'):WrA P ts ty vs w=.ok v w':=h
end Go.Proofs.YtjpopekmbmcggaaGreatDoor
namespace Go.Proofs.YtjpopekmbmcggaaGreatDoor
open Go.RowKit
def fF (w:World) (k:Nat):Prop:=∃ c fz,w.heap[k]? = some (.cells c 5 fz)
structure Kp (B:Nat) (X:Nat→Prop) (w w':World):Prop where
 os:w'.os=w.os
 tape:w'.tape=w.tape
 output:w'.output=w.output
 size:w.heap.size≤w'.heap.size
 block:∀ k,k<w.heap.size→(k<B∨(¬X k∧¬fF w k))→w'.heap[k]? = w.heap[k]?
section
variable {B:Nat} {X Y:Nat→Prop} {w w' w'':World}
theorem Kp.refl (B:Nat) (X:Nat→Prop) (w:World):Kp B X w w:=⟨rfl,rfl,rfl,Nat.le_refl _,fun _ _ _=>rfl⟩
theorem Kp.wide (h:Kp B X w w') (hX:∀ k,X k→Y k):Kp B Y w w':=
 ⟨h.os,h.tape,h.output,h.size,fun k hk hg=>h.block k hk (by rcases hg with hg | hg;exact .inl hg;exact .inr ⟨fun hx=>hg.1 (hX k hx),hg.2⟩)⟩
theorem Kp.trans (h:Kp B X w w') (k:Kp B X w' w''):Kp B X w w'':=
 ⟨k.os.trans h.os,k.tape.trans h.tape,k.output.trans h.output,Nat.le_trans h.size k.size,fun i hi hg=>by
  have h1:=h.block i hi hg;rw [k.block i (gK hi h.size) ?_,h1];rcases hg with hg | ⟨hg,hr⟩
  ·exact .inl hg
  ·exact .inr ⟨hg,fun ⟨c,fz,hc⟩=>hr ⟨c,fz,by rw [← h1];exact hc⟩⟩⟩
theorem Kp.of_below (h:Below w.heap.size w w'):Kp B X w w':=⟨h.os,h.tape,h.output,h.size,fun k hk _=>h.block k hk⟩
theorem Kp.alloc (h:Kp B X w w') (o:Obj):Kp B X w (w'.alloc o):=h.trans (.of_below ((Below.refl _ _).alloc (Nat.le_refl _) o))
theorem Kp.drew (h:Kp B X w w'):Kp B X w w'.drew:=h.trans (.of_below (Below.refl _ _).drew)
theorem Kp.drewN (h:Kp B X w w') (n:Nat):Kp B X w (w'.drewN n):=h.trans (.of_below (belowN (Below.refl _ _) n))
theorem Kp.set (h:Kp B X w w') {b:Nat} (hB:B≤b) (hX:X b) (i:Nat) (u:Value):Kp B X w (w'.setCell ⟨b,i,none⟩ u):=
 h.trans ⟨rfl,rfl,rfl,by simp [World.setCell],fun k _ hg=>Below.heap_setCell _ _ _ _ (by
  rcases hg with hg | hg
  ·simp;omega
  ·rintro rfl;exact hg.1 hX)⟩
theorem Kp.grown (h:Kp B X w w') {row:Option Nat} (hg:w'.grownBy w'' row) (hr:∀ g,row=some g→B≤g∧fF w' g):Kp B X w w'':=
 h.trans ⟨hg.os,hg.tape,hg.output,hg.size,fun k hk hgk=>hg.block k hk (fun e=>by
  have:=hr k e.symm;rcases hgk with hgk | hgk
  ·omega
  ·exact hgk.2 this.2)⟩
theorem Kp.freeze (h:Kp B X w w') {g:Nat} (hB:B≤g) (hr:fF w' g) (n:Nat):Kp B X w (w'.freeze ⟨g,0,none⟩ n):=by
 refine h.trans ?_;unfold World.freeze
 split
 ·exact Kp.refl _ _ _
 ·refine ⟨rfl,rfl,rfl,by simp,fun k _ hgk=>?_⟩;rw [Array.getElem?_modify]
  split
  ·rename_i e;have e':g=k:=e;subst e';rcases hgk with hgk | hgk
   ·omega
   ·exact absurd hr hgk.2
  ·rfl
theorem Kp.below (h:Kp B X w w') (hB:B≤w.heap.size):Below B w w':=⟨h.os,h.tape,h.output,h.size,fun k hk=>h.block k (by omega) (.inl hk)⟩
def Gd (B:Nat) (X:Nat→Prop) (w:World) (G:Nat→Prop):Prop:=∀ k,G k→k<w.heap.size∧(k<B∨(¬X k∧¬fF w k))
theorem Gd.keep {G:Nat→Prop} (h:Gd B X w G) (k:Kp B X w w'):Gd B X w' G:=fun i hi=>by
 obtain ⟨h1,h2⟩:=h i hi;refine ⟨gK h1 k.size, ?_⟩;rcases h2 with h2 | ⟨h2,hr⟩
 ·exact .inl h2
 ·exact .inr ⟨h2,fun ⟨c,fz,hc⟩=>hr ⟨c,fz,by rw [← k.block i h1 (.inr ⟨h2,hr⟩)];exact hc⟩⟩
theorem Gd.cell {G:Nat→Prop} (h:Gd B X w G) (k:Kp B X w w') (p:Addr) (hp:G p.block):w'.cell? p=w.cell? p:=
 World.cell?_of_block (k.block _ (h _ hp).1 (h _ hp).2)
end
def bcs (l:List UInt8):List Value:=l.map fun x=>.int .u8 (x.toNat:Int)
theorem AY (s:ByteArray):Lib.strCells s=bcs s.toList:=by rw [Lib.toList_data];rfl
theorem AX (l r:List UInt8):bcs (l++r)=bcs l++bcs r:=by simp [bcs]
def Bld (T:TypeId) (B b:Nat) (rest:List Value) (p:Value) (l:List UInt8) (w:World):Prop:=
 B≤b∧∃ v,w.heap[b]? = some (.cells (p::v::rest).toArray T (0,0))∧w.ownsRow B 5 1 v l.length (bcs l)∧(v=.slice none 0 0↔l=[])
def IsB (T:TypeId) (B b:Nat) (rest:List Value) (l:List UInt8) (w:World):Prop:=Bld T B b rest (.pointer none) l w∨Bld T B b rest (.pointer (some ⟨b,0,none⟩)) l w
structure Hd (T:TypeId) (n:Nat):Prop where
 lies:liesAt Tryz.prog Tryz.prog.depth T ((n+2) / Tryz.prog.cellsOf T) 0 108 1=true
 ne:T≠5
section
variable {T:TypeId} {B b:Nat} {rest:List Value} {p:Value} {l:List UInt8} {w w':World}
theorem Bld.lt (h:Bld T B b rest p l w):b<w.heap.size:=by
 obtain ⟨_,v,hb,_⟩:=h;exact (Array.getElem?_eq_some_iff.1 hb).1
theorem Bld.cell0 (h:Bld T B b rest p l w):w.cell? ⟨b,0,none⟩=some p:=by
 obtain ⟨_,v,hb,_⟩:=h;simp [World.cell?,hb]
theorem Bld.frozen (h:Bld T B b rest p l w) (i:Nat):w.frozen? ⟨b,i,none⟩=false:=by
 obtain ⟨_,v,hb,_⟩:=h;simp [World.frozen?,hb]
theorem Bld.shape (h:Bld T B b rest p l w):w.shape? b=some (T,rest.length+2):=by
 obtain ⟨_,v,hb,_⟩:=h;simp [World.shape?,hb]
theorem pN {v:Value} {n:Nat} {xs:List Value} {cs:Array Value} {fr:Nat×Nat} (hown:w.ownsRow B 5 1 v n xs) (hb:w.heap[b]? = some (.cells cs T fr)) (hT:T≠5):v.ownBlock≠some b:=Lib.ownBlock_ne hown hb hT
theorem BS {v:Value} {n:Nat} {xs:List Value} (hown:w.ownsRow B 5 1 v n xs):∀ g,v.ownBlock=some g→B≤g∧fF w g:=by
 intro g hg;rcases hown.2 with ⟨rfl,_⟩ | ⟨g',cap,cur,rfl,hb,hh,_⟩
 ·simp [Value.ownBlock] at hg
 ·simp [Value.ownBlock] at hg;subst hg;exact ⟨hb,cur,_,hh⟩
theorem Bld.used (h:Bld T B b rest p l w) (hT:T≠5) (q:Value):Bld T B b rest q l (w.setCell ⟨b,0,none⟩ q):=by
 obtain ⟨hB,v,hb,hown,hn⟩:=h;have hne:=pN hown hb hT;refine ⟨hB,v, ?_, ?_,hn⟩
 ·simp [World.setCell,Array.getElem?_modify,hb]
 ·exact hown.kept (row:=some b) ⟨rfl,rfl,rfl,by simp [World.setCell],fun k _ hk=>Below.heap_setCell _ _ _ _ (fun e=>hk (by simp [e]))⟩ (.inr hne)
theorem Bld.put {v v':Value} {l':List UInt8} (hB:B≤b) (hb:w.heap[b]? = some (.cells (p::v::rest).toArray T (0,0))) (hT:T≠5) (hown:w.ownsRow B 5 1 v' l'.length (bcs l')) (hn:v'=.slice none 0 0↔l'=[]):
  Bld T B b rest p l' (w.setCell ⟨b,1,none⟩ v'):=by
 have hne:=pN hown hb hT;refine ⟨hB,v', ?_, ?_,hn⟩
 ·simp [World.setCell,Array.getElem?_modify,hb]
 ·exact hown.kept (row:=some b) ⟨rfl,rfl,rfl,by simp [World.setCell],fun k _ hk=>Below.heap_setCell _ _ _ _ (fun e=>hk (by simp [e]))⟩ (.inr hne)
theorem Bld.keep (h:Bld T B b rest p l w) (hb:Below w.heap.size w w'):Bld T B b rest p l w':=by
 have hlt:=h.lt;obtain ⟨hB,v,hh,hown,hn⟩:=h;refine ⟨hB,v,(hb.block b hlt).trans hh,hown.kept (row:=none) ⟨hb.os,hb.tape,hb.output,hb.size,fun k hk _=>hb.block k hk⟩ ?_,hn⟩;cases v.ownBlock <;> simp
theorem IsB.keep (h:IsB T B b rest l w) (hb:Below w.heap.size w w'):IsB T B b rest l w':=by
 rcases h with h | h
 ·exact .inl (h.keep hb)
 ·exact .inr (h.keep hb)
theorem IsB.lt (h:IsB T B b rest l w):b<w.heap.size:=by rcases h with h | h <;> exact h.lt
theorem IsB.le (h:IsB T B b rest l w):B≤b:=by rcases h with h | h <;> exact h.1
end
theorem kI:(Tryz.prog.info? 108).map (·.size)=some 2:=by kernel_rfl
theorem vQ:(Tryz.prog.info? 5).map (fun i=>(i.zero,i.size,i.bytes))=some (some (.int .u8 0),1,1):=by kernel_rfl
theorem rW:Tryz.prog.cellsOf 5=1:=by kernel_rfl
theorem mI (b:Nat) (w:World) (h0:w.cell? ⟨b,0,none⟩=some (.pointer (some ⟨b,0,none⟩))):
  Calls Tryz.prog 167 #[.pointer (some ⟨b,0,none⟩)] w fun e w'=>e=.returned (.tuple #[])∧w=w':=by
 obtain ⟨j,hj,_⟩:=Option.map_eq_some_iff.1 kI;go_enter Tryz.func167,Tryz.ntmps167;go_wp2;rw [Lib.run_neq_ptr_same w _ Tryz.underlying105 hj];go_wp2
 go_end0
 exact ⟨rfl,rfl⟩
theorem lS {T:TypeId} {n:Nat} (hd:Hd T n) (b:Nat) (w:World) (h0:w.cell? ⟨b,0,none⟩=some (.pointer none)) (hsh:w.shape? b=some (T,n+2)) (hfz:w.frozen? ⟨b,0,none⟩=false):
  Calls Tryz.prog 167 #[.pointer (some ⟨b,0,none⟩)] w fun e w'=>e=.returned (.tuple #[])∧w.setCell ⟨b,0,none⟩ (.pointer (some ⟨b,0,none⟩))=w':=by
 obtain ⟨j,hj,hjs⟩:=Option.map_eq_some_iff.1 kI;go_enter Tryz.func167,Tryz.ntmps167;go_wp2;rw [Lib.run_to_unsafe w ⟨b,0,none⟩ Tryz.underlying105 Tryz.underlying164 hj (by rw [hjs];decide) hsh (by simp)];simp only [Result.andThen];rw [Oper.upon_value];go_wp2;rw [run_callFunc_extern Tryz.func204 (by kernel_rfl) (by kernel_rfl) (by kernel_rfl) (e:=Extern.AbiNoEscape.same) (by kernel_rfl)];rw [Lib.run_noEscape];simp only [Result.andThen];rw [Oper.upon_value];go_wp2;rw [Lib.run_from_unsafe w ⟨b,0,none⟩ Tryz.underlying164 Tryz.underlying105 hj hsh hd.lies];simp only [Result.andThen];rw [Oper.upon_value];go_wp2
 go_end0
 exact ⟨rfl,rfl⟩
theorem nO {T:TypeId} {B b:Nat} {rest:List Value} (hd:Hd T rest.length) (l:List UInt8) (w:World) (h:IsB T B b rest l w):
  Calls Tryz.prog 167 #[.pointer (some ⟨b,0,none⟩)] w fun e w'=>e=.returned (.tuple #[])∧Bld T B b rest (.pointer (some ⟨b,0,none⟩)) l w'∧Kp B (· = b) w w':=by
 rcases h with h | h
 ·refine (lS hd b w h.cell0 h.shape (h.frozen 0)).mono ?_;rintro e w' ⟨rfl,rfl⟩;exact ⟨rfl,h.used hd.ne _,(Kp.refl B (· = b) w).set (X:=(· = b)) h.1 rfl _ _⟩
 ·refine (mI b w h.cell0).mono ?_;rintro e w' ⟨rfl,rfl⟩;exact ⟨rfl,h,Kp.refl _ _ _⟩
theorem cV {T:TypeId} {B b:Nat} {rest:List Value} (hd:Hd T rest.length) (l:List UInt8) (s:ByteArray) (w:World) (h:IsB T B b rest l w) (hlen:l.length+s.size≤140737488355328) (hBw:B≤w.heap.size):
  Calls Tryz.prog 133 #[.pointer (some ⟨b,0,none⟩),.string s] w fun e w'=>e=.returned (.tuple #[.int .i64 s.size,.nilIface])∧Bld T B b rest (.pointer (some ⟨b,0,none⟩)) (l++s.toList) w'∧Kp B (· = b) w w':=by
 obtain ⟨i0,hi,hz0,hz1,hz2⟩:=info_parts vQ;go_enter Tryz.func133,Tryz.ntmps133;go_wp2_with (go_at_call 167;refine (nO hd l _ h).mono ?_);rintro e w1 ⟨rfl,h1,hb1⟩;obtain ⟨hB,v,hbk,hown,hn⟩:=h1;have HN0:=Ha hn;clear hn;have c0:w1.cell? ⟨b,0,none⟩=some (.pointer (some ⟨b,0,none⟩)):=by simp [World.cell?,hbk]
 have c1:w1.cell? ⟨b,1,none⟩=some v:=by simp [World.cell?,hbk]
 go_wp2_with (at_builtin;refine Lib.wpList_append_own_string _ rfl _ _ 106 9 rfl B 5 i0 Tryz.underlying106 Tryz.underlying9 hi hz0 hz1 hz2 _ _ _ rfl hown s rfl ?c3 ?c4 ?c5 ?_)
 case c3=>unfold maxLen;omega
 case c4=>omega
 case c5=>have:=hb1.size;omega
 intro v' w2 hown' hgrow hnil;have hlt:b<w1.heap.size:=(Array.getElem?_eq_some_iff.1 hbk).1;have hne:=pN hown hbk hd.ne;have hb2:w2.heap[b]? = some (.cells (.pointer (some ⟨b,0,none⟩)::v::rest).toArray T (0,0)):=by
  rw [hgrow.block b hlt (fun e=>hne e.symm)];exact hbk
 have d0:w2.cell? ⟨b,0,none⟩=some (.pointer (some ⟨b,0,none⟩)):=by simp [World.cell?,hb2]
 have d1:w2.cell? ⟨b,1,none⟩=some v:=by simp [World.cell?,hb2]
 have f1:w2.frozen? ⟨b,1,none⟩=false:=by simp [World.frozen?,hb2]
 obtain ⟨ao,n',cap,rfl⟩:∃ ao n' cap,v'=.slice ao n' cap:=by
  rcases hown'.2 with ⟨hv,_⟩ | ⟨g,cap,cur,hv,_⟩
  ·exact ⟨_,_,_,hv⟩
  ·exact ⟨_,_,_,hv⟩
 have HN:=Ha hnil;clear hnil;go_wp2
 go_ret2
 refine ⟨rfl, ?_, ?_⟩
 ·refine Bld.put hB hb2 hd.ne (by rw [gI,← aL,AX,← AY];exact hown') ?_;have hs:=vK s;have hs2:s.size=0↔s.toList=[]:=by rw [aL];simp
  have:=HN.out;first
   | (rw [this,HN0.out,hs,List.append_eq_nil_iff])
   | (rw [this,HN0.out,hs2,List.append_eq_nil_iff])
 ·exact (hb1.grown hgrow (BS hown)).set (X:=(· = b)) hB rfl _ _
theorem dI {T:TypeId} {B b:Nat} {rest:List Value} (l:List UInt8) (w:World) (h:IsB T B b rest l w):
  Calls Tryz.prog 117 #[.pointer (some ⟨b,0,none⟩)] w fun e w'=>e=.returned (bs l)∧Kp B (· = b) w w':=by
 obtain ⟨p,hB,v,hbk,hown,hn⟩:∃ p,Bld T B b rest p l w:=by
  rcases h with h | h
  ·exact ⟨_,h⟩
  ·exact ⟨_,h⟩
 by_cases h0:l=[]
 ·subst h0;have hv:=hn.2 rfl;subst hv;have hUS:∀ (W:World) (q:Option Addr),(Builtin.unsafeString_ #[143,3] 9 #[.pointer q,.int .i64 0]).run Tryz.prog W=.ok (.string .empty) W:=fun W q=>Lib.run_unsafeString_none W _ _ _ q;have c1:w.drew.cell? ⟨b,1,none⟩=some (.slice none 0 0):=by
   have:w.drew.heap[b]? = some (.cells (p::.slice none 0 0::rest).toArray T (0,0)):=hbk;simp [World.cell?,this]
  have hSD:(Builtin.unsafeSliceData_ #[106] 143 #[.slice none 0 0]).run Tryz.prog w.drew=.ok (.pointer none) w.drew:=rfl;go_enter Tryz.func117,Tryz.ntmps117;go_wp2
  go_region
  all_goals (go_wp2;go_ret;exact ⟨rfl,(Kp.refl _ _ _).drew⟩)
 ·have hl0:l.length≠0:=by simpa using h0
  obtain ⟨g,cap,cur,rfl,hbg,hg,hnc,hcm,hcs,htake⟩:∃ g cap cur,v=.slice (some ⟨g,0,none⟩) l.length cap∧B≤g∧w.heap[g]? = some (.cells cur 5 (0,0))∧l.length≤cap∧cap≤maxLen∧cur.size=cap*1∧cur.toList.take (l.length*1)=bcs l:=by
   rcases hown.2 with ⟨_,hz⟩ | ⟨g,cap,cur,hv,r⟩
   ·exact absurd hz hl0
   ·exact ⟨g,cap,cur,hv,r⟩
  have c1:w.drew.cell? ⟨b,1,none⟩=some (.slice (some ⟨g,0,none⟩) l.length cap):=by
   have:w.drew.heap[b]? = some (.cells (p::.slice (some ⟨g,0,none⟩) l.length cap::rest).toArray T (0,0)):=hbk;simp [World.cell?,this]
  have hSD:(Builtin.unsafeSliceData_ #[106] 143 #[.slice (some ⟨g,0,none⟩) l.length cap]).run Tryz.prog w.drew=.ok (.pointer (some ⟨g,0,none⟩)) w.drew:=
   Lib.run_unsafeSliceData_row _ _ _ _ _ _ (by omega)
  have hUS:(Builtin.unsafeString_ #[143,3] 9 #[.pointer (some ⟨g,0,none⟩),.int .i64 l.length]).run Tryz.prog w.drew=.ok (.string ⟨l.toArray⟩) (w.drew.freeze ⟨g,0,none⟩ l.length):=by
   refine Lib.run_unsafeString_row w.drew 143 3 9 5 Tryz.underlying143 rW g cur.size (by have hg':w.drew.heap[g]? = some (.cells cur 5 (0,0)):=hg;simp [World.shape?,hg']) l h0 (by omega) (by unfold maxLen at hcm;omega) ?_;intro j x hx;have:=hown.cells (g:=g) rfl j (.int .u8 x.toNat) (by simp [bcs,hx]);exact this
  clear hn;go_enter Tryz.func117,Tryz.ntmps117;go_wp2
  go_region
  all_goals (go_wp2;go_ret;exact ⟨rfl,(Kp.refl _ _ _).drew.freeze hbg ⟨cur,_,hg⟩ _⟩)
end Go.Proofs.YtjpopekmbmcggaaGreatDoor
namespace Go.Proofs.YtjpopekmbmcggaaGreatDoor
open Go.RowKit
def iF (l:List UInt8):Bool:=l.any fun b=>b==0||b==39
theorem oW (r:Nat) (h:128≤r) (h2:r<2048):∃ x y:UInt8,Utf8.encode (r:Int)=⟨#[x,y]⟩∧128≤y.toNat:=by
 refine ⟨UInt8.ofNat (0xC0+r / 64),UInt8.ofNat (0x80+r % 64), ?_, ?_⟩
 ·have hv:Utf8.valid (r:Int)=true:=by simp [Utf8.valid];omega
  simp only [Utf8.encode,hv,if_true,Int.toNat_natCast];rw [if_neg (by omega),if_pos (by omega)]
 ·simp;omega
theorem mM (r:Nat) (h:2048≤r):∃ x y z:UInt8,Utf8.encode (r:Int)=⟨#[x,y,z]⟩∨∃ u:UInt8,Utf8.encode (r:Int)=⟨#[x,y,z,u]⟩:=by
 unfold Utf8.encode;have hc:2048≤(if Utf8.valid (r:Int) then (r:Int).toNat else Utf8.runeError):=by
  split
  ·simpa using h
  ·decide
 generalize (if Utf8.valid (r:Int) then (r:Int).toNat else Utf8.runeError)=c at hc;simp only;rw [if_neg (by omega),if_neg (by omega)]
 split
 ·exact ⟨_,_,_,.inl rfl⟩
 ·exact ⟨_,_,_,.inr ⟨_,rfl⟩⟩
def bZN:ByteArray:=⟨#[0,39]⟩
theorem fQ (w:World):Calls Tryz.prog 223 #[.string bZN,.int .i32 65533] w fun e w'=>e=.returned (.int .i64 (-1))∧Below w.heap.size w w':=by
 have hn0:∀ ty,(Instr.next (.pointer (some ⟨w.heap.size,0,none⟩)) true ty).run Tryz.prog (w.iter bZN 0)=.ok (.tuple #[.bool true,.int .i64 0,.int .i32 0]) (w.iter bZN 1):=fun ty=>run_next_ascii w bZN 0 ty (by decide) (by decide);have hn1:∀ ty,(Instr.next (.pointer (some ⟨w.heap.size,0,none⟩)) true ty).run Tryz.prog (w.iter bZN 1)=.ok (.tuple #[.bool true,.int .i64 1,.int .i32 39]) (w.iter bZN 2):=fun ty=>run_next_ascii w bZN 1 ty (by decide) (by decide);have hn2:∀ ty,(Instr.next (.pointer (some ⟨w.heap.size,0,none⟩)) true ty).run Tryz.prog (w.iter bZN 2)=.ok (.tuple #[.bool false]) (w.iter bZN 2):=fun ty=>run_next_end w bZN 2 ty (by decide);go_enter Tryz.func223,Tryz.ntmps223;go_wp2
 go_loopw [5,6] (fun _ _ wr=>∃ k:Nat,k≤2∧wr=w.iter bZN k) (fun _ _ wr=>2-wr.iterPos w.heap.size)
 case atStart=>exact ⟨0,by omega,rfl⟩
 case round=>
  obtain ⟨k,hk,rfl⟩:=hrel;have hk3:k=0∨k=1∨k=2:=by omega
  rcases hk3 with rfl | rfl | rfl
  ·go_wp2
   go_roundw
   case rel=>exact ⟨1,by omega,rfl⟩
   case measure=>simp only [World.iterPos_iter];omega
  ·go_wp2
   go_roundw
   case rel=>exact ⟨2,by omega,rfl⟩
   case measure=>simp only [World.iterPos_iter];omega
  ·go_wp2;go_ret;exact ⟨rfl,(Below.refl _ _).alloc (Nat.le_refl _) _⟩
theorem mQ (c:Int) (w:World):Calls Tryz.prog 216 #[.string ByteArray.empty,.int .u8 c] w fun e w'=>e=.returned (.int .i64 (-1))∧w'=w:=Tryz.strings_IndexByte _ _ _
theorem fN (r:Nat) (w:World) (h:128≤r) (h31:r≤2147483647):Calls Tryz.prog 223 #[.string bZN,.int .i32 r] w fun e w'=>e=.returned (.int .i64 (-1))∧Below w.heap.size w w':=by
 have hz:¬((r:Int)<128):=by omega
 have hz':decide ((r:Int)<128)=false:=decide_eq_false hz;by_cases he:r=65533
 ·subst he;exact fQ w
 ·have hne:((r:Int)==65533)=false:=beq_eq_false_iff_ne.2 (by omega);cases hv:Lib.validRune (r:Int)
  ·have HV:=Ha hv;clear hv;go_enter Tryz.func223,Tryz.ntmps223;go_wp2_with fail;refine (Tryz.utf8_ValidRune _ _).mono ?_;rintro e w1 ⟨rfl,rfl⟩;rw [HV.out];go_wp2;go_ret;exact ⟨rfl,Below.refl _ _⟩
  ·have HV:=Ha hv;clear hv;by_cases h2:r<2048
   ·obtain ⟨x, y, hxy, hy⟩ := oW r h h2; have hy10 : (((bZN[1]'(by decide)).toNat : Int) != (((⟨#[x, y]⟩ : ByteArray)[1]'(show 1 < 2 by decide)).toNat : Int)) = true := by
     rw [bne_iff_ne];show (39:Int)≠(y.toNat:Int);omega
    have hw2:IntKind.i64.wrap 2=2:=rfl;have hbz:bZN.size=2:=rfl;have hbe:bZN.extract 2 2=⟨#[]⟩:=rfl;go_enter Tryz.func223,Tryz.ntmps223;go_wp2_with fail;refine (Tryz.utf8_ValidRune _ _).mono ?_;rintro e w1 ⟨rfl,rfl⟩;rw [HV.out];go_wp2
    go_step3
    go_wp2;clear hz hz' hne h31 hxy h h2 he HV
    go_loop [9] (fun i=>i=.int .i64 1) (fun _=>0)
    case atStart=>rfl
    case round=>
     subst hrel;go_wp2
     go_step3
     go_wp2
     go_quiet (fail)
     go_wp2;have hbb:=belowN (Below.refl w1.heap.size w1) nq;have HBB:=Ha hbb;clear hbb;revert HBB;generalize w1.drewN nq=W2;intro HBB
     go_quiet ((go_at_call 216;exact Calls.quiet_of_same (mQ _ _)))
     go_wp2;rw [Exit.noGoto_ret];go_wp2;rw [Exit.noGoto_ret];go_wp2;go_ret;exact ⟨rfl,belowN HBB.out _⟩
   ·obtain ⟨x,y,z,hxy⟩:=mM r (by omega);rcases hxy with hxy | ⟨u,hxy⟩
    ·go_enter Tryz.func223,Tryz.ntmps223;go_wp2_with fail;refine (Tryz.utf8_ValidRune _ _).mono ?_;rintro e w1 ⟨rfl,rfl⟩;rw [HV.out];go_wp2
     go_step3
     go_wp2;clear hz hz' hne h31 hxy h h2 he HV
     go_loop [9] (fun i=>i=.int .i64 2) (fun _=>0)
     case atStart=>rfl
     case round=>
      subst hrel;go_wp2;go_ret;exact ⟨rfl,Below.refl _ _⟩
    ·go_enter Tryz.func223,Tryz.ntmps223;go_wp2_with fail;refine (Tryz.utf8_ValidRune _ _).mono ?_;rintro e w1 ⟨rfl,rfl⟩;rw [HV.out];go_wp2
     go_step3
     go_wp2;clear hz hz' hne h31 hxy h h2 he HV
     go_loop [9] (fun i=>i=.int .i64 3) (fun _=>0)
     case atStart=>rfl
     case round=>
      subst hrel;go_wp2;go_ret;exact ⟨rfl,Below.refl _ _⟩
theorem gM (r:Nat) (w:World) (h31:r≤2147483647):Calls Tryz.prog 223 #[.string bZN,.int .i32 r] w fun e w'=>(∃ m:Int,e=.returned (.int .i64 m)∧decide (0≤m)=(r==0||r==39))∧Below w.heap.size w w':=by
 by_cases h:128≤r
 ·refine (fN r w h h31).mono ?_;rintro e w' ⟨rfl,hb⟩;refine ⟨⟨-1,rfl, ?_⟩,hb⟩;have h1:(r==0||r==39)=false:=by simp;omega
  rw [h1];rfl
 ·refine (Tryz.strings_IndexRune_ascii bZN r w (by omega) (by omega)).mono ?_;rintro e w' ⟨rfl,rfl⟩;refine ⟨⟨_,rfl, ?_⟩,Below.refl _ _⟩;rw [← Lib.contains_iff_indexByte,show bZN.data.toList=[0,39] from rfl];have:r<128:=by omega
  revert this
  clear h h31
  revert r
  decide
theorem gW (s : ByteArray) (p : Nat) (h : p < s.size) (ha : 128 ≤ (s[p]'h).toNat) : p + (Utf8.decode s p).2 ≤ s.size ∧ ∀ j, j < (Utf8.decode s p).2 → ∀ hj : p + j < s.size, 128 ≤ (s[p + j]'hj).toNat := by
 have g : ∀ k (hk : p + k < s.size), s.get! (p + k) = s[p + k]'hk := fun k hk => by simp [ByteArray.get!, getElem!_pos, hk]; rfl
 have one : p + 1 ≤ s.size ∧ ∀ j, j < 1 → ∀ hj : p + j < s.size, 128 ≤ (s[p + j]'hj).toNat := ⟨by omega, fun j hj hj' => by
  obtain rfl:j=0:=by omega
  exact ha⟩
 have hn:¬(s.get! (p+0)).toNat<128:=by rw [get_at s p h];omega
 unfold Utf8.decode;simp only [hn,if_false]
 split
 ·rename_i h1;simp only [Bool.and_eq_true,beq_iff_eq,decide_eq_true_eq] at h1
  split
  ·refine ⟨by simp;omega,fun j hj hj'=>?_⟩;simp at hj;have hj2:j=0∨j=1:=by omega
   rcases hj2 with rfl | rfl
   ·exact ha
   ·have:=h1.2.2;rw [g 1 hj'] at this;omega
  ·exact one
 ·split
  ·rename_i h1;simp only [Bool.and_eq_true,beq_iff_eq,decide_eq_true_eq] at h1
   split
   ·refine ⟨by simp;omega,fun j hj hj'=>?_⟩;simp at hj;have hj2:j=0∨j=1∨j=2:=by omega
    rcases hj2 with rfl | rfl | rfl
    ·exact ha
    ·have:=h1.1.2.2;rw [g 1 hj'] at this;omega
    ·have:=h1.2.2;rw [g 2 hj'] at this;omega
   ·exact one
  ·split
   ·rename_i h1;simp only [Bool.and_eq_true,beq_iff_eq,decide_eq_true_eq] at h1
    split
    ·refine ⟨by simp;omega,fun j hj hj'=>?_⟩;simp at hj;have hj2:j=0∨j=1∨j=2∨j=3:=by omega
     rcases hj2 with rfl | rfl | rfl | rfl
     ·exact ha
     ·have:=h1.1.1.2.2;rw [g 1 hj'] at this;omega
     ·have:=h1.1.2.2;rw [g 2 hj'] at this;omega
     ·have:=h1.2.2;rw [g 3 hj'] at this;omega
    ·exact one
   ·exact one
def eP (l:List UInt8) (k:Nat):Prop:=iF (l.take k)=false
theorem iT (s : ByteArray) (p n : Nat) (hp : p + n ≤ s.size) (h : eP s.toList p) (hb : ∀ j, j < n → ∀ hj : p + j < s.size, (s[p + j]'hj == 0 || s[p + j]'hj == 39) = false) : eP s.toList (p + n) := by
 unfold eP iF at *;rw [List.take_add,List.any_append,h,Bool.false_or,List.any_eq_false];intro x hx;obtain ⟨j,hj,rfl⟩:=List.getElem_of_mem hx;have hlen:s.toList.length=s.size:=(aL s).symm;simp only [List.length_take,List.length_drop] at hj;have:=hb j (by omega) (by omega);rw [List.getElem_take,List.getElem_drop,eH s (p+j) (by omega),this];simp
theorem jL (s:ByteArray) (p:Nat) (hp:s.size≤p) (h:eP s.toList p):iF s.toList=false:=by
 unfold eP at h
 rwa [List.take_of_length_le (by rw [← aL];omega)] at h
theorem pU (s : ByteArray) (p : Nat) (h : p < s.size) (hb : (s[p]'h == 0 || s[p]'h == 39) = true) : iF s.toList = true := by
 unfold iF; rw [List.any_eq_true]; exact ⟨s[p]'h, List.mem_of_getElem? (get?_list s p h), hb⟩
theorem fM (s:ByteArray) (w:World) (h8:s.size≤8):
  Calls Tryz.prog 190 #[.string s,.string bZN] w fun e w'=>(∃ n:Int,e=.returned (.int .i64 n)∧decide (0≤n)=iF s.toList)∧Below w.heap.size w w':=by
 have h8z:decide ((8:Int)<(s.size:Int))=false:=decide_eq_false (by omega);have H8:=Ha h8z;clear h8z;have hbz:bZN.size=2:=rfl;have hbl:bZN.toList.isEmpty=false:=by rw [show bZN.toList=[0,39] from aI [0,39]];rfl
 go_enter Tryz.func190,Tryz.ntmps190;go_wp2_with fail;refine (Tryz.strings_shouldUseASCIISet _ _).mono ?_;rintro e w1 ⟨rfl,rfl⟩;rw [H8.out];go_wp2
 go_loopw [9,10] (fun _ _ wr=>∃ k:Nat,k≤s.size∧(Below w1.heap.size w1 wr∧wr.heap[w1.heap.size]? = some (.stringIter s k))∧eP s.toList k) (fun _ _ wr=>s.size-wr.iterPos w1.heap.size)
 case atStart=>exact ⟨0,by omega,⟨(Below.refl _ _).alloc (Nat.le_refl _) _,World.iter_heap _ _ _⟩,rfl⟩
 case round=>
  obtain ⟨k,hk,⟨hbel,hit⟩,hno⟩:=hrel;obtain ⟨HNO,HBEL,HIT⟩:=hs3 hno hbel hit;clear hno hbel hit;by_cases hlt:k<s.size
  ·obtain ⟨r, n, hr31, hn1, hkn, hyes, hnob, hnx⟩ : ∃ r n : Nat, r ≤ 2147483647 ∧ 1 ≤ n ∧ k + n ≤ s.size ∧ ((r == 0 || r == 39) = true → (s[k] == 0 || s[k] == 39) = true) ∧ ((r == 0 || r == 39) = false → ∀ j, j < n → ∀ hj : k + j < s.size, (s[k + j]'hj == 0 || s[k + j]'hj == 39) = false) ∧
     ∀ ty,(Instr.next (.pointer (some ⟨w1.heap.size,0,none⟩)) true ty).run Tryz.prog wr=.ok (.tuple #[.bool true,.int .i64 k,.int .i32 r]) (wr.iterAt w1.heap.size s (k+n)):=by
    refine ⟨(Utf8.decode s k).1,(Utf8.decode s k).2,decode_le s k, ?_⟩;by_cases ha:(s[k]).toNat<128
    ·have hd:=decode_ascii s k hlt ha;refine ⟨by rw [hd];exact Nat.le_refl _,by rw [hd];exact hlt,fun h=>?_,fun h j hj hj'=>?_,fun ty=>Lib.run_next_any_at wr _ s k ty HIT.out hlt⟩
     ·rw [hd] at h;simp only [Bool.or_eq_true,beq_iff_eq] at h ⊢;rcases h with h | h
      ·exact .inl (UInt8.toNat_inj.1 h)
      ·exact .inr (UInt8.toNat_inj.1 h)
     ·rw [hd] at h hj;obtain rfl:j=0:=by simpa using hj
      simp only [Bool.or_eq_false_iff,gJ] at h ⊢;exact ⟨fun e=>h.1 (by show (s[k]).toNat=0;have:s[k]=0:=e;rw [this];rfl),fun e=>h.2 (by show (s[k]).toNat=39;have:s[k]=39:=e;rw [this];rfl)⟩
    ·have hd:=decode_high s k hlt (by omega);have hb:=gW s k hlt (by omega);refine ⟨hd.2,hb.1,fun h=>?_,fun _ j hj hj'=>?_,fun ty=>Lib.run_next_any_at wr _ s k ty HIT.out hlt⟩
     ·simp only [Bool.or_eq_true,beq_iff_eq] at h;omega
     ·have:=hb.2 j hj hj';simp only [Bool.or_eq_false_iff,gJ];exact ⟨fun e=>by rw [e] at this;exact absurd this (by decide),fun e=>by rw [e] at this;exact absurd this (by decide)⟩
   have hit2:=Lib.iterAt_heap wr w1.heap.size s k (k+n) HIT.out;have hbel2:Below w1.heap.size w1 (wr.iterAt w1.heap.size s (k+n)):=HBEL.out.trans ⟨rfl,rfl,rfl,by simp [World.iterAt],fun i hi=>by simp only [World.iterAt];exact Array.getElem?_setIfInBounds_ne (by omega)⟩;obtain ⟨HI2,HB2,HY,HNB⟩:=hs4 hit2 hbel2 hyes hnob;clear hit2 hbel2 hyes hnob;have hir:=fun X=>gM r X hr31;have HIR:=Ha hir;clear hir hr31;cases hhit:(r==0||r==39)
   ·have HH:=Ha hhit;clear hhit;go_wp2_with fail;refine (HIR.out _).mono ?_;rintro e w3 ⟨⟨m,rfl,hm⟩,hb3⟩;rw [HH.out] at hm;have hm':¬(0≤m):=of_decide_eq_false hm;have hblk:w3.heap[w1.heap.size]? = some (.stringIter s (k+n)):=(hb3.block _ (Array.getElem?_eq_some_iff.1 HI2.out).1).trans HI2.out;have HBK:=Ha hblk;have HB3:=Ha (HB2.out.trans (hb3.mono HB2.out.size));clear hblk hb3;clear hnx hm;go_wp2
    go_roundw
    case rel=>exact ⟨k+n,hkn,⟨HB3.out,HBK.out⟩,iT s k n hkn HNO.out (HNB.out HH.out)⟩
    case measure=>
     simp only [World.iterPos,HBK.out,HIT.out];omega
   ·have HH:=Ha hhit;clear hhit;go_wp2_with fail;refine (HIR.out _).mono ?_;rintro e w3 ⟨⟨m,rfl,hm⟩,hb3⟩;rw [HH.out] at hm;have hm':0≤m:=of_decide_eq_true hm;have HB3:=Ha (HB2.out.trans (hb3.mono HB2.out.size));clear hb3;clear hnx hm;go_wp2;go_ret;exact ⟨⟨k,rfl,by rw [pU s k hlt (HY.out HH.out)];exact decide_eq_true (by omega)⟩,HB3.out⟩
  ·have hnx:∀ ty,(Instr.next (.pointer (some ⟨w1.heap.size,0,none⟩)) true ty).run Tryz.prog wr=_:=fun ty=>Lib.run_next_end_at wr _ s k ty HIT.out hlt;go_wp2;go_ret;exact ⟨⟨-1,rfl,by rw [jL s k (by omega) HNO.out];rfl⟩,HBEL.out⟩
theorem rU:∀ l:List UInt8,Lib.containsAny l [0,39]=iF l:=by
 have key:∀ l:List UInt8,(0≤Lib.indexAny l [0,39])↔iF l=true:=by
  intro l
  induction l with
  | nil=>simp [Lib.indexAny,iF]
  | cons b l ih=>
   have hge:=Lib.indexAny_ge [0,39] l;unfold Lib.indexAny;have hc:[(0:UInt8),39].contains b=(b==0||b==39):=by simp;rfl
   rw [hc];simp only [iF,List.any_cons];cases hb:(b==0||b==39)
   ·simp only [Bool.false_or,Bool.false_eq_true,if_false];rw [← iF,← ih];by_cases h:Lib.indexAny l [0,39]=-1
    ·simp [h]
    ·simp [h];omega
   ·simp
 intro l;unfold Lib.containsAny;rw [Bool.eq_iff_iff,decide_eq_true_iff];exact key l
theorem pE:(Tryz.prog.info? 176).map (fun i=>(i.zero,i.size))=some (some (.agg (Array.replicate 256 (.bool false))),256):=by kernel_rfl
theorem gY (s:ByteArray) (w:World) (hs:s.size<4294967281):
  Calls Tryz.prog 190 #[.string s,.string bZN] w fun e w'=>(∃ n:Int,e=.returned (.int .i64 n)∧decide (0≤n)=iF s.toList)∧Below w.heap.size w w':=by
 by_cases h8:s.size≤8
 ·exact fM s w h8
 ·refine (Tryz.strings_IndexAny_long (zero_of_info pE).1 s bZN w (by decide) (by omega) hs (by decide) (fun j b hb=>?_)).mono ?_
  ·match j,hb with
   | 0,hb=>simp [bZN] at hb;subst hb;decide
   | 1,hb=>simp [bZN] at hb;subst hb;decide
   | j+2,hb=>simp [bZN] at hb
  ·rintro e w' ⟨rfl,rfl⟩;refine ⟨⟨_,rfl, ?_⟩,((Below.refl _ _).alloc (Nat.le_refl _) _).alloc (by simp) _⟩;rw [show bZN.data.toList=[0,39] from rfl,← Lib.toList_data];exact rU s.toList
theorem containsAny_two (s:ByteArray) (w:World) (hs:s.size<4294967281):
  Calls Tryz.prog 155 #[.string s,.string ⟨#[0,39]⟩] w fun e w'=>e=.returned (.bool (iF s.toList))∧Below w.heap.size w w':=by
 go_enter Tryz.func155,Tryz.ntmps155;go_wp2_with fail;refine (gY s _ hs).mono ?_;rintro e w' ⟨⟨n,rfl,hn⟩,hb⟩;have HN:=Ha hn;have HB:=Ha hb;clear hn hb;go_wp2;go_ret;exact ⟨by rw [← HN.out];rfl,HB.out⟩
end Go.Proofs.YtjpopekmbmcggaaGreatDoor
namespace Go.Proofs.YtjpopekmbmcggaaGreatDoor
open Go
section
variable {P:Program} {md:Region.Mode} {ops:Array Oper} {Q:Exit→Act→World→Prop} {S:World→Prop} {L:Nat}
def gU (P:Program) (md:Region.Mode) (ops:Array Oper) (Q:Exit→Act→World→Prop) (S:World→Prop) (L:Nat):Nat→Array Bool→Act→World→Prop
 | 0,ls,a,w=>Region.ready md ops ls=[]∧Q .normal a w
 | n+1,ls,a,w=>(Region.ready md ops ls=[]→Q .normal a w)∧∀ i∈Region.ready md ops ls,wpOp P ops Q i (fun a' w'=>(i≠L→S w')∧gU P md ops Q S L n (ls.setIfInBounds i true) a' w') a w
def pY (md:Region.Mode) (ops:Array Oper) (L i:Nat):Bool:=((ops[L]?).map fun o=>o.after.any fun e=>Region.binds md e&&e.on==i).getD false
theorem gU.any:∀ (n:Nat) (ls:Array Bool) (a:Act) (w:World),gU P md ops Q S L n ls a w→wpAny P md ops Q n ls a w:=by
 intro n
 induction n with
 | zero=>exact fun _ _ _ h=>h
 | succ n ih=>exact fun ls a w h=>⟨h.1,fun i hi=>wpOp_mono (fun a' w' h'=>ih _ a' w' h'.2) (h.2 i hi)⟩
theorem gU.start {id:Nat} {a:Act} {w:World} (L:Nat) (S:World→Prop) (hm:P.follows .mixedOrders=true) (hS:S w.drew) (h:S w.drew→gU P .any ops Q S L ops.size (Array.replicate ops.size false) a w.drew):(Code.region id ops true).wp P Q a w:=
 wp_region_any hm (gU.any _ _ _ _ (h hS))
theorem gU.done {ls:Array Bool} {a:Act} {w:World} (hr:Region.ready md ops ls=[]) (h:Q .normal a w):∀ n,gU P md ops Q S L n ls a w
 | 0=>⟨hr,h⟩
 | _+1=>⟨fun _=>h,fun i hi=>by rw [hr] at hi;cases hi⟩
theorem gU.one {i n:Nat} {o:Oper} {ls:Array Bool} {a:Act} {w:World} (hr:Region.ready md ops ls=[i]) (ho:ops[i]? = some o)
  (h:∀ K:Act→World→Prop,Shut (∀ a w,S w→(S w→gU P md ops Q S L n (ls.setIfInBounds i true) a w)→K a w)→if Region.wanted o (yielded ops a.tmps)=true then Oper.wp P o a w K Q else K (a.put o.dst undef) w):gU P md ops Q S L (n+1) ls a w:=
 ⟨fun h0=>(by rw [hr] at h0;cases h0),fun j hj=>by
  rw [hr,List.mem_singleton] at hj;subst hj;exact wpOp_step ho fun K hK=>h K fun a w hS hW=>hK a w ⟨fun _=>hS,hW hS⟩⟩
theorem gU.last {n:Nat} {o:Oper} {ls:Array Bool} {a:Act} {w:World} (hr:Region.ready md ops ls=[L]) (ho:ops[L]? = some o)
  (h:∀ K:Act→World→Prop,Shut (∀ a w,gU P md ops Q S L n (ls.setIfInBounds L true) a w→K a w)→if Region.wanted o (yielded ops a.tmps)=true then Oper.wp P o a w K Q else K (a.put o.dst undef) w):gU P md ops Q S L (n+1) ls a w:=
 ⟨fun h0=>(by rw [hr] at h0;cases h0),fun j hj=>by
  rw [hr,List.mem_singleton] at hj;subst hj;exact wpOp_step ho fun K hK=>h K fun a w hW=>hK a w ⟨fun e=>absurd rfl e,hW⟩⟩
theorem rO {i:Nat} {ls:Array Bool} (hw:pY md ops L i=true) (hi:i∈Region.ready md ops ls):¬L∈Region.ready md ops ls:=by
 intro hL;obtain ⟨_,oL,ho,hall⟩:=mem_ready.1 hL;unfold pY at hw;rw [ho] at hw;simp only [Option.map_some,Option.getD_some] at hw;obtain ⟨e,he,hb⟩:=Array.any_eq_true'.1 hw;rw [Bool.and_eq_true,beq_iff_eq] at hb;have h1:=hall e he hb.1;have h0:=(mem_ready.1 hi).1;rw [hb.2] at h1;rcases Nat.lt_or_ge i ls.size with h' | h'
 ·simp [h'] at h0 h1;rw [h0] at h1;cases h1
 ·simp [Array.getElem?_eq_none h'] at h1
theorem gU.take {i n:Nat} {oi:Oper} {v:Value} {ls:Array Bool} {a:Act} {w:World} (hi:ops[i]? = some oi) (hs:Region.noSelect ops=true) (hf:Region.free md ops ls i=true) (hr:(Region.ready md ops ls).contains i=true) (hw:pY md ops L i=true)
  (hQ:∀ c a w,Q (.panic c) (a.put oi.dst v) w→Q (.panic c) a w) (hy:YieldsIf P ops S oi v a) (hS:S w) (h:gU P md ops Q S L n (ls.setIfInBounds i true) (a.put oi.dst v) w):gU P md ops Q S L (n+1) ls a w:=by
 have main:∀ (n:Nat) (ls:Array Bool) (a:Act) (w:World),(∀ j oj,ops[j]? = some oj→j≠i→ls.getD j true=false→(∀ e∈oj.after,Region.binds md e=true→e.on≠i)→oi.apart ops oj=true)→
   i∈Region.ready md ops ls→YieldsIf P ops S oi v a→S w→gU P md ops Q S L n (ls.setIfInBounds i true) (a.put oi.dst v) w→gU P md ops Q S L (n+1) ls a w:=by
  intro n
  induction n with
  | zero=>
   intro ls a w _ hr hy hS H;refine ⟨fun h=>(by rw [h] at hr;cases hr),fun j hj=>?_⟩;by_cases e:j=i
   ·rw [e];exact hy.wpOp hi hS ⟨fun _=>hS,H⟩
   ·have:=ready_mono hj e;rw [H.1] at this;cases this
  | succ n ih=>
   intro ls a w hap hr hy hS H;refine ⟨fun h=>(by rw [h] at hr;cases hr),fun j hj=>?_⟩;by_cases e:j=i
   ·rw [e];exact hy.wpOp hi hS ⟨fun _=>hS,H⟩
   have hjL:j≠L:=fun h=>rO hw hr (h▸hj);obtain ⟨hun,oj,hoj,hall⟩:=mem_ready.1 hj;have hno:∀ e∈oj.after,Region.binds md e=true→e.on≠i:=fun e he hb heq=>by
    have h1:=hall e he hb;have h0:=(mem_ready.1 hr).1;rw [heq] at h1;rcases Nat.lt_or_ge i ls.size with h' | h'
    ·simp [h'] at h0 h1;rw [h0] at h1;cases h1
    ·simp [Array.getElem?_eq_none h'] at h1
   have h2:=wpOp_putIf hoj (hap j oj hoj e hun hno) (fun cs b=>Region.noSelect_spec hs i oi cs b hi) (fun cs b=>Region.noSelect_spec hs j oj cs b hoj) hQ hy (H.2 j (ready_mono hj e));refine wpOp_mono (fun a' w' h3=>⟨h3.2.1,ih (ls.setIfInBounds j true) a' w' (fun k ok hk hki hu hn=>?_) (ready_mono hr (Ne.symm e)) h3.1 (h3.2.1 hjL) ?_⟩) h2
   ·refine hap k ok hk hki ?_ hn;by_cases hjk:j=k
    ·rw [← hjk];exact hun
    ·rw [getD_set_ne true hjk] at hu;exact hu
   ·rw [Array.setIfInBounds_comm _ _ e];exact h3.2.2
 exact main n ls a w (Region.free_spec hi hf) (by simpa using hr) hy hS h
end
end Go.Proofs.YtjpopekmbmcggaaGreatDoor
