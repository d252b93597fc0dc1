/- Towards unparseHeres_card. -/
import Derived.Test.YtjpopekmbmcggaaGreatDoorUh14
import Derived.Test.YtjpopekmbmcggaaGreatDoorUh16
import Derived.Test.YtjpopekmbmcggaaGreatDoorUh05
import Derived.Laws.EntriesVeiled
import Derived.Test.YtjpopekmbmcggaaGreatDoorUh11
set_option maxRecDepth 100000
set_option maxHeartbeats 16000000
namespace Go.Proofs.YtjpopekmbmcggaaGreatDoor
open Go
namespace Pts
def kz:Pts→List Int
 | nil=>[]
 | cons k _ _ kids _ rest=>k::(kids.kz++rest.kz)
def allc:Pts→List Cm
 | nil=>[]
 | cons _ _ _ kids cm rest=>cm::(kids.allc++rest.allc)
def same:Pts→Pts→Bool
 | nil,nil=>true
 | cons k t o kids _ rest,cons k' t' o' kids' _ rest'=>((k==k')&&(t.toList==t'.toList)&&(o.toList==o'.toList)&&kids.same kids')&&rest.same rest'
 | _,_=>false
theorem kz_len:∀ l:Pts,l.kz.length=l.allc.length
 | nil=>rfl
 | cons _ _ _ kids _ rest=>by rw [kz,allc];simp [kz_len kids,kz_len rest]
end Pts
def pick {β:Type}:List Int→List β→List β
 | k::ks,x::xs=>if k=6 then x::pick ks xs else pick ks xs
 | _,_=>[]
theorem rB {β:Type}:∀ (ks:List Int) (xs:List β) (ks':List Int) (xs':List β),ks.length=xs.length→pick (ks++ks') (xs++xs')=pick ks xs++pick ks' xs'
 | [],[],_,_,_=>rfl
 | k::ks,x::xs,ks',xs',h=>by
  have ih:=rB ks xs ks' xs' (by simpa using h);simp only [List.cons_append,pick]
  split <;> simp [ih]
 | [],_::_,_,_,h=>by simp at h
 | _::_,[],_,_,h=>by simp at h
theorem Pts.cmds_pick:∀ l:Pts,l.cmds=pick l.kz l.allc
 | .nil=>rfl
 | .cons k _ _ kids cm rest=>by
  rw [Pts.cmds,Pts.cmds_pick kids,Pts.cmds_pick rest,Pts.kz,Pts.allc,pick,rB _ _ _ _ (Pts.kz_len kids)]
  split <;> simp
def fB {α β:Type} (R:α→β→Prop):List α→List β→Prop
 | [],[]=>True
 | a::l,b::m=>R a b∧fB R l m
 | _,_=>False
namespace fB
variable {α β:Type} {R S:α→β→Prop}
theorem len:∀ {l:List α} {m:List β},fB R l m→l.length=m.length
 | [],[],_=>rfl
 | _::_,_::_,h=>by simp [len h.2]
 | [],_::_,h=>h.elim
 | _::_,[],h=>h.elim
theorem mono (hRS:∀ a b,R a b→S a b):∀ {l:List α} {m:List β},fB R l m→fB S l m
 | [],[],_=>trivial
 | _::_,_::_,h=>⟨hRS _ _ h.1,mono hRS h.2⟩
 | [],_::_,h=>h.elim
 | _::_,[],h=>h.elim
theorem get:∀ {l:List α} {m:List β} (_:fB R l m) (i:Nat) (h1:i<l.length) (h2:i<m.length),R l[i] m[i]
 | _::_,_::_,h,0,_,_=>h.1
 | _::_,_::_,h,i+1,h1,h2=>get h.2 i (by simpa using h1) (by simpa using h2)
 | [],_,_,_,h1,_=>by simp at h1
 | _::_,[],h,_,_,_=>h.elim
theorem pick:∀ (ks:List Int) {l:List α} {m:List β},fB R l m→fB R (pick ks l) (pick ks m)
 | [],_,_,_=>trivial
 | k::ks,[],[],_=>trivial
 | k::ks,_::_,_::_,h=>by
  simp only [YtjpopekmbmcggaaGreatDoor.pick]
  split
  ·exact ⟨h.1,pick ks h.2⟩
  ·exact pick ks h.2
 | _::_,[],_::_,h=>h.elim
 | _::_,_::_,[],h=>h.elim
end fB
structure WdF (α:Type) where
 p:Pts
 c:List (List α)
structure RdF (α:Type) where
 num:ByteArray
 op:Int
 tz:WdF α
 here:ByteArray
structure ArF (α:Type) where
 pats:List (WdF α)
 body:α
structure NdF (α:Type) where
 k:Int
 name:ByteArray
 not_:Bool
 in_:Bool
 ops:List Int
 assigns:List (WdF α)
 words:List (WdF α)
 redirs:List (RdF α)
 arms:List (ArF α)
 kids:List α
def Nd:Nat→Type
 | 0=>Empty
 | n+1=>NdF (Nd n)
def WdF.cmds {α:Type} (x:WdF α):List (List α):=pick x.p.kz x.c
structure Vw (α:Type) where
 kd:α→Int
 rt:α→Bool
 on:α→Bool
def Vw.R {α:Type} (v:Vw α) (x:α):Bool:=(v.kd x==1)&&v.rt x
def kF:List (List UInt8):=[[105,102],[116,104,101,110],[101,108,115,101],[101,108,105,102],[102,105],[100,111],[100,111,110,101],[99,97,115,101],[101,115,97,99],[119,104,105,108,101],[117,110,116,105,108],[102,111,114],[123],[125],[33],[105,110]]
def nC (s:List UInt8):List (List UInt8)→Int→Int
 | [],_=>0
 | x::r,i=>if x=s then i else nC s r (i+1)
def rsv (s:List UInt8):Int:=nC s kF 23
section
variable {α:Type} (v:Vw α)
def aP (x:WdF α):Bool:=x.p.right&&x.cmds.all fun l=>l.all v.R
def aW (r:RdF α):Bool:=
 (r.num.toList.isEmpty||Chr.digits r.num.toList)&&(decide (9≤r.op)&&decide (r.op≤17))&&aP v r.tz &&
  (if r.op=12∨r.op=13 then (match r.tz.p.utx with | none=>false | some s=>jB s (r.op==13) r.here.toList) else r.here.toList.isEmpty)
structure Has where
 nm:Bool
 op:Bool
 sa:Bool
 ws:Bool
 rs:Bool
 ar:Bool
 ks:Bool
def jT (h:Has) (n:NdF α):Bool:=
 (h.nm||n.name.toList.isEmpty)&&(h.op||n.ops.isEmpty)&&(h.sa||n.assigns.isEmpty)&&(h.ws||n.words.isEmpty)&&(h.rs||n.redirs.isEmpty)&&(h.ar||n.arms.isEmpty)&&(h.ks||n.kids.isEmpty) &&
  (!n.not_||n.k==3)&&(!n.in_||n.k==7)
def aR (h:Has) (n:NdF α):Bool:=jT h n&&(n.redirs.all (aW v)&&n.words.all (aP v)&&n.assigns.all (aP v))
def bQ (least:Nat) (from_:Int) (n:NdF α):Bool:=decide (least≤n.kids.length)&&n.kids.all fun x=>decide (from_≤v.kd x)&&v.rt x
def cD (least:Nat) (n:NdF α):Bool:=decide (least≤n.kids.length)&&n.kids.all v.R
def eV (many:Nat) (n:NdF α):Bool:=(n.ops.length==many)&&n.ops.all fun k=>(k==1)||(k==2)
def dU (n:NdF α):Bool:=
 (n.assigns.all fun x=>x.p.asg.isSome) &&
  match n.words with
  | []=>decide (0<n.assigns.length+n.redirs.length)
  | x::_=>!x.p.asg.isSome&&(decide (0<n.assigns.length+n.redirs.length) || !x.p.plt.isSome||(rsv (x.p.plt.getD [])==0))
def iJ (a:ArF α):Bool:=!a.pats.isEmpty&&a.pats.all (aP v)&&(v.R a.body||((v.kd a.body==1)&&v.on a.body))
def jF (n:NdF α):Bool:=
 Chr.name n.name.toList&&(rsv n.name.toList==0)&&(match n.kids with | [x]=>decide (5≤v.kd x)&&decide (v.kd x≤11)&&v.rt x | _=>false)
def aO (n:NdF α):Bool:=
 if n.k=1 then aR v ⟨false,true,false,false,false,false,true⟩ n&&(bQ v 1 2 n&&eV n.kids.length n)
 else if n.k=2 then aR v ⟨false,true,false,false,false,false,true⟩ n&&(bQ v 2 3 n&&eV (n.kids.length-1) n)
 else if n.k=3 then aR v ⟨false,false,false,false,false,false,true⟩ n&&(bQ v 1 4 n&&(n.not_ || !(n.kids.length==1)))
 else if n.k=4 then aR v ⟨false,false,true,true,true,false,false⟩ n&&dU n
 else if n.k=5∨n.k=6 then aR v ⟨false,false,false,false,true,false,true⟩ n&&((n.kids.length==1)&&cD v 1 n)
 else if n.k=7 then aR v ⟨true,false,false,n.in_,true,false,true⟩ n&&(Chr.name n.name.toList&&((n.kids.length==1)&&cD v 1 n))
 else if n.k=8 then aR v ⟨false,false,false,true,true,true,false⟩ n&&((n.words.length==1)&&n.arms.all (iJ v))
 else if n.k=9 then aR v ⟨false,false,false,false,true,false,true⟩ n&&cD v 2 n
 else if n.k=10∨n.k=11 then aR v ⟨false,false,false,false,true,false,true⟩ n&&(cD v 2 n&&(n.kids.length==2))
 else if n.k=12 then aR v ⟨true,false,false,false,false,false,true⟩ n&&jF v n
 else false
end
def oI:Has:=⟨false,false,false,false,false,false,false⟩
def Nd.vw:(f:Nat)→Vw (Nd f)
 | 0=>⟨fun x=>Empty.elim x,fun x=>Empty.elim x,fun x=>Empty.elim x⟩
 | f+1=>⟨fun x=>NdF.k x,fun x=>aO (Nd.vw f) x,fun x=>aR (Nd.vw f) oI x⟩
def Nd.right (f:Nat) (x:Nd f):Bool:=(Nd.vw f).R x
def nI {α β:Type} (p:α→β→Bool):List α→List β→Bool
 | [],[]=>true
 | a::l,b::m=>p a b&&nI p l m
 | _,_=>false
section
variable {α:Type} (S:α→α→Bool)
def uT (x y:WdF α):Bool:=x.p.same y.p&&nI (nI S) x.cmds y.cmds
def DI (x y:RdF α):Bool:=(x.num.toList==y.num.toList)&&(x.op==y.op)&&(x.here.toList==y.here.toList)&&uT S x.tz y.tz
def EH (x y:ArF α):Bool:=nI (uT S) x.pats y.pats&&S x.body y.body
def EC (a b:NdF α):Bool:=
 ((a.k==b.k)&&(a.name.toList==b.name.toList)&&(a.not_==b.not_)&&(a.in_==b.in_)&&nI (fun x y:Int=>x==y) a.ops b.ops) &&
  (nI (uT S) a.assigns b.assigns&&(nI (uT S) a.words b.words&&(nI (DI S) a.redirs b.redirs&&(nI (EH S) a.arms b.arms&&nI S a.kids b.kids))))
end
def Nd.same:(f:Nat)→Nd f→Nd f→Bool
 | 0=>fun x=>Empty.elim x
 | f+1=>fun x y=>EC (Nd.same f) x y
def tot {α:Type} (p:α→Nat):List α→Nat
 | []=>0
 | a::l=>p a+tot p l
section
variable {α:Type} (C:α→Nat)
def lW (x:WdF α):Nat:=tot (tot C) x.cmds
def CV (n:NdF α):Nat:=
 1+tot C n.kids+tot (lW C) n.assigns+tot (lW C) n.words+tot (fun r=>lW C r.tz) n.redirs+tot (fun a=>tot (lW C) a.pats+C a.body) n.arms
end
def Nd.count:(f:Nat)→Nd f→Nat
 | 0=>fun x=>Empty.elim x
 | f+1=>fun x=>CV (Nd.count f) x
section
variable {α:Type} (W:α→Nat)
def wtW (x:WdF α):Nat:=1+x.p.wt+tot (fun l=>1+tot W l) x.c
def wtR (r:RdF α):Nat:=1+r.num.size+r.here.size+wtW W r.tz
def wtA (a:ArF α):Nat:=1+tot (wtW W) a.pats+W a.body
def wtF (n:NdF α):Nat:=1+n.name.size+n.ops.length+tot (wtW W) n.assigns+tot (wtW W) n.words+tot (wtR W) n.redirs+tot (wtA W) n.arms+tot W n.kids
end
def Nd.wt:(f:Nat)→Nd f→Nat
 | 0=>fun x=>Empty.elim x
 | f+1=>fun x=>wtF (Nd.wt f) x
end Go.Proofs.YtjpopekmbmcggaaGreatDoor
namespace Go.Proofs.YtjpopekmbmcggaaGreatDoor
open Go.RowKit
def aV {β:Type} (G:Nat→Prop) (w:World) (sz:Nat) (R:List Value→β→Prop) (v:Value) (xs:List β):Prop:=
 ∃ A c,v=.slice A xs.length c∧xs.length≤c∧c≤maxLen∧(0<xs.length→∃ b off,A=some ⟨b,off,none⟩∧G b∧
  ∀ i (h:i<xs.length),∃ vs:List Value,vs.length=sz∧R vs xs[i]∧∀ j u,vs[j]? = some u→w.cell? ⟨b,off+i*sz+j,none⟩=some u)
theorem aV.keep {β:Type} {G G':Nat→Prop} {w w':World} {sz:Nat} {R R':List Value→β→Prop} {v:Value} {xs:List β} (h:aV G w sz R v xs) (hG:∀ k,G k→G' k) (hk:∀ p:Addr,G p.block→w'.cell? p=w.cell? p) (hR:∀ vs x,R vs x→R' vs x):aV G' w' sz R' v xs:=by
 obtain ⟨A,c,h1,h2,h3,h4⟩:=h;refine ⟨A,c,h1,h2,h3,fun hn=>?_⟩;obtain ⟨b,off,h5,h6,h7⟩:=h4 hn;refine ⟨b,off,h5,hG _ h6,fun i hi=>?_⟩;obtain ⟨vs,h8,h9,h10⟩:=h7 i hi;exact ⟨vs,h8,hR _ _ h9,fun j u hj=>(hk _ h6).trans (h10 j u hj)⟩
def lR (vs:List Value) (n:Int):Prop:=vs=[.int .i64 n]
section
variable {α:Type} (G:Nat→Prop) (w:World) (R:List Value→α→Prop)
def WdV (vs:List Value) (x:WdF α):Prop:=
 ∃ A c,vs=[.slice A x.p.len c]∧x.p.len≤c∧c≤maxLen∧x.p.wt≤1073741823∧aY G w A 0 x.p∧fB (fun cm l=>aV G w 10 R cm.val l) x.p.allc x.c
def RdV (vs:List Value) (r:RdF α):Prop:=∃ vt,vs=[.string r.num,.int .i64 r.op,vt,.string r.here]∧r.num.size≤1073741824∧r.here.size≤1073741824∧WdV G w R [vt] r.tz
def ArV (vs:List Value) (a:ArF α):Prop:=∃ vp bs,vs=vp::bs∧bs.length=10∧aV G w 1 (WdV G w R) vp a.pats∧R bs a.body
def xB (vs:List Value) (n:NdF α):Prop:=
 ∃ vo va vw vr vm vk,vs=[.int .i64 n.k,.string n.name,.bool n.not_,.bool n.in_,vo,va,vw,vr,vm,vk]∧(n.name.size≤1073741824∧n.assigns.length+n.redirs.length≤1073741824)∧
  aV G w 1 lR vo n.ops∧aV G w 1 (WdV G w R) va n.assigns∧aV G w 1 (WdV G w R) vw n.words∧aV G w 4 (RdV G w R) vr n.redirs∧aV G w 11 (ArV G w R) vm n.arms∧aV G w 10 R vk n.kids
end
def NdV:(f:Nat)→(Nat→Prop)→World→List Value→Nd f→Prop
 | 0,_,_,_,_=>False
 | f+1,G,w,vs,n=>xB G w (NdV f G w) vs n
section
variable {α:Type} {G G':Nat→Prop} {w w':World} {R R':List Value→α→Prop}
theorem WdV.keep (hG:∀ k,G k→G' k) (hk:∀ p:Addr,G p.block→w'.cell? p=w.cell? p) (hR:∀ vs x,R vs x→R' vs x) {vs:List Value} {x:WdF α} (h:WdV G w R vs x):WdV G' w' R' vs x:=by
 obtain ⟨A,c,h1,h2,h3,h4,h5,h6⟩:=h;exact ⟨A,c,h1,h2,h3,h4,(h5.keep hk).more hG,h6.mono fun _ _ h=>h.keep hG hk hR⟩
theorem RdV.keep (hG:∀ k,G k→G' k) (hk:∀ p:Addr,G p.block→w'.cell? p=w.cell? p) (hR:∀ vs x,R vs x→R' vs x) {vs:List Value} {x:RdF α} (h:RdV G w R vs x):RdV G' w' R' vs x:=by
 obtain ⟨vt,h1,h2,h3,h4⟩:=h;exact ⟨vt,h1,h2,h3,h4.keep hG hk hR⟩
theorem ArV.keep (hG:∀ k,G k→G' k) (hk:∀ p:Addr,G p.block→w'.cell? p=w.cell? p) (hR:∀ vs x,R vs x→R' vs x) {vs:List Value} {x:ArF α} (h:ArV G w R vs x):ArV G' w' R' vs x:=by
 obtain ⟨vp,bs,h1,h2,h3,h4⟩:=h;exact ⟨vp,bs,h1,h2,h3.keep hG hk fun _ _ h=>h.keep hG hk hR,hR _ _ h4⟩
theorem xB.keep (hG:∀ k,G k→G' k) (hk:∀ p:Addr,G p.block→w'.cell? p=w.cell? p) (hR:∀ vs x,R vs x→R' vs x) {vs:List Value} {x:NdF α} (h:xB G w R vs x):xB G' w' R' vs x:=by
 obtain ⟨vo,va,vw,vr,vm,vk,h1,h2,h3,h4,h5,h6,h7,h8⟩:=h;exact ⟨vo,va,vw,vr,vm,vk,h1,h2,h3.keep hG hk fun _ _ h=>h,h4.keep hG hk fun _ _ h=>h.keep hG hk hR,h5.keep hG hk fun _ _ h=>h.keep hG hk hR,h6.keep hG hk fun _ _ h=>h.keep hG hk hR,h7.keep hG hk fun _ _ h=>h.keep hG hk hR,h8.keep hG hk hR⟩
end
theorem NdV.keep {G G':Nat→Prop} {w w':World} (hG:∀ k,G k→G' k) (hk:∀ p:Addr,G p.block→w'.cell? p=w.cell? p):∀ {f:Nat} {vs:List Value} {x:Nd f},NdV f G w vs x→NdV f G' w' vs x
 | 0,_,_,h=>h.elim
 | _+1,_,_,h=>xB.keep hG hk (fun _ _ h=>NdV.keep hG hk h) h
def WdN (f:Nat) (G:Nat→Prop) (w:World):List Value→WdF (Nd f)→Prop:=WdV G w (NdV f G w)
def RdN (f:Nat) (G:Nat→Prop) (w:World):List Value→RdF (Nd f)→Prop:=RdV G w (NdV f G w)
def ArN (f:Nat) (G:Nat→Prop) (w:World):List Value→ArF (Nd f)→Prop:=ArV G w (NdV f G w)
section
variable {f:Nat} {G G':Nat→Prop} {w w':World} {vs:List Value}
theorem bC (hG:∀ k,G k→k<w.heap.size) (hb:Below w.heap.size w w'):∀ p:Addr,G p.block→w'.cell? p=w.cell? p:=fun _ hp=>World.cell?_of_block (hb.block _ (hG _ hp))
theorem NdV.below {x:Nd f} (h:NdV f G w vs x) (hG:∀ k,G k→k<w.heap.size) (hb:Below w.heap.size w w'):NdV f G w' vs x:=h.keep (fun _ h=>h) (bC hG hb)
theorem WdN.below {x:WdF (Nd f)} (h:WdN f G w vs x) (hG:∀ k,G k→k<w.heap.size) (hb:Below w.heap.size w w'):WdN f G w' vs x:=WdV.keep (fun _ h=>h) (bC hG hb) (fun _ _ h=>h.below hG hb) h
theorem RdN.below {x:RdF (Nd f)} (h:RdN f G w vs x) (hG:∀ k,G k→k<w.heap.size) (hb:Below w.heap.size w w'):RdN f G w' vs x:=RdV.keep (fun _ h=>h) (bC hG hb) (fun _ _ h=>h.below hG hb) h
theorem ArN.below {x:ArF (Nd f)} (h:ArN f G w vs x) (hG:∀ k,G k→k<w.heap.size) (hb:Below w.heap.size w w'):ArN f G w' vs x:=ArV.keep (fun _ h=>h) (bC hG hb) (fun _ _ h=>h.below hG hb) h
end
end Go.Proofs.YtjpopekmbmcggaaGreatDoor
namespace Go.Proofs.YtjpopekmbmcggaaGreatDoor
open Go.RowKit
def bG (fn:Nat):Prop:=∀ (args:Array Value) (w:World),(callFunc fn args).run Tryz.prog w=.ok (.enter fn args) w
def eM {β:Type} (R:World→List Value→β→Prop) (arg:List Value→Value) (w:World) (fn:Nat) (cap:Array Value) (p:β→Bool):Prop:=
 ∀ X,Below w.heap.size w X→∀ vs x,R X vs x→Calls Tryz.prog fn (#[arg vs]++cap) X fun e w'=>e=.returned (.bool (p x))∧Below X.heap.size X w'
theorem eM.on {β:Type} {R:World→List Value→β→Prop} {arg:List Value→Value} {w w':World} {fn:Nat} {cap:Array Value} {p:β→Bool} (h:eM R arg w fn cap p) (hb:Below w.heap.size w w'):eM R arg w' fn cap p:=
 fun X hX vs x hr=>h X (hb.trans (hX.mono hb.size)) vs x hr
def ag (vs:List Value):Value:=.agg vs.toArray
def one (vs:List Value):Value:=vs.headD (.bool false)
def kP (_:World):List Value→Int→Prop:=lR
theorem kP.below {G:Nat→Prop} {w w':World} {vs:List Value} {x:Int} (h:kP w vs x) (_:∀ k,G k→k<w.heap.size) (_:Below w.heap.size w w'):kP w' vs x:=h
theorem aV.shape {β:Type} {G:Nat→Prop} {w:World} {sz:Nat} {R:List Value→β→Prop} {v:Value} {xs:List β} (h:aV G w sz R v xs):∃ A c,v=.slice A xs.length c∧xs.length≤c∧c≤maxLen:=by
 obtain ⟨A,c,h1,h2,h3,_⟩:=h;exact ⟨A,c,h1,h2,h3⟩
theorem WdN.shape {f:Nat} {G:Nat→Prop} {w:World} {vs:List Value} {x:WdF (Nd f)} (h:WdN f G w vs x):∃ (A0:Option Addr) (n0 c0:Nat),vs=[.slice A0 n0 c0]:=by
 obtain ⟨A,c,rfl,_⟩:=h;exact ⟨A,x.p.len,c,rfl⟩
theorem RdN.shape {f:Nat} {G:Nat→Prop} {w:World} {vs:List Value} {x:RdF (Nd f)} (h:RdN f G w vs x):∃ (s:ByteArray) (o:Int) (A2:Option Addr) (n2 c2:Nat) (sh:ByteArray),vs=[.string s,.int .i64 o,.slice A2 n2 c2,.string sh]:=by
 obtain ⟨vt,rfl,_,_,A,c,h,_⟩:=h
 injection h with h
 subst h;exact ⟨x.num,x.op,A,x.tz.p.len,c,x.here,rfl⟩
theorem NdV.shape {f:Nat} {G:Nat→Prop} {w:World} {vs:List Value} {x:Nd f} (h:NdV f G w vs x):∃ (ky:Int) (s:ByteArray) (nt:Bool) (ni:Bool) (A4:Option Addr) (n4 c4:Nat) (A5:Option Addr) (n5 c5:Nat) (A6:Option Addr) (n6 c6:Nat) (A7:Option Addr) (n7 c7:Nat) (A8:Option Addr) (n8 c8:Nat) (A9:Option Addr) (n9 c9:Nat),vs=[.int .i64 ky,.string s,.bool nt,.bool ni,.slice A4 n4 c4,.slice A5 n5 c5,.slice A6 n6 c6,.slice A7 n7 c7,.slice A8 n8 c8,.slice A9 n9 c9]:=by
 cases f with
 | zero=>exact h.elim
 | succ f=>
  obtain ⟨vo,va,vw,vr,vm,vk,rfl,_,h4,h5,h6,h7,h8,h9⟩:=h;obtain ⟨A4,c4,rfl,_⟩:=h4.shape;obtain ⟨A5,c5,rfl,_⟩:=h5.shape;obtain ⟨A6,c6,rfl,_⟩:=h6.shape;obtain ⟨A7,c7,rfl,_⟩:=h7.shape;obtain ⟨A8,c8,rfl,_⟩:=h8.shape;obtain ⟨A9,c9,rfl,_⟩:=h9.shape;exact ⟨_,_,_,_,A4,_,c4,A5,_,c5,A6,_,c6,A7,_,c7,A8,_,c8,A9,_,c9,rfl⟩
theorem ArN.shape {f:Nat} {G:Nat→Prop} {w:World} {vs:List Value} {x:ArF (Nd f)} (h:ArN f G w vs x):∃ (A0:Option Addr) (n0 c0:Nat) (ky:Int) (s:ByteArray) (nt:Bool) (ni:Bool) (A14:Option Addr) (n14 c14:Nat) (A15:Option Addr) (n15 c15:Nat) (A16:Option Addr) (n16 c16:Nat) (A17:Option Addr) (n17 c17:Nat) (A18:Option Addr) (n18 c18:Nat) (A19:Option Addr) (n19 c19:Nat),vs=[.slice A0 n0 c0,.int .i64 ky,.string s,.bool nt,.bool ni,.slice A14 n14 c14,.slice A15 n15 c15,.slice A16 n16 c16,.slice A17 n17 c17,.slice A18 n18 c18,.slice A19 n19 c19]:=by
 obtain ⟨vp,bs,rfl,_,hp,hb⟩:=h;obtain ⟨A0,c0,rfl,_⟩:=hp.shape;obtain ⟨ky,s,nt,ni,A14,n14,c14,A15,n15,c15,A16,n16,c16,A17,n17,c17,A18,n18,c18,A19,n19,c19,rfl⟩:=NdV.shape hb;exact ⟨A0,_,c0,ky,s,nt,ni,A14,n14,c14,A15,n15,c15,A16,n16,c16,A17,n17,c17,A18,n18,c18,A19,n19,c19,rfl⟩
theorem kP.shape {w:World} {vs:List Value} {x:Int} (h:kP w vs x):∃ y:Int,vs=[.int .i64 y]:=⟨x,h⟩
theorem dD {Y:World} {b:Nat} {T:TypeId} {v0:Value} (h:Y.heap[b]? = some (.cells #[v0] T (0,0))):Y.cell? ⟨b,0,none⟩=some v0:=by simp [World.cell?,h]
theorem bB {β:Type} (xs:List β) (k:Nat) (h:k<xs.length):xs.drop k=xs[k]::xs.drop (k+1):=List.drop_eq_getElem_cons h
theorem sK (f:Nat) (G:Nat→Prop) (fn:Nat) (cap:Array Value) (p:Nd f→Bool) (v:Value) (xs:List (Nd f)) (w:World) (hG:∀ k,G k→k<w.heap.size) (hs:aV G w 10 (NdV f G w) v xs) (hent:bG fn) (hst:eM (NdV f G) ag w fn cap p):
  Calls Tryz.prog 152 #[v,.func (.func fn) #[] cap] w fun e w'=>∃ r:Int,e=.returned (.int .i64 r)∧decide (0≤r)=xs.any p∧Below w.heap.size w w':=by
 obtain ⟨A,c,rfl,hl,hm,hc⟩:=hs;unfold maxLen at hm;obtain ⟨HC,HG,HE,HST⟩:=hs4 hc hG hent hst;clear hc hG hent hst;go_enter Tryz.func152,Tryz.ntmps152;go_wp2
 go_loopw [8] (fun i wr=>∃ (k:Nat),k≤xs.length∧i=.int .i64 k∧(xs.drop k).any p=xs.any p∧Below w.heap.size w wr) (fun i _=>xs.length-(intOf i).toNat)
 case atStart=>exact ⟨0,by omega,rfl,rfl,Below.refl _ _⟩
 case round=>
  obtain ⟨k,hk,rfl,hf,hb⟩:=hrel;have HF:=Ha hf;have HB:=Ha hb;clear hf hb;by_cases hlt:k<xs.length
  ·obtain ⟨b,off,rfl,hg,hel⟩:=HC.out (by omega);obtain ⟨vs,hvl,hR,hcell⟩:=hel k hlt;have hR':=hR.below HG.out HB.out;obtain ⟨ky,s,nt,ni,A4,n4,c4,A5,n5,c5,A6,n6,c6,A7,n7,c7,A8,n8,c8,A9,n9,c9,rfl⟩:=hR'.shape;have z:=fun j u hj=>(bC HG.out HB.out _ hg).trans (hcell j u hj);have c0:wr.cell? ⟨b,off+k*10,none⟩=some (.int .i64 ky):=by simpa using z 0 _ rfl
   have c1:wr.cell? ⟨b,off+k*10+1,none⟩=some (.string s):=by simpa using z 1 _ rfl
   have c2:wr.cell? ⟨b,off+k*10+2,none⟩=some (.bool nt):=by simpa using z 2 _ rfl
   have c3:wr.cell? ⟨b,off+k*10+3,none⟩=some (.bool ni):=by simpa using z 3 _ rfl
   have c4:wr.cell? ⟨b,off+k*10+4,none⟩=some (.slice A4 n4 c4):=by simpa using z 4 _ rfl
   have c5:wr.cell? ⟨b,off+k*10+5,none⟩=some (.slice A5 n5 c5):=by simpa using z 5 _ rfl
   have c6:wr.cell? ⟨b,off+k*10+6,none⟩=some (.slice A6 n6 c6):=by simpa using z 6 _ rfl
   have c7:wr.cell? ⟨b,off+k*10+7,none⟩=some (.slice A7 n7 c7):=by simpa using z 7 _ rfl
   have c8:wr.cell? ⟨b,off+k*10+8,none⟩=some (.slice A8 n8 c8):=by simpa using z 8 _ rfl
   have c9:wr.cell? ⟨b,off+k*10+9,none⟩=some (.slice A9 n9 c9):=by simpa using z 9 _ rfl
   have HR:=Ha hR';clear z hel hcell hvl hR hR' hg;go_wp2_with fail;rw [HE.out,Oper.upon_enter];refine (HST.out _ HB.out _ _ HR.out).mono ?_;rintro e w1 ⟨he,hb1⟩;have HB1:=Ha (HB.out.trans (hb1.mono HB.out.size));clear hb1 c0 c1 c2 c3 c4 c5 c6 c7 c8 c9;cases hq:p xs[k]
   ·rw [hq] at he;subst he;have HQ:=Ha hq;clear hq;go_wp2_with fail
    go_roundw
    case rel=>
     refine ⟨k+1,by omega,by go_num, ?_,HB1.out⟩;have h:=HF.out;rw [bB xs k hlt,List.any_cons,HQ.out,Bool.false_or] at h;exact h
    case measure=>simp only [intOf];omega
   ·rw [hq] at he;subst he;have HQ:=Ha hq;clear hq;go_wp2_with fail;go_ret;refine ⟨(k:Int),rfl, ?_,HB1.out⟩;rw [← HF.out,bB xs k hlt,List.any_cons,HQ.out,Bool.true_or];exact decide_eq_true (by omega)
  ·have HD:=Ha (List.drop_eq_nil_of_le (show xs.length≤k by omega));go_wp2_with fail;go_ret;refine ⟨-1,rfl, ?_,HB.out⟩;rw [← HF.out,HD.out];rfl
theorem nL (f:Nat) (G:Nat→Prop) (fn:Nat) (cap:Array Value) (p:Nd f→Bool) (v:Value) (xs:List (Nd f)) (w:World) (hG:∀ k,G k→k<w.heap.size) (hs:aV G w 10 (NdV f G w) v xs) (hent:bG fn) (hst:eM (NdV f G) ag w fn cap p):
  Calls Tryz.prog 109 #[v,.func (.func fn) #[] cap] w fun e w'=>e=.returned (.bool (xs.any p))∧Below w.heap.size w w':=by
 have HX:=Ha (sK f G fn cap p v xs w hG hs hent hst);clear hG hs hent hst;go_enter Tryz.func109,Tryz.ntmps109;go_wp2_with fail;refine HX.out.mono ?_;rintro e w1 ⟨r,rfl,hq,hb⟩;have HQ:=Ha hq;clear hq;go_wp2_with fail;go_ret;exact ⟨aC HQ.out,hb⟩
theorem mN:bG 110:=fun args w=>by simp [callFunc,go_sem,Tryz.func110,Tryz.f110]
theorem uW (f:Nat) (G:Nat→Prop) (fn:Nat) (cap:Array Value) (p:Nd f→Bool) (X:World) (bo:Nat) (hG:∀ k,G k→k<X.heap.size) (hent:bG fn) (hst:eM (NdV f G) ag X fn cap p) (hbo:bo<X.heap.size)
  (hc:X.cell? ⟨bo,0,none⟩=some (.func (.func fn) #[] cap)) (vs:List Value) (x:Nd f) (hr:NdV f G X vs x):
  Calls Tryz.prog 110 (#[ag vs]++#[.pointer (some ⟨bo,0,none⟩)]) X fun e w'=>e=.returned (.bool (!p x))∧Below X.heap.size X w':=by
 obtain ⟨ky,s,nt,ni,A4,n4,c4,A5,n5,c5,A6,n6,c6,A7,n7,c7,A8,n8,c8,A9,n9,c9,rfl⟩:=hr.shape;have HE:=Ha hent;clear hent;show Calls Tryz.prog 110 #[.agg #[.int .i64 ky,.string s,.bool nt,.bool ni,.slice A4 n4 c4,.slice A5 n5 c5,.slice A6 n6 c6,.slice A7 n7 c7,.slice A8 n8 c8,.slice A9 n9 c9],.pointer (some ⟨bo,0,none⟩)] X _;have hb:Below X.heap.size X (X.alloc (.cells #[.int .i64 ky,.string s,.bool nt,.bool ni,.slice A4 n4 c4,.slice A5 n5 c5,.slice A6 n6 c6,.slice A7 n7 c7,.slice A8 n8 c8,.slice A9 n9 c9] 28)):=(Below.refl _ _).alloc (Nat.le_refl _) _;have HX:=Ha (hst _ hb _ _ (hr.below hG hb));have hc':(X.alloc (.cells #[.int .i64 ky,.string s,.bool nt,.bool ni,.slice A4 n4 c4,.slice A5 n5 c5,.slice A6 n6 c6,.slice A7 n7 c7,.slice A8 n8 c8,.slice A9 n9 c9] 28)).cell? ⟨bo,0,none⟩=some (.func (.func fn) #[] cap):=(hb.cell (p:=⟨bo,0,none⟩) hbo).trans hc;have HB:=Ha hb;clear hb hst hr hc;go_enter Tryz.func110,Tryz.ntmps110;go_wp2_with fail;rw [HE.out,Oper.upon_enter];refine HX.out.mono ?_;rintro e w1 ⟨rfl,hb1⟩;have HB1:=Ha (HB.out.trans (hb1.mono HB.out.size));clear hb1 hc';go_wp2_with fail;go_ret;exact ⟨rfl,HB1.out⟩
theorem mD (f:Nat) (G:Nat→Prop) (fn:Nat) (cap:Array Value) (p:Nd f→Bool) (v:Value) (xs:List (Nd f)) (w:World) (hG:∀ k,G k→k<w.heap.size) (hs:aV G w 10 (NdV f G w) v xs) (hent:bG fn) (hst:eM (NdV f G) ag w fn cap p):
  Calls Tryz.prog 41 #[v,.func (.func fn) #[] cap] w fun e w'=>e=.returned (.bool (xs.all p))∧Below w.heap.size w w':=by
 have hb:Below w.heap.size w (w.alloc (.cells #[.func (.func fn) #[] cap] 37)):=(Below.refl _ _).alloc (Nat.le_refl _) _;have hG1:∀ k,G k→k<(w.alloc (.cells #[.func (.func fn) #[] cap] 37)).heap.size:=fun k hk=>gK (hG k hk) hb.size;have hcc:(w.alloc (.cells #[.func (.func fn) #[] cap] 37)).cell? ⟨w.heap.size,0,none⟩=some (.func (.func fn) #[] cap):=dD (aN w _);have HX:=Ha (nL f G 110 #[.pointer (some ⟨w.heap.size,0,none⟩)] (fun x=>!p x) v xs _ hG1 (hs.keep (fun _ h=>h) (bC hG hb) (fun vs x h=>h.below hG hb)) mN
  (fun X hX vs x hr=>uW f G fn cap p X w.heap.size (fun k hk=>gK (hG1 k hk) hX.size) hent ((hst.on hb).on hX) (gK (by simp) hX.size) ((hX.cell (p:=⟨w.heap.size,0,none⟩) (by simp)).trans hcc) vs x hr))
 have HB:=Ha hb;have HA:=Ha (show (!xs.any fun x=>!p x)=xs.all p by rw [List.all_eq_not_any_not]);clear hb hG hs hent hst hG1 hcc;go_enter Tryz.func41,Tryz.ntmps41;go_wp2_with fail;refine HX.out.mono ?_;rintro e w1 ⟨rfl,hb1⟩;have HB1:=Ha (HB.out.trans (hb1.mono HB.out.size));clear hb1;go_wp2_with fail;go_ret;exact ⟨aC HA.out,HB1.out⟩
theorem qR (f:Nat) (G:Nat→Prop) (fn:Nat) (cap:Array Value) (p:RdF (Nd f)→Bool) (v:Value) (xs:List (RdF (Nd f))) (w:World) (hG:∀ k,G k→k<w.heap.size) (hs:aV G w 4 (RdN f G w) v xs) (hent:bG fn) (hst:eM (RdN f G) ag w fn cap p):
  Calls Tryz.prog 208 #[v,.func (.func fn) #[] cap] w fun e w'=>∃ r:Int,e=.returned (.int .i64 r)∧decide (0≤r)=xs.any p∧Below w.heap.size w w':=by
 obtain ⟨A,c,rfl,hl,hm,hc⟩:=hs;unfold maxLen at hm;obtain ⟨HC,HG,HE,HST⟩:=hs4 hc hG hent hst;clear hc hG hent hst;go_enter Tryz.func208,Tryz.ntmps208;go_wp2
 go_loopw [8] (fun i wr=>∃ (k:Nat),k≤xs.length∧i=.int .i64 k∧(xs.drop k).any p=xs.any p∧Below w.heap.size w wr) (fun i _=>xs.length-(intOf i).toNat)
 case atStart=>exact ⟨0,by omega,rfl,rfl,Below.refl _ _⟩
 case round=>
  obtain ⟨k,hk,rfl,hf,hb⟩:=hrel;have HF:=Ha hf;have HB:=Ha hb;clear hf hb;by_cases hlt:k<xs.length
  ·obtain ⟨b,off,rfl,hg,hel⟩:=HC.out (by omega);obtain ⟨vs,hvl,hR,hcell⟩:=hel k hlt;have hR':=hR.below HG.out HB.out;obtain ⟨s,o,A2,n2,c2,sh,rfl⟩:=hR'.shape;have z:=fun j u hj=>(bC HG.out HB.out _ hg).trans (hcell j u hj);have c0:wr.cell? ⟨b,off+k*4,none⟩=some (.string s):=by simpa using z 0 _ rfl
   have c1:wr.cell? ⟨b,off+k*4+1,none⟩=some (.int .i64 o):=by simpa using z 1 _ rfl
   have c2:wr.cell? ⟨b,off+k*4+2,none⟩=some (.slice A2 n2 c2):=by simpa using z 2 _ rfl
   have c3:wr.cell? ⟨b,off+k*4+3,none⟩=some (.string sh):=by simpa using z 3 _ rfl
   have HR:=Ha hR';clear z hel hcell hvl hR hR' hg;go_wp2_with fail;rw [HE.out,Oper.upon_enter];refine (HST.out _ HB.out _ _ HR.out).mono ?_;rintro e w1 ⟨he,hb1⟩;have HB1:=Ha (HB.out.trans (hb1.mono HB.out.size));clear hb1 c0 c1 c2 c3;cases hq:p xs[k]
   ·rw [hq] at he;subst he;have HQ:=Ha hq;clear hq;go_wp2_with fail
    go_roundw
    case rel=>
     refine ⟨k+1,by omega,by go_num, ?_,HB1.out⟩;have h:=HF.out;rw [bB xs k hlt,List.any_cons,HQ.out,Bool.false_or] at h;exact h
    case measure=>simp only [intOf];omega
   ·rw [hq] at he;subst he;have HQ:=Ha hq;clear hq;go_wp2_with fail;go_ret;refine ⟨(k:Int),rfl, ?_,HB1.out⟩;rw [← HF.out,bB xs k hlt,List.any_cons,HQ.out,Bool.true_or];exact decide_eq_true (by omega)
  ·have HD:=Ha (List.drop_eq_nil_of_le (show xs.length≤k by omega));go_wp2_with fail;go_ret;refine ⟨-1,rfl, ?_,HB.out⟩;rw [← HF.out,HD.out];rfl
theorem mH (f:Nat) (G:Nat→Prop) (fn:Nat) (cap:Array Value) (p:RdF (Nd f)→Bool) (v:Value) (xs:List (RdF (Nd f))) (w:World) (hG:∀ k,G k→k<w.heap.size) (hs:aV G w 4 (RdN f G w) v xs) (hent:bG fn) (hst:eM (RdN f G) ag w fn cap p):
  Calls Tryz.prog 170 #[v,.func (.func fn) #[] cap] w fun e w'=>e=.returned (.bool (xs.any p))∧Below w.heap.size w w':=by
 have HX:=Ha (qR f G fn cap p v xs w hG hs hent hst);clear hG hs hent hst;go_enter Tryz.func170,Tryz.ntmps170;go_wp2_with fail;refine HX.out.mono ?_;rintro e w1 ⟨r,rfl,hq,hb⟩;have HQ:=Ha hq;clear hq;go_wp2_with fail;go_ret;exact ⟨aC HQ.out,hb⟩
theorem lT:bG 171:=fun args w=>by simp [callFunc,go_sem,Tryz.func171,Tryz.f171]
theorem rT (f:Nat) (G:Nat→Prop) (fn:Nat) (cap:Array Value) (p:RdF (Nd f)→Bool) (X:World) (bo:Nat) (hG:∀ k,G k→k<X.heap.size) (hent:bG fn) (hst:eM (RdN f G) ag X fn cap p) (hbo:bo<X.heap.size)
  (hc:X.cell? ⟨bo,0,none⟩=some (.func (.func fn) #[] cap)) (vs:List Value) (x:RdF (Nd f)) (hr:RdN f G X vs x):
  Calls Tryz.prog 171 (#[ag vs]++#[.pointer (some ⟨bo,0,none⟩)]) X fun e w'=>e=.returned (.bool (!p x))∧Below X.heap.size X w':=by
 obtain ⟨s,o,A2,n2,c2,sh,rfl⟩:=hr.shape;have HE:=Ha hent;clear hent;show Calls Tryz.prog 171 #[.agg #[.string s,.int .i64 o,.slice A2 n2 c2,.string sh],.pointer (some ⟨bo,0,none⟩)] X _;have hb:Below X.heap.size X (X.alloc (.cells #[.string s,.int .i64 o,.slice A2 n2 c2,.string sh] 33)):=(Below.refl _ _).alloc (Nat.le_refl _) _;have HX:=Ha (hst _ hb _ _ (hr.below hG hb));have hc':(X.alloc (.cells #[.string s,.int .i64 o,.slice A2 n2 c2,.string sh] 33)).cell? ⟨bo,0,none⟩=some (.func (.func fn) #[] cap):=(hb.cell (p:=⟨bo,0,none⟩) hbo).trans hc;have HB:=Ha hb;clear hb hst hr hc;go_enter Tryz.func171,Tryz.ntmps171;go_wp2_with fail;rw [HE.out,Oper.upon_enter];refine HX.out.mono ?_;rintro e w1 ⟨rfl,hb1⟩;have HB1:=Ha (HB.out.trans (hb1.mono HB.out.size));clear hb1 hc';go_wp2_with fail;go_ret;exact ⟨rfl,HB1.out⟩
theorem uY (f:Nat) (G:Nat→Prop) (fn:Nat) (cap:Array Value) (p:RdF (Nd f)→Bool) (v:Value) (xs:List (RdF (Nd f))) (w:World) (hG:∀ k,G k→k<w.heap.size) (hs:aV G w 4 (RdN f G w) v xs) (hent:bG fn) (hst:eM (RdN f G) ag w fn cap p):
  Calls Tryz.prog 136 #[v,.func (.func fn) #[] cap] w fun e w'=>e=.returned (.bool (xs.all p))∧Below w.heap.size w w':=by
 have hb:Below w.heap.size w (w.alloc (.cells #[.func (.func fn) #[] cap] 39)):=(Below.refl _ _).alloc (Nat.le_refl _) _;have hG1:∀ k,G k→k<(w.alloc (.cells #[.func (.func fn) #[] cap] 39)).heap.size:=fun k hk=>gK (hG k hk) hb.size;have hcc:(w.alloc (.cells #[.func (.func fn) #[] cap] 39)).cell? ⟨w.heap.size,0,none⟩=some (.func (.func fn) #[] cap):=dD (aN w _);have HX:=Ha (mH f G 171 #[.pointer (some ⟨w.heap.size,0,none⟩)] (fun x=>!p x) v xs _ hG1 (hs.keep (fun _ h=>h) (bC hG hb) (fun vs x h=>h.below hG hb)) lT
  (fun X hX vs x hr=>rT f G fn cap p X w.heap.size (fun k hk=>gK (hG1 k hk) hX.size) hent ((hst.on hb).on hX) (gK (by simp) hX.size) ((hX.cell (p:=⟨w.heap.size,0,none⟩) (by simp)).trans hcc) vs x hr))
 have HB:=Ha hb;have HA:=Ha (show (!xs.any fun x=>!p x)=xs.all p by rw [List.all_eq_not_any_not]);clear hb hG hs hent hst hG1 hcc;go_enter Tryz.func136,Tryz.ntmps136;go_wp2_with fail;refine HX.out.mono ?_;rintro e w1 ⟨rfl,hb1⟩;have HB1:=Ha (HB.out.trans (hb1.mono HB.out.size));clear hb1;go_wp2_with fail;go_ret;exact ⟨aC HA.out,HB1.out⟩
theorem sL (f:Nat) (G:Nat→Prop) (fn:Nat) (cap:Array Value) (p:WdF (Nd f)→Bool) (v:Value) (xs:List (WdF (Nd f))) (w:World) (hG:∀ k,G k→k<w.heap.size) (hs:aV G w 1 (WdN f G w) v xs) (hent:bG fn) (hst:eM (WdN f G) ag w fn cap p):
  Calls Tryz.prog 209 #[v,.func (.func fn) #[] cap] w fun e w'=>∃ r:Int,e=.returned (.int .i64 r)∧decide (0≤r)=xs.any p∧Below w.heap.size w w':=by
 obtain ⟨A,c,rfl,hl,hm,hc⟩:=hs;unfold maxLen at hm;obtain ⟨HC,HG,HE,HST⟩:=hs4 hc hG hent hst;clear hc hG hent hst;go_enter Tryz.func209,Tryz.ntmps209;go_wp2
 go_loopw [8] (fun i wr=>∃ (k:Nat),k≤xs.length∧i=.int .i64 k∧(xs.drop k).any p=xs.any p∧Below w.heap.size w wr) (fun i _=>xs.length-(intOf i).toNat)
 case atStart=>exact ⟨0,by omega,rfl,rfl,Below.refl _ _⟩
 case round=>
  obtain ⟨k,hk,rfl,hf,hb⟩:=hrel;have HF:=Ha hf;have HB:=Ha hb;clear hf hb;by_cases hlt:k<xs.length
  ·obtain ⟨b,off,rfl,hg,hel⟩:=HC.out (by omega);obtain ⟨vs,hvl,hR,hcell⟩:=hel k hlt;have hR':=hR.below HG.out HB.out;obtain ⟨A0,n0,c0,rfl⟩:=hR'.shape;have z:=fun j u hj=>(bC HG.out HB.out _ hg).trans (hcell j u hj);have c0:wr.cell? ⟨b,off+k,none⟩=some (.slice A0 n0 c0):=by simpa using z 0 _ rfl
   have HR:=Ha hR';clear z hel hcell hvl hR hR' hg;go_wp2_with fail;rw [HE.out,Oper.upon_enter];refine (HST.out _ HB.out _ _ HR.out).mono ?_;rintro e w1 ⟨he,hb1⟩;have HB1:=Ha (HB.out.trans (hb1.mono HB.out.size));clear hb1 c0;cases hq:p xs[k]
   ·rw [hq] at he;subst he;have HQ:=Ha hq;clear hq;go_wp2_with fail
    go_roundw
    case rel=>
     refine ⟨k+1,by omega,by go_num, ?_,HB1.out⟩;have h:=HF.out;rw [bB xs k hlt,List.any_cons,HQ.out,Bool.false_or] at h;exact h
    case measure=>simp only [intOf];omega
   ·rw [hq] at he;subst he;have HQ:=Ha hq;clear hq;go_wp2_with fail;go_ret;refine ⟨(k:Int),rfl, ?_,HB1.out⟩;rw [← HF.out,bB xs k hlt,List.any_cons,HQ.out,Bool.true_or];exact decide_eq_true (by omega)
  ·have HD:=Ha (List.drop_eq_nil_of_le (show xs.length≤k by omega));go_wp2_with fail;go_ret;refine ⟨-1,rfl, ?_,HB.out⟩;rw [← HF.out,HD.out];rfl
theorem nN (f:Nat) (G:Nat→Prop) (fn:Nat) (cap:Array Value) (p:WdF (Nd f)→Bool) (v:Value) (xs:List (WdF (Nd f))) (w:World) (hG:∀ k,G k→k<w.heap.size) (hs:aV G w 1 (WdN f G w) v xs) (hent:bG fn) (hst:eM (WdN f G) ag w fn cap p):
  Calls Tryz.prog 172 #[v,.func (.func fn) #[] cap] w fun e w'=>e=.returned (.bool (xs.any p))∧Below w.heap.size w w':=by
 have HX:=Ha (sL f G fn cap p v xs w hG hs hent hst);clear hG hs hent hst;go_enter Tryz.func172,Tryz.ntmps172;go_wp2_with fail;refine HX.out.mono ?_;rintro e w1 ⟨r,rfl,hq,hb⟩;have HQ:=Ha hq;clear hq;go_wp2_with fail;go_ret;exact ⟨aC HQ.out,hb⟩
theorem mO:bG 173:=fun args w=>by simp [callFunc,go_sem,Tryz.func173,Tryz.f173]
theorem uX (f:Nat) (G:Nat→Prop) (fn:Nat) (cap:Array Value) (p:WdF (Nd f)→Bool) (X:World) (bo:Nat) (hG:∀ k,G k→k<X.heap.size) (hent:bG fn) (hst:eM (WdN f G) ag X fn cap p) (hbo:bo<X.heap.size)
  (hc:X.cell? ⟨bo,0,none⟩=some (.func (.func fn) #[] cap)) (vs:List Value) (x:WdF (Nd f)) (hr:WdN f G X vs x):
  Calls Tryz.prog 173 (#[ag vs]++#[.pointer (some ⟨bo,0,none⟩)]) X fun e w'=>e=.returned (.bool (!p x))∧Below X.heap.size X w':=by
 obtain ⟨A0,n0,c0,rfl⟩:=hr.shape;have HE:=Ha hent;clear hent;show Calls Tryz.prog 173 #[.agg #[.slice A0 n0 c0],.pointer (some ⟨bo,0,none⟩)] X _;have hb:Below X.heap.size X (X.alloc (.cells #[.slice A0 n0 c0] 31)):=(Below.refl _ _).alloc (Nat.le_refl _) _;have HX:=Ha (hst _ hb _ _ (hr.below hG hb));have hc':(X.alloc (.cells #[.slice A0 n0 c0] 31)).cell? ⟨bo,0,none⟩=some (.func (.func fn) #[] cap):=(hb.cell (p:=⟨bo,0,none⟩) hbo).trans hc;have HB:=Ha hb;clear hb hst hr hc;go_enter Tryz.func173,Tryz.ntmps173;go_wp2_with fail;rw [HE.out,Oper.upon_enter];refine HX.out.mono ?_;rintro e w1 ⟨rfl,hb1⟩;have HB1:=Ha (HB.out.trans (hb1.mono HB.out.size));clear hb1 hc';go_wp2_with fail;go_ret;exact ⟨rfl,HB1.out⟩
theorem jR (f:Nat) (G:Nat→Prop) (fn:Nat) (cap:Array Value) (p:WdF (Nd f)→Bool) (v:Value) (xs:List (WdF (Nd f))) (w:World) (hG:∀ k,G k→k<w.heap.size) (hs:aV G w 1 (WdN f G w) v xs) (hent:bG fn) (hst:eM (WdN f G) ag w fn cap p):
  Calls Tryz.prog 137 #[v,.func (.func fn) #[] cap] w fun e w'=>e=.returned (.bool (xs.all p))∧Below w.heap.size w w':=by
 have hb:Below w.heap.size w (w.alloc (.cells #[.func (.func fn) #[] cap] 38)):=(Below.refl _ _).alloc (Nat.le_refl _) _;have hG1:∀ k,G k→k<(w.alloc (.cells #[.func (.func fn) #[] cap] 38)).heap.size:=fun k hk=>gK (hG k hk) hb.size;have hcc:(w.alloc (.cells #[.func (.func fn) #[] cap] 38)).cell? ⟨w.heap.size,0,none⟩=some (.func (.func fn) #[] cap):=dD (aN w _);have HX:=Ha (nN f G 173 #[.pointer (some ⟨w.heap.size,0,none⟩)] (fun x=>!p x) v xs _ hG1 (hs.keep (fun _ h=>h) (bC hG hb) (fun vs x h=>h.below hG hb)) mO
  (fun X hX vs x hr=>uX f G fn cap p X w.heap.size (fun k hk=>gK (hG1 k hk) hX.size) hent ((hst.on hb).on hX) (gK (by simp) hX.size) ((hX.cell (p:=⟨w.heap.size,0,none⟩) (by simp)).trans hcc) vs x hr))
 have HB:=Ha hb;have HA:=Ha (show (!xs.any fun x=>!p x)=xs.all p by rw [List.all_eq_not_any_not]);clear hb hG hs hent hst hG1 hcc;go_enter Tryz.func137,Tryz.ntmps137;go_wp2_with fail;refine HX.out.mono ?_;rintro e w1 ⟨rfl,hb1⟩;have HB1:=Ha (HB.out.trans (hb1.mono HB.out.size));clear hb1;go_wp2_with fail;go_ret;exact ⟨aC HA.out,HB1.out⟩
theorem vP (G:Nat→Prop) (fn:Nat) (cap:Array Value) (p:Int→Bool) (v:Value) (xs:List (Int)) (w:World) (hG:∀ k,G k→k<w.heap.size) (hs:aV G w 1 (kP w) v xs) (hent:bG fn) (hst:eM (kP) one w fn cap p):
  Calls Tryz.prog 210 #[v,.func (.func fn) #[] cap] w fun e w'=>∃ r:Int,e=.returned (.int .i64 r)∧decide (0≤r)=xs.any p∧Below w.heap.size w w':=by
 obtain ⟨A,c,rfl,hl,hm,hc⟩:=hs;unfold maxLen at hm;obtain ⟨HC,HG,HE,HST⟩:=hs4 hc hG hent hst;clear hc hG hent hst;go_enter Tryz.func210,Tryz.ntmps210;go_wp2
 go_loopw [8] (fun i wr=>∃ (k:Nat),k≤xs.length∧i=.int .i64 k∧(xs.drop k).any p=xs.any p∧Below w.heap.size w wr) (fun i _=>xs.length-(intOf i).toNat)
 case atStart=>exact ⟨0,by omega,rfl,rfl,Below.refl _ _⟩
 case round=>
  obtain ⟨k,hk,rfl,hf,hb⟩:=hrel;have HF:=Ha hf;have HB:=Ha hb;clear hf hb;by_cases hlt:k<xs.length
  ·obtain ⟨b,off,rfl,hg,hel⟩:=HC.out (by omega);obtain ⟨vs,hvl,hR,hcell⟩:=hel k hlt;have hR':=hR.below HG.out HB.out;obtain ⟨y,rfl⟩:=hR'.shape;have z:=fun j u hj=>(bC HG.out HB.out _ hg).trans (hcell j u hj);have c0:wr.cell? ⟨b,off+k,none⟩=some (.int .i64 y):=by simpa using z 0 _ rfl
   have HR:=Ha hR';clear z hel hcell hvl hR hR' hg;go_wp2_with fail;rw [HE.out,Oper.upon_enter];refine (HST.out _ HB.out _ _ HR.out).mono ?_;rintro e w1 ⟨he,hb1⟩;have HB1:=Ha (HB.out.trans (hb1.mono HB.out.size));clear hb1 c0;cases hq:p xs[k]
   ·rw [hq] at he;subst he;have HQ:=Ha hq;clear hq;go_wp2_with fail
    go_roundw
    case rel=>
     refine ⟨k+1,by omega,by go_num, ?_,HB1.out⟩;have h:=HF.out;rw [bB xs k hlt,List.any_cons,HQ.out,Bool.false_or] at h;exact h
    case measure=>simp only [intOf];omega
   ·rw [hq] at he;subst he;have HQ:=Ha hq;clear hq;go_wp2_with fail;go_ret;refine ⟨(k:Int),rfl, ?_,HB1.out⟩;rw [← HF.out,bB xs k hlt,List.any_cons,HQ.out,Bool.true_or];exact decide_eq_true (by omega)
  ·have HD:=Ha (List.drop_eq_nil_of_le (show xs.length≤k by omega));go_wp2_with fail;go_ret;refine ⟨-1,rfl, ?_,HB.out⟩;rw [← HF.out,HD.out];rfl
theorem oV (G:Nat→Prop) (fn:Nat) (cap:Array Value) (p:Int→Bool) (v:Value) (xs:List (Int)) (w:World) (hG:∀ k,G k→k<w.heap.size) (hs:aV G w 1 (kP w) v xs) (hent:bG fn) (hst:eM (kP) one w fn cap p):
  Calls Tryz.prog 174 #[v,.func (.func fn) #[] cap] w fun e w'=>e=.returned (.bool (xs.any p))∧Below w.heap.size w w':=by
 have HX:=Ha (vP G fn cap p v xs w hG hs hent hst);clear hG hs hent hst;go_enter Tryz.func174,Tryz.ntmps174;go_wp2_with fail;refine HX.out.mono ?_;rintro e w1 ⟨r,rfl,hq,hb⟩;have HQ:=Ha hq;clear hq;go_wp2_with fail;go_ret;exact ⟨aC HQ.out,hb⟩
theorem nQ:bG 175:=fun args w=>by simp [callFunc,go_sem,Tryz.func175,Tryz.f175]
theorem xG (G:Nat→Prop) (fn:Nat) (cap:Array Value) (p:Int→Bool) (X:World) (bo:Nat) (_hG:∀ k,G k→k<X.heap.size) (hent:bG fn) (hst:eM (kP) one X fn cap p) (_hbo:bo<X.heap.size)
  (hc:X.cell? ⟨bo,0,none⟩=some (.func (.func fn) #[] cap)) (vs:List Value) (x:Int) (hr:kP X vs x):
  Calls Tryz.prog 175 (#[one vs]++#[.pointer (some ⟨bo,0,none⟩)]) X fun e w'=>e=.returned (.bool (!p x))∧Below X.heap.size X w':=by
 obtain ⟨y,rfl⟩:=hr.shape;have HE:=Ha hent;clear hent;show Calls Tryz.prog 175 #[.int .i64 y,.pointer (some ⟨bo,0,none⟩)] X _;have HR:=Ha hr;have HC:=Ha hc;have HX:=Ha (hst X (Below.refl _ _) _ _ HR.out);clear hst hr;go_enter Tryz.func175,Tryz.ntmps175;go_wp2_with fail;rw [HE.out,Oper.upon_enter];refine HX.out.mono ?_;rintro e w1 ⟨rfl,hb1⟩;go_wp2_with fail;go_ret;exact ⟨rfl,hb1⟩
theorem AQ (G:Nat→Prop) (fn:Nat) (cap:Array Value) (p:Int→Bool) (v:Value) (xs:List (Int)) (w:World) (hG:∀ k,G k→k<w.heap.size) (hs:aV G w 1 (kP w) v xs) (hent:bG fn) (hst:eM (kP) one w fn cap p):
  Calls Tryz.prog 139 #[v,.func (.func fn) #[] cap] w fun e w'=>e=.returned (.bool (xs.all p))∧Below w.heap.size w w':=by
 have hb:Below w.heap.size w (w.alloc (.cells #[.func (.func fn) #[] cap] 66)):=(Below.refl _ _).alloc (Nat.le_refl _) _;have hG1:∀ k,G k→k<(w.alloc (.cells #[.func (.func fn) #[] cap] 66)).heap.size:=fun k hk=>gK (hG k hk) hb.size;have hcc:(w.alloc (.cells #[.func (.func fn) #[] cap] 66)).cell? ⟨w.heap.size,0,none⟩=some (.func (.func fn) #[] cap):=dD (aN w _);have HX:=Ha (oV G 175 #[.pointer (some ⟨w.heap.size,0,none⟩)] (fun x=>!p x) v xs _ hG1 (hs.keep (fun _ h=>h) (bC hG hb) (fun vs x h=>h.below hG hb)) nQ
  (fun X hX vs x hr=>xG G fn cap p X w.heap.size (fun k hk=>gK (hG1 k hk) hX.size) hent ((hst.on hb).on hX) (gK (by simp) hX.size) ((hX.cell (p:=⟨w.heap.size,0,none⟩) (by simp)).trans hcc) vs x hr))
 have HB:=Ha hb;have HA:=Ha (show (!xs.any fun x=>!p x)=xs.all p by rw [List.all_eq_not_any_not]);clear hb hG hs hent hst hG1 hcc;go_enter Tryz.func139,Tryz.ntmps139;go_wp2_with fail;refine HX.out.mono ?_;rintro e w1 ⟨rfl,hb1⟩;have HB1:=Ha (HB.out.trans (hb1.mono HB.out.size));clear hb1;go_wp2_with fail;go_ret;exact ⟨aC HA.out,HB1.out⟩
theorem vO (f:Nat) (G:Nat→Prop) (fn:Nat) (cap:Array Value) (p:ArF (Nd f)→Bool) (v:Value) (xs:List (ArF (Nd f))) (w:World) (hG:∀ k,G k→k<w.heap.size) (hs:aV G w 11 (ArN f G w) v xs) (hent:bG fn) (hst:eM (ArN f G) ag w fn cap p):
  Calls Tryz.prog 177 #[v,.func (.func fn) #[] cap] w fun e w'=>∃ r:Int,e=.returned (.int .i64 r)∧decide (0≤r)=xs.any p∧Below w.heap.size w w':=by
 obtain ⟨A,c,rfl,hl,hm,hc⟩:=hs;unfold maxLen at hm;obtain ⟨HC,HG,HE,HST⟩:=hs4 hc hG hent hst;clear hc hG hent hst;go_enter Tryz.func177,Tryz.ntmps177;go_wp2
 go_loopw [8] (fun i wr=>∃ (k:Nat),k≤xs.length∧i=.int .i64 k∧(xs.drop k).any p=xs.any p∧Below w.heap.size w wr) (fun i _=>xs.length-(intOf i).toNat)
 case atStart=>exact ⟨0,by omega,rfl,rfl,Below.refl _ _⟩
 case round=>
  obtain ⟨k,hk,rfl,hf,hb⟩:=hrel;have HF:=Ha hf;have HB:=Ha hb;clear hf hb;by_cases hlt:k<xs.length
  ·obtain ⟨b,off,rfl,hg,hel⟩:=HC.out (by omega);obtain ⟨vs,hvl,hR,hcell⟩:=hel k hlt;have hR':=hR.below HG.out HB.out;obtain ⟨A0,n0,c0,ky,s,nt,ni,A14,n14,c14,A15,n15,c15,A16,n16,c16,A17,n17,c17,A18,n18,c18,A19,n19,c19,rfl⟩:=hR'.shape;have z:=fun j u hj=>(bC HG.out HB.out _ hg).trans (hcell j u hj);have c0:wr.cell? ⟨b,off+k*11,none⟩=some (.slice A0 n0 c0):=by simpa using z 0 _ rfl
   have c1:wr.cell? ⟨b,off+k*11+1,none⟩=some (.int .i64 ky):=by simpa using z 1 _ rfl
   have c2:wr.cell? ⟨b,off+k*11+2,none⟩=some (.string s):=by simpa using z 2 _ rfl
   have c3:wr.cell? ⟨b,off+k*11+3,none⟩=some (.bool nt):=by simpa using z 3 _ rfl
   have c4:wr.cell? ⟨b,off+k*11+4,none⟩=some (.bool ni):=by simpa using z 4 _ rfl
   have c5:wr.cell? ⟨b,off+k*11+5,none⟩=some (.slice A14 n14 c14):=by simpa using z 5 _ rfl
   have c6:wr.cell? ⟨b,off+k*11+6,none⟩=some (.slice A15 n15 c15):=by simpa using z 6 _ rfl
   have c7:wr.cell? ⟨b,off+k*11+7,none⟩=some (.slice A16 n16 c16):=by simpa using z 7 _ rfl
   have c8:wr.cell? ⟨b,off+k*11+8,none⟩=some (.slice A17 n17 c17):=by simpa using z 8 _ rfl
   have c9:wr.cell? ⟨b,off+k*11+9,none⟩=some (.slice A18 n18 c18):=by simpa using z 9 _ rfl
   have c10:wr.cell? ⟨b,off+k*11+10,none⟩=some (.slice A19 n19 c19):=by simpa using z 10 _ rfl
   have HR:=Ha hR';clear z hel hcell hvl hR hR' hg;go_wp2_with fail;rw [HE.out,Oper.upon_enter];refine (HST.out _ HB.out _ _ HR.out).mono ?_;rintro e w1 ⟨he,hb1⟩;have HB1:=Ha (HB.out.trans (hb1.mono HB.out.size));clear hb1 c0 c1 c2 c3 c4 c5 c6 c7 c8 c9 c10;cases hq:p xs[k]
   ·rw [hq] at he;subst he;have HQ:=Ha hq;clear hq;go_wp2_with fail
    go_roundw
    case rel=>
     refine ⟨k+1,by omega,by go_num, ?_,HB1.out⟩;have h:=HF.out;rw [bB xs k hlt,List.any_cons,HQ.out,Bool.false_or] at h;exact h
    case measure=>simp only [intOf];omega
   ·rw [hq] at he;subst he;have HQ:=Ha hq;clear hq;go_wp2_with fail;go_ret;refine ⟨(k:Int),rfl, ?_,HB1.out⟩;rw [← HF.out,bB xs k hlt,List.any_cons,HQ.out,Bool.true_or];exact decide_eq_true (by omega)
  ·have HD:=Ha (List.drop_eq_nil_of_le (show xs.length≤k by omega));go_wp2_with fail;go_ret;refine ⟨-1,rfl, ?_,HB.out⟩;rw [← HF.out,HD.out];rfl
theorem oU (f:Nat) (G:Nat→Prop) (fn:Nat) (cap:Array Value) (p:ArF (Nd f)→Bool) (v:Value) (xs:List (ArF (Nd f))) (w:World) (hG:∀ k,G k→k<w.heap.size) (hs:aV G w 11 (ArN f G w) v xs) (hent:bG fn) (hst:eM (ArN f G) ag w fn cap p):
  Calls Tryz.prog 145 #[v,.func (.func fn) #[] cap] w fun e w'=>e=.returned (.bool (xs.any p))∧Below w.heap.size w w':=by
 have HX:=Ha (vO f G fn cap p v xs w hG hs hent hst);clear hG hs hent hst;go_enter Tryz.func145,Tryz.ntmps145;go_wp2_with fail;refine HX.out.mono ?_;rintro e w1 ⟨r,rfl,hq,hb⟩;have HQ:=Ha hq;clear hq;go_wp2_with fail;go_ret;exact ⟨aC HQ.out,hb⟩
theorem nP:bG 146:=fun args w=>by simp [callFunc,go_sem,Tryz.func146,Tryz.f146]
theorem xF (f:Nat) (G:Nat→Prop) (fn:Nat) (cap:Array Value) (p:ArF (Nd f)→Bool) (X:World) (bo:Nat) (hG:∀ k,G k→k<X.heap.size) (hent:bG fn) (hst:eM (ArN f G) ag X fn cap p) (hbo:bo<X.heap.size)
  (hc:X.cell? ⟨bo,0,none⟩=some (.func (.func fn) #[] cap)) (vs:List Value) (x:ArF (Nd f)) (hr:ArN f G X vs x):
  Calls Tryz.prog 146 (#[ag vs]++#[.pointer (some ⟨bo,0,none⟩)]) X fun e w'=>e=.returned (.bool (!p x))∧Below X.heap.size X w':=by
 obtain ⟨A0,n0,c0,ky,s,nt,ni,A14,n14,c14,A15,n15,c15,A16,n16,c16,A17,n17,c17,A18,n18,c18,A19,n19,c19,rfl⟩:=hr.shape;have HE:=Ha hent;clear hent;show Calls Tryz.prog 146 #[.agg #[.slice A0 n0 c0,.int .i64 ky,.string s,.bool nt,.bool ni,.slice A14 n14 c14,.slice A15 n15 c15,.slice A16 n16 c16,.slice A17 n17 c17,.slice A18 n18 c18,.slice A19 n19 c19],.pointer (some ⟨bo,0,none⟩)] X _;have hb:Below X.heap.size X (X.alloc (.cells #[.slice A0 n0 c0,.int .i64 ky,.string s,.bool nt,.bool ni,.slice A14 n14 c14,.slice A15 n15 c15,.slice A16 n16 c16,.slice A17 n17 c17,.slice A18 n18 c18,.slice A19 n19 c19] 54)):=(Below.refl _ _).alloc (Nat.le_refl _) _;have HX:=Ha (hst _ hb _ _ (hr.below hG hb));have hc':(X.alloc (.cells #[.slice A0 n0 c0,.int .i64 ky,.string s,.bool nt,.bool ni,.slice A14 n14 c14,.slice A15 n15 c15,.slice A16 n16 c16,.slice A17 n17 c17,.slice A18 n18 c18,.slice A19 n19 c19] 54)).cell? ⟨bo,0,none⟩=some (.func (.func fn) #[] cap):=(hb.cell (p:=⟨bo,0,none⟩) hbo).trans hc;have HB:=Ha hb;clear hb hst hr hc;go_enter Tryz.func146,Tryz.ntmps146;go_wp2_with fail;rw [HE.out,Oper.upon_enter];refine HX.out.mono ?_;rintro e w1 ⟨rfl,hb1⟩;have HB1:=Ha (HB.out.trans (hb1.mono HB.out.size));clear hb1 hc';go_wp2_with fail;go_ret;exact ⟨rfl,HB1.out⟩
theorem AP (f:Nat) (G:Nat→Prop) (fn:Nat) (cap:Array Value) (p:ArF (Nd f)→Bool) (v:Value) (xs:List (ArF (Nd f))) (w:World) (hG:∀ k,G k→k<w.heap.size) (hs:aV G w 11 (ArN f G w) v xs) (hent:bG fn) (hst:eM (ArN f G) ag w fn cap p):
  Calls Tryz.prog 93 #[v,.func (.func fn) #[] cap] w fun e w'=>e=.returned (.bool (xs.all p))∧Below w.heap.size w w':=by
 have hb:Below w.heap.size w (w.alloc (.cells #[.func (.func fn) #[] cap] 91)):=(Below.refl _ _).alloc (Nat.le_refl _) _;have hG1:∀ k,G k→k<(w.alloc (.cells #[.func (.func fn) #[] cap] 91)).heap.size:=fun k hk=>gK (hG k hk) hb.size;have hcc:(w.alloc (.cells #[.func (.func fn) #[] cap] 91)).cell? ⟨w.heap.size,0,none⟩=some (.func (.func fn) #[] cap):=dD (aN w _);have HX:=Ha (oU f G 146 #[.pointer (some ⟨w.heap.size,0,none⟩)] (fun x=>!p x) v xs _ hG1 (hs.keep (fun _ h=>h) (bC hG hb) (fun vs x h=>h.below hG hb)) nP
  (fun X hX vs x hr=>xF f G fn cap p X w.heap.size (fun k hk=>gK (hG1 k hk) hX.size) hent ((hst.on hb).on hX) (gK (by simp) hX.size) ((hX.cell (p:=⟨w.heap.size,0,none⟩) (by simp)).trans hcc) vs x hr))
 have HB:=Ha hb;have HA:=Ha (show (!xs.any fun x=>!p x)=xs.all p by rw [List.all_eq_not_any_not]);clear hb hG hs hent hst hG1 hcc;go_enter Tryz.func93,Tryz.ntmps93;go_wp2_with fail;refine HX.out.mono ?_;rintro e w1 ⟨rfl,hb1⟩;have HB1:=Ha (HB.out.trans (hb1.mono HB.out.size));clear hb1;go_wp2_with fail;go_ret;exact ⟨aC HA.out,HB1.out⟩
def dJ:Array Value:=(kF.map bs).toArray
def cC (w:World):Prop:=∃ t fr,w.heap[0]? = some (.cells dJ t fr)
theorem cC.below {w w':World} (h:cC w) (hb:Below w.heap.size w w'):cC w':=by
 obtain ⟨t,fr,hg⟩:=h;exact ⟨t,fr,(hb.block 0 (Array.getElem?_eq_some_iff.1 hg).1).trans hg⟩
def kG (k:Nat):List UInt8:=kF.getD k []
theorem xR (k:Nat) (h:k<16) {w:World} (ht:cC w):w.cell? ⟨0,k,none⟩=some (bs (kG k)):=by
 obtain ⟨t,fr,hg⟩:=ht;rw [cell_of_row w 0 k dJ t fr hg];have:∀ k:Fin 16,dJ[k.val]? = some (bs (kG k.val)):=fun k=>by
  unfold dJ kG;have hl:k.val<kF.length:=by simp [kF]
  simp [List.getD,List.getElem?_eq_getElem hl]
 exact this ⟨k,h⟩
theorem nD (s:List UInt8):∀ k,k<16→nC s (kF.drop k) (23+k)=if kG k=s then (23:Int)+k else nC s (kF.drop (k+1)) (23+((k+1:Nat):Int)):=by
 have:∀ k:Fin 16,kF.drop k.val=kG k.val::kF.drop (k.val+1):=by decide
 intro k hk;rw [this ⟨k,hk⟩,nC];simp only [Int.natCast_add,Int.natCast_one,← Int.add_assoc]
theorem CK (s:ByteArray) (w:World) (ht:cC w):Calls Tryz.prog 143 #[.string s] w fun e w'=>e=.returned (.int .i64 (rsv s.toList))∧w=w':=by
 have HT:=Ha ht;clear ht;go_enter Tryz.func143,Tryz.ntmps143;go_wp2
 go_loop [4] (fun i=>∃ k:Nat,k≤16∧i=.int .i64 k∧nC s.toList (kF.drop k) (23+k)=rsv s.toList) (fun i=>16-(intOf i).toNat)
 case atStart=>exact ⟨0,by omega,rfl,rfl⟩
 case round=>
  obtain ⟨k,hk,rfl,hf⟩:=hrel;have H:=Ha hf;clear hf;by_cases hlt:k<16
  ·have hc:=xR k hlt HT.out;unfold bs at hc;have HD:=Ha (nD s.toList k hlt);cases he:kG k==s.toList
   ·have HE:=Ha (show ¬kG k=s.toList from fun h=>by simp [h] at he);go_wp2
    go_round
    case rel=>exact ⟨k+1,by omega,by go_num,by rw [← H.out,HD.out,if_neg HE.out]⟩
    case measure=>simp only [intOf];omega
   ·have HE:=Ha (show kG k=s.toList from by simpa using he);go_wp2;go_ret;exact ⟨bN (by rw [← H.out,HD.out,if_pos HE.out]),rfl⟩
  ·obtain rfl:k=16:=by omega
   go_wp2;go_ret;exact ⟨bN (by rw [← H.out];rfl),rfl⟩
theorem wY (w:World):Calls Tryz.prog 149 #[] w fun e w'=>e=.returned (.slice (some ⟨w.heap.size,0,none⟩) 16 16)∧w'=w.alloc (.cells dJ 9):=by
 go_enter Tryz.func149,Tryz.ntmps149;go_wp2;go_ret;exact ⟨rfl,rfl⟩
theorem CL (s:ByteArray) (w:World):Calls Tryz.prog 105 #[.string s] w fun e w'=>e=.returned (.int .i64 (rsv s.toList))∧Below w.heap.size w w':=by
 have hb:Below w.heap.size w (w.alloc (.cells dJ 9)):=(Below.refl _ _).alloc (Nat.le_refl _) _;have hcell:∀ k,k<16→(w.alloc (.cells dJ 9)).cell? ⟨w.heap.size,k,none⟩=some (bs (kG k)):=fun k hk=>by
  rw [cell_of_row _ w.heap.size k dJ _ _ (aN w _)];have:∀ k:Fin 16,dJ[k.val]? = some (bs (kG k.val)):=fun k=>by
   unfold dJ kG;have hl:k.val<kF.length:=by simp [kF]
   simp [List.getD,List.getElem?_eq_getElem hl]
  exact this ⟨k,hk⟩
 have HB:=Ha hb;have HC:=Ha hcell;clear hb hcell;go_enter Tryz.func105,Tryz.ntmps105;go_wp2_with fail;refine (wY _).mono ?_;rintro e w1 ⟨rfl,rfl⟩;generalize w.alloc (.cells dJ 9)=W at *;go_wp2
 go_loop [4] (fun i=>∃ k:Nat,k≤16∧i=.int .i64 k∧nC s.toList (kF.drop k) (23+k)=rsv s.toList) (fun i=>16-(intOf i).toNat)
 case atStart=>exact ⟨0,by omega,rfl,rfl⟩
 case round=>
  obtain ⟨k,hk,rfl,hf⟩:=hrel;have H:=Ha hf;clear hf;by_cases hlt:k<16
  ·have hc:=HC.out k hlt;unfold bs at hc;have HD:=Ha (nD s.toList k hlt);cases he:kG k==s.toList
   ·have HE:=Ha (show ¬kG k=s.toList from fun h=>by simp [h] at he);go_wp2
    go_round
    case rel=>exact ⟨k+1,by omega,by go_num,by rw [← H.out,HD.out,if_neg HE.out]⟩
    case measure=>simp only [intOf];omega
   ·have HE:=Ha (show kG k=s.toList from by simpa using he);go_wp2;go_ret;exact ⟨bN (by rw [← H.out,HD.out,if_pos HE.out]),HB.out⟩
  ·obtain rfl:k=16:=by omega
   go_wp2;go_ret;exact ⟨bN (by rw [← H.out];rfl),HB.out⟩
theorem dQ (w:World) (o0 o1:Obj):((w.alloc o0).alloc o1).heap[w.heap.size]? = some o0∧((w.alloc o0).alloc o1).heap[w.heap.size+1]? = some o1:=by
 have s1:(w.alloc o0).heap.size=w.heap.size+1:=by simp
 refine ⟨(Below.heap_alloc _ _ _ (by omega)).trans (heap_alloc_new w o0), ?_⟩;rw [← s1];exact heap_alloc_new _ o1
end Go.Proofs.YtjpopekmbmcggaaGreatDoor
namespace Go.Proofs.YtjpopekmbmcggaaGreatDoor
abbrev St:=List UInt8×List UInt8
namespace St
def put (s:St) (x:List UInt8):St:=(s.1++x,s.2)
def line (s:St):St:=(s.1++([10]++s.2),[])
def len (s:St):Nat:=s.1.length+s.2.length
theorem put_len (s:St) (x:List UInt8):(s.put x).len=s.len+x.length:=by simp [put,len];omega
theorem line_len (s:St):s.line.len=s.len+1:=by simp [line,len];omega
end St
structure Tv (α:Type) where
 cm:α→St→St
 ls:α→St→St
 sh:α→List UInt8
def bM (b:Bool):List UInt8:=if b then [32] else []
def iC:List UInt8:=[32,38]
def iX:List UInt8:=[102,111,114,32]
def tIn:List UInt8:=[32,105,110]
def tDo:List UInt8:=[100,111]
def dP:List UInt8:=[100,111,110,101]
def iW:List UInt8:=[99,97,115,101,32]
def kJ:List UInt8:=[101,115,97,99]
def eO:List UInt8:=[32,124,32]
def jN:List UInt8:=[32,38,38,32]
def tOr:List UInt8:=[32,124,124,32]
def jP:List UInt8:=[119,104,105,108,101]
def jO:List UInt8:=[117,110,116,105,108]
def fX (i:Nat) (last:Bool):List UInt8:=
 if i=0 then [105,102] else if i % 2=1 then [116,104,101,110] else if last then [101,108,115,101] else [101,108,105,102]
section
variable {α:Type} (v:Tv α)
def showX:List α→List UInt8
 | []=>[]
 | n::l=>v.sh n++showX l
def bZ (x:WdF α):List UInt8:=(x.p.shw (x.cmds.map (showX v))).1
def kO (r:RdF α):List UInt8:=if r.op=12∨r.op=13 then r.here.toList++r.tz.p.utx.getD []++[10] else []
def cT (r:RdF α) (s:St):St:=(s.1++(r.num.toList++Ope.txtI r.op++[32]++bZ v r.tz),s.2++kO r)
def cP:List (RdF α)→St→St
 | [],s=>s
 | r::l,s=>cP l (cT v r (s.put [32]))
def iB:Bool→List (RdF α)→St→St
 | _,[],s=>s
 | b,r::l,s=>iB true l (cT v r (s.put (bM b)))
def dO:Bool→List (WdF α)→St→St
 | _,[],s=>s
 | b,x::l,s=>dO true l (s.put (bM b++bZ v x))
def eK (n:NdF α) (s:St):St:=dO v (!n.redirs.isEmpty || !n.assigns.isEmpty) n.words (dO v (!n.redirs.isEmpty) n.assigns (iB v false n.redirs s))
def dV (sep:List UInt8):Bool→List (WdF α)→List UInt8
 | _,[]=>[]
 | b,x::l=>(if b then sep else [])++bZ v x++dV sep true l
def dG:Bool→List α→St→St
 | _,[],s=>s
 | b,k::l,s=>dG true l (v.cm k (s.put (if b then eO else [])))
def iU (n:NdF α) (s:St):St:=dG v false n.kids (s.put (if n.not_ then [33,32] else []))
def gN:List α→List Int→St→St
 | k::ks,o::os,s=>gN ks os (v.cm k (s.put (if o=1 then jN else tOr)))
 | _,_,s=>s
def mE (n:NdF α) (s:St):St:=
 match n.kids with
 | []=>s
 | k::ks=>gN v ks n.ops (v.cm k s)
def gL (o:Int) (last:Bool) (s:St):St:=if o=2 then s.put iC else if last then s else s.put [59]
def bU:List α→List Int→St→St
 | k::ks,o::os,s=>bU ks os ((gL o ks.isEmpty (v.cm k s)).put (bM !ks.isEmpty))
 | _,_,s=>s
def p3 (n:NdF α):List UInt8:=(bU v n.kids n.ops ([],[])).line.1
def fP:List α→List Int→St→St
 | k::ks,o::os,s=>fP ks os (gL o true (v.cm k s)).line
 | _,_,s=>s
def jW (n:NdF α) (s:St):St:=fP v n.kids n.ops s
def g6 (i:Nat) (l:List α) (s:St):St:=
 match l[i]? with
 | some k=>v.ls k s
 | none=>s
def dN:List (WdF α)→St→St
 | [],s=>s
 | x::l,s=>dN l (s.put ([32]++bZ v x))
def jG (n:NdF α) (s:St):St:=
 (g6 v 0 n.kids (((dN v n.words ((s.put (iX++n.name.toList)).put (if n.in_ then tIn else []))).line).put tDo).line).put dP
def fL:List (ArF α)→St→St
 | [],s=>s
 | a::l,s=>fL l ((v.ls a.body ((s.put ([40]++dV v eO false a.pats++[41])).line)).put [59,59]).line
def word0:List (WdF α)→List UInt8
 | []=>[]
 | x::_=>bZ v x
def fW (n:NdF α) (s:St):St:=(fL v n.arms ((s.put (iW++word0 v n.words++tIn)).line)).put kJ
def dX:Nat→List α→St→St
 | _,[],s=>s
 | i,k::l,s=>dX (i+1) l (v.ls k ((s.put (fX i l.isEmpty)).line))
def lJ (n:NdF α) (s:St):St:=(dX v 0 n.kids s).put [102,105]
def fE (head:List UInt8) (n:NdF α) (s:St):St:=(g6 v 1 n.kids (((g6 v 0 n.kids ((s.put head).line)).put tDo).line)).put dP
def fC (a z:List UInt8) (n:NdF α) (s:St):St:=(g6 v 0 n.kids ((s.put a).line)).put z
def cQ (n:NdF α) (s:St):St:=
 if n.k=5 then fC v [123] [125] n s else if n.k=6 then fC v [40] [41] n s else if n.k=7 then jG v n s else if n.k=8 then fW v n s
 else if n.k=9 then lJ v n s else if n.k=10 then fE v jP n s else if n.k=11 then fE v jO n s else s
def rZ (i:Nat) (l:List α) (s:St):St:=
 match l[i]? with
 | some k=>v.cm k s
 | none=>s
def jI (n:NdF α) (s:St):St:=
 if n.k=2 then mE v n s else if n.k=3 then iU v n s else if n.k=4 then eK v n s
 else if n.k=12 then rZ v 0 n.kids ((s.put (n.name.toList++[40,41])).line)
 else cP v n.redirs (cQ v n s)
end
def Nd.tv:(f:Nat)→Tv (Nd f)
 | 0=>⟨fun x=>Empty.elim x,fun x=>Empty.elim x,fun x=>Empty.elim x⟩
 | f+1=>⟨jI (Nd.tv f),jW (Nd.tv f),p3 (Nd.tv f)⟩
structure Tv.Ok {α:Type} (v:Tv α) (W:α→Nat):Prop where
 cm:∀ x s,(v.cm x s).len+16≤s.len+64*W x
 ls:∀ x s,(v.ls x s).len+16≤s.len+64*W x
 sh:∀ x,(v.sh x).length+16≤64*W x
theorem lD {β:Type} (C:β→Nat):∀ (ks:List Int) (xs:List β),tot C (pick ks xs)≤tot C xs
 | [],xs=>by simp [pick,tot]
 | _::_,[]=>by simp [pick,tot]
 | k::ks,x::xs=>by
  have:=lD C ks xs;simp only [pick]
  split <;> simp only [tot] <;> omega
theorem rJ (op:Int):(Ope.txtI op).length≤3:=by
 unfold Ope.txtI
 split
 ·simp
 ·unfold Ope.txt;rcases Nat.lt_or_ge op.toNat 18 with h | h
  ·have:∀ k,k<18→(Ope.texts.getD k []).length≤3:=by decide
   exact this _ h
  ·rw [List.getD_eq_getElem?_getD,List.getElem?_eq_none (by simpa [Ope.texts] using h)];simp
theorem rM (l:Pts):(l.utx.getD []).length≤l.wt:=by
 cases h:l.utx with
 | none=>simp
 | some s=>simpa using Pts.utx_len l s h
section
variable {α:Type} {v:Tv α} {W:α→Nat} (hv:v.Ok W)
include hv
theorem lG:∀ l:List α,(showX v l).length≤64*tot W l
 | []=>by simp [showX]
 | n::l=>by
  have:=lG l;have:=hv.sh n;simp only [showX,tot,gI];omega
theorem iZ:∀ c:List (List α),Pts.total (c.map (showX v))≤64*tot (fun l=>1+tot W l) c
 | []=>by simp [Pts.total]
 | l::c=>by
  have:=iZ c;have:=lG hv l;simp only [List.map_cons,Pts.total,tot];omega
theorem cI (x:WdF α):(bZ v x).length+32+x.p.wt≤64*wtW W x:=by
 have h1:=Pts.shw_len x.p (x.cmds.map (showX v));have h2:=iZ hv x.cmds;have h3:tot (fun l=>1+tot W l) x.cmds≤tot (fun l=>1+tot W l) x.c:=lD _ _ _;unfold bZ wtW;omega
theorem iA (r:RdF α) (s:St):(cT v r s).len+16≤s.len+64*wtR W r:=by
 have h1:=cI hv r.tz;have h2:=rJ r.op;have h3:=rM r.tz.p;have h4:=Pts.len_list r.num;have h5:=Pts.len_list r.here;have h6:(kO r).length≤r.here.size+r.tz.p.wt+1:=by
  unfold kO
  split
  ·simp only [gI,gG,gH];omega
  ·simp
 unfold cT wtR St.len;simp only [gI,gG,gH];omega
theorem iV:∀ (l:List (RdF α)) (s:St),(cP v l s).len≤s.len+64*tot (wtR W) l
 | [],s=>by simp [cP,tot]
 | r::l,s=>by
  have h1:=iV l (cT v r (s.put [32]));have h2:=iA hv r (s.put [32]);have h3:=St.put_len s [32];simp only [cP,tot];simp only [gG,gH] at h3;omega
theorem rH:∀ (l:List (RdF α)) (b:Bool) (s:St),(iB v b l s).len≤s.len+64*tot (wtR W) l
 | [],b,s=>by simp [iB,tot]
 | r::l,b,s=>by
  have h1:=rH l true (cT v r (s.put (bM b)));have h2:=iA hv r (s.put (bM b));have h3:=St.put_len s (bM b);have h4:(bM b).length≤1:=by cases b <;> simp [bM]
  simp only [iB,tot];omega
theorem kH:∀ (l:List (WdF α)) (b:Bool) (s:St),(dO v b l s).len≤s.len+64*tot (wtW W) l
 | [],b,s=>by simp [dO,tot]
 | x::l,b,s=>by
  have h1:=kH l true (s.put (bM b++bZ v x));have h2:=cI hv x;have h3:=St.put_len s (bM b++bZ v x);have h4:(bM b).length≤1:=by cases b <;> simp [bM]
  simp only [dO,tot];rw [gI] at h3;omega
theorem kX (sep:List UInt8) (hs:sep.length≤8):∀ (l:List (WdF α)) (b:Bool),(dV v sep b l).length≤64*tot (wtW W) l
 | [],b=>by simp [dV,tot]
 | x::l,b=>by
  have h1:=kX sep hs l true;have h2:=cI hv x;have h4:(if b then sep else []).length≤8:=by cases b <;> simp [hs]
  simp only [dV,tot,gI];omega
theorem oM:∀ (l:List α) (b:Bool) (s:St),(dG v b l s).len≤s.len+64*tot W l
 | [],b,s=>by simp [dG,tot]
 | x::l,b,s=>by
  have h1:=oM l true (v.cm x (s.put (if b then eO else [])));have h2:=hv.cm x (s.put (if b then eO else []));have h3:=St.put_len s (if b then eO else []);have h4:(if b then eO else []).length≤8:=by cases b <;> simp [eO]
  simp only [dG,tot];omega
theorem qC:∀ (l:List α) (os:List Int) (s:St),(gN v l os s).len≤s.len+64*tot W l
 | [],os,s=>by simp [gN,tot]
 | x::l,[],s=>by simp only [gN];omega
 | x::l,o::os,s=>by
  have h1:=qC l os (v.cm x (s.put (if o=1 then jN else tOr)));have h2:=hv.cm x (s.put (if o=1 then jN else tOr));have h3:=St.put_len s (if o=1 then jN else tOr);have h4:(if o=1 then jN else tOr).length≤8:=by split <;> simp [jN,tOr]
  simp only [gN,tot];omega
omit hv in
theorem qJ (o:Int) (b:Bool) (s:St):(gL o b s).len≤s.len+2:=by
 unfold gL
 split
 ·rw [St.put_len];simp [iC]
 ·split
  ·omega
  ·rw [St.put_len];simp
theorem nH:∀ (l:List α) (os:List Int) (s:St),(bU v l os s).len≤s.len+64*tot W l
 | [],os,s=>by simp [bU,tot]
 | x::l,[],s=>by simp only [bU];omega
 | x::l,o::os,s=>by
  have h1:=nH l os ((gL o l.isEmpty (v.cm x s)).put (bM !l.isEmpty));have h2:=hv.cm x s;have h3:=St.put_len (gL o l.isEmpty (v.cm x s)) (bM !l.isEmpty);have h5:=qJ o l.isEmpty (v.cm x s);have h4:(bM !l.isEmpty).length≤1:=by cases l.isEmpty <;> simp [bM]
  simp only [bU,tot];omega
theorem oB:∀ (l:List α) (os:List Int) (s:St),(fP v l os s).len≤s.len+64*tot W l
 | [],os,s=>by simp [fP,tot]
 | x::l,[],s=>by simp only [fP];omega
 | x::l,o::os,s=>by
  have h1:=oB l os (gL o true (v.cm x s)).line;have h2:=hv.cm x s;have h3:=St.line_len (gL o true (v.cm x s));have h5:=qJ o true (v.cm x s);simp only [fP,tot];omega
theorem kY:∀ (l:List (WdF α)) (s:St),(dN v l s).len≤s.len+64*tot (wtW W) l
 | [],s=>by simp [dN,tot]
 | x::l,s=>by
  have h1:=kY l (s.put ([32]++bZ v x));have h2:=cI hv x;have h3:=St.put_len s ([32]++bZ v x);simp only [dN,tot];rw [gI,gG,gH] at h3;omega
theorem kQ:∀ (l:List (ArF α)) (s:St),(fL v l s).len≤s.len+64*tot (wtA W) l
 | [],s=>by simp [fL,tot]
 | a::l,s=>by
  have h1:=kQ l ((v.ls a.body ((s.put ([40]++dV v eO false a.pats++[41])).line)).put [59,59]).line;have h2:=kX hv eO (by simp [eO]) a.pats false;have h3:=hv.ls a.body ((s.put ([40]++dV v eO false a.pats++[41])).line);rw [St.line_len,St.put_len,gG,gG,gH] at h1;rw [St.line_len,St.put_len,gI,gI,gG,gH,gG,gH] at h3;simp only [fL,tot,wtA];omega
omit hv in
theorem vN (i:Nat) (b:Bool):(fX i b).length≤4:=by
 unfold fX
 repeat' split
 all_goals decide
theorem kS:∀ (l:List α) (i:Nat) (s:St),(dX v i l s).len≤s.len+64*tot W l
 | [],i,s=>by simp [dX,tot]
 | x::l,i,s=>by
  have h1:=kS l (i+1) (v.ls x ((s.put (fX i l.isEmpty)).line));have h2:=hv.ls x ((s.put (fX i l.isEmpty)).line);have h3:=vN i l.isEmpty;rw [St.line_len,St.put_len] at h2;simp only [dX,tot];omega
theorem yS (i:Nat) (l:List α) (s:St):∃ a,(g6 v i l s).len≤s.len+64*a∧(∀ x,l[i]? = some x→a=W x)∧(l[i]? = none→a=0):=by
 unfold g6;cases h:l[i]? with
 | none=>exact ⟨0,by simp,by simp,by simp⟩
 | some k=>exact ⟨W k,by have:=hv.ls k s;simp only;omega,by simp,by simp⟩
omit hv in
theorem nG (l:List α) (i:Nat) (x:α) (h:l[i]? = some x):W x≤tot W l:=by
 induction l generalizing i with
 | nil=>simp at h
 | cons y l ih=>
  cases i with
  | zero=>simp at h;subst h;rw [tot];omega
  | succ i=>have:=ih i (by simpa using h);rw [tot];omega
theorem jZ (i:Nat) (l:List α) (s:St):(g6 v i l s).len≤s.len+64*tot W l:=by
 obtain ⟨a,h1,h2,h3⟩:=yS hv i l s;cases h:l[i]? with
 | none=>have:=h3 h;omega
 | some k=>have:=h2 k h;have:=nG (W:=W) l i k h;omega
theorem qW (l:List α) (s t:St) (c:Nat) (ht:t.len≤(g6 v 0 l s).len+c):(g6 v 1 l t).len≤s.len+64*tot W l+c:=by
 match l with
 | []=>
  have h1:=jZ hv 0 ([]:List α) s;have h2:=jZ hv 1 ([]:List α) t;simp only [tot] at h1 h2 ⊢;omega
 | x::l=>
  have h1:(g6 v 0 (x::l) s).len≤s.len+64*W x:=by have:=hv.ls x s;simp only [g6,List.getElem?_cons_zero];omega
  have h2:(g6 v 1 (x::l) t).len≤t.len+64*tot W l:=by
   have:=jZ hv 0 l t
   simpa [g6] using this
  rw [tot];omega
theorem xW (n:NdF α) (s:St):(jI v n s).len+16≤s.len+64*wtF W n:=by
 obtain ⟨k,name,no,i,ops,asg,wds,rds,ars,kds⟩:=n;have hn:=Pts.len_list name;have hr:=fun s=>iV hv rds s;have hl0:=fun i s=>jZ hv i kds s;unfold wtF jI;simp only;by_cases h2:k=2
 ·rw [if_pos h2];unfold mE;simp only;cases kds with
  | nil=>simp only;omega
  | cons x l=>
   have h3:=qC hv l ops (v.cm x s);have h4:=hv.cm x s;simp only [tot];omega
 rw [if_neg h2];by_cases h3:k=3
 ·rw [if_pos h3];have h4:=oM hv kds false (s.put (if no then [33,32] else []));rw [St.put_len] at h4;have h5:(if no then ([33,32]:List UInt8) else []).length≤2:=by cases no <;> simp
  simp only [iU];omega
 rw [if_neg h3];by_cases h4:k=4
 ·rw [if_pos h4];have a1:=rH hv rds false s;have a2:=kH hv asg (!rds.isEmpty) (iB v false rds s);have a3:=kH hv wds (!rds.isEmpty || !asg.isEmpty) (dO v (!rds.isEmpty) asg (iB v false rds s));simp only [eK];omega
 rw [if_neg h4];by_cases h12:k=12
 ·rw [if_pos h12];have h5:=St.line_len (s.put (name.toList++[40,41]));rw [St.put_len,gI,gG,gG,gH] at h5;unfold rZ;cases hk:kds[0]? with
  | none=>simp only;omega
  | some x=>
   have:=nG (W:=W) kds 0 x hk;have:=hv.cm x (s.put (name.toList++[40,41])).line;simp only;omega
 rw [if_neg h12];have hc:(cQ v ⟨k,name,no,i,ops,asg,wds,rds,ars,kds⟩ s).len≤s.len+48+name.size+64*tot (wtW W) wds+64*tot (wtA W) ars+64*tot W kds:=by
  unfold cQ;simp only;have hb:∀ a z:List UInt8,a.length≤8→z.length≤8→(fC v a z ⟨k,name,no,i,ops,asg,wds,rds,ars,kds⟩ s).len≤s.len+17+64*tot W kds:=fun a z ha hz=>by
   have h1:=hl0 0 (s.put a).line;rw [St.line_len,St.put_len] at h1;unfold fC;rw [St.put_len];simp only;omega
  have hw:∀ a:List UInt8,a.length≤8→(fE v a ⟨k,name,no,i,ops,asg,wds,rds,ars,kds⟩ s).len≤s.len+20+64*tot W kds:=fun a ha=>by
   have h1:=qW hv kds (s.put a).line (((g6 v 0 kds ((s.put a).line)).put tDo).line) 3 (by rw [St.line_len,St.put_len];simp [tDo]);rw [St.line_len,St.put_len] at h1;unfold fE;rw [St.put_len];simp only [dP,gG,gH];omega
  repeat' split
  ·have:=hb [123] [125] (by simp) (by simp);omega
  ·have:=hb [40] [41] (by simp) (by simp);omega
  ·have h1:=kY hv wds ((s.put (iX++name.toList)).put (if i then tIn else []));have h2:=hl0 0 (((dN v wds ((s.put (iX++name.toList)).put (if i then tIn else []))).line).put tDo).line;have h3:(if i then tIn else []).length≤3:=by cases i <;> simp [tIn]
   rw [St.put_len,St.put_len,gI] at h1;rw [St.line_len,St.put_len,St.line_len] at h2;unfold jG;rw [St.put_len];simp only [iX,tDo,dP,gG,gH] at *;omega
  ·have h1:=kQ hv ars (s.put (iW++word0 v wds++tIn)).line;have h2:(word0 v wds).length≤64*tot (wtW W) wds:=by
    cases wds with
    | nil=>simp [word0]
    | cons x l=>have:=cI hv x;simp only [word0,tot];omega
   rw [St.line_len,St.put_len,gI,gI] at h1;unfold fW;rw [St.put_len];simp only [iW,tIn,kJ,gG,gH] at *;omega
  ·have h1:=kS hv kds 0 s;unfold lJ;rw [St.put_len];simp only [gG,gH];omega
  ·have:=hw jP (by simp [jP]);omega
  ·have:=hw jO (by simp [jO]);omega
  ·omega
 have hr2:=hr (cQ v ⟨k,name,no,i,ops,asg,wds,rds,ars,kds⟩ s);have hwt:tot (wtR W) rds≤tot (wtR W) rds:=Nat.le_refl _;omega
theorem vT (n:NdF α) (s:St):(jW v n s).len+16≤s.len+64*wtF W n:=by
 have:=oB hv n.kids n.ops s;unfold jW wtF;omega
theorem tQ (n:NdF α):(p3 v n).length+16≤64*wtF W n:=by
 have h1:=nH hv n.kids n.ops ([],[]);have h2:=St.line_len (bU v n.kids n.ops ([],[]));have h3:(p3 v n).length≤(bU v n.kids n.ops ([],[])).line.len:=by unfold p3 St.len;omega
 have h4:St.len (([],[]):St)=0:=rfl;unfold wtF;omega
end
theorem Nd.tv_ok:∀ f:Nat,(Nd.tv f).Ok (Nd.wt f)
 | 0=>⟨fun x=>Empty.elim x,fun x=>Empty.elim x,fun x=>Empty.elim x⟩
 | f+1=>⟨xW (Nd.tv_ok f),vT (Nd.tv_ok f),tQ (Nd.tv_ok f)⟩
end Go.Proofs.YtjpopekmbmcggaaGreatDoor
namespace Go.Proofs.YtjpopekmbmcggaaGreatDoor
def DT (l:List UInt8):Prop:=l=[]∨l.getLast? = some 10
structure Nice (F:St→St):Prop where
 lin:∃ c,∀ s,(F s).len=s.len+c
 ends:∀ s,DT s.2→DT (F s).2
theorem Nice.id:Nice (fun s=>s):=⟨⟨0,fun _=>rfl⟩,fun _ h=>h⟩
theorem Nice.put (x:List UInt8):Nice (fun s=>s.put x):=⟨⟨x.length,fun s=>St.put_len s x⟩,fun _ h=>h⟩
theorem Nice.line:Nice St.line:=⟨⟨1,St.line_len⟩,fun _ _=>.inl rfl⟩
theorem Nice.comp {F K:St→St} (h:Nice F) (k:Nice K):Nice (fun s=>K (F s)):=by
 obtain ⟨⟨a,ha⟩,h2⟩:=h;obtain ⟨⟨b,hb⟩,k2⟩:=k;exact ⟨⟨a+b,fun s=>by rw [hb,ha];omega⟩,fun s e=>k2 _ (h2 s e)⟩
theorem Nice.ite {F K:St→St} (p:Prop) [Decidable p] (h:Nice F) (k:Nice K):Nice (fun s=>if p then F s else K s):=by
 by_cases hp:p
 ·simpa only [if_pos hp] using h
 ·simpa only [if_neg hp] using k
structure Tv.Nice {α:Type} (v:Tv α):Prop where
 cm:∀ x,YtjpopekmbmcggaaGreatDoor.Nice (v.cm x)
 ls:∀ x,YtjpopekmbmcggaaGreatDoor.Nice (v.ls x)
section
variable {α:Type} {v:Tv α}
theorem lN (r:RdF α):Nice (cT v r):=by
 refine ⟨⟨(r.num.toList++Ope.txtI r.op++[32]++bZ v r.tz).length+(kO r).length,fun s=>?_⟩,fun s h=>?_⟩
 ·unfold cT St.len;simp only [gI];omega
 ·unfold cT;simp only;unfold kO
  split
  ·exact .inr (by simp)
  ·simpa using h
theorem kC:∀ l:List (RdF α),Nice (cP v l)
 | []=>Nice.id
 | r::l=>((Nice.put [32]).comp (lN r)).comp (kC l)
theorem oH:∀ (l:List (RdF α)) (b:Bool),Nice (iB v b l)
 | [],_=>Nice.id
 | r::l,b=>((Nice.put (bM b)).comp (lN r)).comp (oH l true)
theorem lB:∀ (l:List (WdF α)) (b:Bool),Nice (dO v b l)
 | [],_=>Nice.id
 | x::l,b=>(Nice.put (bM b++bZ v x)).comp (lB l true)
theorem mY:∀ (l:List (WdF α)),Nice (dN v l)
 | []=>Nice.id
 | x::l=>(Nice.put ([32]++bZ v x)).comp (mY l)
theorem pK (n:NdF α):Nice (eK v n):=((oH n.redirs false).comp (lB n.assigns _)).comp (lB n.words _)
theorem oF (o:Int) (b:Bool):Nice (gL o b):=by
 unfold gL;exact Nice.ite _ (Nice.put _) (Nice.ite _ Nice.id (Nice.put _))
variable (hv:v.Nice)
include hv
theorem mZ:∀ (l:List α) (b:Bool),Nice (dG v b l)
 | [],_=>Nice.id
 | k::l,_=>((Nice.put _).comp (hv.cm k)).comp (mZ l true)
theorem sZ (n:NdF α):Nice (iU v n):=(Nice.put _).comp (mZ hv n.kids false)
theorem oE:∀ (l:List α) (os:List Int),Nice (gN v l os)
 | [],_=>Nice.id
 | _::_,[]=>Nice.id
 | k::l,_::os=>((Nice.put _).comp (hv.cm k)).comp (oE l os)
theorem vZ (n:NdF α):Nice (mE v n):=by
 unfold mE;cases n.kids with
 | nil=>exact Nice.id
 | cons k l=>exact (hv.cm k).comp (oE hv l n.ops)
theorem mX:∀ (l:List α) (os:List Int),Nice (fP v l os)
 | [],_=>Nice.id
 | _::_,[]=>Nice.id
 | k::l,o::os=>(((hv.cm k).comp (oF o true)).comp Nice.line).comp (mX l os)
theorem sX (n:NdF α):Nice (jW v n):=mX hv n.kids n.ops
theorem i7 (i:Nat) (l:List α):Nice (g6 v i l):=by
 unfold g6;cases l[i]? with
 | none=>exact Nice.id
 | some k=>exact hv.ls k
theorem wB (i:Nat) (l:List α):Nice (rZ v i l):=by
 unfold rZ;cases l[i]? with
 | none=>exact Nice.id
 | some k=>exact hv.cm k
theorem mV:∀ l:List (ArF α),Nice (fL v l)
 | []=>Nice.id
 | a::l=>(((((Nice.put _).comp Nice.line).comp (hv.ls a.body)).comp (Nice.put _)).comp Nice.line).comp (mV l)
theorem mW:∀ (l:List α) (i:Nat),Nice (dX v i l)
 | [],_=>Nice.id
 | k::l,i=>(((Nice.put _).comp Nice.line).comp (hv.ls k)).comp (mW l (i+1))
theorem sW (n:NdF α):Nice (lJ v n):=(mW hv n.kids 0).comp (Nice.put _)
theorem lM (a z:List UInt8) (n:NdF α):Nice (fC v a z n):=(((Nice.put a).comp Nice.line).comp (i7 hv 0 n.kids)).comp (Nice.put z)
theorem lO (a:List UInt8) (n:NdF α):Nice (fE v a n):=((((((Nice.put a).comp Nice.line).comp (i7 hv 0 n.kids)).comp (Nice.put tDo)).comp Nice.line).comp (i7 hv 1 n.kids)).comp (Nice.put dP)
theorem sY (n:NdF α):Nice (jG v n):=(((((((Nice.put _).comp (Nice.put _)).comp (mY n.words)).comp Nice.line).comp (Nice.put tDo)).comp Nice.line).comp (i7 hv 0 n.kids)).comp (Nice.put dP)
theorem pJ (n:NdF α):Nice (fW v n):=(((Nice.put _).comp Nice.line).comp (mV hv n.arms)).comp (Nice.put kJ)
theorem sV (n:NdF α):Nice (cQ v n):=by
 unfold cQ;exact Nice.ite _ (lM hv _ _ n) (Nice.ite _ (lM hv _ _ n) (Nice.ite _ (sY hv n) (Nice.ite _ (pJ hv n) (Nice.ite _ (sW hv n) (Nice.ite _ (lO hv _ n) (Nice.ite _ (lO hv _ n) Nice.id))))))
theorem wC (n:NdF α):Nice (jI v n):=by
 unfold jI;exact Nice.ite _ (vZ hv n) (Nice.ite _ (sZ hv n) (Nice.ite _ (pK n) (Nice.ite _ (((Nice.put _).comp Nice.line).comp (wB hv 0 n.kids)) ((sV hv n).comp (kC n.redirs)))))
end
theorem Nd.tv_nice:∀ f:Nat,(Nd.tv f).Nice
 | 0=>⟨fun x=>Empty.elim x,fun x=>Empty.elim x⟩
 | f+1=>⟨wC (Nd.tv_nice f),sX (Nd.tv_nice f)⟩
end Go.Proofs.YtjpopekmbmcggaaGreatDoor
