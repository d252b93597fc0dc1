/- Towards unparseShows_card: NdPlain, NdMem, NdFun, NdRsv, NdSame0, UpPlain, UpLaw, UpFit, NdRow. Merged from smaller texts by a program of the author's. -/
import Derived.Test.YtjpopekmbmcggaaGreatDoorUb14
import Derived.Test.YtjpopekmbmcggaaGreatDoorUb15
import Derived.Test.YtjpopekmbmcggaaGreatDoorUb05
import Derived.Laws.EntriesVeiled
import Derived.Deep.OwnRows
import Derived.Below
set_option maxRecDepth 100000
set_option maxHeartbeats 16000000
namespace Go.Proofs.YtjpopekmbmcggaaGreatDoor
open Go
namespace Pts
def kz:Pts→List Int
 | nil=>[]
 | cons k _ _ kids _ rest=>k::(kids.kz++rest.kz)
def allc:Pts→List Cm
 | nil=>[]
 | cons _ _ _ kids cm rest=>cm::(kids.allc++rest.allc)
def same:Pts→Pts→Bool
 | nil,nil=>true
 | cons k t o kids _ rest,cons k' t' o' kids' _ rest'=>((k==k')&&(t.toList==t'.toList)&&(o.toList==o'.toList)&&kids.same kids')&&rest.same rest'
 | _,_=>false
theorem kz_len:∀ l:Pts,l.kz.length=l.allc.length
 | nil=>rfl
 | cons _ _ _ kids _ rest=>by rw [kz,allc];simp [kz_len kids,kz_len rest]
end Pts
def pick {β:Type}:List Int→List β→List β
 | k::ks,x::xs=>if k=6 then x::pick ks xs else pick ks xs
 | _,_=>[]
theorem rE {β:Type}:∀ (ks:List Int) (xs:List β) (ks':List Int) (xs':List β),ks.length=xs.length→pick (ks++ks') (xs++xs')=pick ks xs++pick ks' xs'
 | [],[],_,_,_=>rfl
 | k::ks,x::xs,ks',xs',h=>by
  have ih:=rE ks xs ks' xs' (by simpa using h);simp only [List.cons_append,pick]
  split <;> simp [ih]
 | [],_::_,_,_,h=>by simp at h
 | _::_,[],_,_,h=>by simp at h
theorem Pts.cmds_pick:∀ l:Pts,l.cmds=pick l.kz l.allc
 | .nil=>rfl
 | .cons k _ _ kids cm rest=>by
  rw [Pts.cmds,Pts.cmds_pick kids,Pts.cmds_pick rest,Pts.kz,Pts.allc,pick,rE _ _ _ _ (Pts.kz_len kids)]
  split <;> simp
def fL {α β:Type} (R:α→β→Prop):List α→List β→Prop
 | [],[]=>True
 | a::l,b::m=>R a b∧fL R l m
 | _,_=>False
namespace fL
variable {α β:Type} {R S:α→β→Prop}
theorem len:∀ {l:List α} {m:List β},fL R l m→l.length=m.length
 | [],[],_=>rfl
 | _::_,_::_,h=>by simp [len h.2]
 | [],_::_,h=>h.elim
 | _::_,[],h=>h.elim
theorem mono (hRS:∀ a b,R a b→S a b):∀ {l:List α} {m:List β},fL R l m→fL S l m
 | [],[],_=>trivial
 | _::_,_::_,h=>⟨hRS _ _ h.1,mono hRS h.2⟩
 | [],_::_,h=>h.elim
 | _::_,[],h=>h.elim
theorem get:∀ {l:List α} {m:List β} (_:fL R l m) (i:Nat) (h1:i<l.length) (h2:i<m.length),R l[i] m[i]
 | _::_,_::_,h,0,_,_=>h.1
 | _::_,_::_,h,i+1,h1,h2=>get h.2 i (by simpa using h1) (by simpa using h2)
 | [],_,_,_,h1,_=>by simp at h1
 | _::_,[],h,_,_,_=>h.elim
theorem pick:∀ (ks:List Int) {l:List α} {m:List β},fL R l m→fL R (pick ks l) (pick ks m)
 | [],_,_,_=>trivial
 | k::ks,[],[],_=>trivial
 | k::ks,_::_,_::_,h=>by
  simp only [YtjpopekmbmcggaaGreatDoor.pick]
  split
  ·exact ⟨h.1,pick ks h.2⟩
  ·exact pick ks h.2
 | _::_,[],_::_,h=>h.elim
 | _::_,_::_,[],h=>h.elim
end fL
structure WdF (α:Type) where
 p:Pts
 c:List (List α)
structure RdF (α:Type) where
 num:ByteArray
 op:Int
 tz:WdF α
 here:ByteArray
structure ArF (α:Type) where
 pats:List (WdF α)
 body:α
structure NdF (α:Type) where
 k:Int
 name:ByteArray
 not_:Bool
 in_:Bool
 ops:List Int
 assigns:List (WdF α)
 words:List (WdF α)
 redirs:List (RdF α)
 arms:List (ArF α)
 kids:List α
def Nd:Nat→Type
 | 0=>Empty
 | n+1=>NdF (Nd n)
def WdF.cmds {α:Type} (x:WdF α):List (List α):=pick x.p.kz x.c
structure Vw (α:Type) where
 kd:α→Int
 rt:α→Bool
 on:α→Bool
def Vw.R {α:Type} (v:Vw α) (x:α):Bool:=(v.kd x==1)&&v.rt x
def kP:List (List UInt8):=[[105,102],[116,104,101,110],[101,108,115,101],[101,108,105,102],[102,105],[100,111],[100,111,110,101],[99,97,115,101],[101,115,97,99],[119,104,105,108,101],[117,110,116,105,108],[102,111,114],[123],[125],[33],[105,110]]
def nF (s:List UInt8):List (List UInt8)→Int→Int
 | [],_=>0
 | x::r,i=>if x=s then i else nF s r (i+1)
def rsv (s:List UInt8):Int:=nF s kP 23
section
variable {α:Type} (v:Vw α)
def aO (x:WdF α):Bool:=x.p.right&&x.cmds.all fun l=>l.all v.R
def aX (r:RdF α):Bool:=
 (r.num.toList.isEmpty||Chr.digits r.num.toList)&&(decide (9≤r.op)&&decide (r.op≤17))&&aO v r.tz &&
  (if r.op=12∨r.op=13 then (match r.tz.p.utx with | none=>false | some s=>jO s (r.op==13) r.here.toList) else r.here.toList.isEmpty)
structure Has where
 nm:Bool
 op:Bool
 sa:Bool
 ws:Bool
 rs:Bool
 ar:Bool
 ks:Bool
def mI (h:Has) (n:NdF α):Bool:=
 (h.nm||n.name.toList.isEmpty)&&(h.op||n.ops.isEmpty)&&(h.sa||n.assigns.isEmpty)&&(h.ws||n.words.isEmpty)&&(h.rs||n.redirs.isEmpty)&&(h.ar||n.arms.isEmpty)&&(h.ks||n.kids.isEmpty) &&
  (!n.not_||n.k==3)&&(!n.in_||n.k==7)
def aV (h:Has) (n:NdF α):Bool:=mI h n&&(n.redirs.all (aX v)&&n.words.all (aO v)&&n.assigns.all (aO v))
def cB (least:Nat) (from_:Int) (n:NdF α):Bool:=decide (least≤n.kids.length)&&n.kids.all fun x=>decide (from_≤v.kd x)&&v.rt x
def cL (least:Nat) (n:NdF α):Bool:=decide (least≤n.kids.length)&&n.kids.all v.R
def gN (many:Nat) (n:NdF α):Bool:=(n.ops.length==many)&&n.ops.all fun k=>(k==1)||(k==2)
def eT (n:NdF α):Bool:=
 (n.assigns.all fun x=>x.p.asg.isSome) &&
  match n.words with
  | []=>decide (0<n.assigns.length+n.redirs.length)
  | x::_=>!x.p.asg.isSome&&(decide (0<n.assigns.length+n.redirs.length) || !x.p.plt.isSome||(rsv (x.p.plt.getD [])==0))
def iV (a:ArF α):Bool:=!a.pats.isEmpty&&a.pats.all (aO v)&&(v.R a.body||((v.kd a.body==1)&&v.on a.body))
def jT (n:NdF α):Bool:=
 Chr.name n.name.toList&&(rsv n.name.toList==0)&&(match n.kids with | [x]=>decide (5≤v.kd x)&&decide (v.kd x≤11)&&v.rt x | _=>false)
def aQ (n:NdF α):Bool:=
 if n.k=1 then aV v ⟨false,true,false,false,false,false,true⟩ n&&(cB v 1 2 n&&gN n.kids.length n)
 else if n.k=2 then aV v ⟨false,true,false,false,false,false,true⟩ n&&(cB v 2 3 n&&gN (n.kids.length-1) n)
 else if n.k=3 then aV v ⟨false,false,false,false,false,false,true⟩ n&&(cB v 1 4 n&&(n.not_ || !(n.kids.length==1)))
 else if n.k=4 then aV v ⟨false,false,true,true,true,false,false⟩ n&&eT n
 else if n.k=5∨n.k=6 then aV v ⟨false,false,false,false,true,false,true⟩ n&&((n.kids.length==1)&&cL v 1 n)
 else if n.k=7 then aV v ⟨true,false,false,n.in_,true,false,true⟩ n&&(Chr.name n.name.toList&&((n.kids.length==1)&&cL v 1 n))
 else if n.k=8 then aV v ⟨false,false,false,true,true,true,false⟩ n&&((n.words.length==1)&&n.arms.all (iV v))
 else if n.k=9 then aV v ⟨false,false,false,false,true,false,true⟩ n&&cL v 2 n
 else if n.k=10∨n.k=11 then aV v ⟨false,false,false,false,true,false,true⟩ n&&(cL v 2 n&&(n.kids.length==2))
 else if n.k=12 then aV v ⟨true,false,false,false,false,false,true⟩ n&&jT v n
 else false
end
def oN:Has:=⟨false,false,false,false,false,false,false⟩
def Nd.vw:(f:Nat)→Vw (Nd f)
 | 0=>⟨fun x=>Empty.elim x,fun x=>Empty.elim x,fun x=>Empty.elim x⟩
 | f+1=>⟨fun x=>NdF.k x,fun x=>aQ (Nd.vw f) x,fun x=>aV (Nd.vw f) oN x⟩
def Nd.right (f:Nat) (x:Nd f):Bool:=(Nd.vw f).R x
def nO {α β:Type} (p:α→β→Bool):List α→List β→Bool
 | [],[]=>true
 | a::l,b::m=>p a b&&nO p l m
 | _,_=>false
section
variable {α:Type} (S:α→α→Bool)
def uR (x y:WdF α):Bool:=x.p.same y.p&&nO (nO S) x.cmds y.cmds
def C7 (x y:RdF α):Bool:=(x.num.toList==y.num.toList)&&(x.op==y.op)&&(x.here.toList==y.here.toList)&&uR S x.tz y.tz
def D7 (x y:ArF α):Bool:=nO (uR S) x.pats y.pats&&S x.body y.body
def D2 (a b:NdF α):Bool:=
 ((a.k==b.k)&&(a.name.toList==b.name.toList)&&(a.not_==b.not_)&&(a.in_==b.in_)&&nO (fun x y:Int=>x==y) a.ops b.ops) &&
  (nO (uR S) a.assigns b.assigns&&(nO (uR S) a.words b.words&&(nO (C7 S) a.redirs b.redirs&&(nO (D7 S) a.arms b.arms&&nO S a.kids b.kids))))
end
def Nd.same:(f:Nat)→Nd f→Nd f→Bool
 | 0=>fun x=>Empty.elim x
 | f+1=>fun x y=>D2 (Nd.same f) x y
def tot {α:Type} (p:α→Nat):List α→Nat
 | []=>0
 | a::l=>p a+tot p l
section
variable {α:Type} (C:α→Nat)
def mB (x:WdF α):Nat:=tot (tot C) x.cmds
def CQ (n:NdF α):Nat:=
 1+tot C n.kids+tot (mB C) n.assigns+tot (mB C) n.words+tot (fun r=>mB C r.tz) n.redirs+tot (fun a=>tot (mB C) a.pats+C a.body) n.arms
end
def Nd.count:(f:Nat)→Nd f→Nat
 | 0=>fun x=>Empty.elim x
 | f+1=>fun x=>CQ (Nd.count f) x
section
variable {α:Type} (W:α→Nat)
def wtW (x:WdF α):Nat:=1+x.p.wt+tot (fun l=>1+tot W l) x.c
def wtR (r:RdF α):Nat:=1+r.num.size+r.here.size+wtW W r.tz
def wtA (a:ArF α):Nat:=1+tot (wtW W) a.pats+W a.body
def wtF (n:NdF α):Nat:=1+n.name.size+n.ops.length+tot (wtW W) n.assigns+tot (wtW W) n.words+tot (wtR W) n.redirs+tot (wtA W) n.arms+tot W n.kids
end
def Nd.wt:(f:Nat)→Nd f→Nat
 | 0=>fun x=>Empty.elim x
 | f+1=>fun x=>wtF (Nd.wt f) x
end Go.Proofs.YtjpopekmbmcggaaGreatDoor
namespace Go.Proofs.YtjpopekmbmcggaaGreatDoor
open Go.RowKit
def aW {β:Type} (G:Nat→Prop) (w:World) (sz:Nat) (R:List Value→β→Prop) (v:Value) (xs:List β):Prop:=
 ∃ A c,v=.slice A xs.length c∧xs.length≤c∧c≤maxLen∧(0<xs.length→∃ b off,A=some ⟨b,off,none⟩∧G b∧
  ∀ i (h:i<xs.length),∃ vs:List Value,vs.length=sz∧R vs xs[i]∧∀ j u,vs[j]? = some u→w.cell? ⟨b,off+i*sz+j,none⟩=some u)
theorem aW.keep {β:Type} {G G':Nat→Prop} {w w':World} {sz:Nat} {R R':List Value→β→Prop} {v:Value} {xs:List β} (h:aW G w sz R v xs) (hG:∀ k,G k→G' k) (hk:∀ p:Addr,G p.block→w'.cell? p=w.cell? p) (hR:∀ vs x,R vs x→R' vs x):aW G' w' sz R' v xs:=by
 obtain ⟨A,c,h1,h2,h3,h4⟩:=h;refine ⟨A,c,h1,h2,h3,fun hn=>?_⟩;obtain ⟨b,off,h5,h6,h7⟩:=h4 hn;refine ⟨b,off,h5,hG _ h6,fun i hi=>?_⟩;obtain ⟨vs,h8,h9,h10⟩:=h7 i hi;exact ⟨vs,h8,hR _ _ h9,fun j u hj=>(hk _ h6).trans (h10 j u hj)⟩
def oY (vs:List Value) (n:Int):Prop:=vs=[.int .i64 n]
section
variable {α:Type} (G:Nat→Prop) (w:World) (R:List Value→α→Prop)
def WdV (vs:List Value) (x:WdF α):Prop:=
 ∃ A c,vs=[.slice A x.p.len c]∧x.p.len≤c∧c≤maxLen∧x.p.wt≤1073741823∧aY G w A 0 x.p∧fL (fun cm l=>aW G w 10 R cm.val l) x.p.allc x.c
def RdV (vs:List Value) (r:RdF α):Prop:=∃ vt,vs=[.string r.num,.int .i64 r.op,vt,.string r.here]∧r.num.size≤1073741824∧r.here.size≤1073741824∧WdV G w R [vt] r.tz
def ArV (vs:List Value) (a:ArF α):Prop:=∃ vp bs,vs=vp::bs∧bs.length=10∧aW G w 1 (WdV G w R) vp a.pats∧R bs a.body
def wZ (vs:List Value) (n:NdF α):Prop:=
 ∃ vo va vw vr vm vk,vs=[.int .i64 n.k,.string n.name,.bool n.not_,.bool n.in_,vo,va,vw,vr,vm,vk]∧(n.name.size≤1073741824∧n.assigns.length+n.redirs.length≤1073741824)∧
  aW G w 1 oY vo n.ops∧aW G w 1 (WdV G w R) va n.assigns∧aW G w 1 (WdV G w R) vw n.words∧aW G w 4 (RdV G w R) vr n.redirs∧aW G w 11 (ArV G w R) vm n.arms∧aW G w 10 R vk n.kids
end
def NdV:(f:Nat)→(Nat→Prop)→World→List Value→Nd f→Prop
 | 0,_,_,_,_=>False
 | f+1,G,w,vs,n=>wZ G w (NdV f G w) vs n
section
variable {α:Type} {G G':Nat→Prop} {w w':World} {R R':List Value→α→Prop}
theorem WdV.keep (hG:∀ k,G k→G' k) (hk:∀ p:Addr,G p.block→w'.cell? p=w.cell? p) (hR:∀ vs x,R vs x→R' vs x) {vs:List Value} {x:WdF α} (h:WdV G w R vs x):WdV G' w' R' vs x:=by
 obtain ⟨A,c,h1,h2,h3,h4,h5,h6⟩:=h;exact ⟨A,c,h1,h2,h3,h4,(h5.keep hk).more hG,h6.mono fun _ _ h=>h.keep hG hk hR⟩
theorem RdV.keep (hG:∀ k,G k→G' k) (hk:∀ p:Addr,G p.block→w'.cell? p=w.cell? p) (hR:∀ vs x,R vs x→R' vs x) {vs:List Value} {x:RdF α} (h:RdV G w R vs x):RdV G' w' R' vs x:=by
 obtain ⟨vt,h1,h2,h3,h4⟩:=h;exact ⟨vt,h1,h2,h3,h4.keep hG hk hR⟩
theorem ArV.keep (hG:∀ k,G k→G' k) (hk:∀ p:Addr,G p.block→w'.cell? p=w.cell? p) (hR:∀ vs x,R vs x→R' vs x) {vs:List Value} {x:ArF α} (h:ArV G w R vs x):ArV G' w' R' vs x:=by
 obtain ⟨vp,bs,h1,h2,h3,h4⟩:=h;exact ⟨vp,bs,h1,h2,h3.keep hG hk fun _ _ h=>h.keep hG hk hR,hR _ _ h4⟩
theorem wZ.keep (hG:∀ k,G k→G' k) (hk:∀ p:Addr,G p.block→w'.cell? p=w.cell? p) (hR:∀ vs x,R vs x→R' vs x) {vs:List Value} {x:NdF α} (h:wZ G w R vs x):wZ G' w' R' vs x:=by
 obtain ⟨vo,va,vw,vr,vm,vk,h1,h2,h3,h4,h5,h6,h7,h8⟩:=h;exact ⟨vo,va,vw,vr,vm,vk,h1,h2,h3.keep hG hk fun _ _ h=>h,h4.keep hG hk fun _ _ h=>h.keep hG hk hR,h5.keep hG hk fun _ _ h=>h.keep hG hk hR,h6.keep hG hk fun _ _ h=>h.keep hG hk hR,h7.keep hG hk fun _ _ h=>h.keep hG hk hR,h8.keep hG hk hR⟩
end
theorem NdV.keep {G G':Nat→Prop} {w w':World} (hG:∀ k,G k→G' k) (hk:∀ p:Addr,G p.block→w'.cell? p=w.cell? p):∀ {f:Nat} {vs:List Value} {x:Nd f},NdV f G w vs x→NdV f G' w' vs x
 | 0,_,_,h=>h.elim
 | _+1,_,_,h=>wZ.keep hG hk (fun _ _ h=>NdV.keep hG hk h) h
def WdN (f:Nat) (G:Nat→Prop) (w:World):List Value→WdF (Nd f)→Prop:=WdV G w (NdV f G w)
def RdN (f:Nat) (G:Nat→Prop) (w:World):List Value→RdF (Nd f)→Prop:=RdV G w (NdV f G w)
def ArN (f:Nat) (G:Nat→Prop) (w:World):List Value→ArF (Nd f)→Prop:=ArV G w (NdV f G w)
section
variable {f:Nat} {G G':Nat→Prop} {w w':World} {vs:List Value}
theorem bA (hG:∀ k,G k→k<w.heap.size) (hb:Below w.heap.size w w'):∀ p:Addr,G p.block→w'.cell? p=w.cell? p:=fun _ hp=>World.cell?_of_block (hb.block _ (hG _ hp))
theorem NdV.below {x:Nd f} (h:NdV f G w vs x) (hG:∀ k,G k→k<w.heap.size) (hb:Below w.heap.size w w'):NdV f G w' vs x:=h.keep (fun _ h=>h) (bA hG hb)
theorem WdN.below {x:WdF (Nd f)} (h:WdN f G w vs x) (hG:∀ k,G k→k<w.heap.size) (hb:Below w.heap.size w w'):WdN f G w' vs x:=WdV.keep (fun _ h=>h) (bA hG hb) (fun _ _ h=>h.below hG hb) h
theorem RdN.below {x:RdF (Nd f)} (h:RdN f G w vs x) (hG:∀ k,G k→k<w.heap.size) (hb:Below w.heap.size w w'):RdN f G w' vs x:=RdV.keep (fun _ h=>h) (bA hG hb) (fun _ _ h=>h.below hG hb) h
theorem ArN.below {x:ArF (Nd f)} (h:ArN f G w vs x) (hG:∀ k,G k→k<w.heap.size) (hb:Below w.heap.size w w'):ArN f G w' vs x:=ArV.keep (fun _ h=>h) (bA hG hb) (fun _ _ h=>h.below hG hb) h
end
end Go.Proofs.YtjpopekmbmcggaaGreatDoor
namespace Go.Proofs.YtjpopekmbmcggaaGreatDoor
open Go.RowKit
def bK (fn:Nat):Prop:=∀ (args:Array Value) (w:World),(callFunc fn args).run Tryz.prog w=.ok (.enter fn args) w
def eV {β:Type} (R:World→List Value→β→Prop) (arg:List Value→Value) (w:World) (fn:Nat) (cap:Array Value) (p:β→Bool):Prop:=
 ∀ X,Below w.heap.size w X→∀ vs x,R X vs x→Calls Tryz.prog fn (#[arg vs]++cap) X fun e w'=>e=.returned (.bool (p x))∧Below X.heap.size X w'
theorem eV.on {β:Type} {R:World→List Value→β→Prop} {arg:List Value→Value} {w w':World} {fn:Nat} {cap:Array Value} {p:β→Bool} (h:eV R arg w fn cap p) (hb:Below w.heap.size w w'):eV R arg w' fn cap p:=
 fun X hX vs x hr=>h X (hb.trans (hX.mono hb.size)) vs x hr
def ag (vs:List Value):Value:=.agg vs.toArray
def one (vs:List Value):Value:=vs.headD (.bool false)
def kY (_:World):List Value→Int→Prop:=oY
theorem kY.below {G:Nat→Prop} {w w':World} {vs:List Value} {x:Int} (h:kY w vs x) (_:∀ k,G k→k<w.heap.size) (_:Below w.heap.size w w'):kY w' vs x:=h
theorem aW.shape {β:Type} {G:Nat→Prop} {w:World} {sz:Nat} {R:List Value→β→Prop} {v:Value} {xs:List β} (h:aW G w sz R v xs):∃ A c,v=.slice A xs.length c∧xs.length≤c∧c≤maxLen:=by
 obtain ⟨A,c,h1,h2,h3,_⟩:=h;exact ⟨A,c,h1,h2,h3⟩
theorem WdN.shape {f:Nat} {G:Nat→Prop} {w:World} {vs:List Value} {x:WdF (Nd f)} (h:WdN f G w vs x):∃ (A0:Option Addr) (n0 c0:Nat),vs=[.slice A0 n0 c0]:=by
 obtain ⟨A,c,rfl,_⟩:=h;exact ⟨A,x.p.len,c,rfl⟩
theorem RdN.shape {f:Nat} {G:Nat→Prop} {w:World} {vs:List Value} {x:RdF (Nd f)} (h:RdN f G w vs x):∃ (s:ByteArray) (o:Int) (A2:Option Addr) (n2 c2:Nat) (sh:ByteArray),vs=[.string s,.int .i64 o,.slice A2 n2 c2,.string sh]:=by
 obtain ⟨vt,rfl,_,_,A,c,h,_⟩:=h
 injection h with h
 subst h;exact ⟨x.num,x.op,A,x.tz.p.len,c,x.here,rfl⟩
theorem NdV.shape {f:Nat} {G:Nat→Prop} {w:World} {vs:List Value} {x:Nd f} (h:NdV f G w vs x):∃ (ky:Int) (s:ByteArray) (nt:Bool) (ni:Bool) (A4:Option Addr) (n4 c4:Nat) (A5:Option Addr) (n5 c5:Nat) (A6:Option Addr) (n6 c6:Nat) (A7:Option Addr) (n7 c7:Nat) (A8:Option Addr) (n8 c8:Nat) (A9:Option Addr) (n9 c9:Nat),vs=[.int .i64 ky,.string s,.bool nt,.bool ni,.slice A4 n4 c4,.slice A5 n5 c5,.slice A6 n6 c6,.slice A7 n7 c7,.slice A8 n8 c8,.slice A9 n9 c9]:=by
 cases f with
 | zero=>exact h.elim
 | succ f=>
  obtain ⟨vo,va,vw,vr,vm,vk,rfl,_,h4,h5,h6,h7,h8,h9⟩:=h;obtain ⟨A4,c4,rfl,_⟩:=h4.shape;obtain ⟨A5,c5,rfl,_⟩:=h5.shape;obtain ⟨A6,c6,rfl,_⟩:=h6.shape;obtain ⟨A7,c7,rfl,_⟩:=h7.shape;obtain ⟨A8,c8,rfl,_⟩:=h8.shape;obtain ⟨A9,c9,rfl,_⟩:=h9.shape;exact ⟨_,_,_,_,A4,_,c4,A5,_,c5,A6,_,c6,A7,_,c7,A8,_,c8,A9,_,c9,rfl⟩
theorem ArN.shape {f:Nat} {G:Nat→Prop} {w:World} {vs:List Value} {x:ArF (Nd f)} (h:ArN f G w vs x):∃ (A0:Option Addr) (n0 c0:Nat) (ky:Int) (s:ByteArray) (nt:Bool) (ni:Bool) (A14:Option Addr) (n14 c14:Nat) (A15:Option Addr) (n15 c15:Nat) (A16:Option Addr) (n16 c16:Nat) (A17:Option Addr) (n17 c17:Nat) (A18:Option Addr) (n18 c18:Nat) (A19:Option Addr) (n19 c19:Nat),vs=[.slice A0 n0 c0,.int .i64 ky,.string s,.bool nt,.bool ni,.slice A14 n14 c14,.slice A15 n15 c15,.slice A16 n16 c16,.slice A17 n17 c17,.slice A18 n18 c18,.slice A19 n19 c19]:=by
 obtain ⟨vp,bs,rfl,_,hp,hb⟩:=h;obtain ⟨A0,c0,rfl,_⟩:=hp.shape;obtain ⟨ky,s,nt,ni,A14,n14,c14,A15,n15,c15,A16,n16,c16,A17,n17,c17,A18,n18,c18,A19,n19,c19,rfl⟩:=NdV.shape hb;exact ⟨A0,_,c0,ky,s,nt,ni,A14,n14,c14,A15,n15,c15,A16,n16,c16,A17,n17,c17,A18,n18,c18,A19,n19,c19,rfl⟩
theorem kY.shape {w:World} {vs:List Value} {x:Int} (h:kY w vs x):∃ y:Int,vs=[.int .i64 y]:=⟨x,h⟩
theorem dJ {Y:World} {b:Nat} {T:TypeId} {v0:Value} (h:Y.heap[b]? = some (.cells #[v0] T (0,0))):Y.cell? ⟨b,0,none⟩=some v0:=by simp [World.cell?,h]
theorem bC {β:Type} (xs:List β) (k:Nat) (h:k<xs.length):xs.drop k=xs[k]::xs.drop (k+1):=List.drop_eq_getElem_cons h
theorem sL (f:Nat) (G:Nat→Prop) (fn:Nat) (cap:Array Value) (p:Nd f→Bool) (v:Value) (xs:List (Nd f)) (w:World) (hG:∀ k,G k→k<w.heap.size) (hs:aW G w 10 (NdV f G w) v xs) (hent:bK fn) (hst:eV (NdV f G) ag w fn cap p):
  Calls Tryz.prog 152 #[v,.func (.func fn) #[] cap] w fun e w'=>∃ r:Int,e=.returned (.int .i64 r)∧decide (0≤r)=xs.any p∧Below w.heap.size w w':=by
 obtain ⟨A,c,rfl,hl,hm,hc⟩:=hs;unfold maxLen at hm;obtain ⟨HC,HG,HE,HST⟩:=hs4 hc hG hent hst;clear hc hG hent hst;go_enter Tryz.func152,Tryz.ntmps152;go_wp2
 go_loopw [8] (fun i wr=>∃ (k:Nat),k≤xs.length∧i=.int .i64 k∧(xs.drop k).any p=xs.any p∧Below w.heap.size w wr) (fun i _=>xs.length-(intOf i).toNat)
 case atStart=>exact ⟨0,by omega,rfl,rfl,Below.refl _ _⟩
 case round=>
  obtain ⟨k,hk,rfl,hf,hb⟩:=hrel;have HF:=Ha hf;have HB:=Ha hb;clear hf hb;by_cases hlt:k<xs.length
  ·obtain ⟨b,off,rfl,hg,hel⟩:=HC.out (by omega);obtain ⟨vs,hvl,hR,hcell⟩:=hel k hlt;have hR':=hR.below HG.out HB.out;obtain ⟨ky,s,nt,ni,A4,n4,c4,A5,n5,c5,A6,n6,c6,A7,n7,c7,A8,n8,c8,A9,n9,c9,rfl⟩:=hR'.shape;have z:=fun j u hj=>(bA HG.out HB.out _ hg).trans (hcell j u hj);have c0:wr.cell? ⟨b,off+k*10,none⟩=some (.int .i64 ky):=by simpa using z 0 _ rfl
   have c1:wr.cell? ⟨b,off+k*10+1,none⟩=some (.string s):=by simpa using z 1 _ rfl
   have c2:wr.cell? ⟨b,off+k*10+2,none⟩=some (.bool nt):=by simpa using z 2 _ rfl
   have c3:wr.cell? ⟨b,off+k*10+3,none⟩=some (.bool ni):=by simpa using z 3 _ rfl
   have c4:wr.cell? ⟨b,off+k*10+4,none⟩=some (.slice A4 n4 c4):=by simpa using z 4 _ rfl
   have c5:wr.cell? ⟨b,off+k*10+5,none⟩=some (.slice A5 n5 c5):=by simpa using z 5 _ rfl
   have c6:wr.cell? ⟨b,off+k*10+6,none⟩=some (.slice A6 n6 c6):=by simpa using z 6 _ rfl
   have c7:wr.cell? ⟨b,off+k*10+7,none⟩=some (.slice A7 n7 c7):=by simpa using z 7 _ rfl
   have c8:wr.cell? ⟨b,off+k*10+8,none⟩=some (.slice A8 n8 c8):=by simpa using z 8 _ rfl
   have c9:wr.cell? ⟨b,off+k*10+9,none⟩=some (.slice A9 n9 c9):=by simpa using z 9 _ rfl
   have HR:=Ha hR';clear z hel hcell hvl hR hR' hg;go_wp2_with fail;rw [HE.out,Oper.upon_enter];refine (HST.out _ HB.out _ _ HR.out).mono ?_;rintro e w1 ⟨he,hb1⟩;have HB1:=Ha (HB.out.trans (hb1.mono HB.out.size));clear hb1 c0 c1 c2 c3 c4 c5 c6 c7 c8 c9;cases hq:p xs[k]
   ·rw [hq] at he;subst he;have HQ:=Ha hq;clear hq;go_wp2_with fail
    go_roundw
    case rel=>
     refine ⟨k+1,by omega,by go_num, ?_,HB1.out⟩;have h:=HF.out;rw [bC xs k hlt,List.any_cons,HQ.out,Bool.false_or] at h;exact h
    case measure=>simp only [intOf];omega
   ·rw [hq] at he;subst he;have HQ:=Ha hq;clear hq;go_wp2_with fail;go_ret;refine ⟨(k:Int),rfl, ?_,HB1.out⟩;rw [← HF.out,bC xs k hlt,List.any_cons,HQ.out,Bool.true_or];exact decide_eq_true (by omega)
  ·have HD:=Ha (List.drop_eq_nil_of_le (show xs.length≤k by omega));go_wp2_with fail;go_ret;refine ⟨-1,rfl, ?_,HB.out⟩;rw [← HF.out,HD.out];rfl
theorem nR (f:Nat) (G:Nat→Prop) (fn:Nat) (cap:Array Value) (p:Nd f→Bool) (v:Value) (xs:List (Nd f)) (w:World) (hG:∀ k,G k→k<w.heap.size) (hs:aW G w 10 (NdV f G w) v xs) (hent:bK fn) (hst:eV (NdV f G) ag w fn cap p):
  Calls Tryz.prog 109 #[v,.func (.func fn) #[] cap] w fun e w'=>e=.returned (.bool (xs.any p))∧Below w.heap.size w w':=by
 have HX:=Ha (sL f G fn cap p v xs w hG hs hent hst);clear hG hs hent hst;go_enter Tryz.func109,Tryz.ntmps109;go_wp2_with fail;refine HX.out.mono ?_;rintro e w1 ⟨r,rfl,hq,hb⟩;have HQ:=Ha hq;clear hq;go_wp2_with fail;go_ret;exact ⟨aC HQ.out,hb⟩
theorem mS:bK 110:=fun args w=>by simp [callFunc,go_sem,Tryz.func110,Tryz.f110]
theorem uT (f:Nat) (G:Nat→Prop) (fn:Nat) (cap:Array Value) (p:Nd f→Bool) (X:World) (bo:Nat) (hG:∀ k,G k→k<X.heap.size) (hent:bK fn) (hst:eV (NdV f G) ag X fn cap p) (hbo:bo<X.heap.size)
  (hc:X.cell? ⟨bo,0,none⟩=some (.func (.func fn) #[] cap)) (vs:List Value) (x:Nd f) (hr:NdV f G X vs x):
  Calls Tryz.prog 110 (#[ag vs]++#[.pointer (some ⟨bo,0,none⟩)]) X fun e w'=>e=.returned (.bool (!p x))∧Below X.heap.size X w':=by
 obtain ⟨ky,s,nt,ni,A4,n4,c4,A5,n5,c5,A6,n6,c6,A7,n7,c7,A8,n8,c8,A9,n9,c9,rfl⟩:=hr.shape;have HE:=Ha hent;clear hent;show Calls Tryz.prog 110 #[.agg #[.int .i64 ky,.string s,.bool nt,.bool ni,.slice A4 n4 c4,.slice A5 n5 c5,.slice A6 n6 c6,.slice A7 n7 c7,.slice A8 n8 c8,.slice A9 n9 c9],.pointer (some ⟨bo,0,none⟩)] X _;have hb:Below X.heap.size X (X.alloc (.cells #[.int .i64 ky,.string s,.bool nt,.bool ni,.slice A4 n4 c4,.slice A5 n5 c5,.slice A6 n6 c6,.slice A7 n7 c7,.slice A8 n8 c8,.slice A9 n9 c9] 28)):=(Below.refl _ _).alloc (Nat.le_refl _) _;have HX:=Ha (hst _ hb _ _ (hr.below hG hb));have hc':(X.alloc (.cells #[.int .i64 ky,.string s,.bool nt,.bool ni,.slice A4 n4 c4,.slice A5 n5 c5,.slice A6 n6 c6,.slice A7 n7 c7,.slice A8 n8 c8,.slice A9 n9 c9] 28)).cell? ⟨bo,0,none⟩=some (.func (.func fn) #[] cap):=(hb.cell (p:=⟨bo,0,none⟩) hbo).trans hc;have HB:=Ha hb;clear hb hst hr hc;go_enter Tryz.func110,Tryz.ntmps110;go_wp2_with fail;rw [HE.out,Oper.upon_enter];refine HX.out.mono ?_;rintro e w1 ⟨rfl,hb1⟩;have HB1:=Ha (HB.out.trans (hb1.mono HB.out.size));clear hb1 hc';go_wp2_with fail;go_ret;exact ⟨rfl,HB1.out⟩
theorem mG (f:Nat) (G:Nat→Prop) (fn:Nat) (cap:Array Value) (p:Nd f→Bool) (v:Value) (xs:List (Nd f)) (w:World) (hG:∀ k,G k→k<w.heap.size) (hs:aW G w 10 (NdV f G w) v xs) (hent:bK fn) (hst:eV (NdV f G) ag w fn cap p):
  Calls Tryz.prog 41 #[v,.func (.func fn) #[] cap] w fun e w'=>e=.returned (.bool (xs.all p))∧Below w.heap.size w w':=by
 have hb:Below w.heap.size w (w.alloc (.cells #[.func (.func fn) #[] cap] 37)):=(Below.refl _ _).alloc (Nat.le_refl _) _;have hG1:∀ k,G k→k<(w.alloc (.cells #[.func (.func fn) #[] cap] 37)).heap.size:=fun k hk=>gK (hG k hk) hb.size;have hcc:(w.alloc (.cells #[.func (.func fn) #[] cap] 37)).cell? ⟨w.heap.size,0,none⟩=some (.func (.func fn) #[] cap):=dJ (aN w _);have HX:=Ha (nR f G 110 #[.pointer (some ⟨w.heap.size,0,none⟩)] (fun x=>!p x) v xs _ hG1 (hs.keep (fun _ h=>h) (bA hG hb) (fun vs x h=>h.below hG hb)) mS
  (fun X hX vs x hr=>uT f G fn cap p X w.heap.size (fun k hk=>gK (hG1 k hk) hX.size) hent ((hst.on hb).on hX) (gK (by simp) hX.size) ((hX.cell (p:=⟨w.heap.size,0,none⟩) (by simp)).trans hcc) vs x hr))
 have HB:=Ha hb;have HA:=Ha (show (!xs.any fun x=>!p x)=xs.all p by rw [List.all_eq_not_any_not]);clear hb hG hs hent hst hG1 hcc;go_enter Tryz.func41,Tryz.ntmps41;go_wp2_with fail;refine HX.out.mono ?_;rintro e w1 ⟨rfl,hb1⟩;have HB1:=Ha (HB.out.trans (hb1.mono HB.out.size));clear hb1;go_wp2_with fail;go_ret;exact ⟨aC HA.out,HB1.out⟩
theorem qU (f:Nat) (G:Nat→Prop) (fn:Nat) (cap:Array Value) (p:RdF (Nd f)→Bool) (v:Value) (xs:List (RdF (Nd f))) (w:World) (hG:∀ k,G k→k<w.heap.size) (hs:aW G w 4 (RdN f G w) v xs) (hent:bK fn) (hst:eV (RdN f G) ag w fn cap p):
  Calls Tryz.prog 208 #[v,.func (.func fn) #[] cap] w fun e w'=>∃ r:Int,e=.returned (.int .i64 r)∧decide (0≤r)=xs.any p∧Below w.heap.size w w':=by
 obtain ⟨A,c,rfl,hl,hm,hc⟩:=hs;unfold maxLen at hm;obtain ⟨HC,HG,HE,HST⟩:=hs4 hc hG hent hst;clear hc hG hent hst;go_enter Tryz.func208,Tryz.ntmps208;go_wp2
 go_loopw [8] (fun i wr=>∃ (k:Nat),k≤xs.length∧i=.int .i64 k∧(xs.drop k).any p=xs.any p∧Below w.heap.size w wr) (fun i _=>xs.length-(intOf i).toNat)
 case atStart=>exact ⟨0,by omega,rfl,rfl,Below.refl _ _⟩
 case round=>
  obtain ⟨k,hk,rfl,hf,hb⟩:=hrel;have HF:=Ha hf;have HB:=Ha hb;clear hf hb;by_cases hlt:k<xs.length
  ·obtain ⟨b,off,rfl,hg,hel⟩:=HC.out (by omega);obtain ⟨vs,hvl,hR,hcell⟩:=hel k hlt;have hR':=hR.below HG.out HB.out;obtain ⟨s,o,A2,n2,c2,sh,rfl⟩:=hR'.shape;have z:=fun j u hj=>(bA HG.out HB.out _ hg).trans (hcell j u hj);have c0:wr.cell? ⟨b,off+k*4,none⟩=some (.string s):=by simpa using z 0 _ rfl
   have c1:wr.cell? ⟨b,off+k*4+1,none⟩=some (.int .i64 o):=by simpa using z 1 _ rfl
   have c2:wr.cell? ⟨b,off+k*4+2,none⟩=some (.slice A2 n2 c2):=by simpa using z 2 _ rfl
   have c3:wr.cell? ⟨b,off+k*4+3,none⟩=some (.string sh):=by simpa using z 3 _ rfl
   have HR:=Ha hR';clear z hel hcell hvl hR hR' hg;go_wp2_with fail;rw [HE.out,Oper.upon_enter];refine (HST.out _ HB.out _ _ HR.out).mono ?_;rintro e w1 ⟨he,hb1⟩;have HB1:=Ha (HB.out.trans (hb1.mono HB.out.size));clear hb1 c0 c1 c2 c3;cases hq:p xs[k]
   ·rw [hq] at he;subst he;have HQ:=Ha hq;clear hq;go_wp2_with fail
    go_roundw
    case rel=>
     refine ⟨k+1,by omega,by go_num, ?_,HB1.out⟩;have h:=HF.out;rw [bC xs k hlt,List.any_cons,HQ.out,Bool.false_or] at h;exact h
    case measure=>simp only [intOf];omega
   ·rw [hq] at he;subst he;have HQ:=Ha hq;clear hq;go_wp2_with fail;go_ret;refine ⟨(k:Int),rfl, ?_,HB1.out⟩;rw [← HF.out,bC xs k hlt,List.any_cons,HQ.out,Bool.true_or];exact decide_eq_true (by omega)
  ·have HD:=Ha (List.drop_eq_nil_of_le (show xs.length≤k by omega));go_wp2_with fail;go_ret;refine ⟨-1,rfl, ?_,HB.out⟩;rw [← HF.out,HD.out];rfl
theorem mM (f:Nat) (G:Nat→Prop) (fn:Nat) (cap:Array Value) (p:RdF (Nd f)→Bool) (v:Value) (xs:List (RdF (Nd f))) (w:World) (hG:∀ k,G k→k<w.heap.size) (hs:aW G w 4 (RdN f G w) v xs) (hent:bK fn) (hst:eV (RdN f G) ag w fn cap p):
  Calls Tryz.prog 170 #[v,.func (.func fn) #[] cap] w fun e w'=>e=.returned (.bool (xs.any p))∧Below w.heap.size w w':=by
 have HX:=Ha (qU f G fn cap p v xs w hG hs hent hst);clear hG hs hent hst;go_enter Tryz.func170,Tryz.ntmps170;go_wp2_with fail;refine HX.out.mono ?_;rintro e w1 ⟨r,rfl,hq,hb⟩;have HQ:=Ha hq;clear hq;go_wp2_with fail;go_ret;exact ⟨aC HQ.out,hb⟩
theorem lY:bK 171:=fun args w=>by simp [callFunc,go_sem,Tryz.func171,Tryz.f171]
theorem rZ (f:Nat) (G:Nat→Prop) (fn:Nat) (cap:Array Value) (p:RdF (Nd f)→Bool) (X:World) (bo:Nat) (hG:∀ k,G k→k<X.heap.size) (hent:bK fn) (hst:eV (RdN f G) ag X fn cap p) (hbo:bo<X.heap.size)
  (hc:X.cell? ⟨bo,0,none⟩=some (.func (.func fn) #[] cap)) (vs:List Value) (x:RdF (Nd f)) (hr:RdN f G X vs x):
  Calls Tryz.prog 171 (#[ag vs]++#[.pointer (some ⟨bo,0,none⟩)]) X fun e w'=>e=.returned (.bool (!p x))∧Below X.heap.size X w':=by
 obtain ⟨s,o,A2,n2,c2,sh,rfl⟩:=hr.shape;have HE:=Ha hent;clear hent;show Calls Tryz.prog 171 #[.agg #[.string s,.int .i64 o,.slice A2 n2 c2,.string sh],.pointer (some ⟨bo,0,none⟩)] X _;have hb:Below X.heap.size X (X.alloc (.cells #[.string s,.int .i64 o,.slice A2 n2 c2,.string sh] 33)):=(Below.refl _ _).alloc (Nat.le_refl _) _;have HX:=Ha (hst _ hb _ _ (hr.below hG hb));have hc':(X.alloc (.cells #[.string s,.int .i64 o,.slice A2 n2 c2,.string sh] 33)).cell? ⟨bo,0,none⟩=some (.func (.func fn) #[] cap):=(hb.cell (p:=⟨bo,0,none⟩) hbo).trans hc;have HB:=Ha hb;clear hb hst hr hc;go_enter Tryz.func171,Tryz.ntmps171;go_wp2_with fail;rw [HE.out,Oper.upon_enter];refine HX.out.mono ?_;rintro e w1 ⟨rfl,hb1⟩;have HB1:=Ha (HB.out.trans (hb1.mono HB.out.size));clear hb1 hc';go_wp2_with fail;go_ret;exact ⟨rfl,HB1.out⟩
theorem uV (f:Nat) (G:Nat→Prop) (fn:Nat) (cap:Array Value) (p:RdF (Nd f)→Bool) (v:Value) (xs:List (RdF (Nd f))) (w:World) (hG:∀ k,G k→k<w.heap.size) (hs:aW G w 4 (RdN f G w) v xs) (hent:bK fn) (hst:eV (RdN f G) ag w fn cap p):
  Calls Tryz.prog 136 #[v,.func (.func fn) #[] cap] w fun e w'=>e=.returned (.bool (xs.all p))∧Below w.heap.size w w':=by
 have hb:Below w.heap.size w (w.alloc (.cells #[.func (.func fn) #[] cap] 39)):=(Below.refl _ _).alloc (Nat.le_refl _) _;have hG1:∀ k,G k→k<(w.alloc (.cells #[.func (.func fn) #[] cap] 39)).heap.size:=fun k hk=>gK (hG k hk) hb.size;have hcc:(w.alloc (.cells #[.func (.func fn) #[] cap] 39)).cell? ⟨w.heap.size,0,none⟩=some (.func (.func fn) #[] cap):=dJ (aN w _);have HX:=Ha (mM f G 171 #[.pointer (some ⟨w.heap.size,0,none⟩)] (fun x=>!p x) v xs _ hG1 (hs.keep (fun _ h=>h) (bA hG hb) (fun vs x h=>h.below hG hb)) lY
  (fun X hX vs x hr=>rZ f G fn cap p X w.heap.size (fun k hk=>gK (hG1 k hk) hX.size) hent ((hst.on hb).on hX) (gK (by simp) hX.size) ((hX.cell (p:=⟨w.heap.size,0,none⟩) (by simp)).trans hcc) vs x hr))
 have HB:=Ha hb;have HA:=Ha (show (!xs.any fun x=>!p x)=xs.all p by rw [List.all_eq_not_any_not]);clear hb hG hs hent hst hG1 hcc;go_enter Tryz.func136,Tryz.ntmps136;go_wp2_with fail;refine HX.out.mono ?_;rintro e w1 ⟨rfl,hb1⟩;have HB1:=Ha (HB.out.trans (hb1.mono HB.out.size));clear hb1;go_wp2_with fail;go_ret;exact ⟨aC HA.out,HB1.out⟩
theorem sM (f:Nat) (G:Nat→Prop) (fn:Nat) (cap:Array Value) (p:WdF (Nd f)→Bool) (v:Value) (xs:List (WdF (Nd f))) (w:World) (hG:∀ k,G k→k<w.heap.size) (hs:aW G w 1 (WdN f G w) v xs) (hent:bK fn) (hst:eV (WdN f G) ag w fn cap p):
  Calls Tryz.prog 209 #[v,.func (.func fn) #[] cap] w fun e w'=>∃ r:Int,e=.returned (.int .i64 r)∧decide (0≤r)=xs.any p∧Below w.heap.size w w':=by
 obtain ⟨A,c,rfl,hl,hm,hc⟩:=hs;unfold maxLen at hm;obtain ⟨HC,HG,HE,HST⟩:=hs4 hc hG hent hst;clear hc hG hent hst;go_enter Tryz.func209,Tryz.ntmps209;go_wp2
 go_loopw [8] (fun i wr=>∃ (k:Nat),k≤xs.length∧i=.int .i64 k∧(xs.drop k).any p=xs.any p∧Below w.heap.size w wr) (fun i _=>xs.length-(intOf i).toNat)
 case atStart=>exact ⟨0,by omega,rfl,rfl,Below.refl _ _⟩
 case round=>
  obtain ⟨k,hk,rfl,hf,hb⟩:=hrel;have HF:=Ha hf;have HB:=Ha hb;clear hf hb;by_cases hlt:k<xs.length
  ·obtain ⟨b,off,rfl,hg,hel⟩:=HC.out (by omega);obtain ⟨vs,hvl,hR,hcell⟩:=hel k hlt;have hR':=hR.below HG.out HB.out;obtain ⟨A0,n0,c0,rfl⟩:=hR'.shape;have z:=fun j u hj=>(bA HG.out HB.out _ hg).trans (hcell j u hj);have c0:wr.cell? ⟨b,off+k,none⟩=some (.slice A0 n0 c0):=by simpa using z 0 _ rfl
   have HR:=Ha hR';clear z hel hcell hvl hR hR' hg;go_wp2_with fail;rw [HE.out,Oper.upon_enter];refine (HST.out _ HB.out _ _ HR.out).mono ?_;rintro e w1 ⟨he,hb1⟩;have HB1:=Ha (HB.out.trans (hb1.mono HB.out.size));clear hb1 c0;cases hq:p xs[k]
   ·rw [hq] at he;subst he;have HQ:=Ha hq;clear hq;go_wp2_with fail
    go_roundw
    case rel=>
     refine ⟨k+1,by omega,by go_num, ?_,HB1.out⟩;have h:=HF.out;rw [bC xs k hlt,List.any_cons,HQ.out,Bool.false_or] at h;exact h
    case measure=>simp only [intOf];omega
   ·rw [hq] at he;subst he;have HQ:=Ha hq;clear hq;go_wp2_with fail;go_ret;refine ⟨(k:Int),rfl, ?_,HB1.out⟩;rw [← HF.out,bC xs k hlt,List.any_cons,HQ.out,Bool.true_or];exact decide_eq_true (by omega)
  ·have HD:=Ha (List.drop_eq_nil_of_le (show xs.length≤k by omega));go_wp2_with fail;go_ret;refine ⟨-1,rfl, ?_,HB.out⟩;rw [← HF.out,HD.out];rfl
theorem nT (f:Nat) (G:Nat→Prop) (fn:Nat) (cap:Array Value) (p:WdF (Nd f)→Bool) (v:Value) (xs:List (WdF (Nd f))) (w:World) (hG:∀ k,G k→k<w.heap.size) (hs:aW G w 1 (WdN f G w) v xs) (hent:bK fn) (hst:eV (WdN f G) ag w fn cap p):
  Calls Tryz.prog 172 #[v,.func (.func fn) #[] cap] w fun e w'=>e=.returned (.bool (xs.any p))∧Below w.heap.size w w':=by
 have HX:=Ha (sM f G fn cap p v xs w hG hs hent hst);clear hG hs hent hst;go_enter Tryz.func172,Tryz.ntmps172;go_wp2_with fail;refine HX.out.mono ?_;rintro e w1 ⟨r,rfl,hq,hb⟩;have HQ:=Ha hq;clear hq;go_wp2_with fail;go_ret;exact ⟨aC HQ.out,hb⟩
theorem mT:bK 173:=fun args w=>by simp [callFunc,go_sem,Tryz.func173,Tryz.f173]
theorem uU (f:Nat) (G:Nat→Prop) (fn:Nat) (cap:Array Value) (p:WdF (Nd f)→Bool) (X:World) (bo:Nat) (hG:∀ k,G k→k<X.heap.size) (hent:bK fn) (hst:eV (WdN f G) ag X fn cap p) (hbo:bo<X.heap.size)
  (hc:X.cell? ⟨bo,0,none⟩=some (.func (.func fn) #[] cap)) (vs:List Value) (x:WdF (Nd f)) (hr:WdN f G X vs x):
  Calls Tryz.prog 173 (#[ag vs]++#[.pointer (some ⟨bo,0,none⟩)]) X fun e w'=>e=.returned (.bool (!p x))∧Below X.heap.size X w':=by
 obtain ⟨A0,n0,c0,rfl⟩:=hr.shape;have HE:=Ha hent;clear hent;show Calls Tryz.prog 173 #[.agg #[.slice A0 n0 c0],.pointer (some ⟨bo,0,none⟩)] X _;have hb:Below X.heap.size X (X.alloc (.cells #[.slice A0 n0 c0] 31)):=(Below.refl _ _).alloc (Nat.le_refl _) _;have HX:=Ha (hst _ hb _ _ (hr.below hG hb));have hc':(X.alloc (.cells #[.slice A0 n0 c0] 31)).cell? ⟨bo,0,none⟩=some (.func (.func fn) #[] cap):=(hb.cell (p:=⟨bo,0,none⟩) hbo).trans hc;have HB:=Ha hb;clear hb hst hr hc;go_enter Tryz.func173,Tryz.ntmps173;go_wp2_with fail;rw [HE.out,Oper.upon_enter];refine HX.out.mono ?_;rintro e w1 ⟨rfl,hb1⟩;have HB1:=Ha (HB.out.trans (hb1.mono HB.out.size));clear hb1 hc';go_wp2_with fail;go_ret;exact ⟨rfl,HB1.out⟩
theorem kE (f:Nat) (G:Nat→Prop) (fn:Nat) (cap:Array Value) (p:WdF (Nd f)→Bool) (v:Value) (xs:List (WdF (Nd f))) (w:World) (hG:∀ k,G k→k<w.heap.size) (hs:aW G w 1 (WdN f G w) v xs) (hent:bK fn) (hst:eV (WdN f G) ag w fn cap p):
  Calls Tryz.prog 137 #[v,.func (.func fn) #[] cap] w fun e w'=>e=.returned (.bool (xs.all p))∧Below w.heap.size w w':=by
 have hb:Below w.heap.size w (w.alloc (.cells #[.func (.func fn) #[] cap] 38)):=(Below.refl _ _).alloc (Nat.le_refl _) _;have hG1:∀ k,G k→k<(w.alloc (.cells #[.func (.func fn) #[] cap] 38)).heap.size:=fun k hk=>gK (hG k hk) hb.size;have hcc:(w.alloc (.cells #[.func (.func fn) #[] cap] 38)).cell? ⟨w.heap.size,0,none⟩=some (.func (.func fn) #[] cap):=dJ (aN w _);have HX:=Ha (nT f G 173 #[.pointer (some ⟨w.heap.size,0,none⟩)] (fun x=>!p x) v xs _ hG1 (hs.keep (fun _ h=>h) (bA hG hb) (fun vs x h=>h.below hG hb)) mT
  (fun X hX vs x hr=>uU f G fn cap p X w.heap.size (fun k hk=>gK (hG1 k hk) hX.size) hent ((hst.on hb).on hX) (gK (by simp) hX.size) ((hX.cell (p:=⟨w.heap.size,0,none⟩) (by simp)).trans hcc) vs x hr))
 have HB:=Ha hb;have HA:=Ha (show (!xs.any fun x=>!p x)=xs.all p by rw [List.all_eq_not_any_not]);clear hb hG hs hent hst hG1 hcc;go_enter Tryz.func137,Tryz.ntmps137;go_wp2_with fail;refine HX.out.mono ?_;rintro e w1 ⟨rfl,hb1⟩;have HB1:=Ha (HB.out.trans (hb1.mono HB.out.size));clear hb1;go_wp2_with fail;go_ret;exact ⟨aC HA.out,HB1.out⟩
theorem vO (G:Nat→Prop) (fn:Nat) (cap:Array Value) (p:Int→Bool) (v:Value) (xs:List (Int)) (w:World) (hG:∀ k,G k→k<w.heap.size) (hs:aW G w 1 (kY w) v xs) (hent:bK fn) (hst:eV (kY) one w fn cap p):
  Calls Tryz.prog 210 #[v,.func (.func fn) #[] cap] w fun e w'=>∃ r:Int,e=.returned (.int .i64 r)∧decide (0≤r)=xs.any p∧Below w.heap.size w w':=by
 obtain ⟨A,c,rfl,hl,hm,hc⟩:=hs;unfold maxLen at hm;obtain ⟨HC,HG,HE,HST⟩:=hs4 hc hG hent hst;clear hc hG hent hst;go_enter Tryz.func210,Tryz.ntmps210;go_wp2
 go_loopw [8] (fun i wr=>∃ (k:Nat),k≤xs.length∧i=.int .i64 k∧(xs.drop k).any p=xs.any p∧Below w.heap.size w wr) (fun i _=>xs.length-(intOf i).toNat)
 case atStart=>exact ⟨0,by omega,rfl,rfl,Below.refl _ _⟩
 case round=>
  obtain ⟨k,hk,rfl,hf,hb⟩:=hrel;have HF:=Ha hf;have HB:=Ha hb;clear hf hb;by_cases hlt:k<xs.length
  ·obtain ⟨b,off,rfl,hg,hel⟩:=HC.out (by omega);obtain ⟨vs,hvl,hR,hcell⟩:=hel k hlt;have hR':=hR.below HG.out HB.out;obtain ⟨y,rfl⟩:=hR'.shape;have z:=fun j u hj=>(bA HG.out HB.out _ hg).trans (hcell j u hj);have c0:wr.cell? ⟨b,off+k,none⟩=some (.int .i64 y):=by simpa using z 0 _ rfl
   have HR:=Ha hR';clear z hel hcell hvl hR hR' hg;go_wp2_with fail;rw [HE.out,Oper.upon_enter];refine (HST.out _ HB.out _ _ HR.out).mono ?_;rintro e w1 ⟨he,hb1⟩;have HB1:=Ha (HB.out.trans (hb1.mono HB.out.size));clear hb1 c0;cases hq:p xs[k]
   ·rw [hq] at he;subst he;have HQ:=Ha hq;clear hq;go_wp2_with fail
    go_roundw
    case rel=>
     refine ⟨k+1,by omega,by go_num, ?_,HB1.out⟩;have h:=HF.out;rw [bC xs k hlt,List.any_cons,HQ.out,Bool.false_or] at h;exact h
    case measure=>simp only [intOf];omega
   ·rw [hq] at he;subst he;have HQ:=Ha hq;clear hq;go_wp2_with fail;go_ret;refine ⟨(k:Int),rfl, ?_,HB1.out⟩;rw [← HF.out,bC xs k hlt,List.any_cons,HQ.out,Bool.true_or];exact decide_eq_true (by omega)
  ·have HD:=Ha (List.drop_eq_nil_of_le (show xs.length≤k by omega));go_wp2_with fail;go_ret;refine ⟨-1,rfl, ?_,HB.out⟩;rw [← HF.out,HD.out];rfl
theorem o9 (G:Nat→Prop) (fn:Nat) (cap:Array Value) (p:Int→Bool) (v:Value) (xs:List (Int)) (w:World) (hG:∀ k,G k→k<w.heap.size) (hs:aW G w 1 (kY w) v xs) (hent:bK fn) (hst:eV (kY) one w fn cap p):
  Calls Tryz.prog 174 #[v,.func (.func fn) #[] cap] w fun e w'=>e=.returned (.bool (xs.any p))∧Below w.heap.size w w':=by
 have HX:=Ha (vO G fn cap p v xs w hG hs hent hst);clear hG hs hent hst;go_enter Tryz.func174,Tryz.ntmps174;go_wp2_with fail;refine HX.out.mono ?_;rintro e w1 ⟨r,rfl,hq,hb⟩;have HQ:=Ha hq;clear hq;go_wp2_with fail;go_ret;exact ⟨aC HQ.out,hb⟩
theorem nW:bK 175:=fun args w=>by simp [callFunc,go_sem,Tryz.func175,Tryz.f175]
theorem xE (G:Nat→Prop) (fn:Nat) (cap:Array Value) (p:Int→Bool) (X:World) (bo:Nat) (_hG:∀ k,G k→k<X.heap.size) (hent:bK fn) (hst:eV (kY) one X fn cap p) (_hbo:bo<X.heap.size)
  (hc:X.cell? ⟨bo,0,none⟩=some (.func (.func fn) #[] cap)) (vs:List Value) (x:Int) (hr:kY X vs x):
  Calls Tryz.prog 175 (#[one vs]++#[.pointer (some ⟨bo,0,none⟩)]) X fun e w'=>e=.returned (.bool (!p x))∧Below X.heap.size X w':=by
 obtain ⟨y,rfl⟩:=hr.shape;have HE:=Ha hent;clear hent;show Calls Tryz.prog 175 #[.int .i64 y,.pointer (some ⟨bo,0,none⟩)] X _;have HR:=Ha hr;have HC:=Ha hc;have HX:=Ha (hst X (Below.refl _ _) _ _ HR.out);clear hst hr;go_enter Tryz.func175,Tryz.ntmps175;go_wp2_with fail;rw [HE.out,Oper.upon_enter];refine HX.out.mono ?_;rintro e w1 ⟨rfl,hb1⟩;go_wp2_with fail;go_ret;exact ⟨rfl,hb1⟩
theorem AM (G:Nat→Prop) (fn:Nat) (cap:Array Value) (p:Int→Bool) (v:Value) (xs:List (Int)) (w:World) (hG:∀ k,G k→k<w.heap.size) (hs:aW G w 1 (kY w) v xs) (hent:bK fn) (hst:eV (kY) one w fn cap p):
  Calls Tryz.prog 139 #[v,.func (.func fn) #[] cap] w fun e w'=>e=.returned (.bool (xs.all p))∧Below w.heap.size w w':=by
 have hb:Below w.heap.size w (w.alloc (.cells #[.func (.func fn) #[] cap] 66)):=(Below.refl _ _).alloc (Nat.le_refl _) _;have hG1:∀ k,G k→k<(w.alloc (.cells #[.func (.func fn) #[] cap] 66)).heap.size:=fun k hk=>gK (hG k hk) hb.size;have hcc:(w.alloc (.cells #[.func (.func fn) #[] cap] 66)).cell? ⟨w.heap.size,0,none⟩=some (.func (.func fn) #[] cap):=dJ (aN w _);have HX:=Ha (o9 G 175 #[.pointer (some ⟨w.heap.size,0,none⟩)] (fun x=>!p x) v xs _ hG1 (hs.keep (fun _ h=>h) (bA hG hb) (fun vs x h=>h.below hG hb)) nW
  (fun X hX vs x hr=>xE G fn cap p X w.heap.size (fun k hk=>gK (hG1 k hk) hX.size) hent ((hst.on hb).on hX) (gK (by simp) hX.size) ((hX.cell (p:=⟨w.heap.size,0,none⟩) (by simp)).trans hcc) vs x hr))
 have HB:=Ha hb;have HA:=Ha (show (!xs.any fun x=>!p x)=xs.all p by rw [List.all_eq_not_any_not]);clear hb hG hs hent hst hG1 hcc;go_enter Tryz.func139,Tryz.ntmps139;go_wp2_with fail;refine HX.out.mono ?_;rintro e w1 ⟨rfl,hb1⟩;have HB1:=Ha (HB.out.trans (hb1.mono HB.out.size));clear hb1;go_wp2_with fail;go_ret;exact ⟨aC HA.out,HB1.out⟩
theorem vN (f:Nat) (G:Nat→Prop) (fn:Nat) (cap:Array Value) (p:ArF (Nd f)→Bool) (v:Value) (xs:List (ArF (Nd f))) (w:World) (hG:∀ k,G k→k<w.heap.size) (hs:aW G w 11 (ArN f G w) v xs) (hent:bK fn) (hst:eV (ArN f G) ag w fn cap p):
  Calls Tryz.prog 177 #[v,.func (.func fn) #[] cap] w fun e w'=>∃ r:Int,e=.returned (.int .i64 r)∧decide (0≤r)=xs.any p∧Below w.heap.size w w':=by
 obtain ⟨A,c,rfl,hl,hm,hc⟩:=hs;unfold maxLen at hm;obtain ⟨HC,HG,HE,HST⟩:=hs4 hc hG hent hst;clear hc hG hent hst;go_enter Tryz.func177,Tryz.ntmps177;go_wp2
 go_loopw [8] (fun i wr=>∃ (k:Nat),k≤xs.length∧i=.int .i64 k∧(xs.drop k).any p=xs.any p∧Below w.heap.size w wr) (fun i _=>xs.length-(intOf i).toNat)
 case atStart=>exact ⟨0,by omega,rfl,rfl,Below.refl _ _⟩
 case round=>
  obtain ⟨k,hk,rfl,hf,hb⟩:=hrel;have HF:=Ha hf;have HB:=Ha hb;clear hf hb;by_cases hlt:k<xs.length
  ·obtain ⟨b,off,rfl,hg,hel⟩:=HC.out (by omega);obtain ⟨vs,hvl,hR,hcell⟩:=hel k hlt;have hR':=hR.below HG.out HB.out;obtain ⟨A0,n0,c0,ky,s,nt,ni,A14,n14,c14,A15,n15,c15,A16,n16,c16,A17,n17,c17,A18,n18,c18,A19,n19,c19,rfl⟩:=hR'.shape;have z:=fun j u hj=>(bA HG.out HB.out _ hg).trans (hcell j u hj);have c0:wr.cell? ⟨b,off+k*11,none⟩=some (.slice A0 n0 c0):=by simpa using z 0 _ rfl
   have c1:wr.cell? ⟨b,off+k*11+1,none⟩=some (.int .i64 ky):=by simpa using z 1 _ rfl
   have c2:wr.cell? ⟨b,off+k*11+2,none⟩=some (.string s):=by simpa using z 2 _ rfl
   have c3:wr.cell? ⟨b,off+k*11+3,none⟩=some (.bool nt):=by simpa using z 3 _ rfl
   have c4:wr.cell? ⟨b,off+k*11+4,none⟩=some (.bool ni):=by simpa using z 4 _ rfl
   have c5:wr.cell? ⟨b,off+k*11+5,none⟩=some (.slice A14 n14 c14):=by simpa using z 5 _ rfl
   have c6:wr.cell? ⟨b,off+k*11+6,none⟩=some (.slice A15 n15 c15):=by simpa using z 6 _ rfl
   have c7:wr.cell? ⟨b,off+k*11+7,none⟩=some (.slice A16 n16 c16):=by simpa using z 7 _ rfl
   have c8:wr.cell? ⟨b,off+k*11+8,none⟩=some (.slice A17 n17 c17):=by simpa using z 8 _ rfl
   have c9:wr.cell? ⟨b,off+k*11+9,none⟩=some (.slice A18 n18 c18):=by simpa using z 9 _ rfl
   have c10:wr.cell? ⟨b,off+k*11+10,none⟩=some (.slice A19 n19 c19):=by simpa using z 10 _ rfl
   have HR:=Ha hR';clear z hel hcell hvl hR hR' hg;go_wp2_with fail;rw [HE.out,Oper.upon_enter];refine (HST.out _ HB.out _ _ HR.out).mono ?_;rintro e w1 ⟨he,hb1⟩;have HB1:=Ha (HB.out.trans (hb1.mono HB.out.size));clear hb1 c0 c1 c2 c3 c4 c5 c6 c7 c8 c9 c10;cases hq:p xs[k]
   ·rw [hq] at he;subst he;have HQ:=Ha hq;clear hq;go_wp2_with fail
    go_roundw
    case rel=>
     refine ⟨k+1,by omega,by go_num, ?_,HB1.out⟩;have h:=HF.out;rw [bC xs k hlt,List.any_cons,HQ.out,Bool.false_or] at h;exact h
    case measure=>simp only [intOf];omega
   ·rw [hq] at he;subst he;have HQ:=Ha hq;clear hq;go_wp2_with fail;go_ret;refine ⟨(k:Int),rfl, ?_,HB1.out⟩;rw [← HF.out,bC xs k hlt,List.any_cons,HQ.out,Bool.true_or];exact decide_eq_true (by omega)
  ·have HD:=Ha (List.drop_eq_nil_of_le (show xs.length≤k by omega));go_wp2_with fail;go_ret;refine ⟨-1,rfl, ?_,HB.out⟩;rw [← HF.out,HD.out];rfl
theorem o8 (f:Nat) (G:Nat→Prop) (fn:Nat) (cap:Array Value) (p:ArF (Nd f)→Bool) (v:Value) (xs:List (ArF (Nd f))) (w:World) (hG:∀ k,G k→k<w.heap.size) (hs:aW G w 11 (ArN f G w) v xs) (hent:bK fn) (hst:eV (ArN f G) ag w fn cap p):
  Calls Tryz.prog 145 #[v,.func (.func fn) #[] cap] w fun e w'=>e=.returned (.bool (xs.any p))∧Below w.heap.size w w':=by
 have HX:=Ha (vN f G fn cap p v xs w hG hs hent hst);clear hG hs hent hst;go_enter Tryz.func145,Tryz.ntmps145;go_wp2_with fail;refine HX.out.mono ?_;rintro e w1 ⟨r,rfl,hq,hb⟩;have HQ:=Ha hq;clear hq;go_wp2_with fail;go_ret;exact ⟨aC HQ.out,hb⟩
theorem nV:bK 146:=fun args w=>by simp [callFunc,go_sem,Tryz.func146,Tryz.f146]
theorem xD (f:Nat) (G:Nat→Prop) (fn:Nat) (cap:Array Value) (p:ArF (Nd f)→Bool) (X:World) (bo:Nat) (hG:∀ k,G k→k<X.heap.size) (hent:bK fn) (hst:eV (ArN f G) ag X fn cap p) (hbo:bo<X.heap.size)
  (hc:X.cell? ⟨bo,0,none⟩=some (.func (.func fn) #[] cap)) (vs:List Value) (x:ArF (Nd f)) (hr:ArN f G X vs x):
  Calls Tryz.prog 146 (#[ag vs]++#[.pointer (some ⟨bo,0,none⟩)]) X fun e w'=>e=.returned (.bool (!p x))∧Below X.heap.size X w':=by
 obtain ⟨A0,n0,c0,ky,s,nt,ni,A14,n14,c14,A15,n15,c15,A16,n16,c16,A17,n17,c17,A18,n18,c18,A19,n19,c19,rfl⟩:=hr.shape;have HE:=Ha hent;clear hent;show Calls Tryz.prog 146 #[.agg #[.slice A0 n0 c0,.int .i64 ky,.string s,.bool nt,.bool ni,.slice A14 n14 c14,.slice A15 n15 c15,.slice A16 n16 c16,.slice A17 n17 c17,.slice A18 n18 c18,.slice A19 n19 c19],.pointer (some ⟨bo,0,none⟩)] X _;have hb:Below X.heap.size X (X.alloc (.cells #[.slice A0 n0 c0,.int .i64 ky,.string s,.bool nt,.bool ni,.slice A14 n14 c14,.slice A15 n15 c15,.slice A16 n16 c16,.slice A17 n17 c17,.slice A18 n18 c18,.slice A19 n19 c19] 54)):=(Below.refl _ _).alloc (Nat.le_refl _) _;have HX:=Ha (hst _ hb _ _ (hr.below hG hb));have hc':(X.alloc (.cells #[.slice A0 n0 c0,.int .i64 ky,.string s,.bool nt,.bool ni,.slice A14 n14 c14,.slice A15 n15 c15,.slice A16 n16 c16,.slice A17 n17 c17,.slice A18 n18 c18,.slice A19 n19 c19] 54)).cell? ⟨bo,0,none⟩=some (.func (.func fn) #[] cap):=(hb.cell (p:=⟨bo,0,none⟩) hbo).trans hc;have HB:=Ha hb;clear hb hst hr hc;go_enter Tryz.func146,Tryz.ntmps146;go_wp2_with fail;rw [HE.out,Oper.upon_enter];refine HX.out.mono ?_;rintro e w1 ⟨rfl,hb1⟩;have HB1:=Ha (HB.out.trans (hb1.mono HB.out.size));clear hb1 hc';go_wp2_with fail;go_ret;exact ⟨rfl,HB1.out⟩
theorem AL (f:Nat) (G:Nat→Prop) (fn:Nat) (cap:Array Value) (p:ArF (Nd f)→Bool) (v:Value) (xs:List (ArF (Nd f))) (w:World) (hG:∀ k,G k→k<w.heap.size) (hs:aW G w 11 (ArN f G w) v xs) (hent:bK fn) (hst:eV (ArN f G) ag w fn cap p):
  Calls Tryz.prog 93 #[v,.func (.func fn) #[] cap] w fun e w'=>e=.returned (.bool (xs.all p))∧Below w.heap.size w w':=by
 have hb:Below w.heap.size w (w.alloc (.cells #[.func (.func fn) #[] cap] 91)):=(Below.refl _ _).alloc (Nat.le_refl _) _;have hG1:∀ k,G k→k<(w.alloc (.cells #[.func (.func fn) #[] cap] 91)).heap.size:=fun k hk=>gK (hG k hk) hb.size;have hcc:(w.alloc (.cells #[.func (.func fn) #[] cap] 91)).cell? ⟨w.heap.size,0,none⟩=some (.func (.func fn) #[] cap):=dJ (aN w _);have HX:=Ha (o8 f G 146 #[.pointer (some ⟨w.heap.size,0,none⟩)] (fun x=>!p x) v xs _ hG1 (hs.keep (fun _ h=>h) (bA hG hb) (fun vs x h=>h.below hG hb)) nV
  (fun X hX vs x hr=>xD f G fn cap p X w.heap.size (fun k hk=>gK (hG1 k hk) hX.size) hent ((hst.on hb).on hX) (gK (by simp) hX.size) ((hX.cell (p:=⟨w.heap.size,0,none⟩) (by simp)).trans hcc) vs x hr))
 have HB:=Ha hb;have HA:=Ha (show (!xs.any fun x=>!p x)=xs.all p by rw [List.all_eq_not_any_not]);clear hb hG hs hent hst hG1 hcc;go_enter Tryz.func93,Tryz.ntmps93;go_wp2_with fail;refine HX.out.mono ?_;rintro e w1 ⟨rfl,hb1⟩;have HB1:=Ha (HB.out.trans (hb1.mono HB.out.size));clear hb1;go_wp2_with fail;go_ret;exact ⟨aC HA.out,HB1.out⟩
def dQ:Array Value:=(kP.map bs).toArray
def cK (w:World):Prop:=∃ t fr,w.heap[0]? = some (.cells dQ t fr)
theorem cK.below {w w':World} (h:cK w) (hb:Below w.heap.size w w'):cK w':=by
 obtain ⟨t,fr,hg⟩:=h;exact ⟨t,fr,(hb.block 0 (Array.getElem?_eq_some_iff.1 hg).1).trans hg⟩
def kQ (k:Nat):List UInt8:=kP.getD k []
theorem xR (k:Nat) (h:k<16) {w:World} (ht:cK w):w.cell? ⟨0,k,none⟩=some (bs (kQ k)):=by
 obtain ⟨t,fr,hg⟩:=ht;rw [cell_of_row w 0 k dQ t fr hg];have:∀ k:Fin 16,dQ[k.val]? = some (bs (kQ k.val)):=fun k=>by
  unfold dQ kQ;have hl:k.val<kP.length:=by simp [kP]
  simp [List.getD,List.getElem?_eq_getElem hl]
 exact this ⟨k,h⟩
theorem nG (s:List UInt8):∀ k,k<16→nF s (kP.drop k) (23+k)=if kQ k=s then (23:Int)+k else nF s (kP.drop (k+1)) (23+((k+1:Nat):Int)):=by
 have:∀ k:Fin 16,kP.drop k.val=kQ k.val::kP.drop (k.val+1):=by decide
 intro k hk;rw [this ⟨k,hk⟩,nF];simp only [Int.natCast_add,Int.natCast_one,← Int.add_assoc]
theorem CI (s:ByteArray) (w:World) (ht:cK w):Calls Tryz.prog 143 #[.string s] w fun e w'=>e=.returned (.int .i64 (rsv s.toList))∧w=w':=by
 have HT:=Ha ht;clear ht;go_enter Tryz.func143,Tryz.ntmps143;go_wp2
 go_loop [4] (fun i=>∃ k:Nat,k≤16∧i=.int .i64 k∧nF s.toList (kP.drop k) (23+k)=rsv s.toList) (fun i=>16-(intOf i).toNat)
 case atStart=>exact ⟨0,by omega,rfl,rfl⟩
 case round=>
  obtain ⟨k,hk,rfl,hf⟩:=hrel;have H:=Ha hf;clear hf;by_cases hlt:k<16
  ·have hc:=xR k hlt HT.out;unfold bs at hc;have HD:=Ha (nG s.toList k hlt);cases he:kQ k==s.toList
   ·have HE:=Ha (show ¬kQ k=s.toList from fun h=>by simp [h] at he);go_wp2
    go_round
    case rel=>exact ⟨k+1,by omega,by go_num,by rw [← H.out,HD.out,if_neg HE.out]⟩
    case measure=>simp only [intOf];omega
   ·have HE:=Ha (show kQ k=s.toList from by simpa using he);go_wp2;go_ret;exact ⟨bU (by rw [← H.out,HD.out,if_pos HE.out]),rfl⟩
  ·obtain rfl:k=16:=by omega
   go_wp2;go_ret;exact ⟨bU (by rw [← H.out];rfl),rfl⟩
theorem wW (w:World):Calls Tryz.prog 149 #[] w fun e w'=>e=.returned (.slice (some ⟨w.heap.size,0,none⟩) 16 16)∧w'=w.alloc (.cells dQ 9):=by
 go_enter Tryz.func149,Tryz.ntmps149;go_wp2;go_ret;exact ⟨rfl,rfl⟩
theorem CJ (s:ByteArray) (w:World):Calls Tryz.prog 105 #[.string s] w fun e w'=>e=.returned (.int .i64 (rsv s.toList))∧Below w.heap.size w w':=by
 have hb:Below w.heap.size w (w.alloc (.cells dQ 9)):=(Below.refl _ _).alloc (Nat.le_refl _) _;have hcell:∀ k,k<16→(w.alloc (.cells dQ 9)).cell? ⟨w.heap.size,k,none⟩=some (bs (kQ k)):=fun k hk=>by
  rw [cell_of_row _ w.heap.size k dQ _ _ (aN w _)];have:∀ k:Fin 16,dQ[k.val]? = some (bs (kQ k.val)):=fun k=>by
   unfold dQ kQ;have hl:k.val<kP.length:=by simp [kP]
   simp [List.getD,List.getElem?_eq_getElem hl]
  exact this ⟨k,hk⟩
 have HB:=Ha hb;have HC:=Ha hcell;clear hb hcell;go_enter Tryz.func105,Tryz.ntmps105;go_wp2_with fail;refine (wW _).mono ?_;rintro e w1 ⟨rfl,rfl⟩;generalize w.alloc (.cells dQ 9)=W at *;go_wp2
 go_loop [4] (fun i=>∃ k:Nat,k≤16∧i=.int .i64 k∧nF s.toList (kP.drop k) (23+k)=rsv s.toList) (fun i=>16-(intOf i).toNat)
 case atStart=>exact ⟨0,by omega,rfl,rfl⟩
 case round=>
  obtain ⟨k,hk,rfl,hf⟩:=hrel;have H:=Ha hf;clear hf;by_cases hlt:k<16
  ·have hc:=HC.out k hlt;unfold bs at hc;have HD:=Ha (nG s.toList k hlt);cases he:kQ k==s.toList
   ·have HE:=Ha (show ¬kQ k=s.toList from fun h=>by simp [h] at he);go_wp2
    go_round
    case rel=>exact ⟨k+1,by omega,by go_num,by rw [← H.out,HD.out,if_neg HE.out]⟩
    case measure=>simp only [intOf];omega
   ·have HE:=Ha (show kQ k=s.toList from by simpa using he);go_wp2;go_ret;exact ⟨bU (by rw [← H.out,HD.out,if_pos HE.out]),HB.out⟩
  ·obtain rfl:k=16:=by omega
   go_wp2;go_ret;exact ⟨bU (by rw [← H.out];rfl),HB.out⟩
theorem eK (w:World) (o0 o1:Obj):((w.alloc o0).alloc o1).heap[w.heap.size]? = some o0∧((w.alloc o0).alloc o1).heap[w.heap.size+1]? = some o1:=by
 have s1:(w.alloc o0).heap.size=w.heap.size+1:=by simp
 refine ⟨(Below.heap_alloc _ _ _ (by omega)).trans (heap_alloc_new w o0), ?_⟩;rw [← s1];exact heap_alloc_new _ o1
end Go.Proofs.YtjpopekmbmcggaaGreatDoor
namespace Go.Proofs.YtjpopekmbmcggaaGreatDoor
abbrev St:=List UInt8×List UInt8
namespace St
def put (s:St) (x:List UInt8):St:=(s.1++x,s.2)
def line (s:St):St:=(s.1++([10]++s.2),[])
def len (s:St):Nat:=s.1.length+s.2.length
theorem put_len (s:St) (x:List UInt8):(s.put x).len=s.len+x.length:=by simp [put,len];omega
theorem line_len (s:St):s.line.len=s.len+1:=by simp [line,len];omega
end St
structure Tv (α:Type) where
 cm:α→St→St
 ls:α→St→St
 sh:α→List UInt8
def bW (b:Bool):List UInt8:=if b then [32] else []
def i7:List UInt8:=[32,38]
def i9:List UInt8:=[102,111,114,32]
def tIn:List UInt8:=[32,105,110]
def tDo:List UInt8:=[100,111]
def eF:List UInt8:=[100,111,110,101]
def i8:List UInt8:=[99,97,115,101,32]
def lV:List UInt8:=[101,115,97,99]
def eX:List UInt8:=[32,124,32]
def jP:List UInt8:=[32,38,38,32]
def tOr:List UInt8:=[32,124,124,32]
def kC:List UInt8:=[119,104,105,108,101]
def kB:List UInt8:=[117,110,116,105,108]
def dZ (i:Nat) (last:Bool):List UInt8:=
 if i=0 then [105,102] else if i % 2=1 then [116,104,101,110] else if last then [101,108,115,101] else [101,108,105,102]
section
variable {α:Type} (v:Tv α)
def showX:List α→List UInt8
 | []=>[]
 | n::l=>v.sh n++showX l
def wordX (x:WdF α):List UInt8:=(x.p.shw (x.cmds.map (showX v))).1
def rU (r:RdF α):List UInt8:=if r.op=12∨r.op=13 then r.here.toList++r.tz.p.utx.getD []++[10] else []
def cZ (r:RdF α) (s:St):St:=(s.1++(r.num.toList++Ope.txtI r.op++[32]++wordX v r.tz),s.2++rU r)
def bE:List (RdF α)→St→St
 | [],s=>s
 | r::l,s=>bE l (cZ v r (s.put [32]))
def eW:Bool→List (RdF α)→St→St
 | _,[],s=>s
 | b,r::l,s=>eW true l (cZ v r (s.put (bW b)))
def dV:Bool→List (WdF α)→St→St
 | _,[],s=>s
 | b,x::l,s=>dV true l (s.put (bW b++wordX v x))
def dG (n:NdF α) (s:St):St:=dV v (!n.redirs.isEmpty || !n.assigns.isEmpty) n.words (dV v (!n.redirs.isEmpty) n.assigns (eW v false n.redirs s))
def bH (sep:List UInt8):Bool→List (WdF α)→List UInt8
 | _,[]=>[]
 | b,x::l=>(if b then sep else [])++wordX v x++bH sep true l
def cJ:Bool→List α→St→St
 | _,[],s=>s
 | b,k::l,s=>cJ true l (v.cm k (s.put (if b then eX else [])))
def eY (n:NdF α) (s:St):St:=cJ v false n.kids (s.put (if n.not_ then [33,32] else []))
def gS:List α→List Int→St→St
 | k::ks,o::os,s=>gS ks os (v.cm k (s.put (if o=1 then jP else tOr)))
 | _,_,s=>s
def gZ (n:NdF α) (s:St):St:=
 match n.kids with
 | []=>s
 | k::ks=>gS v ks n.ops (v.cm k s)
def fX (o:Int) (last:Bool) (s:St):St:=if o=2 then s.put i7 else if last then s else s.put [59]
def bG:List α→List Int→St→St
 | k::ks,o::os,s=>bG ks os ((fX o ks.isEmpty (v.cm k s)).put (bW !ks.isEmpty))
 | _,_,s=>s
def qD (n:NdF α):List UInt8:=(bG v n.kids n.ops ([],[])).line.1
def fN:List α→List Int→St→St
 | k::ks,o::os,s=>fN ks os (fX o true (v.cm k s)).line
 | _,_,s=>s
def gV (n:NdF α) (s:St):St:=fN v n.kids n.ops s
def gM (i:Nat) (l:List α) (s:St):St:=
 match l[i]? with
 | some k=>v.ls k s
 | none=>s
def cO:List (WdF α)→St→St
 | [],s=>s
 | x::l,s=>cO l (s.put ([32]++wordX v x))
def fO (n:NdF α) (s:St):St:=
 (gM v 0 n.kids (((cO v n.words ((s.put (i9++n.name.toList)).put (if n.in_ then tIn else []))).line).put tDo).line).put eF
def eC:List (ArF α)→St→St
 | [],s=>s
 | a::l,s=>eC l ((v.ls a.body ((s.put ([40]++bH v eX false a.pats++[41])).line)).put [59,59]).line
def word0:List (WdF α)→List UInt8
 | []=>[]
 | x::_=>wordX v x
def dW (n:NdF α) (s:St):St:=(eC v n.arms ((s.put (i8++word0 v n.words++tIn)).line)).put lV
def cX:Nat→List α→St→St
 | _,[],s=>s
 | i,k::l,s=>cX (i+1) l (v.ls k ((s.put (dZ i l.isEmpty)).line))
def hJ (n:NdF α) (s:St):St:=(cX v 0 n.kids s).put [102,105]
def gR (head:List UInt8) (n:NdF α) (s:St):St:=(gM v 1 n.kids (((gM v 0 n.kids ((s.put head).line)).put tDo).line)).put eF
def fW (a z:List UInt8) (n:NdF α) (s:St):St:=(gM v 0 n.kids ((s.put a).line)).put z
def bY (n:NdF α) (s:St):St:=
 if n.k=5 then fW v [123] [125] n s else if n.k=6 then fW v [40] [41] n s else if n.k=7 then fO v n s else if n.k=8 then dW v n s
 else if n.k=9 then hJ v n s else if n.k=10 then gR v kC n s else if n.k=11 then gR v kB n s else s
def vE (i:Nat) (l:List α) (s:St):St:=
 match l[i]? with
 | some k=>v.cm k s
 | none=>s
def fM (n:NdF α) (s:St):St:=
 if n.k=2 then gZ v n s else if n.k=3 then eY v n s else if n.k=4 then dG v n s
 else if n.k=12 then vE v 0 n.kids ((s.put (n.name.toList++[40,41])).line)
 else bE v n.redirs (bY v n s)
end
def Nd.tv:(f:Nat)→Tv (Nd f)
 | 0=>⟨fun x=>Empty.elim x,fun x=>Empty.elim x,fun x=>Empty.elim x⟩
 | f+1=>⟨fM (Nd.tv f),gV (Nd.tv f),qD (Nd.tv f)⟩
structure Tv.Ok {α:Type} (v:Tv α) (W:α→Nat):Prop where
 cm:∀ x s,(v.cm x s).len+16≤s.len+64*W x
 ls:∀ x s,(v.ls x s).len+16≤s.len+64*W x
 sh:∀ x,(v.sh x).length+16≤64*W x
theorem jI {β:Type} (C:β→Nat):∀ (ks:List Int) (xs:List β),tot C (pick ks xs)≤tot C xs
 | [],xs=>by simp [pick,tot]
 | _::_,[]=>by simp [pick,tot]
 | k::ks,x::xs=>by
  have:=jI C ks xs;simp only [pick]
  split <;> simp only [tot] <;> omega
theorem nK (op:Int):(Ope.txtI op).length≤3:=by
 unfold Ope.txtI
 split
 ·simp
 ·unfold Ope.txt;rcases Nat.lt_or_ge op.toNat 18 with h | h
  ·have:∀ k,k<18→(Ope.texts.getD k []).length≤3:=by decide
   exact this _ h
  ·rw [List.getD_eq_getElem?_getD,List.getElem?_eq_none (by simpa [Ope.texts] using h)];simp
theorem nL (l:Pts):(l.utx.getD []).length≤l.wt:=by
 cases h:l.utx with
 | none=>simp
 | some s=>simpa using Pts.utx_len l s h
section
variable {α:Type} {v:Tv α} {W:α→Nat} (hv:v.Ok W)
include hv
theorem jM:∀ l:List α,(showX v l).length≤64*tot W l
 | []=>by simp [showX]
 | n::l=>by
  have:=jM l;have:=hv.sh n;simp only [showX,tot,gI];omega
theorem gY:∀ c:List (List α),Pts.total (c.map (showX v))≤64*tot (fun l=>1+tot W l) c
 | []=>by simp [Pts.total]
 | l::c=>by
  have:=gY c;have:=jM hv l;simp only [List.map_cons,Pts.total,tot];omega
theorem cD (x:WdF α):(wordX v x).length+32+x.p.wt≤64*wtW W x:=by
 have h1:=Pts.shw_len x.p (x.cmds.map (showX v));have h2:=gY hv x.cmds;have h3:tot (fun l=>1+tot W l) x.cmds≤tot (fun l=>1+tot W l) x.c:=jI _ _ _;unfold wordX wtW;omega
theorem eJ (r:RdF α) (s:St):(cZ v r s).len+16≤s.len+64*wtR W r:=by
 have h1:=cD hv r.tz;have h2:=nK r.op;have h3:=nL r.tz.p;have h4:=Pts.len_list r.num;have h5:=Pts.len_list r.here;have h6:(rU r).length≤r.here.size+r.tz.p.wt+1:=by
  unfold rU
  split
  ·simp only [gI,gG,gH];omega
  ·simp
 unfold cZ wtR St.len;simp only [gI,gG,gH];omega
theorem cS:∀ (l:List (RdF α)) (s:St),(bE v l s).len≤s.len+64*tot (wtR W) l
 | [],s=>by simp [bE,tot]
 | r::l,s=>by
  have h1:=cS l (cZ v r (s.put [32]));have h2:=eJ hv r (s.put [32]);have h3:=St.put_len s [32];simp only [bE,tot];simp only [gG,gH] at h3;omega
theorem rO:∀ (l:List (RdF α)) (b:Bool) (s:St),(eW v b l s).len≤s.len+64*tot (wtR W) l
 | [],b,s=>by simp [eW,tot]
 | r::l,b,s=>by
  have h1:=rO l true (cZ v r (s.put (bW b)));have h2:=eJ hv r (s.put (bW b));have h3:=St.put_len s (bW b);have h4:(bW b).length≤1:=by cases b <;> simp [bW]
  simp only [eW,tot];omega
theorem kR:∀ (l:List (WdF α)) (b:Bool) (s:St),(dV v b l s).len≤s.len+64*tot (wtW W) l
 | [],b,s=>by simp [dV,tot]
 | x::l,b,s=>by
  have h1:=kR l true (s.put (bW b++wordX v x));have h2:=cD hv x;have h3:=St.put_len s (bW b++wordX v x);have h4:(bW b).length≤1:=by cases b <;> simp [bW]
  simp only [dV,tot];rw [gI] at h3;omega
theorem fU (sep:List UInt8) (hs:sep.length≤8):∀ (l:List (WdF α)) (b:Bool),(bH v sep b l).length≤64*tot (wtW W) l
 | [],b=>by simp [bH,tot]
 | x::l,b=>by
  have h1:=fU sep hs l true;have h2:=cD hv x;have h4:(if b then sep else []).length≤8:=by cases b <;> simp [hs]
  simp only [bH,tot,gI];omega
theorem oR:∀ (l:List α) (b:Bool) (s:St),(cJ v b l s).len≤s.len+64*tot W l
 | [],b,s=>by simp [cJ,tot]
 | x::l,b,s=>by
  have h1:=oR l true (v.cm x (s.put (if b then eX else [])));have h2:=hv.cm x (s.put (if b then eX else []));have h3:=St.put_len s (if b then eX else []);have h4:(if b then eX else []).length≤8:=by cases b <;> simp [eX]
  simp only [cJ,tot];omega
theorem qG:∀ (l:List α) (os:List Int) (s:St),(gS v l os s).len≤s.len+64*tot W l
 | [],os,s=>by simp [gS,tot]
 | x::l,[],s=>by simp only [gS];omega
 | x::l,o::os,s=>by
  have h1:=qG l os (v.cm x (s.put (if o=1 then jP else tOr)));have h2:=hv.cm x (s.put (if o=1 then jP else tOr));have h3:=St.put_len s (if o=1 then jP else tOr);have h4:(if o=1 then jP else tOr).length≤8:=by split <;> simp [jP,tOr]
  simp only [gS,tot];omega
omit hv in
theorem qN (o:Int) (b:Bool) (s:St):(fX o b s).len≤s.len+2:=by
 unfold fX
 split
 ·rw [St.put_len];simp [i7]
 ·split
  ·omega
  ·rw [St.put_len];simp
theorem nN:∀ (l:List α) (os:List Int) (s:St),(bG v l os s).len≤s.len+64*tot W l
 | [],os,s=>by simp [bG,tot]
 | x::l,[],s=>by simp only [bG];omega
 | x::l,o::os,s=>by
  have h1:=nN l os ((fX o l.isEmpty (v.cm x s)).put (bW !l.isEmpty));have h2:=hv.cm x s;have h3:=St.put_len (fX o l.isEmpty (v.cm x s)) (bW !l.isEmpty);have h5:=qN o l.isEmpty (v.cm x s);have h4:(bW !l.isEmpty).length≤1:=by cases l.isEmpty <;> simp [bW]
  simp only [bG,tot];omega
theorem oK:∀ (l:List α) (os:List Int) (s:St),(fN v l os s).len≤s.len+64*tot W l
 | [],os,s=>by simp [fN,tot]
 | x::l,[],s=>by simp only [fN];omega
 | x::l,o::os,s=>by
  have h1:=oK l os (fX o true (v.cm x s)).line;have h2:=hv.cm x s;have h3:=St.line_len (fX o true (v.cm x s));have h5:=qN o true (v.cm x s);simp only [fN,tot];omega
theorem lI:∀ (l:List (WdF α)) (s:St),(cO v l s).len≤s.len+64*tot (wtW W) l
 | [],s=>by simp [cO,tot]
 | x::l,s=>by
  have h1:=lI l (s.put ([32]++wordX v x));have h2:=cD hv x;have h3:=St.put_len s ([32]++wordX v x);simp only [cO,tot];rw [gI,gG,gH] at h3;omega
theorem lB:∀ (l:List (ArF α)) (s:St),(eC v l s).len≤s.len+64*tot (wtA W) l
 | [],s=>by simp [eC,tot]
 | a::l,s=>by
  have h1:=lB l ((v.ls a.body ((s.put ([40]++bH v eX false a.pats++[41])).line)).put [59,59]).line;have h2:=fU hv eX (by simp [eX]) a.pats false;have h3:=hv.ls a.body ((s.put ([40]++bH v eX false a.pats++[41])).line);rw [St.line_len,St.put_len,gG,gG,gH] at h1;rw [St.line_len,St.put_len,gI,gI,gG,gH,gG,gH] at h3;simp only [eC,tot,wtA];omega
omit hv in
theorem vM (i:Nat) (b:Bool):(dZ i b).length≤4:=by
 unfold dZ
 repeat' split
 all_goals decide
theorem lD:∀ (l:List α) (i:Nat) (s:St),(cX v i l s).len≤s.len+64*tot W l
 | [],i,s=>by simp [cX,tot]
 | x::l,i,s=>by
  have h1:=lD l (i+1) (v.ls x ((s.put (dZ i l.isEmpty)).line));have h2:=hv.ls x ((s.put (dZ i l.isEmpty)).line);have h3:=vM i l.isEmpty;rw [St.line_len,St.put_len] at h2;simp only [cX,tot];omega
theorem yO (i:Nat) (l:List α) (s:St):∃ a,(gM v i l s).len≤s.len+64*a∧(∀ x,l[i]? = some x→a=W x)∧(l[i]? = none→a=0):=by
 unfold gM;cases h:l[i]? with
 | none=>exact ⟨0,by simp,by simp,by simp⟩
 | some k=>exact ⟨W k,by have:=hv.ls k s;simp only;omega,by simp,by simp⟩
omit hv in
theorem iP (l:List α) (i:Nat) (x:α) (h:l[i]? = some x):W x≤tot W l:=by
 induction l generalizing i with
 | nil=>simp at h
 | cons y l ih=>
  cases i with
  | zero=>simp at h;subst h;rw [tot];omega
  | succ i=>have:=ih i (by simpa using h);rw [tot];omega
theorem kK (i:Nat) (l:List α) (s:St):(gM v i l s).len≤s.len+64*tot W l:=by
 obtain ⟨a,h1,h2,h3⟩:=yO hv i l s;cases h:l[i]? with
 | none=>have:=h3 h;omega
 | some k=>have:=h2 k h;have:=iP (W:=W) l i k h;omega
theorem qZ (l:List α) (s t:St) (c:Nat) (ht:t.len≤(gM v 0 l s).len+c):(gM v 1 l t).len≤s.len+64*tot W l+c:=by
 match l with
 | []=>
  have h1:=kK hv 0 ([]:List α) s;have h2:=kK hv 1 ([]:List α) t;simp only [tot] at h1 h2 ⊢;omega
 | x::l=>
  have h1:(gM v 0 (x::l) s).len≤s.len+64*W x:=by have:=hv.ls x s;simp only [gM,List.getElem?_cons_zero];omega
  have h2:(gM v 1 (x::l) t).len≤t.len+64*tot W l:=by
   have:=kK hv 0 l t
   simpa [gM] using this
  rw [tot];omega
theorem xV (n:NdF α) (s:St):(fM v n s).len+16≤s.len+64*wtF W n:=by
 obtain ⟨k,name,no,i,ops,asg,wds,rds,ars,kds⟩:=n;have hn:=Pts.len_list name;have hr:=fun s=>cS hv rds s;have hl0:=fun i s=>kK hv i kds s;unfold wtF fM;simp only;by_cases h2:k=2
 ·rw [if_pos h2];unfold gZ;simp only;cases kds with
  | nil=>simp only;omega
  | cons x l=>
   have h3:=qG hv l ops (v.cm x s);have h4:=hv.cm x s;simp only [tot];omega
 rw [if_neg h2];by_cases h3:k=3
 ·rw [if_pos h3];have h4:=oR hv kds false (s.put (if no then [33,32] else []));rw [St.put_len] at h4;have h5:(if no then ([33,32]:List UInt8) else []).length≤2:=by cases no <;> simp
  simp only [eY];omega
 rw [if_neg h3];by_cases h4:k=4
 ·rw [if_pos h4];have a1:=rO hv rds false s;have a2:=kR hv asg (!rds.isEmpty) (eW v false rds s);have a3:=kR hv wds (!rds.isEmpty || !asg.isEmpty) (dV v (!rds.isEmpty) asg (eW v false rds s));simp only [dG];omega
 rw [if_neg h4];by_cases h12:k=12
 ·rw [if_pos h12];have h5:=St.line_len (s.put (name.toList++[40,41]));rw [St.put_len,gI,gG,gG,gH] at h5;unfold vE;cases hk:kds[0]? with
  | none=>simp only;omega
  | some x=>
   have:=iP (W:=W) kds 0 x hk;have:=hv.cm x (s.put (name.toList++[40,41])).line;simp only;omega
 rw [if_neg h12];have hc:(bY v ⟨k,name,no,i,ops,asg,wds,rds,ars,kds⟩ s).len≤s.len+48+name.size+64*tot (wtW W) wds+64*tot (wtA W) ars+64*tot W kds:=by
  unfold bY;simp only;have hb:∀ a z:List UInt8,a.length≤8→z.length≤8→(fW v a z ⟨k,name,no,i,ops,asg,wds,rds,ars,kds⟩ s).len≤s.len+17+64*tot W kds:=fun a z ha hz=>by
   have h1:=hl0 0 (s.put a).line;rw [St.line_len,St.put_len] at h1;unfold fW;rw [St.put_len];simp only;omega
  have hw:∀ a:List UInt8,a.length≤8→(gR v a ⟨k,name,no,i,ops,asg,wds,rds,ars,kds⟩ s).len≤s.len+20+64*tot W kds:=fun a ha=>by
   have h1:=qZ hv kds (s.put a).line (((gM v 0 kds ((s.put a).line)).put tDo).line) 3 (by rw [St.line_len,St.put_len];simp [tDo]);rw [St.line_len,St.put_len] at h1;unfold gR;rw [St.put_len];simp only [eF,gG,gH];omega
  repeat' split
  ·have:=hb [123] [125] (by simp) (by simp);omega
  ·have:=hb [40] [41] (by simp) (by simp);omega
  ·have h1:=lI hv wds ((s.put (i9++name.toList)).put (if i then tIn else []));have h2:=hl0 0 (((cO v wds ((s.put (i9++name.toList)).put (if i then tIn else []))).line).put tDo).line;have h3:(if i then tIn else []).length≤3:=by cases i <;> simp [tIn]
   rw [St.put_len,St.put_len,gI] at h1;rw [St.line_len,St.put_len,St.line_len] at h2;unfold fO;rw [St.put_len];simp only [i9,tDo,eF,gG,gH] at *;omega
  ·have h1:=lB hv ars (s.put (i8++word0 v wds++tIn)).line;have h2:(word0 v wds).length≤64*tot (wtW W) wds:=by
    cases wds with
    | nil=>simp [word0]
    | cons x l=>have:=cD hv x;simp only [word0,tot];omega
   rw [St.line_len,St.put_len,gI,gI] at h1;unfold dW;rw [St.put_len];simp only [i8,tIn,lV,gG,gH] at *;omega
  ·have h1:=lD hv kds 0 s;unfold hJ;rw [St.put_len];simp only [gG,gH];omega
  ·have:=hw kC (by simp [kC]);omega
  ·have:=hw kB (by simp [kB]);omega
  ·omega
 have hr2:=hr (bY v ⟨k,name,no,i,ops,asg,wds,rds,ars,kds⟩ s);have hwt:tot (wtR W) rds≤tot (wtR W) rds:=Nat.le_refl _;omega
theorem vR (n:NdF α) (s:St):(gV v n s).len+16≤s.len+64*wtF W n:=by
 have:=oK hv n.kids n.ops s;unfold gV wtF;omega
theorem tJ (n:NdF α):(qD v n).length+16≤64*wtF W n:=by
 have h1:=nN hv n.kids n.ops ([],[]);have h2:=St.line_len (bG v n.kids n.ops ([],[]));have h3:(qD v n).length≤(bG v n.kids n.ops ([],[])).line.len:=by unfold qD St.len;omega
 have h4:St.len (([],[]):St)=0:=rfl;unfold wtF;omega
end
theorem Nd.tv_ok:∀ f:Nat,(Nd.tv f).Ok (Nd.wt f)
 | 0=>⟨fun x=>Empty.elim x,fun x=>Empty.elim x,fun x=>Empty.elim x⟩
 | f+1=>⟨xV (Nd.tv_ok f),vR (Nd.tv_ok f),tJ (Nd.tv_ok f)⟩
end Go.Proofs.YtjpopekmbmcggaaGreatDoor
namespace Go.Proofs.YtjpopekmbmcggaaGreatDoor
theorem Pts.right_shw (l:Pts) (h:l.right=true) (cs:List (List UInt8)):(l.shw cs).1≠[]:=by
 cases l with
 | nil=>simp [Pts.right,Pts.len] at h
 | cons k t o kids cm rest=>
  unfold Pts.right at h;rw [Pts.allP] at h;simp only [Bool.and_eq_true] at h;have h1:=h.1.2.1.1;rw [Pts.shw];simp only;intro e;rw [List.append_eq_nil_iff] at e;have e1:=e.1;clear e;by_cases k1:k=1
  ·subst k1;have:=(cY h1).1;rw [if_pos rfl] at e1;exact this e1
  by_cases k2:k=2
  ·rw [if_neg k1,if_pos k2] at e1;simp at e1
  by_cases k3:k=3
  ·rw [if_neg k1,if_neg k2,if_pos k3] at e1;simp at e1
  by_cases k4:k=4
  ·rw [if_neg k1,if_neg k2,if_neg k3,if_pos k4] at e1;simp at e1
  by_cases k5:k=5
  ·rw [if_neg k1,if_neg k2,if_neg k3,if_neg k4,if_pos k5] at e1;simp at e1
  by_cases k6:k=6
  ·rw [if_neg k1,if_neg k2,if_neg k3,if_neg k4,if_neg k5,if_pos k6] at e1;cases cs <;> simp [Pts.cmdText] at e1
  by_cases k7:k=7
  ·rw [if_neg k1,if_neg k2,if_neg k3,if_neg k4,if_neg k5,if_neg k6,if_pos k7] at e1;simp at e1
  ·unfold cR at h1;have b:∀ n:Int,k≠n→(k==n)=false:=fun n hn=>by simpa using hn
   rw [b 1 k1,b 2 k2,b 3 k3,b 4 k4,b 5 k5,b 6 k6,b 7 k7] at h1;simp at h1
def DK (l:List UInt8):Prop:=l=[]∨l.getLast? = some 10
structure Nice (F:St→St):Prop where
 lin:∃ c,∀ s,(F s).len=s.len+c
 ends:∀ s,DK s.2→DK (F s).2
theorem Nice.id:Nice (fun s=>s):=⟨⟨0,fun _=>rfl⟩,fun _ h=>h⟩
theorem Nice.put (x:List UInt8):Nice (fun s=>s.put x):=⟨⟨x.length,fun s=>St.put_len s x⟩,fun _ h=>h⟩
theorem Nice.line:Nice St.line:=⟨⟨1,St.line_len⟩,fun _ _=>.inl rfl⟩
structure Tv.Nice {α:Type} (v:Tv α):Prop where
 cm:∀ x,YtjpopekmbmcggaaGreatDoor.Nice (v.cm x)
 ls:∀ x,YtjpopekmbmcggaaGreatDoor.Nice (v.ls x)
section
variable {α:Type} {v:Tv α}
variable (hv:v.Nice)
include hv
end
end Go.Proofs.YtjpopekmbmcggaaGreatDoor
namespace Go.Proofs.YtjpopekmbmcggaaGreatDoor
structure Tf (α:Type) where
 cm:α→Prop
 ls:α→Prop
section
variable {α:Type} (v:Tf α)
def eA (x:WdF α):Prop:=x.p.right=true∧∀ l∈x.cmds,∀ n∈l,v.ls n
def lsF (n:NdF α):Prop:=n.kids.length≤n.ops.length∧∀ k∈n.kids,v.cm k
structure cmF (n:NdF α):Prop where
 rds:∀ r∈n.redirs,eA v r.tz
 asg:∀ x∈n.assigns,eA v x
 wds:∀ x∈n.words,eA v x
 two:n.k=2→0<n.kids.length∧n.kids.length≤n.ops.length+1
 cms:n.k=2∨n.k=3∨n.k=12→∀ k∈n.kids,v.cm k
 fn:n.k=12→0<n.kids.length
 lss:n.k=5∨n.k=6∨n.k=7∨n.k=9∨n.k=10∨n.k=11→0<n.kids.length∧∀ k∈n.kids,v.ls k
 wh:n.k=10∨n.k=11→n.kids.length=2
 cs:n.k=8→0<n.words.length
 ars:n.k=8→∀ a∈n.arms,(∀ x∈a.pats,eA v x)∧v.ls a.body
 nt:n.k=2→n.not_=false
end
def Nd.ft:(f:Nat)→Tf (Nd f)
 | 0=>⟨fun x=>Empty.elim x,fun x=>Empty.elim x⟩
 | f+1=>⟨cmF (Nd.ft f),lsF (Nd.ft f)⟩
structure Tf.Of {α:Type} (t:Tf α) (v:Vw α):Prop where
 cm:∀ x,v.rt x=true→t.cm x
 ls:∀ x,v.kd x=1→(v.rt x=true∨v.on x=true)→t.ls x
section
variable {α:Type} {t:Tf α} {v:Vw α} (h:t.Of v)
include h
theorem oE (x:α) (hx:v.R x=true):t.ls x:=by
 unfold Vw.R at hx;rw [Bool.and_eq_true,beq_iff_eq] at hx;exact h.ls x hx.1 (.inl hx.2)
theorem hU (x:WdF α) (hx:aO v x=true):eA t x:=by
 unfold aO at hx;rw [Bool.and_eq_true,List.all_eq_true] at hx;refine ⟨hx.1,fun l hl n hn=>oE h n ?_⟩;have:=hx.2 l hl;rw [List.all_eq_true] at this;exact this n hn
theorem dS (hs:Has) (n:NdF α) (hn:aV v hs n=true):(∀ r∈n.redirs,eA t r.tz)∧(∀ x∈n.assigns,eA t x)∧(∀ x∈n.words,eA t x)∧(hs.ks=false→n.kids=[])∧(hs.ar=false→n.arms=[]):=by
 unfold aV mI at hn;simp only [Bool.and_eq_true,Bool.or_eq_true,List.all_eq_true,List.isEmpty_iff] at hn;obtain ⟨⟨⟨⟨⟨⟨⟨⟨⟨_,_⟩,_⟩,_⟩,_⟩,h6⟩,h7⟩,_⟩,_⟩,⟨hr,hw⟩,ha⟩:=hn;refine ⟨fun r hr'=>?_,fun x hx=>hU h x (ha x hx),fun x hx=>hU h x (hw x hx),fun e=>?_,fun e=>?_⟩
 ·have:=hr r hr';unfold aX at this;simp only [Bool.and_eq_true] at this;exact hU h r.tz this.1.2
 ·rcases h7 with h7 | h7
  ·rw [e] at h7;cases h7
  ·exact h7
 ·rcases h6 with h6 | h6
  ·rw [e] at h6;cases h6
  ·exact h6
theorem jD (least:Nat) (n:NdF α) (hl:cL v least n=true):least≤n.kids.length∧∀ k∈n.kids,t.ls k:=by
 unfold cL at hl;simp only [Bool.and_eq_true,decide_eq_true_eq,List.all_eq_true] at hl;exact ⟨hl.1,fun k hk=>oE h k (hl.2 k hk)⟩
theorem mU (least:Nat) (a:Int) (n:NdF α) (hl:cB v least a n=true):least≤n.kids.length∧∀ k∈n.kids,t.cm k:=by
 unfold cB at hl;simp only [Bool.and_eq_true,decide_eq_true_eq,List.all_eq_true] at hl;exact ⟨hl.1,fun k hk=>h.cm k (hl.2 k hk).2⟩
omit h in
theorem tU (m:Nat) (n:NdF α) (hl:gN m n=true):n.ops.length=m:=by
 unfold gN at hl;simp only [Bool.and_eq_true,beq_iff_eq] at hl;exact hl.1
theorem BA (a:ArF α) (ha:iV v a=true):(∀ x∈a.pats,eA t x)∧t.ls a.body:=by
 unfold iV at ha;simp only [Bool.and_eq_true,Bool.or_eq_true,List.all_eq_true,beq_iff_eq] at ha;refine ⟨fun x hx=>hU h x (ha.1.2 x hx), ?_⟩;rcases ha.2 with hb | ⟨h1,h2⟩
 ·exact oE h a.body hb
 ·exact h.ls a.body h1 (.inr h2)
theorem yD (n:NdF α) (hk:n.k=1) (hr:aQ v n=true):lsF t n:=by
 unfold aQ at hr;rw [if_pos hk] at hr;simp only [Bool.and_eq_true] at hr;exact ⟨by rw [tU _ n hr.2.2];omega,(mU h _ _ n hr.2.1).2⟩
theorem yE (n:NdF α) (ho:aV v oN n=true):lsF t n:=by
 have:=(dS h oN n ho).2.2.2.1 rfl;unfold lsF;rw [this];exact ⟨Nat.zero_le _,fun k hk=>by cases hk⟩
omit h in
theorem BC (n:NdF α) (k2:n.k=2) (hr:aQ v n=true):n.not_=false:=by
 unfold aQ at hr;rw [if_neg (by omega),if_pos k2] at hr;unfold aV mI at hr;simp only [Bool.and_eq_true,Bool.or_eq_true,beq_iff_eq,Bool.not_eq_true'] at hr;rcases hr.1.1.1.2 with h1 | h1
 ·exact h1
 ·omega
theorem BB (n:NdF α) (hr:aQ v n=true):cmF t n:=by
 have hnt:n.k=2→n.not_=false:=fun e=>BC n e hr;unfold aQ at hr;have nk:∀ {i j:Int},n.k=i→¬i=j→¬n.k=j:=fun h1 h2 h3=>h2 (h1.symm.trans h3);by_cases k1:n.k=1
 ·rw [if_pos k1] at hr;simp only [Bool.and_eq_true] at hr;obtain ⟨h1,h2,h3,_,_⟩:=dS h _ n hr.1;exact ⟨h1,h2,h3,fun e=>by omega,fun e=>by omega,fun e=>by omega,fun e=>by omega,fun e=>by omega,fun e=>by omega,fun e=>by omega,fun e=>hnt e⟩
 rw [if_neg k1] at hr;by_cases k2:n.k=2
 ·rw [if_pos k2] at hr;simp only [Bool.and_eq_true] at hr;obtain ⟨h1,h2,h3,_,_⟩:=dS h _ n hr.1;obtain ⟨a1,a2⟩:=mU h _ _ n hr.2.1;have:=tU _ n hr.2.2;exact ⟨h1,h2,h3,fun e=>by omega,fun _=>a2,fun e=>by omega,fun e=>by omega,fun e=>by omega,fun e=>by omega,fun e=>by omega,fun e=>hnt e⟩
 rw [if_neg k2] at hr;by_cases k3:n.k=3
 ·rw [if_pos k3] at hr;simp only [Bool.and_eq_true] at hr;obtain ⟨h1,h2,h3,_,_⟩:=dS h _ n hr.1;obtain ⟨a1,a2⟩:=mU h _ _ n hr.2.1;exact ⟨h1,h2,h3,fun e=>by omega,fun _=>a2,fun e=>by omega,fun e=>by omega,fun e=>by omega,fun e=>by omega,fun e=>by omega,fun e=>hnt e⟩
 rw [if_neg k3] at hr;by_cases k4:n.k=4
 ·rw [if_pos k4] at hr;simp only [Bool.and_eq_true] at hr;obtain ⟨h1,h2,h3,_,_⟩:=dS h _ n hr.1;exact ⟨h1,h2,h3,fun e=>by omega,fun e=>by omega,fun e=>by omega,fun e=>by omega,fun e=>by omega,fun e=>by omega,fun e=>by omega,fun e=>hnt e⟩
 rw [if_neg k4] at hr;by_cases k5:n.k=5∨n.k=6
 ·rw [if_pos k5] at hr;simp only [Bool.and_eq_true] at hr;obtain ⟨h1,h2,h3,_,_⟩:=dS h _ n hr.1;obtain ⟨a1,a2⟩:=jD h _ n hr.2.2;exact ⟨h1,h2,h3,fun e=>by omega,fun e=>by omega,fun e=>by omega,fun _=>⟨by omega,a2⟩,fun e=>by omega,fun e=>by omega,fun e=>by omega,fun e=>hnt e⟩
 rw [if_neg k5] at hr;by_cases k7:n.k=7
 ·rw [if_pos k7] at hr;simp only [Bool.and_eq_true] at hr;obtain ⟨h1,h2,h3,_,_⟩:=dS h _ n hr.1;obtain ⟨a1,a2⟩:=jD h _ n hr.2.2.2;exact ⟨h1,h2,h3,fun e=>by omega,fun e=>by omega,fun e=>by omega,fun _=>⟨by omega,a2⟩,fun e=>by omega,fun e=>by omega,fun e=>by omega,fun e=>hnt e⟩
 rw [if_neg k7] at hr;by_cases k8:n.k=8
 ·rw [if_pos k8] at hr;simp only [Bool.and_eq_true,beq_iff_eq,List.all_eq_true] at hr;obtain ⟨h1,h2,h3,_,_⟩:=dS h _ n hr.1;exact ⟨h1,h2,h3,fun e=>by omega,fun e=>by omega,fun e=>by omega,fun e=>by omega,fun e=>by omega,fun _=>by omega,fun _ a ha=>BA h a (hr.2.2 a ha),fun e=>hnt e⟩
 rw [if_neg k8] at hr;by_cases k9:n.k=9
 ·rw [if_pos k9] at hr;simp only [Bool.and_eq_true] at hr;obtain ⟨h1,h2,h3,_,_⟩:=dS h _ n hr.1;obtain ⟨a1,a2⟩:=jD h _ n hr.2;exact ⟨h1,h2,h3,fun e=>by omega,fun e=>by omega,fun e=>by omega,fun _=>⟨by omega,a2⟩,fun e=>by omega,fun e=>by omega,fun e=>by omega,fun e=>hnt e⟩
 rw [if_neg k9] at hr;by_cases k10:n.k=10∨n.k=11
 ·rw [if_pos k10] at hr;simp only [Bool.and_eq_true,beq_iff_eq] at hr;obtain ⟨h1,h2,h3,_,_⟩:=dS h _ n hr.1;obtain ⟨a1,a2⟩:=jD h _ n hr.2.1;exact ⟨h1,h2,h3,fun e=>by omega,fun e=>by omega,fun e=>by omega,fun _=>⟨by omega,a2⟩,fun _=>hr.2.2,fun e=>by omega,fun e=>by omega,fun e=>hnt e⟩
 rw [if_neg k10] at hr;by_cases k12:n.k=12
 ·rw [if_pos k12] at hr;simp only [Bool.and_eq_true] at hr;obtain ⟨h1,h2,h3,_,_⟩:=dS h _ n hr.1;have hf:=hr.2;unfold jT at hf;simp only [Bool.and_eq_true] at hf;have hk:=hf.2;cases hks:n.kids with
  | nil=>rw [hks] at hk;cases hk
  | cons x l=>
   cases l with
   | cons y l=>rw [hks] at hk;cases hk
   | nil=>
    rw [hks] at hk;simp only [Bool.and_eq_true] at hk;exact ⟨h1,h2,h3,fun e=>by omega,fun _ k hk2=>by rw [hks,List.mem_singleton] at hk2;subst hk2;exact h.cm k hk.2,fun _=>by rw [hks];simp,fun e=>by omega,fun e=>by omega,fun e=>by omega,fun e=>by omega,fun e=>hnt e⟩
 ·rw [if_neg k12] at hr;cases hr
end
theorem Nd.ft_of:∀ f:Nat,(Nd.ft f).Of (Nd.vw f)
 | 0=>⟨fun x=>Empty.elim x,fun x=>Empty.elim x⟩
 | f+1=>⟨fun x hx=>BB (Nd.ft_of f) x hx,fun x hk hx=>by
   rcases hx with hx | hx
   ·exact yD (Nd.ft_of f) x hk hx
   ·exact yE (Nd.ft_of f) x hx⟩
theorem wV {α:Type} {t:Tf α} {v:Tv α} {x:WdF α} (h:eA t x):wordX v x≠[]:=Pts.right_shw x.p h.1 _
end Go.Proofs.YtjpopekmbmcggaaGreatDoor
namespace Go.Proofs.YtjpopekmbmcggaaGreatDoor
open Go.RowKit
def iR {β:Type} (sz:Nat) (R:List Value→β→Prop):List (List Value)→List β→Prop:=fL fun vs x=>vs.length=sz∧R vs x
section
variable {β:Type} {sz:Nat} {R:List Value→β→Prop}
theorem iR.len:∀ {us:List (List Value)} {xs:List β},iR sz R us xs→us.flatten.length=xs.length*sz
 | [],[],_=>by simp
 | [],_::_,h=>h.elim
 | _::_,[],h=>h.elim
 | vs::us,x::xs,h=>by
  have:=iR.len (us:=us) (xs:=xs) h.2;rw [List.flatten_cons,gI,this,h.1.1,gG,Nat.add_mul];omega
theorem iR.app:∀ {us:List (List Value)} {xs:List β} {ts:List (List Value)} {ys:List β},iR sz R us xs→iR sz R ts ys→iR sz R (us++ts) (xs++ys)
 | [],[],_,_,_,k=>k
 | [],_::_,_,_,h,_=>h.elim
 | _::_,[],_,_,h,_=>h.elim
 | _::_,_::_,_,_,h,k=>⟨h.1,iR.app h.2 k⟩
theorem iR.get:∀ {us:List (List Value)} {xs:List β},iR sz R us xs→∀ i (h:i<xs.length),∃ vs,vs.length=sz∧R vs xs[i]∧∀ j u,vs[j]? = some u→us.flatten[i*sz+j]? = some u
 | [],[],_,i,h=>absurd h (Nat.not_lt_zero i)
 | [],_::_,h,_,_=>h.elim
 | _::_,[],h,_,_=>h.elim
 | vs::us,x::xs,h,0,_=>⟨vs,h.1.1,h.1.2,fun j u hj=>by
   have hl:=(List.getElem?_eq_some_iff.1 hj).1;rw [Nat.zero_mul,Nat.zero_add,List.flatten_cons,List.getElem?_append_left hl];exact hj⟩
 | vs::us,x::xs,h,i+1,hi=>by
  obtain ⟨ts,h1,h2,h3⟩:=iR.get h.2 i (by simpa using hi);refine ⟨ts,h1,by simpa using h2,fun j u hj=>?_⟩;have e:=h.1.1;rw [List.flatten_cons,List.getElem?_append_right (by rw [Nat.add_mul];omega),show (i+1)*sz+j-vs.length=i*sz+j by rw [Nat.add_mul];omega];exact h3 j u hj
theorem iR.all {P:Value→Prop} (hP:∀ vs x,R vs x→∀ u∈vs,P u):∀ {us:List (List Value)} {xs:List β},iR sz R us xs→∀ u∈us.flatten,P u
 | [],[],_,u,hu=>by simp at hu
 | [],_::_,h,_,_=>h.elim
 | _::_,[],h,_,_=>h.elim
 | vs::us,x::xs,h,u,hu=>by
  rw [List.flatten_cons,List.mem_append] at hu;rcases hu with hu | hu
  ·exact hP _ _ h.1.2 u hu
  ·exact iR.all hP h.2 u hu
theorem tV {w:World} {b:Nat}:∀ (xs:List β) (off:Nat),(∀ i (h:i<xs.length),∃ vs:List Value,vs.length=sz∧R vs xs[i]∧∀ j u,vs[j]? = some u→w.cell? ⟨b,off+i*sz+j,none⟩=some u)→
  ∃ us,iR sz R us xs∧∀ j u,us.flatten[j]? = some u→w.cell? ⟨b,off+j,none⟩=some u
 | [],off,_=>⟨[],trivial,fun j u h=>by simp at h⟩
 | x::xs,off,h=>by
  obtain ⟨vs,h1,h2,h3⟩:=h 0 (by simp);obtain ⟨us,k1,k2⟩:=tV xs (off+sz) fun i hi=>by
   obtain ⟨ts,t1,t2,t3⟩:=h (i+1) (by simpa using hi);refine ⟨ts,t1,by simpa using t2,fun j u hj=>?_⟩;rw [show off+sz+i*sz+j=off+(i+1)*sz+j by rw [Nat.add_mul];omega];exact t3 j u hj
  refine ⟨vs::us,⟨⟨h1,by simpa using h2⟩,k1⟩,fun j u hj=>?_⟩;rw [List.flatten_cons] at hj;by_cases hl:j<vs.length
  ·rw [List.getElem?_append_left hl] at hj;have:=h3 j u hj;rw [Nat.zero_mul,Nat.add_zero] at this;exact this
  ·rw [List.getElem?_append_right (by omega)] at hj;have:=k2 _ u hj;rw [show off+sz+(j-vs.length)=off+j by omega] at this;exact this
theorem aW.flat {G:Nat→Prop} {w:World} {v:Value} {xs:List β} (h:aW G w sz R v xs):
  ∃ us,iR sz R us xs∧∃ A c,v=.slice A xs.length c∧xs.length≤c∧c≤maxLen∧(0<xs.length→∃ b off,A=some ⟨b,off,none⟩∧G b∧∀ j u,us.flatten[j]? = some u→w.cell? ⟨b,off+j,none⟩=some u):=by
 obtain ⟨A,c,h1,h2,h3,h4⟩:=h;by_cases hn:0<xs.length
 ·obtain ⟨b,off,h5,h6,h7⟩:=h4 hn;obtain ⟨us,k1,k2⟩:=tV xs off h7;exact ⟨us,k1,A,c,h1,h2,h3,fun _=>⟨b,off,h5,h6,k2⟩⟩
 ·obtain rfl:xs=[]:=List.eq_nil_of_length_eq_zero (by omega);exact ⟨[],trivial,A,c,h1,h2,h3,fun h=>absurd h hn⟩
end
def g6 {β:Type} (B:Nat) (T:TypeId) (sz:Nat) (R:List Value→β→Prop) (w:World) (v:Value) (xs:List β):Prop:=∃ us,iR sz R us xs∧w.ownsRow B T sz v xs.length us.flatten
section
variable {β:Type} {B:Nat} {T:TypeId} {sz:Nat} {R:List Value→β→Prop} {w w':World} {v:Value} {xs ys:List β}
theorem g6.look (h:g6 B T sz R w v xs) {G:Nat→Prop} (hG:∀ g,v.ownBlock=some g→G g):aW G w sz R v xs:=by
 obtain ⟨us,hf,_,ho⟩:=h;rcases ho with ⟨rfl,hn⟩ | ⟨g,cap,cur,rfl,hB,hh,hc,hm,hcs,htake⟩
 ·exact ⟨none,0,by rw [hn],by omega,Nat.zero_le _,fun h=>by omega⟩
 ·refine ⟨some ⟨g,0,none⟩,cap,rfl,hc,hm,fun _=>⟨g,0,rfl,hG g rfl,fun i hi=>?_⟩⟩;obtain ⟨vs,h1,h2,h3⟩:=hf.get i hi;refine ⟨vs,h1,h2,fun j u hj=>?_⟩;have h4:=h3 j u hj;rw [← htake] at h4;have h5:i*sz+j<xs.length*sz:=by
   have:=(List.getElem?_eq_some_iff.1 h4).1;rw [List.length_take] at this;omega
  rw [List.getElem?_take_of_lt h5] at h4;rw [Nat.zero_add];simp only [World.cell?,hh]
  simpa using h4
theorem g6.shape (h:g6 B T sz R w v xs):∃ A c,v=.slice A xs.length c∧xs.length≤c∧c≤maxLen:=(h.look (G:=fun _=>True) fun _ _=>trivial).shape
theorem g6.lt (h:g6 B T sz R w v xs) {g:Nat} (hg:v.ownBlock=some g):B≤g∧g<w.heap.size:=by
 obtain ⟨us,hf,_,ho⟩:=h;rcases ho with ⟨rfl,_⟩ | ⟨g',cap,cur,rfl,hB,hh,_⟩
 ·simp [Value.ownBlock] at hg
 ·simp [Value.ownBlock] at hg;subst hg;exact ⟨hB,(Array.getElem?_eq_some_iff.1 hh).1⟩
theorem g6.keep (h:g6 B T sz R w v xs) (hv:∀ g,v.ownBlock=some g→w'.heap[g]? = w.heap[g]?):g6 B T sz R w' v xs:=by
 obtain ⟨us,hf,hl,ho⟩:=h;refine ⟨us,hf,hl, ?_⟩;rcases ho with h0 | ⟨g,cap,cur,rfl,hB,hh,hrest⟩
 ·exact .inl h0
 ·exact .inr ⟨g,cap,cur,rfl,hB,(hv g rfl).trans hh,hrest⟩
theorem g6.below (h:g6 B T sz R w v xs) (hb:Below w.heap.size w w'):g6 B T sz R w' v xs:=h.keep fun _ hg=>hb.block _ (h.lt hg).2
theorem g6.fresh (w:World) (hB:B≤w.heap.size) (Rr:List Value→β→Prop):g6 B T sz Rr (w.alloc (.cells #[] T)) (.slice (some ⟨w.heap.size,0,none⟩) 0 0) []:=
 ⟨[],trivial,by simp,.inr ⟨w.heap.size,0,#[],rfl,hB,aN w _,Nat.le_refl _,Nat.zero_le _,by simp,by simp⟩⟩
theorem g6.started {g:Nat} (hB:B≤g) (hh:w.heap[g]? = some (.cells #[] T (0,0))) (Rr:List Value→β→Prop):g6 B T sz Rr w (.slice (some ⟨g,0,none⟩) 0 0) []:=
 ⟨[],trivial,by simp,.inr ⟨g,0,#[],rfl,hB,hh,Nat.le_refl _,Nat.zero_le _,by simp,by simp⟩⟩
theorem g6.append (t:TypeId) {z:Value} {bytes:Nat} (hu:Tryz.prog.underlying t=some (.slice T)) (hi:(Tryz.prog.info? T).map (fun i=>(i.zero,i.size,i.bytes))=some (some z,sz,bytes)) (hzs:z.cells.size=sz) (hsz:0<sz)
  (hone:∀ vs x,R vs x→∀ u∈vs,u.oneCell'=true) (ty:TypeId) {G:Nat→Prop} {v2:Value} (h:g6 B T sz R w v xs) (hx:aW G w sz R v2 ys) (hlen:(xs.length+ys.length)*bytes≤140737488355328) (hmx:xs.length+ys.length≤maxLen) (hB:B≤w.heap.size):
  ∃ v' w',WrA Tryz.prog #[t,t] ty #[v,v2] w=.ok v' w'∧g6 B T sz R w' v' (xs++ys)∧w.grownBy w' v.ownBlock∧(v'.ownBlock=v.ownBlock∨v'.ownBlock=some w.heap.size):=by
 obtain ⟨i0,hi0,hz0,hz1,hz2⟩:=info_parts hi;obtain ⟨ts,hf2,A,c,rfl,hc,hm,hcell⟩:=hx.flat;by_cases hz:ys.length=0
 ·obtain rfl:ys=[]:=List.eq_nil_of_length_eq_zero hz;obtain ⟨A1,c1,rfl,hl1,hm1⟩:=h.shape;refine ⟨_,w,WrA.of (run_append_nothing w _ _ _ _ i0 hu hi0 A1 xs.length c1 hl1 _ ?_),by rw [List.append_nil];exact h,⟨rfl,rfl,rfl,Nat.le_refl _,fun _ _ _=>rfl⟩,.inl rfl⟩;cases A with
  | none=>exact Src.ofNil w hu c
  | some a=>exact Src.ofSlice w hu a 0 c [] (by simp) (fun j u hj=>by simp at hj) (fun u hu=>by cases hu)
 ·obtain ⟨b,off,rfl,_,hcl⟩:=hcell (by omega);obtain ⟨us,hf,hown⟩:=h;obtain ⟨v',w',hrun,hown',hgr,hnil,hat⟩:=run_append_own_at (P:=Tryz.prog) (w:=w) B t ty _ i0 _ sz bytes hu hi0 hz0 hz1 hz2 hzs hsz v xs.length us.flatten hown ⟨b,off,none⟩ ys.length c ts.flatten hf2.len
   (fun j u hj=>by rw [show (⟨b,off,none⟩:Addr).add j=⟨b,off+j,none⟩ by unfold Addr.add;split <;> simp_all];exact hcl j u hj) (iR.all hone hf2) hmx hlen hB
  refine ⟨v',w',WrA.of hrun,⟨us++ts,hf.app hf2, ?_⟩,hgr,hat⟩;rw [gI,List.flatten_append];exact hown'
end
theorem NdV.one {f:Nat} {G:Nat→Prop} {w:World}:∀ (vs:List Value) (x:Nd f),NdV f G w vs x→∀ u∈vs,u.oneCell'=true:=by
 intro vs x h u hu;obtain ⟨ky,s,nt,ni,A4,n4,c4,A5,n5,c5,A6,n6,c6,A7,n7,c7,A8,n8,c8,A9,n9,c9,rfl⟩:=h.shape;simp only [List.mem_cons,List.not_mem_nil,or_false] at hu;rcases hu with rfl | rfl | rfl | rfl | rfl | rfl | rfl | rfl | rfl | rfl <;> rfl
theorem oY.one:∀ (vs:List Value) (x:Int),oY vs x→∀ u∈vs,u.oneCell'=true:=by
 rintro vs x rfl u hu;simp only [List.mem_cons,List.not_mem_nil,or_false] at hu;subst hu;rfl
end Go.Proofs.YtjpopekmbmcggaaGreatDoor
