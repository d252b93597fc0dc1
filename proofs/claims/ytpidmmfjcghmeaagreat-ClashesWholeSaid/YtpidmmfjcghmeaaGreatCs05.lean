/- Towards clashesWhole_upto. -/
import GoSem.Step
import Derived.Orders
import Derived.Below
import Derived.Tactics
import Derived.Test.YtpidmmfjcghmeaaGreatCs01
set_option maxRecDepth 100000
set_option maxHeartbeats 16000000
set_option linter.all false
set_option linter.unusedVariables false
namespace Go.Proofs.YtpidmmfjcghmeaaGreat.Ab
inductive AV where
  | b (x:Bool) | i (k:IntKind) (n:Int) | s (x:ByteArray)
  | np | ns | nm | nf | ni
  | ptr (id off:Nat)
  | sl (id off len cap:Nat)
  | so (id off len sz:Nat)
  | es
  | yl (l:Nat)
  | mp (id:Nat)
  | fn (f:Nat) (first captured:List AV)
  | ifc (t:Nat) (v:AV)
  | agg (l:List AV)
  | tup (l:List AV)
  deriving Inhabited
abbrev und:AV:=.tup []
inductive T (α:Type) where
  | nil
  | node (v:Option α) (l r:T α)
noncomputable def T.get {α:Type} (t:T α):Nat→Option α:=
  T.rec (motive:=fun _=>Nat→Option α) (fun _=>none) (fun v _ _ gl gr n=>Nat.casesOn n v fun m=>Nat.casesOn (m % 2) (gl (m / 2)) fun _=>gr (m / 2)) t
noncomputable def T.one {α:Type} (x:Option α) (f:Nat):Nat→T α:=
  Nat.rec (motive:=fun _=>Nat→T α) (fun _=>.nil) (fun _ o n=>Nat.casesOn n (.node x .nil .nil) fun m=>Nat.casesOn (m % 2) (.node none (o (m / 2)) .nil) fun _=>.node none .nil (o (m / 2))) f
noncomputable def T.set {α:Type} (t:T α) (n:Nat) (x:Option α):T α:=
  T.rec (motive:=fun _=>Nat→T α) (fun n=>T.one x (n+1) n) (fun v l r sl sr n=>Nat.casesOn n (.node x l r) fun m=>Nat.casesOn (m % 2) (.node v (sl (m / 2)) r) fun _=>.node v l (sr (m / 2))) t n
structure F where
  n:Nat
  t:T AV
  df:List (Sum Nat (Nat×List AV))
noncomputable def F.get (f:F) (t:Nat):Option AV:=f.t.get t
inductive AO where
  | cells (l:List AV) (ty:Nat)
  | map (es:Array MapEntry) (clock:Nat)
  | dfr
  | loop (st:LoopState) (pend:Option Code) (n:Nat) (t:T AV) (ps:List Nat) (assign body:Code)
structure H where
  hp:T AO
  nx:Nat
  rs:List Nat
  sl:Option Nat
noncomputable def H.get (h:H) (i:Nat):Option AO:=h.hp.get i
noncomputable def H.set (h:H) (i:Nat) (x:Option AO):H:=match h with
  | ⟨hp,nx,rs,sl⟩=>⟨hp.set i x,nx,rs,sl⟩
noncomputable def H.new (h:H) (x:AO):Nat×H:=match h with
  | ⟨hp,nx,rs,sl⟩=>match sl with
    | some i=>(i,⟨hp.set i (some x),nx,rs,none⟩)
    | none=>(nx,⟨hp.set nx (some x),nx+1,rs,none⟩)
noncomputable def putF (f:F) (d:Option Tmp) (v:AV):Option F:=match d with
  | some d=>match f with
    | ⟨n,t,df⟩=>if d<n then some ⟨n,t.set d (some v),df⟩ else none
  | none=>some f
mutual
noncomputable def toV:AV→Option Value
  | .b x=>some (.bool x) | .i k n=>some (.int k n) | .s x=>some (.string x)
  | .np=>some (.pointer none) | .ns=>some (.slice none 0 0) | .nm=>some (.map none) | .nf=>some .nilFunc | .ni=>some .nilIface
  | .agg l=>match toVs l with | some l=>some (.agg l.toArray) | none=>none
  | .tup l=>match toVs l with | some l=>some (.tuple l.toArray) | none=>none
  | _=>none
noncomputable def toVs:List AV→Option (List Value)
  | []=>some []
  | x::l=>match toV x,toVs l with
    | some v,some vs=>some (v::vs)
    | _,_=>none
end
noncomputable def ofV1:Value→Option AV
  | .bool x=>some (.b x) | .int k n=>some (.i k n) | .string x=>some (.s x)
  | .pointer none=>some .np | .slice none 0 0=>some .ns | .map none=>some .nm | .nilFunc=>some .nf | .nilIface=>some .ni
  | _=>none
noncomputable def ofVs:List Value→Option (List AV)
  | []=>some []
  | v::l=>match ofV1 v,ofVs l with
    | some v,some vs=>some (v::vs)
    | _,_=>none
noncomputable def ofV:Value→Option AV
  | .agg c=>match ofVs c.toList with | some l=>some (.agg l) | none=>none
  | .tuple c=>match ofVs c.toList with | some l=>some (.tup l) | none=>none
  | v=>ofV1 v
noncomputable def pureRun {α:Type} (P:Program):Sem α→Option α
  | .pure a=>some a
  | .program k=>pureRun P (k P)
  | _=>none
noncomputable def evF (f:F):Operand→Option AV
  | .tmp t=>match f.get t with | some v=>some v | none=>some und
  | .const v=>ofV v
  | .func g=>some (.fn g [] [])
  | .global _=>none
noncomputable def cellsOf:AV→List AV
  | .agg l=>l
  | v=>[v]
noncomputable def sz (P:Program) (t:Nat):Option Nat:=match P.info? t with | some i=>some i.size | none=>none
noncomputable def isA (P:Program) (t:Nat):Option Bool:=match P.underlying t with | some (.struct _)=>some true | some (.array _ _)=>some true | some _=>some false | none=>none
noncomputable def zeroOf (P:Program) (t:Nat):Option AV:=match P.info? t with | some i=>(match i.zero with | some z=>ofV z | none=>none) | none=>none
noncomputable def slotsOf (l:List AV) (off n:Nat):Option (List AV):=if off+n≤l.length then some ((l.drop off).take n) else none
noncomputable def partOf (P:Program) (t:Nat) (l:List AV) (off:Nat):Option AV:=
  match isA P t with
  | some true=>match sz P t with | some n=>(match slotsOf l off n with | some l=>some (.agg l) | none=>none) | none=>none
  | some false=>l[off]?
  | none=>none
noncomputable def loadA (P:Program) (h:H) (t:Nat):AV→Option AV
  | .ptr id off=>match h.get id with
    | some (.cells l _)=>partOf P t l off
    | _=>none
  | _=>none
noncomputable def putL:List AV→Nat→List AV→Option (List AV)
  | l,_,[]=>some l
  | l,off,v::vs=>if off<l.length then putL (l.set off v) (off+1) vs else none
noncomputable def oneA:AV→Bool
  | .agg _=>false
  | .tup _=>false
  | _=>true
noncomputable def storeA (P:Program) (h:H) (t:Nat) (p v:AV):Option H:=
  match p with
  | .ptr id off=>match h.get id with
    | some (.cells l ty)=>if sz P t=some (cellsOf v).length∧(cellsOf v).all oneA=true then (match putL l off (cellsOf v) with | some l=>some (h.set id (some (.cells l ty))) | none=>none) else none
    | _=>none
  | _=>none
noncomputable def fillA (place:Nat→Option (Nat×Nat)) (cells:List AV):List (Nat×AV)→Option (List AV)
  | []=>some cells
  | (i,v)::rest=>match place i with
    | none=>none
    | some (off,size)=>if (cellsOf v).length≠size∨size=0 then none else match putL cells off (cellsOf v) with
      | some c=>fillA place c rest
      | none=>none
noncomputable def rep (z:List AV):Nat→List AV
  | 0=>[]
  | n+1=>z++rep z n
noncomputable def evL (f:F):List Operand→Option (List AV)
  | []=>some []
  | x::l=>match evF f x,evL f l with | some v,some vs=>some (v::vs) | _,_=>none
noncomputable def evP (f:F):List (Nat×Operand)→Option (List (Nat×AV))
  | []=>some []
  | (i,x)::l=>match evF f x,evP f l with | some v,some vs=>some ((i,v)::vs) | _,_=>none
noncomputable def evO (f:F):Option Operand→Option (Option AV)
  | none=>some none
  | some x=>match evF f x with | some v=>some (some v) | none=>none
noncomputable def placesOf (P:Program):List Field→Option (List (Nat×Nat))
  | []=>some []
  | x::l=>match sz P x.type,placesOf P l with | some n,some r=>some ((x.offset,n)::r) | _,_=>none
noncomputable def eqNil (d:TypeDesc) (x y:AV):Bool:=
  match d,x,y with
  | .pointer _,.np,.ptr .. => true | .pointer _,.ptr ..,.np=>true
  | .slice _,.ns,.sl .. => true | .slice _,.sl ..,.ns=>true | .slice _,.ns,.so .. => true | .slice _,.so ..,.ns=>true
  | .map _ _,.nm,.mp .. => true | .map _ _,.mp ..,.nm=>true
  | .func _ _ _,.nf,.fn .. => true | .func _ _ _,.fn ..,.nf=>true
  | .interface _,.ni,.ifc .. => true | .interface _,.ifc ..,.ni=>true
  | _,_,_=>false
noncomputable def natOf:AV→Option Nat
  | .i _ (.ofNat n)=>some n
  | _=>none
noncomputable def natO:Option AV→Option (Option Nat)
  | none=>some none
  | some v=>match natOf v with | some n=>some (some n) | none=>none
noncomputable def cutK (size off len cap:Nat) (lo hi mx:Option Nat):Option (Nat×Nat×Nat):=
  let m:=mx.getD cap;let h:=hi.getD len;let l:=lo.getD 0
  if l≤h∧h≤m∧m≤cap then some (if m=l then off else off+l*size,h-l,m-l) else none
noncomputable def sliceA (h:H) (size:Nat) (x:AV) (lo hi mx:Option Nat):Option AV:=
  if mx.isSome&&hi.isNone then none else
  match x with
  | .ns=>match cutK size 0 0 0 lo hi mx with | some (_,0,0)=>some .ns | _=>none
  | .sl id off len cap=>match cutK size off len cap lo hi mx with | some (o,n,c)=>some (.sl id o n c) | none=>none
  | .so id off len s=>if s≠size∨size=0 then none else match h.get id with
    | some (.cells l _)=>match mx with
      | some m=>if off+m*size≤l.length then (match cutK size off len m lo hi mx with | some (o,n,c)=>some (.sl id o n c) | none=>none) else none
      | none=>
        let e:=hi.getD len;let b:=lo.getD 0
        if b≤e∧off+e*size≤l.length then (if b=0 then some (.so id off e s) else if b<e then some (.so id (off+b*size) (e-b) s) else some .es) else none
    | _=>none
  | _=>none
inductive AF | fn (k:Nat) | yl (l:Nat)
abbrev aZ:=AF→List AV→H→Option (AV×H)
noncomputable def needOf:AV→Option Nat
  | .sl _ _ n _=>some n | .so _ _ n _=>some n | .ns=>some 0 | _=>none
noncomputable def firstA (h:H) (size n:Nat):AV→Option (List AV)
  | .sl id off _ _=>match h.get id with | some (.cells l _)=>slotsOf l off (n*size) | _=>none
  | .so id off _ _=>match h.get id with | some (.cells l _)=>slotsOf l off (n*size) | _=>none
  | .ns=>some []
  | _=>none
noncomputable def addsA (P:Program) (h:H) (size:Nat) (tx:Nat) (x:AV):Option (Nat×List AV):=
  match P.underlying tx,x with
  | some .string,.s y=>if size=1 then some (y.size,y.data.toList.map fun b=>.i .u8 b.toNat) else none
  | some (.slice _),.s _=>none
  | some (.slice _),x=>match needOf x with
    | some n=>(match firstA h size n x with | some l=>if l.length=n*size∧l.all oneA=true then some (n,l) else none | none=>none)
    | none=>none
  | _,_=>none
noncomputable def growA (h:H) (e size len n:Nat) (old new:List AV):AV×H:=
  let r:=h.new (.cells (old++new) e);(.so r.1 0 (len+n) size,r.2)
noncomputable def appendA (P:Program) (h:H) (t tx:Nat) (s x:AV):Option (AV×H):=
  match P.underlying t with
  | some (.slice e)=>match P.info? e with
    | none=>none
    | some inf=>match inf.zero with
      | none=>none
      | some zv=>match ofV zv with
        | none=>none
        | some z=>if inf.size=0∨1000<inf.bytes∨zv.cells.size≠inf.size then none else match P.underlying tx,s,x with
          | some (.int _),.ns,x=>(match natOf x with
            | some n=>if n=0∨1000000<n then none else some (growA h e inf.size 0 n [] (rep (cellsOf z) n))
            | none=>none)
          | some (.int _),_,_=>none
          | some _,s,x=>match addsA P h inf.size tx x with
            | none=>none
            | some (n,new)=>if 1000000<n then none else match s with
              | .ns=>if n=0 then some (.ns,h) else some (growA h e inf.size 0 n [] new)
              | .sl id off len cap=>if 1000000<cap∨1000000<len then none else match h.get id with
                | some (.cells l ty)=>if len+n≤cap then (match putL l (off+len*inf.size) new with
                    | some l'=>some (.sl id off (len+n) cap,h.set id (some (.cells l' ty)))
                    | none=>none)
                  else match slotsOf l off (len*inf.size) with
                    | some old=>some (growA h e inf.size len n old new)
                    | none=>none
                | _=>none
              | .so id off len s=>if s≠inf.size∨1000000<len then none else match h.get id with
                | some (.cells l ty)=>if off+(len+n)*inf.size≤l.length then (match putL l (off+len*inf.size) new with
                    | some l'=>some (.so id off (len+n) s,h.set id (some (.cells l' ty)))
                    | none=>none)
                  else if off=0∧ty=e then (match slotsOf l 0 (len*inf.size) with
                    | some old=>some (growA (h.set id none) e inf.size len n old new)
                    | none=>none)
                  else none
                | _=>none
              | _=>none
          | none,_,_=>none
  | _=>none
noncomputable def pureB (d:TypeDesc) (b:Builtin) (args:List AV):Option AV:=
  match b,d,args with
  | .len,.slice _,[.sl _ _ n _]=>some (.i .i64 n)
  | .len,.slice _,[.so _ _ n _]=>some (.i .i64 n)
  | .len,.slice _,[.ns]=>some (.i .i64 0)
  | .len,.slice _,[.es]=>some (.i .i64 0)
  | .len,.string,[.s x]=>some (.i .i64 x.size)
  | .len,.map _ _,[.nm]=>some (.i .i64 0)
  | .cap,.slice _,[.sl _ _ _ c]=>some (.i .i64 c)
  | .cap,.slice _,[.ns]=>some (.i .i64 0)
  | .max,_,[.i k x,.i _ y]=>some (.i k (if y>x then y else x))
  | .min,_,[.i k x,.i _ y]=>some (.i k (if y<x then y else x))
  | _,_,_=>none
noncomputable def flatOp (P:Program) (f:F) (o:Oper):Option AV:=
  match o.op.operands.toList.all fun x=>(match evF f x with | some v=>(toV v).isSome | none=>false) with
  | true=>match pureRun P (execOp (fun x=>match evF f x with | some v=>(toV v).getD undef | none=>undef) o) with
    | some (.value v)=>ofV v
    | _=>none
  | false=>none
noncomputable def in64 (n:Int):Option AV:=if -9223372036854775808≤n∧n≤9223372036854775807 then some (.i .i64 n) else none
noncomputable def fastBin (op:BinOp) (x y:AV):Option AV:=
  match x,y with
  | .i .i64 a,.i .i64 b=>match op with
    | .add=>in64 (a+b)
    | .sub=>in64 (a-b)
    | .mul=>in64 (a*b)
    | .eql=>some (.b (decide (a=b)))
    | .neq=>some (.b (!decide (a=b)))
    | .lss=>some (.b (decide (a<b)))
    | .leq=>some (.b (decide (a≤b)))
    | .gtr=>some (.b (decide (b<a)))
    | .geq=>some (.b (decide (b≤a)))
    | _=>none
  | .i .u8 a,.i .u8 b=>match op with
    | .eql=>some (.b (decide (a=b)))
    | .neq=>some (.b (!decide (a=b)))
    | .lss=>some (.b (decide (a<b)))
    | .leq=>some (.b (decide (a≤b)))
    | .gtr=>some (.b (decide (b<a)))
    | .geq=>some (.b (decide (b≤a)))
    | _=>none
  | _,_=>none
noncomputable def pickP (P:Program) (f:F) (h:H) (o:Oper) (c:Operand) (a:Operand) (b:Operand):Option AV:=
  match evF f c with
    | some (.b true)=>evF f a
    | some (.b false)=>evF f b
    | _=>none
noncomputable def buildP (P:Program) (f:F) (h:H) (o:Oper) (t:TypeId) (parts:Array (Nat×Operand)):Option AV:=
  match zeroOf P t,P.underlying t,evP f parts.toList with
    | some z,some (.struct fs),some ps=>match placesOf P fs.toList with
      | some pl=>(match fillA (fun i=>pl[i]?) (cellsOf z) ps with | some c=>some (.agg c) | none=>none)
      | none=>none
    | some z,some (.array _ e),some ps=>match sz P e with
      | some n=>(match fillA (fun i=>some (i*n,n)) (cellsOf z) ps with | some c=>some (.agg c) | none=>none)
      | none=>none
    | _,_,_=>none
noncomputable def nilCheckP (P:Program) (f:F) (h:H) (o:Oper) (x:Operand):Option AV:=
  match evF f x with
    | some (.ptr a o)=>some (.ptr a o)
    | some (.fn a b c)=>some (.fn a b c)
    | _=>none
noncomputable def binOpP (P:Program) (f:F) (h:H) (o:Oper) (op:BinOp) (t:TypeId) (x:Operand) (y:Operand) (_4:TypeId):Option AV:=
  match evF f x,evF f y with
   | some a,some b=>match fastBin op a b with
    | some r=>some r
    | none=>match P.underlying t with
     | some d=>if eqNil d a b then (match op with | .eql=>some (.b false) | .neq=>some (.b true) | _=>none) else flatOp P f o
     | none=>none
   | _,_=>none
noncomputable def unOpP (P:Program) (f:F) (h:H) (o:Oper) (op:UnOp) (_1:TypeId) (x:Operand):Option AV:=
  match op,evF f x with
    | .not,some (.b v)=>some (.b !v)
    | _,_=>flatOp P f o
noncomputable def makeInterfaceP (P:Program) (f:F) (h:H) (o:Oper) (t:TypeId) (x:Operand):Option AV:=
  match P.underlying t,evF f x with
    | some (.interface _),_=>none
    | some _,some v=>some (.ifc t v)
    | _,_=>none
noncomputable def makeFuncP (P:Program) (f:F) (h:H) (o:Oper) (fn:Fn) (first:Array Operand) (cap:Array Operand):Option AV:=
  match fn,evL f first.toList,evL f cap.toList with
    | .func g,some a,some b=>some (.fn g a b)
    | _,_,_=>none
noncomputable def sliceP (P:Program) (f:F) (h:H) (o:Oper) (t:TypeId) (x:Operand) (lo:Option Operand) (hi:Option Operand) (mx:Option Operand):Option AV:=
  match P.underlying t,evF f x,evO f lo,evO f hi,evO f mx with
    | some (.slice e),some v,some lo,some hi,some mx=>match natO lo,natO hi,natO mx,sz P e with
      | some lo,some hi,some mx,some n=>sliceA h n v lo hi mx
      | _,_,_,_=>none
    | some .string,some _,_,_,_=>flatOp P f o
    | _,_,_,_,_=>none
noncomputable def fieldAddrP (P:Program) (f:F) (h:H) (o:Oper) (s:TypeId) (x:Operand) (k:Nat):Option AV:=
  match P.underlying s,evF f x with
    | some (.struct fs),some (.ptr id off)=>match fs[k]? with
      | some fd=>(match sz P fd.type with | some (_+1)=>some (.ptr id (off+fd.offset)) | _=>none)
      | none=>none
    | _,_=>none
noncomputable def fieldP (P:Program) (f:F) (h:H) (o:Oper) (t:TypeId) (x:Operand) (k:Nat):Option AV:=
  match P.underlying t,evF f x with
    | some (.struct fs),some (.agg l)=>match fs[k]? with
      | some fd=>partOf P fd.type l fd.offset
      | none=>none
    | _,_=>none
noncomputable def indexAddrP (P:Program) (f:F) (h:H) (o:Oper) (t:TypeId) (x:Operand) (ix:Operand):Option AV:=
  match P.underlying t,evF f x,evF f ix with
    | some (.slice e),some (.sl id off len _),some iv=>match sz P e,natOf iv with
      | some n,some i=>if i<len then some (.ptr id (off+i*n)) else none
      | _,_=>none
    | some (.slice e),some (.so id off len _),some iv=>match sz P e,natOf iv with
      | some n,some i=>if i<len then some (.ptr id (off+i*n)) else none
      | _,_=>none
    | some (.array len e),some (.ptr id off),some iv=>match sz P e,natOf iv with
      | some n,some i=>if i<len then some (.ptr id (off+i*n)) else none
      | _,_=>none
    | _,_,_=>none
noncomputable def extractP (P:Program) (f:F) (h:H) (o:Oper) (x:Operand) (k:Nat):Option AV:=
  match evF f x with
    | some (.tup l)=>l[k]?
    | _=>none
noncomputable def callP (P:Program) (f:F) (h:H) (o:Oper) (c:Call):Option AV:=
  match c.callee with
    | .builtin b=>match evL f c.args.toList,c.argTypes.toList with
      | some args,t::_=>(match P.underlying t with | some d=>pureB d b args | none=>none)
      | _,_=>none
    | _=>none
noncomputable def typeAssertP (P:Program) (f:F) (h:H) (o:Oper) (x:Operand) (_0:TypeId) (t:TypeId):Option AV:=
  match evF f x,P.underlying t,zeroOf P t with
  | some .ni,some _,some z=>some (.tup [z,.b false])
  | _,_,_=>none
noncomputable def pureA (P:Program) (f:F) (h:H) (o:Oper):Option AV:=
  match o.op with
  | .move x=>evF f x
  | .assign x=>evF f x
  | .pick c a b=>pickP P f h o c a b
  | .build t parts=>buildP P f h o t parts
  | .nilCheck x=>nilCheckP P f h o x
  | .binOp op t x y q0=>binOpP P f h o op t x y q0
  | .unOp op q0 x=>unOpP P f h o op q0 x
  | .convert _ _ _=>flatOp P f o
  | .index _ _ _=>flatOp P f o
  | .makeInterface t x=>makeInterfaceP P f h o t x
  | .makeFunc fn first cap=>makeFuncP P f h o fn first cap
  | .slice t x lo hi mx=>sliceP P f h o t x lo hi mx
  | .fieldAddr s x k=>fieldAddrP P f h o s x k
  | .field t x k=>fieldP P f h o t x k
  | .indexAddr t x ix=>indexAddrP P f h o t x ix
  | .extract x k=>extractP P f h o x k
  | .typeAssert x q0 t true=>typeAssertP P f h o x q0 t
  | .call c=>callP P f h o c
  | _=>none
noncomputable def mapFind (P:Program) (kt:Nat) (es:Array MapEntry) (emp:Bool) (kv:Value):Option (Option (Nat×Value)):=
  match pureRun P (Instr.checkKey emp 10000 kt kv) with
  | some _=>pureRun P (Instr.findKey kt kv es.toList)
  | none=>none
noncomputable def updA (P:Program) (f:F) (h:H) (t:Nat) (m k v:Operand):Option (AV×H):=
  match P.underlying t,evF f m,evF f k,evF f v with
  | some (.map kt _),some (.mp id),some kv,some v=>match toV kv,toV v,h.get id with
    | some kv,some v,some (.map es clock)=>match mapFind P kt es false kv with
      | some (some (i,_))=>match pureRun P (Instr.keyThatStays (((es[i]?).map (·.key)).getD kv) kv) with
        | some key=>some (und,h.set id (some (.map (es.modify i fun e=>{ e with key,val:=v }) clock)))
        | none=>none
      | some none=>some (und,h.set id (some (.map (es.push { key:=kv,val:=v,born:=clock }) (clock+1))))
      | none=>none
    | _,_,_=>none
  | _,_,_,_=>none
noncomputable def okA (ok:Bool) (v:AV) (b:Bool):AV:=if ok then .tup [v,.b b] else v
noncomputable def effB (P:Program) (b:Builtin) (ts:List Nat) (args:List AV) (h:H):Option (AV×H):=
  match b,args,ts with
  | .append,[s,x],[t,tx]=>appendA P h t tx s x
  | .len,[.mp id],[t]=>match P.underlying t,h.get id with
    | some (.map _ _),some (.map es _)=>some (.i .i64 es.size,h)
    | _,_=>none
  | .copy,[d,x],[t,_]=>match P.underlying t,d,needOf x with
    | some (.slice e),.sl id off dl _,some n=>match sz P e with
      | some 1=>match firstA h 1 (Nat.min n dl) x,h.get id with
        | some new,some (.cells l ty)=>if new.length=Nat.min n dl∧new.all oneA=true then (match putL l off new with | some l=>some (.i .i64 (Nat.min n dl:Nat),h.set id (some (.cells l ty))) | none=>none) else none
        | _,_=>none
      | _=>none
    | _,_,_=>none
  | _,_,_=>none
noncomputable def loadE (P:Program) (call:aZ) (f:F) (h:H) (t:TypeId) (a:Operand):Option (AV×H):=
  match evF f a with | some p=>(match loadA P h t p with | some v=>some (v,h) | none=>none) | none=>none
noncomputable def allocE (P:Program) (call:aZ) (f:F) (h:H) (e:TypeId):Option (AV×H):=
  match zeroOf P e with | some z=>let r:=h.new (.cells (cellsOf z) e);some (.ptr r.1 0,r.2) | none=>none
noncomputable def boxE (P:Program) (call:aZ) (f:F) (h:H) (e:TypeId) (x:Operand):Option (AV×H):=
  match evF f x with | some v=>let r:=h.new (.cells (cellsOf v) e);some (.ptr r.1 0,r.2) | none=>none
noncomputable def buildSliceE (P:Program) (call:aZ) (f:F) (h:H) (t:TypeId) (len:Nat) (parts:Array (Nat×Operand)):Option (AV×H):=
  match P.underlying t,evP f parts.toList with
    | some (.slice e),some ps=>match sz P e,zeroOf P e with
      | some n,some z=>if n=0∨1000000<len*n∨(cellsOf z).length≠n then none else match fillA (fun i=>some (i*n,n)) (rep (cellsOf z) len) ps with
        | some c=>let r:=h.new (.cells c e);some (.sl r.1 0 len len,r.2)
        | none=>none
      | _,_=>none
    | _,_=>none
noncomputable def storeE (P:Program) (call:aZ) (f:F) (h:H) (t:TypeId) (a:Operand) (x:Operand):Option (AV×H):=
  match evF f a,evF f x with | some p,some v=>(match storeA P h t p v with | some h=>some (und,h) | none=>none) | _,_=>none
noncomputable def makeSliceE (P:Program) (call:aZ) (f:F) (h:H) (t:TypeId) (l:Operand) (c:Operand):Option (AV×H):=
  match P.underlying t,evF f l,evF f c with
    | some (.slice e),some lv,some cv=>match natOf lv,natOf cv,zeroOf P e,P.info? e with
      | some n,some m,some z,some inf=>if n≤m∧m≤1000000∧0<m∧0<inf.size∧inf.bytes≤1000∧(cellsOf z).length=inf.size then let r:=h.new (.cells (rep (cellsOf z) m) e);some (.sl r.1 0 n m,r.2) else none
      | _,_,_,_=>none
    | _,_,_=>none
noncomputable def lookupE (P:Program) (call:aZ) (f:F) (h:H) (t:TypeId) (m:Operand) (k:Operand) (ok:Bool):Option (AV×H):=
  match P.underlying t,evF f m,evF f k with
    | some (.map kt e),some (.mp id),some kv=>match toV kv,h.get id,zeroOf P e with
      | some kv,some (.map es _),some z=>match mapFind P kt es es.isEmpty kv with
        | some (some (_,v))=>(match ofV v with | some v=>some (okA ok v true,h) | none=>none)
        | some none=>some (okA ok z false,h)
        | none=>none
      | _,_,_=>none
    | _,_,_=>none
noncomputable def callE (P:Program) (call:aZ) (f:F) (h:H) (c:Call):Option (AV×H):=
  match evL f c.args.toList with
    | none=>none
    | some args=>match c.callee with
      | .builtin b=>effB P b c.argTypes.toList args h
      | .value g=>match evF f g with
        | some (.fn k first cap)=>call (.fn k) (first++args++cap) h
        | some (.yl l)=>call (.yl l) args h
        | _=>none
      | .invoke _ _=>none
noncomputable def effA (P:Program) (call:aZ) (f:F) (h:H) (o:Oper):Option (AV×H):=
  match o.op with
  | .load t a=>loadE P call f h t a
  | .alloc e=>allocE P call f h e
  | .box e x=>boxE P call f h e x
  | .buildSlice t len parts=>buildSliceE P call f h t len parts
  | .store t a x=>storeE P call f h t a x
  | .makeMap _ none=>let r:=h.new (.map #[] 0);some (.mp r.1,r.2)
  | .makeSlice t l c=>makeSliceE P call f h t l c
  | .lookup t m k ok=>lookupE P call f h t m k ok
  | .mapUpdate t m k v=>updA P f h t m k v
  | .insert t m k v=>updA P f h t m k v
  | .call c=>callE P call f h c
  | _=>none
noncomputable def wantedA (ops:Array Oper) (f:F) (o:Oper):Bool:=
  match o.guard with
  | none=>true
  | some (g,want)=>match (ops[g]?).bind (·.dst) with
    | some t=>(match f.get t with | some (.b x)=>x==want | _=>false)
    | none=>false
noncomputable def aop (P:Program) (call:aZ) (f:F) (h:H) (o:Oper):Option (AV×H):=
  match pureA P f h o with
  | some v=>some (v,h)
  | none=>effA P call f h o
noncomputable def deferA (ro:Bool) (f:F) (c:Call):Option F:=
  if ro then none else match c.callee,evL f c.args.toList with
  | .value g,some args=>match evF f g with
    | some (.fn k first cap)=>(match f with | ⟨n,t,df⟩=>some ⟨n,t,.inr (k,first++args++cap)::df⟩)
    | _=>none
  | _,_=>none
noncomputable def stepA (P:Program) (call:aZ) (ro:Bool) (ops:Array Oper) (f:F) (h:H) (o:Oper):Option (F×H):=
  match wantedA ops f o with
  | true=>match o.op with
    | .defer c=>(match deferA ro f c with | some f=>(match putF f o.dst und with | some f=>some (f,h) | none=>none) | none=>none)
    | _=>match aop P call f h o with
      | some (v,h)=>(match putF f o.dst v with | some f=>some (f,h) | none=>none)
      | none=>none
  | false=>match putF f o.dst und with | some f=>some (f,h) | none=>none
noncomputable def opsA (P:Program) (call:aZ) (ro:Bool) (ops:Array Oper):List Oper→F→H→Option (F×H)
  | [],f,h=>some (f,h)
  | o::l,f,h=>match stepA P call ro ops f h o with
    | some (f,h)=>opsA P call ro ops l f h
    | none=>none
inductive Ex | nrm | ext (id:Nat) | ret | gt (l:Nat)
noncomputable def jumps (g:Code→F→H→Option (Ex×F×H)) (a:Code):Nat→Code→F→H→Option (Ex×F×H)
  | 0,_,_,_=>none
  | m+1,r,f,h=>match g r f h with
    | some (.gt l,f,h)=>match findLabel a l with
      | some r=>jumps g a m r f h
      | none=>none
    | x=>x
noncomputable def pendA:Option Code→Option Ex
  | none=>some .nrm
  | some .ret=>some .ret
  | some (.exit i)=>some (.ext i)
  | some (.goto l)=>some (.gt l)
  | some _=>none
noncomputable def rangeA (call:aZ) (f:F) (h:H) (g:Operand) (ps:Array Tmp) (assign body:Code):Option (Ex×F×H):=
  match evF f g with
      | some (.fn k first cap)=>
        let h1:=(h.new .dfr);let h2:=h1.2.new (.loop .ready none f.n f.t ps.toList assign body)
        match call (.fn k) (first++[.yl h2.1]++cap) h2.2 with
        | some (_,h3)=>match h3.get h2.1 with
          | some (.loop .busy _ _ _ _ _ _)=>none
          | some (.loop _ pend _ _ _ _ _)=>match pendA pend with
            | some e=>some (e,{ f with df:=.inl h1.1::f.df },h3.set h2.1 none)
            | none=>none
          | _=>none
        | none=>none
      | _=>none
abbrev fH:=Nat→Array Oper→F→H→Option (F×H)
noncomputable def codeA (P:Program) (call:aZ) (dr:fH) (ro:Bool):Nat→Code→F→H→Option (Ex×F×H)
  | 0,_,_,_=>none
  | n+1,c,f,h=>match c with
    | .skip=>some (.nrm,f,h)
    | .label _=>some (.nrm,f,h)
    | .ret=>some (.ret,f,h)
    | .exit i=>some (.ext i,f,h)
    | .goto l=>some (.gt l,f,h)
    | .seq a b=>match codeA P call dr ro n a f h with
      | some (.nrm,f,h)=>codeA P call dr ro n b f h
      | r=>r
    | .cond c a b=>match evF f c with
      | some (.b true)=>codeA P call dr ro n a f h
      | some (.b false)=>codeA P call dr ro n b f h
      | _=>none
    | .block i a=>match codeA P call dr ro n a f h with
      | some (.ext j,f,h)=>if j=i then some (.nrm,f,h) else some (.ext j,f,h)
      | r=>r
    | .loop a=>match codeA P call dr ro n a f h with
      | some (.nrm,f,h)=>codeA P call dr ro n (.loop a) f h
      | r=>r
    | .scope a=>if ro then none else jumps (codeA P call dr ro n) a n a f h
    | .region i ops d=>match (if d then (if ro then none else dr i ops f h) else opsA P call ro ops ops.toList f h) with
      | some (f,h)=>some (.nrm,f,h)
      | none=>none
    | .rangeFunc g ps assign body=>if ro then none else rangeA call f h g ps assign body
    | _=>none
noncomputable def argsF:Nat→List AV→T AV→T AV
  | _,[],f=>f
  | i,v::l,f=>argsF (i+1) l (f.set i (some v))
noncomputable def resA (P:Program) (f:F) (h:H):List ResultVar→Option (List AV)
  | []=>some []
  | .tmp t::l=>match resA P f h l with | some r=>some ((f.get t).getD und::r) | none=>none
  | .cell a t::l=>match f.get a,resA P f h l with
    | some p,some r=>(match loadA P h t p with | some v=>some (v::r) | none=>none)
    | _,_=>none
noncomputable def putsF (n:Nat):List Nat→List AV→T AV→Option (T AV)
  | [],[],t=>some t
  | p::ps,v::vs,t=>if p<n then putsF n ps vs (t.set p (some v)) else none
  | _,_,_=>none
noncomputable def jumpOf:Ex→Option Code
  | .nrm=>none | .ext i=>some (.exit i) | .ret=>some .ret | .gt l=>some (.goto l)
noncomputable def enterA (P:Program) (call:aZ) (dr:fH) (fuel:Nat) (k:Nat) (args:List AV) (h:H):Option (Func×F×H):=
  match P.funcs[k]? with
  | some fn=>match fn.body with
    | some c=>if args.length≤fn.ntmps then (match codeA P call dr false fuel c ⟨fn.ntmps,argsF 0 args .nil,[]⟩ h with
      | some (.nrm,f,h)=>some (fn,f,h)
      | some (.ret,f,h)=>some (fn,f,h)
      | _=>none) else none
    | none=>none
  | none=>none
noncomputable def outA (P:Program) (fn:Func) (f:F) (h:H):Option AV:=
  match resA P f h fn.results.toList with
  | some [v]=>some v
  | some l=>some (.tup l)
  | none=>none
noncomputable def recovA (P:Program) (h:H):List Oper→F→Option F
  | [],f=>some f
  | o::l,f=>match o.guard with
    | some _=>none
    | none=>match o.op with
      | .call c=>match c.callee with
        | .builtin .recover=>(match putF f o.dst .ni with | some f=>recovA P h l f | none=>none)
        | _=>none
      | _=>match pureA P f h o with
        | some v=>(match putF f o.dst v with | some f=>recovA P h l f | none=>none)
        | none=>none
noncomputable def asksRec (ops:List Oper):Bool:=
  match ops with
  | o::_=>(match o.op with
    | .call c=>(match c.callee with | .builtin .recover=>true | _=>false)
    | _=>false)
  | []=>false
noncomputable def enterR (P:Program) (call:aZ) (dr:fH) (fuel:Nat) (k:Nat) (args:List AV) (h:H):Option (Func×F×H):=
  match P.funcs[k]? with
  | some fn=>match fn.body with
    | some (.seq (.region _ ops false) c)=>if asksRec ops.toList=true∧args.length≤fn.ntmps then (match recovA P h ops.toList ⟨fn.ntmps,argsF 0 args .nil,[]⟩ with
      | some f=>(match codeA P call dr false fuel c f h with
        | some (.nrm,f,h)=>some (fn,f,h)
        | some (.ret,f,h)=>some (fn,f,h)
        | _=>none)
      | none=>none) else none
    | _=>none
  | none=>none
noncomputable def defersA (P:Program) (call:aZ) (dr:Nat→fH) (fuel:Nat):List (Sum Nat (Nat×List AV))→H→Option H
  | [],h=>some h
  | .inl r::l,h=>match h.get r with
    | some .dfr=>defersA P call dr fuel l (h.set r none)
    | _=>none
  | .inr (k,args)::l,h=>match enterR P call (dr k) fuel k args h with
    | some (fn,f,h)=>(match f.df,outA P fn f h with
      | [],some _=>defersA P call dr fuel l h
      | _,_=>none)
    | none=>match enterA P call (dr k) fuel k args h with
      | some (fn,f,h)=>(match f.df,outA P fn f h with
        | [],some _=>defersA P call dr fuel l h
        | _,_=>none)
      | none=>none
abbrev I7:=Nat→Option (List AV→H→Option (AV×H))
structure Cfg where
  hook:I7
  fuel:Nat
  draw:aZ→Nat→fH
noncomputable def callA (P:Program) (C:Cfg):Nat→aZ
  | 0,_,_,_=>none
  | d+1,.fn k,args,h=>match C.hook k with
    | some g=>g args h
    | none=>match enterA P (callA P C d) (C.draw (callA P C d) k) C.fuel k args h with
      | some (fn,f,h)=>match defersA P (callA P C d) (C.draw (callA P C d)) C.fuel f.df h with
        | some h=>(match outA P fn f h with | some v=>some (v,h) | none=>none)
        | none=>none
      | none=>none
  | d+1,.yl l,args,h=>match h.get l with
    | some (.loop .ready _ n t ps assign body)=>match putsF n ps args t with
      | some t1=>match codeA P (callA P C d) (fun _ _ _ _=>none) true C.fuel assign ⟨n,t1,[]⟩ h with
        | some (.nrm,f1,h1)=>match h1.get l with
          | some (.loop .ready pend n2 t2 ps2 as2 body2)=>match codeA P (callA P C d) (fun _ _ _ _=>none) true C.fuel body f1 (h1.set l (some (.loop .busy pend n2 t2 ps2 as2 body2))) with
            | some (e,_,h2)=>match h2.get l with
              | some (.loop _ _ n t ps assign body)=>some (.b (jumpOf e).isNone,h2.set l (some (.loop (if (jumpOf e).isNone then .ready else .done) (jumpOf e) n t ps assign body)))
              | _=>none
            | none=>none
          | _=>none
        | _=>none
      | none=>none
    | _=>none
end Go.Proofs.YtpidmmfjcghmeaaGreat.Ab
namespace Go.Proofs.YtpidmmfjcghmeaaGreat.Ab
open Go.RowKit
abbrev Sg:=Nat→Option (Nat×Nat)
def Sg.le (σ σ':Sg):Prop:=∀ i x,σ i=some x→σ' i=some x
theorem Sg.le_refl (σ:Sg):Sg.le σ σ:=fun _ _ h=>h
theorem Sg.le_trans {σ τ υ:Sg} (h:Sg.le σ τ) (h':Sg.le τ υ):Sg.le σ υ:=fun i x hx=>h' i x (h i x hx)
mutual
inductive VR (σ:Sg):AV→Value→Prop
 | b (x):VR σ (.b x) (.bool x)
 | i (k n):VR σ (.i k n) (.int k n)
 | s (x):VR σ (.s x) (.string x)
 | np:VR σ .np (.pointer none)
 | ns:VR σ .ns (.slice none 0 0)
 | nm:VR σ .nm (.map none)
 | nf:VR σ .nf .nilFunc
 | ni:VR σ .ni .nilIface
 | ptr (id off b k):σ id=some (b,k)→VR σ (.ptr id off) (.pointer (some ⟨b,off,none⟩))
 | sl (id off len cap b k):σ id=some (b,k)→VR σ (.sl id off len cap) (.slice (some ⟨b,off,none⟩) len cap)
 | so (id off len sz b k c):σ id=some (b,k)→off+c*sz=k→VR σ (.so id off len sz) (.slice (some ⟨b,off,none⟩) len c)
 | es (a c):VR σ .es (.slice (some a) 0 c)
 | yl (l b k):σ l=some (b,k)→VR σ (.yl l) (.func (.yield b) #[] #[])
 | mp (id b k):σ id=some (b,k)→VR σ (.mp id) (.map (some b))
 | fn (f l m xs ys):VL σ l xs→VL σ m ys→VR σ (.fn f l m) (.func (.func f) xs.toArray ys.toArray)
 | ifc (t x v):VR σ x v→VR σ (.ifc t x) (.iface t v)
 | agg (l xs):VL σ l xs→VR σ (.agg l) (.agg xs.toArray)
 | tup (l xs):VL σ l xs→VR σ (.tup l) (.tuple xs.toArray)
inductive VL (σ:Sg):List AV→List Value→Prop
 | nil:VL σ [] []
 | cons (x v l vs):VR σ x v→VL σ l vs→VL σ (x::l) (v::vs)
end
theorem VR.mono {σ σ':Sg} (h:Sg.le σ σ') {x:AV} {v:Value} (hv:VR σ x v):VR σ' x v:=by
 refine VR.rec (motive_1:=fun x v _=>VR σ' x v) (motive_2:=fun l vs _=>VL σ' l vs) ?_ ?_ ?_ ?_ ?_ ?_ ?_ ?_ ?_ ?_ ?_ ?_ ?_ ?_ ?_ ?_ ?_ ?_ ?_ ?_ hv
 ·exact fun x=>.b x
 ·exact fun k n=>.i k n
 ·exact fun x=>.s x
 ·exact .np
 ·exact .ns
 ·exact .nm
 ·exact .nf
 ·exact .ni
 ·exact fun id off b k e=>.ptr id off b k (h _ _ e)
 ·exact fun id off len cap b k e=>.sl id off len cap b k (h _ _ e)
 ·exact fun id off len sz b k c e e2=>.so id off len sz b k c (h _ _ e) e2
 ·exact fun a c=>.es a c
 ·exact fun l b k e=>.yl l b k (h _ _ e)
 ·exact fun id b k e=>.mp id b k (h _ _ e)
 ·exact fun f l m xs ys _ _ h1 h2=>.fn f l m xs ys h1 h2
 ·exact fun t x v _ h1=>.ifc t x v h1
 ·exact fun l xs _ h1=>.agg l xs h1
 ·exact fun l xs _ h1=>.tup l xs h1
 ·exact .nil
 ·exact fun x v l vs _ _ h1 h2=>.cons x v l vs h1 h2
theorem VL.mono {σ σ':Sg} (h:Sg.le σ σ'):∀ {l:List AV} {vs:List Value},VL σ l vs→VL σ' l vs
 | _,_,.nil=>.nil
 | _,_,.cons x v l vs h1 h2=>.cons x v l vs (h1.mono h) (VL.mono h h2)
theorem VL.len {σ:Sg}:∀ {l:List AV} {vs:List Value},VL σ l vs→l.length=vs.length
 | _,_,.nil=>rfl
 | _,_,.cons _ _ _ _ _ h2=>by simp [h2.len]
theorem VL.get {σ:Sg}:∀ {l:List AV} {vs:List Value},VL σ l vs→∀ {i:Nat} {x:AV},l[i]? = some x→∃ v,vs[i]? = some v∧VR σ x v
 | _,_,.nil,i,x,h=>by simp at h
 | _,_,.cons y v l vs h1 h2,0,x,h=>by simp at h;subst h;exact ⟨v,rfl,h1⟩
 | _,_,.cons y v l vs h1 h2,i+1,x,h=>by simp only [List.getElem?_cons_succ] at h ⊢;exact h2.get h
theorem VL.append {σ:Sg}:∀ {l:List AV} {vs:List Value},VL σ l vs→∀ {m:List AV} {us:List Value},VL σ m us→VL σ (l++m) (vs++us)
 | _,_,.nil,_,_,h=>h
 | _,_,.cons x v l vs h1 h2,_,_,h=>.cons x v _ _ h1 (h2.append h)
theorem VL.take {σ:Sg}:∀ {l:List AV} {vs:List Value},VL σ l vs→∀ n,VL σ (l.take n) (vs.take n)
 | _,_,.nil,_=>by simp;exact .nil
 | _,_,.cons _ _ _ _ _ _,0=>.nil
 | _,_,.cons x v l vs h1 h2,n+1=>.cons x v _ _ h1 (h2.take n)
theorem VL.drop {σ:Sg}:∀ {l:List AV} {vs:List Value},VL σ l vs→∀ n,VL σ (l.drop n) (vs.drop n)
 | _,_,.nil,_=>by simp;exact .nil
 | _,_,.cons x v l vs h1 h2,0=>.cons x v _ _ h1 h2
 | _,_,.cons _ _ _ _ _ h2,n+1=>h2.drop n
theorem VL.set {σ:Sg}:∀ {l:List AV} {vs:List Value},VL σ l vs→∀ {n:Nat} {x:AV} {v:Value},VR σ x v→VL σ (l.set n x) (vs.set n v)
 | _,_,.nil,_,_,_,_=>.nil
 | _,_,.cons _ _ _ _ _ h2,0,_,_,h=>.cons _ _ _ _ h h2
 | _,_,.cons _ _ _ _ h1 h2,_+1,_,_,h=>.cons _ _ _ _ h1 (h2.set h)
mutual
theorem mX {σ:Sg}:∀ {x:AV} {v u:Value},toV x=some u→VR σ x v→v=u
 | .b _,_,_,h,hv=>by cases hv;simpa [toV] using h
 | .i _ _,_,_,h,hv=>by cases hv;simpa [toV] using h
 | .s _,_,_,h,hv=>by cases hv;simpa [toV] using h
 | .np,_,_,h,hv=>by cases hv;simpa [toV] using h
 | .ns,_,_,h,hv=>by cases hv;simpa [toV] using h
 | .nm,_,_,h,hv=>by cases hv;simpa [toV] using h
 | .nf,_,_,h,hv=>by cases hv;simpa [toV] using h
 | .ni,_,_,h,hv=>by cases hv;simpa [toV] using h
 | .ptr _ _,_,_,h,_=>by simp [toV] at h
 | .sl _ _ _ _,_,_,h,_=>by simp [toV] at h
 | .so _ _ _ _,_,_,h,_=>by simp [toV] at h
 | .es,_,_,h,_=>by simp [toV] at h
 | .yl _,_,_,h,_=>by simp [toV] at h
 | .mp _,_,_,h,_=>by simp [toV] at h
 | .fn _ _ _,_,_,h,_=>by simp [toV] at h
 | .ifc _ _,_,_,h,_=>by simp [toV] at h
 | .agg l,v,u,h,hv=>by
  cases hv with
  | agg _ xs hl=>
   simp only [toV] at h
   split at h
   ·rename_i us hus;cases h;rw [qH hus hl]
   ·cases h
 | .tup l,v,u,h,hv=>by
  cases hv with
  | tup _ xs hl=>
   simp only [toV] at h
   split at h
   ·rename_i us hus;cases h;rw [qH hus hl]
   ·cases h
theorem qH {σ:Sg}:∀ {l:List AV} {vs us:List Value},toVs l=some us→VL σ l vs→vs=us
 | [],_,_,h,hv=>by cases hv;simpa [toVs] using h
 | x::l,vs,us,h,hv=>by
  cases hv with
  | cons _ v _ vs h1 h2=>
   simp only [toVs] at h
   split at h
   ·rename_i a b ha hb;cases h;rw [mX ha h1,qH hb h2]
   ·cases h
end
theorem vF {σ:Sg} {v:Value} {x:AV} (h:ofV1 v=some x):VR σ x v:=by
 unfold ofV1 at h
 split at h <;> first | (cases h;constructor) | cases h
theorem p5 {σ:Sg}:∀ {vs:List Value} {l:List AV},ofVs vs=some l→VL σ l vs
 | [],l,h=>by simp [ofVs] at h;subst h;exact .nil
 | v::vs,l,h=>by
  simp only [ofVs] at h
  split at h
  ·rename_i a b ha hb;cases h;exact .cons _ _ _ _ (vF ha) (p5 hb)
  ·cases h
theorem kA {σ:Sg} {v:Value} {x:AV} (h:ofV v=some x):VR σ x v:=by
 unfold ofV at h
 split at h
 ·rename_i c
  split at h
  ·rename_i l hl;cases h;have:=p5 (σ:=σ) hl;exact .agg l c.toList this
  ·cases h
 ·rename_i c
  split at h
  ·rename_i l hl;cases h;have:=p5 (σ:=σ) hl;exact .tup l c.toList this
  ·cases h
 ·exact vF h
theorem VR.und {σ:Sg}:VR σ Ab.und Go.undef:=.tup [] [] .nil
theorem cH {σ:Sg} {x:AV} {v:Value} (h:VR σ x v):VL σ (cellsOf x) v.cells.toList:=by
 cases h <;> first
  | (rename_i l xs hl;exact hl)
  | (simp only [cellsOf,Value.cells];refine .cons _ _ _ _ ?_ .nil;constructor <;> assumption)
theorem T.get_nil {α:Type} (n:Nat):(T.nil:T α).get n=none:=rfl
theorem T.get_succ {α:Type} (v:Option α) (l r:T α) (m:Nat):(T.node v l r).get (m+1)=if m % 2=0 then l.get (m / 2) else r.get (m / 2):=by
 show Nat.casesOn (motive:=fun _=>Option α) (m % 2) (l.get (m / 2)) (fun _=>r.get (m / 2))=_;cases h:m % 2 with
 | zero=>rfl
 | succ k=>rfl
theorem T.one_succ {α:Type} (x:Option α) (f m:Nat):T.one x (f+1) (m+1)=if m % 2=0 then .node none (T.one x f (m / 2)) .nil else .node none .nil (T.one x f (m / 2)):=by
 show Nat.casesOn (motive:=fun _=>T α) (m % 2) (T.node none (T.one x f (m / 2)) .nil) (fun _=>.node none .nil (T.one x f (m / 2)))=_;cases h:m % 2 with
 | zero=>rfl
 | succ k=>rfl
theorem T.set_succ {α:Type} (v:Option α) (l r:T α) (n:Nat) (x:Option α):(T.node v l r).set (n+1) x=if n % 2=0 then .node v (l.set (n / 2) x) r else .node v l (r.set (n / 2) x):=by
 show Nat.casesOn (motive:=fun _=>T α) (n % 2) (T.node v (l.set (n / 2) x) r) (fun _=>.node v l (r.set (n / 2) x))=_;cases h:n % 2 with
 | zero=>rfl
 | succ k=>rfl
theorem T.get_one {α:Type} (x:Option α):∀ (f n m:Nat),n<f→(T.one x f n).get m=if m=n then x else none
 | 0,_,_,h=>by omega
 | f+1,0,m,_=>by
  show (T.node x .nil .nil).get m=_;cases m with
  | zero=>rfl
  | succ m=>rw [T.get_succ,if_neg (by omega:¬m+1=0)];split <;> rfl
 | f+1,n+1,m,h=>by
  rw [T.one_succ];cases m with
  | zero=>rw [if_neg (by omega:¬0=n+1)];split <;> rfl
  | succ m=>
   split
   ·rename_i h2;rw [T.get_succ]
    split
    ·rw [T.get_one x f _ _ (by omega)];by_cases hm:m / 2=n / 2
     ·rw [if_pos hm,if_pos (by omega)]
     ·rw [if_neg hm,if_neg (by omega)]
    ·rw [T.get_nil,if_neg (by omega)]
   ·rename_i h2;rw [T.get_succ]
    split
    ·rw [T.get_nil,if_neg (by omega)]
    ·rw [T.get_one x f _ _ (by omega)];by_cases hm:m / 2=n / 2
     ·rw [if_pos hm,if_pos (by omega)]
     ·rw [if_neg hm,if_neg (by omega)]
theorem T.get_set {α:Type}:∀ (t:T α) (n m:Nat) (x:Option α),(t.set n x).get m=if m=n then x else t.get m
 | .nil,n,m,x=>T.get_one x (n+1) n m (Nat.lt_succ_self n)
 | .node v l r,0,m,x=>by
  show (T.node x l r).get m=_;cases m with
  | zero=>rfl
  | succ m=>rw [T.get_succ,T.get_succ,if_neg (by omega:¬m+1=0)]
 | .node v l r,n+1,m,x=>by
  rw [T.set_succ];cases m with
  | zero=>rw [if_neg (by omega:¬0=n+1)];split <;> rfl
  | succ m=>
   split
   ·rename_i h2;rw [T.get_succ,T.get_succ]
    split
    ·rw [T.get_set l];by_cases hm:m / 2=n / 2
     ·rw [if_pos hm,if_pos (by omega)]
     ·rw [if_neg hm,if_neg (by omega)]
    ·rw [if_neg (by omega)]
   ·rename_i h2;rw [T.get_succ,T.get_succ]
    split
    ·rw [if_neg (by omega)]
    ·rw [T.get_set r];by_cases hm:m / 2=n / 2
     ·rw [if_pos hm,if_pos (by omega)]
     ·rw [if_neg hm,if_neg (by omega)]
def FT (σ:Sg) (n:Nat) (t:T AV) (c:Array Value):Prop:=c.size=n∧∀ i,VR σ ((t.get i).getD Ab.und) (c.getD i Go.undef)
theorem FT.mono {σ σ':Sg} (h:Sg.le σ σ') {n:Nat} {t:T AV} {c:Array Value} (hf:FT σ n t c):FT σ' n t c:=⟨hf.1,fun i=>(hf.2 i).mono h⟩
theorem FT.set {σ:Sg} {n:Nat} {t:T AV} {c:Array Value} (hf:FT σ n t c) {d:Nat} (hd:d<n) {x:AV} {v:Value} (hv:VR σ x v):FT σ n (t.set d (some x)) (c.setIfInBounds d v):=by
 refine ⟨by simp [hf.1],fun i=>?_⟩;rw [T.get_set];by_cases h:i=d
 ·subst h;rw [if_pos rfl]
  simpa [hf.1,hd] using hv
 ·rw [if_neg h];have:=hf.2 i
  simpa [Array.getElem?_setIfInBounds_ne (Ne.symm h)] using this
def OR (σ:Sg):AO→Nat→Option Obj→Prop
 | .cells l ty,k,o=>∃ c:List Value,o=some (.cells c.toArray ty (0,0))∧c.length=k∧∃ u,u.length=l.length∧VL σ l u∧u=c.take l.length
 | .map es clock,_,o=>o=some (.map es clock)
 | .dfr,_,o=>o=some (.deferred (some []))
 | .loop st pend n t ps assign body,_,o=>∃ fn df tm,o=some (.loop { state:=st,pending:=pend,fn:=fn,tmps:=tm,params:=ps.toArray,assign:=assign,body:=body,defers:=df })∧FT σ n t tm
theorem OR.mono {σ σ':Sg} (h:Sg.le σ σ') {x:AO} {k:Nat} {o:Option Obj} (ho:OR σ x k o):OR σ' x k o:=by
 cases x with
 | cells l ty=>obtain ⟨c,e,e2,u,e3,e4,e5⟩:=ho;exact ⟨c,e,e2,u,e3,e4.mono h,e5⟩
 | map es clock=>exact ho
 | dfr=>exact ho
 | loop st pend n t ps assign body=>obtain ⟨fn,df,tm,e,e2⟩:=ho;exact ⟨fn,df,tm,e,e2.mono h⟩
structure HR (W:World) (σ:Sg) (h:H) (w:World):Prop where
 obj:∀ i o,h.get i=some o→∃ b k,σ i=some (b,k)∧W.heap.size≤b∧b<w.heap.size∧OR σ o k w.heap[b]?
 inj:∀ i j b k k',h.get i≠none→h.get j≠none→σ i=some (b,k)→σ j=some (b,k')→i=j
 fre:∀ i,h.nx≤i→σ i=none
 frs:∀ i,i∈h.rs→σ i=none
 fsl:∀ i,h.sl=some i→σ i=none∧i<h.nx∧i ∉ h.rs
 rsl:∀ i,i∈h.rs→i<h.nx
 rnd:h.rs.Nodup
 bel:Below W.heap.size W w
theorem HR.drew {W:World} {σ:Sg} {h:H} {w:World} (hr:HR W σ h w):HR W σ h { w with drawn:=w.drawn+1 }:=
 ⟨hr.obj,hr.inj,hr.fre,hr.frs,hr.fsl,hr.rsl,hr.rnd,⟨hr.bel.os,hr.bel.tape,hr.bel.output,hr.bel.size,hr.bel.block⟩⟩
def World.upd (w:World) (b:Nat) (o:Obj):World:={ w with heap:=w.heap.setIfInBounds b o }
theorem HR.upd {W:World} {σ:Sg} {h:H} {w:World} (hr:HR W σ h w) {i b k:Nat} {x y:AO} (hi:h.get i=some x) (hb:σ i=some (b,k)) {o:Obj} (ho:OR σ y k (some o)):
  HR W σ (h.set i (some y)) (World.upd w b o):=by
 obtain ⟨b',k',hb',hW,hlt,hobj⟩:=hr.obj i x hi;obtain ⟨rfl,rfl⟩:b'=b∧k'=k:=by rw [hb] at hb';simpa using hb'.symm
 have hg:∀ j,(h.set i (some y)).get j=if j=i then some y else h.get j:=fun j=>T.get_set _ _ _ _;have hn:∀ j,(h.set i (some y)).get j≠none→h.get j≠none:=fun j hj=>by
  rw [hg] at hj;by_cases e:j=i
  ·subst e;rw [hi];simp
  ·rwa [if_neg e] at hj
 refine ⟨fun j z hj=>?_,fun j j' b k k' h1 h2=>hr.inj j j' b k k' (hn j h1) (hn j' h2),hr.fre,hr.frs,hr.fsl,hr.rsl,hr.rnd, ?_⟩
 ·rw [hg] at hj;by_cases e:j=i
  ·subst e;rw [if_pos rfl] at hj;cases hj;refine ⟨b',k',hb,hW,by simpa [World.upd] using hlt, ?_⟩;simp only [World.upd,Array.getElem?_setIfInBounds_self,hlt,if_true];exact ho
  ·rw [if_neg e] at hj;obtain ⟨b2,k2,h2,h3,h4,h5⟩:=hr.obj j z hj;refine ⟨b2,k2,h2,h3,by simpa [World.upd] using h4, ?_⟩;have hne:b'≠b2:=fun e2=>by
    subst e2;exact e (hr.inj j i _ _ _ (by rw [hj];simp) (by rw [hi];simp) h2 hb)
   simpa only [World.upd,Array.getElem?_setIfInBounds_ne hne] using h5
 ·refine ⟨hr.bel.os,hr.bel.tape,hr.bel.output,by simpa [World.upd] using hr.bel.size,fun k hk=>?_⟩;have hne:b'≠k:=by omega
  simp only [World.upd,Array.getElem?_setIfInBounds_ne hne];exact hr.bel.block k hk
theorem HR.same_set {W:World} {σ:Sg} {h:H} {w:World} (hr:HR W σ h w) {i:Nat} {x:AO} (hi:h.get i=some x):HR W σ (h.set i (some x)) w:=by
 have hg:∀ j,(h.set i (some x)).get j=h.get j:=fun j=>by
  rw [show (h.set i (some x)).get j=if j=i then some x else h.get j from T.get_set _ _ _ _];by_cases e:j=i
  ·rw [if_pos e,e,hi]
  ·rw [if_neg e]
 exact ⟨fun j z hj=>hr.obj j z (by rw [← hg];exact hj),fun j j' b k k' h1 h2=>hr.inj j j' b k k' (by rw [← hg];exact h1) (by rw [← hg];exact h2),hr.fre,hr.frs,hr.fsl,hr.rsl,hr.rnd,hr.bel⟩
theorem HR.drop {W:World} {σ:Sg} {h:H} {w:World} (hr:HR W σ h w) (i:Nat):HR W σ (h.set i none) w:=by
 have hg:∀ j,(h.set i none).get j=if j=i then none else h.get j:=fun j=>T.get_set _ _ _ _;have hn:∀ j o,(h.set i none).get j=some o→h.get j=some o:=fun j o hj=>by
  rw [hg] at hj;by_cases e:j=i
  ·rw [if_pos e] at hj;cases hj
  ·rwa [if_neg e] at hj
 have hn':∀ j,(h.set i none).get j≠none→h.get j≠none:=fun j hj=>by
  cases e:(h.set i none).get j with
  | none=>exact absurd e hj
  | some o=>rw [hn j o e];simp
 exact ⟨fun j z hj=>hr.obj j z (hn j z hj),fun j j' b k k' h1 h2=>hr.inj j j' b k k' (hn' j h1) (hn' j' h2),hr.fre,hr.frs,hr.fsl,hr.rsl,hr.rnd,hr.bel⟩
theorem HR.loose {W:World} {σ:Sg} {h:H} {w:World} (hr:HR W σ h w) {i b k:Nat} {x:AO} (hi:h.get i=some x) (hb:σ i=some (b,k)) (o:Obj):
  HR W σ (h.set i none) (World.upd w b o):=by
 obtain ⟨b',k',hb',hW,hlt,hobj⟩:=hr.obj i x hi;obtain ⟨rfl,rfl⟩:b'=b∧k'=k:=by rw [hb] at hb';simpa using hb'.symm
 have hd:=hr.drop i;refine ⟨fun j z hj=>?_,hd.inj,hd.fre,hd.frs,hd.fsl,hd.rsl,hd.rnd, ?_⟩
 ·obtain ⟨b2,k2,h2,h3,h4,h5⟩:=hd.obj j z hj;refine ⟨b2,k2,h2,h3,by simpa [World.upd] using h4, ?_⟩;have hg:(h.set i none).get j=if j=i then none else h.get j:=T.get_set _ _ _ _;have e:j≠i:=fun e=>by rw [hg,if_pos e] at hj;cases hj
  have hj':h.get j≠none:=by rw [hg,if_neg e] at hj;rw [hj];simp
  have hne:b'≠b2:=fun e2=>by
   subst e2;exact e (hr.inj j i _ _ _ hj' (by rw [hi];simp) h2 hb)
  simpa only [World.upd,Array.getElem?_setIfInBounds_ne hne] using h5
 ·refine ⟨hr.bel.os,hr.bel.tape,hr.bel.output,by simpa [World.upd] using hr.bel.size,fun k hk=>?_⟩;have hne:b'≠k:=by omega
  simp only [World.upd,Array.getElem?_setIfInBounds_ne hne];exact hr.bel.block k hk
def Sg.put (σ:Sg) (i:Nat) (x:Nat×Nat):Sg:=fun j=>if j=i then some x else σ j
theorem Sg.le_put {σ:Sg} {i:Nat} (h:σ i=none) (x:Nat×Nat):Sg.le σ (σ.put i x):=fun j y hj=>by
 unfold Sg.put;by_cases e:j=i
 ·subst e;rw [h] at hj;cases hj
 ·rw [if_neg e];exact hj
def World.new (w:World) (o:Obj):World:={ w with heap:=w.heap.push o }
theorem HR.put {W:World} {σ:Sg} {h h':H} {w w':World} (hr:HR W σ h w) {i b k:Nat} {x:AO} (hi:σ i=none) (hh:∀ j,h'.get j=if j=i then some x else h.get j)
  (hnx:i<h'.nx) (hnx':h.nx≤h'.nx) (hrs:h'.rs=h.rs) (hir:i ∉ h.rs) (hsl:h'.sl=none)
  (hW:W.heap.size≤b) (hlt:b<w'.heap.size) (hsz:w.heap.size≤w'.heap.size) (hob:OR (σ.put i (b,k)) x k w'.heap[b]?)
  (hold:∀ j o b2 k2,h.get j=some o→σ j=some (b2,k2)→b2≠b∧w'.heap[b2]? = w.heap[b2]?) (hbel:Below W.heap.size W w'):
  HR W (σ.put i (b,k)) h' w':=by
 have hle:=Sg.le_put hi (b,k);have hgi:h.get i=none:=by
  cases e:h.get i with
  | none=>rfl
  | some o=>obtain ⟨_,_,h2,_⟩:=hr.obj i o e;rw [hi] at h2;cases h2
 have hput:∀ j,j≠i→σ.put i (b,k) j=σ j:=fun j e=>by unfold Sg.put;rw [if_neg e]
 have hself:σ.put i (b,k) i=some (b,k):=by unfold Sg.put;rw [if_pos rfl]
 have hold':∀ j,j≠i→h'.get j≠none→∃ o b2 k2,h.get j=some o∧σ j=some (b2,k2)∧b2≠b:=fun j e hj=>by
  rw [hh,if_neg e] at hj;cases e2:h.get j with
  | none=>exact absurd e2 hj
  | some o=>obtain ⟨b2,k2,h2,_⟩:=hr.obj j o e2;exact ⟨o,b2,k2,rfl,h2,(hold j o b2 k2 e2 h2).1⟩
 refine ⟨fun j z hj=>?_,fun j j' b1 k1 k2 h1 h2 h3 h4=>?_,fun j hj=>?_,fun j hj=>?_,fun j hj=>?_,fun j hj=>?_, ?_,hbel⟩
 ·by_cases e:j=i
  ·subst e;rw [hh,if_pos rfl] at hj;cases hj;exact ⟨b,k,hself,hW,hlt,hob⟩
  ·rw [hh,if_neg e] at hj;obtain ⟨b2,k2,h2,h3,h4,h5⟩:=hr.obj j z hj;exact ⟨b2,k2,(hput j e).trans h2,h3,by omega,by rw [(hold j z b2 k2 hj h2).2];exact h5.mono hle⟩
 ·by_cases e:j=i
  ·by_cases e':j'=i
   ·rw [e,e']
   ·exfalso
    obtain ⟨o,b2,k3,h5,h6,h7⟩:=hold' j' e' h2;rw [hput j' e',h6] at h4;rw [e,hself] at h3;cases h3;cases h4;exact h7 rfl
  ·by_cases e':j'=i
   ·exfalso
    obtain ⟨o,b2,k3,h5,h6,h7⟩:=hold' j e h1;rw [hput j e,h6] at h3;rw [e',hself] at h4;cases h3;cases h4;exact h7 rfl
   ·rw [hh,if_neg e] at h1;rw [hh,if_neg e'] at h2;rw [hput j e] at h3;rw [hput j' e'] at h4;exact hr.inj j j' b1 k1 k2 h1 h2 h3 h4
 ·rw [hput j (by omega)];exact hr.fre j (by omega)
 ·rw [hrs] at hj;rw [hput j (fun e=>hir (e▸hj))];exact hr.frs j hj
 ·rw [hsl] at hj;cases hj
 ·rw [hrs] at hj;have:=hr.rsl j hj;omega
 ·rw [hrs];exact hr.rnd
theorem HR.new {W:World} {σ:Sg} {h:H} {w:World} (hr:HR W σ h w) (x:AO) (k:Nat) (o:Obj) (ho:OR σ x k (some o)):
  σ (h.new x).1=none∧HR W (σ.put (h.new x).1 (w.heap.size,k)) (h.new x).2 (World.new w o):=by
 have hbel:Below W.heap.size W (World.new w o):=⟨hr.bel.os,hr.bel.tape,hr.bel.output,by have:=hr.bel.size;simp [World.new];omega,fun k hk=>by
  rw [← hr.bel.block k hk];have:=hr.bel.size;simp only [World.new,Array.getElem?_push];rw [if_neg (by omega)]⟩
 have hold:∀ j o' b2 k2,h.get j=some o'→σ j=some (b2,k2)→b2≠w.heap.size∧(World.new w o).heap[b2]? = w.heap[b2]? := fun j o' b2 k2 h1 h2=>by
  obtain ⟨b3,k3,h3,_,h4,_⟩:=hr.obj j o' h1;rw [h2] at h3;cases h3;refine ⟨by omega, ?_⟩;simp only [World.new,Array.getElem?_push];rw [if_neg (by omega)]
 obtain ⟨hp,nx,rs,sl⟩:=h;unfold H.new;cases hs:sl with
 | none=>
  have hi:σ nx=none:=hr.fre nx (gO nx);exact ⟨hi,hr.put hi (fun j=>T.get_set _ _ _ _) (Nat.lt_succ_self _) (Nat.le_succ _) rfl (fun e=>absurd (hr.rsl _ e) (Nat.lt_irrefl _)) rfl hr.bel.size (by simp [World.new]) (by simp [World.new])
   (by have h9:=ho.mono (Sg.le_put hi (w.heap.size,k));show OR _ x k (w.heap.push o)[w.heap.size]?;rw [Array.getElem?_push_size];exact h9) hold hbel⟩
 | some i=>
  obtain ⟨hi,h1,h2⟩:=hr.fsl i hs;exact ⟨hi,hr.put hi (fun j=>T.get_set _ _ _ _) h1 (gO _) rfl h2 rfl hr.bel.size (by simp [World.new]) (by simp [World.new])
   (by have h9:=ho.mono (Sg.le_put hi (w.heap.size,k));show OR _ x k (w.heap.push o)[w.heap.size]?;rw [Array.getElem?_push_size];exact h9) hold hbel⟩
theorem HR.place {W:World} {σ:Sg} {h:H} {w w':World} (hr:HR W σ h w) (x:AO) {b k:Nat} (hW:W.heap.size≤b) (hlt:b<w'.heap.size) (hsz:w.heap.size≤w'.heap.size) (hob:∀ σ',Sg.le σ σ'→OR σ' x k w'.heap[b]?)
  (hold:∀ j o b2 k2,h.get j=some o→σ j=some (b2,k2)→b2≠b∧w'.heap[b2]? = w.heap[b2]?) (hbel:Below W.heap.size W w'):
  ∃ σ',Sg.le σ σ'∧σ' (h.new x).1=some (b,k)∧HR W σ' (h.new x).2 w':=by
 obtain ⟨hp,nx,rs,sl⟩:=h;unfold H.new;cases hs:sl with
 | none=>
  have hi:σ nx=none:=hr.fre nx (gO nx);exact ⟨_,Sg.le_put hi _,by simp [Sg.put],hr.put hi (fun j=>T.get_set _ _ _ _) (Nat.lt_succ_self _) (Nat.le_succ _) rfl (fun e=>absurd (hr.rsl _ e) (Nat.lt_irrefl _)) rfl hW hlt hsz (hob _ (Sg.le_put hi _)) hold hbel⟩
 | some i=>
  obtain ⟨hi,h1,h2⟩:=hr.fsl i hs;exact ⟨_,Sg.le_put hi _,by simp [Sg.put],hr.put hi (fun j=>T.get_set _ _ _ _) h1 (gO _) rfl h2 rfl hW hlt hsz (hob _ (Sg.le_put hi _)) hold hbel⟩
end Go.Proofs.YtpidmmfjcghmeaaGreat.Ab
namespace Go.Proofs.YtpidmmfjcghmeaaGreat.Ab
open Go.RowKit
variable {P:Program} {σ:Sg} {W:World}
theorem aU {f:F} {a:Act} (hf:FT σ f.n f.t a.tmps) {x:Operand} {v:AV} (h:evF f x=some v):VR σ v (a.eval x):=by
 cases x with
 | tmp t=>
  have:=hf.2 t;simp only [evF,F.get] at h;cases e:f.t.get t with
  | none=>rw [e] at h this;simp at h;subst h;exact this
  | some u=>rw [e] at h this;simp at h;subst h;exact this
 | const v=>exact kA h
 | func g=>simp only [evF] at h;cases h;exact .fn g [] [] [] [] .nil .nil
 | global g=>simp only [evF] at h;cases h
theorem BC {f:F} {a:Act} (hf:FT σ f.n f.t a.tmps):∀ {l:List Operand} {vs:List AV},evL f l=some vs→VL σ vs (l.map a.eval)
 | [],vs,h=>by simp [evL] at h;subst h;exact .nil
 | x::l,vs,h=>by
  simp only [evL] at h
  split at h
  ·rename_i u us hu hus;cases h;exact .cons _ _ _ _ (aU hf hu) (BC hf hus)
  ·cases h
inductive PL (σ:Sg):List (Nat×AV)→List (Nat×Value)→Prop
 | nil:PL σ [] []
 | cons (i x v l vs):VR σ x v→PL σ l vs→PL σ ((i,x)::l) ((i,v)::vs)
theorem pI {f:F} {a:Act} (hf:FT σ f.n f.t a.tmps):∀ {l:List (Nat×Operand)} {vs:List (Nat×AV)},evP f l=some vs→PL σ vs (l.map fun p=>(p.1,a.eval p.2))
 | [],vs,h=>by simp [evP] at h;subst h;exact .nil
 | (i,x)::l,vs,h=>by
  simp only [evP] at h
  split at h
  ·rename_i u us hu hus;cases h;exact .cons _ _ _ _ _ (aU hf hu) (pI hf hus)
  ·cases h
theorem dU {α:Type}:∀ {s:Sem α} {r:α},pureRun P s=some r→∀ w,s.run P w=.ok r w
 | .pure a,r,h,w=>by simp [pureRun] at h;subst h;rfl
 | .program k,r,h,w=>by simp only [pureRun] at h;exact dU h w
 | .load ..,_,h,_ | .store ..,_,h,_ | .new ..,_,h,_ | .shape ..,_,h,_ | .freeze ..,_,h,_ | .frozen ..,_,h,_ | .getObj ..,_,h,_ | .setObj ..,_,h,_ | .choose ..,_,h,_ | .sys ..,_,h,_
 | .mark ..,_,h,_ | .halt _,_,h,_=>by simp [pureRun] at h
theorem i9 {f:F} {a:Act} (hf:FT σ f.n f.t a.tmps) {o:Oper} {x:AV} (hs:∀ cs b,o.op≠.select cs b) (h:flatOp P f o=some x):
  ∃ v,VR σ x v∧∀ w,(execOp a.eval o).run P w=.ok (.value v) w:=by
 unfold flatOp at h
 split at h
 ·rename_i hall
  split at h
  ·rename_i v hv;refine ⟨v,kA h,fun w=>?_⟩;have hc:execOp a.eval o=execOp (fun x=>match evF f x with | some v=>(toV v).getD undef | none=>undef) o:=execOp_congr o hs fun y hy=>by
    have h1:=List.all_eq_true.1 hall y (Array.mem_toList_iff.2 hy);cases e:evF f y with
    | none=>rw [e] at h1;cases h1
    | some u=>
     rw [e] at h1;cases e2:toV u with
     | none=>simp [e2] at h1
     | some z=>simp only [e2,Option.getD_some];exact mX e2 (aU hf e)
   rw [hc];exact dU hv w
  ·cases h
 ·cases h
theorem eP:∀ {l:List AV} {off:Nat} {vs l':List AV},putL l off vs=some l'→l'.length=l.length∧(vs≠[]→off+vs.length≤l.length)
 | l,off,[],l',h=>by simp [putL] at h;subst h;simp
 | l,off,v::vs,l',h=>by
  simp only [putL] at h
  split at h
  ·have:=eP h;simp only [List.length_set] at this;refine ⟨this.1,fun _=>?_⟩;cases vs with
   | nil=>simp;omega
   | cons u us=>have:=this.2 (by simp);simp only [gG] at this ⊢;omega
  ·cases h
def dM:List Value→Nat→List Value→List Value
 | c,_,[]=>c
 | c,off,v::vs=>dM (c.set off v) (off+1) vs
theorem jG:∀ (vs:List Value) (c:List Value) (off:Nat),(dM c off vs).length=c.length
 | [],_,_=>rfl
 | v::vs,c,off=>by rw [dM,jG vs];simp
theorem p9:∀ {l:List AV} {off:Nat} {vs l':List AV},putL l off vs=some l'→∀ {c us:List Value},VL σ l c→VL σ vs us→VL σ l' (dM c off us)
 | l,off,[],l',h,c,us,hl,hv=>by simp [putL] at h;subst h;cases hv;exact hl
 | l,off,v::vs,l',h,c,us,hl,hv=>by
  simp only [putL] at h
  split at h
  ·cases hv with
   | cons _ u _ us h1 h2=>exact p9 h (hl.set h1) h2
  ·cases h
theorem oS:∀ (vs c:List Value) (off n:Nat),off+vs.length≤n→(dM c off vs).take n=dM (c.take n) off vs
 | [],c,off,n,_=>rfl
 | v::vs,c,off,n,h=>by
  simp only [gG] at h;rw [dM,dM,oS vs _ _ n (by omega),List.take_set]
theorem eS {l l':List AV} {off n:Nat} (h:slotsOf l off n=some l') {c:List Value} (hl:VL σ l c):VL σ l' ((c.drop off).take n)∧off+n≤c.length:=by
 unfold slotsOf at h
 split at h
 ·cases h;exact ⟨(hl.drop off).take n,by have:=hl.len;omega⟩
 ·cases h
theorem nZ (off:Nat):∀ (vs:List Value) (k:Nat) (c:List Value),
  (vs.zipIdx k).foldl (fun cs (p:Value×Nat)=>cs.setIfInBounds (off+p.2) p.1) c.toArray=(dM c (off+k) vs).toArray
 | [],_,_=>rfl
 | v::vs,k,c=>by
  rw [List.zipIdx_cons,List.foldl_cons,dM];have:c.toArray.setIfInBounds (off+k) v=(c.set (off+k) v).toArray:=by simp
  rw [this,nZ off vs (k+1)];rfl
theorem kS {place:Nat→Option (Nat×Nat)}:∀ {ps:List (Nat×AV)} {l l':List AV},fillA place l ps=some l'→∀ {qs:List (Nat×Value)} {c:List Value},PL σ ps qs→VL σ l c→
  ∃ c',Instr.fill place c.toArray qs=some c'.toArray∧VL σ l' c'
 | [],l,l',h,qs,c,hp,hl=>by simp [fillA] at h;subst h;cases hp;exact ⟨c,by simp [Instr.fill],hl⟩
 | (i,x)::ps,l,l',h,qs,c,hp,hl=>by
  cases hp with
  | cons _ _ v _ vs hx hvs=>
   simp only [fillA] at h
   split at h
   ·cases h
   ·rename_i off size hpl
    split at h
    ·cases h
    ·rename_i hsz;have hsz:(cellsOf x).length=size∧size≠0:=by
      constructor
      ·exact Classical.byContradiction fun e=>hsz (.inl e)
      ·exact fun e=>hsz (.inr e)
     split at h
     ·rename_i c1 hc1;have hcx:=cH hx;have hl1:=p9 hc1 hl hcx;obtain ⟨c',h1,h2⟩:=kS h hvs hl1;refine ⟨c', ?_,h2⟩;have hlen:=hcx.len;have h3:=(eP hc1).2 (fun e=>by rw [e] at hsz;simp at hsz;exact hsz.2 hsz.1.symm);have hll:=hl.len;simp only [Array.length_toList] at hlen;rw [Instr.fill,hpl];simp only [List.size_toArray];rw [if_neg (by simp only [Bool.or_eq_true,decide_eq_true_eq];omega)];rw [← Array.foldl_toList,Array.toList_zipIdx,nZ off v.cells.toList 0 c];exact h1
     ·cases h
theorem dQ (b off i:Nat):(⟨b,off,none⟩:Addr).add i=⟨b,off+i,none⟩:=by
 unfold Addr.add
 split
 ·rename_i e;subst e;rfl
 ·rfl
theorem mY {w:World} {b:Nat} {o:Obj} (h:b<w.heap.size):(World.upd w b o).heap[b]? = some o:=by
 simp [World.upd,h]
theorem vW (w:World) (b:Nat) (o o':Obj):World.upd (World.upd w b o) b o'=World.upd w b o':=by
 simp [World.upd]
theorem iL {w:World} {b off:Nat} {c:Array Value} {ty:TypeId} (h:w.heap[b]? = some (.cells c ty (0,0))) (v:Value):
  w.setCell ⟨b,off,none⟩ v=World.upd w b (.cells (c.setIfInBounds off v) ty (0,0)):=by
 unfold World.setCell World.upd
 congr 1
 apply Array.ext_getElem?;intro i;rw [Array.getElem?_modify,Array.getElem?_setIfInBounds];by_cases e:b=i
 ·subst e;rw [if_pos rfl,if_pos rfl,h];have hlt:b<w.heap.size:=(gL h).1;simp [hlt]
 ·rw [if_neg e,if_neg e]
def CO:Value→Bool
 | .agg _=>false
 | .tuple _=>false
 | _=>true
theorem DO {w:World} {b off:Nat} {c:Array Value} {ty:TypeId} (h:w.heap[b]? = some (.cells c ty (0,0))) (ho:off<c.size) {v:Value} (hv:CO v=true):
  (store ⟨b,off,none⟩ v).run P w=.ok () (World.upd w b (.cells (c.setIfInBounds off v) ty (0,0))):=by
 have hc:w.cell? ⟨b,off,none⟩=some c[off]:=by simp [World.cell?,h,ho]
 have hz:w.frozen? ⟨b,off,none⟩=false:=by simp [World.frozen?,h]
 rw [← iL h];unfold store;cases v <;> first | (simp [CO] at hv;done) | simp [Sem.run,hc,hz]
theorem stores {ty:TypeId} {b off:Nat}:∀ (vs:List Value) (i:Nat) (c:List Value) (w:World),w.heap[b]? = some (.cells c.toArray ty (0,0))→off+i+vs.length≤c.length→(∀ v∈vs,CO v=true)→vs≠[]→
  (storeCells ⟨b,off,none⟩ vs i).run P w=.ok () (World.upd w b (.cells (dM c (off+i) vs).toArray ty (0,0)))
 | [],_,_,_,_,_,_,hne=>absurd rfl hne
 | [v],i,c,w,h,hl,hv,_=>by
  simp only [gG,gH] at hl;rw [storeCells,Sem.run_bind,dQ,DO h (by simp;omega) (hv v (by simp)),Result.andThen_ok];simp [storeCells,dM,Pure.pure]
 | v::u::vs,i,c,w,h,hl,hv,_=>by
  simp only [gG] at hl;have hlt:b<w.heap.size:=(gL h).1;rw [storeCells,Sem.run_bind,dQ,DO h (by simp;omega) (hv v (by simp)),Result.andThen_ok];have e:c.toArray.setIfInBounds (off+i) v=(c.set (off+i) v).toArray:=by simp
  rw [e,stores (u::vs) (i+1) (c.set (off+i) v) _ (mY hlt) (by simp;omega) (fun z hz=>hv z (yI _ hz)) (by simp),vW];rfl
theorem oE {ty:TypeId} {b off:Nat} {c:List Value} {w:World} {fz:Nat×Nat} (h:w.heap[b]? = some (.cells c.toArray ty fz)):∀ (n i:Nat) (acc:Array Value),off+i+n≤c.length→
  (loadCellsFrom ⟨b,off,none⟩ i n acc).run P w=.ok (acc++((c.drop (off+i)).take n).toArray) w
 | 0,i,acc,_=>by simp [loadCellsFrom,Pure.pure]
 | n+1,i,acc,hl=>by
  have hlt:off+i<c.length:=by omega
  have hc:w.cell? ⟨b,off+i,none⟩=some c[off+i]:=by simp [World.cell?,h,hlt]
  have h1:(load ⟨b,off+i,none⟩).run P w=.ok c[off+i] w:=by simp [load,Sem.run,hc]
  rw [loadCellsFrom,Sem.run_bind,dQ,h1,Result.andThen_ok,oE h n (i+1) _ (by omega)]
  congr 1
  rw [List.drop_eq_getElem_cons hlt,List.take_succ_cons];apply Array.ext';simp [Nat.add_assoc]
theorem GJ {ty:TypeId} {b off:Nat} {c:List Value} {w:World} {fz:Nat×Nat} (h:w.heap[b]? = some (.cells c.toArray ty fz)) (n:Nat) (hl:off+n≤c.length):
  (loadCells ⟨b,off,none⟩ n).run P w=.ok ((c.drop off).take n).toArray w:=by
 rw [loadCells,oE h n 0 #[] (by omega)];simp
theorem aY {t:TypeId} {d:TypeDesc} (h:P.underlying t=some d) (w:World):(underlying t).run P w=.ok d w:=run_underlying h w
theorem vJ {t:TypeId} {i:TypeInfo} (h:P.info? t=some i) (w:World):(typeInfo t).run P w=.ok i w:=by
 simp [typeInfo,program,Bind.bind,Sem.bind,Sem.run,h,Pure.pure]
theorem dW {t n:Nat} (h:sz P t=some n) (w:World):(sizeOf t).run P w=.ok n w:=by
 unfold sz at h
 split at h
 ·rename_i i hi;cases h;rw [sizeOf,Sem.run_bind,vJ hi,Result.andThen_ok];rfl
 ·cases h
theorem kX {t:Nat} {b:Bool} (h:isA P t=some b) (w:World):(isAgg t).run P w=.ok b w:=by
 unfold isA at h;rw [isAgg,Sem.run_bind]
 split at h
 ·rename_i d hd;cases h;rw [aY hd];rfl
 ·rename_i d hd;cases h;rw [aY hd];rfl
 ·rename_i d h1 h2 hd;cases h;rw [aY hd,Result.andThen_ok]
  split
  ·exact (h1 _ rfl).elim
  ·exact (h2 _ _ rfl).elim
  ·rfl
 ·cases h
theorem eR {t:Nat} {x:AV} (h:zeroOf P t=some x):∃ v,VR σ x v∧∀ w,(zeroValue t).run P w=.ok v w:=by
 unfold zeroOf at h
 split at h
 ·rename_i i hi
  split at h
  ·rename_i z hz;exact ⟨z,kA h,fun w=>by rw [zeroValue,Sem.run_bind,vJ hi,Result.andThen_ok,hz];rfl⟩
  ·cases h
 ·cases h
theorem DD {t off:Nat} {l:List AV} {x:AV} (h:partOf P t l off=some x) {c:List Value} (hl:VL σ l c):∃ v,VR σ x v∧∀ w,(part t c.toArray off).run P w=.ok v w:=by
 unfold partOf at h
 split at h
 ·rename_i hA
  split at h
  ·rename_i n hn
   split at h
   ·rename_i l' hl';cases h;refine ⟨_,.agg _ _ (eS hl' hl).1,fun w=>?_⟩;rw [part,Sem.run_bind,kX hA,Result.andThen_ok];simp only [if_true];rw [Sem.run_bind,dW hn,Result.andThen_ok];simp only [Pure.pure,Sem.run]
    congr 2
    apply Array.ext';simp [List.take_drop]
   ·cases h
  ·cases h
 ·rename_i hA;obtain ⟨v,h1,h2⟩:=hl.get h;refine ⟨v,h2,fun w=>?_⟩;rw [part,Sem.run_bind,kX hA,Result.andThen_ok];simp [h1,Pure.pure]
 ·cases h
theorem OR.row {l:List AV} {ty k:Nat} {o:Option Obj} (h:OR σ (.cells l ty) k o):∃ c:List Value,o=some (.cells c.toArray ty (0,0))∧c.length=k∧l.length≤c.length∧VL σ l (c.take l.length):=by
 obtain ⟨c,e,e2,u,e3,e4,e5⟩:=h;subst e5;refine ⟨c,e,e2, ?_,e4⟩;rw [yA] at e3;omega
theorem kU {h:H} {w:World} (hr:HR W σ h w) {t:Nat} {p x:AV} {pv:Value} (hp:VR σ p pv) (hx:loadA P h t p=some x):∃ v,VR σ x v∧(Instr.loadAt t pv).run P w=.ok v w:=by
 unfold loadA at hx
 split at hx
 ·rename_i id off
  split at hx
  ·rename_i l ty hg;obtain ⟨b,k,hb,_,_,ho⟩:=hr.obj _ _ hg;obtain ⟨c,hc,_,hlen,hl⟩:=ho.row;cases hp with
   | ptr _ _ b' k' hb'=>
    obtain ⟨rfl,rfl⟩:b=b'∧k=k':=by rw [hb] at hb';simpa using hb'
    rw [Instr.loadAt,Sem.run_bind];simp only [Instr.sureAddr,Pure.pure,Sem.run,Result.andThen_ok];unfold partOf at hx
    split at hx
    ·rename_i hA
     split at hx
     ·rename_i n hn
      split at hx
      ·rename_i l' hl';cases hx;have hs:=eS hl' hl;refine ⟨_,.agg _ _ hs.1, ?_⟩;rw [loadVar,Sem.run_bind,kX hA,Result.andThen_ok];simp only [if_true];rw [Sem.run_bind,dW hn,Result.andThen_ok,Sem.run_bind];have hs2:=hs.2;rw [yA] at hs2;rw [GJ hc n (by omega),Result.andThen_ok];simp only [Pure.pure,Sem.run]
       congr 3
       rw [List.drop_take,List.take_take]
       congr 1
       omega
      ·cases hx
     ·cases hx
    ·rename_i hA;obtain ⟨v,h1,h2⟩:=hl.get hx;refine ⟨v,h2, ?_⟩;rw [loadVar,Sem.run_bind,kX hA,Result.andThen_ok];have hv:c[off]? = some v:=by
      rw [List.getElem?_take] at h1
      split at h1
      ·exact h1
      ·cases h1
     have hcell:w.cell? ⟨b,off,none⟩=some v:=by simp [World.cell?,hc,hv]
     simp [load,Sem.run,hcell]
    ·cases hx
  ·cases hx
 ·cases hx
theorem FI {x:AV} {v:Value} (h:VR σ x v) (hx:oneA x=true):CO v=true:=by
 cases h <;> first | rfl | simp [oneA] at hx
theorem GL {l:List AV} {c:List Value} (h:VL σ l c) (ha:l.all oneA=true):∀ v∈c,CO v=true:=by
 induction l generalizing c with
 | nil=>cases h;simp
 | cons x l ih=>
  cases h with
  | cons _ v _ c h1 h2=>
   simp only [List.all_cons,yF] at ha;intro u hu;cases hu with
   | head=>exact FI h1 ha.1
   | tail _ hm=>exact ih h2 ha.2 u hm
theorem OR.put {l l' new:List AV} {ty k off:Nat} {c us:List Value} (hk:c.length=k) (hlen:l.length≤c.length) (hl:VL σ l (c.take l.length)) (hp:putL l off new=some l') (hn:VL σ new us):
  OR σ (.cells l' ty) k (some (.cells (dM c off us).toArray ty (0,0))):=by
 have h1:=p9 hp hl hn;have h2:=eP hp;refine ⟨_,rfl,by rw [jG];exact hk,dM (c.take l.length) off us, ?_,h1, ?_⟩
 ·rw [jG,yA,h2.1];omega
 ·rw [h2.1];cases us with
  | nil=>rfl
  | cons u us=>
   have h3:new.length=(u::us).length:=hn.len;have h4:=h2.2 (fun e=>by rw [e] at h3;simp at h3);rw [oS _ _ _ _ (by omega)]
theorem DP {h h':H} {w:World} (hr:HR W σ h w) {t:Nat} {p x:AV} {pv v:Value} (hp:VR σ p pv) (hv:VR σ x v) (hx:storeA P h t p x=some h'):∃ w',(Instr.storeAt t pv v).run P w=.ok () w'∧HR W σ h' w':=by
 unfold storeA at hx
 split at hx
 ·rename_i id off
  split at hx
  ·rename_i l ty hg;obtain ⟨b,k,hb,_,hlt,ho⟩:=hr.obj _ _ hg;obtain ⟨c,hc,hck,hlen,hl⟩:=ho.row;cases hp with
   | ptr _ _ b' k' hb'=>
    obtain ⟨rfl,rfl⟩:b=b'∧k=k':=by rw [hb] at hb';simpa using hb'
    split at hx
    ·rename_i hcond;obtain ⟨hsz,hone⟩:=hcond
     split at hx
     ·rename_i l' hl';cases hx;have hcx:=cH hv;have hclen:=hcx.len;simp only [Array.length_toList] at hclen;rw [Instr.storeAt,Sem.run_bind];simp only [Instr.sureAddr,Pure.pure,Sem.run,Result.andThen_ok];rw [storeVar,Sem.run_bind,dW hsz,Result.andThen_ok];rw [if_neg (by simp;exact hclen.symm)];cases hne:v.cells.toList with
      | nil=>
       have h0:cellsOf x=[]:=yM (by rw [hclen,← Array.length_toList,hne];rfl);rw [h0] at hl';simp only [putL] at hl';cases hl';exact ⟨w,by simp [storeCells,Pure.pure],hr.same_set hg⟩
      | cons u us=>
       have h4:=(eP hl').2 (fun e=>by rw [e] at hcx;rw [hne] at hcx;cases hcx);have hul:(u::us).length=(cellsOf x).length:=by rw [← hne,Array.length_toList,hclen]
       have hst:=stores (P:=P) (off:=off) (u::us) 0 c w hc (by omega) (by rw [← hne];exact GL hcx hone) (by simp);refine ⟨_,hst,hr.upd hg hb ?_⟩;rw [hne] at hcx;exact OR.put hck hlen hl hl' hcx
     ·cases hx
    ·cases hx
  ·cases hx
 ·cases hx
end Go.Proofs.YtpidmmfjcghmeaaGreat.Ab
