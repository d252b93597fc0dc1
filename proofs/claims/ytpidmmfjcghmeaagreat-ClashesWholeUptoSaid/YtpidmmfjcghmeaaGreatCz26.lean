/- Towards clashesWhole_upto. -/
import Derived.Test.YtpidmmfjcghmeaaGreatCz20
import Derived.Test.YtpidmmfjcghmeaaGreatCz11
import Derived.OrdersHeld
import Derived.Test.YtpidmmfjcghmeaaGreatCz07
import Derived.Lib.Builder
import Derived.Lib.AppendStr
import Derived.Lib.UnsafeStr
import Derived.RegionTactic
import Derived.Recover
set_option maxRecDepth 100000
set_option maxHeartbeats 16000000
set_option linter.all false
namespace Go.Proofs.YtpidmmfjcghmeaaGreat.Ab
open Go.RowKit
variable {P:Program} {σ:Sg} {W:World}
inductive Plan where
  | done
  | take (i:Nat) (p:Plan)
  | exec (i:Nat) (s:Option Nat) (p:Plan)
  | fork (i:Nat) (s:Option Nat) (p:Plan) (j:Nat) (s':Option Nat) (q:Plan)
noncomputable def early (o:Oper):Bool:=
  match o.op with
  | .move _ | .assign _ | .pick _ _ _ | .build _ _ | .nilCheck _ | .binOp _ _ _ _ _ | .unOp _ _ _ | .convert _ _ _ | .index _ _ _ | .makeInterface _ _ | .makeFunc _ _ _ | .slice _ _ _ _ _ | .fieldAddr _ _ _ | .field _ _ _ | .indexAddr _ _ _ | .extract _ _ | .load _ _=>true
  | .call c=>match c.callee with
    | .builtin .len=>true
    | .builtin .cap=>true
    | .builtin .max=>true
    | .builtin .min=>true
    | _=>false
  | _=>false
noncomputable def makes (o:Oper):Bool:=
  match o.op with
  | .alloc _ | .box _ _ | .buildSlice _ _ _=>true
  | .call c=>match c.callee with | .builtin .append=>true | _=>false
  | _=>false
noncomputable def slotOf (ops:Array Oper) (i:Nat):Option Nat:=match ops[i]? with | some o=>if makes o then some i else none | none=>none
noncomputable def firstOf (ops:Array Oper) (l:Array Bool):List Nat→Option Nat
  | []=>none
  | i::r=>match ops[i]? with
    | some o=>if early o&&Region.free .any ops l i then some i else firstOf ops l r
    | none=>none
noncomputable def planOf (fk:Bool) (ops:Array Oper):Nat→Array Bool→Plan
  | 0,_=>.done
  | n+1,l=>
    let rs:=Region.ready .any ops l
    match firstOf ops l rs with
    | some i=>.take i (planOf fk ops n (l.setIfInBounds i true))
    | none=>match rs with
      | [i]=>(if fk then .exec i (slotOf ops i) (planOf fk ops n (l.setIfInBounds i true)) else .exec i none (planOf fk ops n (l.setIfInBounds i true)))
      | [i,j]=>.fork i (slotOf ops i) (planOf fk ops n (l.setIfInBounds i true)) j (slotOf ops j) (planOf fk ops n (l.setIfInBounds j true))
      | _=>.done
noncomputable def planOk (ops:Array Oper):Nat→Array Bool→Plan→Bool
  | _,l,.done=>(Region.ready .any ops l).isEmpty
  | n+1,l,.take i p=>(Region.ready .any ops l).contains i&&(Region.free .any ops l i&&planOk ops n (l.setIfInBounds i true) p)
  | n+1,l,.exec i _ p=>decide (Region.ready .any ops l=[i])&&planOk ops n (l.setIfInBounds i true) p
  | n+1,l,.fork i _ p j _ q=>decide (Region.ready .any ops l=[i,j])&&(planOk ops n (l.setIfInBounds i true) p&&planOk ops n (l.setIfInBounds j true) q)
  | 0,_,_=>false
abbrev Con:=Nat×TypeId×AV×AV
noncomputable def consOk (P:Program) (h:H):List Con→Bool
  | []=>true
  | (_,t,p,v)::l=>(match loadA P h t p with | some u=>eqA u v | none=>false)&&consOk P h l
noncomputable def waits (o:Oper) (i:Nat):Bool:=o.after.any fun e=>Region.binds .any e&&e.on==i
noncomputable def keepC (o:Oper) (C:List Con):List Con:=C.filter fun c=>!waits o c.1
noncomputable def slotH (h:H):Option Nat→Option H
  | none=>some h
  | some s=>if s∈h.rs∧h.sl=none then some { h with rs:=h.rs.erase s,sl:=some s } else none
noncomputable def execA (P:Program) (call:aZ) (ops:Array Oper) (f:F) (h:H) (C:List Con) (i:Nat) (s:Option Nat):Option (F×H×List Con):=
  match ops[i]? with
  | none=>none
  | some o=>match o.op with
    | .defer _=>none
    | _=>match slotH h s with
      | none=>none
      | some h0=>match stepA P call false ops f h0 o with
        | some (f1,h1)=>if h1.sl.isNone&&consOk P h1 (keepC o C) then some (f1,h1,keepC o C) else none
        | none=>none
noncomputable def drawA (P:Program) (call:aZ) (ops:Array Oper) (base:Nat):Plan→F→H→List Con→Option (F×H)
  | .done,f,h,_=>some (f,h)
  | .take i p,f,h,C=>match ops[i]? with
    | none=>none
    | some o=>match wantedA ops f o with
      | false=>(match putF f o.dst und with | some f=>drawA P call ops base p f h C | none=>none)
      | true=>match pureA P f h o with
        | some v=>(match putF f o.dst v with | some f=>drawA P call ops base p f h C | none=>none)
        | none=>match o.op with
          | .load t a=>match evF f a with
            | some pv=>match loadA P h t pv with
              | some v=>if det v then (match putF f o.dst v with | some f=>drawA P call ops base p f h ((i,t,pv,v)::C) | none=>none) else none
              | none=>none
            | none=>none
          | _=>none
  | .exec i s p,f,h,C=>match execA P call ops f h C i (s.map (base + ·)) with
    | some (f,h,C)=>drawA P call ops base p f h C
    | none=>none
  | .fork i s p j s' q,f,h,C=>match execA P call ops f h C i (s.map (base + ·)),execA P call ops f h C j (s'.map (base + ·)) with
    | some (f1,h1,C1),some (f2,h2,C2)=>match drawA P call ops base p f1 h1 C1,drawA P call ops base q f2 h2 C2 with
      | some r1,some r2=>if eqS r1 r2 then some r1 else none
      | _,_=>none
    | _,_=>none
noncomputable def range':Nat→Nat→List Nat
  | _,0=>[]
  | b,n+1=>b::range' (b+1) n
noncomputable def reserve (h:H) (n:Nat):H:={ h with nx:=h.nx+n,rs:=range' h.nx n++h.rs }
noncomputable def noYl (call:aZ):aZ
  | .fn k,args,h=>call (.fn k) args h
  | .yl _,_,_=>none
noncomputable def forks:Plan→Bool
  | .done=>false
  | .take _ p=>forks p
  | .exec _ _ p=>forks p
  | .fork _ _ _ _ _ _=>true
noncomputable def relieve (h:H) (b:Nat):H:={ h with rs:=h.rs.filter fun i=>decide (i<b) }
noncomputable def drawC (P:Program) (call:aZ):fH:=fun _ ops f h=>
  let l:=Array.replicate ops.size false;let p:=planOf false ops ops.size l
  if Region.noSelect ops&&h.sl.isNone then
    (if forks p then
      (let p:=planOf true ops ops.size l
       if planOk ops ops.size l p then (match drawA P (noYl call) ops h.nx p f (reserve h ops.size) [] with
        | some (f1,h1)=>some (f1,relieve h1 h.nx)
        | none=>none) else none)
    else if planOk ops ops.size l p then drawA P (noYl call) ops 0 p f h [] else none)
  else none
theorem Does.wp {o:Oper} {a:Act} {w:World} {R:Value→World→Prop} (h:Does P false o a w R) {K:Act→World→Prop} {Q:Exit→Act→World→Prop} (hK:∀ v w',R v w'→K (a.put o.dst v) w'):o.wp P a w K Q:=by
  unfold Oper.wp;cases h with
  | val v w' h1 h2=>rw [h1];exact hK v w' h2
  | skp w' h1 h2=>rw [h1];exact hK _ w' h2
  | ent k args w' h1 h2=>
    rw [h1];refine h2.mono ?_;rintro e w'' ⟨v,rfl,hv⟩;exact hK v w'' hv
  | rnd l fn tmps aj body w' hb h1 h2=>cases hb
theorem E6 {call:aZ} (h:CallOK P W call):CallOK P W (noYl call):=⟨fun k args hh r hx=>h.fn k args hh r hx,fun l args hh r hx=>by simp [noYl] at hx⟩
theorem eZ:∀ (n b i:Nat),i∈range' b n↔b≤i∧i<b+n
  | 0,b,i=>by simp [range']
  | n+1,b,i=>by rw [range',List.mem_cons,eZ n (b+1) i];omega
theorem jH:∀ (n b:Nat),(range' b n).Nodup
  | 0,_=>by simp [range']
  | n+1,b=>by rw [range',List.nodup_cons];exact ⟨fun h=>by have:=(eZ n (b+1) b).1 h;omega,jH n (b+1)⟩
theorem tR {h:H} {w:World} (hr:HR W σ h w) (n:Nat):HR W σ (reserve h n) w:=by
  have hmem:∀ i,i∈(reserve h n).rs↔(h.nx≤i∧i<h.nx+n)∨i∈h.rs:=fun i=>by simp only [reserve,List.mem_append,eZ]
  refine ⟨hr.obj,hr.inj,fun i hi=>hr.fre i (by simp only [reserve] at hi;omega),fun i hi=>?_,fun i hi=>?_,fun i hi=>?_, ?_,hr.bel⟩
  · rcases (hmem i).1 hi with h1 | h1
    · exact hr.fre i h1.1
    · exact hr.frs i h1
  · obtain ⟨h1,h2,h3⟩:=hr.fsl i hi
    exact ⟨h1, by simp only [reserve]; omega, fun e => by rcases (hmem i).1 e with h4 | h4; · omega
                                                          · exact h3 h4⟩
  · rcases (hmem i).1 hi with h1 | h1
    · exact h1.2
    · have:=hr.rsl i h1;simp only [reserve];omega
  · simp only [reserve];rw [List.nodup_append];refine ⟨jH _ _,hr.rnd,fun a ha b hb e=>?_⟩;subst e;have h1:=(eZ _ _ _).1 ha;have h2:=hr.rsl _ hb;omega
theorem FM {h h0:H} {w:World} (hr:HR W σ h w) {s:Option Nat} (hs:slotH h s=some h0):HR W σ h0 w:=by
  unfold slotH at hs
  split at hs
  · cases hs;exact hr
  · rename_i s
    split at hs
    · rename_i hc;obtain ⟨h1,h2⟩:=hc;cases hs;exact ⟨hr.obj,hr.inj,hr.fre,fun i hi=>hr.frs i (List.mem_of_mem_erase hi),fun i hi=>by
        cases hi;exact ⟨hr.frs _ h1,hr.rsl _ h1,fun e=>(List.Nodup.mem_erase_iff hr.rnd).1 e |>.1 rfl⟩,fun i hi=>hr.rsl i (List.mem_of_mem_erase hi),hr.rnd.erase _,hr.bel⟩
    · cases hs
noncomputable def waitsAt (ops:Array Oper) (j i:Nat):Bool:=match ops[j]? with | some o=>waits o i | none=>false
noncomputable def keepL (ops:Array Oper) (j:Nat) (L:List (Nat×(World→Prop))):List (Nat×(World→Prop)):=L.filter fun c=>!waitsAt ops j c.1
section
variable {ops:Array Oper} {Q:Exit→Act→World→Prop}
noncomputable def wpAnyK (P:Program) (ops:Array Oper) (Q:Exit→Act→World→Prop):Nat→Array Bool→List (Nat×(World→Prop))→Act→World→Prop
  | 0,listed,_,a,w=>Region.ready .any ops listed=[]∧Q .normal a w
  | n+1,listed,L,a,w=>
    (Region.ready .any ops listed=[]→Q .normal a w)∧
    ∀ j∈Region.ready .any ops listed,wpOp P ops Q j (fun a' w'=>(∀ c∈keepL ops j L,c.2 w')∧wpAnyK P ops Q n (listed.setIfInBounds j true) (keepL ops j L) a' w') a w
theorem nA:∀ (n:Nat) (listed:Array Bool) (L:List (Nat×(World→Prop))) (a:Act) (w:World),wpAnyK P ops Q n listed L a w→wpAny P .any ops Q n listed a w
  | 0,_,_,_,_,h=>h
  | n+1,_,_,_,_,h=>⟨h.1,fun j hj=>wpOp_mono (fun a' w' h'=>nA n _ _ a' w' h'.2) (h.2 j hj)⟩
theorem oC {j:Nat} {L L':List (Nat×(World→Prop))} (h:∀ c∈L',c∈L):∀ c∈keepL ops j L',c∈keepL ops j L:=fun c hc=>by
  unfold keepL at *;rw [List.mem_filter] at *;exact ⟨h c hc.1,hc.2⟩
theorem mZ:∀ (n:Nat) (listed:Array Bool) (L L':List (Nat×(World→Prop))) (a:Act) (w:World),(∀ c∈L',c∈L)→wpAnyK P ops Q n listed L a w→wpAnyK P ops Q n listed L' a w
  | 0,_,_,_,_,_,_,h=>h
  | n+1,_,_,_,_,_,hs,h=>⟨h.1,fun j hj=>wpOp_mono (fun a' w' h'=>⟨fun c hc=>h'.1 c (oC hs c hc),mZ n _ _ _ a' w' (oC hs) h'.2⟩) (h.2 j hj)⟩
theorem yK {j i:Nat} {oj:Oper} (hoj:ops[j]? = some oj) (h:∀ e∈oj.after,Region.binds .any e=true→e.on≠i):waitsAt ops j i=false:=by
  unfold waitsAt;rw [hoj];simp only [waits];rw [Array.any_eq_false'];intro e he;by_cases hb:Region.binds .any e=true
  · have:=h e he hb;simp [this]
  · simp [hb]
theorem qK {i:Nat} {oi:Oper} {v:Value} {S:World→Prop} (hi:ops[i]? = some oi) (hsel:∀ (j:Nat) (o:Oper) cs b,ops[j]? = some o→o.op≠.select cs b)
    (hQ:∀ c a w,Q (.panic c) (a.put oi.dst v) w→Q (.panic c) a w):
    ∀ (n:Nat) (listed:Array Bool) (L:List (Nat×(World→Prop))) (a:Act) (w:World),
      (∀ j oj,ops[j]? = some oj→j≠i→listed.getD j true=false→(∀ e∈oj.after,Region.binds .any e=true→e.on≠i)→oi.apart ops oj=true)→
      i∈Region.ready .any ops listed→YieldsIf P ops S oi v a→S w→(∀ c∈L,c.2 w)→
      wpAnyK P ops Q n (listed.setIfInBounds i true) ((i,S)::L) (a.put oi.dst v) w→wpAnyK P ops Q (n+1) listed L a w:=by
  intro n
  induction n with
  | zero=>
    intro listed L a w _ hr hy hS hL H;refine ⟨fun h=>(by rw [h] at hr;cases hr),fun j hj=>?_⟩;by_cases hji:j=i
    · subst hji;exact hy.wpOp hi hS ⟨fun c hc=>hL c (List.mem_filter.1 hc).1,H⟩
    · have:=ready_mono hj hji;rw [H.1] at this;cases this
  | succ n ih=>
    intro listed L a w hfree hr hy hS hL H;refine ⟨fun h=>(by rw [h] at hr;cases hr),fun j hj=>?_⟩;by_cases hji:j=i
    · subst hji;exact hy.wpOp hi hS ⟨fun c hc=>hL c (List.mem_filter.1 hc).1,mZ _ _ _ _ _ _ (fun c hc=>List.mem_cons_of_mem _ (List.mem_filter.1 hc).1) H⟩
    · have h1:=H.2 j (ready_mono hj hji);obtain ⟨hjun,oj,hoj,hall⟩:=mem_ready.1 hj;have hnot:∀ e∈oj.after,Region.binds .any e=true→e.on≠i:=fun e he hb heq=>by
        have h1:=hall e he hb;have h0:=(mem_ready.1 hr).1;rw [heq] at h1;rcases Nat.lt_or_ge i listed.size with h' | h'
        · simp [h'] at h0 h1;rw [h0] at h1;cases h1
        · simp [Array.getElem?_eq_none h'] at h1
      have hk:keepL ops j ((i,S)::L)=(i,S)::keepL ops j L:=by
        unfold keepL;rw [List.filter_cons_of_pos (by rw [yK hoj hnot];rfl)]
      rw [hk] at h1;have h2:=wpOp_putIf hoj (hfree j oj hoj hji hjun hnot) (fun cs b=>hsel i oi cs b hi) (fun cs b=>hsel j oj cs b hoj) hQ hy h1;have hfree':∀ k ok,ops[k]? = some ok→k≠i→(listed.setIfInBounds j true).getD k true=false→
          (∀ e∈ok.after,Region.binds .any e=true→e.on≠i)→oi.apart ops ok=true:=fun k ok hk hki hun hno=>by
        refine hfree k ok hk hki ?_ hno;by_cases hjk:j=k
        · subst hjk;exact hjun
        · rw [getD_set_ne true hjk] at hun;exact hun
      refine wpOp_mono (fun a' w' h3=>?_) h2;obtain ⟨h4,h5,h6⟩:=h3;have hLk:∀ c∈keepL ops j L,c.2 w':=fun c hc=>h5 c (List.mem_cons_of_mem _ hc);refine ⟨hLk,ih (listed.setIfInBounds j true) (keepL ops j L) a' w' hfree' (ready_mono hr (Ne.symm hji)) h4 (h5 (i,S) (List.mem_cons_self ..)) hLk ?_⟩;rw [Array.setIfInBounds_comm _ _ hji];exact h6
end
theorem kK {ops:Array Oper} {Q:Exit→Act→World→Prop} {i:Nat} {S:World→Prop} (n:Nat) (listed:Array Bool) (L:List (Nat×(World→Prop))) (a:Act) (w:World) (hS:∀ w,S w) (h:wpAnyK P ops Q n listed L a w):wpAnyK P ops Q n listed ((i,S)::L) a w:=by
  induction n generalizing listed L a w with
  | zero=>exact h
  | succ n ih=>
    refine ⟨h.1,fun j hj=>wpOp_mono (fun a' w' h'=>?_) (h.2 j hj)⟩;have hk:keepL ops j ((i,S)::L)=(i,S)::keepL ops j L∨keepL ops j ((i,S)::L)=keepL ops j L:=by
      unfold keepL;rw [List.filter_cons]
      split
      · exact .inl rfl
      · exact .inr rfl
    rcases hk with hk | hk
    · rw [hk];exact ⟨fun c hc=>by
        rcases List.mem_cons.1 hc with rfl | hc
        · exact hS w'
        · exact h'.1 c hc,ih _ _ _ _ h'.2⟩
    · rw [hk];exact h'
abbrev Kon:=Nat×TypeId×Value×Value
noncomputable def KL (P:Program) (K:List Kon):List (Nat×(World→Prop)):=K.map fun c=>(c.1,fun w=>(Instr.loadAt c.2.1 c.2.2.1).run P w=.ok c.2.2.2 w)
inductive CL (σ:Sg):List Con→List Kon→Prop
  | nil:CL σ [] []
  | cons (i t p v pv vv C K):VR σ p pv→VR σ v vv→det v=true→CL σ C K→CL σ ((i,t,p,v)::C) ((i,t,pv,vv)::K)
theorem CL.mono {σ σ':Sg} (h:Sg.le σ σ'):∀ {C:List Con} {K:List Kon},CL σ C K→CL σ' C K
  | _,_,.nil=>.nil
  | _,_,.cons i t p v pv vv C K h1 h2 h3 h4=>.cons i t p v pv vv C K (h1.mono h) (h2.mono h) h3 (h4.mono h)
theorem CL.keep (o:Oper):∀ {C:List Con} {K:List Kon},CL σ C K→CL σ (keepC o C) (K.filter fun c=>!waits o c.1)
  | _,_,.nil=>.nil
  | _,_,.cons i t p v pv vv C K h1 h2 h3 h4=>by
    unfold keepC;by_cases hw:waits o i=true
    · rw [List.filter_cons_of_neg (by simp [hw]),List.filter_cons_of_neg (by simp [hw])];exact h4.keep o
    · rw [List.filter_cons_of_pos (by simp [hw]),List.filter_cons_of_pos (by simp [hw])];exact .cons i t p v pv vv _ _ h1 h2 h3 (h4.keep o)
theorem uM {h:H} {w:World} (hr:HR W σ h w):∀ {C:List Con} {K:List Kon},CL σ C K→consOk P h C=true→∀ c∈KL P K,c.2 w
  | _,_,.nil,_=>by simp [KL]
  | _,_,.cons i t p v pv vv C K h1 h2 h3 h4,hc=>by
    simp only [consOk,Bool.and_eq_true] at hc;intro c hm;simp only [KL,List.map_cons,List.mem_cons] at hm;rcases hm with rfl | hm
    · obtain ⟨hc1,_⟩:=hc
      split at hc1
      · rename_i u hu;have:=lT hc1;subst this;obtain ⟨u',h5,h6⟩:=kU (P:=P) hr h1 hu;rw [s6 h3 h2 h5];exact h6
      · cases hc1
    · exact uM hr h4 hc.2 c hm
theorem BU {ops:Array Oper} {i:Nat} {o:Oper} (hi:ops[i]? = some o) (K:List Kon):keepL ops i (KL P K)=KL P (K.filter fun c=>!waits o c.1):=by
  unfold keepL KL;rw [List.filter_map]
  congr 1
  apply List.filter_congr;intro c _;simp [waitsAt,hi]
theorem FO {call:aZ} (hcall:CallOK P W call) {ops:Array Oper} {f f':F} {h h':H} {a:Act} {w:World} (hf:FR σ f a) (hr:HR W σ h w) {i:Nat} {o:Oper} (hi:ops[i]? = some o) (hnd:∀ c,o.op≠.defer c) (hx:stepA P (noYl call) false ops f h o=some (f',h'))
    {K:Act→World→Prop} {Q:Exit→Act→World→Prop} (hK:∀ a w,St W σ f' h' a w→K a w):wpOp P ops Q i K a w:=by
  unfold wpOp;rw [hi];simp only;rw [gQ hf.t];unfold stepA at hx
  split at hx
  · rename_i hw;rw [hw,if_pos rfl]
    split at hx
    · rename_i c hop;exact absurd hop (hnd c)
    · split at hx
      rotate_left
      · cases hx
      rename_i v h1 hv
      split at hx
      rotate_left
      · cases hx
      rename_i f2 hp;cases hx;refine .inl ((zC (y:=false) (E6 hcall) (fun _ l args h=>rfl) hf.t hr hv).wp ?_);rintro u w' ⟨σ',h2,h3,h4⟩;exact hK _ _ ⟨σ',h2,h4,(hf.mono h2).put hp h3⟩
  · rename_i hw;rw [hw,if_neg (by simp)]
    split at hx
    · rename_i f1 hp;cases hx;exact hK _ _ ⟨σ,Sg.le_refl _,hr,hf.put hp .und⟩
    · cases hx
theorem pJ {call:aZ} (hcall:CallOK P W call) {ops:Array Oper} {f f':F} {h h':H} {C C':List Con} {a:Act} {w:World} {i:Nat} {s:Option Nat} (hx:execA P (noYl call) ops f h C i s=some (f',h',C')) {σ0:Sg} (hle:Sg.le σ0 σ) (hf:FR σ f a) (hr:HR W σ h w) {K:List Kon} (hc:CL σ C K)
    {Q:Exit→Act→World→Prop} {R:List (Nat×(World→Prop))→Act→World→Prop}
    (hR:∀ σ' K' a' w',Sg.le σ0 σ'→FR σ' f' a'→HR W σ' h' w'→CL σ' C' K'→(∀ c∈KL P K',c.2 w')→R (KL P K') a' w'):
    wpOp P ops Q i (fun a' w'=>(∀ c∈keepL ops i (KL P K),c.2 w')∧R (keepL ops i (KL P K)) a' w') a w:=by
  unfold execA at hx
  split at hx
  · cases hx
  rename_i o hi
  split at hx
  · cases hx
  rename_i hnd
  split at hx
  · cases hx
  rename_i h0 hs
  split at hx
  rotate_left
  · cases hx
  rename_i f1 h1 hst
  split at hx
  rotate_left
  · cases hx
  rename_i hok;cases hx;simp only [Bool.and_eq_true] at hok;refine FO hcall hf (FM hr hs) hi hnd hst ?_;rintro a' w' ⟨σ',h2,h3,h4⟩;rw [BU hi];have hc':=(hc.mono h2).keep o;have hall:=uM (P:=P) h3 hc' hok.2;exact ⟨hall,hR σ' _ a' w' (Sg.le_trans hle h2) h4 h3 hc' hall⟩
theorem XQ.panic {σ0:Sg} {e:Ex} {f:F} {h:H}:∀ c (a a':Act) w,XQ W σ0 e f h (.panic c) a w→XQ W σ0 e f h (.panic c) a' w:=fun _ _ _ _ hq=>hq.elim
theorem EC {call:aZ} (hcall:CallOK P W call) {ops:Array Oper} (hns:Region.noSelect ops=true) (base:Nat) {σ0:Sg}:∀ (p:Plan) (n:Nat) (listed:Array Bool) {f f':F} {h h':H} {C:List Con},planOk ops n listed p=true→drawA P (noYl call) ops base p f h C=some (f',h')→
    ∀ {σ:Sg} {K:List Kon} {a:Act} {w:World},Sg.le σ0 σ→FR σ f a→HR W σ h w→CL σ C K→(∀ c∈KL P K,c.2 w)→wpAnyK P ops (XQ W σ0 .nrm f' h') n listed (KL P K) a w:=by
  intro p
  induction p with
  | done=>
    intro n listed f f' h h' C hp hx σ K a w hle hf hr hc hL;simp only [drawA] at hx;cases hx;have hq:XQ W σ0 .nrm f h .normal a w:=⟨rfl,σ,hle,hr,hf⟩;cases n with
    | zero=>simp only [planOk,List.isEmpty_iff] at hp;exact ⟨hp,hq⟩
    | succ n=>simp only [planOk,List.isEmpty_iff] at hp;exact ⟨fun _=>hq,by rw [hp];simp⟩
  | take i p ih=>
    intro n listed f f' h h' C hp hx σ K a w hle hf hr hc hL;cases n with
    | zero=>simp [planOk] at hp
    | succ n=>
      simp only [planOk,Bool.and_eq_true] at hp;obtain ⟨hp1,hp2,hp3⟩:=hp;have hrd:i∈Region.ready .any ops listed:=by simpa using hp1
      simp only [drawA] at hx
      split at hx
      · cases hx
      rename_i o hi;have first:=fun {v:Value} {S:World→Prop} (hy:YieldsIf P ops S o v a) (hS:S w) (H:wpAnyK P ops (XQ W σ0 .nrm f' h') n (listed.setIfInBounds i true) ((i,S)::KL P K) (a.put o.dst v) w)=>
        qK hi (Region.noSelect_spec hns) (fun c a w hq=>XQ.panic c _ a w hq) n listed (KL P K) a w (Region.free_spec hi hp2) hrd hy hS hL H
      split at hx
      · rename_i hw
        split at hx
        · rename_i f1 hput;exact first (v:=Go.undef) (S:=fun _=>True) (.inr ⟨by rw [gQ hf.t];exact hw,rfl⟩) trivial (kK _ _ _ _ _ (fun _=>trivial) (ih n _ hp3 hx hle (hf.put hput .und) hr hc hL))
        · cases hx
      · rename_i hw;have hwt:Region.wanted o (yielded ops a.tmps)=true:=by rw [gQ hf.t];exact hw
        split at hx
        · rename_i v hv
          split at hx
          · rename_i f1 hput;obtain ⟨u,h1,h2⟩:=p8 hf.t hr hv;exact first (v:=u) (S:=fun _=>True) (.inl ⟨hwt,fun w _=>h2 w⟩) trivial (kK _ _ _ _ _ (fun _=>trivial) (ih n _ hp3 hx hle (hf.put hput h1) hr hc hL))
          · cases hx
        · split at hx
          rotate_left
          · cases hx
          rename_i t x hop
          split at hx
          rotate_left
          · cases hx
          rename_i pv hpv
          split at hx
          rotate_left
          · cases hx
          rename_i v hv
          split at hx
          rotate_left
          · cases hx
          rename_i hdet
          split at hx
          rotate_left
          · cases hx
          rename_i f1 hput;obtain ⟨u,h1,h2⟩:=kU (P:=P) hr (aU hf.t hpv) hv;have hc':CL σ ((i,t,pv,v)::C) ((i,t,a.eval x,u)::K):=.cons i t pv v (a.eval x) u C K (aU hf.t hpv) h1 hdet hc;refine first (v:=u) (S:=fun w=>(Instr.loadAt t (a.eval x)).run P w=.ok u w) (.inl ⟨hwt,fun w hwl=>?_⟩) h2 ?_
          · obtain ⟨dst,op,ty,pos,af,gd⟩:=o;simp only at hop;subst hop;exact bH hwl
          · have:=ih n _ hp3 hx hle (hf.put hput h1) hr hc' (fun c hm=>by
              simp only [KL,List.map_cons,List.mem_cons] at hm;rcases hm with rfl | hm
              · exact h2
              · exact hL c hm)
            exact this
  | exec i s p ih=>
    intro n listed f f' h h' C hp hx σ K a w hle hf hr hc hL;cases n with
    | zero=>simp [planOk] at hp
    | succ n=>
      simp only [planOk,Bool.and_eq_true,decide_eq_true_eq] at hp;simp only [drawA] at hx
      split at hx
      rotate_left
      · cases hx
      rename_i f1 h1 C1 hex;refine ⟨fun e=>(by rw [hp.1] at e;cases e),fun j hj=>?_⟩;rw [hp.1] at hj;obtain rfl:j=i:=by simpa using hj
      exact pJ hcall hex hle hf hr hc (R:=fun L a' w'=>wpAnyK P ops (XQ W σ0 .nrm f' h') n (listed.setIfInBounds j true) L a' w') fun σ' K' a' w' h2 h3 h4 h5 h6=>ih n _ hp.2 hx h2 h3 h4 h5 h6
  | fork i s p j s' q ihp ihq=>
    intro n listed f f' h h' C hp hx σ K a w hle hf hr hc hL;cases n with
    | zero=>simp [planOk] at hp
    | succ n=>
      simp only [planOk,Bool.and_eq_true,decide_eq_true_eq] at hp;simp only [drawA] at hx
      split at hx
      rotate_left
      · cases hx
      rename_i f1 h1 C1 f2 h2 C2 hex1 hex2
      split at hx
      rotate_left
      · cases hx
      rename_i r1 r2 hd1 hd2
      split at hx
      rotate_left
      · cases hx
      rename_i heq;have e12:=GP heq;cases hx;subst e12;refine ⟨fun e=>(by rw [hp.1] at e;cases e),fun k hk=>?_⟩;rw [hp.1] at hk;simp only [List.mem_cons,List.not_mem_nil,or_false] at hk;rcases hk with rfl | rfl
      · exact pJ hcall hex1 hle hf hr hc (R:=fun L a' w'=>wpAnyK P ops (XQ W σ0 .nrm f' h') n (listed.setIfInBounds k true) L a' w') fun σ' K' a' w' h2 h3 h4 h5 h6=>ihp n _ hp.2.1 hd1 h2 h3 h4 h5 h6
      · exact pJ hcall hex2 hle hf hr hc (R:=fun L a' w'=>wpAnyK P ops (XQ W σ0 .nrm f' h') n (listed.setIfInBounds k true) L a' w') fun σ' K' a' w' h2 h3 h4 h5 h6=>ihq n _ hp.2.2 hd2 h2 h3 h4 h5 h6
theorem tP {h:H} {w:World} (hr:HR W σ h w) (b:Nat):HR W σ (relieve h b) w:=by
  have hs:∀ i,i∈(relieve h b).rs→i∈h.rs:=fun i hi=>(List.mem_filter.1 hi).1;exact ⟨hr.obj,hr.inj,hr.fre,fun i hi=>hr.frs i (hs i hi),fun i hi=>⟨(hr.fsl i hi).1,(hr.fsl i hi).2.1,fun e=>(hr.fsl i hi).2.2 (hs i e)⟩,fun i hi=>hr.rsl i (hs i hi),hr.rnd.filter _,hr.bel⟩
theorem AG (hm:P.follows .mixedOrders=true) {call:aZ} (hcall:CallOK P W call):k9 P W (drawC P call):=by
  intro id ops f h f' h' hx σ a w hf hr;unfold drawC at hx;simp only at hx
  split at hx
  rotate_left
  · cases hx
  rename_i hc;simp only [Bool.and_eq_true] at hc;have key:∀ (base:Nat) (p:Plan) (hs:H) (f1:F) (h1:H),planOk ops ops.size (Array.replicate ops.size false) p=true→drawA P (noYl call) ops base p f hs []=some (f1,h1)→HR W σ hs w→
      (Code.region id ops true).wp P (XQ W σ .nrm f1 h1) a w:=fun base p hs f1 h1 hp hd hr'=>
    wp_region_any hm (nA _ _ _ _ _ (EC hcall hc.1 base p ops.size _ hp hd (Sg.le_refl _) hf hr'.drew .nil (by simp [KL])))
  split at hx
  · split at hx
    · rename_i hp
      split at hx
      · rename_i f1 h1 hd;cases hx;refine wp_mono (key _ _ _ _ _ hp hd (tR hr _)) fun e a' w' hq=>?_;cases e with
        | normal=>obtain ⟨_,σ',h2,h3,h4⟩:=hq;exact ⟨rfl,σ',h2,tP h3 _,h4⟩
        | exit i=>exact absurd hq.1 (by simp)
        | ret=>exact absurd hq.1 (by simp)
        | goto l=>exact absurd hq.1 (by simp)
        | panic ch=>exact hq.elim
        | outgrown=>exact hq.elim
      · cases hx
    · cases hx
  · split at hx
    · rename_i hp;exact key _ _ _ _ _ hp hx hr
    · cases hx
end Go.Proofs.YtpidmmfjcghmeaaGreat.Ab
namespace Go.Proofs.YtpidmmfjcghmeaaGreat.Ab
open Go.RowKit
variable {σ:Sg} {W:World}
theorem cV:(Tryz.prog.info? 141).map (·.size)=some 2:=by kernel_rfl
theorem g9:Tryz.prog.cellsOf 141=2:=by kernel_rfl
theorem pL:sameLayout Tryz.prog Tryz.prog.depth 141 141=true:=by kernel_rfl
theorem pS (k:Nat) (hk:2≤k):liesAt Tryz.prog Tryz.prog.depth 141 (k / Tryz.prog.cellsOf 141) 0 141 1=true:=by
 rw [g9];have h2:1≤k / 2:=by omega
 have hr:∀ d,rowAt Tryz.prog (sameLayout Tryz.prog Tryz.prog.depth · 141) (d+1) 141 (k / 2) 0 1=true:=fun d=>by
  rw [rowAt];simp only [g9];rw [if_neg (by decide)];simp [h2,pL]
 have hd:∃ d,Tryz.prog.depth=d+1:=⟨2*(Tryz.prog.types.size+Made.depth)+1,rfl⟩;obtain ⟨d,hd⟩:=hd;have h3:=hr d;rw [← hd] at h3;have h4:∀ e,liesAt Tryz.prog (e+1) 141 (k / 2) 0 141 1=true:=fun e=>by
  rw [liesAt,h3];rfl
 have h5:=h4 d;rw [← hd] at h5;exact h5
theorem AD (b:Nat) (w:World) (h0:w.cell? ⟨b,0,none⟩=some (.pointer (some ⟨b,0,none⟩))):
  Calls Tryz.prog 135 #[.pointer (some ⟨b,0,none⟩)] w fun e w'=>e=.returned (.tuple #[])∧w=w':=by
 obtain ⟨j,hj,_⟩:=Option.map_eq_some_iff.1 cV;go_enter Tryz.func135,Tryz.ntmps135;go_wp2;rw [Lib.run_neq_ptr_same w _ Tryz.underlying138 hj];go_wp2
 go_end0
 exact ⟨rfl,rfl⟩
theorem wT {k:Nat} (hk:2≤k) (b:Nat) (w:World) (h0:w.cell? ⟨b,0,none⟩=some (.pointer none)) (hsh:w.shape? b=some (141,k)) (hfz:w.frozen? ⟨b,0,none⟩=false):
  Calls Tryz.prog 135 #[.pointer (some ⟨b,0,none⟩)] w fun e w'=>e=.returned (.tuple #[])∧w.setCell ⟨b,0,none⟩ (.pointer (some ⟨b,0,none⟩))=w':=by
 obtain ⟨j,hj,hjs⟩:=Option.map_eq_some_iff.1 cV;go_enter Tryz.func135,Tryz.ntmps135;go_wp2;rw [Lib.run_to_unsafe w ⟨b,0,none⟩ Tryz.underlying138 Tryz.underlying285 hj (by rw [hjs];decide) hsh (by show 0<k;omega)];simp only [Result.andThen];rw [Oper.upon_value];go_wp2;rw [run_callFunc_extern Tryz.func207 (by kernel_rfl) (by kernel_rfl) (by kernel_rfl) (e:=Extern.AbiNoEscape.same) (by kernel_rfl)];rw [Lib.run_noEscape];simp only [Result.andThen];rw [Oper.upon_value];go_wp2;rw [Lib.run_from_unsafe w ⟨b,0,none⟩ Tryz.underlying285 Tryz.underlying138 hj hsh (pS k hk)];simp only [Result.andThen];rw [Oper.upon_value];go_wp2
 go_end0
 exact ⟨rfl,rfl⟩
theorem iF:Tryz.prog.cellsOf 5=1:=by kernel_rfl
theorem wY {w:World} {b n:Nat} {c:Array Value} {ty:TypeId} (h:w.heap[b]? = some (.cells c ty (0,0))) (hn:n≠0):w.freeze ⟨b,0,none⟩ n=World.upd w b (.cells c ty (0,0+n)):=by
 unfold World.freeze World.upd;rw [if_neg hn]
 congr 1
 apply Array.ext_getElem?;intro i;rw [Array.getElem?_modify,Array.getElem?_setIfInBounds];by_cases e:b=i
 ·subst e;rw [if_pos rfl,if_pos rfl,h];have hlt:b<w.heap.size:=(gL h).1;simp [hlt]
 ·rw [if_neg e,if_neg e]
theorem IQ (b g cap:Nat) (cur:Array Value) (l:List UInt8) (w:World) (h0:l≠[]) (hsm:l.length≤1000000) (h1:w.cell? ⟨b,1,none⟩=some (.slice (some ⟨g,0,none⟩) l.length cap)) (hcap:l.length≤cap)
  (hg:w.heap[g]? = some (.cells cur 5 (0,0))) (hle:l.length≤cur.size) (hc:∀ j x,l[j]? = some x→w.cell? ⟨g,j,none⟩=some (.int .u8 x.toNat)):
  Calls Tryz.prog 70 #[.pointer (some ⟨b,0,none⟩)] w fun e w'=>e=.returned (.string ⟨l.toArray⟩)∧w'=w.drew.freeze ⟨g,0,none⟩ l.length:=by
 have hl0:l.length≠0:=by simpa using h0
 have c1:w.drew.cell? ⟨b,1,none⟩=some (.slice (some ⟨g,0,none⟩) l.length cap):=h1;have hSD:(Builtin.unsafeSliceData_ #[139] 231 #[.slice (some ⟨g,0,none⟩) l.length cap]).run Tryz.prog w.drew=.ok (.pointer (some ⟨g,0,none⟩)) w.drew:=
  Lib.run_unsafeSliceData_row _ _ _ _ _ _ (by omega)
 have hUS:(Builtin.unsafeString_ #[231,3] 9 #[.pointer (some ⟨g,0,none⟩),.int .i64 l.length]).run Tryz.prog w.drew=.ok (.string ⟨l.toArray⟩) (w.drew.freeze ⟨g,0,none⟩ l.length):=by
  refine Lib.run_unsafeString_row w.drew 231 3 9 5 Tryz.underlying231 iF g cur.size (by have hg':w.drew.heap[g]? = some (.cells cur 5 (0,0)):=hg;simp [World.shape?,hg']) l h0 hle (by omega) ?_;intro j x hx;rw [dQ,Nat.zero_add];exact hc j x hx
 go_enter Tryz.func70,Tryz.ntmps70;go_wp2
 go_region
 all_goals (go_wp2;go_ret;exact ⟨rfl,rfl⟩)
noncomputable def bytesA:List AV→Option (List UInt8)
 | []=>some []
 | .i .u8 (.ofNat n)::l=>if n<256 then (match bytesA l with | some r=>some (UInt8.ofNat n::r) | none=>none) else none
 | _=>none
noncomputable def hCopy (args:List AV) (h:H):Option (AV×H):=match args with
 | [.ptr id 0]=>match h.get id with
  | some (.cells [p,s] ty)=>if ty=141 then (match p with
   | .np=>some (und,h.set id (some (.cells [.ptr id 0,s] ty)))
   | .ptr i 0=>if i=id then some (und,h) else none
   | _=>none) else none
  | _=>none
 | _=>none
noncomputable def hStr (args:List AV) (h:H):Option (AV×H):=match args with
 | [.ptr id 0]=>match h.get id with
  | some (.cells [_,.so r 0 n 1] _)=>match h.get r with
   | some (.cells c ty)=>if ty=5∧0<n∧n≤1000000∧n≤c.length then (match bytesA (c.take n) with | some l=>some (.s ⟨l.toArray⟩,h.set r none) | none=>none) else none
   | _=>none
  | _=>none
 | _=>none
noncomputable def hIdx (args:List AV) (h:H):Option (AV×H):=match args with
 | [.s x,.i .u8 c]=>some (.i .i64 (Lib.indexByte x.data.toList c.toNat.toUInt8),h)
 | _=>none
noncomputable def hName (args:List AV) (h:H):Option (AV×H):=match args with
 | [.s x]=>if x.size≤1000000 then some (.b (Chr.name x.data.toList),h) else none
 | _=>none
theorem HR.below {h:H} {w w':World} (hr:HR W σ h w) (hb:Below w.heap.size w w'):HR W σ h w':=by
 refine ⟨fun i o hi=>?_,hr.inj,hr.fre,hr.frs,hr.fsl,hr.rsl,hr.rnd, ?_⟩
 ·obtain ⟨b,k,h1,h2,h3,h4⟩:=hr.obj i o hi;have hs:=hb.size;exact ⟨b,k,h1,h2,by omega,by rw [hb.block b h3];exact h4⟩
 ·have hs:=hr.bel.size;exact hr.bel.trans ⟨hb.os,hb.tape,hb.output,hb.size,fun k hk=>hb.block k (by omega)⟩
theorem ent {k : Nat} {fn : Func} (hk : Tryz.prog.funcs[k]? = some fn) (hb : fn.body.isNone = false) (hn : (fn.name == "runtime.NumGoroutine") = false) (args : Array Value) (w : World) : (callFunc k args).run Tryz.prog w = .ok (.enter k args) w := by
 unfold callFunc;simp only [program,Bind.bind,Sem.bind,Sem.run,hk,hn,hb,Bool.false_eq_true,if_false];rfl
theorem nP:∀ {l:List AV} {r:List UInt8},bytesA l=some r→∀ {vs:List Value},VL σ l vs→r.length=l.length∧∀ (j:Nat) (x:UInt8),r[j]? = some x→vs[j]? = some (.int .u8 x.toNat)
 | [],r,h,vs,hv=>by simp only [bytesA] at h;cases h;exact ⟨rfl,fun j x hj=>by simp at hj⟩
 | x::l,r,h,vs,hv=>by
  unfold bytesA at h
  split at h
  ·rename_i e;cases e
  ·rename_i n l' e;cases e
   split at h
   ·rename_i hn
    split at h
    ·rename_i r' hr';cases h;cases hv with
     | cons _ v _ vs h1 h2=>
      cases h1;obtain ⟨h3,h4⟩:=nP hr' h2;refine ⟨by simp [h3],fun j x hj=>?_⟩;cases j with
      | zero=>
       simp only [List.getElem?_cons_zero,Option.some.injEq] at hj ⊢;subst hj;have:(UInt8.ofNat n).toNat=n:=by simp [Nat.mod_eq_of_lt hn]
       rw [this];rfl
      | succ j=>simp only [List.getElem?_cons_succ] at hj ⊢;exact h4 j x hj
    ·cases h
   ·cases h
  ·cases h
theorem AT {args:List AV} {h:H} {r:AV×H} (hx:hCopy args h=some r) {w:World} {us:List Value} (hr:HR W σ h w) (hv:VL σ args us):
  Calls Tryz.prog 135 us.toArray w (fun e w'=>∃ v,e=.returned v∧Rs W σ r v w'):=by
 unfold hCopy at hx
 split at hx
 rotate_left
 ·cases hx
 rename_i id
 split at hx
 rotate_left
 ·cases hx
 rename_i p s ty hg
 split at hx
 rotate_left
 ·cases hx
 rename_i hty;subst hty;cases hv with
 | cons _ v _ _ h1 h2=>
  cases h2;cases h1 with
  | ptr _ _ b k hb=>
   obtain ⟨b',k',hb',_,hlt,ho⟩:=hr.obj _ _ hg;obtain ⟨rfl,rfl⟩:b'=b∧k'=k:=by rw [hb] at hb';simpa using hb'.symm
   obtain ⟨c,hc,hck,hcl,hcv⟩:=ho.row;have hl2:2≤c.length:=hcl;obtain ⟨pv,hpv,hp1⟩:=hcv.get (i:=0) (x:=p) rfl;have hc0:c[0]? = some pv:=by rw [List.getElem?_take] at hpv;simpa using hpv
   have hcell:w.cell? ⟨b',0,none⟩=some pv:=by simp [World.cell?,hc,hc0]
   have hfz:w.frozen? ⟨b',0,none⟩=false:=by simp [World.frozen?,hc]
   have hsh:w.shape? b'=some (141,c.length):=by simp [World.shape?,hc]
   split at hx
   ·cases hx;cases hp1;refine (wT hl2 b' w hcell hsh hfz).mono ?_;rintro e w' ⟨rfl,rfl⟩;refine ⟨_,rfl,σ,Sg.le_refl _,.und, ?_⟩;rw [iL hc];have e1:c.toArray.setIfInBounds 0 (.pointer (some ⟨b',0,none⟩))=(dM c 0 [.pointer (some ⟨b',0,none⟩)]).toArray:=by simp [dM]
    rw [e1];exact hr.upd hg hb (OR.put hck hcl hcv (off:=0) (new:=[.ptr id 0]) (by simp [putL]) (.cons _ _ _ _ (.ptr _ _ _ _ hb) .nil))
   ·rename_i i
    split at hx
    ·rename_i hii;subst hii;cases hx;cases hp1 with
     | ptr _ _ b2 k2 hb2=>
      obtain ⟨rfl,rfl⟩:b'=b2∧k'=k2:=by rw [hb] at hb2;simpa using hb2
      refine (AD b' w hcell).mono ?_;rintro e w' ⟨rfl,rfl⟩;exact ⟨_,rfl,σ,Sg.le_refl _,.und,hr⟩
    ·cases hx
   ·cases hx
theorem EL {args:List AV} {h:H} {r:AV×H} (hx:hStr args h=some r) {w:World} {us:List Value} (hr:HR W σ h w) (hv:VL σ args us):
  Calls Tryz.prog 70 us.toArray w (fun e w'=>∃ v,e=.returned v∧Rs W σ r v w'):=by
 unfold hStr at hx
 split at hx
 rotate_left
 ·cases hx
 rename_i id
 split at hx
 rotate_left
 ·cases hx
 rename_i p q n ty hg
 split at hx
 rotate_left
 ·cases hx
 rename_i row ty2 hg2
 split at hx
 rotate_left
 ·cases hx
 rename_i hcond;obtain ⟨rfl,hn0,hn1,hn2⟩:=hcond
 split at hx
 rotate_left
 ·cases hx
 rename_i l hl;cases hx;cases hv with
 | cons _ v _ _ h1 h2=>
  cases h2;cases h1 with
  | ptr _ _ b k hb=>
   obtain ⟨b',k',hb',_,hlt,ho⟩:=hr.obj _ _ hg;obtain ⟨rfl,rfl⟩:b'=b∧k'=k:=by rw [hb] at hb';simpa using hb'.symm
   obtain ⟨c,hc,hck,hcl,hcv⟩:=ho.row;obtain ⟨sv,hsv,hs1⟩:=hcv.get (i:=1) (x:=.so q 0 n 1) rfl;have hc1:c[1]? = some sv:=by rw [List.getElem?_take] at hsv;simpa using hsv
   have hcell:w.cell? ⟨b',1,none⟩=some sv:=by simp [World.cell?,hc,hc1]
   cases hs1 with
   | so _ _ _ _ g kg cap hgs hk=>
    obtain ⟨g',kg',hgs',_,hglt,hor⟩:=hr.obj _ _ hg2;obtain ⟨rfl,rfl⟩:g'=g∧kg'=kg:=by rw [hgs] at hgs';simpa using hgs'.symm
    obtain ⟨cc,hcc,hcck,hccl,hccv⟩:=hor.row;obtain ⟨h3,h4⟩:=nP hl (hccv.take n);have hln:l.length=n:=by rw [h3,List.length_take];omega
    have hne:l≠[]:=fun e=>by rw [e] at hln;simp at hln;omega
    subst hln;refine (IQ b' g' cap cc.toArray l w hne hn1 hcell (by omega) hcc (by simp;omega) fun j x hj=>?_).mono ?_
    ·have hjl:j<l.length:=(gY hj).1;have h5:=h4 j x hj;rw [List.take_take,List.getElem?_take] at h5
     split at h5
     ·simp [World.cell?,hcc,h5]
     ·cases h5
    ·rintro e w' ⟨rfl,rfl⟩;refine ⟨_,rfl,σ,Sg.le_refl _,.s _, ?_⟩;rw [wY (w:=w.drew) hcc (by omega)];exact hr.drew.loose hg2 hgs _
theorem EK {args:List AV} {h:H} {r:AV×H} (hx:hIdx args h=some r) {w:World} {us:List Value} (hr:HR W σ h w) (hv:VL σ args us):
  Calls Tryz.prog 235 us.toArray w (fun e w'=>∃ v,e=.returned v∧Rs W σ r v w'):=by
 unfold hIdx at hx
 split at hx
 ·rename_i x c;cases hx;cases hv with
  | cons _ v _ _ h1 h2=>cases h2 with
   | cons _ v2 _ _ h3 h4=>
    cases h4;cases h1;cases h3;refine (rJ x c w).mono ?_;rintro e w' ⟨rfl,rfl⟩;exact ⟨_,rfl,σ,Sg.le_refl _,by rw [Lib.toList_data];exact .i _ _,hr⟩
 ·cases hx
theorem AU {args:List AV} {h:H} {r:AV×H} (hx:hName args h=some r) {w:World} {us:List Value} (hr:HR W σ h w) (hv:VL σ args us):
  Calls Tryz.prog 144 us.toArray w (fun e w'=>∃ v,e=.returned v∧Rs W σ r v w'):=by
 unfold hName at hx
 split at hx
 ·rename_i x
  split at hx
  ·rename_i hs;cases hx;cases hv with
   | cons _ v _ _ h1 h2=>
    cases h2;cases h1;refine (B9 x w (by omega)).mono ?_;rintro e w' ⟨rfl,hb⟩;exact ⟨_,rfl,σ,Sg.le_refl _,by rw [Lib.toList_data];exact .b _,hr.below hb⟩
  ·cases hx
 ·cases hx
noncomputable def hook (n:Nat):Option (List AV→H→Option (AV×H)):=
 match decide (n=135),decide (n=70),decide (n=235),decide (n=144) with
 | true,_,_,_=>some hCopy
 | _,true,_,_=>some hStr
 | _,_,true,_=>some hIdx
 | _,_,_,true=>some hName
 | _,_,_,_=>none
noncomputable def cfg:Cfg:={ hook:=hook,fuel:=400,draw:=fun call _=>drawC Tryz.prog call }
theorem follows:Tryz.prog.follows .mixedOrders=true:=by kernel_rfl
theorem xK : (Tryz.prog.funcs.toList.all fun fn => !(fn.name == "runtime.NumGoroutine")) = true := by kernel_rfl
theorem fM (k : Nat) (fn : Func) (h : Tryz.prog.funcs[k]? = some fn) : (fn.name == "runtime.NumGoroutine") = false := by
 have h1:=List.all_eq_true.1 xK fn (Array.mem_toList_iff.2 (Array.mem_of_getElem? h))
 simpa using h1
theorem EM (k:Nat) (g:List AV→H→Option (AV×H)) (hk:hook k=some g) (args:List AV) (h:H) (r:AV×H) (hx:g args h=some r) (σ:Sg) (w:World) (us:List Value) (hr:HR W σ h w) (hv:VL σ args us):
  (callFunc k us.toArray).run Tryz.prog w=.ok (.enter k us.toArray) w∧Calls Tryz.prog k us.toArray w (fun e w'=>∃ v,e=.returned v∧Rs W σ r v w'):=by
 unfold hook at hk
 split at hk
 ·rename_i h1;cases hk;simp only [decide_eq_true_eq] at h1;subst h1;exact ⟨ent Tryz.func135 (by kernel_rfl) (fM _ _ Tryz.func135) _ _,AT hx hr hv⟩
 ·rename_i h1 _;cases hk;simp only [decide_eq_true_eq] at h1;subst h1;exact ⟨ent Tryz.func70 (by kernel_rfl) (fM _ _ Tryz.func70) _ _,EL hx hr hv⟩
 ·rename_i h1 _ _;cases hk;simp only [decide_eq_true_eq] at h1;subst h1;exact ⟨ent Tryz.func235 (by kernel_rfl) (fM _ _ Tryz.func235) _ _,EK hx hr hv⟩
 ·rename_i h1 _ _ _;cases hk;simp only [decide_eq_true_eq] at h1;subst h1;exact ⟨ent Tryz.func144 (by kernel_rfl) (fM _ _ Tryz.func144) _ _,AU hx hr hv⟩
 ·cases hk
theorem fI:CfgOK Tryz.prog W cfg:=⟨fM,EM,fun _ hcall _=>AG follows hcall⟩
end Go.Proofs.YtpidmmfjcghmeaaGreat.Ab
namespace Go.Proofs.YtpidmmfjcghmeaaGreat.Ab
open Go.RowKit
variable {σ:Sg} {W:World}
noncomputable def text:AV:=.s ⟨#[37,116,111,107,101,110,32,65,32,66,32,37,37,32,115,32,58,32,65,32,115,32,124,32,66,32,59]⟩
noncomputable def vP:AV:=(.tup [(.agg [(.so 86 0 2 1),(.so 91 0 1 1),(.so 152 0 2 2),(.i .i64 3)]),.ni])
noncomputable def hPK:List Nat:=[86,91,133,150,152]
noncomputable def hPL:List (Nat×AO):=[(86,.cells [(.s ⟨#[65]⟩),(.s ⟨#[66]⟩)] 9),
 (91,.cells [(.s ⟨#[115]⟩)] 9),
 (133,.cells [(.i .i64 1),(.i .i64 3)] 3),
 (150,.cells [(.i .i64 2)] 3),
 (152,.cells [(.i .i64 3),(.so 133 0 2 1),(.i .i64 3),(.so 150 0 1 1)] 64)]
noncomputable def hPN:Nat:=153
noncomputable def vM:AV:=(.tup [(.ptr 2016 0),(.i .i64 0)])
noncomputable def hMK:List Nat:=[86,91,133,150,152,153,1774,1777,1779,1810,1829,1860,1879,1909,1925,1954,1970,2000,2005,2010,2016]
noncomputable def hML:List (Nat×AO):=[(86,.cells [(.s ⟨#[65]⟩),(.s ⟨#[66]⟩)] 9),
 (91,.cells [(.s ⟨#[115]⟩)] 9),
 (133,.cells [(.i .i64 1),(.i .i64 3)] 3),
 (150,.cells [(.i .i64 2)] 3),
 (152,.cells [(.i .i64 3),(.so 133 0 2 1),(.i .i64 3),(.so 150 0 1 1)] 64),
 (153,.cells [(.so 86 0 2 1),(.so 91 0 1 1),(.so 152 0 2 2),(.i .i64 3)] 25),
 (1774,.cells [(.i .i64 3)] 3),
 (1777,.cells [(.i .i64 3),(.so 133 0 2 1),(.i .i64 3),(.so 150 0 1 1),(.i .i64 0),(.sl 1774 0 1 1)] 64),
 (1779,.cells [(.i .i64 0),(.i .i64 0),(.i .i64 1),(.i .i64 1),(.i .i64 1),(.i .i64 2)] 48),
 (1810,.cells [(.i .i64 3)] 3),
 (1829,.cells [(.i .i64 0),(.i .i64 0),(.i .i64 1),(.i .i64 1),(.i .i64 1),(.i .i64 2)] 48),
 (1860,.cells [(.i .i64 4)] 3),
 (1879,.cells [(.i .i64 2),(.i .i64 1),(.i .i64 0),(.i .i64 0),(.i .i64 0),(.i .i64 0)] 48),
 (1909,.cells [(.i .i64 (-1))] 3),
 (1925,.cells [(.i .i64 3),(.i .i64 0),(.i .i64 0),(.i .i64 0),(.i .i64 0),(.i .i64 0)] 48),
 (1954,.cells [(.i .i64 (-1))] 3),
 (1970,.cells [(.i .i64 2),(.i .i64 0),(.i .i64 0),(.i .i64 0),(.i .i64 0),(.i .i64 0)] 48),
 (2000,.cells [(.i .i64 (-1))] 3),
 (2005,.cells [(.sl 1779 0 3 3),(.sl 1829 0 3 3),(.sl 1879 0 3 3),(.sl 1925 0 3 3),(.sl 1970 0 3 3)] 165),
 (2010,.cells [(.sl 1810 0 1 1),(.sl 1860 0 1 1),(.sl 1909 0 1 1),(.sl 1954 0 1 1),(.sl 2000 0 1 1)] 26),
 (2016,.cells [(.so 86 0 2 1),(.so 91 0 1 1),(.so 152 0 2 2),(.i .i64 3),(.so 1777 0 3 2),(.i .i64 2),(.i .i64 1),(.so 2005 0 5 1),(.so 2010 0 5 1)] 130)]
noncomputable def hMN:Nat:=2017
noncomputable def vT:AV:=(.tup [(.s ⟨#[40,115,32,65,32,40,115,32,65,32,40,115,32,66,41,41,41]⟩),(.i .i64 (-1))])
noncomputable def hTK:List Nat:=[86,91,133,150,152,153]
noncomputable def hTL:List (Nat×AO):=[(86,.cells [(.s ⟨#[65]⟩),(.s ⟨#[66]⟩)] 9),
 (91,.cells [(.s ⟨#[115]⟩)] 9),
 (133,.cells [(.i .i64 1),(.i .i64 3)] 3),
 (150,.cells [(.i .i64 2)] 3),
 (152,.cells [(.i .i64 3),(.so 133 0 2 1),(.i .i64 3),(.so 150 0 1 1)] 64),
 (153,.cells [(.so 86 0 2 1),(.so 91 0 1 1),(.so 152 0 2 2),(.i .i64 3)] 25)]
noncomputable def hTN:Nat:=2341
noncomputable def vS:AV:=(.s ⟨#[37,116,111,107,101,110,32,65,32,66,10,37,115,116,97,114,116,32,115,10,37,37,10,115,32,58,32,65,32,115,10,9,124,32,66,10,9,59,10]⟩)
noncomputable def hSN:Nat:=2452
noncomputable def mkT:List (Nat×AO)→T AO
 | []=>.nil
 | (i,o)::l=>(mkT l).set i (some o)
noncomputable def prune (h:H):List Nat→T AO
 | []=>.nil
 | i::l=>(prune h l).set i (h.get i)
noncomputable def gC:List AV:=[(.so 86 0 2 1),(.so 91 0 1 1),(.so 152 0 2 2),(.i .i64 3)]
noncomputable def h00:H:=⟨.nil,0,[],none⟩
noncomputable def rP:AV×H:=(vP,⟨mkT hPL,hPN,[],none⟩)
noncomputable def hM0:H:=⟨(mkT hPL).set hPN (some (.cells gC 25)),hPN+1,[],none⟩
noncomputable def rM:AV×H:=(vM,⟨mkT hML,hMN,[],none⟩)
noncomputable def vTabs:AV:=match vM with | .tup (v::_)=>v | _=>.np
noncomputable def hT0:H:=⟨(mkT hML).set hMN (some (.cells [.i .i64 1,.i .i64 1,.i .i64 2] 3)),hMN+1,[],none⟩
noncomputable def rT:AV×H:=(vT,⟨mkT hTL,hTN,[],none⟩)
noncomputable def rS:AV×H:=(vS,⟨.nil,hSN,[],none⟩)
noncomputable def chk (r:Option (AV×H)) (v:AV) (keep:List Nat) (t:T AO) (n:Nat):Bool:=
 match r with
 | some (u,h)=>eqA u v&&(decide (h.nx≤n)&&(decide (h.rs=[])&&(decide (h.sl=none)&&eqT eqO (prune h keep) t)))
 | none=>false
theorem GK {r:Option (AV×H)} {v:AV} {keep:List Nat} {t:T AO} {n:Nat} (h:chk r v keep t n=true):∃ h',r=some (v,h')∧h'.nx≤n∧h'.rs=[]∧h'.sl=none∧prune h' keep=t:=by
 unfold chk at h
 split at h
 ·rename_i u h';simp only [Bool.and_eq_true,decide_eq_true_eq] at h;obtain ⟨h1,h2,h3,h4,h5⟩:=h;exact ⟨h',by rw [lT h1],h2,h3,h4,jV (fun _ _ e=>tA e) h5⟩
 ·cases h
theorem oR (h:H):∀ (l:List Nat) (i:Nat) (o:AO),(prune h l).get i=some o→h.get i=some o
 | [],i,o,hi=>by simp [prune,T.get_nil] at hi
 | j::l,i,o,hi=>by
  rw [prune,T.get_set] at hi
  split at hi
  ·rename_i e;rw [e];exact hi
  ·exact oR h l i o hi
theorem HR.pruned {h:H} {w:World} (hr:HR W σ h w) {keep:List Nat} {t:T AO} {n:Nat} (hn:h.nx≤n) (hp:prune h keep=t):HR W σ ⟨t,n,[],none⟩ w:=by
 have hg:∀ i o,(H.get ⟨t,n,[],none⟩ i)=some o→h.get i=some o:=fun i o hi=>by
  have:t.get i=some o:=hi;rw [← hp] at this;exact oR h keep i o this
 have hg':∀ i,(H.get ⟨t,n,[],none⟩ i)≠none→h.get i≠none:=fun i hi=>by
  cases e:H.get ⟨t,n,[],none⟩ i with
  | none=>exact absurd e hi
  | some o=>rw [hg i o e];simp
 exact ⟨fun i o hi=>hr.obj i o (hg i o hi),fun i j b k k' h1 h2=>hr.inj i j b k k' (hg' i h1) (hg' j h2),fun i hi=>hr.fre i (gP hn hi),(fun i hi=>by cases hi),(fun i hi=>by cases hi),(fun i hi=>by cases hi),List.nodup_nil,hr.bel⟩
noncomputable def litG (args0:List AV) (h0:H) (r:AV×H) (args:List AV) (h:H):Option (AV×H):=
 match kN args args0&&(eqT eqO h.hp h0.hp&&(decide (h.nx=h0.nx)&&(decide (h.rs=h0.rs)&&decide (h.sl=h0.sl)))) with
 | true=>some r
 | false=>none
noncomputable def addHook (C:Cfg) (k:Nat) (g:List AV→H→Option (AV×H)):Cfg:=
 { hook:=fun n=>match decide (n=k) with | true=>some g | false=>C.hook n,fuel:=C.fuel,draw:=C.draw }
def Known (W:World) (k:Nat) (g:List AV→H→Option (AV×H)):Prop:=
 ∀ args h r,g args h=some r→∀ (σ:Sg) (w:World) (us:List Value),HR W σ h w→VL σ args us→
  (callFunc k us.toArray).run Tryz.prog w=.ok (.enter k us.toArray) w∧Calls Tryz.prog k us.toArray w (fun e w'=>∃ v,e=.returned v∧Rs W σ r v w')
theorem cO {C:Cfg} (hC:CfgOK Tryz.prog W C) {k:Nat} {g:List AV→H→Option (AV×H)} (hg:Known W k g):CfgOK Tryz.prog W (addHook C k g):=by
 refine ⟨hC.nam,fun n g' hn args h r hx σ w us hr hv=>?_,hC.draw⟩;have hn:(match decide (n=k) with | true=>some g | false=>C.hook n)=some g':=hn
 split at hn
 ·rename_i hd;cases hn;simp only [decide_eq_true_eq] at hd;subst hd;exact hg args h r hx σ w us hr hv
 ·exact hC.hook n g' hn args h r hx σ w us hr hv
theorem iI {C:Cfg} (hC:CfgOK Tryz.prog W C) {k:Nat} {args0:List AV} {h0:H} {v:AV} {keep:List Nat} {t:T AO} {n:Nat} (hc:chk (callA Tryz.prog C 25 (.fn k) args0 h0) v keep t n=true):Known W k (litG args0 h0 (v,⟨t,n,[],none⟩)):=by
 intro args h r hx σ w us hr hv;unfold litG at hx
 split at hx
 ·rename_i he;cases hx;simp only [Bool.and_eq_true,decide_eq_true_eq] at he;obtain ⟨e1,e2,e3,e4,e5⟩:=he;have ea:=d9 e1;have eh:h=h0:=by
   obtain ⟨hp,nx,rs,sl⟩:=h;obtain ⟨hp',nx',rs',sl'⟩:=h0;simp only at e2 e3 e4 e5;rw [jV (fun _ _ e=>tA e) e2,e3,e4,e5]
  subst ea eh;obtain ⟨h',h1,h2,h3,h4,h5⟩:=GK hc;obtain ⟨h6,h7⟩:=(o8 hC 25).fn k args h _ h1 σ w us hr hv;refine ⟨h6,h7.mono ?_⟩;rintro e w' ⟨u,rfl,σ',h8,h9,h10⟩;exact ⟨u,rfl,σ',h8,h9,h10.pruned h2 h5⟩
 ·cases hx
noncomputable def aB:List AV:=[(.agg [(.so 86 0 2 1),(.so 91 0 1 1),(.so 152 0 2 2),(.i .i64 3)])]
noncomputable def iBL:List (Nat×AO):=[(86,.cells [(.s ⟨#[65]⟩),(.s ⟨#[66]⟩)] 9),
 (91,.cells [(.s ⟨#[115]⟩)] 9),
 (133,.cells [(.i .i64 1),(.i .i64 3)] 3),
 (150,.cells [(.i .i64 2)] 3),
 (152,.cells [(.i .i64 3),(.so 133 0 2 1),(.i .i64 3),(.so 150 0 1 1)] 64),
 (153,.cells [(.so 86 0 2 1),(.so 91 0 1 1),(.so 152 0 2 2),(.i .i64 3)] 25),
 (154,.cells [(.so 86 0 2 1),(.so 91 0 1 1),(.so 152 0 2 2),(.i .i64 3)] 25),
 (155,.cells [(.so 86 0 2 1),(.so 91 0 1 1),(.so 152 0 2 2),(.i .i64 3)] 25),
 (156,.cells [.ns,(.i .i64 0),(.i .i64 0),.ns,.ns] 126),
 (157,.cells [(.so 86 0 2 1),(.so 91 0 1 1),(.so 152 0 2 2),(.i .i64 3)] 25),
 (158,.cells [(.i .i64 0),.ns,.ns] 86)]
noncomputable def iBN:Nat:=159
noncomputable def vB:AV:=(.tup [(.so 527 0 5 2),(.i .i64 0)])
noncomputable def oBK:List Nat:=[86,91,133,150,152,153,154,155,156,157,158,321,353,392,412,455,527,658,668]
noncomputable def oBL:List (Nat×AO):=[(86,.cells [(.s ⟨#[65]⟩),(.s ⟨#[66]⟩)] 9),
 (91,.cells [(.s ⟨#[115]⟩)] 9),
 (133,.cells [(.i .i64 1),(.i .i64 3)] 3),
 (150,.cells [(.i .i64 2)] 3),
 (152,.cells [(.i .i64 3),(.so 133 0 2 1),(.i .i64 3),(.so 150 0 1 1)] 64),
 (153,.cells [(.so 86 0 2 1),(.so 91 0 1 1),(.so 152 0 2 2),(.i .i64 3)] 25),
 (154,.cells [(.so 86 0 2 1),(.so 91 0 1 1),(.so 152 0 2 2),(.i .i64 3)] 25),
 (155,.cells [(.so 86 0 2 1),(.so 91 0 1 1),(.so 152 0 2 2),(.i .i64 3)] 25),
 (156,.cells [.ns,(.i .i64 0),(.i .i64 0),.ns,.ns] 126),
 (157,.cells [(.so 86 0 2 1),(.so 91 0 1 1),(.so 152 0 2 2),(.i .i64 3)] 25),
 (158,.cells [(.i .i64 0),.ns,.ns] 86),
 (321,.cells [(.i .i64 2),(.i .i64 0)] 250),
 (353,.cells [(.i .i64 2),(.i .i64 1)] 250),
 (392,.cells [(.i .i64 0),(.i .i64 1)] 250),
 (412,.cells [(.i .i64 1),(.i .i64 1)] 250),
 (455,.cells [(.i .i64 0),(.i .i64 2)] 250),
 (527,.cells [(.sl 321 0 1 1),(.so 658 0 3 2),(.so 392 0 1 2),(.so 668 0 3 2),(.so 412 0 1 2),.ns,(.so 353 0 1 2),.ns,(.so 455 0 1 2),.ns] 100),
 (658,.cells [(.i .i64 1),(.i .i64 1),(.i .i64 2),(.i .i64 2),(.i .i64 3),(.i .i64 3)] 102),
 (668,.cells [(.i .i64 1),(.i .i64 1),(.i .i64 2),(.i .i64 2),(.i .i64 3),(.i .i64 4)] 102)]
noncomputable def oBN:Nat:=682
noncomputable def aB2:List AV:=[(.agg [(.so 86 0 2 1),(.so 91 0 1 1),(.so 152 0 2 2),(.i .i64 3)])]
noncomputable def iB2L:List (Nat×AO):=[(86,.cells [(.s ⟨#[65]⟩),(.s ⟨#[66]⟩)] 9),
 (91,.cells [(.s ⟨#[115]⟩)] 9),
 (133,.cells [(.i .i64 1),(.i .i64 3)] 3),
 (150,.cells [(.i .i64 2)] 3),
 (152,.cells [(.i .i64 3),(.so 133 0 2 1),(.i .i64 3),(.so 150 0 1 1)] 64),
 (153,.cells [(.so 86 0 2 1),(.so 91 0 1 1),(.so 152 0 2 2),(.i .i64 3)] 25),
 (154,.cells [(.so 86 0 2 1),(.so 91 0 1 1),(.so 152 0 2 2),(.i .i64 3)] 25),
 (155,.cells [(.so 86 0 2 1),(.so 91 0 1 1),(.so 152 0 2 2),(.i .i64 3)] 25),
 (156,.cells [.ns,(.i .i64 0),(.i .i64 0),.ns,.ns] 126),
 (157,.cells [(.so 86 0 2 1),(.so 91 0 1 1),(.so 152 0 2 2),(.i .i64 3)] 25),
 (158,.cells [(.i .i64 0),.ns,.ns] 86),
 (321,.cells [(.i .i64 2),(.i .i64 0)] 250),
 (353,.cells [(.i .i64 2),(.i .i64 1)] 250),
 (392,.cells [(.i .i64 0),(.i .i64 1)] 250),
 (412,.cells [(.i .i64 1),(.i .i64 1)] 250),
 (455,.cells [(.i .i64 0),(.i .i64 2)] 250),
 (527,.cells [(.sl 321 0 1 1),(.so 658 0 3 2),(.so 392 0 1 2),(.so 668 0 3 2),(.so 412 0 1 2),.ns,(.so 353 0 1 2),.ns,(.so 455 0 1 2),.ns] 100),
 (658,.cells [(.i .i64 1),(.i .i64 1),(.i .i64 2),(.i .i64 2),(.i .i64 3),(.i .i64 3)] 102),
 (668,.cells [(.i .i64 1),(.i .i64 1),(.i .i64 2),(.i .i64 2),(.i .i64 3),(.i .i64 4)] 102),
 (682,.cells [(.so 86 0 2 1),(.so 91 0 1 1),(.so 152 0 2 2),(.i .i64 3)] 25)]
noncomputable def iB2N:Nat:=683
noncomputable def vB2:AV:=(.tup [(.so 1051 0 5 2),(.i .i64 0)])
noncomputable def oB2K:List Nat:=[86,91,133,150,152,153,154,155,156,157,158,321,353,392,412,455,527,658,668,682,845,877,916,936,979,1051,1182,1192]
noncomputable def oB2L:List (Nat×AO):=[(86,.cells [(.s ⟨#[65]⟩),(.s ⟨#[66]⟩)] 9),
 (91,.cells [(.s ⟨#[115]⟩)] 9),
 (133,.cells [(.i .i64 1),(.i .i64 3)] 3),
 (150,.cells [(.i .i64 2)] 3),
 (152,.cells [(.i .i64 3),(.so 133 0 2 1),(.i .i64 3),(.so 150 0 1 1)] 64),
 (153,.cells [(.so 86 0 2 1),(.so 91 0 1 1),(.so 152 0 2 2),(.i .i64 3)] 25),
 (154,.cells [(.so 86 0 2 1),(.so 91 0 1 1),(.so 152 0 2 2),(.i .i64 3)] 25),
 (155,.cells [(.so 86 0 2 1),(.so 91 0 1 1),(.so 152 0 2 2),(.i .i64 3)] 25),
 (156,.cells [.ns,(.i .i64 0),(.i .i64 0),.ns,.ns] 126),
 (157,.cells [(.so 86 0 2 1),(.so 91 0 1 1),(.so 152 0 2 2),(.i .i64 3)] 25),
 (158,.cells [(.i .i64 0),.ns,.ns] 86),
 (321,.cells [(.i .i64 2),(.i .i64 0)] 250),
 (353,.cells [(.i .i64 2),(.i .i64 1)] 250),
 (392,.cells [(.i .i64 0),(.i .i64 1)] 250),
 (412,.cells [(.i .i64 1),(.i .i64 1)] 250),
 (455,.cells [(.i .i64 0),(.i .i64 2)] 250),
 (527,.cells [(.sl 321 0 1 1),(.so 658 0 3 2),(.so 392 0 1 2),(.so 668 0 3 2),(.so 412 0 1 2),.ns,(.so 353 0 1 2),.ns,(.so 455 0 1 2),.ns] 100),
 (658,.cells [(.i .i64 1),(.i .i64 1),(.i .i64 2),(.i .i64 2),(.i .i64 3),(.i .i64 3)] 102),
 (668,.cells [(.i .i64 1),(.i .i64 1),(.i .i64 2),(.i .i64 2),(.i .i64 3),(.i .i64 4)] 102),
 (682,.cells [(.so 86 0 2 1),(.so 91 0 1 1),(.so 152 0 2 2),(.i .i64 3)] 25),
 (845,.cells [(.i .i64 2),(.i .i64 0)] 250),
 (877,.cells [(.i .i64 2),(.i .i64 1)] 250),
 (916,.cells [(.i .i64 0),(.i .i64 1)] 250),
 (936,.cells [(.i .i64 1),(.i .i64 1)] 250),
 (979,.cells [(.i .i64 0),(.i .i64 2)] 250),
 (1051,.cells [(.sl 845 0 1 1),(.so 1182 0 3 2),(.so 916 0 1 2),(.so 1192 0 3 2),(.so 936 0 1 2),.ns,(.so 877 0 1 2),.ns,(.so 979 0 1 2),.ns] 100),
 (1182,.cells [(.i .i64 1),(.i .i64 1),(.i .i64 2),(.i .i64 2),(.i .i64 3),(.i .i64 3)] 102),
 (1192,.cells [(.i .i64 1),(.i .i64 1),(.i .i64 2),(.i .i64 2),(.i .i64 3),(.i .i64 4)] 102)]
noncomputable def oB2N:Nat:=1206
noncomputable def aL:List AV:=[(.agg [(.so 86 0 2 1),(.so 91 0 1 1),(.so 152 0 2 2),(.i .i64 3)])]
noncomputable def iLL:List (Nat×AO):=[(86,.cells [(.s ⟨#[65]⟩),(.s ⟨#[66]⟩)] 9),
 (91,.cells [(.s ⟨#[115]⟩)] 9),
 (133,.cells [(.i .i64 1),(.i .i64 3)] 3),
 (150,.cells [(.i .i64 2)] 3),
 (152,.cells [(.i .i64 3),(.so 133 0 2 1),(.i .i64 3),(.so 150 0 1 1)] 64),
 (153,.cells [(.so 86 0 2 1),(.so 91 0 1 1),(.so 152 0 2 2),(.i .i64 3)] 25),
 (154,.cells [(.so 86 0 2 1),(.so 91 0 1 1),(.so 152 0 2 2),(.i .i64 3)] 25),
 (155,.cells [(.so 86 0 2 1),(.so 91 0 1 1),(.so 152 0 2 2),(.i .i64 3)] 25),
 (156,.cells [.ns,(.i .i64 0),(.i .i64 0),.ns,.ns] 126),
 (157,.cells [(.so 86 0 2 1),(.so 91 0 1 1),(.so 152 0 2 2),(.i .i64 3)] 25),
 (158,.cells [(.i .i64 0),.ns,.ns] 86),
 (321,.cells [(.i .i64 2),(.i .i64 0)] 250),
 (353,.cells [(.i .i64 2),(.i .i64 1)] 250),
 (392,.cells [(.i .i64 0),(.i .i64 1)] 250),
 (412,.cells [(.i .i64 1),(.i .i64 1)] 250),
 (455,.cells [(.i .i64 0),(.i .i64 2)] 250),
 (527,.cells [(.sl 321 0 1 1),(.so 658 0 3 2),(.so 392 0 1 2),(.so 668 0 3 2),(.so 412 0 1 2),.ns,(.so 353 0 1 2),.ns,(.so 455 0 1 2),.ns] 100),
 (658,.cells [(.i .i64 1),(.i .i64 1),(.i .i64 2),(.i .i64 2),(.i .i64 3),(.i .i64 3)] 102),
 (668,.cells [(.i .i64 1),(.i .i64 1),(.i .i64 2),(.i .i64 2),(.i .i64 3),(.i .i64 4)] 102)]
noncomputable def iLN:Nat:=682
noncomputable def vL:AV:=(.tup [(.so 1581 0 5 1),(.i .i64 0)])
noncomputable def oLK:List Nat:=[86,91,133,150,152,153,154,155,156,157,158,321,353,392,412,455,527,658,668,1561,1563,1569,1571,1577,1579,1581]
noncomputable def oLL:List (Nat×AO):=[(86,.cells [(.s ⟨#[65]⟩),(.s ⟨#[66]⟩)] 9),
 (91,.cells [(.s ⟨#[115]⟩)] 9),
 (133,.cells [(.i .i64 1),(.i .i64 3)] 3),
 (150,.cells [(.i .i64 2)] 3),
 (152,.cells [(.i .i64 3),(.so 133 0 2 1),(.i .i64 3),(.so 150 0 1 1)] 64),
 (153,.cells [(.so 86 0 2 1),(.so 91 0 1 1),(.so 152 0 2 2),(.i .i64 3)] 25),
 (154,.cells [(.so 86 0 2 1),(.so 91 0 1 1),(.so 152 0 2 2),(.i .i64 3)] 25),
 (155,.cells [(.so 86 0 2 1),(.so 91 0 1 1),(.so 152 0 2 2),(.i .i64 3)] 25),
 (156,.cells [.ns,(.i .i64 0),(.i .i64 0),.ns,.ns] 126),
 (157,.cells [(.so 86 0 2 1),(.so 91 0 1 1),(.so 152 0 2 2),(.i .i64 3)] 25),
 (158,.cells [(.i .i64 0),.ns,.ns] 86),
 (321,.cells [(.i .i64 2),(.i .i64 0)] 250),
 (353,.cells [(.i .i64 2),(.i .i64 1)] 250),
 (392,.cells [(.i .i64 0),(.i .i64 1)] 250),
 (412,.cells [(.i .i64 1),(.i .i64 1)] 250),
 (455,.cells [(.i .i64 0),(.i .i64 2)] 250),
 (527,.cells [(.sl 321 0 1 1),(.so 658 0 3 2),(.so 392 0 1 2),(.so 668 0 3 2),(.so 412 0 1 2),.ns,(.so 353 0 1 2),.ns,(.so 455 0 1 2),.ns] 100),
 (658,.cells [(.i .i64 1),(.i .i64 1),(.i .i64 2),(.i .i64 2),(.i .i64 3),(.i .i64 3)] 102),
 (668,.cells [(.i .i64 1),(.i .i64 1),(.i .i64 2),(.i .i64 2),(.i .i64 3),(.i .i64 4)] 102),
 (1561,.cells [(.i .i64 0)] 3),
 (1563,.cells [(.i .i64 1),(.so 1561 0 1 1)] 280),
 (1569,.cells [(.i .i64 0)] 3),
 (1571,.cells [(.i .i64 2),(.so 1569 0 1 1)] 280),
 (1577,.cells [(.i .i64 0)] 3),
 (1579,.cells [(.i .i64 0),(.so 1577 0 1 1)] 280),
 (1581,.cells [.ns,.ns,(.so 1563 0 1 2),(.so 1571 0 1 2),(.so 1579 0 1 2)] 213)]
noncomputable def oLN:Nat:=1582
noncomputable def sB:H:=⟨mkT iBL,iBN,[],none⟩
noncomputable def sB2:H:=⟨mkT iB2L,iB2N,[],none⟩
noncomputable def sL:H:=⟨mkT iLL,iLN,[],none⟩
noncomputable def gB:List AV→H→Option (AV×H):=litG aB sB (vB,⟨mkT oBL,oBN,[],none⟩)
noncomputable def gB2:List AV→H→Option (AV×H):=litG aB2 sB2 (vB2,⟨mkT oB2L,oB2N,[],none⟩)
noncomputable def gL:List AV→H→Option (AV×H):=litG aL sL (vL,⟨mkT oLL,oLN,[],none⟩)
noncomputable def cfgB2:Cfg:=addHook cfg 45 gB2
noncomputable def cfgM:Cfg:=addHook (addHook cfg 45 gB) 98 gL
noncomputable def cfgF:Cfg:=
 addHook (addHook (addHook (addHook cfg 19 (litG [text] h00 rP)) 20 (litG [.agg gC] hM0 rM)) 21 (litG [vTabs,.sl hMN 0 3 3] hT0 rT)) 22 (litG [.agg gC] rT.2 rS)
end Go.Proofs.YtpidmmfjcghmeaaGreat.Ab
