/- Towards unparseRight_card: UpLaw, UpFit, UpLen. Merged from smaller texts by a program of the author's. -/
import Derived.Test.YtjpopekmbmcggaaGreatDoorUc22
set_option maxRecDepth 100000
set_option maxHeartbeats 16000000
namespace Go.Proofs.YtjpopekmbmcggaaGreatDoor
theorem Pts.right_shw (l:Pts) (h:l.right=true) (cs:List (List UInt8)):(l.shw cs).1≠[]:=by
 cases l with
 | nil=>simp [Pts.right,Pts.len] at h
 | cons k t o kids cm rest=>
  unfold Pts.right at h;rw [Pts.allP] at h;simp only [Bool.and_eq_true] at h;have h1:=h.1.2.1.1;rw [Pts.shw];simp only;intro e;rw [List.append_eq_nil_iff] at e;have e1:=e.1;clear e;by_cases k1:k=1
  ·subst k1;have:=(cN h1).1;rw [if_pos rfl] at e1;exact this e1
  by_cases k2:k=2
  ·rw [if_neg k1,if_pos k2] at e1;simp at e1
  by_cases k3:k=3
  ·rw [if_neg k1,if_neg k2,if_pos k3] at e1;simp at e1
  by_cases k4:k=4
  ·rw [if_neg k1,if_neg k2,if_neg k3,if_pos k4] at e1;simp at e1
  by_cases k5:k=5
  ·rw [if_neg k1,if_neg k2,if_neg k3,if_neg k4,if_pos k5] at e1;simp at e1
  by_cases k6:k=6
  ·rw [if_neg k1,if_neg k2,if_neg k3,if_neg k4,if_neg k5,if_pos k6] at e1;cases cs <;> simp [Pts.cmdText] at e1
  by_cases k7:k=7
  ·rw [if_neg k1,if_neg k2,if_neg k3,if_neg k4,if_neg k5,if_neg k6,if_pos k7] at e1;simp at e1
  ·unfold cH at h1;have b:∀ n:Int,k≠n→(k==n)=false:=fun n hn=>by simpa using hn
   rw [b 1 k1,b 2 k2,b 3 k3,b 4 k4,b 5 k5,b 6 k6,b 7 k7] at h1;simp at h1
def CY (l:List UInt8):Prop:=l=[]∨l.getLast? = some 10
structure Nice (F:St→St):Prop where
 lin:∃ c,∀ s,(F s).len=s.len+c
 ends:∀ s,CY s.2→CY (F s).2
theorem Nice.id:Nice (fun s=>s):=⟨⟨0,fun _=>rfl⟩,fun _ h=>h⟩
theorem Nice.put (x:List UInt8):Nice (fun s=>s.put x):=⟨⟨x.length,fun s=>St.put_len s x⟩,fun _ h=>h⟩
theorem Nice.line:Nice St.line:=⟨⟨1,St.line_len⟩,fun _ _=>.inl rfl⟩
theorem Nice.comp {F K:St→St} (h:Nice F) (k:Nice K):Nice (fun s=>K (F s)):=by
 obtain ⟨⟨a,ha⟩,h2⟩:=h;obtain ⟨⟨b,hb⟩,k2⟩:=k;exact ⟨⟨a+b,fun s=>by rw [hb,ha];omega⟩,fun s e=>k2 _ (h2 s e)⟩
theorem Nice.ite {F K:St→St} (p:Prop) [Decidable p] (h:Nice F) (k:Nice K):Nice (fun s=>if p then F s else K s):=by
 by_cases hp:p
 ·simpa only [if_pos hp] using h
 ·simpa only [if_neg hp] using k
structure Tv.Nice {α:Type} (v:Tv α):Prop where
 cm:∀ x,YtjpopekmbmcggaaGreatDoor.Nice (v.cm x)
 ls:∀ x,YtjpopekmbmcggaaGreatDoor.Nice (v.ls x)
section
variable {α:Type} {v:Tv α}
theorem lJ (r:RdF α):Nice (dC v r):=by
 refine ⟨⟨(r.num.toList++Ope.txtI r.op++[32]++bX v r.tz).length+(nB r).length,fun s=>?_⟩,fun s h=>?_⟩
 ·unfold dC St.len;simp only [gI];omega
 ·unfold dC;simp only;unfold nB
  split
  ·exact .inr (by simp)
  ·simpa using h
theorem jW:∀ l:List (RdF α),Nice (cQ v l)
 | []=>Nice.id
 | r::l=>((Nice.put [32]).comp (lJ r)).comp (jW l)
theorem nZ:∀ (l:List (RdF α)) (b:Bool),Nice (iC v b l)
 | [],_=>Nice.id
 | r::l,b=>((Nice.put (bP b)).comp (lJ r)).comp (nZ l true)
theorem kW:∀ (l:List (WdF α)) (b:Bool),Nice (dS v b l)
 | [],_=>Nice.id
 | x::l,b=>(Nice.put (bP b++bX v x)).comp (kW l true)
theorem mT:∀ (l:List (WdF α)),Nice (dM v l)
 | []=>Nice.id
 | x::l=>(Nice.put ([32]++bX v x)).comp (mT l)
theorem pD (n:NdF α):Nice (fW v n):=((nZ n.redirs false).comp (kW n.assigns _)).comp (kW n.words _)
theorem nY (o:Int) (b:Bool):Nice (gV o b):=by
 unfold gV;exact Nice.ite _ (Nice.put _) (Nice.ite _ Nice.id (Nice.put _))
variable (hv:v.Nice)
include hv
theorem mU:∀ (l:List α) (b:Bool),Nice (dF v b l)
 | [],_=>Nice.id
 | k::l,_=>((Nice.put _).comp (hv.cm k)).comp (mU l true)
theorem sM (n:NdF α):Nice (iQ v n):=(Nice.put _).comp (mU hv n.kids false)
theorem nX:∀ (l:List α) (os:List Int),Nice (fZ v l os)
 | [],_=>Nice.id
 | _::_,[]=>Nice.id
 | k::l,_::os=>((Nice.put _).comp (hv.cm k)).comp (nX l os)
theorem vN (n:NdF α):Nice (l1 v n):=by
 unfold l1;cases n.kids with
 | nil=>exact Nice.id
 | cons k l=>exact (hv.cm k).comp (nX hv l n.ops)
theorem lL:∀ (l:List α) (os:List Int),Nice (bW v l os)
 | [],_=>Nice.id
 | _::_,[]=>Nice.id
 | k::l,o::os=>(((hv.cm k).comp (nY o l.isEmpty)).comp (Nice.put _)).comp (lL l os)
theorem mS:∀ (l:List α) (os:List Int),Nice (fM v l os)
 | [],_=>Nice.id
 | _::_,[]=>Nice.id
 | k::l,o::os=>(((hv.cm k).comp (nY o true)).comp Nice.line).comp (mS l os)
theorem sK (n:NdF α):Nice (jR v n):=mS hv n.kids n.ops
theorem i4 (i:Nat) (l:List α):Nice (g5 v i l):=by
 unfold g5;cases l[i]? with
 | none=>exact Nice.id
 | some k=>exact hv.ls k
theorem vO (i:Nat) (l:List α):Nice (rO v i l):=by
 unfold rO;cases l[i]? with
 | none=>exact Nice.id
 | some k=>exact hv.cm k
theorem mQ:∀ l:List (ArF α),Nice (fH v l)
 | []=>Nice.id
 | a::l=>(((((Nice.put _).comp Nice.line).comp (hv.ls a.body)).comp (Nice.put _)).comp Nice.line).comp (mQ l)
theorem mR:∀ (l:List α) (i:Nat),Nice (dV v i l)
 | [],_=>Nice.id
 | k::l,i=>(((Nice.put _).comp Nice.line).comp (hv.ls k)).comp (mR l (i+1))
theorem sJ (n:NdF α):Nice (lF v n):=(mR hv n.kids 0).comp (Nice.put _)
theorem lI (a z:List UInt8) (n:NdF α):Nice (eY v a z n):=(((Nice.put a).comp Nice.line).comp (i4 hv 0 n.kids)).comp (Nice.put z)
theorem lK (a:List UInt8) (n:NdF α):Nice (fA v a n):=((((((Nice.put a).comp Nice.line).comp (i4 hv 0 n.kids)).comp (Nice.put tDo)).comp Nice.line).comp (i4 hv 1 n.kids)).comp (Nice.put dN)
theorem sL (n:NdF α):Nice (jD v n):=(((((((Nice.put _).comp (Nice.put _)).comp (mT n.words)).comp Nice.line).comp (Nice.put tDo)).comp Nice.line).comp (i4 hv 0 n.kids)).comp (Nice.put dN)
theorem pC (n:NdF α):Nice (fS v n):=(((Nice.put _).comp Nice.line).comp (mQ hv n.arms)).comp (Nice.put kF)
theorem sI (n:NdF α):Nice (cR v n):=by
 unfold cR;exact Nice.ite _ (lI hv _ _ n) (Nice.ite _ (lI hv _ _ n) (Nice.ite _ (sL hv n) (Nice.ite _ (pC hv n) (Nice.ite _ (sJ hv n) (Nice.ite _ (lK hv _ n) (Nice.ite _ (lK hv _ n) Nice.id))))))
theorem vP (n:NdF α):Nice (kN v n):=by
 unfold kN;exact Nice.ite _ (vN hv n) (Nice.ite _ (sM hv n) (Nice.ite _ (pD n) (Nice.ite _ (((Nice.put _).comp Nice.line).comp (vO hv 0 n.kids)) ((sI hv n).comp (jW n.redirs)))))
end
theorem Nd.tv_nice:∀ f:Nat,(Nd.tv f).Nice
 | 0=>⟨fun x=>Empty.elim x,fun x=>Empty.elim x⟩
 | f+1=>⟨vP (Nd.tv_nice f),sK (Nd.tv_nice f)⟩
theorem tE {α:Type} {v:Tv α} (hv:v.Nice) (n:NdF α):(lE v n).getLast? = some 10:=by
 have h:=(lL hv n.kids n.ops).ends ([],[]) (.inl rfl);unfold lE St.line;simp only;rcases h with h | h
 ·rw [h];simp
 ·rw [← List.append_assoc,List.getLast?_append,h];rfl
end Go.Proofs.YtjpopekmbmcggaaGreatDoor
namespace Go.Proofs.YtjpopekmbmcggaaGreatDoor
structure Tf (α:Type) where
 cm:α→Prop
 ls:α→Prop
section
variable {α:Type} (v:Tf α)
def fI (x:WdF α):Prop:=x.p.right=true∧∀ l∈x.cmds,∀ n∈l,v.ls n
def lsF (n:NdF α):Prop:=n.kids.length≤n.ops.length∧∀ k∈n.kids,v.cm k
structure cmF (n:NdF α):Prop where
 rds:∀ r∈n.redirs,fI v r.tz
 asg:∀ x∈n.assigns,fI v x
 wds:∀ x∈n.words,fI v x
 two:n.k=2→0<n.kids.length∧n.kids.length≤n.ops.length+1
 cms:n.k=2∨n.k=3∨n.k=12→∀ k∈n.kids,v.cm k
 fn:n.k=12→0<n.kids.length
 lss:n.k=5∨n.k=6∨n.k=7∨n.k=9∨n.k=10∨n.k=11→0<n.kids.length∧∀ k∈n.kids,v.ls k
 wh:n.k=10∨n.k=11→n.kids.length=2
 cs:n.k=8→0<n.words.length
 ars:n.k=8→∀ a∈n.arms,(∀ x∈a.pats,fI v x)∧v.ls a.body
 nt:n.k=2→n.not_=false
end
def Nd.ft:(f:Nat)→Tf (Nd f)
 | 0=>⟨fun x=>Empty.elim x,fun x=>Empty.elim x⟩
 | f+1=>⟨cmF (Nd.ft f),lsF (Nd.ft f)⟩
structure Tf.Of {α:Type} (t:Tf α) (v:Vw α):Prop where
 cm:∀ x,v.rt x=true→t.cm x
 ls:∀ x,v.kd x=1→(v.rt x=true∨v.on x=true)→t.ls x
section
variable {α:Type} {t:Tf α} {v:Vw α} (h:t.Of v)
include h
theorem tM (x:α) (hx:v.R x=true):t.ls x:=by
 unfold Vw.R at hx;rw [Bool.and_eq_true,beq_iff_eq] at hx;exact h.ls x hx.1 (.inl hx.2)
theorem gL (x:WdF α) (hx:aN v x=true):fI t x:=by
 unfold aN at hx;rw [Bool.and_eq_true,List.all_eq_true] at hx;refine ⟨hx.1,fun l hl n hn=>tM h n ?_⟩;have:=hx.2 l hl;rw [List.all_eq_true] at this;exact this n hn
theorem dK (hs:Has) (n:NdF α) (hn:aU v hs n=true):(∀ r∈n.redirs,fI t r.tz)∧(∀ x∈n.assigns,fI t x)∧(∀ x∈n.words,fI t x)∧(hs.ks=false→n.kids=[])∧(hs.ar=false→n.arms=[]):=by
 unfold aU l3 at hn;simp only [Bool.and_eq_true,Bool.or_eq_true,List.all_eq_true,List.isEmpty_iff] at hn;obtain ⟨⟨⟨⟨⟨⟨⟨⟨⟨_,_⟩,_⟩,_⟩,_⟩,h6⟩,h7⟩,_⟩,_⟩,⟨hr,hw⟩,ha⟩:=hn;refine ⟨fun r hr'=>?_,fun x hx=>gL h x (ha x hx),fun x hx=>gL h x (hw x hx),fun e=>?_,fun e=>?_⟩
 ·have:=hr r hr';unfold aW at this;simp only [Bool.and_eq_true] at this;exact gL h r.tz this.1.2
 ·rcases h7 with h7 | h7
  ·rw [e] at h7;cases h7
  ·exact h7
 ·rcases h6 with h6 | h6
  ·rw [e] at h6;cases h6
  ·exact h6
theorem iZ (least:Nat) (n:NdF α) (hl:cD v least n=true):least≤n.kids.length∧∀ k∈n.kids,t.ls k:=by
 unfold cD at hl;simp only [Bool.and_eq_true,decide_eq_true_eq,List.all_eq_true] at hl;exact ⟨hl.1,fun k hk=>tM h k (hl.2 k hk)⟩
theorem mK (least:Nat) (a:Int) (n:NdF α) (hl:bU v least a n=true):least≤n.kids.length∧∀ k∈n.kids,t.cm k:=by
 unfold bU at hl;simp only [Bool.and_eq_true,decide_eq_true_eq,List.all_eq_true] at hl;exact ⟨hl.1,fun k hk=>h.cm k (hl.2 k hk).2⟩
omit h in
theorem tN (m:Nat) (n:NdF α) (hl:fN m n=true):n.ops.length=m:=by
 unfold fN at hl;simp only [Bool.and_eq_true,beq_iff_eq] at hl;exact hl.1
theorem AO (a:ArF α) (ha:iG v a=true):(∀ x∈a.pats,fI t x)∧t.ls a.body:=by
 unfold iG at ha;simp only [Bool.and_eq_true,Bool.or_eq_true,List.all_eq_true,beq_iff_eq] at ha;refine ⟨fun x hx=>gL h x (ha.1.2 x hx), ?_⟩;rcases ha.2 with hb | ⟨h1,h2⟩
 ·exact tM h a.body hb
 ·exact h.ls a.body h1 (.inr h2)
theorem xS (n:NdF α) (hk:n.k=1) (hr:aO v n=true):lsF t n:=by
 unfold aO at hr;rw [if_pos hk] at hr;simp only [Bool.and_eq_true] at hr;exact ⟨by rw [tN _ n hr.2.2];omega,(mK h _ _ n hr.2.1).2⟩
theorem xT (n:NdF α) (ho:aU v oA n=true):lsF t n:=by
 have:=(dK h oA n ho).2.2.2.1 rfl;unfold lsF;rw [this];exact ⟨Nat.zero_le _,fun k hk=>by cases hk⟩
omit h in
theorem AQ (n:NdF α) (k2:n.k=2) (hr:aO v n=true):n.not_=false:=by
 unfold aO at hr;rw [if_neg (by omega),if_pos k2] at hr;unfold aU l3 at hr;simp only [Bool.and_eq_true,Bool.or_eq_true,beq_iff_eq,Bool.not_eq_true'] at hr;rcases hr.1.1.1.2 with h1 | h1
 ·exact h1
 ·omega
theorem AP (n:NdF α) (hr:aO v n=true):cmF t n:=by
 have hnt:n.k=2→n.not_=false:=fun e=>AQ n e hr;unfold aO at hr;have nk:∀ {i j:Int},n.k=i→¬i=j→¬n.k=j:=fun h1 h2 h3=>h2 (h1.symm.trans h3);by_cases k1:n.k=1
 ·rw [if_pos k1] at hr;simp only [Bool.and_eq_true] at hr;obtain ⟨h1,h2,h3,_,_⟩:=dK h _ n hr.1;exact ⟨h1,h2,h3,fun e=>by omega,fun e=>by omega,fun e=>by omega,fun e=>by omega,fun e=>by omega,fun e=>by omega,fun e=>by omega,fun e=>hnt e⟩
 rw [if_neg k1] at hr;by_cases k2:n.k=2
 ·rw [if_pos k2] at hr;simp only [Bool.and_eq_true] at hr;obtain ⟨h1,h2,h3,_,_⟩:=dK h _ n hr.1;obtain ⟨a1,a2⟩:=mK h _ _ n hr.2.1;have:=tN _ n hr.2.2;exact ⟨h1,h2,h3,fun e=>by omega,fun _=>a2,fun e=>by omega,fun e=>by omega,fun e=>by omega,fun e=>by omega,fun e=>by omega,fun e=>hnt e⟩
 rw [if_neg k2] at hr;by_cases k3:n.k=3
 ·rw [if_pos k3] at hr;simp only [Bool.and_eq_true] at hr;obtain ⟨h1,h2,h3,_,_⟩:=dK h _ n hr.1;obtain ⟨a1,a2⟩:=mK h _ _ n hr.2.1;exact ⟨h1,h2,h3,fun e=>by omega,fun _=>a2,fun e=>by omega,fun e=>by omega,fun e=>by omega,fun e=>by omega,fun e=>by omega,fun e=>hnt e⟩
 rw [if_neg k3] at hr;by_cases k4:n.k=4
 ·rw [if_pos k4] at hr;simp only [Bool.and_eq_true] at hr;obtain ⟨h1,h2,h3,_,_⟩:=dK h _ n hr.1;exact ⟨h1,h2,h3,fun e=>by omega,fun e=>by omega,fun e=>by omega,fun e=>by omega,fun e=>by omega,fun e=>by omega,fun e=>by omega,fun e=>hnt e⟩
 rw [if_neg k4] at hr;by_cases k5:n.k=5∨n.k=6
 ·rw [if_pos k5] at hr;simp only [Bool.and_eq_true] at hr;obtain ⟨h1,h2,h3,_,_⟩:=dK h _ n hr.1;obtain ⟨a1,a2⟩:=iZ h _ n hr.2.2;exact ⟨h1,h2,h3,fun e=>by omega,fun e=>by omega,fun e=>by omega,fun _=>⟨by omega,a2⟩,fun e=>by omega,fun e=>by omega,fun e=>by omega,fun e=>hnt e⟩
 rw [if_neg k5] at hr;by_cases k7:n.k=7
 ·rw [if_pos k7] at hr;simp only [Bool.and_eq_true] at hr;obtain ⟨h1,h2,h3,_,_⟩:=dK h _ n hr.1;obtain ⟨a1,a2⟩:=iZ h _ n hr.2.2.2;exact ⟨h1,h2,h3,fun e=>by omega,fun e=>by omega,fun e=>by omega,fun _=>⟨by omega,a2⟩,fun e=>by omega,fun e=>by omega,fun e=>by omega,fun e=>hnt e⟩
 rw [if_neg k7] at hr;by_cases k8:n.k=8
 ·rw [if_pos k8] at hr;simp only [Bool.and_eq_true,beq_iff_eq,List.all_eq_true] at hr;obtain ⟨h1,h2,h3,_,_⟩:=dK h _ n hr.1;exact ⟨h1,h2,h3,fun e=>by omega,fun e=>by omega,fun e=>by omega,fun e=>by omega,fun e=>by omega,fun _=>by omega,fun _ a ha=>AO h a (hr.2.2 a ha),fun e=>hnt e⟩
 rw [if_neg k8] at hr;by_cases k9:n.k=9
 ·rw [if_pos k9] at hr;simp only [Bool.and_eq_true] at hr;obtain ⟨h1,h2,h3,_,_⟩:=dK h _ n hr.1;obtain ⟨a1,a2⟩:=iZ h _ n hr.2;exact ⟨h1,h2,h3,fun e=>by omega,fun e=>by omega,fun e=>by omega,fun _=>⟨by omega,a2⟩,fun e=>by omega,fun e=>by omega,fun e=>by omega,fun e=>hnt e⟩
 rw [if_neg k9] at hr;by_cases k10:n.k=10∨n.k=11
 ·rw [if_pos k10] at hr;simp only [Bool.and_eq_true,beq_iff_eq] at hr;obtain ⟨h1,h2,h3,_,_⟩:=dK h _ n hr.1;obtain ⟨a1,a2⟩:=iZ h _ n hr.2.1;exact ⟨h1,h2,h3,fun e=>by omega,fun e=>by omega,fun e=>by omega,fun _=>⟨by omega,a2⟩,fun _=>hr.2.2,fun e=>by omega,fun e=>by omega,fun e=>hnt e⟩
 rw [if_neg k10] at hr;by_cases k12:n.k=12
 ·rw [if_pos k12] at hr;simp only [Bool.and_eq_true] at hr;obtain ⟨h1,h2,h3,_,_⟩:=dK h _ n hr.1;have hf:=hr.2;unfold jC at hf;simp only [Bool.and_eq_true] at hf;have hk:=hf.2;cases hks:n.kids with
  | nil=>rw [hks] at hk;cases hk
  | cons x l=>
   cases l with
   | cons y l=>rw [hks] at hk;cases hk
   | nil=>
    rw [hks] at hk;simp only [Bool.and_eq_true] at hk;exact ⟨h1,h2,h3,fun e=>by omega,fun _ k hk2=>by rw [hks,List.mem_singleton] at hk2;subst hk2;exact h.cm k hk.2,fun _=>by rw [hks];simp,fun e=>by omega,fun e=>by omega,fun e=>by omega,fun e=>by omega,fun e=>hnt e⟩
 ·rw [if_neg k12] at hr;cases hr
end
theorem Nd.ft_of:∀ f:Nat,(Nd.ft f).Of (Nd.vw f)
 | 0=>⟨fun x=>Empty.elim x,fun x=>Empty.elim x⟩
 | f+1=>⟨fun x hx=>AP (Nd.ft_of f) x hx,fun x hk hx=>by
   rcases hx with hx | hx
   ·exact xS (Nd.ft_of f) x hk hx
   ·exact xT (Nd.ft_of f) x hx⟩
theorem wI {α:Type} {t:Tf α} {v:Tv α} {x:WdF α} (h:fI t x):bX v x≠[]:=Pts.right_shw x.p h.1 _
end Go.Proofs.YtjpopekmbmcggaaGreatDoor
namespace Go.Proofs.YtjpopekmbmcggaaGreatDoor
def wtC {α:Type} (W:α→Nat) (n:NdF α):Nat:=32+n.name.size+64*tot (wtW W) n.words+64*tot (wtA W) n.arms+64*tot W n.kids
theorem uT {α:Type} {v:Tv α} {W:α→Nat} (hv:v.Ok W) (n:NdF α) (s:St):(cR v n s).len≤s.len+wtC W n:=by
 obtain ⟨k,name,no,i,ops,asg,wds,rds,ars,kds⟩:=n;have hn:=Pts.len_list name;have hl0:=fun i s=>jU hv i kds s;unfold wtC cR;simp only;have hb:∀ a z:List UInt8,a.length≤8→z.length≤8→(eY v a z ⟨k,name,no,i,ops,asg,wds,rds,ars,kds⟩ s).len≤s.len+17+64*tot W kds:=fun a z ha hz=>by
  have h1:=hl0 0 (s.put a).line;rw [St.line_len,St.put_len] at h1;unfold eY;rw [St.put_len];simp only;omega
 have hw:∀ a:List UInt8,a.length≤8→(fA v a ⟨k,name,no,i,ops,asg,wds,rds,ars,kds⟩ s).len≤s.len+20+64*tot W kds:=fun a ha=>by
  have h1:=qM hv kds (s.put a).line (((g5 v 0 kds ((s.put a).line)).put tDo).line) 3 (by rw [St.line_len,St.put_len];simp [tDo]);rw [St.line_len,St.put_len] at h1;unfold fA;rw [St.put_len];simp only [dN,gG,gH];omega
 repeat' split
 ·have:=hb [123] [125] (by simp) (by simp);omega
 ·have:=hb [40] [41] (by simp) (by simp);omega
 ·have h1:=kU hv wds ((s.put (iU++name.toList)).put (if i then tIn else []));have h2:=hl0 0 (((dM v wds ((s.put (iU++name.toList)).put (if i then tIn else []))).line).put tDo).line;have h3:(if i then tIn else []).length≤3:=by cases i <;> simp [tIn]
  rw [St.put_len,St.put_len,gI] at h1;rw [St.line_len,St.put_len,St.line_len] at h2;unfold jD;rw [St.put_len];simp only [iU,tDo,dN,gG,gH] at *;omega
 ·have h1:=kL hv ars (s.put (iT++word0 v wds++tIn)).line;have h2:(word0 v wds).length≤64*tot (wtW W) wds:=by
   cases wds with
   | nil=>simp [word0]
   | cons x l=>have:=cI hv x;simp only [word0,tot];omega
  rw [St.line_len,St.put_len,gI,gI] at h1;unfold fS;rw [St.put_len];simp only [iT,tIn,kF,gG,gH] at *;omega
 ·have h1:=kO hv kds 0 s;unfold lF;rw [St.put_len];simp only [gG,gH];omega
 ·have:=hw jL (by simp [jL]);omega
 ·have:=hw jK (by simp [jK]);omega
 ·omega
end Go.Proofs.YtjpopekmbmcggaaGreatDoor
