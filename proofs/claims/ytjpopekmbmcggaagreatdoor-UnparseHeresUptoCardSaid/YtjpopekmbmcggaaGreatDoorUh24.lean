/- Towards unparseHeres_card. -/
import Derived.Test.YtjpopekmbmcggaaGreatDoorUh19
set_option maxRecDepth 100000
set_option maxHeartbeats 16000000
namespace Go.Proofs.YtjpopekmbmcggaaGreatDoor
structure Tf (α:Type) where
 cm:α→Prop
 ls:α→Prop
section
variable {α:Type} (v:Tf α)
def fT (x:WdF α):Prop:=x.p.right=true∧∀ l∈x.cmds,∀ n∈l,v.ls n
def lsF (n:NdF α):Prop:=n.kids.length≤n.ops.length∧∀ k∈n.kids,v.cm k
structure cmF (n:NdF α):Prop where
 rds:∀ r∈n.redirs,fT v r.tz
 asg:∀ x∈n.assigns,fT v x
 wds:∀ x∈n.words,fT v x
 two:n.k=2→0<n.kids.length∧n.kids.length≤n.ops.length+1
 cms:n.k=2∨n.k=3∨n.k=12→∀ k∈n.kids,v.cm k
 fn:n.k=12→0<n.kids.length
 lss:n.k=5∨n.k=6∨n.k=7∨n.k=9∨n.k=10∨n.k=11→0<n.kids.length∧∀ k∈n.kids,v.ls k
 wh:n.k=10∨n.k=11→n.kids.length=2
 cs:n.k=8→0<n.words.length
 ars:n.k=8→∀ a∈n.arms,(∀ x∈a.pats,fT v x)∧v.ls a.body
 nt:n.k=2→n.not_=false
end
def Nd.ft:(f:Nat)→Tf (Nd f)
 | 0=>⟨fun x=>Empty.elim x,fun x=>Empty.elim x⟩
 | f+1=>⟨cmF (Nd.ft f),lsF (Nd.ft f)⟩
structure Tf.Of {α:Type} (t:Tf α) (v:Vw α):Prop where
 cm:∀ x,v.rt x=true→t.cm x
 ls:∀ x,v.kd x=1→(v.rt x=true∨v.on x=true)→t.ls x
section
variable {α:Type} {t:Tf α} {v:Vw α} (h:t.Of v)
include h
theorem tY (x:α) (hx:v.R x=true):t.ls x:=by
 unfold Vw.R at hx;rw [Bool.and_eq_true,beq_iff_eq] at hx;exact h.ls x hx.1 (.inl hx.2)
theorem iN (x:WdF α) (hx:aP v x=true):fT t x:=by
 unfold aP at hx;rw [Bool.and_eq_true,List.all_eq_true] at hx;refine ⟨hx.1,fun l hl n hn=>tY h n ?_⟩;have:=hx.2 l hl;rw [List.all_eq_true] at this;exact this n hn
theorem dL (hs:Has) (n:NdF α) (hn:aR v hs n=true):(∀ r∈n.redirs,fT t r.tz)∧(∀ x∈n.assigns,fT t x)∧(∀ x∈n.words,fT t x)∧(hs.ks=false→n.kids=[])∧(hs.ar=false→n.arms=[]):=by
 unfold aR jT at hn;simp only [Bool.and_eq_true,Bool.or_eq_true,List.all_eq_true,List.isEmpty_iff] at hn;obtain ⟨⟨⟨⟨⟨⟨⟨⟨⟨_,_⟩,_⟩,_⟩,_⟩,h6⟩,h7⟩,_⟩,_⟩,⟨hr,hw⟩,ha⟩:=hn;refine ⟨fun r hr'=>?_,fun x hx=>iN h x (ha x hx),fun x hx=>iN h x (hw x hx),fun e=>?_,fun e=>?_⟩
 ·have:=hr r hr';unfold aW at this;simp only [Bool.and_eq_true] at this;exact iN h r.tz this.1.2
 ·rcases h7 with h7 | h7
  ·rw [e] at h7;cases h7
  ·exact h7
 ·rcases h6 with h6 | h6
  ·rw [e] at h6;cases h6
  ·exact h6
theorem i3 (least:Nat) (n:NdF α) (hl:cD v least n=true):least≤n.kids.length∧∀ k∈n.kids,t.ls k:=by
 unfold cD at hl;simp only [Bool.and_eq_true,decide_eq_true_eq,List.all_eq_true] at hl;exact ⟨hl.1,fun k hk=>tY h k (hl.2 k hk)⟩
theorem mP (least:Nat) (a:Int) (n:NdF α) (hl:bQ v least a n=true):least≤n.kids.length∧∀ k∈n.kids,t.cm k:=by
 unfold bQ at hl;simp only [Bool.and_eq_true,decide_eq_true_eq,List.all_eq_true] at hl;exact ⟨hl.1,fun k hk=>h.cm k (hl.2 k hk).2⟩
omit h in
theorem tZ (m:Nat) (n:NdF α) (hl:eV m n=true):n.ops.length=m:=by
 unfold eV at hl;simp only [Bool.and_eq_true,beq_iff_eq] at hl;exact hl.1
theorem BF (a:ArF α) (ha:iJ v a=true):(∀ x∈a.pats,fT t x)∧t.ls a.body:=by
 unfold iJ at ha;simp only [Bool.and_eq_true,Bool.or_eq_true,List.all_eq_true,beq_iff_eq] at ha;refine ⟨fun x hx=>iN h x (ha.1.2 x hx), ?_⟩;rcases ha.2 with hb | ⟨h1,h2⟩
 ·exact tY h a.body hb
 ·exact h.ls a.body h1 (.inr h2)
theorem yE (n:NdF α) (hk:n.k=1) (hr:aO v n=true):lsF t n:=by
 unfold aO at hr;rw [if_pos hk] at hr;simp only [Bool.and_eq_true] at hr;exact ⟨by rw [tZ _ n hr.2.2];omega,(mP h _ _ n hr.2.1).2⟩
theorem yF (n:NdF α) (ho:aR v oI n=true):lsF t n:=by
 have:=(dL h oI n ho).2.2.2.1 rfl;unfold lsF;rw [this];exact ⟨Nat.zero_le _,fun k hk=>by cases hk⟩
omit h in
theorem BH (n:NdF α) (k2:n.k=2) (hr:aO v n=true):n.not_=false:=by
 unfold aO at hr;rw [if_neg (by omega),if_pos k2] at hr;unfold aR jT at hr;simp only [Bool.and_eq_true,Bool.or_eq_true,beq_iff_eq,Bool.not_eq_true'] at hr;rcases hr.1.1.1.2 with h1 | h1
 ·exact h1
 ·omega
theorem BG (n:NdF α) (hr:aO v n=true):cmF t n:=by
 have hnt:n.k=2→n.not_=false:=fun e=>BH n e hr;unfold aO at hr;have nk:∀ {i j:Int},n.k=i→¬i=j→¬n.k=j:=fun h1 h2 h3=>h2 (h1.symm.trans h3);by_cases k1:n.k=1
 ·rw [if_pos k1] at hr;simp only [Bool.and_eq_true] at hr;obtain ⟨h1,h2,h3,_,_⟩:=dL h _ n hr.1;exact ⟨h1,h2,h3,fun e=>by omega,fun e=>by omega,fun e=>by omega,fun e=>by omega,fun e=>by omega,fun e=>by omega,fun e=>by omega,fun e=>hnt e⟩
 rw [if_neg k1] at hr;by_cases k2:n.k=2
 ·rw [if_pos k2] at hr;simp only [Bool.and_eq_true] at hr;obtain ⟨h1,h2,h3,_,_⟩:=dL h _ n hr.1;obtain ⟨a1,a2⟩:=mP h _ _ n hr.2.1;have:=tZ _ n hr.2.2;exact ⟨h1,h2,h3,fun e=>by omega,fun _=>a2,fun e=>by omega,fun e=>by omega,fun e=>by omega,fun e=>by omega,fun e=>by omega,fun e=>hnt e⟩
 rw [if_neg k2] at hr;by_cases k3:n.k=3
 ·rw [if_pos k3] at hr;simp only [Bool.and_eq_true] at hr;obtain ⟨h1,h2,h3,_,_⟩:=dL h _ n hr.1;obtain ⟨a1,a2⟩:=mP h _ _ n hr.2.1;exact ⟨h1,h2,h3,fun e=>by omega,fun _=>a2,fun e=>by omega,fun e=>by omega,fun e=>by omega,fun e=>by omega,fun e=>by omega,fun e=>hnt e⟩
 rw [if_neg k3] at hr;by_cases k4:n.k=4
 ·rw [if_pos k4] at hr;simp only [Bool.and_eq_true] at hr;obtain ⟨h1,h2,h3,_,_⟩:=dL h _ n hr.1;exact ⟨h1,h2,h3,fun e=>by omega,fun e=>by omega,fun e=>by omega,fun e=>by omega,fun e=>by omega,fun e=>by omega,fun e=>by omega,fun e=>hnt e⟩
 rw [if_neg k4] at hr;by_cases k5:n.k=5∨n.k=6
 ·rw [if_pos k5] at hr;simp only [Bool.and_eq_true] at hr;obtain ⟨h1,h2,h3,_,_⟩:=dL h _ n hr.1;obtain ⟨a1,a2⟩:=i3 h _ n hr.2.2;exact ⟨h1,h2,h3,fun e=>by omega,fun e=>by omega,fun e=>by omega,fun _=>⟨by omega,a2⟩,fun e=>by omega,fun e=>by omega,fun e=>by omega,fun e=>hnt e⟩
 rw [if_neg k5] at hr;by_cases k7:n.k=7
 ·rw [if_pos k7] at hr;simp only [Bool.and_eq_true] at hr;obtain ⟨h1,h2,h3,_,_⟩:=dL h _ n hr.1;obtain ⟨a1,a2⟩:=i3 h _ n hr.2.2.2;exact ⟨h1,h2,h3,fun e=>by omega,fun e=>by omega,fun e=>by omega,fun _=>⟨by omega,a2⟩,fun e=>by omega,fun e=>by omega,fun e=>by omega,fun e=>hnt e⟩
 rw [if_neg k7] at hr;by_cases k8:n.k=8
 ·rw [if_pos k8] at hr;simp only [Bool.and_eq_true,beq_iff_eq,List.all_eq_true] at hr;obtain ⟨h1,h2,h3,_,_⟩:=dL h _ n hr.1;exact ⟨h1,h2,h3,fun e=>by omega,fun e=>by omega,fun e=>by omega,fun e=>by omega,fun e=>by omega,fun _=>by omega,fun _ a ha=>BF h a (hr.2.2 a ha),fun e=>hnt e⟩
 rw [if_neg k8] at hr;by_cases k9:n.k=9
 ·rw [if_pos k9] at hr;simp only [Bool.and_eq_true] at hr;obtain ⟨h1,h2,h3,_,_⟩:=dL h _ n hr.1;obtain ⟨a1,a2⟩:=i3 h _ n hr.2;exact ⟨h1,h2,h3,fun e=>by omega,fun e=>by omega,fun e=>by omega,fun _=>⟨by omega,a2⟩,fun e=>by omega,fun e=>by omega,fun e=>by omega,fun e=>hnt e⟩
 rw [if_neg k9] at hr;by_cases k10:n.k=10∨n.k=11
 ·rw [if_pos k10] at hr;simp only [Bool.and_eq_true,beq_iff_eq] at hr;obtain ⟨h1,h2,h3,_,_⟩:=dL h _ n hr.1;obtain ⟨a1,a2⟩:=i3 h _ n hr.2.1;exact ⟨h1,h2,h3,fun e=>by omega,fun e=>by omega,fun e=>by omega,fun _=>⟨by omega,a2⟩,fun _=>hr.2.2,fun e=>by omega,fun e=>by omega,fun e=>hnt e⟩
 rw [if_neg k10] at hr;by_cases k12:n.k=12
 ·rw [if_pos k12] at hr;simp only [Bool.and_eq_true] at hr;obtain ⟨h1,h2,h3,_,_⟩:=dL h _ n hr.1;have hf:=hr.2;unfold jF at hf;simp only [Bool.and_eq_true] at hf;have hk:=hf.2;cases hks:n.kids with
  | nil=>rw [hks] at hk;cases hk
  | cons x l=>
   cases l with
   | cons y l=>rw [hks] at hk;cases hk
   | nil=>
    rw [hks] at hk;simp only [Bool.and_eq_true] at hk;exact ⟨h1,h2,h3,fun e=>by omega,fun _ k hk2=>by rw [hks,List.mem_singleton] at hk2;subst hk2;exact h.cm k hk.2,fun _=>by rw [hks];simp,fun e=>by omega,fun e=>by omega,fun e=>by omega,fun e=>by omega,fun e=>hnt e⟩
 ·rw [if_neg k12] at hr;cases hr
end
theorem Nd.ft_of:∀ f:Nat,(Nd.ft f).Of (Nd.vw f)
 | 0=>⟨fun x=>Empty.elim x,fun x=>Empty.elim x⟩
 | f+1=>⟨fun x hx=>BG (Nd.ft_of f) x hx,fun x hk hx=>by
   rcases hx with hx | hx
   ·exact yE (Nd.ft_of f) x hk hx
   ·exact yF (Nd.ft_of f) x hx⟩
end Go.Proofs.YtjpopekmbmcggaaGreatDoor
namespace Go.Proofs.YtjpopekmbmcggaaGreatDoor
def wtC {α:Type} (W:α→Nat) (n:NdF α):Nat:=32+n.name.size+64*tot (wtW W) n.words+64*tot (wtA W) n.arms+64*tot W n.kids
theorem vE {α:Type} {v:Tv α} {W:α→Nat} (hv:v.Ok W) (n:NdF α) (s:St):(cQ v n s).len≤s.len+wtC W n:=by
 obtain ⟨k,name,no,i,ops,asg,wds,rds,ars,kds⟩:=n;have hn:=Pts.len_list name;have hl0:=fun i s=>jZ hv i kds s;unfold wtC cQ;simp only;have hb:∀ a z:List UInt8,a.length≤8→z.length≤8→(fC v a z ⟨k,name,no,i,ops,asg,wds,rds,ars,kds⟩ s).len≤s.len+17+64*tot W kds:=fun a z ha hz=>by
  have h1:=hl0 0 (s.put a).line;rw [St.line_len,St.put_len] at h1;unfold fC;rw [St.put_len];simp only;omega
 have hw:∀ a:List UInt8,a.length≤8→(fE v a ⟨k,name,no,i,ops,asg,wds,rds,ars,kds⟩ s).len≤s.len+20+64*tot W kds:=fun a ha=>by
  have h1:=qW hv kds (s.put a).line (((g6 v 0 kds ((s.put a).line)).put tDo).line) 3 (by rw [St.line_len,St.put_len];simp [tDo]);rw [St.line_len,St.put_len] at h1;unfold fE;rw [St.put_len];simp only [dP,gG,gH];omega
 repeat' split
 ·have:=hb [123] [125] (by simp) (by simp);omega
 ·have:=hb [40] [41] (by simp) (by simp);omega
 ·have h1:=kY hv wds ((s.put (iX++name.toList)).put (if i then tIn else []));have h2:=hl0 0 (((dN v wds ((s.put (iX++name.toList)).put (if i then tIn else []))).line).put tDo).line;have h3:(if i then tIn else []).length≤3:=by cases i <;> simp [tIn]
  rw [St.put_len,St.put_len,gI] at h1;rw [St.line_len,St.put_len,St.line_len] at h2;unfold jG;rw [St.put_len];simp only [iX,tDo,dP,gG,gH] at *;omega
 ·have h1:=kQ hv ars (s.put (iW++word0 v wds++tIn)).line;have h2:(word0 v wds).length≤64*tot (wtW W) wds:=by
   cases wds with
   | nil=>simp [word0]
   | cons x l=>have:=cI hv x;simp only [word0,tot];omega
  rw [St.line_len,St.put_len,gI,gI] at h1;unfold fW;rw [St.put_len];simp only [iW,tIn,kJ,gG,gH] at *;omega
 ·have h1:=kS hv kds 0 s;unfold lJ;rw [St.put_len];simp only [gG,gH];omega
 ·have:=hw jP (by simp [jP]);omega
 ·have:=hw jO (by simp [jO]);omega
 ·omega
end Go.Proofs.YtjpopekmbmcggaaGreatDoor
