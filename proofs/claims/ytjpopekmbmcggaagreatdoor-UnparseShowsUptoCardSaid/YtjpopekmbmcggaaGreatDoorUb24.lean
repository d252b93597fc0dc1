/- Towards unparseShows_card: UpSimP, UpLen. Merged from smaller texts by a program of the author's. -/
import Derived.Test.YtjpopekmbmcggaaGreatDoorUb19
set_option maxRecDepth 100000
set_option maxHeartbeats 16000000
namespace Go.Proofs.YtjpopekmbmcggaaGreatDoor
theorem p7 {β:Type} {C:β→Nat} (h:∀ x,1≤C x):∀ l:List β,l.length≤tot C l
 | []=>by simp [tot]
 | x::l=>by have:=h x;have:=p7 h l;rw [gG,tot];omega
theorem rQ {β:Type} (C:β→Nat):∀ l m:List β,tot C (l++m)=tot C l+tot C m
 | [],m=>by simp [tot]
 | x::l,m=>by rw [List.cons_append,tot,tot,rQ C l m];omega
section
variable {α:Type} (v:Tv α)
theorem sN (l:List (WdF α)):bH v [32] true l=(if l.isEmpty then [] else [32])++bH v [32] false l:=by
 cases l with
 | nil=>simp [bH]
 | cons x l=>simp [bH]
theorem oI:∀ (l m:List (WdF α)) (b:Bool),bH v [32] b (l++m)=bH v [32] b l++bH v [32] (b || !l.isEmpty) m
 | [],m,b=>by simp [bH]
 | x::l,m,b=>by simp [bH,oI l m true]
theorem lO:∀ (l:List (WdF α)) (b:Bool) (s:St),dV v b l s=s.put (bH v [32] b l)
 | [],b,s=>by simp [dV,bH,St.put]
 | x::l,b,s=>by
  rw [dV,lO l true,bH];simp only [St.put,bW,List.append_assoc]
theorem qV {l:List (WdF α)} (h:∀ x∈l,wordX v x≠[]) (b:Bool):bH v [32] b l=[]↔l=[]:=by
 cases l with
 | nil=>simp [bH]
 | cons x l=>
  have:=h x (List.mem_cons_self ..);simp [bH,this]
theorem i6 (n:NdF α) (s:St) (h:∀ x∈n.assigns++n.words,wordX v x≠[]):
  dG v n s=((if 0<n.redirs.length∧bH v [32] false (n.assigns++n.words)≠[] then (eW v false n.redirs s).put [32] else eW v false n.redirs s)).put (bH v [32] false (n.assigns++n.words)):=by
 have e:dG v n s=(eW v false n.redirs s).put (bH v [32] (!n.redirs.isEmpty) (n.assigns++n.words)):=by
  unfold dG;rw [lO,lO,oI];simp only [St.put,List.append_assoc]
 rw [e];cases hr:n.redirs with
 | nil=>simp
 | cons r l=>
  have h1:bH v [32] (!(r::l).isEmpty) (n.assigns++n.words)=bH v [32] true (n.assigns++n.words):=rfl;rw [h1,sN];by_cases hw:n.assigns++n.words=[]
  ·rw [hw];simp [bH]
  ·have h2:bH v [32] false (n.assigns++n.words)≠[]:=fun e=>hw ((qV v h false).1 e);have h3:¬(n.assigns++n.words).isEmpty=true:=fun e=>hw (List.isEmpty_iff.1 e);have h4:0<(r::l).length∧bH v [32] false (n.assigns++n.words)≠[]:=⟨Nat.succ_pos _,h2⟩;rw [if_neg h3,if_pos h4];simp [St.put]
end
end Go.Proofs.YtjpopekmbmcggaaGreatDoor
namespace Go.Proofs.YtjpopekmbmcggaaGreatDoor
def wtC {α:Type} (W:α→Nat) (n:NdF α):Nat:=32+n.name.size+64*tot (wtW W) n.words+64*tot (wtA W) n.arms+64*tot W n.kids
theorem oC {α:Type} {v:Tv α} {W:α→Nat} (hv:v.Ok W) (n:NdF α) (s:St):(bY v n s).len≤s.len+wtC W n:=by
 obtain ⟨k,name,no,i,ops,asg,wds,rds,ars,kds⟩:=n;have hn:=Pts.len_list name;have hl0:=fun i s=>kK hv i kds s;unfold wtC bY;simp only;have hb:∀ a z:List UInt8,a.length≤8→z.length≤8→(fW v a z ⟨k,name,no,i,ops,asg,wds,rds,ars,kds⟩ s).len≤s.len+17+64*tot W kds:=fun a z ha hz=>by
  have h1:=hl0 0 (s.put a).line;rw [St.line_len,St.put_len] at h1;unfold fW;rw [St.put_len];simp only;omega
 have hw:∀ a:List UInt8,a.length≤8→(gR v a ⟨k,name,no,i,ops,asg,wds,rds,ars,kds⟩ s).len≤s.len+20+64*tot W kds:=fun a ha=>by
  have h1:=qZ hv kds (s.put a).line (((gM v 0 kds ((s.put a).line)).put tDo).line) 3 (by rw [St.line_len,St.put_len];simp [tDo]);rw [St.line_len,St.put_len] at h1;unfold gR;rw [St.put_len];simp only [eF,gG,gH];omega
 repeat' split
 ·have:=hb [123] [125] (by simp) (by simp);omega
 ·have:=hb [40] [41] (by simp) (by simp);omega
 ·have h1:=lI hv wds ((s.put (i9++name.toList)).put (if i then tIn else []));have h2:=hl0 0 (((cO v wds ((s.put (i9++name.toList)).put (if i then tIn else []))).line).put tDo).line;have h3:(if i then tIn else []).length≤3:=by cases i <;> simp [tIn]
  rw [St.put_len,St.put_len,gI] at h1;rw [St.line_len,St.put_len,St.line_len] at h2;unfold fO;rw [St.put_len];simp only [i9,tDo,eF,gG,gH] at *;omega
 ·have h1:=lB hv ars (s.put (i8++word0 v wds++tIn)).line;have h2:(word0 v wds).length≤64*tot (wtW W) wds:=by
   cases wds with
   | nil=>simp [word0]
   | cons x l=>have:=cD hv x;simp only [word0,tot];omega
  rw [St.line_len,St.put_len,gI,gI] at h1;unfold dW;rw [St.put_len];simp only [i8,tIn,lV,gG,gH] at *;omega
 ·have h1:=lD hv kds 0 s;unfold hJ;rw [St.put_len];simp only [gG,gH];omega
 ·have:=hw kC (by simp [kC]);omega
 ·have:=hw kB (by simp [kB]);omega
 ·omega
end Go.Proofs.YtjpopekmbmcggaaGreatDoor
