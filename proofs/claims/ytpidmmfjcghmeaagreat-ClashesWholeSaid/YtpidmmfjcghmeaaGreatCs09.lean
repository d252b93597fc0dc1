/- Towards clashesWhole_upto. -/
import Derived.Test.YtpidmmfjcghmeaaGreatCs02
import Derived.Deep.RegionHeld
set_option maxRecDepth 100000
set_option maxHeartbeats 16000000
set_option linter.all false
namespace Go.Proofs.YtpidmmfjcghmeaaGreat
open Go
section
variable {P:Program} {md:Region.Mode} {ops:Array Oper} {Q:Exit→Act→World→Prop} {S:World→Prop} {L:Nat}
def aE (P:Program) (md:Region.Mode) (ops:Array Oper) (Q:Exit→Act→World→Prop) (S:World→Prop) (L:Nat):Nat→Array Bool→Act→World→Prop
 | 0,ls,a,w=>Region.ready md ops ls=[]∧Q .normal a w
 | n+1,ls,a,w=>(Region.ready md ops ls=[]→Q .normal a w)∧∀ i∈Region.ready md ops ls,wpOp P ops Q i (fun a' w'=>(i≠L→S w')∧aE P md ops Q S L n (ls.setIfInBounds i true) a' w') a w
def k6 (md:Region.Mode) (ops:Array Oper) (L i:Nat):Bool:=((ops[L]?).map fun o=>o.after.any fun e=>Region.binds md e&&e.on==i).getD false
theorem aE.any:∀ (n:Nat) (ls:Array Bool) (a:Act) (w:World),aE P md ops Q S L n ls a w→wpAny P md ops Q n ls a w:=by
 intro n
 induction n with
 | zero=>exact fun _ _ _ h=>h
 | succ n ih=>exact fun ls a w h=>⟨h.1,fun i hi=>wpOp_mono (fun a' w' h'=>ih _ a' w' h'.2) (h.2 i hi)⟩
theorem aE.start {id:Nat} {a:Act} {w:World} (L:Nat) (S:World→Prop) (hm:P.follows .mixedOrders=true) (hS:S w.drew) (h:S w.drew→aE P .any ops Q S L ops.size (Array.replicate ops.size false) a w.drew):(Code.region id ops true).wp P Q a w:=
 wp_region_any hm (aE.any _ _ _ _ (h hS))
theorem aE.done {ls:Array Bool} {a:Act} {w:World} (hr:Region.ready md ops ls=[]) (h:Q .normal a w):∀ n,aE P md ops Q S L n ls a w
 | 0=>⟨hr,h⟩
 | _+1=>⟨fun _=>h,fun i hi=>by rw [hr] at hi;cases hi⟩
theorem aE.one {i n:Nat} {o:Oper} {ls:Array Bool} {a:Act} {w:World} (hr:Region.ready md ops ls=[i]) (ho:ops[i]? = some o)
  (h:∀ K:Act→World→Prop,Shut (∀ a w,S w→(S w→aE P md ops Q S L n (ls.setIfInBounds i true) a w)→K a w)→if Region.wanted o (yielded ops a.tmps)=true then Oper.wp P o a w K Q else K (a.put o.dst undef) w):aE P md ops Q S L (n+1) ls a w:=
 ⟨fun h0=>(by rw [hr] at h0;cases h0),fun j hj=>by
  rw [hr,gV] at hj;subst hj;exact wpOp_step ho fun K hK=>h K fun a w hS hW=>hK a w ⟨fun _=>hS,hW hS⟩⟩
theorem aE.last {n:Nat} {o:Oper} {ls:Array Bool} {a:Act} {w:World} (hr:Region.ready md ops ls=[L]) (ho:ops[L]? = some o)
  (h:∀ K:Act→World→Prop,Shut (∀ a w,aE P md ops Q S L n (ls.setIfInBounds L true) a w→K a w)→if Region.wanted o (yielded ops a.tmps)=true then Oper.wp P o a w K Q else K (a.put o.dst undef) w):aE P md ops Q S L (n+1) ls a w:=
 ⟨fun h0=>(by rw [hr] at h0;cases h0),fun j hj=>by
  rw [hr,gV] at hj;subst hj;exact wpOp_step ho fun K hK=>h K fun a w hW=>hK a w ⟨fun e=>absurd rfl e,hW⟩⟩
theorem sP {i:Nat} {ls:Array Bool} (hw:k6 md ops L i=true) (hi:i∈Region.ready md ops ls):¬L∈Region.ready md ops ls:=by
 intro hL;obtain ⟨_,oL,ho,hall⟩:=mem_ready.1 hL;unfold k6 at hw;rw [ho] at hw;simp only [Option.map_some,Option.getD_some] at hw;obtain ⟨e,he,hb⟩:=Array.any_eq_true'.1 hw;rw [yF,beq_iff_eq] at hb;have h1:=hall e he hb.1;have h0:=(mem_ready.1 hi).1;rw [hb.2] at h1;rcases Nat.lt_or_ge i ls.size with h' | h'
 ·simp [h'] at h0 h1;rw [h0] at h1;cases h1
 ·simp [Array.getElem?_eq_none h'] at h1
theorem aE.take {i n:Nat} {oi:Oper} {v:Value} {ls:Array Bool} {a:Act} {w:World} (hi:ops[i]? = some oi) (hs:Region.noSelect ops=true) (hf:Region.free md ops ls i=true) (hr:(Region.ready md ops ls).contains i=true) (hw:k6 md ops L i=true)
  (hQ:∀ c a w,Q (.panic c) (a.put oi.dst v) w→Q (.panic c) a w) (hy:YieldsIf P ops S oi v a) (hS:S w) (h:aE P md ops Q S L n (ls.setIfInBounds i true) (a.put oi.dst v) w):aE P md ops Q S L (n+1) ls a w:=by
 have main:∀ (n:Nat) (ls:Array Bool) (a:Act) (w:World),(∀ j oj,ops[j]? = some oj→j≠i→ls.getD j true=false→(∀ e∈oj.after,Region.binds md e=true→e.on≠i)→oi.apart ops oj=true)→
   i∈Region.ready md ops ls→YieldsIf P ops S oi v a→S w→aE P md ops Q S L n (ls.setIfInBounds i true) (a.put oi.dst v) w→aE P md ops Q S L (n+1) ls a w:=by
  intro n
  induction n with
  | zero=>
   intro ls a w _ hr hy hS H;refine ⟨fun h=>(by rw [h] at hr;cases hr),fun j hj=>?_⟩;by_cases e:j=i
   ·rw [e];exact hy.wpOp hi hS ⟨fun _=>hS,H⟩
   ·have:=ready_mono hj e;rw [H.1] at this;cases this
  | succ n ih=>
   intro ls a w hap hr hy hS H;refine ⟨fun h=>(by rw [h] at hr;cases hr),fun j hj=>?_⟩;by_cases e:j=i
   ·rw [e];exact hy.wpOp hi hS ⟨fun _=>hS,H⟩
   have hjL:j≠L:=fun h=>sP hw hr (h▸hj);obtain ⟨hun,oj,hoj,hall⟩:=mem_ready.1 hj;have hno:∀ e∈oj.after,Region.binds md e=true→e.on≠i:=fun e he hb heq=>by
    have h1:=hall e he hb;have h0:=(mem_ready.1 hr).1;rw [heq] at h1;rcases Nat.lt_or_ge i ls.size with h' | h'
    ·simp [h'] at h0 h1;rw [h0] at h1;cases h1
    ·simp [Array.getElem?_eq_none h'] at h1
   have h2:=wpOp_putIf hoj (hap j oj hoj e hun hno) (fun cs b=>Region.noSelect_spec hs i oi cs b hi) (fun cs b=>Region.noSelect_spec hs j oj cs b hoj) hQ hy (H.2 j (ready_mono hj e));refine wpOp_mono (fun a' w' h3=>⟨h3.2.1,ih (ls.setIfInBounds j true) a' w' (fun k ok hk hki hu hn=>?_) (ready_mono hr (Ne.symm e)) h3.1 (h3.2.1 hjL) ?_⟩) h2
   ·refine hap k ok hk hki ?_ hn;by_cases hjk:j=k
    ·rw [← hjk];exact hun
    ·rw [getD_set_ne true hjk] at hu;exact hu
   ·rw [Array.setIfInBounds_comm _ _ e];exact h3.2.2
 exact main n ls a w (Region.free_spec hi hf) (by simpa using hr) hy hS h
theorem aE.take2 {i n:Nat} {oi:Oper} {v:Value} {ls:Array Bool} {a:Act} {w:World} (hi:ops[i]? = some oi) (hs:Region.noSelect ops=true) (hf:Region.free md ops ls i=true) (hr:(Region.ready md ops ls).contains i=true) (hw:ops[L]? = none)
  (hQ:∀ c a w,Q (.panic c) (a.put oi.dst v) w→Q (.panic c) a w) (hy:YieldsIf P ops S oi v a) (hS:S w) (h:aE P md ops Q S L n (ls.setIfInBounds i true) (a.put oi.dst v) w):aE P md ops Q S L (n+1) ls a w:=by
 have main:∀ (n:Nat) (ls:Array Bool) (a:Act) (w:World),(∀ j oj,ops[j]? = some oj→j≠i→ls.getD j true=false→(∀ e∈oj.after,Region.binds md e=true→e.on≠i)→oi.apart ops oj=true)→
   i∈Region.ready md ops ls→YieldsIf P ops S oi v a→S w→aE P md ops Q S L n (ls.setIfInBounds i true) (a.put oi.dst v) w→aE P md ops Q S L (n+1) ls a w:=by
  intro n
  induction n with
  | zero=>
   intro ls a w _ hr hy hS H;refine ⟨fun h=>(by rw [h] at hr;cases hr),fun j hj=>?_⟩;by_cases e:j=i
   ·rw [e];exact hy.wpOp hi hS ⟨fun _=>hS,H⟩
   ·have:=ready_mono hj e;rw [H.1] at this;cases this
  | succ n ih=>
   intro ls a w hap hr hy hS H;refine ⟨fun h=>(by rw [h] at hr;cases hr),fun j hj=>?_⟩;by_cases e:j=i
   ·rw [e];exact hy.wpOp hi hS ⟨fun _=>hS,H⟩
   have hjL:j≠L:=fun h=>by
    obtain ⟨_,oL,ho,_⟩:=mem_ready.1 hj;rw [h,hw] at ho;cases ho
   obtain ⟨hun,oj,hoj,hall⟩:=mem_ready.1 hj;have hno:∀ e∈oj.after,Region.binds md e=true→e.on≠i:=fun e he hb heq=>by
    have h1:=hall e he hb;have h0:=(mem_ready.1 hr).1;rw [heq] at h1;rcases Nat.lt_or_ge i ls.size with h' | h'
    ·simp [h'] at h0 h1;rw [h0] at h1;cases h1
    ·simp [Array.getElem?_eq_none h'] at h1
   have h2:=wpOp_putIf hoj (hap j oj hoj e hun hno) (fun cs b=>Region.noSelect_spec hs i oi cs b hi) (fun cs b=>Region.noSelect_spec hs j oj cs b hoj) hQ hy (H.2 j (ready_mono hj e));refine wpOp_mono (fun a' w' h3=>⟨h3.2.1,ih (ls.setIfInBounds j true) a' w' (fun k ok hk hki hu hn=>?_) (ready_mono hr (Ne.symm e)) h3.1 (h3.2.1 hjL) ?_⟩) h2
   ·refine hap k ok hk hki ?_ hn;by_cases hjk:j=k
    ·rw [← hjk];exact hun
    ·rw [getD_set_ne true hjk] at hu;exact hu
   ·rw [Array.setIfInBounds_comm _ _ e];exact h3.2.2
 exact main n ls a w (Region.free_spec hi hf) (by simpa using hr) hy hS h
def aK (P:Program) (md:Region.Mode) (ops:Array Oper) (Q:Exit→Act→World→Prop) (S:World→Prop) (L:Nat):List Nat→Nat→Array Bool→Act→World→Prop
 | [],n,ls,a,w=>aE P md ops Q S L n ls a w
 | i::is,n,ls,a,w=>∃ m oi v,n=m+1∧ops[i]? = some oi∧(∀ c a w,Q (.panic c) (a.put oi.dst v) w→Q (.panic c) a w)∧YieldsIf P ops S oi v a∧aK P md ops Q S L is m (ls.setIfInBounds i true) (a.put oi.dst v) w
def vR (md:Region.Mode) (ops:Array Oper) (L:Nat):List Nat→Array Bool→Bool
 | [],_=>true
 | i::is,ls=>Region.free md ops ls i&&(Region.ready md ops ls).contains i&&(k6 md ops L i||(ops[L]?).isNone)&&vR md ops L is (ls.setIfInBounds i true)
theorem aE.tks0:∀ (is:List Nat) {n:Nat} {ls:Array Bool} {a:Act} {w:World} (_:(Region.noSelect ops&&vR md ops L is ls)=true) (_:S w) (_:aK P md ops Q S L is n ls a w),aE P md ops Q S L n ls a w
 | [],_,_,_,_,_,_,h=>h
 | i::is,_,ls,_,_,hk,hS,h=>by
  obtain ⟨m,oi,v,rfl,hi,hQ,hy,h⟩:=h;rw [vR,yF,yF,yF,yF] at hk;obtain ⟨h0,⟨⟨h1,h2⟩,h3⟩,h4⟩:=hk;have h5:=aE.tks0 is (by rw [h0,h4];rfl) hS h;rcases Bool.or_eq_true_iff.1 h3 with h3 | h3
  ·exact aE.take hi h0 h1 h2 h3 hQ hy hS h5
  ·exact aE.take2 hi h0 h1 h2 (by simpa using h3) hQ hy hS h5
theorem aE.tks (is:List Nat) {n:Nat} {ls:Array Bool} {a:Act} {w:World} (h:aK P md ops Q S L is n ls a w) (hk:(Region.noSelect ops&&vR md ops L is ls)=true) (hS:S w):aE P md ops Q S L n ls a w:=aE.tks0 is hk hS h
theorem aK.cons {i n:Nat} {is:List Nat} {oi:Oper} {v:Value} {ls:Array Bool} {a:Act} {w:World} (h:aK P md ops Q S L is n (ls.setIfInBounds i true) (a.put oi.dst v) w) (hi:ops[i]? = some oi) (hw:Region.wanted oi (yielded ops a.tmps)=true)
  (hy:∀ w,S w→(execOp a.eval oi).run P w=.ok (.value v) w) (hQ:∀ c a w,Q (.panic c) (a.put oi.dst v) w→Q (.panic c) a w):aK P md ops Q S L (i::is) (n+1) ls a w:=
 ⟨n,oi,v,rfl,hi,hQ,.inl ⟨hw,hy⟩,h⟩
end
end Go.Proofs.YtpidmmfjcghmeaaGreat
