/- Towards clashesWhole_upto. -/
import Derived.Test.YtpidmmfjcghmeaaGreatCs24
import Derived.Test.YtpidmmfjcghmeaaGreatCs23
set_option maxRecDepth 100000
set_option maxHeartbeats 16000000
set_option linter.all false
namespace Go.Proofs.YtpidmmfjcghmeaaGreat
theorem xL {ks:List (List Itm)} {k:List Itm} (h:ks.Nodup):(Gm.addK ks k).Nodup:=by
 unfold Gm.addK
 split
 ·exact h
 ·rename_i hn;rw [List.nodup_append];refine ⟨h,by simp,fun a ha b hb=>?_⟩;rw [gV] at hb;subst hb;exact fun e=>hn (.inr (e▸ha))
theorem mD {g:Gm} {l:List Itm}:∀ (n:Nat) (ks:List (List Itm)),ks.Nodup→(Gm.procK g l n ks).Nodup
 | 0,_,h=>h
 | n+1,ks,h=>xL (mD n ks h)
theorem kH {g:Gm}:∀ (f i:Nat) (ks r:List (List Itm)),Gm.buildK g f i ks=some r→ks.Nodup→r.Nodup
 | f+1,i,ks,r,e,h=>by
  unfold Gm.buildK at e
  split at e
  ·split at e
   ·cases e
   ·exact kH f (i+1) _ r e (mD _ _ h)
  ·injection e with e
   subst e;exact h
theorem nI {g:Gm} {ks:List (List Itm)} (h:g.kernels=some ks):ks.Nodup:=kH 2002 0 _ ks h (by simp)
theorem IB {ks:List (List Itm)} (h:ks.Nodup) {j:Nat} (hj:j<ks.length):ks.idxOf ks[j]=j:=by
 have h1:ks.idxOf ks[j]<ks.length:=List.idxOf_lt_length_of_mem (gN hj);have h2:ks[ks.idxOf ks[j]]=ks[j]:=List.getElem_idxOf h1;exact (List.getElem_inj h).1 h2
theorem GK (b:Bool):nb b≤1:=by cases b <;> decide
def cnW (W:Nat→Option (List Int)) (n:Nat):Nat:=dY (fun i=>nb (W i).isSome) n
def g4 (W:Nat→Option (List Int)) (t:Nat) (l:List Int):Nat→Option (List Int):=fun i=>if i=t then some l else W i
theorem AK {W:Nat→Option (List Int)} {n t:Nat} (l:List Int) (ht:t<n) (h:W t=none):cnW (g4 W t l) n+1≤cnW W n:=by
 refine Nat.succ_le_of_lt (eG n (fun k _=>?_) ⟨t,ht, ?_⟩)
 ·unfold g4;by_cases e:k=t
  ·subst e;simp [nb]
  ·simp [e]
 ·simp [g4,h,nb]
structure Wv (g:Gm) (ks:List (List Itm)) (W:Nat→Option (List Int)) (P:Int→Prop):Prop where
 path:∀ (i:Nat) (l:List Int),i<ks.length→W i=some l→Gm.Path g ks l i∧l.length+cnW W ks.length≤ks.length
 cl:∀ (i:Nat) (h:i<ks.length),(W i).isSome=true→¬P (i:Int)→∀ s t,(s,t)∈Gm.transK g ks ks[i] g.top→(W t.toNat).isSome=true
 zero:(W 0).isSome=true
theorem Wv.start {g:Gm} {ks:List (List Itm)} (_:0<ks.length):Wv g ks (fun i=>if i=0 then some [] else none) (· ∈ [(0:Int)]):=by
 refine ⟨fun i l hi e=>?_,fun i hi e hp=>?_,rfl⟩
 ·by_cases h0:i=0
  ·subst h0;simp at e;subst e;refine ⟨.nil, ?_⟩;have:∀ (f:Nat→Nat),(∀ i,f i≤1)→∀ n,dY f n≤n:=fun f hf n=>by
    induction n with
    | zero=>exact gO _
    | succ n ih=>have:=hf n;show dY f n+f n≤n+1;omega
   have:=this (fun i=>nb (if i=0 then some ([]:List Int) else none).isSome) (fun i=>GK _) ks.length
   simpa [cnW] using this
  ·rw [if_neg h0] at e;cases e
 ·by_cases h0:i=0
  ·subst h0;exact absurd (by simp) hp
  ·simp [h0] at e
theorem Wv.mono {g:Gm} {ks:List (List Itm)} {W:Nat→Option (List Int)} {P Q:Int→Prop} (h:Wv g ks W P) (hQ:∀ i:Nat,(hi:i<ks.length)→P (i:Int)→Q (i:Int)∨∀ s t,(s,t)∈Gm.transK g ks ks[i] g.top→(W t.toNat).isSome=true):Wv g ks W Q:=
 ⟨h.path,fun i hi e hn=>by
  by_cases hp:P (i:Int)
  ·exact (hQ i hi hp).resolve_left hn
  ·exact h.cl i hi e hp,h.zero⟩
theorem Wv.put {g:Gm} {ks:List (List Itm)} {W:Nat→Option (List Int)} {P:Int→Prop} (h:Wv g ks W P) (ha:Gm.Aut g ks) {i:Nat} (hi:i<ks.length) {l:List Int} (hW:W i=some l) {s t:Int} (hst:(s,t)∈Gm.transK g ks ks[i] g.top) (hn:W t.toNat=none):
  Wv g ks (g4 W t.toNat (l++[s])) (fun x=>P x∨x=t):=by
 obtain ⟨h1,h2,h3,h4⟩:=Gm.mem_transK.1 hst;obtain ⟨hj,_⟩:=ha.idx (gN hi) (by omega) h2 h3;have ht:t.toNat<ks.length:=by omega
 have hc:=AK (l++[s]) ht hn;obtain ⟨hp1,hp2⟩:=h.path i l hi hW;refine ⟨fun j l' hjl e=>?_,fun j hjl e hnp s' t' hm=>?_, ?_⟩
 ·unfold g4 at e;by_cases ej:j=t.toNat
  ·rw [if_pos ej] at e
   injection e with e
   subst e ej;refine ⟨?_,by rw [gI,gZ];omega⟩;rw [h4,yB];exact .step hi hp1 h1 h2 h3
  ·rw [if_neg ej] at e;obtain ⟨k1,k2⟩:=h.path j l' hjl e;exact ⟨k1,by omega⟩
 ·have hjt:j≠t.toNat:=fun e=>hnp (.inr (by omega));unfold g4 at e ⊢;rw [if_neg hjt] at e;have:=h.cl j hjl e (fun h=>hnp (.inl h)) s' t' hm
  split
  ·rfl
  ·exact this
 ·unfold g4
  split
  ·rfl
  ·exact h.zero
theorem Wv.all {g:Gm} {ks:List (List Itm)} {W:Nat→Option (List Int)} (hk:g.kernels=some ks) (h:Wv g ks W (fun _=>False)):∀ j,j<ks.length→(W j).isSome=true:=by
 intro j
 induction j using Nat.strongRecOn with
 | ind j ih=>
  intro hj;rcases Nat.eq_zero_or_pos j with e | e
  ·subst e;exact h.zero
  ·obtain ⟨i,hi,s,h1,h2,h3,h4⟩:=pR hk j hj e;have:=h.cl i (by omega) (ih i hi (by omega)) (fun h=>h) (s:Int) (ks.idxOf (g.succK ks[i] (s:Int)):Int) (Gm.mem_transK.2 ⟨by omega,by omega,by rw [h3];exact h4,rfl⟩);rw [h3,yB,IB (nI hk)] at this;exact this
theorem oD:∀ a,bZ a a=0
 | []=>rfl
 | x::a=>by unfold bZ;rw [if_neg (by omega),if_neg (by omega)];exact oD a
theorem mC:∀ a b c,bZ a b<0→bZ b c<0→bZ a c<0
 | [],[],_,h,_=>by simp [bZ] at h
 | [],_::_,[],_,h=>by simp [bZ] at h
 | [],_::_,_::_,_,_=>by simp [bZ]
 | _::_,[],_,h,_=>by simp [bZ] at h
 | _::_,_::_,[],_,h=>by simp [bZ] at h
 | x::a,y::b,z::c,h,k=>by
  unfold bZ at *;by_cases h1:x<y
  ·by_cases h2:y<z
   ·rw [if_pos (show x<z by omega)];omega
   ·rw [if_neg h2] at k;by_cases h3:z<y
    ·rw [if_pos h3] at k;omega
    ·rw [if_pos (show x<z by omega)];omega
  ·rw [if_neg h1] at h;by_cases h2:y<x
   ·rw [if_pos h2] at h;omega
   ·rw [if_neg h2] at h;by_cases h3:y<z
    ·rw [if_pos (show x<z by omega)];omega
    ·rw [if_neg h3] at k;by_cases h4:z<y
     ·rw [if_pos h4] at k;omega
     ·rw [if_neg h4] at k;rw [if_neg (show ¬x<z by omega),if_neg (show ¬z<x by omega)];exact mC a b c h k
theorem kF:∀ a b c,¬bZ a b<0→¬bZ b c<0→¬bZ a c<0
 | [],[],_,_,k=>k
 | [],_::_,_,h,_=>by simp [bZ] at h
 | _::_,_,[],_,_=>by simp [bZ]
 | _::_,[],_::_,_,k=>by simp [bZ] at k
 | x::a,y::b,z::c,h,k=>by
  unfold bZ at *;by_cases h1:x<y
  ·rw [if_pos h1] at h;omega
  ·rw [if_neg h1] at h;by_cases h2:y<z
   ·rw [if_pos h2] at k;omega
   ·rw [if_neg h2] at k;rw [if_neg (show ¬x<z by omega)];by_cases h3:z<x
    ·rw [if_pos h3];omega
    ·rw [if_neg h3];rw [if_neg (show ¬y<x by omega)] at h;rw [if_neg (show ¬z<y by omega)] at k;exact kF a b c h k
end Go.Proofs.YtpidmmfjcghmeaaGreat
