/- Towards clashesWhole_upto. -/
import Derived.Test.YtpidmmfjcghmeaaGreatCs17
import Derived.Test.YtpidmmfjcghmeaaGreatCs21
import Derived.Test.YtpidmmfjcghmeaaGreatCs22
import Derived.Test.YtpidmmfjcghmeaaGreatCs09
set_option maxRecDepth 100000
set_option maxHeartbeats 16000000
set_option linter.all false
namespace Go.Proofs.YtpidmmfjcghmeaaGreat
open Go.RowKit
def bL (x y:Itm):Prop:=x.1<y.1∨(x.1=y.1∧x.2<y.2)
instance (x y:Itm):Decidable (bL x y):=by unfold bL;infer_instance
theorem bL.irr (x:Itm):¬bL x x:=by unfold bL;omega
theorem bL.trans {x y z:Itm} (h:bL x y) (k:bL y z):bL x z:=by unfold bL at *;omega
theorem bL.total {x y:Itm} (h:¬bL x y) (k:¬bL y x):x=y:=by
 obtain ⟨a,b⟩:=x;obtain ⟨c,d⟩:=y;unfold bL at *;simp only at h k;exact Prod.ext (by simp only;omega) (by simp only;omega)
theorem mO:∀ {l m:List Itm},l.Pairwise bL→m.Pairwise bL→(∀ x,x∈l↔x∈m)→l=m
 | [],[],_,_,_=>rfl
 | [],y::m,_,_,h=>absurd ((h y).2 (yH ..)) (by simp)
 | x::l,[],_,_,h=>absurd ((h x).1 (yH ..)) (by simp)
 | x::l,y::m,h1,h2,h=>by
  rw [List.pairwise_cons] at h1 h2;have hxy:x=y:=by
   rcases List.mem_cons.1 ((h x).1 (yH ..)) with e | e
   ·exact e
   rcases List.mem_cons.1 ((h y).2 (yH ..)) with k | k
   ·exact k.symm
   exact absurd ((h1.1 y k).trans (h2.1 x e)) (bL.irr x)
  subst hxy;rw [mO h1.2 h2.2 fun z=>?_];constructor
  ·intro hz;rcases List.mem_cons.1 ((h z).1 (yI _ hz)) with e | e
   ·subst e;exact absurd (h1.1 z hz) (bL.irr z)
   ·exact e
  ·intro hz;rcases List.mem_cons.1 ((h z).2 (yI _ hz)) with e | e
   ·subst e;exact absurd (h2.1 z hz) (bL.irr z)
   ·exact e
namespace Gm
inductive Clo (g:Gm) (K:Itm→Prop):Itm→Prop
 | base {x:Itm}:K x→Clo g K x
 | step {x:Itm} {k:Nat} (h:k<g.rules.length):Clo g K x→g.rules[k].1=g.nxt x→Clo g K ((k:Int),0)
def Gos (g:Gm) (l:List Itm) (s:Int) (y:Itm):Prop:=1≤s∧∃ x,g.Clo (· ∈ l) x∧g.nxt x=s∧y=(x.1,x.2+1)
open Classical in
noncomputable def succK (g:Gm) (l:List Itm) (s:Int):List Itm:=if h:∃ m:List Itm,m.Pairwise bL∧∀ y,y∈m↔g.Gos l s y then h.choose else []
theorem succK_eq {g:Gm} {l m:List Itm} {s:Int} (h1:m.Pairwise bL) (h2:∀ y,y∈m↔g.Gos l s y):g.succK l s=m:=by
 have h:∃ m:List Itm,m.Pairwise bL∧∀ y,y∈m↔g.Gos l s y:=⟨m,h1,h2⟩;unfold succK;rw [dif_pos h];exact mO h.choose_spec.1 h1 fun x=>(h.choose_spec.2 x).trans (h2 x).symm
def allItems (g:Gm):List Itm:=(List.range (g.rules.length+1)).flatMap fun (r:Nat)=>(List.range ((g.rightAt r).length+1)).map fun (d:Nat)=>((r:Int),(d:Int))
theorem allItems_sorted (g:Gm):g.allItems.Pairwise bL:=by
 unfold allItems;rw [List.pairwise_flatMap];constructor
 ·intro r _;rw [List.pairwise_map];exact List.pairwise_lt_range.imp fun h=>.inr ⟨rfl,by simp only;omega⟩
 ·refine List.pairwise_lt_range.imp fun h=>?_;intro x hx y hy;obtain ⟨_,_,rfl⟩:=List.mem_map.1 hx;obtain ⟨_,_,rfl⟩:=List.mem_map.1 hy;exact .inl (by simp only;omega)
theorem pU {g:Gm} {x:Itm}:x∈g.allItems↔g.Ok x:=by
 unfold allItems Ok;rw [List.mem_flatMap];constructor
 ·rintro ⟨r,hr,hx⟩;obtain ⟨d,hd,rfl⟩:=List.mem_map.1 hx;have h1:=List.mem_range.1 hr;have h2:=List.mem_range.1 hd;simp only [yB];omega
 ·intro ⟨h1,h2,h3,h4⟩;obtain ⟨a,b⟩:=x;simp only at h1 h2 h3 h4;exact ⟨a.toNat,List.mem_range.2 (by omega),List.mem_map.2 ⟨b.toNat,List.mem_range.2 (by omega),Prod.ext (by simp only;omega) (by simp only;omega)⟩⟩
theorem mG {g:Gm} {x:Itm} (h:1≤g.nxt x):∃ hd:x.2.toNat<(g.rightAt x.1.toNat).length,g.nxt x=(g.rightAt x.1.toNat)[x.2.toNat]:=by
 unfold nxt at h ⊢;rw [List.getD_eq_getElem?_getD] at h ⊢;by_cases hd:x.2.toNat<(g.rightAt x.1.toNat).length
 ·exact ⟨hd,by rw [List.getElem?_eq_getElem hd];rfl⟩
 ·rw [List.getElem?_eq_none (by omega)] at h;exact absurd h (by decide)
theorem Clo.ok {g:Gm} {K:Itm→Prop} (hK:∀ x,K x→g.Ok x) {x:Itm} (h:g.Clo K x):g.Ok x:=by
 cases h with
 | base h=>exact hK _ h
 | step h _ _=>unfold Ok;simp only;omega
theorem Gos.ok {g:Gm} {l:List Itm} (hl:∀ x∈l,g.Ok x) {s:Int} {y:Itm} (h:g.Gos l s y):g.Ok y:=by
 obtain ⟨hs,x,h1,h2,rfl⟩:=h;have h3:=h1.ok hl;obtain ⟨hd,_⟩:=mG (g:=g) (x:=x) (by omega);unfold Ok at h3 ⊢;simp only;omega
theorem fB {g:Gm} {l:List Itm} (hl:∀ x∈l,g.Ok x) (s:Int):(g.succK l s).Pairwise bL∧∀ y,y∈g.succK l s↔g.Gos l s y:=by
 have h1:(g.allItems.filter fun y=>@decide (g.Gos l s y) (Classical.propDecidable _)).Pairwise bL:=g.allItems_sorted.sublist List.filter_sublist;have h2:∀ y,y∈(g.allItems.filter fun y=>@decide (g.Gos l s y) (Classical.propDecidable _))↔g.Gos l s y:=fun y=>by
  rw [List.mem_filter,pU];constructor
  ·intro h;exact @of_decide_eq_true _ (Classical.propDecidable _) h.2
  ·intro h;exact ⟨h.ok hl,@decide_eq_true _ (Classical.propDecidable _) h⟩
 rw [succK_eq h1 h2];exact ⟨h1,h2⟩
theorem succK_zero (g:Gm) (l:List Itm):g.succK l 0=[]:=succK_eq List.Pairwise.nil fun y=>by
 constructor
 ·intro h;cases h
 ·rintro ⟨h,_⟩;omega
def addK (ks:List (List Itm)) (k:List Itm):List (List Itm):=if k=[]∨k∈ks then ks else ks++[k]
noncomputable def procK (g:Gm) (l:List Itm):Nat→List (List Itm)→List (List Itm)
 | 0,ks=>ks
 | n+1,ks=>addK (procK g l n ks) (g.succK l (n:Int))
noncomputable def buildK (g:Gm):Nat→Nat→List (List Itm)→Option (List (List Itm))
 | 0,_,_=>none
 | f+1,i,ks=>if h:i<ks.length then (if 2000<(procK g ks[i] (g.top+1) ks).length then none else buildK g f (i+1) (procK g ks[i] (g.top+1) ks)) else some ks
def own (g:Gm):List Itm:=[((g.rules.length:Int),0)]
noncomputable def kernels (g:Gm):Option (List (List Itm)):=buildK g 2002 0 [g.own]
noncomputable def transK (g:Gm) (ks:List (List Itm)) (l:List Itm):Nat→List (Int×Int)
 | 0=>[]
 | n+1=>transK g ks l n++if g.succK l ((n:Int)+1)=[] then [] else [((n:Int)+1,(ks.idxOf (g.succK l ((n:Int)+1)):Int))]
theorem addK_le (ks:List (List Itm)) (k:List Itm):ks <+: addK ks k:=by
 unfold addK
 split
 ·exact List.prefix_refl _
 ·exact List.prefix_append _ _
theorem addK_mem {ks:List (List Itm)} {k:List Itm} (h:k≠[]):k∈addK ks k:=by
 unfold addK
 split
 ·rename_i hh;exact hh.resolve_left h
 ·simp
theorem procK_le (g:Gm) (l:List Itm):∀ n ks,ks <+: procK g l n ks
 | 0,_=>List.prefix_refl _
 | n+1,ks=>(procK_le g l n ks).trans (addK_le _ _)
theorem oP {g:Gm} {l:List Itm}:∀ {n:Nat} {ks:List (List Itm)} {s:Nat},s<n→g.succK l (s:Int)≠[]→g.succK l (s:Int)∈procK g l n ks
 | n+1,ks,s,hs,h=>by
  by_cases e:s=n
  ·subst e;exact addK_mem h
  ·exact (addK_le _ _).subset (oP (show s<n by omega) h)
theorem addK_all {P:List Itm→Prop} {ks:List (List Itm)} {k:List Itm} (h:∀ k∈ks,P k) (hk:k≠[]→P k):∀ x∈addK ks k,P x:=by
 unfold addK
 split
 ·exact h
 ·rename_i hn;intro x hx;rcases yC hx with hx | hx
  ·exact h x hx
  ·rw [gV] at hx;subst hx;exact hk fun e=>hn (.inl e)
theorem oN {P:List Itm→Prop} {g:Gm} {l:List Itm} (hk:∀ s:Int,g.succK l s≠[]→P (g.succK l s)):∀ n ks,(∀ k∈ks,P k)→∀ k∈procK g l n ks,P k
 | 0,_,h=>h
 | n+1,ks,h=>addK_all (oN hk n ks h) (hk _)
structure KOk (g:Gm) (k:List Itm):Prop where
 ok:∀ x∈k,g.Ok x
 srt:k.Pairwise bL
 ne:k≠[]
theorem KOk.succ {g:Gm} {k:List Itm} (h:KOk g k) (s:Int) (hn:g.succK k s≠[]):KOk g (g.succK k s):=
 ⟨fun x hx=>(((fB h.ok s).2 x).1 hx).ok h.ok,(fB h.ok s).1,hn⟩
theorem KOk.own (g:Gm):KOk g g.own:=by
 refine ⟨fun x hx=>?_,by simp [Gm.own],by simp [Gm.own]⟩;simp only [Gm.own,gV] at hx;subst hx;unfold Ok;simp only;omega
structure Aut (g:Gm) (ks:List (List Itm)):Prop where
 len:ks.length≤2000
 zero:ks[0]? = some g.own
 kok:∀ k∈ks,KOk g k
 shut:∀ k∈ks,∀ s:Int,0≤s→s≤g.top→g.succK k s≠[]→g.succK k s∈ks
theorem prefix_getElem {α:Type} {a b:List α} (h:a <+: b) {i:Nat} (hi:i<a.length):∃ hb:i<b.length,b[i]=a[i]:=by
 obtain ⟨c,rfl⟩:=h;exact ⟨by simp;omega,by rw [List.getElem_append_left hi]⟩
theorem lJ {g:Gm}:∀ (f i:Nat) (ks r:List (List Itm)),buildK g f i ks=some r→ks.length≤2000→i≤ks.length→ks[0]? = some g.own→(∀ k∈ks,KOk g k)→
  (∀ (j:Nat) (h:j<ks.length),j<i→∀ s:Int,0≤s→s≤g.top→g.succK ks[j] s≠[]→g.succK ks[j] s∈ks)→Aut g r
 | f+1,i,ks,r,e,h1,h2,h3,h4,h5=>by
  unfold buildK at e;by_cases hi:i<ks.length
  ·rw [dif_pos hi] at e;by_cases hm:2000<(procK g ks[i] (g.top+1) ks).length
   ·rw [if_pos hm] at e;cases e
   ·rw [if_neg hm] at e;have hle:=procK_le g ks[i] (g.top+1) ks;refine lJ f (i+1) _ r e (by omega) (by have:=hle.length_le;omega) ?_ (oN (fun s hs=>(h4 _ (gN hi)).succ s hs) _ _ h4) ?_
    ·obtain ⟨hz,_⟩:=gY h3;obtain ⟨hb,e2⟩:=prefix_getElem hle hz;rw [List.getElem?_eq_getElem hb,e2,← List.getElem?_eq_getElem hz,h3]
    ·intro j hj hji s hs0 hs1 hn;have hjk:j<ks.length:=by omega
     obtain ⟨_,e2⟩:=prefix_getElem hle hjk;rw [e2] at hn ⊢;by_cases ej:j=i
     ·subst ej;obtain ⟨n,rfl⟩:∃ n:Nat,s=(n:Int):=⟨s.toNat,by omega⟩;exact oP (by omega) hn
     ·exact hle.subset (h5 j hjk (by omega) s hs0 hs1 hn)
  ·rw [dif_neg hi] at e
   injection e with e
   subst e;refine ⟨h1,h3,h4,fun k hk s hs0 hs1 hn=>?_⟩;obtain ⟨j,hj,rfl⟩:=List.mem_iff_getElem.1 hk;exact h5 j hj (by omega) s hs0 hs1 hn
theorem kernels_aut {g:Gm} {ks:List (List Itm)} (h:g.kernels=some ks):Aut g ks:=
 lJ 2002 0 _ ks h (by simp) (by simp) (by simp) (fun k hk=>by rw [gV] at hk;subst hk;exact KOk.own g) fun j _ hj=>absurd hj (yJ j)
theorem mem_transK {g:Gm} {ks:List (List Itm)} {l:List Itm} {s t:Int}:∀ {n:Nat},(s,t)∈transK g ks l n↔1≤s∧s≤n∧g.succK l s≠[]∧t=(ks.idxOf (g.succK l s):Int)
 | 0=>by
  constructor
  ·intro h;cases h
  ·intro h;omega
 | n+1=>by
  unfold transK;rw [List.mem_append,mem_transK (n:=n)];constructor
  ·rintro (h | h)
   ·exact ⟨h.1,by omega,h.2.2⟩
   ·split at h
    ·cases h
    ·rw [gV] at h
     injection h with e1 e2
     subst e1;rename_i hn;exact ⟨by omega,by omega,hn,e2⟩
  ·rintro ⟨h1,h2,h3,h4⟩;by_cases e:s=(n:Int)+1
   ·subst e;rw [if_neg h3,gV,h4];exact .inr rfl
   ·exact .inl ⟨h1,by omega,h3,h4⟩
theorem Aut.idx {g:Gm} {ks:List (List Itm)} (h:Aut g ks) {k:List Itm} (hk:k∈ks) {s:Int} (hs0:0≤s) (hs1:s≤g.top) (hn:g.succK k s≠[]):∃ hi:ks.idxOf (g.succK k s)<ks.length,ks[ks.idxOf (g.succK k s)]=g.succK k s:=
 ⟨List.idxOf_lt_length_of_mem (h.shut k hk s hs0 hs1 hn),List.getElem_idxOf _⟩
inductive Path (g:Gm) (ks:List (List Itm)):List Int→Nat→Prop
 | nil:Path g ks [] 0
 | step {a:List Int} {i:Nat} {s:Int} (hi:i<ks.length):Path g ks a i→1≤s→s≤g.top→g.succK ks[i] s≠[]→Path g ks (a++[s]) (ks.idxOf (g.succK ks[i] s))
def VI (g:Gm) (a:List Int) (x:Itm):Prop:=g.Ok x∧∃ c b:List Int,a=c++(g.rightAt x.1.toNat).take x.2.toNat∧(∀ s∈b,g.T s∨g.N s)∧∀ w,g.Der (c++g.rightAt x.1.toNat++b) w→g.Der [g.start] w
theorem right_sym {g:Gm} (hk:g.Known) (k:Nat):∀ s∈g.rightAt k,g.T s∨g.N s:=by
 intro s hs;unfold rightAt at hs
 split at hs
 ·exact hk.right _ (gN _) s hs
 ·split at hs
  ·rw [gV] at hs;subst hs;exact .inr hk.st
  ·cases hs
theorem VI.own (g:Gm):VI g [] ((g.rules.length:Int),0):=
 ⟨KOk.own g |>.ok _ (by simp [Gm.own]),[],[],rfl,(fun s hs=>by cases hs),fun w h=>by
  rw [List.nil_append,List.append_nil,yB,rightAt_own] at h;exact h⟩
theorem VI.shift {g:Gm} {a:List Int} {x:Itm} {s:Int} (h:VI g a x) (hs:1≤s) (hn:g.nxt x=s):VI g (a++[s]) (x.1,x.2+1):=by
 obtain ⟨ho,c,b,rfl,h1,h2⟩:=h;obtain ⟨hd,e⟩:=mG (g:=g) (x:=x) (by omega);have ho':=ho;unfold Ok at ho';refine ⟨by unfold Ok;simp only;omega,c,b, ?_,h1,h2⟩;simp only;rw [show (x.2+1).toNat=x.2.toNat+1 by omega,List.take_succ_eq_append_getElem hd,← e,hn,List.append_assoc]
theorem VI.come {g:Gm} (hk:g.Known) {a:List Int} {x:Itm} {k:Nat} (hlt:k<g.rules.length) (h:VI g a x) (hn:g.rules[k].1=g.nxt x):VI g a ((k:Int),0):=by
 obtain ⟨ho,c,b,rfl,h1,h2⟩:=h;have hN:=hk.left _ (gN hlt);obtain ⟨hd,e⟩:=mG (g:=g) (x:=x) (by rw [← hn];unfold N at hN;omega);refine ⟨by unfold Ok;simp only;omega,c++(g.rightAt x.1.toNat).take x.2.toNat,(g.rightAt x.1.toNat).drop (x.2.toNat+1)++b,by simp, ?_,fun w hw=>h2 w ?_⟩
 ·intro s hs;rcases yC hs with hs | hs
  ·exact right_sym hk _ s (List.mem_of_mem_drop hs)
  ·exact h1 s hs
 ·simp only [yB,rightAt_lt g hlt] at hw;rw [List.append_assoc,List.append_assoc] at hw;obtain ⟨u1,v1,rfl,d1,d2⟩:=hw.split _ _ rfl;obtain ⟨u2,v2,rfl,d3,d4⟩:=d2.split _ _ rfl;obtain ⟨u3,v3,rfl,d5,d6⟩:=d4.split _ _ rfl;obtain ⟨u4,v4,rfl,d7,d8⟩:=d6.split _ _ rfl;have hr:(g.nxt x,g.rules[k].2)∈g.rules:=by rw [← hn];exact gN hlt
  have h5:=Der.rule hr d5 d7;rw [e,← List.drop_eq_getElem_cons hd] at h5;have h6:=(d1.app (d3.app h5)).app d8;rw [← List.append_assoc c,List.append_assoc c,List.take_append_drop] at h6
  simpa [List.append_assoc] using h6
theorem VI.clo {g:Gm} (hk:g.Known) {a:List Int} {l:List Itm} (hl:∀ x∈l,VI g a x) {x:Itm} (h:g.Clo (· ∈ l) x):VI g a x:=by
 induction h with
 | base h=>exact hl _ h
 | step hlt _ hn ih=>exact ih.come hk hlt hn
theorem Path.vi {g:Gm} (hk:g.Known) {ks:List (List Itm)} (ha:Aut g ks) {a:List Int} {i:Nat} (h:Path g ks a i):∃ hi:i<ks.length,∀ x∈ks[i],VI g a x:=by
 induction h with
 | nil=>
  obtain ⟨hz,e⟩:=gY ha.zero;refine ⟨hz,fun x hx=>?_⟩;rw [e] at hx;simp only [Gm.own,gV] at hx;subst hx;exact VI.own g
 | @step a i s hi _ h1 h2 h3 ih=>
  obtain ⟨hj,e⟩:=ha.idx (gN hi) (by omega) h2 h3;refine ⟨hj,fun x hx=>?_⟩;rw [e] at hx;obtain ⟨h4,y,h5,h6,rfl⟩:=((fB (ha.kok _ (gN hi)).ok s).2 x).1 hx;exact (VI.clo hk ih.2 h5).shift h4 h6
theorem oQ {g:Gm} (hl:∀ s,g.T s∨g.N s→∃ u,g.Der [s] u):∀ l:List Int,(∀ s∈l,g.T s∨g.N s)→∃ u,g.Der l u
 | [],_=>⟨[],.nil⟩
 | s::l,h=>by
  obtain ⟨u,hu⟩:=hl s (h s (yH ..));obtain ⟨v,hv⟩:=oQ hl l fun t ht=>h t (yI _ ht);exact ⟨u++v,hu.app hv⟩
theorem VI.begins {g:Gm} (hk:g.Known) (hl:∀ s,g.T s∨g.N s→∃ u,g.Der [s] u) {a w:List Int} {x:Itm} (h:VI g a x) (hw:g.Der a w):∃ v,g.Der [g.start] (w++v):=by
 obtain ⟨ho,c,b,rfl,h1,h2⟩:=h;obtain ⟨u,hu⟩:=oQ hl ((g.rightAt x.1.toNat).drop x.2.toNat++b) fun s hs=>by
  rcases yC hs with hs | hs
  ·exact right_sym hk _ s (List.mem_of_mem_drop hs)
  ·exact h1 s hs
 refine ⟨u,h2 _ ?_⟩;have:=hw.app hu;rw [List.append_assoc,← List.append_assoc (List.take _ _),List.take_append_drop,← List.append_assoc] at this;exact this
theorem Path.begins {g:Gm} (hk:g.Known) (hl:∀ s,g.T s∨g.N s→∃ u,g.Der [s] u) {ks:List (List Itm)} (ha:Aut g ks) {a w:List Int} {i:Nat} (h:Path g ks a i) (hw:g.Der a w):∃ v,g.Der [g.start] (w++v):=by
 obtain ⟨hi,h1⟩:=h.vi hk ha;obtain ⟨x,hx⟩:=List.exists_mem_of_ne_nil _ (ha.kok _ (gN hi)).ne;exact (h1 x hx).begins hk hl hw
end Gm
theorem zP {g:Gm} {l:List Int} {d:Nat→Nat→Nat→Bool} {bb:Nat→Nat→Bool}
  (hd:∀ (s:Nat) i j,i≤j→j≤l.length→g.Der [(s:Int)] (Gm.seg l i j)→d s i j=true) (hk:g.Known)
  (hc:∀ r∈g.rules,∀ i,i≤l.length→begB d bb l.length r.2 i=true→bb r.1.toNat i=true) {a v:List Int} (h:g.Der a v):∀ i,i≤l.length→∀ u,v=l.drop i++u→begB d bb l.length a i=true:=by
 induction h with
 | nil=>
  intro i hi u e;have e2:(l.drop i)=[]:=(List.append_eq_nil_iff.1 e.symm).1;have:l.length≤i:=by rw [List.drop_eq_nil_iff] at e2;exact e2
  rw [begB];simp;omega
 | @term s a w hs hr ih=>
  intro i hi u e;rw [iV];by_cases hil:i=l.length
  ·exact .inl hil
  have hlt:i<l.length:=by omega
  rw [List.drop_eq_getElem_cons hlt] at e
  injection e with e1 e2
  refine .inr (.inr ⟨1,by omega,hd _ _ _ (by omega) (by omega) ?_,ih (i+1) (by omega) u e2⟩);rw [Int.toNat_of_nonneg (by unfold Gm.T at hs;omega),Gm.seg_one hlt,← e1];exact .term hs .nil
 | @rule A b a u1 v1 hr h1 h2 ih1 ih2=>
  intro i hi u e;have hA:=hk.left _ hr;have hA0:0≤A:=by unfold Gm.N at hA;simp only at hA;omega
  rw [iV];by_cases hlen:(l.drop i).length≤u1.length
  ·obtain ⟨u',e1⟩:∃ u',u1=l.drop i++u':=by
    rcases List.append_eq_append_iff.1 e with ⟨a',h3,h4⟩ | ⟨a',h3,_⟩
    ·have:a'.length=0:=by have:=congrArg List.length h3;rw [gI] at this;omega
     exact ⟨[],by rw [h3,yM this,List.append_nil,List.append_nil]⟩
    ·exact ⟨a',h3⟩
   exact .inr (.inl (hc _ hr i hi (ih1 i hi u' e1)))
  ·have hl2:(l.drop i).length=l.length-i:=by simp
   have hsp:=List.take_append_drop u1.length (l.drop i);rw [← hsp,List.append_assoc] at e;obtain ⟨e1,e2⟩:=List.append_inj e (by rw [yA];omega);rw [List.drop_drop] at e2;refine .inr (.inr ⟨u1.length,by omega,hd _ _ _ (by omega) (by omega) ?_,ih2 _ (by omega) u e2⟩);rw [Int.toNat_of_nonneg hA0];have:Gm.seg l i (i+u1.length)=u1:=by
    unfold Gm.seg;rw [Nat.add_sub_cancel_left,← e1]
   rw [this];have:=Gm.Der.rule hr h1 .nil
   rwa [List.append_nil] at this
end Go.Proofs.YtpidmmfjcghmeaaGreat
namespace Go.Proofs.YtpidmmfjcghmeaaGreat
noncomputable def nxK (g:Gm) (ks:List (List Itm)) (j s:Nat):List Itm:=match ks[j]? with
 | some l=>g.succK l (s:Int)
 | none=>[]
theorem jZ {g:Gm} {ks:List (List Itm)} {j:Nat} (h:j<ks.length) (s:Nat):nxK g ks j s=g.succK ks[j] (s:Int):=by
 unfold nxK;rw [List.getElem?_eq_getElem h]
theorem eX {g:Gm} {ks ks':List (List Itm)} (hp:ks <+: ks') {j:Nat} (h:j<ks.length) (s:Nat):nxK g ks' j s=nxK g ks j s:=by
 obtain ⟨h2,e⟩:=Gm.prefix_getElem hp h;rw [jZ h,jZ h2,e]
def cN (g:Gm) (i s j t:Nat):Prop:=(j<i∨(j=i∧t<s))∧t≤g.top
instance (g:Gm) (i s j t:Nat):Decidable (cN g i s j t):=by unfold cN;infer_instance
structure Au (g:Gm) (ks:List (List Itm)) (i s:Nat):Prop where
 zero:ks[0]? = some g.own
 kok:∀ k∈ks,Gm.KOk g k
 il:i≤ks.length
 is:0<s→i<ks.length
 shut:∀ j t,cN g i s j t→nxK g ks j t≠[]→nxK g ks j t∈ks
theorem Au.start (g:Gm):Au g [g.own] 0 0:=⟨rfl,fun k hk=>by rw [gV] at hk;subst hk;exact Gm.KOk.own g,by simp,fun h=>absurd h (Nat.lt_irrefl 0),fun j t h=>by unfold cN at h;omega⟩
theorem Au.jl {g:Gm} {ks:List (List Itm)} {i s j t:Nat} (h:Au g ks i s) (hd:cN g i s j t):j<ks.length:=by
 unfold cN at hd;have:=h.il;have h2:=h.is;rcases hd.1 with h3 | ⟨h3,h4⟩
 ·omega
 ·have:=h2 (by omega);omega
theorem Au.step {g:Gm} {ks:List (List Itm)} {i s:Nat} (h:Au g ks i s) (hi:i<ks.length):Au g (Gm.addK ks (nxK g ks i s)) i (s+1):=by
 have hp:=Gm.addK_le ks (nxK g ks i s);have hz:=hp.length_le;refine ⟨?_,Gm.addK_all h.kok fun hn=>?_,by omega,fun _=>by omega,fun j t hd hn=>?_⟩
 ·obtain ⟨h0,e⟩:=gY h.zero;obtain ⟨hb,e2⟩:=Gm.prefix_getElem hp h0;rw [List.getElem?_eq_getElem hb,e2,e]
 ·rw [jZ hi] at hn ⊢;exact (h.kok _ (gN hi)).succ _ hn
 ·by_cases e:j=i∧t=s
  ·obtain ⟨rfl,rfl⟩:=e;rw [eX hp hi] at hn ⊢;exact Gm.addK_mem hn
  ·have hd2:cN g i s j t:=by unfold cN at hd ⊢;omega
   have hj:=h.jl hd2;rw [eX hp hj] at hn ⊢;exact hp.subset (h.shut j t hd2 hn)
theorem Au.next {g:Gm} {ks:List (List Itm)} {i:Nat} (h:Au g ks i (g.top+1)):Au g ks (i+1) 0:=
 ⟨h.zero,h.kok,h.is (by omega),fun h=>absurd h (Nat.lt_irrefl 0),fun j t hd=>h.shut j t (by unfold cN at hd ⊢;omega)⟩
noncomputable def toF (g:Gm) (ks:List (List Itm)) (i s:Nat):Pk→Option Int:=fun p=>
 @ite _ (cN g i s p.1.val p.2.val∧nxK g ks p.1.val p.2.val≠[]) (Classical.propDecidable _) (some (ks.idxOf (nxK g ks p.1.val p.2.val):Int)) none
theorem eH {g:Gm} {ks:List (List Itm)} {i s:Nat} {p:Pk} (h:cN g i s p.1.val p.2.val) (hn:nxK g ks p.1.val p.2.val≠[]):toF g ks i s p=some (ks.idxOf (nxK g ks p.1.val p.2.val):Int):=@if_pos _ (Classical.propDecidable _) ⟨h,hn⟩ _ _ _
theorem fD {g:Gm} {ks:List (List Itm)} {i s:Nat} {p:Pk} (h:¬(cN g i s p.1.val p.2.val∧nxK g ks p.1.val p.2.val≠[])):toF g ks i s p=none:=@if_neg _ (Classical.propDecidable _) h _ _ _
theorem yS (g:Gm) (ks:List (List Itm)) (p:Pk):toF g ks 0 0 p=none:=fD fun h=>by have:=h.1;unfold cN at this;omega
theorem DU (g:Gm) (ks:List (List Itm)) (i:Nat) (p:Pk):toF g ks i (g.top+1) p=toF g ks (i+1) 0 p:=by
 have e:cN g i (g.top+1) p.1.val p.2.val↔cN g (i+1) 0 p.1.val p.2.val:=by unfold cN;omega
 by_cases h:cN g (i+1) 0 p.1.val p.2.val∧nxK g ks p.1.val p.2.val≠[]
 ·rw [eH h.1 h.2,eH (e.2 h.1) h.2]
 ·rw [fD h,fD fun h2=>h ⟨e.1 h2.1,h2.2⟩]
theorem zJ {ks:List (List Itm)} {k x:List Itm} (h:x∈ks):(Gm.addK ks k).idxOf x=ks.idxOf x:=by
 unfold Gm.addK
 split
 ·rfl
 ·rw [List.idxOf_append,if_pos h]
theorem DV {g:Gm} {ks:List (List Itm)} {i s:Nat} (hn:nxK g ks i s=[]) (p:Pk):toF g ks i s p=toF g ks i (s+1) p:=by
 by_cases h:cN g i (s+1) p.1.val p.2.val∧nxK g ks p.1.val p.2.val≠[]
 ·have h2:cN g i s p.1.val p.2.val:=by
   have h3:=h.1;unfold cN at h3 ⊢;by_cases e:p.1.val=i∧p.2.val=s
   ·rw [e.1,e.2] at h;exact absurd hn h.2
   ·omega
  rw [eH h.1 h.2,eH h2 h.2]
 ·rw [fD h,fD fun h2=>h ⟨by have h3:=h2.1;unfold cN at h3 ⊢;omega,h2.2⟩]
theorem DX {g:Gm} {ks:List (List Itm)} {i s:Nat} (ha:Au g ks i s) (hi:i<ks.length) (hs:s≤g.top) (hn:nxK g ks i s≠[]) (hi2:i<65536) (hs2:s<65536) (p:Pk):
  eK (toF g ks i s) (⟨⟨i,hi2⟩,⟨s,hs2⟩⟩:Pk) ((Gm.addK ks (nxK g ks i s)).idxOf (nxK g ks i s):Int) p=toF g (Gm.addK ks (nxK g ks i s)) i (s+1) p:=by
 have hp:=Gm.addK_le ks (nxK g ks i s);unfold eK;by_cases e:p=(⟨⟨i,hi2⟩,⟨s,hs2⟩⟩:Pk)
 ·subst e;rw [if_pos rfl,eH (show cN g i (s+1) i s by unfold cN;omega) (by simp only;rw [eX hp hi];exact hn)];simp only;rw [eX hp hi]
 ·rw [if_neg e];have hne:¬(p.1.val=i∧p.2.val=s):=fun h=>e (Prod.ext (Fin.ext h.1) (Fin.ext h.2));by_cases h:cN g i s p.1.val p.2.val∧nxK g ks p.1.val p.2.val≠[]
  ·have hj:=ha.jl h.1;have h2:cN g i (s+1) p.1.val p.2.val:=by have h3:=h.1;unfold cN at h3 ⊢;omega
   rw [eH h.1 h.2,eH h2 (by rw [eX hp hj];exact h.2),eX hp hj,zJ (ha.shut _ _ h.1 h.2)]
  ·rw [fD h,fD fun h2=>h ?_];have h3:cN g i s p.1.val p.2.val:=by have h3:=h2.1;unfold cN at h3 ⊢;omega
   have hj:=ha.jl h3;exact ⟨h3,by rw [← eX hp hj];exact h2.2⟩
theorem DW {g:Gm} {ks:List (List Itm)} {i s:Nat} (p:Pk) (h:¬cN g i s p.1.val p.2.val):toF g ks i s p=none:=fD fun h2=>h h2.1
theorem tM {g:Gm} {l:List Itm} {ks0 ks:List (List Itm)} {s:Nat} (h:ks=Gm.procK g l s ks0) {i:Nat} (hi:i<ks.length) (hl:ks[i]=l):Gm.addK ks (nxK g ks i s)=Gm.procK g l (s+1) ks0:=by
 rw [jZ hi,hl,h];rfl
theorem rB {g:Gm} {f i:Nat} {ks:List (List Itm)} (hi:i<ks.length) (hm:(Gm.procK g ks[i] (g.top+1) ks).length≤2000):Gm.buildK g (f+1) i ks=Gm.buildK g f (i+1) (Gm.procK g ks[i] (g.top+1) ks):=by
 conv=>lhs;unfold Gm.buildK
 rw [dif_pos hi,if_neg (by omega)]
theorem rA {g:Gm} {f i:Nat} {ks:List (List Itm)} (hi:i<ks.length) (hm:2000<(Gm.procK g ks[i] (g.top+1) ks).length):Gm.buildK g (f+1) i ks=none:=by
 unfold Gm.buildK;rw [dif_pos hi,if_pos hm]
theorem sX {g:Gm} {f i:Nat} {ks:List (List Itm)} (hi:¬i<ks.length):Gm.buildK g (f+1) i ks=some ks:=by
 unfold Gm.buildK;rw [dif_neg hi]
theorem qT (ks:List (List Itm)) (k:List Itm):(Gm.addK ks k).length≤ks.length+1:=by
 unfold Gm.addK
 split
 ·omega
 ·simp
theorem oO (g:Gm) (l:List Itm):∀ n ks,(Gm.procK g l n ks).length≤ks.length+n
 | 0,_=>gO _
 | n+1,ks=>by
  have h1:=oO g l n ks;have h2:=qT (Gm.procK g l n ks) (g.succK l (n:Int));show (Gm.addK (Gm.procK g l n ks) (g.succK l (n:Int))).length≤_;omega
theorem Gm.KOk.small {g:Gm} {k:List Itm} (h:Gm.KOk g k) (hr:g.rules.length≤300) (hrl:∀ r∈g.rules,r.2.length≤8):∀ x∈k,0≤x.1∧x.1≤300∧0≤x.2∧x.2≤8:=fun x hx=>by
 have h1:=h.ok x hx;unfold Gm.Ok at h1;have h8:(g.rightAt x.1.toNat).length≤8:=by
  unfold Gm.rightAt
  split
  ·exact hrl _ (gN _)
  ·split <;> simp
 omega
theorem EZ {α:Type} {l:List α} {n:Nat} (f:α→Nat) (hf:∀ x∈l,f x<n) (hp:l.Pairwise fun x y=>f x≠f y):l.length≤n:=by
 have h1:(l.map f).Nodup:=by
  rw [List.Nodup,List.pairwise_map];exact hp
 have h2:∀ {m:List Nat} {n:Nat},m.Nodup→(∀ x∈m,x<n)→m.length≤n:=by
  intro m n
  induction n generalizing m with
  | zero=>
   intro _ h;cases m with
   | nil=>exact gO _
   | cons x _=>exact absurd (h x (yH ..)) (yJ _)
  | succ n ih=>
   intro hn h;have h3:=ih (m:=m.erase n) (hn.erase n) fun x hx=>by
    have h4:=h x (List.mem_of_mem_erase hx);have h5:x≠n:=((List.Nodup.mem_erase_iff hn).1 hx).1;omega
   have h6:m.length≤(m.erase n).length+1:=by
    rw [List.length_erase]
    split <;> omega
   omega
 have h3:=h2 h1 fun x hx=>by
  obtain ⟨y,hy,rfl⟩:=List.mem_map.1 hx;exact hf y hy
 simpa using h3
theorem Gm.KOk.len {g:Gm} {k:List Itm} (h:Gm.KOk g k) (hr:g.rules.length≤300) (hrl:∀ r∈g.rules,r.2.length≤8):k.length≤2709:=by
 have hs:=h.small hr hrl;refine EZ (n:=2709) (fun x:Itm=>x.1.toNat*9+x.2.toNat) (fun x hx=>by have:=hs x hx;omega) ?_;refine (List.pairwise_iff_getElem.2 fun i j hi hj hij=>?_:k.Pairwise fun x y=>x.1.toNat*9+x.2.toNat≠y.1.toNat*9+y.2.toNat);have h1:=List.pairwise_iff_getElem.1 h.srt i j hi hj hij;have h2:=hs _ (gN hi);have h3:=hs _ (gN hj);unfold bL at h1;omega
def k8 (g : Gm) (ks : List (List Itm)) : Prop := ∀ j (hj : j < ks.length), 0 < j → ∃ i, ∃ hi : i < j, ∃ s : Nat, 1 ≤ s ∧ s ≤ g.top ∧ g.succK (ks[i]'(Nat.lt_trans hi hj)) (s : Int) = ks[j] ∧ ks[j] ≠ []
theorem wO {g:Gm} {ks:List (List Itm)} {i s:Nat} (h:k8 g ks) (hi:i<ks.length) (hs:s≤g.top):k8 g (Gm.addK ks (g.succK ks[i] (s:Int))):=by
 unfold Gm.addK
 split
 ·exact h
 ·rename_i hn;intro j hj h0;rw [gI,gZ] at hj;by_cases e:j<ks.length
  ·obtain ⟨i',hi',s',h1,h2,h3,h4⟩:=h j e h0;refine ⟨i',hi',s',h1,h2, ?_, ?_⟩
   ·rw [List.getElem_append_left e,List.getElem_append_left (by omega)];exact h3
   ·rw [List.getElem_append_left e];exact h4
  ·obtain rfl:j=ks.length:=by omega
   have hne:g.succK ks[i] (s:Int)≠[]:=fun e=>hn (.inl e);refine ⟨i,hi,s, ?_,hs, ?_, ?_⟩
   ·rcases Nat.eq_zero_or_pos s with e | e
    ·subst e;exact absurd (Gm.succK_zero g ks[i]) hne
    ·exact e
   ·rw [List.getElem_concat_length rfl,List.getElem_append_left hi]
   ·rw [List.getElem_concat_length rfl];exact hne
theorem lM {g:Gm} {ks:List (List Itm)} {i:Nat} (h:k8 g ks) (hi:i<ks.length):∀ n,n≤g.top+1→k8 g (Gm.procK g ks[i] n ks)
 | 0,_=>h
 | n+1,hn=>by
  have h1:=lM h hi n (by omega);obtain ⟨h2,h3⟩:=Gm.prefix_getElem (Gm.procK_le g ks[i] n ks) hi;have h4:=wO h1 h2 (s:=n) (by omega);rw [h3] at h4;exact h4
theorem kE {g:Gm}:∀ (f i:Nat) (ks r:List (List Itm)),Gm.buildK g f i ks=some r→k8 g ks→k8 g r
 | f+1,i,ks,r,e,h=>by
  unfold Gm.buildK at e
  split at e
  ·rename_i hi
   split at e
   ·cases e
   ·exact kE f (i+1) _ r e (lM h hi _ (gO _))
  ·injection e with e
   subst e;exact h
theorem pR {g:Gm} {ks:List (List Itm)} (h:g.kernels=some ks):k8 g ks:=
 kE 2002 0 _ ks h fun j hj h0=>by simp at hj;omega
open Go.RowKit
theorem yR {x N:Nat} {b:List Int} {d d':Nat→Nat→Nat→Bool} {bb bb':Nat→Nat→Bool} (h:Steps x b N d bb d' bb') (s i:Nat) (h0:bb s i=true):bb' s i=true:=by
 induction h with
 | refl=>exact h0
 | dd _ _ _ _ ih=>exact ih
 | bb _ _ _ ih=>
  unfold setB
  split
  ·rfl
  ·exact ih
theorem wZ {g:Gm} {N:Nat} {d0 d:Nat→Nat→Nat→Bool} {b0 bb:Nat→Nat→Bool} (h:Grown g N d0 b0 d bb) (s i:Nat) (h0:b0 s i=true):bb s i=true:=by
 induction h with
 | refl=>exact h0
 | step _ _ hs ih=>exact yR hs s i ih
theorem lH (G:Nat→Prop) (w:World) (vs:List Value) (g:Gm) (Al:Option Addr) (cl:Nat) (l u:List Int)(hG:∀ k,G k→k<w.heap.size) (hg:GmV G w vs g) (hk:g.Known) (hl:g.top≤1000) (hll:l.length≤1000) (hlr:g.rules.length≤100000) (hi:aF G w (.slice Al l.length cl) l) (hd:g.Der [g.start] (l++u)):
  Calls Tryz.prog 18 #[ag vs,.slice Al l.length cl] w fun e w'=>e=.returned (.bool true)∧Below w.heap.size w w':=by
 obtain ⟨A0,c0,A1,c1,A2,c2,W,ev,hW,⟨x0,x1,x2,x3⟩,HB,HX⟩:=GBox.go hG hg;rw [ev];have HG:=Ha hG;clear hG hg ev;have h3:=G6 G;unfold ag at h3;have HF:=Ha (h3 W _ g Al cl l HX.out.old HX.out.gm hk hl hll hlr (aF.below HG.out HB.out hi));obtain ⟨st,hst⟩:∃ st:Nat,g.start=(st:Int):=⟨g.start.toNat,by have:=hk.st;unfold Gm.N at this;omega⟩;have hstm:st<g.top+1:=by have:=hk.st;unfold Gm.N at this;omega
 have HK:=Ha hk;have HST:=Ha hst;have HD:=Ha hd;clear h3 hk hi hst hd;go_enter Tryz.func18,Tryz.ntmps18;go_wp2_with fail;refine (HF.out).mono ?_;rintro e w1 hp;obtain ⟨bc,bd,bB,p,r,q,d,bb,v0,v1,v2,v3,rfl,hch,hfi,hb1⟩:=hp;have HFI:=Ha (show bb st 0=true∨d st 0 l.length=true from by
  have h1:=zP (fun s i j hij hj h=>(tB HK.out hfi hij hj).2 h) HK.out hfi.cb HD.out 0 (gX _) u (by simp);rw [iV,HST.out,yB] at h1;rcases h1 with h1 | h1 | ⟨k,hk,h1,h2⟩
  ·exact .inl (wZ hfi.gr _ _ (by unfold b0F;simp [← h1]))
  ·exact .inl h1
  ·rw [begB,beq_iff_eq] at h2;rw [Nat.zero_add] at h1 h2;subst h2;exact .inr h1)
 have HX1:=Ha (HX.out.on hb1);have HB1:=Ha (HB.out.trans (hb1.mono HB.out.size));clear x0 x1 x2 x3 hb1;obtain ⟨x0,x1,x2,x3⟩:=HX1.out.cells;have hst:=HST.out;rw [hst] at x3;obtain ⟨e1,e2,e3,e4⟩:=hch.dcells hstm (show 0<l.length+1 by omega) (show l.length<l.length+1 by omega);obtain ⟨_,f1,f2,f3⟩:=hch.bcells hstm (show 0<l.length+1 by omega);clear hch hfi hst HST
 revert e4 f3 HFI
 generalize d st 0 l.length=d1;generalize bb st 0=b1;intro HFI f3 e4;have c1:w1.drew.cell? _=_:=e1;have c2:w1.drew.cell? _=_:=e2;have c3:w1.drew.cell? _=_:=e3;have c4:w1.drew.cell? _=_:=e4;have c5:w1.drew.cell? _=_:=x3;have c6:w1.drew.cell? _=_:=f1;have c7:w1.drew.cell? _=_:=f2;have c8:w1.drew.cell? _=_:=f3;go_wp2_with fail;cases b1
 ·obtain rfl:d1=true:=HFI.out.resolve_left (by simp)
  go_region
  go_wp2_with fail;go_ret;exact ⟨rfl,HB1.out.drew⟩
 ·go_region
  go_wp2_with fail;go_ret;exact ⟨rfl,HB1.out.drew⟩
end Go.Proofs.YtpidmmfjcghmeaaGreat
