/- Towards unparseHeres_card. -/
import Derived.Test.YtjpopekmbmcggaaGreatDoorUh19
import Derived.Deep.OwnRows
import Derived.Below
set_option maxRecDepth 100000
set_option maxHeartbeats 16000000
namespace Go.Proofs.YtjpopekmbmcggaaGreatDoor
open Go.RowKit
def iE {β:Type} (sz:Nat) (R:List Value→β→Prop):List (List Value)→List β→Prop:=fB fun vs x=>vs.length=sz∧R vs x
section
variable {β:Type} {sz:Nat} {R:List Value→β→Prop}
theorem iE.len:∀ {us:List (List Value)} {xs:List β},iE sz R us xs→us.flatten.length=xs.length*sz
 | [],[],_=>by simp
 | [],_::_,h=>h.elim
 | _::_,[],h=>h.elim
 | vs::us,x::xs,h=>by
  have:=iE.len (us:=us) (xs:=xs) h.2;rw [List.flatten_cons,gI,this,h.1.1,gG,Nat.add_mul];omega
theorem iE.app:∀ {us:List (List Value)} {xs:List β} {ts:List (List Value)} {ys:List β},iE sz R us xs→iE sz R ts ys→iE sz R (us++ts) (xs++ys)
 | [],[],_,_,_,k=>k
 | [],_::_,_,_,h,_=>h.elim
 | _::_,[],_,_,h,_=>h.elim
 | _::_,_::_,_,_,h,k=>⟨h.1,iE.app h.2 k⟩
theorem iE.get:∀ {us:List (List Value)} {xs:List β},iE sz R us xs→∀ i (h:i<xs.length),∃ vs,vs.length=sz∧R vs xs[i]∧∀ j u,vs[j]? = some u→us.flatten[i*sz+j]? = some u
 | [],[],_,i,h=>absurd h (Nat.not_lt_zero i)
 | [],_::_,h,_,_=>h.elim
 | _::_,[],h,_,_=>h.elim
 | vs::us,x::xs,h,0,_=>⟨vs,h.1.1,h.1.2,fun j u hj=>by
   have hl:=(List.getElem?_eq_some_iff.1 hj).1;rw [Nat.zero_mul,Nat.zero_add,List.flatten_cons,List.getElem?_append_left hl];exact hj⟩
 | vs::us,x::xs,h,i+1,hi=>by
  obtain ⟨ts,h1,h2,h3⟩:=iE.get h.2 i (by simpa using hi);refine ⟨ts,h1,by simpa using h2,fun j u hj=>?_⟩;have e:=h.1.1;rw [List.flatten_cons,List.getElem?_append_right (by rw [Nat.add_mul];omega),show (i+1)*sz+j-vs.length=i*sz+j by rw [Nat.add_mul];omega];exact h3 j u hj
theorem iE.all {P:Value→Prop} (hP:∀ vs x,R vs x→∀ u∈vs,P u):∀ {us:List (List Value)} {xs:List β},iE sz R us xs→∀ u∈us.flatten,P u
 | [],[],_,u,hu=>by simp at hu
 | [],_::_,h,_,_=>h.elim
 | _::_,[],h,_,_=>h.elim
 | vs::us,x::xs,h,u,hu=>by
  rw [List.flatten_cons,List.mem_append] at hu;rcases hu with hu | hu
  ·exact hP _ _ h.1.2 u hu
  ·exact iE.all hP h.2 u hu
theorem uA {w:World} {b:Nat}:∀ (xs:List β) (off:Nat),(∀ i (h:i<xs.length),∃ vs:List Value,vs.length=sz∧R vs xs[i]∧∀ j u,vs[j]? = some u→w.cell? ⟨b,off+i*sz+j,none⟩=some u)→
  ∃ us,iE sz R us xs∧∀ j u,us.flatten[j]? = some u→w.cell? ⟨b,off+j,none⟩=some u
 | [],off,_=>⟨[],trivial,fun j u h=>by simp at h⟩
 | x::xs,off,h=>by
  obtain ⟨vs,h1,h2,h3⟩:=h 0 (by simp);obtain ⟨us,k1,k2⟩:=uA xs (off+sz) fun i hi=>by
   obtain ⟨ts,t1,t2,t3⟩:=h (i+1) (by simpa using hi);refine ⟨ts,t1,by simpa using t2,fun j u hj=>?_⟩;rw [show off+sz+i*sz+j=off+(i+1)*sz+j by rw [Nat.add_mul];omega];exact t3 j u hj
  refine ⟨vs::us,⟨⟨h1,by simpa using h2⟩,k1⟩,fun j u hj=>?_⟩;rw [List.flatten_cons] at hj;by_cases hl:j<vs.length
  ·rw [List.getElem?_append_left hl] at hj;have:=h3 j u hj;rw [Nat.zero_mul,Nat.add_zero] at this;exact this
  ·rw [List.getElem?_append_right (by omega)] at hj;have:=k2 _ u hj;rw [show off+sz+(j-vs.length)=off+j by omega] at this;exact this
theorem aV.flat {G:Nat→Prop} {w:World} {v:Value} {xs:List β} (h:aV G w sz R v xs):
  ∃ us,iE sz R us xs∧∃ A c,v=.slice A xs.length c∧xs.length≤c∧c≤maxLen∧(0<xs.length→∃ b off,A=some ⟨b,off,none⟩∧G b∧∀ j u,us.flatten[j]? = some u→w.cell? ⟨b,off+j,none⟩=some u):=by
 obtain ⟨A,c,h1,h2,h3,h4⟩:=h;by_cases hn:0<xs.length
 ·obtain ⟨b,off,h5,h6,h7⟩:=h4 hn;obtain ⟨us,k1,k2⟩:=uA xs off h7;exact ⟨us,k1,A,c,h1,h2,h3,fun _=>⟨b,off,h5,h6,k2⟩⟩
 ·obtain rfl:xs=[]:=List.eq_nil_of_length_eq_zero (by omega);exact ⟨[],trivial,A,c,h1,h2,h3,fun h=>absurd h hn⟩
end
def iH {β:Type} (B:Nat) (T:TypeId) (sz:Nat) (R:List Value→β→Prop) (w:World) (v:Value) (xs:List β):Prop:=∃ us,iE sz R us xs∧w.ownsRow B T sz v xs.length us.flatten
section
variable {β:Type} {B:Nat} {T:TypeId} {sz:Nat} {R:List Value→β→Prop} {w w':World} {v:Value} {xs ys:List β}
theorem iH.look (h:iH B T sz R w v xs) {G:Nat→Prop} (hG:∀ g,v.ownBlock=some g→G g):aV G w sz R v xs:=by
 obtain ⟨us,hf,_,ho⟩:=h;rcases ho with ⟨rfl,hn⟩ | ⟨g,cap,cur,rfl,hB,hh,hc,hm,hcs,htake⟩
 ·exact ⟨none,0,by rw [hn],by omega,Nat.zero_le _,fun h=>by omega⟩
 ·refine ⟨some ⟨g,0,none⟩,cap,rfl,hc,hm,fun _=>⟨g,0,rfl,hG g rfl,fun i hi=>?_⟩⟩;obtain ⟨vs,h1,h2,h3⟩:=hf.get i hi;refine ⟨vs,h1,h2,fun j u hj=>?_⟩;have h4:=h3 j u hj;rw [← htake] at h4;have h5:i*sz+j<xs.length*sz:=by
   have:=(List.getElem?_eq_some_iff.1 h4).1;rw [List.length_take] at this;omega
  rw [List.getElem?_take_of_lt h5] at h4;rw [Nat.zero_add];simp only [World.cell?,hh]
  simpa using h4
theorem iH.shape (h:iH B T sz R w v xs):∃ A c,v=.slice A xs.length c∧xs.length≤c∧c≤maxLen:=(h.look (G:=fun _=>True) fun _ _=>trivial).shape
theorem iH.lt (h:iH B T sz R w v xs) {g:Nat} (hg:v.ownBlock=some g):B≤g∧g<w.heap.size:=by
 obtain ⟨us,hf,_,ho⟩:=h;rcases ho with ⟨rfl,_⟩ | ⟨g',cap,cur,rfl,hB,hh,_⟩
 ·simp [Value.ownBlock] at hg
 ·simp [Value.ownBlock] at hg;subst hg;exact ⟨hB,(Array.getElem?_eq_some_iff.1 hh).1⟩
theorem iH.keep (h:iH B T sz R w v xs) (hv:∀ g,v.ownBlock=some g→w'.heap[g]? = w.heap[g]?):iH B T sz R w' v xs:=by
 obtain ⟨us,hf,hl,ho⟩:=h;refine ⟨us,hf,hl, ?_⟩;rcases ho with h0 | ⟨g,cap,cur,rfl,hB,hh,hrest⟩
 ·exact .inl h0
 ·exact .inr ⟨g,cap,cur,rfl,hB,(hv g rfl).trans hh,hrest⟩
theorem iH.below (h:iH B T sz R w v xs) (hb:Below w.heap.size w w'):iH B T sz R w' v xs:=h.keep fun _ hg=>hb.block _ (h.lt hg).2
theorem iH.started {g:Nat} (hB:B≤g) (hh:w.heap[g]? = some (.cells #[] T (0,0))) (Rr:List Value→β→Prop):iH B T sz Rr w (.slice (some ⟨g,0,none⟩) 0 0) []:=
 ⟨[],trivial,by simp,.inr ⟨g,0,#[],rfl,hB,hh,Nat.le_refl _,Nat.zero_le _,by simp,by simp⟩⟩
theorem iH.append (t:TypeId) {z:Value} {bytes:Nat} (hu:Tryz.prog.underlying t=some (.slice T)) (hi:(Tryz.prog.info? T).map (fun i=>(i.zero,i.size,i.bytes))=some (some z,sz,bytes)) (hzs:z.cells.size=sz) (hsz:0<sz)
  (hone:∀ vs x,R vs x→∀ u∈vs,u.oneCell'=true) (ty:TypeId) {G:Nat→Prop} {v2:Value} (h:iH B T sz R w v xs) (hx:aV G w sz R v2 ys) (hlen:(xs.length+ys.length)*bytes≤140737488355328) (hmx:xs.length+ys.length≤maxLen) (hB:B≤w.heap.size):
  ∃ v' w',WrA Tryz.prog #[t,t] ty #[v,v2] w=.ok v' w'∧iH B T sz R w' v' (xs++ys)∧w.grownBy w' v.ownBlock∧(v'.ownBlock=v.ownBlock∨v'.ownBlock=some w.heap.size):=by
 obtain ⟨i0,hi0,hz0,hz1,hz2⟩:=info_parts hi;obtain ⟨ts,hf2,A,c,rfl,hc,hm,hcell⟩:=hx.flat;by_cases hz:ys.length=0
 ·obtain rfl:ys=[]:=List.eq_nil_of_length_eq_zero hz;obtain ⟨A1,c1,rfl,hl1,hm1⟩:=h.shape;refine ⟨_,w,WrA.of (run_append_nothing w _ _ _ _ i0 hu hi0 A1 xs.length c1 hl1 _ ?_),by rw [List.append_nil];exact h,⟨rfl,rfl,rfl,Nat.le_refl _,fun _ _ _=>rfl⟩,.inl rfl⟩;cases A with
  | none=>exact Src.ofNil w hu c
  | some a=>exact Src.ofSlice w hu a 0 c [] (by simp) (fun j u hj=>by simp at hj) (fun u hu=>by cases hu)
 ·obtain ⟨b,off,rfl,_,hcl⟩:=hcell (by omega);obtain ⟨us,hf,hown⟩:=h;obtain ⟨v',w',hrun,hown',hgr,hnil,hat⟩:=run_append_own_at (P:=Tryz.prog) (w:=w) B t ty _ i0 _ sz bytes hu hi0 hz0 hz1 hz2 hzs hsz v xs.length us.flatten hown ⟨b,off,none⟩ ys.length c ts.flatten hf2.len
   (fun j u hj=>by rw [show (⟨b,off,none⟩:Addr).add j=⟨b,off+j,none⟩ by unfold Addr.add;split <;> simp_all];exact hcl j u hj) (iE.all hone hf2) hmx hlen hB
  refine ⟨v',w',WrA.of hrun,⟨us++ts,hf.app hf2, ?_⟩,hgr,hat⟩;rw [gI,List.flatten_append];exact hown'
end
theorem NdV.one {f:Nat} {G:Nat→Prop} {w:World}:∀ (vs:List Value) (x:Nd f),NdV f G w vs x→∀ u∈vs,u.oneCell'=true:=by
 intro vs x h u hu;obtain ⟨ky,s,nt,ni,A4,n4,c4,A5,n5,c5,A6,n6,c6,A7,n7,c7,A8,n8,c8,A9,n9,c9,rfl⟩:=h.shape;simp only [List.mem_cons,List.not_mem_nil,or_false] at hu;rcases hu with rfl | rfl | rfl | rfl | rfl | rfl | rfl | rfl | rfl | rfl <;> rfl
theorem lR.one:∀ (vs:List Value) (x:Int),lR vs x→∀ u∈vs,u.oneCell'=true:=by
 rintro vs x rfl u hu;simp only [List.mem_cons,List.not_mem_nil,or_false] at hu;subst hu;rfl
end Go.Proofs.YtjpopekmbmcggaaGreatDoor
