/- Towards unparseHeres_card. -/
import Derived.Test.YtjpopekmbmcggaaGreatDoorUh33
import Derived.Test.YtjpopekmbmcggaaGreatDoorUh32
import Derived.Test.YtjpopekmbmcggaaGreatDoorUh24
import Derived.Deep.RegionLaw
import Derived.Deep.CutRange
set_option maxRecDepth 100000
set_option maxHeartbeats 16000000
namespace Go.Proofs.YtjpopekmbmcggaaGreatDoor
open Go.RowKit
def AO (G:Nat→Prop) (w:World) (A:Option Addr) (ts:List (List UInt8)):Prop:=ts≠[]→∃ g,A=some ⟨g,0,none⟩∧G g∧∀ j t,ts[j]? = some t→w.cell? ⟨g,j,none⟩=some (bs t)
theorem eN.lookT {B:Nat} {w:World} {v:Value} {xs:List (List UInt8)} (h:eN B w v xs):∃ A c,v=.slice A xs.length c∧xs.length≤c∧c≤maxLen∧AO (fun k=>v.ownBlock=some k) w A xs:=by
 rcases h.2 with ⟨rfl,hn⟩ | ⟨g,cap,cur,rfl,hB,hh,hc,hm,hcs,htake⟩
 ·refine ⟨none,0,by rw [hn],by omega,Nat.zero_le _,fun hne=>absurd (List.length_eq_zero_iff.1 hn) hne⟩
 ·refine ⟨some ⟨g,0,none⟩,cap,rfl,hc,hm,fun _=>⟨g,rfl,rfl,fun j s hj=>?_⟩⟩;have hlt:=(List.getElem?_eq_some_iff.1 hj).1;have hj2:(xs.map bs)[j]? = some (bs s):=by rw [List.getElem?_map,hj];rfl
  rw [← htake,List.getElem?_take_of_lt (by omega)] at hj2;simp only [World.cell?,hh]
  simpa using hj2
section
variable {T:TypeId} {B b:Nat} {l:List UInt8} {s:St} {w w':World}
theorem IsB.setRest {r:Value} (h:IsB T B b [r] l w) (hT:T≠5) (u:Value):IsB T B b [u] l (w.setCell ⟨b,2,none⟩ u):=by
 have one:∀ p,Bld T B b [r] p l w→Bld T B b [u] p l (w.setCell ⟨b,2,none⟩ u):=by
  rintro p ⟨hB,v,hb,hown,hn⟩;have hne:=pN hown hb hT;refine ⟨hB,v, ?_, ?_,hn⟩
  ·simp [World.setCell,Array.getElem?_modify,hb]
  ·exact hown.kept (row:=some b) ⟨rfl,rfl,rfl,by simp [World.setCell],fun k _ hk=>Below.heap_setCell _ _ _ _ (fun e=>hk (by simp [e]))⟩ (.inr hne)
 rcases h with h | h
 ·exact .inl (one _ h)
 ·exact .inr (one _ h)
theorem Pn.wrote {t:List UInt8} {v:Value} {xs:List (List UInt8)} (h1:IsB 126 B b [v] s.1 w) (h2:eN B w v xs) (h3:xs.flatten=s.2) (h4:xs.length≤s.2.length) (h5:B≤w.heap.size)
  (hb:Bld 126 B b [v] (.pointer (some ⟨b,0,none⟩)) (s.1++t) w') (hk:Kp B (· = b) w w'):Pn B b (s.put t) w':=by
 obtain ⟨p,q,hh⟩:=h1.hh;exact ⟨v,xs,.inr hb,h2.kp hh (by decide) hk,h3,h4,Nat.le_trans h5 hk.size⟩
theorem Gd.kept {X:Nat→Prop} {G:Nat→Prop} (h:Gd B X w G) (k:Kp B X w w'):∀ p:Addr,G p.block→w'.cell? p=w.cell? p:=fun p hp=>h.cell k p hp
end
theorem pO (B b:Nat) (G:Nat→Prop) (ts:List (List UInt8)) (A:Option Addr) (c:Nat) (s:St) (w:World) (h:Pn B b s w) (hs:AO G w A ts) (hG:Gd B (· = b) w G) (hlen:s.len+Pts.total ts≤70368744177664) (hm:ts.length≤70368744177664):
  Calls Tryz.prog 164 #[.pointer (some ⟨b,0,none⟩),.slice A ts.length c] w fun e w'=>e=.returned (.tuple #[])∧Pn B b (s.put ts.flatten) w'∧Kp B (· = b) w w':=by
 obtain ⟨HH,HS,HG⟩:=hs3 h hs hG;clear h hs hG;go_enter Tryz.func164,Tryz.ntmps164;go_wp2_with fail
 go_loopw [8] (fun i wr=>∃ (k:Nat) (pre:List UInt8),k≤ts.length∧i=.int .i64 k∧pre++(ts.drop k).flatten=ts.flatten∧pre.length+Pts.total (ts.drop k)=Pts.total ts∧Pn B b (s.put pre) wr∧Kp B (· = b) w wr) (fun i _=>ts.length-(intOf i).toNat)
 case atStart=>exact ⟨0,[],by omega,rfl,rfl,by simp,by rw [show s.put []=s by simp [St.put]];exact HH.out,Kp.refl _ _ _⟩
 case round=>
  obtain ⟨k,pre,hk,rfl,hf,ht,hp,hkp⟩:=hrel;have HF:=Ha hf;have HKP:=Ha hkp;clear hf;by_cases hlt:k<ts.length
  ·obtain ⟨g,rfl,hg,hcell⟩:=HS.out (fun e=>by rw [e] at hlt;simp at hlt);have z0:wr.cell? ⟨g,k,none⟩=some (bs ts[k]):=(HG.out.cell hkp _ hg).trans (hcell k _ (List.getElem?_eq_getElem hlt));have HD:=Ha (bB ts k hlt);rw [HD.out,Pts.total] at ht;have HF2:=Ha (show (pre++ts[k])++(ts.drop (k+1)).flatten=ts.flatten by rw [← HF.out,HD.out,List.flatten_cons,List.append_assoc]);obtain ⟨v,xs,h1,h2,h3,h4,h5⟩:=hp;have hput:(s.put pre).put ts[k]=s.put (pre++ts[k]):=by simp [St.put]
   have hl1:(s.put pre).1.length+ts[k].length≤140737488355328:=by simp only [St.put,gI];unfold St.len at hlen;omega
   have HW:=Ha (cV sI (s.put pre).1 ⟨(ts[k]).toArray⟩ wr h1 (by rw [aS];exact hl1) h5);have HP:=Ha (show ∀ w',Bld 126 B b [v] (.pointer (some ⟨b,0,none⟩)) ((s.put pre).1++ts[k]) w'→Kp B (· = b) wr w'→Pn B b (s.put (pre++ts[k])) w' from fun w' k1 k2=>by rw [← hput];exact Pn.wrote h1 h2 h3 h4 h5 k1 k2);have ht2:(pre++ts[k]).length+Pts.total (ts.drop (k+1))=Pts.total ts:=by rw [gI];omega
   clear h1 h2 h3 h4 h5 hcell hg hkp hput hl1 ht;generalize ts[k]=t at *;unfold bs at z0;go_wp2_with fail;refine HW.out.mono ?_;rintro e w1 ⟨rfl,k1,k2⟩;rw [aI] at k1;have HN:=Ha (HP.out w1 k1 k2);have HK1:=Ha (HKP.out.trans k2);clear k1 k2 z0;go_wp2_with fail
   go_roundw
   case rel=>exact ⟨k+1,pre++t,by omega,by go_num,HF2.out,ht2,HN.out,HK1.out⟩
   case measure=>simp only [intOf];omega
  ·have he:pre=ts.flatten:=by have:=HF.out;rw [List.drop_eq_nil_of_le (by omega)] at this;simpa using this
   subst he;have HN:=Ha hp;clear hp hkp ht;go_wp2_with fail
   go_end0
   exact ⟨rfl,HN.out,HKP.out⟩
theorem zP {B b:Nat} {s:St} {w:World} {vs:Array Value} (h:Pn B b s w):Gd B (· = b) (w.alloc (.cells vs 9)) (fun k=>k=w.heap.size):=by
 rintro k rfl;have hl:=h.lt;refine ⟨by simp,.inr ⟨by omega, ?_⟩⟩;rintro ⟨c,fz,e⟩;rw [aN] at e
 injection e with e
 injection e with _ e
 exact absurd e (by decide)
theorem zQ {w:World} (ts:List (List UInt8)):AO (fun k=>k=w.heap.size) (w.alloc (.cells (ts.map bs).toArray 9)) (some ⟨w.heap.size,0,none⟩) ts:=fun _=>
 ⟨_,rfl,rfl,fun j t hj=>aE (aN w _) j _ (by simp [hj])⟩
theorem BW {B b:Nat} {s:St} {w:World} (ts:List (List UInt8)) (h:Pn B b s w) (hlen:s.len+Pts.total ts≤70368744177664) (hm:ts.length≤70368744177664):
  Calls Tryz.prog 164 #[.pointer (some ⟨b,0,none⟩),.slice (some ⟨w.heap.size,0,none⟩) ts.length ts.length] (w.alloc (.cells (ts.map bs).toArray 9)) (Wrt B b w (s.put ts.flatten)):=by
 have hb:Below w.heap.size w (w.alloc (.cells (ts.map bs).toArray 9)):=(Below.refl _ _).alloc (Nat.le_refl _) _;refine (pO B b _ ts _ ts.length s _ (h.below hb) (zQ ts) (zP h) hlen hm).mono ?_;rintro e w' ⟨h1,h2,h3⟩;exact ⟨h1,h2,(Ks.of_below hb).trans (.of_kp h3)⟩
theorem qV (B b:Nat) (G:Nat→Prop) (ts:List (List UInt8)) (A:Option Addr) (c:Nat) (s:St) (w:World) (h:Pn B b s w) (hs:AO G w A ts) (hG:Gd B (· = b) w G) (hlen:s.len+Pts.total ts+1≤35184372088832) (hm:ts.length≤70368744177664):
  Calls Tryz.prog 166 #[.pointer (some ⟨b,0,none⟩),.slice A ts.length c] w (Wrt B b w (s.put ts.flatten).line):=by
 have HX1:=Ha (pO B b G ts A c s w h hs hG (by omega) hm);have hfl:ts.flatten.length=Pts.total ts:=by
  clear hlen hs hG hm h HX1
  induction ts with
  | nil=>rfl
  | cons t ts ih=>rw [List.flatten_cons,gI,Pts.total];omega
 clear hs hG h;go_enter Tryz.func166,Tryz.ntmps166;go_wp2_with fail;refine HX1.out.mono ?_;rintro e w1 ⟨rfl,hp1,hk1⟩;have HX2:=Ha (BW [[10]] hp1 (by rw [St.put_len];simp only [Pts.total,gG,gH];omega) (by simp));have HK1:=Ha (Ks.of_kp hk1);clear hp1 hk1;go_wp2_with fail;refine HX2.out.mono ?_;rintro e w2 ⟨rfl,hp2,hk2⟩;have HK2:=Ha (HK1.out.trans hk2);obtain ⟨v,xs,h1,h2,h3,h4,h5⟩:=hp2;have h6:xs.flatten.length=Pts.total xs:=by
  clear h2 h3 h4
  induction xs with
  | nil=>rfl
  | cons t ts ih=>rw [List.flatten_cons,gI,Pts.total];omega
 obtain ⟨p,q,hh⟩:=h1.hh;obtain ⟨Ax,cx,rfl,hcx,hmx,hts⟩:=h2.lookT;unfold maxLen at hmx;have hgd:Gd B (· = b) w2 (fun k=>(Value.slice Ax xs.length cx).ownBlock=some k):=fun g hg=>by
  obtain ⟨g1,g2,cg,fg,g3⟩:=h2.kind g hg;refine ⟨g2,.inr ⟨?_, ?_⟩⟩
  ·rintro rfl;rw [hh] at g3
   injection g3 with g3
   injection g3 with _ g3
   exact absurd g3 (by decide)
  ·rintro ⟨c',fz,e⟩;rw [g3] at e
   injection e with e
   injection e with _ e
   exact absurd e (by decide)
 have h7:xs.flatten=s.2:=h3;have h8:s.2.length=Pts.total xs:=by rw [← h7];exact h6
 have hl2:xs.length≤s.2.length:=h4;have hsl:s.2.length≤s.len:=by unfold St.len;omega
 have hpn:Pn B b ((s.put ts.flatten).put [[10]].flatten) w2:=⟨_,xs,h1,h2,h3,h4,h5⟩;have hl1:((s.put ts.flatten).put [[10]].flatten).len+Pts.total xs≤70368744177664:=by
  rw [St.put_len,St.put_len,hfl];simp;omega
 have HX3:=Ha (pO B b _ xs Ax cx _ w2 hpn hts hgd hl1 (by omega));have HE:=Ha (show ((s.put ts.flatten).put [[10]].flatten).put xs.flatten=((s.1++ts.flatten)++([10]++s.2),s.2) by rw [h7];simp [St.put]);have c2:w2.cell? ⟨b,2,none⟩=some (.slice Ax xs.length cx):=aE hh 2 _ rfl;clear h1 h2 h3 h4 h5 h6 h7 h8 hl1 hpn hgd hts hh hk2 hfl;go_wp2_with fail;refine HX3.out.mono ?_;rintro e w3 ⟨rfl,hp3,hk3⟩;have HK3:=Ha (HK2.out.trans (.of_kp hk3));rw [HE.out] at hp3;obtain ⟨v,ys,h1,h2,h3,h4,h5⟩:=hp3;obtain ⟨p,q,hh⟩:=h1.hh;have d2:w3.cell? ⟨b,2,none⟩=some v:=aE hh 2 _ rfl;have f2:w3.frozen? ⟨b,2,none⟩=false:=by simp [World.frozen?,hh]
 have hset:Kp B (· = b) w3 (w3.setCell ⟨b,2,none⟩ (.slice none 0 0)):=(Kp.refl B (· = b) w3).set (X:=(· = b)) h1.le rfl 2 _;have HP:=Ha (show Pn B b (s.put ts.flatten).line (w3.setCell ⟨b,2,none⟩ (.slice none 0 0)) from ⟨.slice none 0 0,[],h1.setRest (by decide) _,eN.nothing,rfl,Nat.le_refl _,Nat.le_trans h5 hset.size⟩);have HK4:=Ha (HK3.out.trans (.of_kp hset));clear h1 h2 h3 h4 h5 hh hk3 c2 hset;go_wp2_with fail
 go_end0
 exact ⟨rfl,HP.out,HK4.out⟩
theorem yQ {B b:Nat} {s:St} {w:World} (ts:List (List UInt8)) (h:Pn B b s w) (hlen:s.len+Pts.total ts+1≤35184372088832) (hm:ts.length≤70368744177664):
  Calls Tryz.prog 166 #[.pointer (some ⟨b,0,none⟩),.slice (some ⟨w.heap.size,0,none⟩) ts.length ts.length] (w.alloc (.cells (ts.map bs).toArray 9)) (Wrt B b w (s.put ts.flatten).line):=by
 have hb:Below w.heap.size w (w.alloc (.cells (ts.map bs).toArray 9)):=(Below.refl _ _).alloc (Nat.le_refl _) _;refine (qV B b _ ts _ ts.length s _ (h.below hb) (zQ ts) (zP h) hlen hm).mono ?_;rintro e w' ⟨h1,h2,h3⟩;exact ⟨h1,h2,(Ks.of_below hb).trans h3⟩
section
variable {B b:Nat} {s:St} {w:World}
theorem fI (t:List UInt8) (h:Pn B b s w) (hlen:s.len+t.length≤17592186044416):
  Calls Tryz.prog 164 #[.pointer (some ⟨b,0,none⟩),.slice (some ⟨w.heap.size,0,none⟩) 1 1] (w.alloc (.cells #[.string ⟨t.toArray⟩] 9)) (Wrt B b w (s.put t)):=by
 have:=BW [t] h (by simp only [Pts.total];omega) (by simp);rw [show [t].flatten=t by simp] at this;exact this
theorem wI (t u:List UInt8) (h:Pn B b s w) (hlen:s.len+t.length+u.length≤17592186044416):
  Calls Tryz.prog 164 #[.pointer (some ⟨b,0,none⟩),.slice (some ⟨w.heap.size,0,none⟩) 2 2] (w.alloc (.cells #[.string ⟨t.toArray⟩,.string ⟨u.toArray⟩] 9)) (Wrt B b w (s.put (t++u))):=by
 have:=BW [t,u] h (by simp only [Pts.total];omega) (by simp);rw [show [t,u].flatten=t++u by simp] at this;exact this
theorem EM (t u x y:List UInt8) (h:Pn B b s w) (hlen:s.len+t.length+u.length+x.length+y.length≤17592186044416):
  Calls Tryz.prog 164 #[.pointer (some ⟨b,0,none⟩),.slice (some ⟨w.heap.size,0,none⟩) 4 4] (w.alloc (.cells #[.string ⟨t.toArray⟩,.string ⟨u.toArray⟩,.string ⟨x.toArray⟩,.string ⟨y.toArray⟩] 9)) (Wrt B b w (s.put (t++u++x++y))):=by
 have:=BW [t,u,x,y] h (by simp only [Pts.total];omega) (by simp);rw [show [t,u,x,y].flatten=t++u++x++y by simp] at this;exact this
theorem qU (h:Pn B b s w) (hlen:s.len≤17592186044416):Calls Tryz.prog 166 #[.pointer (some ⟨b,0,none⟩),.slice none 0 0] w (Wrt B b w s.line):=by
 have:=qV B b (fun _=>False) [] none 0 s w h (fun e=>absurd rfl e) (fun k hk=>hk.elim) (by simp only [Pts.total];omega) (by simp);rw [show s.put ([]:List (List UInt8)).flatten=s by simp [St.put]] at this;exact this
theorem iP (t:List UInt8) (h:Pn B b s w) (hlen:s.len+t.length≤17592186044416):
  Calls Tryz.prog 166 #[.pointer (some ⟨b,0,none⟩),.slice (some ⟨w.heap.size,0,none⟩) 1 1] (w.alloc (.cells #[.string ⟨t.toArray⟩] 9)) (Wrt B b w (s.put t).line):=by
 have:=yQ [t] h (by simp only [Pts.total];omega) (by simp);rw [show [t].flatten=t by simp] at this;exact this
theorem D1 (t u:List UInt8) (h:Pn B b s w) (hlen:s.len+t.length+u.length≤17592186044416):
  Calls Tryz.prog 166 #[.pointer (some ⟨b,0,none⟩),.slice (some ⟨w.heap.size,0,none⟩) 2 2] (w.alloc (.cells #[.string ⟨t.toArray⟩,.string ⟨u.toArray⟩] 9)) (Wrt B b w (s.put (t++u)).line):=by
 have:=yQ [t,u] h (by simp only [Pts.total];omega) (by simp);rw [show [t,u].flatten=t++u by simp] at this;exact this
theorem D2 (t u x:List UInt8) (h:Pn B b s w) (hlen:s.len+t.length+u.length+x.length≤17592186044416):
  Calls Tryz.prog 166 #[.pointer (some ⟨b,0,none⟩),.slice (some ⟨w.heap.size,0,none⟩) 3 3] (w.alloc (.cells #[.string ⟨t.toArray⟩,.string ⟨u.toArray⟩,.string ⟨x.toArray⟩] 9)) (Wrt B b w (s.put (t++u++x)).line):=by
 have:=yQ [t,u,x] h (by simp only [Pts.total];omega) (by simp);rw [show [t,u,x].flatten=t++u++x by simp] at this;exact this
end
end Go.Proofs.YtjpopekmbmcggaaGreatDoor
namespace Go.Proofs.YtjpopekmbmcggaaGreatDoor
open Go.RowKit
def TxB (B:Nat) (w:World):Prop:=cW w∧2<B
theorem TxB.below {B:Nat} {w w':World} (h:TxB B w) (hb:Below B w w'):TxB B w':=by
 obtain ⟨⟨t,fr,hg⟩,h2⟩:=h;exact ⟨⟨t,fr,(hb.block _ h2).trans hg⟩,h2⟩
def LIM:Nat:=1099511627776
def PCm (f:Nat):Prop:=∀ (G:Nat→Prop) (B b:Nat) (w:World) (vs:List Value) (x:Nd f) (s:St),(∀ k,G k→k<B)→TxB B w→NdV f G w vs x→(Nd.ft f).cm x→Pn B b s w→s.len+64*Nd.wt f x≤LIM→
 Calls Tryz.prog 165 #[.pointer (some ⟨b,0,none⟩),ag vs] w (Wrt B b w ((Nd.tv f).cm x s))
def PLs (f:Nat):Prop:=∀ (G:Nat→Prop) (B b:Nat) (w:World) (vs:List Value) (x:Nd f) (s:St),(∀ k,G k→k<B)→TxB B w→NdV f G w vs x→(Nd.ft f).ls x→Pn B b s w→s.len+64*Nd.wt f x≤LIM→
 Calls Tryz.prog 251 #[.pointer (some ⟨b,0,none⟩),ag vs] w (Wrt B b w ((Nd.tv f).ls x s))
def PSh (f:Nat):Prop:=∀ (G:Nat→Prop) (w:World) (v:Value) (xs:List (Nd f)),(∀ k,G k→k<w.heap.size)→cW w→aV G w 10 (NdV f G w) v xs→(∀ x∈xs,(Nd.ft f).ls x)→64*tot (Nd.wt f) xs≤LIM→
 Calls Tryz.prog 73 #[v] w fun e w'=>e=.returned (bs (showX (Nd.tv f) xs))∧Below w.heap.size w w'
def PWd (f:Nat):Prop:=∀ (G:Nat→Prop) (w:World) (A:Option Addr) (n c:Nat) (x:WdF (Nd f)),(∀ k,G k→k<w.heap.size)→cW w→WdN f G w [.slice A n c] x→fT (Nd.ft f) x→64*wtW (Nd.wt f) x≤LIM→
 Calls Tryz.prog 74 #[.agg #[.slice A n c]] w fun e w'=>e=.returned (bs (bZ (Nd.tv f) x))∧Below w.heap.size w w'
theorem cW.lt {w:World} (h:cW w):2<w.heap.size:=by
 obtain ⟨t,fr,hg⟩:=h;exact (Array.getElem?_eq_some_iff.1 hg).1
theorem dB.more {G G':Nat→Prop} {w:World} {C:Option Addr} {cs:List (List UInt8)} (h:dB G w C cs) (hG:∀ k,G k→G' k):dB G' w C cs:=fun hne=>by
 obtain ⟨ad,h1,h2,h3⟩:=h hne;exact ⟨ad,h1,hG _ h2,h3⟩
theorem qG {B:Nat} {W w w':World} {row:Option Nat} (h:Below B W w) (hB:B≤w.heap.size) (hg:w.grownBy w' row) (hr:∀ g,row=some g→B≤g):Below B W w':=
 ⟨hg.os.trans h.os,hg.tape.trans h.tape,hg.output.trans h.output,Nat.le_trans h.size hg.size,fun k hk=>(hg.block k (by omega) fun e=>by have:=hr k e.symm;omega).trans (h.block k hk)⟩
theorem nU {β γ:Type} (F:β→γ) (xs:List β) (k:Nat) (h:k<xs.length):(xs.take (k+1)).map F=(xs.take k).map F++[F xs[k]]:=by
 rw [List.take_add_one,List.getElem?_eq_getElem h,List.map_append];rfl
theorem aV.elem {β:Type} {G:Nat→Prop} {w:World} {sz:Nat} {R:List Value→β→Prop} {A:Option Addr} {n c:Nat} {xs:List β} (h:aV G w sz R (.slice A n c) xs) (hn:0<xs.length):
  ∃ b off,A=some ⟨b,off,none⟩∧G b∧∀ i (h:i<xs.length),∃ vs:List Value,vs.length=sz∧R vs xs[i]∧∀ j u,vs[j]? = some u→w.cell? ⟨b,off+i*sz+j,none⟩=some u:=by
 obtain ⟨A',c',h1,_,_,h4⟩:=h
 injection h1 with h1
 subst h1;exact h4 hn
attribute [local go_sem ↓] cN
theorem uR (f:Nat) (ih:PSh f):PWd f:=fun G w A n c x hG ht hx hf hl=>by
 obtain ⟨rfl,hnc,hcm,hwt,hpt,hsl⟩:=hx.cmds;obtain ⟨W,hW,hbw,hbx⟩:=cpd w (.cells #[.slice A x.p.len c] 31);have x0:W.cell? ⟨w.heap.size,0,none⟩=some (.slice A x.p.len c):=aE hbx 0 _ rfl;obtain ⟨HBW,HG0,HT,IH,HP,HSL,HF,HG⟩:=hs8 hbw hG (ht.below hbw) ih (hpt.old hG hbw) hsl hf (aG hG hbw);have hlen:x.p.cmds.length=x.cmds.length:=hsl.len;have hb1:Pts.total (x.cmds.map (showX (Nd.tv f)))≤64*tot (fun l=>1+tot (Nd.wt f) l) x.cmds:=iZ (Nd.tv_ok f) x.cmds;have hb2:tot (fun l=>1+tot (Nd.wt f) l) x.cmds≤tot (fun l=>1+tot (Nd.wt f) l) x.c:=lD _ _ _;unfold wtW LIM at hl;have hcl:x.cmds.length≤tot (fun l=>1+tot (Nd.wt f) l) x.cmds:=by
  have:∀ c:List (List (Nd f)),c.length≤tot (fun l=>1+tot (Nd.wt f) l) c:=fun c=>by
   induction c with
   | nil=>simp [tot]
   | cons l c ih=>rw [gG,tot];omega
  exact this _
 have HTL:=Ha (show ∀ k (h:k<x.cmds.length),64*tot (Nd.wt f) x.cmds[k]≤LIM from fun k h=>by
  have:=nG (W:=fun l=>1+tot (Nd.wt f) l) x.cmds k _ (List.getElem?_eq_getElem h);unfold LIM;omega)
 clear hG ht hpt hsl hf hbw hbx hx ih;have HX:=Ha (xY x.p A c G W hwt HG.out HP.out);go_enter Tryz.func74,Tryz.ntmps74;go_wp2_with fail;refine HX.out.mono ?_;rintro e w1 ⟨v,rfl,hcr,hb⟩;have HB1:=Ha hb;obtain ⟨A2,c2,rfl,hl2,hm2,hk2⟩:=hcr.look;have HK:=Ha hk2;unfold maxLen at hm2;have x1:=aA x0 hb;clear hb hcr hk2 x0;go_wp2_with fail
 go_loopw [3,9] (fun vl i wr=>∃ (k:Nat),k≤x.p.cmds.length∧i=.int .i64 k∧eN w1.heap.size wr vl ((x.cmds.take k).map (showX (Nd.tv f)))∧Below w1.heap.size w1 wr) (fun _ i _=>x.p.cmds.length-(intOf i).toNat)
 case atStart=>exact ⟨0,by omega,rfl,eN.nothing,Below.refl _ _⟩
 case round=>
  obtain ⟨k,hk,rfl,hr,hb⟩:=hrel;have HB:=Ha hb;have HR:=Ha hr;have x2:=aA x1 hb;by_cases hlt:k<x.p.cmds.length
  ·obtain ⟨g,rfl,z0⟩:=HK.out k hlt;have h1:k<x.cmds.length:=by rw [← hlen];exact hlt
   have z1:wr.cell? ⟨g,k,none⟩=some (.slice (x.p.cmds[k]).a (x.p.cmds[k]).n (x.p.cmds[k]).c):=(World.cell?_of_block (hb.block g (fG z0))).trans z0;have hbw:=HB1.out.trans (hb.mono HB1.out.size);have hs:=(HSL.out.get k hlt h1).onN HG0.out (HBW.out.trans (hbw.mono HBW.out.size));have HX2:=Ha (IH.out G wr _ x.cmds[k] (aG HG.out hbw) (HT.out.below hbw) hs (fun n hn=>HF.out.2 _ (List.getElem_mem h1) n hn) (HTL.out k h1));have HTK:=Ha (nU (showX (Nd.tv f)) x.cmds k h1);clear z0 hs hbw hb hr;unfold Cm.val at HX2;generalize showX (Nd.tv f) x.cmds[k]=tx at *;go_wp2_with fail;refine HX2.out.mono ?_;rintro e w2 ⟨rfl,hb2'⟩;have hb3:=HB.out.trans (hb2'.mono HB.out.size);have hr3:=HR.out.below hb2';obtain ⟨v',w',hrun,hrow,hgr⟩:=hr3.one tx (by rw [List.length_map,List.length_take];omega) hb3.size;have hb4:Below w1.heap.size w1 w':=qG (hb3.alloc hb3.size _) (Nat.le_trans hb3.size (by simp)) hgr fun g hg=>(hr3.kind g hg).1;rw [← HTK.out] at hrow;have HROW:=Ha hrow;have HB4:=Ha hb4;clear hb2' hb3 hr3 hrow hgr hb4 z1;unfold bs at hrun ⊢;go_wp2_with fail
   go_roundw
   case rel=>exact ⟨k+1,by omega,by go_num,HROW.out,HB4.out⟩
   case measure=>simp only [intOf];omega
  ·have hke:x.cmds.take k=x.cmds:=List.take_of_length_le (by omega);rw [hke] at hr;obtain ⟨C,cc,rfl,hcc,hmc,hst⟩:=hr.look;rw [List.length_map] at hcc ⊢;have hbw:=HB1.out.trans (hb.mono HB1.out.size);have hold:=aG HG.out hbw;have HX3:=Ha (AD (fun k=>G k∨(Value.slice C x.cmds.length cc).ownBlock=some k) x.p A c C cc (x.cmds.map (showX (Nd.tv f))) wr
    (fun k hk=>hk.elim (fun h=>hold k h) (fun h=>(hr.kind k (by rw [List.length_map];exact h)).2.1)) ((HP.out.old HG.out hbw).more fun _ h=>.inl h) (by rw [List.length_map] at hst;exact hst.more fun _ h=>.inr h) (by rw [List.length_map];exact hcc) (by omega))
   rw [List.length_map] at HX3;unfold maxLen at hmc;have HBR:=Ha hbw;clear hold hbw hb hst hr x1;go_wp2_with fail;refine HX3.out.mono ?_;rintro e w2 ⟨rfl,hb⟩;have HB2:=Ha (HBR.out.trans (hb.mono HBR.out.size));clear hb x2;unfold bs;go_wp2_with fail;go_ret;exact ⟨rfl,HBW.out.trans (HB2.out.mono HBW.out.size)⟩
end Go.Proofs.YtjpopekmbmcggaaGreatDoor
namespace Go.Proofs.YtjpopekmbmcggaaGreatDoor
open Go.RowKit
def Nd.wh:(f:Nat)→Nd f→St→St
 | 0=>fun x=>Empty.elim x
 | f+1=>fun n s=>(bU (Nd.tv f) n.kids n.ops s).line
theorem Nd.wh_sh:∀ (f:Nat) (x:Nd f),(Nd.wh f x ([],[])).1=(Nd.tv f).sh x
 | 0,x=>Empty.elim x
 | _+1,_=>rfl
def PWh (f:Nat):Prop:=∀ (G:Nat→Prop) (B b:Nat) (w:World) (vs:List Value) (x:Nd f) (s:St),(∀ k,G k→k<B)→TxB B w→NdV f G w vs x→(Nd.ft f).ls x→Pn B b s w→s.len+64*Nd.wt f x≤LIM→
 Calls Tryz.prog 132 #[.pointer (some ⟨b,0,none⟩),ag vs] w (Wrt B b w (Nd.wh f x s))
theorem IsB.keepB {T:TypeId} {B b:Nat} {rest:List Value} {l:List UInt8} {w w':World} (h:IsB T B b rest l w) (hb:Below w.heap.size w w'):IsB T B b rest l w':=h.keep hb
theorem tI {α:Type} (v:Tv α) (xs:List α) (k:Nat) (h:k<xs.length):showX v (xs.drop k)=v.sh xs[k]++showX v (xs.drop (k+1)):=by rw [bB xs k h,showX]
theorem AE (f:Nat) (ih:PWh f):PSh f:=fun G w v xs hG ht hs hf hl=>by
 obtain ⟨A,c,rfl,hlc,hm,hel⟩:=hs;have HEL:=Ha hel;unfold maxLen at hm;obtain ⟨W,hW,hbw,hbx⟩:=cpd w (.cells #[.pointer none,.slice none 0 0] 108);have HI0:=Ha (show IsB 108 w.heap.size w.heap.size [] [] W from .inl ⟨Nat.le_refl _,.slice none 0 0,hbx,⟨rfl,.inl ⟨rfl,rfl⟩⟩,by simp⟩);have HBW:=Ha hbw;have HG:=Ha hG;have HT:=Ha ht;have IH:=Ha ih;have HF:=Ha hf;have hsl:=lG (Nd.tv_ok f) xs;have HTL:=Ha (show ∀ k (h:k<xs.length),64*Nd.wt f xs[k]≤LIM from fun k h=>by
  have:=nG (W:=Nd.wt f) xs k _ (List.getElem?_eq_getElem h);omega)
 unfold LIM at hl;clear hG ht hel hf hbw hbx ih;go_enter Tryz.func73,Tryz.ntmps73;go_wp2_with fail
 go_loopw [9] (fun i wr=>∃ (k:Nat) (pre:List UInt8),k≤xs.length∧i=.int .i64 k∧pre++showX (Nd.tv f) (xs.drop k)=showX (Nd.tv f) xs∧IsB 108 w.heap.size w.heap.size [] pre wr∧Below w.heap.size w wr) (fun i _=>xs.length-(intOf i).toNat)
 case atStart=>exact ⟨0,[],by omega,rfl,rfl,HI0.out,HBW.out⟩
 case round=>
  obtain ⟨k,pre,hk,rfl,he,hi,hb⟩:=hrel;have HE:=Ha he;have HI:=Ha hi;have HB:=Ha hb;have hpl:pre.length≤(showX (Nd.tv f) xs).length:=by rw [← he,gI];omega
  by_cases hlt:k<xs.length
  ·obtain ⟨bb,off,rfl,hg,hel⟩:=HEL.out (by omega);obtain ⟨vs,hvl,hR0,hcell⟩:=hel k hlt;have hR:=hR0.below HG.out hb;have z:=fun j u hj=>(bC HG.out hb _ hg).trans (hcell j u hj);obtain ⟨ky,s,nt,ni,A4,n4,c4,A5,n5,c5,A6,n6,c6,A7,n7,c7,A8,n8,c8,A9,n9,c9,rfl⟩:=hR.shape;have d0:wr.cell? ⟨bb,off+k*10,none⟩=some (.int .i64 ky):=by simpa using z 0 _ rfl
   have d1:wr.cell? ⟨bb,off+k*10+1,none⟩=some (.string s):=by simpa using z 1 _ rfl
   have d2:wr.cell? ⟨bb,off+k*10+2,none⟩=some (.bool nt):=by simpa using z 2 _ rfl
   have d3:wr.cell? ⟨bb,off+k*10+3,none⟩=some (.bool ni):=by simpa using z 3 _ rfl
   have d4:wr.cell? ⟨bb,off+k*10+4,none⟩=some (.slice A4 n4 c4):=by simpa using z 4 _ rfl
   have d5:wr.cell? ⟨bb,off+k*10+5,none⟩=some (.slice A5 n5 c5):=by simpa using z 5 _ rfl
   have d6:wr.cell? ⟨bb,off+k*10+6,none⟩=some (.slice A6 n6 c6):=by simpa using z 6 _ rfl
   have d7:wr.cell? ⟨bb,off+k*10+7,none⟩=some (.slice A7 n7 c7):=by simpa using z 7 _ rfl
   have d8:wr.cell? ⟨bb,off+k*10+8,none⟩=some (.slice A8 n8 c8):=by simpa using z 8 _ rfl
   have d9:wr.cell? ⟨bb,off+k*10+9,none⟩=some (.slice A9 n9 c9):=by simpa using z 9 _ rfl
   have HD:=Ha (tI (Nd.tv f) xs k hlt);have hfit:=HF.out xs[k] (List.getElem_mem hlt);have hwt:=HTL.out k hlt;have hshl:=(Nd.tv_ok f).sh xs[k];have hwl:=HTL.out k hlt;unfold LIM at hwl;generalize hxk:xs[k]=xk at *;have hw2:Below wr.heap.size wr ((wr.alloc (.cells #[.int .i64 ky,.string s,.bool nt,.bool ni,.slice A4 n4 c4,.slice A5 n5 c5,.slice A6 n6 c6,.slice A7 n7 c7,.slice A8 n8 c8,.slice A9 n9 c9] 28)).alloc (.cells #[.pointer none,.slice none 0 0,.slice none 0 0] 126)):=((Below.refl _ _).alloc (Nat.le_refl _) _).alloc (by simp) _;obtain ⟨q0,q1⟩:=dQ wr (.cells #[.int .i64 ky,.string s,.bool nt,.bool ni,.slice A4 n4 c4,.slice A5 n5 c5,.slice A6 n6 c6,.slice A7 n7 c7,.slice A8 n8 c8,.slice A9 n9 c9] 28) (.cells #[.pointer none,.slice none 0 0,.slice none 0 0] 126);generalize hW2:((wr.alloc (.cells #[.int .i64 ky,.string s,.bool nt,.bool ni,.slice A4 n4 c4,.slice A5 n5 c5,.slice A6 n6 c6,.slice A7 n7 c7,.slice A8 n8 c8,.slice A9 n9 c9] 28)).alloc (.cells #[.pointer none,.slice none 0 0,.slice none 0 0] 126))=W2 at *;have y0:W2.cell? ⟨wr.heap.size,0,none⟩=some (.int .i64 ky):=aE q0 0 _ rfl;have y1:W2.cell? ⟨wr.heap.size,1,none⟩=some (.string s):=aE q0 1 _ rfl;have y2:W2.cell? ⟨wr.heap.size,2,none⟩=some (.bool nt):=aE q0 2 _ rfl;have y3:W2.cell? ⟨wr.heap.size,3,none⟩=some (.bool ni):=aE q0 3 _ rfl;have y4:W2.cell? ⟨wr.heap.size,4,none⟩=some (.slice A4 n4 c4):=aE q0 4 _ rfl;have y5:W2.cell? ⟨wr.heap.size,5,none⟩=some (.slice A5 n5 c5):=aE q0 5 _ rfl;have y6:W2.cell? ⟨wr.heap.size,6,none⟩=some (.slice A6 n6 c6):=aE q0 6 _ rfl;have y7:W2.cell? ⟨wr.heap.size,7,none⟩=some (.slice A7 n7 c7):=aE q0 7 _ rfl;have y8:W2.cell? ⟨wr.heap.size,8,none⟩=some (.slice A8 n8 c8):=aE q0 8 _ rfl;have y9:W2.cell? ⟨wr.heap.size,9,none⟩=some (.slice A9 n9 c9):=aE q0 9 _ rfl;have hle:wr.heap.size≤W2.heap.size:=hw2.size;have hgr:=aG HG.out hb;have hpn:Pn wr.heap.size (wr.heap.size+1) ([],[]) W2:=⟨.slice none 0 0,[],.inl ⟨by omega,.slice none 0 0,q1,⟨rfl,.inl ⟨rfl,rfl⟩⟩,by simp⟩,eN.nothing,rfl,Nat.le_refl _,hle⟩;have htx:TxB wr.heap.size W2:=⟨(HT.out.below hb).below hw2,(HT.out.below hb).lt⟩;obtain ⟨HX,HW2,HSH⟩:=hs3 (IH.out G wr.heap.size (wr.heap.size+1) W2 _ xk ([],[]) hgr htx (hR.below hgr hw2) hfit hpn (by rw [show St.len (([],[]):St)=0 from rfl];omega)) hw2 (Nd.wh_sh f xk);unfold ag at HX;clear hel hcell hg hR hR0 z hvl hfit hwt hgr hpn htx hb hi q0 q1 hw2;go_wp2_with fail;refine HX.out.mono ?_;rintro e w3 ⟨rfl,hp,hks⟩;have hb3:Below wr.heap.size wr w3:=HW2.out.trans (hks.below hle);obtain ⟨pv,pxs,hp1,_,_,_,_⟩:=hp;rw [HSH.out] at hp1;have HX2:=Ha (dI _ w3 hp1);have HB3:=Ha hb3;clear hp1 hks hb3 y0 y1 y2 y3 y4 y5 y6 y7 y8 y9;go_wp2_with fail;refine HX2.out.mono ?_;rintro e w4 ⟨rfl,hk4⟩;have hb4:Below wr.heap.size wr w4:=HB3.out.trans (hk4.below HB3.out.size);have hi4:=HI.out.keep hb4;have hbw4:=HB.out.trans (hb4.mono HB.out.size);obtain ⟨HX3,HB4,HE2⟩:=hs3 (cV uC pre ⟨((Nd.tv f).sh xk).toArray⟩ w4 hi4 (by rw [aS];omega) hbw4.size) hbw4 (show (pre++(Nd.tv f).sh xk)++showX (Nd.tv f) (xs.drop (k+1))=showX (Nd.tv f) xs by rw [← HE.out,HD.out,List.append_assoc]);clear hb4 hi4 hk4 hbw4;unfold bs;go_wp2_with fail;refine HX3.out.mono ?_;rintro e w5 ⟨rfl,hk5,hkp⟩;rw [aI] at hk5;have HB5:=Ha (HB4.out.trans (hkp.below HB4.out.size));have HI5:=Ha (show IsB 108 w.heap.size w.heap.size [] (pre++(Nd.tv f).sh xk) w5 from .inr hk5);clear hk5 hkp;go_wp2_with fail
   go_roundw
   case rel=>exact ⟨k+1,pre++(Nd.tv f).sh xk,by omega,by go_num,HE2.out,HI5.out,HB5.out⟩
   case measure=>simp only [intOf];omega
  ·have hpe:pre=showX (Nd.tv f) xs:=by have:=HE.out;rw [List.drop_eq_nil_of_le (by omega)] at this;simpa [showX] using this
   have HX2:=Ha (dI _ wr hi);rw [hpe] at HX2;clear hi hb he;go_wp2_with fail;refine HX2.out.mono ?_;rintro e w4 ⟨rfl,hk4⟩;have HB4:=Ha (HB.out.trans (show Below w.heap.size wr w4 from hk4.below HB.out.size));clear hk4;unfold bs;go_wp2_with fail;go_ret;exact ⟨rfl,HB4.out⟩
theorem iQ {α:Type} (v:Tv α) (i:Nat) (l:List α) (s:St) (h:i<l.length):g6 v i l s=v.ls l[i] s:=by unfold g6;rw [List.getElem?_eq_getElem h]
theorem xV {α:Type} (v:Tv α) (i:Nat) (l:List α) (s:St) (h:i<l.length):rZ v i l s=v.cm l[i] s:=by unfold rZ;rw [List.getElem?_eq_getElem h]
theorem mA {α:Type} (C:α→Nat) (l:List α) (i:Nat) (h:i<l.length):C l[i]≤tot C l:=nG l i _ (List.getElem?_eq_getElem h)
theorem AL {α:Type} (C:α→Nat) (l:List α) (h:1<l.length):C l[0]+C l[1]≤tot C l:=by
 match l,h with
 | a::c::r,_=>simp only [tot,gC,gB];omega
theorem sO {α:Type} (v:Tv α) (l:List α) (os:List Int) (k:Nat) (s:St) (h:k<l.length) (h2:k<os.length):fP v (l.drop k) (os.drop k) s=fP v (l.drop (k+1)) (os.drop (k+1)) (gL os[k] true (v.cm l[k] s)).line:=by rw [bB l k h,bB os k h2,fP]
theorem vS {α:Type} (v:Tv α) (l:List α) (os:List Int) (k:Nat) (s:St) (h:l.length≤k):fP v (l.drop k) (os.drop k) s=s:=by rw [List.drop_eq_nil_of_le h,fP];simp
theorem rP {α:Type} (v:Tv α) (l:List α) (os:List Int) (k:Nat) (s:St) (h:k<l.length) (h2:k<os.length):bU v (l.drop k) (os.drop k) s=bU v (l.drop (k+1)) (os.drop (k+1)) ((gL os[k] (decide (l.length≤k+1)) (v.cm l[k] s)).put (bM (decide (k+1<l.length)))):=by
 rw [bB l k h,bB os k h2,bU];have e:(l.drop (k+1)).isEmpty=decide (l.length≤k+1):=by
  by_cases hh:l.length≤k+1
  ·rw [List.drop_eq_nil_of_le hh,decide_eq_true hh];rfl
  ·rw [decide_eq_false hh,bB l (k+1) (by omega)];rfl
 have e2:(!decide (l.length≤k+1))=decide (k+1<l.length):=by
  by_cases hh:l.length≤k+1
  ·rw [decide_eq_true hh,decide_eq_false (by omega)];rfl
  ·rw [decide_eq_false hh,decide_eq_true (by omega)];rfl
 rw [e,e2]
theorem tP {α:Type} (v:Tv α) (l:List α) (os:List Int) (k:Nat) (s:St) (h:l.length≤k):bU v (l.drop k) (os.drop k) s=s:=by rw [List.drop_eq_nil_of_le h,bU];simp
theorem m0 {α:Type} (v:Tv α) (l:List α) (b:Bool) (k:Nat) (s:St) (h:k<l.length):dG v b (l.drop k) s=dG v true (l.drop (k+1)) (v.cm l[k] (s.put (if b then eO else []))):=by rw [bB l k h,dG]
theorem eJ (s:St):s.put []=s:=by simp [St.put]
theorem mF (f:Nat) (ih:PLs f) (G:Nat→Prop) (B b:Nat) (w:World) (vs:List Value) (n:NdF (Nd f)) (st:St) (a z:List UInt8) (hG:∀ k,G k→k<B) (hT:TxB B w) (hv:NdV (f+1) G w vs n) (hk0:0<n.kids.length) (hf:∀ k∈n.kids,(Nd.ft f).ls k) (hal:a.length≤8) (hzl:z.length≤8) (hp:Pn B b st w) (hl:st.len+64*Nd.wt (f+1) n≤LIM):
  Calls Tryz.prog 234 #[.pointer (some ⟨b,0,none⟩),.string ⟨a.toArray⟩,ag vs,.string ⟨z.toArray⟩] w (Wrt B b w (fC (Nd.tv f) a z n st)):=by
 obtain ⟨ky,nmb,nt,ni,ops,asg,wds,rds,ars,kds⟩:=n;obtain ⟨A4,c4,A5,c5,A6,c6,A7,c7,A8,c8,A9,c9,rfl,hns,hal,hl4,hl5,hl6,hl7,hl8,hl9,hso,hsa,hsw,hsr,hsm,hsk⟩:=NdV.open hv;obtain ⟨nm,rfl⟩:∃ l:List UInt8,nmb=⟨l.toArray⟩:=⟨nmb.toList,by rw [cM]⟩;have hl2:st.len+64*wtF (Nd.wt f) (NdF.mk ky ⟨nm.toArray⟩ nt ni ops asg wds rds ars kds)≤1099511627776:=hl;unfold wtF at hl2;simp only [aS] at hl2;have hnl:(⟨nm.toArray⟩:ByteArray).toList=nm:=by rw [Lib.toList_data]
 simp only at hk0 hf;have hkt:=mA (Nd.wt f) kds 0 hk0;obtain ⟨bkK,okK,rfl,hg,hel⟩:=hsk.elem (by omega);have HELK:=Ha hel;have HGKK:=Ha hg;clear hel hg;show Calls Tryz.prog 234 #[.pointer (some ⟨b,0,none⟩),.string ⟨a.toArray⟩,.agg #[.int .i64 ky,.string ⟨nm.toArray⟩,.bool nt,.bool ni,.slice A4 ops.length c4,.slice A5 asg.length c5,.slice A6 wds.length c6,.slice A7 rds.length c7,.slice A8 ars.length c8,.slice (some ⟨bkK,okK,none⟩) kds.length c9],.string ⟨z.toArray⟩] w (Wrt B b w _);obtain ⟨w0,hW,hbw,hbx⟩:=cpd w (.cells #[.int .i64 ky,.string ⟨nm.toArray⟩,.bool nt,.bool ni,.slice A4 ops.length c4,.slice A5 asg.length c5,.slice A6 wds.length c6,.slice A7 rds.length c7,.slice A8 ars.length c8,.slice (some ⟨bkK,okK,none⟩) kds.length c9] 28);have hnb:w.heap.size≠b:=by have:=hp.lt;omega
 have hB:=hp.size;have KW:=Ha (Ks.of_below (B:=B) (b:=b) hbw);have hb0:Below B w w0:=hbw.mono hB;have LW:B≤w0.heap.size:=Nat.le_trans hB hbw.size;obtain ⟨HT,HV,HP0⟩:=hs3 (hT.below hb0) hv (hp.below hbw);obtain ⟨st0,hst0⟩:∃ z:St,z=st:=⟨_,rfl⟩;have ln0:st0.len=st.len:=by rw [hst0]
 rw [← hst0] at HP0;obtain ⟨ES0,HSO,HSA,HSW,HSR,HSM,HSK⟩:=hs7 hst0 hso hsa hsw hsr hsm hsk;clear hso hsa hsw hsr hsm hsk;obtain ⟨HG,IH,HF,HBX,KS0⟩:=hs5 hG ih hf hbx (Ks.refl B b w0);clear hbw hb0 hp hG hT hv hst0 hbx ih hf;obtain ⟨x0,x1,x2,x3,x4,x5,x6,x7,x8,x9⟩:=aF (KS0.out.box HBX.out hnb (by decide) (by decide));go_enter Tryz.func234,Tryz.ntmps234;go_wp2_with fail;refine (iP a HP0.out (by omega)).mono ?_;rintro e w1 ⟨rfl,hq,hk⟩;have KS1:=Ha (KS0.out.trans hk);obtain ⟨st1,hst⟩:∃ zst:St,zst=(st0.put a).line:=⟨_,rfl⟩;have ln1:=(St.line_len (st0.put a)).trans (congrArg (· + 1) (St.put_len st0 a));rw [← hst] at hq ln1;have ES1:=Ha hst;have HP1:=Ha hq;clear hst hq hk  x0 x1 x2 x3 x4 x5 x6 x7 x8 x9;obtain ⟨x0,x1,x2,x3,x4,x5,x6,x7,x8,x9⟩:=aF (KS1.out.box HBX.out hnb (by decide) (by decide));obtain ⟨kyk,sk,ntk,nik,A4k,n4k,c4k,A5k,n5k,c5k,A6k,n6k,c6k,A7k,n7k,c7k,A8k,n8k,c8k,A9k,n9k,c9k,HEk,dk_0,dk_1,dk_2,dk_3,dk_4,dk_5,dk_6,dk_7,dk_8,dk_9⟩:=fD HELK.out 0 (by omega) (okK) (by omega) (keepB HG.out ((KW.out.trans KS1.out).below hB)) HGKK.out;have hklk:=(Nd.tv_ok f).ls kds[0] st1;have HXk:=Ha (IH.out G B b w1 _ kds[0] st1 HG.out (HT.out.below (KS1.out.below LW)) (HEk.out.belowB HG.out ((KW.out.trans KS1.out).below hB)) (HF.out _ (List.getElem_mem _)) HP1.out (by unfold LIM;omega));go_wp2_with fail;refine (HXk.out).mono ?_;rintro e w2 ⟨rfl,hq,hk⟩;have KS2:=Ha (KS1.out.trans hk);obtain ⟨st2,hst⟩:∃ zst:St,zst=(Nd.tv f).ls kds[0] st1:=⟨_,rfl⟩;have ln2:=hklk;rw [← hst] at hq ln2;have ES2:=Ha hst;have HP2:=Ha hq;clear hst hq hk dk_0 dk_1 dk_2 dk_3 dk_4 dk_5 dk_6 dk_7 dk_8 dk_9 HXk hklk x0 x1 x2 x3 x4 x5 x6 x7 x8 x9;obtain ⟨x0,x1,x2,x3,x4,x5,x6,x7,x8,x9⟩:=aF (KS2.out.box HBX.out hnb (by decide) (by decide));go_wp2_with fail;refine (fI z HP2.out (by omega)).mono ?_;rintro e w3 ⟨rfl,hq,hk⟩;have KS3:=Ha (KS2.out.trans hk);obtain ⟨st3,hst⟩:∃ zst:St,zst=st2.put z:=⟨_,rfl⟩;have ln3:=St.put_len st2 z;rw [← hst] at hq ln3;have ES3:=Ha hst;have HP3:=Ha hq;clear hst hq hk  x0 x1 x2 x3 x4 x5 x6 x7 x8 x9;obtain ⟨x0,x1,x2,x3,x4,x5,x6,x7,x8,x9⟩:=aF (KS3.out.box HBX.out hnb (by decide) (by decide));go_wp2_with fail
 go_end0
 have FIN:=Ha (show fC (Nd.tv f) a z (NdF.mk ky ⟨nm.toArray⟩ nt ni ops asg wds rds ars kds) st=st3 by unfold fC;rw [iQ _ _ _ _ hk0,ES3.out,ES2.out,ES1.out,ES0.out]);rw [FIN.out];exact ⟨rfl,HP3.out,KW.out.trans KS3.out⟩
theorem uS (f:Nat) (ih:PLs f) (G:Nat→Prop) (B b:Nat) (w:World) (vs:List Value) (n:NdF (Nd f)) (st:St) (a:List UInt8) (hG:∀ k,G k→k<B) (hT:TxB B w) (hv:NdV (f+1) G w vs n) (hk0:n.kids.length=2) (hf:∀ k∈n.kids,(Nd.ft f).ls k) (hal:a.length≤8) (hp:Pn B b st w) (hl:st.len+64*Nd.wt (f+1) n≤LIM):
  Calls Tryz.prog 238 #[.pointer (some ⟨b,0,none⟩),.string ⟨a.toArray⟩,ag vs] w (Wrt B b w (fE (Nd.tv f) a n st)):=by
 obtain ⟨ky,nmb,nt,ni,ops,asg,wds,rds,ars,kds⟩:=n;obtain ⟨A4,c4,A5,c5,A6,c6,A7,c7,A8,c8,A9,c9,rfl,hns,hal,hl4,hl5,hl6,hl7,hl8,hl9,hso,hsa,hsw,hsr,hsm,hsk⟩:=NdV.open hv;obtain ⟨nm,rfl⟩:∃ l:List UInt8,nmb=⟨l.toArray⟩:=⟨nmb.toList,by rw [cM]⟩;have hl2:st.len+64*wtF (Nd.wt f) (NdF.mk ky ⟨nm.toArray⟩ nt ni ops asg wds rds ars kds)≤1099511627776:=hl;unfold wtF at hl2;simp only [aS] at hl2;have hnl:(⟨nm.toArray⟩:ByteArray).toList=nm:=by rw [Lib.toList_data]
 simp only at hk0 hf;have hk1:1<kds.length:=by omega
 have hk2:0<kds.length:=by omega
 have hkt:=AL (Nd.wt f) kds hk1;clear hk0;obtain ⟨bkK,okK,rfl,hg,hel⟩:=hsk.elem (by omega);have HELK:=Ha hel;have HGKK:=Ha hg;clear hel hg;unfold ag;obtain ⟨w0,hW,hbw,hbx⟩:=cpd w (.cells #[.int .i64 ky,.string ⟨nm.toArray⟩,.bool nt,.bool ni,.slice A4 ops.length c4,.slice A5 asg.length c5,.slice A6 wds.length c6,.slice A7 rds.length c7,.slice A8 ars.length c8,.slice (some ⟨bkK,okK,none⟩) kds.length c9] 28);have hnb:w.heap.size≠b:=by have:=hp.lt;omega
 have hB:=hp.size;have KW:=Ha (Ks.of_below (B:=B) (b:=b) hbw);have hb0:Below B w w0:=hbw.mono hB;have LW:B≤w0.heap.size:=Nat.le_trans hB hbw.size;obtain ⟨HT,HV,HP0⟩:=hs3 (hT.below hb0) hv (hp.below hbw);obtain ⟨st0,hst0⟩:∃ z:St,z=st:=⟨_,rfl⟩;have ln0:st0.len=st.len:=by rw [hst0]
 rw [← hst0] at HP0;obtain ⟨ES0,HSO,HSA,HSW,HSR,HSM,HSK⟩:=hs7 hst0 hso hsa hsw hsr hsm hsk;clear hso hsa hsw hsr hsm hsk;obtain ⟨HG,IH,HF,HBX,KS0⟩:=hs5 hG ih hf hbx (Ks.refl B b w0);clear hbw hb0 hp hG hT hv hst0 hbx ih hf;obtain ⟨x0,x1,x2,x3,x4,x5,x6,x7,x8,x9⟩:=aF (KS0.out.box HBX.out hnb (by decide) (by decide));go_enter Tryz.func238,Tryz.ntmps238;go_wp2_with fail;refine (iP a HP0.out (by omega)).mono ?_;rintro e w1 ⟨rfl,hq,hk⟩;have KS1:=Ha (KS0.out.trans hk);obtain ⟨st1,hst⟩:∃ zst:St,zst=(st0.put a).line:=⟨_,rfl⟩;have ln1:=(St.line_len (st0.put a)).trans (congrArg (· + 1) (St.put_len st0 a));rw [← hst] at hq ln1;have ES1:=Ha hst;have HP1:=Ha hq;clear hst hq hk  x0 x1 x2 x3 x4 x5 x6 x7 x8 x9;obtain ⟨x0,x1,x2,x3,x4,x5,x6,x7,x8,x9⟩:=aF (KS1.out.box HBX.out hnb (by decide) (by decide));obtain ⟨kyk,sk,ntk,nik,A4k,n4k,c4k,A5k,n5k,c5k,A6k,n6k,c6k,A7k,n7k,c7k,A8k,n8k,c8k,A9k,n9k,c9k,HEk,dk_0,dk_1,dk_2,dk_3,dk_4,dk_5,dk_6,dk_7,dk_8,dk_9⟩:=fD HELK.out 0 (by omega) (okK) (by omega) (keepB HG.out ((KW.out.trans KS1.out).below hB)) HGKK.out;have hklk:=(Nd.tv_ok f).ls kds[0] st1;have HXk:=Ha (IH.out G B b w1 _ kds[0] st1 HG.out (HT.out.below (KS1.out.below LW)) (HEk.out.belowB HG.out ((KW.out.trans KS1.out).below hB)) (HF.out _ (List.getElem_mem _)) HP1.out (by unfold LIM;omega));go_wp2_with fail;refine (HXk.out).mono ?_;rintro e w2 ⟨rfl,hq,hk⟩;have KS2:=Ha (KS1.out.trans hk);obtain ⟨st2,hst⟩:∃ zst:St,zst=(Nd.tv f).ls kds[0] st1:=⟨_,rfl⟩;have ln2:=hklk;rw [← hst] at hq ln2;have ES2:=Ha hst;have HP2:=Ha hq;clear hst hq hk dk_0 dk_1 dk_2 dk_3 dk_4 dk_5 dk_6 dk_7 dk_8 dk_9 HXk hklk x0 x1 x2 x3 x4 x5 x6 x7 x8 x9;obtain ⟨x0,x1,x2,x3,x4,x5,x6,x7,x8,x9⟩:=aF (KS2.out.box HBX.out hnb (by decide) (by decide));go_wp2_with fail;refine (iP tDo HP2.out (by simp only [tDo,gG,gH];omega)).mono ?_;rintro e w3 ⟨rfl,hq,hk⟩;have KS3:=Ha (KS2.out.trans hk);obtain ⟨st3,hst⟩:∃ zst:St,zst=(st2.put tDo).line:=⟨_,rfl⟩;have ln3:=(St.line_len (st2.put tDo)).trans (congrArg (· + 1) (St.put_len st2 tDo));rw [← hst] at hq ln3;have ES3:=Ha hst;have HP3:=Ha hq;clear hst hq hk  x0 x1 x2 x3 x4 x5 x6 x7 x8 x9;obtain ⟨x0,x1,x2,x3,x4,x5,x6,x7,x8,x9⟩:=aF (KS3.out.box HBX.out hnb (by decide) (by decide));simp only [tDo,gG,gH] at ln3;obtain ⟨usm,hvl,hR0,hcell⟩:=HELK.out 1 (by omega);have z:=fun j u hj=>(keepB HG.out ((KW.out.trans KS3.out).below hB) _ HGKK.out).trans (hcell j u hj);obtain ⟨kym,sm,ntm,nim,A4m,n4m,c4m,A5m,n5m,c5m,A6m,n6m,c6m,A7m,n7m,c7m,A8m,n8m,c8m,A9m,n9m,c9m,rfl⟩:=hR0.shape;have dm_0:w3.cell? ⟨bkK,okK+10,none⟩=some (.int .i64 kym):=by simpa using z 0 _ rfl
 have dm_1:w3.cell? ⟨bkK,okK+10+1,none⟩=some (.string sm):=by simpa using z 1 _ rfl
 have dm_2:w3.cell? ⟨bkK,okK+10+2,none⟩=some (.bool ntm):=by simpa using z 2 _ rfl
 have dm_3:w3.cell? ⟨bkK,okK+10+3,none⟩=some (.bool nim):=by simpa using z 3 _ rfl
 have dm_4:w3.cell? ⟨bkK,okK+10+4,none⟩=some (.slice A4m n4m c4m):=by simpa using z 4 _ rfl
 have dm_5:w3.cell? ⟨bkK,okK+10+5,none⟩=some (.slice A5m n5m c5m):=by simpa using z 5 _ rfl
 have dm_6:w3.cell? ⟨bkK,okK+10+6,none⟩=some (.slice A6m n6m c6m):=by simpa using z 6 _ rfl
 have dm_7:w3.cell? ⟨bkK,okK+10+7,none⟩=some (.slice A7m n7m c7m):=by simpa using z 7 _ rfl
 have dm_8:w3.cell? ⟨bkK,okK+10+8,none⟩=some (.slice A8m n8m c8m):=by simpa using z 8 _ rfl
 have dm_9:w3.cell? ⟨bkK,okK+10+9,none⟩=some (.slice A9m n9m c9m):=by simpa using z 9 _ rfl
 have HEm:=Ha hR0;clear hR0 z hcell hvl;have hklm:=(Nd.tv_ok f).ls kds[1] st3;have HXm:=Ha (IH.out G B b w3 _ kds[1] st3 HG.out (HT.out.below (KS3.out.below LW)) (HEm.out.belowB HG.out ((KW.out.trans KS3.out).below hB)) (HF.out _ (List.getElem_mem _)) HP3.out (by unfold LIM;omega));go_wp2_with fail;refine (HXm.out).mono ?_;rintro e w4 ⟨rfl,hq,hk⟩;have KS4:=Ha (KS3.out.trans hk);obtain ⟨st4,hst⟩:∃ zst:St,zst=(Nd.tv f).ls kds[1] st3:=⟨_,rfl⟩;have ln4:=hklm;rw [← hst] at hq ln4;have ES4:=Ha hst;have HP4:=Ha hq;clear hst hq hk dm_0 dm_1 dm_2 dm_3 dm_4 dm_5 dm_6 dm_7 dm_8 dm_9 HXm hklm x0 x1 x2 x3 x4 x5 x6 x7 x8 x9;obtain ⟨x0,x1,x2,x3,x4,x5,x6,x7,x8,x9⟩:=aF (KS4.out.box HBX.out hnb (by decide) (by decide));go_wp2_with fail;refine (fI dP HP4.out (by simp only [dP,gG,gH];omega)).mono ?_;rintro e w5 ⟨rfl,hq,hk⟩;have KS5:=Ha (KS4.out.trans hk);obtain ⟨st5,hst⟩:∃ zst:St,zst=st4.put dP:=⟨_,rfl⟩;have ln5:=St.put_len st4 dP;rw [← hst] at hq ln5;have ES5:=Ha hst;have HP5:=Ha hq;clear hst hq hk  x0 x1 x2 x3 x4 x5 x6 x7 x8 x9;obtain ⟨x0,x1,x2,x3,x4,x5,x6,x7,x8,x9⟩:=aF (KS5.out.box HBX.out hnb (by decide) (by decide));simp only [dP,gG,gH] at ln5;go_wp2_with fail
 go_end0
 have FIN:=Ha (show fE (Nd.tv f) a (NdF.mk ky ⟨nm.toArray⟩ nt ni ops asg wds rds ars kds) st=st5 by unfold fE;rw [iQ _ _ _ _ hk2,iQ _ _ _ _ hk1,ES5.out,ES4.out,ES3.out,ES2.out,ES1.out,ES0.out]);rw [FIN.out];exact ⟨rfl,HP5.out,KW.out.trans KS5.out⟩
theorem C8 (f:Nat) (ih:PCm f) (G:Nat→Prop) (B b:Nat) (w:World) (vs:List Value) (n:NdF (Nd f)) (st:St) (hG:∀ k,G k→k<B) (hT:TxB B w) (hv:NdV (f+1) G w vs n) (hfit:lsF (Nd.ft f) n) (hp:Pn B b st w) (hl:st.len+64*Nd.wt (f+1) n≤LIM):
  Calls Tryz.prog 251 #[.pointer (some ⟨b,0,none⟩),ag vs] w (Wrt B b w (jW (Nd.tv f) n st)):=by
 obtain ⟨ky,nmb,nt,ni,ops,asg,wds,rds,ars,kds⟩:=n;obtain ⟨A4,c4,A5,c5,A6,c6,A7,c7,A8,c8,A9,c9,rfl,hns,hal,hl4,hl5,hl6,hl7,hl8,hl9,hso,hsa,hsw,hsr,hsm,hsk⟩:=NdV.open hv;obtain ⟨nm,rfl⟩:∃ l:List UInt8,nmb=⟨l.toArray⟩:=⟨nmb.toList,by rw [cM]⟩;have hl2:st.len+64*wtF (Nd.wt f) (NdF.mk ky ⟨nm.toArray⟩ nt ni ops asg wds rds ars kds)≤1099511627776:=hl;unfold wtF at hl2;simp only [aS] at hl2;have hnl:(⟨nm.toArray⟩:ByteArray).toList=nm:=by rw [Lib.toList_data]
 obtain ⟨hlo0,hf⟩:=hfit;simp only at hlo0 hf;unfold ag;obtain ⟨w0,hW,hbw,hbx⟩:=cpd w (.cells #[.int .i64 ky,.string ⟨nm.toArray⟩,.bool nt,.bool ni,.slice A4 ops.length c4,.slice A5 asg.length c5,.slice A6 wds.length c6,.slice A7 rds.length c7,.slice A8 ars.length c8,.slice A9 kds.length c9] 28);have hnb:w.heap.size≠b:=by have:=hp.lt;omega
 have hB:=hp.size;have KW:=Ha (Ks.of_below (B:=B) (b:=b) hbw);have hb0:Below B w w0:=hbw.mono hB;have LW:B≤w0.heap.size:=Nat.le_trans hB hbw.size;obtain ⟨HT,HV,HP0⟩:=hs3 (hT.below hb0) hv (hp.below hbw);obtain ⟨st0,hst0⟩:∃ z:St,z=st:=⟨_,rfl⟩;have ln0:st0.len=st.len:=by rw [hst0]
 rw [← hst0] at HP0;obtain ⟨ES0,HSO,HSA,HSW,HSR,HSM,HSK⟩:=hs7 hst0 hso hsa hsw hsr hsm hsk;clear hso hsa hsw hsr hsm hsk;obtain ⟨HG,IH,HF,HBX,KS0⟩:=hs5 hG ih hf hbx (Ks.refl B b w0);clear hbw hb0 hp hG hT hv hst0 hbx ih hf;obtain ⟨x0,x1,x2,x3,x4,x5,x6,x7,x8,x9⟩:=aF (KS0.out.box HBX.out hnb (by decide) (by decide));go_enter Tryz.func251,Tryz.ntmps251;go_wp2_with fail
 go_loopw [9] (fun i wr=>∃ (k:Nat) (str:St),k≤kds.length∧i=.int .i64 k∧fP (Nd.tv f) (kds.drop k) (ops.drop k) str=jW (Nd.tv f) (NdF.mk ky ⟨nm.toArray⟩ nt ni ops asg wds rds ars kds) st0∧str.len+64*tot (Nd.wt f) (kds.drop k)≤1099511627776∧Pn B b str wr∧Ks B b w0 wr) (fun i _=>kds.length-(intOf i).toNat)
 case atStart=>exact ⟨0,st0,by omega,rfl,rfl,by rw [List.drop_zero];omega,HP0.out,KS0.out⟩
 case round=>
  obtain ⟨k,str,hk,rfl,he,lnr,hq,hks⟩:=hrel;obtain ⟨HE,HPr,KSr⟩:=hs3 he hq hks;clear he hq hks x0 x1 x2 x3 x4 x5 x6 x7 x8 x9;obtain ⟨x0,x1,x2,x3,x4,x5,x6,x7,x8,x9⟩:=aF (KSr.out.box HBX.out hnb (by decide) (by decide));by_cases hlt:k<kds.length
  ·have hlo:k<ops.length:=by omega
   clear x0 x1 x2 x3 x4 x5 x6 x7 x8 x9;obtain ⟨bkK,okK,rfl,hg,hel⟩:=HSK.out.elem (by omega);have HELK:=Ha hel;have HGKK:=Ha hg;clear hel hg;obtain ⟨bkO,okO,rfl,hg,hel⟩:=HSO.out.elem (by omega);have HELO:=Ha hel;have HGKO:=Ha hg;clear hel hg;obtain ⟨x0,x1,x2,x3,x4,x5,x6,x7,x8,x9⟩:=aF (KSr.out.box HBX.out hnb (by decide) (by decide));have HD:=Ha (sO (Nd.tv f) kds ops k str hlt hlo);have htd:=cY (Nd.wt f) kds k hlt;obtain ⟨kyk,sk,ntk,nik,A4k,n4k,c4k,A5k,n5k,c5k,A6k,n6k,c6k,A7k,n7k,c7k,A8k,n8k,c8k,A9k,n9k,c9k,HEk,dk_0,dk_1,dk_2,dk_3,dk_4,dk_5,dk_6,dk_7,dk_8,dk_9⟩:=fD HELK.out k (by omega) (okK+k*10) (by rfl) (keepB HG.out ((KW.out.trans KSr.out).below hB)) HGKK.out;obtain ⟨wvk1,hVvk1,hwv,hev⟩:=eF wr (.cells #[.int .i64 kyk,.string sk,.bool ntk,.bool nik,.slice A4k n4k c4k,.slice A5k n5k c5k,.slice A6k n6k c6k,.slice A7k n7k c7k,.slice A8k n8k c8k,.slice A9k n9k c9k] 28);have hny:wr.heap.size≠b:=by have:=HPr.out.lt;omega
   obtain ⟨KSvk1,HPvk1,HYvk1⟩:=hs3 (KSr.out.trans (.of_below hwv)) (HPr.out.below hwv) hev;clear hwv hev x0 x1 x2 x3 x4 x5 x6 x7 x8 x9;obtain ⟨x0,x1,x2,x3,x4,x5,x6,x7,x8,x9⟩:=aF (KSvk1.out.box HBX.out hnb (by decide) (by decide));obtain ⟨y0,y1,y2,y3,y4,y5,y6,y7,y8,y9⟩:=aF HYvk1.out;have hkl:=(Nd.tv_ok f).cm kds[k] str;have HX:=Ha (IH.out G B b wvk1 _ kds[k] str HG.out (HT.out.below (KSvk1.out.below LW)) (HEk.out.belowB HG.out ((KW.out.trans KSvk1.out).below hB)) (HF.out _ (List.getElem_mem hlt)) HPvk1.out (by unfold LIM;omega));go_wp2_with fail;refine (HX.out).mono ?_;rintro e w2 ⟨rfl,hq,hk⟩;have KS2:=Ha (KSvk1.out.trans hk);have HY2:=Ha (hk.box HYvk1.out hny (by decide) (by decide));obtain ⟨st2,hst⟩:∃ zst:St,zst=(Nd.tv f).cm kds[k] str:=⟨_,rfl⟩;have ln2:=hkl;rw [← hst] at hq ln2;have ES2:=Ha hst;have HP2:=Ha hq;clear hst hq hk HX hkl dk_0 dk_1 dk_2 dk_3 dk_4 dk_5 dk_6 dk_7 dk_8 dk_9 x0 x1 x2 x3 x4 x5 x6 x7 x8 x9 y0 y1 y2 y3 y4 y5 y6 y7 y8 y9;obtain ⟨x0,x1,x2,x3,x4,x5,x6,x7,x8,x9⟩:=aF (KS2.out.box HBX.out hnb (by decide) (by decide));obtain ⟨y0,y1,y2,y3,y4,y5,y6,y7,y8,y9⟩:=aF HY2.out;obtain ⟨uso,hvl,hR0,hcell⟩:=HELO.out k (by omega);obtain rfl:uso=[.int .i64 ops[k]]:=hR0;have do0:w2.cell? ⟨bkO,okO+k,none⟩=some (.int .i64 ops[k]):=by simpa using (keepB HG.out ((KW.out.trans KS2.out).below hB) _ HGKO.out).trans (hcell 0 _ rfl)
   clear hcell hvl;by_cases ho:ops[k]=2
   ·rw [ho] at do0;go_wp2_with fail;refine (fI iC HP2.out (by simp only [iC,gG,gH];omega)).mono ?_;rintro e w3 ⟨rfl,hq,hk⟩;have KS3:=Ha (KS2.out.trans hk);have HY3:=Ha (hk.box HY2.out hny (by decide) (by decide));obtain ⟨st3,hst⟩:∃ zst:St,zst=st2.put iC:=⟨_,rfl⟩;have ln3:=St.put_len st2 iC;rw [← hst] at hq ln3;have ES3:=Ha hst;have HP3:=Ha hq;clear hst hq hk  x0 x1 x2 x3 x4 x5 x6 x7 x8 x9 y0 y1 y2 y3 y4 y5 y6 y7 y8 y9;obtain ⟨x0,x1,x2,x3,x4,x5,x6,x7,x8,x9⟩:=aF (KS3.out.box HBX.out hnb (by decide) (by decide));obtain ⟨y0,y1,y2,y3,y4,y5,y6,y7,y8,y9⟩:=aF HY3.out;simp only [iC,gG,gH] at ln3;clear do0;go_wp2_with fail;refine (qU HP3.out (by omega)).mono ?_;rintro e w4 ⟨rfl,hq,hk⟩;have KS4:=Ha (KS3.out.trans hk);have HY4:=Ha (hk.box HY3.out hny (by decide) (by decide));obtain ⟨st4,hst⟩:∃ zst:St,zst=st3.line:=⟨_,rfl⟩;have ln4:=St.line_len st3;rw [← hst] at hq ln4;have ES4:=Ha hst;have HP4:=Ha hq;clear hst hq hk  x0 x1 x2 x3 x4 x5 x6 x7 x8 x9 y0 y1 y2 y3 y4 y5 y6 y7 y8 y9;obtain ⟨x0,x1,x2,x3,x4,x5,x6,x7,x8,x9⟩:=aF (KS4.out.box HBX.out hnb (by decide) (by decide));obtain ⟨y0,y1,y2,y3,y4,y5,y6,y7,y8,y9⟩:=aF HY4.out;have HN:=Ha (show fP (Nd.tv f) (kds.drop (k+1)) (ops.drop (k+1)) st4=jW (Nd.tv f) (NdF.mk ky ⟨nm.toArray⟩ nt ni ops asg wds rds ars kds) st0 by rw [← HE.out,HD.out,ho,ES4.out,ES3.out,ES2.out];rfl);go_wp2_with fail
    go_roundw
    case rel=>exact ⟨k+1,st4,by omega,by go_num,HN.out,by omega,HP4.out,KS4.out⟩
    case measure=>simp only [intOf];omega
   ·have ho2:(ops[k]==2)=false:=by rw [gJ];exact ho
    have HO:=Ha (show gL ops[k] true st2=st2 by unfold gL;rw [if_neg ho];rfl);generalize hok:ops[k]=okk at *;go_wp2_with fail;refine (qU HP2.out (by omega)).mono ?_;rintro e w3 ⟨rfl,hq,hk⟩;have KS3:=Ha (KS2.out.trans hk);have HY3:=Ha (hk.box HY2.out hny (by decide) (by decide));obtain ⟨st3,hst⟩:∃ zst:St,zst=st2.line:=⟨_,rfl⟩;have ln3:=St.line_len st2;rw [← hst] at hq ln3;have ES3:=Ha hst;have HP3:=Ha hq;clear hst hq hk  x0 x1 x2 x3 x4 x5 x6 x7 x8 x9 y0 y1 y2 y3 y4 y5 y6 y7 y8 y9;obtain ⟨x0,x1,x2,x3,x4,x5,x6,x7,x8,x9⟩:=aF (KS3.out.box HBX.out hnb (by decide) (by decide));obtain ⟨y0,y1,y2,y3,y4,y5,y6,y7,y8,y9⟩:=aF HY3.out;have HN:=Ha (show fP (Nd.tv f) (kds.drop (k+1)) (ops.drop (k+1)) st3=jW (Nd.tv f) (NdF.mk ky ⟨nm.toArray⟩ nt ni ops asg wds rds ars kds) st0 by rw [← HE.out,HD.out,ES3.out,← ES2.out,HO.out]);clear do0;go_wp2_with fail
    go_roundw
    case rel=>exact ⟨k+1,st3,by omega,by go_num,HN.out,by omega,HP3.out,KS3.out⟩
    case measure=>simp only [intOf];omega
  ·have hpe:str=jW (Nd.tv f) (NdF.mk ky ⟨nm.toArray⟩ nt ni ops asg wds rds ars kds) st0:=by rw [← HE.out,vS _ _ _ _ _ (by omega)]
   rw [ES0.out] at hpe;go_wp2_with fail
   go_end0
   rw [← hpe];exact ⟨rfl,HPr.out,KW.out.trans KSr.out⟩
theorem BJ (e s:List UInt8) (t:Bool) (w:World) (h:s.length+e.length+1≤1099511627776):Calls Tryz.prog 250 #[.agg #[.string ⟨e.toArray⟩,.bool t],.string ⟨s.toArray⟩] w fun r w'=>r=.returned (bs (s++e++[10]))∧Below w.heap.size w w':=by
  have h1:=fun W=>oS s e (by omega) W;have h2:=fun W=>oS (s++e) [10] (by rw [gI,gG,gH];omega) W;go_enter Tryz.func250,Tryz.ntmps250;go_wp2_with fail;go_ret;exact ⟨by rw [List.append_assoc];rfl,(Below.refl _ _).alloc (Nat.le_refl _) _⟩
theorem rN {B b:Nat} {s:St} {w:World} (t:List UInt8) (h:Pn B b s w) (hl:s.2.length+1≤1099511627776) (ht:1≤t.length):
    ∃ (v:Value) (A':Option Addr) (n' c':Nat) (w':World),w.cell? ⟨b,2,none⟩=some v∧WrA Tryz.prog #[73,73] 73 #[v,.slice (some ⟨w.heap.size,0,none⟩) 1 1] (w.alloc (.cells #[.string ⟨t.toArray⟩] 9))=.ok (.slice A' n' c') w'∧w'.cell? ⟨b,2,none⟩=some v∧w'.frozen? ⟨b,2,none⟩=false∧
      Ks B b w w'∧Ks B b w (w'.setCell ⟨b,2,none⟩ (.slice A' n' c'))∧Pn B b (s.1,s.2++t) (w'.setCell ⟨b,2,none⟩ (.slice A' n' c')):=by
  obtain ⟨v,xs,h1,h2,h3,h4,h5⟩:=h;obtain ⟨p,q,hh⟩:=h1.hh;have hba:Below w.heap.size w (w.alloc (.cells #[.string ⟨t.toArray⟩] 9)):=(Below.refl _ _).alloc (Nat.le_refl _) _;obtain ⟨v',w',hrun,hrow,hgr⟩:=h2.one t (by omega) h5;obtain ⟨A',c',rfl,_⟩:=hrow.look;have h2a:=h2.below hba;have hha:=(hba.block b (Array.getElem?_eq_some_iff.1 hh).1).trans hh;have hnb:∀ (cs:Array Value) (T:TypeId) (fz:Nat×Nat) (k:Nat),T≠9→(w.alloc (.cells #[.string ⟨t.toArray⟩] 9)).heap[k]? = some (.cells cs T fz)→some k≠v.ownBlock:=fun cs T fz k hT hk e=>by
    obtain ⟨_,_,c,fz',hh'⟩:=h2a.kind k e.symm;rw [hk] at hh'
    injection hh' with hh'
    injection hh' with _ hh'
    exact hT hh'
  have hbk:w'.heap[b]? = some (.cells (p::q::[v]).toArray 126 (0,0)):=(hgr.block b (Array.getElem?_eq_some_iff.1 hha).1 (hnb _ _ _ b (by decide) hha)).trans hha;have hks:Ks B b w w':=(Ks.of_below hba).trans ⟨hgr.os,hgr.tape,hgr.output,hgr.size,fun k hk hg=>hgr.block k hk fun e=>by
    obtain ⟨a1,a2,a3⟩:=h2a.kind k e.symm;rcases hg with hg | ⟨_,_,hg⟩
    · omega
    · exact hg a3⟩
  have hi:IsB 126 B b [v] s.1 w':=by
    have hia:=h1.keep hba;have one:∀ p,Bld 126 B b [v] p s.1 (w.alloc (.cells #[.string ⟨t.toArray⟩] 9))→Bld 126 B b [v] p s.1 w':=by
      rintro p ⟨hB,u,hb,hown,hn⟩;refine ⟨hB,u,(hgr.block b (Array.getElem?_eq_some_iff.1 hb).1 (hnb _ _ _ b (by decide) hb)).trans hb,hown.kept (row:=v.ownBlock) hgr ?_,hn⟩;rcases hown.2 with ⟨rfl,_⟩ | ⟨g',cap,cur,rfl,_,hg',_⟩
      · exact .inl rfl
      · exact .inr (hnb _ _ _ g' (by decide) hg')
    rcases hia with h | h
    · exact .inl (one _ h)
    · exact .inr (one _ h)
  have hset:Kp B (· = b) w' (w'.setCell ⟨b,2,none⟩ (.slice A' (xs++[t]).length c')):=(Kp.refl B (· = b) w').set (X:=(· = b)) h1.le rfl 2 _;refine ⟨v,A',_,c',w',aE hh 2 _ rfl,hrun,aE hbk 2 _ rfl,by simp [World.frozen?,hbk],hks,hks.trans (.of_kp hset),_,xs++[t],hi.setRest (by decide) _,hrow.kp hbk (by decide) hset, ?_, ?_,Nat.le_trans (Nat.le_trans h5 hks.size) hset.size⟩
  · rw [List.flatten_append,h3];simp
  · show (xs++[t]).length≤(s.2++t).length;rw [gI,gI,gG,gH];omega
theorem wJ {α:Type} (v:Tv α) (r:RdF α) (s:St) (h:¬(r.op=12∨r.op=13)):cT v r s=s.put (r.num.toList++Ope.txtI r.op++[32]++bZ v r.tz):=by
  unfold cT kO;rw [if_neg h,List.append_nil];rfl
theorem tG {α:Type} (v:Tv α) (r:RdF α) (s:St) (h:r.op=12∨r.op=13):cT v r s=((s.put (r.num.toList++Ope.txtI r.op++[32]++bZ v r.tz)).1,(s.put (r.num.toList++Ope.txtI r.op++[32]++bZ v r.tz)).2++(r.here.toList++r.tz.p.utx.getD []++[10])):=by
  unfold cT kO;rw [if_pos h];rfl
theorem uN {ops:Array Oper} {op:Oper} {a:Act} {w w':World} {K:Act→World→Prop} {Q:Exit→Act→World→Prop} {E:Prop} (hgd:op.guard=none) (s x:Operand)
    (ho:op.op=.call { callee:=.builtin .append,args:=#[s,x],argTypes:=#[73,73] }) {v v2 v':Value} (hs:a.eval s=v) (hx:a.eval x=v2) (ht:op.type=73)
    (hr:WrA Tryz.prog #[73,73] 73 #[v,v2] w=.ok v' w') (hK:K (a.put op.dst v') w'):
    if Region.wanted op (yielded ops a.tmps)=true then Oper.wp Tryz.prog op a w K Q else E:=by
  have hw:Region.wanted op (yielded ops a.tmps)=true:=by simp [Region.wanted,hgd]
  rw [if_pos hw];unfold WrA at hr;unfold Oper.wp execOp;simp only [ho,ht,resolve,invoke,builtin,Sem.run_bind,Sem.run_pure,Result.andThen_ok,List.map_toArray,List.map_cons,List.map_nil,hs,hx,hr];exact hK
theorem uL (f:Nat) (ih:PWd f) (G:Nat→Prop) (B b:Nat) (w:World) (vs:List Value) (r:RdF (Nd f)) (st:St) (hG:∀ k,G k→k<B) (hT:TxB B w) (hv:RdN f G w vs r) (hf:fT (Nd.ft f) r.tz) (hp:Pn B b st w) (hl:st.len+64*wtR (Nd.wt f) r≤LIM):
    Calls Tryz.prog 233 #[.pointer (some ⟨b,0,none⟩),ag vs] w (Wrt B b w (cT (Nd.tv f) r st)):=by
  have hwlen:=cI (Nd.tv_ok f) r.tz;have htx:=rJ r.op;have hut:=rM r.tz.p;obtain ⟨num,op,tw,here⟩:=r;obtain ⟨vt,rfl,hns,hhs,hw⟩:=hv;obtain ⟨A,n,c,hvt⟩:=WdN.shape hw
  injection hvt with hvt
  subst hvt;have hww:WdN f G w [.slice A n c] tw:=hw;obtain ⟨rfl,hnc,hcm,hwt,hpt,-⟩:=hww.cmds;simp only at hf hwlen htx hut;have hl2:st.len+64*wtR (Nd.wt f) ⟨num,op,tw,here⟩≤1099511627776:=hl;unfold wtR at hl2;simp only at hl2;have hwt2:tw.p.wt+1≤wtW (Nd.wt f) tw:=by unfold wtW;omega
  obtain ⟨nm,rfl⟩:∃ l:List UInt8,num=⟨l.toArray⟩:=⟨num.toList,by rw [cM]⟩;obtain ⟨hr,rfl⟩:∃ l:List UInt8,here=⟨l.toArray⟩:=⟨here.toList,by rw [cM]⟩;rw [aS,aS] at hl2;show Calls Tryz.prog 233 #[.pointer (some ⟨b,0,none⟩),.agg #[.string ⟨nm.toArray⟩,.int .i64 op,.slice A tw.p.len c,.string ⟨hr.toArray⟩]] w (Wrt B b w _);obtain ⟨w0,hW,hbw,hbx⟩:=cpd w (.cells #[.string ⟨nm.toArray⟩,.int .i64 op,.slice A tw.p.len c,.string ⟨hr.toArray⟩] 33);have hnb:w.heap.size≠b:=by have:=hp.lt;omega
  have hB:=hp.size;have KW:=Ha (Ks.of_below (B:=B) (b:=b) hbw);have LW:B≤w0.heap.size:=Nat.le_trans hB hbw.size;have hb0:Below B w w0:=hbw.mono hB;have HT:=Ha (hT.below hb0);have HWD:=Ha (hww.belowB hG hb0);have HPT:=Ha (hpt.keep fun p hp=>World.cell?_of_block (hb0.block _ (hG _ hp)));have HP0:=Ha (hp.below hbw);have HG:=Ha hG;have IH:=Ha ih;have HF:=Ha hf;have HBX:=Ha hbx;have x0:w0.cell? ⟨w.heap.size,0,none⟩=some (.string ⟨nm.toArray⟩):=aE hbx 0 _ rfl;have x1:w0.cell? ⟨w.heap.size,1,none⟩=some (.int .i64 op):=aE hbx 1 _ rfl;have x2:w0.cell? ⟨w.heap.size,2,none⟩=some (.slice A tw.p.len c):=aE hbx 2 _ rfl;have x3:w0.cell? ⟨w.heap.size,3,none⟩=some (.string ⟨hr.toArray⟩):=aE hbx 3 _ rfl;have HS:=Ha (show ∀ X,Ks B b w0 X→X.cell? ⟨w.heap.size,0,none⟩=some (.string ⟨nm.toArray⟩)∧X.cell? ⟨w.heap.size,1,none⟩=some (.int .i64 op)∧X.cell? ⟨w.heap.size,2,none⟩=some (.slice A tw.p.len c)∧X.cell? ⟨w.heap.size,3,none⟩=some (.string ⟨hr.toArray⟩) from fun X hX=>by
    have:=hX.box HBX.out hnb (by decide) (by decide);exact ⟨aE this 0 _ rfl,aE this 1 _ rfl,aE this 2 _ rfl,aE this 3 _ rfl⟩)
  have FT:=Ha (show ∀ X,Ks B b w0 X→Calls Tryz.prog 249 #[.int .i64 op] X fun e w'=>e=.returned (bs (Ope.txtI op))∧X=w' from fun X hX=>DS op X ((HT.out.below (hX.below LW)).1));have FW:=Ha (show ∀ X,Ks B b w0 X→Calls Tryz.prog 74 #[.agg #[.slice A tw.p.len c]] X fun e w'=>e=.returned (bs (bZ (Nd.tv f) tw))∧Ks B b X w'∧Ks B b w0 w'∧(∀ s,Pn B b s X→Pn B b s w') from fun X hX=>
    (IH.out G X A tw.p.len c tw (fun k hk=>gK (HG.out k hk) (Nat.le_trans LW hX.size)) (HT.out.below (hX.below LW)).1 (HWD.out.belowB HG.out (hX.below LW)) HF.out (by unfold LIM;omega)).mono fun _ _ ⟨h1,h2⟩=>⟨h1,.of_below h2,hX.trans (.of_below h2),fun s hs=>hs.below h2⟩)
  have FU:=Ha (show ∀ X,Ks B b w0 X→Calls Tryz.prog 45 #[.agg #[.slice A tw.p.len c]] X fun e w'=>e=.returned (.tuple #[bs (tw.p.utx.getD []),.bool tw.p.utx.isSome])∧Below X.heap.size X w' from fun X hX=>
    pX tw.p A c G X hwt (fun k hk=>gK (HG.out k hk) (Nat.le_trans LW hX.size)) (HPT.out.keep fun p hp=>World.cell?_of_block ((hX.below LW).block _ (HG.out _ hp))))
  have R0:=Ha (show Ks B b w0 w0.drew from .of_below (Below.refl _ _).drew);have P0:=Ha (HP0.out.below (Below.refl w0.heap.size w0).drew);clear hbw hb0 hp hG hT hbx hw hww hpt ih hf;go_enter Tryz.func233,Tryz.ntmps233;go_wp2_with fail
  go_region_held3 (fun X=>X.cell? ⟨w.heap.size,0,none⟩=some (.string ⟨nm.toArray⟩)∧X.cell? ⟨w.heap.size,1,none⟩=some (.int .i64 op)∧X.cell? ⟨w.heap.size,2,none⟩=some (.slice A tw.p.len c)∧X.cell? ⟨w.heap.size,3,none⟩=some (.string ⟨hr.toArray⟩))
    (first | exact HS.out _ R0.out | exact HS.out _ kwd.out | exact HS.out _ (kwd.out.alloc _) | exact HS.out _ kpt.out)
    (first
      | (go_at_call 249
         refine Calls.mono (FT.out _ R0.out) ?_;rintro e wT ⟨rfl,rfl⟩;unfold bs;dsimp only)
      | (go_at_call 74
         refine Calls.mono (FW.out _ R0.out) ?_;rintro e wD ⟨rfl,_,kwd0,pwd0⟩;have kwd:=Ha kwd0;have pwd:=Ha (pwd0 _ P0.out);clear kwd0 pwd0;unfold bs;dsimp only)
      | (go_at_call 164
         refine Calls.mono (EM nm (Ope.txtI op) [32] (bZ (Nd.tv f) tw) pwd.out (by simp only [gG,gH];omega)) ?_;rintro e wP ⟨rfl,pp0,kp0⟩;have kpt:=Ha (kwd.out.trans kp0);have ppt:=Ha pp0;clear pp0 kp0;dsimp only))
  have KP:=Ha kpt.out;obtain ⟨stp,hstp⟩:∃ z:St,z=st.put (nm++Ope.txtI op++[32]++bZ (Nd.tv f) tw):=⟨_,rfl⟩;rw [← hstp] at ppt;have hsl:stp.len≤1099511627700:=by rw [hstp,St.put_len,gI,gI,gI,gG,gH];omega
  have hs2:stp.2.length≤stp.len:=by unfold St.len;omega
  have HSTP:=Ha hstp;have hul:(tw.p.utx.getD []).length≤tw.p.wt:=hut;obtain ⟨x0,x1,x2,x3⟩:=HS.out _ kpt.out;have hnl:(⟨nm.toArray⟩:ByteArray).toList=nm:=by rw [Lib.toList_data]
  have hrl:(⟨hr.toArray⟩:ByteArray).toList=hr:=by rw [Lib.toList_data]
  clear hstp;by_cases hop:op=12∨op=13
  case neg=>
    have o1:(op==12)=false:=by rw [gJ];intro e;exact hop (.inl e)
    have o2:(op==13)=false:=by rw [gJ];intro e;exact hop (.inr e)
    have FIN:=Ha (show cT (Nd.tv f) ⟨⟨nm.toArray⟩,op,tw,⟨hr.toArray⟩⟩ st=stp by rw [wJ _ _ _ hop,HSTP.out,hnl]);go_wp2_with fail
    go_end0
    rw [FIN.out];exact ⟨rfl,ppt.out,KW.out.trans KP.out⟩
  have FIN:=Ha (show cT (Nd.tv f) ⟨⟨nm.toArray⟩,op,tw,⟨hr.toArray⟩⟩ st=(stp.1,stp.2++(hr++tw.p.utx.getD []++[10])) by rw [tG _ _ _ hop,HSTP.out,hnl,hrl]);have HXU:=Ha (FU.out _ kpt.out);clear hut;generalize tw.p.utx.getD []=ut at *;obtain ⟨tt,htt⟩:∃ l:List UInt8,l=hr++ut++[10]:=⟨_,rfl⟩;have HSW:=Ha (fun (X:World) (t:Bool)=>BJ ut hr t X (by omega));rw [← htt] at HSW FIN;have htl:tt.length=hr.length+ut.length+1:=by rw [htt,gI,gI,gG,gH]
  clear htt;rcases hop with rfl | rfl
  · go_wp2_with fail;refine HXU.out.mono ?_;rintro e wU ⟨rfl,hbU⟩;have KU:=Ha (KP.out.trans (.of_below hbU));have PU:=Ha (ppt.out.below hbU);clear hbU x0 x1 x2 x3;obtain ⟨x0,x1,x2,x3⟩:=HS.out _ KU.out;unfold bs;go_wp2_with fail;have KD:=Ha (KU.out.trans (.of_below (Below.refl wU.heap.size wU).drew));have PD:=Ha (PU.out.below (Below.refl wU.heap.size wU).drew);obtain ⟨v,xs,h1,_,_,_,_⟩:=PD.out;obtain ⟨p,q,hh⟩:=h1.hh;have c2:wU.drew.cell? ⟨b,2,none⟩=some v:=aE hh 2 _ rfl;clear h1 hh;clear x0 x1 x2 x3;obtain ⟨x0,x1,x2,x3⟩:=HS.out _ KD.out
    go_region_law (first
      | (refine uN (by rfl) (.tmp 35) (.tmp 44) (by rfl) (by rfl) (by rfl) (by rfl) a2 ?_)
      | (go_simp
         go_at_call 250
         refine Calls.mono (HSW.out _ _) ?_;rintro e wS ⟨rfl,hbS⟩;obtain ⟨v2,A',n',c',wA,a1,a2,a3,a4,a5,a6,a7⟩:=rN tt (PD.out.below hbS) (by omega) (by omega);have a8:=aA c2 hbS;obtain rfl:v2=v:=Option.some.inj (a1.symm.trans a8);have a9:=aA a8 (show Below wS.heap.size wS (wS.alloc (.cells #[.string ⟨tt.toArray⟩] 9)) from (Below.refl _ _).alloc (Nat.le_refl _) _);have kZ:=Ha ((Ks.of_below (B:=B) (b:=b) hbS).trans a6);have pZ:=Ha a7;clear a1 a5 a6 a7 hbS;unfold bs;dsimp only))
    all_goals
      go_wp2_with fail
      go_end0
      rw [FIN.out];exact ⟨rfl,pZ.out,KW.out.trans (KD.out.trans kZ.out)⟩
  · go_wp2_with fail;refine HXU.out.mono ?_;rintro e wU ⟨rfl,hbU⟩;have KU:=Ha (KP.out.trans (.of_below hbU));have PU:=Ha (ppt.out.below hbU);clear hbU x0 x1 x2 x3;obtain ⟨x0,x1,x2,x3⟩:=HS.out _ KU.out;unfold bs;go_wp2_with fail;have KD:=Ha (KU.out.trans (.of_below (Below.refl wU.heap.size wU).drew));have PD:=Ha (PU.out.below (Below.refl wU.heap.size wU).drew);obtain ⟨v,xs,h1,_,_,_,_⟩:=PD.out;obtain ⟨p,q,hh⟩:=h1.hh;have c2:wU.drew.cell? ⟨b,2,none⟩=some v:=aE hh 2 _ rfl;clear h1 hh;clear x0 x1 x2 x3;obtain ⟨x0,x1,x2,x3⟩:=HS.out _ KD.out
    go_region_law (first
      | (refine uN (by rfl) (.tmp 35) (.tmp 44) (by rfl) (by rfl) (by rfl) (by rfl) a2 ?_)
      | (go_simp
         go_at_call 250
         refine Calls.mono (HSW.out _ _) ?_;rintro e wS ⟨rfl,hbS⟩;obtain ⟨v2,A',n',c',wA,a1,a2,a3,a4,a5,a6,a7⟩:=rN tt (PD.out.below hbS) (by omega) (by omega);have a8:=aA c2 hbS;obtain rfl:v2=v:=Option.some.inj (a1.symm.trans a8);have a9:=aA a8 (show Below wS.heap.size wS (wS.alloc (.cells #[.string ⟨tt.toArray⟩] 9)) from (Below.refl _ _).alloc (Nat.le_refl _) _);have kZ:=Ha ((Ks.of_below (B:=B) (b:=b) hbS).trans a6);have pZ:=Ha a7;clear a1 a5 a6 a7 hbS;unfold bs;dsimp only))
    all_goals
      go_wp2_with fail
      go_end0
      rw [FIN.out];exact ⟨rfl,pZ.out,KW.out.trans (KD.out.trans kZ.out)⟩
end Go.Proofs.YtjpopekmbmcggaaGreatDoor
