/- Towards clashesWhole_upto. -/
import Derived.Test.YtpidmmfjcghmeaaGreatCs26
import Derived.Test.YtpidmmfjcghmeaaGreatCs25
import Derived.Test.YtpidmmfjcghmeaaGreatCs28
set_option maxRecDepth 100000
set_option maxHeartbeats 16000000
set_option linter.all false
namespace Go.Proofs.YtpidmmfjcghmeaaGreat
open Go.RowKit
section
attribute [local go_sem ↓] aI
def sT (vs:List Value) (x:Value):Prop:=(∃ a n c,x=.slice a n c)∧vs=[x,.slice none 0 0]
theorem sT.one:∀ (vs:List Value) (x:Value),sT vs x→∀ u∈vs,u.oneCell'=true:=by
 rintro vs x ⟨⟨a,n,c,rfl⟩,rfl⟩ u hu;simp at hu;rcases hu with rfl | rfl <;> rfl
theorem BT:(Tryz.prog.info? 100).map (fun i=>(i.zero,i.size,i.bytes))=some (some (.agg #[.slice none 0 0,.slice none 0 0]),2,48):=by kernel_rfl
structure Bst (B b ma mt:Nat) (A0:Option Addr) (c0:Nat) (A1:Option Addr) (c1:Nat) (A2:Option Addr) (c2:Nat) (g:Gm) (vb:Value) (w:World) (vs:Value) (kvs:List Value) (ks:List (List Itm)):Prop where
 box:w.heap[b]? = some (.cells #[.slice A0 g.terms.length c0,.slice A1 g.nons.length c1,.slice A2 g.rules.length c2,.int .i64 g.start,vb,vs,.map (some ma),.map (some mt)] 171 (0,0))
 at_:∃ f n,MI w ma f n∧n≤ks.length∧∀ k,(∀ x∈k,eM x)→f (fK k)=if k∈ks then some (ks.idxOf k:Int) else none
 row:aG B 100 2 sT w vs kvs
 len:kvs.length=ks.length
 small:∀ k∈ks,∀ x∈k,eM x
 hb:B≤b
 hma:B≤ma
def Ps (B mt:Nat) (w:World) (i:Nat):Prop:=B≤i∧¬TB 250 w i∧¬TB 97 w i∧i≠mt
def Cs (B mt:Nat) (w w':World):Prop:=Chg (Ps B mt w) w w'
section
variable {B mt:Nat} {w w' w'':World}
theorem Cs.refl (B mt:Nat) (w:World):Cs B mt w w:=Chg.refl _ _
theorem Cs.trans (h:Cs B mt w w') (k:Cs B mt w' w''):Cs B mt w w'':=Chg.trans2 h k fun i hi hp=>by
 refine ⟨hp.1,fun h1=>hp.2.1 (h1.of_eq (h.same i hi fun h2=>h2.2.1 h1)),fun h1=>hp.2.2.1 (h1.of_eq (h.same i hi fun h2=>h2.2.2.1 h1)),hp.2.2.2⟩
theorem Cs.of (h:Below w.heap.size w w'):Cs B mt w w':=Chg.of h
theorem Cs.tb {T:TypeId} (h:Cs B mt w w') (hT:T=250∨T=97):∀ k,TB T w k→w'.heap[k]? = w.heap[k]? := fun k hk=>h.same k hk.lt fun hp=>by
 rcases hT with rfl | rfl
 ·exact hp.2.1 hk
 ·exact hp.2.2.1 hk
theorem Cs.below (h:Cs B mt w w') (hB:B≤w.heap.size):Below B w w':=Chg.below h (fun _ h=>h.1) hB
end
section
variable {B b ma mt:Nat} {A0 A1 A2:Option Addr} {c0 c1 c2:Nat} {g:Gm} {vb:Value} {w w':World} {vs:Value} {kvs:List Value} {ks:List (List Itm)}
theorem MI.keepH {f:List UInt8→Option Int} {n:Nat} (h:MI w ma f n) (hk:w'.heap[ma]? = w.heap[ma]?):MI w' ma f n:=by
 obtain ⟨D,⟨es,clock,hb,h1⟩,h2⟩:=h;exact ⟨D,⟨es,clock,hk.trans hb,h1⟩,h2⟩
theorem Bst.keep (h:Bst B b ma mt A0 c0 A1 c1 A2 c2 g vb w vs kvs ks) (h1:w'.heap[b]? = w.heap[b]?) (h2:w'.heap[ma]? = w.heap[ma]?) (h3:∀ k,TB 100 w k→w'.heap[k]? = w.heap[k]?):Bst B b ma mt A0 c0 A1 c1 A2 c2 g vb w' vs kvs ks:=by
 obtain ⟨f,n,hm,h4⟩:=h.at_;exact ⟨h1.trans h.box,⟨f,n,hm.keepH h2,h4⟩,h.row.keep fun k hk=>h3 k (h.row.tb hk).2,h.len,h.small,h.hb,h.hma⟩
theorem Bst.below (h:Bst B b ma mt A0 c0 A1 c1 A2 c2 g vb w vs kvs ks) (hb:Below w.heap.size w w'):Bst B b ma mt A0 c0 A1 c1 A2 c2 g vb w' vs kvs ks:=by
 obtain ⟨f,n,hm,h4⟩:=h.at_;exact h.keep (hb.block _ (gL h.box).1) (hb.block _ hm.lt) fun k hk=>hb.block _ hk.lt
theorem EX {α:Type} [BEq α] [LawfulBEq α] {l:List α} {x y:α} (h:x∈l):(l++[y]).idxOf x=l.idxOf x:=by rw [List.idxOf_append,if_pos h]
theorem uY {α:Type} [BEq α] [LawfulBEq α] {l:List α} {x:α} (h:x ∉ l):(l++[x]).idxOf x=l.length:=by rw [List.idxOf_append,if_neg h];simp
def zH (B b ma mt:Nat) (A0:Option Addr) (c0:Nat) (A1:Option Addr) (c1:Nat) (A2:Option Addr) (c2:Nat) (g:Gm) (vb:Value) (kvs:List Value) (ks:List (List Itm)) (v:Value) (k:List Itm) (w:World) (e:Ending) (w':World):Prop:=
 (∃ vs' kvs' ks',e=.returned (.int .i64 (ks'.idxOf k:Int))∧Bst B b ma mt A0 c0 A1 c1 A2 c2 g vb w' vs' kvs' ks'∧((k∈ks∧ks'=ks∧kvs'=kvs)∨(k ∉ ks∧ks'=ks++[k]∧kvs'=kvs++[v])))∧Cs B mt w w'
end
theorem cE {w:World} {b:Nat} {f:List UInt8→Option Int} {n:Nat} (h:MI w b f n) (T:TypeId):¬TB T w b:=by
 obtain ⟨D,⟨es,clock,hb,_⟩,_⟩:=h;rintro ⟨cs,hc⟩;rw [hb] at hc;cases hc
theorem vN (G:Nat→Prop) (w:World) (B b ma mt:Nat) (A0 c0 A1 c1 A2 c2) (g:Gm) (vb:Value) (vs:Value) (kvs:List Value) (ks:List (List Itm)) (A:Option Addr) (c:Nat) (k:List Itm) (h:Bst B b ma mt A0 c0 A1 c1 A2 c2 g vb w vs kvs ks) (hG:∀ k,G k→k<w.heap.size) (hk:aR G w (.slice A k.length c) k) (hs:∀ x∈k,eM x) (hkl:k.length≤1000000) (hks:ks.length≤1000000) (hmm:ma≠mt) (hbm:b≠mt) (hmt:∃ es c,w.heap[mt]? = some (.map es c)) (hBw:B≤w.heap.size):
  Calls Tryz.prog 101 #[.pointer (some ⟨b,0,none⟩),.slice A k.length c] w fun e w'=>zH B b ma mt A0 c0 A1 c1 A2 c2 g vb kvs ks (.slice A k.length c) k w e w':=by
 have HK:=Ha (JG G w A c k hG hk hs hkl);have HBS:=Ha h;have HS:=Ha hs;have HMM:=Ha (gS hmm hbm);have HMT:=Ha hmt;clear h hG hk hs hmm hbm hmt;go_enter Tryz.func101,Tryz.ntmps101;go_wp2_with fail;refine (HK.out).mono ?_;rintro e w1 ⟨rfl,hb1⟩;have HB1:=Ha (HBS.out.below hb1);have HC1:=Ha (Cs.of (B:=B) (mt:=mt) hb1);have hb1s:=hb1.size;have HMT1:=Ha (show ∃ es c,w1.heap[mt]? = some (.map es c) from by
  obtain ⟨es,cc,hm⟩:=HMT.out;exact ⟨es,cc,(hb1.block _ (gL hm).1).trans hm⟩)
 obtain ⟨f,n,hmi,hnl,hf⟩:=HB1.out.at_;have hfk:=hf k HS.out;have hlk:=eN k;have z5:=aA HB1.out.box 5 _ rfl;have z6:=aA HB1.out.box 6 _ rfl;have hlook:=hmi.look (fK k) (by omega);rw [hfk] at hlook;obtain ⟨HMI,HF,HFK⟩:=Zh3 hmi hf hfk;clear hmi hf hb1 hfk;by_cases hin:k∈ks
 ·rw [if_pos hin] at hlook;simp only [Option.getD_some,Option.isSome_some] at hlook;have HIN:=Ha hin;clear hin;go_wp2_with fail;go_ret;exact ⟨⟨vs,kvs,ks,rfl,HB1.out,.inl ⟨HIN.out,rfl,rfl⟩⟩,HC1.out⟩
 ·rw [if_neg hin] at hlook HFK;simp only [Option.getD_none,Option.isSome_none] at hlook;obtain ⟨Av,cv,rfl,_⟩:=HB1.out.row.shape;have HLEN:=Ha HB1.out.len;obtain ⟨L,hL⟩:∃ L,L=kvs.length:=⟨_,rfl⟩;rw [← hL] at z5;have HL:=Ha (show L=ks.length by rw [hL];exact HLEN.out);have HLK:=Ha hL;have hd1:MI w1.drew ma f n:=HMI.out.keepH rfl;obtain ⟨w2,hst,hm2,hg2,hs2⟩:=hd1.store (fK k) (L:Int) (by omega) (iG (by unfold inR;have:=HL.out;omega)) (by have:=HL.out;omega);have HIN:=Ha hin;have hblk:∀ i,i<w1.heap.size→i≠ma→w2.heap[i]? = w1.heap[i]? := fun i hi hne=>hg2.block i hi fun e=>hne (by injection e);have hmb:ma≠b:=fun e=>cE HMI.out 171 (e▸⟨_,HB1.out.box⟩);have hbx2:=(hblk b (gL HB1.out.box).1 hmb.symm).trans HB1.out.box;have y5:=aA hbx2 5 _ rfl;have hrow2:aG B 100 2 sT w2 (.slice Av kvs.length cv) kvs:=HB1.out.row.keep fun i hi=>hblk i (HB1.out.row.tb hi).2.lt fun e=>cE HMI.out _ (e▸(HB1.out.row.tb hi).2);have hB2:B≤w2.heap.size:=by rw [hs2];show B≤w1.heap.size;omega
  obtain ⟨v',w3,hrun,hrow3,hc3,hown3⟩:=aG.pushC 83 Tryz.underlying83 BT rfl (by decide) sT.one 83 (us:=[.slice A k.length c,.slice none 0 0]) (x:=.slice A k.length c) rfl ⟨⟨_,_,_,rfl⟩,rfl⟩ hrow2 (by have:=HLEN.out;omega) (by have:=HLEN.out;unfold maxLen;omega) hB2;have hbx3:=(hc3.same b (gL hbx2).1 fun e=>(hrow2.tb e).2.ne ⟨_,hbx2⟩ (by decide) rfl).trans hbx2;obtain ⟨A3,c3,rfl,_⟩:=hrow3.shape;have hl3:(kvs++[Value.slice A k.length c]).length=L+1:=by rw [gI,← HLK.out];rfl
  rw [hl3] at hrow3 hrun;have HR3:=Ha hrow3;have f5:w3.frozen? ⟨b,5,none⟩=false:=by simp [World.frozen?,hbx3]
  have y53:=aA hbx3 5 _ rfl;have hbx4:=aO hbx3 5 (.slice A3 (L+1) c3);have y54:(w3.setCell ⟨b,5,none⟩ (.slice A3 (L+1) c3)).cell? ⟨b,5,none⟩=some (.slice A3 (L+1) c3):=World.cell?_setCell_same _ _ _ y53;have HP:=Ha (show Bst B b ma mt A0 c0 A1 c1 A2 c2 g vb (w3.setCell ⟨b,5,none⟩ (.slice A3 (L+1) c3)) (.slice A3 (L+1) c3) (kvs++[.slice A k.length c]) (ks++[k]) from by
   refine ⟨hbx4, ?_, ?_,by rw [hl3,HL.out];simp, ?_,HB1.out.hb,HB1.out.hma⟩
   ·refine ⟨_,_,(hm2.keepH ((gU _ _ _ _ hmb).trans (hc3.same ma ?_ fun e=>?_))), ?_,fun k' hk'=>?_⟩
    ·exact hm2.lt
    ·exact cE hm2 _ (hrow2.tb e).2
    ·rw [gI];split <;> simp <;> omega
    ·unfold upd;by_cases e:fK k'=fK k
     ·have:=rX hk' HS.out e;subst this;rw [if_pos rfl,if_pos (by simp),uY HIN.out,HL.out]
     ·rw [if_neg e,HF.out k' hk'];have hne:k'≠k:=fun h=>e (by rw [h]);by_cases h2:k'∈ks
      ·rw [if_pos h2,if_pos (by simp [h2]),EX h2]
      ·rw [if_neg h2,if_neg (by simp [h2,hne])]
   ·have:=HR3.out.keep (w':=w3.setCell ⟨b,5,none⟩ (.slice A3 (L+1) c3)) fun i hi=>gU _ _ _ _ (fun e=>(HR3.out.tb hi).2.ne ⟨_,hbx3⟩ (by decide) e);exact this
   ·intro k' hk' x hx;rcases yC hk' with h2 | h2
    ·exact HB1.out.small k' h2 x hx
    ·rw [gV] at h2;subst h2;exact HS.out x hx)
  have HCC:=Ha (show Cs B mt w (w3.setCell ⟨b,5,none⟩ (.slice A3 (L+1) c3)) from by
   refine HC1.out.trans ?_;have hb0:Ps B mt w1 b:=⟨HB1.out.hb,fun h=>h.ne (T':=171) ⟨_,HB1.out.box⟩ (by decide) rfl,fun h=>h.ne (T':=171) ⟨_,HB1.out.box⟩ (by decide) rfl,HMM.out.2⟩;have hma0:Ps B mt w1 ma:=⟨HB1.out.hma,cE HMI.out _,cE HMI.out _,HMM.out.1⟩;have h1:Chg (Ps B mt w1) w1 w2:=(Chg.refl _ w1).drew.grown hg2 fun k e _=>by injection e with e;subst e;exact hma0
   have h2:Chg (Ps B mt w1) w1 w3:=h1.trans2 hc3 fun i hi e=>by
    obtain ⟨h3,h4⟩:=hrow2.tb e;have h5:∀ T,T≠100→¬TB T w1 i:=fun T hT h6=>by
     have hima:i≠ma:=fun e=>cE HMI.out _ (e▸h6);exact (h6.of_eq (hblk i hi hima)).ne h4 hT rfl
    refine ⟨h3,h5 _ (by decide),h5 _ (by decide),fun e2=>?_⟩;subst e2;obtain ⟨es,cc,hm⟩:=HMT1.out;obtain ⟨cs,hcs⟩:=h4;rw [hblk _ hi HMM.out.1.symm,hm] at hcs;cases hcs
   exact h2.setCell (p:=⟨b,5,none⟩) (fun _=>hb0) _)
  have HLX:=Ha (uY (l:=ks) HIN.out);have hL1:(((L+1:Nat)):Int)=(L:Int)+1:=by omega
  have hLb:L≤1000000:=by have:=HL.out;omega
  clear hbx4 hbx3 hbx2 hrow3 hrow2 hc3 hg2 hm2 hB2 hs2 hown3 hd1 hblk hmb hL hl3 hin hlk;go_wp2_with fail;refine aE.start 10 (fun X=>X.cell? ⟨b,6,none⟩=some (.map (some ma))∧X.cell? ⟨b,5,none⟩=some (.slice Av L cv)) (by kernel_rfl) ?hs_1 (fun hHeld=>?hr_1)
  case hs_1=>exact ⟨z6,z5⟩
  refine aE.tks [0,1,2,3,4,5,6,7,8,9] ?_ (by kernel_rfl) (by assumption)
  iterate 10
   refine aK.cons ?_ (by rfl) (by rfl) (by intro w h;(try dsimp only at h);simp only [gA,gB,gC];go_simp;try with_reducible rfl) (by exact fun _ _ _ h=>h);simp only [gA,gB,gC,Act.put,gD,gE,gF]
  show aE _ _ _ _ _ _ _ _ _ _;refine aE.last (by kernel_rfl) rfl fun K hK=>?_;simp only [gA,gB,gC]
  go_simp
  refine hK.out _ _ (aE.done (by kernel_rfl) ?_ _);go_wp2_with fail;go_ret;refine ⟨⟨_,_,ks++[k], ?_,HP.out,.inr ⟨HIN.out,rfl,rfl⟩⟩,HCC.out⟩;rw [HLX.out,HL.out];rfl
end
section
attribute [local go_sem ↓] aI
def Qr (B:Nat) (w:World) (v:Value) (xs:List Int):Prop:=
 ∃ g o cap cur,v=.slice (some ⟨g,o,none⟩) xs.length cap∧B≤g∧w.heap[g]? = some (.cells cur 3 (0,0))∧xs.length≤cap∧cap≤maxLen∧o+cap≤cur.size∧∀ i (h:i<xs.length),cur[o+i]? = some (.int .i64 xs[i])
def isQ (v:Value) (k:Nat):Prop:=∃ o n c,v=.slice (some ⟨k,o,none⟩) n c
section
variable {B:Nat} {w w':World} {v:Value} {xs:List Int}
theorem Qr.shape (h:Qr B w v xs):∃ g o cap,v=.slice (some ⟨g,o,none⟩) xs.length cap∧xs.length≤cap:=by
 obtain ⟨g,o,cap,cur,rfl,_,_,h1,_⟩:=h;exact ⟨g,o,cap,rfl,h1⟩
theorem Qr.tb (h:Qr B w v xs) {k:Nat} (hk:isQ v k):B≤k∧TB 3 w k:=by
 obtain ⟨g,o,cap,cur,rfl,h1,h2,_⟩:=h;obtain ⟨o',n,c,e⟩:=hk
 injection e with e1 _ _
 injection e1 with e1
 injection e1 with e1 _
 subst e1;exact ⟨h1,cur,h2⟩
theorem Qr.keep (h:Qr B w v xs) (hk:∀ k,isQ v k→w'.heap[k]? = w.heap[k]?):Qr B w' v xs:=by
 obtain ⟨g,o,cap,cur,rfl,h1,h2,h3⟩:=h;exact ⟨g,o,cap,cur,rfl,h1,(hk g ⟨_,_,_,rfl⟩).trans h2,h3⟩
theorem Qr.below (h:Qr B w v xs) (hb:Below w.heap.size w w'):Qr B w' v xs:=h.keep fun _ hk=>hb.block _ (h.tb hk).2.lt
theorem Qr.one (x:Int) (hB:B≤w.heap.size):Qr B (w.alloc (.cells #[.int .i64 x] 3)) (.slice (some ⟨w.heap.size,0,none⟩) 1 1) [x]:=
 ⟨_,0,1,_,rfl,hB,aC _ _,gO _,by unfold maxLen;omega,by simp,fun i hi=>by
  obtain rfl:i=0:=by simpa using hi
  rfl⟩
theorem Qr.cell {g o n c:Nat} (h:Qr B w (.slice (some ⟨g,o,none⟩) n c) xs) {i:Nat} (hi:i<xs.length):w.cell? ⟨g,o+i,none⟩=some (.int .i64 xs[i]):=by
 obtain ⟨g',o',cap,cur,e,_,h2,_,_,_,h3⟩:=h
 injection e with e1 _ _
 injection e1 with e1
 injection e1 with e1 e2
 subst e1 e2;simp only [World.cell?,h2]
 simpa using h3 i hi
theorem Qr.tail {g o n c:Nat} {x:Int} (h:Qr B w (.slice (some ⟨g,o,none⟩) n c) (x::xs)):Qr B w (.slice (if c=1 then some ⟨g,o,none⟩ else some ⟨g,o+1,none⟩) (n-1) (c-1)) xs:=by
 obtain ⟨g',o',cap,cur,e,h1,h2,h3,h4,h5,h6⟩:=h
 injection e with e1 e2 e3
 injection e1 with e1
 injection e1 with e1 e4
 subst e1 e4 e2 e3;rw [gG] at h3;have hc:∀ i (h:i<xs.length),cur[o+1+i]? = some (.int .i64 xs[i]):=fun i hi=>by
  have:=h6 (i+1) (by simpa using hi);rw [show o+(i+1)=o+1+i by omega] at this
  simpa using this
 by_cases e:c=1
 ·rw [if_pos e];have hx:xs=[]:=yM (by omega);subst hx;exact ⟨g,o,c-1,cur,rfl,h1,h2,by simp,by omega,by omega,fun i hi=>absurd hi (yJ i)⟩
 ·rw [if_neg e];exact ⟨g,o+1,c-1,cur,rfl,h1,h2,by omega,by omega,by omega,hc⟩
theorem Qr.push (x:Int) (h:Qr B w v xs) (hl:xs.length+1≤1099511627776) (hB:B≤w.heap.size):∃ v' w',WrA Tryz.prog #[26,26] 26 #[v,.slice (some ⟨w.heap.size,0,none⟩) 1 1] (w.alloc (.cells #[.int .i64 x] 3))=.ok v' w'∧Qr B w' v' (xs++[x])∧Chg (isQ v) w w'∧∀ k,isQ v' k→isQ v k∨w.heap.size≤k:=by
 obtain ⟨i0,hi0,hz0,hz1,hz2⟩:=info_parts cB;have hb:Below w.heap.size w (w.alloc (.cells #[.int .i64 x] 3)):=(gR _ _).alloc (gO _) _;have q:=aC w (.cells #[.int .i64 x] 3);have hs1:(w.alloc (.cells #[.int .i64 x] 3)).heap.size=w.heap.size+1:=by simp
 have h1:=h.below hb;generalize hw1:w.alloc (.cells #[.int .i64 x] 3)=w1 at *;obtain ⟨g,o,cap,cur,rfl,hg,hh,hc,hm,hcs,hcell⟩:=h1;have hgl:g<w.heap.size:=(h.tb ⟨o,xs.length,cap,rfl⟩).2.lt;have hsrc:Src Tryz.prog i0.size 26 (.slice (some ⟨w.heap.size,0,none⟩) 1 1) 1 [.int .i64 x] w1:=by
  rw [hz1];exact Src.ofSlice w1 Tryz.underlying26 ⟨w.heap.size,0,none⟩ 1 1 [.int .i64 x] (by simp) (fun j u hj=>by
   have e:(⟨w.heap.size,0,none⟩:Addr).add j=⟨w.heap.size,j,none⟩:=by unfold Addr.add;split <;> simp_all
   rw [e];exact aA q j u (by simpa using hj)) (fun u hu=>by simp at hu;subst hu;rfl)
 have hl':(xs++[x]).length=xs.length+1:=by simp
 by_cases hroom:xs.length+1≤cap
 ·have hex:o+xs.length<cur.size:=by omega
  have hcx:w1.cell? ⟨g,o+xs.length,none⟩=some cur[o+xs.length]:=by simp [World.cell?,hh,hex]
  have hrun:=run_append_room_src (P:=Tryz.prog) (w:=w1) 26 26 26 3 i0 Tryz.underlying26 hi0 g o xs.length cap (.slice (some ⟨w.heap.size,0,none⟩) 1 1) 1 [.int .i64 x] hsrc hroom
   (fun j hj=>by
    obtain rfl:j=0:=by simpa using hj
    rw [hz1,Nat.mul_one,Nat.add_zero,hcx];rfl) (fun j hj=>by simp [World.frozen?,hh])
  rw [hz1,Nat.mul_one] at hrun;have hsc:w1.setCells g (o+xs.length) [.int .i64 x]=w1.setCell ⟨g,o+xs.length,none⟩ (.int .i64 x):=rfl;rw [hsc] at hrun;refine ⟨_,_,WrA.of hrun,⟨g,o,cap,cur.setIfInBounds (o+xs.length) (.int .i64 x),by rw [hl'],hg,aO hh _ _,by rw [hl'];exact hroom,hm,by simpa using hcs,fun i hi=>?_⟩,(Chg.of hb).setCell (p:=⟨g,o+xs.length,none⟩) (fun _=>⟨o,xs.length,cap,rfl⟩) _,fun k hk=>?_⟩
  ·rw [hl'] at hi;by_cases e:i=xs.length
   ·subst e;simp [hex]
   ·have hi2:i<xs.length:=by omega
    rw [Array.getElem?_setIfInBounds_ne (by omega),hcell i hi2,List.getElem_append_left hi2]
  ·obtain ⟨o',n',c',e⟩:=hk
   injection e with e1 _ _
   injection e1 with e1
   injection e1 with e1 _
   subst e1;exact .inl ⟨o,xs.length,cap,rfl⟩
 ·have hold:(Builtin.firstCells i0.size xs.length (.slice (some ⟨g,o,none⟩) xs.length cap)).run Tryz.prog w1.drew=.ok (xs.map (Value.int .i64)).toArray w1.drew:=by
   have hl:=run_loadCells_list (P:=Tryz.prog) w1.drew ⟨g,o,none⟩ (xs.map (Value.int .i64)) (fun j u hj=>by
    have e:(⟨g,o,none⟩:Addr).add j=⟨g,o+j,none⟩:=by unfold Addr.add;split <;> simp_all
    rw [e];have hj2:=(gY hj);obtain ⟨hj3,hj4⟩:=hj2;have hj5:j<xs.length:=by simpa using hj3
    have hh2:w1.drew.heap[g]? = some (.cells cur 3 (0,0)):=hh;simp only [World.cell?,hh2];have:=hcell j hj5;simp only [List.getElem_map] at hj4;rw [← hj4]
    simpa using this)
   rw [List.length_map] at hl;rw [hz1];simp [Builtin.firstCells,hl]
  have hrun:=run_append_grow_src (P:=Tryz.prog) (w:=w1) 26 26 26 3 i0 (.int .i64 0) Tryz.underlying26 hi0 hz0 (some ⟨g,o,none⟩) xs.length cap (xs.map (Value.int .i64)) hold (.slice (some ⟨w.heap.size,0,none⟩) 1 1) 1 [.int .i64 x] hsrc (by omega) (by omega) (growslice_fits (by omega) (by rw [hz2];omega));have hgc:=grownCap_ge w1 (xs.length+1) cap 3;have hgm:=grownCap_le_maxLen w1 (xs.length+1) cap 3 (by unfold maxLen;omega);refine ⟨_,_,WrA.of hrun,⟨w1.heap.size,0,_,_,by rw [hl'],by rw [hs1];omega,aC w1.drew _,by rw [hl'];exact hgc,hgm, ?_,fun i hi=>?_⟩,(Chg.of hb).drew.alloc _,fun k hk=>?_⟩
  ·simp only [Array.size_append,List.size_toArray,gI,List.length_map,gG,gH,size_zeroCells];simp [Value.cells];omega
  ·rw [Nat.zero_add,Array.getElem?_append_left (by simp;rw [hl'] at hi;omega),List.getElem?_toArray];rw [show xs.map (Value.int .i64)++[Value.int .i64 x]=(xs++[x]).map (Value.int .i64) by simp,List.getElem?_map,List.getElem?_eq_getElem hi];rfl
  ·obtain ⟨o',n',c',e⟩:=hk
   injection e with e1 _ _
   injection e1 with e1
   injection e1 with e1 _
   exact .inr (by rw [← e1,hs1];omega)
end
end
namespace Gm
inductive Lc (g:Gm) (s:Int):Int→Prop
 | refl:Lc g s s
 | step {k:Nat} (h:k<g.rules.length):Lc g s g.rules[k].1→g.N (g.nxt ((k:Int),0))→Lc g s (g.nxt ((k:Int),0))
def LcI (g:Gm) (s:Int) (y:Itm):Prop:=∃ k:Nat,∃ h:k<g.rules.length,y=((k:Int),0)∧g.Lc s g.rules[k].1
theorem clo_iff {g:Gm} (hk:g.Known) {l:List Itm} {x:Itm}:g.Clo (· ∈ l) x↔x∈l∨∃ z∈l,g.N (g.nxt z)∧g.LcI (g.nxt z) x:=by
 constructor
 ·intro h
  induction h with
  | base h=>exact .inl h
  | @step x k hlt _ hn ih=>
   have hN:g.N (g.nxt x):=hn▸hk.left _ (gN hlt);rcases ih with ih | ⟨z,hz,hzN,k',hk',rfl,hlc⟩
   ·exact .inr ⟨x,ih,hN,k,hlt,rfl,by rw [hn];exact .refl⟩
   ·exact .inr ⟨z,hz,hzN,k,hlt,rfl,by rw [hn];exact .step hk' hlc hN⟩
 ·rintro (h | ⟨z,hz,_,k,hlt,rfl,hlc⟩)
  ·exact .base h
  ·have key:∀ t,g.Lc (g.nxt z) t→∀ (k:Nat) (h:k<g.rules.length),g.rules[k].1=t→g.Clo (· ∈ l) ((k:Int),0):=by
    intro t ht
    induction ht with
    | refl=>intro k h e;exact .step h (.base hz) e
    | step h' _ _ ih=>intro k h e;exact .step h (ih _ h' rfl) e
   exact key _ hlc k hlt rfl
theorem Lc.non {g:Gm} {s t:Int} (hs:g.N s) (h:g.Lc s t):g.N t:=by
 cases h with
 | refl=>exact hs
 | step _ _ h=>exact h
end Gm
structure Bq (g:Gm) (s:Int) (Q:List Int) (p:Nat):Prop where
 nd:Q.Nodup
 hd:s∈Q
 snd:∀ q∈Q,g.N q∧g.Lc s q
 cl:∀ (k:Nat) (h:k<g.rules.length),g.rules[k].1∈Q.take p→g.N (g.nxt ((k:Int),0))→g.nxt ((k:Int),0)∈Q
 pl:p≤Q.length
structure Bi (g:Gm) (s:Int) (Q:List Int) (p:Nat) (l:List Itm) (j:Nat):Prop extends Bq g s Q p where
 it:∀ (i:Nat) (h:i<l.length),i<j→g.N (g.nxt l[i])→g.nxt l[i]∈Q
def allOf (g:Gm) (Q:List Int) (p:Nat):List Itm:=(Q.take p).flatMap fun q=>bY (ofR q g.rules 0)
theorem Bq.start {g:Gm} {s:Int} (hs:g.N s):Bq g s [s] 0:=⟨by simp,by simp,fun q hq=>by rw [gV] at hq;subst hq;exact ⟨hs,.refl⟩,fun k h hm=>by simp at hm,by simp⟩
theorem Bq.len {g:Gm} {s:Int} {Q:List Int} {p:Nat} (h:Bq g s Q p):Q.length≤g.top+1:=by
 have:=eO (m:=(List.range (g.top+1)).map fun (i:Nat)=>(i:Int)) h.nd fun q hq=>by
  have h1:=(h.snd q hq).1;unfold Gm.N at h1;exact List.mem_map.2 ⟨q.toNat,List.mem_range.2 (by omega),by omega⟩
 simpa using this
theorem Bi.start {g:Gm} {s:Int} {Q:List Int} {p:Nat} (h:Bq g s Q p) (l:List Itm):Bi g s Q p l 0:=⟨h,fun _ _ h=>absurd h (yJ _)⟩
theorem Bi.old {g:Gm} {s:Int} {Q:List Int} {p:Nat} {l:List Itm} {j:Nat} (h:Bi g s Q p l j) (hj:j<l.length) (hq:g.N (g.nxt l[j])→g.nxt l[j]∈Q):Bi g s Q p l (j+1):=
 ⟨h.toBq,fun i hi hij hn=>by
  by_cases e:i=j
  ·subst e;exact hq hn
  ·exact h.it i hi (by omega) hn⟩
theorem Bi.new {g:Gm} {s:Int} {Q:List Int} {p:Nat} {q:Int} {j:Nat} (hp:p<Q.length) (hqe:Q[p]=q) (h:Bi g s Q p (bY (ofR q g.rules 0)) j) (hj:j<(bY (ofR q g.rules 0)).length) (hn:g.N (g.nxt (bY (ofR q g.rules 0))[j])) (hq:g.nxt (bY (ofR q g.rules 0))[j] ∉ Q):
  Bi g s (Q++[g.nxt (bY (ofR q g.rules 0))[j]]) p (bY (ofR q g.rules 0)) (j+1):=by
 refine ⟨⟨?_,List.mem_append_left _ h.hd,fun x hx=>?_,fun k hk hm hN=>?_,by rw [gI];have:=h.pl;omega⟩,fun i hi hij hN=>?_⟩
 ·rw [List.nodup_append];refine ⟨h.nd,by simp,fun a ha b hb=>?_⟩;rw [gV] at hb;subst hb;exact fun e=>hq (e▸ha)
 ·rcases yC hx with hx | hx
  ·exact h.snd x hx
  ·rw [gV] at hx;subst hx;refine ⟨hn, ?_⟩;have hz:(bY (ofR q g.rules 0))[j]∈bY (ofR q g.rules 0):=gN hj;unfold bY at hz;obtain ⟨x,hx,e⟩:=List.mem_map.1 hz;obtain ⟨i,rfl,hi,hr⟩:=fW q g.rules 0 x hx;have e':(bY (ofR q g.rules 0))[j]=(((0+i:Nat):Int),0):=e.symm;rw [e'] at hn ⊢;rw [Nat.zero_add] at hn ⊢;refine .step hi ?_ hn;rw [hr,← hqe];exact (h.snd _ (gN hp)).2
 ·rw [List.take_append_of_le_length h.pl] at hm;exact List.mem_append_left _ (h.cl k hk hm hN)
 ·by_cases e:i=j
  ·subst e;simp
  ·exact List.mem_append_left _ (h.it i hi (by omega) hN)
theorem Bi.done {g:Gm} {s:Int} {Q:List Int} {p:Nat} (hp:p<Q.length) (h:Bi g s Q p (bY (ofR Q[p] g.rules 0)) (bY (ofR Q[p] g.rules 0)).length):Bq g s Q (p+1):=by
 refine ⟨h.nd,h.hd,h.snd,fun k hk hm hN=>?_,hp⟩;rw [List.take_succ_eq_append_getElem hp,List.mem_append,gV] at hm;rcases hm with hm | hm
 ·exact h.cl k hk hm hN
 ·have h1:=p3 Q[p] g.rules 0 k hk hm;have h2:((k:Int),(0:Int))∈bY (ofR Q[p] g.rules 0):=List.mem_map.2 ⟨_,h1,by simp⟩;obtain ⟨i,hi,e⟩:=List.mem_iff_getElem.1 h2;have:=h.it i hi hi;rw [e] at this;exact this hN
theorem Bq.all {g:Gm} {s:Int} {Q:List Int} (h:Bq g s Q Q.length) (y:Itm):y∈allOf g Q Q.length↔g.LcI s y:=by
 unfold allOf;rw [List.take_length,List.mem_flatMap];constructor
 ·rintro ⟨q,hq,hy⟩;unfold bY at hy;obtain ⟨x,hx,rfl⟩:=List.mem_map.1 hy;obtain ⟨i,rfl,hi,hr⟩:=fW q g.rules 0 x hx;exact ⟨i,hi,by rw [Nat.zero_add],by rw [hr];exact (h.snd q hq).2⟩
 ·rintro ⟨k,hk,rfl,hlc⟩;have key:∀ t,g.Lc s t→t∈Q:=by
   intro t ht
   induction ht with
   | refl=>exact h.hd
   | step h' _ hN ih=>exact h.cl _ h' (by rw [List.take_length];exact ih) hN
  refine ⟨_,key _ hlc, ?_⟩;have h1:=p3 g.rules[k].1 g.rules 0 k hk rfl;exact List.mem_map.2 ⟨_,h1,by simp⟩
theorem lF (g:Gm) (Q:List Int) {p:Nat} (hp:p<Q.length):allOf g Q (p+1)=allOf g Q p++bY (ofR Q[p] g.rules 0):=by
 unfold allOf;rw [List.take_succ_eq_append_getElem hp,List.flatMap_append];simp
theorem wG (g:Gm) (Q R:List Int) {p:Nat} (hp:p≤Q.length):allOf g (Q++R) p=allOf g Q p:=by
 unfold allOf;rw [List.take_append_of_le_length hp]
theorem nN (g:Gm) (Q:List Int):∀ p,(allOf g Q p).length≤p*g.rules.length
 | 0=>by simp [allOf]
 | p+1=>by
  have h1:=nN g Q p;by_cases hp:p<Q.length
  ·rw [lF g Q hp,gI,Nat.add_mul];have:=eY Q[p] g.rules 0;unfold bY;rw [List.length_map];omega
  ·unfold allOf at h1 ⊢;rw [List.take_of_length_le (by omega)] at h1 ⊢;rw [Nat.add_mul];omega
theorem D5 {q:Int} {g:Gm} {j:Nat} (hj:j<(bY (ofR q g.rules 0)).length):∃ k:Nat,k<g.rules.length∧(bY (ofR q g.rules 0))[j]=((k:Int),0):=by
 have hz:(bY (ofR q g.rules 0))[j]∈bY (ofR q g.rules 0):=gN hj;unfold bY at hz;obtain ⟨x,hx,e⟩:=List.mem_map.1 hz;obtain ⟨i,rfl,hi,_⟩:=fW q g.rules 0 x hx;rw [Nat.zero_add] at e;exact ⟨i,hi,e.symm⟩
section
attribute [local go_sem ↓] aI
theorem Its.addC {B:Nat} {G:Nat→Prop} {w:World} {v v2:Value} {xs ys:List Itm} (h:Its B w v xs) (hx:aR G w v2 ys) (hl:xs.length+ys.length≤1099511627776) (hB:B≤w.heap.size):∃ v' w',WrA Tryz.prog #[97,97] 97 #[v,v2] w=.ok v' w'∧Its B w' v' (xs++ys)∧Chg (fun k=>v.ownBlock=some k) w w'∧(v'.ownBlock=v.ownBlock∨v'.ownBlock=some w.heap.size):=
 aG.addC 97 Tryz.underlying97 jC rfl (by decide) ItV.one _ h hx (by omega) (by unfold maxLen;omega) hB
theorem oA:(Tryz.prog.info? 97).map (fun i=>(i.zero,i.size,i.bytes))=some (some (.slice none 0 0),1,24):=by kernel_rfl
section
variable {G:Nat→Prop} {w w':World} {b:Nat} {A0 A1 A2:Option Addr} {c0 c1 c2:Nat} {g:Gm}
theorem GBox.again (h:GBox G w b A0 c0 A1 c1 A2 c2 g) (hs:w.heap.size≤w'.heap.size) (hc:∀ i,i<4→w'.cell? ⟨b,i,none⟩=w.cell? ⟨b,i,none⟩) (hk:∀ k,G k→w'.heap[k]? = w.heap[k]?):GBox G w' b A0 c0 A1 c1 A2 c2 g:=
 have hg:∀ p:Addr,G p.block→w'.cell? p=w.cell? p:=fun _ hp=>gM (hk _ hp)
 ⟨fun k hk=>gK (h.old k hk) hs,gK h.lt hs,(hc 0 (by decide)).trans h.x0,(hc 1 (by decide)).trans h.x1,(hc 2 (by decide)).trans h.x2,(hc 3 (by decide)).trans h.x3,h.ht.keep (fun _ h=>h) hg,h.hn.keep (fun _ h=>h) hg,h.hr.keep (fun _ h=>h) hg⟩
end
theorem MG.not_tb {κ β:Type} {kT eT:TypeId} {kl:κ→Lit} {el:β→Lit} {z0:β} {w:World} {b n:Nat} {f:κ→Option β} (h:MG kT eT kl el z0 w b f n) (T:TypeId):¬TB T w b:=by
 obtain ⟨es,c,hb⟩:=h.isMap;rintro ⟨cs,hc⟩;rw [hb] at hc;cases hc
theorem cC {w:World} {b i:Nat} {cs:Array Value} {T:TypeId} {fz:Nat×Nat} {v:Value} (h:w.heap[b]? = some (.cells cs T fz)) (hv:cs[i]? = some v):w.setCell ⟨b,i,none⟩ v=w:=by
 have hlt:b<w.heap.size:=(gL h).1;have hb:=(gL h).2;obtain ⟨hi,hvi⟩:=gL hv;unfold World.setCell;cases w with
 | mk heap tape drawn os output=>
  congr 1
  apply Array.ext
  ·simp
  ·intro k h1 h2;simp only [Array.getElem_modify]
   split
   ·rename_i hk;subst hk;simp at hb;have e:cs.setIfInBounds i v=cs:=by
     apply Array.ext
     ·simp
     ·intro j _ _;rw [Array.getElem_setIfInBounds]
      split
      ·rename_i hj;subst hj;exact hvi.symm
      ·rfl
    simp [hb,e]
   ·rfl
structure Pr (G:Nat→Prop) (b rb m:Nat) (A0:Option Addr) (c0:Nat) (A1:Option Addr) (c1:Nat) (A2:Option Addr) (c2:Nat) (g:Gm) (v6 v7 v8:Value) (w0 wr:World) (F:Nat→Value) (s:Nat):Prop where
 box:wr.heap[b]? = some (.cells #[.slice A0 g.terms.length c0,.slice A1 g.nons.length c1,.slice A2 g.rules.length c2,.int .i64 g.start,.slice (some ⟨rb,0,none⟩) m m,v6,v7,v8] 171 (0,0))
 row:wr.rowIs rb 97 m F
 its:∀ i:Nat,g.terms.length<i→i<s→∃ n c l,F i=.slice n (l:List Itm).length c∧l.length≤100000∧aR (TB 250 wr) wr (F i) l∧∀ y,y∈l↔g.LcI (i:Int) y
 gb:GBox G wr b A0 c0 A1 c1 A2 c2 g
 chg:Chg (· = b) w0 wr
 le:w0.heap.size≤rb
section
variable {G:Nat→Prop} {b rb m:Nat} {A0 A1 A2:Option Addr} {c0 c1 c2:Nat} {g:Gm} {v6 v7 v8:Value} {w0 wr w':World} {F:Nat→Value} {s:Nat}
theorem Pr.below (h:Pr G b rb m A0 c0 A1 c1 A2 c2 g v6 v7 v8 w0 wr F s) (hb:Below wr.heap.size wr w'):Pr G b rb m A0 c0 A1 c1 A2 c2 g v6 v7 v8 w0 w' F s:=
 ⟨(hb.block _ (gL h.box).1).trans h.box,bK h.row hb,fun i h1 h2=>by
  obtain ⟨n,c,l,e,h0,h3,h4⟩:=h.its i h1 h2;exact ⟨n,c,l,e,h0,aH.keepT h3 fun k hk=>hb.block _ hk.lt,h4⟩,h.gb.on hb,h.chg.trans2 (Chg.of (P:=fun _=>False) hb) fun _ _ h=>h.elim,h.le⟩
theorem Pr.put (h:Pr G b rb m A0 c0 A1 c1 A2 c2 g v6 v7 v8 w0 wr F s) {n:Option Addr} {c:Nat} {l:List Itm} (hl:aR (TB 250 wr) wr (.slice n l.length c) l) (hle:l.length≤100000) (hm:∀ y,y∈l↔g.LcI (s:Int) y) (hG:∀ k,G k→k<w0.heap.size):
  Pr G b rb m A0 c0 A1 c1 A2 c2 g v6 v7 v8 w0 (wr.setCell ⟨rb,s,none⟩ (.slice n l.length c)) (fun i=>if i=s then .slice n l.length c else F i) (s+1):=by
 have hT:TB 97 wr rb:=by
  obtain ⟨cs,h1,_⟩:=h.row;exact ⟨cs,h1⟩
 have hne:∀ k,k≠rb→(wr.setCell ⟨rb,s,none⟩ (.slice n l.length c)).heap[k]? = wr.heap[k]? := fun k hk=>gU _ _ _ _ hk;have hi:∀ k,TB 250 wr k→(wr.setCell ⟨rb,s,none⟩ (.slice n l.length c)).heap[k]? = wr.heap[k]? := fun k hk=>hne k fun e=>hk.ne hT (by decide) e;have hb:=hne b fun e=>TB.ne (T:=171) ⟨_,h.box⟩ hT (by decide) e;refine ⟨hb.trans h.box,h.row.set _ _,fun i h1 h2=>?_,h.gb.again (by simp) (fun i _=>gM hb) (fun k hk=>hne k (by have:=hG k hk;have:=h.le;omega)),h.chg.setCell (p:=⟨rb,s,none⟩) (fun h2=>absurd h2 (by have:=h.le;simp only;omega)) _,h.le⟩;by_cases e:i=s
 ·subst e;simp only [if_pos];exact ⟨n,c,l,rfl,hle,aH.keepT hl hi,hm⟩
 ·obtain ⟨n',c',l',e1,h0,h3,h4⟩:=h.its i h1 (by omega);simp only [if_neg e];exact ⟨n',c',l',e1,h0,aH.keepT h3 hi,h4⟩
end
def zC (G:Nat→Prop) (b:Nat) (A0:Option Addr) (c0:Nat) (A1:Option Addr) (c1:Nat) (A2:Option Addr) (c2:Nat) (g:Gm) (v6 v7 v8:Value) (w:World) (e:Ending) (w':World):Prop:=
 e=.returned (.tuple #[])∧∃ rb F,Pr G b rb (g.top+1) A0 c0 A1 c1 A2 c2 g v6 v7 v8 w w' F (g.top+1)
def mkF (Q:List Int):Int→Option Bool:=fun q=>if q∈Q then some true else none
theorem IQ (G:Nat→Prop) (w:World) (b:Nat) (A0 c0 A1 c1 A2 c2) (g:Gm) (v5 v6 v7 v8:Value) (hbx:w.heap[b]? = some (.cells #[.slice A0 g.terms.length c0,.slice A1 g.nons.length c1,.slice A2 g.rules.length c2,.int .i64 g.start,v5,v6,v7,v8] 171 (0,0))) (hx:GBox G w b A0 c0 A1 c1 A2 c2 g) (hGb:∀ k,G k→k≠b) (hl:g.top≤240) (hr:g.rules.length≤300):
  Calls Tryz.prog 100 #[.pointer (some ⟨b,0,none⟩)] w fun e w'=>zC G b A0 c0 A1 c1 A2 c2 g v6 v7 v8 w e w':=by
 have H3:=jN G;have H4:=mF G;unfold ag at H3 H4;have HT:=Ha H3;have HNN:=Ha H4;have HX:=Ha hx;have HBX:=Ha hbx;have HGB:=Ha hGb;clear H3 H4 hx hGb;obtain ⟨x0,x1,x2,x3⟩:=HX.out.cells;go_enter Tryz.func100,Tryz.ntmps100;go_wp2_with fail;refine (HT.out _ _ g HX.out.old HX.out.gm (by omega)).mono ?_;rintro e w1 ⟨rfl,hb1⟩;obtain ⟨m,hm⟩:∃ m:Nat,m=g.top+1:=⟨_,rfl⟩;have hm1:IntKind.i64.wrap ((g.top:Int)+1)=(m:Int):=by rw [hm];exact IntWalk.i64_in _ (by omega)
 have hmk:=run_make_row' (P:=Tryz.prog) 169 97 (.slice none 0 0) 24 Tryz.underlying169 oA rfl .i64 .i64 m (by omega) (by omega) w1;have hrow:=World.rowIs_made w1 (.slice none 0 0) m 97;have hb2:Below w1.heap.size w1 (w1.alloc (.cells (madeCells #[.slice none 0 0] m) 97)):=(gR _ _).alloc (gO _) _;generalize hW2:w1.alloc (.cells (madeCells #[.slice none 0 0] m) 97)=w2 at *;have hb12:Below w.heap.size w w2:=hb1.trans (hb2.mono hb1.size);have hbx2:=(hb12.block b HX.out.lt).trans HBX.out;have f4:w2.frozen? ⟨b,4,none⟩=false:=by simp [World.frozen?,hbx2]
 have y4:=aA hbx2 4 _ rfl;have hbx3:=aO hbx2 4 (.slice (some ⟨w1.heap.size,0,none⟩) m m);have HMM:=Ha hm;have HP3:=Ha (show Pr G b w1.heap.size m A0 c0 A1 c1 A2 c2 g v6 v7 v8 w (w2.setCell ⟨b,4,none⟩ (.slice (some ⟨w1.heap.size,0,none⟩) m m)) (fun _=>.slice none 0 0) (g.terms.length+1) from by
  have hne:∀ k,k≠b→(w2.setCell ⟨b,4,none⟩ (.slice (some ⟨w1.heap.size,0,none⟩) m m)).heap[k]? = w2.heap[k]? := fun k hk=>gU _ _ _ _ hk;refine ⟨hbx3,hrow.of_block (hne _ fun e=>?_),fun i h1 h2=>by omega,(HX.out.on hb12).again (by simp) (fun i hi=>?_) (fun k hk=>hne k (HGB.out k hk)),(Chg.of hb12:Chg (· = b) w w2).setCell (p:=⟨b,4,none⟩) (fun _=>rfl) _,hb1.size⟩
  ·have:=HX.out.lt;have:=hb1.size;omega
  ·exact World.cell?_setCell_other _ _ _ _ (by intro e;injection e with _ e;omega))
 have hbx1:=(hb1.block b HX.out.lt).trans HBX.out;have u4:=aA hbx1 4 _ rfl;generalize hW3:w2.setCell ⟨b,4,none⟩ (.slice (some ⟨w1.heap.size,0,none⟩) m m)=w3 at *;have htl:g.terms.length≤g.top:=by unfold Gm.top;omega
 have HX1:=Ha (HX.out.on hb1);clear hbx3 hbx2 hrow hb2 hb12 hbx x0 x1 x2 x3 hb1 hm;obtain ⟨x0,x1,x2,x3⟩:=HP3.out.gb.cells;go_wp2_with fail;obtain ⟨rb,hrb⟩:∃ rb,rb=w1.heap.size:=⟨_,rfl⟩
 go_loopw [2] (fun iv wr=>∃ (s:Nat) (F:Nat→Value),g.terms.length+1≤s∧s≤m∧iv=.int .i64 s∧Pr G b w1.heap.size m A0 c0 A1 c1 A2 c2 g v6 v7 v8 w wr F s) (fun iv _=>m-(intOf iv).toNat)
 case atStart=>exact ⟨g.terms.length+1,fun _=>.slice none 0 0,gO _,by have:=HMM.out;omega,by go_num,HP3.out⟩
 case round=>
  obtain ⟨s,F,hs1,hsm,rfl,hp⟩:=hrel;have HP:=Ha hp;clear hp HP3;obtain ⟨x0,x1,x2,x3⟩:=HP.out.gb.cells;go_wp2_with fail;refine (HT.out _ _ g HP.out.gb.old HP.out.gb.gm (by omega)).mono ?_;rintro e wa ⟨rfl,hba⟩;have HPA:=Ha (HP.out.below hba);clear hba x0 x1 x2 x3;obtain ⟨x0,x1,x2,x3⟩:=HPA.out.gb.cells;by_cases hst:s≤g.top
  ·have hN:g.N (s:Int):=by unfold Gm.N;omega
   have hmm:=@run_makeMap Tryz.prog;have hmade:=MG.made (κ:=Int) (kT:=3) (eT:=4) (kl:=Lit.int .i64) (el:=Lit.bool) (z0:=false) wa;have hbm:Below wa.heap.size wa (wa.alloc (.map #[] 0)):=(gR _ _).alloc (gO _) _;have hsm2:(wa.alloc (.map #[] 0)).heap.size=wa.heap.size+1:=by simp
   generalize hWM:wa.alloc (.map #[] 0)=wm at *;obtain ⟨wi,hins,hmi,hci,hsi⟩:=MG.store sIB hmade (x:=(s:Int)) (v:=true) (by unfold inR;omega) trivial (by decide);have hbi:Below wa.heap.size wa wi:=hbm.trans (hci.below (fun k e=>by subst e;exact gO _) (by omega));have hq0:=Qr.one (B:=wa.heap.size) (w:=wi) (s:Int) hbi.size;have hbq:Below wi.heap.size wi (wi.alloc (.cells #[.int .i64 s] 3)):=(gR _ _).alloc (gO _) _;generalize hWQ:wi.alloc (.cells #[.int .i64 s] 3)=wq at *;rw [hsi] at hq0;have HQ0:=Ha hq0;have HM0:=Ha (show MG 3 4 (Lit.int .i64) Lit.bool false wq wa.heap.size (mkF [(s:Int)]) 1 from (hmi.below hbq).conv fun x=>by
    unfold eK mkF;by_cases e:x=(s:Int)
    ·rw [if_pos e,if_pos (by simp [e])]
    ·rw [if_neg e,if_neg (by simpa using e)])
   obtain ⟨HBQ0,HN,HSB⟩:=Zh3 (hbi.trans (hbq.mono hbi.size)) hN (show wi.heap.size=wa.heap.size+1 by omega);clear hmade hbm hmi hci hbi hq0 hbq hN hsm2;go_wp2_with fail;obtain ⟨B,hB⟩:∃ B,B=wa.heap.size:=⟨_,rfl⟩
   go_loopw [4,5] (fun tv av wr=>∃ (Q:List Int) (p:Nat),Bq g (s:Int) Q p∧Qr wa.heap.size wr tv (Q.drop p)∧Its wa.heap.size wr av (allOf g Q p)∧MG 3 4 (Lit.int .i64) Lit.bool false wr wa.heap.size (mkF Q) Q.length∧Below wa.heap.size wa wr) (fun tv _ wr=>g.top+1-(CI wr wa.heap.size-rY tv))
   case atStart=>exact ⟨[(s:Int)],0,Bq.start HN.out,HQ0.out,aG.nil _ _ _ _ _,HM0.out,HBQ0.out⟩
   case round=>
    obtain ⟨Q,p,hbq,hq,hal,hmm2,hbw⟩:=hrel;obtain ⟨HBQ,HQ,HAL,HMP,HBW,HPR⟩:=Zh6 hbq hq hal hmm2 hbw (HPA.out.below hbw);have hQl:=hbq.len;have hall:=nN g Q p;clear HQ0 HM0 HBQ0 hbq hq hal hmm2 hbw x0 x1 x2 x3;obtain ⟨x0,x1,x2,x3⟩:=HPR.out.gb.cells;by_cases hp:p<Q.length
    ·have hdr:Q.drop p=Q[p]::Q.drop (p+1):=List.drop_eq_getElem_cons hp;obtain ⟨q,hqe⟩:∃ q,q=Q[p]:=⟨_,rfl⟩;obtain ⟨R,hR⟩:∃ R,R=Q.drop (p+1):=⟨_,rfl⟩;have hq2:=HQ.out;rw [hdr,← hqe,← hR] at hq2;obtain ⟨gq,oq,cq,rfl,hcap⟩:=hq2.shape;rw [gG] at hq2 hcap;have z0:=hq2.cell (i:=0) (by simp);rw [Nat.add_zero,show (q::R)[0]=q from rfl] at z0;have htl:=hq2.tail;rw [Nat.add_sub_cancel] at htl;generalize hAe:(if cq=1 then some ⟨gq,oq,none⟩ else some ⟨gq,oq+1,none⟩:Option Addr)=A' at htl;have hRl:R.length≤1000:=by rw [hR,List.length_drop];omega
     obtain ⟨HTL,HQE,HR⟩:=Zh3 htl hqe hR;have hc0:(1:Int)≤(cq:Int):=by omega
     have hl1:(1:Int)≤(R.length:Int)+1:=by omega
     have hllc:(R.length:Int)+1≤(cq:Int):=by omega
     have hru:=zW G wr b A0 c0 A1 c1 A2 c2 g q HPR.out.gb (by omega);obtain ⟨Z,hZ⟩:∃ Z,Z=bY (ofR q g.rules 0):=⟨_,rfl⟩;rw [← hZ] at hru;have HRU:=Ha hru;have HMEAS:=Ha (show CI wr wa.heap.size=Q.length from HMP.out.count);have hzl:Z.length≤300:=by rw [hZ];unfold bY;rw [List.length_map];have:=eY q g.rules 0;omega
     have HZE:=Ha hZ;obtain ⟨Aa,ca,rfl⟩:=HAL.out.shape;rw [gG];clear hdr hq2 htl hqe hR hB hru hZ;go_wp2_with fail;refine (HRU.out).mono ?_;rintro e w8 ⟨⟨v6,rfl,hz⟩,hb8⟩;obtain ⟨A6,c6,rfl⟩:=hz.shape;have hal8:=HAL.out.below hb8;have hq8:=HTL.out.below hb8;have hm8:=HMP.out.below hb8;have hbw8:Below wa.heap.size wa w8:=HBW.out.trans (hb8.mono HBW.out.size);obtain ⟨v9,w9,hrun,hal9,hc9,_⟩:=hal8.addC hz.at_ (by have:=HBQ.out.pl;have:p*g.rules.length≤241*300:=Nat.mul_le_mul (by omega) hr;omega) hbw8.size;obtain ⟨ALL,hALL⟩:∃ ALL,ALL=allOf g Q p++Z:=⟨_,rfl⟩;rw [← hALL] at hal9;obtain ⟨A9,c9,rfl⟩:=hal9.shape;have HQ9:=Ha (hq8.keep fun k hk=>hc9.same k (hq8.tb hk).2.lt fun e=>(hq8.tb hk).2.ne (hal8.tb e).2 (by decide) rfl);have HM9:=Ha (hm8.keep (hc9.same _ hm8.lt fun e=>hm8.not_tb _ (hal8.tb e).2));have hz9:Its wr.heap.size w9 (.slice A6 Z.length c6) Z:=aG.keep hz fun k hk=>hc9.same k (aG.lt hz hk).2 fun e=>by
      have h1:=(aG.lt hz hk).1;have h2:=(aG.lt HAL.out e).2;omega
     obtain ⟨HZ9,HB9,HAL9,HALL,HQP⟩:=Zh5 (show aR (TB 250 w9) w9 (.slice A6 Z.length c6) Z from aG.look hz9 fun k hk=>(aG.tb hz9 hk).2) (hbw8.trans (hc9.below (fun k e=>(hal8.tb e).1) hbw8.size)) hal9 hALL (show Q[p]? = some q by rw [List.getElem?_eq_getElem hp,HQE.out]);clear hz hb8 hal8 hq8 hm8 hbw8 hal9 hc9 hALL hz9;go_wp2_with fail
     go_loopw [4,56] (fun tv iv wq=>∃ (j:Nat) (Q':List Int),j≤Z.length∧iv=.int .i64 j∧Bi g (s:Int) Q' p Z j∧Q'[p]? = some q∧allOf g Q' p=allOf g Q p∧Qr wa.heap.size wq tv (Q'.drop (p+1))∧MG 3 4 (Lit.int .i64) Lit.bool false wq wa.heap.size (mkF Q') Q'.length∧Its wa.heap.size wq (.slice A9 ALL.length c9) ALL∧aR (TB 250 wq) wq (.slice A6 Z.length c6) Z∧Below wa.heap.size wa wq) (fun _ iv _=>Z.length-(intOf iv).toNat)
     case atStart=>exact ⟨0,Q,by omega,rfl,Bi.start HBQ.out Z,HQP.out,rfl,by rw [← HR.out];exact HQ9.out,HM9.out,HAL9.out,HZ9.out,HB9.out⟩
     case round=>
      obtain ⟨j,Q',hj,rfl,hbi,hqp,haq,hq,hm,hal,hz,hbw⟩:=hrel;clear HQ9 HM9 HAL9 HZ9 HB9 HTL HMP HAL HPR x0 x1 x2 x3 z0;have HPR:=Ha (HPA.out.below hbw);have HBI:=Ha hbi;have HQP':=Ha hqp;have HAQ:=Ha haq;have HM:=Ha hm;have HAL:=Ha hal;have HZ:=Ha hz;have HBW':=Ha hbw;obtain ⟨R',hR'⟩:∃ R',R'=Q'.drop (p+1):=⟨_,rfl⟩;rw [← hR'] at hq;have hrl:R'.length≤1000:=by rw [hR',List.length_drop];have:=hbi.toBq.len;omega
      have hpl:p<Q'.length:=(gY hqp).1;have hQl':=hbi.toBq.len;have HQ:=Ha hq;have HR':=Ha hR';obtain ⟨gt,ot,ct,rfl,hct⟩:=hq.shape;clear hbi hqp haq hm hal hz hbw hq hR';obtain ⟨x0,x1,x2,x3⟩:=HPR.out.gb.cells;by_cases hlt:j<Z.length
      ·obtain ⟨bz,oz,rfl,_,z0,z1⟩:=aR.at_ HZ.out hlt;have hzk:∃ k:Nat,k<g.rules.length∧Z[j]=((k:Int),0):=by
        have h1:=HZE.out;subst h1;exact D5 hlt
       obtain ⟨k,hk,hze⟩:=hzk;rw [hze] at z0 z1;have HZK:=Ha hze;clear hze;have hb1:Below wr.heap.size wr (wr.alloc (.cells #[.int .i64 k,.int .i64 0] 250)):=(gR _ _).alloc (gO _) _;have q1:=aC wr (.cells #[.int .i64 k,.int .i64 0] 250);generalize hWI:wr.alloc (.cells #[.int .i64 k,.int .i64 0] 250)=wi2 at *;obtain ⟨r0,r1,_,_⟩:=aM q1 rfl;have hnx0:=o5 G wi2 b A0 c0 A1 c1 A2 c2 g k 0 (HPR.out.gb.on hb1) (by omega);have hws:wi2.setCell ⟨wr.heap.size,1,none⟩ (.int .i64 0)=wi2:=cC q1 rfl;obtain ⟨nn,hnn⟩:∃ nn,nn=g.nxt ((k:Int),0):=⟨_,rfl⟩;have hnx:g.nxt ((k:Int),0)=nn:=hnn.symm;rw [show (((0:Nat)):Int)=0 from rfl,hnx] at hnx0;obtain ⟨HNX,HNE,HB1⟩:=Zh3 hnx0 hnn hb1;clear hnn hnx hb1 q1 hnx0;go_wp2_with fail;refine (HNX.out).mono ?_;rintro e wn ⟨rfl,hbn⟩;have hbn2:Below wr.heap.size wr wn:=HB1.out.trans (hbn.mono HB1.out.size);have HPN:=Ha (HPR.out.below hbn2);have HBN:=Ha hbn2;clear x0 x1 x2 x3 r0 r1 z0 z1 hbn hbn2;obtain ⟨x0,x1,x2,x3⟩:=HPN.out.gb.cells;have HNO:=Ha (HNN.out wn _ g nn HPN.out.gb.old HPN.out.gb.gm (by omega));have HBI1:=Ha (fun (h:g.N nn→nn∈Q')=>HBI.out.old hlt (by rw [HZK.out,← HNE.out];exact h));by_cases hN:g.N nn
       case neg=>
        rw [yE hN] at HNO;go_wp2_with fail;refine (HNO.out).mono ?_;rintro e wo ⟨rfl,hbo⟩;have hbo2:Below wr.heap.size wr wo:=HBN.out.trans (hbo.mono HBN.out.size);have HF:=Ha (gS (HQ.out.below hbo2) (gS (HM.out.below hbo2) (gS (HAL.out.below hbo2) (gS (aH.keepT HZ.out fun k hk=>hbo2.block _ hk.lt) (HBW'.out.trans (hbo2.mono HBW'.out.size))))));have HBI2:=Ha (HBI1.out fun h=>absurd h hN);clear hbo hbo2 hN x0 x1 x2 x3;go_wp2_with fail
        go_roundw
        case rel=>exact ⟨j+1,Q',by omega,by go_num,HBI2.out,HQP'.out,HAQ.out,by rw [← HR'.out];exact HF.out.1,HF.out.2.1,HF.out.2.2.1,HF.out.2.2.2.1,HF.out.2.2.2.2⟩
        case measure=>simp only [intOf];omega
       case pos=>
        rw [yD hN] at HNO;have hnr:inR nn:=by unfold Gm.N at hN;unfold inR;omega
        have HN2:=Ha hN;clear hN;go_wp2_with fail;refine (HNO.out).mono ?_;rintro e wo ⟨rfl,hbo⟩;have hbo2:Below wr.heap.size wr wo:=HBN.out.trans (hbo.mono HBN.out.size);have HF:=Ha (gS (HQ.out.below hbo2) (gS (HM.out.below hbo2) (gS (HAL.out.below hbo2) (gS (aH.keepT HZ.out fun k hk=>hbo2.block _ hk.lt:aR (TB 250 wo) wo _ Z) (HBW'.out.trans (hbo2.mono HBW'.out.size))))));have hget:=MG.get sIB HF.out.2.1 hnr;clear hbo hbo2 x0 x1 x2 x3;by_cases hin:nn∈Q'
        ·rw [show (mkF Q' nn).getD false=true from by unfold mkF;rw [if_pos hin];rfl] at hget;have HBI2:=Ha (HBI1.out fun _=>hin);clear hin;go_wp2_with fail
         go_roundw
         case rel=>exact ⟨j+1,Q',by omega,by go_num,HBI2.out,HQP'.out,HAQ.out,by rw [← HR'.out];exact HF.out.1,HF.out.2.1,HF.out.2.2.1,HF.out.2.2.2.1,HF.out.2.2.2.2⟩
         case measure=>simp only [intOf];omega
        ·rw [show (mkF Q' nn).getD false=false from by unfold mkF;rw [if_neg hin];rfl] at hget;obtain ⟨w10,hst,hm10,hc10,hs10⟩:=MG.store sIB HF.out.2.1 (x:=nn) (v:=true) hnr trivial (by omega);have hq10:=HF.out.1.keep (w':=w10) fun k hk=>hc10.same k (HF.out.1.tb hk).2.lt fun e=>HF.out.2.1.not_tb _ (e▸(HF.out.1.tb hk).2);have hB10:Below wa.heap.size wa w10:=HF.out.2.2.2.2.trans (hc10.below (fun k e=>by subst e;exact gO _) HF.out.2.2.2.2.size);obtain ⟨v11,w11,hrun2,hq11,hc11,_⟩:=hq10.push nn (by omega) hB10.size;have hm10':MG 3 4 (Lit.int .i64) Lit.bool false w10 wa.heap.size (mkF (Q'++[nn])) (Q'.length+1):=by
          have h1:(mkF Q' nn).isSome=false:=by unfold mkF;rw [if_neg hin];rfl
          rw [h1] at hm10;refine hm10.conv fun x=>?_;unfold eK mkF;by_cases e:x=nn
          ·rw [if_pos e,if_pos (by simp [e])]
          ·rw [if_neg e];by_cases h2:x∈Q'
           ·rw [if_pos h2,if_pos (by simp [h2])]
           ·rw [if_neg h2,if_neg (by simp [h2,e])]
         have hm11:=hm10'.keep (hc11.same _ hm10'.lt fun e=>hm10'.not_tb _ (hq10.tb e).2);have hi10:∀ k,TB 250 wo k→w11.heap[k]? = wo.heap[k]? := fun k hk=>by
          have e1:=hc10.same k hk.lt fun e=>HF.out.2.1.not_tb _ (e▸hk);exact (hc11.same k (hk.of_eq e1).lt fun e=>(hk.of_eq e1).ne (hq10.tb e).2 (by decide) rfl).trans e1
         have HF2:=Ha (gS hq11 (gS hm11 (gS (aG.keep HF.out.2.2.1 fun k hk=>hi10 k (aG.tb HF.out.2.2.1 hk).2:Its wa.heap.size w11 _ ALL) (gS (aH.keepT HF.out.2.2.2.1 hi10:aR (TB 250 w11) w11 _ Z) (hB10.trans (hc11.below (fun k e=>(hq10.tb e).1) hB10.size))))));obtain ⟨g11,o11,c11,rfl,_⟩:=hq11.shape;have HBI2:=Ha (show Bi g (s:Int) (Q'++[nn]) p Z (j+1) from by
          have h1:=HZE.out;have h2:=HNE.out;have h3:=HZK.out;have h5:=HBI.out;have h6:=HN2.out;subst h1;rw [h2,← h3] at hin h6 ⊢;exact h5.new hpl (gY HQP'.out).2 hlt h6 hin)
         obtain ⟨HL1,HL2,HL3,HL4⟩:=Zh4 (show (Q'++[nn])[p]? = some q by rw [List.getElem?_append_left hpl];exact HQP'.out) (show allOf g (Q'++[nn]) p=allOf g Q p by rw [wG g Q' [nn] (by omega)];exact HAQ.out) (show (Q'++[nn]).drop (p+1)=R'++[nn] by rw [List.drop_append_of_le_length (by omega),HR'.out]) (show (Q'++[nn]).length=Q'.length+1 by simp);clear hq11 hm11 hi10 hc11 hm10' hm10 hc10 hs10 hq10 hB10 hin;go_wp2_with fail
         go_roundw
         case rel=>exact ⟨j+1,Q'++[nn],by omega,by go_num,HBI2.out,HL1.out,HL2.out,by rw [HL3.out];have h:=HF2.out.1;rw [gI] at h;exact h,by rw [HL4.out];exact HF2.out.2.1,HF2.out.2.2.1,HF2.out.2.2.2.1,HF2.out.2.2.2.2⟩
         case measure=>simp only [intOf];omega
      ·obtain rfl:j=Z.length:=by omega
       have HDN:=Ha (show Bq g (s:Int) Q' (p+1)∧allOf g Q' (p+1)=ALL from by
        have h1:=HZE.out;have h5:=HBI.out;have h6:=(gY HQP'.out).2;have h7:=HALL.out;subst h1;rw [← h6] at h5 h7;exact ⟨h5.done hpl,by rw [lF g Q' hpl,HAQ.out,h7]⟩)
       have HME:=Ha (show CI wr wa.heap.size=Q'.length from HM.out.count);go_wp2_with fail
       go_roundw
       case rel=>exact ⟨Q',p+1,HDN.out.1,by rw [← HR'.out];exact HQ.out,by rw [HDN.out.2];exact HAL.out,HM.out,HBW'.out⟩
       case measure=>
        have h1:=HME.out;have h2:=HMEAS.out;have h3:R'.length=Q'.length-(p+1):=by rw [HR'.out,List.length_drop]
        have h4:R.length=Q.length-(p+1):=by rw [HR.out,List.length_drop]
        rw [h1,h2];simp only [rY];omega
    ·obtain rfl:p=Q.length:=by have:=HBQ.out.pl;omega
     have hq2:=HQ.out;rw [List.drop_length] at hq2;obtain ⟨gq,oq,cq,rfl,_⟩:=hq2.shape;obtain ⟨Aa,ca,rfl⟩:=HAL.out.shape;have hsm3:s<m:=by have:=HMM.out;omega
     have zc:=HPR.out.row.cell hsm3;have zf:=HPR.out.row.frozen s;have y4:=aA HPR.out.box 4 _ rfl;have HPU:=Ha (HPR.out.put (aG.look HAL.out fun k hk=>(aG.tb HAL.out hk).2) (by have:Q.length*g.rules.length≤241*300:=Nat.mul_le_mul (by omega) hr;omega) HBQ.out.all (fun k hk=>HX.out.old k hk));generalize allOf g Q Q.length=ALL at *;clear hq2 hQl hall;go_wp2_with fail
     go_roundw
     case rel=>exact ⟨s+1,_,by omega,by omega,by go_num,HPU.out⟩
     case measure=>simp only [intOf];omega
  ·have hsm':s=g.top+1:=by have:=HMM.out;omega
   have HE:=Ha (gS hsm' HMM.out);clear hsm';go_wp2_with fail
   go_end0
   refine ⟨rfl,w1.heap.size,F, ?_⟩;have:=HPA.out;rw [HE.out.1,HE.out.2] at this;exact this
end
section
attribute [local go_sem ↓] aI
structure So (G:Nat→Prop) (B b bb bo ro m:Nat) (A0:Option Addr) (c0:Nat) (A1:Option Addr) (c1:Nat) (A2:Option Addr) (c2:Nat) (g:Gm) (w:World) (F:Nat→Value) (L:Nat→List Itm):Prop where
 bbx:w.heap[bb]? = some (.cells #[.pointer (some ⟨b,0,none⟩)] 167 (0,0))
 box:w.heap[bo]? = some (.cells #[.slice (some ⟨ro,0,none⟩) m m] 169 (0,0))
 row:w.rowIs ro 97 m F
 its:∀ s,s<m→Its B w (F s) (L s)
 apart:∀ s t,s<m→t<m→s≠t→∀ k,(F s).ownBlock=some k→(F t).ownBlock≠some k
 gb:GBox G w b A0 c0 A1 c1 A2 c2 g
 gB:b<B∧B≤bo∧B≤ro∧B≤bb∧∀ k,G k→k<B
def g7 (g:Gm) (L:Nat→List Itm) (x:Itm):Nat→List Itm:=fun s=>if 1≤g.nxt x∧(s:Int)=g.nxt x then L s++[(x.1,x.2+1)] else L s
section
variable {G:Nat→Prop} {B b bb bo ro m:Nat} {A0 A1 A2:Option Addr} {c0 c1 c2:Nat} {g:Gm} {w w':World} {F:Nat→Value} {L:Nat→List Itm}
theorem So.tro (h:So G B b bb bo ro m A0 c0 A1 c1 A2 c2 g w F L):TB 97 w ro:=by
 obtain ⟨cs,h1,_⟩:=h.row;exact ⟨cs,h1⟩
theorem So.below (h:So G B b bb bo ro m A0 c0 A1 c1 A2 c2 g w F L) (hb:Below w.heap.size w w'):So G B b bb bo ro m A0 c0 A1 c1 A2 c2 g w' F L:=
 ⟨(hb.block _ (gL h.bbx).1).trans h.bbx,(hb.block _ (gL h.box).1).trans h.box,bK h.row hb,fun s hs=>(h.its s hs).below hb,h.apart,h.gb.on hb,h.gB⟩
theorem So.size (h:So G B b bb bo ro m A0 c0 A1 c1 A2 c2 g w F L):B≤w.heap.size:=by
 have:=(gL h.box).1;have:=h.gB.2.1;omega
end
theorem GM (G:Nat→Prop) (w:World) (B b bb bo ro m:Nat) (A0 c0 A1 c1 A2 c2) (g:Gm) (F:Nat→Value) (L:Nat→List Itm) (k d:Nat) (h:So G B b bb bo ro m A0 c0 A1 c1 A2 c2 g w F L) (hk:k≤g.rules.length) (hd:d≤1000) (hn:g.nxt ((k:Int),(d:Int))<m) (hn0:0≤g.nxt ((k:Int),(d:Int))) (hL:∀ s,s<m→(L s).length≤1000000000):
  Calls Tryz.prog 164 #[.agg #[.int .i64 k,.int .i64 d],.pointer (some ⟨bb,0,none⟩),.pointer (some ⟨bo,0,none⟩)] w fun e w'=>e=.returned (.tuple #[])∧(∃ F',So G B b bb bo ro m A0 c0 A1 c1 A2 c2 g w' F' (g7 g L ((k:Int),(d:Int))))∧Below B w w'∧Chg (fun i=>(∃ s,s<m∧(F s).ownBlock=some i)∨i=ro) w w':=by
 have hb1:Below w.heap.size w (w.alloc (.cells #[.int .i64 k,.int .i64 d] 250)):=(gR _ _).alloc (gO _) _;have q1:=aC w (.cells #[.int .i64 k,.int .i64 d] 250);generalize hWI:w.alloc (.cells #[.int .i64 k,.int .i64 d] 250)=wi at *;have hs1:=h.below hb1;have HNX:=Ha (o5 G wi b A0 c0 A1 c1 A2 c2 g k d hs1.gb hk);obtain ⟨s,hs⟩:∃ s:Nat,g.nxt ((k:Int),(d:Int))=(s:Int):=⟨(g.nxt ((k:Int),(d:Int))).toNat,by omega⟩;have HE:=Ha hs;rw [hs] at HNX hn;have hsm:s<m:=by omega
 obtain ⟨H1,HB1,HQ1,HLL,HSZ,HOW⟩:=Zh6 hs1 hb1 q1 hL h.size (fun i (hi:(F s).ownBlock=some i)=>((h.its s hsm).tb hi).2.lt);obtain ⟨r0,r1,_,_⟩:=aM q1 rfl;have y0:=aA hs1.bbx 0 _ rfl;clear h hb1 q1 hs1 hs hn hn0 hL;go_enter Tryz.func164,Tryz.ntmps164;go_wp2_with fail;refine (HNX.out).mono ?_;rintro e w2 ⟨rfl,hb2⟩;obtain ⟨H2,HQ2,HB2⟩:=Zh3 (H1.out.below hb2) ((hb2.block _ (gL HQ1.out).1).trans HQ1.out) (show Below w.heap.size w w2 from HB1.out.trans (hb2.mono HB1.out.size));clear hb2 r0 r1 y0;by_cases h0:s=0
 ·subst h0;have HU:=Ha (show g7 g L ((k:Int),(d:Int))=L from by
   funext t
   unfold g7;rw [HE.out,if_neg (by omega)])
  go_wp2_with fail
  go_end0
  exact ⟨rfl,⟨F,by rw [HU.out];exact H2.out⟩,HB2.out.mono HSZ.out,Chg.of HB2.out⟩
 have h01:(0:Int)<(s:Int):=by omega
 obtain ⟨Av,cv,hFs,_⟩:=aG.shape (H2.out.its s hsm);have hls:=HLL.out s hsm;obtain ⟨v',w3,hrun,hr3,hc3,how⟩:=aG.pushC 97 Tryz.underlying97 jC rfl (by decide) ItV.one 97 (us:=[.int .i64 k,.int .i64 ((d:Int)+1)]) (x:=((k:Int),(d:Int)+1)) rfl rfl (aG.below (H2.out.its s hsm) (gR _ _).drew) (by omega) (by unfold maxLen;omega) H2.out.size;have hd1:IntKind.i64.wrap ((d:Int)+1)=(d:Int)+1:=IntWalk.i64_in _ (by omega);have hcF:∀ i,TB 250 w2 i→(F s).ownBlock=some i→True:=fun _ _ _=>trivial;have hro:∀ i,(F s).ownBlock=some i→i≠ro:=fun i hi e=>((H2.out.its s hsm).tb hi).2.ne H2.out.tro (by decide) e;have hbo:∀ i,(F s).ownBlock=some i→i≠bo:=fun i hi e=>((H2.out.its s hsm).tb hi).2.ne (T':=169) ⟨_,H2.out.box⟩ (by decide) e;have hbb:∀ i,(F s).ownBlock=some i→i≠bb:=fun i hi e=>((H2.out.its s hsm).tb hi).2.ne (T':=167) ⟨_,H2.out.bbx⟩ (by decide) e;have hlt2:w2.heap.size≤w3.heap.size:=hc3.size;have h3:∀ i,i<w2.heap.size→(F s).ownBlock≠some i→w3.heap[i]? = w2.heap[i]? := fun i hi hn=>hc3.same i hi hn;have hgb:b<w2.heap.size:=H2.out.gb.lt;have hbs:=H2.out.gB;have hfs:∀ i,(F s).ownBlock=some i→B≤i:=fun i hi=>((H2.out.its s hsm).tb hi).1;have hro3:=H2.out.row.of_block (h3 ro H2.out.row.lt fun e=>hro ro e rfl);have hbo3:=(h3 bo (gL H2.out.box).1 fun e=>hbo bo e rfl).trans H2.out.box;have hbb3:=(h3 bb (gL H2.out.bbx).1 fun e=>hbb bb e rfl).trans H2.out.bbx;obtain ⟨A3,c3,rfl,_⟩:=hr3.shape;have hT3:TB 97 w3 ro:=by
  obtain ⟨cs,h1,_⟩:=hro3;exact ⟨cs,h1⟩
 have hne:∀ i,i≠ro→(w3.setCell ⟨ro,s,none⟩ (.slice A3 (L s++[((k:Int),(d:Int)+1)]).length c3)).heap[i]? = w3.heap[i]? := fun i hi=>gU _ _ _ _ hi;have hbor:bo≠ro:=fun e=>TB.ne (T:=169) ⟨_,hbo3⟩ hT3 (by decide) e;have hbbr:bb≠ro:=fun e=>TB.ne (T:=167) ⟨_,hbb3⟩ hT3 (by decide) e;have HF:=Ha (show So G B b bb bo ro m A0 c0 A1 c1 A2 c2 g (w3.setCell ⟨ro,s,none⟩ (.slice A3 (L s++[((k:Int),(d:Int)+1)]).length c3)) (fun t=>if t=s then .slice A3 (L s++[((k:Int),(d:Int)+1)]).length c3 else F t) (g7 g L ((k:Int),(d:Int))) from by
  have hold:∀ i,i<B→(w3.setCell ⟨ro,s,none⟩ (.slice A3 (L s++[((k:Int),(d:Int)+1)]).length c3)).heap[i]? = w2.heap[i]? := fun i hi=>(hne i (by omega)).trans (h3 i (by have:=H2.out.size;omega) fun e=>by have:=hfs i e;omega);refine ⟨(hne _ hbbr).trans hbb3,(hne _ hbor).trans hbo3,hro3.set _ _,fun t ht=>?_,fun t u ht hu htu i hi=>?_,H2.out.gb.again (by simpa using hlt2) (fun i _=>gM (hold b hbs.1)) (fun i hi=>hold i (hbs.2.2.2.2 i hi)),hbs⟩
  ·by_cases e:t=s
   ·subst e;have e1:g7 g L ((k:Int),(d:Int)) t=L t++[((k:Int),(d:Int)+1)]:=by
     unfold g7;rw [HE.out];exact if_pos ⟨by omega,rfl⟩
    rw [e1];show Its B _ (if t=t then _ else _) _;rw [if_pos rfl];exact aG.keep hr3 fun i hi=>hne i fun e=>(hr3.tb hi).2.ne hT3 (by decide) e
   ·have e1:g7 g L ((k:Int),(d:Int)) t=L t:=by
     unfold g7;rw [HE.out];exact if_neg (by omega)
    rw [e1];show Its B _ (if t=s then _ else _) _;rw [if_neg e];exact aG.keep (H2.out.its t ht) fun i hi=>(hne i fun e2=>((H2.out.its t ht).tb hi).2.ne H2.out.tro (by decide) e2).trans (h3 i ((H2.out.its t ht).tb hi).2.lt fun e2=>H2.out.apart t s ht hsm e i hi e2)
  ·by_cases e1:t=s
   ·subst e1;simp only [if_pos] at hi;simp only [if_neg (fun h:u=t=>htu h.symm)];rcases how with h5 | h5
    ·rw [h5] at hi;exact H2.out.apart t u ht hu htu i hi
    ·rw [h5] at hi
     injection hi with hi
     intro h6;have:=((H2.out.its u hu).tb h6).2.lt;simp at hi;omega
   ·simp only [if_neg e1] at hi;by_cases e2:u=s
    ·subst e2;simp only [if_pos];rcases how with h5 | h5
     ·rw [h5];exact H2.out.apart t u ht hu htu i hi
     ·rw [h5];intro h6
      injection h6 with h6
      have:=((H2.out.its t ht).tb hi).2.lt;simp at h6;omega
    ·simp only [if_neg e2];exact H2.out.apart t u ht hu htu i hi)
 have HBF:=Ha (show Below B w (w3.setCell ⟨ro,s,none⟩ (.slice A3 (L s++[((k:Int),(d:Int)+1)]).length c3)) from
  (((HB2.out.mono HSZ.out).drew.trans (hc3.below (fun i e=>hfs i e) H2.out.size)).setCell (p:=⟨ro,s,none⟩) hbs.2.2.1 _))
 have HCH:=Ha (show Chg (fun i=>(∃ s,s<m∧(F s).ownBlock=some i)∨i=ro) w (w3.setCell ⟨ro,s,none⟩ (.slice A3 (L s++[((k:Int),(d:Int)+1)]).length c3)) from
  ((Chg.of HB2.out:Chg (fun i=>(∃ s,s<m∧(F s).ownBlock=some i)∨i=ro) w w2).drew.trans2 hc3 fun i hi e=>.inl ⟨s,hsm,e⟩).setCell (p:=⟨ro,s,none⟩) (fun _=>.inr rfl) _)
 have z3:=hro3.cell hsm;have f3:=hro3.frozen s;have z2:=H2.out.row.cell hsm;have y2:=aA H2.out.box 0 _ rfl;have y3:=aA hbo3 0 _ rfl;have y0:=aA H2.out.bbx 0 _ rfl;rw [hFs] at z3 z2 hrun;obtain ⟨r0,r1,_,_⟩:=aM HQ2.out rfl;have HSS:=Ha (show (fun X=>X.cell? ⟨bo,0,none⟩=some (.slice (some ⟨ro,0,none⟩) m m)∧X.cell? ⟨ro,s,none⟩=some (.slice Av (L s).length cv)∧X.cell? ⟨w.heap.size,0,none⟩=some (.int .i64 k)∧X.cell? ⟨w.heap.size,1,none⟩=some (.int .i64 d)) w2.drew from ⟨y2,z2,r0,r1⟩);have hAl:Below w2.drew.heap.size w2.drew (w2.drew.alloc (.cells #[.int .i64 k,.int .i64 ((d:Int)+1)] 250)):=(gR _ _).alloc (gO _) _;have HS2:=Ha (show (fun X=>X.cell? ⟨bo,0,none⟩=some (.slice (some ⟨ro,0,none⟩) m m)∧X.cell? ⟨ro,s,none⟩=some (.slice Av (L s).length cv)∧X.cell? ⟨w.heap.size,0,none⟩=some (.int .i64 k)∧X.cell? ⟨w.heap.size,1,none⟩=some (.int .i64 d)) (w2.drew.alloc (.cells #[.int .i64 k,.int .i64 ((d:Int)+1)] 250)) from
  ⟨aD (w:=w2.drew) y2 hAl,aD (w:=w2.drew) z2 hAl,aD (w:=w2.drew) r0 hAl,aD (w:=w2.drew) r1 hAl⟩)
 have hq3:=(h3 w.heap.size (gL HQ2.out).1 fun e=>by have:=HOW.out _ e;omega).trans HQ2.out;have HS3:=Ha (show (fun X=>X.cell? ⟨bo,0,none⟩=some (.slice (some ⟨ro,0,none⟩) m m)∧X.cell? ⟨ro,s,none⟩=some (.slice Av (L s).length cv)∧X.cell? ⟨w.heap.size,0,none⟩=some (.int .i64 k)∧X.cell? ⟨w.heap.size,1,none⟩=some (.int .i64 d)) w3 from ⟨y3,z3,aA hq3 0 _ rfl,aA hq3 1 _ rfl⟩);clear hAl hro hbo hbb hlt2 h3 hgb hbs hfs hro3 hbo3 hbb3 hT3 hne hbor hbbr hcF hr3 hc3 how hFs hq3;have hrun:WrA Tryz.prog #[97,97] 97 #[.slice Av (L s).length cv,.slice (some ⟨w2.heap.size,0,none⟩) 1 1] (w2.alloc (.cells #[.int .i64 k,.int .i64 ((d:Int)+1)] 250)).drew=.ok (.slice A3 (L s++[((k:Int),(d:Int)+1)]).length c3) w3:=hrun;generalize hLN:(L s++[((k:Int),(d:Int)+1)]).length=LN at *;go_wp2_with fail;refine aE.start 15 (fun X=>X.cell? ⟨bo,0,none⟩=some (.slice (some ⟨ro,0,none⟩) m m)∧X.cell? ⟨ro,s,none⟩=some (.slice Av (L s).length cv)∧X.cell? ⟨w.heap.size,0,none⟩=some (.int .i64 k)∧X.cell? ⟨w.heap.size,1,none⟩=some (.int .i64 d)) (by kernel_rfl) ?hs_1 (fun hHeld=>?hr_1)
 case hs_1=>exact HSS.out
 refine aE.tks [0,1,2,3,4,5,6,7,8,9,10,11] ?_ (by kernel_rfl) (by assumption)
 iterate 12
  refine aK.cons ?_ (by rfl) (by rfl) (by intro w h;(try dsimp only at h);simp only [gA,gB,gC];go_simp;try with_reducible rfl) (by exact fun _ _ _ h=>h);simp only [gA,gB,gC,Act.put,gD,gE,gF]
 show aE _ _ _ _ _ _ _ _ _ _;refine aE.one (i:=12) (by kernel_rfl) rfl fun K hK=>?_;simp only [gA,gB,gC]
 go_simp
 refine hK.out _ _ ?_ (fun hHeld=>?_)
 ·exact HS2.out
 clear hK K;try simp only [Act.put,gD,gE,gF]
 refine aE.one (i:=13) (by kernel_rfl) rfl fun K hK=>?_;simp only [gA,gB,gC]
 go_simp
 refine hK.out _ _ ?_ (fun hHeld=>?_)
 ·exact HS3.out
 clear hK K;try simp only [Act.put,gD,gE,gF]
 refine aE.tks [14] ?_ (by kernel_rfl) (by assumption)
 iterate 1
  refine aK.cons ?_ (by rfl) (by rfl) (by intro w h;(try dsimp only at h);simp only [gA,gB,gC];go_simp;try with_reducible rfl) (by exact fun _ _ _ h=>h);simp only [gA,gB,gC,Act.put,gD,gE,gF]
 show aE _ _ _ _ _ _ _ _ _ _;refine aE.last (by kernel_rfl) rfl fun K hK=>?_;simp only [gA,gB,gC]
 go_simp
 refine hK.out _ _ (aE.done (by kernel_rfl) ?_ _);go_wp2_with fail
 go_end0
 exact ⟨rfl,⟨_,HF.out⟩,HBF.out,HCH.out⟩
end
end Go.Proofs.YtpidmmfjcghmeaaGreat
namespace Go.Proofs.YtpidmmfjcghmeaaGreat
namespace Gm
def base (ks:List (List Itm)) (j:Nat):Nat:=dY (fun i=>(ks.getD i []).length) j
theorem base_succ (ks:List (List Itm)) {j:Nat} (h:j<ks.length):base ks (j+1)=base ks j+ks[j].length:=by
 show base ks j+(ks.getD j []).length=_;rw [List.getD_eq_getElem?_getD,List.getElem?_eq_getElem h];rfl
theorem base_mono (ks:List (List Itm)):∀ {i j:Nat},i≤j→base ks i≤base ks j
 | i,0,h=>by rw [Nat.le_zero.1 h];exact gO _
 | i,j+1,h=>by
  rcases Nat.lt_or_ge i (j+1) with h1 | h1
  ·exact gP (base_mono ks (show i≤j by omega)) (Nat.le_add_right _ _)
  ·rw [show i=j+1 by omega];exact gO _
theorem place_lt {ks:List (List Itm)} {j p:Nat} (h:j<ks.length) (hp:p<ks[j].length):base ks j+p<base ks ks.length:=by
 have h1:=base_succ ks h;have h2:=base_mono ks (show j+1≤ks.length from h);omega
theorem base_le {ks:List (List Itm)} {m:Nat} (h:∀ k∈ks,k.length≤m):∀ j,base ks j≤j*m
 | 0=>by show 0≤_;omega
 | j+1=>by
  have h1:=base_le h j;show base ks j+(ks.getD j []).length≤_;rw [Nat.add_mul];have:(ks.getD j []).length≤m:=by
   rw [List.getD_eq_getElem?_getD];by_cases hj:j<ks.length
   ·rw [List.getElem?_eq_getElem hj];exact h _ (gN hj)
   ·rw [List.getElem?_eq_none (by omega)];exact gX _
  omega
theorem to_ok {g:Gm} (hk:g.Known) {ks:List (List Itm)} (ha:Aut g ks) {i:Nat} (hi:i<ks.length) {x:Itm} (hc:g.Clo (· ∈ ks[i]) x) (hd:x.2.toNat<(g.rightAt x.1.toNat).length):
  1≤g.nxt x∧g.nxt x≤g.top∧g.succK ks[i] (g.nxt x)≠[]∧∃ h:ks.idxOf (g.succK ks[i] (g.nxt x))<ks.length,(x.1,x.2+1)∈ks[ks.idxOf (g.succK ks[i] (g.nxt x))]:=by
 have hs:g.nxt x=(g.rightAt x.1.toNat)[x.2.toNat]:=by
  unfold nxt;rw [List.getD_eq_getElem?_getD,List.getElem?_eq_getElem hd];rfl
 have h1:1≤g.nxt x∧g.nxt x≤g.top:=by
  have:=right_sym hk x.1.toNat _ (gN hd);rw [← hs] at this;unfold T N top at *;omega
 have h2:(x.1,x.2+1)∈g.succK ks[i] (g.nxt x):=((fB (ha.kok _ (gN hi)).ok _).2 _).2 ⟨h1.1,x,hc,rfl,rfl⟩;have h3:g.succK ks[i] (g.nxt x)≠[]:=fun e=>by rw [e] at h2;cases h2
 obtain ⟨h4,h5⟩:=ha.idx (gN hi) (by omega) h1.2 h3;exact ⟨h1.1,h1.2,h3,h4,by rw [h5];exact h2⟩
end Gm
theorem AL {g:Gm} (hk:g.Known) {l:List Itm} {z:Itm} (hz:z∈l) (hN:g.N (g.nxt z)) {s:Int} (hl:g.Lc (g.nxt z) s) {k:Nat} (h:k<g.rules.length) (hs:g.rules[k].1=s):g.Clo (· ∈ l) ((k:Int),0):=
 (Gm.clo_iff hk).2 (.inr ⟨z,hz,hN,k,h,rfl,by rw [hs];exact hl⟩)
end Go.Proofs.YtpidmmfjcghmeaaGreat
