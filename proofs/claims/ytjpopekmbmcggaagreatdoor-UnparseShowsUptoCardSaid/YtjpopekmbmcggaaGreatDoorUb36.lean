/- Towards unparseShows_card: UpRDefs. Merged from smaller texts by a program of the author's. -/
import Derived.Test.YtjpopekmbmcggaaGreatDoorUb33
import Derived.Test.YtjpopekmbmcggaaGreatDoorUb32
set_option maxRecDepth 100000
set_option maxHeartbeats 16000000
namespace Go.Proofs.YtjpopekmbmcggaaGreatDoor
open Go.RowKit
def RCm (f:Nat):Prop:=∀ (G:Nat→Prop) (b:Nat) (w:World) (vs:List Value) (x:Nd f) (s:St),(∀ k,G k→k<b)→NdV f G w vs x→(Nd.ft f).cm x→Tx b s w→s.len+64*Nd.wt f x≤LIM→
 Calls Tryz.prog 162 #[.pointer (some ⟨b,0,none⟩),ag vs] w (Wtx b w ((Nd.tv f).cm x s))
def RLs (f:Nat):Prop:=∀ (G:Nat→Prop) (b:Nat) (w:World) (vs:List Value) (x:Nd f) (s:St) (head:List UInt8),(∀ k,G k→k<b)→NdV f G w vs x→(Nd.ft f).ls x→Tx b s w→(s.put head).line.len+64*Nd.wt f x≤LIM→
 Calls Tryz.prog 194 #[.pointer (some ⟨b,0,none⟩),.string ⟨head.toArray⟩,ag vs] w (Wtx b w ((Nd.tv f).ls x (s.put head).line))
def RWh (f:Nat):Prop:=∀ (G:Nat→Prop) (b:Nat) (w:World) (vs:List Value) (x:Nd f) (s:St),(∀ k,G k→k<b)→NdV f G w vs x→(Nd.ft f).ls x→Tx b s w→s.len+64*Nd.wt f x≤LIM→
 Calls Tryz.prog 131 #[.pointer (some ⟨b,0,none⟩),ag vs] w (Wtx b w (Nd.wh f x s))
def RSh (f:Nat):Prop:=∀ (G:Nat→Prop) (w:World) (v:Value) (xs:List (Nd f)),(∀ k,G k→k<w.heap.size)→aW G w 10 (NdV f G w) v xs→(∀ x∈xs,(Nd.ft f).ls x)→64*tot (Nd.wt f) xs≤LIM→
 Calls Tryz.prog 72 #[v] w fun e w'=>e=.returned (bs (showX (Nd.tv f) xs))∧Below w.heap.size w w'
def RWd (f:Nat):Prop:=∀ (G:Nat→Prop) (w:World) (A:Option Addr) (n c:Nat) (x:WdF (Nd f)),(∀ k,G k→k<w.heap.size)→WdN f G w [.slice A n c] x→eA (Nd.ft f) x→64*wtW (Nd.wt f) x≤LIM→
 Calls Tryz.prog 75 #[.agg #[.slice A n c]] w fun e w'=>e=.returned (bs (wordX (Nd.tv f) x))∧Below w.heap.size w w'
attribute [local go_sem ↓] cW
theorem uJ (f:Nat) (ih:RSh f):RWd f:=fun G w A n c x hG hx hf hl=>by
 obtain ⟨rfl,hnc,hcm,hwt,hpt,hsl⟩:=hx.cmds;obtain ⟨W,hW,hbw,hbx⟩:=cpd w (.cells #[.slice A x.p.len c] 31);have x0:W.cell? ⟨w.heap.size,0,none⟩=some (.slice A x.p.len c):=aF hbx 0 _ rfl;obtain ⟨HBW,HG0,IH,HP,HSL,HF,HG⟩:=hs7 hbw hG ih (hpt.old hG hbw) hsl hf (aG hG hbw);have hlen:x.p.cmds.length=x.cmds.length:=hsl.len;have hb1:Pts.total (x.cmds.map (showX (Nd.tv f)))≤64*tot (fun l=>1+tot (Nd.wt f) l) x.cmds:=gY (Nd.tv_ok f) x.cmds;have hb2:tot (fun l=>1+tot (Nd.wt f) l) x.cmds≤tot (fun l=>1+tot (Nd.wt f) l) x.c:=jI _ _ _;unfold wtW LIM at hl;have hcl:x.cmds.length≤tot (fun l=>1+tot (Nd.wt f) l) x.cmds:=by
  have:∀ c:List (List (Nd f)),c.length≤tot (fun l=>1+tot (Nd.wt f) l) c:=fun c=>by
   induction c with
   | nil=>simp [tot]
   | cons l c ih=>rw [gG,tot];omega
  exact this _
 have HTL:=Ha (show ∀ k (h:k<x.cmds.length),64*tot (Nd.wt f) x.cmds[k]≤LIM from fun k h=>by
  have:=iP (W:=fun l=>1+tot (Nd.wt f) l) x.cmds k _ (List.getElem?_eq_getElem h);unfold LIM;omega)
 clear hG hpt hsl hf hbw hbx hx ih;have HX:=Ha (xY x.p A c G W hwt HG.out HP.out);go_enter Tryz.func75,Tryz.ntmps75;go_wp2_with fail;refine HX.out.mono ?_;rintro e w1 ⟨v,rfl,hcr,hb⟩;have HB1:=Ha hb;obtain ⟨A2,c2,rfl,hl2,hm2,hk2⟩:=hcr.look;have HK:=Ha hk2;unfold maxLen at hm2;have x1:=aA x0 hb;clear hb hcr hk2 x0;go_wp2_with fail
 go_loopw [4,5] (fun vl i wr=>∃ (k:Nat),k≤x.p.cmds.length∧i=.int .i64 k∧eO w1.heap.size wr vl ((x.cmds.take k).map (showX (Nd.tv f)))∧Below w1.heap.size w1 wr) (fun _ i _=>x.p.cmds.length-(intOf i).toNat)
 case atStart=>exact ⟨0,by omega,rfl,eO.nothing,Below.refl _ _⟩
 case round=>
  obtain ⟨k,hk,rfl,hr,hb⟩:=hrel;have HB:=Ha hb;have HR:=Ha hr;have x2:=aA x1 hb;by_cases hlt:k<x.p.cmds.length
  ·obtain ⟨g,rfl,z0⟩:=HK.out k hlt;have h1:k<x.cmds.length:=by rw [← hlen];exact hlt
   have z1:wr.cell? ⟨g,k,none⟩=some (.slice (x.p.cmds[k]).a (x.p.cmds[k]).n (x.p.cmds[k]).c):=(World.cell?_of_block (hb.block g (fJ z0))).trans z0;have hbw:=HB1.out.trans (hb.mono HB1.out.size);have hs:=(HSL.out.get k hlt h1).onN HG0.out (HBW.out.trans (hbw.mono HBW.out.size));have HX2:=Ha (IH.out G wr _ x.cmds[k] (aG HG.out hbw) hs (fun n hn=>HF.out.2 _ (List.getElem_mem h1) n hn) (HTL.out k h1));have HTK:=Ha (jU (showX (Nd.tv f)) x.cmds k h1);clear z0 hs hbw hb hr;unfold Cm.val at HX2;generalize showX (Nd.tv f) x.cmds[k]=tx at *;go_wp2_with fail;refine HX2.out.mono ?_;rintro e w2 ⟨rfl,hb2'⟩;have hb3:=HB.out.trans (hb2'.mono HB.out.size);have hr3:=HR.out.below hb2';obtain ⟨v',w',hrun,hrow,hgr⟩:=hr3.one tx (by rw [List.length_map,List.length_take];omega) hb3.size;have hb4:Below w1.heap.size w1 w':=gU (hb3.alloc hb3.size _) (Nat.le_trans hb3.size (by simp)) hgr fun g hg=>(hr3.kind g hg).1;rw [← HTK.out] at hrow;have HROW:=Ha hrow;have HB4:=Ha hb4;clear hb2' hb3 hr3 hrow hgr hb4 z1;unfold bs at hrun ⊢;go_wp2_with fail
   go_roundw
   case rel=>exact ⟨k+1,by omega,by go_num,HROW.out,HB4.out⟩
   case measure=>simp only [intOf];omega
  ·have hke:x.cmds.take k=x.cmds:=List.take_of_length_le (by omega);rw [hke] at hr;obtain ⟨C,cc,rfl,hcc,hmc,hst⟩:=hr.look;rw [List.length_map] at hcc ⊢;have hbw:=HB1.out.trans (hb.mono HB1.out.size);have hold:=aG HG.out hbw;have HX3:=Ha (CA x.p A c C cc (x.cmds.map (showX (Nd.tv f))) (fun k=>G k∨(Value.slice C x.cmds.length cc).ownBlock=some k) wr (by omega) (by rw [List.length_map];exact hcc)
    (fun k hk=>hk.elim (fun h=>hold k h) (fun h=>(hr.kind k (by rw [List.length_map];exact h)).2.1)) ((HP.out.old HG.out hbw).more fun _ h=>.inl h) (by rw [List.length_map] at hst;exact hst.more fun _ h=>.inr h))
   rw [List.length_map] at HX3;unfold maxLen at hmc;have HBR:=Ha hbw;clear hold hbw hb hst hr x1;go_wp2_with fail;refine HX3.out.mono ?_;rintro e w2 ⟨rfl,hb⟩;have HB2:=Ha (HBR.out.trans (hb.mono HBR.out.size));clear hb x2;unfold bs;go_wp2_with fail;go_ret;exact ⟨rfl,HBW.out.trans (HB2.out.mono HBW.out.size)⟩
theorem uI (f:Nat) (ih:RWh f):RSh f:=fun G w v xs hG hs hf hl=>by
 obtain ⟨A,c,rfl,hlc,hm,hel⟩:=hs;have HEL:=Ha hel;unfold maxLen at hm;have HG:=Ha hG;have IH:=Ha ih;have HF:=Ha hf;have hsl:=jM (Nd.tv_ok f) xs;have HTL:=Ha (show ∀ k (h:k<xs.length),64*Nd.wt f xs[k]≤LIM from fun k h=>by
  have:=iP (W:=Nd.wt f) xs k _ (List.getElem?_eq_getElem h);omega)
 unfold LIM at hl;clear hG hel hf ih;go_enter Tryz.func72,Tryz.ntmps72;go_wp2_with fail
 go_loopw [3,4] (fun s i wr=>∃ (k:Nat) (pre:List UInt8),k≤xs.length∧s=.string ⟨pre.toArray⟩∧i=.int .i64 k∧pre++showX (Nd.tv f) (xs.drop k)=showX (Nd.tv f) xs∧Below w.heap.size w wr) (fun _ i _=>xs.length-(intOf i).toNat)
 case atStart=>exact ⟨0,[],by omega,rfl,rfl,rfl,Below.refl _ _⟩
 case round=>
  obtain ⟨k,pre,hk,rfl,rfl,he,hb⟩:=hrel;have HE:=Ha he;have HB:=Ha hb;have hpl:pre.length≤(showX (Nd.tv f) xs).length:=by rw [← he,gI];omega
  clear he;by_cases hlt:k<xs.length
  ·obtain ⟨bb,off,rfl,hg,hel⟩:=HEL.out (by omega);obtain ⟨vs,hvl,hR0,hcell⟩:=hel k hlt;have hR:=hR0.below HG.out hb;have hw2:Below wr.heap.size wr (wr.alloc (.cells #[.string ⟨#[]⟩,.string ⟨#[]⟩] 122)):=(Below.refl _ _).alloc (Nat.le_refl _) _;have hbx:=aN wr (.cells #[.string ⟨#[]⟩,.string ⟨#[]⟩] 122);generalize hW2:wr.alloc (.cells #[.string ⟨#[]⟩,.string ⟨#[]⟩] 122)=W2 at *;have z:=fun j u hj=>(bA HG.out (hb.trans (hw2.mono hb.size)) _ hg).trans (hcell j u hj);obtain ⟨ky,s,nt,ni,A4,n4,c4,A5,n5,c5,A6,n6,c6,A7,n7,c7,A8,n8,c8,A9,n9,c9,rfl⟩:=hR.shape;have d0:W2.cell? ⟨bb,off+k*10,none⟩=some (.int .i64 ky):=by simpa using z 0 _ rfl
   have d1:W2.cell? ⟨bb,off+k*10+1,none⟩=some (.string s):=by simpa using z 1 _ rfl
   have d2:W2.cell? ⟨bb,off+k*10+2,none⟩=some (.bool nt):=by simpa using z 2 _ rfl
   have d3:W2.cell? ⟨bb,off+k*10+3,none⟩=some (.bool ni):=by simpa using z 3 _ rfl
   have d4:W2.cell? ⟨bb,off+k*10+4,none⟩=some (.slice A4 n4 c4):=by simpa using z 4 _ rfl
   have d5:W2.cell? ⟨bb,off+k*10+5,none⟩=some (.slice A5 n5 c5):=by simpa using z 5 _ rfl
   have d6:W2.cell? ⟨bb,off+k*10+6,none⟩=some (.slice A6 n6 c6):=by simpa using z 6 _ rfl
   have d7:W2.cell? ⟨bb,off+k*10+7,none⟩=some (.slice A7 n7 c7):=by simpa using z 7 _ rfl
   have d8:W2.cell? ⟨bb,off+k*10+8,none⟩=some (.slice A8 n8 c8):=by simpa using z 8 _ rfl
   have d9:W2.cell? ⟨bb,off+k*10+9,none⟩=some (.slice A9 n9 c9):=by simpa using z 9 _ rfl
   have HD:=Ha (nH (Nd.tv f) xs k hlt);have hpl2:pre.length+((Nd.tv f).sh xs[k]).length≤(showX (Nd.tv f) xs).length:=by rw [← HE.out,HD.out,gI,gI];omega
   have hfit:=HF.out xs[k] (List.getElem_mem hlt);have hshl:=(Nd.tv_ok f).sh xs[k];have hwl:=HTL.out k hlt;unfold LIM at hwl;generalize hxk:xs[k]=xk at *;have hgr:=aG HG.out hb;have htx:Tx wr.heap.size ([],[]) W2:=hbx;obtain ⟨HX,HW2,HSH⟩:=hs3 (IH.out G wr.heap.size W2 _ xk ([],[]) hgr (hR.below hgr hw2) hfit htx (by rw [show St.len (([],[]):St)=0 from rfl];unfold LIM;omega)) hw2 (Nd.wh_sh f xk);unfold ag at HX;clear hel hcell hg hR hR0 z hvl hfit hgr htx hb hbx hw2;go_wp2_with fail;refine HX.out.mono ?_;rintro e w3 ⟨rfl,hp,hks⟩;have hb3:Below wr.heap.size wr w3:=HW2.out.trans (hks.below HW2.out.size);have t0:=hp.c0;rw [HSH.out] at t0;have hadd:=bN pre ((Nd.tv f).sh xk) (by omega);have HB3:=Ha (HB.out.trans (hb3.mono HB.out.size));have HE2:=Ha (show (pre++(Nd.tv f).sh xk)++showX (Nd.tv f) (xs.drop (k+1))=showX (Nd.tv f) xs by rw [← HE.out,HD.out,List.append_assoc]);clear hp hks hb3 d0 d1 d2 d3 d4 d5 d6 d7 d8 d9;generalize (Nd.tv f).sh xk=tx at *;go_wp2_with fail
   go_roundw
   case rel=>exact ⟨k+1,pre++tx,by omega,rfl,by go_num,HE2.out,HB3.out⟩
   case measure=>simp only [intOf];omega
  ·have hpe:pre=showX (Nd.tv f) xs:=by have:=HE.out;rw [List.drop_eq_nil_of_le (by omega)] at this;simpa [showX] using this
   have HPE:=Ha hpe;clear hb hpe;go_wp2_with fail;go_ret;exact ⟨by rw [← HPE.out];rfl,HB.out⟩
end Go.Proofs.YtjpopekmbmcggaaGreatDoor
