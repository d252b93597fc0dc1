/- Towards clashesWhole_upto. -/
import Derived.Test.YtpidmmfjcghmeaaGreatCs23
import Derived.Test.YtpidmmfjcghmeaaGreatCs24
set_option maxRecDepth 100000
set_option maxHeartbeats 16000000
set_option linter.all false
namespace Go.Proofs.YtpidmmfjcghmeaaGreat
open Go.RowKit
section
attribute [local go_sem ↓] aI
theorem Wd1.chg {bw:Nat} {w w':World} (h:Wd1 bw w w'):Chg (· = bw) w w':=by
 rcases h with rfl | ⟨v,rfl⟩
 ·exact Chg.refl _ _
 ·exact (Chg.refl (· = bw) w).setCell (p:=⟨bw,0,none⟩) (fun _=>rfl) v
section
variable {w w':World} {b m n bE bwE:Nat} {A1:Option Addr} {c1:Nat} {A2:Option Addr} {c2:Nat} {ps qs:List (Nat×Nat)}
theorem Fz.putE (h:Fz w b m n bE bwE A1 c1 A2 c2 ps qs) {XE X':Nat} (hE:BSet w bE bwE m XE) (hc:Chg (· = bwE) w w') (hE':BSet w' bE bwE m X'):Fz w' b m n bE bwE A1 c1 A2 c2 ps qs:=by
 have ht:∀ T,T≠154→∀ k,TB T w k→w'.heap[k]? = w.heap[k]? := fun T hT k h=>hc.same k h.lt fun e=>h.not_wb hT (e▸hE.wb);exact ⟨(ht _ (by decide) b ⟨_,h.box⟩).trans h.box,⟨X',hE'⟩,h.rp.keepT (ht _ (by decide)),h.rq.keepT (ht _ (by decide)),h.lp,h.lq,(fun p hp=>by
  obtain ⟨X,hX⟩:=h.sp p hp;exact ⟨X,hX.keepC hc (hE.box_ne hX) (h.np p hp)⟩),(fun p hp=>by
  obtain ⟨X,hX⟩:=h.sq p hp;exact ⟨X,hX.keepC hc (hE.box_ne hX) (h.nq p hp)⟩),h.np,h.nq,h.n1,h.nm⟩
theorem Fz.room_putE (h:Fz w b m n bE bwE A1 c1 A2 c2 ps qs) (hc:Chg (· = bwE) w w'):aQ n w' ps=aQ n w ps:=by
 unfold aQ
 congr 1
 refine List.map_congr_left fun p hp=>?_;obtain ⟨X,hX⟩:=h.sp p hp;have h2:w'.cell? ⟨p.2,0,none⟩=w.cell? ⟨p.2,0,none⟩:=gM (hc.same _ hX.lt.2 (h.np p hp));unfold wd;rw [h2]
end
theorem eU {n:Nat} {w w':World} {ps:List (Nat×Nat)} (h:Ss n w ps) (hb:Below w.heap.size w w'):aQ n w' ps=aQ n w ps:=by
 unfold aQ
 congr 1
 refine List.map_congr_left fun p hp=>?_;obtain ⟨X,hX⟩:=h p hp;have h2:w'.cell? ⟨p.2,0,none⟩=w.cell? ⟨p.2,0,none⟩:=gM (hb.block _ hX.lt.2);unfold wd;rw [h2]
theorem zR {n b bw X:Nat} {w w':World} (h:BSet w b bw n X) (hb:Below w.heap.size w w'):wd w' bw=wd w bw:=by rw [h.wd,(h.below hb).wd]
theorem GBox.stay {G:Nat→Prop} {W wr:World} {b:Nat} {A0 A1 A2:Option Addr} {c0 c1 c2:Nat} {g:Gm} (h:GBox G W b A0 c0 A1 c1 A2 c2 g) (hG:∀ k,G k→k<b) (hk:∀ k,k≤b→wr.heap[k]? = W.heap[k]?):GBox G wr b A0 c0 A1 c1 A2 c2 g:=by
 have hb:b<wr.heap.size:=by
  rcases Nat.lt_or_ge b wr.heap.size with h' | h'
  ·exact h'
  ·have h1:=hk b (gO _);rw [Array.getElem?_eq_none h',Array.getElem?_eq_getElem h.lt] at h1;cases h1
 have hc:∀ p:Addr,p.block≤b→wr.cell? p=W.cell? p:=fun p hp=>gM (hk _ hp);have hg:∀ p:Addr,G p.block→wr.cell? p=W.cell? p:=fun p hp=>hc p (Nat.le_of_lt (hG _ hp));exact ⟨fun k hk=>Nat.lt_trans (hG k hk) hb,hb,(hc _ (gO _)).trans h.x0,(hc _ (gO _)).trans h.x1,(hc _ (gO _)).trans h.x2,(hc _ (gO _)).trans h.x3,h.ht.keep (fun _ h=>h) hg,h.hn.keep (fun _ h=>h) hg,h.hr.keep (fun _ h=>h) hg⟩
structure Fj (w W:World) (b m n bE bwE:Nat) (P1:Option Addr) (d1:Nat) (P2:Option Addr) (d2:Nat) (ps qs:List (Nat×Nat)) (wr:World):Prop where
 fs:Fz wr b m n bE bwE P1 d1 P2 d2 ps qs
 bel:Below w.heap.size w wr
 box:wr.heap[w.heap.size]? = W.heap[w.heap.size]?
section
variable {w W wr wr':World} {b m n bE bwE:Nat} {P1:Option Addr} {d1:Nat} {P2:Option Addr} {d2:Nat} {ps qs:List (Nat×Nat)}
theorem Fj.wch (h:Fj w W b m n bE bwE P1 d1 P2 d2 ps qs wr) (hT:TB 25 W w.heap.size) (hc:WCh n (fun k=>w.heap.size≤k∧k≠bwE) wr wr'):Fj w W b m n bE bwE P1 d1 P2 d2 ps qs wr':=
 ⟨h.fs.wch hc fun h=>h.2 rfl,h.bel.trans (hc.chg.below (fun _ h=>h.1.1) h.bel.size),(hc.chg.same _ (hT.of_eq h.box).lt fun h2=>(hT.of_eq h.box).not_wb (by decide) h2.2).trans h.box⟩
theorem Fj.below (h:Fj w W b m n bE bwE P1 d1 P2 d2 ps qs wr) (hT:TB 25 W w.heap.size) (hc:Below wr.heap.size wr wr'):Fj w W b m n bE bwE P1 d1 P2 d2 ps qs wr':=
 ⟨h.fs.below hc,h.bel.trans (hc.mono h.bel.size),(hc.block _ (hT.of_eq h.box).lt).trans h.box⟩
theorem Fj.putE (h:Fj w W b m n bE bwE P1 d1 P2 d2 ps qs wr) (hT:TB 25 W w.heap.size) (hB:w.heap.size≤bwE) {XE X':Nat} (hE:BSet wr bE bwE m XE) (hc:Chg (· = bwE) wr wr') (hE':BSet wr' bE bwE m X'):Fj w W b m n bE bwE P1 d1 P2 d2 ps qs wr':=
 ⟨h.fs.putE hE hc hE',h.bel.trans (hc.below (fun _ e=>by subst e;exact hB) h.bel.size),(hc.same _ (hT.of_eq h.box).lt fun e=>(hT.of_eq h.box).not_wb (by decide) (e▸hE.wb)).trans h.box⟩
def mE (n m bwE:Nat) (ps:List (Nat×Nat)) (w:World):Nat:=2 ^ m-wd w bwE+aQ n w ps
end
theorem xO {X i:Nat} (h:X.testBit i=false):X<X ||| 2 ^ i:=by
 have h1:=cG X (2 ^ i);rcases Nat.lt_or_ge X (X ||| 2 ^ i) with h2 | h2
 ·exact h2
 ·have h3:=eJ X i i;rw [show X ||| 2 ^ i=X by omega,h] at h3;simp at h3
def GO (g:Gm) (w:World) (e:Ending) (w':World):Prop:=
 (∃ b bE bwE A1 c1 A2 c2 ps qs,e=.returned (.pointer (some ⟨b,0,none⟩))∧Fz w' b (g.top+1) (g.terms.length+1) bE bwE A1 c1 A2 c2 ps qs)∧Below w.heap.size w w'
theorem ET (G:Nat→Prop) (w:World) (vs:List Value) (g:Gm) (hG:∀ k,G k→k<w.heap.size) (hg:GmV G w vs g) (hw:GW g) (hl:g.top≤63):
  Calls Tryz.prog 218 #[ag vs] w fun e w'=>GO g w e w':=by
 obtain ⟨A0,c0,A1,c1,A2,c2,W,ev,hW,⟨x0,x1,x2,x3⟩,HB,HX⟩:=GBox.go hG hg;rw [ev];have HG:=Ha hG;clear hG hg ev;have h2:=kR G;have h3:=jN G;unfold ag at h2 h3;have H2:=Ha h2;have H3:=Ha h3;have HW:=Ha hw;have hlr:=gP hw.lr (show 300≤1000 by decide);clear h2 h3 hw;go_enter Tryz.func218,Tryz.ntmps218;go_wp2_with fail;refine (H2.out _ _ g HX.out.old HX.out.gm HW.out).mono ?_;rintro e w1 ⟨rfl,hb1⟩;have HQ1:=Ha (hb1.block w.heap.size HX.out.lt);have HX1:=Ha (HX.out.on hb1);have HB1:=Ha (HB.out.trans (hb1.mono HB.out.size));clear x0 x1 x2 x3 hb1;obtain ⟨x0,x1,x2,x3⟩:=HX1.out.cells;have htl:g.terms.length≤g.top:=by unfold Gm.top;omega
 have HS:=Ha (show ∀ X,Below w1.heap.size w1 X→X.cell? ⟨w.heap.size,0,none⟩=some (.slice A0 g.terms.length c0)∧X.cell? ⟨w.heap.size,1,none⟩=some (.slice A1 g.nons.length c1)∧X.cell? ⟨w.heap.size,2,none⟩=some (.slice A2 g.rules.length c2)∧X.cell? ⟨w.heap.size,3,none⟩=some (.int .i64 g.start) from
  fun X hX=>⟨(HX1.out.on hX).x0,(HX1.out.on hX).x1,(HX1.out.on hX).x2,(HX1.out.on hX).x3⟩)
 have HC:=Ha (fun X (hX:Below w1.heap.size w1 X)=>(H3.out X _ g (HX1.out.on hX).old (HX1.out.on hX).gm (by omega)).mono fun e w' (hp:e=.returned (.int .i64 g.top)∧Below X.heap.size X w')=>gS hp (hX.trans (hp.2.mono hX.size)));have R0:=Ha (show Below w1.heap.size w1 w1.drew from (gR _ _).drew);go_wp2_with fail
 go_cut [3] (fun v3 wx=>Below w1.heap.size w1 wx∧∃ bz,v3=.pointer (some ⟨bz,0,none⟩)∧wx.heap[bz]? = some (.cells #[.int .i64 g.terms.length,.int .i64 g.top] 327 (0,0)))
 case first=>
  go_region_held3 (fun X=>X.cell? ⟨w.heap.size,0,none⟩=some (.slice A0 g.terms.length c0)∧X.cell? ⟨w.heap.size,1,none⟩=some (.slice A1 g.nons.length c1)∧X.cell? ⟨w.heap.size,2,none⟩=some (.slice A2 g.rules.length c2)∧X.cell? ⟨w.heap.size,3,none⟩=some (.int .i64 g.start))
   (exact HS.out _ (by first | exact R0.out | exact bW | exact R0.out.alloc (by simp) _ | exact Below.alloc bW bW.size _ | exact ((R0.out.alloc (by simp) _).setCell (by simp) _).setCell (by simp) _ | exact ((Below.alloc bW bW.size _).setCell bW.size _).setCell bW.size _ | exact ((bW).setCell (by simp) _).setCell (by simp) _))
   (first
    | (go_at_call 86
       with_reducible refine Calls.mono (HC.out w1.drew R0.out) ?_
       rintro e wR ⟨⟨rfl, bR⟩, bW⟩;dsimp only)
    | (go_at_call 86
       refine Calls.mono (HC.out _ (R0.out.alloc (by simp) _)) ?_;rintro e wR ⟨⟨rfl, bR⟩, bW⟩;have hbx := (bR.block w1.heap.size (by simp)).trans (aC w1.drew _);obtain ⟨s0, s1, g0, g1⟩ := aM hbx rfl;dsimp only))
  all_goals
   go_wp2_with fail
   go_meet
   first
    | exact ⟨bW.alloc bW.size _,_,rfl,aC _ _⟩
    | (obtain ⟨q2, e2, s2, b2⟩ := k5 hbx (.int .i64 g.terms.length) (.int .i64 g.top)
       exact ⟨b2 _ _ (gO _) bW, _, rfl, q2⟩)
 case rest=>
  obtain ⟨bc,bz,rfl,qz⟩:=hcut;obtain ⟨n,hn⟩:∃ n:Nat,n=g.terms.length+1:=⟨_,rfl⟩;obtain ⟨m,hm⟩:∃ m:Nat,m=g.top+1:=⟨_,rfl⟩;have hn1:IntKind.i64.wrap ((g.terms.length:Int)+1)=(n:Int):=by rw [hn];exact IntWalk.i64_in _ (by omega)
  have hm1:IntKind.i64.wrap ((g.top:Int)+1)=(m:Int):=by rw [hm];exact IntWalk.i64_in _ (by omega)
  obtain ⟨HNM,HBC,HXC,HQC,HN,HZ,RC⟩:=Zh7 (show n=g.terms.length+1∧m=g.top+1∧n≤m∧1≤n∧m≤64 from ⟨hn,hm,by omega,by omega,by omega⟩) (HB1.out.trans (bc.mono HB1.out.size)) (HX1.out.on bc) ((bc.block w.heap.size HX1.out.lt).trans HQ1.out) (r6 m wc.drew (by omega) (by omega)) (show ∀ X,Below wc.heap.size wc X→X.cell? ⟨bz,0,none⟩=some (.int .i64 g.terms.length)∧X.cell? ⟨bz,1,none⟩=some (.int .i64 g.top) from fun X hX=>⟨aD (aA qz 0 _ rfl) hX,aD (aA qz 1 _ rfl) hX⟩) (show Below wc.heap.size wc wc.drew from (gR _ _).drew);clear hn hm bc x0 x1 x2 x3 HC HS;go_wp2_with fail;refine aE.start 21 (fun X=>X.cell? ⟨bz,0,none⟩=some (.int .i64 g.terms.length)∧X.cell? ⟨bz,1,none⟩=some (.int .i64 g.top)) (by kernel_rfl) ?hs_1 (fun hHeld=>?hr_1)
  case hs_1=>exact HZ.out _ RC.out
  refine aE.tks [0,1,2,3,5,6,7,8,9,10,12,13,14,15,16,17] ?_ (by kernel_rfl) (by assumption)
  iterate 16
   refine aK.cons ?_ (by rfl) (by rfl) (by intro w h;(try dsimp only at h);simp only [gA,gB,gC];go_simp;try with_reducible rfl) (by exact fun _ _ _ h=>h);simp only [gA,gB,gC,Act.put,gD,gE,gF]
  show aE _ _ _ _ _ _ _ _ _ _;refine aE.one (i:=4) (by kernel_rfl) rfl fun K hK=>?_;simp only [gA,gB,gC]
  go_simp
  with_reducible refine Calls.mono HN.out ?_
  rintro e w3 ⟨⟨bE,bwE,rfl,hbE,hbwE,hE⟩,hb3⟩;obtain ⟨HB3,HE3,HF4⟩:=Zh3 (RC.out.trans hb3) hE (uV m n w3 HNM.out.2.2.2.1 (by have:=HNM.out;omega) (by have:=HNM.out;omega));have hbwE':wc.heap.size≤bwE:=hbwE;have HBE:=Ha hbwE';clear hbE hbwE hE hb3 hbwE';dsimp only;refine hK.out _ _ ?_ (fun hHeld=>?_)
  ·exact HZ.out _ HB3.out
  clear hK K;try simp only [Act.put,gD,gE,gF]
  refine aE.one (i:=11) (by kernel_rfl) rfl fun K hK=>?_;simp only [gA,gB,gC]
  go_simp
  with_reducible refine Calls.mono HF4.out ?_
  rintro e w4 ⟨⟨v4,ps,rfl,hlp,hrp,hsp⟩,hb4⟩;obtain ⟨P1,d1,rfl,_⟩:=hrp.shape;obtain ⟨HB4,HE4,HRP,HLP,HSP,HF5,HS34⟩:=Zh7 (HB3.out.trans (hb4.mono HB3.out.size)) (HE3.out.below hb4) hrp hlp hsp (uV m n w4 HNM.out.2.2.2.1 (by have:=HNM.out;omega) (by have:=HNM.out;omega)) (show w3.heap.size≤w4.heap.size∧bwE<w3.heap.size from ⟨hb4.size,HE3.out.lt.2⟩);clear hlp hrp hsp hb4;dsimp only;refine hK.out _ _ ?_ (fun hHeld=>?_)
  ·exact HZ.out _ HB4.out
  clear hK K;try simp only [Act.put,gD,gE,gF]
  refine aE.one (i:=18) (by kernel_rfl) rfl fun K hK=>?_;simp only [gA,gB,gC]
  go_simp
  with_reducible refine Calls.mono HF5.out ?_
  rintro e w5 ⟨⟨v5,qs,rfl,hlq,hrq,hsq⟩,hb5⟩;obtain ⟨P2,d2,rfl,_⟩:=hrq.shape;obtain ⟨HB5,HE5,HRP5,HSP5,HRQ,HLQ,HSQ⟩:=Zh7 (HB4.out.trans (hb5.mono HB4.out.size)) (HE4.out.below hb5) (HRP.out.below hb5) (show ∀ p∈ps,w3.heap.size≤p.2∧BSet w5 p.1 p.2 n 0 from fun p hp=>⟨(HSP.out p hp).1,(HSP.out p hp).2.below hb5⟩) hrq hlq hsq;clear hlq hrq hsq hb5;dsimp only;refine hK.out _ _ ?_ (fun hHeld=>?_)
  ·exact HZ.out _ HB5.out
  clear hK K;try simp only [Act.put,gD,gE,gF]
  refine aE.tks [19] ?_ (by kernel_rfl) (by assumption)
  iterate 1
   refine aK.cons ?_ (by rfl) (by rfl) (by intro w h;(try dsimp only at h);simp only [gA,gB,gC];go_simp;try with_reducible rfl) (by exact fun _ _ _ h=>h);simp only [gA,gB,gC,Act.put,gD,gE,gF]
  show aE _ _ _ _ _ _ _ _ _ _;refine aE.one (i:=20) (by kernel_rfl) rfl fun K hK=>?_;simp only [gA,gB,gC]
  go_simp
  have HB6:=Ha (HB5.out.alloc HB5.out.size (.cells #[.int .i64 g.terms.length,.int .i64 g.top,.pointer (some ⟨bE,0,none⟩),.slice P1 ps.length d1,.slice P2 qs.length d2] 330));have hb6:Below w5.heap.size w5 (w5.alloc (.cells #[.int .i64 g.terms.length,.int .i64 g.top,.pointer (some ⟨bE,0,none⟩),.slice P1 ps.length d1,.slice P2 qs.length d2] 330)):=(gR _ _).alloc (gO _) _;have q6:=aC w5 (.cells #[.int .i64 g.terms.length,.int .i64 g.top,.pointer (some ⟨bE,0,none⟩),.slice P1 ps.length d1,.slice P2 qs.length d2] 330);generalize hW6:w5.alloc (.cells #[.int .i64 g.terms.length,.int .i64 g.top,.pointer (some ⟨bE,0,none⟩),.slice P1 ps.length d1,.slice P2 qs.length d2] 330)=W6 at *;have hfs:Fz W6 w5.heap.size m n bE bwE P1 d1 P2 d2 ps qs:=by
   have h1:=HNM.out;refine ⟨?_,⟨0,HE5.out.below hb6⟩, ?_, ?_,HLP.out,HLQ.out,(fun p hp=>⟨0,(HSP5.out p hp).2.below hb6⟩),(fun p hp=>⟨0,(HSQ.out p hp).2.below hb6⟩),(fun p hp=>by have:=(HSP5.out p hp).1;have:=HS34.out;omega),(fun p hp=>by have:=(HSQ.out p hp).1;have:=HS34.out;omega),h1.2.2.2.1,h1.2.2.1⟩
   ·rw [q6,HLP.out,HLQ.out,show (g.terms.length:Int)=(n:Int)-1 by omega,show (g.top:Int)=(m:Int)-1 by omega]
   ·have:=(HRP5.out.below hb6).look (G:=TB 68 W6) fun k hk=>((HRP5.out.below hb6).tb hk).2
    rwa [HLP.out] at this
   ·have:=(HRQ.out.below hb6).look (G:=TB 68 W6) fun k hk=>((HRQ.out.below hb6).tb hk).2
    rwa [HLQ.out] at this
  obtain ⟨HFS,HBW6,HPB,HX6,HEW,HLP6⟩:=Zh6 hfs (HBC.out.trans (HB6.out.mono HBC.out.size)) (show (∀ p∈ps,w.heap.size≤p.2)∧∀ p∈qs,w.heap.size≤p.2 from ⟨fun p hp=>by have:=(HSP5.out p hp).1;have:=HBC.out.size;have:=HB3.out.size;omega,fun p hp=>by have:=(HSQ.out p hp).1;have:=HBC.out.size;have:=HB3.out.size;have:=HS34.out;omega⟩) (HXC.out.on HB6.out) (show w.heap.size≤bwE from by have:=HBE.out;have:=HBC.out.size;omega) HLP.out;clear q6 hb6 hfs hW6;refine hK.out _ _ ?_ (fun hHeld=>?_)
  ·exact HZ.out _ HB6.out
  clear hK K;try simp only [Act.put,gD,gE,gF]
  refine aE.last (by kernel_rfl) rfl fun K hK=>?_;simp only [gA,gB,gC]
  go_simp
  refine hK.out _ _ (aE.done (by kernel_rfl) ?_ _);go_wp2_with fail;have HTG:=Ha (show TB 25 W w.heap.size from ⟨_,by rw [← hW];exact aC _ _⟩);have HFJ:=Ha (show Fj w W w5.heap.size m n bE bwE P1 d1 P2 d2 ps qs W6 from ⟨HFS.out,HBW6.out,(HB6.out.block _ HXC.out.lt).trans HQC.out⟩);have HXS:=Ha (show ∀ wr,Fj w W w5.heap.size m n bE bwE P1 d1 P2 d2 ps qs wr→GBox G wr w.heap.size A0 c0 A1 c1 A2 c2 g from fun wr h=>HX.out.stay HG.out fun k hk=>by
   rcases Nat.lt_or_ge k w.heap.size with h1 | h1
   ·exact (h.bel.block k h1).trans (HB.out.block k h1).symm
   ·obtain rfl:k=w.heap.size:=by omega
    exact h.box)
  clear H2 H3 HN HF4 HF5 HE3 HE4 HE5 HRP HRP5 HSP HSP5 HRQ HSQ HB3 HB4 HB5 HS34 HLP HLQ HLP6 HBE HXC RC R0 HX1 HB1 HQ1 HQC HBC HX6 HFS HBW6 HB6 hHeld;generalize w5.heap.size=b at *;have hnb:n≤64:=by have:=HNM.out;omega
  have hmb:m≤64:=by have:=HNM.out;omega
  obtain ⟨J,hJ⟩:∃ J:World→Prop,J=Fj w W b m n bE bwE P1 d1 P2 d2 ps qs:=⟨_,rfl⟩;have HJ:=Ha hJ;clear hJ;have hJ0:=Ha (show J W6 by rw [HJ.out];exact HFJ.out)
  go_loopw [48] (fun iv wr=>∃ k:Nat,k≤n∧iv=.int .i64 k∧J wr) (fun iv _=>n-(intOf iv).toNat)
  case atStart=>exact ⟨0,by omega,rfl,hJ0.out⟩
  case round=>
   obtain ⟨k,hk,rfl,hj⟩:=hrel;rw [HJ.out] at hj;have HJR:=Ha hj;clear hj;obtain ⟨y0,y1,y2,y3,y4⟩:=HJR.out.fs.cells;by_cases hlt:k<n
   ·have hkp:k<ps.length:=by rw [HJR.out.fs.lp];have:=HNM.out;omega
    have hkm:k<m:=by have:=HNM.out;omega
    obtain ⟨X,hX⟩:=HJR.out.fs.sp _ (gN hkp);obtain ⟨bb,off,rfl,_,zp⟩:=mI HJR.out.fs.rp hkp;obtain ⟨HPU,HX0,HKK⟩:=Zh3 (sD _ _ n X k wr hX hlt) hX (show w.heap.size≤ps[k].2∧ps[k].2≠bwE from ⟨HPB.out.1 _ (gN hkp),HJR.out.fs.np _ (gN hkp)⟩);clear hX;go_wp2_with fail;refine (HPU.out).mono ?_;rintro e w7 ⟨rfl,hs7,hd7⟩;have HJ7:=Ha (HJR.out.wch HTG.out (WCh.one HX0.out hd7.chg hs7 (cG _ _) HKK.out));clear hs7 hd7 y0 y1 y2 y3 y4 zp;go_wp2_with fail
    go_roundw
    case rel=>exact ⟨k+1,by omega,by go_num,by rw [HJ.out];exact HJ7.out⟩
    case measure=>simp only [intOf];omega
   ·clear y0 y1 y2 y3 y4;go_wp2_with fail
    go_loopw [6] (fun mv wr=>∃ mo:Bool,mv=.bool mo∧J wr) (fun mv wr=>2*mE n m bwE ps wr+fF mv)
    case atStart=>exact ⟨true,rfl,by rw [HJ.out];exact HJR.out⟩
    case round=>
     obtain ⟨mo,rfl,hj⟩:=hrel;clear HJR;rw [HJ.out] at hj;have HJR:=Ha hj;have HXR:=Ha (HXS.out _ hj);clear hj;obtain ⟨x0,x1,x2,x3⟩:=HXR.out.cells;obtain ⟨y0,y1,y2,y3,y4⟩:=HJR.out.fs.cells;cases mo
     case false=>
      obtain ⟨st,hst⟩:∃ st:Nat,g.start=(st:Int):=⟨g.start.toNat,by have:=HW.out.kn.st;unfold Gm.N at this;omega⟩;have hstm:st<m:=by have h1:=HW.out.kn.st;have:=HNM.out;unfold Gm.N at h1;omega
      have hjd:=HJR.out.below HTG.out (gR _ _).drew;have hpx:st<qs.length:=by rw [hjd.fs.lq];exact hstm
      obtain ⟨p,hp⟩:∃ p,p=qs[st]:=⟨_,rfl⟩;have hmp:p∈qs:=hp▸gN hpx;obtain ⟨X,hX⟩:=hjd.fs.sq _ hmp;obtain ⟨bp,op,rfl,hTp,zp⟩:=mI hjd.fs.rq hpx;rw [← hp] at zp;have HPU:=Ha (sD p.1 p.2 n X 0 wr.drew hX (by have:=HNM.out;omega));have HKP:=Ha (show w.heap.size≤p.2∧p.2≠bwE from ⟨HPB.out.2 _ hmp,hjd.fs.nq _ hmp⟩);have HSS:=Ha (show ∀ Y,WCh n (fun k=>w.heap.size≤k∧k≠bwE) wr.drew Y→Y.cell? ⟨b,4,none⟩=some (.slice (some ⟨bp,op,none⟩) m d2)∧Y.cell? ⟨bp,op+st,none⟩=some (.pointer (some ⟨p.1,0,none⟩))∧Y.cell? ⟨w.heap.size,3,none⟩=some (.int .i64 st) from
       fun Y hY=>⟨(hjd.fs.wch hY fun h=>h.2 rfl).cells.2.2.2.2,hY.cell zp (hTp.not_wb (by decide)),by rw [← hst];exact (HXS.out _ (hjd.wch HTG.out hY)).x3⟩)
      have HJD:=Ha hjd;have HXX:=Ha hX;clear hst hjd hpx hp hmp hX hTp zp x0 x1 x2 x3 y0 y1 y2 y3 y4;go_wp2_with fail
      go_region_held3 (fun Y=>Y.cell? ⟨b,4,none⟩=some (.slice (some ⟨bp,op,none⟩) m d2)∧Y.cell? ⟨bp,op+st,none⟩=some (.pointer (some ⟨p.1,0,none⟩))∧Y.cell? ⟨w.heap.size,3,none⟩=some (.int .i64 st))
       (exact HSS.out _ (by first | exact WCh.refl _ _ _ | exact hw8))
       (first
        | (go_at_call 89
           with_reducible refine Calls.mono HPU.out ?_
           rintro e w8 ⟨rfl, hs8, hd8⟩;have hw8 := WCh.one (K := fun k => w.heap.size ≤ k ∧ k ≠ bwE) HXX.out hd8.chg hs8 (cG _ _) HKP.out;clear hs8 hd8;generalize (!X.testBit 0) = d8;dsimp only))
      have HJ8:=Ha (HJD.out.wch HTG.out hw8);clear hw8 HSS HPU HJD HXX;go_wp2_with fail
      go_loopw [11] (fun mv wr=>∃ mo:Bool,mv=.bool mo∧J wr) (fun mv wr=>2*aQ n wr qs+fF mv)
      case atStart=>exact ⟨true,rfl,by rw [HJ.out];exact HJ8.out⟩
      case round=>
       obtain ⟨mo,rfl,hj⟩:=hrel;clear HJ8;rw [HJ.out] at hj;have HJR:=Ha hj;have HXR:=Ha (HXS.out _ hj);clear hj;obtain ⟨x0,x1,x2,x3⟩:=HXR.out.cells;cases mo
       case false=>
        go_wp2_with fail;go_ret;have h1:=HJR.out;have h2:=HNM.out;refine ⟨⟨b,bE,bwE,P1,d1,some ⟨bp,op,none⟩,d2,ps,qs, ?_, ?_⟩,h1.bel⟩
        ·rfl
        ·rw [← h2.1,← h2.2.1];exact h1.fs
       case true=>
        obtain ⟨M0,hM0⟩:∃ M0,M0=aQ n wr qs:=⟨_,rfl⟩;have HM0:=Ha hM0;clear hM0;go_wp2_with fail
        go_loopw [11,115] (fun mv iv wq=>∃ (k:Nat) (mo:Bool),k≤g.rules.length∧iv=.int .i64 k∧mv=.bool mo∧J wq∧aQ n wq qs≤M0∧(mo=true→aQ n wq qs<M0)) (fun _ iv _=>g.rules.length-(intOf iv).toNat)
        case atStart=>exact ⟨0,false,by omega,rfl,rfl,by rw [HJ.out];exact HJR.out,Nat.le_of_eq HM0.out.symm,fun h=>(by cases h)⟩
        case round=>
         obtain ⟨k,mo,hk,rfl,rfl,hj,hle,hlt2⟩:=hrel;rw [HJ.out] at hj;obtain ⟨HJQ,HLE,HLT,HXQ⟩:=Zh4 hj hle hlt2 (HXS.out _ hj);clear hj hle hlt2 x0 x1 x2 x3;by_cases hlt:k<g.rules.length
         ·obtain ⟨bb,off,Ak,ck,rfl,z0,z1,zi⟩:=HXQ.out.rule hlt;obtain ⟨x0,x1,x2,x3⟩:=HXQ.out.cells;have hmem:=gN hlt;have hb2:Below wr.heap.size wr (wr.alloc (.cells #[.int .i64 g.rules[k].1,.slice Ak g.rules[k].2.length ck] 64)):=(gR _ _).alloc (gO _) _;have q2:=aC wr (.cells #[.int .i64 g.rules[k].1,.slice Ak g.rules[k].2.length ck] 64);obtain ⟨xl,hxl⟩:∃ xl:Nat,g.rules[k].1=(xl:Int):=⟨g.rules[k].1.toNat,by have:=HW.out.kn.left _ hmem;unfold Gm.N at this;omega⟩;have hxm:xl<m:=by have h1:=HW.out.kn.left _ hmem;have:=HNM.out;unfold Gm.N at h1;omega
          rw [hxl] at hb2 q2 z0;have HMEM:=Ha hmem;clear hxl hmem;generalize hWA:wr.alloc (.cells #[.int .i64 xl,.slice Ak g.rules[k].2.length ck] 64)=wa at *;have HJA:=Ha (HJQ.out.below HTG.out hb2);have hia:aF G wa (.slice Ak g.rules[k].2.length ck) g.rules[k].2:=aF.below HXQ.out.old hb2 zi;have HRU:=Ha (IU G wa w.heap.size b m n bE bwE _ _ _ _ ps qs xl Ak ck g.rules[k].2 HJA.out.fs HPB.out.2 HG.out HJA.out.bel.size hia (fun s hs=>by
           have h1:=fO (HW.out.kn.right _ HMEM.out s hs);have h2:=Gm.mem_T_le (HW.out.kn.right _ HMEM.out s hs);have:=HNM.out;omega) hxm)
          have HRA:=Ha (eU HJQ.out.fs.sq hb2);obtain ⟨r0,r1,_,_⟩:=aM q2 rfl;clear hb2 q2 zi hia;go_wp2_with fail
          with_reducible refine Calls.mono HRU.out ?_
          rintro e w3 ⟨⟨dd,rfl,hdd⟩,hw3⟩;have HJ3:=Ha (HJA.out.wch HTG.out hw3);have HD3:=Ha (show aQ n w3 qs≤aQ n wr qs∧(dd=true→aQ n w3 qs<aQ n wr qs) from by
           have h1:=dF HJA.out.fs.sq hw3;have h2:=HRA.out;exact ⟨by omega,fun h=>by have:=hdd h;omega⟩)
          have HRF:=Ha (show (mo||dd)=true→aQ n w3 qs<M0 from fun h=>by
           have h1:=HLE.out;have h2:=HD3.out.1;rcases Bool.or_eq_true_iff.1 h with h | h
           ·have:=HLT.out h;omega
           ·have:=HD3.out.2 h;omega)
          have HRL:=Ha (show aQ n w3 qs≤M0 from gP HD3.out.1 HLE.out);clear hdd hw3 r0 r1;cases mo
          ·go_wp2_with fail
           go_roundw
           case rel=>exact ⟨k+1,false||dd,by omega,by go_num,rfl,by rw [HJ.out];exact HJ3.out,HRL.out,HRF.out⟩
           case measure=>simp only [intOf];omega
          ·go_wp2_with fail
           go_roundw
           case rel=>exact ⟨k+1,true||dd,by omega,by go_num,rfl,by rw [HJ.out];exact HJ3.out,HRL.out,HRF.out⟩
           case measure=>simp only [intOf];omega
         ·obtain ⟨x0,x1,x2,x3⟩:=HXQ.out.cells;cases mo
          ·go_wp2_with fail
           go_roundw
           case rel=>exact ⟨false,rfl,by rw [HJ.out];exact HJQ.out⟩
           case measure=>have:=HLE.out;have:=HM0.out;simp only [fF];omega
          ·go_wp2_with fail
           go_roundw
           case rel=>exact ⟨true,rfl,by rw [HJ.out];exact HJQ.out⟩
           case measure=>have:=HLT.out rfl;have:=HM0.out;simp only [fF];omega
     case true=>
      obtain ⟨M0,hM0⟩:∃ M0,M0=mE n m bwE ps wr:=⟨_,rfl⟩;have HM0:=Ha hM0;clear hM0;go_wp2_with fail
      go_loopw [6,65] (fun mv iv wq=>∃ (k:Nat) (mo:Bool),k≤g.rules.length∧iv=.int .i64 k∧mv=.bool mo∧J wq∧mE n m bwE ps wq≤M0∧(mo=true→mE n m bwE ps wq<M0)) (fun _ iv _=>g.rules.length-(intOf iv).toNat)
      case atStart=>exact ⟨0,false,by omega,rfl,rfl,by rw [HJ.out];exact HJR.out,Nat.le_of_eq HM0.out.symm,fun h=>(by cases h)⟩
      case round=>
       obtain ⟨k,mo,hk,rfl,rfl,hj,hle,hlt2⟩:=hrel;rw [HJ.out] at hj;obtain ⟨HJQ,HLE,HLT,HXQ⟩:=Zh4 hj hle hlt2 (HXS.out _ hj);clear hj hle hlt2 x0 x1 x2 x3 y0 y1 y2 y3 y4;by_cases hlt:k<g.rules.length
       ·obtain ⟨bb,off,Ak,ck,rfl,z0,z1,zi⟩:=HXQ.out.rule hlt;obtain ⟨x0,x1,x2,x3⟩:=HXQ.out.cells;have hmem:=gN hlt;have hb2:Below wr.heap.size wr (wr.alloc (.cells #[.int .i64 g.rules[k].1,.slice Ak g.rules[k].2.length ck] 64)):=(gR _ _).alloc (gO _) _;have q2:=aC wr (.cells #[.int .i64 g.rules[k].1,.slice Ak g.rules[k].2.length ck] 64);obtain ⟨xl,hxl⟩:∃ xl:Nat,g.rules[k].1=(xl:Int):=⟨g.rules[k].1.toNat,by have:=HW.out.kn.left _ hmem;unfold Gm.N at this;omega⟩;have hxm:xl<m:=by have h1:=HW.out.kn.left _ hmem;have:=HNM.out;unfold Gm.N at h1;omega
        rw [hxl] at hb2 q2 z0;have HMEM:=Ha hmem;clear hxl hmem;generalize hWA:wr.alloc (.cells #[.int .i64 xl,.slice Ak g.rules[k].2.length ck] 64)=wa at *;have HJA:=Ha ((HJQ.out.below HTG.out hb2).below HTG.out (gR _ _).drew);have hqa:wa.drew.heap[wr.heap.size]? = some (.cells #[.int .i64 xl,.slice Ak g.rules[k].2.length ck] 64 (0,0)):=q2;have HQA:=Ha hqa;have hia:aF G wa.drew (.slice Ak g.rules[k].2.length ck) g.rules[k].2:=aF.below HXQ.out.old hb2.drew zi;have hpx:xl<ps.length:=by rw [HJA.out.fs.lp];exact hxm
        obtain ⟨p,hp⟩:∃ p,p=ps[xl]:=⟨_,rfl⟩;have hmp:p∈ps:=hp▸gN hpx;obtain ⟨X,hX⟩:=HJA.out.fs.sp _ hmp;obtain ⟨bp,op,rfl,hTp,zp⟩:=mI HJA.out.fs.rp hpx;rw [← hp] at zp;have HLN:=Ha (tI G wa.drew b m n bE bwE _ _ _ _ ps qs _ _ X Ak ck g.rules[k].2 HJA.out.fs hX (HJA.out.fs.np _ hmp) (fun j hj=>⟨gK (HXQ.out.old j hj) hb2.size,fun e=>by have h1:=HPB.out.1 _ hmp;have h2:=HG.out _ hj;omega⟩) hia (fun s hs=>by
         have h1:=fO (HW.out.kn.right _ HMEM.out s hs);have h2:=Gm.mem_T_le (HW.out.kn.right _ HMEM.out s hs);have:=HNM.out;omega))
        have HSS:=Ha (show ∀ Y,WCh n (fun k=>w.heap.size≤k∧k≠bwE) wa.drew Y→Y.cell? ⟨b,3,none⟩=some (.slice (some ⟨bp,op,none⟩) m d1)∧Y.cell? ⟨bp,op+xl,none⟩=some (.pointer (some ⟨p.1,0,none⟩))∧Y.cell? ⟨wr.heap.size,0,none⟩=some (.int .i64 xl)∧Y.cell? ⟨wr.heap.size,1,none⟩=some (.slice Ak g.rules[k].2.length ck) from
         fun Y hY=>⟨(HJA.out.fs.wch hY fun h=>h.2 rfl).cells.2.2.2.1,hY.cell zp (hTp.not_wb (by decide)),hY.cell (aA HQA.out 0 _ rfl) (TB.not_wb (T:=64) ⟨_,HQA.out⟩ (by decide)),hY.cell (aA HQA.out 1 _ rfl) (TB.not_wb (T:=64) ⟨_,HQA.out⟩ (by decide))⟩)
        have HKP:=Ha (show w.heap.size≤p.2∧p.2≠bwE from ⟨HPB.out.1 _ hmp,HJA.out.fs.np _ hmp⟩);have HXX:=Ha hX;have HMP:=Ha hmp;have HRA:=Ha (show mE n m bwE ps wa.drew=mE n m bwE ps wr from by
         obtain ⟨XE,hE⟩:=HJQ.out.fs.e;unfold mE;rw [eU HJQ.out.fs.sp hb2.drew,zR hE hb2.drew])
        clear hb2 q2 zi hqa hia hpx hp hmp hX hTp zp x1 x3;go_wp2_with fail;refine aE.start 16 (fun Y=>Y.cell? ⟨b,3,none⟩=some (.slice (some ⟨bp,op,none⟩) m d1)∧Y.cell? ⟨bp,op+xl,none⟩=some (.pointer (some ⟨p.1,0,none⟩))∧Y.cell? ⟨wr.heap.size,0,none⟩=some (.int .i64 xl)∧Y.cell? ⟨wr.heap.size,1,none⟩=some (.slice Ak g.rules[k].2.length ck)) (by kernel_rfl) ?hs_2 (fun hHeld=>?hr_2)
        case hs_2=>exact HSS.out _ (WCh.refl _ _ _)
        refine aE.tks [0,1,2,3,4,5,6,7,8,9,10] ?_ (by kernel_rfl) (by assumption)
        iterate 11
         refine aK.cons ?_ (by rfl) (by rfl) (by intro w h;(try dsimp only at h);simp only [gA,gB,gC];go_simp;try with_reducible rfl) (by exact fun _ _ _ h=>h);simp only [gA,gB,gC,Act.put,gD,gE,gF]
        show aE _ _ _ _ _ _ _ _ _ _;refine aE.one (i:=11) (by kernel_rfl) rfl fun K hK=>?_;simp only [gA,gB,gC]
        go_simp
        with_reducible refine Calls.mono HLN.out ?_
        rintro e w2 ⟨all,X',rfl,hle,hx2,hc2⟩;have HW2:=Ha (WCh.one (K:=fun k=>w.heap.size≤k∧k≠bwE) HXX.out hc2 hx2 hle HKP.out);have HJ2:=Ha (HJA.out.wch HTG.out HW2.out);have HD1:=Ha (show mE n m bwE ps w2≤mE n m bwE ps wr∧(decide (X'≠X)=true→mE n m bwE ps w2<mE n m bwE ps wr) from by
         obtain ⟨XE,hE⟩:=HJA.out.fs.e;have h1:=hE.keepC hc2 (HXX.out.box_ne hE) (fun e=>HKP.out.2 e.symm);have h2:=HRA.out;have h3:=dF HJA.out.fs.sp HW2.out;unfold mE at h2 ⊢;rw [hE.wd] at h2;rw [h1.wd];refine ⟨by omega,fun h=>?_⟩;have:=jJ HJA.out.fs.sp HW2.out ⟨p,HMP.out,by rw [HXX.out.wd,hx2.wd];have:=of_decide_eq_true h;omega⟩;omega)
        clear hle hx2 hc2
        revert HD1
        generalize decide (X'≠X)=dd;intro HD1;dsimp only;refine hK.out _ _ ?_ (fun hHeld=>?_)
        ·exact HSS.out _ HW2.out
        clear hK K;try simp only [Act.put,gD,gE,gF]
        refine aE.tks [12,13,14,15] ?_ (by kernel_rfl) (by assumption)
        iterate 4
         refine aK.cons ?_ (by rfl) (by rfl) (by intro w h;(try dsimp only at h);simp only [gA,gB,gC];go_simp;try with_reducible rfl) (by exact fun _ _ _ h=>h);simp only [gA,gB,gC,Act.put,gD,gE,gF]
        show aE _ _ _ _ _ _ _ _ _ _;cases all
        case false=>
         have HJD:=Ha (HJ2.out.below HTG.out (gR _ _).drew);have HRF:=Ha (show (mo||dd)=true→mE n m bwE ps w2.drew<M0 from fun h=>by
          have h1:=HLE.out;have h2:mE n m bwE ps w2.drew=mE n m bwE ps w2:=rfl;rcases Bool.or_eq_true_iff.1 h with h | h
          ·have:=HLT.out h;have:=HD1.out.1;omega
          ·have:=HD1.out.2 h;omega)
         have HRL:=Ha (show mE n m bwE ps w2.drew≤M0 from gP (show mE n m bwE ps w2.drew≤mE n m bwE ps wr from HD1.out.1) HLE.out);refine aE.last (by kernel_rfl) rfl fun K hK=>?_;simp only [gA,gB,gC]
         go_simp
         refine hK.out _ _ (aE.done (by kernel_rfl) ?_ _);go_wp2_with fail;refine aE.start 13 (fun _=>True) (by kernel_rfl) ?hs_3 (fun hHeld=>?hr_3)
         case hs_3=>exact trivial
         refine aE.tks [0,1] ?_ (by kernel_rfl) (by assumption)
         iterate 2
          refine aK.cons ?_ (by rfl) (by rfl) (by intro w h;(try dsimp only at h);simp only [gA,gB,gC];go_simp;try with_reducible rfl) (by exact fun _ _ _ h=>h);simp only [gA,gB,gC,Act.put,gD,gE,gF]
         show aE _ _ _ _ _ _ _ _ _ _;refine aE.take (i:=2) (oi:=_) (v:=undef) rfl (by kernel_rfl) (by kernel_rfl) (by kernel_rfl) (by kernel_rfl) (fun _ _ _ h=>h) (Or.inr ⟨by rfl,rfl⟩) (by assumption) ?_;simp only [gA,gB,gC,Act.put,gD,gE,gF];refine aE.take (i:=3) (oi:=_) (v:=undef) rfl (by kernel_rfl) (by kernel_rfl) (by kernel_rfl) (by kernel_rfl) (fun _ _ _ h=>h) (Or.inr ⟨by rfl,rfl⟩) (by assumption) ?_;simp only [gA,gB,gC,Act.put,gD,gE,gF];refine aE.take (i:=4) (oi:=_) (v:=undef) rfl (by kernel_rfl) (by kernel_rfl) (by kernel_rfl) (by kernel_rfl) (fun _ _ _ h=>h) (Or.inr ⟨by rfl,rfl⟩) (by assumption) ?_;simp only [gA,gB,gC,Act.put,gD,gE,gF];refine aE.take (i:=5) (oi:=_) (v:=undef) rfl (by kernel_rfl) (by kernel_rfl) (by kernel_rfl) (by kernel_rfl) (fun _ _ _ h=>h) (Or.inr ⟨by rfl,rfl⟩) (by assumption) ?_;simp only [gA,gB,gC,Act.put,gD,gE,gF];refine aE.take (i:=6) (oi:=_) (v:=undef) rfl (by kernel_rfl) (by kernel_rfl) (by kernel_rfl) (by kernel_rfl) (fun _ _ _ h=>h) (Or.inr ⟨by rfl,rfl⟩) (by assumption) ?_;simp only [gA,gB,gC,Act.put,gD,gE,gF];refine aE.take (i:=7) (oi:=_) (v:=undef) rfl (by kernel_rfl) (by kernel_rfl) (by kernel_rfl) (by kernel_rfl) (fun _ _ _ h=>h) (Or.inr ⟨by rfl,rfl⟩) (by assumption) ?_;simp only [gA,gB,gC,Act.put,gD,gE,gF];refine aE.take (i:=8) (oi:=_) (v:=undef) rfl (by kernel_rfl) (by kernel_rfl) (by kernel_rfl) (by kernel_rfl) (fun _ _ _ h=>h) (Or.inr ⟨by rfl,rfl⟩) (by assumption) ?_;simp only [gA,gB,gC,Act.put,gD,gE,gF];refine aE.tks [9,10,11,12] ?_ (by kernel_rfl) (by assumption)
         iterate 4
          refine aK.cons ?_ (by rfl) (by rfl) (by intro w h;(try dsimp only at h);simp only [gA,gB,gC];go_simp;try with_reducible rfl) (by exact fun _ _ _ h=>h);simp only [gA,gB,gC,Act.put,gD,gE,gF]
         show aE _ _ _ _ _ _ _ _ _ _;cases mo
         ·refine aE.last (by kernel_rfl) rfl fun K hK=>?_;simp only [gA,gB,gC]
          go_simp
          refine hK.out _ _ (aE.done (by kernel_rfl) ?_ _);go_wp2_with fail
          go_roundw
          case rel=>exact ⟨k+1,false||dd,by omega,by go_num,rfl,by rw [HJ.out];exact HJD.out,HRL.out,HRF.out⟩
          case measure=>simp only [intOf];omega
         ·refine aE.last (by kernel_rfl) rfl fun K hK=>?_;simp only [gA,gB,gC]
          go_simp
          refine hK.out _ _ (aE.done (by kernel_rfl) ?_ _);go_wp2_with fail
          go_roundw
          case rel=>exact ⟨k+1,true||dd,by omega,by go_num,rfl,by rw [HJ.out];exact HJD.out,HRL.out,HRF.out⟩
          case measure=>simp only [intOf];omega
        case true=>
         have hjd:=HJ2.out.below HTG.out (gR _ _).drew;obtain ⟨XE,hE⟩:=hjd.fs.e;have HPU:=Ha (sD bE bwE m XE xl w2.drew hE hxm);have HSE:=Ha (show ∀ Y,Chg (· = bwE) w2.drew Y→Y.cell? ⟨b,2,none⟩=some (.pointer (some ⟨bE,0,none⟩))∧Y.cell? ⟨wr.heap.size,0,none⟩=some (.int .i64 xl) from
          fun Y hY=>⟨hY.cell hjd.fs.cells.2.2.1 (fun e=>TB.not_wb (T:=330) ⟨_,hjd.fs.box⟩ (by decide) ((show b=bwE from e)▸hE.wb)),hY.cell (HSS.out _ HW2.out).2.2.1 (fun e=>by
           have h1:=HJ2.out.bel.size;have h3:TB 64 w2.drew wr.heap.size:=TB.of_eq (w:=wa.drew) ⟨_,HQA.out⟩ (HW2.out.chg.same _ (TB.lt (w:=wa.drew) ⟨_,HQA.out⟩) fun h=>TB.not_wb (w:=wa.drew) ⟨_,HQA.out⟩ (by decide) h.2);exact h3.not_wb (by decide) ((show wr.heap.size=bwE from e)▸hE.wb))⟩)
         have HJD:=Ha hjd;have HEE:=Ha hE;clear hjd hE;refine aE.last (by kernel_rfl) rfl fun K hK=>?_;simp only [gA,gB,gC]
         go_simp
         refine hK.out _ _ (aE.done (by kernel_rfl) ?_ _);go_wp2_with fail;refine aE.start 13 (fun Y=>Y.cell? ⟨b,2,none⟩=some (.pointer (some ⟨bE,0,none⟩))∧Y.cell? ⟨wr.heap.size,0,none⟩=some (.int .i64 xl)) (by kernel_rfl) ?hs_4 (fun hHeld=>?hr_4)
         case hs_4=>exact HSE.out _ (Chg.refl _ _)
         refine aE.tks [0,1,2,3,4,5,6,7] ?_ (by kernel_rfl) (by assumption)
         iterate 8
          refine aK.cons ?_ (by rfl) (by rfl) (by intro w h;(try dsimp only at h);simp only [gA,gB,gC];go_simp;try with_reducible rfl) (by exact fun _ _ _ h=>h);simp only [gA,gB,gC,Act.put,gD,gE,gF]
         show aE _ _ _ _ _ _ _ _ _ _;refine aE.one (i:=8) (by kernel_rfl) rfl fun K hK=>?_;simp only [gA,gB,gC]
         go_simp
         with_reducible refine Calls.mono HPU.out ?_
         rintro e w3 ⟨rfl,hs3,hd3⟩;have HC3:=Ha hd3.chg;have HJ3:=Ha (HJD.out.putE HTG.out HEW.out HEE.out hd3.chg hs3);have HD3:=Ha (show mE n m bwE ps w3≤mE n m bwE ps w2∧((!XE.testBit xl)=true→mE n m bwE ps w3<mE n m bwE ps w2) from by
          have h2:mE n m bwE ps w2.drew=mE n m bwE ps w2:=rfl;rw [← h2];unfold mE;rw [HJD.out.fs.room_putE hd3.chg,HEE.out.wd,hs3.wd];refine ⟨by have:=cG XE (2 ^ xl);omega,fun h=>?_⟩;have:=xO (X:=XE) (i:=xl) (by simpa using h);have:=hs3.hX;omega)
         clear hs3 hd3
         revert HD3
         generalize (!XE.testBit xl)=d3;intro HD3;have HRF:=Ha (show (mo||(d3||dd))=true→mE n m bwE ps w3<M0 from fun h=>by
          have h1:=HLE.out;have h2:=HD1.out.1;have h3:=HD3.out.1;rcases Bool.or_eq_true_iff.1 h with h | h
          ·have:=HLT.out h;omega
          ·rcases Bool.or_eq_true_iff.1 h with h | h
           ·have:=HD3.out.2 h;omega
           ·have:=HD1.out.2 h;omega)
         have HRL:=Ha (show mE n m bwE ps w3≤M0 from by have h1:=HLE.out;have h2:=HD1.out.1;have h3:=HD3.out.1;omega);dsimp only;refine hK.out _ _ ?_ (fun hHeld=>?_)
         ·exact HSE.out _ HC3.out
         clear hK K;try simp only [Act.put,gD,gE,gF]
         refine aE.tks [9,10] ?_ (by kernel_rfl) (by assumption)
         iterate 2
          refine aK.cons ?_ (by rfl) (by rfl) (by intro w h;(try dsimp only at h);simp only [gA,gB,gC];go_simp;try with_reducible rfl) (by exact fun _ _ _ h=>h);simp only [gA,gB,gC,Act.put,gD,gE,gF]
         show aE _ _ _ _ _ _ _ _ _ _;cases d3
         ·refine aE.tks [11,12] ?_ (by kernel_rfl) (by assumption)
          iterate 2
           refine aK.cons ?_ (by rfl) (by rfl) (by intro w h;(try dsimp only at h);simp only [gA,gB,gC];go_simp;try with_reducible rfl) (by exact fun _ _ _ h=>h);simp only [gA,gB,gC,Act.put,gD,gE,gF]
          show aE _ _ _ _ _ _ _ _ _ _;cases mo
          ·refine aE.last (by kernel_rfl) rfl fun K hK=>?_;simp only [gA,gB,gC]
           go_simp
           refine hK.out _ _ (aE.done (by kernel_rfl) ?_ _);go_wp2_with fail
           go_roundw
           case rel=>exact ⟨k+1,false||(false||dd),by omega,by go_num,rfl,by rw [HJ.out];exact HJ3.out,HRL.out,HRF.out⟩
           case measure=>simp only [intOf];omega
          ·refine aE.last (by kernel_rfl) rfl fun K hK=>?_;simp only [gA,gB,gC]
           go_simp
           refine hK.out _ _ (aE.done (by kernel_rfl) ?_ _);go_wp2_with fail
           go_roundw
           case rel=>exact ⟨k+1,true||(false||dd),by omega,by go_num,rfl,by rw [HJ.out];exact HJ3.out,HRL.out,HRF.out⟩
           case measure=>simp only [intOf];omega
         ·refine aE.take (i:=11) (oi:=_) (v:=undef) rfl (by kernel_rfl) (by kernel_rfl) (by kernel_rfl) (by kernel_rfl) (fun _ _ _ h=>h) (Or.inr ⟨by rfl,rfl⟩) (by assumption) ?_;simp only [gA,gB,gC,Act.put,gD,gE,gF];refine aE.tks [12] ?_ (by kernel_rfl) (by assumption)
          iterate 1
           refine aK.cons ?_ (by rfl) (by rfl) (by intro w h;(try dsimp only at h);simp only [gA,gB,gC];go_simp;try with_reducible rfl) (by exact fun _ _ _ h=>h);simp only [gA,gB,gC,Act.put,gD,gE,gF]
          show aE _ _ _ _ _ _ _ _ _ _;cases mo
          ·refine aE.last (by kernel_rfl) rfl fun K hK=>?_;simp only [gA,gB,gC]
           go_simp
           refine hK.out _ _ (aE.done (by kernel_rfl) ?_ _);go_wp2_with fail
           go_roundw
           case rel=>exact ⟨k+1,false||(true||dd),by omega,by go_num,rfl,by rw [HJ.out];exact HJ3.out,HRL.out,HRF.out⟩
           case measure=>simp only [intOf];omega
          ·refine aE.last (by kernel_rfl) rfl fun K hK=>?_;simp only [gA,gB,gC]
           go_simp
           refine hK.out _ _ (aE.done (by kernel_rfl) ?_ _);go_wp2_with fail
           go_roundw
           case rel=>exact ⟨k+1,true||(true||dd),by omega,by go_num,rfl,by rw [HJ.out];exact HJ3.out,HRL.out,HRF.out⟩
           case measure=>simp only [intOf];omega
       ·obtain ⟨x0,x1,x2,x3⟩:=HXQ.out.cells;cases mo
        ·go_wp2_with fail
         go_roundw
         case rel=>exact ⟨false,rfl,by rw [HJ.out];exact HJQ.out⟩
         case measure=>have:=HLE.out;have:=HM0.out;simp only [fF];omega
        ·go_wp2_with fail
         go_roundw
         case rel=>exact ⟨true,rfl,by rw [HJ.out];exact HJQ.out⟩
         case measure=>have:=HLT.out rfl;have:=HM0.out;simp only [fF];omega
end
end Go.Proofs.YtpidmmfjcghmeaaGreat
