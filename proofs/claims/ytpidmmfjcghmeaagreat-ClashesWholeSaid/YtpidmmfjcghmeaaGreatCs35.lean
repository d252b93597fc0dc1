/- Towards clashesWhole_upto. -/
import Derived.Test.YtpidmmfjcghmeaaGreatCs33
import Derived.Deep.CutBlock
set_option maxRecDepth 100000
set_option maxHeartbeats 16000000
set_option linter.all false
namespace Go.Proofs.YtpidmmfjcghmeaaGreat
open Go.RowKit
section
attribute [local go_sem ↓] aI
def Mi (w0:World) (G:Nat→Prop) (B bm bf:Nat) (A0:Option Addr) (c0:Nat) (A1:Option Addr) (c1:Nat) (A2:Option Addr) (c2:Nat) (g:Gm) (ks:List (List Itm)) (A:Option Addr) (c:Nat) (vr vt vu vc:Value) (Ab:Option Addr) (cb:Nat) (w1:World) (np N:Nat) (w:World):Prop:=
 ∃ va ve ps es FV fl,Mx w0 G B bm bf A0 c0 A1 c1 A2 c2 g ks A c vr vt vu vc Ab cb w va ve ps es FV fl∧EvM B bm bf w1 w∧np≤ps.length∧ps.length≤N∧es.length≤N∧∀ i,i<ks.length→(fl i).length≤ps.length
theorem SvV.next {G:Nat→Prop} {w:World} {n:Nat} {v:Value} (h:SvV G w n v):∃ b bw X,v=.pointer (some ⟨b,0,none⟩)∧G b∧G bw∧BSet w b bw n X:=h
theorem B4 {g:Gm} {ks:List (List Itm)} (ha:Gm.Aut g ks) {i k d:Nat} (hi:i<ks.length) (hx:((k:Int),(d:Int))∈ks[i]):k≤g.rules.length∧d≤(g.rightAt k).length:=by
 have h:=(ha.kok _ (gN hi)).ok _ hx;unfold Gm.Ok at h;simp only [yB] at h;omega
theorem kB {g:Gm} (h:∀ r∈g.rules,r.2.length≤8) (k:Nat):(g.rightAt k).length≤8:=by
 unfold Gm.rightAt
 split
 ·exact h _ (gN _)
 ·split
  ·simp
  ·simp
theorem ID (w0:World) (G:Nat→Prop) (B bm bf:Nat) (A0 c0 A1 c1 A2 c2) (g:Gm) (ks:List (List Itm)) (A:Option Addr) (c:Nat) (vr vt vu vc:Value) (Ab:Option Addr) (cb:Nat) (w:World) (va ve:Value) (ps:List (Nat×Nat)) (es:List Edg) (FV:Nat→Value) (fl:Nat→List (Int×Nat)) (i k d at_ N:Nat) (h:Mx w0 G B bm bf A0 c0 A1 c1 A2 c2 g ks A c vr vt vu vc Ab cb w va ve ps es FV fl) (hw:GW g) (ha:Gm.Aut g ks) (hi:i<ks.length) (hx:((k:Int),(d:Int))∈ks[i]) (hat:at_<ps.length) (hn:g.terms.length+1≤64) (hT:Gm.base ks ks.length≤10000000) (hps:ps.length≤N) (hes:es.length≤N) (hN:N≤900000000000) (hfl:∀ i,i<ks.length→(fl i).length≤ps.length):
  Calls Tryz.prog 157 #[.pointer (some ⟨bm,0,none⟩),.int .i64 i,.int .i64 at_,.agg #[.int .i64 k,.int .i64 d]] w fun e w'=>e=.returned (.tuple #[])∧Mi w0 G B bm bf A0 c0 A1 c1 A2 c2 g ks A c vr vt vu vc Ab cb w ps.length (N+72301) w':=by
 obtain ⟨hk,hdl⟩:=B4 ha hi hx;have hlr:=hw.lr;have htp:=hw.top;have H4:=mF G;unfold ag at H4;have HNN:=Ha H4;clear H4;have hb1:Below w.heap.size w (w.alloc (.cells #[.int .i64 k,.int .i64 d] 250)):=(gR _ _).alloc (gO _) _;have q1:=aC w (.cells #[.int .i64 k,.int .i64 d] 250);generalize hWI:w.alloc (.cells #[.int .i64 k,.int .i64 d] 250)=w1 at *;have hm1:=h.below hb1;obtain ⟨HB1,HQ1,HW,HA,HX,HFL⟩:=Zh6 hb1 q1 hw ha hx hfl;obtain ⟨br,or,cr,Ar,car,hvr,hgr,z0,hri⟩:=hm1.mb.dat.right hk;have y5:=hm1.mb.m5;rw [hvr] at y5;have HM1:=Ha hm1;obtain ⟨r0,r1,_,_⟩:=aM q1 rfl;have HRI:=Ha hri;obtain ⟨rl,hrl⟩:∃ rl,rl=(g.rightAt k).length:=⟨_,rfl⟩;rw [← hrl] at z0 HRI hdl;have HRL:=Ha hrl;have hk0:(0:Int)≤(k:Int):=by omega
 have hk1:(k:Int)<(g.rules.length:Int)+1:=by omega
 have RD:=Ha (show Below w1.heap.size w1 w1.drew from (gR _ _).drew);clear h hb1 hw ha hx hfl hm1 hri hrl;have e0:w1.drew.cell? ⟨w.heap.size,0,none⟩=some (.int .i64 (k:Int)):=r0;have e1:w1.drew.cell? ⟨w.heap.size,1,none⟩=some (.int .i64 (d:Int)):=r1;have e2:w1.drew.cell? ⟨bm,5,none⟩=some (.slice (some ⟨br,or,none⟩) (g.rules.length+1) cr):=y5;have e3:w1.drew.cell? ⟨br,or+k,none⟩=some (.slice Ar rl car):=z0;have HB2:=Ha (show Below w.heap.size w w1.drew from HB1.out.trans (RD.out.mono HB1.out.size));by_cases hd:d<rl
 case neg=>
  have hdl2:rl≤d:=by omega
  go_enter Tryz.func157,Tryz.ntmps157;go_wp2_with fail
  go_region
  go_wp2_with fail;refine bodyPost_ret (v:=.tuple #[]) (by simp [results,Tryz.results157,go_sem]) rfl ?_;exact ⟨rfl,va,ve,ps,es,FV,fl,HM1.out.below RD.out,EvM.of HB2.out,gO _,by omega,by omega,HFL.out⟩
 case pos=>
  go_enter Tryz.func157,Tryz.ntmps157;go_wp2_with fail
  go_region
  go_wp2_with fail;clear e0 e1 e2 e3 y5 z0 r0 r1;have HMD := Ha (HM1.out.below RD.out);generalize hW2 : w1.drew = w2 at *;have HQ2 := Ha ((RD.out.block w.heap.size (gL q1).1).trans q1);obtain ⟨ba, oa, rfl, zs⟩ := aF.get HRI.out (show d < (g.rightAt k).length by have := HRL.out; omega);obtain ⟨s, hs⟩ : ∃ s, s = (g.rightAt k)[d]'(by have := HRL.out; omega) := ⟨_, rfl⟩;rw [← hs] at zs;have zs : w2.cell? ⟨ba, oa + d, none⟩ = some (.int .i64 s) := by rw [← hW2]; exact zs
  have hba:G ba:=by
   obtain ⟨A',c',e1,_,_,h4⟩:=HRI.out;obtain ⟨b',off,h5,h6,_⟩:=h4 (by have:=HRL.out;omega)
   injection e1 with e1 _ _
   rw [h5] at e1
   injection e1 with e1
   injection e1 with e1 _
   rw [e1];exact h6
  have hnx:g.nxt ((k:Int),(d:Int))=s:=by rw [hs];exact pY g (by have:=HRL.out;omega)
  have hsy:1≤s∧s≤g.top:=by
   have h1:=Gm.right_sym HW.out.kn k s (hs▸gN _);unfold Gm.T Gm.N at h1;unfold Gm.top;unfold Gm.top at h1;omega
  have hd8:d≤1000:=by
   have:=kB HW.out.lx k;have:=HRL.out;omega
  have hdp:(w2.drew).heap.size=w2.heap.size:=rfl;have RD2:=Ha (show Below w2.heap.size w2 w2.drew from (gR _ _).drew);have HTO:=Ha (JV G w2.drew bm A0 c0 A1 c1 A2 c2 g ks A c vr vt vu vc Ab cb i k d (HMD.out.below RD2.out).mb HW.out.kn HA.out hi hk (by omega) (by have:=HRL.out;omega) hd8 (.base HX.out) hT);have HNX:=Ha (gS hnx (gS hsy hba));have HS0:=Ha hs;have HZS:=Ha zs;obtain ⟨Ae,ce,rfl,_⟩:=HMD.out.edg.shape;have HSS:=Ha (show ∀ X:World,X.heap[bm]? = w2.heap[bm]? → X.heap[w.heap.size]? = w2.heap[w.heap.size]? → X.cell? ⟨bm,11,none⟩=some (.slice Ae es.length ce)∧X.cell? ⟨w.heap.size,0,none⟩=some (.int .i64 k)∧X.cell? ⟨w.heap.size,1,none⟩=some (.int .i64 d) from
   fun X h1 h2=>⟨aA (h1.trans HMD.out.box) 11 _ rfl,aA (h2.trans HQ2.out) 0 _ rfl,aA (h2.trans HQ2.out) 1 _ rfl⟩)
  have HLT:=Ha (gS (gL HMD.out.box).1 (gL HQ2.out).1);clear hs zs hba hnx hsy q1 hW2;go_wp2_with fail;refine aE.start 15 (fun X=>X.cell? ⟨bm,11,none⟩=some (.slice Ae es.length ce)∧X.cell? ⟨w.heap.size,0,none⟩=some (.int .i64 k)∧X.cell? ⟨w.heap.size,1,none⟩=some (.int .i64 d)) (by kernel_rfl) ?hs_1 (fun hHeld=>?hr_1)
  case hs_1=>exact HSS.out _ rfl rfl
  refine aE.tks [0,1,2,3,4,5,6,7,9] ?_ (by kernel_rfl) (by assumption)
  iterate 9
   refine aK.cons ?_ (by rfl) (by rfl) (by intro w h;(try dsimp only at h);simp only [gA,gB,gC];go_simp;try with_reducible rfl) (by exact fun _ _ _ h=>h);simp only [gA,gB,gC,Act.put,gD,gE,gF]
  show aE _ _ _ _ _ _ _ _ _ _;refine aE.one (i:=8) (by kernel_rfl) rfl fun K hK=>?_;simp only [gA,gB,gC]
  go_simp
  with_reducible refine Calls.mono HTO.out ?_
  rintro e w3 ⟨⟨tt,rfl,htt⟩,hb3⟩;have hb3':Below w2.heap.size w2 w3:=RD2.out.trans hb3;have hm3:=HMD.out.below hb3';have htot:=hm3.tot;obtain ⟨A4,c4,w4,w5,hrun,hW5,hev4,e4,y11,f11,hm5,hev5⟩:=hm3.pushEdge (tt:=tt) (at_:=at_) (by omega) hat none (fun q hq=>by cases hq) true (by omega);have hrun:WrA Tryz.prog #[246,246] 246 #[.slice Ae es.length ce,.slice (some ⟨w3.heap.size,0,none⟩) 1 1] (w3.alloc (.cells #[.int .i64 (tt:Int),.int .i64 (at_:Int),.pointer none,.bool true] 301))=.ok (.slice A4 (es.length+1) c4) w4:=hrun;have hbx3:=hb3'.block bm HLT.out.1;have hit3:=hb3'.block w.heap.size HLT.out.2;have hitT:TB 250 w3 w.heap.size:=⟨_,hit3.trans HQ2.out⟩;have HE3:=Ha (gS hbx3 hit3);have HEA:=Ha (show (w3.alloc (.cells #[.int .i64 (tt:Int),.int .i64 (at_:Int),.pointer none,.bool true] 301)).heap[bm]? = w2.heap[bm]? ∧ (w3.alloc (.cells #[.int .i64 (tt:Int),.int .i64 (at_:Int),.pointer none,.bool true] 301)).heap[w.heap.size]? = w2.heap[w.heap.size]? from
   ⟨(Below.heap_alloc _ _ _ (by have:=HLT.out.1;have:=hb3'.size;omega)).trans hbx3,(Below.heap_alloc _ _ _ (by have:=HLT.out.2;have:=hb3'.size;omega)).trans hit3⟩)
  have HE4:=Ha (show w4.heap[bm]? = w2.heap[bm]? ∧ w4.heap[w.heap.size]? = w2.heap[w.heap.size]? from ⟨e4.trans hbx3,(hev4.tb (by decide) hitT).trans hit3⟩);have hev05:EvM B bm bf w w5:=(EvM.of (HB2.out.trans (hb3'.mono HB2.out.size))).trans hev5;obtain ⟨HM5,HEV5,HQ5,HZ5⟩:=Zh4 hm5 hev05 (show w5.heap[w.heap.size]? = some (.cells #[.int .i64 k,.int .i64 d] 250 (0,0)) from (hev5.tb (by decide) hitT).trans (hit3.trans HQ2.out)) (show w5.cell? ⟨ba,oa+d,none⟩=some (.int .i64 s) from (gM ((hm3.hold hev5 HNX.out.2.2).trans (hb3'.block ba (HMD.out.mb.gb.old _ HNX.out.2.2)))).trans HZS.out);clear hb3 hb3' hm3 hev4 e4 hm5 hev5 hbx3 hit3 hitT hev05 htt htot;dsimp only;refine hK.out _ _ ?_ (fun hHeld=>?_)
  ·exact HSS.out _ HE3.out.1 HE3.out.2
  clear hK K;try simp only [Act.put,gD,gE,gF]
  refine aE.tks [10] ?_ (by kernel_rfl) (by assumption)
  iterate 1
   refine aK.cons ?_ (by rfl) (by rfl) (by intro w h;(try dsimp only at h);simp only [gA,gB,gC];go_simp;try with_reducible rfl) (by exact fun _ _ _ h=>h);simp only [gA,gB,gC,Act.put,gD,gE,gF]
  show aE _ _ _ _ _ _ _ _ _ _;refine aE.one (i:=11) (by kernel_rfl) rfl fun K hK=>?_;simp only [gA,gB,gC]
  go_simp
  refine hK.out _ _ ?_ (fun hHeld=>?_)
  ·exact HSS.out _ HEA.out.1 HEA.out.2
  clear hK K;try simp only [Act.put,gD,gE,gF]
  refine aE.one (i:=12) (by kernel_rfl) rfl fun K hK=>?_;simp only [gA,gB,gC]
  go_simp
  refine hK.out _ _ ?_ (fun hHeld=>?_)
  ·exact HSS.out _ HE4.out.1 HE4.out.2
  clear hK K;try simp only [Act.put,gD,gE,gF]
  refine aE.one (i:=13) (by kernel_rfl) rfl fun K hK=>?_;simp only [gA,gB,gC]
  go_simp
  refine hK.out _ _ ?_ (fun hHeld=>?_)
  ·exact HSS.out _ HE4.out.1 HE4.out.2
  clear hK K;try simp only [Act.put,gD,gE,gF]
  refine aE.tks [14] ?_ (by kernel_rfl) (by assumption)
  iterate 1
   refine aK.cons ?_ (by rfl) (by rfl) (by intro w h;(try dsimp only at h);simp only [gA,gB,gC];go_simp;try with_reducible rfl) (by exact fun _ _ _ h=>h);simp only [gA,gB,gC,Act.put,gD,gE,gF]
  show aE _ _ _ _ _ _ _ _ _ _;refine aE.last (by kernel_rfl) rfl fun K hK=>?_;simp only [gA,gB,gC]
  go_simp
  refine hK.out _ _ (aE.done (by kernel_rfl) ?_ _);go_wp2_with fail;have hx5:=HM5.out.mb.gb;have HN5:=Ha (fun X (hX:Below w5.heap.size w5 X)=>HNN.out X _ g s (hx5.on hX).old (hx5.on hX).gm (by omega));have RD5:=Ha (show Below w5.heap.size w5 w5.drew from (gR _ _).drew);have HS5:=Ha (show ∀ X,Below w5.heap.size w5 X→X.cell? ⟨bm,0,none⟩=some (.slice A0 g.terms.length c0)∧X.cell? ⟨bm,1,none⟩=some (.slice A1 g.nons.length c1)∧X.cell? ⟨bm,2,none⟩=some (.slice A2 g.rules.length c2)∧X.cell? ⟨bm,3,none⟩=some (.int .i64 g.start)∧X.cell? ⟨w.heap.size,1,none⟩=some (.int .i64 d)∧X.cell? ⟨ba,oa+d,none⟩=some (.int .i64 s) from
   fun X hX=>⟨(hx5.on hX).x0,(hx5.on hX).x1,(hx5.on hX).x2,(hx5.on hX).x3,aD (aA HQ5.out 1 _ rfl) hX,aD HZ5.out hX⟩)
  clear hx5 hrun hW5 y11 f11 HEA HE3 HE4 HSS HTO
  go_region_held3 (fun X=>X.cell? ⟨bm,0,none⟩=some (.slice A0 g.terms.length c0)∧X.cell? ⟨bm,1,none⟩=some (.slice A1 g.nons.length c1)∧X.cell? ⟨bm,2,none⟩=some (.slice A2 g.rules.length c2)∧X.cell? ⟨bm,3,none⟩=some (.int .i64 g.start)∧X.cell? ⟨w.heap.size,1,none⟩=some (.int .i64 d)∧X.cell? ⟨ba,oa+d,none⟩=some (.int .i64 s))
   (exact HS5.out _ (by first | exact RD5.out | exact hb6))
   (first
    | (go_at_call 81
       with_reducible refine Calls.mono (HN5.out _ RD5.out) ?_
       rintro e w6 ⟨rfl, hb6⟩;have hb6 := RD5.out.trans hb6;dsimp only))
  have HB6:=Ha hb6;have HS6:=Ha (HS5.out _ hb6);clear hb6;by_cases hN:g.N s
  case neg=>
   have hdn:(decide (g.N s))=false:=yE hN;rw [hdn];go_wp2_with fail;refine bodyPost_ret (v:=.tuple #[]) (by simp [results,Tryz.results157,go_sem]) rfl ?_;exact ⟨rfl,va,_,ps,_,FV,fl,HM5.out.below HB6.out,HEV5.out.trans (EvM.of HB6.out),gO _,by omega,by rw [gI,gZ];omega,HFL.out⟩
  case pos=>
   rw [yD hN];obtain ⟨sn,rfl⟩:∃ sn:Nat,s=(sn:Int):=⟨s.toNat,by have:=HNX.out.2.1;omega⟩;have HNN2:=Ha hN;have hst:sn≤g.top:=by have:=HNX.out.2.1;omega
   have hm6:=HM5.out.below HB6.out;obtain ⟨bt,ot,ct,At,ct2,bu,ou,p,em,hvt,hgt,t0,hAt,hgu,t1,t2,b8,bw8,X8,rfl,hg8,hgw8,hset8⟩:=hm6.mb.dat.tail hk (show d<(g.rightAt k).length by have:=HRL.out;omega);subst hAt;rw [← HRL.out] at t0;have y6:=hm6.mb.m6;rw [hvt] at y6;have hit6:w6.heap[w.heap.size]? = some (.cells #[.int .i64 k,.int .i64 d] 250 (0,0)):=(HB6.out.block _ (gL HQ5.out).1).trans HQ5.out;have HS7:=Ha (show ∀ X,Below w6.heap.size w6 X→X.cell? ⟨bm,6,none⟩=some (.slice (some ⟨bt,ot,none⟩) (g.rules.length+1) ct)∧X.cell? ⟨w.heap.size,0,none⟩=some (.int .i64 k)∧X.cell? ⟨w.heap.size,1,none⟩=some (.int .i64 d)∧X.cell? ⟨bt,ot+k,none⟩=some (.slice (some ⟨bu,ou,none⟩) rl ct2)∧X.cell? ⟨bu,ou+d*2,none⟩=some (.pointer (some ⟨b8,0,none⟩))∧X.cell? ⟨bu,ou+d*2+1,none⟩=some (.bool em) from
    fun X hX=>⟨aD y6 hX,aD (aA hit6 0 _ rfl) hX,aD (aA hit6 1 _ rfl) hX,aD t0 hX,aD t1 hX,aD t2 hX⟩)
   have RD6:=Ha (show Below w6.heap.size w6 w6.drew∧Below w6.heap.size w6 (w6.alloc (.cells #[.pointer none,.bool false] 296)).drew from ⟨(gR _ _).drew,((gR _ _).alloc (gO _) _).drew⟩);have hb7:Below w6.heap.size w6 (w6.alloc (.cells #[.pointer (some ⟨b8,0,none⟩),.bool em] 296)).drew:=((gR _ _).alloc (gO _) _).drew;have q7:(w6.alloc (.cells #[.pointer (some ⟨b8,0,none⟩),.bool em] 296)).drew.heap[w6.heap.size]? = some (.cells #[.pointer (some ⟨b8,0,none⟩),.bool em] 296 (0,0)):=aC w6 _;obtain ⟨HM6,HQ6,HG8⟩:=Zh3 hm6 hit6 (gS hg8 (gS hgw8 hset8));clear hm6 hit6 hN hvt t0 t1 t2 y6 hg8 hgw8 hset8;go_wp2_with fail;refine aE.start 13 (fun X=>X.cell? ⟨bm,6,none⟩=some (.slice (some ⟨bt,ot,none⟩) (g.rules.length+1) ct)∧X.cell? ⟨w.heap.size,0,none⟩=some (.int .i64 k)∧X.cell? ⟨w.heap.size,1,none⟩=some (.int .i64 d)∧X.cell? ⟨bt,ot+k,none⟩=some (.slice (some ⟨bu,ou,none⟩) rl ct2)∧X.cell? ⟨bu,ou+d*2,none⟩=some (.pointer (some ⟨b8,0,none⟩))∧X.cell? ⟨bu,ou+d*2+1,none⟩=some (.bool em)) (by kernel_rfl) ?hs_2 (fun hHeld=>?hr_2)
   case hs_2=>exact HS7.out _ RD6.out.1
   refine aE.tks [0,1,2,3,4,5,6,7,8,9,10,11] ?_ (by kernel_rfl) (by assumption)
   iterate 12
    refine aK.cons ?_ (by rfl) (by rfl) (by intro w h;(try dsimp only at h);simp only [gA,gB,gC];go_simp;try with_reducible rfl) (by exact fun _ _ _ h=>h);simp only [gA,gB,gC,Act.put,gD,gE,gF]
   show aE _ _ _ _ _ _ _ _ _ _;refine aE.one (i:=12) (by kernel_rfl) rfl fun K hK=>?_;simp only [gA,gB,gC]
   go_simp
   refine hK.out _ _ ?_ (fun hHeld=>?_)
   ·exact HS7.out _ RD6.out.2
   clear hK K;try simp only [Act.put,gD,gE,gF]
   refine aE.last (by kernel_rfl) rfl fun K hK=>?_;simp only [gA,gB,gC]
   go_simp
   refine hK.out _ _ (aE.done (by kernel_rfl) ?_ _);clear hK K;generalize hW7:(w6.alloc (.cells #[.pointer (some ⟨b8,0,none⟩),.bool em] 296)).drew=w7 at *;obtain ⟨HM7,HQ7,HB7⟩:=Zh3 (HM6.out.below hb7) q7 hb7;obtain ⟨s0,s1,_,_⟩:=aM q7 rfl;have HNE:=Ha (pZ b8 bw8 (g.terms.length+1) X8 0 w7 (HG8.out.2.2.below hb7) (by omega));clear hb7 q7 hW7
   go_upto_region 6 with fail
   go_cut [10] (fun v10 wx=>w7=wx∧∃ nf,v10=.bool nf)
   case first=>
    cases em
    ·go_wp2_with fail;refine (HNE.out).mono ?_;rintro e w8 ⟨rfl,rfl⟩;generalize (nxt X8 (g.terms.length+1-0) 0)=z;go_wp2_with fail
     go_meet
     exact ⟨rfl,_,rfl⟩
    ·go_wp2_with fail
     go_meet
     exact ⟨rfl,_,rfl⟩
   case rest=>
    obtain ⟨rfl,nf,rfl⟩:=hcut;clear s0 s1 HNE;have hm7:=HM7.out;obtain ⟨bc,oc,cc,Al,cl,l,hvc,hgc,t0,hcl,hlc,hll⟩:=hm7.mb.dat.comes hst;have y8:=hm7.mb.m8;rw [hvc] at y8;have hit7:w7.heap[w.heap.size]? = some (.cells #[.int .i64 k,.int .i64 d] 250 (0,0)):=(HB7.out.block _ (gL HQ6.out).1).trans HQ6.out;have hz7:w7.cell? ⟨ba,oa+d,none⟩=some (.int .i64 (sn:Int)):=aD (aD HZ5.out HB6.out) HB7.out;have e0:w7.drew.cell? ⟨bm,8,none⟩=some (.slice (some ⟨bc,oc,none⟩) (g.top+1) cc):=y8;have e1:w7.drew.cell? ⟨w.heap.size,1,none⟩=some (.int .i64 (d:Int)):=aA hit7 1 _ rfl;have e2:w7.drew.cell? ⟨ba,oa+d,none⟩=some (.int .i64 (sn:Int)):=hz7;have e3:w7.drew.cell? ⟨bc,oc+sn,none⟩=some (.slice Al l.length cl):=t0;have hd0:(0:Int)≤(d:Int):=by omega
    have hd1:(d:Int)<(rl:Int):=by omega
    have hs0:(0:Int)≤(sn:Int):=by omega
    have hs1:(sn:Int)<(g.top:Int)+1:=by omega
    have HM8:=Ha (hm7.below (gR _ _).drew);have hq8:w7.drew.heap[w6.heap.size]? = some (.cells #[.pointer (some ⟨b8,0,none⟩),.bool em] 296 (0,0)):=HQ7.out;obtain ⟨HQ8,HCL,HLC,HB8⟩:=Zh4 hq8 (show aH G w7.drew 3 (iQ G w7.drew (g.terms.length+1)) (.slice Al l.length cl) l from aH.keepG (w:=w7) (w':=w7.drew) (fun _ h=>h) (fun k hk=>rfl) hcl fun _ _ h=>iQ.keep (w:=w7) (w':=w7.drew) (fun _ h=>h) (fun k hk=>rfl) h) hlc (show Below w6.heap.size w6 w7.drew from HB7.out.drew);clear hvc t0 hcl y8 hit7 hz7 hm7 hq8 hlc HM7 HQ7;go_wp2_with fail
    go_region
    go_wp2_with fail;clear e0 e1 e2 e3;generalize hW8:w7.drew=w8 at *;clear hW8
    go_loopw [89] (fun iv wr=>∃ j:Nat,j≤l.length∧iv=.int .i64 j∧Mi w0 G B bm bf A0 c0 A1 c1 A2 c2 g ks A c vr vt vu vc Ab cb w8 ps.length (N+1+j*300) wr) (fun iv _=>l.length-(intOf iv).toNat)
    case atStart=>exact ⟨0,gX _,rfl,va,_,ps,_,FV,fl,HM8.out,EvM.refl _ _ _ _,gO _,by omega,by rw [gI,gZ];omega,HFL.out⟩
    case round=>
     obtain ⟨j,hj,rfl,va2,ve2,ps2,es2,FV2,fl2,hm,hev,hp1,hp2,he2,hf2⟩:=hrel;obtain ⟨HM,HEV,HF2⟩:=Zh3 hm hev hf2;clear hm hev hf2;by_cases hlt:j<l.length
     case neg=>
      obtain rfl:j=l.length:=by omega
      go_wp2_with fail
      go_end0
      refine ⟨rfl,va2,ve2,ps2,es2,FV2,fl2,HM.out, ?_,hp1,by omega,by omega,HF2.out⟩;exact HEV5.out.trans ((EvM.of HB6.out).trans ((EvM.of HB8.out).trans HEV.out))
     case pos=>
      obtain ⟨bk,ok,pp,sf,rfl,hgk,c0',c1',c2',b9,bw9,X9,rfl,hg9,hgw9,hset9⟩:=EK HCL.out hlt;obtain ⟨hcN,hcL⟩:=HLC.out _ (gN hlt);obtain ⟨cs,hcs⟩:∃ cs:Nat,l[j]=(cs:Int):=⟨l[j].toNat,by unfold Gm.N at hcN;omega⟩;rw [hcs] at c0' hcN hcL;have hkk:wr.heap[bk]? = w8.heap[bk]? := HM8.out.hold HEV.out hgk;have c0':=(gM (a:=⟨bk,ok+j*3,none⟩) hkk).trans c0';have c1':=(gM (a:=⟨bk,ok+j*3+1,none⟩) hkk).trans c1';have c2':=(gM (a:=⟨bk,ok+j*3+2,none⟩) hkk).trans c2';have hcst:cs≤g.top:=by unfold Gm.N at hcN;omega
      have hb9:Below wr.heap.size wr (wr.alloc (.cells #[.int .i64 cs,.pointer (some ⟨b9,0,none⟩),.bool sf] 303)):=(gR _ _).alloc (gO _) _;have q9:=aC wr (.cells #[.int .i64 cs,.pointer (some ⟨b9,0,none⟩),.bool sf] 303);generalize hW9:wr.alloc (.cells #[.int .i64 cs,.pointer (some ⟨b9,0,none⟩),.bool sf] 303)=w9 at *;have hq89:w9.heap[w6.heap.size]? = some (.cells #[.pointer (some ⟨b8,0,none⟩),.bool em] 296 (0,0)):=by
       have hT:TB 296 w8 w6.heap.size:=⟨_,HQ8.out⟩;have e1:=HEV.out.tb (by decide) hT;exact (hb9.block _ (hT.of_eq e1).lt).trans (e1.trans HQ8.out)
      have hset89:BSet w9 b8 bw8 (g.terms.length+1) X8:=(HEV.out.set (HG8.out.2.2.below HB8.out)).below hb9;have hset99:BSet w9 b9 bw9 (g.terms.length+1) X9:=(HEV.out.set hset9).below hb9;obtain ⟨HM9,HQ9,HB9,HSE,HTW⟩:=Zh5 (HM.out.below hb9) (gS q9 hq89) hb9 (gS hset99 hset89) (I3 b9 bw9 (g.terms.length+1) X9 w9 hset99);have u0:=aA q9 0 _ rfl;have u1:=aA q9 1 _ rfl;have u2:=aA q9 2 _ rfl;have v0:=aA hq89 0 _ rfl;have HCS:=Ha (gS hcN hcL);clear hb9 q9 hq89 hset89 hset99 hset9 hkk hcN hcL
      go_upto_if 96 with fail
      go_cut [13] (fun v13 wx=>Below w9.heap.size w9 wx∧∃ q:Nat×Nat,v13=.pointer (some ⟨q.1,0,none⟩)∧∃ X,BSet wx q.1 q.2 (g.terms.length+1) X)
      case first=>
       cases sf
       ·go_wp2_with fail
        go_meet
        exact ⟨gR _ _,(b9,bw9),rfl,X9,HSE.out.1⟩
       ·go_wp2_with fail;refine (HTW.out).mono ?_;rintro e wt ⟨⟨b13,bw13,rfl,hb13,hbw13,hs13⟩,hbt⟩;have v0:=aD v0 hbt;have HOR:=Ha (p6 b13 bw13 (g.terms.length+1) X9 b8 bw8 X8 wt hs13 (HSE.out.2.below hbt));have HBT:=Ha (gS hbt hbw13);clear hb13 hbw13 hs13 hbt;go_wp2_with fail
        with_reducible refine Calls.mono HOR.out ?_
        rintro e wo ⟨rfl,hso,hco⟩;have HF:=Ha (show Below w9.heap.size w9 wo∧∃ X,BSet wo b13 bw13 (g.terms.length+1) X from ⟨HBT.out.1.trans (hco.below (fun k e=>by subst e;exact HBT.out.2) HBT.out.1.size),_,hso⟩);generalize (decide (X9 ||| X8≠X9))=dd;clear hso hco;go_wp2_with fail
        go_meet
        exact ⟨HF.out.1,(b13,bw13),rfl,HF.out.2⟩
      case rest=>
       obtain ⟨hb10,qs,rfl,Xq,hsq⟩:=hcut;have hm10:=HM9.out.below hb10;obtain ⟨bv,ov,cv,Ak,ck,hvu,hgv,t0,hkl⟩:=hm10.mb.dat.rules hcst;have y7:=hm10.mb.m7;rw [hvu] at y7;obtain ⟨kl,hkle⟩:∃ kl,kl=ofR (cs:Int) g.rules 0:=⟨_,rfl⟩;rw [← hkle] at t0 hkl;have hkll:kl.length≤300:=by rw [hkle];have:=eY (cs:Int) g.rules 0;omega
       have e0:wc.drew.cell? ⟨bm,7,none⟩=some (.slice (some ⟨bv,ov,none⟩) (g.top+1) cv):=y7;have e1:wc.drew.cell? ⟨wr.heap.size,0,none⟩=some (.int .i64 (cs:Int)):=aD u0 hb10.drew;have e2:wc.drew.cell? ⟨bv,ov+cs,none⟩=some (.slice Ak kl.length ck):=t0;have hcs0:(0:Int)≤(cs:Int):=by omega
       have hcs1:(cs:Int)<(g.top:Int)+1:=by omega
       have hb11:Below w9.heap.size w9 wc.drew:=hb10.drew;have HM11:=Ha (HM9.out.below hb11);have HSQ:=Ha (show ∃ X,BSet wc.drew qs.1 qs.2 (g.terms.length+1) X from ⟨Xq,hsq.keep rfl rfl⟩);have HKL:=Ha (show aF G wc.drew (.slice Ak kl.length ck) kl from aH.keepG (w:=wc) (w':=wc.drew) (fun _ h=>h) (fun _ _=>rfl) hkl fun _ _ h=>h);have HKE:=Ha hkle;have HQ11:=Ha (show wc.drew.heap[wr.heap.size]? = some (.cells #[.int .i64 cs,.pointer (some ⟨b9,0,none⟩),.bool sf] 303 (0,0))∧wc.drew.heap[w6.heap.size]? = some (.cells #[.pointer (some ⟨b8,0,none⟩),.bool em] 296 (0,0)) from
        ⟨(hb11.block _ (gL HQ9.out.1).1).trans HQ9.out.1,(hb11.block _ (gL HQ9.out.2).1).trans HQ9.out.2⟩)
       have HE11:=Ha (show EvM B bm bf w8 wc.drew from HEV.out.trans ((EvM.of HB9.out).trans (EvM.of hb11)));clear hm10 hvu t0 hkl y7 hsq hb10 hb11 hkle u0 u1 u2 v0;go_wp2_with fail
       go_region
       go_wp2_with fail;clear e0 e1 e2;generalize hW11:wc.drew=w11 at *;generalize hbC:wr.heap.size=bC at *;clear hW11 hbC
       go_loopw [113] (fun iv wr=>∃ q:Nat,q≤kl.length∧iv=.int .i64 q∧Mi w0 G B bm bf A0 c0 A1 c1 A2 c2 g ks A c vr vt vu vc Ab cb w11 ps.length (N+1+j*300+q) wr) (fun iv _=>kl.length-(intOf iv).toNat)
       case atStart=>exact ⟨0,gX _,rfl,va2,ve2,ps2,es2,FV2,fl2,HM11.out,EvM.refl _ _ _ _,hp1,by omega,by omega,HF2.out⟩
       case round=>
        obtain ⟨q,hq,rfl,va3,ve3,ps3,es3,FV3,fl3,hm,hev,hp3,hp4,he4,hf3⟩:=hrel;obtain ⟨HM3,HEV3,HF3⟩:=Zh3 hm hev hf3;clear hm hev hf3;by_cases hqt:q<kl.length
        case neg=>
         obtain rfl:q=kl.length:=by omega
         have HEN:=Ha (HE11.out.trans HEV3.out);go_wp2_with fail
         go_roundw
         case rel=>exact ⟨j+1,hlt,by go_num,va3,ve3,ps3,es3,FV3,fl3,HM3.out,HEN.out,hp3,by omega,by omega,HF3.out⟩
         case measure=>simp only [intOf];omega
        case pos=>
         obtain ⟨bq,oq,rfl,zq⟩:=aF.get HKL.out hqt;have hgq:G bq:=by
          obtain ⟨A',c',e1,_,_,h4⟩:=HKL.out;obtain ⟨b',off,h5,h6,_⟩:=h4 (by omega)
          injection e1 with e1 _ _
          rw [h5] at e1
          injection e1 with e1
          injection e1 with e1 _
          rw [e1];exact h6
         have zq:=(gM (a:=⟨bq,oq+q,none⟩) (HM11.out.hold HEV3.out hgq)).trans zq;obtain ⟨kk,hkk,hkr,hke⟩:∃ kk:Nat,∃ h:kk<g.rules.length,g.rules[kk].1=(cs:Int)∧kl[q]=(kk:Int):=by
          have h1:kl[q]∈ofR (cs:Int) g.rules 0:=HKE.out▸gN hqt;obtain ⟨i',e,h2,h3⟩:=fW (cs:Int) g.rules 0 _ h1;exact ⟨i',h2,h3,by rw [e,Nat.zero_add]⟩
         rw [hke] at zq;have hm3:=HM3.out;obtain ⟨br2,or2,cr2,Ak2,ck2,hvr2,hgr2,t0,hri2⟩:=hm3.mb.dat.right (show kk≤g.rules.length by omega);have y5:=hm3.mb.m5;rw [hvr2] at y5;obtain ⟨rk,hrk⟩:∃ rk,rk=(g.rightAt kk).length:=⟨_,rfl⟩;rw [← hrk] at t0;have HRK:=Ha hrk;have hkk0:(0:Int)≤(kk:Int):=by omega
         have hkk1:(kk:Int)<(g.rules.length:Int)+1:=by omega
         have hclo:g.Clo (· ∈ ks[i]) ((kk:Int),((0:Nat):Int)):=AL HW.out.kn HX.out (by rw [HNX.out.1];exact HNN2.out) (by rw [HNX.out.1];exact HCS.out.2) hkk hkr;have HCLO:=Ha hclo;have HEND:=Ha (JD w0 G B bm bf A0 c0 A1 c1 A2 c2 g ks A c vr vt vu vc Ab cb wr va3 ve3 ps3 es3 FV3 fl3 i (kk:Int) hm3 hi (by unfold inR;omega) hn (by omega) HF3.out);have hlr2:g.rules.length≤1000:=by omega
         clear hgq hkr hke hm3 hvr2 hri2 hrk hclo
         go_upto_if 125 with fail
         go_cut [16] (fun v16 wx=>∃ (t:Nat) (va:Value) (ps':List (Nat×Nat)) (FV':Nat→Value) (fl':Nat→List (Int×Nat)),v16=.int .i64 t∧t<ps'.length∧ps3.length≤ps'.length∧ps'.length≤ps3.length+1∧Mx w0 G B bm bf A0 c0 A1 c1 A2 c2 g ks A c vr vt vu vc Ab cb wx va ve3 ps' es3 FV' fl'∧(∀ i,i<ks.length→(fl' i).length≤ps'.length)∧EvM B bm bf wr wx)
         case first=>
          by_cases h0:rk=0
          ·subst h0;go_wp2_with fail
           with_reducible refine Calls.mono HEND.out ?_
           rintro e w4 ⟨⟨t,va',ps',FV',fl',rfl,ht,h1,h2,h3,h4⟩,hev⟩;have HH:=Ha (gS ht (gS h1 (gS h2 (gS h3 (gS h4 hev)))));clear ht h1 h2 h3 h4 hev;go_wp2_with fail
           go_meet
           exact ⟨t,va',ps',FV',fl',rfl,HH.out.1,HH.out.2.1,HH.out.2.2.1,HH.out.2.2.2.1,HH.out.2.2.2.2.1,HH.out.2.2.2.2.2⟩
          ·have HTO2:=Ha (JV G wr bm A0 c0 A1 c1 A2 c2 g ks A c vr vt vu vc Ab cb i kk 0 HM3.out.mb HW.out.kn HA.out hi (by omega) hlr2 (by have:=HRK.out;omega) (by omega) HCLO.out hT);have h01:¬(rk:Int)=0:=by omega
           go_wp2_with fail
           with_reducible refine Calls.mono HTO2.out ?_
           rintro e w4 ⟨⟨t,rfl,ht⟩,hb4⟩;have HH:=Ha (show t<ps3.length∧Mx w0 G B bm bf A0 c0 A1 c1 A2 c2 g ks A c vr vt vu vc Ab cb w4 va3 ve3 ps3 es3 FV3 fl3∧EvM B bm bf wr w4 from ⟨gK ht HM3.out.tot,HM3.out.below hb4,EvM.of hb4⟩);clear ht hb4;go_wp2_with fail
           go_meet
           exact ⟨t,va3,ps3,FV3,fl3,rfl,HH.out.1,gO _,Nat.le_succ _,HH.out.2.1,HF3.out,HH.out.2.2⟩
         case rest=>
          obtain ⟨t,va4,ps4,FV4,fl4,rfl,ht,hp5,hp6,hm4,hf4,hev4⟩:=hcut;obtain ⟨HM4,HEV4,HF4,HT4⟩:=Zh4 hm4 hev4 hf4 ht;clear hm4 hev4 hf4 ht zq t0 y5 HEND;cases nf
          case true=>
           go_wp2_with fail
           go_roundw
           case rel=>exact ⟨q+1,hqt,by go_num,va4,ve3,ps4,es3,FV4,fl4,HM4.out,HEV3.out.trans HEV4.out,by omega,by omega,by omega,HF4.out⟩
           case measure=>simp only [intOf];omega
          case false=>
           have hmd:=HM4.out.below (gR wc.heap.size wc).drew;obtain ⟨Ae4,ce4,rfl,_⟩:=hmd.edg.shape;have hev34:=HEV3.out.trans HEV4.out;have hqC:wc.heap[bC]? = some (.cells #[.int .i64 cs,.pointer (some ⟨b9,0,none⟩),.bool sf] 303 (0,0)):=(hev34.tb (T:=303) (by decide) ⟨_,HQ11.out.1⟩).trans HQ11.out.1;have hqT:wc.heap[w6.heap.size]? = some (.cells #[.pointer (some ⟨b8,0,none⟩),.bool em] 296 (0,0)):=(hev34.tb (T:=296) (by decide) ⟨_,HQ11.out.2⟩).trans HQ11.out.2;have hsetd:∃ X,BSet wc.drew qs.1 qs.2 (g.terms.length+1) X:=HSQ.out.imp fun X hX=>(hev34.set hX).keep rfl rfl;clear hev34;cases sf
           ·obtain ⟨A5,c5,w5,w5',hrun0,hW5,hev5,e5,y11,f11,hm5,hevm5⟩:=hmd.pushEdge (tt:=t) (at_:=at_) HT4.out (by omega) (some qs) (fun q' hq'=>by injection hq' with hq';subst hq';exact hsetd) false (by omega);have hrun:WrA Tryz.prog #[246,246] 246 #[.slice Ae4 es3.length ce4,.slice (some ⟨wc.heap.size,0,none⟩) 1 1] (wc.alloc (.cells #[.int .i64 (t:Int),.int .i64 (at_:Int),.pointer (some ⟨qs.1,0,none⟩),.bool false] 301)).drew=.ok (.slice A5 (es3.length+1) c5) w5:=hrun0;have HS4:=Ha (show ∀ X:World,X.heap[bm]? = wc.heap[bm]? → X.heap[bC]? = wc.heap[bC]? → X.heap[w6.heap.size]? = wc.heap[w6.heap.size]? → X.cell? ⟨bm,11,none⟩=some (.slice Ae4 es3.length ce4)∧X.cell? ⟨bC,2,none⟩=some (.bool false)∧X.cell? ⟨w6.heap.size,1,none⟩=some (.bool em) from
             fun X h1 h2 h3=>⟨aA (h1.trans hmd.box) 11 _ rfl,aA (h2.trans hqC) 2 _ rfl,aA (h3.trans hqT) 1 _ rfl⟩)
            have HEA:=Ha (show ∀ k,k<wc.heap.size→(wc.alloc (.cells #[.int .i64 (t:Int),.int .i64 (at_:Int),.pointer (some ⟨qs.1,0,none⟩),.bool false] 301)).drew.heap[k]? = wc.heap[k]? from fun k hk=>Below.heap_alloc _ _ _ hk);have HLT2:=Ha (show bm<wc.heap.size∧bC<wc.heap.size∧w6.heap.size<wc.heap.size from ⟨(gL hmd.box).1,(gL hqC).1,(gL hqT).1⟩);have HE5:=Ha (show w5.heap[bm]? = wc.heap[bm]? ∧ w5.heap[bC]? = wc.heap[bC]? ∧ w5.heap[w6.heap.size]? = wc.heap[w6.heap.size]? from
             ⟨e5,hev5.tb (T:=303) (by decide) ⟨_,hqC⟩,hev5.tb (T:=296) (by decide) ⟨_,hqT⟩⟩)
            have HF5:=Ha (gS hm5 (show EvM B bm bf wr w5' from HEV4.out.trans ((EvM.of (gR _ _).drew).trans hevm5)));clear hrun0 hev5 e5 hm5 hevm5 hmd hqC hqT hsetd;go_wp2_with fail;refine aE.start 19 (fun X=>X.cell? ⟨bm,11,none⟩=some (.slice Ae4 es3.length ce4)∧X.cell? ⟨bC,2,none⟩=some (.bool false)∧X.cell? ⟨w6.heap.size,1,none⟩=some (.bool em)) (by kernel_rfl) ?hs_3 (fun hHeld=>?hr_3)
            case hs_3=>exact HS4.out _ rfl rfl rfl
            refine aE.tks [0,1,2,3,4,5,6,7,8,9,10] ?_ (by kernel_rfl) (by assumption)
            iterate 11
             refine aK.cons ?_ (by rfl) (by rfl) (by intro w h;(try dsimp only at h);simp only [gA,gB,gC];go_simp;try with_reducible rfl) (by exact fun _ _ _ h=>h);simp only [gA,gB,gC,Act.put,gD,gE,gF]
            show aE _ _ _ _ _ _ _ _ _ _;refine aE.take (i:=11) (oi:=_) (v:=undef) rfl (by kernel_rfl) (by kernel_rfl) (by kernel_rfl) (by kernel_rfl) (fun _ _ _ h=>h) (Or.inr ⟨by rfl,rfl⟩) (by assumption) ?_;simp only [gA,gB,gC,Act.put,gD,gE,gF];refine aE.take (i:=12) (oi:=_) (v:=undef) rfl (by kernel_rfl) (by kernel_rfl) (by kernel_rfl) (by kernel_rfl) (fun _ _ _ h=>h) (Or.inr ⟨by rfl,rfl⟩) (by assumption) ?_;simp only [gA,gB,gC,Act.put,gD,gE,gF];refine aE.tks [13,14] ?_ (by kernel_rfl) (by assumption)
            iterate 2
             refine aK.cons ?_ (by rfl) (by rfl) (by intro w h;(try dsimp only at h);simp only [gA,gB,gC];go_simp;try with_reducible rfl) (by exact fun _ _ _ h=>h);simp only [gA,gB,gC,Act.put,gD,gE,gF]
            show aE _ _ _ _ _ _ _ _ _ _;refine aE.one (i:=15) (by kernel_rfl) rfl fun K hK=>?_;simp only [gA,gB,gC]
            go_simp
            refine hK.out _ _ ?_ (fun hHeld=>?_)
            ·exact HS4.out _ (HEA.out _ HLT2.out.1) (HEA.out _ HLT2.out.2.1) (HEA.out _ HLT2.out.2.2)
            clear hK K;try simp only [Act.put,gD,gE,gF]
            refine aE.one (i:=16) (by kernel_rfl) rfl fun K hK=>?_;simp only [gA,gB,gC]
            go_simp
            refine hK.out _ _ ?_ (fun hHeld=>?_)
            ·exact HS4.out _ HE5.out.1 HE5.out.2.1 HE5.out.2.2
            clear hK K;try simp only [Act.put,gD,gE,gF]
            refine aE.one (i:=17) (by kernel_rfl) rfl fun K hK=>?_;simp only [gA,gB,gC]
            go_simp
            refine hK.out _ _ ?_ (fun hHeld=>?_)
            ·exact HS4.out _ HE5.out.1 HE5.out.2.1 HE5.out.2.2
            clear hK K;try simp only [Act.put,gD,gE,gF]
            refine aE.tks [18] ?_ (by kernel_rfl) (by assumption)
            iterate 1
             refine aK.cons ?_ (by rfl) (by rfl) (by intro w h;(try dsimp only at h);simp only [gA,gB,gC];go_simp;try with_reducible rfl) (by exact fun _ _ _ h=>h);simp only [gA,gB,gC,Act.put,gD,gE,gF]
            show aE _ _ _ _ _ _ _ _ _ _;refine aE.last (by kernel_rfl) rfl fun K hK=>?_;simp only [gA,gB,gC]
            go_simp
            refine hK.out _ _ (aE.done (by kernel_rfl) ?_ _);go_wp2_with fail
            go_roundw
            case rel=>exact ⟨q+1,hqt,by go_num,va4,_,ps4,_,FV4,fl4,HF5.out.1,HEV3.out.trans HF5.out.2,by omega,by omega,by rw [gI,gZ];omega,HF4.out⟩
            case measure=>simp only [intOf];omega
           ·obtain ⟨A5,c5,w5,w5',hrun0,hW5,hev5,e5,y11,f11,hm5,hevm5⟩:=hmd.pushEdge (tt:=t) (at_:=at_) HT4.out (by omega) (some qs) (fun q' hq'=>by injection hq' with hq';subst hq';exact hsetd) em (by omega);have hrun:WrA Tryz.prog #[246,246] 246 #[.slice Ae4 es3.length ce4,.slice (some ⟨wc.heap.size,0,none⟩) 1 1] (wc.alloc (.cells #[.int .i64 (t:Int),.int .i64 (at_:Int),.pointer (some ⟨qs.1,0,none⟩),.bool em] 301)).drew=.ok (.slice A5 (es3.length+1) c5) w5:=hrun0;have HS4:=Ha (show ∀ X:World,X.heap[bm]? = wc.heap[bm]? → X.heap[bC]? = wc.heap[bC]? → X.heap[w6.heap.size]? = wc.heap[w6.heap.size]? → X.cell? ⟨bm,11,none⟩=some (.slice Ae4 es3.length ce4)∧X.cell? ⟨bC,2,none⟩=some (.bool true)∧X.cell? ⟨w6.heap.size,1,none⟩=some (.bool em) from
             fun X h1 h2 h3=>⟨aA (h1.trans hmd.box) 11 _ rfl,aA (h2.trans hqC) 2 _ rfl,aA (h3.trans hqT) 1 _ rfl⟩)
            have HEA:=Ha (show ∀ k,k<wc.heap.size→(wc.alloc (.cells #[.int .i64 (t:Int),.int .i64 (at_:Int),.pointer (some ⟨qs.1,0,none⟩),.bool em] 301)).drew.heap[k]? = wc.heap[k]? from fun k hk=>Below.heap_alloc _ _ _ hk);have HLT2:=Ha (show bm<wc.heap.size∧bC<wc.heap.size∧w6.heap.size<wc.heap.size from ⟨(gL hmd.box).1,(gL hqC).1,(gL hqT).1⟩);have HE5:=Ha (show w5.heap[bm]? = wc.heap[bm]? ∧ w5.heap[bC]? = wc.heap[bC]? ∧ w5.heap[w6.heap.size]? = wc.heap[w6.heap.size]? from
             ⟨e5,hev5.tb (T:=303) (by decide) ⟨_,hqC⟩,hev5.tb (T:=296) (by decide) ⟨_,hqT⟩⟩)
            have HF5:=Ha (gS hm5 (show EvM B bm bf wr w5' from HEV4.out.trans ((EvM.of (gR _ _).drew).trans hevm5)));clear hrun0 hev5 e5 hm5 hevm5 hmd hqC hqT hsetd;go_wp2_with fail;refine aE.start 19 (fun X=>X.cell? ⟨bm,11,none⟩=some (.slice Ae4 es3.length ce4)∧X.cell? ⟨bC,2,none⟩=some (.bool true)∧X.cell? ⟨w6.heap.size,1,none⟩=some (.bool em)) (by kernel_rfl) ?hs_4 (fun hHeld=>?hr_4)
            case hs_4=>exact HS4.out _ rfl rfl rfl
            refine aE.tks [0,1,2,3,4,5,6,7,8,9,10] ?_ (by kernel_rfl) (by assumption)
            iterate 11
             refine aK.cons ?_ (by rfl) (by rfl) (by intro w h;(try dsimp only at h);simp only [gA,gB,gC];go_simp;try with_reducible rfl) (by exact fun _ _ _ h=>h);simp only [gA,gB,gC,Act.put,gD,gE,gF]
            show aE _ _ _ _ _ _ _ _ _ _;refine aE.tks [11,12] ?_ (by kernel_rfl) (by assumption)
            iterate 2
             refine aK.cons ?_ (by rfl) (by rfl) (by intro w h;(try dsimp only at h);simp only [gA,gB,gC];go_simp;try with_reducible rfl) (by exact fun _ _ _ h=>h);simp only [gA,gB,gC,Act.put,gD,gE,gF]
            show aE _ _ _ _ _ _ _ _ _ _;refine aE.tks [13,14] ?_ (by kernel_rfl) (by assumption)
            iterate 2
             refine aK.cons ?_ (by rfl) (by rfl) (by intro w h;(try dsimp only at h);simp only [gA,gB,gC];go_simp;try with_reducible rfl) (by exact fun _ _ _ h=>h);simp only [gA,gB,gC,Act.put,gD,gE,gF]
            show aE _ _ _ _ _ _ _ _ _ _;refine aE.one (i:=15) (by kernel_rfl) rfl fun K hK=>?_;simp only [gA,gB,gC]
            go_simp
            refine hK.out _ _ ?_ (fun hHeld=>?_)
            ·exact HS4.out _ (HEA.out _ HLT2.out.1) (HEA.out _ HLT2.out.2.1) (HEA.out _ HLT2.out.2.2)
            clear hK K;try simp only [Act.put,gD,gE,gF]
            refine aE.one (i:=16) (by kernel_rfl) rfl fun K hK=>?_;simp only [gA,gB,gC]
            go_simp
            refine hK.out _ _ ?_ (fun hHeld=>?_)
            ·exact HS4.out _ HE5.out.1 HE5.out.2.1 HE5.out.2.2
            clear hK K;try simp only [Act.put,gD,gE,gF]
            refine aE.one (i:=17) (by kernel_rfl) rfl fun K hK=>?_;simp only [gA,gB,gC]
            go_simp
            refine hK.out _ _ ?_ (fun hHeld=>?_)
            ·exact HS4.out _ HE5.out.1 HE5.out.2.1 HE5.out.2.2
            clear hK K;try simp only [Act.put,gD,gE,gF]
            refine aE.tks [18] ?_ (by kernel_rfl) (by assumption)
            iterate 1
             refine aK.cons ?_ (by rfl) (by rfl) (by intro w h;(try dsimp only at h);simp only [gA,gB,gC];go_simp;try with_reducible rfl) (by exact fun _ _ _ h=>h);simp only [gA,gB,gC,Act.put,gD,gE,gF]
            show aE _ _ _ _ _ _ _ _ _ _;refine aE.last (by kernel_rfl) rfl fun K hK=>?_;simp only [gA,gB,gC]
            go_simp
            refine hK.out _ _ (aE.done (by kernel_rfl) ?_ _);go_wp2_with fail
            go_roundw
            case rel=>exact ⟨q+1,hqt,by go_num,va4,_,ps4,_,FV4,fl4,HF5.out.1,HEV3.out.trans HF5.out.2,by omega,by omega,by rw [gI,gZ];omega,HF4.out⟩
            case measure=>simp only [intOf];omega
end
end Go.Proofs.YtpidmmfjcghmeaaGreat
