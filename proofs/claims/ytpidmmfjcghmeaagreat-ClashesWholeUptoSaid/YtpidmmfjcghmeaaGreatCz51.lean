/- Towards clashesWhole_upto. -/
import Derived.Test.YtpidmmfjcghmeaaGreatCz50
set_option maxRecDepth 100000
set_option maxHeartbeats 16000000
set_option linter.all false
namespace Go.Proofs.YtpidmmfjcghmeaaGreat
open Go.RowKit
section
attribute [local go_sem ↓] aI
theorem B4 (w0 w:World) (G:Nat→Prop) (bm:Nat) (A0:Option Addr) (c0:Nat) (A1:Option Addr) (c1:Nat) (A2:Option Addr) (c2:Nat) (g:Gm) (vl z9 z10 z11 z12:Value) (hbx:w.heap[bm]? = some (.cells #[.slice A0 g.terms.length c0,.slice A1 g.nons.length c1,.slice A2 g.rules.length c2,.int .i64 g.start,vl,.slice none 0 0,.slice none 0 0,.slice none 0 0,.slice none 0 0,z9,z10,z11,z12] 248 (0,0))) (hgb:GBox G w bm A0 c0 A1 c1 A2 c2 g) (hGm:∀ k,G k→k≠bm) (hw0:Below w0.heap.size w0 w) (hle:w0.heap.size≤bm) (hw:GW g) (ht:g.top≤63) (hn31:g.terms.length+1≤31):
    Calls Tryz.prog 155 #[.pointer (some ⟨bm,0,none⟩)] w fun e w'=>uC G w bm A0 c0 A1 c1 A2 c2 g vl z9 z10 z11 z12 e w':=by
  have H1:=EJ G;have H3:=jN;have H4:=CP;unfold ag at H1 H3 H4;have HFI:=Ha H1;have HT:=Ha H3;have HRU:=Ha H4;have HX:=Ha hgb;have HBX:=Ha hbx;have HGM:=Ha hGm;have HW:=Ha hw;have HW0:=Ha (gS hw0 hle);have hlr:=hw.lr;have HTOP:=Ha (gS ht hn31);clear H1 H3 H4 hgb hbx hGm hw hw0 hle;obtain ⟨x0,x1,x2,x3⟩:=HX.out.cells;go_enter Tryz.func155,Tryz.ntmps155;go_wp2_with fail;refine (HFI.out _ _ g HX.out.old HX.out.gm HW.out ht).mono ?_;rintro e w1 ⟨⟨bf,bE,bwE,B1,d1,B2,d2,ps,qs,rfl,hfs⟩,hb1⟩;have HFS1:=Ha hfs;have HX1:=Ha (HX.out.on hb1);have HB1:=Ha hb1;clear hfs hb1 x0 x1 x2 x3;obtain ⟨x0,x1,x2,x3⟩:=HX1.out.cells;go_wp2_with fail;refine (HT.out _ _ _ g HX1.out.old HX1.out.gm (by omega)).mono ?_;rintro e w2 ⟨rfl,hb2⟩;obtain ⟨m,hm⟩:∃ m:Nat,m=g.top+1:=⟨_,rfl⟩;have hm1:IntKind.i64.wrap ((g.top:Int)+1)=(m:Int):=by rw [hm];exact IntWalk.i64_in _ (by omega)
  have hmk:=EY w2 (m:=m) (by omega);have hB2:=HB1.out.trans (hb2.mono HB1.out.size);obtain ⟨w3,hW3⟩:∃ w3,w2.alloc (.cells (Array.replicate m (.slice none 0 0)) 26)=w3:=⟨_,rfl⟩;obtain ⟨wL,hWL⟩:∃ wL,w3.setCell ⟨bm,7,none⟩ (.slice (some ⟨w2.heap.size,0,none⟩) m m)=wL:=⟨_,rfl⟩;obtain ⟨y7,f7,hTm,hTR,hcL,hsL,hpL⟩:=Prep.start (HX1.out.on hb2) ((hB2.block bm HX.out.lt).trans HBX.out) HGM.out (HW0.out.1.trans (hB2.mono HW0.out.1.size)) HW0.out.2 hm hW3 hWL;have hfL:FS wL bf (g.top+1) (g.terms.length+1) bE bwE B1 d1 B2 d2 ps qs:=(HFS1.out.below hb2).chgT fun k hk=>by
    have hT2:TB 248 w2 bm:=⟨_,(hB2.block bm HX.out.lt).trans HBX.out⟩;rcases hk with hk | hk | hk | hk <;> exact hcL.same k hk.lt fun e=>hk.ne hT2 (by decide) e
  have hcW:Chg (· = bm) w wL:=(Chg.of hB2:Chg (· = bm) w w2).trans hcL;rw [hW3] at hmk;have HM:=Ha hm;have HBR:=Ha (show w.heap.size≤w2.heap.size from hB2.size);generalize hbR:w2.heap.size=bR at *;have HL:=Ha (gS hTm (gS hTR (gS hfL (gS hcW hsL))));have HP:=Ha hpL;clear hTm hTR hfL hcW hsL hpL hcL x0 x1 x2 x3 hb2 hB2 hm;obtain ⟨n1,hn1⟩:∃ n:Nat,n=g.rules.length+1:=⟨_,rfl⟩;have hnw:IntKind.i64.wrap ((g.rules.length:Int)+1)=(n1:Int):=by rw [hn1];exact IntWalk.i64_in _ (by omega)
  have HN1:=Ha hn1;obtain ⟨x0,x1,x2,x3⟩:=HP.out.gb.cells;go_wp2_with fail
  go_loopw [33] (fun kv wr=>∃ (k:Nat) (F:Nat→Prop) (vr vts:Value) (vs:List Value),k≤n1∧kv=.int .i64 k∧Prep w0 G bR bm A0 c0 A1 c1 A2 c2 g vl (.slice none 0 0) z9 z10 z11 z12 bR F wr vr vts vs k (min k g.rules.length) k∧Chg (fun k=>k=bm∨k=bR) wL wr∧∀ j,F j→G j∨w.heap.size≤j) (fun kv _=>n1-(intOf kv).toNat)
  case atStart=>exact ⟨0,_,_,_,_,gX _,rfl,by rw [Nat.zero_min];exact HP.out,Chg.refl _ _,fun _ h=>.inl h⟩
  case round=>
    obtain ⟨k,F,vr,vts,vs,hk,rfl,hp,hc,hF⟩:=hrel;obtain ⟨HPR,HCR,HFF⟩:=hs3 hp hc hF;clear hp hc hF HP x0 x1 x2 x3 y7 f7 hmk;obtain ⟨x0,x1,x2,x3⟩:=HPR.out.gb.cells;by_cases hlt:k<n1
    case neg=>
      obtain rfl:k=n1:=by omega
      have hp:Prep w0 G bR bm A0 c0 A1 c1 A2 c2 g vl (.slice none 0 0) z9 z10 z11 z12 bR F wr vr vts vs (g.rules.length+1) (min (g.rules.length+1) g.rules.length) (g.rules.length+1):=by
        have h:=HPR.out;rw [show k=g.rules.length+1 from HN1.out] at h;exact h
      have hmt:=hp.mt2 (G':=fun j=>j<wr.heap.size∧(G j∨w.heap.size≤j)) (by omega) (by omega) (fun j hj=>⟨(hp.fr j hj).1,HFF.out j hj⟩) (fun _ h=>h.1) (fun j h1 h2=>⟨h2,.inr (by have:=HBR.out;omega)⟩);have hbmw:bm<w.heap.size:=HX.out.lt;have HMT:=Ha hmt;have HBP:=Ha hp.box;have hcw:Chg (· = bm) w wr:=HL.out.2.2.2.1.trans2 HCR.out fun i hi e=>e.elim id fun e=>by have:=HBR.out;omega
      have HCW:=Ha hcw;clear hp hmt hcw HPR HCR HFF;obtain ⟨x0,x1,x2,x3⟩:=HMT.out.gb.cells;go_wp2_with fail;refine (HT.out _ _ _ g HMT.out.gb.old HMT.out.gb.gm (by omega)).mono ?_;rintro e wa ⟨rfl,hba⟩;have hm1':=hm1;have hmk:=EX wa (m:=m) (by have:=HM.out;omega);obtain ⟨wb,hWb⟩:∃ wb,wa.alloc (.cells (Array.replicate m (.slice none 0 0)) 297)=wb:=⟨_,rfl⟩;obtain ⟨wM,hWM⟩:∃ wM,wb.setCell ⟨bm,8,none⟩ (.slice (some ⟨wa.heap.size,0,none⟩) m m)=wM:=⟨_,rfl⟩;rw [hWb] at hmk;have hwa:w.heap.size≤wa.heap.size:=gP HCW.out.size hba.size;obtain ⟨y8,f8,hcM,hcms⟩:=Cms.start (lo:=w.heap.size) (HMT.out.on hba) (fun j hj=>hj.2.elim (HGM.out j) fun h=>by omega) hwa ((hba.block bm (by have:=HCW.out.size;omega)).trans HBP.out) HM.out hWb hWM;obtain ⟨wq,hwq⟩:∃ wq,wq=wr:=⟨_,rfl⟩;rw [← hwq] at hcms;have HCWM:=Ha (show Chg (· = bm) w wM from (HCW.out.trans (Chg.of hba)).trans hcM);generalize hbC:wa.heap.size=bC at *;have HBC:=Ha (show w.heap.size≤bC from hwa);have HCMS:=Ha hcms;have HWQ:=Ha (show ∀ j,j<wq.heap.size∧(G j∨w.heap.size≤j)→(G j∨w.heap.size≤j) from fun j h=>h.2);clear hcms hcM hba hwq hwa x0 x1 x2 x3;obtain ⟨t1,ht1⟩:∃ t1:Nat,t1=g.terms.length+1:=⟨_,rfl⟩;have htw:IntKind.i64.wrap ((g.terms.length:Int)+1)=(t1:Int):=by rw [ht1];exact IntWalk.i64_in _ (by omega)
      have HT1:=Ha ht1
      have htt1 : t1 ≤ m := by have h1 := HM.out; have : g.terms.length ≤ g.top := by (unfold Gm.top; omega)
                               omega
      obtain ⟨x0,x1,x2,x3⟩:=HCMS.out.mt.gb.cells;clear ht1;go_wp2_with fail;clear hmk y8 f8 hWM hWb x0 x1 x2 x3
      go_loopw [10] (fun sv wr=>∃ (s:Nat) (vs':List Value),t1≤s∧s≤m∧sv=.int .i64 s∧Cms (fun j=>j<wq.heap.size∧(G j∨w.heap.size≤j)) bm A0 c0 A1 c1 A2 c2 g vl vr vts (.slice (some ⟨bR,0,none⟩) (g.top+1) (g.top+1)) z9 z10 z11 z12 w.heap.size bC wr vs'∧Chg (· = bC) wM wr) (fun sv _=>m-(intOf sv).toNat)
      case atStart=>exact ⟨t1,_,gO _,htt1,rfl,HCMS.out,Chg.refl _ _⟩
      case round=>
        obtain ⟨s,vs',hs1,hsm,rfl,hcm,hcr⟩:=hrel;have HCM:=Ha hcm;have HCR:=Ha hcr;clear hcm hcr HCMS;obtain ⟨x0,x1,x2,x3⟩:=HCM.out.mt.gb.cells;go_wp2_with fail;refine (HT.out _ _ _ g HCM.out.mt.gb.old HCM.out.mt.gb.gm (by omega)).mono ?_;rintro e wt ⟨rfl,hbt⟩;have HCT:=Ha (HCM.out.below hbt);have HCB:=Ha (show Chg (· = bC) wM wt from HCR.out.trans (Chg.of hbt));clear hbt x0 x1 x2 x3;by_cases hst:s≤g.top
        · have hcd:=HCT.out.below (gR wt.heap.size wt).drew;have hN:g.N (s:Int):=by have:=HT1.out;unfold Gm.N;omega
          have HCO:=Ha (AB _ wt.drew bm A0 c0 A1 c1 A2 c2 g vr vts _ (s:Int) hcd.mt HW.out.kn hN HW.out.lx hlr hn31 (by omega));have HS:=Ha (show ∀ X:World,X.heap[bm]? = wt.drew.heap[bm]? → X.cell? ⟨bm,8,none⟩=some (.slice (some ⟨bC,0,none⟩) (g.top+1) (g.top+1)) from fun X hX=>aA (hX.trans hcd.box) 8 _ rfl);have HCD:=Ha hcd;have hsl:s<vs'.length:=by rw [hcd.len];omega
          have hs0:(0:Int)≤(s:Int):=by omega
          have hs2:(s:Int)<(g.top:Int)+1:=by omega
          have hst':(s:Int)≤(g.top:Int):=by omega
          have hsw:IntKind.i64.wrap ((s:Int)+1)=((s+1:Nat):Int):=by rw [IntWalk.i64_in _ (by omega)];omega
          clear hcd hN;go_wp2_with fail;refine aE.start 9 (fun X=>X.cell? ⟨bm,8,none⟩=some (.slice (some ⟨bC,0,none⟩) (g.top+1) (g.top+1))) (by kernel_rfl) ?hs_1 (fun hHeld=>?hr_1)
          case hs_1=>exact HS.out _ rfl
          refine aE.tks [0,1,2,3,4,5,6] ?_
          iterate 7
            refine aK.cons ?_;simp only [gA,gB,gC,Act.put,gD,gE,gF]
          show aE _ _ _ _ _ _ _ _ _ _;refine aE.one (i:=7) fun K hK=>?_;simp only [gA,gB,gC]
          go_simp
          with_reducible refine Calls.mono HCO.out ?_
          rintro e wv ⟨⟨v,xs,vt,T,rfl,hx⟩,hbv⟩;obtain ⟨eC,em,yC,fC,hcC,hcm⟩:=HCD.out.put hsl hbv hx (by omega);obtain ⟨Av,cv,rfl,_⟩:=hx.row.shape;obtain ⟨HV,HCN,HCC⟩:=hs3 (HS.out wv em) hcm (show Chg (· = bC) wM _ from (HCB.out.drew).trans hcC);clear hx hbv eC em hcm hcC;dsimp only;refine hK.out _ _ ?_ (fun hHeld=>?_)
          · exact HV.out
          clear hK K;try simp only [Act.put,gD,gE,gF]
          refine aE.one (i:=8) fun K hK=>?_;simp only [gA,gB,gC]
          go_simp
          refine hK.out _ _ ?_ (fun hHeld=>?_)
          · exact HV.out
          clear hK K;try simp only [Act.put,gD,gE,gF]
          refine aE.last fun K hK=>?_;simp only [gA,gB,gC]
          go_simp
          refine hK.out _ _ (aE.done (by kernel_rfl) ?_ _);go_wp2_with fail
          go_roundw
          case rel=>
            have h2:=HM.out;exact ⟨s+1,_,by omega,by omega,by first | rfl | go_num,HCN.out,HCC.out⟩
          case measure=>
            have h2:=HM.out;simp only [intOf];omega
        · have hst':¬(s:Int)≤(g.top:Int):=by omega
          have HFI2:=Ha (show uC G w bm A0 c0 A1 c1 A2 c2 g vl z9 z10 z11 z12 (.returned (.tuple #[])) wt from
            ⟨⟨rfl,vr,vts,_,_,HCT.out.box,HCT.out.mt.keepG (fun j hj=>⟨HCT.out.mt.gb.old j hj,HWQ.out j hj⟩) (fun _ h=>h.1) (gO _) (fun _ _=>rfl) (fun _ _=>rfl),HCT.out.slAt (by omega)⟩,HCWM.out.trans2 HCB.out fun i hi e=>by have:=HBC.out;omega⟩)
          clear hst;go_wp2_with fail
          go_end0
          exact HFI2.out
    case pos=>
      have hkr:k≤g.rules.length:=by have:=HN1.out;omega
      go_wp2_with fail;refine (HRU.out G _ _ g k HPR.out.gb.old HPR.out.gb.gm hkr).mono ?_;rintro e w5 ⟨⟨A,c,rfl,hri⟩,hb5⟩;obtain ⟨rl,hrl⟩:∃ rl,rl=(g.rightAt k).length:=⟨_,rfl⟩;rw [← hrl] at hri ⊢;have hb6:Below w5.heap.size w5 (w5.alloc (.cells #[.int .i64 (g.leftAt k),.slice A rl c] 64)):=(gR _ _).alloc (gO _) _;have q6:=aC w5 (.cells #[.int .i64 (g.leftAt k),.slice A rl c] 64);generalize hW6:w5.alloc (.cells #[.int .i64 (g.leftAt k),.slice A rl c] 64)=w6 at *;have hb56:Below wr.heap.size wr w6.drew:=(hb5.trans (hb6.mono hb5.size)).drew;obtain ⟨F6,hF6⟩:∃ F6:Nat→Prop,F6=fun j=>F j∨(wr.heap.size≤j∧j<w6.heap.size):=⟨_,rfl⟩;have hFl:=fun j (hj:F j)=>(HPR.out.fr j hj).1;have hp6:=HPR.out.grow (F':=F6) hb56 (fun j h=>by rw [hF6];exact .inl h) (fun j h=>by
        rw [hF6] at h;rcases h with h | h
        · exact ⟨gK (hFl j h) hb56.size,.inl h⟩
        · exact ⟨h.2,.inr h.1⟩)
      have hri6:aF F6 w6.drew (.slice A rl c) (g.rightAt k):=aH.keepG (w:=w5) (fun j h=>by
        rw [hF6];rcases h with h | h
        · exact .inl (HPR.out.gF j h)
        · exact .inr ⟨h.1,gK h.2 hb6.size⟩) (fun j h=>(hb6.drew).block j (by
        rcases h with h | h
        · exact gK (HPR.out.gb.old j h) hb5.size
        · exact h.2)) hri fun _ _ h=>h
      have hsz5:=hb5.size;obtain ⟨Ar,cr,rfl,_⟩:=hp6.rs.shape;rw [List.length_range] at hp6;obtain ⟨A4,c4,w7a,w7,hrun,hW7,e3,e4,y5,f5,hc7,hp7⟩:=hp6.pushRight hri6 (by omega);replace hrun:WrA Tryz.prog #[92,92] 92 #[.slice Ar k cr,.slice (some ⟨w6.heap.size,0,none⟩) 1 1] (w6.alloc (.cells #[.slice A rl c] 26)).drew=.ok (.slice A4 (k+1) c4) w7a:=hrun;have hTq:TB 64 w6.drew w5.heap.size:=⟨_,q6⟩;have hqm:w5.heap.size≠bm:=hTq.ne (T':=248) ⟨_,hp6.box⟩ (by decide);have q7:w7.heap[w5.heap.size]? = some (.cells #[.int .i64 (g.leftAt k),.slice A rl c] 64 (0,0)):=(hc7.same _ hTq.lt fun e=>e.elim hqm fun e=>hTq.ne (hp6.rs.tb e).2 (by decide) rfl).trans q6;have q7a:w7a.heap[w5.heap.size]? = some (.cells #[.int .i64 (g.leftAt k),.slice A rl c] 64 (0,0)):=by
        rw [← hW7] at q7;exact (gU _ _ _ _ hqm).symm.trans q7
      have q6a:(w6.drew.alloc (.cells #[.slice A rl c] 26)).heap[w5.heap.size]? = some (.cells #[.int .i64 (g.leftAt k),.slice A rl c] 64 (0,0)):=(Below.heap_alloc _ _ _ hTq.lt).trans q6;have hS:∀ X:World,X.heap[bm]? = w6.drew.heap[bm]? → X.heap[w5.heap.size]? = some (.cells #[.int .i64 (g.leftAt k),.slice A rl c] 64 (0,0))→X.cell? ⟨bm,5,none⟩=some (.slice Ar k cr)∧X.cell? ⟨w5.heap.size,1,none⟩=some (.slice A rl c):=fun X h1 h2=>⟨aA (h1.trans hp6.box) 5 _ rfl,aA h2 1 _ rfl⟩;have HS6:=Ha (gS (hS _ rfl q6) (gS (hS _ e3 q6a) (hS _ e4 q7a)));have hcl:Chg (fun k=>k=bm∨k=bR) wL w7:=(HCR.out.trans2 (Chg.of hb56:Chg (fun k=>k=bm∨k=bR) wr w6.drew) fun _ _ h=>h).trans2 hc7 fun i hi e=>e.elim .inl fun e=>.inr (by
        have h1:=(hp6.rs.tb e).1;have h2:=HL.out.2.2.2.2;omega)
      have HR6:=Ha (show aF F6 w7 (.slice A rl c) (g.rightAt k) from aH.keepG (fun _ h=>h) (fun j hj=>hc7.same j (hp6.fr j hj).1 fun e=>e.elim (hp6.fr j hj).2.1 (hp6.fr j hj).2.2.2.1) hri6 fun _ _ h=>h);have HP7:=Ha hp7;have HC7:=Ha hcl;have HQ7:=Ha q7;have HRL:=Ha hrl;have HF6:=Ha hF6;have hrl8:rl≤8:=by rw [hrl];exact kB HW.out.lx k
      clear hb6 hb56 hFl hp6 hri6 hri hb5 hS q6 q7 q7a q6a hcl hp7 hrl hF6 hTq;clear x0 x1 x2 x3;go_wp2_with fail;refine aE.start 11 (fun X=>X.cell? ⟨bm,5,none⟩=some (.slice Ar k cr)∧X.cell? ⟨w5.heap.size,1,none⟩=some (.slice A rl c)) (by kernel_rfl) ?hs_2 (fun hHeld=>?hr_2)
      case hs_2=>exact HS6.out.1
      refine aE.tks [0,1,2,3,4,5,6] ?_
      iterate 7
        refine aK.cons ?_;simp only [gA,gB,gC,Act.put,gD,gE,gF]
      show aE _ _ _ _ _ _ _ _ _ _;refine aE.one (i:=7) fun K hK=>?_;simp only [gA,gB,gC]
      go_simp
      refine hK.out _ _ ?_ (fun hHeld=>?_)
      · exact HS6.out.2.1
      clear hK K;try simp only [Act.put,gD,gE,gF]
      refine aE.one (i:=8) fun K hK=>?_;simp only [gA,gB,gC]
      go_simp
      refine hK.out _ _ ?_ (fun hHeld=>?_)
      · exact HS6.out.2.2
      clear hK K;try simp only [Act.put,gD,gE,gF]
      refine aE.one (i:=9) fun K hK=>?_;simp only [gA,gB,gC]
      go_simp
      refine hK.out _ _ ?_ (fun hHeld=>?_)
      · exact HS6.out.2.2
      clear hK K;try simp only [Act.put,gD,gE,gF]
      refine aE.one (i:=10) fun K hK=>?_;simp only [gA,gB,gC]
      go_simp
      refine hK.out _ _ ?_ (fun hHeld=>?_)
      · exact HS6.out.2.2
      clear hK K;try simp only [Act.put,gD,gE,gF]
      refine aE.last fun K hK=>?_;simp only [gA,gB,gC]
      go_simp
      refine hK.out _ _ (aE.done (by kernel_rfl) ?_ _);clear hrun hW7 e3 e4 y5 f5 HS6 HPR;obtain ⟨x0,x1,x2,x3⟩:=HP7.out.gb.cells
      go_upto_if 63 with fail
      go_cut [] (fun wx=>∃ vs',Prep w0 G bR bm A0 c0 A1 c1 A2 c2 g vl (.slice none 0 0) z9 z10 z11 z12 bR F6 wx (.slice A4 (k+1) c4) vts vs' (k+1) (min (k+1) g.rules.length) k∧Chg (fun j=>j=bm∨j=bR) wL wx∧wx.heap[w5.heap.size]? = some (.cells #[.int .i64 (g.leftAt k),.slice A rl c] 64 (0,0))∧(∀ j,F6 j→wx.heap[j]? = w7.heap[j]?))
      case first=>
        by_cases hkl:k<g.rules.length
        · obtain ⟨t,htl,htt⟩:∃ t:Nat,g.rules[k].1=(t:Int)∧t≤g.top:=by
            have h1:=HW.out.kn.left _ (gN hkl);unfold Gm.N at h1;exact ⟨g.rules[k].1.toNat,by omega,by omega⟩
          have hmin:min k g.rules.length=k:=by omega
          have hpd:=HP7.out.grow (F':=F6) (gR w7.heap.size w7).drew (fun _ h=>h) fun j h=>⟨(HP7.out.fr j h).1,.inl h⟩;rw [hmin] at hpd;have htv:t<vs.length:=by rw [hpd.rl.len];omega
          obtain ⟨vt,hvt⟩:∃ vt,vt=vs[t]:=⟨_,rfl⟩;have hru:=hpd.pushRule hkl hlr htl htv;have hvc:vs.toArray[t]? = some vt:=by rw [hvt];simp [htv]
          have hTv:∀ i,vs[t].ownBlock=some i→TB 3 w7.drew i:=fun i hi=>(hpd.rl.lt htv hi).2.1;obtain ⟨At,nt,ct,hve⟩:∃ A n c,vs[t]=.slice A n c:=by
            obtain ⟨A,c,e⟩:=aX.shape (hpd.rl.ints t htv);exact ⟨A,_,c,e⟩
          rw [← hvt] at hru hTv hve;obtain rfl:=hve;obtain ⟨v',w8a,w8,hrun,hW8,⟨A8,n8,c8,rfl⟩,eR1,em1,eR2,em2,em3,y8,f8,hc8,hp8⟩:=hru;replace hrun:WrA Tryz.prog #[26,26] 26 #[.slice At nt ct,.slice (some ⟨w7.heap.size,0,none⟩) 1 1] (w7.alloc (.cells #[.int .i64 (k:Int)] 3)).drew=.ok (.slice A8 n8 c8) w8a:=hrun;have q7d:w7.drew.heap[w5.heap.size]? = some (.cells #[.int .i64 (g.leftAt k),.slice A rl c] 64 (0,0)):=HQ7.out;rw [Gm.leftAt_lt g hkl,htl] at q7d;have hTq:TB 64 w7.drew w5.heap.size:=⟨_,q7d⟩;have hTm:TB 248 w7.drew bm:=⟨_,hpd.box⟩;have hTR:TB 26 w7.drew bR:=⟨_,hpd.rl.row⟩;have hqR:w5.heap.size≠bR:=hTq.ne hTR (by decide);have q8:w8.heap[w5.heap.size]? = some (.cells #[.int .i64 (t:Int),.slice A rl c] 64 (0,0)):=(hc8.same _ hTq.lt fun e=>e.elim hqR fun e=>hTq.ne (hTv _ e) (by decide) rfl).trans q7d;have q8a:w8a.heap[w5.heap.size]? = some (.cells #[.int .i64 (t:Int),.slice A rl c] 64 (0,0)):=by
            rw [← hW8] at q8;exact (gU _ _ _ _ hqR).symm.trans q8
          have q7a:=(Below.heap_alloc w7.drew (.cells #[.int .i64 (k:Int)] 3) _ hTq.lt).trans q7d;have hS:∀ X:World,X.heap[bm]? = w7.drew.heap[bm]? → X.heap[w5.heap.size]? = some (.cells #[.int .i64 (t:Int),.slice A rl c] 64 (0,0))→X.heap[bR]? = w7.drew.heap[bR]? → X.cell? ⟨bm,7,none⟩=some (.slice (some ⟨bR,0,none⟩) (g.top+1) (g.top+1))∧X.cell? ⟨w5.heap.size,0,none⟩=some (.int .i64 (t:Int))∧X.cell? ⟨bR,t,none⟩=some (.slice At nt ct):=fun X h1 h2 h3=>⟨aA (h1.trans hpd.box) 7 _ rfl,aA h2 0 _ rfl,aA (h3.trans hpd.rl.row) t _ hvc⟩;have HS8:=Ha (gS (hS _ rfl q7d rfl) (gS (hS _ em1 q7a eR1) (hS _ em2 q8a eR2)));have hc8':Chg (fun j=>j=bm∨j=bR) wL w8:=(HC7.out.drew).trans2 hc8 fun i hi e=>.inr (e.elim id fun e=>by
            have h1:=(hpd.rl.lt htv (hvt▸e)).1;have h2:=HL.out.2.2.2.2;omega)
          have q8b:w8.heap[w5.heap.size]? = some (.cells #[.int .i64 (g.leftAt k),.slice A rl c] 64 (0,0)):=by rw [Gm.leftAt_lt g hkl,htl];exact q8
          have hk8:∀ j,F6 j→w8.heap[j]? = w7.heap[j]? := fun j hj=>hc8.same j (hpd.fr j hj).1 fun e=>e.elim (hpd.fr j hj).2.2.1 fun e=>hpd.rl.own t htv j (hvt▸e) hj;have hmin1:min (k+1) g.rules.length=k+1:=by omega
          have HF8:=Ha (show ∃ vs',Prep w0 G bR bm A0 c0 A1 c1 A2 c2 g vl (.slice none 0 0) z9 z10 z11 z12 bR F6 w8 (.slice A4 (k+1) c4) vts vs' (k+1) (min (k+1) g.rules.length) k∧Chg (fun j=>j=bm∨j=bR) wL w8∧w8.heap[w5.heap.size]? = some (.cells #[.int .i64 (g.leftAt k),.slice A rl c] 64 (0,0))∧(∀ j,F6 j→w8.heap[j]? = w7.heap[j]?) from ⟨_,by rw [hmin1];exact hp8,hc8',q8b,hk8⟩);have ht0:(0:Int)≤(t:Int):=by omega
          have ht1:(t:Int)<(g.top:Int)+1:=by omega
          have hkl':(k:Int)<(g.rules.length:Int):=by omega
          clear hpd hvc hTv hvt htv q7d hTq hTm hTR hqR q8 q8a q7a hS hc8' q8b hk8 hmin1 hmin hp8 hc8 htl htt hkl;go_wp2_with fail;refine aE.start 18 (fun X=>X.cell? ⟨bm,7,none⟩=some (.slice (some ⟨bR,0,none⟩) (g.top+1) (g.top+1))∧X.cell? ⟨w5.heap.size,0,none⟩=some (.int .i64 (t:Int))∧X.cell? ⟨bR,t,none⟩=some (.slice At nt ct)) (by kernel_rfl) ?hs_3 (fun hHeld=>?hr_3)
          case hs_3=>exact HS8.out.1
          refine aE.tks [0,1,2,3,4,5,6,7,8,9,10,11,12,13,14] ?_
          iterate 15
            refine aK.cons ?_;simp only [gA,gB,gC,Act.put,gD,gE,gF]
          show aE _ _ _ _ _ _ _ _ _ _;refine aE.one (i:=15) fun K hK=>?_;simp only [gA,gB,gC]
          go_simp
          refine hK.out _ _ ?_ (fun hHeld=>?_)
          · exact HS8.out.2.1
          clear hK K;try simp only [Act.put,gD,gE,gF]
          refine aE.one (i:=16) fun K hK=>?_;simp only [gA,gB,gC]
          go_simp
          refine hK.out _ _ ?_ (fun hHeld=>?_)
          · exact HS8.out.2.2
          clear hK K;try simp only [Act.put,gD,gE,gF]
          refine aE.one (i:=17) fun K hK=>?_;simp only [gA,gB,gC]
          go_simp
          refine hK.out _ _ ?_ (fun hHeld=>?_)
          · exact HS8.out.2.2
          clear hK K;try simp only [Act.put,gD,gE,gF]
          refine aE.last fun K hK=>?_;simp only [gA,gB,gC]
          go_simp
          refine hK.out _ _ (aE.done (by kernel_rfl) ?_ _);go_wp2_with fail
          go_meet
          exact HF8.out
        · have hkl':¬(k:Int)<(g.rules.length:Int):=by omega
          have HF8:=Ha (show ∃ vs',Prep w0 G bR bm A0 c0 A1 c1 A2 c2 g vl (.slice none 0 0) z9 z10 z11 z12 bR F6 w7 (.slice A4 (k+1) c4) vts vs' (k+1) (min (k+1) g.rules.length) k∧Chg (fun j=>j=bm∨j=bR) wL w7∧w7.heap[w5.heap.size]? = some (.cells #[.int .i64 (g.leftAt k),.slice A rl c] 64 (0,0)) from ⟨vs,by rw [show min (k+1) g.rules.length=min k g.rules.length by omega];exact HP7.out,HC7.out,HQ7.out⟩);clear hkl;go_wp2_with fail
          go_meet
          obtain ⟨vs',h1,h2,h3⟩:=HF8.out;exact ⟨vs',h1,h2,h3,fun _ _=>rfl⟩
      case rest=>
        obtain ⟨vs',hpc,hcc,hqc,hkc⟩:=hcut;have HRC:=Ha (show aF F6 wc (.slice A rl c) (g.rightAt k) from aH.keepG (fun _ h=>h) hkc HR6.out fun _ _ h=>h);have hfc:FS wc bf (g.top+1) (g.terms.length+1) bE bwE B1 d1 B2 d2 ps qs:=HL.out.2.2.1.chg2 HL.out.1 HL.out.2.1 hcc;obtain ⟨HPC,HCC,HQC,HFC⟩:=hs4 hpc hcc hqc hfc;have r1:=aA hqc 1 _ rfl;clear hpc hcc hqc hkc hfc HR6 HP7 HC7 HQ7 x0 x1 x2 x3;go_wp2_with fail
        go_loopw [6,85] (fun tv iv we=>∃ d,d≤rl∧iv=.int .i64 (d:Nat)∧Tls wc.heap.size (g.terms.length+1) we tv ((g.rightAt k).take d)∧Below wc.heap.size wc we) (fun _ iv _=>rl-(intOf iv).toNat)
        case atStart=>exact ⟨0,gX _,rfl,by rw [List.take_zero];exact aG.nil _ _ _ _ _,gR _ _⟩
        case round=>
          obtain ⟨d,hd,rfl,htl,hbe⟩:=hrel;have HTE:=Ha htl;have HBE:=Ha hbe;have r1:=aD r1 hbe;clear htl hbe;by_cases hdl:d<rl
          · obtain ⟨bl,ol,rfl,_⟩:=aF.get HRC.out (k:=d) (by rw [← HRL.out];exact hdl);have hGe:∀ j,F6 j→j<wr.heap.size:=fun j hj=>gK (HPC.out.fr j hj).1 HBE.out.size;have hre:aF F6 wr (.slice (some ⟨bl,ol,none⟩) rl c) (g.rightAt k):=aH.keepG (fun _ h=>h) (fun j hj=>HBE.out.block j (HPC.out.fr j hj).1) HRC.out fun _ _ h=>h;have hcap:rl≤c:=by obtain ⟨_,_,e,h2,_⟩:=hre.shape;injection e with _ e1 e;subst e;rw [e1];exact h2
            have hcm:c≤maxLen:=by obtain ⟨_,_,e,_,h2⟩:=hre.shape;injection e with _ e1 e;subst e;exact h2
            unfold maxLen at hcm;obtain ⟨d1',hd1⟩:∃ d1':Nat,d1'=d+1:=⟨_,rfl⟩;have hdw:IntKind.i64.wrap ((d:Int)+1)=(d1':Int):=by rw [hd1];exact IntWalk.i64_in _ (by omega)
            have hd2:(d1':Int)≤(rl:Int):=by omega
            have hd0:(0:Int)≤(d1':Int):=by omega
            have hcap':(rl:Int)≤(c:Int):=by omega
            have hdr:=aF.dropK hre (k:=d1') (by omega);have hdl2:rl-d1'=((g.rightAt k).drop d1').length:=by rw [List.length_drop,← HRL.out]
            generalize hAe:(if c=d1' then some ⟨bl,ol,none⟩ else some ⟨bl,ol+d1',none⟩:Option Addr)=A' at hdr;rw [hdl2] at hdr;have hfe:=HFC.out.below HBE.out;have HLN:=Ha (GG F6 wr bf (g.top+1) (g.terms.length+1) bE bwE B1 d1 B2 d2 ps qs A' (c-d1') ((g.rightAt k).drop d1') hfe (by omega) hGe hdr (fun s hs=>by
              rcases Gm.right_sym HW.out.kn k s (List.mem_of_mem_drop hs) with h | h
              · unfold Gm.T at h;unfold Gm.top;omega
              · unfold Gm.N at h;omega))
            rw [← hdl2] at HLN;have HD1:=Ha hd1;clear hGe hre hcm hdr hdl2 hfe hd1;go_wp2_with fail;refine (HLN.out).mono ?_;rintro e w9 ⟨⟨v9,all,r9,rfl,hv9,hd9⟩,hb9⟩;obtain ⟨A9,c9,rfl⟩:=aX.shape hv9;have hB9:=HBE.out.trans (hb9.mono HBE.out.size);have x0:=aD HPC.out.gb.x0 hB9;have HSE:=Ha (CX (Old w9) w9 bm (g.terms.length+1) g.terms.length A0 c0 A9 c9 r9 x0 (fun _ h=>h) (aX.at_ hv9) hd9 rfl (by omega));have HB9:=Ha hB9;have HT9:=Ha (Tls.below HTE.out hb9);clear hv9 hd9 hb9 hB9 x0;go_wp2_with fail;refine (HSE.out).mono ?_;rintro e w10 ⟨⟨b10,bw10,X10,rfl,hb10,hbw10,hset10⟩,hbb10⟩;obtain ⟨At,ct,rfl,_⟩:=(HT9.out).shape;have htake:((g.rightAt k).take d).length=d:=by rw [List.length_take,← HRL.out];omega
            have hB9s := HB9.out.size; have htp := (Tls.below HT9.out hbb10).push ((g.rightAt k)[d]'(by rw [← HRL.out]; exact hdl)) (em := all) (gP hB9s hb10) (gP hB9s hbw10) hset10 (by omega) (gP hB9s hbb10.size); rw [htake, List.take_append_getElem] at htp; rw [htake]; obtain ⟨A11, c11, w11, hrun, htl, hb11⟩ := htp; have HT11 := Ha htl; have HB11 := Ha ((HB9.out.trans (hbb10.mono HB9.out.size)).trans hb11); clear htl hb11 hb10 hbw10 hset10 hbb10; go_wp2_with fail
            go_roundw
            case rel=>exact ⟨d1',by have:=HD1.out;omega,by first | rfl | go_num,by rw [HD1.out];exact HT11.out,HB11.out⟩
            case measure=>have:=HD1.out;simp only [intOf];omega
          · obtain rfl:d=rl:=by omega
            obtain ⟨F9,hF9⟩:∃ F9:Nat→Prop,F9=fun j=>F6 j∨(wc.heap.size≤j∧j<wr.heap.size):=⟨_,rfl⟩;have hp9:=HPC.out.grow (F':=F9) HBE.out (fun j h=>by rw [hF9];exact .inl h) (fun j h=>by
              rw [hF9] at h;rcases h with h | h
              · exact ⟨gK (HPC.out.fr j h).1 HBE.out.size,.inl h⟩
              · exact ⟨h.2,.inr h.1⟩)
            have hrv:aH F9 wr 2 (dZ F9 wr (g.terms.length+1)) u6 (g.rightAt k):=by
              have h1:=HTE.out;rw [HRL.out,List.take_length] at h1;exact aG.look (h1.mono fun _ _ h=>h.keep (fun j hj=>by rw [hF9];exact .inr hj) fun _ _=>rfl) fun j hj=>by rw [hF9];exact .inr (h1.lt hj)
            obtain ⟨Av,cv,rfl,_⟩:=hp9.ts.shape;rw [List.length_range] at hp9;obtain ⟨A5,c5,w9a,w9,hrun,hW9,e3,e4,y6,f6,hc9,hp10⟩:=hp9.pushTail hrv (by omega);have z6:=aA hp9.box 6 _ rfl;have HP10:=Ha hp10;have HC10:=Ha (show Chg (fun j=>j=bm∨j=bR) wL w9 from (HCC.out.trans2 (Chg.of HBE.out:Chg (fun j=>j=bm∨j=bR) wc wr) fun _ _ h=>h).trans2 hc9 fun i hi e=>e.elim .inl fun e=>.inr (by
              have h1:=(hp9.ts.tb e).1;have h2:=HL.out.2.2.2.2;omega))
            have HF10:=Ha (show ∀ j,F9 j→G j∨w.heap.size≤j from fun j hj=>by
              have hwr:=HFF.out;rw [hF9,HF6.out] at hj;have h0:=HB1.out.size;have h1:=HCR.out.size;have h2:=HBR.out;have h3:=HCC.out.size;have h4:=HL.out.2.2.2.2;rcases hj with (hj | hj) | hj
              · exact hwr j hj
              · exact .inr (by omega)
              · exact .inr (by omega))
            obtain ⟨At,ct,hte,_⟩:=HTE.out.shape;rw [List.length_take,← HRL.out,Nat.min_self] at hte;clear hp9 hrv hc9 hp10 hF9;subst hte;go_wp2_with fail
            go_roundw
            case rel=>exact ⟨k+1,_,_,_,_,by omega,by go_num,HP10.out,HC10.out,HF10.out⟩
            case measure=>simp only [intOf];omega
end
structure Ba (w0:World) (G:Nat→Prop) (B bm bf:Nat) (A0:Option Addr) (c0:Nat) (A1:Option Addr) (c1:Nat) (A2:Option Addr) (c2:Nat) (g:Gm) (ks:List (List Itm)) (A:Option Addr) (c:Nat) (vr vt vu vc:Value) (w:World) (vb va:Value) (ps:List (Nat×Nat)) (i M:Nat):Prop where
 dat:Dat G w g ks (.slice A ks.length c) vr vt vu vc
 gb:GBox G w bm A0 c0 A1 c1 A2 c2 g
 box:w.heap[bm]? = some (.cells #[.slice A0 g.terms.length c0,.slice A1 g.nons.length c1,.slice A2 g.rules.length c2,.int .i64 g.start,.slice A ks.length c,vr,vt,vu,vc,vb,va,.slice none 0 0,.slice (some ⟨bf,0,none⟩) ks.length ks.length] 248 (0,0))
 bs:aX B w vb ((List.range i).map fun (j:Nat)=>(Gm.base ks j:Int))
 all:aG B 68 1 PV w va ps
 sets:∀ p∈ps,B≤p.2∧∃ X,BSet w p.1 p.2 (g.terms.length+1) X
 tot:ps.length=M
 row:w.rowIs bf 307 ks.length fun _=>.slice none 0 0
 bel:Below w0.heap.size w0 w
 le:w0.heap.size≤bm∧w0.heap.size≤bf∧w0.heap.size≤B∧B≤w.heap.size
 gl:∀ k,G k→k<B∧k≠bm∧k≠bf
section
variable {w0:World} {G:Nat→Prop} {B bm bf:Nat} {A0 A1 A2:Option Addr} {c0 c1 c2:Nat} {g:Gm} {ks:List (List Itm)} {A:Option Addr} {c:Nat} {vr vt vu vc:Value} {w w':World} {vb va:Value} {ps:List (Nat×Nat)} {i M:Nat}
theorem Ba.tbf (h:Ba w0 G B bm bf A0 c0 A1 c1 A2 c2 g ks A c vr vt vu vc w vb va ps i M):TB 307 w bf:=by
 obtain ⟨cs,h1,_⟩:=h.row;exact ⟨cs,h1⟩
theorem Ba.below (h:Ba w0 G B bm bf A0 c0 A1 c1 A2 c2 g ks A c vr vt vu vc w vb va ps i M) (hb:Below w.heap.size w w'):Ba w0 G B bm bf A0 c0 A1 c1 A2 c2 g ks A c vr vt vu vc w' vb va ps i M:=
 ⟨h.dat.keep (fun _ h=>h) fun k hk=>hb.block k (h.gb.old k hk),h.gb.on hb,(hb.block _ (gL h.box).1).trans h.box,aX.below h.bs hb,h.all.below hb,fun p hp=>⟨(h.sets p hp).1,(h.sets p hp).2.imp fun X hX=>hX.below hb⟩,h.tot,bK h.row hb,h.bel.trans (hb.mono h.bel.size),⟨h.le.1,h.le.2.1,h.le.2.2.1,gP h.le.2.2.2 hb.size⟩,h.gl⟩
theorem Ba.gbK (h:Ba w0 G B bm bf A0 c0 A1 c1 A2 c2 g ks A c vr vt vu vc w vb va ps i M) (hsz:w.heap.size≤w'.heap.size) (hG:∀ k,G k→w'.heap[k]? = w.heap[k]?) {vb' va':Value} (hb:w'.heap[bm]? = some (.cells #[.slice A0 g.terms.length c0,.slice A1 g.nons.length c1,.slice A2 g.rules.length c2,.int .i64 g.start,.slice A ks.length c,vr,vt,vu,vc,vb',va',.slice none 0 0,.slice (some ⟨bf,0,none⟩) ks.length ks.length] 248 (0,0))):GBox G w' bm A0 c0 A1 c1 A2 c2 g:=by
 refine h.gb.again hsz (fun i hi=>?_) hG
 match i,hi with
 | 0,_=>rw [h.gb.x0];exact aA hb 0 _ rfl
 | 1,_=>rw [h.gb.x1];exact aA hb 1 _ rfl
 | 2,_=>rw [h.gb.x2];exact aA hb 2 _ rfl
 | 3,_=>rw [h.gb.x3];exact aA hb 3 _ rfl
theorem Ba.pushB (h:Ba w0 G B bm bf A0 c0 A1 c1 A2 c2 g ks A c vr vt vu vc w vb va ps i M) (hM:M=Gm.base ks i) (hi:i≤1000000):
  ∃ A4 c4 w4 w5,WrA Tryz.prog #[26,26] 26 #[vb,.slice (some ⟨w.heap.size,0,none⟩) 1 1] (w.alloc (.cells #[.int .i64 (M:Int)] 3))=.ok (.slice A4 (i+1) c4) w4∧w4.setCell ⟨bm,9,none⟩ (.slice A4 (i+1) c4)=w5∧(w.alloc (.cells #[.int .i64 (M:Int)] 3)).heap[bm]? = w.heap[bm]? ∧ w4.heap[bm]? = w.heap[bm]? ∧ w4.cell? ⟨bm,9,none⟩=some vb∧w4.frozen? ⟨bm,9,none⟩=false∧Ba w0 G B bm bf A0 c0 A1 c1 A2 c2 g ks A c vr vt vu vc w5 (.slice A4 (i+1) c4) va ps (i+1) M:=by
 have hbl:=h.le;obtain ⟨A4,c4,w4,w5,hrun,hW5,e3,e4,y5,f5,hbm5,y55,hr5,hc5,how⟩:=kW (i:=9) (v:=vb) (t:=26) Tryz.underlying26 cB rfl (by decide) cF.one (us:=[.int .i64 (M:Int)]) (x:=(M:Int)) rfl rfl h.box rfl (by decide) h.bs (by simp;omega) (by unfold maxLen;simp;omega) hbl.2.2.2;rw [gI,gZ,List.length_map,List.length_range] at hrun hW5 hbm5 y55 hr5 how;have hTb:TB 248 w bm:=⟨_,h.box⟩;have hs:∀ {T:TypeId} {k:Nat},TB T w k→T≠248→T≠3→w5.heap[k]? = w.heap[k]? := fun h1 h2 h3=>hc5.same _ h1.lt fun e=>e.elim (fun e=>h1.ne hTb h2 e) fun e=>h1.ne (aG.tb h.bs e).2 h3 rfl;have hG:∀ k,G k→w5.heap[k]? = w.heap[k]? := fun k hk=>hc5.same k (h.gb.old k hk) fun e=>e.elim (h.gl k hk).2.1 fun e=>by
  have h1:=(aG.tb h.bs e).1;have h2:=(h.gl k hk).1;omega
 refine ⟨A4,c4,w4,w5,hrun,hW5,e3,e4,y5,f5,h.dat.keep (fun _ h=>h) hG,h.gbK hc5.size hG hbm5,hbm5, ?_,h.all.keep fun k hk=>hs (h.all.tb hk).2 (by decide) (by decide),fun p hp=>⟨(h.sets p hp).1,(h.sets p hp).2.imp fun X hX=>hX.keep (hs ⟨_,hX.hb⟩ (by decide) (by decide)) (hs ⟨_,hX.hw⟩ (by decide) (by decide))⟩,h.tot,h.row.of_block (hs h.tbf (by decide) (by decide)),h.bel.trans (hc5.below (fun k e=>?_) h.bel.size),⟨hbl.1,hbl.2.1,hbl.2.2.1,gP hbl.2.2.2 hc5.size⟩,h.gl⟩
 ·rw [List.range_succ,List.map_append,List.map_singleton,← hM];exact hr5
 ·rcases e with rfl | e
  ·exact hbl.1
  ·exact gP hbl.2.2.1 (aG.tb h.bs e).1
theorem Ba.fresh (h:Ba w0 G B bm bf A0 c0 A1 c1 A2 c2 g ks A c vr vt vu vc w vb va ps i M) {e:Ending} (hp:jP w B bm (g.terms.length+1) (.slice A0 g.terms.length c0) (.slice A1 g.nons.length c1) (.slice A2 g.rules.length c2) (.int .i64 g.start) (.slice A ks.length c) vr vt vu vc vb va (.slice none 0 0) (.slice (some ⟨bf,0,none⟩) ks.length ks.length) ps e w'):
  e=.returned (.int .i64 ps.length)∧∃ va' p,Ba w0 G B bm bf A0 c0 A1 c1 A2 c2 g ks A c vr vt vu vc w' vb va' (ps++[p]) i (M+1):=by
 obtain ⟨⟨va',b,bw,rfl,hbx,hr,hset,hb,hbw⟩,hc⟩:=hp;have hbl:=h.le;have hTb:TB 248 w bm:=⟨_,h.box⟩;have hs:∀ {T:TypeId} {k:Nat},TB T w k→T≠248→T≠68→w'.heap[k]? = w.heap[k]? := fun h1 h2 h3=>hc.same _ h1.lt fun e=>e.elim (fun e=>h1.ne hTb h2 e) fun e=>h1.ne (h.all.tb e).2 h3 rfl;have hG:∀ k,G k→w'.heap[k]? = w.heap[k]? := fun k hk=>hc.same k (h.gb.old k hk) fun e=>e.elim (h.gl k hk).2.1 fun e=>by
  have h1:=(h.all.tb e).1;have h2:=(h.gl k hk).1;omega
 refine ⟨rfl,va',(b,bw),h.dat.keep (fun _ h=>h) hG,h.gbK hc.size hG hbx,hbx,aG.keep h.bs fun k hk=>hs (aG.tb h.bs hk).2 (by decide) (by decide),hr,fun p hp=>?_,by rw [gI,gZ,h.tot],h.row.of_block (hs h.tbf (by decide) (by decide)),h.bel.trans (hc.below (fun k e=>?_) h.bel.size),⟨hbl.1,hbl.2.1,hbl.2.2.1,gP hbl.2.2.2 hc.size⟩,h.gl⟩
 ·rcases List.mem_append.1 hp with hp | hp
  ·exact ⟨(h.sets p hp).1,(h.sets p hp).2.imp fun X hX=>hX.keep (hs ⟨_,hX.hb⟩ (by decide) (by decide)) (hs ⟨_,hX.hw⟩ (by decide) (by decide))⟩
  ·rw [gV] at hp;subst hp;exact ⟨by simp only;omega,_,hset⟩
 ·rcases e with rfl | e
  ·exact hbl.1
  ·exact gP hbl.2.2.1 (h.all.tb e).1
theorem Ba.start (hm:Mt G w bm A0 c0 A1 c1 A2 c2 g vr vt vu) (hcs:aH G w 1 (bJ fun v (s:Nat)=>dH G w (g.terms.length+1) g v s) vc (List.range (g.top+1))) (hst:cK G w g (.slice A ks.length c) ks) (hbx:w.heap[bm]? = some (.cells #[.slice A0 g.terms.length c0,.slice A1 g.nons.length c1,.slice A2 g.rules.length c2,.int .i64 g.start,.slice A ks.length c,vr,vt,vu,vc,.slice none 0 0,.slice none 0 0,.slice none 0 0,.slice (some ⟨bf,0,none⟩) ks.length ks.length] 248 (0,0))) (hrow:w.rowIs bf 307 ks.length fun _=>.slice none 0 0) (hb:Below w0.heap.size w0 w) (hle:w0.heap.size≤bm∧w0.heap.size≤bf) (hG:∀ k,G k→k≠bm∧k≠bf):
  Ba w0 G w.heap.size bm bf A0 c0 A1 c1 A2 c2 g ks A c vr vt vu vc w (.slice none 0 0) (.slice none 0 0) [] 0 0:=
 ⟨⟨hst,hm.rs,hm.ts,hm.us,hcs⟩,hm.gb,hbx,aG.nil _ _ _ _ _,aG.nil _ _ _ _ _,fun _ h=>(by cases h),rfl,hrow,hb,⟨hle.1,hle.2,hb.size,gO _⟩,fun k hk=>⟨hm.gb.old k hk,hG k hk⟩⟩
theorem Ba.mx (h:Ba w0 G B bm bf A0 c0 A1 c1 A2 c2 g ks A c vr vt vu vc w vb va ps ks.length (Gm.base ks ks.length)):∃ Ab cb,vb=.slice Ab ks.length cb∧Mx w0 G B bm bf A0 c0 A1 c1 A2 c2 g ks A c vr vt vu vc Ab cb w va (.slice none 0 0) ps [] (fun _=>.slice none 0 0) fun _=>[]:=by
 obtain ⟨Ab,cb,rfl,_⟩:=aG.shape h.bs;have hb:=h.box;have hbs:=h.bs;rw [List.length_map,List.length_range] at hb hbs;refine ⟨Ab,cb,by rw [List.length_map,List.length_range],⟨⟨⟨h.gb,aA hb 4 _ rfl,aA hb 5 _ rfl,aA hb 6 _ rfl,aA hb 7 _ rfl,aA hb 8 _ rfl,h.dat⟩,aA hb 9 _ rfl,aG.look hbs fun k hk=>(aG.tb hbs hk).2⟩,hb,h.all,h.sets,Nat.le_of_eq h.tot.symm,aG.nil _ _ _ _ _,fun _ h=>(by cases h),h.row,fun i hi=>⟨aG.nil _ _ _ _ _,fun _ h=>(by cases h)⟩,fun i j _ _ _ k hk=>by simp [Value.ownBlock] at hk,h.bel,h.le,h.gl⟩⟩
end
theorem BF:(Tryz.prog.info? 307).map (fun i=>(i.zero,i.size,i.bytes))=some (some (.slice none 0 0),1,24):=by kernel_rfl
end Go.Proofs.YtpidmmfjcghmeaaGreat
