/- Towards clashesWhole_upto. -/
import Derived.Test.YtpidmmfjcghmeaaGreatCz38
import Derived.Test.YtpidmmfjcghmeaaGreatCz39
set_option maxRecDepth 100000
set_option maxHeartbeats 16000000
set_option linter.all false
namespace Go.Proofs.YtpidmmfjcghmeaaGreat
open Go.RowKit
section
attribute [local go_sem ↓] aI
def StV (G:Nat→Prop) (w:World) (g:Gm) (ks:List (List Itm)) (vs:List Value) (k:List Itm):Prop:=∃ a t,vs=[a,t]∧aR G w a k∧aR G w t (Gm.transK g ks k g.top)
def cK (G:Nat→Prop) (w:World) (g:Gm) (v:Value) (ks:List (List Itm)):Prop:=aH G w 2 (StV G w g ks) v ks
def vZ (g:Gm) (w:World) (e:Ending) (w':World):Prop:=
 ((g.kernels=none∧e=.returned (.tuple #[.slice none 0 0,.int .i64 7]))∨∃ ks v,g.kernels=some ks∧e=.returned (.tuple #[v,.int .i64 0])∧cK (Old w') w' g v ks)∧Below w.heap.size w w'
structure Rw (w:World) (ro m:Nat) (F:Nat→Value) (g:Gm) (l:List Itm):Prop where
 row:w.rowIs ro 97 m F
 its:∀ s,s<m→∃ A c,F s=.slice A (g.succK l (s:Int)).length c∧aR (TB 250 w) w (.slice A (g.succK l (s:Int)).length c) (g.succK l (s:Int))
theorem Rw.keep {w w':World} {ro m:Nat} {F:Nat→Value} {g:Gm} {l:List Itm} (h:Rw w ro m F g l) (h1:∀ k,TB 250 w k→w'.heap[k]? = w.heap[k]?) (h2:∀ k,TB 97 w k→w'.heap[k]? = w.heap[k]?):Rw w' ro m F g l:=
 ⟨h.row.of_block (h2 ro (by
  obtain ⟨cs,h3,_⟩:=h.row;exact ⟨cs,h3⟩)),fun s hs=>by
  obtain ⟨A,c,h3,h4⟩:=h.its s hs;exact ⟨A,c,h3,aH.keepT h4 h1⟩⟩
theorem jT.rw {g:Gm} {k:List Itm} {m ro:Nat} {F:Nat→Value} {B:Nat} {w':World} (h1:w'.rowIs ro 97 m F) (h2:∀ s,s<m→Its B w' (F s) (g.succK k (s:Int))):Rw w' ro m F g k:=
 ⟨h1,fun s hs=>by
  obtain ⟨A,c,e,_⟩:=aG.shape (h2 s hs);exact ⟨A,c,e,by rw [← e];exact aG.look (h2 s hs) fun i hi=>(aG.tb (h2 s hs) hi).2⟩⟩
theorem DA {B:Nat} {w:World} {vs:Value} {kvs:List Value} (h:aG B 100 2 sT w vs kvs) {j:Nat} (hj:j<kvs.length):
  ∃ sb c,vs=.slice (some ⟨sb,0,none⟩) kvs.length c∧w.cell? ⟨sb,j*2,none⟩=some kvs[j]∧w.cell? ⟨sb,j*2+1,none⟩=some (.slice none 0 0):=by
 obtain ⟨us,hf,_,ho⟩:=h;rcases ho with ⟨rfl,hn⟩ | ⟨g,cap,cur,rfl,hB,hh,hc,hm,hcs,htake⟩
 ·omega
 ·have hsl:=aG.look (G:=fun _=>True) ⟨us,hf,by assumption,.inr ⟨g,cap,cur,rfl,hB,hh,hc,hm,hcs,htake⟩⟩ fun _ _=>trivial;obtain ⟨A,c,e,_,_,h4⟩:=hsl;obtain ⟨b,off,h5,_,h7⟩:=h4 (by omega);obtain ⟨xs,_,⟨_,rfl⟩,h8⟩:=h7 j hj;subst h5
  injection e with e1 _ e3
  injection e1 with e1
  injection e1 with e1 e2
  subst e1 e2;exact ⟨_,_,rfl,by simpa using h8 0 _ rfl,by simpa using h8 1 _ rfl⟩
theorem o7 (G:Nat→Prop) (w:World) (vs:List Value) (g:Gm) (hG:∀ k,G k→k<w.heap.size) (hg:GmV G w vs g) (hw:GW g):
  Calls Tryz.prog 45 #[ag vs] w fun e w'=>vZ g w e w':=by
 obtain ⟨A0,c0,A1,c1,A2,c2,W,ev,hW,⟨x0,x1,x2,x3⟩,HB,HX⟩:=GBox.go hG hg;rw [ev];have HG:=Ha hG;clear hG hg ev;have h2:=kR G;have h3:=D3 G;have h4:=jN G;unfold ag at h2 h3 h4;obtain ⟨H2,H3,H4,HW⟩:=YtpidmmfjcghmeaaGreat.hs4 h2 h3 h4 hw;have hlt:=hw.top.1;have hmm:=@run_makeMap Tryz.prog;obtain ⟨m,hm⟩:∃ m,m=g.top+1:=⟨_,rfl⟩;have HM:=Ha hm;have HGL:=Ha HG.out;clear h2 h3 h4 hw;go_enter Tryz.func45,Tryz.ntmps45;go_wp2_with fail;refine (H2.out _ _ g HX.out.old HX.out.gm HW.out).mono ?_;rintro e w1 ⟨rfl,hb1⟩;have HX1:=Ha (HX.out.on hb1);have HB1:=Ha (HB.out.trans (hb1.mono HB.out.size));clear x0 x1 x2 x3 hb1;obtain ⟨x0,x1,x2,x3⟩:=HX1.out.cells;have q2:Below w1.heap.size w1 (w1.alloc (.map #[] 0)):=(gR _ _).alloc (gO _) _;have hs2:(w1.alloc (.map #[] 0)).heap.size=w1.heap.size+1:=by simp
 have hmi:=MI.made w1;generalize hW2:w1.alloc (.map #[] 0)=w2 at *;have q3:Below w2.heap.size w2 (w2.alloc (.map #[] 0)):=(gR _ _).alloc (gO _) _;have hs3:(w2.alloc (.map #[] 0)).heap.size=w2.heap.size+1:=by simp
 have hmt:=MG.made (κ:=Pk) (kT:=175) (eT:=3) (kl:=klP) (el:=Lit.int .i64) (z0:=0) w2;generalize hW3:w2.alloc (.map #[] 0)=w3 at *;have q4:Below w3.heap.size w3 (w3.alloc (.cells #[.slice A0 g.terms.length c0,.slice A1 g.nons.length c1,.slice A2 g.rules.length c2,.int .i64 g.start,.slice none 0 0,.slice none 0 0,.map (some w1.heap.size),.map (some w2.heap.size)] 171)):=(gR _ _).alloc (gO _) _;have hs4:(w3.alloc (.cells #[.slice A0 g.terms.length c0,.slice A1 g.nons.length c1,.slice A2 g.rules.length c2,.int .i64 g.start,.slice none 0 0,.slice none 0 0,.map (some w1.heap.size),.map (some w2.heap.size)] 171)).heap.size=w3.heap.size+1:=by simp
 have hbx:=aC w3 (.cells #[.slice A0 g.terms.length c0,.slice A1 g.nons.length c1,.slice A2 g.rules.length c2,.int .i64 g.start,.slice none 0 0,.slice none 0 0,.map (some w1.heap.size),.map (some w2.heap.size)] 171);generalize hW4:w3.alloc (.cells #[.slice A0 g.terms.length c0,.slice A1 g.nons.length c1,.slice A2 g.rules.length c2,.int .i64 g.start,.slice none 0 0,.slice none 0 0,.map (some w1.heap.size),.map (some w2.heap.size)] 171)=w4 at *;have hb24:Below w2.heap.size w2 w4:=q3.trans (q4.mono q3.size);have hb14:Below w1.heap.size w1 w4:=q2.trans (hb24.mono q2.size);have hx4:=HX1.out.on hb14;have hgb:GBox G w4 w3.heap.size A0 c0 A1 c1 A2 c2 g:=⟨hx4.old,by omega,aA hbx 0 _ rfl,aA hbx 1 _ rfl,aA hbx 2 _ rfl,aA hbx 3 _ rfl,hx4.ht,hx4.hn,hx4.hr⟩;obtain ⟨HPR,HMI,HMT,HX4,HSZ,HB14⟩:=hs6 (IE G w4 w3.heap.size A0 c0 A1 c1 A2 c2 g (.slice none 0 0) (.slice none 0 0) (.map (some w1.heap.size)) (.map (some w2.heap.size)) hbx hgb (fun k hk=>by have:=HX1.out.old k hk;omega) hlt HW.out.lr) (hmi.keepH ((hb24.block w1.heap.size (by omega))):MI w4 w1.heap.size (fun _=>none) 0) (MG.below hmt q4) hx4 (show w.heap.size<w1.heap.size∧w2.heap.size=w1.heap.size+1∧w3.heap.size=w1.heap.size+2∧w4.heap.size=w1.heap.size+3 from ⟨HX1.out.lt,by omega⟩) hb14;clear q2 q3 q4 hs2 hs3 hs4 hmi hmt hbx hb24 hb14 hx4 hgb;go_wp2_with fail
 with_reducible refine Calls.mono HPR.out ?_
 rintro e w5 ⟨rfl,rb,FB,hpr⟩;rw [← hm] at hpr;generalize hma:w1.heap.size=ma at *;generalize hmt:w2.heap.size=mt at *;generalize hb:w3.heap.size=b at *;have hch:=hpr.chg;have hbw:Bw G w.heap.size b ma mt rb m A0 c0 A1 c1 A2 c2 g w5 (.slice none 0 0) [] [] FB (fun _=>none) 0:=by
  have h0:=HSZ.out;clear hm;refine ⟨HX4.out.stay HGL.out fun k hk=>hch.same k (by omega) (fun e=>by omega),HGL.out,⟨hpr.box,⟨fun _=>none,0,HMI.out.keepH (hch.same ma (by omega) fun e=>by omega),gX _,fun _ _=>by simp⟩,aG.nil _ _ _ _ _,rfl,(fun _ h=>by cases h),by omega,by omega⟩,⟨hpr.box,hpr.row,fun i h1 h2=>hpr.its i h1 h2,hpr.gb⟩,fun j hj=>absurd hj (Nat.not_lt_zero j),HMT.out.keep (hch.same mt (by omega) fun e=>by omega),by omega,by omega,by have:=hpr.le;omega⟩
 have HBW:=Ha hbw;have HBE:=Ha (show Below w.heap.size w w5 from (HB1.out.trans (HB14.out.mono (by have:=HSZ.out;omega))).trans (hch.below (fun i e=>by have:=HSZ.out;omega) (by have:=HSZ.out;omega)));clear hch hpr hbw hmt hma hb hm HPR HMI HMT HX4 HB14 HX1 HB1 x0 x1 x2 x3;obtain ⟨x0,x1,x2,x3⟩:=HBW.out.bx.cells;go_wp2_with fail;refine (H3.out _ _ g HBW.out.bx.old HBW.out.bx.gm HW.out).mono ?_;rintro e w6 ⟨⟨u,rfl,hu⟩,hb6⟩;have hbw6:=HBW.out.below hb6;have hu:Its w5.heap.size w6 u g.own:=hu;obtain ⟨Au0,cu,rfl,_⟩:=aG.shape hu;have hlk:=aG.look hu (G:=TB 250 w6) fun i hi=>(aG.tb hu hi).2;have hmte:∃ es c,w6.heap[mt]? = some (.map es c):=MG.isMap hbw6.mg;have hsm:∀ k,Gm.KOk g k→∀ x∈k,eM x:=fun k hk x hx=>by
  have:=hk.small HW.out.lr HW.out.lx x hx;unfold eM;omega
 obtain ⟨HSM,HS,HBW6,HLK,HBE6⟩:=hs5 hsm (vN (TB 250 w6) w6 (w.heap.size+1) b ma mt A0 c0 A1 c1 A2 c2 g (.slice (some ⟨rb,0,none⟩) m m) (.slice none 0 0) [] [] Au0 cu g.own hbw6.st (fun _ h=>h.lt) hlk (hsm _ (Gm.KOk.own g)) (by simp [Gm.own]) (by simp) hbw6.mm hbw6.bm hmte hbw6.size) hbw6 hlk (HBE.out.trans (hb6.mono HBE.out.size));clear hb6 hbw6 hu hlk hmte HBW HBE x0 x1 x2 x3 hsm;go_wp2_with fail
 with_reducible refine Calls.mono HS.out ?_
 rintro e w7 hst;obtain ⟨vs7,kvs7,rfl,hbw7,hb7,_⟩:=HBW6.out.state (by simp [Gm.own]) HLK.out hst;have h7:Gm.addK [] g.own=[g.own]:=by simp [Gm.addK,Gm.own]
 rw [h7] at hbw7;have HBW7:=Ha hbw7;have HBE7:=Ha (show Below w.heap.size w w7 from HBE6.out.trans (hb7.mono (by omega)));generalize hidx:(List.idxOf g.own (Gm.addK [] g.own):Int)=ix at *;clear hst hbw7 hb7 h7 hidx HBW6 HLK HBE6 HS;go_wp2_with fail
 go_loopw [6] (fun iv wr=>∃ (i:Nat) (vs:Value) (kvs:List Value) (ks:List (List Itm)) (n:Nat),iv=.int .i64 i∧Bw G w.heap.size b ma mt rb m A0 c0 A1 c1 A2 c2 g wr vs kvs ks FB (toF g ks i 0) n∧Au g ks i 0∧ks.length≤2000∧g.kernels=Gm.buildK g (2002-i) i ks∧n≤i*241∧Below w.heap.size w wr) (fun iv _=>2000-(intOf iv).toNat)
 case atStart=>exact ⟨0,vs7,kvs7,[g.own],0,rfl,by
  rw [show toF g [g.own] 0 0=fun _=>none from funext (yI g _)];exact HBW7.out,Au.start g,by simp,rfl,gO _,HBE7.out⟩
 case round=>
  obtain ⟨i,vs,kvs,ks,n,rfl,hbw,hau,hkl,hbk,hn,hbe⟩:=hrel;obtain ⟨HBW,HAU,HBK,HBE⟩:=YtpidmmfjcghmeaaGreat.hs4 hbw hau hbk hbe;have hlen:=hbw.st.len;have hil:=hau.il;obtain ⟨Av,cv,rfl,_⟩:=hbw.st.row.shape;have y5:=aA hbw.st.box 5 _ rfl;rw [hlen] at y5;clear hbw hau hbk hbe HBW7 HBE7;by_cases hi:i<ks.length
  ·obtain ⟨sb,cs,hve,z0,z1⟩:=DA HBW.out.st.row (j:=i) (by omega)
   injection hve with e1 _ e3
   subst e1 e3;obtain ⟨A,c,hk1,hk2⟩:=HBW.out.its i hi;have hk3:kvs[i]=.slice A ks[i].length c:=by
    rw [List.getElem?_eq_getElem (by omega)] at hk1
    injection hk1
   rw [hk3] at z0;obtain ⟨l,hl⟩:∃ l,l=ks[i]:=⟨_,rfl⟩;rw [← hl] at z0 hk2;have hko:Gm.KOk g l:=by rw [hl];exact HAU.out.kok _ (gN hi)
   obtain ⟨HSP,HKO,HL,HI,HIL,HLEN⟩:=hs6 (FU G (TB 250 wr) wr b rb m A0 c0 A1 c1 A2 c2 g _ _ _ FB A c l HBW.out.be HM.out hlt HW.out.kn (fun _ h=>h.lt) hk2 hko.ok HW.out.lx HW.out.lr (by have:=hko.len HW.out.lr HW.out.lx;omega)) hko hl hi hil hlen;have hlc:(i:Int)<(ks.length:Int):=by omega
   clear hk1 hk2 hk3 hko hl hil hlen z1;go_wp2_with fail;refine (HSP.out).mono ?_;rintro e w8 ⟨⟨ro,F,rfl,hro,hrow,hits⟩,hb8⟩;have HRW:=Ha (jT.rw hrow hits);have HBW8:=Ha (HBW.out.below hb8);have HBE8:=Ha (HBE.out.trans (hb8.mono HBE.out.size));have hml:m≤241:=by have:=HM.out;omega
   clear hrow hits hb8 hro z0 y5 HSP HBW HBE;go_wp2_with fail
   go_loopw [49] (fun iv wq=>∃ (s:Nat) (vs':Value) (kvs':List Value) (ks':List (List Itm)) (n':Nat),s≤m∧iv=.int .i64 s∧Bw G w.heap.size b ma mt rb m A0 c0 A1 c1 A2 c2 g wq vs' kvs' ks' FB (toF g ks' i s) n'∧Au g ks' i s∧ks'=Gm.procK g l s ks∧n'≤i*241+s∧Rw wq ro m F g l∧Below w.heap.size w wq) (fun iv _=>m-(intOf iv).toNat)
   case atStart=>exact ⟨0,_,kvs,ks,n,gX _,rfl,HBW8.out,HAU.out,rfl,hn,HRW.out,HBE8.out⟩
   case round=>
    obtain ⟨s,vs',kvs',ks',n',hs,rfl,hbw,hau,hks',hn',hrw,hbe⟩:=hrel;have HBW:=Ha hbw;have HAU2:=Ha hau;have HKS:=Ha hks';have HRW2:=Ha hrw;have HBE:=Ha hbe;have HIP:=Ha (show ∃ h:i<ks'.length,ks'[i]=l from by
     obtain ⟨h1,h2⟩:=Gm.prefix_getElem (Gm.procK_le g l s ks) HI.out;subst hks';exact ⟨h1,h2.trans HL.out.symm⟩)
    have HKL:=Ha (show ks'.length≤2000+s from by
     rw [hks'];have:=oO g l s ks;omega)
    clear hbw hau hks' hrw hbe HRW HBW8 HBE8;by_cases hsm:s<m
    ·obtain ⟨Af,cf,hFs,hfat⟩:=HRW2.out.its s hsm;have zf:=HRW2.out.row.cell hsm;rw [hFs] at zf;obtain ⟨r,hr⟩:∃ r,r=g.succK l (s:Int):=⟨_,rfl⟩;rw [← hr] at zf hfat;have HNX:=Ha (show nxK g ks' i s=r from by rw [jZ HIP.out.1,HIP.out.2,hr]);have HADD:=Ha (show Gm.addK ks' r=Gm.procK g l (s+1) ks from by rw [← HNX.out];exact tM HKS.out HIP.out.1 HIP.out.2);have HAS:=Ha (show Au g (Gm.addK ks' r) i (s+1) from by have:=HAU2.out.step HIP.out.1;rwa [HNX.out] at this);have hrl:=(aH.len hfat).2;have HR:=Ha hr;have HFAT:=Ha hfat;clear hFs hfat hr;by_cases hr0:r=[]
     ·have hz:(r.length:Int)=0:=by rw [hr0];rfl
      have HE:=Ha (show Gm.addK ks' r=ks' from by unfold Gm.addK;rw [if_pos (.inl hr0)]);have HT:=Ha (show toF g ks' i s=toF g ks' i (s+1) from funext (DK (HNX.out.trans hr0)));clear hr0;go_wp2_with fail
      go_roundw
      case rel=>exact ⟨s+1,vs',kvs',ks',n',by omega,by go_num,HT.out▸HBW.out,HE.out▸HAS.out,HE.out.symm.trans HADD.out,by omega,HRW2.out,HBE.out⟩
      case measure=>simp only [intOf];omega
     ·have hz:(0:Int)<(r.length:Int):=by
       have:=List.length_pos_iff.2 hr0;omega
      have hbd:=HBW.out.below (gR _ _).drew;have hfd:aR (TB 250 wr.drew) wr.drew (.slice Af r.length cf) r:=aH.keepT HFAT.out fun _ _=>rfl;have HKR:=Ha (show Gm.KOk g r from by rw [HR.out];exact HKO.out.succ _ (by rw [← HR.out];exact hr0));have HST:=Ha (vN (TB 250 wr.drew) wr.drew (w.heap.size+1) b ma mt A0 c0 A1 c1 A2 c2 g (.slice (some ⟨rb,0,none⟩) m m) vs' kvs' ks' Af cf r hbd.st (fun _ h=>h.lt) hfd (HSM.out _ HKR.out) (by have:=HKR.out.len HW.out.lr HW.out.lx;omega) (by have:=HKL.out;omega) hbd.mm hbd.bm (MG.isMap hbd.mg) hbd.size);have y7:=aA hbd.st.box 7 _ rfl;obtain ⟨HBD,HFD,HR0,HSS⟩:=YtpidmmfjcghmeaaGreat.hs4 hbd hfd hr0 (show (fun X:World=>X.cell? ⟨b,7,none⟩=some (.map (some mt))) wr.drew from y7);clear hbd hfd hr0;go_wp2_with fail;refine aE.start 10 (fun X=>X.cell? ⟨b,7,none⟩=some (.map (some mt))) (by kernel_rfl) ?hs_1 (fun hHeld=>?hr_1)
      case hs_1=>exact HSS.out
      refine aE.tks [0,1,2,3,4,5,6,7,8] ?_
      iterate 9
       refine aK.cons ?_;simp only [gA,gB,gC,Act.put,gD,gE,gF]
      show aE _ _ _ _ _ _ _ _ _ _;refine aE.one (i:=9) fun K hK=>?_;simp only [gA,gB,gC]
      go_simp
      with_reducible refine Calls.mono HST.out ?_
      rintro e w10 hst;obtain ⟨vs2,kvs2,rfl,hbw10,hb10,hcs⟩:=HBD.out.state HR0.out HFD.out hst;have hil2:i<65536:=by have:=HI.out;omega
      have hsl2:s<65536:=by omega
      have hixb:(List.idxOf r (Gm.addK ks' r):Int)≤3000:=by
       have h1:List.idxOf r (Gm.addK ks' r)≤(Gm.addK ks' r).length:=List.idxOf_le_length;have h2:=qT ks' r;have:=HKL.out;omega
      obtain ⟨w11,hst11,hm11,hc11,hs11⟩:=MG.store sPI hbw10.mg (x:=(⟨⟨i,hil2⟩,⟨s,hsl2⟩⟩:Pk)) (v:=(List.idxOf r (Gm.addK ks' r):Int)) trivial (by unfold inR;omega) (by have:=HI.out;omega);rw [DM (g:=g) (ks:=ks') (i:=i) (s:=s) (⟨⟨i,hil2⟩,⟨s,hsl2⟩⟩:Pk) (by unfold cN;simp)] at hm11;have hfe:eK (toF g ks' i s) (⟨⟨i,hil2⟩,⟨s,hsl2⟩⟩:Pk) (List.idxOf r (Gm.addK ks' r):Int)=toF g (Gm.addK ks' r) i (s+1):=funext fun p=>by
       have:=DN HAU2.out HIP.out.1 (by have:=HM.out;omega) (by rw [HNX.out];exact HR0.out) hil2 hsl2 p;rw [HNX.out] at this;exact this
      have HBW11:=Ha (show Bw G w.heap.size b ma mt rb m A0 c0 A1 c1 A2 c2 g w11 vs2 kvs2 (Gm.addK ks' r) FB (toF g (Gm.addK ks' r) i (s+1)) (n'+1) from hbw10.put (by
       rw [hfe] at hm11;exact hm11) hc11)
      have hst11:(Instr.mapUpdate 168 (.map (some mt)) (.agg #[.int .i64 i,.int .i64 s]) (.int .i64 (List.idxOf r (Gm.addK ks' r):Int))).run Tryz.prog w10=.ok () w11:=hst11;generalize (List.idxOf r (Gm.addK ks' r):Int)=ix at *;obtain ⟨HRW11,HBE11,HSS10⟩:=YtpidmmfjcghmeaaGreat.hs3 ((HRW2.out.keep (w':=w10) (fun k hk=>hcs.tb (.inl rfl) k hk) (fun k hk=>hcs.tb (.inr rfl) k hk)).keep (w':=w11) (fun k hk=>hc11.same k hk.lt fun e=>MG.not_tb hbw10.mg _ (e▸hk)) (fun k hk=>hc11.same k hk.lt fun e=>MG.not_tb hbw10.mg _ (e▸hk))) (show Below w.heap.size w w11 from (HBE.out.drew.trans (hb10.mono (Nat.le_succ _))).trans (hc11.below (fun i e=>by have:=hbw10.mW;omega) (by have:=hbw10.size;omega))) (show (fun X:World=>X.cell? ⟨b,7,none⟩=some (.map (some mt))) w10 from aA hbw10.st.box 7 _ rfl);clear hst hbw10 hb10 hcs hm11 hc11 hs11 hfe hixb;dsimp only;refine hK.out _ _ ?_ (fun hHeld=>?_)
      ·exact HSS10.out
      clear hK K;try simp only [Act.put,gD,gE,gF]
      refine aE.last fun K hK=>?_;simp only [gA,gB,gC]
      go_simp
      refine hK.out _ _ (aE.done (by kernel_rfl) ?_ _);go_wp2_with fail
      go_roundw
      case rel=>exact ⟨s+1,vs2,kvs2,Gm.addK ks' r,n'+1,by omega,by go_num,HBW11.out,HAS.out,HADD.out,by omega,HRW11.out,HBE11.out⟩
      case measure=>simp only [intOf];omega
    ·obtain rfl:s=m:=by omega
     have hlen2 := HBW.out.st.len; obtain ⟨Av2, cv2, rfl, _⟩ := HBW.out.st.row.shape; have y5 := aA HBW.out.st.box 5 _ rfl; rw [hlen2] at y5; have HKS2 := Ha (show ks' = Gm.procK g (ks[i]'HI.out) (g.top + 1) ks from by have h1 := HKS.out; rw [HL.out, HM.out] at h1; exact h1); obtain ⟨f, hf⟩ : ∃ f, 2002 - i = f + 1 := ⟨2002 - i - 1, by have := HI.out; omega⟩; have HF := Ha hf; clear hlen2 hf; by_cases hmany : 2000 < ks'.length
     ·have hmi:(2000:Int)<(ks'.length:Int):=by omega
      have HMA:=Ha hmany;clear hmany;go_wp2_with fail;refine bodyPost_ret (v:=.tuple #[.slice none 0 0,.int .i64 7]) (by simp [results,Tryz.results45,go_sem]) rfl ?_;refine ⟨.inl ⟨?_,rfl⟩,HBE.out⟩;rw [HBK.out,HF.out];exact rA HI.out (HKS2.out▸HMA.out)
     ·have hmi:¬(2000:Int)<(ks'.length:Int):=by omega
      have HMA:=Ha hmany;clear hmany;go_wp2_with fail
      go_roundw
      case rel=>
       refine ⟨i+1,.slice Av2 kvs'.length cv2,kvs',ks',n',by go_num, ?_,(HM.out▸HAU2.out).next,by have:=HMA.out;omega, ?_,by omega,HBE.out⟩
       ·rw [show toF g ks' (i+1) 0=toF g ks' i s from by rw [HM.out];exact (funext (DJ g ks' i)).symm];exact HBW.out
       ·rw [HBK.out,HF.out,show 2002-(i+1)=f by have:=HF.out;omega,rB HI.out (by rw [← HKS2.out];have:=HMA.out;omega),← HKS2.out]
      case measure=>simp only [intOf];have:=HI.out;omega
  ·have hie:i=ks.length:=by omega
   have HKER:=Ha (show g.kernels=some ks from by
    rw [HBK.out,show 2002-i=(2001-i)+1 by omega];exact sX hi)
   have HAUT:=Ha (Gm.kernels_aut HKER.out);have hk0:0<ks.length:=(gY HAUT.out.zero).1;obtain ⟨sb,cs,hve,hsb,hsr⟩:=IP HBW.out.st.row (by omega)
   injection hve with e1 _ e3
   subst e1 e3;rw [hlen] at hsr;have htw:Tw G w.heap.size wr.heap.size b mt (.slice (some ⟨rb,0,none⟩) m m) A0 c0 A1 c1 A2 c2 g wr sb cv (.map (some ma)) kvs ks n 0 (fun _=>.slice none 0 0):=by
    have hbo:=HBW.out.st.box;rw [hlen] at hbo;refine ⟨HBW.out.bx,HBW.out.GW,⟨HBW.out.st.hb,by omega,HBW.out.bx.lt,gO _⟩,hbo,hsr,HBW.out.its,fun j _ h=>absurd h (Nat.not_lt_zero j),fun _ _=>rfl, ?_⟩;have:=HBW.out.mg
    rwa [hie] at this
   have HTW:=Ha htw;have hge:¬(i:Int)<(ks.length:Int):=by omega
   obtain ⟨K,hK⟩:∃ K,K=ks.length:=⟨_,rfl⟩;have HK:=Ha hK;have hKl:K≤2000:=by omega
   rw [← hK] at y5 hge;clear hsb hsr htw hie hlen hi hil hkl hk0 HBW HBK HAU hK;go_wp2_with fail
   go_loopw [79] (fun iv wr=>∃ (j N:Nat) (TV:Nat→Value),j≤K∧iv=.int .i64 j∧Tw G w.heap.size N b mt (.slice (some ⟨rb,0,none⟩) m m) A0 c0 A1 c1 A2 c2 g wr sb cv (.map (some ma)) kvs ks n j TV∧(∀ t,j≤t→TV t=.slice none 0 0)∧Below w.heap.size w wr) (fun iv _=>K-(intOf iv).toNat)
   case atStart=>exact ⟨0,_,_,gX _,rfl,HTW.out,fun _ _=>rfl,HBE.out⟩
   case round=>
    obtain ⟨j,N,TV,hj,rfl,htw,htv,hbe⟩:=hrel;obtain ⟨HTW2,HTV,HBE2⟩:=YtpidmmfjcghmeaaGreat.hs3 htw htv hbe;have y5:=aA htw.box 5 _ rfl;clear htw htv hbe HTW HBE;rw [← HK.out] at y5;by_cases hjk:j<K
    ·obtain ⟨l,hl⟩:∃ l,ks[j]? = some l:=⟨_,List.getElem?_eq_getElem (by rw [← HK.out];exact hjk)⟩;have HL:=Ha (gY hl);clear hl y5;go_wp2_with fail
     go_loopw [10] (fun iv wq=>∃ (s:Nat) (TV':Nat→Value),1≤s∧s≤m∧iv=.int .i64 s∧Tw G w.heap.size N b mt (.slice (some ⟨rb,0,none⟩) m m) A0 c0 A1 c1 A2 c2 g wq sb cv (.map (some ma)) kvs ks n j TV'∧aG N 102 2 ItV wq (TV' j) (Gm.transK g ks l (s-1))∧(∀ t,j<t→TV' t=.slice none 0 0)∧Below w.heap.size w wq) (fun iv _=>m-(intOf iv).toNat)
     case atStart=>exact ⟨1,TV,gO _,by have:=HM.out;omega,rfl,HTW2.out,by rw [HTV.out j (gO _)];exact aG.nil _ _ _ _ _,fun t ht=>HTV.out t (by omega),HBE2.out⟩
     case round=>
      obtain ⟨s,TV',hs1,hsm,rfl,htw,hnr,htv',hbe⟩:=hrel;obtain ⟨HTWa,HNRa,HTVa,HBEa⟩:=YtpidmmfjcghmeaaGreat.hs4 htw hnr htv' hbe;clear htw hnr htv' hbe HTW2 HTV HBE2;obtain ⟨x0,x1,x2,x3⟩:=HTWa.out.bx.cells;go_wp2_with fail;refine (H4.out _ _ g HTWa.out.bx.old HTWa.out.bx.gm (by omega)).mono ?_;rintro e w9 ⟨rfl,hb9⟩;obtain ⟨HTW9,HNR9,HBE9⟩:=YtpidmmfjcghmeaaGreat.hs3 (HTWa.out.below hb9) (aG.below HNRa.out hb9) (HBEa.out.trans (hb9.mono HBEa.out.size));have y7:=aA HTW9.out.box 7 _ rfl;clear hb9 x0 x1 x2 x3 HTWa HNRa HBEa;by_cases hst:s≤g.top
      ·have hj2:j<65536:=by omega
       have hs2:s<65536:=by omega
       have hlook:=MG.look sPI HTW9.out.mg (x:=(⟨⟨j,hj2⟩,⟨s,hs2⟩⟩:Pk)) trivial;have hnx:nxK g ks j s=g.succK l (s:Int):=by
        obtain ⟨h1,h2⟩:=HL.out;rw [jZ h1,h2]
       have hdn:cN g ks.length 0 j s:=by unfold cN;have:=HL.out.1;omega
       by_cases hr0:g.succK l (s:Int)=[]
       ·rw [fD (g:=g) (ks:=ks) (i:=ks.length) (s:=0) (p:=(⟨⟨j,hj2⟩,⟨s,hs2⟩⟩:Pk)) fun h=>h.2 (hnx.trans hr0)] at hlook;have hlook:(Instr.lookup 168 (.map (some mt)) (.agg #[.int .i64 j,.int .i64 s]) true).run Tryz.prog w9=.ok (.tuple #[.int .i64 0,.bool false]) w9:=hlook;have HT:=Ha (sK (ks:=ks) hs1 hr0);clear hr0 hnx hdn;go_wp2_with fail
        go_roundw
        case rel=>exact ⟨s+1,TV',by omega,by have:=HM.out;omega,by go_num,HTW9.out,by rw [Nat.add_sub_cancel,HT.out];exact HNR9.out,HTVa.out,HBE9.out⟩
        case measure=>simp only [intOf];have:=HM.out;omega
       ·rw [eH (g:=g) (ks:=ks) (i:=ks.length) (s:=0) (p:=(⟨⟨j,hj2⟩,⟨s,hs2⟩⟩:Pk)) hdn (fun h=>hr0 (hnx.symm.trans h))] at hlook;have hlook:(Instr.lookup 168 (.map (some mt)) (.agg #[.int .i64 j,.int .i64 s]) true).run Tryz.prog w9=.ok (.tuple #[.int .i64 (ks.idxOf (nxK g ks j s):Int),.bool true]) w9:=hlook;rw [hnx] at hlook;have HT:=Ha (sM (ks:=ks) hs1 hr0);have hix:(ks.idxOf (g.succK l (s:Int)):Int)≤2000:=by
         have h1:ks.idxOf (g.succK l (s:Int))≤ks.length:=List.idxOf_le_length;have:=HK.out;omega
        have hix0:(0:Int)≤(ks.idxOf (g.succK l (s:Int)):Int):=by omega
        generalize (ks.idxOf (g.succK l (s:Int)):Int)=ix at *;have htd:=HTW9.out.below (gR _ _).drew;have hnd:=aG.below HNR9.out (gR _ _).drew;have hjl:j<ks.length:=HL.out.1;obtain ⟨At,ct,hte,_⟩:=aG.shape hnd;obtain ⟨hj3,_,zt,zf⟩:=htd.row.cells hjl;have hll:=iN g ks l (s-1);obtain ⟨v',w3,hrun,hr3,hc3,_⟩:=aG.pushC 98 Tryz.underlying98 BL rfl (by decide) ItV.one 98 (us:=[.int .i64 s,.int .i64 ix]) (x:=((s:Int),ix)) rfl rfl hnd (by omega) (by unfold maxLen;omega) htd.Wb.2.2.2;obtain ⟨htp,hnp,hb3,hs3,hbp⟩:=htd.push hnd hc3 hr3;obtain ⟨A3,c3,rfl,_⟩:=aG.shape hr3;rw [hte] at hrun zt;have y5:=aA htd.box 5 _ rfl;rw [← HK.out] at y5;obtain ⟨_,_,zt3,zf3⟩:=(htd.row.keep hs3).cells hjl;rw [hte] at zt3;have y53:=aA (hb3.trans htd.box) 5 _ rfl;rw [← HK.out] at y53;have hAl:Below w9.drew.heap.size w9.drew (w9.drew.alloc (.cells #[.int .i64 s,.int .i64 ix] 102)):=(gR _ _).alloc (gO _) _;obtain ⟨LN,hLN⟩:∃ LN,LN=(Gm.transK g ks l (s-1)++[((s:Int),ix)]).length:=⟨_,rfl⟩;rw [← hLN] at htp hnp hbp hrun;rw [← HT.out] at hnp;obtain ⟨HTP,HNP,HBP⟩:=YtpidmmfjcghmeaaGreat.hs3 htp hnp (show Below w.heap.size w (w3.setCell ⟨sb,j*2+1,none⟩ (.slice A3 LN c3)) from HBE9.out.drew.trans (hbp.mono (Nat.le_succ _)));obtain ⟨ll,hll2⟩:∃ ll,ll=(Gm.transK g ks l (s-1)).length:=⟨_,rfl⟩;rw [← hll2] at hrun zt zt3;obtain ⟨HSS,HS2,HS3⟩:=YtpidmmfjcghmeaaGreat.hs3 (show (fun X:World=>X.cell? ⟨b,5,none⟩=some (.slice (some ⟨sb,0,none⟩) K cv)∧X.cell? ⟨sb,j*2+1,none⟩=some (.slice At ll ct)) w9.drew from ⟨y5,zt⟩) (show (fun X:World=>X.cell? ⟨b,5,none⟩=some (.slice (some ⟨sb,0,none⟩) K cv)∧X.cell? ⟨sb,j*2+1,none⟩=some (.slice At ll ct)) (w9.drew.alloc (.cells #[.int .i64 s,.int .i64 ix] 102)) from ⟨aD (w:=w9.drew) y5 hAl,aD (w:=w9.drew) zt hAl⟩) (show (fun X:World=>X.cell? ⟨b,5,none⟩=some (.slice (some ⟨sb,0,none⟩) K cv)∧X.cell? ⟨sb,j*2+1,none⟩=some (.slice At ll ct)) w3 from ⟨y53,zt3⟩);have hrun:WrA Tryz.prog #[98,98] 98 #[.slice At ll ct,.slice (some ⟨w9.heap.size,0,none⟩) 1 1] (w9.alloc (.cells #[.int .i64 s,.int .i64 ix] 102)).drew=.ok (.slice A3 LN c3) w3:=hrun;clear hAl htd hnd hte hr3 hc3 htp hnp hb3 hs3 hbp hll hll2 hLN hnx hdn hr0;go_wp2_with fail;refine aE.start 20 (fun X=>X.cell? ⟨b,5,none⟩=some (.slice (some ⟨sb,0,none⟩) K cv)∧X.cell? ⟨sb,j*2+1,none⟩=some (.slice At ll ct)) (by kernel_rfl) ?hs_2 (fun hHeld=>?hr_2)
        case hs_2=>exact HSS.out
        refine aE.tks [0,1,2,3,4,5,6,7,8,9,10,11,12,13,14,15] ?_
        iterate 16
         refine aK.cons ?_;simp only [gA,gB,gC,Act.put,gD,gE,gF]
        show aE _ _ _ _ _ _ _ _ _ _;refine aE.one (i:=16) fun K hK=>?_;simp only [gA,gB,gC]
        go_simp
        refine hK.out _ _ ?_ (fun hHeld=>?_)
        ·exact HS2.out
        clear hK K;try simp only [Act.put,gD,gE,gF]
        refine aE.one (i:=17) fun K hK=>?_;simp only [gA,gB,gC]
        go_simp
        refine hK.out _ _ ?_ (fun hHeld=>?_)
        ·exact HS3.out
        clear hK K;try simp only [Act.put,gD,gE,gF]
        refine aE.one (i:=18) fun K hK=>?_;simp only [gA,gB,gC]
        go_simp
        refine hK.out _ _ ?_ (fun hHeld=>?_)
        ·exact HS3.out
        clear hK K;try simp only [Act.put,gD,gE,gF]
        refine aE.tks [19] ?_
        iterate 1
         refine aK.cons ?_;simp only [gA,gB,gC,Act.put,gD,gE,gF]
        show aE _ _ _ _ _ _ _ _ _ _;refine aE.last fun K hK=>?_;simp only [gA,gB,gC]
        go_simp
        refine hK.out _ _ (aE.done (by kernel_rfl) ?_ _);go_wp2_with fail
        go_roundw
        case rel=>exact ⟨s+1,_,by omega,by have:=HM.out;omega,by go_num,HTP.out,by simp only [if_pos];rw [Nat.add_sub_cancel];exact HNP.out,fun t ht=>by simp only [if_neg (Nat.ne_of_gt ht)];exact HTVa.out t ht,HBP.out⟩
        case measure=>simp only [intOf];have:=HM.out;omega
      ·have hsT:s-1=g.top:=by have:=HM.out;omega
       have HN9:=Ha HNR9.out;rw [hsT] at HN9;clear hsT;go_wp2_with fail
       go_roundw
       case rel=>exact ⟨j+1,w9.heap.size,TV',by omega,by go_num,HTW9.out.next HL.out.1 (by rw [HL.out.2];exact HN9.out) HTVa.out,fun t ht=>HTVa.out t (by omega),HBE9.out⟩
       case measure=>simp only [intOf];omega
    ·obtain rfl:j=K:=by omega
     go_wp2_with fail;go_wp2_with fail;refine bodyPost_ret (v:=.tuple #[.slice (some ⟨sb,0,none⟩) j cv,.int .i64 0]) (by simp [results,Tryz.results45,go_sem]) rfl ?_;refine ⟨.inr ⟨ks,_,HKER.out,rfl, ?_⟩,HBE2.out⟩;rw [HK.out];refine ⟨_,_,rfl,HTW2.out.row.nc,HTW2.out.row.cm,fun _=>⟨_,_,rfl,HTW2.out.row.tb.lt,fun t ht=>?_⟩⟩;obtain ⟨h1,h2,h3,_⟩:=HTW2.out.row.cells ht;obtain ⟨A,c,h4,h5⟩:=HTW2.out.its t ht;obtain ⟨A',c',h6,h7⟩:=HTW2.out.done t ht (by rw [HK.out];exact ht);refine ⟨[.slice A ks[t].length c,.slice A' (Gm.transK g ks ks[t] g.top).length c'],rfl,⟨_,_,rfl,aH.keep h5 (fun _ h=>h.lt) (fun _ _=>rfl) fun _ _ h=>h,aH.keep h7 (fun _ h=>h.2.lt) (fun _ _=>rfl) fun _ _ h=>h⟩,fun q u hq=>?_⟩;rw [List.getElem?_eq_getElem h1] at h4
     injection h4 with h4
     rw [h4] at h2;rw [h6] at h3
     match q,hq with
     | 0,hq=>simp at hq;subst hq;simpa using h2
     | 1,hq=>simp at hq;subst hq;simpa using h3
     | q+2,hq=>simp at hq
end
section
variable {G G':Nat→Prop} {w w':World} {g:Gm}
theorem cK.keep {v:Value} {ks:List (List Itm)} (h:cK G w g v ks) (hG:∀ k,G k→G' k) (hk:∀ p:Addr,G p.block→w'.cell? p=w.cell? p):cK G' w' g v ks:=
 aH.keep h hG hk fun vs k hv=>by
  obtain ⟨a,t,h1,h2,h3⟩:=hv;exact ⟨a,t,h1,aH.keep h2 hG hk fun _ _ h=>h,aH.keep h3 hG hk fun _ _ h=>h⟩
theorem cK.at_ {A:Option Addr} {n c:Nat} {ks:List (List Itm)} (h:cK G w g (.slice A n c) ks) {i:Nat} (hi:i<ks.length):
  ∃ bb off Ai ci At ct,A=some ⟨bb,off,none⟩∧G bb∧w.cell? ⟨bb,off+i*2,none⟩=some (.slice Ai ks[i].length ci)∧w.cell? ⟨bb,off+i*2+1,none⟩=some (.slice At (Gm.transK g ks ks[i] g.top).length ct)∧
   aR G w (.slice Ai ks[i].length ci) ks[i]∧aR G w (.slice At (Gm.transK g ks ks[i] g.top).length ct) (Gm.transK g ks ks[i] g.top):=by
 obtain ⟨A',c',e,_,_,h4⟩:=h
 injection e with e1 _ _
 subst e1;obtain ⟨bb,off,rfl,hg,h5⟩:=h4 (by omega);obtain ⟨vs,h6,⟨a,t,rfl,h8,h9⟩,h10⟩:=h5 i hi;obtain ⟨Ai,ci,rfl,_⟩:=aH.shape h8;obtain ⟨At,ct,rfl,_⟩:=aH.shape h9;exact ⟨bb,off,Ai,ci,At,ct,rfl,hg,by simpa using h10 0 _ rfl,h10 1 _ rfl,h8,h9⟩
end
theorem GV (G:Nat→Prop) (w:World) (A:Option Addr) (c:Nat) (g:Gm) (ks:List (List Itm)) (i:Nat) (s:Int) (hst:cK G w g (.slice A ks.length c) ks) (hG:∀ k,G k→k<w.heap.size) (hi:i<ks.length) (hs:1≤s∧s≤g.top) (hn:g.succK ks[i] s≠[]):
  Calls Tryz.prog 123 #[.slice A ks.length c,.int .i64 i,.int .i64 s] w fun e w'=>e=.returned (.int .i64 (ks.idxOf (g.succK ks[i] s):Int))∧Below w.heap.size w w':=by
 obtain ⟨bb,off,Ai,ci,At,ct,rfl,hgb,z0,z1,_,htr⟩:=hst.at_ hi;obtain ⟨tl,htl⟩:∃ tl,tl=Gm.transK g ks ks[i] g.top:=⟨_,rfl⟩;rw [← htl] at z1 htr;obtain ⟨r,hr⟩:∃ r:Int,r=(ks.idxOf (g.succK ks[i] s):Int):=⟨_,rfl⟩;rw [← hr];have hlen:tl.length≤9223372036854775807:=by
  obtain ⟨_,_,_,h1,h2⟩:=aH.shape htr;unfold maxLen at h2;omega
 have HM:=Ha (show (s,r)∈tl∧∀ t,(s,t)∈tl→t=r from by
  rw [htl,hr];exact ⟨Gm.mem_transK.2 ⟨hs.1,hs.2,hn,rfl⟩,fun t ht=>(Gm.mem_transK.1 ht).2.2.2⟩)
 have HT:=Ha htr;have HG:=Ha hG;have hi0:¬(i:Int)<0:=by omega
 have hi1:¬(ks.length:Int)≤(i:Int):=by omega
 have hi2:(i:Int)<(ks.length:Int):=by omega
 have hi3:(0:Int)≤(i:Int):=by omega
 clear hst htr hr htl hn z0;go_enter Tryz.func123,Tryz.ntmps123;go_wp2_with fail
 go_loopw [23] (fun iv wr=>∃ j:Nat,j≤tl.length∧iv=.int .i64 j∧(∀ q (h:q<tl.length),q<j→tl[q].1≠s)∧Below w.heap.size w wr) (fun iv _=>tl.length-(intOf iv).toNat)
 case atStart=>exact ⟨0,gX _,rfl,fun _ _ h=>absurd h (Nat.not_lt_zero _),gR _ _⟩
 case round=>
  obtain ⟨j,hj,rfl,hno,hb⟩:=hrel;have HNO:=Ha hno;have HB:=Ha hb;clear hno hb;by_cases hlt:j<tl.length
  ·obtain ⟨bt,ot,rfl,hgt,y0,y1⟩:=aR.at_ HT.out hlt;have y0:=(gM (HB.out.block bt (HG.out _ hgt))).trans y0;have y1:=(gM (HB.out.block bt (HG.out _ hgt))).trans y1;obtain ⟨a,ha⟩:∃ a,a=tl[j].1:=⟨_,rfl⟩;obtain ⟨b,hb⟩:∃ b,b=tl[j].2:=⟨_,rfl⟩;rw [← ha] at y0;rw [← hb] at y1;have HAB:=Ha (gS ha hb);have hb1:Below wr.heap.size wr (wr.alloc (.cells #[.int .i64 a,.int .i64 b] 102)):=(gR _ _).alloc (gO _) _;have q1:=aC wr (.cells #[.int .i64 a,.int .i64 b] 102);generalize hWI:wr.alloc (.cells #[.int .i64 a,.int .i64 b] 102)=wi at *;obtain ⟨r0,r1,_,_⟩:=aM q1 rfl;have HB1:=Ha (HB.out.trans (hb1.mono HB.out.size));clear ha hb hb1 q1;by_cases e:a=s
   ·have HR:=Ha (show b=r from HM.out.2 b (by
     have h1:=HAB.out.1;have h2:=HAB.out.2;rw [e] at h1;have:(s,b)=tl[j]:=Prod.ext h1 h2;rw [this];exact gN hlt))
    subst e;go_wp2_with fail;go_ret;exact ⟨by rw [HR.out];rfl,HB1.out⟩
   ·go_wp2_with fail
    go_roundw
    case rel=>
     refine ⟨j+1,hlt,by go_num,fun q hq hqj=>?_,HB1.out⟩;by_cases e2:q=j
     ·subst e2;have h1:=HAB.out.1;rw [← h1];exact e
     ·exact HNO.out q hq (by omega)
    case measure=>simp only [intOf];omega
  ·obtain ⟨q,hq,e⟩:=List.mem_iff_getElem.1 HM.out.1;exact absurd (show tl[q].1=s by rw [e]) (HNO.out q hq (by omega))
def SvV (G:Nat→Prop) (w:World) (n:Nat) (v:Value):Prop:=∃ b bw X,v=.pointer (some ⟨b,0,none⟩)∧G b∧G bw∧BSet w b bw n X
def dZ (G:Nat→Prop) (w:World) (n:Nat) (vs:List Value) (_:Int):Prop:=∃ p em,vs=[p,.bool em]∧SvV G w n p
def iQ (G:Nat→Prop) (w:World) (n:Nat) (vs:List Value) (x:Int):Prop:=∃ p sf,vs=[.int .i64 x,p,.bool sf]∧SvV G w n p
def bJ {β:Type} (P:Value→β→Prop) (vs:List Value) (x:β):Prop:=∃ v,vs=[v]∧P v x
def dH (G:Nat→Prop) (w:World) (n:Nat) (g:Gm) (v:Value) (s:Nat):Prop:=∃ l,aH G w 3 (iQ G w n) v l∧(∀ x∈l,g.N x∧g.Lc (s:Int) x)∧l.length≤241
section
variable {G G':Nat→Prop} {w w':World} {n:Nat} (hG:∀ k,G k→G' k) (hk:∀ k,G k→w'.heap[k]? = w.heap[k]?)
include hG hk
theorem SvV.keep {v:Value} (h:SvV G w n v):SvV G' w' n v:=by
  obtain ⟨b,bw,X,h1,h2,h3,h4⟩:=h;exact ⟨b,bw,X,h1,hG _ h2,hG _ h3,h4.keep (hk _ h2) (hk _ h3)⟩
theorem dZ.keep {vs:List Value} {x:Int} (h:dZ G w n vs x):dZ G' w' n vs x:=by
  obtain ⟨p,em,h1,h2⟩:=h;exact ⟨p,em,h1,h2.keep hG hk⟩
theorem iQ.keep {vs:List Value} {x:Int} (h:iQ G w n vs x):iQ G' w' n vs x:=by
  obtain ⟨p,sf,h1,h2⟩:=h;exact ⟨p,sf,h1,h2.keep hG hk⟩
theorem aH.keepG {β:Type} {sz:Nat} {R R':List Value→β→Prop} {v:Value} {xs:List β} (h:aH G w sz R v xs) (hR:∀ vs x,R vs x→R' vs x):aH G' w' sz R' v xs:=
  aH.keep h hG (fun p hp=>gM (hk _ hp)) hR
end
structure Dat (G:Nat→Prop) (w:World) (g:Gm) (ks:List (List Itm)) (vl vr vt vu vc:Value):Prop where
  sts:cK G w g vl ks
  rs:aH G w 1 (bJ fun v (k:Nat)=>aF G w v (g.rightAt k)) vr (List.range (g.rules.length+1))
  ts:aH G w 1 (bJ fun v (k:Nat)=>aH G w 2 (dZ G w (g.terms.length+1)) v (g.rightAt k)) vt (List.range (g.rules.length+1))
  us:aH G w 1 (bJ fun v (s:Nat)=>aF G w v (ofR (s:Int) g.rules 0)) vu (List.range (g.top+1))
  cs:aH G w 1 (bJ fun v (s:Nat)=>dH G w (g.terms.length+1) g v s) vc (List.range (g.top+1))
theorem bJ.mono {β:Type} {P Q:Value→β→Prop} (h:∀ v x,P v x→Q v x):∀ vs x,bJ P vs x→bJ Q vs x:=by
  rintro vs x ⟨v,h1,h2⟩;exact ⟨v,h1,h _ _ h2⟩
section
variable {G G':Nat→Prop} {w w':World} {g:Gm} {ks:List (List Itm)} {vl vr vt vu vc:Value}
theorem Dat.keep (h:Dat G w g ks vl vr vt vu vc) (hG:∀ k,G k→G' k) (hk:∀ k,G k→w'.heap[k]? = w.heap[k]?):Dat G' w' g ks vl vr vt vu vc:=
  ⟨h.sts.keep hG fun p hp=>gM (hk _ hp),
   aH.keepG hG hk h.rs (bJ.mono fun _ _ h=>aH.keepG hG hk h fun _ _ h=>h),
   aH.keepG hG hk h.ts (bJ.mono fun _ _ h=>aH.keepG hG hk h fun _ _ h=>h.keep hG hk),
   aH.keepG hG hk h.us (bJ.mono fun _ _ h=>aH.keepG hG hk h fun _ _ h=>h),
   aH.keepG hG hk h.cs (bJ.mono fun _ _ h=>by
    obtain ⟨l,h1,h2⟩:=h;exact ⟨l,aH.keepG hG hk h1 fun _ _ h=>h.keep hG hk,h2⟩)⟩
theorem dN {P:Value→Nat→Prop} {v:Value} {m:Nat} (h:aH G w 1 (bJ P) v (List.range m)) {k:Nat} (hk:k<m):
    ∃ b off c u,v=.slice (some ⟨b,off,none⟩) m c∧G b∧w.cell? ⟨b,off+k,none⟩=some u∧P u k:=by
  obtain ⟨A,c,rfl,_⟩:=h.shape;rw [List.length_range] at h ⊢;obtain ⟨b,off,u,rfl,h1,⟨v,h2,h3⟩,h4⟩:=aH.cell1 h (k:=k) (by simpa using hk)
  injection h2 with h2 _
  subst h2;rw [List.getElem_range] at h3;exact ⟨b,off,c,u,rfl,h1,h4,h3⟩
theorem Dat.right (h:Dat G w g ks vl vr vt vu vc) {k:Nat} (hk:k≤g.rules.length):∃ b off c A c',vr=.slice (some ⟨b,off,none⟩) (g.rules.length+1) c∧G b∧w.cell? ⟨b,off+k,none⟩=some (.slice A (g.rightAt k).length c')∧aF G w (.slice A (g.rightAt k).length c') (g.rightAt k):=by
  obtain ⟨b,off,c,u,h1,h2,h3,h4⟩:=dN h.rs (show k<g.rules.length+1 by omega);obtain ⟨A,c',rfl,_⟩:=aH.shape h4;exact ⟨b,off,c,A,c',h1,h2,h3,h4⟩
end
structure Mg (G:Nat→Prop) (w:World) (bm:Nat) (A0:Option Addr) (c0:Nat) (A1:Option Addr) (c1:Nat) (A2:Option Addr) (c2:Nat) (g:Gm) (ks:List (List Itm)) (A:Option Addr) (c:Nat) (vr vt vu vc:Value):Prop where
  gb:GBox G w bm A0 c0 A1 c1 A2 c2 g
  m4:w.cell? ⟨bm,4,none⟩=some (.slice A ks.length c)
  m5:w.cell? ⟨bm,5,none⟩=some vr
  m6:w.cell? ⟨bm,6,none⟩=some vt
  m7:w.cell? ⟨bm,7,none⟩=some vu
  m8:w.cell? ⟨bm,8,none⟩=some vc
  dat:Dat G w g ks (.slice A ks.length c) vr vt vu vc
structure Mb (G:Nat→Prop) (w:World) (bm:Nat) (A0:Option Addr) (c0:Nat) (A1:Option Addr) (c1:Nat) (A2:Option Addr) (c2:Nat) (g:Gm) (ks:List (List Itm)) (A:Option Addr) (c:Nat) (vr vt vu vc:Value) (Ab:Option Addr) (cb:Nat):Prop extends Mg G w bm A0 c0 A1 c1 A2 c2 g ks A c vr vt vu vc where
  m9:w.cell? ⟨bm,9,none⟩=some (.slice Ab ks.length cb)
  bs:aF (TB 3 w) w (.slice Ab ks.length cb) ((List.range ks.length).map fun (j:Nat)=>(Gm.base ks j:Int))
section
variable {G:Nat→Prop} {w w':World} {bm:Nat} {A0 A1 A2:Option Addr} {c0 c1 c2:Nat} {g:Gm} {ks:List (List Itm)} {A:Option Addr} {c:Nat} {vr vt vu vc:Value} {Ab:Option Addr} {cb:Nat}
theorem Mg.on (h:Mg G w bm A0 c0 A1 c1 A2 c2 g ks A c vr vt vu vc) (hb:Below w.heap.size w w'):Mg G w' bm A0 c0 A1 c1 A2 c2 g ks A c vr vt vu vc:=
  ⟨h.gb.on hb,aD h.m4 hb,aD h.m5 hb,aD h.m6 hb,aD h.m7 hb,aD h.m8 hb,h.dat.keep (fun _ h=>h) fun k hk=>hb.block k (h.gb.old k hk)⟩
theorem Mb.on (h:Mb G w bm A0 c0 A1 c1 A2 c2 g ks A c vr vt vu vc Ab cb) (hb:Below w.heap.size w w'):Mb G w' bm A0 c0 A1 c1 A2 c2 g ks A c vr vt vu vc Ab cb:=
  ⟨h.toMg.on hb,aD h.m9 hb,aH.keepT h.bs fun k hk=>hb.block _ hk.lt⟩
theorem Mb.base (h:Mb G w bm A0 c0 A1 c1 A2 c2 g ks A c vr vt vu vc Ab cb) {j:Nat} (hj:j<ks.length):∃ b off,Ab=some ⟨b,off,none⟩∧w.cell? ⟨b,off+j,none⟩=some (.int .i64 (Gm.base ks j:Int)):=by
  have h1:=h.bs;obtain ⟨b,off,u,h2,_,h3,h4⟩:=aH.cell1 h1 (k:=j) (by simpa using hj)
  injection h3 with h3 _
  subst h3;refine ⟨b,off,h2, ?_⟩;rw [h4];simp
end
theorem FD (G:Nat→Prop) (w:World) (bm:Nat) (A0:Option Addr) (c0:Nat) (A1:Option Addr) (c1:Nat) (A2:Option Addr) (c2:Nat) (g:Gm) (ks:List (List Itm)) (A:Option Addr) (c:Nat) (vr vt vu vc:Value) (Ab:Option Addr) (cb:Nat) (i:Nat) (x0 x1:Int) (h:Mb G w bm A0 c0 A1 c1 A2 c2 g ks A c vr vt vu vc Ab cb) (hi:i<ks.length) (hx:(x0,x1)∈ks[i]) (hT:Gm.base ks ks.length≤10000000):
    Calls Tryz.prog 248 #[.pointer (some ⟨bm,0,none⟩),.int .i64 i,.agg #[.int .i64 x0,.int .i64 x1]] w fun e w'=>(∃ t:Nat,e=.returned (.int .i64 t)∧t<Gm.base ks ks.length)∧Below w.heap.size w w':=by
  have hbx:Below w.heap.size w (w.alloc (.cells #[.int .i64 x0,.int .i64 x1] 250)):=(gR _ _).alloc (gO _) _;have q1:=aC w (.cells #[.int .i64 x0,.int .i64 x1] 250);generalize hWI:w.alloc (.cells #[.int .i64 x0,.int .i64 x1] 250)=w1 at *;obtain ⟨HM1,HB1,HQ⟩:=hs3 (h.on hbx) hbx q1;obtain ⟨bb,off,Ai,ci,At,ct,hA,hgb,z0,_,hit,_⟩:=HM1.out.dat.sts.at_ hi;have y4:=HM1.out.m4;rw [hA] at y4;obtain ⟨HIT,HX,HTT⟩:=hs3 hit hx hT;obtain ⟨l,hl⟩:∃ l,l=ks[i]:=⟨_,rfl⟩;rw [← hl] at HIT HX z0;have hlen:l.length≤9223372036854775807:=by
    obtain ⟨_,_,_,h1,h2⟩:=aH.shape HIT.out;unfold maxLen at h2;omega
  have HL:=Ha hl;obtain ⟨ab,ob,hAb,zb⟩:=HM1.out.base hi;have y9:=HM1.out.m9;rw [hAb] at y9;have hbl:=Gm.base_mono ks (Nat.le_of_lt hi);obtain ⟨bi,hbi⟩:∃ bi,bi=Gm.base ks i:=⟨_,rfl⟩;rw [← hbi] at zb;have HBI:=Ha hbi;have hi2:(i:Int)<(ks.length:Int):=by omega
  have hi3:(0:Int)≤(i:Int):=by omega
  clear h hbx q1 hA hit hx hl hAb hbi hT;go_enter Tryz.func248,Tryz.ntmps248;go_wp2_with fail
  go_loopw [18] (fun iv wr=>∃ j:Nat,j≤l.length∧iv=.int .i64 j∧(∀ q (h:q<l.length),q<j→l[q]≠(x0,x1))∧Below w1.heap.size w1 wr) (fun iv _=>l.length-(intOf iv).toNat)
  case atStart=>exact ⟨0,gX _,rfl,fun _ _ h=>absurd h (Nat.not_lt_zero _),gR _ _⟩
  case round=>
    obtain ⟨j,hj,rfl,hno,hb⟩:=hrel;obtain ⟨HNO,HB,HMR⟩:=hs3 hno hb (HM1.out.on hb);have y9:=aD y9 hb;have zb:=aD zb hb;obtain ⟨r0,r1,_,_⟩:=aM ((hb.block _ (gL HQ.out).1).trans HQ.out) rfl;clear hno hb z0 y4;by_cases hlt:j<l.length
    · obtain ⟨bt,ot,rfl,hgt,y0,y1⟩:=aR.at_ HIT.out hlt;have y0:=aD y0 HB.out;have y1:=aD y1 HB.out;obtain ⟨a,ha⟩:∃ a,a=l[j].1:=⟨_,rfl⟩;obtain ⟨b,hb⟩:∃ b,b=l[j].2:=⟨_,rfl⟩;rw [← ha] at y0;rw [← hb] at y1;have HAB:=Ha (show l[j]=(a,b) from Prod.ext ha.symm hb.symm);have hb1:Below wr.heap.size wr (wr.alloc (.cells #[.int .i64 a,.int .i64 b] 250)):=(gR _ _).alloc (gO _) _;have q1:=aC wr (.cells #[.int .i64 a,.int .i64 b] 250);generalize hWJ:wr.alloc (.cells #[.int .i64 a,.int .i64 b] 250)=wi at *;obtain ⟨s0,s1,_,_⟩:=aM q1 rfl;obtain ⟨r0,r1,y9,zb⟩:=ks4 hb1 r0 r1 y9 zb;have HB2:=Ha (HB.out.trans (hb1.mono HB.out.size));clear ha hb hb1 q1;by_cases e:x0=a∧x1=b
      · have HT:=Ha (show bi+j<Gm.base ks ks.length from by
          have h1:=HBI.out;have h2:=HL.out;rw [h1];exact Gm.place_lt hi (by rw [← h2];exact hlt))
        have hwr:IntKind.i64.wrap ((bi:Int)+(j:Int))=((bi+j:Nat):Int):=by
          have h1:=HT.out;have h2:=HTT.out;rw [show (bi:Int)+(j:Int)=((bi+j:Nat):Int) by omega];exact IntWalk.i64_in _ (by omega)
        obtain ⟨rfl,rfl⟩:=e;go_wp2_with fail;go_ret;exact ⟨⟨bi+j,rfl,HT.out⟩,HB1.out.trans (HB2.out.mono HB1.out.size)⟩
      · have HR:=Ha (show ∀ q (h:q<l.length),q<j+1→l[q]≠(x0,x1) from fun q hq hqj e3=>by
          by_cases e2:q=j
          · subst e2;rw [HAB.out] at e3
            injection e3 with e4 e5
            exact e ⟨e4.symm,e5.symm⟩
          · exact HNO.out q hq (by omega) e3)
        by_cases e0:x0=a
        · have e1:¬x1=b:=fun h=>e ⟨e0,h⟩;clear e;subst e0;go_wp2_with fail
          go_roundw
          case rel=>exact ⟨j+1,hlt,by go_num,HR.out,HB2.out⟩
          case measure=>simp only [intOf];omega
        · clear e;go_wp2_with fail
          go_roundw
          case rel=>exact ⟨j+1,hlt,by go_num,HR.out,HB2.out⟩
          case measure=>simp only [intOf];omega
    · obtain ⟨q,hq,e⟩:=List.mem_iff_getElem.1 HX.out;exact absurd e (HNO.out q hq (by omega))
theorem JK (G:Nat→Prop) (w:World) (bm:Nat) (A0:Option Addr) (c0:Nat) (A1:Option Addr) (c1:Nat) (A2:Option Addr) (c2:Nat) (g:Gm) (ks:List (List Itm)) (A:Option Addr) (c:Nat) (vr vt vu vc:Value) (Ab:Option Addr) (cb:Nat) (i k d:Nat) (h:Mb G w bm A0 c0 A1 c1 A2 c2 g ks A c vr vt vu vc Ab cb) (hkn:g.Known) (ha:Gm.Aut g ks) (hi:i<ks.length) (hk:k≤g.rules.length) (hk2:g.rules.length≤1000) (hd:d<(g.rightAt k).length) (hd2:d≤1000) (hc:g.Clo (· ∈ ks[i]) ((k:Int),(d:Int))) (hT:Gm.base ks ks.length≤10000000):
  Calls Tryz.prog 222 #[.pointer (some ⟨bm,0,none⟩),.int .i64 i,.agg #[.int .i64 k,.int .i64 d]] w fun e w'=>(∃ t:Nat,e=.returned (.int .i64 t)∧t<Gm.base ks ks.length)∧Below w.heap.size w w':=by
 have hb1:Below w.heap.size w (w.alloc (.cells #[.int .i64 k,.int .i64 d] 250)):=(gR _ _).alloc (gO _) _;have q1:=aC w (.cells #[.int .i64 k,.int .i64 d] 250);generalize hWI:w.alloc (.cells #[.int .i64 k,.int .i64 d] 250)=w1 at *;have HM1:=Ha (h.on hb1);have HB1:=Ha hb1;obtain ⟨s,j,hs,h1,h2,h3,hj,h4,h5⟩:∃ s j,s=g.nxt ((k:Int),(d:Int))∧1≤s∧s≤g.top∧g.succK ks[i] s≠[]∧j=ks.idxOf (g.succK ks[i] s)∧∃ h:j<ks.length,((k:Int),(d:Int)+1)∈ks[j]:=by
  obtain ⟨h1,h2,h3,h4,h5⟩:=Gm.to_ok hkn ha hi hc (by simpa using hd);exact ⟨_,_,rfl,h1,h2,h3,rfl,h4,h5⟩
 obtain ⟨br,or,cr,Ar,car,rfl,hgr,z0,hri⟩:=HM1.out.dat.right hk;obtain ⟨ba,oa,hAr,z1⟩:=aF.get hri hd;subst hAr;have hsr:(g.rightAt k)[d]=s:=by rw [hs,pY g hd]
 rw [hsr] at z1;have y4:=HM1.out.m4;have y5:=HM1.out.m5;obtain ⟨r0,r1,_,_⟩:=aM q1 rfl;have hgo:=GV G w1.drew.drew A c g ks i s (HM1.out.on (gR _ _).drew.drew).dat.sts (fun k hk=>HM1.out.gb.old k hk) hi ⟨h1,h2⟩ h3;rw [← hj] at hgo;have HGO:=Ha hgo;have HJ:=Ha (show ∃ h:j<ks.length,((k:Int),(d:Int)+1)∈ks[j] from ⟨h4,h5⟩);have HTT:=Ha hT;have HS:=Ha (show ∀ X,Below w1.heap.size w1 X→X.cell? ⟨w.heap.size,0,none⟩=some (.int .i64 k)∧X.cell? ⟨w.heap.size,1,none⟩=some (.int .i64 d)∧X.cell? ⟨bm,4,none⟩=some (.slice A ks.length c) from
  fun X hX=>⟨aD r0 hX,aD r1 hX,aD y4 hX⟩)
 have RD:=Ha (show Below w1.heap.size w1 w1.drew.drew from (gR _ _).drew.drew);have hk0:(0:Int)≤(k:Int):=by omega
 have hkl:(k:Int)<(g.rules.length:Int)+1:=by omega
 have hd0:(0:Int)≤(d:Int):=by omega
 have hdl:(d:Int)<((g.rightAt k).length:Int):=by omega
 have hwd:IntKind.i64.wrap ((d:Int)+1)=(d:Int)+1:=IntWalk.i64_in _ (by omega);clear h hb1 q1 hc hri hsr h1 h2 h3 h4 h5 hj hgo hs hkn ha hT;have e0:w1.drew.cell? _=_:=r0;have e1:w1.drew.cell? _=_:=r1;have e2:w1.drew.cell? _=_:=y5;have e3:w1.drew.cell? _=_:=z0;have e4:w1.drew.cell? _=_:=z1;go_enter Tryz.func222,Tryz.ntmps222;go_wp2_with fail
 go_region
 go_wp2_with fail;refine aE.start 15 (fun X=>X.cell? ⟨w.heap.size,0,none⟩=some (.int .i64 k)∧X.cell? ⟨w.heap.size,1,none⟩=some (.int .i64 d)∧X.cell? ⟨bm,4,none⟩=some (.slice A ks.length c)) (by kernel_rfl) ?hs_1 (fun hHeld=>?hr_1)
 case hs_1=>exact HS.out _ RD.out
 refine aE.tks [0,1,2,3,4,5,6,8,9,10,11,12,13] ?_
 iterate 13
  refine aK.cons ?_;simp only [gA,gB,gC,Act.put,gD,gE,gF]
 show aE _ _ _ _ _ _ _ _ _ _;refine aE.one (i:=7) fun K hK=>?_;simp only [gA,gB,gC]
 go_simp
 with_reducible refine Calls.mono HGO.out ?_
 rintro e w2 ⟨rfl,hb2⟩;dsimp only;have HB2:=Ha (show Below w1.heap.size w1 w2 from RD.out.trans hb2);clear hb2;refine hK.out _ _ ?_ (fun hHeld=>?_)
 ·exact HS.out _ HB2.out
 clear hK K;try simp only [Act.put,gD,gE,gF]
 have HPL:=Ha (FD G w2 bm A0 c0 A1 c1 A2 c2 g ks A c _ vt vu vc Ab cb j (k:Int) ((d:Int)+1) (HM1.out.on HB2.out) HJ.out.1 HJ.out.2 HTT.out);refine aE.one (i:=14) fun K hK=>?_;simp only [gA,gB,gC]
 go_simp
 with_reducible refine Calls.mono HPL.out ?_
 rintro e w3 ⟨⟨t,rfl,ht⟩,hb3⟩;dsimp only;have HF:=Ha (gS ht (HB1.out.trans ((HB2.out.trans (hb3.mono HB2.out.size)).mono HB1.out.size)));have HB3:=Ha (show Below w1.heap.size w1 w3 from HB2.out.trans (hb3.mono HB2.out.size));clear ht hb3;refine hK.out _ _ ?_ (fun hHeld=>?_)
 ·exact HS.out _ HB3.out
 clear hK K;try simp only [Act.put,gD,gE,gF]
 refine aE.last fun K hK=>?_;simp only [gA,gB,gC]
 go_simp
 refine hK.out _ _ (aE.done (by kernel_rfl) ?_ _);go_wp2_with fail;go_ret;exact ⟨⟨t,rfl,HF.out.1⟩,HF.out.2⟩
end Go.Proofs.YtpidmmfjcghmeaaGreat
