/- Towards clashesWhole_upto. -/
import Derived.Test.YtpidmmfjcghmeaaGreatCs38
import Derived.RangeFuncNested
import Derived.RangeFuncBound
import Derived.RangeFuncCalls
import Derived.RangeFuncLeaves
import Derived.RangeFuncBox
import Derived.Shelf.Abstract
import Derived.Shelf.RegionOpen
import Derived.OwnWalkIn
import Derived.TacticsInMore
import Derived.LoopNIn
import Derived.LoopIn
set_option maxRecDepth 100000
set_option maxHeartbeats 16000000
set_option linter.all false
namespace Go.Proofs.YtpidmmfjcghmeaaGreat
open Go.RowKit
section
attribute [local go_sem ↓] aI
def g8 (w:World) (v:Value) (_:Nat):Prop:=∃ l,aH (TB 280 w) w 2 (bU (TB 3 w) w) v l∧l.length≤301
theorem g8.keep {w w':World} {v:Value} {i:Nat} (h:g8 w v i) (h1:∀ k,TB 3 w k→w'.heap[k]? = w.heap[k]?) (h2:∀ k,TB 280 w k→w'.heap[k]? = w.heap[k]?):g8 w' v i:=by
 obtain ⟨l,k1,k2⟩:=h;exact ⟨l,aH.keep k1 (fun k hk=>hk.of_eq (h2 k hk)) (fun _ hp=>gM (h2 _ hp)) (bU.keep h1),k2⟩
def jR (w:World) (v:Value) (n:Nat):Prop:=aH (TB 213 w) w 1 (bJ (g8 w)) v (List.range n)
theorem jR.below {w w':World} {v:Value} {n:Nat} (h:jR w v n) (hb:Below w.heap.size w w'):jR w' v n:=
 aH.keep h (fun k hk=>hk.of_eq (hb.block k hk.lt)) (fun _ hp=>gM (hb.block _ hp.lt)) (bJ.mono fun _ _ h=>h.keep (fun k hk=>hb.block k hk.lt) fun k hk=>hb.block k hk.lt)
theorem xD:(Tryz.prog.info? 213).map (fun i=>(i.zero,i.size,i.bytes))=some (some (.slice none 0 0),1,24):=by kernel_rfl
def uD (g:Gm) (w:World) (e:Ending) (w':World):Prop:=
 ((g.kernels=none∧e=.returned (.tuple #[.slice none 0 0,.int .i64 7]))∨∃ ks v,g.kernels=some ks∧e=.returned (.tuple #[v,.int .i64 0])∧jR w' v ks.length)∧Below w.heap.size w w'
theorem cK.at2 {G:Nat→Prop} {w:World} {g:Gm} {bs os n c:Nat} {ks:List (List Itm)} (h:cK G w g (.slice (some ⟨bs,os,none⟩) n c) ks) {i:Nat} (hi:i<ks.length):
  ∃ Ai ci At ct,G bs∧w.cell? ⟨bs,os+i*2,none⟩=some (.slice Ai ks[i].length ci)∧w.cell? ⟨bs,os+i*2+1,none⟩=some (.slice At (Gm.transK g ks ks[i] g.top).length ct)∧aR G w (.slice Ai ks[i].length ci) ks[i]∧aR G w (.slice At (Gm.transK g ks ks[i] g.top).length ct) (Gm.transK g ks ks[i] g.top):=by
 obtain ⟨bb,off,Ai,ci,At,ct,e,h1,h2,h3,h4,h5⟩:=h.at_ hi
 injection e with e
 injection e with e e'
 subst e e';exact ⟨Ai,ci,At,ct,h1,h2,h3,h4,h5⟩
def itN (m:Nat):Nat:=10000000+72301*m
theorem rU (m:Nat):itN m+72301=itN (m+1):=by unfold itN;omega
theorem BZ {m n:Nat} (h:m≤n) (hn:n≤10000000):itN m≤900000000000:=by unfold itN;omega
theorem IF {k m:Nat} (h:k≤10000000):k≤itN m:=by unfold itN;omega
structure It (w:World) (G:Nat→Prop) (B bm bf:Nat) (A0:Option Addr) (c0:Nat) (A1:Option Addr) (c1:Nat) (A2:Option Addr) (c2:Nat) (g:Gm) (ks:List (List Itm)) (A:Option Addr) (c:Nat) (vr vts vu vc:Value) (Ab:Option Addr) (cb N:Nat) (wr:World) (va ve:Value) (ps:List (Nat×Nat)) (es:List Edg) (FV:Nat→Value) (fl:Nat→List (Int×Nat)):Prop where
 mx:Mx w G B bm bf A0 c0 A1 c1 A2 c2 g ks A c vr vts vu vc Ab cb wr va ve ps es FV fl
 lp:ps.length≤N
 le:es.length≤N
 lf:∀ i,i<ks.length→(fl i).length≤ps.length
theorem JI (G:Nat→Prop) (w:World) (vs:List Value) (g:Gm) (hG:∀ k,G k→k<w.heap.size) (hg:GmV G w vs g) (hw:GW g) (ht:g.top≤63) (hn31:g.terms.length+1≤31):
  Calls Tryz.prog 98 #[ag vs] w fun e w'=>uD g w e w':=by
 obtain ⟨A0,c0,A1,c1,A2,c2,W,ev,hW,⟨x0,x1,x2,x3⟩,HB,HX⟩:=GBox.go hG hg;rw [ev];have HG:=Ha hG;clear hG hg ev;have h2:=o7 G;unfold ag at h2;obtain ⟨H2,HW,HTP⟩:=Zh3 h2 hw (gS ht hn31);have hlr:=hw.lr;clear h2 hw ht hn31;go_enter Tryz.func98,Tryz.ntmps98;go_wp2_with fail;refine (H2.out _ _ g HX.out.old HX.out.gm HW.out).mono ?_;rintro e w1 hp;obtain ⟨hp | ⟨ks,v,hk,rfl,hst⟩,hb1⟩:=hp
 ·obtain ⟨hk,rfl⟩:=hp;have HF:=Ha (gS hk (HB.out.trans (hb1.mono HB.out.size)));clear hk hb1;go_wp2_with fail;refine bodyPost_ret (v:=.tuple #[.slice none 0 0,.int .i64 7]) (by simp [results,Tryz.results98,go_sem]) rfl ?_;exact ⟨.inl ⟨HF.out.1,rfl⟩,HF.out.2⟩
 obtain ⟨A,c,rfl,hAle,hcm⟩:=aH.shape hst;have hks:=Gm.kernels_aut hk;have hkl:=hks.len;have hk0:0<ks.length:=(gY hks.zero).1;have HBAS:=Ha (show Gm.base ks ks.length≤10000000 from by
  have h1:=Gm.base_le (ks:=ks) (m:=2709) (fun k hk=>(hks.kok k hk).len hlr HW.out.lx) ks.length;have h2:ks.length*2709≤2000*2709:=Nat.mul_le_mul_right _ hkl;omega)
 obtain ⟨n,hn⟩:∃ n,n=ks.length:=⟨_,rfl⟩;have HN:=Ha hn;rw [← hn];have HX1:=Ha (HX.out.on hb1);have HK:=Ha hk;have HA:=Ha hks;have HB1:=Ha (HB.out.trans (hb1.mono HB.out.size));rw [← hn] at hst hkl hk0;have HST:=Ha hst;have hlt1:w.heap.size<w1.heap.size:=HX1.out.lt;have R0:=Ha (show Below w1.heap.size w1 w1.drew from (gR _ _).drew);have HS:=Ha (show ∀ X,Below w1.heap.size w1 X→X.cell? ⟨w.heap.size,0,none⟩=some (.slice A0 g.terms.length c0)∧X.cell? ⟨w.heap.size,1,none⟩=some (.slice A1 g.nons.length c1)∧X.cell? ⟨w.heap.size,2,none⟩=some (.slice A2 g.rules.length c2)∧X.cell? ⟨w.heap.size,3,none⟩=some (.int .i64 g.start) from
  fun X hX=>⟨(HX1.out.on hX).x0,(HX1.out.on hX).x1,(HX1.out.on hX).x2,(HX1.out.on hX).x3⟩)
 clear x0 x1 x2 x3 hk hks hst hb1 hn;go_wp2_with fail;refine aE.start 7 (fun X=>X.cell? ⟨w.heap.size,0,none⟩=some (.slice A0 g.terms.length c0)∧X.cell? ⟨w.heap.size,1,none⟩=some (.slice A1 g.nons.length c1)∧X.cell? ⟨w.heap.size,2,none⟩=some (.slice A2 g.rules.length c2)∧X.cell? ⟨w.heap.size,3,none⟩=some (.int .i64 g.start)) (by kernel_rfl) ?hs_1 (fun hHeld=>?hr_1)
 case hs_1=>exact HS.out _ R0.out
 refine aE.tks [0,1,2,3] ?_ (by kernel_rfl) (by assumption)
 iterate 4
  refine aK.cons ?_ (by rfl) (by rfl) (by intro w h;(try dsimp only at h);simp only [gA,gB,gC];go_simp;try with_reducible rfl) (by exact fun _ _ _ h=>h);simp only [gA,gB,gC,Act.put,gD,gE,gF]
 show aE _ _ _ _ _ _ _ _ _ _;generalize w1.drew=wd at *;have hmk:=run_make_row' (P:=Tryz.prog) 242 307 (.slice none 0 0) 24 Tryz.underlying242 BP rfl .i64 .i64 n (by omega) (by omega) wd;have hrow:=World.rowIs_made wd (.slice none 0 0) n 307;have hb2:Below wd.heap.size wd (wd.alloc (.cells (madeCells #[.slice none 0 0] n) 307)):=(gR _ _).alloc (gO _) _;have hz2:(wd.alloc (.cells (madeCells #[.slice none 0 0] n) 307)).heap.size=wd.heap.size+1:=by simp
 generalize hW2:wd.alloc (.cells (madeCells #[.slice none 0 0] n) 307)=w2 at *;generalize hbf:wd.heap.size=bf at *;have hb3:Below w2.heap.size w2 (w2.alloc (.cells #[.slice A0 g.terms.length c0,.slice A1 g.nons.length c1,.slice A2 g.rules.length c2,.int .i64 g.start,.slice A n c,.slice none 0 0,.slice none 0 0,.slice none 0 0,.slice none 0 0,.slice none 0 0,.slice none 0 0,.slice none 0 0,.slice (some ⟨bf,0,none⟩) n n] 248)):=(gR _ _).alloc (gO _) _;have q3:=aC w2 (.cells #[.slice A0 g.terms.length c0,.slice A1 g.nons.length c1,.slice A2 g.rules.length c2,.int .i64 g.start,.slice A n c,.slice none 0 0,.slice none 0 0,.slice none 0 0,.slice none 0 0,.slice none 0 0,.slice none 0 0,.slice none 0 0,.slice (some ⟨bf,0,none⟩) n n] 248);have hz3:(w2.alloc (.cells #[.slice A0 g.terms.length c0,.slice A1 g.nons.length c1,.slice A2 g.rules.length c2,.int .i64 g.start,.slice A n c,.slice none 0 0,.slice none 0 0,.slice none 0 0,.slice none 0 0,.slice none 0 0,.slice none 0 0,.slice none 0 0,.slice (some ⟨bf,0,none⟩) n n] 248)).heap.size=w2.heap.size+1:=by simp
 generalize hW3:w2.alloc (.cells #[.slice A0 g.terms.length c0,.slice A1 g.nons.length c1,.slice A2 g.rules.length c2,.int .i64 g.start,.slice A n c,.slice none 0 0,.slice none 0 0,.slice none 0 0,.slice none 0 0,.slice none 0 0,.slice none 0 0,.slice none 0 0,.slice (some ⟨bf,0,none⟩) n n] 248)=w3 at *;generalize hbm:w2.heap.size=bm at *;have HR2:=Ha (show Below w1.heap.size w1 w2 from R0.out.trans (by rw [← hbf] at hb2;exact hb2.mono R0.out.size));obtain ⟨HR3,HZ,HROW,HQ3⟩:=Zh4 (show Below w1.heap.size w1 w3 from HR2.out.trans (by rw [← hbm] at hb3;exact hb3.mono HR2.out.size)) (gS hz2 (gS hz3 (show w1.heap.size≤bf from hbf▸R0.out.size))) (show w3.rowIs bf 307 n fun _=>.slice none 0 0 from hrow.of_block (hb3.block bf (by omega))) q3;clear hrow hb2 hz2 hb3 hz3 q3;refine aE.one (i:=4) (by kernel_rfl) rfl fun K hK=>?_;simp only [gA,gB,gC]
 go_simp
 refine hK.out _ _ ?_ (fun hHeld=>?_)
 ·exact HS.out _ HR2.out
 clear hK K;try simp only [Act.put,gD,gE,gF]
 refine aE.one (i:=5) (by kernel_rfl) rfl fun K hK=>?_;simp only [gA,gB,gC]
 go_simp
 refine hK.out _ _ ?_ (fun hHeld=>?_)
 ·exact HS.out _ HR2.out
 clear hK K;try simp only [Act.put,gD,gE,gF]
 refine aE.one (i:=6) (by kernel_rfl) rfl fun K hK=>?_;simp only [gA,gB,gC]
 go_simp
 refine hK.out _ _ ?_ (fun hHeld=>?_)
 ·exact HS.out _ HR3.out
 clear hK K;try simp only [Act.put,gD,gE,gF]
 refine aE.last (by kernel_rfl) rfl fun K hK=>?_;simp only [gA,gB,gC]
 go_simp
 refine hK.out _ _ (aE.done (by kernel_rfl) ?_ _);go_wp2_with fail;obtain rfl:=HN.out;have hbfm:bf<bm∧bm<w3.heap.size∧w1.heap.size≤bf:=by have:=HZ.out;omega
 obtain ⟨G4,hG4⟩:∃ G4:Nat→Prop,G4=fun k=>k<w3.heap.size∧k≠bm∧k≠bf:=⟨_,rfl⟩;have hx3:=HX1.out.on HR3.out;have hgb:GBox G4 w3 bm A0 c0 A1 c1 A2 c2 g:=GBox.wide (G:=G) ⟨hx3.old,hbfm.2.1,aA HQ3.out 0 _ rfl,aA HQ3.out 1 _ rfl,aA HQ3.out 2 _ rfl,aA HQ3.out 3 _ rfl,hx3.ht,hx3.hn,hx3.hr⟩ (fun k hk=>by
  have:=HG.out k hk;rw [hG4];exact ⟨by omega,by omega,by omega⟩) (fun k hk=>by rw [hG4] at hk;exact hk.1)
 have hb3w:Below w.heap.size w w3:=HB1.out.trans (HR3.out.mono HB1.out.size);have HPR:=Ha (CE w w3 G4 bm A0 c0 A1 c1 A2 c2 g (.slice A ks.length c) (.slice none 0 0) (.slice none 0 0) (.slice none 0 0) (.slice (some ⟨bf,0,none⟩) ks.length ks.length) HQ3.out hgb (fun k hk=>by rw [hG4] at hk;exact hk.2.1) hb3w (by omega) HW.out HTP.out.1 HTP.out.2);have HB3:=Ha hb3w;have HG4:=Ha hG4;have HFM:=Ha hbfm;clear hx3 hgb hb3w hG4 hW2 hW3 hmk hbf hbm hbfm;go_wp2_with fail;refine (HPR.out).mono ?_;rintro e w4 ⟨⟨rfl,vr,vts,vu,vc,hbx4,hmt,hcs⟩,hc4⟩;obtain ⟨G5,hG5⟩:∃ G5:Nat→Prop,G5=fun k=>k<w4.heap.size∧(G4 k∨w3.heap.size≤k):=⟨_,rfl⟩;obtain ⟨B,hB⟩:∃ B,B=w4.heap.size:=⟨_,rfl⟩;have hs34:=hc4.size;have hs13:=HR3.out.size;have hst4:cK G5 w4 g (.slice A ks.length c) ks:=HST.out.keep (fun k hk=>by
  have hk':k<w1.heap.size:=hk;have:=HFM.out;rw [hG5,HG4.out];exact ⟨by omega,.inl ⟨by omega,by omega,by omega⟩⟩) (fun p hp=>by
  have hk':p.block<w1.heap.size:=hp;have:=HFM.out;exact gM ((hc4.same _ (by omega) (by omega)).trans (HR3.out.block _ hk')))
 have hba:Ba w G5 w4.heap.size bm bf A0 c0 A1 c1 A2 c2 g ks A c vr vts vu vc w4 (.slice none 0 0) (.slice none 0 0) [] 0 0:=by
  have hfm:=HFM.out;have hbl:=HB3.out;refine Ba.start (by rw [hG5];exact hmt) (aH.keepG (w:=w4) (fun k hk=>by rw [hG5];exact ⟨hk.2,.inr hk.1⟩) (fun _ _=>rfl) hcs (bJ.mono fun _ _ h=>h.keep (fun k hk=>by rw [hG5];exact ⟨hk.2,.inr hk.1⟩) fun _ _=>rfl)) hst4 hbx4 (HROW.out.of_block (hc4.same bf (by omega) (by omega))) (HB3.out.trans (hc4.below (fun k e=>by rw [e];omega) HB3.out.size)) ⟨by omega,by omega⟩ fun k hk=>?_;rw [hG5,HG4.out] at hk;rcases hk.2 with h | h
  ·exact h.2
  ·exact ⟨by omega,by omega⟩
 rw [← hB] at hba;have HBA:=Ha hba;obtain ⟨bs,os,_,_,_,_,hA,_⟩:=hst4.at_ hk0;subst hA;have HL:=Ha (show B=w4.heap.size from hB);clear hba hst4 hbx4 hmt hcs hc4 hs34 hs13 hG5 hB HPR HQ3 HROW HR2 HR3 HST HS R0 HX1;go_wp2_with fail
 go_loopw [32] (fun iv wr=>∃ (i:Nat) (vb va:Value) (ps:List (Nat×Nat)),i≤ks.length∧iv=.int .i64 i∧Ba w G5 B bm bf A0 c0 A1 c1 A2 c2 g ks (some ⟨bs,os,none⟩) c vr vts vu vc wr vb va ps i (Gm.base ks i)) (fun iv _=>ks.length-(intOf iv).toNat)
 case atStart=>exact ⟨0,_,_,_,gX _,rfl,HBA.out⟩
 case round=>
  obtain ⟨i,vb,va,ps,hi,rfl,hba⟩:=hrel;by_cases hlt:i<ks.length
  case neg=>
   obtain rfl:i=ks.length:=by omega
   obtain ⟨Ab,cb,rfl,hmx⟩:=hba.mx;have htot:=hba.tot;have hba1:1≤Gm.base ks ks.length:=by
    have h1:=Gm.place_lt hk0 (p:=0) (List.length_pos_iff.2 (HA.out.kok _ (gN hk0)).ne);omega
   have hbas:=HBAS.out;obtain ⟨ba,oa,ca,b,bw,X,rfl,_,z0,_,hbB,hset⟩:=hmx.setAt (k:=0) (by omega);rw [Nat.add_zero] at z0;have y10:=aA hmx.box 10 _ rfl;obtain ⟨bb,ob,hAb,_⟩:=hmx.mb.base hk0;subst hAb;have hps1:(0:Int)<(ps.length:Int):=by omega
   obtain ⟨HPUT,HMX,HTOT,HST0⟩:=Zh4 (sD b bw (g.terms.length+1) X 0 wr hset (by omega)) hmx (show ps.length≤10000000 from by omega) (gS hset hbB);clear hba hmx hset hbB htot hba1 hbas;go_wp2_with fail;refine (HPUT.out).mono ?_;rintro e wp ⟨rfl,hs2,hd2⟩;have hmx2:=HMX.out.wch (WCh.one HST0.out.1 hd2.chg hs2 (cG _ _) HST0.out.2);have HIT:=Ha (show It w G5 B bm bf A0 c0 A1 c1 A2 c2 g ks (some ⟨bs,os,none⟩) c vr vts vu vc (some ⟨bb,ob,none⟩) cb (itN (Gm.base ks 0)) wp _ _ ps _ _ _ from ⟨hmx2,IF HTOT.out,by simp,fun i _=>gX _⟩);clear hs2 hd2 hmx2 z0 y10;generalize (!X.testBit 0)=dd;go_wp2_with fail
   go_loopw [70] (fun iv wr=>∃ (i:Nat) (va ve:Value) (ps:List (Nat×Nat)) (es:List Edg) (FV:Nat→Value) (fl:Nat→List (Int×Nat)),i≤ks.length∧iv=.int .i64 i∧It w G5 B bm bf A0 c0 A1 c1 A2 c2 g ks (some ⟨bs,os,none⟩) c vr vts vu vc (some ⟨bb,ob,none⟩) cb (itN (Gm.base ks i)) wr va ve ps es FV fl) (fun iv _=>ks.length-(intOf iv).toNat)
   case atStart=>exact ⟨0,_,_,_,_,_,_,gX _,rfl,HIT.out⟩
   case round=>
    obtain ⟨i,va,ve,ps,es,FV,fl,hi,rfl,hit⟩:=hrel;have HIR:=Ha hit;clear hit HIT;by_cases hlt:i<ks.length
    case neg=>
     obtain rfl:i=ks.length:=by omega
     have HSP:=Ha (DJ w G5 B bm bf A0 c0 A1 c1 A2 c2 g ks _ c vr vts vu vc _ cb wr va ve ps es FV fl HIR.out.mx (by have:=HTP.out;omega));go_wp2_with fail;refine (HSP.out).mono ?_;rintro e w8 ⟨rfl,hmx8⟩;obtain ⟨HM8,HB8,HLP⟩:=Zh3 hmx8 (show Below w.heap.size w w8 from hmx8.bel) (show ps.length≤1000000000000∧∀ i,i<ks.length→(fl i).length≤ps.length from ⟨by have h1:=HIR.out.lp;have h2:=BZ (gO _) HBAS.out;omega,HIR.out.lf⟩);clear hmx8;go_wp2_with fail
     go_loopw [11,103] (fun ov iv wr=>∃ (i:Nat),i≤ks.length∧iv=.int .i64 i∧aG w8.heap.size 213 1 (bJ (g8 wr)) wr ov (List.range i)∧Below w8.heap.size w8 wr) (fun _ iv _=>ks.length-(intOf iv).toNat)
     case atStart=>exact ⟨0,gX _,rfl,aG.nil _ _ _ _ _,gR _ _⟩
     case round=>
      obtain ⟨i,hi,rfl,hrow,hbe⟩:=hrel;have HRW:=Ha hrow;have HBE:=Ha hbe;clear hrow hbe;by_cases hlt:i<ks.length
      ·have hmr:=HM8.out.below HBE.out;have hkl2:ks[i].length≤1000000:=by have:=(HA.out.kok _ (gN hlt)).len hlr HW.out.lx;omega
       have HLO:=Ha (E5 w G5 B bm bf A0 c0 A1 c1 A2 c2 g ks _ c vr vts vu vc _ cb wr va ve ps es FV fl i hmr hlt hlr hkl2 (HA.out.kok _ (gN hlt)).ok HLP.out.1 (HLP.out.2 i hlt) (by have:=HTP.out;omega));clear hmr hkl2;go_wp2_with fail;refine (HLO.out).mono ?_;rintro e w9 ⟨⟨v,l,rfl,hr,hll⟩,hb9⟩;obtain ⟨Al,cl,rfl,_⟩:=hr.shape;obtain ⟨Ao,co,rfl,_⟩:=HRW.out.shape;have hlk:g8 w9 (.slice Al l.length cl) i:=⟨l,hr.look fun k hk=>(hr.tb hk).2,hll⟩;have hrow9:aG w8.heap.size 213 1 (bJ (g8 w9)) w9 _ (List.range i):=(HRW.out.below hb9).mono (bJ.mono fun _ _ h=>h.keep (fun k hk=>hb9.block k hk.lt) fun k hk=>hb9.block k hk.lt);have hs9:w8.heap.size≤w9.heap.size:=gP HBE.out.size hb9.size;obtain ⟨v',w10,hrun,hr10,hc10,_⟩:=aG.pushC 84 Tryz.underlying84 xD rfl (by decide) (bJ.one fun v x hv=>by obtain ⟨_,h,_⟩:=hv;obtain ⟨A,c,rfl,_⟩:=aH.shape h;rfl) 84 (us:=[.slice Al l.length cl]) (x:=i) rfl ⟨_,rfl,hlk⟩ hrow9 (by rw [yG];omega) (by rw [yG];unfold maxLen;omega) hs9;obtain ⟨A10,c10,rfl,_⟩:=hr10.shape;rw [yG] at hrow9 hrun;rw [gI,gZ,yG] at hrun hr10;rw [yG] at hc10;have hk10:∀ {T:TypeId} {k:Nat},TB T w9 k→T≠213→w10.heap[k]? = w9.heap[k]? := fun h1 h2=>hc10.same _ h1.lt fun e=>h1.ne (hrow9.tb e).2 h2 rfl;have HR10:=Ha (show aG w8.heap.size 213 1 (bJ (g8 w10)) w10 _ (List.range (i+1)) from by
        rw [List.range_succ];exact hr10.mono (bJ.mono fun _ _ h=>h.keep (fun k hk=>hk10 hk (by decide)) fun k hk=>hk10 hk (by decide)))
       have HB10:=Ha (show Below w8.heap.size w8 w10 from (HBE.out.trans (hb9.mono HBE.out.size)).trans (hc10.below (fun k e=>(hrow9.tb e).1) hs9));rw [yG];clear hr hll hb9 hlk hrow9 hs9 hr10 hc10 hk10;go_wp2_with fail
       go_roundw
       case rel=>exact ⟨i+1,hlt,by go_num,HR10.out,HB10.out⟩
       case measure=>simp only [intOf];omega
      ·obtain rfl:i=ks.length:=by omega
       obtain ⟨Ao,co,rfl,_⟩:=HRW.out.shape;have HF:=Ha (show uD g w (.returned (.tuple #[.slice Ao (List.range ks.length).length co,.int .i64 0])) wr from ⟨.inr ⟨ks,_,HK.out,rfl,HRW.out.look fun k hk=>(HRW.out.tb hk).2⟩,HB8.out.trans (HBE.out.mono HB8.out.size)⟩);rw [yG] at HF ⊢;go_wp2_with fail;refine bodyPost_ret (v:=.tuple #[.slice Ao ks.length co,.int .i64 0]) (by simp [results,Tryz.results98,go_sem]) rfl ?_;exact HF.out
    case pos=>
     obtain ⟨Ai,ci,_,_,_,z0,_,hits,_⟩:=HIR.out.mx.mb.dat.sts.at2 hlt;obtain ⟨li,hli⟩:∃ li,li=ks[i].length:=⟨_,rfl⟩;obtain ⟨M,hM⟩:∃ M,M=Gm.base ks i:=⟨_,rfl⟩;rw [← hli] at z0 hits;have hMi:M+li=Gm.base ks (i+1):=by rw [Gm.base_succ ks hlt,hM,hli]
     have hMi2:M+li≤Gm.base ks ks.length:=by
      have h1:=Gm.base_mono ks (show i+1≤ks.length from hlt);omega
     have hir:=HIR.out;rw [← hM] at hir;obtain ⟨HI0,HMI,HIS⟩:=Zh3 hir (gS hMi (gS hMi2 (gS hM hli))) hits;have hi2:(i:Int)<(ks.length:Int):=by omega
     have hi3:(0:Int)≤(i:Int):=by omega
     clear hits hMi hMi2 hM hli hir;go_wp2_with fail;clear z0
     go_loopw [79] (fun jv wr=>∃ (j:Nat) (va ve:Value) (ps:List (Nat×Nat)) (es:List Edg) (FV:Nat→Value) (fl:Nat→List (Int×Nat)),j≤li∧jv=.int .i64 j∧It w G5 B bm bf A0 c0 A1 c1 A2 c2 g ks (some ⟨bs,os,none⟩) c vr vts vu vc (some ⟨bb,ob,none⟩) cb (itN (M+j)) wr va ve ps es FV fl∧aR G5 wr (.slice Ai li ci) ks[i]) (fun jv _=>li-(intOf jv).toNat)
     case atStart=>exact ⟨0,_,_,_,_,_,_,gX _,rfl,HI0.out,HIS.out⟩
     case round=>
      obtain ⟨j,va,ve,ps,es,FV,fl,hj,rfl,hit,hits⟩:=hrel;have HIJ:=Ha hit;have HJS:=Ha hits;clear hit hits HI0 HIS HIR;by_cases hjl:j<li
      ·have hjk:j<ks[i].length:=by rw [← HMI.out.2.2.2];exact hjl
       obtain ⟨k,d,hx⟩:∃ k d:Nat,ks[i][j]=((k:Int),(d:Int)):=by
        have h1:=(HA.out.kok _ (gN hlt)).ok _ (gN hjk);unfold Gm.Ok at h1;exact ⟨ks[i][j].1.toNat,ks[i][j].2.toNat,Prod.ext (by omega) (by omega)⟩
       obtain ⟨bi,oi,rfl,_,y0,y1⟩:=aR.at_ HJS.out hjk;rw [hx] at y0 y1;have hxm:((k:Int),(d:Int))∈ks[i]:=hx▸gN hjk;have hb1:Below wr.heap.size wr (wr.alloc (.cells #[.int .i64 (k:Int),.int .i64 (d:Int)] 250)):=(gR _ _).alloc (gO _) _;have q1:=aC wr (.cells #[.int .i64 (k:Int),.int .i64 (d:Int)] 250);generalize hWI:wr.alloc (.cells #[.int .i64 (k:Int),.int .i64 (d:Int)] 250)=wi at *;have hmd:=HIJ.out.mx.below (hb1.drew);obtain ⟨ob',off',e1,zb⟩:=hmd.mb.base hlt
       injection e1 with e1
       injection e1 with e1 e2
       subst e1 e2;rw [← HMI.out.2.2.1] at zb;have hTI:TB 250 wi.drew wr.heap.size:=⟨_,q1⟩;obtain ⟨s0,s1,_,_⟩:=aM q1 rfl;have hbas:=HBAS.out;have hmi:=HMI.out;have htot:=HTOT.out;have hbl:=Gm.base_mono ks (Nat.le_of_lt hlt);have hat:M+j<ps.length:=by have h1:=HIJ.out.mx.tot;omega
       obtain ⟨pj,hpj⟩:∃ pj,pj=M+j:=⟨_,rfl⟩;obtain ⟨HPJ,HIM,HJ2,HSS⟩:=Zh4 hpj (ID w G5 B bm bf A0 c0 A1 c1 A2 c2 g ks _ c vr vts vu vc _ cb wi.drew va ve ps es FV fl i k d pj (itN (M+j)) hmd HW.out HA.out hlt hxm (hpj▸hat) (by have:=HTP.out;omega) hbas HIJ.out.lp HIJ.out.le (BZ (show M+j≤Gm.base ks ks.length by omega) hbas) HIJ.out.lf) (show aR G5 wi.drew (.slice (some ⟨bi,oi,none⟩) li ci) ks[i] from aH.keepG (fun _ h=>h) (fun k hk=>(hb1.drew).block k (by have h1:=HIJ.out.mx.gl k hk;have h2:=HIJ.out.mx.le.2.2.2;omega)) HJS.out fun _ _ h=>h) (show (wi.drew.cell? ⟨bm,9,none⟩=some (.slice (some ⟨bb,ob,none⟩) ks.length cb)∧wi.drew.cell? ⟨bb,ob+i,none⟩=some (.int .i64 (M:Int))∧wi.drew.cell? ⟨wr.heap.size,0,none⟩=some (.int .i64 (k:Int))∧wi.drew.cell? ⟨wr.heap.size,1,none⟩=some (.int .i64 (d:Int))) from ⟨hmd.mb.m9,zb,s0,s1⟩);have hwj:IntKind.i64.wrap ((M:Int)+(j:Int))=(pj:Int):=by
        rw [show (M:Int)+(j:Int)=(pj:Int) by omega];exact IntWalk.i64_in _ (by omega)
       have HTI:=Ha (gS hTI q1);have HLE:=Ha (gS hmd.le hmd.gl);have hjl':(j:Int)<(li:Int):=by omega
       have hli7:li≤10000000:=by omega
       clear hx hxm hb1 q1 hmd zb hTI hat hmi hbl hpj;go_wp2_with fail;refine aE.start 13 (fun X=>X.cell? ⟨bm,9,none⟩=some (.slice (some ⟨bb,ob,none⟩) ks.length cb)∧X.cell? ⟨bb,ob+i,none⟩=some (.int .i64 (M:Int))∧X.cell? ⟨wr.heap.size,0,none⟩=some (.int .i64 (k:Int))∧X.cell? ⟨wr.heap.size,1,none⟩=some (.int .i64 (d:Int))) (by kernel_rfl) ?hs_2 (fun hHeld=>?hr_2)
       case hs_2=>exact HSS.out
       refine aE.tks [0,1,2,3,4,5,6,7,8,9,10,11] ?_ (by kernel_rfl) (by assumption)
       iterate 12
        refine aK.cons ?_ (by rfl) (by rfl) (by intro w h;(try dsimp only at h);simp only [gA,gB,gC];go_simp;try with_reducible rfl) (by exact fun _ _ _ h=>h);simp only [gA,gB,gC,Act.put,gD,gE,gF]
       show aE _ _ _ _ _ _ _ _ _ _;refine aE.one (i:=12) (by kernel_rfl) rfl fun K hK=>?_;simp only [gA,gB,gC]
       go_simp
       with_reducible refine Calls.mono HIM.out ?_
       rintro e w7 ⟨rfl,va',ve',ps',es',FV',fl',hmx',hev,hnp,hlp',hle',hlf'⟩;obtain ⟨ob',off',e1,zb⟩:=hmx'.mb.base hlt
       injection e1 with e1
       injection e1 with e1 e2
       subst e1 e2;rw [← HMI.out.2.2.1] at zb;have q7:=(hev.tb (by decide) HTI.out.1).trans HTI.out.2;obtain ⟨s0',s1',_,_⟩:=aM q7 rfl;obtain ⟨HS7,HI7,HJ7⟩:=Zh3 (show (w7.cell? ⟨bm,9,none⟩=some (.slice (some ⟨bb,ob,none⟩) ks.length cb)∧w7.cell? ⟨bb,ob+i,none⟩=some (.int .i64 (M:Int))∧w7.cell? ⟨wr.heap.size,0,none⟩=some (.int .i64 (k:Int))∧w7.cell? ⟨wr.heap.size,1,none⟩=some (.int .i64 (d:Int))) from ⟨hmx'.mb.m9,zb,s0',s1'⟩) (show It w G5 B bm bf A0 c0 A1 c1 A2 c2 g ks (some ⟨bs,os,none⟩) c vr vts vu vc (some ⟨bb,ob,none⟩) cb (itN (M+(j+1))) w7 va' ve' ps' es' FV' fl' from ⟨hmx',rU (M+j)▸hlp',rU (M+j)▸hle',hlf'⟩) (show aR G5 w7 (.slice (some ⟨bi,oi,none⟩) li ci) ks[i] from aH.keepG (fun _ h=>h) (fun k hk=>hev.old (HLE.out.2 k hk) HLE.out.1.2.2.2) HJ2.out fun _ _ h=>h);clear hmx' hev hnp hlp' hle' hlf' zb q7 s0' s1';dsimp only;refine hK.out _ _ ?_ (fun hHeld=>?_)
       ·exact HS7.out
       clear hK K;try simp only [Act.put,gD,gE,gF]
       refine aE.done (by kernel_rfl) ?_ _;go_wp2_with fail
       go_roundw
       case rel=>exact ⟨j+1,_,_,_,_,_,_,hjl,by go_num,HI7.out,HJ7.out⟩
       case measure=>simp only [intOf];omega
      ·obtain rfl:j=li:=by omega
       go_wp2_with fail
       go_roundw
       case rel=>exact ⟨i+1,_,_,_,_,_,_,hlt,by go_num,by rw [← HMI.out.1];exact HIJ.out⟩
       case measure=>simp only [intOf];omega
  case pos=>
   obtain ⟨M,hM⟩:∃ M,M=Gm.base ks i:=⟨_,rfl⟩;have hMl:M≤10000000:=by
    have h1:=Gm.base_mono ks (Nat.le_of_lt hlt);have h2:=HBAS.out;omega
   rw [← hM] at hba;have hbd:=hba.below (gR wr.heap.size wr).drew;obtain ⟨Aa,ca,rfl,_⟩:=hbd.all.shape;obtain ⟨Av,cv,rfl,_⟩:=aG.shape hbd.bs;rw [hbd.tot,List.length_map,yG] at hbd;obtain ⟨A4,c4,w4a,w5,hrun,hW5,e3,e4,y9,f9,hb5⟩:=hbd.pushB hM (by omega);replace hrun:WrA Tryz.prog #[26,26] 26 #[.slice Av i cv,.slice (some ⟨wr.heap.size,0,none⟩) 1 1] (wr.alloc (.cells #[.int .i64 (M:Int)] 3)).drew=.ok (.slice A4 (i+1) c4) w4a:=hrun;have hS:∀ X:World,X.heap[bm]? = wr.drew.heap[bm]? → X.cell? ⟨bm,9,none⟩=some (.slice Av i cv)∧X.cell? ⟨bm,10,none⟩=some (.slice Aa M ca):=fun X hX=>⟨aA (hX.trans hbd.box) 9 _ rfl,aA (hX.trans hbd.box) 10 _ rfl⟩;obtain ⟨HS,HB5,HM⟩:=Zh3 (gS (hS _ rfl) (gS (hS _ e3) (hS _ e4))) hb5 hM;clear hba hbd hS hb5 hM;go_wp2_with fail;refine aE.start 14 (fun X=>X.cell? ⟨bm,9,none⟩=some (.slice Av i cv)∧X.cell? ⟨bm,10,none⟩=some (.slice Aa M ca)) (by kernel_rfl) ?hs_3 (fun hHeld=>?hr_3)
   case hs_3=>exact HS.out.1
   refine aE.tks [0,1,2,3,4,5,6,7,8,9] ?_ (by kernel_rfl) (by assumption)
   iterate 10
    refine aK.cons ?_ (by rfl) (by rfl) (by intro w h;(try dsimp only at h);simp only [gA,gB,gC];go_simp;try with_reducible rfl) (by exact fun _ _ _ h=>h);simp only [gA,gB,gC,Act.put,gD,gE,gF]
   show aE _ _ _ _ _ _ _ _ _ _;refine aE.one (i:=10) (by kernel_rfl) rfl fun K hK=>?_;simp only [gA,gB,gC]
   go_simp
   refine hK.out _ _ ?_ (fun hHeld=>?_)
   ·exact HS.out.2.1
   clear hK K;try simp only [Act.put,gD,gE,gF]
   refine aE.one (i:=11) (by kernel_rfl) rfl fun K hK=>?_;simp only [gA,gB,gC]
   go_simp
   refine hK.out _ _ ?_ (fun hHeld=>?_)
   ·exact HS.out.2.2
   clear hK K;try simp only [Act.put,gD,gE,gF]
   refine aE.one (i:=12) (by kernel_rfl) rfl fun K hK=>?_;simp only [gA,gB,gC]
   go_simp
   refine hK.out _ _ ?_ (fun hHeld=>?_)
   ·exact HS.out.2.2
   clear hK K;try simp only [Act.put,gD,gE,gF]
   refine aE.one (i:=13) (by kernel_rfl) rfl fun K hK=>?_;simp only [gA,gB,gC]
   go_simp
   refine hK.out _ _ ?_ (fun hHeld=>?_)
   ·exact HS.out.2.2
   clear hK K;try simp only [Act.put,gD,gE,gF]
   refine aE.last (by kernel_rfl) rfl fun K hK=>?_;simp only [gA,gB,gC]
   go_simp
   refine hK.out _ _ (aE.done (by kernel_rfl) ?_ _);clear hrun hW5 e3 e4 y9 f9;obtain ⟨Ai,ci,_,_,_,z0,_,hit,_⟩:=HB5.out.dat.sts.at2 hlt;obtain ⟨li,hli⟩:∃ li,li=ks[i].length:=⟨_,rfl⟩;rw [← hli] at z0;have hMi:M+li=Gm.base ks (i+1):=by rw [Gm.base_succ ks hlt,HM.out,hli]
   have hMi2:M+li≤10000000:=by
    have h1:=Gm.base_mono ks (show i+1≤ks.length from hlt);have h2:=HBAS.out;omega
   have HMI:=Ha hMi;have hi2:(i:Int)<(ks.length:Int):=by omega
   have hi3:(0:Int)≤(i:Int):=by omega
   have HNT:=Ha (show g.terms.length+1≤64 from by have:=HTP.out;omega);clear hit hMi hli;go_wp2_with fail;clear z0
   go_loopw [55] (fun jv wr=>∃ (j:Nat) (va:Value) (ps:List (Nat×Nat)),j≤li∧jv=.int .i64 j∧Ba w G5 B bm bf A0 c0 A1 c1 A2 c2 g ks (some ⟨bs,os,none⟩) c vr vts vu vc wr (.slice A4 (i+1) c4) va ps (i+1) (M+j)) (fun jv _=>li-(intOf jv).toNat)
   case atStart=>exact ⟨0,_,_,gX _,rfl,HB5.out⟩
   case round=>
    obtain ⟨j,va,ps,hj,rfl,hba⟩:=hrel;have HBJ:=Ha hba;clear hba;by_cases hjl:j<li
    ·have HFR:=Ha (uW wr B bm (g.terms.length+1) g.terms.length A0 c0 _ _ _ _ _ _ _ _ _ va _ _ ps HBJ.out.box HBJ.out.all rfl HNT.out (by have:=HBJ.out.tot;omega) HBJ.out.le.2.2.2);go_wp2_with fail;refine (HFR.out).mono ?_;rintro e w6 hp;obtain ⟨rfl,va',p,hb6⟩:=HBJ.out.fresh hp;have HB6:=Ha hb6;clear hp hb6;go_wp2_with fail
     go_roundw
     case rel=>exact ⟨j+1,_,_,hjl,by go_num,HB6.out⟩
     case measure=>simp only [intOf];omega
    ·obtain rfl:j=li:=by omega
     go_wp2_with fail
     go_roundw
     case rel=>exact ⟨i+1,_,_,_,hlt,by go_num,by rw [← HMI.out];exact HBJ.out⟩
     case measure=>simp only [intOf];omega
end
theorem EY (G:Nat→Prop) (w:World) (A:Option Addr) (c:Nat) (l:List Int) (v:Int) (hG:∀ k,G k→k<w.heap.size) (hl:aF G w (.slice A l.length c) l):
  Calls Tryz.prog 242 #[.slice A l.length c,.int .i64 v] w fun e w'=>(∃ r:Int,e=.returned (.int .i64 r)∧(0≤r↔v∈l))∧Below w.heap.size w w':=by
 have HL:=Ha hl;have HG:=Ha hG;have hll:l.length≤9223372036854775807:=by
  obtain ⟨_,_,_,h1,h2⟩:=aH.shape hl;unfold maxLen at h2;omega
 clear hl hG;go_enter Tryz.func242,Tryz.ntmps242;go_wp2_with fail
 go_loopw [8] (fun iv wr=>∃ j:Nat,j≤l.length∧iv=.int .i64 j∧(∀ q (h:q<l.length),q<j→l[q]≠v)∧Below w.heap.size w wr) (fun iv _=>l.length-(intOf iv).toNat)
 case atStart=>exact ⟨0,gX _,rfl,fun _ _ h=>absurd h (yJ _),gR _ _⟩
 case round=>
  obtain ⟨j,hj,rfl,hno,hb⟩:=hrel;have HNO:=Ha hno;have HB:=Ha hb;clear hno hb;by_cases hlt:j<l.length
  ·obtain ⟨bt,ot,rfl,z0⟩:=aF.get (aF.below HG.out HB.out HL.out) hlt;obtain ⟨a,ha⟩:∃ a,a=l[j]:=⟨_,rfl⟩;rw [← ha] at z0;have HA:=Ha ha;clear ha;by_cases e:v=a
   ·subst e;have HIN:=Ha (show v∈l from HA.out▸gN hlt);go_wp2_with fail;go_ret;exact ⟨⟨_,rfl,⟨fun _=>HIN.out,fun _=>by omega⟩⟩,HB.out⟩
   ·have HR:=Ha (show ∀ q (h:q<l.length),q<j+1→l[q]≠v from fun q hq hqj e3=>by
     by_cases e2:q=j
     ·subst e2;exact e (by rw [HA.out,e3])
     ·exact HNO.out q hq (by omega) e3)
    go_wp2_with fail
    go_roundw
    case rel=>exact ⟨j+1,hlt,by go_num,HR.out,HB.out⟩
    case measure=>simp only [intOf];omega
  ·have HNI:=Ha (show v ∉ l from fun h=>by
    obtain ⟨q,hq,e⟩:=List.mem_iff_getElem.1 h;exact HNO.out q hq (by omega) e)
   obtain rfl:j=l.length:=by omega
   go_wp2_with fail;go_ret;exact ⟨⟨_,rfl,⟨fun h=>absurd h (by decide),fun h=>absurd h HNI.out⟩⟩,HB.out⟩
theorem GF (G:Nat→Prop) (w:World) (A:Option Addr) (c:Nat) (l:List Int) (v:Int) (hG:∀ k,G k→k<w.heap.size) (hl:aF G w (.slice A l.length c) l):
  Calls Tryz.prog 199 #[.slice A l.length c,.int .i64 v] w fun e w'=>e=.returned (.bool (decide (v∈l)))∧Below w.heap.size w w':=by
 have HI:=Ha (EY G w A c l v hG hl);clear hl hG;go_enter Tryz.func199,Tryz.ntmps199;go_wp2_with fail;refine (HI.out).mono ?_;rintro e w1 ⟨⟨r,rfl,hr⟩,hb1⟩;have HB1:=Ha hb1;clear hb1;by_cases h0:0≤r
 ·have HD:=Ha (yD (hr.1 h0));clear hr;go_wp2_with fail;go_ret;exact ⟨by rw [HD.out];rfl,HB1.out⟩
 ·have HD:=Ha (show decide (v∈l)=false from yE fun h=>h0 (hr.2 h));clear hr;go_wp2_with fail;go_ret;exact ⟨by rw [HD.out];show Ending.returned (.bool (decide (0≤r)))=_;rw [yE (by omega)],HB1.out⟩
def acS (t:Int) (x:Itm):Option (Int×Int):=if 0<t∧x.1=t then some (1,x.2) else none
def acA (own t:Int) (x:Int×List Int):Option (Int×Int):=if x.1=own∧t∈x.2 then some (3,0) else none
def acR (own t:Int) (x:Int×List Int):Option (Int×Int):=if x.1≠own∧t∈x.2 then some (2,x.1) else none
def acts (own:Int) (tr:List Itm) (lk:List (Int×List Int)) (t:Int):List (Int×Int):=tr.filterMap (acS t)++(lk.filterMap (acA own t)++lk.filterMap (acR own t))
theorem uU {α β:Type} (f:α→Option β) {l:List α} {k:Nat} (h:k<l.length):(l.take (k+1)).filterMap f=(l.take k).filterMap f++(f l[k]).toList:=by
 rw [List.take_succ_eq_append_getElem h,List.filterMap_append];cases e:f l[k] <;> simp [e]
theorem tD {α β:Type} (f:α→Option β) (l:List α) (k:Nat):(l.take k).filterMap f <+: l.filterMap f:=(List.take_prefix k l).filterMap f
theorem tC {α β:Type} (f:α→Option β) (l:List α):(l.filterMap f).length≤l.length:=List.length_filterMap_le f l
theorem qS (own:Int) (tr:List Itm) (lk:List (Int×List Int)) (t:Int):(acts own tr lk t).length≤tr.length+2*lk.length:=by
 unfold acts;rw [gI,gI];have h1:=tC (acS t) tr;have h2:=tC (acA own t) lk;have h3:=tC (acR own t) lk;omega
theorem sU {own:Int} {tr:List Itm} {lk:List (Int×List Int)} {t n:Int} (h:(1,n)∈acts own tr lk t):0<t∧(t,n)∈tr:=by
 unfold acts at h;rcases yC h with h | h
 ·obtain ⟨x,hx,e⟩:=List.mem_filterMap.1 h;unfold acS at e
  split at e
  ·rename_i h1
   injection e with e
   injection e with _ e
   subst e;exact ⟨h1.1,by rw [← h1.2];exact hx⟩
  ·cases e
 ·rcases yC h with h | h
  ·obtain ⟨x,hx,e⟩:=List.mem_filterMap.1 h;unfold acA at e
   split at e
   ·injection e with e;injection e with e _;cases e
   ·cases e
  ·obtain ⟨x,hx,e⟩:=List.mem_filterMap.1 h;unfold acR at e
   split at e
   ·injection e with e;injection e with e _;cases e
   ·cases e
open Go.Shelf
section
attribute [local go_sem] Oper.semAt_some
def acv (x:Int×Int):Value:=.agg #[.int .i64 x.1,.int .i64 x.2]
def Ka (n₀:Nat) (W W':World):Prop:=Below n₀ W W'∧∀ (k:Nat) (T:TypeId) (vs:Array Value),(T=3∨T=100∨T=213)→W.heap[k]? = some (.cells vs T (0,0))→W'.heap[k]? = some (.cells vs T (0,0))
theorem Ka.refl (n₀:Nat) (W:World):Ka n₀ W W:=⟨gR _ _,fun _ _ _ _ h=>h⟩
theorem Ka.trans {n₀:Nat} {A B C:World} (h:Ka n₀ A B) (k:Ka n₀ B C):Ka n₀ A C:=⟨h.1.trans k.1,fun b T v hT hb=>k.2 b T v hT (h.2 b T v hT hb)⟩
theorem Ka.below {n₀:Nat} {W W':World} (hn:n₀≤W.heap.size) (h:Below W.heap.size W W'):Ka n₀ W W':=⟨h.mono hn,fun k _ _ _ hb=>(h.block k (gL hb).1).trans hb⟩
theorem l4 {W W':World} (h:Below W.heap.size W W'):W.grownBy W' none:=⟨h.os,h.tape,h.output,h.size,fun k hk _=>h.block k hk⟩
theorem bV {β:Type} {B:Nat} {J:β→World→Prop} (hJ:AbidesFrom B J) {s:β} {W W':World} (h:J s W) (hb:Below W.heap.size W W'):J s W':=hJ s W W' none h (l4 hb) (fun r e=>by cases e)
structure Cap (W:World) (bs bt bl bo:Nat) (vi:Value) (At:Option Addr) (nt ct:Nat) (t:Int) (Al:Option Addr) (nl cl:Nat) (own:Int):Prop where
 hs:W.heap[bs]? = some (.cells #[vi,.slice At nt ct] 100 (0,0))
 ht:W.heap[bt]? = some (.cells #[.int .i64 t] 3 (0,0))
 hl:W.heap[bl]? = some (.cells #[.slice Al nl cl] 213 (0,0))
 ho:W.heap[bo]? = some (.cells #[.int .i64 own] 3 (0,0))
theorem Cap.ka {n₀:Nat} {W W':World} {bs bt bl bo:Nat} {vi:Value} {At:Option Addr} {nt ct:Nat} {t:Int} {Al:Option Addr} {nl cl:Nat} {own:Int} (h:Cap W bs bt bl bo vi At nt ct t Al nl cl own) (k:Ka n₀ W W'):Cap W' bs bt bl bo vi At nt ct t Al nl cl own:=
 ⟨k.2 _ _ _ (.inr (.inl rfl)) h.hs,k.2 _ _ _ (.inl rfl) h.ht,k.2 _ _ _ (.inr (.inr rfl)) h.hl,k.2 _ _ _ (.inl rfl) h.ho⟩
theorem Cap.cells {W:World} {bs bt bl bo:Nat} {vi:Value} {At:Option Addr} {nt ct:Nat} {t:Int} {Al:Option Addr} {nl cl:Nat} {own:Int} (h:Cap W bs bt bl bo vi At nt ct t Al nl cl own):
  W.cell? ⟨bs,1,none⟩=some (.slice At nt ct)∧W.cell? ⟨bt,0,none⟩=some (.int .i64 t)∧W.cell? ⟨bl,0,none⟩=some (.slice Al nl cl)∧W.cell? ⟨bo,0,none⟩=some (.int .i64 own):=
 ⟨aA h.hs 1 _ rfl,aA h.ht 0 _ rfl,aA h.hl 0 _ rfl,aA h.ho 0 _ rfl⟩
theorem r3 {G:Nat→Prop} {W:World} {A:Option Addr} {n c:Nat} {lk:List (Int×List Int)} (h:aH G W 2 (bU G W) (.slice A n c) lk) {k:Nat} (hk:k<lk.length):
  ∃ bb off Ak ck,A=some ⟨bb,off,none⟩∧G bb∧W.cell? ⟨bb,off+k*2,none⟩=some (.int .i64 lk[k].1)∧W.cell? ⟨bb,off+k*2+1,none⟩=some (.slice Ak lk[k].2.length ck)∧aF G W (.slice Ak lk[k].2.length ck) lk[k].2:=by
 obtain ⟨A',c',e,_,_,h4⟩:=h
 injection e with e1 _ _
 subst e1;obtain ⟨bb,off,rfl,hg,h5⟩:=h4 (by omega);obtain ⟨vs,h6,⟨t,rfl,h8⟩,h10⟩:=h5 k hk;obtain ⟨Ak,ck,rfl,_⟩:=aH.shape h8;exact ⟨bb,off,Ak,ck,rfl,hg,by simpa using h10 0 _ rfl,h10 1 _ rfl,h8⟩
theorem bU.keepG {G:Nat→Prop} {w w':World} (hk:∀ k,G k→w'.heap[k]? = w.heap[k]?):∀ (vs:List Value) (x:Int×List Int),bU G w vs x→bU G w' vs x:=by
 rintro vs x ⟨t,rfl,h⟩;exact ⟨t,rfl,aH.keepG (fun _ h=>h) hk h fun _ _ h=>h⟩
theorem fS {α β:Type} {f:α→Option β} {l:List α} {k:Nat} {x:β} (h:k<l.length) (hx:f l[k]=some x):(l.take k).filterMap f++[x]=(l.take (k+1)).filterMap f:=by
 rw [uU f h,hx];rfl
theorem fR {α β:Type} {f:α→Option β} {l:List α} {k:Nat} (h:k<l.length) (hx:f l[k]=none):(l.take (k+1)).filterMap f=(l.take k).filterMap f:=by
 rw [uU f h,hx];simp
section
variable {own:Int} {tr:List Itm} {lk:List (Int×List Int)} {t:Int} {k:Nat} {x:Int×Int}
theorem KA (h:k<tr.length) (hx:acS t tr[k]=some x):(tr.take k).filterMap (acS t)++[x] <+: acts own tr lk t:=by
 rw [fS h hx];exact (tD _ _ _).trans (List.prefix_append _ _)
theorem KB (h:k<lk.length) (hx:acA own t lk[k]=some x):tr.filterMap (acS t)++(lk.take k).filterMap (acA own t)++[x] <+: acts own tr lk t:=by
 rw [List.append_assoc,fS h hx];exact (List.prefix_append_right_inj _).2 ((tD _ _ _).trans (List.prefix_append _ _))
theorem KC (h:k<lk.length) (hx:acR own t lk[k]=some x):tr.filterMap (acS t)++(lk.filterMap (acA own t)++(lk.take k).filterMap (acR own t))++[x] <+: acts own tr lk t:=by
 rw [List.append_assoc,List.append_assoc,fS h hx];exact (List.prefix_append_right_inj _).2 ((List.prefix_append_right_inj _).2 (tD _ _ _))
theorem tL {N:Nat} {pre l:List (Int×Int)} (h:pre++[x] <+: l) (hN:l.length≤N):pre.length<N:=by
 have h1:=h.length_le;rw [gI,gZ] at h1;omega
end
theorem FU (m l n₀ N bs bt bl bo:Nat) (J Jx:List (Int×Int)→World→Prop) (G:Nat→Prop) (vi:Value) (At:Option Addr) (ct:Nat) (tr:List Itm) (t:Int) (Al:Option Addr) (cl:Nat) (lk:List (Int×List Int)) (own:Int) (W:World) (hJ:AbidesFrom W.heap.size J)
  (hY:∀ pre x W1,J pre W1→pre.length<N→YieldAt Fence.wide (m-1) Tryz.prog l #[acv x] W1 fun e W'=>(e=.returned (.bool true)∧J (pre++[x]) W'∧Ka n₀ W1 W')∨(e=.returned (.bool false)∧Jx (pre++[x]) W'))
  (hG:∀ k,G k→k<n₀) (hn:n₀≤W.heap.size) (htr:aR G W (.slice At tr.length ct) tr) (hlk:aH G W 2 (bU G W) (.slice Al lk.length cl) lk) (hcap:Cap W bs bt bl bo vi At tr.length ct t Al lk.length cl own) (hj:J [] W) (hN:(acts own tr lk t).length≤N) (htl:tr.length≤1000000) (hll:lk.length≤1000000):
  CallsIn Fence.wide m Tryz.prog 198 #[.func (.yield l) #[] #[],.pointer (some ⟨bs,0,none⟩),.pointer (some ⟨bt,0,none⟩),.pointer (some ⟨bl,0,none⟩),.pointer (some ⟨bo,0,none⟩)] W fun e W'=>(∃ v,e=.returned v)∧((∃ ys,ys=acts own tr lk t∧J ys W')∨(∃ pre,pre <+: acts own tr lk t∧Jx pre W')):=by
 obtain ⟨HYY,HG,HTR,HLK,HCAP,HJ,HAB,HN⟩:=Zh8 hY hG htr hlk hcap hj hJ hN;clear hY hG htr hlk hcap hj hJ hN;obtain ⟨c1,c2,c3,c4⟩:=HCAP.out.cells;refine callsIn_of_wp Tryz.func198 rfl trivial ?_ rfl;simp only [Tryz.ntmps198,List.size_toArray,gG,gH,Nat.reduceAdd,Nat.reduceSub,Array.replicate_succ,Array.replicate_zero,List.push_toArray,List.append_toArray,List.nil_append,List.cons_append]
 gi_wp2
 clear c1 c2 c3 c4
 gi_loopw [15] (fun i wr=>∃ (k:Nat),k≤tr.length∧i=.int .i64 k∧J ((tr.take k).filterMap (acS t)) wr∧Ka n₀ W wr) (fun i _=>tr.length-(intOf i).toNat)
 case atStart=>exact ⟨0,gX _,rfl,HJ.out,Ka.refl _ _⟩
 case round=>
  obtain ⟨k,hk,rfl,hjr,hka⟩:=hrel;have HJR:=Ha hjr;have HKA:=Ha hka;clear hjr hka;obtain ⟨c1,c2,c3,c4⟩:=(HCAP.out.ka HKA.out).cells;by_cases hlt:k<tr.length
  ·obtain ⟨bb,off,rfl,hg,y0,y1⟩:=aR.at_ (show aR G wr (.slice At tr.length ct) tr from aH.keepG (fun _ h=>h) (fun k hk=>HKA.out.1.block k (HG.out k hk)) HTR.out fun _ _ h=>h) hlt;obtain ⟨⟨a,b⟩,hx⟩:∃ x,x=tr[k]:=⟨_,rfl⟩;rw [← hx] at y0 y1;have hnr:n₀≤wr.heap.size:=gP hn HKA.out.1.size;simp only at y0 y1;by_cases ha:a=t
   ·have HX:=Ha (show tr[k]=(t,b) from by rw [← hx,ha]);rw [ha] at y0;clear ha hx;have hb1:Below wr.heap.size wr (wr.alloc (.cells #[.int .i64 t,.int .i64 b] 102)):=(gR _ _).alloc (gO _) _;have q1:=aC wr (.cells #[.int .i64 t,.int .i64 b] 102);generalize hWI:wr.alloc (.cells #[.int .i64 t,.int .i64 b] 102)=wi at *;have HKI:=Ha (HKA.out.trans (.below hnr hb1));have HJI:=Ha (bV HAB.out HJR.out hb1);obtain ⟨s0,s1,_,_⟩:=aM q1 rfl;obtain ⟨c1,c2,c3,c4⟩:=(HCAP.out.ka HKI.out).cells;clear hb1 q1;by_cases ht0:0<t
    ·have hs:acS t tr[k]=some (1,b):=by rw [HX.out];unfold acS;rw [if_pos ⟨ht0,rfl⟩]
     have HPR:=Ha (KA (own:=own) (lk:=lk) hlt hs);have HST:=Ha (fS hlt hs);have hyy:=HYY.out _ (1,b) wi HJI.out (tL HPR.out HN.out);simp only [acv] at hyy;obtain ⟨fn,tmps,assign,body,hy,hR⟩:=hyy;clear hs
     gi_wp2
     refine ⟨fun h=>(by cases h), ?_⟩;refine hR.mono ?_;clear hR hy;rintro e w2 (⟨rfl,hj2,hk2⟩ | ⟨rfl,hx2⟩)
     ·have HK2:=Ha (HKI.out.trans hk2);have HJ2:=Ha (show J ((tr.take (k+1)).filterMap (acS t)) w2 from HST.out▸hj2);clear hj2 hk2
      gi_wp2
      go_roundw
      case rel=>exact ⟨k+1,hlt,by go_num,HJ2.out,HK2.out⟩
      case measure=>simp only [intOf];omega
     ·have HX2:=Ha hx2;clear hx2
      gi_wp2
      refine bodyPost_ret (v:=.tuple #[]) (by simp [results,Tryz.results198,go_sem]) rfl ?_;exact ⟨⟨_,rfl⟩,.inr ⟨_,HPR.out,HX2.out⟩⟩
    ·have HS:=Ha (fR hlt (show acS t tr[k]=none from by rw [HX.out];unfold acS;rw [if_neg fun h=>ht0 h.1]));have HS:=Ha HS.out.symm
     gi_wp2
     refine ⟨fun _ h=>(by cases h), ?_⟩
     gi_wp2
     go_roundw
     case rel=>exact ⟨k+1,hlt,by go_num,show J ((tr.take (k+1)).filterMap (acS t)) _ from HS.out▸HJI.out,HKI.out⟩
     case measure=>simp only [intOf];omega
   ·have hab:(a==t)=false:=by rw [gJ];exact ha
    have HS:=Ha (fR hlt (show acS t tr[k]=none from by rw [← hx];unfold acS;rw [if_neg fun h=>ha h.2])).symm;clear ha hx;have hb1:Below wr.heap.size wr (wr.alloc (.cells #[.int .i64 a,.int .i64 b] 102)):=(gR _ _).alloc (gO _) _;have q1:=aC wr (.cells #[.int .i64 a,.int .i64 b] 102);generalize hWI:wr.alloc (.cells #[.int .i64 a,.int .i64 b] 102)=wi at *;have HKI:=Ha (HKA.out.trans (.below hnr hb1));have HJI:=Ha (bV HAB.out HJR.out hb1);obtain ⟨s0,s1,_,_⟩:=aM q1 rfl;obtain ⟨c1,c2,c3,c4⟩:=(HCAP.out.ka HKI.out).cells;clear hb1 q1;by_cases ht0:0<t
    ·gi_wp2
     refine ⟨fun _ h=>(by cases h), ?_⟩
     gi_wp2
     go_roundw
     case rel=>exact ⟨k+1,hlt,by go_num,show J ((tr.take (k+1)).filterMap (acS t)) _ from HS.out▸HJI.out,HKI.out⟩
     case measure=>simp only [intOf];omega
    ·gi_wp2
     refine ⟨fun _ h=>(by cases h), ?_⟩
     gi_wp2
     go_roundw
     case rel=>exact ⟨k+1,hlt,by go_num,show J ((tr.take (k+1)).filterMap (acS t)) _ from HS.out▸HJI.out,HKI.out⟩
     case measure=>simp only [intOf];omega
  ·obtain rfl:k=tr.length:=by omega
   rw [List.take_length] at HJR
   gi_wp2
   clear c1 c2 c3 c4
   gi_loopw [38] (fun i wr=>∃ (k:Nat),k≤lk.length∧i=.int .i64 k∧J (tr.filterMap (acS t)++(lk.take k).filterMap (acA own t)) wr∧Ka n₀ W wr) (fun i _=>lk.length-(intOf i).toNat)
   case atStart=>exact ⟨0,gX _,rfl,by simpa using HJR.out,HKA.out⟩
   case round=>
    obtain ⟨k,hk,rfl,hjr,hka⟩:=hrel;have HJR:=Ha hjr;have HKA:=Ha hka;clear hjr hka;obtain ⟨c1,c2,c3,c4⟩:=(HCAP.out.ka HKA.out).cells;by_cases hlt:k<lk.length
    ·have hlk:aH G wr 2 (bU G wr) (.slice Al lk.length cl) lk:=aH.keepG (fun _ h=>h) (fun k hk=>HKA.out.1.block k (HG.out k hk)) HLK.out (bU.keepG fun k hk=>HKA.out.1.block k (HG.out k hk));obtain ⟨bb,off,Ak,ck,rfl,hg,y0,y1,hts⟩:=r3 hlk hlt;obtain ⟨⟨a,ts⟩,hx⟩:∃ x,x=lk[k]:=⟨_,rfl⟩;rw [← hx] at y0 y1 hts;have hnr:n₀≤wr.heap.size:=gP hn HKA.out.1.size;simp only at y0 y1 hts;clear hlk;by_cases ha:a=own
     ·have HX:=Ha (show lk[k]=(own,ts) from by rw [← hx,ha]);rw [ha] at y0;clear ha hx;have hb1:Below wr.heap.size wr (wr.alloc (.cells #[.int .i64 own,.slice Ak ts.length ck] 280)):=(gR _ _).alloc (gO _) _;have q1:=aC wr (.cells #[.int .i64 own,.slice Ak ts.length ck] 280);generalize hWI:wr.alloc (.cells #[.int .i64 own,.slice Ak ts.length ck] 280)=wi at *;have HKI:=Ha (HKA.out.trans (.below hnr hb1));have HJI:=Ha (bV HAB.out HJR.out hb1);obtain ⟨s0,s1,_,_⟩:=aM q1 rfl;obtain ⟨c1,c2,c3,c4⟩:=(HCAP.out.ka HKI.out).cells;have hti:aF G wi (.slice Ak ts.length ck) ts:=aH.keepG (fun _ h=>h) (fun k hk=>hb1.block k (gK (HG.out k hk) hnr)) hts fun _ _ h=>h;have HC:=Ha (GF G wi Ak ck ts t (fun k hk=>gK (HG.out k hk) (gP hnr hb1.size)) hti);have HQ:=Ha q1;clear hb1 q1 hti hts
      gi_wp2
      refine ⟨trivial,fun h=>(by cases h), ?_⟩;refine (callsIn_wide.2 HC.out).mono ?_;rintro e w1 ⟨rfl,hb2⟩;have HKW:=Ha (HKI.out.trans (.below (gP hn HKI.out.1.size) hb2));have HJW:=Ha (bV HAB.out HJI.out hb2);obtain ⟨s0,s1,_,_⟩:=aM ((hb2.block _ (gL HQ.out).1).trans HQ.out) rfl;clear hb2 HKI HJI c1 c2 c3 c4;obtain ⟨c1,c2,c3,c4⟩:=(HCAP.out.ka HKW.out).cells;by_cases hin:t∈ts
      ·have hs:acA own t lk[k]=some (3,0):=by rw [HX.out];unfold acA;rw [if_pos ⟨rfl,hin⟩]
       have HPR:=Ha (KB (tr:=tr) hlt hs);have HST:=Ha (show tr.filterMap (acS t)++(lk.take k).filterMap (acA own t)++[(3,0)]=tr.filterMap (acS t)++(lk.take (k+1)).filterMap (acA own t) from by rw [List.append_assoc,fS hlt hs]);rw [yD hin];have hyy:=HYY.out _ (3,0) w1 HJW.out (tL HPR.out HN.out);simp only [acv] at hyy;obtain ⟨fn,tmps,assign,body,hy,hR⟩:=hyy;have HKI:=HKW;clear hs hin
       gi_wp2
       refine ⟨fun h=>(by cases h), ?_⟩;refine hR.mono ?_;clear hR hy;rintro e w2 (⟨rfl,hj2,hk2⟩ | ⟨rfl,hx2⟩)
       ·have HK2:=Ha (HKI.out.trans hk2);have HJ2:=Ha (show J (tr.filterMap (acS t)++(lk.take (k+1)).filterMap (acA own t)) w2 from HST.out▸hj2);clear hj2 hk2
        gi_wp2
        go_roundw
        case rel=>exact ⟨k+1,hlt,by go_num,HJ2.out,HK2.out⟩
        case measure=>simp only [intOf];omega
       ·have HX2:=Ha hx2;clear hx2
        gi_wp2
        refine bodyPost_ret (v:=.tuple #[]) (by simp [results,Tryz.results198,go_sem]) rfl ?_;exact ⟨⟨_,rfl⟩,.inr ⟨_,HPR.out,HX2.out⟩⟩
      ·have HS:=Ha (fR hlt (show acA own t lk[k]=none from by rw [HX.out];unfold acA;rw [if_neg fun h=>hin h.2])).symm;rw [yE hin];have HKI:=HKW;have HJI:=HJW;clear hin
       gi_wp2
       refine ⟨fun _ h=>(by cases h), ?_⟩
       gi_wp2
       go_roundw
       case rel=>exact ⟨k+1,hlt,by go_num,show J (tr.filterMap (acS t)++(lk.take (k+1)).filterMap (acA own t)) _ from HS.out▸HJI.out,HKI.out⟩
       case measure=>simp only [intOf];omega
     ·have hab:(a==own)=false:=by rw [gJ];exact ha
      have HS:=Ha (fR hlt (show acA own t lk[k]=none from by rw [← hx];unfold acA;rw [if_neg fun h=>ha h.1])).symm;clear ha hx;have hb1:Below wr.heap.size wr (wr.alloc (.cells #[.int .i64 a,.slice Ak ts.length ck] 280)):=(gR _ _).alloc (gO _) _;have q1:=aC wr (.cells #[.int .i64 a,.slice Ak ts.length ck] 280);generalize hWI:wr.alloc (.cells #[.int .i64 a,.slice Ak ts.length ck] 280)=wi at *;have HKI:=Ha (HKA.out.trans (.below hnr hb1));have HJI:=Ha (bV HAB.out HJR.out hb1);obtain ⟨s0,s1,_,_⟩:=aM q1 rfl;obtain ⟨c1,c2,c3,c4⟩:=(HCAP.out.ka HKI.out).cells;clear hb1 q1 hts
      gi_wp2
      refine ⟨trivial, ?_⟩
      gi_wp2
      refine ⟨fun _ h=>(by cases h), ?_⟩
      gi_wp2
      go_roundw
      case rel=>exact ⟨k+1,hlt,by go_num,show J (tr.filterMap (acS t)++(lk.take (k+1)).filterMap (acA own t)) _ from HS.out▸HJI.out,HKI.out⟩
      case measure=>simp only [intOf];omega
    ·obtain rfl:k=lk.length:=by omega
     rw [List.take_length] at HJR
     gi_wp2
     clear c1 c2 c3 c4
     gi_loopw [61] (fun i wr=>∃ (k:Nat),k≤lk.length∧i=.int .i64 k∧J (tr.filterMap (acS t)++(lk.filterMap (acA own t)++(lk.take k).filterMap (acR own t))) wr∧Ka n₀ W wr) (fun i _=>lk.length-(intOf i).toNat)
     case atStart=>exact ⟨0,gX _,rfl,by simpa using HJR.out,HKA.out⟩
     case round=>
      obtain ⟨k,hk,rfl,hjr,hka⟩:=hrel;have HJR:=Ha hjr;have HKA:=Ha hka;clear hjr hka;obtain ⟨c1,c2,c3,c4⟩:=(HCAP.out.ka HKA.out).cells;by_cases hlt:k<lk.length
      ·have hlk:aH G wr 2 (bU G wr) (.slice Al lk.length cl) lk:=aH.keepG (fun _ h=>h) (fun k hk=>HKA.out.1.block k (HG.out k hk)) HLK.out (bU.keepG fun k hk=>HKA.out.1.block k (HG.out k hk));obtain ⟨bb,off,Ak,ck,rfl,hg,y0,y1,hts⟩:=r3 hlk hlt;obtain ⟨⟨a,ts⟩,hx⟩:∃ x,x=lk[k]:=⟨_,rfl⟩;rw [← hx] at y0 y1 hts;have hnr:n₀≤wr.heap.size:=gP hn HKA.out.1.size;simp only at y0 y1 hts;clear hlk;by_cases ha:a=own
       ·have HS:=Ha (fR hlt (show acR own t lk[k]=none from by rw [← hx];unfold acR;rw [if_neg fun h=>h.1 ha])).symm;rw [ha] at y0;clear ha hx;have hb1:Below wr.heap.size wr (wr.alloc (.cells #[.int .i64 own,.slice Ak ts.length ck] 280)):=(gR _ _).alloc (gO _) _;have q1:=aC wr (.cells #[.int .i64 own,.slice Ak ts.length ck] 280);generalize hWI:wr.alloc (.cells #[.int .i64 own,.slice Ak ts.length ck] 280)=wi at *;have HKI:=Ha (HKA.out.trans (.below hnr hb1));have HJI:=Ha (bV HAB.out HJR.out hb1);obtain ⟨s0,s1,_,_⟩:=aM q1 rfl;obtain ⟨c1,c2,c3,c4⟩:=(HCAP.out.ka HKI.out).cells;clear hb1 q1 hts
        gi_wp2
        refine ⟨trivial, ?_⟩
        gi_wp2
        refine ⟨fun _ h=>(by cases h), ?_⟩
        gi_wp2
        go_roundw
        case rel=>exact ⟨k+1,hlt,by go_num,show J (tr.filterMap (acS t)++(lk.filterMap (acA own t)++(lk.take (k+1)).filterMap (acR own t))) _ from HS.out▸HJI.out,HKI.out⟩
        case measure=>simp only [intOf];omega
       ·have HX:=Ha (show lk[k]=(a,ts) from by rw [← hx]);have hab:(a==own)=false:=by rw [gJ];exact ha
        have hab2:(a != own)=true:=by rw [bne,hab];rfl
        have HA:=Ha ha;clear ha hx;have hb1:Below wr.heap.size wr (wr.alloc (.cells #[.int .i64 a,.slice Ak ts.length ck] 280)):=(gR _ _).alloc (gO _) _;have q1:=aC wr (.cells #[.int .i64 a,.slice Ak ts.length ck] 280);generalize hWI:wr.alloc (.cells #[.int .i64 a,.slice Ak ts.length ck] 280)=wi at *;have HKI:=Ha (HKA.out.trans (.below hnr hb1));have HJI:=Ha (bV HAB.out HJR.out hb1);obtain ⟨s0,s1,_,_⟩:=aM q1 rfl;obtain ⟨c1,c2,c3,c4⟩:=(HCAP.out.ka HKI.out).cells;have hti:aF G wi (.slice Ak ts.length ck) ts:=aH.keepG (fun _ h=>h) (fun k hk=>hb1.block k (gK (HG.out k hk) hnr)) hts fun _ _ h=>h;have HC:=Ha (GF G wi Ak ck ts t (fun k hk=>gK (HG.out k hk) (gP hnr hb1.size)) hti);have HQ:=Ha q1;clear hb1 q1 hti hts
        gi_wp2
        refine ⟨trivial,fun h=>(by cases h), ?_⟩;refine (callsIn_wide.2 HC.out).mono ?_;rintro e w1 ⟨rfl,hb2⟩;have HKW:=Ha (HKI.out.trans (.below (gP hn HKI.out.1.size) hb2));have HJW:=Ha (bV HAB.out HJI.out hb2);obtain ⟨s0,s1,_,_⟩:=aM ((hb2.block _ (gL HQ.out).1).trans HQ.out) rfl;clear hb2 HKI HJI c1 c2 c3 c4;obtain ⟨c1,c2,c3,c4⟩:=(HCAP.out.ka HKW.out).cells;by_cases hin:t∈ts
        ·have hs:acR own t lk[k]=some (2,a):=by rw [HX.out];unfold acR;rw [if_pos ⟨HA.out,hin⟩]
         have HPR:=Ha (KC (tr:=tr) hlt hs);have HST:=Ha (show tr.filterMap (acS t)++(lk.filterMap (acA own t)++(lk.take k).filterMap (acR own t))++[(2,a)]=tr.filterMap (acS t)++(lk.filterMap (acA own t)++(lk.take (k+1)).filterMap (acR own t)) from by rw [List.append_assoc,List.append_assoc,fS hlt hs]);rw [yD hin];have hyy:=HYY.out _ (2,a) w1 HJW.out (tL HPR.out HN.out);simp only [acv] at hyy;obtain ⟨fn,tmps,assign,body,hy,hR⟩:=hyy;have HKI:=HKW;clear hs hin
         gi_wp2
         refine ⟨fun h=>(by cases h), ?_⟩;refine hR.mono ?_;clear hR hy;rintro e w2 (⟨rfl,hj2,hk2⟩ | ⟨rfl,hx2⟩)
         ·have HK2:=Ha (HKI.out.trans hk2);have HJ2:=Ha (show J (tr.filterMap (acS t)++(lk.filterMap (acA own t)++(lk.take (k+1)).filterMap (acR own t))) w2 from HST.out▸hj2);clear hj2 hk2
          gi_wp2
          go_roundw
          case rel=>exact ⟨k+1,hlt,by go_num,HJ2.out,HK2.out⟩
          case measure=>simp only [intOf];omega
         ·have HX2:=Ha hx2;clear hx2
          gi_wp2
          refine bodyPost_ret (v:=.tuple #[]) (by simp [results,Tryz.results198,go_sem]) rfl ?_;exact ⟨⟨_,rfl⟩,.inr ⟨_,HPR.out,HX2.out⟩⟩
        ·have HS:=Ha (fR hlt (show acR own t lk[k]=none from by rw [HX.out];unfold acR;rw [if_neg fun h=>hin h.2])).symm;rw [yE hin];have HKI:=HKW;have HJI:=HJW;clear hin
         gi_wp2
         refine ⟨fun _ h=>(by cases h), ?_⟩
         gi_wp2
         go_roundw
         case rel=>exact ⟨k+1,hlt,by go_num,show J (tr.filterMap (acS t)++(lk.filterMap (acA own t)++(lk.take (k+1)).filterMap (acR own t))) _ from HS.out▸HJI.out,HKI.out⟩
         case measure=>simp only [intOf];omega
      ·obtain rfl:k=lk.length:=by omega
       have HF:=Ha (show J (acts own tr lk t) wr from by unfold acts;have h:=HJR.out;rw [List.take_length] at h;exact h)
       gi_wp2
       go_end0
       exact ⟨⟨_,rfl⟩,.inl ⟨_,rfl,HF.out⟩⟩
end
section
attribute [local go_sem] Oper.semAt_some
theorem jB {w:World} {n:Nat} {cs:Array Value} {T:TypeId} (hn:n=w.heap.size):(w.alloc (.cells cs T)).heap[n]? = some (.cells cs T (0,0)):=by
 subst hn;exact aC w _
theorem xR (m n₀ bs bt bl bo:Nat) (G:Nat→Prop) (vi:Value) (At:Option Addr) (ct:Nat) (tr:List Itm) (t:Int) (Al:Option Addr) (cl:Nat) (lk:List (Int×List Int)) (own:Int) (w:World)
  (hG:∀ k,G k→k<n₀) (hn:n₀≤w.heap.size) (htr:aR G w (.slice At tr.length ct) tr) (hlk:aH G w 2 (bU G w) (.slice Al lk.length cl) lk) (hcap:Cap w bs bt bl bo vi At tr.length ct t Al lk.length cl own) (htl:tr.length≤1000000) (hll:lk.length≤1000000):
  SeqStopsK Fence.wide m Tryz.prog 198 #[.pointer (some ⟨bs,0,none⟩),.pointer (some ⟨bt,0,none⟩),.pointer (some ⟨bl,0,none⟩),.pointer (some ⟨bo,0,none⟩)] (fun x:Int×Int=>#[acv x]) (Ka n₀) (fun ys=>ys=acts own tr lk t) (fun pre=>pre <+: acts own tr lk t) (acts own tr lk t).length w:=fun l J Jx W hW hJ _ hY h0=>by
 have hk:∀ k,G k→W.heap[k]? = w.heap[k]? := fun k hk=>hW.block k (gK (hG k hk) hn);have hc:Cap W bs bt bl bo vi At tr.length ct t Al lk.length cl own:=hcap.ka (.below hn hW);exact FU m l n₀ _ bs bt bl bo J Jx G vi At ct tr t Al cl lk own W hJ hY hG (gP hn hW.size) (aH.keepG (fun _ h=>h) hk htr fun _ _ h=>h) (aH.keepG (fun _ h=>h) hk hlk (bU.keepG hk)) hc h0 (gO _) htl hll
theorem JS (w:World) (own t:Int) (Ai:Option Addr) (ni ci:Nat) (At:Option Addr) (nt ct:Nat) (Al:Option Addr) (nl cl:Nat):
  Calls Tryz.prog 122 #[.int .i64 own,.agg #[.slice Ai ni ci,.slice At nt ct],.slice Al nl cl,.int .i64 t] w fun e w'=>(e=.returned (.func (.func 198) #[] #[.pointer (some ⟨w.heap.size+1,0,none⟩),.pointer (some ⟨w.heap.size+3,0,none⟩),.pointer (some ⟨w.heap.size+2,0,none⟩),.pointer (some ⟨w.heap.size,0,none⟩)])∧Cap w' (w.heap.size+1) (w.heap.size+3) (w.heap.size+2) w.heap.size (.slice Ai ni ci) At nt ct t Al nl cl own)∧Below w.heap.size w w'∧w'.heap.size=w.heap.size+4:=by
 go_enter Tryz.func122,Tryz.ntmps122;go_wp2_with fail;go_ret;have q:∀ (W:World) (o:Obj) (k:Nat),k<W.heap.size→(W.alloc o).heap[k]? = W.heap[k]? := fun W o k hk=>Below.heap_alloc W o k hk;refine ⟨⟨rfl, ?_⟩, ?_,by simp⟩
 ·refine ⟨?_, ?_, ?_, ?_⟩
  ·rw [q _ _ _ (by simp),q _ _ _ (by simp)];exact jB (by simp)
  ·exact jB (by simp)
  ·rw [q _ _ _ (by simp)];exact jB (by simp)
  ·rw [q _ _ _ (by simp;omega),q _ _ _ (by simp;omega),q _ _ _ (by simp)];exact jB rfl
 ·exact ((((gR _ _).alloc (gO _) _).alloc (by simp) _).alloc (by simp;omega) _).alloc (by simp;omega) _
def acF (l:List (Int×Int)):List Value:=l.flatMap fun x=>[.int .i64 x.1,.int .i64 x.2]
theorem D8 (l:List (Int×Int)) (x:Int×Int):acF (l++[x])=acF l++[.int .i64 x.1,.int .i64 x.2]:=by unfold acF;simp
theorem BG:(Tryz.prog.info? 48).map (fun i=>(i.zero,i.size,i.bytes))=some (some (.agg #[.int .i64 0,.int .i64 0]),2,16):=by kernel_rfl
theorem Ka.appended {W w1:World} {n₀ B:Nat} {t e:TypeId} {size:Nat} {v v':Value} {k:Nat} {xs:List Value} {tmp:Obj} (ht:¬(t=3∨t=100∨t=213)) (he:¬(e=3∨e=100∨e=213))
  (hv:Boxed W B t v) (hrow:W.ownsRow n₀ e size v k xs) (hgrow:(W.alloc tmp).grownBy w1 v.ownBlock) (hb:Below n₀ W (w1.setCell ⟨B,0,none⟩ v')):Ka n₀ W (w1.setCell ⟨B,0,none⟩ v'):=by
 refine ⟨hb,fun j T vs hT hj=>?_⟩;have hjl:=(gL hj).1;have h1:(W.alloc tmp).heap[j]? = some (.cells vs T (0,0)):=(Below.heap_alloc W tmp j hjl).trans hj;have h2:w1.heap[j]? = some (.cells vs T (0,0)):=by
  refine (hgrow.block j (by rw [World.size_alloc];omega) ?_).trans h1;intro e';rcases hrow.2 with ⟨rfl,_⟩ | ⟨g,cap,cur,rfl,_,hgb,_⟩
  ·simp [Value.ownBlock] at e'
  ·obtain rfl:j=g:=by simpa [Value.ownBlock] using e'
   rw [hgb] at hj;cases hj;exact he hT
 refine (gU _ _ _ j ?_).trans h2;intro hjB;have hjB:j=B:=hjB;rw [hjB,show W.heap[B]? = _ from hv] at hj;cases hj;exact ht hT
theorem qY {w:World} {n₀:Nat} (hn:n₀≤w.heap.size) (W:World) (l:Nat) (o o':Obj) (hl:w.heap.size≤l) (h:W.heap[l]? = some o) (hc:o.isCells=false) (hw:o.isWalk=false):Below n₀ W (W.putObj l o'):=
 (gR n₀ W).grown (grownBy_putObj' W l o') (by have:=(gL h).1;omega) fun k e=>by cases e;omega
theorem J7 {n₀:Nat} {w:World} (hn:n₀≤w.heap.size) (W:World) (l:Nat) (o o':Obj) (hl:w.heap.size≤l) (h:W.heap[l]? = some o) (hc:o.isCells=false) (hw:o.isWalk=false):Ka n₀ W (W.putObj l o'):=by
 refine ⟨qY hn W l o o' hl h hc hw,fun j T vs _ hj=>?_⟩;refine (World.putObj_heap_other ?_).trans hj;rintro rfl;rw [hj] at h;cases h;cases hc
theorem o9 (w:World) (x y:Value) (T:TypeId):∀ j u,[x,y][j]? = some u→(w.alloc (.cells #[x,y] T)).cell? ((⟨w.heap.size,0,none⟩:Addr).add j)=some u:=by
 intro j u hj;have h:=aC w (.cells #[x,y] T)
 match j,hj with
 | 0,hj=>injection hj with hj;subst hj;exact aA h 0 _ rfl
 | 1,hj=>injection hj with hj;subst hj;exact aA h 1 _ rfl
theorem t6 {P:Program} {c:Code} {Q:Exit→Act→World→Prop} {a:Act} {w:World} (h:c.wp P (Exit.then (fun a w=>Q .normal a w) fun _ _ _=>False) a w):c.wp P Q a w:=wp_mono h fun e _ _ hq=>by
 cases e <;> first | exact hq | exact hq.elim
theorem JA (w:World) (G:Nat→Prop) (own t:Int) (bs os n c bl ol cb i:Nat) (Ai:Option Addr) (ni ci:Nat) (At:Option Addr) (ct:Nat) (tr:List Itm) (Al:Option Addr) (cl:Nat) (lk:List (Int×List Int)) (hi:i<n) (hG:∀ k,G k→k<w.heap.size)
  (z0:w.cell? ⟨bs,os+i*2,none⟩=some (.slice Ai ni ci)) (z1:w.cell? ⟨bs,os+i*2+1,none⟩=some (.slice At tr.length ct)) (zl:w.cell? ⟨bl,ol+i,none⟩=some (.slice Al lk.length cl)) (htr:aR G w (.slice At tr.length ct) tr) (hlk:aH G w 2 (bU G w) (.slice Al lk.length cl) lk) (htl:tr.length≤1000000) (hll:lk.length≤1000000):
  CallsIn Fence.wide 9 Tryz.prog 99 #[.agg #[.int .i64 own,.slice (some ⟨bs,os,none⟩) n c,.slice (some ⟨bl,ol,none⟩) n cb],.int .i64 i,.int .i64 t] w fun e W'=>∃ v,e=.returned v∧W'.ownsRow w.heap.size 48 2 v (acts own tr lk t).length (acF (acts own tr lk t))∧Below w.heap.size w W':=by
 have hlen:=qS own tr lk t;obtain ⟨i0,hi0,hz0,hz1,hz2⟩:=info_parts BG;obtain ⟨HTR,HLK,HG,HZ⟩:=Zh4 htr hlk hG (gS z0 (gS z1 zl));have hi2:(0:Int)≤(i:Int):=by omega
 have hi3:(i:Int)<(n:Int):=by omega
 clear htr hlk hG z0 z1 zl;have hb1:Below w.heap.size w (w.alloc (.cells #[.int .i64 own,.slice (some ⟨bs,os,none⟩) n c,.slice (some ⟨bl,ol,none⟩) n cb] 86)):=(gR _ _).alloc (gO _) _;have q1:=aC w (.cells #[.int .i64 own,.slice (some ⟨bs,os,none⟩) n c,.slice (some ⟨bl,ol,none⟩) n cb] 86);have hz1':(w.alloc (.cells #[.int .i64 own,.slice (some ⟨bs,os,none⟩) n c,.slice (some ⟨bl,ol,none⟩) n cb] 86)).heap.size=w.heap.size+1:=by simp
 generalize hW1:w.alloc (.cells #[.int .i64 own,.slice (some ⟨bs,os,none⟩) n c,.slice (some ⟨bl,ol,none⟩) n cb] 86)=w1 at *;have hb2:Below w1.heap.size w1 (w1.alloc (.cells #[.slice none 0 0] 165)):=(gR _ _).alloc (gO _) _;have q2:=aC w1 (.cells #[.slice none 0 0] 165);have hz2':(w1.alloc (.cells #[.slice none 0 0] 165)).heap.size=w1.heap.size+1:=by simp
 generalize hW2:w1.alloc (.cells #[.slice none 0 0] 165)=w2 at *;have hB2:Below w.heap.size w w2:=hb1.trans (hb2.mono hb1.size);have q12:=(hb2.block _ (gL q1).1).trans q1;have HS:=Ha (show ∀ X:World,Below w2.heap.size w2 X→X.cell? ⟨w.heap.size,0,none⟩=some (.int .i64 own)∧X.cell? ⟨w.heap.size,1,none⟩=some (.slice (some ⟨bs,os,none⟩) n c)∧X.cell? ⟨w.heap.size,2,none⟩=some (.slice (some ⟨bl,ol,none⟩) n cb)∧X.cell? ⟨bs,os+i*2,none⟩=some (.slice Ai ni ci)∧X.cell? ⟨bs,os+i*2+1,none⟩=some (.slice At tr.length ct)∧X.cell? ⟨bl,ol+i,none⟩=some (.slice Al lk.length cl) from
  fun X hX=>⟨aD (aA q12 0 _ rfl) hX,aD (aA q12 1 _ rfl) hX,aD (aA q12 2 _ rfl) hX,aD (aD HZ.out.1 hB2) hX,aD (aD HZ.out.2.1 hB2) hX,aD (aD HZ.out.2.2 hB2) hX⟩)
 obtain ⟨HB2,HQ2,HZZ,R0,HPO⟩:=Zh5 hB2 q2 (gS hz1' hz2') (show Below w2.heap.size w2 w2.drew from (gR _ _).drew) (JS w2.drew own t Ai ni ci At tr.length ct Al lk.length cl);clear hb1 q1 hz1' hb2 q2 hz2' hB2 q12;refine callsIn_of_wp_marks Tryz.func99 rfl trivial ?_ rfl;simp only [Tryz.ntmps99,List.size_toArray,gG,gH,Nat.reduceAdd,Nat.reduceSub,Array.replicate_succ,Array.replicate_zero,List.push_toArray,List.append_toArray,List.nil_append,List.cons_append]
 gi_wp2
 refine wpIn_wide.2 (t6 ?_);refine aE.start 14 (fun X=>X.cell? ⟨w.heap.size,0,none⟩=some (.int .i64 own)∧X.cell? ⟨w.heap.size,1,none⟩=some (.slice (some ⟨bs,os,none⟩) n c)∧X.cell? ⟨w.heap.size,2,none⟩=some (.slice (some ⟨bl,ol,none⟩) n cb)∧X.cell? ⟨bs,os+i*2,none⟩=some (.slice Ai ni ci)∧X.cell? ⟨bs,os+i*2+1,none⟩=some (.slice At tr.length ct)∧X.cell? ⟨bl,ol+i,none⟩=some (.slice Al lk.length cl)) (by kernel_rfl) ?hs_1 (fun hHeld=>?hr_1)
 case hs_1=>exact HS.out _ R0.out
 refine aE.tks [0,1,2,3,4,5,6,7,8,9,10,11,12] ?_ (by kernel_rfl) (by assumption)
 iterate 13
  refine aK.cons ?_ (by rfl) (by rfl) (by intro w h;(try dsimp only at h);simp only [gA,gB,gC];go_simp;try with_reducible rfl) (by exact fun _ _ _ h=>h);simp only [gA,gB,gC,Act.put,gD,gE,gF]
 show aE _ _ _ _ _ _ _ _ _ _;refine aE.one (i:=13) (by kernel_rfl) rfl fun K hK=>?_;simp only [gA,gB,gC]
 go_simp
 with_reducible refine Calls.mono HPO.out ?_
 rintro e w3 ⟨⟨rfl,hcap⟩,hb3,hz3⟩;dsimp only;obtain ⟨HCAP,HB3,HZ3⟩:=Zh3 hcap (show Below w2.heap.size w2 w3 from R0.out.trans hb3) (show w3.heap.size=w2.heap.size+4 from hz3);clear hcap hb3 hz3;refine hK.out _ _ ?_ (fun hHeld=>?_)
 ·exact HS.out _ HB3.out
 clear hK K;try simp only [Act.put,gD,gE,gF]
 refine aE.done (by kernel_rfl) ?_ _
 gi_wp2
 have hB3:Below w.heap.size w w3:=HB2.out.trans (HB3.out.mono HB2.out.size);have hs1:=HZZ.out.1;have hs2:=HZZ.out.2;have hs3:=HZ3.out;have hs4:w2.drew.heap.size=w2.heap.size:=rfl;have bO:Boxed w3 w1.heap.size 165 (.slice none 0 0):=(HB3.out.block _ (by omega)).trans HQ2.out;have hk3:∀ k,G k→w3.heap[k]? = w.heap[k]? := fun k hk=>hB3.block k (HG.out k hk);refine wpIn_rangeFunc_ownH rfl (by omega) (gf:=198) (lb:=#[.pointer (some ⟨w2.drew.heap.size+1,0,none⟩),.pointer (some ⟨w2.drew.heap.size+3,0,none⟩),.pointer (some ⟨w2.drew.heap.size+2,0,none⟩),.pointer (some ⟨w2.drew.heap.size,0,none⟩)]) rfl trivial (enters_of Tryz.func198 (by kernel_rfl) rfl)
  (xR 8 w.heap.size _ _ _ _ G _ At ct tr t Al cl lk own w3 HG.out hB3.size (aH.keepG (fun _ h=>h) hk3 HTR.out fun _ _ h=>h) (aH.keepG (fun _ h=>h) hk3 HLK.out (bU.keepG hk3)) HCAP.out htl hll)
  Ka.trans (J7 hB3.size) (gR _ _) (fun _=>rfl)
  (fun pre W=>(∃ v,Boxed W w1.heap.size 165 v∧W.ownsRow w.heap.size 48 2 v pre.length (acF pre)∧True)∧Below w.heap.size w W)
  (fun _ _ _=>False)
  (OwnFrom.and (Own.from (holdsRow_own w.heap.size w1.heap.size 165 48 2 (fun pre:List (Int×Int)=>pre.length) acF (fun _ _=>True)) _) (ownFrom_below (gO _) hB3.size))
  (fun _ _ _ _ _ hs _ _=>hs)
  ⟨⟨_,bO,World.ownsRow_nil _ _ _ _,trivial⟩,hB3⟩
  (fun x a' W=>∃ b,(∃ f:Nat→Value,a'=⟨#[(f 0),(f 1),(f 2),(f 3),(f 4),(f 5),(f 6),.pointer (some ⟨w1.heap.size,0,none⟩),.pointer (some ⟨b,0,none⟩),(f 9),(f 10),(f 11),(f 12),(f 13),(f 14),(f 15),(f 16),(f 17),(f 18),(f 19),(f 20),(f 21),(f 22),(f 23),(f 24),(f 25),(f 26),(f 27),(f 28)],[]⟩)∧W.heap[b]? = some (.cells #[.int .i64 x.1,.int .i64 x.2] 48 (0,0))) ?own ?assign ?body ?done ?stop
 case own=>
  rintro x a' s W W' row ⟨b,hf,hb⟩ hg hr;refine ⟨b,hf,(hg.block b (gL hb).1 fun e=>?_).trans hb⟩;obtain ⟨_,o,ho,hc⟩:=hr b e.symm;rw [hb] at ho;cases ho;cases hc
 case assign=>
  rintro l pre ⟨a,b⟩ W K hI hK;have hsz:=hB3.size;have hbW:=hI.2.size;clear hs1 hs2 hs3 hs4 hk3 bO;simp only [acv];have hb1:Below W.heap.size W (W.alloc (.cells #[.int .i64 a,.int .i64 b] 48)):=(gR _ _).alloc (gO _) _;have q1:=aC W (.cells #[.int .i64 a,.int .i64 b] 48);have HK2:=Ha fun a' h=>hK a' _ ((KeepsOthers.alloc W (.cells #[.int .i64 a,.int .i64 b] 48)).from _) (.below hbW hb1) ((OwnFrom.and (Own.from (holdsRow_own w.heap.size w1.heap.size 165 48 2 (fun pre:List (Int×Int)=>pre.length) acF (fun _ _=>True)) _) (ownFrom_below (gO _) hsz)).alloc _ hI) ⟨_,h,q1⟩;clear hK hI hb1 q1
  gi_wp2
  exact HK2.out _ (exf _ _ rfl)
 case body=>
  rintro l pre ⟨xa,xb⟩ a' W hl hlo ⟨⟨v,hv,hrow,_⟩,hB⟩ ⟨b,⟨f,rfl⟩,hb⟩ hlt;have hc:=hv.cell;obtain ⟨s0,s1,_,_⟩:=aM hb rfl;have hww:w.heap.size≤w1.heap.size:=by omega
  have hbs:=hB.size;clear hs1 hs2 hs3 hs4 hk3 bO
  gi_wp2_with (gi_at_builtin;refine wpListIn_append_own _ rfl _ _ 165 rfl w.heap.size 48 i0 (.agg #[.int .i64 0,.int .i64 0]) 2 16 Tryz.underlying165 hi0 hz0 hz1 hz2 rfl (by decide) _ _ _ rfl (hrow.alloc _) ⟨W.heap.size,0,none⟩ 1 1 [.int .i64 xa,.int .i64 xb] rfl rfl (o9 _ _ _ _) (by simp [Value.oneCell']) (by unfold maxLen;omega) (by omega) (by simp;omega) ?_;intro v' wz hown' hgrow _;obtain ⟨g',cap',rfl⟩:=ownsRow_succ hown';obtain ⟨hv1,hv2,hr2,hk2,hb2⟩:=hv.appended (by decide) hrow hbs hww hown' hgrow;have hka:=Ka.appended (by decide) (by decide) hv hrow hgrow hb2;have hc1:=hv1.cell;have hf1:=hv1.frozen)
  have ha:=D8 pre (xa,xb);simp only at ha;rw [← ha] at hr2;exact ⟨hk2.from _,hka,⟨_,hv2,by rw [gI,gZ];exact hr2⟩,hB.trans hb2⟩
 case done=>
  rintro D ys W hD rfl ⟨⟨v,hv,hrow,_⟩,hB⟩ hK;have hc:=hv.cell;have hsz:=hB3.size;clear hs1 hs2 hs3 hs4 hk3 bO
  gi_wp2
  refine ⟨by simp,.inl ⟨_,_,rfl,run_takeDeferred hK, ?_⟩⟩;exact ⟨_,results_tmp rfl _ _ _,v,rfl,ownsRow_putObj hrow _ hK rfl,hB.trans (qY (w:=w) (gO _) W D _ _ (by omega) hK rfl rfl)⟩
 case stop=>
  rintro D c pre W _ _ h _;exact h.elim
def yY (vs:List Value) (x:Int×Int):Prop:=vs=[.int .i64 x.1,.int .i64 x.2]
theorem qR:∀ l:List (Int×Int),cZ 2 yY (l.map fun x=>[.int .i64 x.1,.int .i64 x.2]) l
 | []=>trivial
 | _::l=>⟨⟨rfl,rfl⟩,qR l⟩
theorem J2 (w:World) (G:Nat→Prop) (own t:Int) (bs os n c bl ol cb i:Nat) (Ai:Option Addr) (ni ci:Nat) (At:Option Addr) (ct:Nat) (tr:List Itm) (Al:Option Addr) (cl:Nat) (lk:List (Int×List Int)) (hi:i<n) (hG:∀ k,G k→k<w.heap.size)
  (z0:w.cell? ⟨bs,os+i*2,none⟩=some (.slice Ai ni ci)) (z1:w.cell? ⟨bs,os+i*2+1,none⟩=some (.slice At tr.length ct)) (zl:w.cell? ⟨bl,ol+i,none⟩=some (.slice Al lk.length cl)) (htr:aR G w (.slice At tr.length ct) tr) (hlk:aH G w 2 (bU G w) (.slice Al lk.length cl) lk) (htl:tr.length≤1000000) (hll:lk.length≤1000000):
  Calls Tryz.prog 99 #[.agg #[.int .i64 own,.slice (some ⟨bs,os,none⟩) n c,.slice (some ⟨bl,ol,none⟩) n cb],.int .i64 i,.int .i64 t] w fun e W'=>(∃ v,e=.returned v∧aG w.heap.size 48 2 yY W' v (acts own tr lk t))∧Below w.heap.size w W':=
 (callsIn_wide.1 (JA w G own t bs os n c bl ol cb i Ai ni ci At ct tr Al cl lk hi hG z0 z1 zl htr hlk htl hll)).mono fun _ _ ⟨v,e,h,hb⟩=>⟨⟨v,e,_,qR _,by rw [← List.flatMap_def];exact h⟩,hb⟩
end
end Go.Proofs.YtpidmmfjcghmeaaGreat
