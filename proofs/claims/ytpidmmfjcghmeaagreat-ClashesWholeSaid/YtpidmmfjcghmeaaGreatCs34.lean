/- Towards clashesWhole_upto. -/
import Derived.Test.YtpidmmfjcghmeaaGreatCs33
import Derived.Deep.CutBlock
import Derived.WalkMore
import Derived.ScopeJumps
set_option maxRecDepth 100000
set_option maxHeartbeats 16000000
set_option linter.all false
namespace Go.Proofs.YtpidmmfjcghmeaaGreat
open Go.RowKit
theorem oB {l:Nat} {J J':Act→World→Prop} {Q:Exit→Act→World→Prop} (h:∀ a w,J a w→J' a w):∀ e a w,Exit.jump l J Q e a w→Exit.jump l J' Q e a w:=fun e a w hq=>by
 cases e with
 | goto l'=>exact ⟨hq.1,h _ _ hq.2⟩
 | _=>exact hq
theorem jO {P:Program} {a:Act} {w:World} {Q:Exit→Act→World→Prop} {c rest:Code} (l:Nat) (J:Act→World→Prop) (μ:Act→World→Nat) (hf:findLabel c l=some (Code.skip.seq rest))
  (pass:∀ a w,J a w→rest.wp P (Exit.jump l (fun a' w'=>J a' w'∧μ a' w'<μ a w) Q) a w) (first:(∀ a w,J a w→rest.wp P (Exit.jump l J Q) a w)→c.wp P (Exit.jump l J Q) a w):(Code.scope c).wp P Q a w:=
 wp_scope_jumps l J μ hf (first fun a w hJ=>wp_mono (pass a w hJ) (oB fun _ _ h=>h.1)) fun a w hJ=>wp_seq (wp_skip (pass a w hJ))
section
variable {w0:World} {G:Nat→Prop} {B bm bf:Nat} {A0 A1 A2:Option Addr} {c0 c1 c2:Nat} {g:Gm} {ks:List (List Itm)} {A:Option Addr} {c:Nat} {vr vt vu vc:Value} {Ab:Option Addr} {cb:Nat} {w w':World} {va ve:Value} {ps:List (Nat×Nat)} {es:List Edg} {FV:Nat→Value} {fl:Nat→List (Int×Nat)}
theorem Mx.setAt (h:Mx w0 G B bm bf A0 c0 A1 c1 A2 c2 g ks A c vr vt vu vc Ab cb w va ve ps es FV fl) {k:Nat} (hk:k<ps.length):∃ ba oa ca b bw X,va=.slice (some ⟨ba,oa,none⟩) ps.length ca∧TB 68 w ba∧w.cell? ⟨ba,oa+k,none⟩=some (.pointer (some ⟨b,0,none⟩))∧(b,bw)∈ps∧B≤bw∧BSet w b bw (g.terms.length+1) X:=by
 obtain ⟨Aa,ca,rfl,_⟩:=h.all.shape;have hl:=h.all.look (G:=TB 68 w) fun k hk=>(h.all.tb hk).2;obtain ⟨ba,oa,rfl,hT,hc⟩:=mI hl hk;obtain ⟨h1,X,h2⟩:=h.sets _ (gN hk);exact ⟨ba,oa,ca,_,_,X,rfl,hT,hc,gN hk,h1,h2⟩
theorem Mx.edgeAt (h:Mx w0 G B bm bf A0 c0 A1 c1 A2 c2 g ks A c vr vt vu vc Ab cb w va ve ps es FV fl) {k:Nat} (hk:k<es.length):∃ be oe ce sf,ve=.slice (some ⟨be,oe,none⟩) es.length ce∧TB 301 w be∧w.cell? ⟨be,oe+k*4,none⟩=some (.int .i64 (es[k].1:Int))∧w.cell? ⟨be,oe+k*4+1,none⟩=some (.int .i64 (es[k].2.1:Int))∧w.cell? ⟨be,oe+k*4+2,none⟩=some (CS es[k].2.2)∧w.cell? ⟨be,oe+k*4+3,none⟩=some (.bool sf):=by
 have hl:=h.edg.look (G:=TB 301 w) fun k hk=>(h.edg.tb hk).2;obtain ⟨A',c',e,_,_,h4⟩:=hl;obtain ⟨b,off,rfl,hg,h5⟩:=h4 (by omega);obtain ⟨vs,_,⟨sf,rfl⟩,h8⟩:=h5 k hk;exact ⟨b,off,c',sf,e,hg,by simpa using h8 0 _ rfl,h8 1 _ rfl,h8 2 _ rfl,h8 3 _ rfl⟩
theorem Mx.ss (h:Mx w0 G B bm bf A0 c0 A1 c1 A2 c2 g ks A c vr vt vu vc Ab cb w va ve ps es FV fl):Ss (g.terms.length+1) w ps:=fun p hp=>(h.sets p hp).2
theorem Mx.orStep (h:Mx w0 G B bm bf A0 c0 A1 c1 A2 c2 g ks A c vr vt vu vc Ab cb w va ve ps es FV fl) {b bw X Y:Nat} (hp:(b,bw)∈ps) (hset:BSet w b bw (g.terms.length+1) X) (hB:B≤bw) (hc:Chg (· = bw) w w') (h':BSet w' b bw (g.terms.length+1) (X ||| Y)):
  WCh (g.terms.length+1) (B ≤ ·) w w'∧aQ (g.terms.length+1) w' ps≤aQ (g.terms.length+1) w ps∧(X ||| Y≠X→aQ (g.terms.length+1) w' ps<aQ (g.terms.length+1) w ps):=by
 have h1:=WCh.one (K:=(B ≤ ·)) hset hc h' (cG _ _) hB;refine ⟨h1,dF h.ss h1,fun hne=>jJ h.ss h1 ⟨_,hp, ?_⟩⟩;simp only;rw [hset.wd,h'.wd];exact Nat.lt_of_le_of_ne (cG _ _) (Ne.symm hne)
end
theorem DJ (w0:World) (G:Nat→Prop) (B bm bf:Nat) (A0 c0 A1 c1 A2 c2) (g:Gm) (ks:List (List Itm)) (A:Option Addr) (c:Nat) (vr vt vu vc:Value) (Ab:Option Addr) (cb:Nat) (w:World) (va ve:Value) (ps:List (Nat×Nat)) (es:List Edg) (FV:Nat→Value) (fl:Nat→List (Int×Nat)) (h:Mx w0 G B bm bf A0 c0 A1 c1 A2 c2 g ks A c vr vt vu vc Ab cb w va ve ps es FV fl) (hn:g.terms.length+1≤64):
  Calls Tryz.prog 158 #[.pointer (some ⟨bm,0,none⟩)] w fun e w'=>e=.returned (.tuple #[])∧Mx w0 G B bm bf A0 c0 A1 c1 A2 c2 g ks A c vr vt vu vc Ab cb w' va ve ps es FV fl:=by
 have H:=Ha h;obtain ⟨Ae,ce,rfl,hel1,hel2⟩:=h.edg.shape;have hel:es.length≤9223372036854775807:=by
  unfold maxLen at hel2;omega
 clear h hel1 hel2;go_enter Tryz.func158,Tryz.ntmps158;go_wp2_with fail;refine jO 0 (fun a' w'=>(∃ u2 u4 u5 u6 u7 u8 u9 u10 u11 u12 u13 u14 u15 u16 u17 u18 u19 u20 u21 u22 u23 u24 u25 u26 u27 u28 u29 u30 u31 u32 u33 u34 u35 u36 u37 u38 u39 u40 u41 u42 u43 u44 u45 u46 u47 u48 u49 u50 u51 u52 u53 u54 u55 u56 u57 u58 u59 u60 u61:Value,a'=⟨#[.pointer (some ⟨bm,0,none⟩),undef,u2,undef,u4,u5,u6,u7,u8,u9,u10,u11,u12,u13,u14,u15,u16,u17,u18,u19,u20,u21,u22,u23,u24,u25,u26,u27,u28,u29,u30,u31,u32,u33,u34,u35,u36,u37,u38,u39,u40,u41,u42,u43,u44,u45,u46,u47,u48,u49,u50,u51,u52,u53,u54,u55,u56,u57,u58,u59,u60,u61],[]⟩)∧Mx w0 G B bm bf A0 c0 A1 c1 A2 c2 g ks A c vr vt vu vc Ab cb w' va (.slice Ae es.length ce) ps es FV fl) (fun _ w'=>aQ (g.terms.length+1) w' ps) rfl ?_ ?_
 ·rintro a' w1 ⟨⟨u2,u4,u5,u6,u7,u8,u9,u10,u11,u12,u13,u14,u15,u16,u17,u18,u19,u20,u21,u22,u23,u24,u25,u26,u27,u28,u29,u30,u31,u32,u33,u34,u35,u36,u37,u38,u39,u40,u41,u42,u43,u44,u45,u46,u47,u48,u49,u50,u51,u52,u53,u54,u55,u56,u57,u58,u59,u60,u61,rfl⟩,hm⟩;have HM:=Ha hm;have y11:=aA hm.box 11 _ rfl;clear hm H;go_wp2_with fail
  go_loopw [2,10] (fun mv iv wr=>∃ (j:Nat) (mo:Bool),j≤es.length∧iv=.int .i64 j∧mv=.bool mo∧Mx w0 G B bm bf A0 c0 A1 c1 A2 c2 g ks A c vr vt vu vc Ab cb wr va (.slice Ae es.length ce) ps es FV fl∧aQ (g.terms.length+1) wr ps≤aQ (g.terms.length+1) w1 ps∧(mo=true→aQ (g.terms.length+1) wr ps<aQ (g.terms.length+1) w1 ps)) (fun _ iv _=>es.length-(intOf iv).toNat)
  case atStart=>exact ⟨0,false,gX _,rfl,rfl,HM.out,gO _,fun h=>by cases h⟩
  case round=>
   obtain ⟨j,mo,hj,rfl,rfl,hm,hr1,hr2⟩:=hrel;have HMR:=Ha hm;have HR:=Ha (gS hr1 hr2);clear hm hr1 hr2 y11;by_cases hlt:j<es.length
   case neg=>
    obtain rfl:j=es.length:=by omega
    cases mo
    ·go_wp2_with fail;simp only [Exit.jump]
     go_end0
     exact ⟨rfl,HMR.out⟩
    ·go_wp2_with fail
     go_step3
     exact ⟨rfl,⟨⟨_,_,_,_,_,_,_,_,_,_,_,_,_,_,_,_,_,_,_,_,_,_,_,_,_,_,_,_,_,_,_,_,_,_,_,_,_,_,_,_,_,_,_,_,_,_,_,_,_,_,_,_,_,_,_,_,_,_,_,rfl⟩,HMR.out⟩,by have:=HR.out.2;simpa using this⟩
   case pos=>
    obtain ⟨be,oe,ce2,sf,hve,hTe,z0,z1,z2,z3⟩:=HMR.out.edgeAt hlt
    injection hve with hv1 _ hv2
    subst hv1 hv2;obtain ⟨hto,hat,_⟩:=HMR.out.eok _ (gN hlt);obtain ⟨tt,htt⟩:∃ tt,tt=es[j].1:=⟨_,rfl⟩;obtain ⟨at_,hat_⟩:∃ at_,at_=es[j].2.1:=⟨_,rfl⟩;obtain ⟨pp,hppe⟩:∃ pp,pp=es[j].2.2:=⟨_,rfl⟩;obtain ⟨pa,hpa⟩:∃ pa,CS pp=.pointer pa:=⟨_,rfl⟩;rw [← htt] at z0 hto;rw [← hat_] at z1 hat;rw [← hppe] at z2;rw [hpa] at z2;have HPA:=Ha hpa;have hb9:Below wr.heap.size wr (wr.alloc (.cells #[.int .i64 (tt:Int),.int .i64 (at_:Int),.pointer pa,.bool sf] 301)):=(gR _ _).alloc (gO _) _;have q9:=aC wr (.cells #[.int .i64 (tt:Int),.int .i64 (at_:Int),.pointer pa,.bool sf] 301);generalize hW9:wr.alloc (.cells #[.int .i64 (tt:Int),.int .i64 (at_:Int),.pointer pa,.bool sf] 301)=w9 at *;have hm9:=HMR.out.below hb9;have hpp:=(hm9.eok _ (gN hlt)).2.2;rw [← hppe] at hpp;obtain ⟨ba,oa,ca,bT,bwT,XT,hva,hTa,cT,hTm,hTB,hTs⟩:=hm9.setAt hto;obtain ⟨ba',oa',ca',bA,bwA,XA,hva',hTa',cA,hAm,hAB,hAs⟩:=hm9.setAt hat;rw [hva] at hva'
    injection hva' with h1 _ h2
    injection h1 with h1
    injection h1 with h1 h3
    subst h1 h2 h3;have hrm:aQ (g.terms.length+1) w9 ps=aQ (g.terms.length+1) wr ps:=eU HMR.out.ss hb9;have HS:=Ha (show ∀ X,WCh (g.terms.length+1) (B ≤ ·) w9 X→X.cell? ⟨bm,10,none⟩=some (.slice (some ⟨ba,oa,none⟩) ps.length ca)∧X.cell? ⟨wr.heap.size,0,none⟩=some (.int .i64 (tt:Int))∧X.cell? ⟨wr.heap.size,1,none⟩=some (.int .i64 (at_:Int))∧X.cell? ⟨wr.heap.size,2,none⟩=some (.pointer pa)∧X.cell? ⟨wr.heap.size,3,none⟩=some (.bool sf)∧X.cell? ⟨ba,oa+tt,none⟩=some (.pointer (some ⟨bT,0,none⟩))∧X.cell? ⟨ba,oa+at_,none⟩=some (.pointer (some ⟨bA,0,none⟩)) from
     fun X hX=>⟨hX.cell (aA hm9.box 10 _ (by rw [hva];rfl)) (TB.not_wb (T:=248) ⟨_,hm9.box⟩ (by decide)),hX.cell (aA q9 0 _ rfl) (TB.not_wb (T:=301) ⟨_,q9⟩ (by decide)),hX.cell (aA q9 1 _ rfl) (TB.not_wb (T:=301) ⟨_,q9⟩ (by decide)),hX.cell (aA q9 2 _ rfl) (TB.not_wb (T:=301) ⟨_,q9⟩ (by decide)),hX.cell (aA q9 3 _ rfl) (TB.not_wb (T:=301) ⟨_,q9⟩ (by decide)),hX.cell cT (hTa.not_wb (by decide)),hX.cell cA (hTa.not_wb (by decide))⟩)
    obtain ⟨HM9,HRM,HTS,HAS,HPP,W1,HNX⟩:=Zh7 hm9 hrm (gS hTm (gS hTB hTs)) hAs hpp (show WCh (g.terms.length+1) (B ≤ ·) w9 w9.drew from (WCh.refl _ _ _).drew) (pZ bA bwA (g.terms.length+1) XA 0 w9.drew (hAs.keep rfl rfl) (by omega));have ht0:(0:Int)≤(tt:Int):=by omega
    have ht1:(tt:Int)<(ps.length:Int):=by omega
    have ha0:(0:Int)≤(at_:Int):=by omega
    have ha1:(at_:Int)<(ps.length:Int):=by omega
    clear hpp htt hat_ hppe hpa hb9 q9 hm9 hva hTa hTa' cT cA hTm hTB hTs hAm hAB hAs hrm hTe;go_wp2_with fail
    go_region_held3 (fun X=>X.cell? ⟨bm,10,none⟩=some (.slice (some ⟨ba,oa,none⟩) ps.length ca)∧X.cell? ⟨wr.heap.size,0,none⟩=some (.int .i64 (tt:Int))∧X.cell? ⟨wr.heap.size,1,none⟩=some (.int .i64 (at_:Int))∧X.cell? ⟨wr.heap.size,2,none⟩=some (.pointer pa)∧X.cell? ⟨wr.heap.size,3,none⟩=some (.bool sf)∧X.cell? ⟨ba,oa+tt,none⟩=some (.pointer (some ⟨bT,0,none⟩))∧X.cell? ⟨ba,oa+at_,none⟩=some (.pointer (some ⟨bA,0,none⟩)))
     (exact HS.out _ W1.out)
     (first
      | (go_at_call 152
         with_reducible refine Calls.mono HNX.out ?_
         rintro e w10 ⟨rfl, rfl⟩;dsimp only))
    generalize (nxt XA (g.terms.length+1-0) 0)=z;have HMd:=Ha (HM9.out.below (gR w9.heap.size w9).drew);have HRd:=Ha (show aQ (g.terms.length+1) w9.drew ps=aQ (g.terms.length+1) wr ps from HRM.out);by_cases hz:z<0
    ·go_wp2_with fail
     go_roundw
     case rel=>exact ⟨j+1,mo,hlt,by go_num,rfl,HMd.out,by rw [HRd.out];exact HR.out.1,fun h=>by rw [HRd.out];exact HR.out.2 h⟩
     case measure=>simp only [intOf];omega
    ·go_upto_region 5 with fail
     go_cut [2] (fun v2 wx=>∃ mo2,v2=.bool mo2∧Mx w0 G B bm bf A0 c0 A1 c1 A2 c2 g ks A c vr vt vu vc Ab cb wx va (.slice (some ⟨be,oe,none⟩) es.length ce) ps es FV fl∧WCh (g.terms.length+1) (B ≤ ·) w9 wx∧aQ (g.terms.length+1) wx ps≤aQ (g.terms.length+1) w1 ps∧(mo2=true→aQ (g.terms.length+1) wx ps<aQ (g.terms.length+1) w1 ps))
     case first=>
      have W2:=Ha (show WCh (g.terms.length+1) (B ≤ ·) w9 w9.drew.drew from (WCh.refl _ _ _).drew.drew);have HM2:=Ha (HM9.out.below (gR w9.heap.size w9).drew.drew);have hTd:BSet w9.drew.drew bT bwT (g.terms.length+1) XT:=HTS.out.2.2.keep rfl rfl;have hRd:aQ (g.terms.length+1) w9.drew.drew ps=aQ (g.terms.length+1) wr ps:=HRM.out;have HTd:=Ha hTd;have HRd2:=Ha hRd;clear hTd hRd;cases pp with
      | none=>
       obtain rfl:pa=none:=by
        have h1:=HPA.out
        injection h1 with h1
        exact h1.symm
       have HOR:=Ha (FL bT bwT (g.terms.length+1) XT w9.drew.drew HTd.out);go_wp2_with fail;refine aE.start 14 (fun X=>X.cell? ⟨bm,10,none⟩=some (.slice (some ⟨ba,oa,none⟩) ps.length ca)∧X.cell? ⟨wr.heap.size,0,none⟩=some (.int .i64 (tt:Int))∧X.cell? ⟨wr.heap.size,1,none⟩=some (.int .i64 (at_:Int))∧X.cell? ⟨wr.heap.size,2,none⟩=some (.pointer none)∧X.cell? ⟨wr.heap.size,3,none⟩=some (.bool sf)∧X.cell? ⟨ba,oa+tt,none⟩=some (.pointer (some ⟨bT,0,none⟩))∧X.cell? ⟨ba,oa+at_,none⟩=some (.pointer (some ⟨bA,0,none⟩))) (by kernel_rfl) ?hs_1 (fun hHeld=>?hr_1)
       case hs_1=>exact HS.out _ W2.out
       refine aE.tks [0,1,2,3,4,5,6,7,8,9] ?_ (by kernel_rfl) (by assumption)
       iterate 10
        refine aK.cons ?_ (by rfl) (by rfl) (by intro w h;(try dsimp only at h);simp only [gA,gB,gC];go_simp;try with_reducible rfl) (by exact fun _ _ _ h=>h);simp only [gA,gB,gC,Act.put,gD,gE,gF]
       show aE _ _ _ _ _ _ _ _ _ _;refine aE.one (i:=10) (by kernel_rfl) rfl fun K hK=>?_;simp only [gA,gB,gC]
       go_simp
       with_reducible refine Calls.mono HOR.out ?_
       rintro e w12 ⟨rfl,hb12⟩;have HW:=Ha (show WCh (g.terms.length+1) (B ≤ ·) w9 w12 from W2.out.below hb12);have HF:=Ha (show Mx w0 G B bm bf A0 c0 A1 c1 A2 c2 g ks A c vr vt vu vc Ab cb w12 va (.slice (some ⟨be,oe,none⟩) es.length ce) ps es FV fl∧aQ (g.terms.length+1) w12 ps≤aQ (g.terms.length+1) w1 ps∧(mo=true→aQ (g.terms.length+1) w12 ps<aQ (g.terms.length+1) w1 ps) from by
        have h1:aQ (g.terms.length+1) w12 ps=aQ (g.terms.length+1) wr ps:=(eU HM2.out.ss hb12).trans HRd2.out;exact ⟨HM2.out.below hb12,by rw [h1];exact HR.out.1,fun h=>by rw [h1];exact HR.out.2 h⟩)
       clear hb12;dsimp only;refine hK.out _ _ ?_ (fun hHeld=>?_)
       ·exact HS.out _ HW.out
       clear hK K;try simp only [Act.put,gD,gE,gF]
       refine aE.tks [11] ?_ (by kernel_rfl) (by assumption)
       iterate 1
        refine aK.cons ?_ (by rfl) (by rfl) (by intro w h;(try dsimp only at h);simp only [gA,gB,gC];go_simp;try with_reducible rfl) (by exact fun _ _ _ h=>h);simp only [gA,gB,gC,Act.put,gD,gE,gF]
       show aE _ _ _ _ _ _ _ _ _ _;refine aE.tks [12] ?_ (by kernel_rfl) (by assumption)
       iterate 1
        refine aK.cons ?_ (by rfl) (by rfl) (by intro w h;(try dsimp only at h);simp only [gA,gB,gC];go_simp;try with_reducible rfl) (by exact fun _ _ _ h=>h);simp only [gA,gB,gC,Act.put,gD,gE,gF]
       show aE _ _ _ _ _ _ _ _ _ _;refine aE.tks [13] ?_ (by kernel_rfl) (by assumption)
       iterate 1
        refine aK.cons ?_ (by rfl) (by rfl) (by intro w h;(try dsimp only at h);simp only [gA,gB,gC];go_simp;try with_reducible rfl) (by exact fun _ _ _ h=>h);simp only [gA,gB,gC,Act.put,gD,gE,gF]
       show aE _ _ _ _ _ _ _ _ _ _;refine aE.last (by kernel_rfl) rfl fun K hK=>?_;simp only [gA,gB,gC]
       go_simp
       refine hK.out _ _ (aE.done (by kernel_rfl) ?_ _);go_wp2_with fail
       go_meet
       exact ⟨mo,rfl,HF.out.1,HW.out,HF.out.2.1,HF.out.2.2⟩
      | some q=>
       obtain rfl:pa=some ⟨q.1,0,none⟩:=by
        have h1:=HPA.out
        injection h1 with h1
        exact h1.symm
       obtain ⟨XQ,hQ⟩:=HPP.out q rfl;have hor:=p6 bT bwT (g.terms.length+1) XT q.1 q.2 XQ w9.drew.drew HTd.out (hQ.keep rfl rfl);by_cases hne:XT ||| XQ=XT
       ·rw [show decide (XT ||| XQ≠XT)=false from by simp [hne]] at hor;have HOR:=Ha hor;clear hor hQ;go_wp2_with fail;refine aE.start 14 (fun X=>X.cell? ⟨bm,10,none⟩=some (.slice (some ⟨ba,oa,none⟩) ps.length ca)∧X.cell? ⟨wr.heap.size,0,none⟩=some (.int .i64 (tt:Int))∧X.cell? ⟨wr.heap.size,1,none⟩=some (.int .i64 (at_:Int))∧X.cell? ⟨wr.heap.size,2,none⟩=some (.pointer (some ⟨q.1,0,none⟩))∧X.cell? ⟨wr.heap.size,3,none⟩=some (.bool sf)∧X.cell? ⟨ba,oa+tt,none⟩=some (.pointer (some ⟨bT,0,none⟩))∧X.cell? ⟨ba,oa+at_,none⟩=some (.pointer (some ⟨bA,0,none⟩))) (by kernel_rfl) ?hs_2 (fun hHeld=>?hr_2)
        case hs_2=>exact HS.out _ W2.out
        refine aE.tks [0,1,2,3,4,5,6,7,8,9] ?_ (by kernel_rfl) (by assumption)
        iterate 10
         refine aK.cons ?_ (by rfl) (by rfl) (by intro w h;(try dsimp only at h);simp only [gA,gB,gC];go_simp;try with_reducible rfl) (by exact fun _ _ _ h=>h);simp only [gA,gB,gC,Act.put,gD,gE,gF]
        show aE _ _ _ _ _ _ _ _ _ _;refine aE.one (i:=10) (by kernel_rfl) rfl fun K hK=>?_;simp only [gA,gB,gC]
        go_simp
        with_reducible refine Calls.mono HOR.out ?_
        rintro e w12 ⟨rfl,hs12,hc12⟩;have hos:=HM2.out.orStep HTS.out.1 HTd.out HTS.out.2.1 hc12 hs12;have HW:=Ha (show WCh (g.terms.length+1) (B ≤ ·) w9 w12 from W2.out.trans hos.1);have HF:=Ha (show Mx w0 G B bm bf A0 c0 A1 c1 A2 c2 g ks A c vr vt vu vc Ab cb w12 va (.slice (some ⟨be,oe,none⟩) es.length ce) ps es FV fl∧aQ (g.terms.length+1) w12 ps≤aQ (g.terms.length+1) w1 ps∧(mo=true→aQ (g.terms.length+1) w12 ps<aQ (g.terms.length+1) w1 ps) from by
         have h1:=hos.2.1;have h2:=HR.out.1;rw [HRd2.out] at h1;exact ⟨HM2.out.wch hos.1,by omega,fun h=>by have:=HR.out.2 h;omega⟩)
        clear hs12 hc12 hos;dsimp only;refine hK.out _ _ ?_ (fun hHeld=>?_)
        ·exact HS.out _ HW.out
        clear hK K;try simp only [Act.put,gD,gE,gF]
        refine aE.tks [11] ?_ (by kernel_rfl) (by assumption)
        iterate 1
         refine aK.cons ?_ (by rfl) (by rfl) (by intro w h;(try dsimp only at h);simp only [gA,gB,gC];go_simp;try with_reducible rfl) (by exact fun _ _ _ h=>h);simp only [gA,gB,gC,Act.put,gD,gE,gF]
        show aE _ _ _ _ _ _ _ _ _ _;refine aE.tks [12] ?_ (by kernel_rfl) (by assumption)
        iterate 1
         refine aK.cons ?_ (by rfl) (by rfl) (by intro w h;(try dsimp only at h);simp only [gA,gB,gC];go_simp;try with_reducible rfl) (by exact fun _ _ _ h=>h);simp only [gA,gB,gC,Act.put,gD,gE,gF]
        show aE _ _ _ _ _ _ _ _ _ _;refine aE.tks [13] ?_ (by kernel_rfl) (by assumption)
        iterate 1
         refine aK.cons ?_ (by rfl) (by rfl) (by intro w h;(try dsimp only at h);simp only [gA,gB,gC];go_simp;try with_reducible rfl) (by exact fun _ _ _ h=>h);simp only [gA,gB,gC,Act.put,gD,gE,gF]
        show aE _ _ _ _ _ _ _ _ _ _;refine aE.last (by kernel_rfl) rfl fun K hK=>?_;simp only [gA,gB,gC]
        go_simp
        refine hK.out _ _ (aE.done (by kernel_rfl) ?_ _);go_wp2_with fail
        go_meet
        exact ⟨mo,rfl,HF.out.1,HW.out,HF.out.2.1,HF.out.2.2⟩
       ·rw [show decide (XT ||| XQ≠XT)=true from by simp [hne]] at hor;have HOR:=Ha hor;clear hor hQ;go_wp2_with fail;refine aE.start 14 (fun X=>X.cell? ⟨bm,10,none⟩=some (.slice (some ⟨ba,oa,none⟩) ps.length ca)∧X.cell? ⟨wr.heap.size,0,none⟩=some (.int .i64 (tt:Int))∧X.cell? ⟨wr.heap.size,1,none⟩=some (.int .i64 (at_:Int))∧X.cell? ⟨wr.heap.size,2,none⟩=some (.pointer (some ⟨q.1,0,none⟩))∧X.cell? ⟨wr.heap.size,3,none⟩=some (.bool sf)∧X.cell? ⟨ba,oa+tt,none⟩=some (.pointer (some ⟨bT,0,none⟩))∧X.cell? ⟨ba,oa+at_,none⟩=some (.pointer (some ⟨bA,0,none⟩))) (by kernel_rfl) ?hs_3 (fun hHeld=>?hr_3)
        case hs_3=>exact HS.out _ W2.out
        refine aE.tks [0,1,2,3,4,5,6,7,8,9] ?_ (by kernel_rfl) (by assumption)
        iterate 10
         refine aK.cons ?_ (by rfl) (by rfl) (by intro w h;(try dsimp only at h);simp only [gA,gB,gC];go_simp;try with_reducible rfl) (by exact fun _ _ _ h=>h);simp only [gA,gB,gC,Act.put,gD,gE,gF]
        show aE _ _ _ _ _ _ _ _ _ _;refine aE.one (i:=10) (by kernel_rfl) rfl fun K hK=>?_;simp only [gA,gB,gC]
        go_simp
        with_reducible refine Calls.mono HOR.out ?_
        rintro e w12 ⟨rfl,hs12,hc12⟩;have hos:=HM2.out.orStep HTS.out.1 HTd.out HTS.out.2.1 hc12 hs12;have HW:=Ha (show WCh (g.terms.length+1) (B ≤ ·) w9 w12 from W2.out.trans hos.1);have HF:=Ha (show Mx w0 G B bm bf A0 c0 A1 c1 A2 c2 g ks A c vr vt vu vc Ab cb w12 va (.slice (some ⟨be,oe,none⟩) es.length ce) ps es FV fl∧aQ (g.terms.length+1) w12 ps≤aQ (g.terms.length+1) w1 ps∧(true=true→aQ (g.terms.length+1) w12 ps<aQ (g.terms.length+1) w1 ps) from by
         have h1:=hos.2.2 hne;have h2:=HR.out.1;rw [HRd2.out] at h1;exact ⟨HM2.out.wch hos.1,by omega,fun _=>by omega⟩)
        clear hs12 hc12 hos;dsimp only;refine hK.out _ _ ?_ (fun hHeld=>?_)
        ·exact HS.out _ HW.out
        clear hK K;try simp only [Act.put,gD,gE,gF]
        refine aE.tks [11] ?_ (by kernel_rfl) (by assumption)
        iterate 1
         refine aK.cons ?_ (by rfl) (by rfl) (by intro w h;(try dsimp only at h);simp only [gA,gB,gC];go_simp;try with_reducible rfl) (by exact fun _ _ _ h=>h);simp only [gA,gB,gC,Act.put,gD,gE,gF]
        show aE _ _ _ _ _ _ _ _ _ _;refine aE.take (i:=12) (oi:=_) (v:=undef) rfl (by kernel_rfl) (by kernel_rfl) (by kernel_rfl) (by kernel_rfl) (fun _ _ _ h=>h) (Or.inr ⟨by rfl,rfl⟩) (by assumption) ?_;simp only [gA,gB,gC,Act.put,gD,gE,gF];refine aE.tks [13] ?_ (by kernel_rfl) (by assumption)
        iterate 1
         refine aK.cons ?_ (by rfl) (by rfl) (by intro w h;(try dsimp only at h);simp only [gA,gB,gC];go_simp;try with_reducible rfl) (by exact fun _ _ _ h=>h);simp only [gA,gB,gC,Act.put,gD,gE,gF]
        show aE _ _ _ _ _ _ _ _ _ _;refine aE.last (by kernel_rfl) rfl fun K hK=>?_;simp only [gA,gB,gC]
        go_simp
        refine hK.out _ _ (aE.done (by kernel_rfl) ?_ _);go_wp2_with fail
        go_meet
        exact ⟨true,rfl,HF.out.1,HW.out,HF.out.2.1,fun _=>HF.out.2.2 (by trivial)⟩
     case rest=>
      obtain ⟨mo2,rfl,hm2,hw2,hr3,hr4⟩:=hcut;have hs3:=HS.out _ hw2;have y3:=hs3.2.2.2.2.1;obtain ⟨HM2,HW2,HR2⟩:=Zh3 hm2 hw2 (gS hr3 hr4);clear hm2 hw2 hr3 hr4 hs3 z0 z1 z2 z3;cases sf
      case false=>
       go_wp2_with fail
       go_roundw
       case rel=>exact ⟨j+1,mo2,hlt,by go_num,rfl,HM2.out,HR2.out.1,HR2.out.2⟩
       case measure=>simp only [intOf];omega
      case true=>
       obtain ⟨XT2,_,hT2⟩:=HW2.out.gro _ _ _ HTS.out.2.2;obtain ⟨XA2,_,hA2⟩:=HW2.out.gro _ _ _ HAS.out;have hTd:BSet wc.drew bT bwT (g.terms.length+1) XT2:=hT2.keep rfl rfl;have hor:=p6 bT bwT (g.terms.length+1) XT2 bA bwA XA2 wc.drew hTd (hA2.keep rfl rfl);have W2:=Ha (show WCh (g.terms.length+1) (B ≤ ·) w9 wc.drew from HW2.out.drew);have HMd2:=Ha (HM2.out.below (gR wc.heap.size wc).drew);have hRd:aQ (g.terms.length+1) wc.drew ps=aQ (g.terms.length+1) wc ps:=rfl;have HTd:=Ha hTd;have HRd2:=Ha hRd;clear hTd hRd hT2 hA2;by_cases hne:XT2 ||| XA2=XT2
       ·rw [show decide (XT2 ||| XA2≠XT2)=false from by simp [hne]] at hor;have HOR:=Ha hor;clear hor;go_wp2_with fail;refine aE.start 20 (fun X=>X.cell? ⟨bm,10,none⟩=some (.slice (some ⟨ba,oa,none⟩) ps.length ca)∧X.cell? ⟨wr.heap.size,0,none⟩=some (.int .i64 (tt:Int))∧X.cell? ⟨wr.heap.size,1,none⟩=some (.int .i64 (at_:Int))∧X.cell? ⟨wr.heap.size,2,none⟩=some (.pointer pa)∧X.cell? ⟨wr.heap.size,3,none⟩=some (.bool true)∧X.cell? ⟨ba,oa+tt,none⟩=some (.pointer (some ⟨bT,0,none⟩))∧X.cell? ⟨ba,oa+at_,none⟩=some (.pointer (some ⟨bA,0,none⟩))) (by kernel_rfl) ?hs_4 (fun hHeld=>?hr_4)
        case hs_4=>exact HS.out _ W2.out
        refine aE.tks [0,1,2,3,4,5,6,7,8,9,10,11,12,13,14,15] ?_ (by kernel_rfl) (by assumption)
        iterate 16
         refine aK.cons ?_ (by rfl) (by rfl) (by intro w h;(try dsimp only at h);simp only [gA,gB,gC];go_simp;try with_reducible rfl) (by exact fun _ _ _ h=>h);simp only [gA,gB,gC,Act.put,gD,gE,gF]
        show aE _ _ _ _ _ _ _ _ _ _;refine aE.one (i:=16) (by kernel_rfl) rfl fun K hK=>?_;simp only [gA,gB,gC]
        go_simp
        with_reducible refine Calls.mono HOR.out ?_
        rintro e w12 ⟨rfl,hs12,hc12⟩;have hos:=HMd2.out.orStep HTS.out.1 HTd.out HTS.out.2.1 hc12 hs12;have HW:=Ha (show WCh (g.terms.length+1) (B ≤ ·) w9 w12 from W2.out.trans hos.1);have HF:=Ha (show Mx w0 G B bm bf A0 c0 A1 c1 A2 c2 g ks A c vr vt vu vc Ab cb w12 va (.slice (some ⟨be,oe,none⟩) es.length ce) ps es FV fl∧aQ (g.terms.length+1) w12 ps≤aQ (g.terms.length+1) w1 ps∧(mo2=true→aQ (g.terms.length+1) w12 ps<aQ (g.terms.length+1) w1 ps) from by
         have h1:=hos.2.1;have h2:=HR2.out.1;rw [HRd2.out] at h1;exact ⟨HMd2.out.wch hos.1,by omega,fun h=>by have:=HR2.out.2 h;omega⟩)
        clear hs12 hc12 hos;dsimp only;refine hK.out _ _ ?_ (fun hHeld=>?_)
        ·exact HS.out _ HW.out
        clear hK K;try simp only [Act.put,gD,gE,gF]
        refine aE.tks [17] ?_ (by kernel_rfl) (by assumption)
        iterate 1
         refine aK.cons ?_ (by rfl) (by rfl) (by intro w h;(try dsimp only at h);simp only [gA,gB,gC];go_simp;try with_reducible rfl) (by exact fun _ _ _ h=>h);simp only [gA,gB,gC,Act.put,gD,gE,gF]
        show aE _ _ _ _ _ _ _ _ _ _;refine aE.tks [18] ?_ (by kernel_rfl) (by assumption)
        iterate 1
         refine aK.cons ?_ (by rfl) (by rfl) (by intro w h;(try dsimp only at h);simp only [gA,gB,gC];go_simp;try with_reducible rfl) (by exact fun _ _ _ h=>h);simp only [gA,gB,gC,Act.put,gD,gE,gF]
        show aE _ _ _ _ _ _ _ _ _ _;refine aE.tks [19] ?_ (by kernel_rfl) (by assumption)
        iterate 1
         refine aK.cons ?_ (by rfl) (by rfl) (by intro w h;(try dsimp only at h);simp only [gA,gB,gC];go_simp;try with_reducible rfl) (by exact fun _ _ _ h=>h);simp only [gA,gB,gC,Act.put,gD,gE,gF]
        show aE _ _ _ _ _ _ _ _ _ _;refine aE.last (by kernel_rfl) rfl fun K hK=>?_;simp only [gA,gB,gC]
        go_simp
        refine hK.out _ _ (aE.done (by kernel_rfl) ?_ _);go_wp2_with fail
        go_roundw
        case rel=>exact ⟨j+1,mo2,hlt,by go_num,rfl,HF.out.1,HF.out.2.1,HF.out.2.2⟩
        case measure=>simp only [intOf];omega
       ·rw [show decide (XT2 ||| XA2≠XT2)=true from by simp [hne]] at hor;have HOR:=Ha hor;clear hor;go_wp2_with fail;refine aE.start 20 (fun X=>X.cell? ⟨bm,10,none⟩=some (.slice (some ⟨ba,oa,none⟩) ps.length ca)∧X.cell? ⟨wr.heap.size,0,none⟩=some (.int .i64 (tt:Int))∧X.cell? ⟨wr.heap.size,1,none⟩=some (.int .i64 (at_:Int))∧X.cell? ⟨wr.heap.size,2,none⟩=some (.pointer pa)∧X.cell? ⟨wr.heap.size,3,none⟩=some (.bool true)∧X.cell? ⟨ba,oa+tt,none⟩=some (.pointer (some ⟨bT,0,none⟩))∧X.cell? ⟨ba,oa+at_,none⟩=some (.pointer (some ⟨bA,0,none⟩))) (by kernel_rfl) ?hs_5 (fun hHeld=>?hr_5)
        case hs_5=>exact HS.out _ W2.out
        refine aE.tks [0,1,2,3,4,5,6,7,8,9,10,11,12,13,14,15] ?_ (by kernel_rfl) (by assumption)
        iterate 16
         refine aK.cons ?_ (by rfl) (by rfl) (by intro w h;(try dsimp only at h);simp only [gA,gB,gC];go_simp;try with_reducible rfl) (by exact fun _ _ _ h=>h);simp only [gA,gB,gC,Act.put,gD,gE,gF]
        show aE _ _ _ _ _ _ _ _ _ _;refine aE.one (i:=16) (by kernel_rfl) rfl fun K hK=>?_;simp only [gA,gB,gC]
        go_simp
        with_reducible refine Calls.mono HOR.out ?_
        rintro e w12 ⟨rfl,hs12,hc12⟩;have hos:=HMd2.out.orStep HTS.out.1 HTd.out HTS.out.2.1 hc12 hs12;have HW:=Ha (show WCh (g.terms.length+1) (B ≤ ·) w9 w12 from W2.out.trans hos.1);have HF:=Ha (show Mx w0 G B bm bf A0 c0 A1 c1 A2 c2 g ks A c vr vt vu vc Ab cb w12 va (.slice (some ⟨be,oe,none⟩) es.length ce) ps es FV fl∧aQ (g.terms.length+1) w12 ps≤aQ (g.terms.length+1) w1 ps∧(true=true→aQ (g.terms.length+1) w12 ps<aQ (g.terms.length+1) w1 ps) from by
         have h1:=hos.2.2 hne;have h2:=HR2.out.1;rw [HRd2.out] at h1;exact ⟨HMd2.out.wch hos.1,by omega,fun _=>by omega⟩)
        clear hs12 hc12 hos;dsimp only;refine hK.out _ _ ?_ (fun hHeld=>?_)
        ·exact HS.out _ HW.out
        clear hK K;try simp only [Act.put,gD,gE,gF]
        refine aE.tks [17] ?_ (by kernel_rfl) (by assumption)
        iterate 1
         refine aK.cons ?_ (by rfl) (by rfl) (by intro w h;(try dsimp only at h);simp only [gA,gB,gC];go_simp;try with_reducible rfl) (by exact fun _ _ _ h=>h);simp only [gA,gB,gC,Act.put,gD,gE,gF]
        show aE _ _ _ _ _ _ _ _ _ _;refine aE.take (i:=18) (oi:=_) (v:=undef) rfl (by kernel_rfl) (by kernel_rfl) (by kernel_rfl) (by kernel_rfl) (fun _ _ _ h=>h) (Or.inr ⟨by rfl,rfl⟩) (by assumption) ?_;simp only [gA,gB,gC,Act.put,gD,gE,gF];refine aE.tks [19] ?_ (by kernel_rfl) (by assumption)
        iterate 1
         refine aK.cons ?_ (by rfl) (by rfl) (by intro w h;(try dsimp only at h);simp only [gA,gB,gC];go_simp;try with_reducible rfl) (by exact fun _ _ _ h=>h);simp only [gA,gB,gC,Act.put,gD,gE,gF]
        show aE _ _ _ _ _ _ _ _ _ _;refine aE.last (by kernel_rfl) rfl fun K hK=>?_;simp only [gA,gB,gC]
        go_simp
        refine hK.out _ _ (aE.done (by kernel_rfl) ?_ _);go_wp2_with fail
        go_roundw
        case rel=>exact ⟨j+1,true,hlt,by go_num,rfl,HF.out.1,HF.out.2.1,fun _=>HF.out.2.2 (by trivial)⟩
        case measure=>simp only [intOf];omega
 ·intro hp;go_wp2_with fail
  go_step3
  rename_i hK;exact hK _ _ (hp _ _ ⟨⟨_,_,_,_,_,_,_,_,_,_,_,_,_,_,_,_,_,_,_,_,_,_,_,_,_,_,_,_,_,_,_,_,_,_,_,_,_,_,_,_,_,_,_,_,_,_,_,_,_,_,_,_,_,_,_,_,_,_,_,rfl⟩,H.out⟩)
section
attribute [local go_sem ↓] aI
theorem aG.mono {β:Type} {B:Nat} {T:TypeId} {sz:Nat} {R R':List Value→β→Prop} {w:World} {v:Value} {xs:List β} (h:aG B T sz R w v xs) (hR:∀ vs x,R vs x→R' vs x):aG B T sz R' w v xs:=by
 obtain ⟨us,h1,h2⟩:=h;exact ⟨us,nC.mono (fun _ _ h=>⟨h.1,hR _ _ h.2⟩) h1,h2⟩
def bU (G:Nat→Prop) (w:World) (vs:List Value) (x:Int×List Int):Prop:=∃ t,vs=[.int .i64 x.1,t]∧aF G w t x.2
theorem bU.one {G:Nat→Prop} {w:World}:∀ (vs:List Value) (x:Int×List Int),bU G w vs x→∀ u∈vs,u.oneCell'=true:=by
 rintro vs x ⟨t,rfl,h⟩ u hu;obtain ⟨A,c,rfl,_⟩:=aH.shape h;simp at hu;rcases hu with rfl | rfl <;> rfl
theorem bU.keep {w w':World} (hk:∀ k,TB 3 w k→w'.heap[k]? = w.heap[k]?):∀ (vs:List Value) (x:Int×List Int),bU (TB 3 w) w vs x→bU (TB 3 w') w' vs x:=by
 rintro vs x ⟨t,rfl,h⟩;exact ⟨t,rfl,aH.keepT h hk⟩
theorem BQ:(Tryz.prog.info? 280).map (fun i=>(i.zero,i.size,i.bytes))=some (some (.agg #[.int .i64 0,.slice none 0 0]),2,32):=by kernel_rfl
def wC (w:World) (e:Ending) (w':World):Prop:=(∃ v l,e=.returned v∧aG w.heap.size 280 2 (bU (TB 3 w') w') w' v l∧l.length≤301)∧Below w.heap.size w w'
def FB (n:Nat) (f:Int→Option Int):Prop:=∀ x v,f x=some v→0≤v∧v<n
theorem FB.put {n:Nat} {f:Int→Option Int} (h:FB n f) {x v:Int} (hv:0≤v∧v<n):FB n (eK f x v):=fun y u hy=>by
 unfold eK at hy;by_cases e:y=x
 ·rw [if_pos e] at hy
  injection hy with hy
  subst hy;exact hv
 ·rw [if_neg e] at hy;exact h y u hy
theorem E5 (w0:World) (G:Nat→Prop) (B bm bf:Nat) (A0 c0 A1 c1 A2 c2) (g:Gm) (ks:List (List Itm)) (A:Option Addr) (c:Nat) (vr vt vu vc:Value) (Ab:Option Addr) (cb:Nat) (w:World) (va ve:Value) (ps:List (Nat×Nat)) (es:List Edg) (FV:Nat→Value) (fl:Nat→List (Int×Nat)) (i:Nat) (h:Mx w0 G B bm bf A0 c0 A1 c1 A2 c2 g ks A c vr vt vu vc Ab cb w va ve ps es FV fl) (hi:i<ks.length) (hlr:g.rules.length≤300) (hkl:ks[i].length≤1000000) (hok:∀ x∈ks[i],g.Ok x) (hps:ps.length≤1000000000000) (hfl:(fl i).length≤ps.length) (hn:g.terms.length+1≤64):
  Calls Tryz.prog 159 #[.pointer (some ⟨bm,0,none⟩),.int .i64 i] w fun e w'=>wC w e w':=by
 have hmm:=@run_makeMap Tryz.prog;have hmade:=MG.made (κ:=Int) (kT:=3) (eT:=3) (kl:=Lit.int .i64) (el:=Lit.int .i64) (z0:=0) w;have hb1:Below w.heap.size w (w.alloc (.map #[] 0)):=(gR _ _).alloc (gO _) _;generalize hW1:w.alloc (.map #[] 0)=w1 at *;have HM:=Ha h;obtain ⟨bb,off,Ai,ci,At,ct,hA,hgb,z0,_,hit,_⟩:=h.mb.dat.sts.at_ hi;have y4:=h.mb.m4;rw [hA] at y4;have y4:=aD y4 hb1;have z0:=aD z0 hb1;obtain ⟨l,hl⟩:∃ l,l=ks[i]:=⟨_,rfl⟩;have HIT:=Ha hit;rw [← hl] at HIT z0 hkl hok;obtain ⟨HL,HOK,HMD,HB1⟩:=Zh4 hl hok hmade hb1;have hi0:(0:Int)≤(i:Int):=by omega
 have hi1:(i:Int)<(ks.length:Int):=by omega
 clear h hit hl hok hmade hb1 hA;go_enter Tryz.func159,Tryz.ntmps159;go_wp2_with fail
 go_loopw [24] (fun iv wr=>∃ (j n:Nat) (f:Int→Option Int),j≤l.length∧iv=.int .i64 j∧MG 3 3 (Lit.int .i64) (Lit.int .i64) 0 wr w.heap.size f n∧n≤j∧FB ps.length f∧Below w.heap.size w wr) (fun iv _=>l.length-(intOf iv).toNat)
 case atStart=>exact ⟨0,0,_,gX _,rfl,HMD.out,gO _,(fun _ _ h=>by cases h),HB1.out⟩
 case round=>
  obtain ⟨j,n,f,hj,rfl,hmg,hnj,hfb,hbw⟩:=hrel;obtain ⟨HMG,HFB,HBW⟩:=Zh3 hmg hfb hbw;have hmr:=HM.out.below hbw;have HMR:=Ha hmr;clear hmg hfb hbw z0 y4;by_cases hlt:j<l.length
  case pos=>
   obtain ⟨bt,ot,rfl,hgt,x0,x1⟩:=aR.at_ HIT.out hlt;have x0:=aD x0 HBW.out;have x1:=aD x1 HBW.out;have hok:=HOK.out _ (gN hlt);obtain ⟨k,d,hkd⟩:∃ k d:Nat,l[j]=((k:Int),(d:Int)):=by
    unfold Gm.Ok at hok;exact ⟨l[j].1.toNat,l[j].2.toNat,Prod.ext (by simp only;omega) (by simp only;omega)⟩
   rw [hkd] at x0 x1 hok;unfold Gm.Ok at hok;simp only [yB] at hok;have hk:k≤g.rules.length:=by omega
   have hb9:Below wr.heap.size wr (wr.alloc (.cells #[.int .i64 k,.int .i64 d] 250)):=(gR _ _).alloc (gO _) _;have q9:=aC wr (.cells #[.int .i64 k,.int .i64 d] 250);generalize hW9:wr.alloc (.cells #[.int .i64 k,.int .i64 d] 250)=w9 at *;have hm9:=hmr.below hb9;obtain ⟨br,or,cr,Ar,car,hvr,hgr,t0,_⟩:=hm9.mb.dat.right hk;have y5:=hm9.mb.m5;rw [hvr] at y5;obtain ⟨ab,ob,hAb,zb⟩:=hm9.mb.base hi;have y9:=hm9.mb.m9;rw [hAb] at y9;obtain ⟨rk,hrk⟩:∃ rk,rk=(g.rightAt k).length:=⟨_,rfl⟩;rw [← hrk] at t0;clear hrk;have e0:w9.drew.cell? ⟨wr.heap.size,0,none⟩=some (.int .i64 (k:Int)):=aA q9 0 _ rfl;have e1:w9.drew.cell? ⟨wr.heap.size,1,none⟩=some (.int .i64 (d:Int)):=aA q9 1 _ rfl;have e2:w9.drew.cell? ⟨bm,5,none⟩=some (.slice (some ⟨br,or,none⟩) (g.rules.length+1) cr):=y5;have e3:w9.drew.cell? ⟨br,or+k,none⟩=some (.slice Ar rk car):=t0;have hk0:(0:Int)≤(k:Int):=by omega
   have hk1:(k:Int)<(g.rules.length:Int)+1:=by omega
   have hB9:Below w.heap.size w w9:=HBW.out.trans (hb9.mono HBW.out.size);have HB9:=Ha hB9;have HM9:=Ha (HMG.out.below hb9);by_cases hd:d=rk
   ·subst hd;obtain ⟨bi,hbi⟩:∃ bi,bi=Gm.base ks i:=⟨_,rfl⟩;rw [← hbi] at zb;have hpl:bi+j<ps.length:=by
     have h1:=Gm.place_lt hi (p:=j) (by rw [← HL.out];exact hlt);have h2:=HM.out.tot;omega
    obtain ⟨bj,hbj⟩:∃ bj,bj=bi+j:=⟨_,rfl⟩;have hwr:IntKind.i64.wrap ((bi:Int)+(j:Int))=(bj:Int):=by
     rw [show (bi:Int)+(j:Int)=(bj:Int) by omega];exact IntWalk.i64_in _ (by omega)
    have hmd:MG 3 3 (Lit.int .i64) (Lit.int .i64) 0 w9.drew.drew w.heap.size f n:=HM9.out.keep rfl;obtain ⟨w2,hst,hm2,hc2,hs2⟩:=MG.store sII hmd (x:=(k:Int)) (v:=(bj:Int)) (by unfold inR;omega) (by unfold inR;omega) (by omega);have HST:=Ha (show MG 3 3 (Lit.int .i64) (Lit.int .i64) 0 w2 w.heap.size (eK f (k:Int) (bj:Int)) (if (f (k:Int)).isSome then n else n+1)∧(if (f (k:Int)).isSome then n else n+1)≤j+1∧FB ps.length (eK f (k:Int) (bj:Int))∧Below w.heap.size w w2 from by
     refine ⟨hm2,by split <;> omega,HFB.out.put (by omega),HB9.out.drew.drew.trans (hc2.below (fun k e=>by subst e;exact gO _) HB9.out.size)⟩)
    have g0:w9.drew.cell? ⟨bm,9,none⟩=some (.slice (some ⟨ab,ob,none⟩) ks.length cb):=y9;have g1:w9.drew.cell? ⟨ab,ob+i,none⟩=some (.int .i64 (bi:Int)):=zb;clear hmr hm9 hvr hAb hB9 hmd hm2 hc2 hs2 hbi hb9 q9 hbj hpl;go_wp2_with fail
    go_region
    go_wp2_with fail;refine aE.start 12 (fun X=>X.cell? ⟨bm,9,none⟩=some (.slice (some ⟨ab,ob,none⟩) ks.length cb)∧X.cell? ⟨ab,ob+i,none⟩=some (.int .i64 (bi:Int))∧X.cell? ⟨wr.heap.size,0,none⟩=some (.int .i64 (k:Int))) (by kernel_rfl) ?hs_1 (fun hHeld=>?hr_1)
    case hs_1=>exact ⟨g0,g1,e0⟩
    refine aE.tks [0,1,2,3,4,5,6,7,8,9,10,11] ?_ (by kernel_rfl) (by assumption)
    iterate 12
     refine aK.cons ?_ (by rfl) (by rfl) (by intro w h;(try dsimp only at h);simp only [gA,gB,gC];go_simp;try with_reducible rfl) (by exact fun _ _ _ h=>h);simp only [gA,gB,gC,Act.put,gD,gE,gF]
    show aE _ _ _ _ _ _ _ _ _ _;refine aE.last (by kernel_rfl) rfl fun K hK=>?_;simp only [gA,gB,gC]
    go_simp
    refine hK.out _ _ (aE.done (by kernel_rfl) ?_ _);go_wp2_with fail
    go_roundw
    case rel=>exact ⟨j+1,_,_,hlt,by go_num,HST.out⟩
    case measure=>simp only [intOf];omega
   ·have hd':¬(d:Int)=(rk:Int):=by omega
    have HF:=Ha (gS (HM9.out.below (gR w9.heap.size w9).drew) HB9.out.drew);clear hmr hm9 hvr hAb hB9 hb9 q9;go_wp2_with fail
    go_region
    go_wp2_with fail
    go_roundw
    case rel=>exact ⟨j+1,n,f,hlt,by go_num,HF.out.1,by omega,HFB.out,HF.out.2⟩
    case measure=>simp only [intOf];omega
  case neg=>
   obtain rfl:j=l.length:=by omega
   have y12:=aA hmr.box 12 _ rfl;obtain ⟨Af,cf,hFV,_⟩:=(HM.out.fin i hi).1.shape;have hlook:aH (TB 309 w) w 2 lA (FV i) (fl i):=(HM.out.fin i hi).1.look fun k hk=>((HM.out.fin i hi).1.tb hk).2;have hfo:=(HM.out.fin i hi).2;have zf:=hmr.row.cell hi;rw [hFV] at hlook zf;obtain ⟨l2,hl2⟩:∃ l2,l2=fl i:=⟨_,rfl⟩;rw [← hl2] at hlook hfo zf hfl;have HLK:=Ha hlook;have HFO:=Ha hfo;clear hmr hlook hfo hFV hl2;go_wp2_with fail
   go_loopw [62] (fun iv wq=>∃ (j2 n2:Nat) (f2:Int→Option Int),j2≤l2.length∧iv=.int .i64 j2∧MG 3 3 (Lit.int .i64) (Lit.int .i64) 0 wq w.heap.size f2 n2∧n2≤l.length+j2∧FB ps.length f2∧Below w.heap.size w wq) (fun iv _=>l2.length-(intOf iv).toNat)
   case atStart=>exact ⟨0,n,f,gX _,rfl,HMG.out,hnj,HFB.out,HBW.out⟩
   case round=>
    obtain ⟨j2,n2,f2,hj2,rfl,hmg,hn2,hfb,hbw⟩:=hrel;obtain ⟨HMG2,HFB2,HBW2⟩:=Zh3 hmg hfb hbw;clear hmg hfb hbw zf y12 HMG HFB HBW HMR;by_cases hlt2:j2<l2.length
    case pos=>
     obtain ⟨bt,ot,rfl,hgt,x0,x1⟩:=lA.cells HLK.out hlt2;have x0:=aD x0 HBW2.out;have x1:=aD x1 HBW2.out;obtain ⟨hfa,hfr⟩:=HFO.out _ (gN hlt2);obtain ⟨r,hr⟩:∃ r,r=l2[j2].1:=⟨_,rfl⟩;obtain ⟨b,hb⟩:∃ b,b=l2[j2].2:=⟨_,rfl⟩;rw [← hr] at x0 hfr;rw [← hb] at x1 hfa;have hb9:Below wr.heap.size wr (wr.alloc (.cells #[.int .i64 r,.int .i64 (b:Int)] 309)):=(gR _ _).alloc (gO _) _;have q9:=aC wr (.cells #[.int .i64 r,.int .i64 (b:Int)] 309);generalize hW9:wr.alloc (.cells #[.int .i64 r,.int .i64 (b:Int)] 309)=w9 at *;obtain ⟨s0,s1,_,_⟩:=aM q9 rfl;obtain ⟨w2,hst,hm2,hc2,hs2⟩:=MG.store sII (HMG2.out.below hb9) (x:=r) (v:=(b:Int)) hfr (by unfold inR;omega) (by omega);have HST:=Ha (show MG 3 3 (Lit.int .i64) (Lit.int .i64) 0 w2 w.heap.size (eK f2 r (b:Int)) (if (f2 r).isSome then n2 else n2+1)∧(if (f2 r).isSome then n2 else n2+1)≤l.length+(j2+1)∧FB ps.length (eK f2 r (b:Int))∧Below w.heap.size w w2 from by
      refine ⟨hm2,by split <;> omega,HFB2.out.put (by omega), ?_⟩;have h1:Below w.heap.size w w9:=HBW2.out.trans (hb9.mono HBW2.out.size);exact h1.trans (hc2.below (fun k e=>by subst e;exact gO _) h1.size))
     clear hm2 hc2 hs2 hb9 q9 hr hb hfr hfa;go_wp2_with fail
     go_roundw
     case rel=>exact ⟨j2+1,_,_,hlt2,by go_num,HST.out⟩
     case measure=>simp only [intOf];omega
    case neg=>
     obtain rfl:j2=l2.length:=by omega
     have hmr:=HM.out.below HBW2.out;have y5:=hmr.mb.m5;obtain ⟨br,or,cr,Ar,car,hvr,_,_,_⟩:=hmr.mb.dat.right (gX _);rw [hvr] at y5;have HVR:=Ha hvr;clear hmr hvr;go_wp2_with fail
     go_loopw [10,77] (fun ov iv wq=>∃ (k:Nat) (lo:List (Int×List Int)),k≤g.rules.length+1∧iv=.int .i64 k∧MG 3 3 (Lit.int .i64) (Lit.int .i64) 0 wq w.heap.size f2 n2∧Below w.heap.size w wq∧aG w.heap.size 280 2 (bU (TB 3 wq) wq) wq ov lo∧lo.length≤k) (fun _ iv _=>g.rules.length+1-(intOf iv).toNat)
     case atStart=>exact ⟨0,[],gX _,rfl,HMG2.out,HBW2.out,aG.nil _ _ _ _ _,gO _⟩
     case round=>
      obtain ⟨k,lo,hk,rfl,hmg,hbw,hrow,hlk⟩:=hrel;obtain ⟨Ao,co,rfl,_⟩:=hrow.shape;obtain ⟨HMG3,HBW3,HRO⟩:=Zh3 hmg hbw hrow;clear hmg hbw hrow y5 HMG2;by_cases hkt:k<g.rules.length+1
      case pos=>
       have hlook:=MG.look sII HMG3.out (x:=(k:Int)) (by unfold inR;omega);cases hfk:f2 (k:Int) with
       | none=>
        rw [hfk] at hlook;simp only [Option.getD_none,Option.isSome_none] at hlook;have hlo:lo.length≤k+1:=by omega
        clear hfk;go_wp2_with fail
        go_roundw
        case rel=>exact ⟨k+1,lo,hkt,by go_num,HMG3.out,HBW3.out,HRO.out,hlo⟩
        case measure=>simp only [intOf];omega
       | some v=>
        rw [hfk] at hlook;simp only [Option.getD_some,Option.isSome_some] at hlook;obtain ⟨hv0,hv1⟩:=HFB2.out _ _ hfk;obtain ⟨vn,rfl⟩:∃ vn:Nat,v=(vn:Int):=⟨v.toNat,by omega⟩;have hmq:=HM.out.below HBW3.out;obtain ⟨ba,oa,ca,b,bw,X,hva,hTa,cT,_,_,hset⟩:=hmq.setAt (show vn<ps.length by omega);have y10:wr.cell? ⟨bm,10,none⟩=some va:=aA hmq.box 10 _ rfl;rw [hva] at y10;have hv2:(vn:Int)<(ps.length:Int):=by omega
        have hv3:(0:Int)≤(vn:Int):=by omega
        have HLI:=Ha (CD b bw (g.terms.length+1) X wr hset);clear hmq hva hTa hset hfk;go_wp2_with fail
        with_reducible refine Calls.mono HLI.out ?_
        rintro e w5 ⟨⟨tv,rfl,hints⟩,hb5⟩;obtain ⟨At5,ct5,rfl,_⟩:=aG.shape hints;have hti:aF (TB 3 w5) w5 (.slice At5 (dK X (g.terms.length+1) 0).length ct5) (dK X (g.terms.length+1) 0):=aG.look hints fun i hi=>(aG.tb hints hi).2;have hr5:aG w.heap.size 280 2 (bU (TB 3 w5) w5) w5 (.slice Ao lo.length co) lo:=(HRO.out.below hb5).mono (bU.keep fun k hk=>hb5.block k hk.lt);generalize hbl:dK X (g.terms.length+1) 0=tl at *;obtain ⟨v6,w6,hrun,hr6,hc6,_⟩:=aG.pushC 213 Tryz.underlying213 BQ rfl (by decide) bU.one 213 (us:=[.int .i64 (k:Int),.slice At5 tl.length ct5]) (x:=((k:Int),tl)) rfl ⟨_,rfl,hti⟩ hr5 (by omega) (by unfold maxLen;omega) (gP HBW3.out.size hb5.size);have hi6:∀ k,TB 3 w5 k→w6.heap[k]? = w5.heap[k]? := fun k hk=>hc6.same k hk.lt fun e=>hk.ne (hr5.tb e).2 (by decide) rfl;have hmg5:=HMG3.out.below hb5;have HF:=Ha (show MG 3 3 (Lit.int .i64) (Lit.int .i64) 0 w6 w.heap.size f2 n2∧Below w.heap.size w w6∧aG w.heap.size 280 2 (bU (TB 3 w6) w6) w6 v6 (lo++[((k:Int),tl)])∧(lo++[((k:Int),tl)]).length≤k+1 from by
         refine ⟨hmg5.keep (hc6.same _ hmg5.lt fun e=>hmg5.not_tb _ (hr5.tb e).2), ?_,hr6.mono (bU.keep hi6),by rw [gI,gZ];omega⟩;have h1:Below w.heap.size w w5:=HBW3.out.trans (hb5.mono HBW3.out.size);exact h1.trans (hc6.below (fun k e=>(hr5.tb e).1) h1.size))
        obtain ⟨A6,c6,rfl,_⟩:=hr6.shape;obtain ⟨lo2,hlo2⟩:∃ lo2,lo2=lo++[((k:Int),tl)]:=⟨_,rfl⟩;rw [← hlo2] at HF hrun;clear hints hb5 hti hr5 hr6 hc6 hi6 hmg5 hbl hlo2;go_wp2_with fail
        go_roundw
        case rel=>exact ⟨k+1,lo2,hkt,by go_num,HF.out⟩
        case measure=>simp only [intOf];omega
      case neg=>
       obtain rfl:k=g.rules.length+1:=by omega
       have hge:¬(g.rules.length:Int)+1<(g.rules.length:Int)+1:=by omega
       go_wp2_with fail;go_ret;exact ⟨⟨_,lo,rfl,HRO.out,by omega⟩,HBW3.out⟩
end
def iR (n:Nat) (w:World) (bo off:Nat) (cs:Array Value) (bT bwT X2:Nat) (sf:Bool) (e:Ending) (w':World):Prop:=
 ∃ (mo sf':Bool) (X':Nat),e=.returned (.bool mo)∧X2≤X'∧BSet w' bT bwT n X'∧w'.heap[bo]? = some (.cells (if sf'=sf then cs else cs.setIfInBounds (off+2) (.bool true)) 303 (0,0))∧(sf=true→sf'=true)∧(mo=true→X2<X'∨(sf=false∧sf'=true))∧Chg (fun k=>k=bwT∨k=bo) w w'
theorem H8 (w:World) (bm bo off n:Nat) (cs:Array Value) (xs:Int) (xself em sf:Bool) (bX bwX X1 bT bwT X2 bS bwS X3:Nat) (hbo:w.heap[bo]? = some (.cells cs 303 (0,0))) (h1:cs[off+1]? = some (.pointer (some ⟨bT,0,none⟩))) (h2:cs[off+2]? = some (.bool sf)) (hX:BSet w bX bwX n X1) (hT:BSet w bT bwT n X2) (hS:BSet w bS bwS n X3) (hn:n≤64):
  Calls Tryz.prog 247 #[.pointer (some ⟨bm,0,none⟩),.agg #[.int .i64 xs,.pointer (some ⟨bX,0,none⟩),.bool xself],.pointer (some ⟨bo,off,none⟩),.agg #[.pointer (some ⟨bS,0,none⟩),.bool em]] w fun e w'=>iR n w bo off cs bT bwT X2 sf e w':=by
 have hb1:Below w.heap.size w (w.alloc (.cells #[.int .i64 xs,.pointer (some ⟨bX,0,none⟩),.bool xself] 303)):=(gR _ _).alloc (gO _) _;have q1:=aC w (.cells #[.int .i64 xs,.pointer (some ⟨bX,0,none⟩),.bool xself] 303);have hsz:(w.alloc (.cells #[.int .i64 xs,.pointer (some ⟨bX,0,none⟩),.bool xself] 303)).heap.size=w.heap.size+1:=by simp
 generalize hW1:w.alloc (.cells #[.int .i64 xs,.pointer (some ⟨bX,0,none⟩),.bool xself] 303)=w1 at *;have hb2:Below w1.heap.size w1 (w1.alloc (.cells #[.pointer (some ⟨bS,0,none⟩),.bool em] 296)):=(gR _ _).alloc (gO _) _;have q2:=aC w1 (.cells #[.pointer (some ⟨bS,0,none⟩),.bool em] 296);generalize hW2:w1.alloc (.cells #[.pointer (some ⟨bS,0,none⟩),.bool em] 296)=w2 at *;have hb02:Below w.heap.size w w2:=hb1.trans (hb2.mono hb1.size);have q1':w2.heap[w.heap.size]? = some (.cells #[.int .i64 xs,.pointer (some ⟨bX,0,none⟩),.bool xself] 303 (0,0)):=(hb2.block _ (gL q1).1).trans q1;have hbo2:=(hb02.block bo (gL hbo).1).trans hbo;have hX2:=hX.below hb02;have hT2:=hT.below hb02;have hS2:=hS.below hb02;have hne:∀ {T:TypeId} {k:Nat},TB T w2 k→T≠154→k≠bwT:=fun h1 h2=>h1.ne (T':=154) ⟨_,hT2.hw⟩ h2;have HS:=Ha (show ∀ X,Chg (· = bwT) w2 X→X.cell? ⟨bo,off+1,none⟩=some (.pointer (some ⟨bT,0,none⟩))∧X.cell? ⟨w1.heap.size,0,none⟩=some (.pointer (some ⟨bS,0,none⟩))∧X.cell? ⟨w.heap.size,1,none⟩=some (.pointer (some ⟨bX,0,none⟩)) from
  fun X hX=>⟨hX.cell (aA hbo2 _ _ h1) (hne (T:=303) ⟨_,hbo2⟩ (by decide)),hX.cell (aA q2 0 _ rfl) (hne (T:=296) ⟨_,q2⟩ (by decide)),hX.cell (aA q1' 1 _ rfl) (hne (T:=303) ⟨_,q1'⟩ (by decide))⟩)
 have HZ:=Ha (show ∀ X,Chg (· = bwT) w2 X→X.cell? ⟨w.heap.size,2,none⟩=some (.bool xself)∧X.cell? ⟨w1.heap.size,1,none⟩=some (.bool em)∧X.cell? ⟨bo,off+2,none⟩=some (.bool sf)∧X.heap[bo]? = some (.cells cs 303 (0,0)) from
  fun X hX=>⟨hX.cell (aA q1' 2 _ rfl) (hne (T:=303) ⟨_,q1'⟩ (by decide)),hX.cell (aA q2 1 _ rfl) (hne (T:=296) ⟨_,q2⟩ (by decide)),hX.cell (aA hbo2 _ _ h2) (hne (T:=303) ⟨_,hbo2⟩ (by decide)),(hX.same bo (gL hbo2).1 (hne (T:=303) ⟨_,hbo2⟩ (by decide))).trans hbo2⟩)
 have HSets:=Ha (gS hX2 (gS hT2 hS2));have HB02:=Ha hb02;have HEND:=Ha (show ∀ wx mo X',BSet wx bT bwT n X'→X2≤X'→(mo=true→X2<X')→Chg (· = bwT) w2 wx→iR n w bo off cs bT bwT X2 sf (.returned (.bool mo)) wx from
  fun wx mo X' h1 h2 h3 h4=>⟨mo,sf,X',rfl,h2,h1,by rw [if_pos rfl];exact (HZ.out wx h4).2.2.2,fun h=>h,fun h=>.inl (h3 h),(Chg.of hb02).trans2 h4 fun i _ e=>.inl e⟩)
 have HNE:=Ha (fun (z:World) (hz:z=w2)=>pZ bX bwX n X1 0 z (hz▸hX2) (by omega));obtain ⟨u0,u1,u2,_⟩:=HZ.out w2 (Chg.refl _ _);obtain ⟨_,_,u3⟩:=HS.out w2 (Chg.refl _ _);have HU:=Ha (gS u0 (gS u1 u2));clear hb1 q1 hb2 q2 hb02 q1' hbo2 hX2 hT2 hS2 hne hbo h1 h2 hX hT hS hsz;go_enter Tryz.func247,Tryz.ntmps247;cases xself
 case true=>
  go_upto_region 3 with fail
  go_cut [9] (fun v9 wx=>∃ (mo:Bool) (X':Nat),v9=.bool mo∧X2≤X'∧BSet wx bT bwT n X'∧(mo=true→X2<X')∧Chg (· = bwT) w2 wx)
  case first=>
   have hor:=p6 bT bwT n X2 bS bwS X3 w2.drew (HSets.out.2.1.keep rfl rfl) (HSets.out.2.2.keep rfl rfl);have W2:=Ha (show Chg (· = bwT) w2 w2.drew from (Chg.refl _ _).drew);clear u0 u1 u2 u3;by_cases hne:X2 ||| X3=X2
   ·rw [show decide (X2 ||| X3≠X2)=false from by simp [hne]] at hor;have HOR:=Ha hor;clear hor;go_wp2_with fail;refine aE.start 7 (fun X=>X.cell? ⟨bo,off+1,none⟩=some (.pointer (some ⟨bT,0,none⟩))∧X.cell? ⟨w1.heap.size,0,none⟩=some (.pointer (some ⟨bS,0,none⟩))∧X.cell? ⟨w.heap.size,1,none⟩=some (.pointer (some ⟨bX,0,none⟩))) (by kernel_rfl) ?hs_1 (fun hHeld=>?hr_1)
    case hs_1=>exact HS.out _ W2.out
    refine aE.tks [0,1,2,3,4,5] ?_ (by kernel_rfl) (by assumption)
    iterate 6
     refine aK.cons ?_ (by rfl) (by rfl) (by intro w h;(try dsimp only at h);simp only [gA,gB,gC];go_simp;try with_reducible rfl) (by exact fun _ _ _ h=>h);simp only [gA,gB,gC,Act.put,gD,gE,gF]
    show aE _ _ _ _ _ _ _ _ _ _;refine aE.one (i:=6) (by kernel_rfl) rfl fun K hK=>?_;simp only [gA,gB,gC]
    go_simp
    with_reducible refine Calls.mono HOR.out ?_
    rintro e w5 ⟨rfl,hs5,hc5⟩;have HC5:=Ha (show Chg (· = bwT) w2 w5 from W2.out.trans hc5);have HS5:=Ha hs5;clear hs5 hc5;dsimp only;refine hK.out _ _ ?_ (fun hHeld=>?_)
    ·exact HS.out _ HC5.out
    clear hK K;try simp only [Act.put,gD,gE,gF]
    refine aE.last (by kernel_rfl) rfl fun K hK=>?_;simp only [gA,gB,gC]
    go_simp
    refine hK.out _ _ (aE.done (by kernel_rfl) ?_ _);go_wp2_with fail
    go_meet
    exact ⟨false,X2 ||| X3,rfl,cG _ _,HS5.out,(fun h=>by cases h),HC5.out⟩
   ·rw [show decide (X2 ||| X3≠X2)=true from by simp [hne]] at hor;have HOR:=Ha hor;have HNEQ:=Ha (show X2<X2 ||| X3 from Nat.lt_of_le_of_ne (cG _ _) (Ne.symm hne));clear hor;go_wp2_with fail;refine aE.start 7 (fun X=>X.cell? ⟨bo,off+1,none⟩=some (.pointer (some ⟨bT,0,none⟩))∧X.cell? ⟨w1.heap.size,0,none⟩=some (.pointer (some ⟨bS,0,none⟩))∧X.cell? ⟨w.heap.size,1,none⟩=some (.pointer (some ⟨bX,0,none⟩))) (by kernel_rfl) ?hs_2 (fun hHeld=>?hr_2)
    case hs_2=>exact HS.out _ W2.out
    refine aE.tks [0,1,2,3,4,5] ?_ (by kernel_rfl) (by assumption)
    iterate 6
     refine aK.cons ?_ (by rfl) (by rfl) (by intro w h;(try dsimp only at h);simp only [gA,gB,gC];go_simp;try with_reducible rfl) (by exact fun _ _ _ h=>h);simp only [gA,gB,gC,Act.put,gD,gE,gF]
    show aE _ _ _ _ _ _ _ _ _ _;refine aE.one (i:=6) (by kernel_rfl) rfl fun K hK=>?_;simp only [gA,gB,gC]
    go_simp
    with_reducible refine Calls.mono HOR.out ?_
    rintro e w5 ⟨rfl,hs5,hc5⟩;have HC5:=Ha (show Chg (· = bwT) w2 w5 from W2.out.trans hc5);have HS5:=Ha hs5;clear hs5 hc5;dsimp only;refine hK.out _ _ ?_ (fun hHeld=>?_)
    ·exact HS.out _ HC5.out
    clear hK K;try simp only [Act.put,gD,gE,gF]
    refine aE.last (by kernel_rfl) rfl fun K hK=>?_;simp only [gA,gB,gC]
    go_simp
    refine hK.out _ _ (aE.done (by kernel_rfl) ?_ _);go_wp2_with fail
    go_meet
    exact ⟨true,X2 ||| X3,rfl,cG _ _,HS5.out,fun _=>HNEQ.out,HC5.out⟩
  case rest=>
   obtain ⟨mo,X',rfl,hle,hst,hmo,hch⟩:=hcut;have HA:=Ha (gS hle (gS hst (gS hmo hch)));obtain ⟨u0,u1,u2,_⟩:=HZ.out wc hch;clear hle hst hmo;cases em
   case false=>
    go_wp2_with fail;go_ret;exact HEND.out _ _ _ HA.out.2.1 HA.out.1 HA.out.2.2.1 HA.out.2.2.2
   case true=>
    obtain ⟨X1',_,hX1⟩:=HSets.out.2.1.other HSets.out.1 hch HA.out.2.1 HA.out.1;have hor:=p6 bT bwT n X' bX bwX X1' wc.drew (HA.out.2.1.keep rfl rfl) (hX1.keep rfl rfl);have W3:=Ha (show Chg (· = bwT) w2 wc.drew from hch.drew);clear hX1 hch u0 u2
    go_upto_region 6 with fail
    go_cut [9] (fun v9 wx=>∃ (mo:Bool) (X':Nat),v9=.bool mo∧X2≤X'∧BSet wx bT bwT n X'∧(mo=true→X2<X')∧Chg (· = bwT) w2 wx)
    case first=>
     clear u1;by_cases hne:X' ||| X1'=X'
     ·rw [show decide (X' ||| X1'≠X')=false from by simp [hne]] at hor;have HOR:=Ha hor;clear hor;go_wp2_with fail;refine aE.start 10 (fun X=>X.cell? ⟨bo,off+1,none⟩=some (.pointer (some ⟨bT,0,none⟩))∧X.cell? ⟨w1.heap.size,0,none⟩=some (.pointer (some ⟨bS,0,none⟩))∧X.cell? ⟨w.heap.size,1,none⟩=some (.pointer (some ⟨bX,0,none⟩))) (by kernel_rfl) ?hs_3 (fun hHeld=>?hr_3)
      case hs_3=>exact HS.out _ W3.out
      refine aE.tks [0,1,2,3,4,5] ?_ (by kernel_rfl) (by assumption)
      iterate 6
       refine aK.cons ?_ (by rfl) (by rfl) (by intro w h;(try dsimp only at h);simp only [gA,gB,gC];go_simp;try with_reducible rfl) (by exact fun _ _ _ h=>h);simp only [gA,gB,gC,Act.put,gD,gE,gF]
      show aE _ _ _ _ _ _ _ _ _ _;refine aE.one (i:=6) (by kernel_rfl) rfl fun K hK=>?_;simp only [gA,gB,gC]
      go_simp
      with_reducible refine Calls.mono HOR.out ?_
      rintro e w5 ⟨rfl,hs5,hc5⟩;have HC5:=Ha (show Chg (· = bwT) w2 w5 from W3.out.trans hc5);have HS5:=Ha hs5;clear hs5 hc5;dsimp only;refine hK.out _ _ ?_ (fun hHeld=>?_)
      ·exact HS.out _ HC5.out
      clear hK K;try simp only [Act.put,gD,gE,gF]
      refine aE.tks [7] ?_ (by kernel_rfl) (by assumption)
      iterate 1
       refine aK.cons ?_ (by rfl) (by rfl) (by intro w h;(try dsimp only at h);simp only [gA,gB,gC];go_simp;try with_reducible rfl) (by exact fun _ _ _ h=>h);simp only [gA,gB,gC,Act.put,gD,gE,gF]
      show aE _ _ _ _ _ _ _ _ _ _;refine aE.tks [8] ?_ (by kernel_rfl) (by assumption)
      iterate 1
       refine aK.cons ?_ (by rfl) (by rfl) (by intro w h;(try dsimp only at h);simp only [gA,gB,gC];go_simp;try with_reducible rfl) (by exact fun _ _ _ h=>h);simp only [gA,gB,gC,Act.put,gD,gE,gF]
      show aE _ _ _ _ _ _ _ _ _ _;refine aE.tks [9] ?_ (by kernel_rfl) (by assumption)
      iterate 1
       refine aK.cons ?_ (by rfl) (by rfl) (by intro w h;(try dsimp only at h);simp only [gA,gB,gC];go_simp;try with_reducible rfl) (by exact fun _ _ _ h=>h);simp only [gA,gB,gC,Act.put,gD,gE,gF]
      show aE _ _ _ _ _ _ _ _ _ _;refine aE.last (by kernel_rfl) rfl fun K hK=>?_;simp only [gA,gB,gC]
      go_simp
      refine hK.out _ _ (aE.done (by kernel_rfl) ?_ _);go_wp2_with fail
      go_meet
      exact ⟨mo,X' ||| X1',rfl,gP HA.out.1 (cG _ _),HS5.out,fun h=>gK (HA.out.2.2.1 h) (cG _ _),HC5.out⟩
     ·rw [show decide (X' ||| X1'≠X')=true from by simp [hne]] at hor;have HOR:=Ha hor;have HNEQ:=Ha (show X2<X' ||| X1' from Nat.lt_of_le_of_lt HA.out.1 (Nat.lt_of_le_of_ne (cG _ _) (Ne.symm hne)));clear hor;go_wp2_with fail;refine aE.start 10 (fun X=>X.cell? ⟨bo,off+1,none⟩=some (.pointer (some ⟨bT,0,none⟩))∧X.cell? ⟨w1.heap.size,0,none⟩=some (.pointer (some ⟨bS,0,none⟩))∧X.cell? ⟨w.heap.size,1,none⟩=some (.pointer (some ⟨bX,0,none⟩))) (by kernel_rfl) ?hs_4 (fun hHeld=>?hr_4)
      case hs_4=>exact HS.out _ W3.out
      refine aE.tks [0,1,2,3,4,5] ?_ (by kernel_rfl) (by assumption)
      iterate 6
       refine aK.cons ?_ (by rfl) (by rfl) (by intro w h;(try dsimp only at h);simp only [gA,gB,gC];go_simp;try with_reducible rfl) (by exact fun _ _ _ h=>h);simp only [gA,gB,gC,Act.put,gD,gE,gF]
      show aE _ _ _ _ _ _ _ _ _ _;refine aE.one (i:=6) (by kernel_rfl) rfl fun K hK=>?_;simp only [gA,gB,gC]
      go_simp
      with_reducible refine Calls.mono HOR.out ?_
      rintro e w5 ⟨rfl,hs5,hc5⟩;have HC5:=Ha (show Chg (· = bwT) w2 w5 from W3.out.trans hc5);have HS5:=Ha hs5;clear hs5 hc5;dsimp only;refine hK.out _ _ ?_ (fun hHeld=>?_)
      ·exact HS.out _ HC5.out
      clear hK K;try simp only [Act.put,gD,gE,gF]
      refine aE.tks [7] ?_ (by kernel_rfl) (by assumption)
      iterate 1
       refine aK.cons ?_ (by rfl) (by rfl) (by intro w h;(try dsimp only at h);simp only [gA,gB,gC];go_simp;try with_reducible rfl) (by exact fun _ _ _ h=>h);simp only [gA,gB,gC,Act.put,gD,gE,gF]
      show aE _ _ _ _ _ _ _ _ _ _;refine aE.take (i:=8) (oi:=_) (v:=undef) rfl (by kernel_rfl) (by kernel_rfl) (by kernel_rfl) (by kernel_rfl) (fun _ _ _ h=>h) (Or.inr ⟨by rfl,rfl⟩) (by assumption) ?_;simp only [gA,gB,gC,Act.put,gD,gE,gF];refine aE.tks [9] ?_ (by kernel_rfl) (by assumption)
      iterate 1
       refine aK.cons ?_ (by rfl) (by rfl) (by intro w h;(try dsimp only at h);simp only [gA,gB,gC];go_simp;try with_reducible rfl) (by exact fun _ _ _ h=>h);simp only [gA,gB,gC,Act.put,gD,gE,gF]
      show aE _ _ _ _ _ _ _ _ _ _;refine aE.last (by kernel_rfl) rfl fun K hK=>?_;simp only [gA,gB,gC]
      go_simp
      refine hK.out _ _ (aE.done (by kernel_rfl) ?_ _);go_wp2_with fail
      go_meet
      exact ⟨true,X' ||| X1',rfl,Nat.le_of_lt HNEQ.out,HS5.out,fun _=>HNEQ.out,HC5.out⟩
    case rest=>
     obtain ⟨mo2,X'',rfl,hle,hst,hmo,hch⟩:=hcut;have HA2:=Ha (gS hle (gS hst (gS hmo hch)));obtain ⟨u0,u1,u2,hbo⟩:=HZ.out _ hch;clear hle hst hmo hor;cases sf
     case true=>
      clear hch hbo;go_wp2_with fail;go_ret;exact HEND.out _ _ _ HA2.out.2.1 HA2.out.1 HA2.out.2.2.1 HA2.out.2.2.2
     case false=>
      have hf:=aO hbo (off+2) (.bool true);have f2:wc.frozen? ⟨bo,off+2,none⟩=false:=by simp [World.frozen?,hbo]
      have hne:bo≠bwT:=TB.ne (T:=303) (T':=154) ⟨_,hbo⟩ ⟨_,HA2.out.2.1.hw⟩ (by decide);have hne2:bT≠bo:=TB.ne (T:=159) (T':=303) ⟨_,HA2.out.2.1.hb⟩ ⟨_,hbo⟩ (by decide);have HF:=Ha (show iR n w bo off cs bT bwT X2 false (.returned (.bool true)) (wc.setCell ⟨bo,off+2,none⟩ (.bool true)) from
       ⟨true,true,X'',rfl,HA2.out.1,HA2.out.2.1.keep (gU _ _ _ _ hne2) (gU _ _ _ _ (Ne.symm hne)),by rw [if_neg (by decide)];exact hf,(fun h=>by cases h),fun _=>.inr ⟨rfl,rfl⟩,((Chg.of HB02.out).trans2 hch fun i _ e=>.inl e).setCell (p:=⟨bo,off+2,none⟩) (fun _=>.inr rfl) _⟩)
      clear hch hbo hf hne hne2;go_wp2_with fail;go_ret;exact HF.out
 case false=>
  go_wp2_with fail;refine (HNE.out _ rfl).mono ?_;rintro e w3 ⟨rfl,hw3⟩;have hw3:=hw3.symm;subst hw3;generalize (nxt X1 (n-0) 0)=z;by_cases hz:z<0
  ·go_wp2_with fail;go_ret;exact HEND.out _ false X2 HSets.out.2.1 (gO _) (fun h=>by cases h) (Chg.refl _ _)
  ·skip
   go_upto_region 3 with fail
   go_cut [9] (fun v9 wx=>∃ (mo:Bool) (X':Nat),v9=.bool mo∧X2≤X'∧BSet wx bT bwT n X'∧(mo=true→X2<X')∧Chg (· = bwT) w2 wx)
   case first=>
    have hor:=p6 bT bwT n X2 bS bwS X3 w2.drew (HSets.out.2.1.keep rfl rfl) (HSets.out.2.2.keep rfl rfl);have W2:=Ha (show Chg (· = bwT) w2 w2.drew from (Chg.refl _ _).drew);clear u0 u1 u2 u3;by_cases hne:X2 ||| X3=X2
    ·rw [show decide (X2 ||| X3≠X2)=false from by simp [hne]] at hor;have HOR:=Ha hor;clear hor;go_wp2_with fail;refine aE.start 7 (fun X=>X.cell? ⟨bo,off+1,none⟩=some (.pointer (some ⟨bT,0,none⟩))∧X.cell? ⟨w1.heap.size,0,none⟩=some (.pointer (some ⟨bS,0,none⟩))∧X.cell? ⟨w.heap.size,1,none⟩=some (.pointer (some ⟨bX,0,none⟩))) (by kernel_rfl) ?hs_5 (fun hHeld=>?hr_5)
     case hs_5=>exact HS.out _ W2.out
     refine aE.tks [0,1,2,3,4,5] ?_ (by kernel_rfl) (by assumption)
     iterate 6
      refine aK.cons ?_ (by rfl) (by rfl) (by intro w h;(try dsimp only at h);simp only [gA,gB,gC];go_simp;try with_reducible rfl) (by exact fun _ _ _ h=>h);simp only [gA,gB,gC,Act.put,gD,gE,gF]
     show aE _ _ _ _ _ _ _ _ _ _;refine aE.one (i:=6) (by kernel_rfl) rfl fun K hK=>?_;simp only [gA,gB,gC]
     go_simp
     with_reducible refine Calls.mono HOR.out ?_
     rintro e w5 ⟨rfl,hs5,hc5⟩;have HC5:=Ha (show Chg (· = bwT) w2 w5 from W2.out.trans hc5);have HS5:=Ha hs5;clear hs5 hc5;dsimp only;refine hK.out _ _ ?_ (fun hHeld=>?_)
     ·exact HS.out _ HC5.out
     clear hK K;try simp only [Act.put,gD,gE,gF]
     refine aE.last (by kernel_rfl) rfl fun K hK=>?_;simp only [gA,gB,gC]
     go_simp
     refine hK.out _ _ (aE.done (by kernel_rfl) ?_ _);go_wp2_with fail
     go_meet
     exact ⟨false,X2 ||| X3,rfl,cG _ _,HS5.out,(fun h=>by cases h),HC5.out⟩
    ·rw [show decide (X2 ||| X3≠X2)=true from by simp [hne]] at hor;have HOR:=Ha hor;have HNEQ:=Ha (show X2<X2 ||| X3 from Nat.lt_of_le_of_ne (cG _ _) (Ne.symm hne));clear hor;go_wp2_with fail;refine aE.start 7 (fun X=>X.cell? ⟨bo,off+1,none⟩=some (.pointer (some ⟨bT,0,none⟩))∧X.cell? ⟨w1.heap.size,0,none⟩=some (.pointer (some ⟨bS,0,none⟩))∧X.cell? ⟨w.heap.size,1,none⟩=some (.pointer (some ⟨bX,0,none⟩))) (by kernel_rfl) ?hs_6 (fun hHeld=>?hr_6)
     case hs_6=>exact HS.out _ W2.out
     refine aE.tks [0,1,2,3,4,5] ?_ (by kernel_rfl) (by assumption)
     iterate 6
      refine aK.cons ?_ (by rfl) (by rfl) (by intro w h;(try dsimp only at h);simp only [gA,gB,gC];go_simp;try with_reducible rfl) (by exact fun _ _ _ h=>h);simp only [gA,gB,gC,Act.put,gD,gE,gF]
     show aE _ _ _ _ _ _ _ _ _ _;refine aE.one (i:=6) (by kernel_rfl) rfl fun K hK=>?_;simp only [gA,gB,gC]
     go_simp
     with_reducible refine Calls.mono HOR.out ?_
     rintro e w5 ⟨rfl,hs5,hc5⟩;have HC5:=Ha (show Chg (· = bwT) w2 w5 from W2.out.trans hc5);have HS5:=Ha hs5;clear hs5 hc5;dsimp only;refine hK.out _ _ ?_ (fun hHeld=>?_)
     ·exact HS.out _ HC5.out
     clear hK K;try simp only [Act.put,gD,gE,gF]
     refine aE.last (by kernel_rfl) rfl fun K hK=>?_;simp only [gA,gB,gC]
     go_simp
     refine hK.out _ _ (aE.done (by kernel_rfl) ?_ _);go_wp2_with fail
     go_meet
     exact ⟨true,X2 ||| X3,rfl,cG _ _,HS5.out,fun _=>HNEQ.out,HC5.out⟩
   case rest=>
    obtain ⟨mo,X',rfl,hle,hst,hmo,hch⟩:=hcut;have HA:=Ha (gS hle (gS hst (gS hmo hch)));obtain ⟨u0,u1,u2,_⟩:=HZ.out wc hch;clear hle hst hmo;cases em
    case false=>
     go_wp2_with fail;go_ret;exact HEND.out _ _ _ HA.out.2.1 HA.out.1 HA.out.2.2.1 HA.out.2.2.2
    case true=>
     obtain ⟨X1',_,hX1⟩:=HSets.out.2.1.other HSets.out.1 hch HA.out.2.1 HA.out.1;have hor:=p6 bT bwT n X' bX bwX X1' wc.drew (HA.out.2.1.keep rfl rfl) (hX1.keep rfl rfl);have W3:=Ha (show Chg (· = bwT) w2 wc.drew from hch.drew);clear hX1 hch u0 u2
     go_upto_region 6 with fail
     go_cut [9] (fun v9 wx=>∃ (mo:Bool) (X':Nat),v9=.bool mo∧X2≤X'∧BSet wx bT bwT n X'∧(mo=true→X2<X')∧Chg (· = bwT) w2 wx)
     case first=>
      clear u1;by_cases hne:X' ||| X1'=X'
      ·rw [show decide (X' ||| X1'≠X')=false from by simp [hne]] at hor;have HOR:=Ha hor;clear hor;go_wp2_with fail;refine aE.start 10 (fun X=>X.cell? ⟨bo,off+1,none⟩=some (.pointer (some ⟨bT,0,none⟩))∧X.cell? ⟨w1.heap.size,0,none⟩=some (.pointer (some ⟨bS,0,none⟩))∧X.cell? ⟨w.heap.size,1,none⟩=some (.pointer (some ⟨bX,0,none⟩))) (by kernel_rfl) ?hs_7 (fun hHeld=>?hr_7)
       case hs_7=>exact HS.out _ W3.out
       refine aE.tks [0,1,2,3,4,5] ?_ (by kernel_rfl) (by assumption)
       iterate 6
        refine aK.cons ?_ (by rfl) (by rfl) (by intro w h;(try dsimp only at h);simp only [gA,gB,gC];go_simp;try with_reducible rfl) (by exact fun _ _ _ h=>h);simp only [gA,gB,gC,Act.put,gD,gE,gF]
       show aE _ _ _ _ _ _ _ _ _ _;refine aE.one (i:=6) (by kernel_rfl) rfl fun K hK=>?_;simp only [gA,gB,gC]
       go_simp
       with_reducible refine Calls.mono HOR.out ?_
       rintro e w5 ⟨rfl,hs5,hc5⟩;have HC5:=Ha (show Chg (· = bwT) w2 w5 from W3.out.trans hc5);have HS5:=Ha hs5;clear hs5 hc5;dsimp only;refine hK.out _ _ ?_ (fun hHeld=>?_)
       ·exact HS.out _ HC5.out
       clear hK K;try simp only [Act.put,gD,gE,gF]
       refine aE.tks [7] ?_ (by kernel_rfl) (by assumption)
       iterate 1
        refine aK.cons ?_ (by rfl) (by rfl) (by intro w h;(try dsimp only at h);simp only [gA,gB,gC];go_simp;try with_reducible rfl) (by exact fun _ _ _ h=>h);simp only [gA,gB,gC,Act.put,gD,gE,gF]
       show aE _ _ _ _ _ _ _ _ _ _;refine aE.tks [8] ?_ (by kernel_rfl) (by assumption)
       iterate 1
        refine aK.cons ?_ (by rfl) (by rfl) (by intro w h;(try dsimp only at h);simp only [gA,gB,gC];go_simp;try with_reducible rfl) (by exact fun _ _ _ h=>h);simp only [gA,gB,gC,Act.put,gD,gE,gF]
       show aE _ _ _ _ _ _ _ _ _ _;refine aE.tks [9] ?_ (by kernel_rfl) (by assumption)
       iterate 1
        refine aK.cons ?_ (by rfl) (by rfl) (by intro w h;(try dsimp only at h);simp only [gA,gB,gC];go_simp;try with_reducible rfl) (by exact fun _ _ _ h=>h);simp only [gA,gB,gC,Act.put,gD,gE,gF]
       show aE _ _ _ _ _ _ _ _ _ _;refine aE.last (by kernel_rfl) rfl fun K hK=>?_;simp only [gA,gB,gC]
       go_simp
       refine hK.out _ _ (aE.done (by kernel_rfl) ?_ _);go_wp2_with fail
       go_meet
       exact ⟨mo,X' ||| X1',rfl,gP HA.out.1 (cG _ _),HS5.out,fun h=>gK (HA.out.2.2.1 h) (cG _ _),HC5.out⟩
      ·rw [show decide (X' ||| X1'≠X')=true from by simp [hne]] at hor;have HOR:=Ha hor;have HNEQ:=Ha (show X2<X' ||| X1' from Nat.lt_of_le_of_lt HA.out.1 (Nat.lt_of_le_of_ne (cG _ _) (Ne.symm hne)));clear hor;go_wp2_with fail;refine aE.start 10 (fun X=>X.cell? ⟨bo,off+1,none⟩=some (.pointer (some ⟨bT,0,none⟩))∧X.cell? ⟨w1.heap.size,0,none⟩=some (.pointer (some ⟨bS,0,none⟩))∧X.cell? ⟨w.heap.size,1,none⟩=some (.pointer (some ⟨bX,0,none⟩))) (by kernel_rfl) ?hs_8 (fun hHeld=>?hr_8)
       case hs_8=>exact HS.out _ W3.out
       refine aE.tks [0,1,2,3,4,5] ?_ (by kernel_rfl) (by assumption)
       iterate 6
        refine aK.cons ?_ (by rfl) (by rfl) (by intro w h;(try dsimp only at h);simp only [gA,gB,gC];go_simp;try with_reducible rfl) (by exact fun _ _ _ h=>h);simp only [gA,gB,gC,Act.put,gD,gE,gF]
       show aE _ _ _ _ _ _ _ _ _ _;refine aE.one (i:=6) (by kernel_rfl) rfl fun K hK=>?_;simp only [gA,gB,gC]
       go_simp
       with_reducible refine Calls.mono HOR.out ?_
       rintro e w5 ⟨rfl,hs5,hc5⟩;have HC5:=Ha (show Chg (· = bwT) w2 w5 from W3.out.trans hc5);have HS5:=Ha hs5;clear hs5 hc5;dsimp only;refine hK.out _ _ ?_ (fun hHeld=>?_)
       ·exact HS.out _ HC5.out
       clear hK K;try simp only [Act.put,gD,gE,gF]
       refine aE.tks [7] ?_ (by kernel_rfl) (by assumption)
       iterate 1
        refine aK.cons ?_ (by rfl) (by rfl) (by intro w h;(try dsimp only at h);simp only [gA,gB,gC];go_simp;try with_reducible rfl) (by exact fun _ _ _ h=>h);simp only [gA,gB,gC,Act.put,gD,gE,gF]
       show aE _ _ _ _ _ _ _ _ _ _;refine aE.take (i:=8) (oi:=_) (v:=undef) rfl (by kernel_rfl) (by kernel_rfl) (by kernel_rfl) (by kernel_rfl) (fun _ _ _ h=>h) (Or.inr ⟨by rfl,rfl⟩) (by assumption) ?_;simp only [gA,gB,gC,Act.put,gD,gE,gF];refine aE.tks [9] ?_ (by kernel_rfl) (by assumption)
       iterate 1
        refine aK.cons ?_ (by rfl) (by rfl) (by intro w h;(try dsimp only at h);simp only [gA,gB,gC];go_simp;try with_reducible rfl) (by exact fun _ _ _ h=>h);simp only [gA,gB,gC,Act.put,gD,gE,gF]
       show aE _ _ _ _ _ _ _ _ _ _;refine aE.last (by kernel_rfl) rfl fun K hK=>?_;simp only [gA,gB,gC]
       go_simp
       refine hK.out _ _ (aE.done (by kernel_rfl) ?_ _);go_wp2_with fail
       go_meet
       exact ⟨true,X' ||| X1',rfl,Nat.le_of_lt HNEQ.out,HS5.out,fun _=>HNEQ.out,HC5.out⟩
     case rest=>
      obtain ⟨mo2,X'',rfl,hle,hst,hmo,hch⟩:=hcut;have HA2:=Ha (gS hle (gS hst (gS hmo hch)));obtain ⟨u0,u1,u2,hbo⟩:=HZ.out _ hch;clear hle hst hmo hor;clear hch hbo;go_wp2_with fail;go_ret;exact HEND.out _ _ _ HA2.out.2.1 HA2.out.1 HA2.out.2.2.1 HA2.out.2.2.2
end Go.Proofs.YtpidmmfjcghmeaaGreat
