/- Towards clashesWhole_upto. -/
import Derived.Test.YtpidmmfjcghmeaaGreatCz40
import Derived.Test.YtpidmmfjcghmeaaGreatCz35
import Derived.Test.YtpidmmfjcghmeaaGreatCz36
set_option maxRecDepth 100000
set_option maxHeartbeats 16000000
set_option linter.all false
namespace Go.Proofs.YtpidmmfjcghmeaaGreat
open Go.RowKit
theorem FOk.put {g:Gm} {m:Nat} {F:Nat→Fd} (h:FOk g m F) {s:Nat} {x:Fd} (h1:1≤s→x.1=true→x.2.1=false→g.Der [(s:Int)] x.2.2) (h0:s=0→x.2.2=[]) (hd:∀ t∈x.2.2,0≤t∧t<(m:Int)) (hl:x.2.2.length≤4096):FOk g m (g5 F s x):=by
 refine ⟨fun t ht htm=>?_, ?_,fun t htm=>?_,fun t htm=>?_⟩
 ·unfold g5;by_cases e:t=s
  ·subst e;rw [if_pos rfl];exact h1 ht
  ·rw [if_neg e];exact h.der t ht htm
 ·unfold g5;by_cases e:0=s
  ·rw [if_pos e];exact h0 e.symm
  ·rw [if_neg e];exact h.zero
 ·unfold g5;by_cases e:t=s
  ·rw [if_pos e];exact hd
  ·rw [if_neg e];exact h.dig t htm
 ·unfold g5;by_cases e:t=s
  ·rw [if_pos e];exact hl
  ·rw [if_neg e];exact h.len t htm
theorem Wo.stores {w:World} {N bw bF m:Nat} {F:Nat→Fd} {V:Nat→Value} (h:Wo w N bw bF m F V) {s:Nat} (hs:s<m) (u0 u1:Value):
  (∃ v,w.cell? ⟨bF,s*3,none⟩=some v)∧w.frozen? ⟨bF,s*3,none⟩=false∧
  (∃ v,(w.setCell ⟨bF,s*3,none⟩ u0).cell? ⟨bF,s*3+1,none⟩=some v)∧(w.setCell ⟨bF,s*3,none⟩ u0).frozen? ⟨bF,s*3+1,none⟩=false∧
  (∃ v,((w.setCell ⟨bF,s*3,none⟩ u0).setCell ⟨bF,s*3+1,none⟩ u1).cell? ⟨bF,s*3+2,none⟩=some v)∧((w.setCell ⟨bF,s*3,none⟩ u0).setCell ⟨bF,s*3+1,none⟩ u1).frozen? ⟨bF,s*3+2,none⟩=false:=by
 obtain ⟨cur,h1,h2,h3⟩:=h.row;have g1:=aO h1 (s*3) u0;have g2:=aO g1 (s*3+1) u1;obtain ⟨e1,e2,e3⟩:=h3 s hs;refine ⟨⟨_,aA h1 _ _ e1⟩,by simp [World.frozen?,h1],⟨_,aA g1 _ _ ((Array.getElem?_setIfInBounds_ne (by omega)).trans e2)⟩,by simp [World.frozen?,g1],⟨_,aA g2 _ _ ((Array.getElem?_setIfInBounds_ne (by omega)).trans ((Array.getElem?_setIfInBounds_ne (by omega)).trans e3))⟩,by simp [World.frozen?,g2]⟩
structure Lo (G:Nat→Prop) (w0 wr:World) (bw bF m:Nat) (A0:Option Addr) (c0:Nat) (A1:Option Addr) (c1:Nat) (A2:Option Addr) (c2:Nat) (g:Gm) (F:Nat→Fd) (V:Nat→Value):Prop where
 bx:GBox G wr w0.heap.size A0 c0 A1 c1 A2 c2 g
 wo:Wo wr wr.heap.size bw bF m F V
 ok:FOk g m F
 bel:Below w0.heap.size w0 wr
 lt:w0.heap.size<bw∧w0.heap.size<bF
section
variable {G:Nat→Prop} {w0 wr w':World} {bw bF m:Nat} {A0 A1 A2:Option Addr} {c0 c1 c2:Nat} {g:Gm} {F:Nat→Fd} {V:Nat→Value}
theorem Lo.below (h:Lo G w0 wr bw bF m A0 c0 A1 c1 A2 c2 g F V) (hb:Below wr.heap.size wr w'):Lo G w0 w' bw bF m A0 c0 A1 c1 A2 c2 g F V:=
 ⟨h.bx.on hb,(h.wo.below hb).more hb.size,h.ok,h.bel.trans (hb.mono h.bel.size),h.lt⟩
theorem Lo.put (h:Lo G w0 wr bw bF m A0 c0 A1 c1 A2 c2 g F V) (hGl:∀ k,G k→k<w0.heap.size) {s:Nat} (hs:s<m) {x:Fd} {A:Option Addr} {c:Nat} (hv:aF (TB 3 wr) wr (.slice A x.2.2.length c) x.2.2) (h1:1≤s→x.1=true→x.2.1=false→g.Der [(s:Int)] x.2.2) (h0:s=0→x.2.2=[]) (hd:∀ t∈x.2.2,0≤t∧t<(m:Int)) (hl:x.2.2.length≤4096):
  Lo G w0 (((wr.setCell ⟨bF,s*3,none⟩ (.bool x.1)).setCell ⟨bF,s*3+1,none⟩ (.bool x.2.1)).setCell ⟨bF,s*3+2,none⟩ (.slice A x.2.2.length c)) bw bF m A0 c0 A1 c1 A2 c2 g (g5 F s x) (g5 V s (.slice A x.2.2.length c)):=by
 have hwo:=h.wo.put hs (x:=x) (A:=A) (c:=c) (aH.keep hv (fun k hk=>⟨hk.lt,hk⟩) (fun _ _=>rfl) fun _ _ h=>h) hl;have hlt:=h.lt;have hne:∀ k,k≤w0.heap.size→(((wr.setCell ⟨bF,s*3,none⟩ (.bool x.1)).setCell ⟨bF,s*3+1,none⟩ (.bool x.2.1)).setCell ⟨bF,s*3+2,none⟩ (.slice A x.2.2.length c)).heap[k]? = wr.heap[k]? := fun k hk=>
  have e:k≠bF:=by omega
  ((gU _ _ _ _ e).trans (gU _ _ _ _ e)).trans (gU _ _ _ _ e)
 exact ⟨h.bx.stay hGl hne,hwo.more (by simp),h.ok.put h1 h0 hd hl,((h.bel.setCell (p:=⟨bF,s*3,none⟩) (by simp only;omega) _).setCell (p:=⟨bF,s*3+1,none⟩) (by simp only;omega) _).setCell (p:=⟨bF,s*3+2,none⟩) (by simp only;omega) _,h.lt⟩
end
theorem rR {w:World} {k:Nat} {x:Int} (q:w.heap[k]? = some (.cells #[.int .i64 x] 3 (0,0))):aF (TB 3 w) w (.slice (some ⟨k,0,none⟩) 1 1) [x]:=
 ⟨_,_,rfl,gO _,by unfold maxLen;omega,fun _=>⟨k,0,rfl,⟨_,q⟩,fun i hi=>by
  obtain rfl:i=0:=by simpa using hi
  refine ⟨[.int .i64 x],rfl,rfl,fun j u hj=>?_⟩;obtain rfl:j=0:=by have:=(gY hj).1;simpa using this
  simp at hj;subst hj;exact aA q 0 _ rfl⟩⟩
def nM (g:Gm) (w:World) (e:Ending) (w':World):Prop:=
 (∃ bw bF F V,e=.returned (.pointer (some ⟨bw,0,none⟩))∧Wo w' w'.heap.size bw bF (g.top+1) F V∧FOk g (g.top+1) F∧w.heap.size≤bw∧w.heap.size≤bF)∧Below w.heap.size w w'
theorem EU (G:Nat→Prop) (w:World) (vs:List Value) (g:Gm) (hG:∀ k,G k→k<w.heap.size) (hg:GmV G w vs g) (hw:GW g):
  Calls Tryz.prog 46 #[ag vs] w fun e w'=>nM g w e w':=by
 obtain ⟨A0,c0,A1,c1,A2,c2,W,ev,hW,⟨x0,x1,x2,x3⟩,HB,HX⟩:=GBox.go hG hg;rw [ev];have HG:=Ha hG;clear hG hg ev;have h2:=kR G;have h3:=jN G;have h4:=DG G;unfold ag at h2 h3 h4;have H2:=Ha h2;have H3:=Ha h3;have H4:=Ha h4;have HW:=Ha hw;have hlt:=hw.top;obtain ⟨m,hm⟩:∃ m,m=g.top+1:=⟨_,rfl⟩;have HM:=Ha hm;have hm1:IntKind.i64.wrap ((g.top:Int)+1)=(m:Int):=by rw [hm];exact IntWalk.i64_in _ (by omega)
 have hml:m≤241:=by omega
 have hm2:2≤m:=by omega
 clear h2 h3 h4 hw hm;go_enter Tryz.func46,Tryz.ntmps46;go_wp2_with fail;refine (H2.out _ _ g HX.out.old HX.out.gm HW.out).mono ?_;rintro e w1 ⟨rfl,hb1⟩;have HX1:=Ha (HX.out.on hb1);have HB1:=Ha (HB.out.trans (hb1.mono HB.out.size));clear x0 x1 x2 x3 hb1;obtain ⟨x0,x1,x2,x3⟩:=HX1.out.cells;go_wp2_with fail;refine (H3.out _ _ g HX1.out.old HX1.out.gm (by omega)).mono ?_;rintro e w2 ⟨rfl,hb1⟩;have HX2:=Ha (HX1.out.on hb1);have HB2:=Ha (HB1.out.trans (hb1.mono HB1.out.size));clear x0 x1 x2 x3 hb1;obtain ⟨x0,x1,x2,x3⟩:=HX2.out.cells;have hmk:=EW w2 (m:=m) (by omega);have hbm:Below w2.heap.size w2 (w2.alloc (.cells (madeCells #[.bool false,.bool false,.slice none 0 0] (m*3)) 181)):=(gR _ _).alloc (gO _) _;have qm:=aC w2 (.cells (madeCells #[.bool false,.bool false,.slice none 0 0] (m*3)) 181);have hzm:(w2.alloc (.cells (madeCells #[.bool false,.bool false,.slice none 0 0] (m*3)) 181)).heap.size=w2.heap.size+1:=by simp
 generalize hWm:w2.alloc (.cells (madeCells #[.bool false,.bool false,.slice none 0 0] (m*3)) 181)=wm at *;have hbb:Below wm.heap.size wm (wm.alloc (.cells #[.slice (some ⟨w2.heap.size,0,none⟩) m m] 179)):=(gR _ _).alloc (gO _) _;have qb:=aC wm (.cells #[.slice (some ⟨w2.heap.size,0,none⟩) m m] 179);have hzb:(wm.alloc (.cells #[.slice (some ⟨w2.heap.size,0,none⟩) m m] 179)).heap.size=wm.heap.size+1:=by simp
 generalize hWb:wm.alloc (.cells #[.slice (some ⟨w2.heap.size,0,none⟩) m m] 179)=wb at *;have hbmb:Below w2.heap.size w2 wb:=hbm.trans (hbb.mono hbm.size);have hwlt:w.heap.size<w2.heap.size:=by have:=HX2.out.lt;omega
 have HLo:=Ha (show Lo G w wb wm.heap.size w2.heap.size m A0 c0 A1 c1 A2 c2 g (fun _=>(false,false,[])) (fun _=>.slice none 0 0) from
  ⟨HX2.out.on hbmb,⟨qb,⟨_,(hbb.block _ (by omega)).trans qm,size_madeCells _ _,fun s hs=>G9 m hs⟩,fun s _=>⟨none,0,rfl,⟨none,0,rfl,gO _,gX _,fun h=>absurd h (Nat.lt_irrefl 0)⟩,gX _⟩⟩,⟨fun _ _ _ h=>by simp at h,rfl,fun _ _ _ h=>by simp at h,fun _ _=>by simp⟩,HB2.out.trans (hbmb.mono HB2.out.size),by omega,by omega⟩)
 generalize hbF:w2.heap.size=bF at *;generalize hbw:wm.heap.size=bw at *;have y0:=aA HLo.out.wo.box 0 _ rfl;obtain ⟨⟨_,s1⟩,f1,⟨_,s2⟩,f2,⟨_,s3⟩,f3⟩:=HLo.out.wo.stores (show 0<m by omega) (.bool true) (.bool false);have hput:=HLo.out.put HG.out (show 0<m by omega) (x:=(true,false,[])) (A:=none) (c:=0) ⟨none,0,rfl,gO _,gX _,fun h=>absurd h (Nat.lt_irrefl 0)⟩ (fun h=>absurd h (by decide)) (fun _=>rfl) (fun _ h=>by cases h) (gX _);have hone:(((wb.setCell ⟨bF,0*3,none⟩ (.bool true)).setCell ⟨bF,0*3+1,none⟩ (.bool false)).setCell ⟨bF,0*3+2,none⟩ (.slice none 0 0))=wb.setCell ⟨bF,0,none⟩ (.bool true):=by
  obtain ⟨cur,h1,h2,h3⟩:=HLo.out.wo.row;have g1:=aO h1 0 (.bool true);obtain ⟨e1,e2,e3⟩:=h3 0 (by omega);have k1:(wb.setCell ⟨bF,0,none⟩ (.bool true)).setCell ⟨bF,1,none⟩ (.bool false)=wb.setCell ⟨bF,0,none⟩ (.bool true):=cC g1 ((Array.getElem?_setIfInBounds_ne (by omega)).trans e2);have k2:(wb.setCell ⟨bF,0,none⟩ (.bool true)).setCell ⟨bF,2,none⟩ (.slice none 0 0)=wb.setCell ⟨bF,0,none⟩ (.bool true):=cC g1 ((Array.getElem?_setIfInBounds_ne (by omega)).trans e3);show ((wb.setCell ⟨bF,0,none⟩ (.bool true)).setCell ⟨bF,1,none⟩ (.bool false)).setCell ⟨bF,2,none⟩ (.slice none 0 0)=_;rw [k1,k2]
 have hput2:Lo G w (((wb.setCell ⟨bF,0*3,none⟩ (.bool true)).setCell ⟨bF,0*3+1,none⟩ (.bool false)).setCell ⟨bF,0*3+2,none⟩ (.slice none 0 0)) bw bF m A0 c0 A1 c1 A2 c2 g (g5 (fun _=>(false,false,[])) 0 (true,false,[])) (g5 (fun _=>.slice none 0 0) 0 (.slice none 0 0)):=hput;rw [hone] at hput2;have HLo2:=Ha hput2;clear hput hput2 hone hbm qm hzm hbb qb hzb hbmb hwlt s2 f2 s3 f3 x0 x1 x2 x3 HX2 HB2 hbF;have hmi:(0:Int)<(m:Int):=by omega
 rw [Nat.zero_mul] at s1 f1;generalize hWC:wb.setCell ⟨bF,0,none⟩ (.bool true)=wc at *;go_wp2_with fail
 go_loopw [4] (fun iv wr=>∃ (s:Nat) (F:Nat→Fd) (V:Nat→Value),1≤s∧s≤g.terms.length+1∧iv=.int .i64 s∧Lo G w wr bw bF m A0 c0 A1 c1 A2 c2 g F V) (fun iv _=>g.terms.length+1-(intOf iv).toNat)
 case atStart=>exact ⟨1,_,_,gO _,by omega,rfl,HLo2.out⟩
 case round=>
  obtain ⟨s,F,V,hs1,hs2,rfl,hlo⟩:=hrel;have HL:=Ha hlo;clear hlo HLo HLo2 s1 f1 y0 hmk;obtain ⟨x0,x1,x2,x3⟩:=HL.out.bx.cells;have htl:g.terms.length≤g.top:=by unfold Gm.top;omega
  have HC:=Ha (H4.out wr _ g (s:Int) HL.out.bx.old HL.out.bx.gm);by_cases hT:g.T (s:Int)
  ·rw [decide_eq_true hT] at HC;have HT:=Ha hT;have hst:s≤g.terms.length:=by unfold Gm.T at hT;omega
   clear hT;go_wp2_with fail;refine (HC.out).mono ?_;rintro e wa ⟨rfl,hba⟩;have hla:=HL.out.below hba;have hbi:Below wa.heap.size wa (wa.alloc (.cells #[.int .i64 s] 3)):=(gR _ _).alloc (gO _) _;have qi:=aC wa (.cells #[.int .i64 s] 3);have yb:=aA hla.wo.box 0 _ rfl;generalize hWI:wa.alloc (.cells #[.int .i64 s] 3)=wi at *;have hli:=hla.below hbi;have yi:=aA hli.wo.box 0 _ rfl;have hsm:s<m:=by have:=HM.out;omega
   obtain ⟨⟨_,s1⟩,f1,⟨_,s2⟩,f2,⟨_,s3⟩,f3⟩:=hli.wo.stores hsm (.bool true) (.bool false);have HP:=Ha (hli.put HG.out hsm (x:=(true,false,[(s:Int)])) (rR qi) (fun _ _ _=>(Gm.Der.of_term HW.out.kn HT.out).2 rfl) (fun h=>by omega) (fun t ht=>by
    rw [gV] at ht;subst ht;omega) (by simp))
   clear hla hbi qi hli hba x0 x1 x2 x3;go_wp2_with fail
   go_roundw
   case rel=>exact ⟨s+1,_,_,by omega,by omega,by go_num,HP.out⟩
   case measure=>simp only [intOf];omega
  ·rw [decide_eq_false hT] at HC;clear hT;go_wp2_with fail;refine (HC.out).mono ?_;rintro e wa ⟨rfl,hba⟩;have HLa:=Ha (HL.out.below hba);clear hba x0 x1 x2 x3 HL;go_wp2_with fail;refine (tW wa).mono ?_;rintro e w4 ⟨rfl,hb4⟩;have q5:=aC w4 (.cells #[.func (.func 166) #[] #[]] 184);have hb5:Below w4.heap.size w4 (w4.alloc (.cells #[.func (.func 166) #[] #[]] 184)):=(gR _ _).alloc (gO _) _;generalize hbo:w4.heap.size=bo at *;generalize hW5:w4.alloc (.cells #[.func (.func 166) #[] #[]] 184)=w5 at *;have HL5:=Ha ((HLa.out.below hb4).below (hbo.symm▸hb5));have HQ5:=Ha q5;clear hb4 hb5 q5 HLa;go_wp2_with fail
   go_loopw [6] (fun mv wr=>∃ (mo:Bool) (F:Nat→Fd) (V:Nat→Value),mv=.bool mo∧Lo G w wr bw bF m A0 c0 A1 c1 A2 c2 g F V∧wr.heap[bo]? = some (.cells #[.func (.func 166) #[] #[]] 184 (0,0))) (fun mv wr=>2*mWo wr bF m+fF mv)
   case atStart=>exact ⟨true,_,_,rfl,HL5.out,HQ5.out⟩
   case round=>
    obtain ⟨mo,F1,V1,rfl,hlo,hqo⟩:=hrel;have HL:=Ha hlo;have HQ:=Ha hqo;clear hlo hqo HL5 HQ5;cases mo
    ·go_wp2_with fail;go_ret;refine ⟨⟨bw,bF,F1,V1,rfl, ?_, ?_,Nat.le_of_lt HL.out.lt.1,Nat.le_of_lt HL.out.lt.2⟩,HL.out.bel⟩
     ·rw [← HM.out];exact HL.out.wo
     ·rw [← HM.out];exact HL.out.ok
    ·obtain ⟨x0,x1,x2,x3⟩:=HL.out.bx.cells;obtain ⟨M0,hM0⟩:∃ M0,M0=mWo wr bF m:=⟨_,rfl⟩;have HM0:=Ha hM0;have hlr:=HW.out.lr;clear hM0;go_wp2_with fail
     go_loopw [6,44] (fun mv iv wr=>∃ (mo:Bool) (i:Nat) (F:Nat→Fd) (V:Nat→Value),mv=.bool mo∧iv=.int .i64 i∧i≤g.rules.length∧Lo G w wr bw bF m A0 c0 A1 c1 A2 c2 g F V∧wr.heap[bo]? = some (.cells #[.func (.func 166) #[] #[]] 184 (0,0))∧mWo wr bF m≤M0∧(mo=true→mWo wr bF m<M0)) (fun _ iv _=>g.rules.length-(intOf iv).toNat)
     case atStart=>exact ⟨false,0,F1,V1,rfl,rfl,gX _,HL.out,HQ.out,Nat.le_of_eq HM0.out.symm,fun h=>by cases h⟩
     case round=>
      obtain ⟨mo,i,F2,V2,rfl,rfl,hi,hlo,hqo,hle,hlt2⟩:=hrel;obtain ⟨HL2,HQ2,HLT⟩:=hs3 hlo hqo (gS hle hlt2);have HLW:=Ha HL2.out.wo.meas;clear hlo hqo HL HQ x0 x1 x2 x3 hle hlt2;by_cases hil:i<g.rules.length
      ·obtain ⟨br,off,Ar,cr,rfl,z0,z1,hri⟩:=HL2.out.bx.rule hil;obtain ⟨lf,hlf⟩:∃ lf:Nat,g.rules[i].1=(lf:Int):=⟨g.rules[i].1.toNat,by have:=HW.out.kn.left _ (gN hil);unfold Gm.N at this;omega⟩;have HLF:=Ha (show lf<m∧1≤lf∧g.N (lf:Int) from by
        have h1:=HW.out.kn.left _ (gN hil);rw [hlf] at h1;have h2:=h1;unfold Gm.N at h2;have:=HM.out;exact ⟨by omega,by omega,h1⟩)
       have hlm:=HLF.out.1;rw [hlf] at z0;obtain ⟨rr,hrr⟩:∃ rr,rr=g.rules[i].2:=⟨_,rfl⟩;rw [← hrr] at z1 hri;have HRU:=Ha (show ((lf:Int),rr)∈g.rules from by rw [← hlf,hrr];exact gN hil);have HRS:=Ha (show ∀ s∈rr,1≤s∧s<(m:Int) from fun s hs=>by
        have h1:=HW.out.kn.right _ (gN hil) s (hrr▸hs);have:=HM.out;have htl2:g.terms.length≤g.top:=by unfold Gm.top;omega
        unfold Gm.T Gm.N at h1;omega)
       have hb6:Below wr.heap.size wr (wr.alloc (.cells #[.int .i64 lf,.slice Ar rr.length cr] 64)):=(gR _ _).alloc (gO _) _;have q6:=aC wr (.cells #[.int .i64 lf,.slice Ar rr.length cr] 64);generalize hb8:wr.heap.size=b8 at *;generalize hW6:wr.alloc (.cells #[.int .i64 lf,.slice Ar rr.length cr] 64)=w6 at *;have HL6:=Ha (HL2.out.below (hb8.symm▸hb6));have HRI6:=Ha (aF.below HL2.out.bx.old (hb8.symm▸hb6) hri);have HJ:=Ha (BT G w6 bw bF m F2 V2 Ar cr rr HL6.out.wo HL6.out.bx.old HRI6.out);have HB6:=Ha (show Below wr.heap.size wr w6 from hb8.symm▸hb6);obtain ⟨a0,a1,_,_⟩:=aM q6 rfl;have HQ6:=Ha q6;clear hri hlf hrr hb6 q6;have HJ':=HJ.out;unfold dP at HJ';obtain ⟨x,hx⟩:∃ x,x=jn F2 m rr:=⟨_,rfl⟩;have HD:=Ha (show (x.1=true→x.2.1=false→g.Der rr x.2.2)∧(∀ t∈x.2.2,0≤t∧t<(m:Int))∧x.2.2.length≤4096 from by
        rw [hx];exact ⟨BR HL2.out.ok HRS.out,BS HL2.out.ok.dig rr⟩)
       rw [← hx] at HJ';clear HJ hx;obtain ⟨xo,xl,xw⟩:=x;simp only at HJ' HD;have HJ:=Ha HJ';clear HJ';go_wp2_with fail
       with_reducible refine Calls.mono HJ.out ?_
       rintro e w7 ⟨⟨Aj,cj,rfl,hji,_⟩,hb7⟩;have hb8':Below w7.heap.size w7 (w7.alloc (.cells #[.bool xo,.bool xl,.slice Aj xw.length cj] 181)):=(gR _ _).alloc (gO _) _;have q9:=aC w7 (.cells #[.bool xo,.bool xl,.slice Aj xw.length cj] 181);generalize hb9:w7.heap.size=b9 at *;generalize hW8:w7.alloc (.cells #[.bool xo,.bool xl,.slice Aj xw.length cj] 181)=w8 at *;have hb78:Below w7.heap.size w7 w8:=hb9.symm▸hb8';have hb68:Below w6.heap.size w6 w8:=hb7.trans (hb78.mono hb7.size);obtain ⟨HL8,HQ8,HQ68,HQ9⟩:=hs4 (HL6.out.below hb68) ((hb68.block _ (gK (gL HQ2.out).1 HB6.out.size)).trans ((HB6.out.block _ (gL HQ2.out).1).trans HQ2.out)) ((hb68.block _ (gL HQ6.out).1).trans HQ6.out) q9;have hji8:aF (TB 3 w8) w8 (.slice Aj xw.length cj) xw:=aH.keep hji (fun k hk=>hk.2.of_eq (hb78.block _ hk.2.lt)) (fun p hp=>gM (hb78.block _ hp.2.lt)) fun _ _ h=>h;obtain ⟨Ay,cy,k0,k1,k2,hat,hyl⟩:=HL8.out.wo.cells hlm;rcases hF:F2 lf with ⟨yo,yl,yw⟩
       rw [hF] at k0 k1 k2 hat hyl;simp only at k0 k1 k2 hat hyl;have hat8:aF (TB 3 w8) w8 (.slice Ay yw.length cy) yw:=aH.keep hat (fun k hk=>hk.2) (fun _ _=>rfl) fun _ _ h=>h;have HBT:=Ha (zJ (TB 3 w8) w8.drew (xo,xl,xw) (yo,yl,yw) Aj Ay cj cy (fun _ h=>h.lt) hji8 hat8);obtain ⟨bt,hbt⟩:∃ bt,bt=zI (xo,xl,xw) (yo,yl,yw):=⟨_,rfl⟩;rw [← hbt] at HBT;have HRK:=Ha (show bt=true→mL m (xo,xl,xw)<mL m (F2 lf) from fun h=>by
        have hy:=HL8.out.ok.dig lf hlm;rw [hF] at hy ⊢;exact qZ hm2 HD.out.2.1 hy HD.out.2.2 (hbt.symm.trans h))
       have HJI:=Ha hji8;obtain ⟨c0',c1',c2',_,_,_⟩:=aP q9 rfl;have HSS:=Ha (show (fun X:World=>X.cell? ⟨bo,0,none⟩=some (.func (.func 166) #[] #[])∧X.cell? ⟨b9,0,none⟩=some (.bool xo)∧X.cell? ⟨b9,1,none⟩=some (.bool xl)∧X.cell? ⟨b9,2,none⟩=some (.slice Aj xw.length cj)∧X.cell? ⟨bw,0,none⟩=some (.slice (some ⟨bF,0,none⟩) m m)∧X.cell? ⟨b8,0,none⟩=some (.int .i64 lf)∧X.cell? ⟨bF,lf*3,none⟩=some (.bool yo)∧X.cell? ⟨bF,lf*3+1,none⟩=some (.bool yl)∧X.cell? ⟨bF,lf*3+2,none⟩=some (.slice Ay yw.length cy)) w8.drew from ⟨aA HQ8.out 0 _ rfl,c0',c1',c2',aA HL8.out.wo.box 0 _ rfl,aA HQ68.out 0 _ rfl,k0,k1,k2⟩);clear hb8' q9 hb78 hb68 hji hji8 hat hat8 hF hbt hb7 k0 k1 k2 hyl c0' c1' c2' HQ2 HL2 HL6 HJ HRI6 z0 z1 a0 a1;go_wp2_with fail;refine aE.start 11 (fun X=>X.cell? ⟨bo,0,none⟩=some (.func (.func 166) #[] #[])∧X.cell? ⟨b9,0,none⟩=some (.bool xo)∧X.cell? ⟨b9,1,none⟩=some (.bool xl)∧X.cell? ⟨b9,2,none⟩=some (.slice Aj xw.length cj)∧X.cell? ⟨bw,0,none⟩=some (.slice (some ⟨bF,0,none⟩) m m)∧X.cell? ⟨b8,0,none⟩=some (.int .i64 lf)∧X.cell? ⟨bF,lf*3,none⟩=some (.bool yo)∧X.cell? ⟨bF,lf*3+1,none⟩=some (.bool yl)∧X.cell? ⟨bF,lf*3+2,none⟩=some (.slice Ay yw.length cy)) (by kernel_rfl) ?hs_1 (fun hHeld=>?hr_1)
       case hs_1=>exact HSS.out
       refine aE.tks [0,1,2,3,4,5,6,7,8,9] ?_
       iterate 10
        refine aK.cons ?_;simp only [gA,gB,gC,Act.put,gD,gE,gF]
       show aE _ _ _ _ _ _ _ _ _ _;refine aE.one (i:=10) fun K hK=>?_;simp only [gA,gB,gC]
       go_simp
       with_reducible refine Calls.mono HBT.out ?_
       rintro e w9 ⟨rfl,hb9'⟩;have hl9:=(HL8.out.below (gR _ _).drew).below hb9';have hb89:Below w8.heap.size w8 w9:=(gR _ _).drew.trans hb9';have HS9:=Ha (show (fun X=>X.cell? ⟨bo,0,none⟩=some (.func (.func 166) #[] #[])∧X.cell? ⟨b9,0,none⟩=some (.bool xo)∧X.cell? ⟨b9,1,none⟩=some (.bool xl)∧X.cell? ⟨b9,2,none⟩=some (.slice Aj xw.length cj)∧X.cell? ⟨bw,0,none⟩=some (.slice (some ⟨bF,0,none⟩) m m)∧X.cell? ⟨b8,0,none⟩=some (.int .i64 lf)∧X.cell? ⟨bF,lf*3,none⟩=some (.bool yo)∧X.cell? ⟨bF,lf*3+1,none⟩=some (.bool yl)∧X.cell? ⟨bF,lf*3+2,none⟩=some (.slice Ay yw.length cy)) w9 from by
        have h:=HSS.out;exact ⟨aD h.1 hb9',aD h.2.1 hb9',aD h.2.2.1 hb9',aD h.2.2.2.1 hb9',aD h.2.2.2.2.1 hb9',aD h.2.2.2.2.2.1 hb9',aD h.2.2.2.2.2.2.1 hb9',aD h.2.2.2.2.2.2.2.1 hb9',aD h.2.2.2.2.2.2.2.2 hb9'⟩)
       have HMW:=Ha (show mWo w9 bF m≤M0∧(mo=true→mWo w9 bF m<M0) from by
        have h1:=HLT.out;rw [hl9.wo.meas];rw [HLW.out] at h1;exact h1)
       obtain ⟨HL9,HQO9,HJI9⟩:=hs3 hl9 ((hb89.block _ (gL HQ8.out).1).trans HQ8.out) (show aF (TB 3 w9.drew) w9.drew (.slice Aj xw.length cj) xw from aH.keep HJI.out (fun k hk=>hk.of_eq (hb89.block _ hk.lt)) (fun p hp=>gM (hb89.block _ hp.lt)) fun _ _ h=>h);clear hl9 hb89 hb9' HL8 HQ8 HJI HBT;dsimp only;refine hK.out _ _ ?_ (fun hHeld=>?_)
       ·exact HS9.out
       clear hK K;try simp only [Act.put,gD,gE,gF]
       refine aE.done (by kernel_rfl) ?_ _;cases bt
       ·go_wp2_with fail
        go_roundw
        case rel=>exact ⟨mo,i+1,F2,V2,rfl,by go_num,hil,HL9.out,HQO9.out,HMW.out.1,HMW.out.2⟩
        case measure=>simp only [intOf];omega
       ·have HR:=Ha (HRK.out rfl);have hld:=HL9.out.below (gR _ _).drew;have hfz:∀ j,w9.frozen? ⟨bF,j,none⟩=false:=fun j=>by
         obtain ⟨cur,h1,_⟩:=HL9.out.wo.row;simp [World.frozen?,h1]
        have fz1:=hfz (lf*3+1);have fz2:=hfz (lf*3+2);obtain ⟨⟨_,s1⟩,f1,⟨_,s2⟩,f2,⟨_,s3⟩,f3⟩:=hld.wo.stores hlm (.bool xo) (.bool xl);have hput:=hld.put HG.out hlm (x:=(xo,xl,xw)) (A:=Aj) (c:=cj) HJI9.out (fun _ h1 h2=>(Gm.Der.of_rule HLF.out.2.2).2 ⟨rr,HRU.out,HD.out.1 h1 h2⟩) (fun h=>by have:=HLF.out.2.1;omega) HD.out.2.1 HD.out.2.2;have hbf:bo≠bF:=TB.ne (T:=184) ⟨_,HQO9.out⟩ HL9.out.wo.tb (by decide);have HQX:=Ha (((gU _ _ _ _ hbf).trans (gU _ _ _ _ hbf)).trans ((gU _ _ _ _ hbf).trans HQO9.out):(((w9.drew.setCell ⟨bF,lf*3,none⟩ (.bool xo)).setCell ⟨bF,lf*3+1,none⟩ (.bool xl)).setCell ⟨bF,lf*3+2,none⟩ (.slice Aj xw.length cj)).heap[bo]? = _);have HPUT:=Ha hput;have HRP:=Ha (show mWo (((w9.drew.setCell ⟨bF,lf*3,none⟩ (.bool xo)).setCell ⟨bF,lf*3+1,none⟩ (.bool xl)).setCell ⟨bF,lf*3+2,none⟩ (.slice Aj xw.length cj)) bF m<M0 from by
         have h1:=hput.wo.meas;have h2:=CN hlm HR.out;have h3:=HMW.out.1;rw [HL9.out.wo.meas] at h3;exact gK (Nat.lt_of_le_of_lt (Nat.le_of_eq h1) h2) h3)
        have HSX:=Ha (show (fun X:World=>X.cell? ⟨b9,0,none⟩=some (.bool xo)∧X.cell? ⟨b9,1,none⟩=some (.bool xl)∧X.cell? ⟨b9,2,none⟩=some (.slice Aj xw.length cj)∧X.cell? ⟨bw,0,none⟩=some (.slice (some ⟨bF,0,none⟩) m m)∧X.cell? ⟨b8,0,none⟩=some (.int .i64 lf)) w9.drew from by
         have h:=HS9.out;exact ⟨h.2.1,h.2.2.1,h.2.2.2.1,h.2.2.2.2.1,h.2.2.2.2.2.1⟩)
        clear hfz hld hput hbf HL9 HQO9 HMW HS9 HSS HRK;go_wp2_with fail;refine aE.start 8 (fun X=>X.cell? ⟨b9,0,none⟩=some (.bool xo)∧X.cell? ⟨b9,1,none⟩=some (.bool xl)∧X.cell? ⟨b9,2,none⟩=some (.slice Aj xw.length cj)∧X.cell? ⟨bw,0,none⟩=some (.slice (some ⟨bF,0,none⟩) m m)∧X.cell? ⟨b8,0,none⟩=some (.int .i64 lf)) (by kernel_rfl) ?hs_2 (fun hHeld=>?hr_2)
        case hs_2=>exact HSX.out
        refine aE.tks [0,1,2,3,4,5,6,7] ?_
        iterate 8
         refine aK.cons ?_;simp only [gA,gB,gC,Act.put,gD,gE,gF]
        show aE _ _ _ _ _ _ _ _ _ _;refine aE.last fun K hK=>?_;simp only [gA,gB,gC]
        go_simp
        refine hK.out _ _ (aE.done (by kernel_rfl) ?_ _);go_wp2_with fail
        go_roundw
        case rel=>exact ⟨true,i+1,_,_,rfl,by go_num,hil,HPUT.out,HQX.out,Nat.le_of_lt HRP.out,fun _=>HRP.out⟩
        case measure=>simp only [intOf];omega
      ·obtain rfl:i=g.rules.length:=by omega
       have HMM:=Ha HLT.out;clear hil HLT;cases mo
       ·go_wp2_with fail
        go_roundw
        case rel=>exact ⟨false,F2,V2,rfl,HL2.out,HQ2.out⟩
        case measure=>
         have h1:=HMM.out.1;have h2:=HM0.out;simp only [fF];omega
       ·go_wp2_with fail
        go_roundw
        case rel=>exact ⟨true,F2,V2,rfl,HL2.out,HQ2.out⟩
        case measure=>
         have h1:=HMM.out.2 rfl;have h2:=HM0.out;simp only [fF];omega
structure Ro (w:World) (br bW n:Nat) (W:Nat→Option (List Int)) (V:Nat→Value) (vw:Value):Prop where
 box:w.heap[br]? = some (.cells #[.slice (some ⟨bW,0,none⟩) n n,vw] 96 (0,0))
 row:w.rowIs bW 26 n V
 its:∀ i,i<n→match W i with
  | none=>V i=.slice none 0 0
  | some l=>∃ b c,V i=.slice (some ⟨b,0,none⟩) l.length c∧aF (TB 3 w) w (V i) l
theorem Ro.below {w w':World} {br bW n:Nat} {W:Nat→Option (List Int)} {V:Nat→Value} {vw:Value} (h:Ro w br bW n W V vw) (hb:Below w.heap.size w w'):Ro w' br bW n W V vw:=
 ⟨(hb.block _ (gL h.box).1).trans h.box,bK h.row hb,fun i hi=>by
  have h1:=h.its i hi;cases hW:W i with
  | none=>rw [hW] at h1;exact h1
  | some l=>
   rw [hW] at h1;obtain ⟨b,c,h2,h3⟩:=h1;exact ⟨b,c,h2,aH.keepT h3 fun k hk=>hb.block _ hk.lt⟩⟩
theorem II (w:World) (br bW n:Nat) (W:Nat→Option (List Int)) (V:Nat→Value) (vw:Value) (h:Ro w br bW n W V vw):
  Calls Tryz.prog 110 #[.pointer (some ⟨br,0,none⟩)] w fun e w'=>e=.returned (.int .i64 n)∧w'=w:=by
 have y0:=aA h.box 0 _ rfl;clear h;go_enter Tryz.func110,Tryz.ntmps110;go_wp2_with fail;go_ret;exact ⟨rfl,rfl⟩
theorem BN {w:World} {k:Nat} {l:List Int} (q:w.heap[k]? = some (.cells (l.map (Value.int .i64)).toArray 3 (0,0))) (hl:l.length≤1000000):aF (TB 3 w) w (.slice (some ⟨k,0,none⟩) l.length l.length) l:=
 ⟨_,_,rfl,gO _,by unfold maxLen;omega,fun _=>⟨k,0,rfl,⟨_,q⟩,fun i hi=>by
  refine ⟨[.int .i64 l[i]],rfl,rfl,fun j u hj=>?_⟩;obtain rfl:j=0:=by have:=(gY hj).1;simpa using this
  simp at hj;subst hj;exact aA q _ _ (by simp [hi])⟩⟩
theorem B5 (G:Nat→Prop) (w:World) (b0 c:Nat) (l:List Int) (s:Int) (hG:∀ k,G k→k<w.heap.size) (hl:aF G w (.slice (some ⟨b0,0,none⟩) l.length c) l) (hll:l.length≤100000):
  Calls Tryz.prog 47 #[.slice (some ⟨b0,0,none⟩) l.length c,.int .i64 s] w fun e w'=>(∃ b,e=.returned (.slice (some ⟨b,0,none⟩) (l++[s]).length (l++[s]).length)∧w.heap.size≤b∧aF (TB 3 w') w' (.slice (some ⟨b,0,none⟩) (l++[s]).length (l++[s]).length) (l++[s]))∧Below w.heap.size w w':=by
 obtain ⟨n,hn⟩:∃ n,n=l.length+1:=⟨_,rfl⟩;have hm1:IntKind.i64.wrap ((l.length:Int)+1)=(n:Int):=by rw [hn];exact IntWalk.i64_in _ (by omega)
 have hmk:=run_make_row' (P:=Tryz.prog) 26 3 (.int .i64 0) 8 Tryz.underlying26 cB rfl .i64 .i64 n (by omega) (by omega) w;have q1:=aC w (.cells (madeCells #[.int .i64 0] n) 3);have hb1:Below w.heap.size w (w.alloc (.cells (madeCells #[.int .i64 0] n) 3)):=(gR _ _).alloc (gO _) _;generalize hW1:w.alloc (.cells (madeCells #[.int .i64 0] n) 3)=w1 at *;have hl1:=aF.below hG hb1 hl;have hi:(Tryz.prog.info? 3).map (·.size)=some 1:=by kernel_rfl
 have hcp:=run_copy_row Tryz.prog w1 26 26 3 3 w.heap.size 0 n n ⟨b0,0,none⟩ l.length c _ 3 (l.map (Value.int .i64)) Tryz.underlying26 hi q1 (by rw [List.length_map];show _=min _ _;omega) (fun j v hj=>by
  have hj2:=(gY hj);obtain ⟨hj3,hj4⟩:=hj2;have hj5:j<l.length:=by simpa using hj3
  obtain ⟨bb,off,e,hc⟩:=aF.get hl1 hj5
  injection e with e
  injection e with e1 e2
  subst e1 e2;have e:(⟨b0,0,none⟩:Addr).add j=⟨b0,0+j,none⟩:=by unfold Addr.add;split <;> simp_all
  rw [e,hc,← hj4];simp) (by rw [List.length_map,size_madeCells];omega) (fun v hv=>by
  obtain ⟨x,_,rfl⟩:=List.mem_map.1 hv;rfl)
 have hrow:((madeCells #[Value.int .i64 0] n).toList.take 0++l.map (Value.int .i64)++(madeCells #[Value.int .i64 0] n).toList.drop (0+(l.map (Value.int .i64)).length)).toArray=(l.map (Value.int .i64)++[Value.int .i64 0]).toArray:=by
  rw [toList_madeCells_one,List.length_map,hn];simp
 rw [hrow] at hcp;have q2:(w1.setRow w.heap.size (l.map (Value.int .i64)++[Value.int .i64 0]).toArray).heap[w.heap.size]? = some (.cells (l.map (Value.int .i64)++[Value.int .i64 0]).toArray 3 (0,0)):=dA q1;have hb2:Below w.heap.size w (w1.setRow w.heap.size (l.map (Value.int .i64)++[Value.int .i64 0]).toArray):=hb1.trans ⟨rfl,rfl,rfl,by simp [World.setRow],fun k hk=>dS (Nat.ne_of_lt hk)⟩;generalize hW2:w1.setRow w.heap.size (l.map (Value.int .i64)++[Value.int .i64 0]).toArray=w2 at *;have y2:=aA q2 l.length (.int .i64 0) (by simp);have f2:w2.frozen? ⟨w.heap.size,l.length,none⟩=false:=by simp [World.frozen?,q2]
 have q3:(w2.setCell ⟨w.heap.size,l.length,none⟩ (.int .i64 s)).heap[w.heap.size]? = some (.cells ((l++[s]).map (Value.int .i64)).toArray 3 (0,0)):=by
  rw [aO q2];simp
 have HF:=Ha (gS (BN q3 (by simp;omega)) (hb2.setCell (p:=⟨w.heap.size,l.length,none⟩) (gO _) (.int .i64 s)));have HN:=Ha (show (l++[s]).length=n from by simp [hn]);have hln:l.length<n:=by omega
 clear hn hb1 hb2 hl hl1 q1 q2 q3 hrow hG;go_enter Tryz.func47,Tryz.ntmps47;go_wp2_with fail;go_ret;exact ⟨⟨w.heap.size,by rw [HN.out];rfl,gO _,HF.out.1⟩,HF.out.2⟩
section
attribute [local go_sem ↓] aI
theorem D9 (G:Nat→Prop) (w:World) (b0 c:Nat) (l:List Int) (hG:∀ k,G k→k<w.heap.size) (hl:aF G w (.slice (some ⟨b0,0,none⟩) l.length c) l) (hll:l.length≤1000000):
  Calls Tryz.prog 111 #[.slice (some ⟨b0,0,none⟩) l.length c] w fun e w'=>(∃ A c',e=.returned (.slice A l.length c')∧aF (TB 3 w') w' (.slice A l.length c') l)∧Below w.heap.size w w':=by
 have q1:=aC w (.cells #[] 3);have hb1:Below w.heap.size w (w.alloc (.cells #[] 3)):=(gR _ _).alloc (gO _) _;generalize hW1:w.alloc (.cells #[] 3)=w1 at *;have hr1:aG w.heap.size 3 1 cF w1 (.slice (some ⟨w.heap.size,0,none⟩) 0 0) []:=⟨[],trivial,rfl,.inr ⟨_,0,#[],rfl,gO _,q1,gO _,gX _,rfl,rfl⟩⟩;obtain ⟨v',w3,hrun,hr3,hc3,_⟩:=aG.addC 26 Tryz.underlying26 cB rfl (by decide) cF.one 26 hr1 (aF.below hG hb1 hl) (by simp;omega) (by unfold maxLen;simp;omega) hb1.size;have hb3:Below w.heap.size w w3:=hb1.trans (hc3.below (fun k e=>(aG.tb hr1 e).1) hb1.size);rw [List.nil_append] at hr3;have hlk:=aG.look hr3 (G:=TB 3 w3) fun k hk=>(aG.tb hr3 hk).2;obtain ⟨A,c',rfl,_⟩:=aG.shape hr3;have HF:=Ha (gS hlk hb3);clear q1 hb1 hr1 hr3 hc3 hb3 hlk hl hG;have q31:∀ (w:World) (a:Option Addr) (n c:Nat),(binOp .eql 26 (.slice a n c) (.slice none 0 0)).run Tryz.prog w=.ok (.bool a.isNone) w:=fun w a n c=>Lib.run_eql_slice_nil w 26 3 a n c 0 0 Tryz.underlying26;go_enter Tryz.func111,Tryz.ntmps111;go_wp2_with fail;go_ret;exact ⟨⟨A,c',rfl,HF.out.1⟩,HF.out.2⟩
end
open Go.Sort Go.Shelf
section
variable {w w':World} {br bW n:Nat} {W:Nat→Option (List Int)} {V:Nat→Value} {vw:Value}
theorem Ro.tb (h:Ro w br bW n W V vw):TB 26 w bW:=by
 obtain ⟨cs,h1,_⟩:=h.row;exact ⟨cs,h1⟩
theorem iH {T:TypeId} {b o k c:Nat} {l:List Int} (h:aF (TB T w) w (.slice (some ⟨b,o,none⟩) k c) l) (hk:0<k→TB T w b→w'.heap[b]? = w.heap[b]?):aF (TB T w') w' (.slice (some ⟨b,o,none⟩) k c) l:=by
 obtain ⟨A,c',h1,h2,h3,h4⟩:=h;refine ⟨A,c',h1,h2,h3,fun hn=>?_⟩;obtain ⟨b',off,h5,h6,h7⟩:=h4 hn
 injection h1 with e1 e3 _
 rw [h5] at e1
 injection e1 with e1
 injection e1 with e1 e2
 subst e1;have hb:=hk (by omega) h6;refine ⟨b,off,h5,h6.of_eq hb,fun i hi=>?_⟩;obtain ⟨vs,h8,h9,h10⟩:=h7 i hi;exact ⟨vs,h8,h9,fun j u hj=>(gM hb).trans (h10 j u hj)⟩
theorem Ro.keepC {P:Nat→Prop} (h:Ro w br bW n W V vw) (hc:Chg P w w') (h1:¬P br) (h2:¬P bW) (h3:∀ i,i<n→∀ b k c,V i=.slice (some ⟨b,0,none⟩) k c→0<k→TB 3 w b→¬P b):Ro w' br bW n W V vw:=
 ⟨(hc.same _ (gL h.box).1 h1).trans h.box,h.row.of_block (hc.same _ h.tb.lt h2),fun i hi=>by
  have h4:=h.its i hi;cases hW:W i with
  | none=>rw [hW] at h4;exact h4
  | some l=>
   rw [hW] at h4;obtain ⟨b,c,h5,h6⟩:=h4;refine ⟨b,c,h5, ?_⟩;rw [h5] at h6 ⊢;exact iH h6 fun hp ht=>hc.same _ ht.lt (h3 i hi b _ c h5 hp ht)⟩
theorem Ro.put (h:Ro w br bW n W V vw) {t b:Nat} (ht:t<n) {l:List Int} {c:Nat} (hl:aF (TB 3 w) w (.slice (some ⟨b,0,none⟩) l.length c) l):
  Ro (w.setCell ⟨bW,t,none⟩ (.slice (some ⟨b,0,none⟩) l.length c)) br bW n (g4 W t l) (fun i=>if i=t then .slice (some ⟨b,0,none⟩) l.length c else V i) vw:=by
 have hne:∀ k,k≠bW→(w.setCell ⟨bW,t,none⟩ (.slice (some ⟨b,0,none⟩) l.length c)).heap[k]? = w.heap[k]? := fun k hk=>gU _ _ _ _ hk;refine ⟨(hne _ fun e=>TB.ne (T:=96) ⟨_,h.box⟩ h.tb (by decide) e).trans h.box,h.row.set _ _,fun i hi=>?_⟩;unfold g4;by_cases e:i=t
 ·subst e;simp only [if_pos];exact ⟨b,c,rfl,iH hl fun _ hT=>hne _ fun e=>hT.ne h.tb (by decide) e⟩
 ·simp only [if_neg e];have h4:=h.its i hi;cases hW:W i with
  | none=>rw [hW] at h4;exact h4
  | some l'=>
   rw [hW] at h4;obtain ⟨b',c',h5,h6⟩:=h4;refine ⟨b',c',h5, ?_⟩;rw [h5] at h6 ⊢;exact iH h6 fun _ hT=>hne _ fun e=>hT.ne h.tb (by decide) e
def nnW (w:World) (bW n:Nat):Nat:=dY (fun i=>match w.cell? ⟨bW,i,none⟩ with
 | some (.slice none _ _)=>1
 | _=>0) n
theorem Ro.meas (h:Ro w br bW n W V vw):nnW w bW n=cnW W n:=jM n fun i hi=>by
 have h1:=h.row.cell hi;have h4:=h.its i hi;rw [h1];cases hW:W i with
 | none=>rw [hW] at h4;simp only at h4;rw [h4];rfl
 | some l=>
  rw [hW] at h4;obtain ⟨b,c,h5,h6⟩:=h4;rw [h5];rfl
theorem Ro.nil? (h:Ro w br bW n W V vw) {t:Nat} (ht:t<n):(W t=none∧V t=.slice none 0 0)∨∃ l b c,W t=some l∧V t=.slice (some ⟨b,0,none⟩) l.length c∧aF (TB 3 w) w (.slice (some ⟨b,0,none⟩) l.length c) l:=by
 have h4:=h.its t ht;cases hW:W t with
 | none=>rw [hW] at h4;exact .inl ⟨rfl,h4⟩
 | some l=>
  rw [hW] at h4;obtain ⟨b,c,h5,h6⟩:=h4;rw [h5] at h6;exact .inr ⟨l,b,c,rfl,h5,h6⟩
end
theorem FW (W:Nat→List Int):SWO (ltOf fun x y:Nat=>bZ (W x) (W y)) where
 irrefl x:=by unfold ltOf;simp [oD]
 trans x y z h1 h2:=by unfold ltOf at *;simp only [decide_eq_true_eq] at *;exact mC _ _ _ h1 h2
 ntrans x y z h1 h2:=by unfold ltOf at *;simp only [decide_eq_false_iff_not] at *;exact kF _ _ _ h1 h2
def nF (n:Nat) (x:Nat):Value:=.int .i64 ((x % n:Nat):Int)
theorem lX:∀ {us:List (List Value)} {xs:List Int},cZ 1 cF us xs→us.flatten=xs.map (Value.int .i64)
 | [],[],_=>rfl
 | [],_::_,h=>h.elim
 | _::_,[],h=>h.elim
 | vs::us,x::xs,h=>by
  have e:vs=_:=h.1.2;rw [List.flatten_cons,lX h.2,e];rfl
theorem rH:∀ (xs:List Int),cZ 1 cF (xs.map fun x=>[Value.int .i64 x]) xs
 | []=>trivial
 | _::xs=>⟨⟨rfl,rfl⟩,rH xs⟩
theorem jW:∀ (xs:List Int),(xs.map fun x=>[Value.int .i64 x]).flatten=xs.map (Value.int .i64)
 | []=>rfl
 | x::xs=>by rw [List.map_cons,List.flatten_cons,jW xs];rfl
theorem GZ {w:World} {g n:Nat} {cur:Array Value} {e:TypeId} {l:List Int} (hb:w.heap[g]? = some (.cells cur e (0,0))) (ht:cur.toList.take l.length=l.map (Value.int .i64)) (hbd:∀ x∈l,0≤x∧x<n):Holds (nF n) w g 0 (l.map Int.toNat).toArray:=by
 intro j hj;have hj':j<l.length:=by simpa using hj
 refine ⟨?_,by simp [World.frozen?,hb]⟩;have h1:(cur.toList.take l.length)[j]? = (l.map (Value.int .i64))[j]? := by rw [ht]
 rw [List.getElem?_take_of_lt hj'] at h1;have h2:=hbd l[j] (gN hj');simp only [World.cell?,hb,Nat.zero_add];simp only [Option.isSome_none,Bool.false_eq_true,if_false];rw [← Array.getElem?_toList,h1];simp only [List.getElem?_map,List.getElem?_eq_getElem hj',Option.map_some,nF];rw [getElem!_pos _ j hj];simp only [gA,List.getElem_map];rw [Nat.mod_eq_of_lt (by omega)]
 congr 2
 omega
theorem pN {α:Type} {enc:α→Value} {w:World} {g n:Nat} {os:Array Obj} {cur:Array Value} {e:TypeId} {fr:Nat×Nat} (d:Array α) [Inhabited α] (hb:w.heap[g]? = some (.cells cur e fr)):
  (grow (putRow enc (Sort.ahead w n) g 0 d) os).heap[g]? = some (.cells (putCells enc 0 d cur) e fr):=by
 have hg:g<w.heap.size:=(gL hb).1;rw [heap_grow_old _ _ (by simpa using hg)];simp [putRow,mapBlock,Sort.ahead,Array.getElem?_modify,hb,onCells]
theorem fG {α:Type} [Inhabited α] {enc:α→Value} {w:World} {g n:Nat} {os:Array Obj} (d:Array α):w.grownBy (grow (putRow enc (Sort.ahead w n) g 0 d) os) (some g):=by
 refine ⟨rfl,rfl,rfl,by simp,fun k hk hne=>?_⟩;rw [heap_grow_old _ _ (by simpa using hk)];have:g≠k:=fun e=>hne (by rw [e]);simp [putRow,mapBlock,Sort.ahead,Array.getElem?_modify,this]
theorem mS {α:Type} [Inhabited α] {enc:α→Value} (cur:Array Value) (d:Array α) (h:d.size≤cur.size):(putCells enc 0 d cur).toList.take d.size=d.toList.map enc:=by
 apply List.ext_getElem?;intro j;by_cases hj:j<d.size
 ·rw [List.getElem?_take_of_lt hj,Array.getElem?_toList];simp [putCells,hj,show j<cur.size by omega]
 ·rw [List.getElem?_take_eq_none (by omega),List.getElem?_eq_none (by simp;omega)]
theorem tX {B g cap n:Nat} {w:World} {l:List Int} (h:aG B 3 1 cF w (.slice (some ⟨g,0,none⟩) l.length cap) l) (hbd:∀ x∈l,0≤x∧x<n) (hl:l.length≤1000000000) {f:Nat} {cb:Array Value} (cf:Nat→Nat→Int) (hO:SWO (ltOf cf))
  (eg:∀ args w,(callFunc f args).run Tryz.prog w=.ok (.enter f args) w) (hcmp:CmpLays1 Tryz.prog f cb (nF n) cf g 0 l.length w):
  Calls Tryz.prog 48 #[.slice (some ⟨g,0,none⟩) l.length cap,.func (.func f) #[] cb] w fun e w'=>e=.returned (.tuple #[])∧
   ∃ r,r.length=l.length∧aG B 3 1 cF w' (.slice (some ⟨g,0,none⟩) l.length cap) r∧(∀ x,x∈r↔x∈l)∧w.grownBy w' (some g):=by
 obtain ⟨us,hf,hul,ho⟩:=h;rcases ho with ⟨hv,_⟩ | ⟨g',cap',cur,hv,hB,hh,hc,hm,hcs,ht⟩
 ·cases hv
 obtain ⟨rfl,rfl⟩:g=g'∧cap=cap':=by injection hv with e1 _ e2;injection e1 with e1;injection e1 with e1;exact ⟨e1,e2⟩
 rw [lX hf,Nat.mul_one] at ht;obtain ⟨d,hd⟩:∃ d:Array Nat,d=(l.map Int.toNat).toArray:=⟨_,rfl⟩;have hds:d.size=l.length:=by rw [hd];simp
 have hold:Holds (nF n) w g 0 d:=by rw [hd];exact GZ hh ht hbd
 rw [← hds] at hcmp;have hcon:=Any.slices_SortFunc Try.ShInt (nF n) (fun x=>rfl) cf hO f cb g 0 cap d w eg hcmp hold (gL hh).1 (by omega);rw [hds] at hcon;refine hcon.mono fun e w' hp=>?_;obtain ⟨he,d',m,os,hperm,_,hw⟩:=hp;subst hw;have hsz:d'.size=l.length:=by rw [← hds];exact hperm.1
 have hpm:d'.toList.Perm d.toList:=by
  have h1:=hperm.2.2;have e1:d.extract 0 l.length=d:=by rw [← hds];exact Array.extract_size
  have e2:d'.extract 0 l.length=d':=by rw [← hsz];exact Array.extract_size
  rwa [e1,e2] at h1
 have hlt:∀ x∈d'.toList,∃ y∈l,y.toNat=x:=fun x hx=>by
  have:=hpm.mem_iff.1 hx;rw [hd] at this
  simpa using this
 have hmap:d'.toList.map (nF n)=(d'.toList.map fun (x:Nat)=>(x:Int)).map (Value.int .i64):=by
  rw [List.map_map];refine List.map_congr_left fun x hx=>?_;obtain ⟨y,hy,rfl⟩:=hlt x hx;have:=hbd y hy;show Value.int .i64 ((y.toNat % n:Nat):Int)=_;rw [Nat.mod_eq_of_lt (by omega)];rfl
 refine ⟨he,d'.toList.map fun (x:Nat)=>(x:Int),by simp [hsz],⟨_,rH _, ?_,.inr ⟨g,cap,putCells (nF n) 0 d' cur, ?_,hB,pN d' hh, ?_,hm,by simp [putCells,hcs], ?_⟩⟩,fun x=>?_,fG d'⟩
 ·rw [jW];simp
 ·simp [hsz]
 ·simp [hsz];exact hc
 ·rw [jW,← hmap];have:=mS (enc:=nF n) cur d' (by omega)
  simpa using this
 ·rw [List.mem_map];constructor
  ·rintro ⟨y,hy,rfl⟩;obtain ⟨z,hz,rfl⟩:=hlt y hy;have:=hbd z hz
   rwa [show ((z.toNat:Nat):Int)=z by omega]
  ·intro hx;have:=hbd x hx;refine ⟨x.toNat,hpm.mem_iff.2 ?_,by omega⟩;rw [hd]
   simpa using ⟨x,hx,rfl⟩
end Go.Proofs.YtpidmmfjcghmeaaGreat
namespace Go.Proofs.YtpidmmfjcghmeaaGreat
open Go.RowKit
section
attribute [local go_sem ↓] aI
theorem sZ (w:World):
  Calls Tryz.prog 111 #[.slice none 0 0] w fun e w'=>e=.returned (.slice none 0 0)∧w'=w:=by
 have q31:∀ (w:World) (a:Option Addr) (n c:Nat),(binOp .eql 26 (.slice a n c) (.slice none 0 0)).run Tryz.prog w=.ok (.bool a.isNone) w:=fun w a n c=>Lib.run_eql_slice_nil w 26 3 a n c 0 0 Tryz.underlying26;go_enter Tryz.func111,Tryz.ntmps111;go_wp2_with fail;go_ret;exact ⟨rfl,rfl⟩
def wayL (W:Nat→Option (List Int)) (i:Nat):List Int:=(W i).getD []
def oZ (W:Nat→Option (List Int)) (i:Nat) (w:World) (e:Ending) (w':World):Prop:=
 (∃ A c,e=.returned (.tuple #[.slice A (wayL W i).length c,.bool true])∧aF (TB 3 w') w' (.slice A (wayL W i).length c) (wayL W i))∧Below w.heap.size w w'
theorem JL (w:World) (br bW n:Nat) (W:Nat→Option (List Int)) (V:Nat→Value) (vw:Value) (i:Nat) (h:Ro w br bW n W V vw) (hi:i<n) (hl:∀ j l,W j=some l→l.length≤1000000):
  Calls Tryz.prog 51 #[.pointer (some ⟨br,0,none⟩),.int .i64 i] w fun e w'=>oZ W i w e w':=by
 have HR:=Ha (II w br bW n W V vw h);have y0:=aA h.box 0 _ rfl;have z0:=h.row.cell hi;have hit:=h.its i hi;unfold oZ wayL;rcases hW:W i with _ | l
 ·rw [hW] at hit;simp only at hit;rw [hit] at z0;have HC:=Ha (sZ w);clear hit h hl hW;go_enter Tryz.func51,Tryz.ntmps51;go_wp2_with fail;refine (HR.out).mono ?_;rintro e w1 ⟨rfl,rfl⟩;go_wp2_with fail;refine (HC.out).mono ?_;rintro e w2 ⟨rfl,rfl⟩;go_wp2_with fail;refine bodyPost_ret (v:=.tuple #[.slice none 0 0,.bool true]) (by simp [results,Tryz.results51,go_sem]) rfl ?_;exact ⟨⟨none,0,rfl,none,0,rfl,gO _,gX _,fun h=>absurd h (Nat.lt_irrefl 0)⟩,gR _ _⟩
 ·rw [hW] at hit;obtain ⟨b,c,hv,hat⟩:=hit;rw [hv] at z0 hat;have HC:=Ha (D9 (TB 3 w) w b c l (fun _ h=>h.lt) hat (hl i l hW));clear hat h hl hW hv;go_enter Tryz.func51,Tryz.ntmps51;go_wp2_with fail;refine (HR.out).mono ?_;rintro e w1 ⟨rfl,rfl⟩;go_wp2_with fail;refine (HC.out).mono ?_;rintro e w2 ⟨⟨A,c',rfl,hat⟩,hb⟩;have HF:=Ha (gS hat hb);clear hat hb;go_wp2_with fail;refine bodyPost_ret (v:=.tuple #[.slice A l.length c',.bool true]) (by simp [results,Tryz.results51,go_sem]) rfl ?_;exact ⟨⟨A,c',rfl,HF.out.1⟩,HF.out.2⟩
end
open Go.Sort Go.Shelf
theorem Ro.way {w:World} {br bW n:Nat} {W:Nat→Option (List Int)} {V:Nat→Value} {vw:Value} (h:Ro w br bW n W V vw) {i:Nat} (hi:i<n):∃ A c,V i=.slice A (wayL W i).length c∧aF (TB 3 w) w (.slice A (wayL W i).length c) (wayL W i):=by
 unfold wayL;rcases h.nil? hi with ⟨h1,h2⟩ | ⟨l,b,c,h1,h2,h3⟩
 ·rw [h1];exact ⟨none,0,h2,aH.nil0⟩
 ·rw [h1];exact ⟨_,c,h2,h3⟩
theorem IT (w:World) (br bW bx n:Nat) (W:Nat→Option (List Int)) (V:Nat→Value) (vw:Value) (x y:Nat) (h:Ro w br bW n W V vw) (hb:w.heap[bx]? = some (.cells #[.pointer (some ⟨br,0,none⟩)] 42 (0,0))) (hx:x<n) (hy:y<n):
  Calls Tryz.prog 49 #[.int .i64 x,.int .i64 y,.pointer (some ⟨bx,0,none⟩)] w fun e w'=>e=.returned (.int .i64 (bZ (wayL W x) (wayL W y)))∧w'=w.drew:=by
 obtain ⟨Ax,cx,hvx,hax⟩:=h.way hx;obtain ⟨Ay,cy,hvy,hay⟩:=h.way hy;have z0:=aA hb 0 _ rfl;have y0:=aA h.box 0 _ rfl;have zx:=h.row.cell hx;have zy:=h.row.cell hy;rw [hvx] at zx;rw [hvy] at zy;have HC:=Ha (F7 (TB 3 w) (TB 3 w) w.drew Ax Ay cx cy (wayL W x) (wayL W y) hax hay);generalize wayL W x=a at *;generalize wayL W y=b at *;have hx0:(0:Int)≤(x:Int):=by omega
 have hy0:(0:Int)≤(y:Int):=by omega
 have hxn:(x:Int)<(n:Int):=by omega
 have hyn:(y:Int)<(n:Int):=by omega
 clear h hb hvx hvy hax hay;go_enter Tryz.func49,Tryz.ntmps49;go_wp2_with fail;refine aE.start 15 (fun X=>X.cell? ⟨bx,0,none⟩=some (.pointer (some ⟨br,0,none⟩))∧X.cell? ⟨br,0,none⟩=some (.slice (some ⟨bW,0,none⟩) n n)∧X.cell? ⟨bW,x,none⟩=some (.slice Ax a.length cx)∧X.cell? ⟨bW,y,none⟩=some (.slice Ay b.length cy)) (by kernel_rfl) ?hs_1 (fun hHeld=>?hr_1)
 case hs_1=>exact ⟨z0,y0,zx,zy⟩
 refine aE.tks [0,1,2,3,4,5,6,7,8,9,10,11,12,13] ?_
 iterate 14
  refine aK.cons ?_;simp only [gA,gB,gC,Act.put,gD,gE,gF]
 show aE _ _ _ _ _ _ _ _ _ _;refine aE.one (i:=14) fun K hK=>?_;simp only [gA,gB,gC]
 go_simp
 with_reducible refine Calls.mono HC.out ?_
 rintro e w1 ⟨rfl,rfl⟩;dsimp only;refine hK.out _ _ ?_ (fun hHeld=>?_)
 ·exact ⟨z0,y0,zx,zy⟩
 clear hK K;try simp only [Act.put,gD,gE,gF]
 refine aE.last fun K hK=>?_;simp only [gA,gB,gC]
 go_simp
 refine hK.out _ _ (aE.done (by kernel_rfl) ?_ _);go_wp2_with fail;go_ret;exact ⟨rfl,rfl⟩
theorem yG {B br bW bx n:Nat} {w:World} {v:Value} {l:List Int} {W:Nat→Option (List Int)} {V:Nat→Value} {vw:Value} (h:aG B 3 1 cF w v l) (hbd:∀ x∈l,0≤x∧x<n) (hn:0<n) (hl:l.length≤1000000000) (hr:Ro w br bW n W V vw) (hb:w.heap[bx]? = some (.cells #[.pointer (some ⟨br,0,none⟩)] 42 (0,0)))
  (hap:∀ i,i<n→∀ b k c,V i=.slice (some ⟨b,0,none⟩) k c→0<k→v.ownBlock≠some b):
  Calls Tryz.prog 48 #[v,.func (.func 49) #[] #[.pointer (some ⟨bx,0,none⟩)]] w fun e w'=>e=.returned (.tuple #[])∧
   ∃ r,r.length=l.length∧aG B 3 1 cF w' v r∧(∀ x,x∈r↔x∈l)∧Chg (fun k=>v.ownBlock=some k) w w':=by
 obtain ⟨A,c,rfl,_⟩:=h.shape;by_cases h0:l.length=0
 ·obtain rfl:l=[]:=List.eq_nil_of_length_eq_zero h0;refine (AnyF.slices_SortFunc_none { Try.ShInt with } A c _ w).mono ?_;rintro e w' ⟨rfl,rfl⟩;exact ⟨rfl,[],rfl,h,fun _=>Iff.rfl,Chg.refl _ _⟩
 ·obtain ⟨g,hA⟩:∃ g,A=some ⟨g,0,none⟩:=by
   obtain ⟨us,hf,hul,ho⟩:=h;rcases ho with ⟨e,_⟩ | ⟨g,cap,cur,e,_⟩
   ·injection e with _ e _;omega
   ·injection e with e _ _;exact ⟨g,e⟩
  subst hA;have hgT:TB 3 w g:=(h.tb rfl).2;have eg:∀ args w,(callFunc 49 args).run Tryz.prog w=.ok (.enter 49 args) w:=enters_of Tryz.func49 (by kernel_rfl) rfl;refine (tX h hbd hl (fun x y:Nat=>bZ (wayL W (x % n)) (wayL W (y % n))) (FW fun x=>wayL W (x % n)) eg (cb:=#[.pointer (some ⟨bx,0,none⟩)]) ?_).mono ?_
  ·intro m os dk _ x y;have hgr:=fG (enc:=nF n) (w:=w) (g:=g) (n:=m) (os:=os) dk;have hc:Chg (fun k=>k=g) w (sortWorld (nF n) w g 0 m dk os):=(Chg.refl _ w).grown hgr fun k e _=>by injection e with e;exact e.symm
   have hbxT:TB 42 w bx:=⟨_,hb⟩;have hr2:=hr.keepC hc (fun e=>TB.ne (T:=96) ⟨_,hr.box⟩ hgT (by decide) e) (fun e=>hr.tb.ne hgT (by decide) e) fun i hi b k c e hp _ e2=>hap i hi b k c e hp (by rw [e2];rfl);have hb2:=(hc.same bx hbxT.lt fun e=>hbxT.ne hgT (by decide) e).trans hb;refine (IT _ br bW bx n W V vw (x % n) (y % n) hr2 hb2 (Nat.mod_lt _ hn) (Nat.mod_lt _ hn)).mono ?_;rintro e w' ⟨rfl,rfl⟩;exact ⟨rfl,1,#[],by rw [grow_empty];rfl⟩
  ·rintro e w' ⟨rfl,r,h1,h2,h3,h4⟩;exact ⟨rfl,r,h1,h2,h3,(Chg.refl _ w).grown h4 fun k e _=>e⟩
end Go.Proofs.YtpidmmfjcghmeaaGreat
