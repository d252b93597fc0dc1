/- Towards clashesWhole_upto. -/
import Derived.Test.YtpidmmfjcghmeaaGreatCz06
set_option maxRecDepth 100000
set_option maxHeartbeats 16000000
set_option linter.all false
namespace Go.Proofs.YtpidmmfjcghmeaaGreat
open Go.RowKit
def mR (g:Gm) (s:Int):Bool:=decide (g.T s)||decide (g.N s)
def iK (g:Gm) (r:Int×List Int):Bool:=decide (g.N r.1)&&r.2.all (mR g)
def dT (g:Gm):Bool:=decide (g.N g.start)&&g.rules.all (iK g)
theorem mB (g:Gm):dT g=true↔g.Known:=by
 unfold dT;rw [Bool.and_eq_true,decide_eq_true_iff,List.all_eq_true];constructor
 ·rintro ⟨h1,h2⟩;refine ⟨h1,fun r hr=>?_,fun r hr s hs=>?_⟩
  ·have:=h2 r hr;unfold iK at this;rw [Bool.and_eq_true,decide_eq_true_iff] at this;exact this.1
  ·have:=h2 r hr;unfold iK mR at this;rw [Bool.and_eq_true,List.all_eq_true] at this
   simpa using this.2 s hs
 ·rintro ⟨h1,h2,h3⟩;refine ⟨h1,fun r hr=>?_⟩;unfold iK mR;rw [Bool.and_eq_true,decide_eq_true_iff,List.all_eq_true];exact ⟨h2 r hr,fun s hs=>by simpa using h3 r hr s hs⟩
theorem ER (G:Nat→Prop) (w:World) (vs:List Value) (g:Gm) (hG:∀ k,G k→k<w.heap.size) (hg:GmV G w vs g) (hl:g.top≤9223372036854775807):
  Calls Tryz.prog 27 #[ag vs] w fun e w'=>e=.returned (.bool (dT g))∧Below w.heap.size w w':=by
 obtain ⟨A0,c0,A1,c1,A2,c2,W,ev,hW,⟨x0,x1,x2,x3⟩,HB,HX⟩:=GBox.go hG hg;rw [ev];have HG:=Ha hG;clear hG hg ev;have HLn:=Ha HX.out.lens;have HL:=Ha hl;clear hl;have hN:=CB G;have hT:=DH G;unfold ag at hN hT;have HN:=Ha hN;have HT:=Ha hT;clear hN hT;go_enter Tryz.func27,Tryz.ntmps27;by_cases h0:g.nons.length=0
 ·have he:=Ha (show dT g=false by
   unfold dT;rw [decide_eq_false (by unfold Gm.N Gm.top;omega)];rfl)
  have h0':(g.nons.length:Int)=0:=by omega
  go_wp2_with fail;go_ret;exact ⟨by first | (rw [he.out];done) | (rw [he.out];rfl),by have:=HB.out;rw [← hW,h0] at this;exact this⟩
 have h0':¬(g.nons.length:Int)=0:=by omega
 go_wp2_with fail;refine (HN.out _ _ g g.start HX.out.old HX.out.gm HL.out).mono ?_;rintro e w1 ⟨rfl,hb1⟩;have HX1:=Ha (HX.out.on hb1);have HB1:=Ha (HB.out.trans (hb1.mono HB.out.size));clear x0 x1 x2 x3 hb1;obtain ⟨x0,x1,x2,x3⟩:=HX1.out.cells;have HK:=Ha (show dT g=(decide (g.N g.start)&&g.rules.all (iK g)) from rfl);generalize decide (g.N g.start)=d at HK;cases d
 ·go_wp2_with fail;go_ret;exact ⟨by first | (rw [HK.out];done) | (rw [HK.out];rfl),HB1.out⟩
 go_wp2
 go_loopw [3] (fun i wr=>∃ (k:Nat),k≤g.rules.length∧i=.int .i64 k∧(g.rules.drop k).all (iK g)=g.rules.all (iK g)∧Below w1.heap.size w1 wr) (fun i _=>g.rules.length-(intOf i).toNat)
 case atStart=>exact ⟨0,by omega,rfl,rfl,gR _ _⟩
 case round=>
  obtain ⟨k,hk,rfl,hi,hb⟩:=hrel;have HBR:=Ha hb;have HXR:=Ha (HX1.out.on hb);clear x0 x1 x2 x3 hb;obtain ⟨x0,x1,x2,x3⟩:=HXR.out.cells;have hml:=HLn.out.2.2;by_cases hlt:k<g.rules.length
  ·rw [bD _ k hlt,List.all_cons] at hi;obtain ⟨bb,off,Ak,ck,rfl,z0,z1,zi⟩:=HXR.out.rule hlt;have hrb:iK g g.rules[k]=(decide (g.N g.rules[k].1)&&g.rules[k].2.all (mR g)):=rfl;rw [hrb] at hi;clear hrb
   revert hi z0 z1 zi
   generalize g.rules[k]=rk;obtain ⟨ra,rb⟩:=rk;dsimp only;intro hi z0 z1 zi;have p:=fun Y:Gr wr=>Y.calls (HN.out Y.at_ _ g ra (bN HXR.out.old Y.2) (GmV.below HXR.out.old Y.2 HXR.out.gm) HL.out);have f0:=fun Y:Gr wr=>Y.cell _ _ x0;have f1:=fun Y:Gr wr=>Y.cell _ _ x1;have f2:=fun Y:Gr wr=>Y.cell _ _ x2;have f3:=fun Y:Gr wr=>Y.cell _ _ x3;have fk:=fun Y:Gr wr=>Y.cell _ _ z0;have hne:Nonempty (Gr wr):=⟨⟨_,gR _ _⟩⟩;have HI:=Ha hi;have HZ:=Ha zi;clear hi zi z0
   revert p HI
   generalize decide (g.N ra)=d;intro p HI;go_wp2_with fail;refine aN (S:=Gr wr) Gr.at_ (by kernel_rfl) (by kernel_rfl) (Gr.drew _) ?_;repeat (go_big_quiet_step (with_reducible exact p _))
   refine wpQuiet_nil ?_;rintro wy ⟨⟨wy',hY⟩,hY2⟩;obtain rfl:wy=wy':=hY2;obtain ⟨HBY,HXY,HZY⟩:=hs3 (HBR.out.trans (hY.mono HBR.out.size)) (HXR.out.on hY) (aF.below HXR.out.old hY HZ.out);have y1:=aD z1 hY;clear p f0 f1 f2 f3 fk hne hY x0 x1 x2 x3 z1 HZ;cases d
   ·have he:=Ha (show dT g=false by rw [HK.out,← HI.out];rfl);go_wp2_with fail;go_ret;exact ⟨by first | (rw [he.out];done) | (rw [he.out];rfl),HB1.out.trans (HBY.out.mono HB1.out.size)⟩
   obtain ⟨x0,x1,x2,x3⟩:=HXY.out.cells;have hmr:=(aH.len HZY.out).2;go_wp2
   go_loopw [4] (fun i wr=>∃ (j:Nat),j≤rb.length∧i=.int .i64 j∧(rb.drop j).all (mR g)=rb.all (mR g)∧Below wy.heap.size wy wr) (fun i _=>rb.length-(intOf i).toNat)
   case atStart=>exact ⟨0,by omega,rfl,rfl,gR _ _⟩
   case round=>
    obtain ⟨j,hj,rfl,hi,hb⟩:=hrel;obtain ⟨HBQ,HXQ,HZQ⟩:=hs3 hb (HXY.out.on hb) (aF.below HXY.out.old hb HZY.out);have u1:=aD y1 hb;clear x0 x1 x2 x3 hb;obtain ⟨x0,x1,x2,x3⟩:=HXQ.out.cells;by_cases hjl:j<rb.length
    ·rw [bD _ j hjl,List.all_cons] at hi;obtain ⟨bj,oj,rfl,v0⟩:=HZQ.out.get hjl;have hsb:mR g rb[j]=(decide (g.T rb[j])||decide (g.N rb[j])):=rfl;rw [hsb] at hi;clear hsb
     revert hi v0
     generalize rb[j]=s;intro hi v0;have p:=fun Y:Gr wr=>Y.calls (HT.out Y.at_ _ g s (bN HXQ.out.old Y.2) (GmV.below HXQ.out.old Y.2 HXQ.out.gm));have q:=fun Y:Gr wr=>Y.calls (HN.out Y.at_ _ g s (bN HXQ.out.old Y.2) (GmV.below HXQ.out.old Y.2 HXQ.out.gm) HL.out);have f0:=fun Y:Gr wr=>Y.cell _ _ x0;have f1:=fun Y:Gr wr=>Y.cell _ _ x1;have f2:=fun Y:Gr wr=>Y.cell _ _ x2;have f3:=fun Y:Gr wr=>Y.cell _ _ x3;have fk:=fun Y:Gr wr=>Y.cell _ _ u1;have fj:=fun Y:Gr wr=>Y.cell _ _ v0;have hne:Nonempty (Gr wr):=⟨⟨_,gR _ _⟩⟩;have HJ:=Ha hi;clear hi v0
     revert p q HJ
     generalize decide (g.T s)=d1;generalize decide (g.N s)=d2;intro p q HJ;go_wp2_with fail;cases d1
     ·refine aN (S:=Gr wr) Gr.at_ (by kernel_rfl) (by kernel_rfl) (Gr.drew _) ?_;repeat (go_big_quiet_step (first | (with_reducible exact p _) | (with_reducible exact q _)))
      refine wpQuiet_nil ?_;rintro wz ⟨⟨wz',hY⟩,hY2⟩;obtain rfl:wz=wz':=hY2;have HBZ:=Ha (HBQ.out.trans (hY.mono HBQ.out.size));clear p q f0 f1 f2 f3 fk fj hne hY;cases d2
      ·have he:=Ha (show dT g=false by rw [HK.out,← HI.out,← HJ.out];rfl);go_wp2_with fail;go_ret;exact ⟨by first | (rw [he.out];done) | (rw [he.out];rfl),(HB1.out.trans (HBY.out.mono HB1.out.size)).trans (HBZ.out.mono (HB1.out.trans (HBY.out.mono HB1.out.size)).size)⟩
      ·go_wp2_with fail
       go_roundw
       case rel=>exact ⟨j+1,by omega,by go_num,HJ.out,HBZ.out⟩
       case measure=>simp only [intOf];omega
     ·refine aN (S:=Gr wr) Gr.at_ (by kernel_rfl) (by kernel_rfl) (Gr.drew _) ?_;repeat (go_big_quiet_step (first | (with_reducible exact p _) | (with_reducible exact q _)))
      refine wpQuiet_nil ?_;rintro wz ⟨⟨wz',hY⟩,hY2⟩;obtain rfl:wz=wz':=hY2;have HBZ:=Ha (HBQ.out.trans (hY.mono HBQ.out.size));clear p q f0 f1 f2 f3 fk fj hne hY;go_wp2_with fail
      go_roundw
      case rel=>exact ⟨j+1,by omega,by go_num,HJ.out,HBZ.out⟩
      case measure=>simp only [intOf];omega
    ·have he:=Ha (show (g.rules.drop (k+1)).all (iK g)=g.rules.all (iK g) by rw [← HI.out,← hi,List.drop_eq_nil_of_le (show rb.length≤j by omega)];rfl);go_wp2_with fail
     go_roundw
     case rel=>exact ⟨k+1,by omega,by go_num,he.out,HBY.out.trans (HBQ.out.mono HBY.out.size)⟩
     case measure=>simp only [intOf];omega
  ·have he:=Ha (show dT g=true by rw [HK.out,← hi,List.drop_eq_nil_of_le (by omega)];rfl);go_wp2_with fail;go_ret;exact ⟨by first | (rw [he.out];done) | (rw [he.out];rfl),HB1.out.trans (HBR.out.mono HB1.out.size)⟩
end Go.Proofs.YtpidmmfjcghmeaaGreat
