/- Towards clashesWhole_upto. -/
import Derived.Test.YtpidmmfjcghmeaaGreatCs16
import Derived.Test.YtpidmmfjcghmeaaGreatCs15
import Derived.Deep.DeepCutAuto
import Derived.Deep.RegionHeld3
import Derived.Deep.RegionWith
set_option maxRecDepth 100000
set_option maxHeartbeats 16000000
set_option linter.all false
namespace Go.Proofs.YtpidmmfjcghmeaaGreat
open Go.RowKit
def d0F (g:Gm) (l:List Int) (s i j:Nat):Bool:=decide (g.T (s:Int))&&decide (i<l.length)&&decide (l.getD i 0=(s:Int))&&decide (j=i+1)
def b0F (g:Gm) (l:List Int) (s i:Nat):Bool:=(decide (g.T (s:Int))&&decide (i<l.length)&&decide (l.getD i 0=(s:Int))&&decide (i+1=l.length))||decide (i=l.length)
def aqI (n k I:Nat) (s i:Nat):Bool:=decide (i<n)&&(decide (s<k)||(decide (s=k)&&decide (i<I)))
def bI (g:Gm) (l:List Int) (k I:Nat) (s i:Nat):Bool:=if s=k∧¬i<I then false else b0F g l s i
theorem EA {n k I:Nat} (hI:I<n) (s i:Nat):up2 (aqI n k I) k I true s i=aqI n k (I+1) s i:=by
 unfold up2 aqI;by_cases e:s=k∧i=I
 ·obtain ⟨rfl,rfl⟩:=e;simp [hI]
 ·rw [if_neg e,Bool.eq_iff_iff];simp only [yF,Bool.or_eq_true,decide_eq_true_iff];omega
theorem zN (n k s i:Nat):aqI n k n s i=aqI n (k+1) 0 s i:=by
 unfold aqI;rw [Bool.eq_iff_iff];simp only [yF,Bool.or_eq_true,decide_eq_true_iff];omega
theorem uN {g:Gm} {l:List Int} {s i:Nat} (h1:g.T (s:Int)) (h2:i<l.length) (h3:l[i]=(s:Int)) (j:Nat):d0F g l s i j=decide (j=i+1):=by
 unfold d0F;rw [yD h1,yD h2,List.getD_eq_getElem?_getD,List.getElem?_eq_getElem h2,Option.getD_some,yD h3];simp
theorem s4 {g:Gm} {l:List Int} {s i:Nat} (h:¬(g.T (s:Int)∧∃ h2:i<l.length,l[i]=(s:Int))) (j:Nat):d0F g l s i j=false:=by
 unfold d0F;rw [Bool.eq_false_iff];intro h2;simp only [yF,decide_eq_true_iff] at h2;obtain ⟨⟨⟨h3,h4⟩,h5⟩,_⟩:=h2;rw [List.getD_eq_getElem?_getD,List.getElem?_eq_getElem h4,Option.getD_some] at h5;exact h ⟨h3,h4,h5⟩
theorem EB {g:Gm} {l:List Int} {s i:Nat} (h1:g.T (s:Int)) (h2:i<l.length) (h3:l[i]=(s:Int)):b0F g l s i=decide (i+1=l.length):=by
 unfold b0F;rw [yD h1,yD h2,List.getD_eq_getElem?_getD,List.getElem?_eq_getElem h2,Option.getD_some,yD h3,yE (show ¬i=l.length by omega)];simp
theorem o3 {g:Gm} {l:List Int} {s i:Nat} (h:¬(g.T (s:Int)∧∃ h2:i<l.length,l[i]=(s:Int))):b0F g l s i=decide (i=l.length):=by
 unfold b0F;rw [show (decide (g.T (s:Int))&&decide (i<l.length)&&decide (l.getD i 0=(s:Int))&&decide (i+1=l.length))=false from ?_,Bool.false_or];rw [Bool.eq_false_iff];intro h2;simp only [yF,decide_eq_true_iff] at h2;obtain ⟨⟨⟨h3,h4⟩,h5⟩,_⟩:=h2;rw [List.getD_eq_getElem?_getD,List.getElem?_eq_getElem h4,Option.getD_some] at h5;exact h ⟨h3,h4,h5⟩
theorem o4 {g:Gm} {l:List Int} {k i:Nat} {v:Bool} (hv:b0F g l k i=v) (s i':Nat):(if s=k∧i'=i then v else bI g l k i s i')=bI g l k (i+1) s i':=by
 unfold bI;by_cases e:s=k∧i'=i
 ·obtain ⟨rfl,rfl⟩:=e;rw [if_pos ⟨rfl,rfl⟩,if_neg (by omega),hv]
 ·rw [if_neg e];by_cases e2:s=k
  ·by_cases e3:i'<i
   ·rw [if_neg (by omega),if_neg (by omega)]
   ·rw [if_pos ⟨e2,e3⟩,if_pos ⟨e2,by omega⟩]
  ·rw [if_neg fun h=>e2 h.1,if_neg fun h=>e2 h.1]
theorem uI {g:Gm} {l:List Int} {k i:Nat} (hv:b0F g l k i=false) (s i':Nat):bI g l k i s i'=bI g l k (i+1) s i':=by
 rw [← o4 hv s i'];by_cases e:s=k∧i'=i
 ·rw [if_pos e];unfold bI;rw [if_pos ⟨e.1,by omega⟩]
 ·rw [if_neg e]
theorem JC {g:Gm} {l:List Int} {k i:Nat} (h:∀ j,d0F g l k i j=decide (j=i+1)) (s i' j:Nat):(if s=k∧i'=i∧j=i+1 then true else if s=k∧i'=i then false else d0F g l s i' j)=d0F g l s i' j:=by
 by_cases e:s=k∧i'=i
 ·obtain ⟨rfl,rfl⟩:=e;rw [h];by_cases e2:j=i'+1
  ·rw [if_pos ⟨rfl,rfl,e2⟩,yD e2]
  ·rw [if_neg fun h=>e2 h.2.2,if_pos ⟨rfl,rfl⟩,yE e2]
 ·rw [if_neg fun h=>e ⟨h.1,h.2.1⟩,if_neg e]
theorem s5 {g:Gm} {l:List Int} {k i:Nat} (h:∀ j,d0F g l k i j=false) (s i' j:Nat):(if s=k∧i'=i then false else d0F g l s i' j)=d0F g l s i' j:=by
 by_cases e:s=k∧i'=i
 ·obtain ⟨rfl,rfl⟩:=e;rw [if_pos ⟨rfl,rfl⟩,h]
 ·rw [if_neg e]
inductive Grown (g:Gm) (N:Nat) (d0:Nat→Nat→Nat→Bool) (b0:Nat→Nat→Bool):(Nat→Nat→Nat→Bool)→(Nat→Nat→Bool)→Prop
 | refl:Grown g N d0 b0 d0 b0
 | step {d:Nat→Nat→Nat→Bool} {bb:Nat→Nat→Bool} {d':Nat→Nat→Nat→Bool} {bb':Nat→Nat→Bool} {x:Nat} {l:List Int}:Grown g N d0 b0 d bb→((x:Int),l)∈g.rules→Steps x l N d bb d' bb'→Grown g N d0 b0 d' bb'
structure Filled (g:Gm) (l:List Int) (d:Nat→Nat→Nat→Bool) (bb:Nat→Nat→Bool):Prop where
 gr:Grown g l.length (d0F g l) (b0F g l) d bb
 cd:∀ r∈g.rules,∀ i j,i≤j→j≤l.length→spanB d r.2 i j=true→d r.1.toNat i j=true
 cb:∀ r∈g.rules,∀ i,i≤l.length→begB d bb l.length r.2 i=true→bb r.1.toNat i=true
def qL (g:Gm) (l:List Int) (Al:Option Addr) (cl:Nat) (w:World) (e:Ending) (w':World):Prop:=
 ∃ bc bd bB p r q d bb v0 v1 v2 v3,e=.returned (.pointer (some ⟨bc,0,none⟩))∧Ch w' bc bd bB p r q (g.top+1) (l.length+1) d bb v0 v1 v2 v3 Al cl∧Filled g l d bb∧Below w.heap.size w w'
theorem BH:(Tryz.prog.info? 4).map (fun i=>(i.zero,i.size,i.bytes))=some (some (.bool false),1,1):=by kernel_rfl
theorem rK:(Tryz.prog.info? 75).map (fun i=>(i.zero,i.size,i.bytes))=some (some (.slice none 0 0),1,24):=by kernel_rfl
theorem BI:(Tryz.prog.info? 76).map (fun i=>(i.zero,i.size,i.bytes))=some (some (.slice none 0 0),1,24):=by kernel_rfl
theorem G6 (G:Nat→Prop) (w:World) (vs:List Value) (g:Gm) (Al:Option Addr) (cl:Nat) (l:List Int)(hG:∀ k,G k→k<w.heap.size) (hg:GmV G w vs g) (hk:g.Known) (hl:g.top≤1000) (hll:l.length≤1000) (hlr:g.rules.length≤100000) (hi:aF G w (.slice Al l.length cl) l):
  Calls Tryz.prog 36 #[ag vs,.slice Al l.length cl] w fun e w'=>qL g l Al cl w e w':=by
 obtain ⟨A0,c0,A1,c1,A2,c2,W,ev,hW,⟨x0,x1,x2,x3⟩,HB,HX⟩:=GBox.go hG hg;rw [ev];have HG:=Ha hG;clear hG hg ev;have h3:=vU G;have h4:=DS G;unfold ag at h3 h4;have H3:=Ha h3;have H4:=Ha h4;have HK:=Ha hk;have hW1:W.heap.size=w.heap.size+1:=by rw [← hW];simp
 have HI:=Ha (fun (Y:World) (hY:Below W.heap.size W Y)=>(aF.below HX.out.old hY (aF.below HG.out HB.out hi)));clear h3 h4 hk hi;go_enter Tryz.func36,Tryz.ntmps36;go_wp2_with fail;refine (H3.out _ _ g HX.out.old HX.out.gm (by omega)).mono ?_;rintro e w1 ⟨rfl,hb1⟩;have HX1:=Ha (HX.out.on hb1);have HB1:=Ha hb1;have hs1:=hb1.size;obtain ⟨m,hm⟩:∃ m,m=g.top+1:=⟨_,rfl⟩;obtain ⟨n,hn⟩:∃ n,n=l.length+1:=⟨_,rfl⟩;have hm1:(g.top:Int)+1=(m:Int):=by omega
 have hn1:(l.length:Int)+1=(n:Int):=by omega
 have hm2:m≤1001:=by omega
 have hn2:n≤1001:=by omega
 have hwm:IntKind.i64.wrap (m:Int)=(m:Int):=IntWalk.i64_in _ (by omega);have hwn:IntKind.i64.wrap (n:Int)=(n:Int):=IntWalk.i64_in _ (by omega);have HM:=Ha hm;have HN:=Ha hn;have hk3:=run_make_row' (P:=Tryz.prog) 77 76 (.slice none 0 0) 24 Tryz.underlying77 BI rfl .i64 .i64 m (by omega) (by omega);have hk2:=run_make_row' (P:=Tryz.prog) 76 75 (.slice none 0 0) 24 Tryz.underlying76 rK rfl .i64 .i64 m (by omega) (by omega);clear x0 x1 x2 x3 hb1 hm hn;obtain ⟨x0,x1,x2,x3⟩:=HX1.out.cells;go_wp2
 go_cut [7] (fun v7 wx=>∃ bc bd bB,v7=.pointer (some ⟨bc,0,none⟩)∧Cp W.heap.size wx bc bd bB (fun _=>0) (fun _=>0) (fun _ _=>0) m n 0 0 (fun _ _=>false) (d0F g l) (b0F g l) (.slice A0 g.terms.length c0) (.slice A1 g.nons.length c1) (.slice A2 g.rules.length c2) (.int .i64 g.start) Al cl∧Below W.heap.size W wx)
 case first=>
  have h0:=HB1.out.drew;have h1:=h0.alloc h0.size (.cells (madeCells #[.slice none 0 0] m) 76);have h2:=h0.alloc h0.size (.cells (madeCells #[.slice none 0 0] m) 75);have h3:=h1.alloc h1.size (.cells (madeCells #[.slice none 0 0] m) 75);have h4:=h2.alloc h2.size (.cells (madeCells #[.slice none 0 0] m) 76);have HSC:=Ha (fun X (hX:Below W.heap.size W X)=>(HX.out.on hX).cells)
  go_region_held3 (fun X=>X.cell? ⟨w.heap.size,0,none⟩=some (.slice A0 g.terms.length c0)∧X.cell? ⟨w.heap.size,1,none⟩=some (.slice A1 g.nons.length c1)∧X.cell? ⟨w.heap.size,2,none⟩=some (.slice A2 g.rules.length c2)∧X.cell? ⟨w.heap.size,3,none⟩=some (.int .i64 g.start))
   (exact HSC.out _ (by first | exact h0 | exact h1 | exact h2 | exact h3 | exact h4 | exact h3.alloc h3.size _ | exact h4.alloc h4.size _)) (fail)
  all_goals
   go_wp2_with fail
   go_meet
  ·refine ⟨_,w1.heap.size,w1.heap.size+1,rfl, ?_, ?_⟩
   ·have q1:=World.rowIs_made w1 (.slice none 0 0) m 76;have q2:=World.rowIs_made (w1.alloc (.cells (madeCells #[.slice none 0 0] m) 76)) (.slice none 0 0) m 75;rw [show (w1.alloc (.cells (madeCells #[.slice none 0 0] m) 76)).heap.size=w1.heap.size+1 by simp] at q2;refine Cp.start ?_ ((q1.alloc _).alloc _) (q2.alloc _) hs1 (by omega) (by have:=HN.out;omega);have q3:=aC ((w1.alloc (.cells (madeCells #[.slice none 0 0] m) 76)).alloc (.cells (madeCells #[.slice none 0 0] m) 75)) (.cells #[.slice A0 g.terms.length c0,.slice A1 g.nons.length c1,.slice A2 g.rules.length c2,.int .i64 g.start,.slice Al l.length cl,.slice (some ⟨w1.heap.size,0,none⟩) m m,.slice (some ⟨w1.heap.size+1,0,none⟩) m m] 79);rw [show n-1=l.length by have:=HN.out;omega];simp only [World.size_alloc] at q3;exact q3
   ·exact h3.alloc h3.size _
  ·refine ⟨_,w1.heap.size+1,w1.heap.size,rfl, ?_, ?_⟩
   ·have q1:=World.rowIs_made w1 (.slice none 0 0) m 75;have q2:=World.rowIs_made (w1.alloc (.cells (madeCells #[.slice none 0 0] m) 75)) (.slice none 0 0) m 76;rw [show (w1.alloc (.cells (madeCells #[.slice none 0 0] m) 75)).heap.size=w1.heap.size+1 by simp] at q2;refine Cp.start ?_ (q2.alloc _) ((q1.alloc _).alloc _) (by omega) hs1 (by have:=HN.out;omega);have q3:=aC ((w1.alloc (.cells (madeCells #[.slice none 0 0] m) 75)).alloc (.cells (madeCells #[.slice none 0 0] m) 76)) (.cells #[.slice A0 g.terms.length c0,.slice A1 g.nons.length c1,.slice A2 g.rules.length c2,.int .i64 g.start,.slice Al l.length cl,.slice (some ⟨w1.heap.size+1,0,none⟩) m m,.slice (some ⟨w1.heap.size,0,none⟩) m m] 79);rw [show n-1=l.length by have:=HN.out;omega];simp only [World.size_alloc] at q3;exact q3
   ·exact h4.alloc h4.size _
 case rest=>
  obtain ⟨bc,bd,bB,rfl,hcp,hbl⟩:=hcut;have HCP:=Ha hcp;have HBL:=Ha hbl;clear hcp hbl x0 x1 x2 x3 hk3 hk2;have hk1:=run_make_row' (P:=Tryz.prog) 75 4 (.bool false) 1 Tryz.underlying75 BH rfl .i64 .i64 n (by omega) (by omega);have hk2:=run_make_row' (P:=Tryz.prog) 76 75 (.slice none 0 0) 24 Tryz.underlying76 rK rfl .i64 .i64 n (by omega) (by omega);go_wp2
  go_loopw [8] (fun sv wr=>∃ (k:Nat) (p r:Nat→Nat) (q:Nat→Nat→Nat),sv=.int .i64 k∧k≤m∧Cp W.heap.size wr bc bd bB p r q m n k k (aqI n k 0) (d0F g l) (b0F g l) (.slice A0 g.terms.length c0) (.slice A1 g.nons.length c1) (.slice A2 g.rules.length c2) (.int .i64 g.start) Al cl∧Below W.heap.size W wr) (fun sv _=>m-(intOf sv).toNat)
  case atStart=>exact ⟨0,_,_,_,rfl,by omega,HCP.out.conv (fun s i=>by simp [aqI]) (fun _ _ _ h _=>by cases h) (fun _ _ h _=>absurd h (yJ _)),HBL.out⟩
  case round=>
   obtain ⟨k,p,r,q,rfl,hk,hcp,hbl⟩:=hrel;have HXR:=Ha (HX.out.on hbl);have HBR:=Ha hbl;have hszr:=hbl.size;by_cases hlt:k<m
   ·have e6:=aA hcp.hc 6 _ rfl;have e7:=hcp.hB.cell hlt;have e8:=hcp.hB.frozen k;have hal:Below wr.heap.size wr (wr.alloc (.cells (madeCells #[.bool false] n) 4)):=(gR _ _).alloc (gO _) _;have e6':=aD e6 hal;have e7':=aD e7 hal;have e8':=(hcp.below hal).hB.frozen k;have hcr:=hcp.newR hszr;have hbr:=(hbl.alloc hszr (.cells (madeCells #[.bool false] n) 4)).setCell (p:=⟨bB,k,none⟩) hcp.B0B (.slice (some ⟨wr.heap.size,0,none⟩) n n);have HCR:=Ha (hcr.below (w':=((wr.alloc (.cells (madeCells #[.bool false] n) 4)).setCell ⟨bB,k,none⟩ (.slice (some ⟨wr.heap.size,0,none⟩) n n)).drew) ((gR _ _).drew));have HBR2:=Ha hbr.drew;clear hcp hbl hal hcr hbr;go_wp2
    go_region
    generalize hV:((wr.alloc (.cells (madeCells #[.bool false] n) 4)).setCell ⟨bB,k,none⟩ (.slice (some ⟨wr.heap.size,0,none⟩) n n)).drew=V at *;clear e6 e7 e8 e6' e7' e8' hV;have hszv:=HBR2.out.size;have e5:=aA HCR.out.hc 5 _ rfl;have e7:=HCR.out.hd.cell hlt;have e8:=HCR.out.hd.frozen k;have hal:Below V.heap.size V (V.alloc (.cells (madeCells #[.slice none 0 0] n) 75)):=(gR _ _).alloc (gO _) _;have e5':=aD e5 hal;have e7':=aD e7 hal;have e8':=(HCR.out.below hal).hd.frozen k;have hcr:=HCR.out.newP hszv (fun i=>by simp [aqI]);have hbr:=(HBR2.out.alloc hszv (.cells (madeCells #[.slice none 0 0] n) 75)).setCell (p:=⟨bd,k,none⟩) HCR.out.B0d (.slice (some ⟨V.heap.size,0,none⟩) n n);have HCQ:=Ha (hcr.below (w':=((V.alloc (.cells (madeCells #[.slice none 0 0] n) 75)).setCell ⟨bd,k,none⟩ (.slice (some ⟨V.heap.size,0,none⟩) n n)).drew) ((gR _ _).drew));have HBR3:=Ha hbr.drew;clear hal hcr hbr;go_wp2
    go_region
    generalize hU:((V.alloc (.cells (madeCells #[.slice none 0 0] n) 75)).setCell ⟨bd,k,none⟩ (.slice (some ⟨V.heap.size,0,none⟩) n n)).drew=U at *;clear e5 e7 e8 e5' e7' e8' hU HCR HBR2;have HCI:=Ha (HCQ.out.conv (aq':=aqI n k 0) (d':=d0F g l) (bb':=bI g l k 0) (fun _ _=>rfl) (fun _ _ _ _ _=>rfl) (fun s i _ _=>by unfold bI;simp));clear HCQ;go_wp2
    go_loopw [9] (fun iv wr=>∃ (i:Nat) (p r:Nat→Nat) (q:Nat→Nat→Nat),iv=.int .i64 i∧i≤n∧Cp W.heap.size wr bc bd bB p r q m n (k+1) (k+1) (aqI n k i) (d0F g l) (bI g l k i) (.slice A0 g.terms.length c0) (.slice A1 g.nons.length c1) (.slice A2 g.rules.length c2) (.int .i64 g.start) Al cl∧Below W.heap.size W wr) (fun iv _=>n-(intOf iv).toNat)
    case atStart=>exact ⟨0,_,_,_,rfl,by omega,HCI.out,HBR3.out⟩
    case round=>
     clear HCI HBR3 hszv HBR HXR hszr;obtain ⟨i,p,r,q,rfl,hi,hcp,hbl⟩:=hrel;have HXR:=Ha (HX.out.on hbl);have HBR:=Ha hbl;have hszr:=hbl.size;by_cases hin:i<n
     ·have e5:=aA hcp.hc 5 _ rfl;have e6:wr.cell? ⟨bd,k,none⟩=some (.slice (some ⟨p k,0,none⟩) n n):=by rw [hcp.hd.cell hlt,if_pos (by omega)]
      have e7:=(hcp.hp k (by omega)).cell hin;have e8:=(hcp.hp k (by omega)).frozen i;have hal:Below wr.heap.size wr (wr.alloc (.cells (madeCells #[.bool false] n) 4)):=(gR _ _).alloc (gO _) _;obtain ⟨e5',e6',e7'⟩:=Zk3 hal e5 e6 e7;have e8':=((hcp.below hal).hp k (by omega)).frozen i;have hcr:=hcp.newQ (k:=k) (i:=i) hszr (by omega) (by simp [aqI]);have hbr:=(hbl.alloc hszr (.cells (madeCells #[.bool false] n) 4)).setCell (p:=⟨p k,i,none⟩) (hcp.B0p k (by omega)) (.slice (some ⟨wr.heap.size,0,none⟩) n n);have HCV:=Ha ((hcr.below (w':=((wr.alloc (.cells (madeCells #[.bool false] n) 4)).setCell ⟨p k,i,none⟩ (.slice (some ⟨wr.heap.size,0,none⟩) n n)).drew) ((gR _ _).drew)).conv (fun s j=>EA hin s j) (fun _ _ _ _ _=>rfl) (fun _ _ _ _=>rfl));have HBV:=Ha hbr.drew;have hxv:=HX.out.on hbr.drew;have HTM:=Ha (H4.out _ _ g (k:Int) hxv.old hxv.gm);have HXV:=Ha hxv;clear hcp hbl hal hcr hbr hxv;go_wp2
      go_region
      generalize hV:((wr.alloc (.cells (madeCells #[.bool false] n) 4)).setCell ⟨p k,i,none⟩ (.slice (some ⟨wr.heap.size,0,none⟩) n n)).drew=V2 at *;generalize up2 q k i wr.heap.size=q' at *;clear e5 e6 e7 e8 e5' e6' e7' e8' hV;obtain ⟨x0,x1,x2,x3⟩:=HXV.out.cells;have hnl:i≤l.length:=by have:=HN.out;omega
      by_cases hA:g.T (k:Int)∧∃ h2:i<l.length,l[i]=(k:Int)
      ·obtain ⟨hT,h2,h3⟩:=hA;rw [yD hT] at HTM;go_wp2_with fail;refine (HTM.out).mono ?_;rintro e w6 ⟨rfl,hb6⟩;obtain ⟨bl,ol,rfl,zl⟩:=aF.get (HI.out w6 (HBV.out.trans (hb6.mono HBV.out.size))) h2;rw [h3] at zl;have c6:=HCV.out.below hb6;have HB6:=Ha (HBV.out.trans (hb6.mono HBV.out.size));have haq:aqI n k (i+1) k i=true:=by simp [aqI,hin]
       have h1n:i+1<n:=by have:=HN.out;omega
       have e5:=aA c6.hc 5 _ rfl;have e6:w6.cell? ⟨bd,k,none⟩=some (.slice (some ⟨p k,0,none⟩) n n):=by rw [c6.hd.cell hlt,if_pos (by omega)]
       have e7:w6.cell? ⟨p k,i,none⟩=some (.slice (some ⟨q' k i,0,none⟩) n n):=by rw [(c6.hp k (by omega)).cell hin,if_pos haq]
       have e8:=(c6.hq k i haq).cell h1n;have e9:=(c6.hq k i haq).frozen (i+1);have c7:=c6.putD haq (i+1) true;have HB7:=Ha (HB6.out.setCell (p:=⟨q' k i,i+1,none⟩) (c6.B0q k i haq) (.bool true));have f5:=aA c7.hc 6 _ rfl;have f6:(w6.setCell ⟨q' k i,i+1,none⟩ (.bool true)).cell? ⟨bB,k,none⟩=some (.slice (some ⟨r k,0,none⟩) n n):=by rw [c7.hB.cell hlt,if_pos (by omega)]
       have f7:=(c7.hr k (by omega)).cell hin;have f8:=(c7.hr k (by omega)).frozen i;obtain ⟨v,hv⟩:∃ v,v=decide (i+1=l.length):=⟨_,rfl⟩;have hbv:((i:Int)+1==(l.length:Int))=v:=by
        rw [hv,Bool.eq_iff_iff,beq_iff_eq,decide_eq_true_iff];omega
       have c8:=c7.putB (s:=k) (by omega) i v;have HB8:=Ha (HB7.out.setCell (p:=⟨r k,i,none⟩) (c7.B0r k (by omega)) (.bool v));have HC8:=Ha (c8.conv (aq':=aqI n k (i+1)) (d':=d0F g l) (bb':=bI g l k (i+1)) (fun _ _=>rfl) (fun s i' j _ _=>JC (uN hT h2 h3) s i' j) (fun s i' _ _=>o4 (by rw [EB hT h2 h3,hv]) s i'));have hbn:((i:Int)==((l.length:Nat):Int))=false:=beq_eq_false_iff_ne.2 (by omega);clear hv c6 c7 c8 hb6 x0 x1 x2 x3 hT h3;go_wp2_with fail
       go_roundw
       case rel=>exact ⟨i+1,_,_,_,by go_num,by omega,HC8.out,HB8.out⟩
       case measure=>simp only [intOf];omega
      have HNO:=Ha hA;by_cases hT:g.T (k:Int)
      case neg=>
       rw [yE hT] at HTM;clear hT hA;go_wp2_with fail;refine (HTM.out).mono ?_;rintro e w6 ⟨rfl,hb6⟩;have c6:=(HCV.out.below hb6).conv (aq':=aqI n k (i+1)) (d':=d0F g l) (bb':=bI g l k i) (fun _ _=>rfl) (fun s i' j _ _=>s5 (s4 HNO.out) s i' j) (fun _ _ _ _=>rfl);have HB6:=Ha (HBV.out.trans (hb6.mono HBV.out.size));by_cases hiN:i=l.length
       ·have h2:¬i<l.length:=by omega
        clear hiN;have HC8:=Ha ((c6.putB (s:=k) (by omega) i true).conv (aq':=aqI n k (i+1)) (d':=d0F g l) (bb':=bI g l k (i+1)) (fun _ _=>rfl) (fun _ _ _ _ _=>rfl) (fun s i' _ _=>o4 (by rw [o3 HNO.out];exact yD (by omega)) s i'));have HB8:=Ha (HB6.out.setCell (p:=⟨r k,i,none⟩) (c6.B0r k (by omega)) (.bool true));have e5:=aA c6.hc 6 _ rfl;have e6:w6.cell? ⟨bB,k,none⟩=some (.slice (some ⟨r k,0,none⟩) n n):=by rw [c6.hB.cell hlt,if_pos (by omega)]
        have e7:=(c6.hr k (by omega)).cell hin;have e8:=(c6.hr k (by omega)).frozen i;clear c6 hb6 x0 x1 x2 x3;have hbn:((i:Int)==(l.length:Int))=true:=by rw [show i=l.length by omega];exact beq_self_eq_true _
        go_wp2_with fail
        go_roundw
        case rel=>exact ⟨i+1,_,_,_,by go_num,by omega,HC8.out,HB8.out⟩
        case measure=>simp only [intOf];omega
       ·have h2:i<l.length:=by omega
        have HC8:=Ha (c6.conv (aq':=aqI n k (i+1)) (d':=d0F g l) (bb':=bI g l k (i+1)) (fun _ _=>rfl) (fun _ _ _ _ _=>rfl) (fun s i' _ _=>uI (by rw [o3 HNO.out];exact yE (by omega)) s i'));clear c6 hb6 x0 x1 x2 x3;have hbn:((i:Int)==(l.length:Int))=false:=beq_eq_false_iff_ne.2 (by omega);go_wp2_with fail
        go_roundw
        case rel=>exact ⟨i+1,_,_,_,by go_num,by omega,HC8.out,HB6.out⟩
        case measure=>simp only [intOf];omega
      rw [yD hT] at HTM;by_cases h2:i<l.length
      ·have h3:l[i]≠(k:Int):=fun h3=>hA ⟨hT,h2,h3⟩;clear hA hT;go_wp2_with fail;refine (HTM.out).mono ?_;rintro e w6 ⟨rfl,hb6⟩;obtain ⟨bl,ol,rfl,zl⟩:=aF.get (HI.out w6 (HBV.out.trans (hb6.mono HBV.out.size))) h2;have hz:(l[i]==(k:Int))=false:=beq_eq_false_iff_ne.2 h3;have c6:=(HCV.out.below hb6).conv (aq':=aqI n k (i+1)) (d':=d0F g l) (bb':=bI g l k i) (fun _ _=>rfl) (fun s i' j _ _=>s5 (s4 HNO.out) s i' j) (fun _ _ _ _=>rfl);have HB6:=Ha (HBV.out.trans (hb6.mono HBV.out.size));clear h3
       revert zl hz
       generalize l[i]=z;intro zl hz;have HC8:=Ha (c6.conv (aq':=aqI n k (i+1)) (d':=d0F g l) (bb':=bI g l k (i+1)) (fun _ _=>rfl) (fun _ _ _ _ _=>rfl) (fun s i' _ _=>uI (by rw [o3 HNO.out];exact yE (by omega)) s i'));clear c6 hb6 x0 x1 x2 x3;have hbn:((i:Int)==(l.length:Int))=false:=beq_eq_false_iff_ne.2 (by omega);go_wp2_with fail
       go_roundw
       case rel=>exact ⟨i+1,_,_,_,by go_num,by omega,HC8.out,HB6.out⟩
       case measure=>simp only [intOf];omega
      clear hA hT;go_wp2_with fail;refine (HTM.out).mono ?_;rintro e w6 ⟨rfl,hb6⟩;have c6:=(HCV.out.below hb6).conv (aq':=aqI n k (i+1)) (d':=d0F g l) (bb':=bI g l k i) (fun _ _=>rfl) (fun s i' j _ _=>s5 (s4 HNO.out) s i' j) (fun _ _ _ _=>rfl);have HB6:=Ha (HBV.out.trans (hb6.mono HBV.out.size));have HC8:=Ha ((c6.putB (s:=k) (by omega) i true).conv (aq':=aqI n k (i+1)) (d':=d0F g l) (bb':=bI g l k (i+1)) (fun _ _=>rfl) (fun _ _ _ _ _=>rfl) (fun s i' _ _=>o4 (by rw [o3 HNO.out];exact yD (by omega)) s i'));have HB8:=Ha (HB6.out.setCell (p:=⟨r k,i,none⟩) (c6.B0r k (by omega)) (.bool true));have e5:=aA c6.hc 6 _ rfl;have e6:w6.cell? ⟨bB,k,none⟩=some (.slice (some ⟨r k,0,none⟩) n n):=by rw [c6.hB.cell hlt,if_pos (by omega)]
      have e7:=(c6.hr k (by omega)).cell hin;have e8:=(c6.hr k (by omega)).frozen i;clear c6 hb6 x0 x1 x2 x3;have hbn:((i:Int)==(l.length:Int))=true:=by rw [show i=l.length by omega];exact beq_self_eq_true _
      go_wp2_with fail
      go_roundw
      case rel=>exact ⟨i+1,_,_,_,by go_num,by omega,HC8.out,HB8.out⟩
      case measure=>simp only [intOf];omega
     ·have HC9:=Ha (hcp.conv (aq':=aqI n (k+1) 0) (d':=d0F g l) (bb':=b0F g l) (fun s i'=>by rw [show i=n by omega];exact zN ..) (fun _ _ _ _ _=>rfl) (fun s i' _ _=>by unfold bI;rw [if_neg (by omega)]));clear hcp hbl;go_wp2_with fail
      go_roundw
      case rel=>exact ⟨k+1,_,_,_,by go_num,by omega,HC9.out,HBR.out⟩
      case measure=>simp only [intOf];omega
   ·obtain rfl:k=m:=by omega
    have HCH:=Ha (hcp.done (fun s i hs hi=>by simp [aqI,hs,hi]));have HBQ:=Ha (show ∀ s i,s<k→i<n→W.heap.size≤q s i from fun s i hs hi=>hcp.B0q s i (by simp [aqI,hs,hi]));have HBS:=Ha (show ∀ s,s<k→W.heap.size≤r s from fun s hs=>hcp.B0r s hs);clear hcp hbl HCP HBL HB1 hk1 hk2;obtain ⟨N,hN⟩:∃ N,N=l.length:=⟨_,rfl⟩;have hnN:n=N+1:=by have:=HN.out;omega
    rw [hnN] at HCH HBQ;have HNL:=Ha hN;have hNb:N≤1000:=by omega
    clear hN hnN hn1 hwn hwm hm1 hn2 hk hlt;go_wp2
    go_loopw [10] (fun mv wr=>∃ (d:Nat→Nat→Nat→Bool) (bb:Nat→Nat→Bool) (more:Bool),mv=.bool more∧Ch wr bc bd bB p r q k (N+1) d bb (.slice A0 g.terms.length c0) (.slice A1 g.nons.length c1) (.slice A2 g.rules.length c2) (.int .i64 g.start) Al cl∧Grown g N (d0F g l) (b0F g l) d bb∧Below W.heap.size W wr∧
     (more=false→∀ r∈g.rules,(∀ i j,i≤j→j≤N→spanB d r.2 i j=true→d r.1.toNat i j=true)∧∀ i,i≤N→begB d bb N r.2 i=true→bb r.1.toNat i=true)) (fun mv wr=>2*meas k (N+1) (dOf wr bc) (bOf wr bc)+fF mv)
    case atStart=>exact ⟨_,_,true,rfl,HCH.out,.refl,HBR.out,fun h=>by cases h⟩
    case round=>
     clear HCH HXR hszr HBR;obtain ⟨d,bb,more,rfl,hch,hgr,hbl,hcl⟩:=hrel;obtain ⟨HCH,HGR,HBR,HCL,HXR,HMM⟩:=Zh6 hch hgr hbl hcl (HX.out.on hbl) (vC hch);clear hch hgr hbl hcl;cases more
     ·have HFI:=Ha (show qL g l Al cl w (.returned (.pointer (some ⟨bc,0,none⟩))) wr from
       ⟨bc,bd,bB,p,r,q,d,bb,_,_,_,_,rfl,by rw [← HM.out,← HNL.out];exact HCH.out,⟨by rw [← HNL.out];exact HGR.out,fun r hr i j h1 h2 h3=>(HCL.out rfl r hr).1 i j h1 (by rw [HNL.out];exact h2) h3,fun r hr i h1 h2=>(HCL.out rfl r hr).2 i (by rw [HNL.out];exact h1) (by rw [HNL.out];exact h2)⟩,HB.out.trans (HBR.out.mono HB.out.size)⟩)
      go_wp2_with fail;go_ret;exact HFI.out
     ·obtain ⟨x0,x1,x2,x3⟩:=HXR.out.cells;go_wp2
      go_loopw [10,11] (fun mv iv wr=>∃ (i:Nat) (d':Nat→Nat→Nat→Bool) (bb':Nat→Nat→Bool) (mo:Bool),mv=.bool mo∧iv=.int .i64 i∧i≤g.rules.length∧Ch wr bc bd bB p r q k (N+1) d' bb' (.slice A0 g.terms.length c0) (.slice A1 g.nons.length c1) (.slice A2 g.rules.length c2) (.int .i64 g.start) Al cl∧Grown g N (d0F g l) (b0F g l) d' bb'∧Below W.heap.size W wr∧
       (mo=true→meas k (N+1) d' bb'<meas k (N+1) d bb)∧(mo=false→d'=d∧bb'=bb∧∀ r∈g.rules.take i,(∀ i j,i≤j→j≤N→spanB d r.2 i j=true→d r.1.toNat i j=true)∧∀ i,i≤N→begB d bb N r.2 i=true→bb r.1.toNat i=true)) (fun _ iv _=>g.rules.length-(intOf iv).toNat)
      case atStart=>exact ⟨0,d,bb,false,rfl,rfl,by omega,HCH.out,HGR.out,HBR.out,fun h=>(by cases h),fun _=>⟨rfl,rfl,by simp⟩⟩
      case round=>
       clear HXR HBR x0 x1 x2 x3;obtain ⟨i,d',bb',mo,rfl,rfl,hi,hch,hgr,hbl,hmy,hmn⟩:=hrel;obtain ⟨HC2,HG2,HB2,HMY,HMN,HXR⟩:=Zh6 hch hgr hbl hmy hmn (HX.out.on hbl);clear hch hgr hbl hmy hmn;obtain ⟨x0,x1,x2,x3⟩:=HXR.out.cells;by_cases hlt:i<g.rules.length
       ·obtain ⟨bb3,off,Ak,ck,rfl,z0,z1,zi⟩:=HXR.out.rule hlt;have hmem:=gN hlt;obtain ⟨HTK,HKL,HKR,HMEM,HRU⟩:=Zh5 (dG hlt) (HK.out.left _ hmem) (HK.out.right _ hmem) hmem (show RuV G wr [.int .i64 g.rules[i].1,.slice Ak g.rules[i].2.length ck] g.rules[i] from ⟨_,rfl,zi⟩);clear hmem zi
        revert HTK HKL HKR HMEM HRU z0 z1
        generalize g.rules[i]=ru;obtain ⟨ra,rb⟩:=ru;dsimp only;intro z0 z1 HTK HKL HKR HMEM HRU;obtain ⟨x,rfl⟩:=Int.eq_ofNat_of_zero_le (show 0≤ra by have:=HKL.out;unfold Gm.N at this;omega);have hxm:x<k:=by have:=HKL.out;have:=HM.out;unfold Gm.N at *;omega
        have FR:=Ha (IV G wr W.heap.size bc bd bB p r q k N d' bb' _ _ _ _ _ _ _ x rb HC2.out (fun j hj=>by have:=HG.out j hj;omega) HB2.out.size HBQ.out HBS.out HRU.out hxm
         (fun s hs=>by have h1:=Gm.mem_T_le (HKR.out s hs);have:=HM.out;omega) (by omega) (by omega))
        unfold ag at FR;go_wp2_with fail;refine (FR.out).mono ?_;rintro e w6 hp;obtain ⟨d2,b2,m2,rfl,hch2,hst2,hb2,hmy2,hmn2⟩:=hp;obtain ⟨HC3,HG3,HB3⟩:=Zh3 hch2 (HG2.out.step HMEM.out hst2) (HB2.out.trans hb2);cases m2
        ·obtain ⟨rfl,rfl,k1,k2⟩:=hmn2 rfl;have HMN3:=Ha (show mo=false→d2=d∧b2=bb∧∀ r∈g.rules.take (i+1),(∀ i j,i≤j→j≤N→spanB d r.2 i j=true→d r.1.toNat i j=true)∧∀ i,i≤N→begB d bb N r.2 i=true→bb r.1.toNat i=true from fun h=>by
          obtain ⟨e1,e2,e3⟩:=HMN.out h;refine ⟨e1,e2,fun r hr=>?_⟩;rw [HTK.out,List.mem_append,gV] at hr;rcases hr with hr | rfl
          ·exact e3 r hr
          ·rw [e1] at k1 k2;rw [e2] at k2;exact ⟨fun i j h1 h2 h3=>k1 i j h1 h2 h3,fun i h1 h2=>k2 i h1 h2⟩)
         clear hch2 hst2 hb2 hmy2 hmn2 k1 k2 x0 x1 x2 x3 z0 z1;go_wp2_with fail
         go_roundw
         case rel=>exact ⟨i+1,d2,b2,mo,rfl,by go_num,by omega,HC3.out,HG3.out,HB3.out,HMY.out,HMN3.out⟩
         case measure=>simp only [intOf];omega
        ·have HMY3:=Ha (show meas k (N+1) d2 b2<meas k (N+1) d bb by
          have h1:=hmy2 rfl;cases hmo:mo
          ·obtain ⟨e1,e2,_⟩:=HMN.out hmo
           rwa [e1,e2] at h1
          ·have:=HMY.out hmo;omega)
         clear hch2 hst2 hb2 hmy2 hmn2 x0 x1 x2 x3 z0 z1;go_wp2_with fail
         go_roundw
         case rel=>exact ⟨i+1,d2,b2,true,rfl,by go_num,by omega,HC3.out,HG3.out,HB3.out,fun _=>HMY3.out,fun h=>(by cases h)⟩
         case measure=>simp only [intOf];omega
       ·have HMX:=Ha (vC HC2.out);have HCLX:=Ha (show mo=false→∀ r∈g.rules,(∀ i j,i≤j→j≤N→spanB d' r.2 i j=true→d' r.1.toNat i j=true)∧∀ i,i≤N→begB d' bb' N r.2 i=true→bb' r.1.toNat i=true from fun h r hr=>by
         obtain ⟨e1,e2,e3⟩:=HMN.out h;rw [e1,e2];exact e3 r (by rw [List.take_of_length_le (by omega)];exact hr))
        go_wp2_with fail
        go_roundw
        case rel=>exact ⟨d',bb',mo,rfl,HC2.out,HG2.out,HB2.out,HCLX.out⟩
        case measure=>
         rw [HMX.out,HMM.out];cases hmo:mo
         ·obtain ⟨e1,e2,_⟩:=HMN.out hmo;rw [e1,e2];simp [fF]
         ·have:=HMY.out hmo;simp [fF];omega
theorem setD_or {d:Nat→Nat→Nat→Bool} {s i j s' i' j':Nat} (h:setD d s i j s' i' j'=true):(s'=s∧i'=i∧j'=j)∨d s' i' j'=true:=by
 unfold setD at h;by_cases e:s'=s∧i'=i∧j'=j
 ·exact .inl e
 ·rw [if_neg e] at h;exact .inr h
theorem F0 {d:Nat→Nat→Nat→Bool} {s i j s' i' j':Nat} (h:d s' i' j'=true):setD d s i j s' i' j'=true:=by
 unfold setD
 split
 ·rfl
 ·exact h
def IS (d:Nat→Nat→Nat→Bool) (s:Int) (i j:Nat):Prop:=0≤s∧d s.toNat i j=true
theorem jL {d:Nat→Nat→Nat→Bool}:∀ (a:List Int) (i j:Nat),(∀ s∈a,0≤s)→(spanB d a i j=true↔Gm.Span (IS d) a i j)
 | [],i,j,_=>by
  rw [spanB,Gm.Span];exact beq_iff_eq
 | x::a,i,j,h=>by
  rw [oW,Gm.Span];constructor
  ·rintro ⟨k,h1,h2,h3⟩;exact ⟨i+k,by omega,h1,⟨h x (yH ..),h2⟩,(jL a _ _ fun s hs=>h s (yI _ hs)).1 h3⟩
  ·rintro ⟨m,h1,h2,h3,h4⟩;refine ⟨m-i,by omega, ?_, ?_⟩
   ·rw [show i+(m-i)=m by omega];exact h3.2
   ·rw [show i+(m-i)=m by omega];exact (jL a _ _ fun s hs=>h s (yI _ hs)).2 h4
def lD (g:Gm) (l:List Int) (d:Nat→Nat→Nat→Bool):Prop:=∀ s i j,i≤j→j≤l.length→d s i j=true→g.Der [(s:Int)] (Gm.seg l i j)
theorem IW (g:Gm) (l:List Int):lD g l (d0F g l):=fun s i j _ _ h=>by
 unfold d0F at h;simp only [yF,decide_eq_true_iff] at h;obtain ⟨⟨⟨h3,h4⟩,h5⟩,rfl⟩:=h;rw [List.getD_eq_getElem?_getD,List.getElem?_eq_getElem h4,Option.getD_some] at h5;rw [Gm.seg_one h4,h5];exact .term h3 .nil
theorem tY {g:Gm} {l:List Int} {d:Nat→Nat→Nat→Bool} (hd:lD g l d) (a:List Int) (ha:∀ s∈a,0≤s) {i j:Nat} (hij:i≤j) (hj:j≤l.length) (h:spanB d a i j=true):g.Der a (Gm.seg l i j):=
 Gm.span_sound (D:=IS d) (fun s i j h1 h2 h3=>by
  have h4:=hd s.toNat i j h1 h2 h3.2
  rwa [show ((s.toNat:Nat):Int)=s by have:=h3.1;omega] at h4) a i j hij hj ((jL a i j ha).1 h)
theorem fO {g:Gm} {s:Int} (h:g.T s∨g.N s):0≤s:=by have:=Gm.mem_T_le h;omega
theorem sH {g:Gm} (hk:g.Known) {l:List Int} {x:Nat} {b:List Int} (hr:((x:Int),b)∈g.rules) {d d':Nat→Nat→Nat→Bool} {bb bb':Nat→Nat→Bool} (h:Steps x b l.length d bb d' bb') (hd:lD g l d):lD g l d':=by
 induction h with
 | refl=>exact hd
 | @dd d1 b1 i j _ hij hj hs ih=>
  intro s i' j' h1 h2 h3;rcases setD_or h3 with ⟨rfl,rfl,rfl⟩ | h3
  ·exact (Gm.Der.of_rule (hk.left _ hr)).2 ⟨b,hr,tY ih b (fun s hs=>fO (hk.right _ hr s hs)) h1 h2 hs⟩
  ·exact ih s i' j' h1 h2 h3
 | bb _ _ _ ih=>exact ih
theorem sG {g:Gm} (hk:g.Known) {l:List Int} {d:Nat→Nat→Nat→Bool} {bb:Nat→Nat→Bool} (h:Grown g l.length (d0F g l) (b0F g l) d bb):lD g l d:=by
 induction h with
 | refl=>exact IW g l
 | step _ hr hs ih=>exact sH hk hr hs ih
theorem DN {x N:Nat} {b:List Int} {d d':Nat→Nat→Nat→Bool} {bb bb':Nat→Nat→Bool} (h:Steps x b N d bb d' bb') (s i j:Nat) (h0:d s i j=true):d' s i j=true:=by
 induction h with
 | refl=>exact h0
 | dd _ _ _ _ ih=>exact F0 ih
 | bb _ _ _ ih=>exact ih
theorem BD {g:Gm} {N:Nat} {d0 d:Nat→Nat→Nat→Bool} {b0 bb:Nat→Nat→Bool} (h:Grown g N d0 b0 d bb) (s i j:Nat) (h0:d0 s i j=true):d s i j=true:=by
 induction h with
 | refl=>exact h0
 | step _ _ hs ih=>exact DN hs s i j ih
theorem tB {g:Gm} (hk:g.Known) {l:List Int} {d:Nat→Nat→Nat→Bool} {bb:Nat→Nat→Bool} (h:Filled g l d bb) {s:Nat} {i j:Nat} (hij:i≤j) (hj:j≤l.length):d s i j=true↔g.Der [(s:Int)] (Gm.seg l i j):=by
 constructor
 ·exact sG hk h.gr s i j hij hj
 ·intro hd;have h1:=Gm.span_complete (g:=g) (l:=l) (D:=IS d) (fun i hi hT=>⟨fO (.inl hT),by
    have h0:((l[i].toNat:Nat):Int)=l[i]:=by have:=fO (g:=g) (.inl hT);omega
    exact BD h.gr _ _ _ (by rw [uN (by rw [h0];exact hT) hi h0.symm];exact yD rfl)⟩)
   (fun r hr i j h1 h2 h3=>⟨fO (.inr (hk.left r hr)),h.cd r hr i j h1 h2 ((jL r.2 i j fun s hs=>fO (hk.right r hr s hs)).2 h3)⟩) hd i j hij hj rfl
  obtain ⟨m,_,_,h4,h5⟩:=h1;obtain rfl:=(show m=j from h5);have h6:=h4.2
  rwa [yB] at h6
end Go.Proofs.YtpidmmfjcghmeaaGreat
