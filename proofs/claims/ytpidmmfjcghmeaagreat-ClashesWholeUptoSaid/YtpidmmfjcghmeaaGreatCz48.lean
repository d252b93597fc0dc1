/- Towards clashesWhole_upto. -/
import Derived.Test.YtpidmmfjcghmeaaGreatCz46
set_option maxRecDepth 100000
set_option maxHeartbeats 16000000
set_option linter.all false
namespace Go.Proofs.YtpidmmfjcghmeaaGreat
open Go.RowKit
def iR (n:Nat) (w:World) (bo off:Nat) (cs:Array Value) (bT bwT X2:Nat) (sf:Bool) (e:Ending) (w':World):Prop:=
 ∃ (mo sf':Bool) (X':Nat),e=.returned (.bool mo)∧X2≤X'∧BSet w' bT bwT n X'∧w'.heap[bo]? = some (.cells (if sf'=sf then cs else cs.setIfInBounds (off+2) (.bool true)) 303 (0,0))∧(sf=true→sf'=true)∧(mo=true→X2<X'∨(sf=false∧sf'=true))∧Chg (fun k=>k=bwT∨k=bo) w w'
theorem GY (w:World) (bm bo off n:Nat) (cs:Array Value) (xs:Int) (xself em sf:Bool) (bX bwX X1 bT bwT X2 bS bwS X3:Nat) (hbo:w.heap[bo]? = some (.cells cs 303 (0,0))) (h1:cs[off+1]? = some (.pointer (some ⟨bT,0,none⟩))) (h2:cs[off+2]? = some (.bool sf)) (hX:BSet w bX bwX n X1) (hT:BSet w bT bwT n X2) (hS:BSet w bS bwS n X3) (hn:n≤64):
  Calls Tryz.prog 247 #[.pointer (some ⟨bm,0,none⟩),.agg #[.int .i64 xs,.pointer (some ⟨bX,0,none⟩),.bool xself],.pointer (some ⟨bo,off,none⟩),.agg #[.pointer (some ⟨bS,0,none⟩),.bool em]] w fun e w'=>iR n w bo off cs bT bwT X2 sf e w':=by
 have hb1:Below w.heap.size w (w.alloc (.cells #[.int .i64 xs,.pointer (some ⟨bX,0,none⟩),.bool xself] 303)):=(gR _ _).alloc (gO _) _;have q1:=aC w (.cells #[.int .i64 xs,.pointer (some ⟨bX,0,none⟩),.bool xself] 303);have hsz:(w.alloc (.cells #[.int .i64 xs,.pointer (some ⟨bX,0,none⟩),.bool xself] 303)).heap.size=w.heap.size+1:=by simp
 generalize hW1:w.alloc (.cells #[.int .i64 xs,.pointer (some ⟨bX,0,none⟩),.bool xself] 303)=w1 at *;have hb2:Below w1.heap.size w1 (w1.alloc (.cells #[.pointer (some ⟨bS,0,none⟩),.bool em] 296)):=(gR _ _).alloc (gO _) _;have q2:=aC w1 (.cells #[.pointer (some ⟨bS,0,none⟩),.bool em] 296);generalize hW2:w1.alloc (.cells #[.pointer (some ⟨bS,0,none⟩),.bool em] 296)=w2 at *;have hb02:Below w.heap.size w w2:=hb1.trans (hb2.mono hb1.size);have q1':w2.heap[w.heap.size]? = some (.cells #[.int .i64 xs,.pointer (some ⟨bX,0,none⟩),.bool xself] 303 (0,0)):=(hb2.block _ (gL q1).1).trans q1;have hbo2:=(hb02.block bo (gL hbo).1).trans hbo;have hX2:=hX.below hb02;have hT2:=hT.below hb02;have hS2:=hS.below hb02;have hne:∀ {T:TypeId} {k:Nat},TB T w2 k→T≠154→k≠bwT:=fun h1 h2=>h1.ne (T':=154) ⟨_,hT2.hw⟩ h2;have HS:=Ha (show ∀ X,Chg (· = bwT) w2 X→X.cell? ⟨bo,off+1,none⟩=some (.pointer (some ⟨bT,0,none⟩))∧X.cell? ⟨w1.heap.size,0,none⟩=some (.pointer (some ⟨bS,0,none⟩))∧X.cell? ⟨w.heap.size,1,none⟩=some (.pointer (some ⟨bX,0,none⟩)) from
  fun X hX=>⟨hX.cell (aA hbo2 _ _ h1) (hne (T:=303) ⟨_,hbo2⟩ (by decide)),hX.cell (aA q2 0 _ rfl) (hne (T:=296) ⟨_,q2⟩ (by decide)),hX.cell (aA q1' 1 _ rfl) (hne (T:=303) ⟨_,q1'⟩ (by decide))⟩)
 have HZ:=Ha (show ∀ X,Chg (· = bwT) w2 X→X.cell? ⟨w.heap.size,2,none⟩=some (.bool xself)∧X.cell? ⟨w1.heap.size,1,none⟩=some (.bool em)∧X.cell? ⟨bo,off+2,none⟩=some (.bool sf)∧X.heap[bo]? = some (.cells cs 303 (0,0)) from
  fun X hX=>⟨hX.cell (aA q1' 2 _ rfl) (hne (T:=303) ⟨_,q1'⟩ (by decide)),hX.cell (aA q2 1 _ rfl) (hne (T:=296) ⟨_,q2⟩ (by decide)),hX.cell (aA hbo2 _ _ h2) (hne (T:=303) ⟨_,hbo2⟩ (by decide)),(hX.same bo (gL hbo2).1 (hne (T:=303) ⟨_,hbo2⟩ (by decide))).trans hbo2⟩)
 have HSets:=Ha (gS hX2 (gS hT2 hS2));have HB02:=Ha hb02;have HEND:=Ha (show ∀ wx mo X',BSet wx bT bwT n X'→X2≤X'→(mo=true→X2<X')→Chg (· = bwT) w2 wx→iR n w bo off cs bT bwT X2 sf (.returned (.bool mo)) wx from
  fun wx mo X' h1 h2 h3 h4=>⟨mo,sf,X',rfl,h2,h1,by rw [if_pos rfl];exact (HZ.out wx h4).2.2.2,fun h=>h,fun h=>.inl (h3 h),(Chg.of hb02).trans2 h4 fun i _ e=>.inl e⟩)
 have HNE:=Ha (fun (z:World) (hz:z=w2)=>pZ bX bwX n X1 0 z (hz▸hX2) (by omega));obtain ⟨u0,u1,u2,_⟩:=HZ.out w2 (Chg.refl _ _);obtain ⟨_,_,u3⟩:=HS.out w2 (Chg.refl _ _);have HU:=Ha (gS u0 (gS u1 u2));clear hb1 q1 hb2 q2 hb02 q1' hbo2 hX2 hT2 hS2 hne hbo h1 h2 hX hT hS hsz;go_enter Tryz.func247,Tryz.ntmps247;cases xself
 case true=>
  go_upto_region 3 with fail
  go_cut [9] (fun v9 wx=>∃ (mo:Bool) (X':Nat),v9=.bool mo∧X2≤X'∧BSet wx bT bwT n X'∧(mo=true→X2<X')∧Chg (· = bwT) w2 wx)
  case first=>
   have hor:=p6 bT bwT n X2 bS bwS X3 w2.drew (HSets.out.2.1.keep rfl rfl) (HSets.out.2.2.keep rfl rfl);have W2:=Ha (show Chg (· = bwT) w2 w2.drew from (Chg.refl _ _).drew);clear u0 u1 u2 u3;by_cases hne:X2 ||| X3=X2
   ·rw [show decide (X2 ||| X3≠X2)=false from by simp [hne]] at hor;have HOR:=Ha hor;clear hor;go_wp2_with fail;refine aE.start 7 (fun X=>X.cell? ⟨bo,off+1,none⟩=some (.pointer (some ⟨bT,0,none⟩))∧X.cell? ⟨w1.heap.size,0,none⟩=some (.pointer (some ⟨bS,0,none⟩))∧X.cell? ⟨w.heap.size,1,none⟩=some (.pointer (some ⟨bX,0,none⟩))) (by kernel_rfl) ?hs_1 (fun hHeld=>?hr_1)
    case hs_1=>exact HS.out _ W2.out
    refine aE.tks [0,1,2,3,4,5] ?_
    iterate 6
     refine aK.cons ?_;simp only [gA,gB,gC,Act.put,gD,gE,gF]
    show aE _ _ _ _ _ _ _ _ _ _;refine aE.one (i:=6) fun K hK=>?_;simp only [gA,gB,gC]
    go_simp
    with_reducible refine Calls.mono HOR.out ?_
    rintro e w5 ⟨rfl,hs5,hc5⟩;have HC5:=Ha (show Chg (· = bwT) w2 w5 from W2.out.trans hc5);have HS5:=Ha hs5;clear hs5 hc5;dsimp only;refine hK.out _ _ ?_ (fun hHeld=>?_)
    ·exact HS.out _ HC5.out
    clear hK K;try simp only [Act.put,gD,gE,gF]
    refine aE.last fun K hK=>?_;simp only [gA,gB,gC]
    go_simp
    refine hK.out _ _ (aE.done (by kernel_rfl) ?_ _);go_wp2_with fail
    go_meet
    exact ⟨false,X2 ||| X3,rfl,cG _ _,HS5.out,(fun h=>by cases h),HC5.out⟩
   ·rw [show decide (X2 ||| X3≠X2)=true from by simp [hne]] at hor;have HOR:=Ha hor;have HNEQ:=Ha (show X2<X2 ||| X3 from Nat.lt_of_le_of_ne (cG _ _) (Ne.symm hne));clear hor;go_wp2_with fail;refine aE.start 7 (fun X=>X.cell? ⟨bo,off+1,none⟩=some (.pointer (some ⟨bT,0,none⟩))∧X.cell? ⟨w1.heap.size,0,none⟩=some (.pointer (some ⟨bS,0,none⟩))∧X.cell? ⟨w.heap.size,1,none⟩=some (.pointer (some ⟨bX,0,none⟩))) (by kernel_rfl) ?hs_2 (fun hHeld=>?hr_2)
    case hs_2=>exact HS.out _ W2.out
    refine aE.tks [0,1,2,3,4,5] ?_
    iterate 6
     refine aK.cons ?_;simp only [gA,gB,gC,Act.put,gD,gE,gF]
    show aE _ _ _ _ _ _ _ _ _ _;refine aE.one (i:=6) fun K hK=>?_;simp only [gA,gB,gC]
    go_simp
    with_reducible refine Calls.mono HOR.out ?_
    rintro e w5 ⟨rfl,hs5,hc5⟩;have HC5:=Ha (show Chg (· = bwT) w2 w5 from W2.out.trans hc5);have HS5:=Ha hs5;clear hs5 hc5;dsimp only;refine hK.out _ _ ?_ (fun hHeld=>?_)
    ·exact HS.out _ HC5.out
    clear hK K;try simp only [Act.put,gD,gE,gF]
    refine aE.last fun K hK=>?_;simp only [gA,gB,gC]
    go_simp
    refine hK.out _ _ (aE.done (by kernel_rfl) ?_ _);go_wp2_with fail
    go_meet
    exact ⟨true,X2 ||| X3,rfl,cG _ _,HS5.out,fun _=>HNEQ.out,HC5.out⟩
  case rest=>
   obtain ⟨mo,X',rfl,hle,hst,hmo,hch⟩:=hcut;have HA:=Ha (gS hle (gS hst (gS hmo hch)));obtain ⟨u0,u1,u2,_⟩:=HZ.out wc hch;clear hle hst hmo;cases em
   case false=>
    go_wp2_with fail;go_ret;exact HEND.out _ _ _ HA.out.2.1 HA.out.1 HA.out.2.2.1 HA.out.2.2.2
   case true=>
    obtain ⟨X1',_,hX1⟩:=HSets.out.2.1.other HSets.out.1 hch HA.out.2.1 HA.out.1;have hor:=p6 bT bwT n X' bX bwX X1' wc.drew (HA.out.2.1.keep rfl rfl) (hX1.keep rfl rfl);have W3:=Ha (show Chg (· = bwT) w2 wc.drew from hch.drew);clear hX1 hch u0 u2
    go_upto_region 6 with fail
    go_cut [9] (fun v9 wx=>∃ (mo:Bool) (X':Nat),v9=.bool mo∧X2≤X'∧BSet wx bT bwT n X'∧(mo=true→X2<X')∧Chg (· = bwT) w2 wx)
    case first=>
     clear u1;by_cases hne:X' ||| X1'=X'
     ·rw [show decide (X' ||| X1'≠X')=false from by simp [hne]] at hor;have HOR:=Ha hor;clear hor;go_wp2_with fail;refine aE.start 10 (fun X=>X.cell? ⟨bo,off+1,none⟩=some (.pointer (some ⟨bT,0,none⟩))∧X.cell? ⟨w1.heap.size,0,none⟩=some (.pointer (some ⟨bS,0,none⟩))∧X.cell? ⟨w.heap.size,1,none⟩=some (.pointer (some ⟨bX,0,none⟩))) (by kernel_rfl) ?hs_3 (fun hHeld=>?hr_3)
      case hs_3=>exact HS.out _ W3.out
      refine aE.tks [0,1,2,3,4,5] ?_
      iterate 6
       refine aK.cons ?_;simp only [gA,gB,gC,Act.put,gD,gE,gF]
      show aE _ _ _ _ _ _ _ _ _ _;refine aE.one (i:=6) fun K hK=>?_;simp only [gA,gB,gC]
      go_simp
      with_reducible refine Calls.mono HOR.out ?_
      rintro e w5 ⟨rfl,hs5,hc5⟩;have HC5:=Ha (show Chg (· = bwT) w2 w5 from W3.out.trans hc5);have HS5:=Ha hs5;clear hs5 hc5;dsimp only;refine hK.out _ _ ?_ (fun hHeld=>?_)
      ·exact HS.out _ HC5.out
      clear hK K;try simp only [Act.put,gD,gE,gF]
      refine aE.tks [7] ?_
      iterate 1
       refine aK.cons ?_;simp only [gA,gB,gC,Act.put,gD,gE,gF]
      show aE _ _ _ _ _ _ _ _ _ _;refine aE.tks [8] ?_
      iterate 1
       refine aK.cons ?_;simp only [gA,gB,gC,Act.put,gD,gE,gF]
      show aE _ _ _ _ _ _ _ _ _ _;refine aE.tks [9] ?_
      iterate 1
       refine aK.cons ?_;simp only [gA,gB,gC,Act.put,gD,gE,gF]
      show aE _ _ _ _ _ _ _ _ _ _;refine aE.last fun K hK=>?_;simp only [gA,gB,gC]
      go_simp
      refine hK.out _ _ (aE.done (by kernel_rfl) ?_ _);go_wp2_with fail
      go_meet
      exact ⟨mo,X' ||| X1',rfl,gP HA.out.1 (cG _ _),HS5.out,fun h=>gK (HA.out.2.2.1 h) (cG _ _),HC5.out⟩
     ·rw [show decide (X' ||| X1'≠X')=true from by simp [hne]] at hor;have HOR:=Ha hor;have HNEQ:=Ha (show X2<X' ||| X1' from Nat.lt_of_le_of_lt HA.out.1 (Nat.lt_of_le_of_ne (cG _ _) (Ne.symm hne)));clear hor;go_wp2_with fail;refine aE.start 10 (fun X=>X.cell? ⟨bo,off+1,none⟩=some (.pointer (some ⟨bT,0,none⟩))∧X.cell? ⟨w1.heap.size,0,none⟩=some (.pointer (some ⟨bS,0,none⟩))∧X.cell? ⟨w.heap.size,1,none⟩=some (.pointer (some ⟨bX,0,none⟩))) (by kernel_rfl) ?hs_4 (fun hHeld=>?hr_4)
      case hs_4=>exact HS.out _ W3.out
      refine aE.tks [0,1,2,3,4,5] ?_
      iterate 6
       refine aK.cons ?_;simp only [gA,gB,gC,Act.put,gD,gE,gF]
      show aE _ _ _ _ _ _ _ _ _ _;refine aE.one (i:=6) fun K hK=>?_;simp only [gA,gB,gC]
      go_simp
      with_reducible refine Calls.mono HOR.out ?_
      rintro e w5 ⟨rfl,hs5,hc5⟩;have HC5:=Ha (show Chg (· = bwT) w2 w5 from W3.out.trans hc5);have HS5:=Ha hs5;clear hs5 hc5;dsimp only;refine hK.out _ _ ?_ (fun hHeld=>?_)
      ·exact HS.out _ HC5.out
      clear hK K;try simp only [Act.put,gD,gE,gF]
      refine aE.tks [7] ?_
      iterate 1
       refine aK.cons ?_;simp only [gA,gB,gC,Act.put,gD,gE,gF]
      show aE _ _ _ _ _ _ _ _ _ _;refine aE.take (i:=8) (oi:=_) (v:=undef) rfl (by kernel_rfl) (by kernel_rfl) (by kernel_rfl) (by kernel_rfl) (fun _ _ _ h=>h) (Or.inr ⟨by rfl,rfl⟩) (by assumption) ?_;simp only [gA,gB,gC,Act.put,gD,gE,gF];refine aE.tks [9] ?_
      iterate 1
       refine aK.cons ?_;simp only [gA,gB,gC,Act.put,gD,gE,gF]
      show aE _ _ _ _ _ _ _ _ _ _;refine aE.last fun K hK=>?_;simp only [gA,gB,gC]
      go_simp
      refine hK.out _ _ (aE.done (by kernel_rfl) ?_ _);go_wp2_with fail
      go_meet
      exact ⟨true,X' ||| X1',rfl,Nat.le_of_lt HNEQ.out,HS5.out,fun _=>HNEQ.out,HC5.out⟩
    case rest=>
     obtain ⟨mo2,X'',rfl,hle,hst,hmo,hch⟩:=hcut;have HA2:=Ha (gS hle (gS hst (gS hmo hch)));obtain ⟨u0,u1,u2,hbo⟩:=HZ.out _ hch;clear hle hst hmo hor;cases sf
     case true=>
      clear hch hbo;go_wp2_with fail;go_ret;exact HEND.out _ _ _ HA2.out.2.1 HA2.out.1 HA2.out.2.2.1 HA2.out.2.2.2
     case false=>
      have hf:=aO hbo (off+2) (.bool true);have f2:wc.frozen? ⟨bo,off+2,none⟩=false:=by simp [World.frozen?,hbo]
      have hne:bo≠bwT:=TB.ne (T:=303) (T':=154) ⟨_,hbo⟩ ⟨_,HA2.out.2.1.hw⟩ (by decide);have hne2:bT≠bo:=TB.ne (T:=159) (T':=303) ⟨_,HA2.out.2.1.hb⟩ ⟨_,hbo⟩ (by decide);have HF:=Ha (show iR n w bo off cs bT bwT X2 false (.returned (.bool true)) (wc.setCell ⟨bo,off+2,none⟩ (.bool true)) from
       ⟨true,true,X'',rfl,HA2.out.1,HA2.out.2.1.keep (gU _ _ _ _ hne2) (gU _ _ _ _ (Ne.symm hne)),by rw [if_neg (by decide)];exact hf,(fun h=>by cases h),fun _=>.inr ⟨rfl,rfl⟩,((Chg.of HB02.out).trans2 hch fun i _ e=>.inl e).setCell (p:=⟨bo,off+2,none⟩) (fun _=>.inr rfl) _⟩)
      clear hch hbo hf hne hne2;go_wp2_with fail;go_ret;exact HF.out
 case false=>
  go_wp2_with fail;refine (HNE.out _ rfl).mono ?_;rintro e w3 ⟨rfl,hw3⟩;have hw3:=hw3.symm;subst hw3;generalize (nxt X1 (n-0) 0)=z;by_cases hz:z<0
  ·go_wp2_with fail;go_ret;exact HEND.out _ false X2 HSets.out.2.1 (gO _) (fun h=>by cases h) (Chg.refl _ _)
  ·skip
   go_upto_region 3 with fail
   go_cut [9] (fun v9 wx=>∃ (mo:Bool) (X':Nat),v9=.bool mo∧X2≤X'∧BSet wx bT bwT n X'∧(mo=true→X2<X')∧Chg (· = bwT) w2 wx)
   case first=>
    have hor:=p6 bT bwT n X2 bS bwS X3 w2.drew (HSets.out.2.1.keep rfl rfl) (HSets.out.2.2.keep rfl rfl);have W2:=Ha (show Chg (· = bwT) w2 w2.drew from (Chg.refl _ _).drew);clear u0 u1 u2 u3;by_cases hne:X2 ||| X3=X2
    ·rw [show decide (X2 ||| X3≠X2)=false from by simp [hne]] at hor;have HOR:=Ha hor;clear hor;go_wp2_with fail;refine aE.start 7 (fun X=>X.cell? ⟨bo,off+1,none⟩=some (.pointer (some ⟨bT,0,none⟩))∧X.cell? ⟨w1.heap.size,0,none⟩=some (.pointer (some ⟨bS,0,none⟩))∧X.cell? ⟨w.heap.size,1,none⟩=some (.pointer (some ⟨bX,0,none⟩))) (by kernel_rfl) ?hs_5 (fun hHeld=>?hr_5)
     case hs_5=>exact HS.out _ W2.out
     refine aE.tks [0,1,2,3,4,5] ?_
     iterate 6
      refine aK.cons ?_;simp only [gA,gB,gC,Act.put,gD,gE,gF]
     show aE _ _ _ _ _ _ _ _ _ _;refine aE.one (i:=6) fun K hK=>?_;simp only [gA,gB,gC]
     go_simp
     with_reducible refine Calls.mono HOR.out ?_
     rintro e w5 ⟨rfl,hs5,hc5⟩;have HC5:=Ha (show Chg (· = bwT) w2 w5 from W2.out.trans hc5);have HS5:=Ha hs5;clear hs5 hc5;dsimp only;refine hK.out _ _ ?_ (fun hHeld=>?_)
     ·exact HS.out _ HC5.out
     clear hK K;try simp only [Act.put,gD,gE,gF]
     refine aE.last fun K hK=>?_;simp only [gA,gB,gC]
     go_simp
     refine hK.out _ _ (aE.done (by kernel_rfl) ?_ _);go_wp2_with fail
     go_meet
     exact ⟨false,X2 ||| X3,rfl,cG _ _,HS5.out,(fun h=>by cases h),HC5.out⟩
    ·rw [show decide (X2 ||| X3≠X2)=true from by simp [hne]] at hor;have HOR:=Ha hor;have HNEQ:=Ha (show X2<X2 ||| X3 from Nat.lt_of_le_of_ne (cG _ _) (Ne.symm hne));clear hor;go_wp2_with fail;refine aE.start 7 (fun X=>X.cell? ⟨bo,off+1,none⟩=some (.pointer (some ⟨bT,0,none⟩))∧X.cell? ⟨w1.heap.size,0,none⟩=some (.pointer (some ⟨bS,0,none⟩))∧X.cell? ⟨w.heap.size,1,none⟩=some (.pointer (some ⟨bX,0,none⟩))) (by kernel_rfl) ?hs_6 (fun hHeld=>?hr_6)
     case hs_6=>exact HS.out _ W2.out
     refine aE.tks [0,1,2,3,4,5] ?_
     iterate 6
      refine aK.cons ?_;simp only [gA,gB,gC,Act.put,gD,gE,gF]
     show aE _ _ _ _ _ _ _ _ _ _;refine aE.one (i:=6) fun K hK=>?_;simp only [gA,gB,gC]
     go_simp
     with_reducible refine Calls.mono HOR.out ?_
     rintro e w5 ⟨rfl,hs5,hc5⟩;have HC5:=Ha (show Chg (· = bwT) w2 w5 from W2.out.trans hc5);have HS5:=Ha hs5;clear hs5 hc5;dsimp only;refine hK.out _ _ ?_ (fun hHeld=>?_)
     ·exact HS.out _ HC5.out
     clear hK K;try simp only [Act.put,gD,gE,gF]
     refine aE.last fun K hK=>?_;simp only [gA,gB,gC]
     go_simp
     refine hK.out _ _ (aE.done (by kernel_rfl) ?_ _);go_wp2_with fail
     go_meet
     exact ⟨true,X2 ||| X3,rfl,cG _ _,HS5.out,fun _=>HNEQ.out,HC5.out⟩
   case rest=>
    obtain ⟨mo,X',rfl,hle,hst,hmo,hch⟩:=hcut;have HA:=Ha (gS hle (gS hst (gS hmo hch)));obtain ⟨u0,u1,u2,_⟩:=HZ.out wc hch;clear hle hst hmo;cases em
    case false=>
     go_wp2_with fail;go_ret;exact HEND.out _ _ _ HA.out.2.1 HA.out.1 HA.out.2.2.1 HA.out.2.2.2
    case true=>
     obtain ⟨X1',_,hX1⟩:=HSets.out.2.1.other HSets.out.1 hch HA.out.2.1 HA.out.1;have hor:=p6 bT bwT n X' bX bwX X1' wc.drew (HA.out.2.1.keep rfl rfl) (hX1.keep rfl rfl);have W3:=Ha (show Chg (· = bwT) w2 wc.drew from hch.drew);clear hX1 hch u0 u2
     go_upto_region 6 with fail
     go_cut [9] (fun v9 wx=>∃ (mo:Bool) (X':Nat),v9=.bool mo∧X2≤X'∧BSet wx bT bwT n X'∧(mo=true→X2<X')∧Chg (· = bwT) w2 wx)
     case first=>
      clear u1;by_cases hne:X' ||| X1'=X'
      ·rw [show decide (X' ||| X1'≠X')=false from by simp [hne]] at hor;have HOR:=Ha hor;clear hor;go_wp2_with fail;refine aE.start 10 (fun X=>X.cell? ⟨bo,off+1,none⟩=some (.pointer (some ⟨bT,0,none⟩))∧X.cell? ⟨w1.heap.size,0,none⟩=some (.pointer (some ⟨bS,0,none⟩))∧X.cell? ⟨w.heap.size,1,none⟩=some (.pointer (some ⟨bX,0,none⟩))) (by kernel_rfl) ?hs_7 (fun hHeld=>?hr_7)
       case hs_7=>exact HS.out _ W3.out
       refine aE.tks [0,1,2,3,4,5] ?_
       iterate 6
        refine aK.cons ?_;simp only [gA,gB,gC,Act.put,gD,gE,gF]
       show aE _ _ _ _ _ _ _ _ _ _;refine aE.one (i:=6) fun K hK=>?_;simp only [gA,gB,gC]
       go_simp
       with_reducible refine Calls.mono HOR.out ?_
       rintro e w5 ⟨rfl,hs5,hc5⟩;have HC5:=Ha (show Chg (· = bwT) w2 w5 from W3.out.trans hc5);have HS5:=Ha hs5;clear hs5 hc5;dsimp only;refine hK.out _ _ ?_ (fun hHeld=>?_)
       ·exact HS.out _ HC5.out
       clear hK K;try simp only [Act.put,gD,gE,gF]
       refine aE.tks [7] ?_
       iterate 1
        refine aK.cons ?_;simp only [gA,gB,gC,Act.put,gD,gE,gF]
       show aE _ _ _ _ _ _ _ _ _ _;refine aE.tks [8] ?_
       iterate 1
        refine aK.cons ?_;simp only [gA,gB,gC,Act.put,gD,gE,gF]
       show aE _ _ _ _ _ _ _ _ _ _;refine aE.tks [9] ?_
       iterate 1
        refine aK.cons ?_;simp only [gA,gB,gC,Act.put,gD,gE,gF]
       show aE _ _ _ _ _ _ _ _ _ _;refine aE.last fun K hK=>?_;simp only [gA,gB,gC]
       go_simp
       refine hK.out _ _ (aE.done (by kernel_rfl) ?_ _);go_wp2_with fail
       go_meet
       exact ⟨mo,X' ||| X1',rfl,gP HA.out.1 (cG _ _),HS5.out,fun h=>gK (HA.out.2.2.1 h) (cG _ _),HC5.out⟩
      ·rw [show decide (X' ||| X1'≠X')=true from by simp [hne]] at hor;have HOR:=Ha hor;have HNEQ:=Ha (show X2<X' ||| X1' from Nat.lt_of_le_of_lt HA.out.1 (Nat.lt_of_le_of_ne (cG _ _) (Ne.symm hne)));clear hor;go_wp2_with fail;refine aE.start 10 (fun X=>X.cell? ⟨bo,off+1,none⟩=some (.pointer (some ⟨bT,0,none⟩))∧X.cell? ⟨w1.heap.size,0,none⟩=some (.pointer (some ⟨bS,0,none⟩))∧X.cell? ⟨w.heap.size,1,none⟩=some (.pointer (some ⟨bX,0,none⟩))) (by kernel_rfl) ?hs_8 (fun hHeld=>?hr_8)
       case hs_8=>exact HS.out _ W3.out
       refine aE.tks [0,1,2,3,4,5] ?_
       iterate 6
        refine aK.cons ?_;simp only [gA,gB,gC,Act.put,gD,gE,gF]
       show aE _ _ _ _ _ _ _ _ _ _;refine aE.one (i:=6) fun K hK=>?_;simp only [gA,gB,gC]
       go_simp
       with_reducible refine Calls.mono HOR.out ?_
       rintro e w5 ⟨rfl,hs5,hc5⟩;have HC5:=Ha (show Chg (· = bwT) w2 w5 from W3.out.trans hc5);have HS5:=Ha hs5;clear hs5 hc5;dsimp only;refine hK.out _ _ ?_ (fun hHeld=>?_)
       ·exact HS.out _ HC5.out
       clear hK K;try simp only [Act.put,gD,gE,gF]
       refine aE.tks [7] ?_
       iterate 1
        refine aK.cons ?_;simp only [gA,gB,gC,Act.put,gD,gE,gF]
       show aE _ _ _ _ _ _ _ _ _ _;refine aE.take (i:=8) (oi:=_) (v:=undef) rfl (by kernel_rfl) (by kernel_rfl) (by kernel_rfl) (by kernel_rfl) (fun _ _ _ h=>h) (Or.inr ⟨by rfl,rfl⟩) (by assumption) ?_;simp only [gA,gB,gC,Act.put,gD,gE,gF];refine aE.tks [9] ?_
       iterate 1
        refine aK.cons ?_;simp only [gA,gB,gC,Act.put,gD,gE,gF]
       show aE _ _ _ _ _ _ _ _ _ _;refine aE.last fun K hK=>?_;simp only [gA,gB,gC]
       go_simp
       refine hK.out _ _ (aE.done (by kernel_rfl) ?_ _);go_wp2_with fail
       go_meet
       exact ⟨true,X' ||| X1',rfl,Nat.le_of_lt HNEQ.out,HS5.out,fun _=>HNEQ.out,HC5.out⟩
     case rest=>
      obtain ⟨mo2,X'',rfl,hle,hst,hmo,hch⟩:=hcut;have HA2:=Ha (gS hle (gS hst (gS hmo hch)));obtain ⟨u0,u1,u2,hbo⟩:=HZ.out _ hch;clear hle hst hmo hor;clear hch hbo;go_wp2_with fail;go_ret;exact HEND.out _ _ _ HA2.out.2.1 HA2.out.1 HA2.out.2.2.1 HA2.out.2.2.2
theorem BY {p:Nat→Prop}:∀ n,p n→∃ m,p m∧∀ k,p k→m≤k:=by
 intro n
 induction n using Nat.strongRecOn with
 | ind n ih=>
  intro hn;by_cases h:∃ k,k<n∧p k
  ·obtain ⟨k,h1,h2⟩:=h;exact ih k h1 h2
  ·exact ⟨n,hn,fun k hk=>Nat.le_of_not_lt fun hlt=>h ⟨k,hlt,hk⟩⟩
open Classical in
theorem nB {P:Program} {a:Act} {w:World} {Q:Exit→Act→World→Prop} {c rest:Code} (l:Nat) (J:Nat→Act→World→Prop) (hf:findLabel c l=some (Code.skip.seq rest))
  (pass:∀ m a w,J m a w→rest.wp P (Exit.jump l (fun a' w'=>∃ m',m'<m∧J m' a' w') Q) a w) (first:(∀ m a w,J m a w→rest.wp P (Exit.jump l (fun a' w'=>∃ m',J m' a' w') Q) a w)→c.wp P (Exit.jump l (fun a' w'=>∃ m',J m' a' w') Q) a w):(Code.scope c).wp P Q a w:=by
 have hl:∀ a w,(∃ m,J m a w)→∃ m,J m a w∧∀ k,J k a w→m≤k:=fun a w ⟨m,h⟩=>BY m h;refine jO l (fun a' w'=>∃ m',J m' a' w') (fun a w=>if h:∃ m,J m a w then (hl a w h).choose else 0) hf (fun a w hJ=>?_) (fun hp=>first fun m a w hJ=>hp a w ⟨m,hJ⟩);refine wp_mono (pass _ a w (hl a w hJ).choose_spec.1) (oB fun a' w' ⟨m',h1,h2⟩=>⟨⟨m',h2⟩, ?_⟩);have h3:∃ m,J m a' w':=⟨m',h2⟩;show (if h:∃ m,J m a' w' then (hl a' w' h).choose else 0)<(if h:∃ m,J m a w then (hl a w h).choose else 0);rw [dif_pos hJ,dif_pos h3];exact Nat.lt_of_le_of_lt ((hl a' w' h3).choose_spec.2 _ h2) h1
abbrev Cme:=Int×(Nat×Nat)×Bool
def eL (vs:List Value) (x:Cme):Prop:=vs=[.int .i64 x.1,.pointer (some ⟨x.2.1.1,0,none⟩),.bool x.2.2]
theorem eL.one:∀ (vs:List Value) (x:Cme),eL vs x→∀ u∈vs,u.oneCell'=true:=by
 rintro vs x rfl u hu;simp at hu;rcases hu with rfl | rfl | rfl <;> rfl
theorem BA:(Tryz.prog.info? 303).map (fun i=>(i.zero,i.size,i.bytes))=some (some (.agg #[.int .i64 0,.pointer none,.bool false]),3,24):=by kernel_rfl
def i7 (xs:List Cme):List Value:=(xs.map fun x=>[Value.int .i64 x.1,.pointer (some ⟨x.2.1.1,0,none⟩),.bool x.2.2]).flatten
theorem nU:∀ xs:List Cme,(i7 xs).length=xs.length*3
 | []=>rfl
 | x::xs=>by
  show ([Value.int .i64 x.1,.pointer (some ⟨x.2.1.1,0,none⟩),.bool x.2.2]++i7 xs).length=_;rw [gI,nU xs];simp;omega
theorem lY:∀ {us:List (List Value)} {xs:List Cme},cZ 3 eL us xs→us.flatten=i7 xs
 | [],[],_=>rfl
 | [],_::_,h=>h.elim
 | _::_,[],h=>h.elim
 | vs::us,x::xs,h=>by
  have e:vs=_:=h.1.2;rw [List.flatten_cons,lY h.2,e];rfl
theorem iA:∀ xs:List Cme,cZ 3 eL (xs.map fun x=>[Value.int .i64 x.1,.pointer (some ⟨x.2.1.1,0,none⟩),.bool x.2.2]) xs
 | []=>trivial
 | _::xs=>⟨⟨rfl,rfl⟩,iA xs⟩
theorem nV:∀ (xs:List Cme) (i:Nat) (x:Cme),xs[i]? = some x→i7 (xs.set i (x.1,x.2.1,true))=(i7 xs).set (i*3+2) (.bool true)
 | [],_,_,h=>by simp at h
 | y::xs,0,x,h=>by
  simp at h;subst h;rfl
 | y::xs,i+1,x,h=>by
  have:=nV xs i x (by simpa using h);show [Value.int .i64 y.1,.pointer (some ⟨y.2.1.1,0,none⟩),.bool y.2.2]++i7 (xs.set i (x.1,x.2.1,true))=([Value.int .i64 y.1,.pointer (some ⟨y.2.1.1,0,none⟩),.bool y.2.2]++i7 xs).set ((i+1)*3+2) (.bool true);rw [this,List.set_append_right _ _ (by simp;omega)]
  congr 2
  simp;omega
theorem lO {B:Nat} {w:World} {v:Value} {xs:List Cme} (h:aG B 303 3 eL w v xs) (h0:0<xs.length):∃ g c cs,v=.slice (some ⟨g,0,none⟩) xs.length c∧B≤g∧w.heap[g]? = some (.cells cs 303 (0,0))∧∀ i x,xs[i]? = some x→cs[i*3]? = some (.int .i64 x.1)∧cs[i*3+1]? = some (.pointer (some ⟨x.2.1.1,0,none⟩))∧cs[i*3+2]? = some (.bool x.2.2):=by
 obtain ⟨us,hf,hl,ho⟩:=h;rcases ho with ⟨_,hn⟩ | ⟨g,cap,cur,rfl,hB,hh,hc,hm,hcs,ht⟩
 ·omega
 ·refine ⟨g,cap,cur,rfl,hB,hh,fun i x hx=>?_⟩;have hi:=(gY hx).1;have hxe:=(gY hx).2;obtain ⟨vs,_,h3,h4⟩:=hf.get i hi;rw [hxe] at h3;unfold eL at h3;subst h3;have key:∀ j u,j<3→us.flatten[i*3+j]? = some u→cur[i*3+j]? = some u:=fun j u hj hu=>by
   rw [← ht,List.getElem?_take_of_lt (by omega)] at hu;rw [← Array.getElem?_toList];exact hu
  exact ⟨key 0 _ (by omega) (h4 0 _ rfl),key 1 _ (by omega) (h4 1 _ rfl),key 2 _ (by omega) (h4 2 _ rfl)⟩
theorem wU {B g c:Nat} {w w':World} {xs:List Cme} {cs:Array Value} (h:aG B 303 3 eL w (.slice (some ⟨g,0,none⟩) xs.length c) xs) (hh:w.heap[g]? = some (.cells cs 303 (0,0))) {i:Nat} {x:Cme} (hx:xs[i]? = some x) (h':w'.heap[g]? = some (.cells (cs.setIfInBounds (i*3+2) (.bool true)) 303 (0,0))):
  aG B 303 3 eL w' (.slice (some ⟨g,0,none⟩) xs.length c) (xs.set i (x.1,x.2.1,true)):=by
 obtain ⟨us,hf,hl,ho⟩:=h;have hi:=(gY hx).1;rcases ho with ⟨e,hn⟩ | ⟨g',cap,cur,e,hB,hh2,hc,hm,hcs,ht⟩
 ·omega
 ·injection e with e1 _ e3
  injection e1 with e1
  injection e1 with e1 _
  subst e1 e3;rw [hh] at hh2
  injection hh2 with hh2
  injection hh2 with hh2 _
  subst hh2;have hlen:(xs.set i (x.1,x.2.1,true)).length=xs.length:=by simp
  refine ⟨_,iA _, ?_,.inr ⟨g,c,_,by rw [hlen],hB,h',by rw [hlen];exact hc,hm,by simpa using hcs, ?_⟩⟩
  ·show (i7 _).length=_;rw [nU]
  ·show _=i7 _;rw [hlen,nV xs i x hx,← lY hf,← ht];simp [List.take_set]
theorem qG:∀ {a b:List Nat},a.length=b.length→(∀ i (h1:i<a.length) (h2:i<b.length),a[i]≤b[i])→a.sum≤b.sum
 | [],[],_,_=>gO _
 | [],_::_,h,_=>by simp at h
 | _::_,[],h,_=>by simp at h
 | x::a,y::b,h,hp=>by
  have h1:=qG (a:=a) (b:=b) (by simpa using h) fun i h1 h2=>hp (i+1) (Nat.succ_lt_succ h1) (Nat.succ_lt_succ h2);have h2:=hp 0 (by simp) (by simp);simp at h2;simp;omega
theorem vO:∀ {a b:List Nat},a.length=b.length→(∀ i (h1:i<a.length) (h2:i<b.length),a[i]≤b[i])→(∃ i,∃ h1:i<a.length,∃ h2:i<b.length,a[i]<b[i])→a.sum<b.sum
 | [],_,_,_,⟨i,h1,_⟩=>by simp at h1
 | _::_,[],h,_,_=>by simp at h
 | x::a,y::b,h,hp,⟨i,h1,h2,h3⟩=>by
  have hl:a.length=b.length:=by simpa using h
  have hq:∀ i (h1:i<a.length) (h2:i<b.length),a[i]≤b[i]:=fun i h1 h2=>hp (i+1) (Nat.succ_lt_succ h1) (Nat.succ_lt_succ h2);have h4:=qG hl hq;have h5:=hp 0 (by simp) (by simp);simp at h5;simp
  match i,h1,h2,h3 with
  | 0,_,_,h3=>simp at h3;omega
  | i+1,h1,h2,h3=>
   have:=vO hl hq ⟨i,by simpa using h1,by simpa using h2,by simpa using h3⟩;omega
def dL (n:Nat) (w:World) (x:Cme):Nat:=2 ^ n-wd w x.2.1.2+(if x.2.2 then 0 else 1)
def pot (n m:Nat) (w:World) (xs:List Cme):Nat:=(m-xs.length)*(2 ^ n+2)+(xs.map (dL n w)).sum
theorem CF {n m:Nat} {w w':World} {xs xs':List Cme} (hl:xs'.length=xs.length) (h:∀ (i:Nat) x x',xs[i]? = some x→xs'[i]? = some x'→dL n w' x'≤dL n w x):pot n m w' xs'≤pot n m w xs:=by
 unfold pot;rw [hl];refine Nat.add_le_add_left (qG (by simp [hl]) fun i h1 h2=>?_) _;simp only [List.getElem_map];exact h i _ _ (List.getElem?_eq_getElem (by simpa using h2)) (List.getElem?_eq_getElem (by simpa using h1))
theorem CG {n m:Nat} {w w':World} {xs xs':List Cme} (hl:xs'.length=xs.length) (h:∀ (i:Nat) x x',xs[i]? = some x→xs'[i]? = some x'→dL n w' x'≤dL n w x) (hs:∃ (i:Nat),∃ x x',xs[i]? = some x∧xs'[i]? = some x'∧dL n w' x'<dL n w x):pot n m w' xs'<pot n m w xs:=by
 unfold pot;rw [hl];obtain ⟨i,x,x',h1,h2,h3⟩:=hs;obtain ⟨k1,e1⟩:=gY h1;obtain ⟨k2,e2⟩:=gY h2;refine Nat.add_lt_add_left (vO (by simp [hl]) (fun i h1 h2=>?_) ⟨i,by simpa using k2,by simpa using k1, ?_⟩) _
 ·simp only [List.getElem_map];exact h i _ _ (List.getElem?_eq_getElem (by simpa using h2)) (List.getElem?_eq_getElem (by simpa using h1))
 ·simp only [List.getElem_map,e1,e2];exact h3
abbrev MII (w:World) (b:Nat) (f:Int→Option Int) (n:Nat):Prop:=MG 3 3 (Lit.int .i64) (Lit.int .i64) 0 w b f n
structure Cx (B n:Nat) (g:Gm) (s:Int) (bmap:Nat) (wr:World) (vo:Value) (xs:List Cme) (vt:Value) (T:List Int):Prop where
 row:aG B 303 3 eL wr vo xs
 sets:∀ x∈xs,B≤x.2.1.1∧B≤x.2.1.2∧∃ X,BSet wr x.2.1.1 x.2.1.2 n X
 nd:(xs.map (·.1)).Nodup
 lc:∀ x∈xs,g.N x.1∧g.Lc s x.1
 mp:∃ f nm,MII wr bmap f nm∧nm≤xs.length∧(∀ q i,f q=some i→0≤i∧∃ x,xs[i.toNat]? = some x∧x.1=q)∧∀ x∈xs,(f x.1).isSome=true
 que:Qr B wr vt T
 tin:∀ t∈T,0≤t∧t<xs.length
 ne:0<xs.length
 le:B≤wr.heap.size∧B≤bmap
section
variable {B n:Nat} {g:Gm} {s:Int} {bmap:Nat} {w w':World} {vo:Value} {xs:List Cme} {vt:Value} {T:List Int}
theorem Cx.len (h:Cx B n g s bmap w vo xs vt T):xs.length≤g.top:=by
 have:=eO (m:=(List.range g.top).map fun (i:Nat)=>(i:Int)+1) h.nd fun q hq=>by
  obtain ⟨x,hx,rfl⟩:=List.mem_map.1 hq;have h1:=(h.lc x hx).1;unfold Gm.N at h1;exact List.mem_map.2 ⟨(x.1-1).toNat,List.mem_range.2 (by omega),by omega⟩
 simpa using this
theorem Cx.below (h:Cx B n g s bmap w vo xs vt T) (hb:Below w.heap.size w w'):Cx B n g s bmap w' vo xs vt T:=by
 obtain ⟨f,nm,h1,h2⟩:=h.mp;exact ⟨h.row.below hb,fun x hx=>⟨(h.sets x hx).1,(h.sets x hx).2.1,(h.sets x hx).2.2.imp fun X hX=>hX.below hb⟩,h.nd,h.lc,⟨f,nm,h1.below hb,h2⟩,h.que.below hb,h.tin,h.ne,⟨gP h.le.1 hb.size,h.le.2⟩⟩
theorem Cx.pot_below (h:Cx B n g s bmap w vo xs vt T) (hb:Below w.heap.size w w') (m:Nat):pot n m w' xs=pot n m w xs:=by
 unfold pot
 congr 2
 refine List.map_congr_left fun x hx=>?_;obtain ⟨_,_,X,hX⟩:=h.sets x hx;unfold dL;rw [hX.wd,(hX.below hb).wd]
theorem Cx.pop (h:Cx B n g s bmap w vo xs vt T) {v':Value} {T':List Int} (hq:Qr B w v' T') (hT:∀ t∈T',t∈T):Cx B n g s bmap w vo xs v' T':=
 ⟨h.row,h.sets,h.nd,h.lc,h.mp,hq,fun t ht=>h.tin t (hT t ht),h.ne,h.le⟩
theorem Cx.wait (h:Cx B n g s bmap w vo xs vt T) {v':Value} {i:Nat} (hi:i<xs.length) (hq:Qr B w' v' (T++[(i:Int)])) (hc:Chg (isQ vt) w w') (m:Nat):Cx B n g s bmap w' vo xs v' (T++[(i:Int)])∧pot n m w' xs=pot n m w xs:=by
 have hs:∀ {T:TypeId} {k:Nat},TB T w k→T≠3→w'.heap[k]? = w.heap[k]? := fun h1 h2=>hc.same _ h1.lt fun e=>h1.ne (h.que.tb e).2 h2 rfl;obtain ⟨f,nm,h1,h2⟩:=h.mp;have hset:∀ {b bw X:Nat},BSet w b bw n X→BSet w' b bw n X:=fun hX=>hX.keep (hs ⟨_,hX.hb⟩ (by decide)) (hs ⟨_,hX.hw⟩ (by decide));refine ⟨⟨h.row.keep fun k hk=>hs (h.row.tb hk).2 (by decide),fun x hx=>⟨(h.sets x hx).1,(h.sets x hx).2.1,(h.sets x hx).2.2.imp fun X hX=>hset hX⟩,h.nd,h.lc,⟨f,nm,h1.keep (hc.same _ h1.lt fun e=>h1.not_tb _ (h.que.tb e).2),h2⟩,hq,fun t ht=>?_,h.ne,⟨gP h.le.1 hc.size,h.le.2⟩⟩, ?_⟩
 ·rcases List.mem_append.1 ht with ht | ht
  ·exact h.tin t ht
  ·rw [gV] at ht;omega
 ·unfold pot
  congr 2
  refine List.map_congr_left fun x hx=>?_;obtain ⟨_,_,X,hX⟩:=h.sets x hx;unfold dL;rw [hX.wd,(hset hX).wd]
theorem Cx.hand {bo co:Nat} (h:Cx B n g s bmap w (.slice (some ⟨bo,0,none⟩) xs.length co) xs vt T) {cs:Array Value} (hh:w.heap[bo]? = some (.cells cs 303 (0,0))) {i:Nat} {x:Cme} (hx:xs[i]? = some x) {X2:Nat} (hX2:BSet w x.2.1.1 x.2.1.2 n X2) {e:Ending} (hp:iR n w bo (i*3) cs x.2.1.1 x.2.1.2 X2 x.2.2 e w') (m:Nat):
  ∃ mo xs',e=.returned (.bool mo)∧xs'.length=xs.length∧Cx B n g s bmap w' (.slice (some ⟨bo,0,none⟩) xs.length co) xs' vt T∧pot n m w' xs'≤pot n m w xs∧(mo=true→pot n m w' xs'<pot n m w xs)∧(B≤bo→Below B w w')∧(∀ y∈xs,∃ y'∈xs',y'.2.1=y.2.1)∧Chg (fun k=>k=x.2.1.2∨k=bo) w w':=by
 obtain ⟨mo,sf',X',rfl,hle,hset',hbo,hsf,hmo,hc⟩:=hp;have hi:=(gY hx).1;have hxm:x∈xs:=List.mem_of_getElem? hx;have hTo:TB 303 w bo:=⟨_,hh⟩;have hTw:TB 154 w x.2.1.2:=⟨_,hX2.hw⟩;have hs:∀ {T:TypeId} {k:Nat},TB T w k→T≠303→T≠154→w'.heap[k]? = w.heap[k]? := fun h1 h2 h3=>hc.same _ h1.lt fun e=>by
  rcases e with rfl | rfl
  ·exact h1.ne hTw h3 rfl
  ·exact h1.ne hTo h2 rfl
 have hgro:∀ {b bw Y:Nat},BSet w b bw n Y→∃ Y',Y≤Y'∧BSet w' b bw n Y':=fun {b bw Y} hY=>by
  by_cases e:bw=x.2.1.2
  ·subst e;have:=hX2.same_word hY;subst this;exact ⟨X',hle,hY.n1,hY.n64,hset'.hX,hY.ne,(hs ⟨_,hY.hb⟩ (by decide) (by decide)).trans hY.hb,hset'.hw⟩
  ·refine ⟨Y,gO _,hY.keep (hs ⟨_,hY.hb⟩ (by decide) (by decide)) (hc.same _ hY.lt.2 fun e2=>?_)⟩;rcases e2 with e2 | e2
   ·exact e e2
   ·exact TB.ne (T:=154) ⟨_,hY.hw⟩ hTo (by decide) e2
 obtain ⟨f,nm,h1,h2,h3,h4⟩:=h.mp;have hmap:=h1.keep (w':=w') (hc.same _ h1.lt fun e=>by
  rcases e with e | e
  ·exact h1.not_tb _ (e▸hTw)
  ·exact h1.not_tb _ (e▸hTo))
 have hque:=h.que.keep (w':=w') fun k hk=>hs (h.que.tb hk).2 (by decide) (by decide);have hbel:B≤bo→Below B w w':=fun hB=>hc.below (fun k e=>by
  rcases e with rfl | rfl
  ·exact (h.sets x hxm).2.1
  ·exact hB) h.le.1
 have hwd:wd w x.2.1.2=X2∧wd w' x.2.1.2=X':=⟨hX2.wd,hset'.wd⟩;have hX'lt:=hset'.hX;have hmono:∀ y∈xs,wd w y.2.1.2≤wd w' y.2.1.2∧wd w' y.2.1.2<2 ^ n:=fun y hy=>by
  obtain ⟨_,_,Y,hY⟩:=h.sets y hy;obtain ⟨Y',k1,k2⟩:=hgro hY;rw [hY.wd,k2.wd];exact ⟨k1,k2.hX⟩
 by_cases e:sf'=x.2.2
 ·rw [if_pos e] at hbo;refine ⟨mo,xs,rfl,rfl,⟨h.row.keep fun k hk=>?_,fun y hy=>⟨(h.sets y hy).1,(h.sets y hy).2.1, ?_⟩,h.nd,h.lc,⟨f,nm,hmap,h2,h3,h4⟩,hque,h.tin,h.ne,⟨gP h.le.1 hc.size,h.le.2⟩⟩,CF rfl fun j y y' hy hy'=>?_,fun hm=>CG rfl (fun j y y' hy hy'=>?_) ⟨i,x,x,hx,hx, ?_⟩,hbel,fun y hy=>⟨y,hy,rfl⟩,hc⟩
  ·simp [Value.ownBlock] at hk;subst hk;exact hbo.trans hh.symm
  ·obtain ⟨_,_,Y,hY⟩:=h.sets y hy;obtain ⟨Y',_,k2⟩:=hgro hY;exact ⟨Y',k2⟩
  ·rw [hy] at hy'
   injection hy' with hy'
   subst hy';have:=hmono y (List.mem_of_getElem? hy);unfold dL;omega
  ·rw [hy] at hy'
   injection hy' with hy'
   subst hy';have:=hmono y (List.mem_of_getElem? hy);unfold dL;omega
  ·rcases hmo hm with k | ⟨k1,k2⟩
   ·unfold dL;rw [hwd.1,hwd.2];omega
   ·rw [e,k1] at k2;cases k2
 ·rw [if_neg e] at hbo;have hf:x.2.2=false:=by
   cases hx2:x.2.2
   ·rfl
   ·exact absurd ((hsf hx2).trans hx2.symm) e
  have hrow:=wU h.row hh hx hbo;have hl:(xs.set i (x.1,x.2.1,true)).length=xs.length:=by simp
  have hget:∀ (j:Nat) (y':Cme),(xs.set i (x.1,x.2.1,true))[j]? = some y'→∃ y:Cme,xs[j]? = some y∧y'.1=y.1∧y'.2.1=y.2.1∧(y'.2.2=y.2.2∨y'.2.2=true):=fun j y' hy'=>by
   by_cases ej:j=i
   ·subst ej;rw [List.getElem?_set_self hi] at hy'
    injection hy' with hy'
    subst hy';exact ⟨x,hx,rfl,rfl,.inr rfl⟩
   ·rw [List.getElem?_set_ne (Ne.symm ej)] at hy';exact ⟨y',hy',rfl,rfl,.inl rfl⟩
  have hmem:∀ y':Cme,y'∈xs.set i (x.1,x.2.1,true)→∃ y:Cme,y∈xs∧y'.1=y.1∧y'.2.1=y.2.1:=fun y' hy'=>by
   obtain ⟨j,hj⟩:=List.mem_iff_getElem?.1 hy';obtain ⟨y,k1,k2,k3,_⟩:=hget j y' hj;exact ⟨y,List.mem_of_getElem? k1,k2,k3⟩
  have hmp:(xs.set i (x.1,x.2.1,true)).map (·.1)=xs.map (·.1):=by
   rw [List.map_set];refine List.ext_getElem? fun j=>?_;by_cases ej:j=i
   ·subst ej;rw [List.getElem?_set_self (by simpa using hi),List.getElem?_map,hx];rfl
   ·rw [List.getElem?_set_ne (Ne.symm ej)]
  have hple:∀ (j:Nat) (y y':Cme),xs[j]? = some y→(xs.set i (x.1,x.2.1,true))[j]? = some y'→dL n w' y'≤dL n w y:=fun j y y' hy hy'=>by
   obtain ⟨y2,k1,_,k3,k4⟩:=hget j y' hy';rw [hy] at k1
   injection k1 with k1
   subst k1;have:=hmono y (List.mem_of_getElem? hy);unfold dL;rw [k3];rcases k4 with k4 | k4
   ·rw [k4];omega
   ·rw [k4,if_pos rfl];omega
  refine ⟨mo,_,rfl,hl,⟨hrow,fun y' hy'=>?_,by rw [hmp];exact h.nd,fun y' hy'=>?_,⟨f,nm,hmap,by rw [hl];exact h2,fun q j hq=>?_,fun y' hy'=>?_⟩,hque,fun t ht=>by rw [hl];exact h.tin t ht,by rw [hl];exact h.ne,⟨gP h.le.1 hc.size,h.le.2⟩⟩,CF hl hple,fun _=>CG hl hple ⟨i,x,(x.1,x.2.1,true),hx,List.getElem?_set_self hi, ?_⟩,hbel,fun y hy=>?_,hc⟩
  ·obtain ⟨y,hy,k1,k2⟩:=hmem y' hy';rw [k2];obtain ⟨m1,m2,Y,hY⟩:=h.sets y hy;obtain ⟨Y',_,k3⟩:=hgro hY;exact ⟨m1,m2,Y',k3⟩
  ·obtain ⟨y,hy,k1,k2⟩:=hmem y' hy';rw [k1];exact h.lc y hy
  ·obtain ⟨m1,y,m2,m3⟩:=h3 q j hq;by_cases ej:j.toNat=i
   ·refine ⟨m1,(x.1,x.2.1,true),by rw [ej];exact List.getElem?_set_self hi, ?_⟩;rw [ej,hx] at m2
    injection m2 with m2
    rw [← m3,← m2]
   ·exact ⟨m1,y,by rw [List.getElem?_set_ne (Ne.symm ej)];exact m2,m3⟩
  ·obtain ⟨y,hy,k1,k2⟩:=hmem y' hy';rw [k1];exact h4 y hy
  ·unfold dL;have:=hmono x hxm;rw [hf];simp;omega
  ·obtain ⟨j,hj⟩:=List.mem_iff_getElem?.1 hy;by_cases ej:j=i
   ·subst ej;rw [hx] at hj
    injection hj with hj
    subst hj;exact ⟨_,List.mem_of_getElem? (List.getElem?_set_self hi),rfl⟩
   ·exact ⟨y,List.mem_of_getElem? (by rw [List.getElem?_set_ne (Ne.symm ej)];exact hj),rfl⟩
theorem Cx.more (h:Cx B n g s bmap w vo xs vt T) {q:Int} (hN:g.N q) (hL:g.Lc s q) {w1 w2:World} {f:Int→Option Int} {nm nm':Nat} (hf:MII w bmap f nm) (hfl:nm≤xs.length) (hfm:∀ q i,f q=some i→0≤i∧∃ x,xs[i.toNat]? = some x∧x.1=q) (hfx:∀ x∈xs,(f x.1).isSome=true) (hq:f q=none)
  (hm1:MII w1 bmap (eK f q (xs.length:Int)) nm') (hn':nm'≤xs.length+1) (hc1:Chg (· = bmap) w w1) (hb2:Below w1.heap.size w1 w2) {b bw:Nat} (hb:B≤b) (hbw:B≤bw) {X0:Nat} (hset:BSet w2 b bw n X0) (hl:xs.length≤1000000):
  ∃ A4 c4 w4,WrA Tryz.prog #[297,297] 297 #[vo,.slice (some ⟨w2.heap.size,0,none⟩) 1 1] (w2.alloc (.cells #[.int .i64 q,.pointer (some ⟨b,0,none⟩),.bool false] 303))=.ok (.slice A4 (xs.length+1) c4) w4∧
   Cx B n g s bmap w4 (.slice A4 (xs.length+1) c4) (xs++[(q,(b,bw),false)]) vt T∧pot n g.top w4 (xs++[(q,(b,bw),false)])<pot n g.top w xs∧Below B w w4∧(∀ k,TB 303 w k→vo.ownBlock≠some k→w4.heap[k]? = w.heap[k]?)∧((Value.slice A4 (xs.length+1) c4).ownBlock=vo.ownBlock∨∃ k,(Value.slice A4 (xs.length+1) c4).ownBlock=some k∧w.heap.size≤k):=by
 have hqn:∀ x∈xs,x.1≠q:=fun x hx e=>by
  have:=hfx x hx;rw [e,hq] at this;cases this
 have hs1:∀ {T:TypeId} {k:Nat},TB T w k→w1.heap[k]? = w.heap[k]? := fun h1=>hc1.same _ h1.lt fun e=>by
  subst e;exact hf.not_tb _ h1
 have hs2:∀ {T:TypeId} {k:Nat},TB T w k→w2.heap[k]? = w.heap[k]? := fun h1=>(hb2.block _ (h1.of_eq (hs1 h1)).lt).trans (hs1 h1);have hB2:Below B w w2:=(hc1.below (fun k e=>by subst e;exact h.le.2) h.le.1).trans (hb2.mono (gP h.le.1 hc1.size));have hrow2:aG B 303 3 eL w2 vo xs:=h.row.keep fun k hk=>hs2 (h.row.tb hk).2;obtain ⟨v4,w4,hrun,hr4,hc4,how⟩:=aG.pushC 297 Tryz.underlying297 BA rfl (by decide) eL.one 297 (us:=[.int .i64 q,.pointer (some ⟨b,0,none⟩),.bool false]) (x:=(q,(b,bw),false)) rfl rfl hrow2 (by omega) (by unfold maxLen;omega) (gP h.le.1 hB2.size |> fun h=>h);obtain ⟨A4,c4,rfl,_⟩:=hr4.shape;rw [gI,gZ] at hrun hr4 how;have hs4:∀ {T:TypeId} {k:Nat},TB T w2 k→T≠303→w4.heap[k]? = w2.heap[k]? := fun h1 h2=>hc4.same _ h1.lt fun e=>h1.ne (hrow2.tb e).2 h2 rfl;have hsw:∀ {T:TypeId} {k:Nat},TB T w k→T≠303→w4.heap[k]? = w.heap[k]? := fun h1 h2=>(hs4 (h1.of_eq (hs2 h1)) h2).trans (hs2 h1);have hset4:BSet w4 b bw n X0:=hset.keep (hs4 ⟨_,hset.hb⟩ (by decide)) (hs4 ⟨_,hset.hw⟩ (by decide));have hk4:∀ {b bw X:Nat},BSet w b bw n X→BSet w4 b bw n X:=fun hX=>hX.keep (hsw ⟨_,hX.hb⟩ (by decide)) (hsw ⟨_,hX.hw⟩ (by decide));have hm2:=hm1.below hb2;have hmap4:MII w4 bmap (eK f q (xs.length:Int)) nm':=hm2.keep (hc4.same _ hm2.lt fun e=>hm2.not_tb _ (hrow2.tb e).2);have hBf:Below B w w4:=hB2.trans (hc4.below (fun k e=>(hrow2.tb e).1) (gP h.le.1 hB2.size));have hlen:xs.length+1≤g.top:=by
  have h1:((xs.map (·.1))++[q]).Nodup:=by
   rw [List.nodup_append];refine ⟨h.nd,by simp,fun a ha c hc=>?_⟩;rw [gV] at hc;subst hc;obtain ⟨x,hx,rfl⟩:=List.mem_map.1 ha;exact hqn x hx
  have:=eO (m:=(List.range g.top).map fun (i:Nat)=>(i:Int)+1) h1 fun y hy=>by
   have h2:g.N y:=by
    rcases List.mem_append.1 hy with hy | hy
    ·obtain ⟨x,hx,rfl⟩:=List.mem_map.1 hy;exact (h.lc x hx).1
    ·rw [gV] at hy;subst hy;exact hN
   unfold Gm.N at h2;exact List.mem_map.2 ⟨(y-1).toNat,List.mem_range.2 (by omega),by omega⟩
  simpa using this
 refine ⟨A4,c4,w4,hrun,⟨by rw [gI,gZ] at *;exact hr4,fun x hx=>?_, ?_,fun x hx=>?_,⟨_,nm',hmap4,by rw [gI,gZ];exact hn',fun y i hy=>?_,fun x hx=>?_⟩,h.que.keep fun k hk=>hsw (h.que.tb hk).2 (by decide),fun t ht=>by rw [gI];have:=h.tin t ht;omega,by rw [gI];have:=h.ne;omega,⟨gP h.le.1 hBf.size,h.le.2⟩⟩, ?_,hBf,fun k hk hne=>(hc4.same k (hk.of_eq (hs2 hk)).lt hne).trans (hs2 hk),how.imp id fun e=>⟨_,e,by have:=hc1.size;have:=hb2.size;omega⟩⟩
 ·rcases List.mem_append.1 hx with hx | hx
  ·exact ⟨(h.sets x hx).1,(h.sets x hx).2.1,(h.sets x hx).2.2.imp fun X hX=>hk4 hX⟩
  ·rw [gV] at hx;subst hx;exact ⟨hb,hbw,X0,hset4⟩
 ·rw [List.map_append,List.nodup_append];refine ⟨h.nd,by simp,fun a ha c hc=>?_⟩;simp at hc;subst hc;obtain ⟨x,hx,rfl⟩:=List.mem_map.1 ha;exact hqn x hx
 ·rcases List.mem_append.1 hx with hx | hx
  ·exact h.lc x hx
  ·rw [gV] at hx;subst hx;exact ⟨hN,hL⟩
 ·unfold eK at hy;by_cases e:y=q
  ·rw [if_pos e] at hy
   injection hy with hy
   subst hy;exact ⟨by omega,(q,(b,bw),false),by simp,e.symm⟩
  ·rw [if_neg e] at hy;obtain ⟨h1,x,h2,h3⟩:=hfm y i hy;exact ⟨h1,x,by rw [List.getElem?_append_left (gY h2).1];exact h2,h3⟩
 ·unfold eK;by_cases e:x.1=q
  ·rw [if_pos e];rfl
  ·rw [if_neg e];rcases List.mem_append.1 hx with hx | hx
   ·exact hfx x hx
   ·rw [gV] at hx;subst hx;exact absurd rfl e
 ·have hp:(xs.map (dL n w4)).sum=(xs.map (dL n w)).sum:=by
   congr 1
   refine List.map_congr_left fun x hx=>?_;obtain ⟨_,_,X,hX⟩:=h.sets x hx;unfold dL;rw [hX.wd,(hk4 hX).wd]
  unfold pot;rw [List.map_append,List.sum_append,hp,gI,gZ];have e1:(g.top-xs.length)*(2 ^ n+2)=(g.top-(xs.length+1))*(2 ^ n+2)+(2 ^ n+2):=by
   rw [show g.top-xs.length=(g.top-(xs.length+1))+1 by omega,Nat.add_mul];omega
  have e2:([(q,(b,bw),false)].map (dL n w4)).sum=2 ^ n-X0+1:=by
   simp [dL,hset4.wd]
  rw [e1,e2];have hpp:=Nat.two_pow_pos n;generalize 2 ^ n=M at *;omega
theorem Cx.start {b bw X:Nat} {nm:Nat} (hN:g.N s) (row:aG B 303 3 eL w vo [(s,(b,bw),true)]) (hb:B≤b) (hbw:B≤bw) (hset:BSet w b bw n X) (hm:MII w bmap (eK (fun _=>none) s 0) nm) (hnm:nm≤1) (que:Qr B w vt [0]) (hB:B≤w.heap.size) (hbm:B≤bmap):Cx B n g s bmap w vo [(s,(b,bw),true)] vt [0]:=by
 refine ⟨row,fun x hx=>?_,by simp,fun x hx=>?_,⟨_,nm,hm,hnm,fun q i hq=>?_,fun x hx=>?_⟩,que,fun t ht=>?_,by simp,⟨hB,hbm⟩⟩
 ·rw [gV] at hx;subst hx;exact ⟨hb,hbw,X,hset⟩
 ·rw [gV] at hx;subst hx;exact ⟨hN,.refl⟩
 ·unfold eK at hq;by_cases e:q=s
  ·rw [if_pos e] at hq
   injection hq with hq
   subst hq;exact ⟨Int.le_refl _,_,rfl,e.symm⟩
  ·rw [if_neg e] at hq;cases hq
 ·rw [gV] at hx;subst hx;unfold eK;rw [if_pos rfl];rfl
 ·rw [gV] at ht;subst ht;simp
end
end Go.Proofs.YtpidmmfjcghmeaaGreat
