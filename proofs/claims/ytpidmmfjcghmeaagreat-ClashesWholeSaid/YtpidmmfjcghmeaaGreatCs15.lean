/- Towards clashesWhole_upto. -/
import Derived.Test.YtpidmmfjcghmeaaGreatCs13
import Derived.Lib.AppendZeros
set_option maxRecDepth 100000
set_option maxHeartbeats 16000000
set_option linter.all false
namespace Go.Proofs.YtpidmmfjcghmeaaGreat
open Go.RowKit
theorem E0 (G:Nat→Prop) (w:World) (vs:List Value) (g:Gm) (us:List Value) (r:Int×List Int)(hG:∀ k,G k→k<w.heap.size) (hg:GmV G w vs g) (hu:RuV G w us r) (hl:g.top≤9223372036854775807):
  Calls Tryz.prog 83 #[ag vs,ag us] w fun e w'=>e=.returned (.bool (iK g r))∧Below w.heap.size w w':=by
 obtain ⟨A0,c0,A1,c1,A2,c2,W,ev,hW,⟨x0,x1,x2,x3⟩,HB,HX⟩:=GBox.go hG hg;rw [ev];have HG:=Ha hG;clear hG hg ev;have hu2:=RuV.below HG.out HB.out hu;obtain ⟨A,c,rfl,_,_⟩:=hu.shape;obtain ⟨va,ea,ia⟩:=hu2
 injection ea with _ ea
 injection ea with ea _
 subst ea;have hb:Below W.heap.size W (W.alloc (.cells #[.int .i64 r.1,.slice A r.2.length c] 64)):=(gR _ _).alloc (gO _) _;have q:=aC W (.cells #[.int .i64 r.1,.slice A r.2.length c] 64);obtain ⟨HX1,HI,HB1⟩:=Zh3 (HX.out.on hb) (aF.below HX.out.old hb ia) (HB.out.trans (hb.mono HB.out.size));unfold ag;clear x0 x1 x2 x3 ia hu;obtain ⟨r1,r2⟩:=r;dsimp only at *;generalize hV:W.alloc (.cells #[.int .i64 r1,.slice A r2.length c] 64)=V at *;have y0:=aA q 0 _ rfl;have y1:=aA q 1 _ rfl;obtain ⟨x0,x1,x2,x3⟩:=HX1.out.cells;have h4:=mF G;unfold ag at h4;obtain ⟨H4,HL,HS,HWl⟩:=Zh4 h4 hl (show iK g (r1,r2)=(decide (g.N r1)&&r2.all (mR g)) from rfl) (show w.heap.size<V.heap.size from HX1.out.lt);clear h4 hl q hb;go_enter Tryz.func83,Tryz.ntmps83;go_wp2_with fail;refine (H4.out _ _ g r1 HX1.out.old HX1.out.gm HL.out).mono ?_;rintro e w1 ⟨rfl,hb1⟩;have HX2:=Ha (HX1.out.on hb1);have HB2:=Ha (HB1.out.trans (hb1.mono HB1.out.size));have z1:=aD y1 hb1;have HI2:=Ha (aF.below HX1.out.old hb1 HI.out);clear x0 x1 x2 x3 hb1 y0 y1;obtain ⟨x0,x1,x2,x3⟩:=HX2.out.cells;generalize decide (g.N r1)=d at HS;cases d
 ·go_wp2_with fail;go_ret;exact ⟨aJ (by rw [HS.out];rfl),HB2.out⟩
 ·have HC:=Ha (D9 G 148 #[.pointer (some ⟨w.heap.size,0,none⟩)] (mR g) _ r2 w1 HX2.out.old HI2.out AX
   (fun X hX vs x hx=>by
    obtain rfl:=hx;exact CA G X w.heap.size A0 c0 A1 c1 A2 c2 g x X rfl (HX2.out.on hX) HL.out))
  go_wp2_with fail;refine (HC.out).mono ?_;rintro e w2 ⟨rfl,hb1⟩;have HB3:=Ha (HB2.out.trans (hb1.mono HB2.out.size));go_wp2_with fail;go_ret;exact ⟨aJ (by rw [HS.out,Bool.true_and]),HB3.out⟩
theorem AB (G:Nat→Prop) (w:World) (b:Nat) (A0 c0 A1 c1 A2 c2) (g:Gm) (us:List Value) (r:Int×List Int) (hx:GBox G w b A0 c0 A1 c1 A2 c2 g) (hu:RuV G w us r) (hl:g.top≤9223372036854775807):
  Calls Tryz.prog 82 #[ag us,.pointer (some ⟨b,0,none⟩)] w fun e w'=>e=.returned (.bool (iK g r))∧Below w.heap.size w w':=by
 obtain ⟨A,c,rfl,_,_⟩:=hu.shape;have hb:Below w.heap.size w (w.alloc (.cells #[.int .i64 r.1,.slice A r.2.length c] 64)):=(gR _ _).alloc (gO _) _;have q:=aC w (.cells #[.int .i64 r.1,.slice A r.2.length c] 64);have h2:=RuV.below hx.old hb hu;have hx2:=hx.on hb;show Calls Tryz.prog 82 #[.agg #[.int .i64 r.1,.slice A r.2.length c],.pointer (some ⟨b,0,none⟩)] w _;generalize hW:w.alloc (.cells #[.int .i64 r.1,.slice A r.2.length c] 64)=W at *;have y0:=aA q 0 _ rfl;have y1:=aA q 1 _ rfl;obtain ⟨x0,x1,x2,x3⟩:=hx2.cells;have HB:=Ha hb;have HC:=Ha (E0 G W _ g _ r hx2.old hx2.gm h2 hl);unfold ag at HC;clear hb q hx hx2 hu h2;go_enter Tryz.func82,Tryz.ntmps82;go_wp2_with fail;refine (HC.out).mono ?_;rintro e w1 ⟨rfl,hb1⟩;go_wp2_with fail;go_ret;exact ⟨rfl,HB.out.trans (hb1.mono HB.out.size)⟩
theorem yT (G:Nat→Prop) (w:World) (bs bl bi:Nat) (A:Option Addr) (n c k:Nat) (l:List (Int×List Int)) (us:List Value) (r:Int×List Int) (hG:∀ k,G k→k<w.heap.size) (hl:cD G w (.slice A n c) l) (hk:k<l.length) (h1:w.cell? ⟨bs,0,none⟩=some (.func (.func 85) #[] #[])) (h2:w.cell? ⟨bl,0,none⟩=some (.slice A n c)) (h3:w.cell? ⟨bi,0,none⟩=some (.int .i64 k)) (hu:RuV G w us r):
  Calls Tryz.prog 149 #[ag us,.pointer (some ⟨bs,0,none⟩),.pointer (some ⟨bl,0,none⟩),.pointer (some ⟨bi,0,none⟩)] w fun e w'=>e=.returned (.bool (decide (r=l[k])))∧Below w.heap.size w w':=by
 have hln:=aH.len hl;obtain ⟨Ar,cr,rfl,_,_⟩:=hu.shape;have hb:Below w.heap.size w (w.alloc (.cells #[.int .i64 r.1,.slice Ar r.2.length cr] 64)):=(gR _ _).alloc (gO _) _;have q:=aC w (.cells #[.int .i64 r.1,.slice Ar r.2.length cr] 64);have hu2:=RuV.below hG hb hu;have hl2:=cD.below hG hb hl;obtain ⟨g1,g2,g3⟩:=Zk3 hb h1 h2 h3;have hG2:=bN hG hb;show Calls Tryz.prog 149 #[.agg #[.int .i64 r.1,.slice Ar r.2.length cr],.pointer (some ⟨bs,0,none⟩),.pointer (some ⟨bl,0,none⟩),.pointer (some ⟨bi,0,none⟩)] w _;generalize hW:w.alloc (.cells #[.int .i64 r.1,.slice Ar r.2.length cr] 64)=W at *;have y0:=aA q 0 _ rfl;have y1:=aA q 1 _ rfl;obtain ⟨bb,off,Ak,ck,rfl,hgb,z0,z1,zi⟩:=cD.at_ hl2 hk;have p:=fun Y:Gr W=>Y.calls (tU G Y.at_ [.int .i64 r.1,.slice Ar r.2.length cr] [.int .i64 l[k].1,.slice Ak l[k].2.length ck] r l[k] (bN hG2 Y.2) (RuV.below hG2 Y.2 hu2) (RuV.below hG2 Y.2 ⟨_,rfl,zi⟩));unfold ag at p;have f1:=fun Y:Gr W=>Y.cell _ _ g1;have f2:=fun Y:Gr W=>Y.cell _ _ g2;have f3:=fun Y:Gr W=>Y.cell _ _ g3;have e0:=fun Y:Gr W=>Y.cell _ _ y0;have e1:=fun Y:Gr W=>Y.cell _ _ y1;have d0:=fun Y:Gr W=>Y.cell _ _ z0;have d1:=fun Y:Gr W=>Y.cell _ _ z1;have hne:Nonempty (Gr W):=⟨⟨_,gR _ _⟩⟩;have HB:=Ha hb;have hkn:k<n:=by omega
 have hn1:=hln.2;have HE:=Ha AZ;clear hb q hu hu2 hl hl2 hG hG2 h1 h2 h3 g1 g2 g3 y0 y1 z0 z1 zi hln
 revert p d0 d1
 generalize l[k]=s;obtain ⟨s1,s2⟩:=s;obtain ⟨r1,r2⟩:=r;dsimp only at *;intro p d0 d1;generalize decide ((r1,r2)=(s1,s2))=dq at *;go_enter Tryz.func149,Tryz.ntmps149;go_wp2_with fail;refine aN (S:=Gr W) Gr.at_ (by kernel_rfl) (by kernel_rfl) (Gr.drew _) ?_;repeat (go_big_quiet_step (with_reducible exact p _))
 refine wpQuiet_nil ?_;rintro wy ⟨⟨wy',hY⟩,hY2⟩;obtain rfl:wy=wy':=hY2;clear p f1 f2 f3 e0 e1 d0 d1 hne;go_wp2_with fail;go_ret;exact ⟨rfl,HB.out.trans (hY.mono HB.out.size)⟩
theorem aH.take {β:Type} {G:Nat→Prop} {w:World} {sz:Nat} {R:List Value→β→Prop} {A:Option Addr} {n c:Nat} {l:List β} (h:aH G w sz R (.slice A n c) l) {k:Nat} (hk:k≤n):aH G w sz R (.slice A k c) (l.take k):=by
 obtain ⟨A',c',e,h2,h3,h4⟩:=h
 injection e with e1 e2 e3
 subst e1 e3;refine ⟨_,_,by rw [yA];congr 1;omega,by rw [yA];omega,h3,fun hn=>?_⟩;rw [yA] at hn;obtain ⟨b,off,e,hg,hel⟩:=h4 (by omega);refine ⟨b,off,e,hg,fun i hi=>?_⟩;rw [yA] at hi;obtain ⟨vs,h5,h6,h7⟩:=hel i (by omega);exact ⟨vs,h5,by rw [List.getElem_take];exact h6,h7⟩
theorem BA:bM 149:=fun args w=>by simp [callFunc,go_sem,Tryz.func149,Tryz.f149]
theorem D0 (G:Nat→Prop) (w:World) (A:Option Addr) (n c:Nat) (l:List (Int×List Int)) (hG:∀ k,G k→k<w.heap.size) (hl:cD G w (.slice A n c) l):
  Calls Tryz.prog 84 #[.slice A n c,.func (.func 85) #[] #[]] w fun e w'=>e=.returned (.bool (decide l.Nodup))∧Below w.heap.size w w':=by
 have hln:=aH.len hl;have hcap:n≤c:=by obtain ⟨_,_,e,h2,_⟩:=hl;injection e with _ e1 e2;omega
 have hb1:Below w.heap.size w (w.alloc (.cells #[.slice A n c] 23)):=(gR _ _).alloc (gO _) _;have hb2:Below w.heap.size w ((w.alloc (.cells #[.slice A n c] 23)).alloc (.cells #[.func (.func 85) #[] #[]] 147)):=hb1.alloc (by simp) _;have q0:=up (aC w (.cells #[.slice A n c] 23)) (o:=.cells #[.func (.func 85) #[] #[]] 147);have q1:=aC (w.alloc (.cells #[.slice A n c] 23)) (.cells #[.func (.func 85) #[] #[]] 147);rw [show (w.alloc (.cells #[.slice A n c] 23)).heap.size=w.heap.size+1 by simp] at q1;have hl2:=cD.below hG hb2 hl;have hG2:=bN hG hb2;generalize hW:(w.alloc (.cells #[.slice A n c] 23)).alloc (.cells #[.func (.func 85) #[] #[]] 147)=W at *;obtain ⟨Y0,Y1,HL,HG,HB,HLN⟩:=Zh6 (aA q0 0 _ rfl) (aA q1 0 _ rfl) hl2 hG2 hb2 hln;have hn1:=hln.2;clear hb1 hb2 q0 q1 hl hl2 hG hG2 hln;go_enter Tryz.func84,Tryz.ntmps84;have y0:=Y0.out;go_wp2
 go_loopw [8] (fun i wr=>∃ (k:Nat),k≤n∧i=.int .i64 k∧(l.take k).Nodup∧Below W.heap.size W wr) (fun i _=>n-(intOf i).toNat)
 case atStart=>exact ⟨0,by omega,rfl,by simp,gR _ _⟩
 case round=>
  obtain ⟨k,hk,rfl,hi,hb⟩:=hrel;have HI:=Ha hi;clear y0;by_cases hlt:k<n
  ·have hlt1:k<l.length:=by have:=HLN.out.1;omega
   have hb2:Below wr.heap.size wr (wr.alloc (.cells #[.int .i64 k] 3)):=(gR _ _).alloc (gO _) _;have q:=aC wr (.cells #[.int .i64 k] 3);have hbV:=hb.trans (hb2.mono hb.size);generalize hV:wr.alloc (.cells #[.int .i64 k] 3)=V at *;have y0:=aD Y0.out hbV;have z:=aA q 0 _ rfl;have HC:=Ha (hH G 149 #[.pointer (some ⟨w.heap.size+1,0,none⟩),.pointer (some ⟨w.heap.size,0,none⟩),.pointer (some ⟨wr.heap.size,0,none⟩)] (fun r=>decide (r=l[k])) (.slice A k c) (l.take k) V (bN HG.out hbV) (aH.take (cD.below HG.out hbV HL.out) (by omega)) BA
    (fun X hX vs x hx=>yT G X (w.heap.size+1) w.heap.size wr.heap.size A n c k l vs x (bN HG.out (hbV.trans (hX.mono hbV.size))) (cD.below HG.out (hbV.trans (hX.mono hbV.size)) HL.out) hlt1 (aD (aD Y1.out hbV) hX) (aD (aD Y0.out hbV) hX) (aD z hX) hx))
   have hq0:(((l.take k).any fun r=>decide (r=l[k]))=true→¬l.Nodup)∧(((l.take k).any fun r=>decide (r=l[k]))=false→(l.take (k+1)).Nodup):=by
    have e:((l.take k).any fun r=>decide (r=l[k]))=decide (l[k]∈l.take k):=by
     rw [Bool.eq_iff_iff,List.any_eq_true,decide_eq_true_iff];constructor
     ·rintro ⟨x,hx,h⟩;rw [← of_decide_eq_true h];exact hx
     ·intro h;exact ⟨_,h,yD rfl⟩
    rw [e];exact ⟨fun h=>pW hlt1 (of_decide_eq_true h),fun h=>pX hlt1 HI.out (of_decide_eq_false h)⟩
   have HQ:=Ha hq0;have HBV:=Ha hbV;generalize ((l.take k).any fun r=>decide (r=l[k]))=d at HC HQ;have hk0:(0:Int)≤(k:Int):=by omega
   have hk1:(k:Int)≤(c:Int):=by omega
   have hk2:k≤c:=by omega
   clear hq0 hbV hb2 q hb hi;go_wp2_with fail;refine HC.out.mono ?_;rintro e w1 ⟨rfl,hb1⟩;have HB1:=Ha (HBV.out.trans (hb1.mono HBV.out.size));clear hb1 y0 z;cases d
   ·have he:=Ha (HQ.out.2 rfl);go_wp2_with fail
    go_roundw
    case rel=>exact ⟨k+1,by omega,by go_num,he.out,HB1.out⟩
    case measure=>simp only [intOf];omega
   ·have he:=Ha (yE (HQ.out.1 rfl));go_wp2_with fail;go_ret;exact ⟨by first | (rw [he.out];done) | (rw [he.out];rfl),HB.out.trans (HB1.out.mono HB.out.size)⟩
  ·have he:=Ha (yD (show l.Nodup by have:=HI.out;rwa [List.take_of_length_le (by have:=HLN.out.1;omega)] at this));have HBR:=Ha hb;clear hb hi;go_wp2_with fail;go_ret;exact ⟨by first | (rw [he.out];done) | (rw [he.out];rfl),HB.out.trans (HBR.out.mono HB.out.size)⟩
section
attribute [local go_sem ↓] aI
theorem H7 (n:Nat) (w:World) (h1:1≤n) (h2:n≤1099511627776):
  Calls Tryz.prog 215 #[.slice none 0 0,.int .i64 n] w fun e w'=>(∃ v,e=.returned v∧cL w.heap.size w' v [])∧Below w.heap.size w w':=by
 obtain ⟨i,hi,hz0,hz1,hz2⟩:=info_parts fT;have hr:=Lib.run_append_nil_zeros (P:=Tryz.prog) w 22 3 22 9 i _ .i64 .i64 Tryz.underlying22 Tryz.underlying3 hi hz0 n (by omega) (by rw [hz1];decide) (by omega) (by rw [hz2];omega);have hcap:n≤grownCap w n 0 9∧grownCap w n 0 9≤maxLen:=by
  show n≤n+w.tape w.drawn (.appendCap n 0 9) % (2 ^ 63-n)∧n+w.tape w.drawn (.appendCap n 0 9) % (2 ^ 63-n)≤9223372036854775807;have:=Nat.mod_lt (w.tape w.drawn (.appendCap n 0 9)) (show 0<2 ^ 63-n by omega);omega
 generalize grownCap w n 0 9=cap at hr hcap;have hrun:=WrA.of hr;generalize hcs:Builtin.zeroCells (Value.string ⟨#[]⟩).cells n++Builtin.zeroCells (Value.string ⟨#[]⟩).cells (cap-n)=cs at hrun;have hsz:cs.size=cap:=by
  rw [← hcs];simp [size_zeroCells,Value.cells];omega
 have q:=aC w.drew (.cells cs 9);have hb:Below w.heap.size w (w.drew.alloc (.cells cs 9)):=((gR _ _).drew).alloc (by simp) _;have hS:cL w.heap.size (w.drew.alloc (.cells cs 9)) (.slice (some ⟨w.heap.size,0,none⟩) 0 cap) []:=
  ⟨[],trivial,by simp,.inr ⟨w.heap.size,cap,cs,rfl,gO _,by simpa using q,gX _,hcap.2,by omega,by simp⟩⟩
 have HS:=Ha hS;have HB:=Ha hb;have hn1:(0:Int)<(n:Int):=by omega
 clear hr hcs hsz q hb hS hi hz0 hz1 hz2;generalize w.drew.alloc (.cells cs 9)=W at *;go_enter Tryz.func215,Tryz.ntmps215;go_wp2_with fail;go_ret;exact ⟨⟨_,rfl,HS.out⟩,HB.out⟩
theorem AN (G:Nat→Prop) (w:World) (b:Nat) (A1 A2:Option Addr) (n1 c1 n2 c2:Nat) (xs ys:List (List UInt8)) (hG:∀ k,G k→k<w.heap.size) (x0:w.cell? ⟨b,0,none⟩=some (.slice A1 n1 c1)) (x1:w.cell? ⟨b,1,none⟩=some (.slice A2 n2 c2)) (h1:aW G w (.slice A1 n1 c1) xs) (h2:aW G w (.slice A2 n2 c2) ys) (hl0:1≤n1+n2) (hl:n1+n2≤1099511627776):
  Calls Tryz.prog 146 #[.slice (some ⟨b,0,none⟩) 2 2] w fun e w'=>(∃ v,e=.returned v∧cL w.heap.size w' v (xs++ys))∧Below w.heap.size w w':=by
 have l1:=(aH.len h1).1;have l2:=(aH.len h2).1;obtain ⟨H1,H2,HG,L1,L2⟩:=Zh5 h1 h2 hG l1 l2;obtain ⟨m,hm⟩:∃ m,m=n1+n2:=⟨_,rfl⟩;have HR:=Ha (H7 m w (by omega) (by omega));have HM:=Ha hm;clear h1 h2 hG l1 l2;have hs1:(0:Int)+(n1:Int)=(n1:Int):=by omega
 have hs2:(n1:Int)+(n2:Int)=(m:Int):=by omega
 have hp1:¬(n1:Int)<0:=by omega
 have hp2:¬(m:Int)<0:=by omega
 clear hm;go_enter Tryz.func146,Tryz.ntmps146;go_wp2
 go_loopw [3,11] (fun s i wr=>wr=w∧((i=.int .i64 0∧s=.int .i64 0)∨(i=.int .i64 1∧s=.int .i64 n1)∨(i=.int .i64 2∧s=.int .i64 m))) (fun _ i _=>2-(intOf i).toNat)
 case atStart=>exact ⟨rfl,.inl ⟨rfl,rfl⟩⟩
 case round=>
  obtain ⟨rfl,⟨rfl,rfl⟩ | ⟨rfl,rfl⟩ | ⟨rfl,rfl⟩⟩:=hrel
  ·go_wp2_with fail
   go_roundw
   case rel=>exact ⟨by first | rfl | trivial,.inr (.inl ⟨rfl,rfl⟩)⟩
   case measure=>simp only [intOf];omega
  ·go_wp2_with fail
   go_roundw
   case rel=>exact ⟨by first | rfl | trivial,.inr (.inr ⟨rfl,rfl⟩)⟩
   case measure=>simp only [intOf];omega
  ·go_wp2_with fail;refine (HR.out).mono ?_;rintro e w1 ⟨⟨v,rfl,hs⟩,hb⟩;obtain ⟨A,c,rfl⟩:=hs.shape;obtain ⟨X0,X1,HS,HB⟩:=Zh4 x0 x1 hs hb;clear hs hb x0 x1;go_wp2
   go_loopw [6,27] (fun v i wq=>Below wr.heap.size wr wq∧((i=.int .i64 0∧cL wr.heap.size wq v [])∨(i=.int .i64 1∧cL wr.heap.size wq v xs)∨(i=.int .i64 2∧cL wr.heap.size wq v (xs++ys)))) (fun _ i _=>2-(intOf i).toNat)
   case atStart=>exact ⟨HB.out,.inl ⟨rfl,HS.out⟩⟩
   case round=>
    obtain ⟨hb,⟨rfl,hs⟩ | ⟨rfl,hs⟩ | ⟨rfl,hs⟩⟩:=hrel
    ·have y0:=aD X0.out hb;obtain ⟨v',w',hrun,hs',hb'⟩:=cL.add hs (aW.below HG.out hb H1.out) (by have:=L1.out;simp;omega) hb.size;obtain ⟨A3,c3,rfl⟩:=hs.shape;obtain ⟨A4,c4,rfl⟩:=hs'.shape;rw [List.nil_append] at hs' hrun;rw [gH] at hrun;have HS':=Ha hs';have HB':=Ha (hb.trans hb');clear hs hs' hb hb';go_wp2_with fail
     go_roundw
     case rel=>exact ⟨HB'.out,.inr (.inl ⟨rfl,HS'.out⟩)⟩
     case measure=>simp only [intOf];omega
    ·have y0:=aD X1.out hb;obtain ⟨v',w',hrun,hs',hb'⟩:=cL.add hs (aW.below HG.out hb H2.out) (by have:=L1.out;have:=L2.out;omega) hb.size;obtain ⟨A3,c3,rfl⟩:=hs.shape;obtain ⟨A4,c4,rfl⟩:=hs'.shape;rw [gI] at hs' hrun;have HS':=Ha hs';have HB':=Ha (hb.trans hb');clear hs hs' hb hb';go_wp2_with fail
     go_roundw
     case rel=>exact ⟨HB'.out,.inr (.inr ⟨rfl,HS'.out⟩)⟩
     case measure=>simp only [intOf];omega
    ·obtain ⟨A3,c3,rfl⟩:=hs.shape;have HS':=Ha hs;have HB':=Ha hb;clear hs hb;go_wp2_with fail;go_ret;exact ⟨⟨_,rfl,HS'.out⟩,HB'.out⟩
def jK (l:List (List UInt8)) (k:Nat):List UInt8→Option Int:=fun s=>if s∈l.take k then some 1 else none
theorem yN {l:List (List UInt8)} {k:Nat} (h:k<l.length):upd (jK l k) l[k] 1=jK l (k+1):=by
 funext t
 have hm:t∈l.take (k+1)↔t∈l.take k∨t=l[k]:=by rw [dG h,List.mem_append,gV]
 unfold upd jK;by_cases ht:t=l[k]
 ·rw [if_pos ht,if_pos (hm.2 (.inr ht))]
 ·rw [if_neg ht];by_cases hk:t∈l.take k
  ·rw [if_pos hk,if_pos (hm.2 (.inl hk))]
  ·rw [if_neg hk,if_neg (fun h=>(hm.1 h).elim hk ht)]
theorem yL {l:List (List UInt8)} {k:Nat} (h:k<l.length) (hn:l.Nodup):jK l k l[k]=none:=by
 unfold jK;rw [if_neg];intro hm;exact pW h hm hn
theorem IM (G:Nat→Prop) (w:World) (vs:List Value) (g:Gm) (hG:∀ k,G k→k<w.heap.size) (hg:GmV G w vs g) (hl:g.top≤1099511627775) (h1:1≤g.top) (hnd:g.names.Nodup) (hsz:∀ s∈g.names,s.length≤1099511627776):
  Calls Tryz.prog 80 #[ag vs] w fun e w'=>e=.returned (.bool true)∧Below w.heap.size w w':=by
 obtain ⟨A0,c0,A1,c1,A2,c2,W,ev,hW,⟨x0,x1,x2,x3⟩,HB,HX⟩:=GBox.go hG hg;rw [ev];have HG:=Ha hG;clear hG hg ev;have hmm:=@run_makeMap Tryz.prog;have hba:Below W.heap.size W (W.alloc (.map #[] 0)):=(gR _ _).alloc (gO _) _;have hbb:Below W.heap.size W ((W.alloc (.map #[] 0)).alloc (.cells #[.slice A0 g.terms.length c0,.slice A1 g.nons.length c1] 22)):=hba.alloc (by simp) _;have q:=aC (W.alloc (.map #[] 0)) (.cells #[.slice A0 g.terms.length c0,.slice A1 g.nons.length c1] 22);rw [show (W.alloc (.map #[] 0)).heap.size=W.heap.size+1 by simp] at q;have HM0:=Ha ((MI.made W).kept (row:=none) (World.grownBy_alloc _ (.cells #[.slice A0 g.terms.length c0,.slice A1 g.nons.length c1] 22) _) (by simp));have hx2:=HX.out.on hbb;have y0:=aD x0 hba;have y1:=aD x1 hba;generalize hV:(W.alloc (.map #[] 0)).alloc (.cells #[.slice A0 g.terms.length c0,.slice A1 g.nons.length c1] 22)=V at *;have HC:=Ha (AN G V (W.heap.size+1) A0 A1 _ c0 _ c1 g.terms g.nons hx2.old (aA q 0 _ rfl) (aA q 1 _ rfl) hx2.ht hx2.hn (by unfold Gm.top at h1;omega) (by unfold Gm.top at hl;omega));have HV:=Ha hbb;have HND:=Ha hnd;have HSZ:=Ha hsz;have HVl:=Ha (show V.heap.size=W.heap.size+2 by rw [← hV];simp);clear hba hbb q hx2 hnd hsz;go_enter Tryz.func80,Tryz.ntmps80;go_wp2_with fail;refine (HC.out).mono ?_;rintro e w1 ⟨⟨v,rfl,hs⟩,hb⟩;have hnm:g.terms++g.nons=g.names:=rfl;rw [hnm] at hs;clear hnm;obtain ⟨A,c,rfl⟩:=hs.shape;have HS:=Ha (aG.look hs (G:=fun j=>V.heap.size≤j∧j<w1.heap.size) fun j hj=>aG.lt hs hj);have HM:=Ha (MI.kept (row:=none) HM0.out ⟨hb.os,hb.tape,hb.output,hb.size,fun j hj _=>hb.block j hj⟩ (by simp));have HB1:=Ha (HV.out.trans (hb.mono HV.out.size));have HS1:=Ha hb.size;have hNl:=Ha (oJ g);have hml:g.names.length≤1099511627775:=by rw [oJ];exact hl
 clear hs hb x0 x1 x2 x3 y0 y1;obtain ⟨nl,hnl⟩:∃ nl,nl=g.names.length:=⟨_,rfl⟩;rw [← hnl] at HS hml hNl ⊢;have HNL:=Ha hnl;clear hnl;go_wp2
 go_loopw [14] (fun i wr=>∃ (k:Nat),k≤nl∧i=.int .i64 k∧MI wr W.heap.size (jK g.names k) k∧Below W.heap.size W wr∧wr.heap.size=w1.heap.size∧∀ j,j≠W.heap.size→wr.heap[j]? = w1.heap[j]?) (fun i _=>nl-(intOf i).toNat)
 case atStart=>exact ⟨0,by omega,rfl,by
  have:jK g.names 0=fun _=>none:=by funext s;unfold jK;simp
  rw [this];exact HM.out,HB1.out,rfl,fun _ _=>rfl⟩
 case round=>
  obtain ⟨k,hk,rfl,hm,hb,hz,hj⟩:=hrel;by_cases hlt:k<nl
  ·have hlt1:k<g.names.length:=by rw [← HNL.out];exact hlt
   obtain ⟨bb,off,u,rfl,hgb,hu,z⟩:=aH.cell1 HS.out hlt1;unfold iT at hu
   injection hu with hu _
   subst hu;have z2:wr.cell? ⟨bb,off+k,none⟩=some (bs g.names[k]):=(gM (hj bb (by have:=HVl.out;omega))).trans z;have hnone:=yL hlt1 HND.out;have hsl:=HSZ.out _ (gN hlt1);have hget:=hm.get g.names[k] (by omega);obtain ⟨w',hst,hm',hg',hs'⟩:=hm.store g.names[k] 1 (by omega) (by decide) (by omega);rw [hnone] at hget hm';rw [yN hlt1] at hm';have hget2:(Instr.lookup 115 (.map (some W.heap.size)) (bs g.names[k]) false).run Tryz.prog wr=.ok (.int .i64 0) wr:=hget;have HM':=Ha (show MI w' W.heap.size (jK g.names (k+1)) (k+1) from hm');have HB':=Ha (hb.grown hg' hb.size (fun j e=>by cases e;exact gO _));have HZ':=Ha (hs'.trans hz);have HJ':=Ha (show ∀ j,j≠W.heap.size→w'.heap[j]? = w1.heap[j]? from fun j hne=>by
    by_cases hjl:j<wr.heap.size
    ·exact (hg'.block j hjl (fun e=>hne (Option.some.inj e))).trans (hj j hne)
    ·exact (Array.getElem?_eq_none (show w'.heap.size≤j by omega)).trans (Array.getElem?_eq_none (show w1.heap.size≤j by omega)).symm)
   clear hget hm hm' hg' hs' hz hj hnone z;unfold bs at *;go_wp2_with fail
   go_roundw
   case rel=>exact ⟨k+1,by omega,by go_num,HM'.out,HB'.out,HZ'.out,HJ'.out⟩
   case measure=>simp only [intOf];omega
  ·have hlen:=hm.len 3;have hx:=HX.out.on hb;obtain ⟨x0,x1,x2,x3⟩:=hx.cells;have HT:=Ha (jN G wr _ g hx.old hx.gm (by omega));unfold ag at HT;have HBR:=Ha hb;have hkt:((k:Int)==(g.top:Int))=true:=by rw [beq_iff_eq];have:=hNl.out;omega
   clear hm hb hz hj hx;go_wp2_with fail;refine HT.out.mono ?_;rintro e w2 ⟨rfl,hb2⟩;go_wp2_with fail;go_ret;exact ⟨rfl,HB.out.trans ((HBR.out.trans (hb2.mono HBR.out.size)).mono HB.out.size)⟩
end
theorem fV {s:List UInt8} (h:nameB s=true):s.length≤24:=by
 unfold nameB at h;rw [yF,decide_eq_true_iff] at h;exact h.2
theorem sE {s:List UInt8} (h:quotedB s=true):s.length≤24:=by
 unfold quotedB at h;simp only [yF,decide_eq_true_eq] at h;omega
theorem kD {s:List UInt8} (h:iD s=true):s.length≤24:=by
 unfold iD at h;rw [Bool.or_eq_true] at h;exact h.elim fV sE
theorem GW.top {g:Gm} (h:GW g):g.top≤240∧1≤g.top:=by
 have h1:=h.lt;have h2:=h.ln;have h3:=h.kn.st;unfold Gm.N at h3;unfold Gm.top at *;omega
theorem GW.name_len {g:Gm} (h:GW g):∀ s∈g.names,s.length≤24:=by
 intro s hs;rcases yC hs with hs | hs
 ·exact kD (h.ft s hs)
 ·exact fV (h.fn s hs)
theorem GW.fit {g:Gm} (h:GW g):g.Fit:=
 ⟨gP h.lt (by decide),gP h.ln (by decide),gP h.lr (by decide),fun s hs=>gP (kD (h.ft s hs)) (by decide),fun s hs=>gP (fV (h.fn s hs)) (by decide),fun r hr=>gP (h.lx r hr) (by decide)⟩
theorem kR (G:Nat→Prop) (w:World) (vs:List Value) (g:Gm) (hG:∀ k,G k→k<w.heap.size) (hg:GmV G w vs g) (hw:GW g):
  Calls Tryz.prog 30 #[ag vs] w fun e w'=>e=.returned (.int .i64 0)∧Below w.heap.size w w':=by
 obtain ⟨A0,c0,A1,c1,A2,c2,W,ev,hW,⟨x0,x1,x2,x3⟩,HB,HX⟩:=GBox.go hG hg;rw [ev];have HG:=Ha hG;clear hG hg ev;have ht:=hw.top;have h1:=IM G;have h2:=mF G;have h3:=jN G;have h4:=JN G;unfold ag at h1 h2 h3 h4;have H1:=Ha h1;have H2:=Ha h2;have H3:=Ha h3;have H4:=Ha h4;have HW:=Ha hw;have HT:=Ha ht;have l1:¬(120:Int)<(g.terms.length:Int):=by have:=hw.lt;omega
 have l2:¬(120:Int)<(g.nons.length:Int):=by have:=hw.ln;omega
 have l3:¬(300:Int)<(g.rules.length:Int):=by have:=hw.lr;omega
 have C1:=Ha (fun (Y:World) (hY:Below W.heap.size W Y)=>(show (g.rules.all fun r=>decide (r.2.length≤8))=true from List.all_eq_true.2 fun r hr=>yD (hw.lx r hr))▸qV G 74 #[] (fun r=>decide (r.2.length≤8)) _ g.rules Y (bN HX.out.old hY) (cD.below HX.out.old hY HX.out.hr) AT (fun X hX vs x hx=>J5 G X vs x hx));have C2:=Ha (fun (Y:World) (hY:Below W.heap.size W Y)=>(show (g.terms.all fun _=>true)=true from List.all_eq_true.2 fun _ _=>rfl)▸uE (fun s=>iD s=true) G 77 #[] (fun _=>true) _ g.terms Y (bN HX.out.old hY) (aW.with (aW.below HX.out.old hY HX.out.ht) hw.ft) AU (fun X hX vs x hx=>by
  obtain ⟨rfl,hq⟩:=hx;exact J6 x X (gP (kD hq) (by decide)) hq))
 have C3:=Ha (fun (Y:World) (hY:Below W.heap.size W Y)=>(show (g.nons.all nameB)=true from List.all_eq_true.2 hw.fn)▸uE (fun s=>nameB s=true) G 78 #[] nameB _ g.nons Y (bN HX.out.old hY) (aW.with (aW.below HX.out.old hY HX.out.hn) hw.fn) AY (fun X hX vs x hx=>by
  obtain ⟨rfl,hq⟩:=hx;exact sA x X (gP (fV hq) (by decide))))
 have C4:=Ha (fun (Y:World) (hY:Below W.heap.size W Y)=>(show (g.rules.all (iK g))=true from List.all_eq_true.2 fun r hr=>(List.all_eq_true.1 (Bool.and_eq_true_iff.1 ((mB g).2 hw.kn)).2 r hr))▸qV G 82 #[.pointer (some ⟨w.heap.size,0,none⟩)] (iK g) _ g.rules Y (bN HX.out.old hY) (cD.below HX.out.old hY HX.out.hr) AW
  (fun X hX vs x hx=>AB G X w.heap.size A0 c0 A1 c1 A2 c2 g vs x (HX.out.on (hY.trans (hX.mono hY.size))) hx (by omega)))
 have C5:=Ha (fun (Y:World) (hY:Below W.heap.size W Y)=>(yD hw.ul)▸D0 G Y _ _ _ g.rules (bN HX.out.old hY) (cD.below HX.out.old hY HX.out.hr));clear h1 h2 h3 h4 hw ht;go_enter Tryz.func30,Tryz.ntmps30;go_wp2_with fail;refine (C1.out _ (gR _ _)).mono ?_;rintro e w1 ⟨rfl,hb1⟩;obtain ⟨HE1,HX1,HB1⟩:=Zh3 hb1 (HX.out.on hb1) (HB.out.trans (hb1.mono HB.out.size));clear x0 x1 x2 x3 hb1;obtain ⟨x0,x1,x2,x3⟩:=HX1.out.cells;go_wp2_with fail;refine (C2.out _ HE1.out).mono ?_;rintro e w2 ⟨rfl,hb1⟩;obtain ⟨HE2,HX2,HB2⟩:=Zh3 (HE1.out.trans (hb1.mono HE1.out.size)) (HX1.out.on hb1) (HB1.out.trans (hb1.mono HB1.out.size));clear x0 x1 x2 x3 hb1;obtain ⟨x0,x1,x2,x3⟩:=HX2.out.cells;go_wp2_with fail;refine (C3.out _ HE2.out).mono ?_;rintro e w3 ⟨rfl,hb1⟩;obtain ⟨HE3,HX3,HB3⟩:=Zh3 (HE2.out.trans (hb1.mono HE2.out.size)) (HX2.out.on hb1) (HB2.out.trans (hb1.mono HB2.out.size));clear x0 x1 x2 x3 hb1;obtain ⟨x0,x1,x2,x3⟩:=HX3.out.cells;go_wp2_with fail;refine (H1.out _ _ g HX3.out.old HX3.out.gm (by have:=HT.out;omega) HT.out.2 HW.out.nd (fun s hs=>gP (HW.out.name_len s hs) (by decide))).mono ?_;rintro e w4 ⟨rfl,hb1⟩;obtain ⟨HE4,HX4,HB4⟩:=Zh3 (HE3.out.trans (hb1.mono HE3.out.size)) (HX3.out.on hb1) (HB3.out.trans (hb1.mono HB3.out.size));clear x0 x1 x2 x3 hb1;obtain ⟨x0,x1,x2,x3⟩:=HX4.out.cells;have hst:=yD HW.out.kn.st;have H2':=H2.out w4 _ g g.start HX4.out.old HX4.out.gm (by have:=HT.out;omega);rw [hst] at H2';have HN:=Ha H2';clear hst H2';go_wp2_with fail;refine (HN.out).mono ?_;rintro e w5 ⟨rfl,hb1⟩;obtain ⟨HE5,HX5,HB5⟩:=Zh3 (HE4.out.trans (hb1.mono HE4.out.size)) (HX4.out.on hb1) (HB4.out.trans (hb1.mono HB4.out.size));clear x0 x1 x2 x3 hb1;obtain ⟨x0,x1,x2,x3⟩:=HX5.out.cells;go_wp2_with fail;refine (C4.out _ HE5.out).mono ?_;rintro e w6 ⟨rfl,hb1⟩;obtain ⟨HE6,HX6,HB6⟩:=Zh3 (HE5.out.trans (hb1.mono HE5.out.size)) (HX5.out.on hb1) (HB5.out.trans (hb1.mono HB5.out.size));clear x0 x1 x2 x3 hb1;obtain ⟨x0,x1,x2,x3⟩:=HX6.out.cells;go_wp2_with fail;refine (C5.out _ HE6.out).mono ?_;rintro e w7 ⟨rfl,hb1⟩;obtain ⟨HE7,HX7,HB7⟩:=Zh3 (HE6.out.trans (hb1.mono HE6.out.size)) (HX6.out.on hb1) (HB6.out.trans (hb1.mono HB6.out.size));clear x0 x1 x2 x3 hb1;obtain ⟨x0,x1,x2,x3⟩:=HX7.out.cells;go_wp2
 go_loopw [4] (fun i wr=>∃ (k:Nat),k≤g.nons.length∧i=.int .i64 ((g.terms.length:Int)+1+k)∧Below w7.heap.size w7 wr) (fun i _=>(g.top+1-(intOf i).toNat))
 case atStart=>exact ⟨0,by omega,by simp,gR _ _⟩
 case round=>
  obtain ⟨k,hk,rfl,hb1⟩:=hrel;obtain ⟨HR,HBk,HXa⟩:=Zh3 hb1 hb1 (HX7.out.on hb1);clear x0 x1 x2 x3 hb1;obtain ⟨x0,x1,x2,x3⟩:=HXa.out.cells;have C6:=Ha (H3.out wr _ g HXa.out.old HXa.out.gm (by have:=HT.out;omega));have htl:=Ha (show g.top=g.terms.length+g.nons.length from rfl);have htb:=HT.out.1;go_wp2_with fail;refine (C6.out).mono ?_;rintro e wa ⟨rfl,hb1⟩;have HRa:=Ha (HR.out.trans (hb1.mono HR.out.size));have HXb:=Ha (HXa.out.on hb1);clear x0 x1 x2 x3 hb1;obtain ⟨x0,x1,x2,x3⟩:=HXb.out.cells;by_cases hlt:k<g.nons.length
  ·have hle:(g.terms.length:Int)+1+(k:Int)≤(g.top:Int):=by have:=htl.out;omega
   have C7:=Ha (H4.out wa _ g ((g.terms.length:Int)+1+k) HXb.out.old HXb.out.gm (by have:=HW.out.lr;omega));have hne:=(yZ g).1 HW.out |>.2.2.2.2.2 k hlt
   generalize ofR ((g.terms.length:Int)+1+k) g.rules 0=l at C7 hne;have hl0:¬(l.length:Int)=0:=fun h=>hne (yM (by omega));clear hne;go_wp2_with fail;refine (C7.out).mono ?_;rintro e wb ⟨v,rfl,hs,hb1⟩;obtain ⟨A,c,rfl⟩:=hs.shape;have HRb:=Ha (HRa.out.trans (hb1.mono HRa.out.size));clear hs hb1 x0 x1 x2 x3;go_wp2_with fail
   go_roundw
   case rel=>exact ⟨k+1,by omega,by go_num,HRb.out⟩
   case measure=>simp only [intOf];have:=htl.out;omega
  ·have hgt:¬(g.terms.length:Int)+1+(k:Int)≤(g.top:Int):=by have:=htl.out;omega
   go_wp2_with fail;go_ret;exact ⟨rfl,HB7.out.trans (HRa.out.mono HB7.out.size)⟩
def dR (g:Gm) (X:Nat) (r:Int×List Int):Bool:=r.2.all fun s=>!(decide (g.N s) && !X.testBit s.toNat)
theorem nT (g:Gm) (X:Nat) (r:Int×List Int):dR g X r=true↔∀ s∈r.2,g.N s→X.testBit s.toNat=true:=by
 unfold dR;rw [List.all_eq_true];constructor
 ·intro h s hs hN;have:=h s hs;rw [yD hN] at this
  simpa using this
 ·intro h s hs;by_cases hN:g.N s
  ·rw [yD hN,h s hs hN];rfl
  ·rw [yE hN];rfl
def jS (g:Gm) (X:Nat):Prop:=∀ i:Nat,X.testBit i=true→g.N i∧g.Prod i
def kP (g:Gm) (X:Nat):Prop:=∀ r∈g.rules,dR g X r=true→X.testBit r.1.toNat=true
theorem uO {g:Gm}:∀ {b:List Int},(∀ s∈b,∃ w,g.Der [s] w)→∃ w,g.Der b w
 | [],_=>⟨[],.nil⟩
 | s::b,h=>by
  obtain ⟨u,hu⟩:=h s (yH ..);obtain ⟨v,hv⟩:=uO fun t ht=>h t (yI _ ht);exact ⟨u++v,hu.app hv⟩
theorem xS {g:Gm} (hk:g.Known) {r:Int×List Int} (hr:r∈g.rules) (h:∀ s∈r.2,g.N s→g.Prod s):g.Prod r.1:=by
 obtain ⟨w,hw⟩:=uO (g:=g) (b:=r.2) fun s hs=>(hk.right r hr s hs).elim (fun hT=>⟨[s],.term hT .nil⟩) (fun hN=>h s hs hN);exact ⟨w,(Gm.Der.of_rule (hk.left r hr)).2 ⟨r.2,hr,hw⟩⟩
theorem nJ {g:Gm} {X:Nat} (hc:kP g X) {a w:List Int} (h:g.Der a w):∀ s∈a,g.N s→X.testBit s.toNat=true:=by
 induction h with
 | nil=>intro s hs;cases hs
 | term hT _ ih=>
  intro s hs hN;rcases List.mem_cons.1 hs with rfl | hs
  ·exact absurd hT (Gm.not_T_of_N hN)
  ·exact ih s hs hN
 | rule hr _ _ ih1 ih2=>
  intro s hs hN;rcases List.mem_cons.1 hs with rfl | hs
  ·exact hc _ hr ((nT _ _ _).2 ih1)
  ·exact ih2 s hs hN
def GP (g:Gm) (X:Nat):Prop:=jS g X∧∀ s,g.N s→g.Prod s→X.testBit s.toNat=true
theorem xF {g:Gm} {X:Nat} (h1:jS g X) (h2:kP g X):GP g X:=⟨h1,fun s hN ⟨_,hw⟩=>nJ h2 hw s (yH ..) hN⟩
theorem tN {g:Gm} (hk:g.Known) {X:Nat} (h:jS g X) {r:Int×List Int} (hr:r∈g.rules) (hf:dR g X r=true):jS g (X ||| 2 ^ r.1.toNat):=by
 have hN:=hk.left r hr;have h0:((r.1.toNat:Nat):Int)=r.1:=by unfold Gm.N at hN;omega
 have hp:=xS hk hr fun s hs hsN=>by
  have h1:=h _ ((nT _ _ _).1 hf s hs hsN);rw [show ((s.toNat:Nat):Int)=s by unfold Gm.N at hsN;omega] at h1;exact h1.2
 intro i hi;rw [eJ,Bool.or_eq_true,decide_eq_true_iff] at hi;rcases hi with hi | rfl
 ·exact h i hi
 ·rw [h0];exact ⟨hN,hp⟩
def zr (X:Nat):Nat→Nat
 | 0=>0
 | n+1=>zr X n+(if X.testBit n then 0 else 1)
theorem vX (X i:Nat):∀ n,n≤i→zr (X ||| 2 ^ i) n=zr X n
 | 0,_=>rfl
 | n+1,h=>by
  rw [zr,zr,vX X i n (by omega),eJ,yE (show ¬i=n by omega),Bool.or_false]
theorem t7 {X i:Nat} (hi:X.testBit i=false):∀ n,i<n→zr (X ||| 2 ^ i) n+1=zr X n
 | 0,h=>absurd h (yJ i)
 | n+1,h=>by
  rw [zr,zr,eJ];by_cases hn:i=n
  ·subst hn;rw [vX X i i (gO _),hi,yD rfl];simp
  ·have:=t7 hi n (by omega);rw [yE hn,Bool.or_false];omega
def fF:Value→Nat
 | .bool true=>1
 | _=>0
theorem nY:∀ {us:List (List Value)} {l:List Int},cZ 1 cF us l→us.flatten=l.map (Value.int .i64)
 | [],[],_=>rfl
 | [],_::_,h=>h.elim
 | _::_,[],h=>h.elim
 | vs::us,x::l,h=>by
  have e:vs=[.int .i64 x]:=h.1.2;rw [List.flatten_cons,nY h.2,e,List.map_cons];rfl
theorem i8:∀ l:List Int,∃ us,cZ 1 cF us l∧us.flatten=l.map (Value.int .i64)
 | []=>⟨[],trivial,rfl⟩
 | x::l=>by
  obtain ⟨us,h1,h2⟩:=i8 l;exact ⟨[.int .i64 x]::us,⟨⟨rfl,rfl⟩,h1⟩,by rw [List.flatten_cons,h2];rfl⟩
theorem aX.row {B:Nat} {w:World} {v:Value} {l:List Int} (h:aX B w v l):w.ownsRow B 3 1 v l.length (l.map (Value.int .i64)):=by
 obtain ⟨us,h1,h2⟩:=h;rw [← nY h1];exact h2
theorem aX.of_row {B:Nat} {w:World} {v:Value} {l:List Int} (h:w.ownsRow B 3 1 v l.length (l.map (Value.int .i64))):aX B w v l:=by
 obtain ⟨us,h1,h2⟩:=i8 l;exact ⟨us,h1,by rw [h2];exact h⟩
theorem aX.pop {B:Nat} {w:World} {A:Option Addr} {c:Nat} {l:List Int} {x:Int} (h:aX B w (.slice A (l.length+1) c) (l++[x])):aX B w (.slice A l.length c) l:=by
 have h2:=h.row;refine aX.of_row ⟨by simp, ?_⟩;rcases h2.2 with ⟨e,_⟩ | ⟨g,cap,cur,e,h3,h4,h5,h6,h7,h8⟩
 ·injection e with _ e _;omega
 ·injection e with e1 e2 e3
  subst e1 e3;rw [gI] at h5;refine .inr ⟨g,c,cur,rfl,h3,h4,by omega,h6,h7, ?_⟩;have h9:=congrArg (List.take (l.length*1)) h8;rw [List.take_take,List.map_append,gI,List.take_append_of_le_length (by simp)] at h9;rw [show min (l.length*1) ((l.length+[x].length)*1)=l.length*1 by simp] at h9;rw [h9,Nat.mul_one];exact List.take_of_length_le (by simp)
theorem aX.push2 {B:Nat} {w:World} {v:Value} {xs:List Int} (x:Int) (h:aX B w v xs) (hl:xs.length+1≤1099511627776) (hB:B≤w.heap.size):∃ v' w',WrA Tryz.prog #[26,26] 26 #[v,.slice (some ⟨w.heap.size,0,none⟩) 1 1] (w.alloc (.cells #[.int .i64 x] 3))=.ok v' w'∧aX B w' v' (xs++[x])∧Below B w w'∧
  (∀ j,j<w.heap.size→v.ownBlock≠some j→w'.heap[j]? = w.heap[j]? ∧ v'.ownBlock≠some j):=by
 have hb:Below w.heap.size w (w.alloc (.cells #[.int .i64 x] 3)):=(gR _ _).alloc (gO _) _;have q:=aC w (.cells #[.int .i64 x] 3);have hx:aH (fun _=>True) (w.alloc (.cells #[.int .i64 x] 3)) 1 cF (.slice (some ⟨w.heap.size,0,none⟩) 1 1) [x]:=
  ⟨_,_,rfl,gO _,by unfold maxLen;omega,fun _=>⟨_,_,rfl,trivial,fun i hi=>by
   obtain rfl:i=0:=by simpa using hi
   exact ⟨[.int .i64 x],rfl,rfl,fun j u hj=>by simpa using aA q j u (by simpa using hj)⟩⟩⟩
 obtain ⟨v',w',h1,h2,h3,h4⟩:=aG.append 26 Tryz.underlying26 cB rfl (by decide) cF.one 26 (aG.below h hb) hx (by simp;omega) (by unfold maxLen;simp;omega) (gP hB hb.size);refine ⟨v',w',h1,h2,(hb.mono hB).trans ((gR B _).grown h3 (gP hB hb.size) fun k e=>(aG.lt (aG.below h hb) e).1),fun j hj hne=>⟨?_, ?_⟩⟩
 ·exact (h3.block j (gK hj hb.size) (fun e=>hne e.symm)).trans (hb.block j hj)
 ·intro e;rcases h4 with h4 | h4
  ·exact hne (h4.symm.trans e)
  ·rw [h4] at e;have:=Option.some.inj e;have:=hb.size;simp at *;omega
theorem aX.keepH {B:Nat} {w w':World} {v:Value} {l:List Int} (h:aX B w v l) (hv:∀ g,v.ownBlock=some g→w'.heap[g]? = w.heap[g]?):aX B w' v l:=aG.keep h hv
def rY:Value→Nat
 | .slice _ n _=>n
 | _=>0
def D7 (g:Gm) (X:Nat):Prop:=(∀ i:Nat,X.testBit i=true→g.Reach i)∧∀ s,g.Reach s→X.testBit s.toNat=true
theorem tG {g:Gm} {X:Nat} (h1:∀ i:Nat,X.testBit i=true→g.Reach i) (h0:X.testBit g.start.toNat=true) (h2:∀ r∈g.rules,X.testBit r.1.toNat=true→∀ s∈r.2,X.testBit s.toNat=true):D7 g X:=
 ⟨h1,fun s h=>by
  induction h with
  | start=>exact h0
  | step hr _ hs ih=>exact h2 _ hr ih _ hs⟩
theorem fW (s:Int):∀ (l:List (Int×List Int)) (k:Nat) (x:Int),x∈ofR s l k→∃ i:Nat,x=((k+i:Nat):Int)∧∃ h:i<l.length,l[i].1=s
 | [],_,_,h=>by simp [ofR] at h
 | r::l,k,x,h=>by
  rw [ofR] at h;have rest:x∈ofR s l (k+1)→∃ i:Nat,x=((k+i:Nat):Int)∧∃ h:i<(r::l).length,(r::l)[i].1=s:=fun h=>by
   obtain ⟨i,e,hi,e2⟩:=fW s l (k+1) x h;exact ⟨i+1,by omega,by simpa using hi,by simpa using e2⟩
  split at h
  ·rename_i hr;rcases List.mem_cons.1 h with rfl | h
   ·exact ⟨0,rfl,by simp,by simpa using hr⟩
   ·exact rest h
  ·exact rest h
theorem p3 (s:Int):∀ (l:List (Int×List Int)) (k:Nat) (i:Nat) (h:i<l.length),l[i].1=s→((k+i:Nat):Int)∈ofR s l k
 | r::l,k,0,_,e=>by
  rw [ofR,if_pos (by simpa using e)];exact yH ..
 | r::l,k,i+1,h,e=>by
  rw [ofR];have:=p3 s l (k+1) i (by simpa using h) (by simpa using e);rw [show k+1+i=k+(i+1) by omega] at this
  split
  ·exact yI _ this
  ·exact this
section
attribute [local go_sem ↓] aI
structure RW (B b bw n:Nat) (w1 w5:World) (v5:Value) (w:World) (tv:Value) (X:Nat) (l:List Int):Prop where
 row:aX B w tv l
 set:BSet w b bw n X
 bel:Below w1.heap.size w1 w
 sz:B≤w.heap.size
 of:∀ j,v5.ownBlock=some j→B≤j∧j<w.heap.size∧w.heap[j]? = w5.heap[j]? ∧ tv.ownBlock≠some j
section
variable {B b bw n:Nat} {w1 w5:World} {v5:Value} {w w':World} {tv:Value} {X X':Nat} {l:List Int}
theorem RW.put (h:RW B b bw n w1 w5 v5 w tv X l) (hbw:bw<B) (h1:w1.heap.size≤bw) (hs:BSet w' b bw n X') (hd:Wd1 bw w w'):RW B b bw n w1 w5 v5 w' tv X' l:=by
 refine ⟨h.row.keepH fun j e=>hd.heap ?_,hs,h.bel.trans (hd.below h1),by rw [hd.size];exact h.sz,fun j e=>?_⟩
 ·have:=(aG.lt h.row e).1;omega
 ·obtain ⟨k1,k2,k3,k4⟩:=h.of j e;exact ⟨k1,by rw [hd.size];exact k2,(hd.heap (by omega)).trans k3,k4⟩
theorem RW.push (x:Int) (h:RW B b bw n w1 w5 v5 w tv X l) (hb:b<B) (hbw:bw<B) (h1:w1.heap.size≤B) (hl:l.length≤1000):
  ∃ v' w',WrA Tryz.prog #[26,26] 26 #[tv,.slice (some ⟨w.heap.size,0,none⟩) 1 1] (w.alloc (.cells #[.int .i64 x] 3))=.ok v' w'∧RW B b bw n w1 w5 v5 w' v' X (l++[x]):=by
 obtain ⟨v',w',k1,k2,k3,k4⟩:=h.row.push2 x (by omega) h.sz;refine ⟨v',w',k1,k2,h.set.keep (k3.block b hb) (k3.block bw hbw),h.bel.trans (k3.mono h1),gP h.sz k3.size,fun j e=>?_⟩;obtain ⟨m1,m2,m3,m4⟩:=h.of j e;obtain ⟨m5,m6⟩:=k4 j m2 m4;exact ⟨m1,gK m2 k3.size,m5.trans m3,m6⟩
theorem RW.below (h:RW B b bw n w1 w5 v5 w tv X l) (hb:Below w.heap.size w w'):RW B b bw n w1 w5 v5 w' tv X l:=
 ⟨h.row.below hb,h.set.below hb,h.bel.trans (hb.mono h.bel.size),gP h.sz hb.size,fun j e=>by
  obtain ⟨m1,m2,m3,m4⟩:=h.of j e;exact ⟨m1,gK m2 hb.size,(hb.block j m2).trans m3,m4⟩⟩
end
structure RI (g:Gm) (n X:Nat) (l:List Int):Prop where
 snd:∀ i:Nat,X.testBit i=true→g.Reach i
 todo:∀ s∈l,g.Reach s
 st:X.testBit g.start.toNat=true
 len:l.length+zr X n≤65
def Clo (X:Nat) (r:Int×List Int):Prop:=∀ s∈r.2,X.testBit s.toNat=true
theorem Clo.put {X i:Nat} {r:Int×List Int} (h:Clo X r):Clo (X ||| 2 ^ i) r:=fun s hs=>by rw [eJ,h s hs];rfl
theorem RI.put {g:Gm} {n X i:Nat} {l:List Int} (h:RI g n X l) (hr:g.Reach (i:Int)) (hi:X.testBit i=false) (hn:i<n):RI g n (X ||| 2 ^ i) (l++[(i:Int)]) where
 snd j hj:=by
  rw [eJ,Bool.or_eq_true,decide_eq_true_iff] at hj;rcases hj with hj | rfl
  ·exact h.snd j hj
  ·exact hr
 todo s hs:=by
  rcases yC hs with hs | hs
  ·exact h.todo s hs
  ·rw [gV] at hs;subst hs;exact hr
 st:=by rw [eJ,h.st];rfl
 len:=by
  have:=t7 hi n hn;have:=h.len;rw [gI,gZ];omega
end
section
attribute [local go_sem ↓] aI
theorem rI (G:Nat→Prop) (w:World) (A:Option Addr) (n c:Nat) (l:List Int) (s:Int) (h:aF G w (.slice A n c) l):
  Calls Tryz.prog 41 #[.slice A n c,.int .i64 s] w fun e w'=>e=.returned (.bool (decide (s∈l)))∧w'=w:=by
 have l1:=aH.len h;have HA:=Ha h;have hm:=l1.2;have HL:=Ha l1.1;clear h l1;go_enter Tryz.func41,Tryz.ntmps41;go_wp2
 go_loopw [5] (fun i wr=>∃ (k:Nat),k≤n∧i=.int .i64 k∧s ∉ l.take k∧wr=w) (fun i _=>n-(intOf i).toNat)
 case atStart=>exact ⟨0,by omega,rfl,by simp,rfl⟩
 case round=>
  obtain ⟨k,hk,rfl,hi,rfl⟩:=hrel;by_cases hlt:k<n
  ·have hlt1:k<l.length:=by have:=HL.out;omega
   obtain ⟨b1,o1,rfl,z1⟩:=HA.out.get hlt1;have HI:=Ha (eD hlt1 hi);have HM:=Ha (fun e:l[k]=s=>(e▸gN hlt1:s∈l));clear hi
   revert z1 HI HM
   generalize l[k]=x;intro z1 HI HM;by_cases hx:x=s
   ·have he:=Ha (yD (HM.out hx));have hx2:(x==s)=true:=beq_iff_eq.2 hx;clear hx HI HM;go_wp2_with fail;go_ret;exact ⟨by first | (rw [he.out];done) | (rw [he.out];rfl),by first | rfl | trivial⟩
   ·have he:=Ha (HI.out (Ne.symm hx));have hx2:(x==s)=false:=beq_eq_false_iff_ne.2 hx;clear hx HI HM;go_wp2_with fail
    go_roundw
    case rel=>exact ⟨k+1,by omega,by go_num,he.out,by first | rfl | trivial⟩
    case measure=>simp only [intOf];omega
  ·have he:=Ha (yE (show s ∉ l by rwa [List.take_of_length_le (by have:=HL.out;omega)] at hi));clear hi;go_wp2_with fail;go_ret;exact ⟨by first | (rw [he.out];done) | (rw [he.out];rfl),by first | rfl | trivial⟩
structure LX (l:List Int) (X n:Nat):Prop where
 iff:∀ i:Nat,X.testBit i=true↔(i:Int)∈l
 lt:∀ s∈l,∃ i:Nat,i<n∧s=(i:Int)
 len:l.length+zr X n=n
theorem vY:∀ n,zr 0 n=n
 | 0=>rfl
 | n+1=>by rw [zr,vY n];simp
theorem LX.nil (n:Nat):LX [] 0 n:=⟨fun i=>(by simp),fun s hs=>absurd hs (by simp),(by rw [vY];simp)⟩
theorem LX.put {l:List Int} {X n i:Nat} (h:LX l X n) (hi:(i:Int) ∉ l) (hn:i<n):LX (l++[(i:Int)]) (X ||| 2 ^ i) n where
 iff j:=by
  rw [eJ,Bool.or_eq_true,decide_eq_true_iff,List.mem_append,gV,h.iff j];constructor
  ·rintro (h1 | rfl);exact .inl h1;exact .inr rfl
  ·rintro (h1 | h1);exact .inl h1;exact .inr (by omega)
 lt s hs:=by
  rcases yC hs with hs | hs
  ·exact h.lt s hs
  ·exact ⟨i,hn,List.mem_singleton.1 hs⟩
 len:=by
  have hb:X.testBit i=false:=by
   cases hb:X.testBit i
   ·rfl
   ·exact absurd ((h.iff i).1 hb) hi
  have:=t7 hb n hn;have:=h.len;rw [gI,gZ];omega
theorem LX.nat {l:List Int} {X n:Nat} (h:LX l X n) {s:Int} (hs:0≤s):s∈l↔X.testBit s.toNat=true:=by
 rw [h.iff,show ((s.toNat:Nat):Int)=s by omega]
theorem ES (G:Nat→Prop) (w:World) (vs:List Value) (g:Gm) (us:List Value) (r:Int×List Int) (A':Option Addr) (n' c':Nat) (l:List Int) (X n:Nat)(hG:∀ k,G k→k<w.heap.size) (hg:GmV G w vs g) (hu:RuV G w us r) (hl:g.top≤9223372036854775807) (hv:aF G w (.slice A' n' c') l) (hx:LX l X n):
  Calls Tryz.prog 95 #[ag vs,ag us,.slice A' n' c'] w fun e w'=>e=.returned (.bool (dR g X r))∧Below w.heap.size w w':=by
 obtain ⟨A0,c0,A1,c1,A2,c2,W,ev,hW,⟨x0,x1,x2,x3⟩,HB,HX⟩:=GBox.go hG hg;rw [ev];have HG:=Ha hG;clear hG hg ev;have hu2:=RuV.below HG.out HB.out hu;obtain ⟨A,c,rfl,_,_⟩:=hu.shape;obtain ⟨va,ea,ia⟩:=hu2
 injection ea with _ ea
 injection ea with ea _
 subst ea;have hb:Below W.heap.size W (W.alloc (.cells #[.int .i64 r.1,.slice A r.2.length c] 64)):=(gR _ _).alloc (gO _) _;have q:=aC W (.cells #[.int .i64 r.1,.slice A r.2.length c] 64);obtain ⟨HX1,HI,HLI,HB1⟩:=Zh4 (HX.out.on hb) (aF.below HX.out.old hb ia) (aF.below HX.out.old hb (aF.below HG.out HB.out hv)) (HB.out.trans (hb.mono HB.out.size));show Calls Tryz.prog 95 #[_,.agg #[.int .i64 r.1,.slice A r.2.length c],_] w _;clear x0 x1 x2 x3 ia hu hv;obtain ⟨r1,r2⟩:=r;dsimp only at *;generalize hV:W.alloc (.cells #[.int .i64 r1,.slice A r2.length c] 64)=V at *;have Y0:=Ha (aA q 0 _ rfl);have Y1:=Ha (aA q 1 _ rfl);have h4:=CM G;unfold ag at h4;obtain ⟨H4,HLX,HL⟩:=Zh3 h4 hx hl;have hln:=(aH.len HI.out).2;clear h4 q hb hx hl;go_enter Tryz.func95,Tryz.ntmps95;have y0:=Y0.out;have y1:=Y1.out;go_wp2
 go_loopw [7] (fun i wr=>∃ (k:Nat),k≤r2.length∧i=.int .i64 k∧((r2.drop k).all fun s=>!(decide (g.N s) && !X.testBit s.toNat))=dR g X (r1,r2)∧Below V.heap.size V wr) (fun i _=>r2.length-(intOf i).toNat)
 case atStart=>exact ⟨0,by omega,rfl,rfl,gR _ _⟩
 case round=>
  obtain ⟨k,hk,rfl,hi,hb⟩:=hrel;obtain ⟨HBR,HXR,HIR,HLR⟩:=Zh4 hb (HX1.out.on hb) (aF.below HX1.out.old hb HI.out) (aF.below HX1.out.old hb HLI.out);clear y0 y1;have y1:=aD Y1.out hb;clear hb;obtain ⟨x0,x1,x2,x3⟩:=HXR.out.cells;by_cases hlt:k<r2.length
  ·obtain ⟨bb,off,rfl,z⟩:=HIR.out.get hlt;rw [bD r2 k hlt,List.all_cons] at hi
   revert hi z
   generalize r2[k]=s;intro hi z;have p:=fun Y:Gr wr=>Y.calls (H4.out Y.at_ _ g s (bN HXR.out.old Y.2) (GmV.below HXR.out.old Y.2 HXR.out.gm) HL.out);have q:=fun Y:Gr wr=>Y.calls ((rI G Y.at_ A' n' c' l s (aF.below HXR.out.old Y.2 HLR.out)).mono fun _ w' h=>(⟨h.1,h.2▸gR _ _⟩:_∧Below Y.at_.heap.size Y.at_ w'));have hd:decide (g.N s)=true→decide (s∈l)=X.testBit s.toNat:=fun h=>by
    rw [Bool.eq_iff_iff,decide_eq_true_iff,HLX.out.nat (by have:=of_decide_eq_true h;unfold Gm.N at this;omega)]
   have HD:=Ha hd;have HI2:=Ha hi;have f0:=fun Y:Gr wr=>Y.cell _ _ x0;have f1:=fun Y:Gr wr=>Y.cell _ _ x1;have f2:=fun Y:Gr wr=>Y.cell _ _ x2;have f3:=fun Y:Gr wr=>Y.cell _ _ x3;have fk:=fun Y:Gr wr=>Y.cell _ _ y1;have fj:=fun Y:Gr wr=>Y.cell _ _ z;have hne:Nonempty (Gr wr):=⟨⟨_,gR _ _⟩⟩;clear hd hi
   revert p q HD HI2
   generalize decide (g.N s)=d1;generalize decide (s∈l)=d2;generalize X.testBit s.toNat=d3;intro p q HD HI2;go_wp2_with fail;cases d1
   ·refine aN (S:=Gr wr) Gr.at_ (by kernel_rfl) (by kernel_rfl) (Gr.drew _) ?_;repeat (go_big_quiet_step (first | (with_reducible exact p _) | (with_reducible exact q _)))
    refine wpQuiet_nil ?_;rintro wz ⟨⟨wz',hY⟩,hY2⟩;obtain rfl:wz=wz':=hY2;have HBZ:=Ha (HBR.out.trans (hY.mono HBR.out.size));clear p q f0 f1 f2 f3 fk fj hne hY z x0 x1 x2 x3 y1;go_wp2_with fail
    go_roundw
    case rel=>exact ⟨k+1,by omega,by go_num,HI2.out,HBZ.out⟩
    case measure=>simp only [intOf];omega
   ·refine aN (S:=Gr wr) Gr.at_ (by kernel_rfl) (by kernel_rfl) (Gr.drew _) ?_;repeat (go_big_quiet_step (first | (with_reducible exact p _) | (with_reducible exact q _)))
    refine wpQuiet_nil ?_;rintro wz ⟨⟨wz',hY⟩,hY2⟩;obtain rfl:wz=wz':=hY2;have HBZ:=Ha (HBR.out.trans (hY.mono HBR.out.size));clear p q f0 f1 f2 f3 fk fj hne hY z x0 x1 x2 x3 y1;have hd:=HD.out rfl;subst hd;cases d2
    ·have he:=Ha (show dR g X (r1,r2)=false by rw [← HI2.out];rfl);go_wp2_with fail;go_ret;exact ⟨by first | (rw [he.out];done) | (rw [he.out];rfl),HB1.out.trans (HBZ.out.mono HB1.out.size)⟩
    ·go_wp2_with fail
     go_roundw
     case rel=>exact ⟨k+1,by omega,by go_num,HI2.out,HBZ.out⟩
     case measure=>simp only [intOf];omega
  ·have he:=Ha (show dR g X (r1,r2)=true by rw [← hi,List.drop_eq_nil_of_le (by omega)];rfl);clear hi;go_wp2_with fail;go_ret;exact ⟨by first | (rw [he.out];done) | (rw [he.out];rfl),HB1.out.trans (HBR.out.mono HB1.out.size)⟩
end
theorem aG.keepR {β:Type} {B:Nat} {T:TypeId} {sz:Nat} {R R':List Value→β→Prop} {w:World} {v:Value} {xs:List β} (h:aG B T sz R w v xs) (hR:∀ vs x,R vs x→R' vs x):aG B T sz R' w v xs:=by
 obtain ⟨us,hf,ho⟩:=h;exact ⟨us,nC.mono (fun vs x h=>⟨h.1,hR vs x h.2⟩) hf,ho⟩
def oY (B:Nat) (w:World) (v:Value) (g:Nat):Prop:=B≤g∧g<w.heap.size∧v.ownBlock≠some g
def Rus (B:Nat) (w:World) (v:Value) (l:List (Int×List Int)):Prop:=aG B 64 2 (RuV (oY B w v) w) w v l
theorem Rus.nil (B:Nat) (w:World):Rus B w (.slice none 0 0) []:=aG.nil _ _ _ _ _
theorem Rus.keep {B:Nat} {w w':World} {v:Value} {l:List (Int×List Int)} (h:Rus B w v l) (hk:∀ k,B≤k→k<w.heap.size→w'.heap[k]? = w.heap[k]?) (hs:w.heap.size≤w'.heap.size):Rus B w' v l:=
 (aG.keep h fun g hg=>hk g (aG.lt h hg).1 (aG.lt h hg).2).keepR fun _ _ hr=>hr.keep (fun _ hk=>⟨hk.1,gK hk.2.1 hs,hk.2.2⟩) fun _ hp=>gM (hk _ hp.1 hp.2.1)
theorem Rus.below {B:Nat} {w w':World} {v:Value} {l:List (Int×List Int)} (h:Rus B w v l) (hb:Below w.heap.size w w'):Rus B w' v l:=h.keep (fun k _ hl=>hb.block k hl) hb.size
theorem Rus.at_ {B:Nat} {w:World} {v:Value} {l:List (Int×List Int)} (h:Rus B w v l):cD (fun k=>B≤k∧k<w.heap.size) w v l:=by
 have h2:aG B 64 2 (RuV (fun k=>B≤k∧k<w.heap.size) w) w v l:=aG.keepR h fun _ _ hr=>hr.keep (fun _ hk=>⟨hk.1,hk.2.1⟩) fun _ _=>rfl;exact h2.look fun g hg=>aG.lt h hg
theorem Rus.push {B:Nat} {w wy:World} {v:Value} {l:List (Int×List Int)} {G:Nat→Prop} {vx:Value} (x:Int×List Int) (h:Rus B w v l) (hb:Below w.heap.size w wy) (hx:aH G wy 1 cF vx x.2) (hG:∀ k,G k→w.heap.size≤k∧k<wy.heap.size) (hl:l.length+1≤1099511627776) (hB:B≤w.heap.size):
  ∃ v' w',WrA Tryz.prog #[23,23] 23 #[v,.slice (some ⟨wy.heap.size,0,none⟩) 1 1] (wy.alloc (.cells #[.int .i64 x.1,vx] 64))=.ok v' w'∧Rus B w' v' (l++[x])∧Below B wy w'∧
   (∀ k,k<wy.heap.size→v.ownBlock≠some k→w'.heap[k]? = wy.heap[k]? ∧ v'.ownBlock≠some k):=by
 have hb1:Below wy.heap.size wy (wy.alloc (.cells #[.int .i64 x.1,vx] 64)):=(gR _ _).alloc (gO _) _;have q:=aC wy (.cells #[.int .i64 x.1,vx] 64);have hsz:(wy.alloc (.cells #[.int .i64 x.1,vx] 64)).heap.size=wy.heap.size+1:=by simp
 generalize hW:wy.alloc (.cells #[.int .i64 x.1,vx] 64)=w2 at *;have hb2:Below w.heap.size w w2:=hb.trans (hb1.mono hb.size);have hold:aG B 64 2 (RuV (oY B w2 v) w2) w2 v l:=Rus.below h hb2;have hnew:RuV (oY B w2 v) w2 [.int .i64 x.1,vx] x:=⟨vx,rfl,aH.keep hx (fun k hk=>by
  obtain ⟨h1,h2⟩:=hG k hk;refine ⟨gP hB h1,by omega,fun e=>?_⟩;have:=(aG.lt h e).2;omega) (fun p hp=>gM (hb1.block _ (hG _ hp).2)) fun _ _ h=>h⟩
 have hxs:aH (fun _=>True) w2 2 (RuV (oY B w2 v) w2) (.slice (some ⟨wy.heap.size,0,none⟩) 1 1) [x]:=
  ⟨_,_,rfl,gO _,by unfold maxLen;omega,fun _=>⟨_,_,rfl,trivial,fun i hi=>by
   obtain rfl:i=0:=by simpa using hi
   exact ⟨_,rfl,hnew,fun j u hj=>by simpa using aA q j u (by simpa using hj)⟩⟩⟩
 have hB2:B≤w2.heap.size:=gP hB hb2.size;obtain ⟨v',w',h1,h2,h3,h4⟩:=hold.append 23 Tryz.underlying23 BS rfl (by decide) RuV.one 23 hxs (by simp;omega) (by unfold maxLen;simp;omega) hB2;have hown:∀ k,k<w2.heap.size→v.ownBlock≠some k→v'.ownBlock≠some k:=fun k hk hne e=>by
  rcases h4 with h4 | h4
  ·exact hne (h4▸e)
  ·rw [h4] at e;injection e with e;omega
 refine ⟨v',w',h1,aG.keepR h2 fun _ _ hr=>hr.keep (fun k hk=>⟨hk.1,gK hk.2.1 h3.size,hown k hk.2.1 hk.2.2⟩) fun p hp=>gM (h3.block _ hp.2.1 fun e=>hp.2.2 e.symm), ?_,fun k hk hne=>?_⟩
 ·exact (hb1.mono (gP hB hb.size)).trans ((gR B w2).grown h3 hB2 fun k e=>(aG.lt h e).1)
 ·exact ⟨(h3.block k (by omega) fun e=>hne e.symm).trans (hb1.block k hk),hown k (by omega) hne⟩
theorem cL.push2 {B:Nat} {w:World} {v:Value} {xs:List (List UInt8)} (x:List UInt8) (h:cL B w v xs) (hl:xs.length+1≤1099511627776) (hB:B≤w.heap.size):∃ v' w',WrA Tryz.prog #[22,22] 22 #[v,.slice (some ⟨w.heap.size,0,none⟩) 1 1] (w.alloc (.cells #[bs x] 9))=.ok v' w'∧cL B w' v' (xs++[x])∧Below B w w'∧
  (∀ j,j<w.heap.size→v.ownBlock≠some j→w'.heap[j]? = w.heap[j]? ∧ v'.ownBlock≠some j):=by
 have hb:Below w.heap.size w (w.alloc (.cells #[bs x] 9)):=(gR _ _).alloc (gO _) _;have q:=aC w (.cells #[bs x] 9);have hx:aW (fun _=>True) (w.alloc (.cells #[bs x] 9)) (.slice (some ⟨w.heap.size,0,none⟩) 1 1) [x]:=
  ⟨_,_,rfl,gO _,by unfold maxLen;omega,fun _=>⟨_,_,rfl,trivial,fun i hi=>by
   obtain rfl:i=0:=by simpa using hi
   exact ⟨[bs x],rfl,rfl,fun j u hj=>by simpa using aA q j u (by simpa using hj)⟩⟩⟩
 obtain ⟨v',w',h1,h2,h3,h4⟩:=aG.append 22 Tryz.underlying22 fT rfl (by decide) iT.one 22 (aG.below h hb) hx (by simp;omega) (by unfold maxLen;simp;omega) (gP hB hb.size);refine ⟨v',w',h1,h2,(hb.mono hB).trans ((gR B _).grown h3 (gP hB hb.size) fun k e=>(aG.lt h e).1),fun j hj hne=>⟨(h3.block j (gK hj hb.size) fun e=>hne e.symm).trans (hb.block j hj),fun e=>?_⟩⟩;rcases h4 with h4 | h4
 ·exact hne (h4▸e)
 ·rw [h4] at e;injection e with e;have:=hb.size;omega
def xM (l:List Int) (j:Nat):Int:=if (j:Int)∈l then Gm.pos l j else 0
theorem xN {l:List Int} {m:Nat} (hm:(m:Int) ∉ l) (j:Nat):xM (l++[(m:Int)]) j=if j=m then (l.length:Int)+1 else xM l j:=by
 unfold xM Gm.pos;by_cases e:j=m
 ·subst e;rw [if_pos rfl,if_pos (by simp),List.idxOf_append,if_neg hm,List.idxOf_cons_self];simp
 ·rw [if_neg e];by_cases h:(j:Int)∈l
  ·rw [if_pos (by simp [h]),if_pos h,List.idxOf_append,if_pos h]
  ·have e2:¬(j:Int)=(m:Int):=fun h=>e (by omega);rw [if_neg (by simp [h,e2]),if_neg h]
section
attribute [local go_sem ↓] aI
def cW (l:List Int) (k:Nat):List Int:=((List.range k).map fun (i:Nat)=>(i:Int)+1).filter fun s=>decide (s∈l)
theorem mN (l:List Int) (k:Nat):cW l (k+1)=cW l k++(if (k:Int)+1∈l then [(k:Int)+1] else []):=by
 unfold cW;rw [List.range_succ,List.map_append,List.filter_append]
 congr 1
 by_cases h:(k:Int)+1∈l
 ·simp [h]
 ·simp [h]
theorem kC (l:List Int) (k:Nat):(cW l k).length≤k:=by
 unfold cW;exact gP (List.length_filter_le _ _) (by simp)
theorem oI {l:List Int} {k:Nat} {s:Int}:s∈cW l k↔s∈l∧1≤s∧s≤(k:Int):=by
 unfold cW;rw [List.mem_filter,List.mem_map,decide_eq_true_iff];constructor
 ·rintro ⟨⟨i,hi,rfl⟩,h⟩;rw [List.mem_range] at hi;exact ⟨h,by omega,by omega⟩
 ·rintro ⟨h,h1,h2⟩;exact ⟨⟨(s-1).toNat,List.mem_range.2 (by omega),by omega⟩,h⟩
theorem DI (G:Nat→Prop) (w:World) (vs:List Value) (g:Gm) (A':Option Addr) (n' c':Nat) (l:List Int)(hG:∀ k,G k→k<w.heap.size) (hg:GmV G w vs g) (hl:g.top≤1099511627775) (hv:aF G w (.slice A' n' c') l):
  Calls Tryz.prog 96 #[ag vs,.slice A' n' c'] w fun e w'=>(∃ v,e=.returned v∧aX w.heap.size w' v (cW l g.top))∧Below w.heap.size w w':=by
 obtain ⟨A0,c0,A1,c1,A2,c2,W,ev,hW,⟨x0,x1,x2,x3⟩,HB,HX⟩:=GBox.go hG hg;rw [ev];have HG:=Ha hG;clear hG hg ev;have HL:=Ha (aF.below HG.out HB.out hv);have h3:=vU G;unfold ag at h3;have H3:=Ha h3;clear hv h3;go_enter Tryz.func96,Tryz.ntmps96;go_wp2
 go_loopw [5,6] (fun o i wr=>∃ (k:Nat),k≤g.top∧i=.int .i64 ((k:Int)+1)∧aX W.heap.size wr o (cW l k)∧Below W.heap.size W wr) (fun _ i _=>g.top+1-(intOf i).toNat)
 case atStart=>exact ⟨0,by omega,by simp,aG.nil _ _ _ _ _,gR _ _⟩
 case round=>
  obtain ⟨k,hk,rfl,ho,hb1⟩:=hrel;obtain ⟨Ao,co,rfl⟩:=ho.shape;obtain ⟨HO,HR,HXR⟩:=Zh3 ho hb1 (HX.out.on hb1);clear x0 x1 x2 x3 ho hb1;obtain ⟨x0,x1,x2,x3⟩:=HXR.out.cells;go_wp2_with fail;refine (H3.out _ _ g HXR.out.old HXR.out.gm (by omega)).mono ?_;rintro e w1 ⟨rfl,hb1⟩;obtain ⟨HO1,HR1,HL1⟩:=Zh3 (HO.out.below hb1) (HR.out.trans (hb1.mono HR.out.size)) (aF.below HXR.out.old hb1 (aF.below HX.out.old HR.out HL.out));clear hb1 x0 x1 x2 x3;by_cases hlt:k<g.top
  ·have hle:(k:Int)+1≤(g.top:Int):=by omega
   have HC:=Ha (rI G w1 A' n' c' l ((k:Int)+1) HL1.out);have hsl:=kC l k;by_cases hm:(k:Int)+1∈l
   ·have HSS:=Ha (show cW l (k+1)=cW l k++[(k:Int)+1] by rw [mN,if_pos hm]);rw [yD hm] at HC;obtain ⟨v',w',hrun,ho',hb'⟩:=HO1.out.push ((k:Int)+1) (by omega) HR1.out.size;have HO2:=Ha ho';have HR2:=Ha (HR1.out.trans hb');clear ho' hb' hm;go_wp2_with fail;refine (HC.out).mono ?_;rintro e w2 ⟨rfl,rfl⟩;go_wp2_with fail
    go_roundw
    case rel=>exact ⟨k+1,by omega,by go_num,by rw [HSS.out];exact HO2.out,HR2.out⟩
    case measure=>simp only [intOf];omega
   ·have HSS:=Ha (show cW l (k+1)=cW l k by rw [mN,if_neg hm,List.append_nil]);rw [yE hm] at HC;clear hm;go_wp2_with fail;refine (HC.out).mono ?_;rintro e w2 ⟨rfl,rfl⟩;go_wp2_with fail
    go_roundw
    case rel=>exact ⟨k+1,by omega,by go_num,by rw [HSS.out];exact HO1.out,HR1.out⟩
    case measure=>simp only [intOf];omega
  ·have hgt:¬(k:Int)+1≤(g.top:Int):=by omega
   have HF:=Ha (show aX w.heap.size w1 (.slice Ao (cW l k).length co) (cW l g.top) by
    have hk2:k=g.top:=by omega
    rw [← hk2];exact aG.lower HO1.out HB.out.size)
   go_wp2_with fail;go_ret;exact ⟨⟨_,rfl,HF.out⟩,HB.out.trans (HR1.out.mono HB.out.size)⟩
end
section
attribute [local go_sem ↓] aI
theorem GBox.gmo {G:Nat→Prop} {w:World} {b:Nat} {A0 A1 A2:Option Addr} {c0 c1 c2:Nat} {g:Gm} (h:GBox G w b A0 c0 A1 c1 A2 c2 g):GmV (Old w) w [.slice A0 g.terms.length c0,.slice A1 g.nons.length c1,.slice A2 g.rules.length c2,.int .i64 g.start] g:=
 h.gm.keep (fun k hk=>h.old k hk) fun _ _=>rfl
def lB (w:World) (Q:List Int→Prop) (e:Ending) (w':World):Prop:=(∃ v l,e=.returned v∧aX w.heap.size w' v l∧Q l)∧Below w.heap.size w w'
theorem p7 (G:Nat→Prop) (w:World) (vs:List Value) (g:Gm) (hG:∀ k,G k→k<w.heap.size) (hg:GmV G w vs g) (hw:GW g):
  Calls Tryz.prog 39 #[ag vs] w fun e w'=>lB w (fun l=>l.length≤1000∧∀ s,s∈l↔g.N s∧g.Prod s) e w':=by
 obtain ⟨A0,c0,A1,c1,A2,c2,W,ev,hW,⟨x0,x1,x2,x3⟩,HB,HX⟩:=GBox.go hG hg;rw [ev];have HG:=Ha hG;clear hG hg ev;have h3:=pA G;have h4:=ES;have h5:=DI;unfold ag at h3 h4 h5;obtain ⟨H3,H4,H5,HW⟩:=Zh4 h3 h4 h5 hw;have htop:=hw.top;have hlr:=gP hw.lr (show 300≤1000 by decide);obtain ⟨n,hn⟩:∃ n,n=g.top+1:=⟨_,rfl⟩;have HNN:=Ha hn;have hnb:n≤241:=by omega
 clear h3 h4 h5 hw hn;go_enter Tryz.func39,Tryz.ntmps39;go_wp2_with fail;refine (H3.out _ _ g HX.out.old HX.out.gm HW.out.fit).mono ?_;rintro e w1 ⟨⟨z,rfl,hz⟩,hb1⟩;have hz0:=hz.2 HW.out;subst hz0;clear hz;have HX1:=Ha (HX.out.on hb1);have HB1:=Ha (HB.out.trans (hb1.mono HB.out.size));clear x0 x1 x2 x3 hb1;obtain ⟨x0,x1,x2,x3⟩:=HX1.out.cells;go_wp2
 go_loopw [3,4] (fun o nv wr=>∃ (X:Nat) (l:List Int) (m:Int),nv=.int .i64 m∧aX w1.heap.size wr o l∧LX l X n∧jS g X∧(m=l.length→kP g X)∧Below w1.heap.size w1 wr) (fun o nv _=>2*(n-rY o)+(if intOf nv=rY o then 0 else 1))
 case atStart=>exact ⟨0,[],-1,rfl,aG.nil _ _ _ _ _,LX.nil n,fun i hi=>by simp at hi,fun h=>absurd h (by simp),gR _ _⟩
 case round=>
  obtain ⟨X,l,m,rfl,ho,hlx,hps,hpc,hb1⟩:=hrel;obtain ⟨Ao,co,rfl⟩:=ho.shape;obtain ⟨HO,HLX,HP,HC,HR,HXR⟩:=Zh6 ho hlx hps hpc hb1 (HX1.out.on hb1);have hll:=hlx.len;clear x0 x1 x2 x3 ho hlx hps hpc hb1;obtain ⟨x0,x1,x2,x3⟩:=HXR.out.cells;by_cases hm:m=(l.length:Int)
  ·have hm2:(m != (l.length:Int))=false:=by simpa using hm
   have HIP:=Ha (xF HP.out (HC.out hm));have HS:=Ha (H5.out (Old wr) wr _ g Ao l.length co l (fun _ h=>h) HXR.out.gmo (by omega) HO.out.at_);have hsl:=kC l g.top;have HQ:=Ha (show ∀ s,s∈cW l g.top↔g.N s∧g.Prod s from fun s=>by
    rw [oI];constructor
    ·rintro ⟨h1,h2,h3⟩;have h4:=(HLX.out.nat (show 0≤s by omega)).1 h1;have h5:=HIP.out.1 _ h4
     rwa [show ((s.toNat:Nat):Int)=s by omega] at h5
    ·rintro ⟨h1,h2⟩;have h3:=HIP.out.2 s h1 h2;have h4:1≤s∧s≤(g.top:Int):=by unfold Gm.N at h1;omega
     exact ⟨(HLX.out.nat (by omega)).2 h3,h4⟩)
   clear hm;go_wp2_with fail;refine (HS.out).mono ?_;rintro e w2 ⟨⟨v,rfl,hv⟩,hb2⟩;have HV:=Ha (show aX w.heap.size w2 v (cW l g.top) from aG.lower hv (gP HB1.out.size HR.out.size));have HB2:=Ha (HB1.out.trans ((HR.out.trans (hb2.mono HR.out.size)).mono HB1.out.size));obtain ⟨A9,c9,rfl⟩:=hv.shape;clear hv hb2;go_wp2_with fail;go_ret;exact ⟨⟨_,_,rfl,HV.out,by omega,HQ.out⟩,HB2.out⟩
  ·have hm2:(m != (l.length:Int))=true:=by simpa using hm
   have HM:=Ha hm;clear hm;go_wp2
   go_loopw [3,5] (fun o iv wq=>∃ (k:Nat) (Y:Nat) (l2:List Int),iv=.int .i64 k∧k≤g.rules.length∧aX w1.heap.size wq o l2∧LX l2 Y n∧jS g Y∧l.length≤l2.length∧(l2.length=l.length→∀ r∈g.rules.take k,dR g Y r=true→Y.testBit r.1.toNat=true)∧Below w1.heap.size w1 wq) (fun _ iv _=>g.rules.length-(intOf iv).toNat)
   case atStart=>exact ⟨0,X,l,rfl,by omega,HO.out,HLX.out,HP.out,gO _,fun _=>by simp,HR.out⟩
   case round=>
    obtain ⟨k,Y,l2,rfl,hk,ho,hlx,hps,hle,hcl,hb1⟩:=hrel;obtain ⟨A3,c3,rfl⟩:=ho.shape;obtain ⟨HO2,HLX2,HP2,HCL,HR2,HXk⟩:=Zh6 ho hlx hps hcl hb1 (HX1.out.on hb1);have hll2:=hlx.len;clear x0 x1 x2 x3 ho hlx hps hcl hb1;obtain ⟨x0,x1,x2,x3⟩:=HXk.out.cells;by_cases hlt:k<g.rules.length
    ·obtain ⟨bb,off,Ak,ck,rfl,z0,z1,zi⟩:=HXk.out.rule hlt;have hmem:=gN hlt;have HTK:=Ha (dG hlt);have HKL:=Ha (HW.out.kn.left _ hmem);have HPS:=Ha (fun hf=>tN HW.out.kn HP2.out hmem hf);have hold:=HXk.out.old;have p:=fun Y':Gr wr=>Y'.calls ((rI (Old wr) Y'.at_ A3 l2.length c3 l2 g.rules[k].1 (aF.below (fun _ h=>h) Y'.2 HO2.out.at_)).mono fun _ w' h=>(⟨h.1,h.2▸gR _ _⟩:_∧Below Y'.at_.heap.size Y'.at_ w'));have q:=fun Y':Gr wr=>Y'.calls (H4.out (Old wr) Y'.at_ _ g [.int .i64 g.rules[k].1,.slice Ak g.rules[k].2.length ck] g.rules[k] A3 l2.length c3 l2 Y n (fun j h=>gK h Y'.2.size) (GmV.below (fun _ h=>h) Y'.2 HXk.out.gmo) (RuV.below (fun _ h=>h) Y'.2 ((show RuV G wr _ g.rules[k] from ⟨_,rfl,zi⟩).keep hold (fun _ _=>rfl))) (by omega) (aF.below (fun _ h=>h) Y'.2 HO2.out.at_) HLX2.out);have HTL:=Ha (show (∀ r∈g.rules.take k,dR g Y r=true→Y.testBit r.1.toNat=true)→(dR g Y g.rules[k]=true→Y.testBit g.rules[k].1.toNat=true)→∀ r∈g.rules.take (k+1),dR g Y r=true→Y.testBit r.1.toNat=true from fun h1 h2 r hr hf=>by
      rw [HTK.out,List.mem_append,gV] at hr;rcases hr with hr | rfl
      ·exact h1 r hr hf
      ·exact h2 hf)
     clear hmem zi hold
     revert p q HTL HPS HKL z0 z1
     generalize g.rules[k]=r;obtain ⟨ra,rb⟩:=r;dsimp only;intro z0 z1 HKL HPS p q HTL;obtain ⟨i,rfl⟩:=Int.eq_ofNat_of_zero_le (show 0≤ra by have:=HKL.out;unfold Gm.N at this;omega);have HIN:=Ha (show i<n by have:=HKL.out;unfold Gm.N at this;have:=HNN.out;omega);rw [yB] at HTL HPS;have f0:=fun Y':Gr wr=>Y'.cell _ _ x0;have f1:=fun Y':Gr wr=>Y'.cell _ _ x1;have f2:=fun Y':Gr wr=>Y'.cell _ _ x2;have f3:=fun Y':Gr wr=>Y'.cell _ _ x3;have e0:=fun Y':Gr wr=>Y'.cell _ _ z0;have e1:=fun Y':Gr wr=>Y'.cell _ _ z1;have hne:Nonempty (Gr wr):=⟨⟨_,gR _ _⟩⟩;have HMEM:=Ha (HLX2.out.iff i);obtain ⟨dm,hdm⟩:∃ dm,dm=decide ((i:Int)∈l2):=⟨_,rfl⟩;obtain ⟨df,hdf⟩:∃ df,df=dR g Y ((i:Int),rb):=⟨_,rfl⟩;rw [← hdm] at p;rw [← hdf] at q;have HDM:=Ha hdm;have HDF:=Ha hdf;clear hdm hdf;go_wp2_with fail;cases dm
     ·cases df
      ·refine aN (S:=Gr wr) Gr.at_ (by kernel_rfl) (by kernel_rfl) (Gr.drew _) ?_;repeat (go_big_quiet_step (first | (with_reducible exact p _) | (with_reducible exact q _)))
       refine wpQuiet_nil ?_;rintro wz ⟨⟨wz',hY⟩,hY2⟩;obtain rfl:wz=wz':=hY2;have HOZ:=Ha (HO2.out.below hY);have HRZ:=Ha (HR2.out.trans (hY.mono HR2.out.size));have u0:=aD z0 hY;have HXZ:=Ha (HXk.out.on hY);clear p q f0 f1 f2 f3 e0 e1 hne hY z0 z1 x0 x1 x2 x3;have HN:=Ha (show l2.length=l.length→∀ r∈g.rules.take (k+1),dR g Y r=true→Y.testBit r.1.toNat=true from fun h=>HTL.out (HCL.out h) (fun h2=>by rw [← HDF.out] at h2;cases h2));go_wp2_with fail
       go_roundw
       case rel=>exact ⟨k+1,Y,l2,by go_num,by omega,HOZ.out,HLX2.out,HP2.out,hle,HN.out,HRZ.out⟩
       case measure=>simp only [intOf];omega
      ·refine aN (S:=Gr wr) Gr.at_ (by kernel_rfl) (by kernel_rfl) (Gr.drew _) ?_;repeat (go_big_quiet_step (first | (with_reducible exact p _) | (with_reducible exact q _)))
       refine wpQuiet_nil ?_;rintro wz ⟨⟨wz',hY⟩,hY2⟩;obtain rfl:wz=wz':=hY2;have HOZ:=Ha (HO2.out.below hY);have HRZ:=Ha (HR2.out.trans (hY.mono HR2.out.size));have u0:=aD z0 hY;have HXZ:=Ha (HXk.out.on hY);clear p q f0 f1 f2 f3 e0 e1 hne hY z0 z1 x0 x1 x2 x3;obtain ⟨x0,x1,x2,x3⟩:=HXZ.out.cells;have HNM:=Ha (of_decide_eq_false HDM.out.symm);obtain ⟨v',w',hrun,ho',hb'⟩:=HOZ.out.push (i:Int) (by omega) HRZ.out.size;obtain ⟨HO3,HR3,HLX3,HP3⟩:=Zh4 ho' (HRZ.out.trans hb') (HLX2.out.put HNM.out HIN.out) (HPS.out HDF.out.symm);clear ho' hb';go_wp2_with fail
       go_roundw
       case rel=>exact ⟨k+1,Y ||| 2 ^ i,l2++[(i:Int)],by go_num,by omega,HO3.out,HLX3.out,HP3.out,by rw [gI];omega,fun h=>by rw [gI,gZ] at h;omega,HR3.out⟩
       case measure=>simp only [intOf];omega
     ·refine aN (S:=Gr wr) Gr.at_ (by kernel_rfl) (by kernel_rfl) (Gr.drew _) ?_;repeat (go_big_quiet_step (first | (with_reducible exact p _) | (with_reducible exact q _)))
      refine wpQuiet_nil ?_;rintro wz ⟨⟨wz',hY⟩,hY2⟩;obtain rfl:wz=wz':=hY2;have HOZ:=Ha (HO2.out.below hY);have HRZ:=Ha (HR2.out.trans (hY.mono HR2.out.size));have u0:=aD z0 hY;have HXZ:=Ha (HXk.out.on hY);clear p q f0 f1 f2 f3 e0 e1 hne hY z0 z1 x0 x1 x2 x3;have HN:=Ha (show l2.length=l.length→∀ r∈g.rules.take (k+1),dR g Y r=true→Y.testBit r.1.toNat=true from fun h=>HTL.out (HCL.out h) (fun _=>HMEM.out.2 (of_decide_eq_true HDM.out.symm)));go_wp2_with fail
      go_roundw
      case rel=>exact ⟨k+1,Y,l2,by go_num,by omega,HOZ.out,HLX2.out,HP2.out,hle,HN.out,HRZ.out⟩
      case measure=>simp only [intOf];omega
    ·have HF:=Ha (show (l.length:Int)=l2.length→kP g Y from fun h r hr=>HCL.out (by omega) r (by rw [List.take_of_length_le (by omega)];exact hr));go_wp2_with fail
     go_roundw
     case rel=>exact ⟨Y,l2,l.length,rfl,HO2.out,HLX2.out,HP2.out,HF.out,HR2.out⟩
     case measure=>
      show 2*(n-l2.length)+(if (l.length:Int)=(l2.length:Int) then 0 else 1)<2*(n-l.length)+(if m=(l.length:Int) then 0 else 1);rw [if_neg HM.out]
      split <;> omega
end
end Go.Proofs.YtpidmmfjcghmeaaGreat
