/- Towards clashesWhole_upto. -/
import Derived.Test.YtpidmmfjcghmeaaGreatCs15
import Derived.Deep.DeepCutAuto
import Derived.Deep.RegionHeld3
import Derived.Deep.RegionWith
set_option maxRecDepth 100000
set_option maxHeartbeats 16000000
set_option linter.all false
namespace Go.Proofs.YtpidmmfjcghmeaaGreat
open Go.RowKit
section
attribute [local go_sem ↓] aI
def wB (X:Nat) (r:Int×List Int):Prop:=X.testBit r.1.toNat=true→Clo X r
theorem LX.one {i n:Nat} (h:i<n):LX [(i:Int)] (2 ^ i) n:=by
 have:=(LX.nil n).put (i:=i) (by simp) h
 rwa [Nat.zero_or] at this
theorem G8 (G:Nat→Prop) (w:World) (vs:List Value) (g:Gm) (hG:∀ k,G k→k<w.heap.size) (hg:GmV G w vs g) (hk:g.Known) (hlr:g.rules.length≤1000) (hlx:∀ r∈g.rules,r.2.length≤1000) (hl:g.top≤1000):
  Calls Tryz.prog 97 #[ag vs] w fun e w'=>lB w (fun l=>l.length≤1000∧∀ s,s∈l↔g.Reach s) e w':=by
 obtain ⟨A0,c0,A1,c1,A2,c2,W,ev,hW,⟨x0,x1,x2,x3⟩,HB,HX⟩:=GBox.go hG hg;rw [ev];have HG:=Ha hG;clear hG hg ev;have h4:=rI;have h5:=DI;unfold ag at h5;obtain ⟨H4,H5,HK,HLX⟩:=Zh4 h4 h5 hk hlx;obtain ⟨n,hn⟩:∃ n,n=g.top+1:=⟨_,rfl⟩;have HNN:=Ha hn;have hnb:n≤1001:=by omega
 obtain ⟨i0,hi0⟩:∃ i0:Nat,g.start=(i0:Int):=by
  have:=hk.st;unfold Gm.N at this;exact ⟨g.start.toNat,by omega⟩
 have hi0l:i0<n:=by have:=hk.st;unfold Gm.N at this;omega
 have hbv:Below W.heap.size W (W.alloc (.cells #[.int .i64 g.start] 3)):=(gR _ _).alloc (gO _) _;have q:=aC W (.cells #[.int .i64 g.start] 3);have hrow:aX W.heap.size (W.alloc (.cells #[.int .i64 g.start] 3)) (.slice (some ⟨W.heap.size,0,none⟩) 1 1) [g.start]:=
  ⟨[[.int .i64 g.start]],⟨⟨rfl,rfl⟩,trivial⟩,rfl,.inr ⟨W.heap.size,1,#[.int .i64 g.start],rfl,gO _,q,gO _,by unfold maxLen;omega,rfl,rfl⟩⟩
 obtain ⟨HROW,HV,HLX0,HI0⟩:=Zh4 hrow hbv (show LX [g.start] (2 ^ i0) n by rw [hi0];exact LX.one hi0l) hi0;generalize hV:W.alloc (.cells #[.int .i64 g.start] 3)=V at *;clear h4 h5 hk hlx hn hi0 hi0l hbv q hrow;go_enter Tryz.func97,Tryz.ntmps97;go_wp2
 go_loopw [3,4] (fun o nv wr=>∃ (X:Nat) (l:List Int) (m:Int),nv=.int .i64 m∧aX W.heap.size wr o l∧LX l X n∧(∀ i:Nat,X.testBit i=true→g.Reach i)∧X.testBit g.start.toNat=true∧(m=l.length→∀ r∈g.rules,wB X r)∧Below W.heap.size W wr) (fun o nv _=>2*(n-rY o)+(if intOf nv=rY o then 0 else 1))
 case atStart=>exact ⟨2 ^ i0,[g.start],0,rfl,HROW.out,HLX0.out,fun i hi=>by
   rw [Nat.testBit_two_pow,decide_eq_true_iff] at hi;subst hi;rw [← HI0.out];exact .start,by rw [HI0.out,yB];exact Nat.testBit_two_pow_self,fun h=>absurd h (by simp),HV.out⟩
 case round=>
  obtain ⟨X,l,m,rfl,ho,hlx,hre,hst,hpc,hb1⟩:=hrel;obtain ⟨Ao,co,rfl⟩:=ho.shape;obtain ⟨HO,HLX1,HRE,HST,HC,HR,HXR⟩:=Zh7 ho hlx hre hst hpc hb1 (HX.out.on hb1);have hll:=hlx.len;clear x0 x1 x2 x3 ho hlx hre hst hpc hb1;obtain ⟨x0,x1,x2,x3⟩:=HXR.out.cells;by_cases hm:m=(l.length:Int)
  ·have hm2:(m != (l.length:Int))=false:=by simpa using hm
   have HIR:=Ha (tG HRE.out HST.out (fun r hr h=>HC.out hm r hr h));have HS:=Ha (H5.out (Old wr) wr _ g Ao l.length co l (fun _ h=>h) HXR.out.gmo (by omega) HO.out.at_);have hsl:=kC l g.top;have HQ:=Ha (show ∀ s,s∈cW l g.top↔g.Reach s from fun s=>by
    rw [oI];constructor
    ·rintro ⟨h1,h2,h3⟩;have h4:=(HLX1.out.nat (show 0≤s by omega)).1 h1;have h5:=HIR.out.1 _ h4
     rwa [show ((s.toNat:Nat):Int)=s by omega] at h5
    ·intro h1;have h3:=HIR.out.2 s h1;have h4:=Gm.mem_T_le (h1.sym HK.out);exact ⟨(HLX1.out.nat (by omega)).2 h3,h4⟩)
   clear hm;go_wp2_with fail;refine (HS.out).mono ?_;rintro e w2 ⟨⟨v,rfl,hv⟩,hb2⟩;have HV2:=Ha (show aX w.heap.size w2 v (cW l g.top) from aG.lower hv (gP HB.out.size HR.out.size));have HB2:=Ha (HB.out.trans ((HR.out.trans (hb2.mono HR.out.size)).mono HB.out.size));obtain ⟨A9,c9,rfl⟩:=hv.shape;clear hv hb2;go_wp2_with fail;go_ret;exact ⟨⟨_,_,rfl,HV2.out,by omega,HQ.out⟩,HB2.out⟩
  ·have hm2:(m != (l.length:Int))=true:=by simpa using hm
   have HM:=Ha hm;clear hm;go_wp2
   go_loopw [3,5] (fun o iv wq=>∃ (k:Nat) (Y:Nat) (l2:List Int),iv=.int .i64 k∧k≤g.rules.length∧aX W.heap.size wq o l2∧LX l2 Y n∧(∀ i:Nat,Y.testBit i=true→g.Reach i)∧Y.testBit g.start.toNat=true∧l.length≤l2.length∧(l2.length=l.length→∀ r∈g.rules.take k,wB Y r)∧Below W.heap.size W wq) (fun _ iv _=>g.rules.length-(intOf iv).toNat)
   case atStart=>exact ⟨0,X,l,rfl,by omega,HO.out,HLX1.out,HRE.out,HST.out,gO _,fun _=>by simp,HR.out⟩
   case round=>
    obtain ⟨k,Y,l2,rfl,hk,ho,hlx,hre,hst,hle,hcl,hb1⟩:=hrel;obtain ⟨A3,c3,rfl⟩:=ho.shape;obtain ⟨HO2,HLX2,HRE2,HST2,HCL,HR2,HXk⟩:=Zh7 ho hlx hre hst hcl hb1 (HX.out.on hb1);have hll2:=hlx.len;clear x0 x1 x2 x3 ho hlx hre hst hcl hb1;obtain ⟨x0,x1,x2,x3⟩:=HXk.out.cells;by_cases hlt:k<g.rules.length
    ·obtain ⟨bb,off,Ak,ck,rfl,_,zw0,zw1,zwi⟩:=cD.at_ HX.out.hr hlt;have HTK:=Ha (dG hlt);have HMEM:=Ha (gN hlt);obtain ⟨HRL,HZ0,HZ1,HZI⟩:=Zh4 (HLX.out _ HMEM.out) zw0 zw1 zwi;clear zw0 zw1 zwi
     revert HZI HTK HMEM HRL HZ0 HZ1
     generalize g.rules[k]=r;obtain ⟨ra,rb⟩:=r;dsimp only;intro HTK HMEM HRL HZ0 HZ1 HZI;have hrl:=HRL.out;have HRA:=Ha (show 0≤ra by have:=HK.out.left _ HMEM.out;unfold Gm.N at this;omega);have z0:=aD HZ0.out HR2.out;have z1:=aD HZ1.out HR2.out;go_wp2
     go_loopw [3,6] (fun o iv wz=>∃ (j:Nat) (Z:Nat) (l3:List Int),iv=.int .i64 j∧j≤rb.length∧aX W.heap.size wz o l3∧LX l3 Z n∧(∀ i:Nat,Z.testBit i=true→g.Reach i)∧Z.testBit g.start.toNat=true∧l.length≤l3.length∧(l3.length=l.length→(∀ r∈g.rules.take k,wB Z r)∧∀ s∈rb.take j,Z.testBit s.toNat=true)∧Below W.heap.size W wz) (fun _ iv _=>rb.length-(intOf iv).toNat)
     case atStart=>exact ⟨0,Y,l2,rfl,by omega,HO2.out,HLX2.out,HRE2.out,HST2.out,hle,fun h=>⟨HCL.out h,by simp⟩,HR2.out⟩
     case round=>
      obtain ⟨j,Z,l3,rfl,hj,ho,hlx,hre,hst,hle3,hcl,hb1⟩:=hrel;obtain ⟨A5,c5,rfl⟩:=ho.shape;obtain ⟨HO3,HLX3,HRE3,HST3,HCL3,HR3,HXz⟩:=Zh7 ho hlx hre hst hcl hb1 (HX.out.on hb1);have hll3:=hlx.len;clear x0 x1 x2 x3 ho hlx hre hst hcl z0 z1;obtain ⟨x0,x1,x2,x3⟩:=HXz.out.cells;have z0:=aD HZ0.out hb1;have z1:=aD HZ1.out hb1;have hzi:=aF.below HX.out.old hb1 HZI.out;clear hb1;by_cases hjl:j<rb.length
      ·obtain ⟨b6,o6,rfl,z6⟩:=aF.get hzi hjl;have hmem:=gN hjl;obtain ⟨si,hsi⟩:∃ si:Nat,rb[j]=(si:Int):=by
        rcases HK.out.right _ HMEM.out _ hmem with h | h
        ·unfold Gm.T at h;exact ⟨rb[j].toNat,by omega⟩
        ·unfold Gm.N at h;exact ⟨rb[j].toNat,by omega⟩
       have hsn:si<n:=by
        have h2:=Gm.mem_T_le (HK.out.right _ HMEM.out _ hmem);have:=HNN.out;omega
       have HTJ:=Ha (dG hjl);have HSTEP:=Ha (show g.Reach ra→g.Reach (si:Int) from fun h=>hsi▸Gm.Reach.step HMEM.out h hmem);rw [hsi] at z6 HTJ;obtain ⟨HD1,HD2,HM1,HM2⟩:=Zh4 (H4.out (Old wr) wr A5 l3.length c5 l3 ra HO3.out.at_) (H4.out (Old wr) wr A5 l3.length c5 l3 (si:Int) HO3.out.at_) (HLX3.out.nat HRA.out) (HLX3.out.iff si);clear hmem hsi hzi;by_cases h1:ra∈l3
       ·rw [yD h1] at HD1;have HA:=Ha h1;clear h1;go_wp2_with fail;refine (HD1.out).mono ?_;rintro e w5 ⟨rfl,rfl⟩;by_cases h2:(si:Int)∈l3
        ·rw [yD h2] at HD2;have HA2:=Ha h2;clear h2;go_wp2_with fail;refine (HD2.out).mono ?_;rintro e w6 ⟨rfl,rfl⟩;go_wp2_with fail
         go_roundw
         case rel=>
          refine ⟨j+1,Z,l3,by go_num,by omega,HO3.out,HLX3.out,HRE3.out,HST3.out,hle3,fun h=>⟨(HCL3.out h).1,fun s hs=>?_⟩,HR3.out⟩;rw [HTJ.out,List.mem_append,gV] at hs;rcases hs with hs | rfl
          ·exact (HCL3.out h).2 s hs
          ·rw [yB];exact HM2.out.2 HA2.out
         case measure=>simp only [intOf];omega
        ·rw [yE h2] at HD2;have HA2:=Ha h2;clear h2;obtain ⟨v',w',hrun,ho',hb'⟩:=HO3.out.push (si:Int) (by omega) HR3.out.size;have HO7:=Ha ho';have HR7:=Ha (HR3.out.trans hb');have HLX7:=Ha (HLX3.out.put HA2.out hsn);have HRS:=Ha (HSTEP.out (by
          have h5:=HRE3.out _ (HM1.out.1 HA.out);have h6:=HRA.out
          rwa [show ((ra.toNat:Nat):Int)=ra by omega] at h5))
         clear ho' hb';go_wp2_with fail;refine (HD2.out).mono ?_;rintro e w6 ⟨rfl,rfl⟩;go_wp2_with fail
         go_roundw
         case rel=>
          refine ⟨j+1,Z ||| 2 ^ si,l3++[(si:Int)],by go_num,by omega,HO7.out,HLX7.out,fun i hi=>?_,by rw [eJ,HST3.out];rfl,by rw [gI];omega,fun h=>by rw [gI,gZ] at h;omega,HR7.out⟩;rw [eJ,Bool.or_eq_true,decide_eq_true_iff] at hi;rcases hi with hi | rfl
          ·exact HRE3.out i hi
          ·exact HRS.out
         case measure=>simp only [intOf];omega
       ·rw [yE h1] at HD1;have HCN:=Ha (show l3.length=l.length→∀ r∈g.rules.take (k+1),wB Z r from fun h r hr=>by
         rw [HTK.out,List.mem_append,gV] at hr;rcases hr with hr | rfl
         ·exact (HCL3.out h).1 r hr
         ·exact fun hb=>absurd (HM1.out.2 hb) h1)
        clear h1;go_wp2_with fail;refine (HD1.out).mono ?_;rintro e w5 ⟨rfl,rfl⟩;go_wp2_with fail
        go_roundw
        case rel=>exact ⟨k+1,Z,l3,by go_num,by omega,HO3.out,HLX3.out,HRE3.out,HST3.out,hle3,HCN.out,HR3.out⟩
        case measure=>simp only [intOf];omega
      ·have HCN:=Ha (show l3.length=l.length→∀ r∈g.rules.take (k+1),wB Z r from fun h r hr=>by
        rw [HTK.out,List.mem_append,gV] at hr;rcases hr with hr | rfl
        ·exact (HCL3.out h).1 r hr
        ·exact fun _ s hs=>(HCL3.out h).2 s (by rw [List.take_of_length_le (by omega)];exact hs))
       clear hzi;go_wp2_with fail
       go_roundw
       case rel=>exact ⟨k+1,Z,l3,by go_num,by omega,HO3.out,HLX3.out,HRE3.out,HST3.out,hle3,HCN.out,HR3.out⟩
       case measure=>simp only [intOf];omega
    ·have HF:=Ha (show (l.length:Int)=l2.length→∀ r∈g.rules,wB Y r from fun h r hr=>HCL.out (by omega) r (by rw [List.take_of_length_le (by omega)];exact hr));go_wp2_with fail
     go_roundw
     case rel=>exact ⟨Y,l2,l.length,rfl,HO2.out,HLX2.out,HRE2.out,HST2.out,HF.out,HR2.out⟩
     case measure=>
      show 2*(n-l2.length)+(if (l.length:Int)=(l2.length:Int) then 0 else 1)<2*(n-l.length)+(if m=(l.length:Int) then 0 else 1);rw [if_neg HM.out]
      split <;> omega
end
theorem GW.lens {g:Gm} (h:GW g):g.rules.length≤1000∧(∀ r∈g.rules,r.2.length≤1000)∧g.top≤1000:=
 ⟨gP h.lr (by decide),fun r hr=>gP (h.lx r hr) (by decide),gP h.top.1 (by decide)⟩
theorem xT (G:Nat→Prop) (w:World) (vs:List Value) (g:Gm) (hG:∀ k,G k→k<w.heap.size) (hg:GmV G w vs g) (hw:GW g):
  Calls Tryz.prog 40 #[ag vs] w fun e w'=>lB w (fun l=>l.length≤1000∧∀ s,s∈l↔g.Reach s) e w':=by
 obtain ⟨A0,c0,A1,c1,A2,c2,W,ev,hW,⟨x0,x1,x2,x3⟩,HB,HX⟩:=GBox.go hG hg;rw [ev];have HG:=Ha hG;clear hG hg ev;have h3:=pA G;have h4:=G8 G;unfold ag at h3 h4;obtain ⟨H3,H4,HW⟩:=Zh3 h3 h4 hw;clear h3 h4 hw;go_enter Tryz.func40,Tryz.ntmps40;go_wp2_with fail;refine (H3.out _ _ g HX.out.old HX.out.gm HW.out.fit).mono ?_;rintro e w1 ⟨⟨z,rfl,hz⟩,hb1⟩;have hz0:=hz.2 HW.out;subst hz0;clear hz;have HX1:=Ha (HX.out.on hb1);have HB1:=Ha (HB.out.trans (hb1.mono HB.out.size));clear x0 x1 x2 x3 hb1;obtain ⟨x0,x1,x2,x3⟩:=HX1.out.cells;go_wp2_with fail;refine (H4.out _ _ g HX1.out.old HX1.out.gm HW.out.kn HW.out.lens.1 HW.out.lens.2.1 HW.out.lens.2.2).mono ?_;rintro e w2 hp;obtain ⟨⟨v,l,rfl,hv,hq⟩,hb2⟩:=hp;obtain ⟨A,c,rfl⟩:=hv.shape;obtain ⟨HV,HQ,HB2⟩:=Zh3 (show aX w.heap.size w2 (.slice A l.length c) l from aG.lower hv HB1.out.size) hq (HB1.out.trans (hb2.mono HB1.out.size));clear hv hq hb2 x0 x1 x2 x3;go_wp2_with fail;go_ret;exact ⟨⟨_,l,rfl,HV.out,HQ.out⟩,HB2.out⟩
def zA (g:Gm):Prop:=GW g∧∀ s,g.T s∨g.N s→g.Reach s∧(g.N s→g.Prod s)
def wA (g:Gm) (w:World) (e:Ending) (w':World):Prop:=(∃ n s:Int,e=.returned (.tuple #[.int .i64 n,.int .i64 s])∧(n=0↔zA g))∧Below w.heap.size w w'
theorem AC (G:Nat→Prop) (w:World) (vs:List Value) (g:Gm) (hG:∀ k,G k→k<w.heap.size) (hg:GmV G w vs g) (hf:g.Fit):
  Calls Tryz.prog 13 #[ag vs] w fun e w'=>wA g w e w':=by
 obtain ⟨A0,c0,A1,c1,A2,c2,W,ev,hW,⟨x0,x1,x2,x3⟩,HB,HX⟩:=GBox.go hG hg;rw [ev];have HG:=Ha hG;clear hG hg ev;have h3:=pA G;have h4:=rI;have h5:=vU G;have h6:=CM G;unfold ag at h3 h5 h6;have H3:=Ha h3;have H4:=Ha h4;have H5:=Ha h5;have H6:=Ha h6;have HF:=Ha hf;have htf:g.top≤9223372036854775807:=by have:=hf.lt;have:=hf.ln;unfold Gm.top;omega
 have HTF:=Ha htf;clear h3 h4 h5 h6 hf htf;go_enter Tryz.func13,Tryz.ntmps13;go_wp2_with fail;refine (H3.out _ _ g HX.out.old HX.out.gm HF.out).mono ?_;rintro e w1 ⟨⟨z,rfl,hz⟩,hb1⟩;have HZ:=Ha hz;clear hz;have HX1:=Ha (HX.out.on hb1);have HB1:=Ha (HB.out.trans (hb1.mono HB.out.size));clear x0 x1 x2 x3 hb1;obtain ⟨x0,x1,x2,x3⟩:=HX1.out.cells;by_cases hz0:z=0
 case neg=>
  have HN:=Ha (show z=0↔zA g from ⟨fun h=>absurd h hz0,fun h=>HZ.out.2 h.1⟩);have hz1:(z != 0)=true:=by simpa using hz0
  go_wp2_with fail;refine bodyPost_ret (v:=.tuple #[.int .i64 z,.int .i64 0]) (by simp [results,Tryz.results13,go_sem]) rfl ?_;exact ⟨⟨z,0,rfl,HN.out⟩,HB1.out⟩
 have hw:=HZ.out.1 hz0;subst hz0;have HW:=Ha hw;have FP:=Ha (show ∀ X,Below w1.heap.size w1 X→Calls Tryz.prog 39 #[.agg #[.slice A0 g.terms.length c0,.slice A1 g.nons.length c1,.slice A2 g.rules.length c2,.int .i64 g.start]] X fun e w'=>∃ v l,e=.returned v∧aX w1.heap.size w' v l∧(∀ s,s∈l↔g.N s∧g.Prod s)∧Below w1.heap.size w1 w'∧Below X.heap.size X w' from fun X hX=>
  (p7 G X _ g (HX1.out.on hX).old (HX1.out.on hX).gm hw).mono fun e w' hp=>by
   obtain ⟨⟨v,l,rfl,hv,hq⟩,hb⟩:=hp;exact ⟨v,l,rfl,aG.lower hv hX.size,hq.2,hX.trans (hb.mono hX.size),hb⟩)
 have FQ:=Ha (show ∀ X,Below w1.heap.size w1 X→Calls Tryz.prog 40 #[.agg #[.slice A0 g.terms.length c0,.slice A1 g.nons.length c1,.slice A2 g.rules.length c2,.int .i64 g.start]] X fun e w'=>∃ v l,e=.returned v∧aX w1.heap.size w' v l∧(∀ s,s∈l↔g.Reach s)∧Below w1.heap.size w1 w'∧Below X.heap.size X w' from fun X hX=>
  (xT G X _ g (HX1.out.on hX).old (HX1.out.on hX).gm hw).mono fun e w' hp=>by
   obtain ⟨⟨v,l,rfl,hv,hq⟩,hb⟩:=hp;exact ⟨v,l,rfl,aG.lower hv hX.size,hq.2,hX.trans (hb.mono hX.size),hb⟩)
 have HS:=Ha (fun X (hX:Below w1.heap.size w1 X)=>(HX1.out.on hX).cells);clear hw;go_wp2_with fail;have R0:=Ha (show Below w1.heap.size w1 w1.drew from (gR _ _).drew)
 go_cut [5,6] (fun v5 v6 wx=>Below w1.heap.size w1 wx∧(∃ l,aX w1.heap.size wx v5 l∧∀ s,s∈l↔g.N s∧g.Prod s)∧∃ l,aX w1.heap.size wx v6 l∧∀ s,s∈l↔g.Reach s)
 case first=>
  go_region_held3 (fun X=>X.cell? ⟨w.heap.size,0,none⟩=some (.slice A0 g.terms.length c0)∧X.cell? ⟨w.heap.size,1,none⟩=some (.slice A1 g.nons.length c1)∧X.cell? ⟨w.heap.size,2,none⟩=some (.slice A2 g.rules.length c2)∧X.cell? ⟨w.heap.size,3,none⟩=some (.int .i64 g.start))
   (exact HS.out _ (by first | exact bQ | exact bP | exact R0.out))
   (first
    | (go_at_call 39
       refine Calls.mono (FP.out _ (by first | exact bQ | exact R0.out)) ?_;rintro e wP ⟨vP, lP, rfl, rP, qP, bP, bP'⟩;dsimp only)
    | (go_at_call 40
       refine Calls.mono (FQ.out _ (by first | exact bP | exact R0.out)) ?_;rintro e wQ ⟨vQ, lQ, rfl, rQ, qQ, bQ, bQ'⟩;dsimp only))
  all_goals
   go_wp2_with fail
   go_meet
   first
    | exact ⟨bQ,⟨lP,rP.below bQ',qP⟩,lQ,rQ,qQ⟩
    | exact ⟨bP,⟨lP,rP,qP⟩,lQ,rQ.below bP',qQ⟩
 case rest=>
  obtain ⟨bc,⟨l5,i5,q5⟩,l6,i6,q6⟩:=hcut;obtain ⟨A5,c5,rfl⟩:=i5.shape;obtain ⟨A6,c6,rfl⟩:=i6.shape;obtain ⟨HX2,HB2,HI5,HI6,HQ5,HQ6⟩:=Zh6 (HX1.out.on bc) (HB1.out.trans (bc.mono HB1.out.size)) i5.at_ i6.at_ q5 q6;have htop:=HW.out.top.1;have HSY:=Ha (show ∀ s:Int,1≤s→s≤(g.top:Int)→g.T s∨g.N s from fun s h1 h2=>by unfold Gm.T Gm.N;omega);clear bc i5 i6 q5 q6 x0 x1 x2 x3;obtain ⟨x0,x1,x2,x3⟩:=HX2.out.cells;go_wp2
  go_loopw [7] (fun iv wr=>∃ (k:Nat),k≤g.top∧iv=.int .i64 ((k:Int)+1)∧(∀ s:Int,1≤s→s≤(k:Int)→g.Reach s∧(g.N s→g.Prod s))∧Below wc.heap.size wc wr) (fun iv _=>g.top+1-(intOf iv).toNat)
  case atStart=>exact ⟨0,by omega,by simp,fun s h1 h2=>by omega,gR _ _⟩
  case round=>
   obtain ⟨k,hk,rfl,hi,hb1⟩:=hrel;obtain ⟨HI,HR,HXR⟩:=Zh3 hi hb1 (HX2.out.on hb1);clear x0 x1 x2 x3 hi hb1;obtain ⟨x0,x1,x2,x3⟩:=HXR.out.cells;go_wp2_with fail;refine (H5.out _ _ g HXR.out.old HXR.out.gm HTF.out).mono ?_;rintro e w3 ⟨rfl,hb1⟩;have HR3:=Ha (HR.out.trans (hb1.mono HR.out.size));have HXS:=Ha (HXR.out.on hb1);clear x0 x1 x2 x3 hb1;obtain ⟨x0,x1,x2,x3⟩:=HXS.out.cells;by_cases hlt:k<g.top
   ·have hle:(k:Int)+1≤(g.top:Int):=by omega
    have HD6:=Ha (H4.out (Old wc) w3 A6 l6.length c6 l6 ((k:Int)+1) (aF.below (fun _ h=>h) HR3.out HI6.out));have HS1:=Ha (HSY.out ((k:Int)+1) (by omega) hle);by_cases h1:(k:Int)+1∈l6
    ·rw [yD h1] at HD6;have HRE:=Ha ((HQ6.out _).1 h1);clear h1;go_wp2_with fail;refine (HD6.out).mono ?_;rintro e w4 ⟨rfl,rfl⟩;have HC6:=Ha (H6.out _ _ g ((k:Int)+1) HXS.out.old HXS.out.gm HTF.out);by_cases h2:g.N ((k:Int)+1)
     ·rw [yD h2] at HC6;have HN2:=Ha h2;clear h2;go_wp2_with fail;refine (HC6.out).mono ?_;rintro e w5 ⟨rfl,hb1⟩;have HR5:=Ha (HR3.out.trans (hb1.mono HR3.out.size));have HD5:=Ha (H4.out (Old wc) w5 A5 l5.length c5 l5 ((k:Int)+1) (aF.below (fun _ h=>h) HR5.out HI5.out));clear x0 x1 x2 x3 hb1;by_cases h3:(k:Int)+1∈l5
      ·rw [yD h3] at HD5;have HG1:=Ha (show g.Reach ((k:Int)+1)∧(g.N ((k:Int)+1)→g.Prod ((k:Int)+1)) from ⟨HRE.out,fun _=>((HQ5.out _).1 h3).2⟩);clear h3;go_wp2_with fail;refine (HD5.out).mono ?_;rintro e w6 ⟨rfl,rfl⟩;go_wp2_with fail
       go_roundw
       case rel=>
        refine ⟨k+1,by omega,by go_num,fun s h1 h2=>?_,HR5.out⟩;by_cases h3:s=(k:Int)+1
        ·rw [h3];exact HG1.out
        ·exact HI.out s h1 (by omega)
       case measure=>simp only [intOf];omega
      ·rw [yE h3] at HD5;have HN:=Ha (show (11:Int)=0↔zA g from ⟨fun h=>absurd h (by decide),fun h=>absurd ((HQ5.out _).2 ⟨HN2.out,(h.2 _ HS1.out).2 HN2.out⟩) h3⟩);clear h3;go_wp2_with fail;refine (HD5.out).mono ?_;rintro e w6 ⟨rfl,rfl⟩;go_wp2_with fail;refine bodyPost_ret (v:=.tuple #[.int .i64 11,.int .i64 ((k:Int)+1)]) (by simp [results,Tryz.results13,go_sem]) rfl ?_;exact ⟨⟨11,(k:Int)+1,rfl,HN.out⟩,HB2.out.trans (HR5.out.mono HB2.out.size)⟩
     ·rw [yE h2] at HC6;have HG1:=Ha (show g.Reach ((k:Int)+1)∧(g.N ((k:Int)+1)→g.Prod ((k:Int)+1)) from ⟨HRE.out,fun h=>absurd h h2⟩);clear h2;go_wp2_with fail;refine (HC6.out).mono ?_;rintro e w5 ⟨rfl,hb1⟩;have HR5:=Ha (HR3.out.trans (hb1.mono HR3.out.size));clear x0 x1 x2 x3 hb1;go_wp2_with fail
      go_roundw
      case rel=>
       refine ⟨k+1,by omega,by go_num,fun s h1 h2=>?_,HR5.out⟩;by_cases h3:s=(k:Int)+1
       ·rw [h3];exact HG1.out
       ·exact HI.out s h1 (by omega)
      case measure=>simp only [intOf];omega
    ·rw [yE h1] at HD6;have HN:=Ha (show (11:Int)=0↔zA g from ⟨fun h=>absurd h (by decide),fun h=>absurd ((HQ6.out _).2 (h.2 _ HS1.out).1) h1⟩);clear h1;go_wp2_with fail;refine (HD6.out).mono ?_;rintro e w4 ⟨rfl,rfl⟩;go_wp2_with fail;refine bodyPost_ret (v:=.tuple #[.int .i64 11,.int .i64 ((k:Int)+1)]) (by simp [results,Tryz.results13,go_sem]) rfl ?_;exact ⟨⟨11,(k:Int)+1,rfl,HN.out⟩,HB2.out.trans (HR3.out.mono HB2.out.size)⟩
   ·have hgt:¬(k:Int)+1≤(g.top:Int):=by omega
    have HL:=Ha (show zA g from ⟨HW.out,fun s hs=>HI.out s (Gm.mem_T_le hs).1 (by have:=(Gm.mem_T_le hs).2;omega)⟩);go_wp2_with fail;refine bodyPost_ret (v:=.tuple #[.int .i64 0,.int .i64 0]) (by simp [results,Tryz.results13,go_sem]) rfl ?_;exact ⟨⟨0,0,rfl,fun _=>HL.out,fun _=>rfl⟩,HB2.out.trans (HR3.out.mono HB2.out.size)⟩
end Go.Proofs.YtpidmmfjcghmeaaGreat
