/- What is proved: of a grammar, all of which is of use, what leads to a clash's state begins a word, with the terminal behind it, if the first of both actions is a shift (any grammar). -/
import Derived.Test.YtpidmmfjcghmeaaGreatCs39
import Derived.Test.YtpidmmfjcghmeaaGreatCs18
import Derived.Test.YtpidmmfjcghmeaaGreatCs20
import Derived.Test.YtpidmmfjcghmeaaGreatCs36
import Derived.Test.YtpidmmfjcghmeaaGreatCs19
import Derived.ProofKit
import Derived.OpenShut
import Derived.ShutString
import Derived.ChangeOld
import Derived.Carry
import Derived.JoinedCond
set_option maxRecDepth 100000
set_option maxHeartbeats 16000000
set_option linter.all false
namespace Go.Proofs.YtpidmmfjcghmeaaGreat
open Go.RowKit
section
attribute [local go_sem ↓] aI
theorem vV {w:World} {b:Nat} {u0 u1 u2:Value} {T:TypeId} (h:w.heap[b]? = some (.cells #[u0,u1,u2] T (0,0))) (v0 v1 v2:Value):
  (((w.setCell ⟨b,0,none⟩ v0).setCell ⟨b,1,none⟩ v1).setCell ⟨b,2,none⟩ v2).heap[b]? = some (.cells #[v0,v1,v2] T (0,0))∧
  (∀ (a:World),Below b a w→Below b a (((w.setCell ⟨b,0,none⟩ v0).setCell ⟨b,1,none⟩ v1).setCell ⟨b,2,none⟩ v2))∧Chg (· = b) w (((w.setCell ⟨b,0,none⟩ v0).setCell ⟨b,1,none⟩ v1).setCell ⟨b,2,none⟩ v2):=
 ⟨aO (aO (aO h 0 v0) 1 v1) 2 v2, fun _ hb => ((hb.setCell (p := ⟨b, 0, none⟩) (gO _) v0).setCell (p := ⟨b, 1, none⟩) (gO _) v1).setCell (p := ⟨b, 2, none⟩) (gO _) v2,
  (((Chg.refl (· = b) w).setCell (p := ⟨b, 0, none⟩) (fun _ => rfl) v0).setCell (p := ⟨b, 1, none⟩) (fun _ => rfl) v1).setCell (p := ⟨b, 2, none⟩) (fun _ => rfl) v2⟩
theorem dE {w:World} {b:Nat} {u0 u1 u2:Value} {T:TypeId} (h:w.heap[b]? = some (.cells #[u0,u1,u2] T (0,0))):
  w.cell? ⟨b,0,none⟩=some u0∧w.cell? ⟨b,1,none⟩=some u1∧w.cell? ⟨b,2,none⟩=some u2∧w.frozen? ⟨b,0,none⟩=false∧w.frozen? ⟨b,1,none⟩=false∧w.frozen? ⟨b,2,none⟩=false:=
 ⟨aA h 0 _ rfl,aA h 1 _ rfl,aA h 2 _ rfl,by simp [World.frozen?,h],by simp [World.frozen?,h],by simp [World.frozen?,h]⟩
theorem aH.avoid {β:Type} {G:Nat→Prop} {w:World} {sz:Nat} {R:List Value→β→Prop} {v:Value} {xs:List β} {b:Nat} (h:aH G w sz R v xs) (hne:∀ (vs:List Value) (x:β) (off:Nat),x∈xs→R vs x→(∀ j u,vs[j]? = some u→w.cell? ⟨b,off+j,none⟩=some u)→False):aH (fun k=>G k∧k≠b) w sz R v xs:=by
 obtain ⟨A,c,h1,h2,h3,h4⟩:=h;refine ⟨A,c,h1,h2,h3,fun hn=>?_⟩;obtain ⟨b',off,h5,h6,h7⟩:=h4 hn;refine ⟨b',off,h5,⟨h6,fun e=>?_⟩,h7⟩;subst e;obtain ⟨vs,_,h8,h9⟩:=h7 0 hn;exact hne vs _ (off+0*sz) (gN hn) h8 h9
theorem made_cell {w:World} {b:Nat} {T:TypeId} (hb:w.heap[b]? = some (.cells #[.int .i64 0,.slice none 0 0,.slice none 0 0] T (0,0))) {o:Nat} {u:Value} (h:w.cell? ⟨b,o,none⟩=some u):(o=0∧u=.int .i64 0)∨u=.slice none 0 0:=by
 simp only [World.cell?,hb] at h
 match o,h with
 | 0,h=>injection h with h;exact .inl ⟨rfl,h.symm⟩
 | 1,h=>injection h with h;exact .inr h.symm
 | 2,h=>injection h with h;exact .inr h.symm
theorem aR.avoid {G:Nat→Prop} {w:World} {v:Value} {l:List Itm} {b:Nat} {T:TypeId} (h:aR G w v l) (hb:w.heap[b]? = some (.cells #[.int .i64 0,.slice none 0 0,.slice none 0 0] T (0,0))):aR (fun k=>G k∧k≠b) w v l:=
 aH.avoid h fun vs x off _ hv hc=>by
  obtain rfl:=hv;rcases made_cell hb (hc 1 _ rfl) with ⟨h,_⟩ | h
  ·omega
  ·cases h
theorem cK.avoid {G:Nat→Prop} {w:World} {g:Gm} {v:Value} {ks:List (List Itm)} {b:Nat} {T:TypeId} (h:cK G w g v ks) (hn:∀ k∈ks,k≠[]) (hb:w.heap[b]? = some (.cells #[.int .i64 0,.slice none 0 0,.slice none 0 0] T (0,0))):cK (fun k=>G k∧k≠b) w g v ks:=by
 have h1:aH G w 2 (StV (fun k=>G k∧k≠b) w g ks) v ks:=aH.keep h (fun _ h=>h) (fun _ _=>rfl) fun vs k hv=>by
  obtain ⟨a,t,h1,h2,h3⟩:=hv;exact ⟨a,t,h1,aR.avoid h2 hb,aR.avoid h3 hb⟩
 refine aH.avoid h1 fun vs x off hx hv hc=>?_;obtain ⟨a,t,rfl,h2,h3⟩:=hv;obtain ⟨A,c,rfl,_⟩:=aH.shape h2;rcases made_cell hb (hc 0 _ rfl) with ⟨_,h⟩ | h
 ·cases h
 ·injection h with _ h _
  exact hn x hx (yM h)
def GR (g:Gm) (w:World) (e:Ending) (w':World):Prop:=
 ((g.kernels=none∧∃ v,e=.returned (.tuple #[.agg v,.int .i64 7])∧v=#[.int .i64 0,.slice none 0 0,.slice none 0 0])∨∃ ks A c Av cv,g.kernels=some ks∧e=.returned (.tuple #[.agg #[.int .i64 g.rules.length,.slice A ks.length c,.slice Av ks.length cv],.int .i64 0])∧cK (Old w') w' g (.slice A ks.length c) ks∧jR w' (.slice Av ks.length cv) ks.length)∧Below w.heap.size w w'
theorem FA (G:Nat→Prop) (w:World) (vs:List Value) (g:Gm) (hG:∀ k,G k→k<w.heap.size) (hg:GmV G w vs g) (hw:GW g) (ht:g.top≤63) (hn31:g.terms.length+1≤31):
  Calls Tryz.prog 43 #[ag vs] w fun e w'=>GR g w e w':=by
 obtain ⟨A0,c0,A1,c1,A2,c2,W,ev,hW,⟨x0,x1,x2,x3⟩,HB,HX⟩:=GBox.go hG hg;rw [ev];have HG:=Ha hG;clear hG hg ev;have h2:=o7 G;have h3:=JI G;unfold ag at h2 h3;obtain ⟨H2,H3,HW,HTP⟩:=Zh4 h2 h3 hw (gS ht hn31);clear h2 h3 hw ht hn31;have hv1:Below W.heap.size W (W.alloc (.cells #[.int .i64 0,.slice none 0 0,.slice none 0 0] 86)):=(gR _ _).alloc (gO _) _;have qr:=aC W (.cells #[.int .i64 0,.slice none 0 0,.slice none 0 0] 86);have hsz1:(W.alloc (.cells #[.int .i64 0,.slice none 0 0,.slice none 0 0] 86)).heap.size=W.heap.size+1:=by simp
 generalize hV0:W.alloc (.cells #[.int .i64 0,.slice none 0 0,.slice none 0 0] 86)=V0 at *;obtain ⟨HX0,HV0,HQR⟩:=Zh3 (HX.out.on hv1) hv1 qr;clear x0 x1 x2 x3 hv1 qr;obtain ⟨x0,x1,x2,x3⟩:=HX0.out.cells;go_enter Tryz.func43,Tryz.ntmps43;go_wp2_with fail;refine (H2.out _ _ g HX0.out.old HX0.out.gm HW.out).mono ?_;rintro e w1 hp;obtain ⟨hp | ⟨ks,v,hk,rfl,hst⟩,hb1⟩:=hp
 ·obtain ⟨hk,rfl⟩:=hp;have hq1:=(hb1.block _ (gL HQR.out).1).trans HQR.out;obtain ⟨d0,d1,d2,f0,f1,f2⟩:=dE hq1;obtain ⟨q2,b2,c2⟩:=vV hq1 (.int .i64 0) (.slice none 0 0) (.slice none 0 0);obtain ⟨e0,e1,e2,_⟩:=dE q2;have HF:=Ha (gS hk (show Below w.heap.size w _ from HB.out.trans ((HV0.out.trans (hb1.mono HV0.out.size)).mono HB.out.size |>.trans (c2.below (fun k e=>by rw [e];exact HB.out.size) (gP HB.out.size (gP HV0.out.size hb1.size))))));clear hk hb1 hq1 q2 b2 c2;go_wp2_with fail;refine bodyPost_ret (v:=.tuple #[.agg #[.int .i64 0,.slice none 0 0,.slice none 0 0],.int .i64 7]) (by simp [results,Tryz.results43,go_sem,e0,e1,e2]) rfl ?_;exact ⟨.inl ⟨HF.out.1,_,rfl,rfl⟩,HF.out.2⟩
 obtain ⟨A,c,rfl,_⟩:=aH.shape hst;obtain ⟨HX1,HB1,HST,HK⟩:=Zh4 (HX0.out.on hb1) hb1 hst hk;clear x0 x1 x2 x3 hb1 hst hk;obtain ⟨x0,x1,x2,x3⟩:=HX1.out.cells;go_wp2_with fail;refine (H3.out _ _ g HX1.out.old HX1.out.gm HW.out HTP.out.1 HTP.out.2).mono ?_;rintro e w2 hp;obtain ⟨hp | ⟨ks',v,hk,rfl,hlk⟩,hb2⟩:=hp
 ·have h1:=hp.1;rw [HK.out] at h1;cases h1
 obtain rfl:ks'=ks:=by
  rw [HK.out] at hk
  injection hk with hk
  exact hk.symm
 obtain ⟨Av,cv,rfl,_⟩:=aH.shape hlk;rw [yG] at hlk ⊢;have hB2:=HB1.out.trans (hb2.mono HB1.out.size);have hq2:=(hB2.block _ (gL HQR.out).1).trans HQR.out;obtain ⟨d0,d1,d2,f0,f1,f2⟩:=dE hq2;obtain ⟨q3,b3,c3⟩:=vV hq2 (.int .i64 g.rules.length) (.slice A ks'.length c) (.slice Av ks'.length cv);obtain ⟨e0,e1,e2,_⟩:=dE q3;have hT2:TB 86 w2 W.heap.size:=⟨_,hq2⟩;have hk3:∀ {T:TypeId} {k:Nat},TB T w2 k→T≠86→_:=fun {T k} (h1:TB T w2 k) (h2:T≠86)=>c3.same k h1.lt fun e=>h1.ne hT2 h2 e;have HX2:=Ha (HX1.out.on hb2);have hlk3:=aH.keep hlk (fun k hk=>hk.of_eq (hk3 hk (by decide))) (fun _ hp=>gM (hk3 hp (by decide))) (bJ.mono fun _ _ h=>h.keep (fun k hk=>hk3 hk (by decide)) fun k hk=>hk3 hk (by decide));have hn:∀ k∈ks',k≠[]:=fun k hk'=>((Gm.kernels_aut hk).kok k hk').ne;have hq1:=(HB1.out.block _ (gL HQR.out).1).trans HQR.out;have hst3:=cK.keep (G':=Old (((w2.setCell ⟨W.heap.size,0,none⟩ (.int .i64 g.rules.length)).setCell ⟨W.heap.size,1,none⟩ (.slice A ks'.length c)).setCell ⟨W.heap.size,2,none⟩ (.slice Av ks'.length cv))) (w':=((w2.setCell ⟨W.heap.size,0,none⟩ (.int .i64 g.rules.length)).setCell ⟨W.heap.size,1,none⟩ (.slice A ks'.length c)).setCell ⟨W.heap.size,2,none⟩ (.slice Av ks'.length cv)) (HST.out.avoid hn hq1) (fun k hk=>gK (gK hk.1 hb2.size) c3.size) fun p hp=>gM ((c3.same _ (gK hp.1 hb2.size) hp.2).trans (hb2.block _ hp.1));have HF:=Ha (gS hk (gS hst3 (gS hlk3 (show Below w.heap.size w _ from HB.out.trans ((HV0.out.trans (hB2.mono HV0.out.size)).mono HB.out.size |>.trans (c3.below (fun k e=>by rw [e];exact HB.out.size) (gP HB.out.size (gP HV0.out.size hB2.size))))))));clear x0 x1 x2 x3;obtain ⟨x0,x1,x2,x3⟩:=HX2.out.cells;clear hst3 hlk3 hk3 hT2 c3 b3 q3 hq2 hq1 hB2 hb2 hlk hk hn;go_wp2_with fail;refine bodyPost_ret (v:=.tuple #[.agg #[.int .i64 g.rules.length,.slice A ks'.length c,.slice Av ks'.length cv],.int .i64 0]) (by simp [results,Tryz.results43,go_sem,e0,e1,e2]) rfl ?_;exact ⟨.inr ⟨ks',A,c,Av,cv,HF.out.1,rfl,HF.out.2.1,HF.out.2.2.1⟩,HF.out.2.2.2⟩
end
section
attribute [local go_sem ↓] aI
abbrev Clh:=Nat×Nat×(Int×Int)×(Int×Int)
def ClV (vs:List Value) (x:Clh):Prop:=vs=[.int .i64 x.1,.int .i64 x.2.1,.int .i64 x.2.2.1.1,.int .i64 x.2.2.1.2,.int .i64 x.2.2.2.1,.int .i64 x.2.2.2.2]
theorem ClV.one:∀ (vs:List Value) (x:Clh),ClV vs x→∀ u∈vs,u.oneCell'=true:=by
 rintro vs x rfl u hu;simp at hu;rcases hu with rfl | rfl | rfl | rfl | rfl | rfl <;> rfl
theorem BJ:(Tryz.prog.info? 50).map (fun i=>(i.zero,i.size,i.bytes))=some (some (.agg #[.int .i64 0,.int .i64 0,.int .i64 0,.int .i64 0,.int .i64 0,.int .i64 0]),6,48):=by kernel_rfl
def sR (g : Gm) (ks : List (List Itm)) (x : Clh) : Prop := ∃ h : x.1 < ks.length, x.2.1 ≤ g.terms.length ∧ (x.2.2.1.1 = 1 → (1 : Int) ≤ (x.2.1 : Int) ∧ g.succK (ks[x.1]'h) (x.2.1 : Int) ≠ [])
def clN (i t:Nat):Nat:=i*242000+t*2000
theorem AD {i t:Nat} (h:t≤121):clN i t≤clN (i+1) 0:=by unfold clN;omega
theorem AE (i t:Nat):clN i t+2000=clN i (t+1):=by unfold clN;omega
theorem GV {i t:Nat} (hi:i≤2000) (ht:t≤121):clN i t≤1000000000:=by unfold clN;omega
theorem g8.old {w:World} {v:Value} {i:Nat} (h:g8 w v i):∃ Al lk cl,v=.slice Al lk.length cl∧aH (Old w) w 2 (bU (Old w) w) (.slice Al lk.length cl) lk∧lk.length≤301:=by
 obtain ⟨lk,h1,h2⟩:=h;obtain ⟨Al,cl,rfl,_⟩:=aH.shape h1;exact ⟨Al,lk,cl,rfl,aH.keep h1 (fun _ h=>h.lt) (fun _ _=>rfl) (by
  rintro vs x ⟨t,rfl,h⟩;exact ⟨t,rfl,aH.keep h (fun _ h=>h.lt) (fun _ _=>rfl) fun _ _ h=>h⟩),h2⟩
theorem zI {G:Nat→Prop} {w:World} {A:Option Addr} {n c:Nat} {l:List (Int×Int)} (h:aH G w 2 yY (.slice A n c) l) {k:Nat} (hk:k<l.length):∃ bb off,A=some ⟨bb,off,none⟩∧w.cell? ⟨bb,off+k*2,none⟩=some (.int .i64 l[k].1)∧w.cell? ⟨bb,off+k*2+1,none⟩=some (.int .i64 l[k].2):=by
 obtain ⟨A',c',e,_,_,h4⟩:=h
 injection e with e1 _ _
 subst e1;obtain ⟨bb,off,rfl,_,h5⟩:=h4 (by omega);obtain ⟨vs,_,rfl,h10⟩:=h5 k hk;exact ⟨bb,off,rfl,by simpa using h10 0 _ rfl,h10 1 _ rfl⟩
def t8 (g:Gm) (ks:List (List Itm)) (w:World) (e:Ending) (w':World):Prop:=
 (∃ v cl,e=.returned v∧aG w.heap.size 50 6 ClV w' v cl∧∀ x∈cl,sR g ks x)∧Below w.heap.size w w'
theorem wK (w:World) (g:Gm) (ks:List (List Itm)) (own:Int) (A:Option Addr) (c:Nat) (Av:Option Addr) (cv T:Nat) (hk:g.kernels=some ks) (hst:cK (Old w) w g (.slice A ks.length c) ks) (hlk:jR w (.slice Av ks.length cv) ks.length) (hT:T≤120) (hTe:T=g.terms.length) (ht:g.top≤240):
  Calls Tryz.prog 44 #[.agg #[.int .i64 own,.slice A ks.length c,.slice Av ks.length cv],.int .i64 T] w fun e w'=>t8 g ks w e w':=by
 have ha:=Gm.kernels_aut hk;have hkl':=ha.len;have hk0:0<ks.length:=(gY ha.zero).1;obtain ⟨bs,os,_,_,_,_,hA,_⟩:=hst.at_ hk0;subst hA;obtain ⟨bl,ol,cl',u,e,_⟩:=dN hlk hk0
 injection e with e1 _ e2
 subst e1 e2;have HST:=Ha hst;have HLK:=Ha hlk;have HA:=Ha ha;have hb1:Below w.heap.size w (w.alloc (.cells #[.int .i64 own,.slice (some ⟨bs,os,none⟩) ks.length c,.slice (some ⟨bl,ol,none⟩) ks.length cv] 86)):=(gR _ _).alloc (gO _) _;have q1:=aC w (.cells #[.int .i64 own,.slice (some ⟨bs,os,none⟩) ks.length c,.slice (some ⟨bl,ol,none⟩) ks.length cv] 86);generalize hW1:w.alloc (.cells #[.int .i64 own,.slice (some ⟨bs,os,none⟩) ks.length c,.slice (some ⟨bl,ol,none⟩) ks.length cv] 86)=w1 at *;obtain ⟨d0,d1,d2,_⟩:=dE q1;have HB1:=Ha hb1;have HQ1:=Ha q1;have htw:IntKind.i64.wrap ((T:Int)+1)=((T+1:Nat):Int):=by rw [IntWalk.i64_in _ (by omega)];omega
 obtain ⟨T1,hT1⟩:∃ T1,T1=T+1:=⟨_,rfl⟩;rw [← hT1] at htw;have HTE:=Ha (show ∀ t,t<T1→t≤g.terms.length from fun t h=>by omega);have hT1l:T1≤121:=by omega
 clear hst hlk ha hb1 q1 hT1 hk hTe;go_enter Tryz.func44,Tryz.ntmps44;go_wp2_with fail;clear d0 d1 d2
 go_loopw [5,13] (fun ov iv wr=>∃ (i:Nat) (cl:List Clh),i≤ks.length∧iv=.int .i64 i∧aG w1.heap.size 50 6 ClV wr ov cl∧(∀ x∈cl,sR g ks x)∧cl.length≤clN i 0∧Below w1.heap.size w1 wr) (fun _ iv _=>ks.length-(intOf iv).toNat)
 case atStart=>exact ⟨0,[],gX _,rfl,aG.nil _ _ _ _ _,fun _ h=>(by cases h),gX _,gR _ _⟩
 case round=>
  obtain ⟨i,cl,hi,rfl,hrow,hok,hlen,hb⟩:=hrel;by_cases hlt:i<ks.length
  case neg=>
   have HF:=Ha (show t8 g ks w (.returned u5) wr from ⟨⟨_,cl,rfl,aG.lower hrow HB1.out.size,hok⟩,HB1.out.trans (hb.mono HB1.out.size)⟩);obtain rfl:i=ks.length:=by omega
   obtain ⟨Ao,co,rfl,_⟩:=hrow.shape;clear hrow hok hlen hb;go_wp2_with fail;go_ret;exact HF.out
  case pos=>
   obtain ⟨HRW,HOK,HBE⟩:=Zh3 hrow hok hb;clear hrow hok hb;go_wp2_with fail
   go_loopw [5,18] (fun ov tv wr=>∃ (t:Nat) (cl:List Clh),t≤T1∧tv=.int .i64 t∧aG w1.heap.size 50 6 ClV wr ov cl∧(∀ x∈cl,sR g ks x)∧cl.length≤clN i t∧Below w1.heap.size w1 wr) (fun _ tv _=>T1-(intOf tv).toNat)
   case atStart=>exact ⟨0,cl,gX _,rfl,HRW.out,HOK.out,hlen,HBE.out⟩
   case round=>
    obtain ⟨t,cl,htl,rfl,hrow,hok,hlen,hb⟩:=hrel;obtain ⟨HRT,HOT,HBT⟩:=Zh3 hrow hok hb;clear hrow hok hb;by_cases htt:t<T1
    case neg=>
     obtain rfl:t=T1:=by omega
     go_wp2_with fail
     go_roundw
     case rel=>exact ⟨i+1,cl,hlt,by go_num,HRT.out,HOT.out,gP hlen (AD hT1l),HBT.out⟩
     case measure=>simp only [intOf];omega
    case pos=>
     have hB:=HB1.out.trans (HBT.out.mono HB1.out.size);obtain ⟨d0,d1,d2,_⟩:=dE ((HBT.out.block _ (gL HQ1.out).1).trans HQ1.out);have hst:cK (Old wr) wr g (.slice (some ⟨bs,os,none⟩) ks.length c) ks:=HST.out.keep (fun k hk=>gK hk hB.size) fun p hp=>gM (hB.block _ hp);obtain ⟨Ai,ci,At,ct,_,z0,z1,_,htr⟩:=hst.at2 hlt;obtain ⟨b',o',c',u,e,_,zl,hu⟩:=dN (HLK.out.below hB) hlt
     injection e with e1 _ e2
     injection e1 with e1
     injection e1 with e1 e3
     subst e1 e3 e2;obtain ⟨Al,lk,cll,rfl,hsl,hll⟩:=hu.old;have htrl:=iN g ks ks[i] g.top;have HAT:=Ha (J2 wr (Old wr) own (t:Int) bs os ks.length c bl ol cv i Ai _ ci At ct _ Al cll lk hlt (fun _ h=>h) z0 z1 zl htr hsl (by omega) (by omega));have hal:=qS own (Gm.transK g ks ks[i] g.top) lk (t:Int);have HSH:=Ha (show ∀ n,(1,n)∈acts own (Gm.transK g ks ks[i] g.top) lk (t:Int)→(1:Int)≤(t:Int)∧g.succK ks[i] (t:Int)≠[] from fun n h=>by
      obtain ⟨h1,h2⟩:=sU h;exact ⟨h1,(Gm.mem_transK.1 h2).2.2.1⟩)
     generalize acts own (Gm.transK g ks ks[i] g.top) lk (t:Int)=al at *;have hal2:al.length≤1000:=by omega
     clear hst htr hsl zl z0 z1 hal htrl hB;go_wp2_with fail;refine (HAT.out).mono ?_;rintro e wa ⟨⟨va,rfl,hra⟩,hba⟩;obtain ⟨Aa,ca,rfl,_⟩:=hra.shape;obtain ⟨HRA,HBA,HRC⟩:=Zh3 hra (HBT.out.trans (hba.mono HBT.out.size)) (HRT.out.below hba);have hwl:w1.heap.size≤wr.heap.size:=HBT.out.size;clear hra hba d0 d1 d2;go_wp2_with fail
     go_loopw [5,9] (fun ov kv wr=>∃ (k:Nat) (cl:List Clh),1≤k∧kv=.int .i64 k∧(k≤al.length∨k=1)∧aG w1.heap.size 50 6 ClV wr ov cl∧(∀ x∈cl,sR g ks x)∧cl.length≤clN i t+k∧Below w1.heap.size w1 wr∧aG w1.heap.size 48 2 yY wr (.slice Aa al.length ca) al) (fun _ kv _=>al.length-(intOf kv).toNat)
     case atStart=>exact ⟨1,cl,gO _,rfl,.inr rfl,HRC.out,HOT.out,by omega,HBA.out,aG.lower HRA.out hwl⟩
     case round=>
      obtain ⟨k,cl,hk1,rfl,hkl,hrow,hok,hlen,hb,hra⟩:=hrel;obtain ⟨HRK,HOK,HBK,HAK⟩:=Zh4 hrow hok hb hra;have hbs:w1.heap.size≤wr.heap.size:=hb.size;clear hrow hok hb hra HRA HBA HRC;by_cases hka:k<al.length
      ·have hsl:=aG.look (G:=fun _=>True) HAK.out fun _ _=>trivial;obtain ⟨ba,oa,rfl,y0,y1⟩:=zI hsl hka;obtain ⟨ba',oa',e,y2,y3⟩:=zI hsl (k:=0) (by omega)
       injection e with e
       injection e with e e'
       subst e e';obtain ⟨⟨kb, nb⟩, hxb⟩ : ∃ x, x = al[k] := ⟨_, rfl⟩;obtain ⟨⟨ka, na⟩, hxa⟩ : ∃ x, x = al[0]'(by omega) := ⟨_, rfl⟩;rw [← hxb] at y0 y1;rw [← hxa] at y2 y3;simp only [Nat.zero_mul, Nat.add_zero] at y0 y1 y2 y3;have HOKX := Ha (show sR g ks (i, t, (ka, na), (kb, nb)) from ⟨hlt, HTE.out t htt, fun h => HSH.out na (by rw [show ((1 : Int), na) = (ka, na) from Prod.ext h.symm rfl, hxa]; exact gN _)⟩);obtain ⟨Ao, co, rfl, _⟩ := HRK.out.shape;have hcl := GV (gP hi hkl') (Nat.le_of_lt (gK htt hT1l));obtain ⟨v', w5, hrun, hr5, hc5, _⟩ := aG.pushC (w := wr.drew) 39 Tryz.underlying39 BJ rfl (by decide) ClV.one 39 (us := [.int .i64 i, .int .i64 t, .int .i64 ka, .int .i64 na, .int .i64 kb, .int .i64 nb]) (x := (i, t, (ka, na), (kb, nb))) rfl rfl (HRK.out.below (gR _ _).drew) (by omega) (by unfold maxLen; omega) hbs;obtain ⟨A5, c5, rfl, _⟩ := hr5.shape;rw [gI, gZ] at hrun hr5;replace hrun : WrA Tryz.prog #[39, 39] 39 #[.slice Ao cl.length co, .slice (some ⟨wr.heap.size, 0, none⟩) 1 1] (wr.alloc (.cells #[.int .i64 i, .int .i64 t, .int .i64 ka, .int .i64 na, .int .i64 kb, .int .i64 nb] 50)).drew = .ok (.slice A5 (cl.length + 1) c5) w5 := hrun;have HR5 := Ha hr5;have HO5 := Ha (show ∀ x ∈ cl ++ [(i, t, (ka, na), (kb, nb))], sR g ks x from fun x hx => by
        rcases yC hx with hx | hx
        ·exact HOK.out x hx
        ·rw [gV] at hx;rw [hx];exact HOKX.out)
       obtain ⟨HB5,HA5,HL5,HSS,HBA,HB7⟩:=Zh6 (show Below w1.heap.size w1 w5 from HBK.out.drew.trans (hc5.below (fun k e=>(HRK.out.tb e).1) hbs)) (show aG w1.heap.size 48 2 yY w5 (.slice (some ⟨ba,oa,none⟩) al.length ca) al from HAK.out.keep fun k hk=>hc5.same k (HAK.out.tb hk).2.lt fun e=>(HAK.out.tb hk).2.ne (HRK.out.tb e).2 (by decide) rfl) (show (cl++[(i,t,(ka,na),(kb,nb))]).length≤clN i t+(k+1) from by rw [gI,gZ];omega) (show (∀ X:World,(X.heap[ba]? = wr.heap[ba]?)→X.cell? ⟨ba,oa+k*2,none⟩=some (.int .i64 kb)∧X.cell? ⟨ba,oa+k*2+1,none⟩=some (.int .i64 nb)∧X.cell? ⟨ba,oa,none⟩=some (.int .i64 ka)∧X.cell? ⟨ba,oa+1,none⟩=some (.int .i64 na)) from fun X hX=>⟨(gM (a:=⟨ba,_,none⟩) hX).trans y0,(gM (a:=⟨ba,_,none⟩) hX).trans y1,(gM (a:=⟨ba,_,none⟩) hX).trans y2,(gM (a:=⟨ba,_,none⟩) hX).trans y3⟩) (Below.heap_alloc wr (.cells #[.int .i64 i,.int .i64 t,.int .i64 ka,.int .i64 na,.int .i64 kb,.int .i64 nb] 50) ba (i1 y0)) (show w5.heap[ba]? = wr.heap[ba]? from hc5.same ba (i1 y0) fun e=>(HAK.out.tb rfl).2.ne (HRK.out.tb e).2 (by decide) rfl);have hk2:(k:Int)<(al.length:Int):=by omega
       have hk3:0<al.length:=by omega
       clear hsl hxb hxa hr5 hc5 y0 y1 y2 y3;go_wp2_with fail;refine aE.start 13 (fun X=>X.cell? ⟨ba,oa+k*2,none⟩=some (.int .i64 kb)∧X.cell? ⟨ba,oa+k*2+1,none⟩=some (.int .i64 nb)∧X.cell? ⟨ba,oa,none⟩=some (.int .i64 ka)∧X.cell? ⟨ba,oa+1,none⟩=some (.int .i64 na)) (by kernel_rfl) ?hs_1 (fun hHeld=>?hr_1)
       case hs_1=>exact HSS.out _ rfl
       refine aE.tks [0,1,2,3,4,5,6,7,8,9,10] ?_ (by kernel_rfl) (by assumption)
       iterate 11
        refine aK.cons ?_ (by rfl) (by rfl) (by intro w h;(try dsimp only at h);simp only [gA,gB,gC];go_simp;try with_reducible rfl) (by exact fun _ _ _ h=>h);simp only [gA,gB,gC,Act.put,gD,gE,gF]
       show aE _ _ _ _ _ _ _ _ _ _;refine aE.one (i:=11) (by kernel_rfl) rfl fun K hK=>?_;simp only [gA,gB,gC]
       go_simp
       refine hK.out _ _ ?_ (fun hHeld=>?_)
       ·exact HSS.out _ HBA.out
       clear hK K;try simp only [Act.put,gD,gE,gF]
       refine aE.one (i:=12) (by kernel_rfl) rfl fun K hK=>?_;simp only [gA,gB,gC]
       go_simp
       refine hK.out _ _ ?_ (fun hHeld=>?_)
       ·exact HSS.out _ HB7.out
       clear hK K;try simp only [Act.put,gD,gE,gF]
       refine aE.last (by kernel_rfl) rfl fun K hK=>?_;simp only [gA,gB,gC]
       go_simp
       refine hK.out _ _ (aE.done (by kernel_rfl) ?_ _);go_wp2_with fail
       go_roundw
       case rel=>exact ⟨k+1,_,by omega,by go_num,.inl hka,HR5.out,HO5.out,HL5.out,HB5.out,HA5.out⟩
       case measure=>simp only [intOf];omega
      ·have hk2:¬(k:Int)<(al.length:Int):=by omega
       go_wp2_with fail
       go_roundw
       case rel=>exact ⟨t+1,cl,htt,by go_num,HRK.out,HOK.out,by have:=AE i t;omega,HBK.out⟩
       case measure=>simp only [intOf];omega
def yX (g:Gm) (w:World) (e:Ending) (w':World):Prop:=
 ((g.kernels=none∧e=.returned (.tuple #[.slice none 0 0,.int .i64 7]))∨∃ ks v cl,g.kernels=some ks∧e=.returned (.tuple #[v,.int .i64 0])∧aG w.heap.size 50 6 ClV w' v cl∧∀ x∈cl,sR g ks x)∧Below w.heap.size w w'
theorem qO (G:Nat→Prop) (w:World) (vs:List Value) (g:Gm) (hG:∀ k,G k→k<w.heap.size) (hg:GmV G w vs g) (hw:GW g) (ht:g.top≤63) (hn31:g.terms.length+1≤31):
  Calls Tryz.prog 14 #[ag vs] w fun e w'=>yX g w e w':=by
 obtain ⟨A0,c0,A1,c1,A2,c2,W,ev,hW,⟨x0,x1,x2,x3⟩,HB,HX⟩:=GBox.go hG hg;rw [ev];have HG:=Ha hG;clear hG hg ev;have h2:=FA G;unfold ag at h2;obtain ⟨H2,HW,HTP⟩:=Zh3 h2 hw (gS ht hn31);clear h2 hw ht hn31;go_enter Tryz.func14,Tryz.ntmps14;go_wp2_with fail;refine (H2.out _ _ g HX.out.old HX.out.gm HW.out HTP.out.1 HTP.out.2).mono ?_;rintro e w1 hp;obtain ⟨hp | ⟨ks,A,c,Av,cv,hk,rfl,hst,hlk⟩,hb1⟩:=hp
 ·obtain ⟨hk,v,rfl,rfl⟩:=hp;have hba:=hb1.alloc hb1.size (.cells #[.int .i64 0,.slice none 0 0,.slice none 0 0] 86);have HF:=Ha (gS hk (HB.out.trans (hba.mono HB.out.size)));clear hk hb1 hba;go_wp2_with fail;refine bodyPost_ret (v:=.tuple #[.slice none 0 0,.int .i64 7]) (by simp [results,Tryz.results14,go_sem]) rfl ?_;exact ⟨.inl ⟨HF.out.1,rfl⟩,HF.out.2⟩
 ·have hba:Below w1.heap.size w1 (w1.alloc (.cells #[.int .i64 g.rules.length,.slice A ks.length c,.slice Av ks.length cv] 86)):=(gR _ _).alloc (gO _) _;have qa:=aC w1 (.cells #[.int .i64 g.rules.length,.slice A ks.length c,.slice Av ks.length cv] 86);generalize hWA:w1.alloc (.cells #[.int .i64 g.rules.length,.slice A ks.length c,.slice Av ks.length cv] 86)=wa at *;have hB:=HB.out.trans ((hb1.trans (hba.mono hb1.size)).mono HB.out.size);have HXA:=Ha (HX.out.on (hb1.trans (hba.mono hb1.size)));obtain ⟨d0,d1,d2,_⟩:=dE qa;have hsta:cK (Old wa) wa g (.slice A ks.length c) ks:=hst.keep (fun k hk=>gK hk hba.size) fun p hp=>gM (hba.block _ hp);have HCL:=Ha (wK wa g ks g.rules.length A c Av cv g.terms.length hk hsta (hlk.below hba) (by have:=HTP.out;omega) rfl (by have:=HTP.out;omega));have HF:=Ha (gS hk hB);clear x0 x1 x2 x3 hk hB hb1 hba qa hst hlk hsta;obtain ⟨x0,x1,x2,x3⟩:=HXA.out.cells;go_wp2_with fail;refine (HCL.out).mono ?_;rintro e w3 ⟨⟨v,cl,rfl,hr,hok⟩,hb3⟩;obtain ⟨Ao,co,rfl,_⟩:=hr.shape;have HG3:=Ha (show yX g w (.returned (.tuple #[.slice Ao cl.length co,.int .i64 0])) w3 from ⟨.inr ⟨ks,_,cl,HF.out.1,rfl,aG.lower hr HF.out.2.size,hok⟩,HF.out.2.trans (hb3.mono HF.out.2.size)⟩);clear hr hok hb3;go_wp2_with fail;refine bodyPost_ret (v:=.tuple #[.slice Ao cl.length co,.int .i64 0]) (by simp [results,Tryz.results14,go_sem]) rfl ?_;exact HG3.out
end
theorem Ro.cut {w:World} {br bW n:Nat} {W:Nat→Option (List Int)} {V:Nat→Value} {vw:Value} (h:Ro w br bW n W V vw):Ro w br bW n (fun i=>if i<n then W i else none) V vw:=
 ⟨h.box,h.row,fun i hi=>by
  have h1:=h.its i hi;rw [if_pos hi];exact h1⟩
theorem xQ {g:Gm} {ks:List (List Itm)} {a:List Int} {i:Nat} (h:Gm.Path g ks a i):∀ s∈a,1≤s∧s≤(g.top:Int):=by
 induction h with
 | nil=>intro s hs;cases hs
 | step _ _ h1 h2 _ ih=>
  intro s hs;rcases yC hs with hs | hs
  ·exact ih s hs
  ·rw [gV] at hs;subst hs;exact ⟨h1,h2⟩
theorem uP {g:Gm} {t:Int} (h:g.T t):g.Der [t] [t]:=.term h .nil
theorem rD {G:Nat→Prop} {w:World} {A:Option Addr} {n c:Nat} {l:List Clh} (h:aH G w 6 ClV (.slice A n c) l) {k:Nat} (hk:k<l.length):∃ bb off,A=some ⟨bb,off,none⟩∧G bb∧w.cell? ⟨bb,off+k*6,none⟩=some (.int .i64 l[k].1)∧w.cell? ⟨bb,off+k*6+1,none⟩=some (.int .i64 l[k].2.1)∧w.cell? ⟨bb,off+k*6+2,none⟩=some (.int .i64 l[k].2.2.1.1)∧w.cell? ⟨bb,off+k*6+3,none⟩=some (.int .i64 l[k].2.2.1.2)∧w.cell? ⟨bb,off+k*6+4,none⟩=some (.int .i64 l[k].2.2.2.1)∧w.cell? ⟨bb,off+k*6+5,none⟩=some (.int .i64 l[k].2.2.2.2):=by
 obtain ⟨A',c',e,_,_,h4⟩:=h
 injection e with e1 _ _
 subst e1;obtain ⟨bb,off,rfl,hg,h5⟩:=h4 (by omega);obtain ⟨vs,_,rfl,h10⟩:=h5 k hk;exact ⟨bb,off,rfl,hg,by simpa using h10 0 _ rfl,h10 1 _ rfl,h10 2 _ rfl,h10 3 _ rfl,h10 4 _ rfl,h10 5 _ rfl⟩
theorem sY (G:Nat→Prop) (w:World) (vs:List Value) (g:Gm) (hG:∀ k,G k→k<w.heap.size) (hg:GmV G w vs g) (hf:g.Fit):
  Calls Tryz.prog 4 #[ag vs] w fun e w'=>e=.returned (.bool true)∧Below w.heap.size w w':=by
 obtain ⟨A0,c0,A1,c1,A2,c2,W,ev,hW,⟨x0,x1,x2,x3⟩,HB,HX⟩:=GBox.go hG hg;rw [ev];have HG:=Ha hG;clear hG hg ev;have HF:=Ha hf;clear hf;have HL:=Ha (Ab.lives_all W);go_enter Tryz.func4,Tryz.ntmps4;go_wp2_with fail;refine (HL.out).mono ?_;rintro e w1 ⟨rfl,hb1⟩;have HX1:=Ha (HX.out.on hb1);have HB1:=Ha (HB.out.trans (hb1.mono HB.out.size));clear x0 x1 x2 x3 hb1;obtain ⟨x0,x1,x2,x3⟩:=HX1.out.cells;have h2:=IJ G;have h3:=AC G;have h4:=qO G;have h5:=FX G;unfold ag at h2 h3 h4 h5;obtain ⟨H2,H3,H4,H5⟩:=Zh4 h2 h3 h4 h5;clear h2 h3 h4 h5;go_wp2_with fail;refine (H3.out _ _ g HX1.out.old HX1.out.gm HF.out).mono ?_;rintro e w2 ⟨⟨nd,sd,rfl,hlive⟩,hb1⟩;have HLV:=Ha hlive;clear hlive;have HX2:=Ha (HX1.out.on hb1);have HB2:=Ha (HB1.out.trans (hb1.mono HB1.out.size));clear x0 x1 x2 x3 hb1;obtain ⟨x0,x1,x2,x3⟩:=HX2.out.cells;go_wp2_with fail;refine (H2.out _ _ g HX2.out.old HX2.out.gm HF.out).mono ?_;rintro e w3 ⟨rfl,hb1⟩;have HX3:=Ha (HX2.out.on hb1);have HB3:=Ha (HB2.out.trans (hb1.mono HB2.out.size));clear x0 x1 x2 x3 hb1;obtain ⟨x0,x1,x2,x3⟩:=HX3.out.cells;by_cases hm:30<jF g
 ·have hm2:(30:Int)<(jF g:Int):=by omega
  clear hm;go_wp2_with fail;go_ret;exact ⟨rfl,HB3.out⟩
 have HFW:=Ha (G3 (g:=g) (by omega));have HTP:=Ha (show g.top≤63∧g.terms.length+1≤31 from by
  have h1:g.top≤jF g:=by unfold jF;omega
  have h2:g.terms.length≤g.top:=by unfold Gm.top;omega
  exact ⟨by omega,by omega⟩)
 have hm2:¬(30:Int)<(jF g:Int):=by omega
 clear hm;by_cases hn0:nd=0
 case neg=>
  have hn1:(nd != 0)=true:=by simpa using hn0
  go_wp2_with fail;go_ret;exact ⟨rfl,HB3.out⟩
 have HLI:=Ha (HLV.out.1 hn0);have HW:=Ha HLI.out.1;subst hn0;go_wp2_with fail;refine (H4.out _ _ g HX3.out.old HX3.out.gm HW.out HTP.out.1 HTP.out.2).mono ?_;rintro e w4 hp;obtain ⟨hp,hb1⟩:=hp;have HAC:=Ha hp;clear hp;obtain ⟨HB4',HX4,HB4⟩:=Zh3 hb1 (HX3.out.on hb1) (HB3.out.trans (hb1.mono HB3.out.size));clear x0 x1 x2 x3 hb1;obtain ⟨x0,x1,x2,x3⟩:=HX4.out.cells;rcases HAC.out with hp | hp
 ·obtain ⟨hk,rfl⟩:=hp;have HK:=Ha hk;clear hk;go_wp2_with fail;refine (H5.out _ _ g HX4.out.old HX4.out.gm HW.out).mono ?_;rintro e w5 ⟨hp,hb1⟩;rcases hp with hp | ⟨ks,_,_,_,_,_,_,_,_,hk,_⟩
  case inr=>rw [HK.out] at hk;cases hk
  obtain ⟨_,rfl⟩:=hp;have HB5:=Ha (HB4.out.trans (hb1.mono HB4.out.size));clear hb1;go_wp2_with fail
  go_loopw [9] (fun iv wr=>iv=.int .i64 0∧wr=w5) (fun _ _=>0)
  case atStart=>exact ⟨rfl,rfl⟩
  case round=>
   obtain ⟨rfl,rfl⟩:=hrel;go_wp2_with fail;go_ret;exact ⟨rfl,HB5.out⟩
 ·obtain ⟨ks,v,cl,hk,rfl,hrow,hok⟩:=hp;obtain ⟨Ac,cc,rfl,hcc1,hcc2⟩:=hrow.shape;have hclm:cl.length≤9223372036854775807:=by
   unfold maxLen at hcc2;omega
  obtain ⟨HK,HRW,HOK⟩:=Zh3 hk hrow hok;clear hk hrow hok;go_wp2_with fail;refine (H5.out _ _ g HX4.out.old HX4.out.gm HW.out).mono ?_;rintro e w5 ⟨hp,hb1⟩;rcases hp with ⟨hk,_⟩ | ⟨ks',br,bW,bw,bF,Wy,V,F,VF,hk,rfl,hro,hwo,hfo,hW⟩
  ·rw [HK.out] at hk;cases hk
  obtain rfl:ks'=ks:=by
   rw [HK.out] at hk
   injection hk with hk
   exact hk.symm
  have HRO:=Ha hro.cut;have HWO:=Ha hwo;have HFO:=Ha hfo;have HWW:=Ha hW;have HCL:=Ha (HRW.out.below hb1);clear hk hro hwo hfo hW;have HX5:=Ha (HX4.out.on hb1);have HB5:=Ha (HB4.out.trans (hb1.mono HB4.out.size));clear x0 x1 x2 x3 hb1;obtain ⟨x0,x1,x2,x3⟩:=HX5.out.cells;have HA:=Ha (Gm.kernels_aut HK.out);have HPR:=Ha (show ∀ s,g.T s∨g.N s→∃ u,g.Der [s] u from fun s hs=>by
   rcases hs with h | h
   ·exact ⟨[s],uP h⟩
   ·exact (HLI.out.2 s (.inr h)).2 h)
  have HWL:=Ha (show ∀ j l,(fun i=>if i<ks'.length then Wy i else none) j=some l→l.length≤1000000 from fun j l h=>by
   simp only at h
   split at h
   ·rename_i hj;obtain ⟨l2,e,_,h2⟩:=HWW.out j hj;rw [e] at h
    injection h with h
    rw [← h];omega
   ·cases h)
  go_wp2_with fail
  go_loopw [9] (fun iv wr=>∃ i:Nat,i≤cl.length∧iv=.int .i64 i∧Below w5.heap.size w5 wr) (fun iv _=>cl.length-(intOf iv).toNat)
  case atStart=>exact ⟨0,gX _,rfl,gR _ _⟩
  case round=>
   obtain ⟨i,hi,rfl,hbe⟩:=hrel;have HBE:=Ha hbe;clear hbe x0 x1 x2 x3;by_cases hlt:i<cl.length
   case neg=>
    obtain rfl:i=cl.length:=by omega
    go_wp2_with fail;go_ret;exact ⟨rfl,HB5.out.trans (HBE.out.mono HB5.out.size)⟩
   case pos=>
    have hsl:=aG.look (G:=fun _=>True) (HCL.out.below HBE.out) fun _ _=>trivial;obtain ⟨bb,off,rfl,_,y0,y1,y2,y3,y4,y5⟩:=rD hsl hlt;obtain ⟨⟨st,t,⟨ka,na⟩,⟨kb,nb⟩⟩,hx⟩:∃ x,x=cl[i]:=⟨_,rfl⟩;rw [← hx] at y0 y1 y2 y3 y4 y5;simp only at y0 y1 y2 y3 y4 y5;obtain ⟨hst,htt,hsh⟩:=HOK.out _ (hx▸gN hlt:(st,t,(ka,na),(kb,nb))∈cl);obtain ⟨l,hWl,hpath,_⟩:=HWW.out st hst;have hwl:wayL (fun i=>if i<ks'.length then Wy i else none) st=l:=by
     unfold wayL;simp only at hst ⊢;rw [if_pos hst,hWl];rfl
    have hdig:=(B6 HFO.out.dig l).2;have hder:((jn F (g.top+1) l).1 && !(jn F (g.top+1) l).2.1)=true→g.Der l (jn F (g.top+1) l).2.2:=fun h=>by
     rw [yF,Bool.not_eq_true'] at h;exact B5 HFO.out (fun s hs=>by have:=xQ hpath s hs;omega) h.1 h.2
    have hT := DT wr br bW ks'.length bw bF (g.top + 1) _ V F VF st (HRO.out.below HBE.out) (k7 HWO.out HBE.out) hst HWL.out;have hWi := fun X (hX : Below wr.heap.size wr X) => yW X br bW ks'.length bw bF (g.top + 1) _ V F VF st (t : Int) ka na kb nb (HRO.out.below (HBE.out.trans (hX.mono HBE.out.size))) (k7 HWO.out (HBE.out.trans (hX.mono HBE.out.size))) hst HWL.out (by rw [hwl]; exact hdig);rw [hwl] at hT hWi;unfold lE at hT;unfold o0 yV at hWi;generalize ((jn F (g.top + 1) l).1 && !(jn F (g.top + 1) l).2.1) = okb at *;generalize (jn F (g.top + 1) l).2.2 = u at *;have HT := Ha hT; have HWI := Ha hWi; have HD := Ha hder; have HSH := Ha (gS htt (Exists.intro hst hsh : ∃ h : st < ks'.length, ka = 1 → (1 : Int) ≤ (t : Int) ∧ g.succK (ks'[st]'h) (t : Int) ≠ [])); have HPA := Ha hpath;have HY := Ha (show ∀ X, Below wr.heap.size wr X → X.cell? ⟨bb, off + i * 6, none⟩ = some (.int .i64 (st : Int)) ∧ X.cell? ⟨bb, off + i * 6 + 1, none⟩ = some (.int .i64 (t : Int)) ∧ X.cell? ⟨bb, off + i * 6 + 2, none⟩ = some (.int .i64 ka) ∧ X.cell? ⟨bb, off + i * 6 + 3, none⟩ = some (.int .i64 na) ∧ X.cell? ⟨bb, off + i * 6 + 4, none⟩ = some (.int .i64 kb) ∧ X.cell? ⟨bb, off + i * 6 + 5, none⟩ = some (.int .i64 nb) from
     fun X hX=>⟨aD y0 hX,aD y1 hX,aD y2 hX,aD y3 hX,aD y4 hX,aD y5 hX⟩)
    have hst2:(st:Int)<(ks'.length:Int):=by have h:st<ks'.length:=hst;omega
    clear hsl hx hsh htt hWl hpath hwl hder hT hWi hst y1 y2 y3 y4 y5;go_wp2_with fail;refine (HT.out).mono ?_;rintro e w6 ⟨⟨A6,c6,rfl,hi6,_⟩,hb6⟩;obtain ⟨y0,y1,y2,y3,y4,y5⟩:=HY.out w6 hb6;have HI6:=Ha hi6;have HB6:=Ha hb6;clear hi6 hb6;go_wp2_with fail;refine (HWI.out w6 HB6.out).mono ?_;rintro e w7 ⟨⟨A7,c7,rfl,hi7⟩,hb7⟩;have HB7:=Ha (HB6.out.trans (hb7.mono HB6.out.size));obtain ⟨HI67,HX7,HBB⟩:=Zh3 (show aF (TB 3 w7) w7 (.slice A6 u.length c6) u from aH.keepT HI6.out fun k hk=>hb7.block k hk.lt) (HX5.out.on (HBE.out.trans (HB7.out.mono HBE.out.size))) (show Below w5.heap.size w5 w7 from HBE.out.trans (HB7.out.mono HBE.out.size));obtain ⟨wl,hwl⟩:∃ wl,wl=(if okb=false∨(t:Int)=0 then (u,okb) else (u++[(t:Int)],true)):=⟨_,rfl⟩;rw [← hwl] at hi7 ⊢;clear hb7 y0 y1 y2 y3 y4 y5;cases okb
    case false=>
     clear hwl hi7;go_wp2_with fail
     go_roundw
     case rel=>exact ⟨i+1,hlt,by go_num,HBB.out⟩
     case measure=>simp only [intOf];omega
    case true=>
     have hw2:wl.2=true:=by
      rw [hwl]
      split <;> rfl
     have HI7:=Ha hi7;have HWL2:=Ha hwl;clear hi7 hwl;obtain ⟨vw,is⟩:=wl;obtain rfl:is=true:=hw2;by_cases hul:10<u.length
     ·have hul2:(10:Int)<(u.length:Int):=by omega
      go_wp2_with fail
      go_roundw
      case rel=>exact ⟨i+1,hlt,by go_num,HBB.out⟩
      case measure=>simp only [intOf];omega
     ·have hul2:¬(10:Int)<(u.length:Int):=by omega
      have hbw:=hul2;obtain ⟨v1,hv1⟩:=HPA.out.begins HW.out.kn HPR.out HA.out (HD.out (by simp));have h6:=lH (Old w7) w7 _ g A6 c6 u v1 (fun _ h=>h) (HX7.out.wide (G':=Old w7) HX7.out.old fun _ h=>h).gm HW.out.kn (by have:=HTP.out;omega) (by omega) (by have:=HW.out.lr;omega) (aH.keepG (fun _ h=>h.lt) (fun _ _=>rfl) HI67.out fun _ _ h=>h) hv1;unfold ag at h6;have HBG:=Ha h6;clear h6 hv1;obtain ⟨x0,x1,x2,x3⟩:=HX7.out.cells;go_wp2_with fail;refine (HBG.out).mono ?_;rintro e w8 ⟨rfl,hb8⟩;have HX8:=Ha (HX7.out.on hb8);have HB8:=Ha (HB7.out.trans (hb8.mono HB7.out.size));have HBC:=Ha (show Below w5.heap.size w5 w8 from HBE.out.trans (HB8.out.mono HBE.out.size));have HI8:=Ha (show aF (Old w8) w8 (.slice A7 vw.length c7) vw from aH.keepG (fun _ h=>gK h.lt hb8.size) (fun k hk=>hb8.block k hk.lt) HI7.out fun _ _ h=>h);clear hb8 x0 x1 x2 x3;obtain ⟨x0,x1,x2,x3⟩:=HX8.out.cells;obtain ⟨_,_,y2,_⟩:=HY.out w8 HB8.out;by_cases hka:ka=1
      ·obtain ⟨htt,hsl,hsh⟩:=HSH.out;obtain ⟨ht1,hne⟩:=hsh hka;have hvw:vw=u++[(t:Int)]:=by
        have h:=HWL2.out
        rw [if_neg (by rintro (h | h); · cases h
                       · omega)] at h
        injection h
       have htl:g.terms.length≤g.top:=by unfold Gm.top;omega
       obtain ⟨v2,hv2⟩:=(Gm.Path.step hsl HPA.out ht1 (by omega) hne).begins HW.out.kn HPR.out HA.out ((HD.out (by simp)).app (uP (show g.T (t:Int) from by unfold Gm.T;omega)));rw [← hvw] at hv2;have h7:=lH (Old w8) w8 _ g A7 c7 vw v2 (fun _ h=>h) (HX8.out.wide (G':=Old w8) HX8.out.old fun _ h=>h).gm HW.out.kn (by have:=HTP.out;omega) (by rw [hvw,gI,gZ];omega) (by have:=HW.out.lr;omega) HI8.out hv2;unfold ag at h7;have HBH:=Ha h7;rw [hka] at y2;clear h7 hv2 hvw hka ht1 hne hsh hsl htt htl;go_wp2_with fail;refine (HBH.out).mono ?_;rintro e w9 ⟨rfl,hb9⟩;have HBD:=Ha (HBC.out.trans (hb9.mono HBC.out.size));clear hb9;go_wp2_with fail
       go_roundw
       case rel=>exact ⟨i+1,hlt,by go_num,HBD.out⟩
       case measure=>simp only [intOf];omega
      ·have hka2:(ka==1)=false:=by rw [gJ];exact hka
       go_wp2_with fail
       go_roundw
       case rel=>exact ⟨i+1,hlt,by go_num,HBC.out⟩
       case measure=>simp only [intOf];omega
end Go.Proofs.YtpidmmfjcghmeaaGreat
namespace Go.Proofs.YtpidmmfjcghmeaaGreat
open Go.ChangeShapes Go.WideShapes Go.ChangeAt Go.RowKit
section
open Go.ChangeMaps (open_string shut_string)
set_option linter.unusedVariables false
theorem own : ownKnob Tryz.prog.godebug = none := by kernel_rfl
theorem E2 : laidOutB Tryz.prog = true := by kernel_rfl
set_option maxRecDepth 100000 in
theorem clashesWhole_lifted (os : Os) (started : os.Started) (H : Type) (enc : TypeId × Value → H) :
    ReturnsInHanded {} Tryz.checked os 4 .any (Rows.clashesWholeSpec.pre6 enc Tryz.prog Tryz.f4 Rows.clashesWholeRow.domain false) (Rows.clashesWholeSpec.post enc Tryz.prog Tryz.f4 false true false false) := by
  refine returnsInHanded_of_change_sized (C := Tryz.checked) own started (by kernel_rfl) Tryz.func4
    (ChangeSpec.witness6 (enc := enc) (C := Tryz.checked) false ⟨#[], #[.agg #[.slice none 0 0, .slice none 0 0, .slice none 0 0, .int .i64 0]], []⟩ 8 (by kernel_rfl) (by kernel_rfl) (by kernel_rfl) (by kernel_rfl)) ?_
  intro W base args ds gs before hval0 hW hcnd hz _
  have hval : ∀ (j : Nat) t v, Tryz.f4.params[j]? = some t → args[j]? = some v → Value.okWide Tryz.prog W .any base t v := hval0
  have hW' := hW
  obtain ⟨p, q, hA0, hV, rfl, hfz, hnd⟩ := hW
  have hA : DataW.TrodAll enc Tryz.prog W 0 (fun _ => true) true Tryz.f4.params.toList args.toList ds p := hA0
  rw [Tryz.params4] at hA hval
  obtain ⟨v0, vs0, d0, ds0, p0, q0, hargs, rfl, rfl, h0, r0⟩ := trodAll_cons hA
  obtain ⟨rfl, rfl, rfl⟩ := trodAll_nil r0
  obtain rfl : args = #[v0] := by cases args; simp_all
  obtain ⟨rfl, rfl⟩ := trodVars_none hV
  have hlt := fun x hx => hW'.lt x hx
  have hlt0 : ∀ x ∈ p0, x.block < W.heap.size := fun x hx => by simpa using hlt x (List.mem_append.2 (.inl (List.mem_append.2 (.inl hx))))
  have h0k := h0
  obtain ⟨gv0, g0, rfl, hgm0, hgf0⟩ := xU (hval 0 25 v0 rfl rfl) h0 (Sz.arg hz (j := 0) rfl rfl)
  clear hA0 hval0
  refine (sY (Old W) W gv0 g0 (fun _ h => h) hgm0 hgf0).mono fun e W' ⟨he, bel⟩ => ?_
  subst he
  exact ⟨_, rfl, _, _, _, [], _, [], hW', trodAll_mk1 (shut_bool Tryz.underlying4 _), (trodAll_cons_mk (Below.trod E2 (by kernel_rfl) (of_decide_eq_true (by kernel_rfl)) h0k bel hlt0) trodAll_mk0), rfl, bel.frame _, fun h => by cases h⟩

theorem clashesWhole_holds : Rows.ClashesWholeSaid :=
  OpenClaim.holds_of_wide 4 Tryz.f4 rfl rfl rfl rfl rfl rfl rfl ⟨rfl, rfl, rfl, rfl, rfl⟩ rfl rfl rfl rfl rfl (by kernel_rfl) Tryz.func4 (by kernel_rfl)
    (of_decide_eq_true (by kernel_rfl)) (by unfold Func.isWrapper; first | (rw [if_pos (by decide +kernel)]; kernel_rfl) | (rw [if_neg (by decide +kernel)]; exact ⟨rfl, rfl⟩))
    (fun os started H enc _ => clashesWhole_lifted os started H enc)
#print axioms clashesWhole_holds
end
end Go.Proofs.YtpidmmfjcghmeaaGreat
