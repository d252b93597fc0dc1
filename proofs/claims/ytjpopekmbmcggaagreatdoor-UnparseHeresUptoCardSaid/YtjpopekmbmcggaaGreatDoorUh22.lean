/- Towards unparseHeres_card. -/
import Derived.Test.YtjpopekmbmcggaaGreatDoorUh15
import Derived.Test.YtjpopekmbmcggaaGreatDoorUh17
set_option maxRecDepth 100000
set_option maxHeartbeats 16000000
namespace Go.Proofs.YtjpopekmbmcggaaGreatDoor
open Go.RowKit
theorem uZ (n:Nat) (ih:wZ n):wZ (n+1):=by
 intro p l A c G w hp2 hd hwt hG hp;have IH:=Ha ih;clear ih;have hlw:=Pts.len_wt l;have HG:=Ha hG;have HP:=Ha hp;clear hG hp;go_enter Tryz.func106,Tryz.ntmps106;go_wp2
 go_loopw [9] (fun i wr=>∃ (k:Nat) (pv:Option (List UInt8)),k≤l.len∧i=.int .i64 k∧Pts.allP p pv (l.drop k)=l.allP p none∧DU l k pv∧Below w.heap.size w wr) (fun i _=>l.len-(intOf i).toNat)
 case atStart=>exact ⟨0,none,by omega,rfl,by rw [Pts.drop_zero],.inl ⟨rfl,rfl⟩,Below.refl _ _⟩
 case round=>
  obtain ⟨k,pv,hk,rfl,hf,hpv,hb⟩:=hrel;have HF:=Ha hf;have HB:=Ha hb;clear hf hb;by_cases hlt:k<l.len
  ·obtain ⟨pk,t,o,kids,cm,r,hdr⟩:=Pts.drop_cons k l hlt;have hpw:=HP.out.old HG.out HB.out;have hp':=hpw.at_ k;rw [hdr,Nat.zero_add] at hp';obtain ⟨b,off,Ak,ck,rfl,hgb,c0,c1,c2,c3,c4,hkl,hpk,_⟩:=hp';have hwd:=Pts.wt_drop k l;rw [hdr,Pts.wt] at hwd;have hkd:=Pts.deep_drop k l hdr;have hG':∀ g,G g→g<wr.heap.size:=fun g hg=>gK (HG.out g hg) HB.out.size;have hts:t.size≤1073741824:=by omega
   have hkwt:kids.wt≤1073741824:=by omega
   have hkdn:kids.deep<n:=by omega
   have HD:=Ha hdr;have HPW:=Ha hpw;unfold Cm.val at c4;have hb0:Below wr.heap.size wr (wr.alloc (.cells #[.int .i64 pk,.string t,.string o,.slice Ak kids.len ck,.slice cm.a cm.n cm.c] 50)):=(Below.refl _ _).alloc (Nat.le_refl _) _;have hx0:=heap_alloc_new wr (.cells #[.int .i64 pk,.string t,.string o,.slice Ak kids.len ck,.slice cm.a cm.n cm.c] 50);have hc1:∀ x:Gr (wr.alloc (.cells #[.int .i64 pk,.string t,.string o,.slice Ak kids.len ck,.slice cm.a cm.n cm.c] 50)),Calls Tryz.prog 150 #[.int .i64 p,.agg #[.int .i64 pk,.string t,.string o,.slice Ak kids.len ck,.slice cm.a cm.n cm.c]] x.at_ fun e w'=>e=.returned (.bool (cH p pk t.toList o.toList kids.len cm.n kids.headK kids.headT (kids.allP 1 none) (kids.allP 2 none)))∧∃ y:Gr (wr.alloc (.cells #[.int .i64 pk,.string t,.string o,.slice Ak kids.len ck,.slice cm.a cm.n cm.c] 50)),w'=y.at_:=fun x=>by
    have hbx:Below wr.heap.size wr x.at_:=hb0.trans (x.2.mono (by simp));exact x.calls (D6 n IH.out p hp2 pk t o kids Ak ck cm G x.at_ hkdn hts hkwt (fun g hg=>gK (hG' g hg) hbx.size) (hpk.old hG' hbx))
   have hx:∀ x:Gr (wr.alloc (.cells #[.int .i64 pk,.string t,.string o,.slice Ak kids.len ck,.slice cm.a cm.n cm.c] 50)),x.at_.cell? ⟨wr.heap.size,0,none⟩=some (.int .i64 pk)∧x.at_.cell? ⟨wr.heap.size,1,none⟩=some (.string t)∧x.at_.cell? ⟨wr.heap.size,2,none⟩=some (.string o)∧x.at_.cell? ⟨wr.heap.size,3,none⟩=some (.slice Ak kids.len ck)∧x.at_.cell? ⟨wr.heap.size,4,none⟩=some (.slice cm.a cm.n cm.c):=fun x=>aJ ((x.2.block wr.heap.size (by simp)).trans hx0);have hne:Nonempty (Gr (wr.alloc (.cells #[.int .i64 pk,.string t,.string o,.slice Ak kids.len ck,.slice cm.a cm.n cm.c] 50))):=⟨⟨_,Below.refl _ _⟩⟩;obtain ⟨HBN,HKP,HG'⟩:=hs3 (show ∀ x:Gr (wr.alloc (.cells #[.int .i64 pk,.string t,.string o,.slice Ak kids.len ck,.slice cm.a cm.n cm.c] 50)),Below w.heap.size w x.at_ from fun x=>HB.out.trans ((hb0.trans (x.2.mono (by simp))).mono HB.out.size)) hpk hG';have x0:=fun x=>(hx x).1;have x1:=fun x=>(hx x).2.1;have x2:=fun x=>(hx x).2.2.1;have x3:=fun x=>(hx x).2.2.2.1;have x4:=fun x=>(hx x).2.2.2.2;clear hpk hdr hwd hkd hgb hpw hx hx0 hb0 hG';cases h1:cH p pk t.toList o.toList kids.len cm.n kids.headK kids.headT (kids.allP 1 none) (kids.allP 2 none)
   ·have H1:=Ha h1;clear h1 hpv;have HR:=Ha (show l.allP p none=false by rw [← HF.out,HD.out,Pts.allP];rw [H1.out];rfl);rw [H1.out] at hc1;go_wp2_with fail;refine bW (S:=Gr (wr.alloc (.cells #[.int .i64 pk,.string t,.string o,.slice Ak kids.len ck,.slice cm.a cm.n cm.c] 50))) Gr.at_ (by kernel_rfl) (by kernel_rfl) (Gr.drew _) ?_;repeat (go_big_quiet_step (first | (with_reducible exact hc1 _)))
    refine wpQuiet_nil ?_;rintro X ⟨X',hX⟩;have HBX:=Ha (HBN.out X');clear hne hc1 x0 x1 x2 x3 x4
    revert HBX
    rw [← hX];clear hX HBN X';intro HBX;go_wp2;go_ret;exact ⟨by rw [HR.out];rfl,HBX.out⟩
   ·have H1:=Ha h1;clear h1;by_cases hk0:k=0
    ·have hpv0:pv=none:=by
      rcases hpv with ⟨_,h⟩ | ⟨j,_,_,_,_,_,_,h,_⟩
      ·exact h
      ·omega
     subst hk0;subst hpv0;clear hpv;simp only [Nat.zero_mul,Nat.add_zero] at c0 c1 c2 c3 c4;have HR:=Ha (show Pts.allP p (if pk=1 then some t.toList else none) (l.drop (0+1))=l.allP p none by rw [Pts.drop_succ 0 l HD.out,← HF.out,HD.out,Pts.allP];rw [H1.out];simp [cR]);have HNE:=Ha (show pk=1→t.toList≠[] from fun e=>by subst e;exact (cX H1.out).1);rw [H1.out] at hc1;go_wp2_with fail;refine bW (S:=Gr (wr.alloc (.cells #[.int .i64 pk,.string t,.string o,.slice Ak kids.len ck,.slice cm.a cm.n cm.c] 50))) Gr.at_ (by kernel_rfl) (by kernel_rfl) (Gr.drew _) ?_;repeat (go_big_quiet_step (first | (with_reducible exact hc1 _)))
     refine wpQuiet_nil ?_;rintro X ⟨X',hX⟩;have HBX:=Ha (HBN.out X');clear hne hc1 x0 x1 x2 x3 x4
     revert HBX
     rw [← hX];clear hX HBN X';intro HBX;go_wp2
     go_roundw
     case rel=>exact ⟨0+1,_,by omega,by go_num,HR.out,.inr ⟨0,pk,t,o,kids,cm,r,rfl,HD.out,rfl,HNE.out⟩,HBX.out⟩
     case measure=>simp only [intOf];omega
    ·obtain ⟨j,pk',t',o',kids',cm',r',hkj,hdj,rfl,hne'⟩:=hpv.resolve_left (fun h=>hk0 h.1);obtain rfl:j=k-1:=by omega
     have hj0:(0:Int)≤(k:Int)-1:=by omega
     have hj1:(k:Int)-1<(l.len:Int):=by omega
     have hj2:((k:Int)-1).toNat=k-1:=by omega
     have hjp:(0:Int)<(k:Int):=by omega
     have hjd:decide ((0:Int)<(k:Int))=true:=decide_eq_true hjp;have hjn:0<k:=by omega
     have htj:=Pts.wt_drop (k-1) l;rw [hdj,Pts.wt] at htj;have hts':t'.size≤1099511627776:=by omega
     have hpj:=HPW.out.at_ (k-1);rw [hdj,Nat.zero_add] at hpj;obtain ⟨b3,off3,Ak3,ck3,hAA,hg3,g0,g1,g2,g3,g4,_⟩:=hpj
     injection hAA with hAA
     injection hAA with e1 e2
     subst e1 e2;have HM:=Ha (show (if pk'=1 then some t'.toList else none)=fU pk' t'.toList from rfl);unfold Cm.val at g4;have hgl:∀ (p:Addr) (v:Value),wr.cell? p=some v→∀ x:Gr (wr.alloc (.cells #[.int .i64 pk,.string t,.string o,.slice Ak kids.len ck,.slice cm.a cm.n cm.c] 50)),x.at_.cell? p=some v:=fun p v h x=>x.cell _ _ ((World.cell?_alloc_lt wr _ p (fG h)).trans h);have y0:=hgl _ _ g0;have y1:=hgl _ _ g1;have y2:=hgl _ _ g2;have y3:=hgl _ _ g3;have y4:=hgl _ _ g4;have hc2:∀ x:Gr (wr.alloc (.cells #[.int .i64 pk,.string t,.string o,.slice Ak kids.len ck,.slice cm.a cm.n cm.c] 50)),Calls Tryz.prog 151 #[.agg #[.int .i64 pk',.string t',.string o',.slice Ak3 kids'.len ck3,.slice cm'.a cm'.n cm'.c],.agg #[.int .i64 pk,.string t,.string o,.slice Ak kids.len ck,.slice cm.a cm.n cm.c]] x.at_ fun e w'=>e=.returned (.bool (cR (fU pk' t'.toList) pk))∧∃ y:Gr (wr.alloc (.cells #[.int .i64 pk,.string t,.string o,.slice Ak kids.len ck,.slice cm.a cm.n cm.c] 50)),w'=y.at_:=fun x=>x.calls (DC pk' t' o' kids'.len Ak3 ck3 cm' pk t o kids.len Ak ck cm x.at_ hts');clear hgl g0 g1 g2 g3 g4 hkj hdj hne' hpv htj hg3;cases hm:cR (fU pk' t'.toList) pk
     ·have HMM:=Ha hm;rw [hm] at hc2;clear hm;have HR:=Ha (show l.allP p none=false by rw [← HF.out,HD.out,Pts.allP];rw [H1.out,HM.out,HMM.out];rfl);rw [H1.out] at hc1;go_wp2_with fail;refine bW (S:=Gr (wr.alloc (.cells #[.int .i64 pk,.string t,.string o,.slice Ak kids.len ck,.slice cm.a cm.n cm.c] 50))) Gr.at_ (by kernel_rfl) (by kernel_rfl) (Gr.drew _) ?_;repeat (go_big_quiet_step (first | (with_reducible exact hc1 _) | (with_reducible exact hc2 _)))
      refine wpQuiet_nil ?_;rintro X ⟨X',hX⟩;have HBX:=Ha (HBN.out X');clear hne hc1 x0 x1 x2 x3 x4
      revert HBX
      rw [← hX];clear hX HBN X';intro HBX;go_wp2;go_ret;exact ⟨by rw [HR.out];rfl,HBX.out⟩
     ·have HMM:=Ha hm;rw [hm] at hc2;clear hm;have HR:=Ha (show Pts.allP p (if pk=1 then some t.toList else none) (l.drop (k+1))=l.allP p none by rw [Pts.drop_succ k l HD.out,← HF.out,HD.out,Pts.allP];rw [H1.out,HM.out,HMM.out];rfl);have HNE:=Ha (show pk=1→t.toList≠[] from fun e=>by subst e;exact (cX H1.out).1);rw [H1.out] at hc1;go_wp2_with fail;refine bW (S:=Gr (wr.alloc (.cells #[.int .i64 pk,.string t,.string o,.slice Ak kids.len ck,.slice cm.a cm.n cm.c] 50))) Gr.at_ (by kernel_rfl) (by kernel_rfl) (Gr.drew _) ?_;repeat (go_big_quiet_step (first | (with_reducible exact hc1 _) | (with_reducible exact hc2 _)))
      refine wpQuiet_nil ?_;rintro X ⟨X',hX⟩;have HBX:=Ha (HBN.out X');clear hne hc1 x0 x1 x2 x3 x4
      revert HBX
      rw [← hX];clear hX HBN X';intro HBX;go_wp2
      go_roundw
      case rel=>exact ⟨k+1,_,by omega,by go_num,HR.out,.inr ⟨k,pk,t,o,kids,cm,r,rfl,HD.out,rfl,HNE.out⟩,HBX.out⟩
      case measure=>simp only [intOf];omega
  ·have HR:=Ha (show l.allP p none=true by rw [← HF.out];exact qA p pv l k hlt);go_wp2;go_ret;exact ⟨by rw [HR.out];rfl,HB.out⟩
theorem qB:∀ n,wZ n
 | 0=>fun _ _ _ _ _ _ _ h=>absurd h (by omega)
 | n+1=>uZ n (qB n)
theorem CC (l:Pts) (A:Option Addr) (c:Nat) (G:Nat→Prop) (w:World) (hwt:l.wt≤1073741824) (hG:∀ k,G k→k<w.heap.size) (hp:aY G w A 0 l):
  Calls Tryz.prog 39 #[.agg #[.slice A l.len c]] w fun e w'=>e=.returned (.bool l.right)∧Below w.heap.size w w':=by
 have hw0:Below w.heap.size w (w.alloc (.cells #[.slice A l.len c] 31)):=(Below.refl _ _).alloc (Nat.le_refl _) _;have hbox:=heap_alloc_new w (.cells #[.slice A l.len c] 31);have hp0:=hp.old hG hw0;have hG0:∀ g,G g→g<(w.alloc (.cells #[.slice A l.len c] 31)).heap.size:=fun g hg=>by have:=hG g hg;simp;omega
 have hlw:=Pts.len_wt l;obtain ⟨HW0,HBX,HP,HG0⟩:=hs4 hw0 hbox hp0 hG0;clear hw0 hbox hp hp0 hG hG0;cases hl0:((l.len:Int)==0)
 ·have hln:(l.len==0)=false:=by rw [gJ] at hl0 ⊢;omega
  have HL0:=Ha hl0;cases ha:l.allP 0 none
  ·have HA:=Ha ha;have HF:=Ha (show l.right=false by unfold Pts.right;rw [ha];simp);go_enter Tryz.func39,Tryz.ntmps39;go_wp2_with fail;refine (qB (l.deep+1) 0 l A c G _ (by omega) (by omega) hwt HG0.out HP.out).mono ?_;rintro e w1 ⟨rfl,hb1⟩;rw [HA.out];have hbox1:=(hb1.block w.heap.size (by simp)).trans HBX.out;have q0:w1.cell? ⟨w.heap.size,0,none⟩=some (.slice A l.len c):=by simp [World.cell?,hbox1]
   have hpn:=HP.out.old HG0.out hb1;have HB1:=Ha (HW0.out.trans (hb1.mono HW0.out.size));clear hb1 hbox1;clear hpn;go_wp2;go_ret;exact ⟨by rw [HF.out];rfl,HB1.out⟩
  ·have HA:=Ha ha;have hc:=dZ hl0;obtain ⟨k,t,o,kids,cm,r,hl⟩:=hc;cases hk:(k != 1)
   ·obtain rfl:k=1:=by simpa using hk
    have hne:t.toList≠[]:=by
     have:=HA.out;rw [hl] at this;simp only [Pts.allP,Bool.and_eq_true] at this;exact (cX this.1.1).1
    have hpos:0<t.size:=by rw [aL];exact List.length_pos_iff.2 hne
    have hposz:(0:Int)<(t.size:Int):=by omega
    have hhd:hd0 t.toList=t[0]:=eA t hpos;clear hne hk;cases h35:((t[0].toNat:Int) != 35)
    ·have h35n:(t[0]==35)=true:=by rw [beq_iff_eq];exact UInt8.toNat_inj.1 (by have:=bne_eq_false_iff_eq.1 h35;show _=35;omega)
     have HF0:=Ha (show (!(hd0 l.headT==35))=false by rw [hl,Pts.headT,hhd,h35n];rfl);have HF1:=Ha (show (l.headK==1)=true by rw [hl];rfl);have HF:=Ha (show l.right=false by unfold Pts.right;rw [hln,HA.out,HF0.out,HF1.out];rfl);go_enter Tryz.func39,Tryz.ntmps39;clear ha hl0 hln hhd h35n;subst hl;go_wp2_with fail;refine (qB ((Pts.cons 1 t o kids cm r).deep+1) 0 (Pts.cons 1 t o kids cm r) A c G _ (by omega) (by omega) hwt HG0.out HP.out).mono ?_;rintro e w1 ⟨rfl,hb1⟩;rw [HA.out];have hbox1:=(hb1.block w.heap.size (by simp)).trans HBX.out;have q0:w1.cell? ⟨w.heap.size,0,none⟩=some (.slice A (Pts.cons 1 t o kids cm r).len c):=by simp [World.cell?,hbox1]
     have hpn:=HP.out.old HG0.out hb1;have HB1:=Ha (HW0.out.trans (hb1.mono HW0.out.size));clear hb1 hbox1;obtain ⟨b,off,Ak,ck,rfl,_,c0,c1,_⟩:=hpn;simp only [Nat.zero_mul,Nat.add_zero] at c0 c1;have hlz:(0:Int)<((Pts.cons 1 t o kids cm r).len:Int):=by simp only [Pts.len];omega
     go_wp2;go_ret;exact ⟨by rw [HF.out];rfl,HB1.out⟩
    ·have h35n:(t[0]==35)=false:=by rw [gJ];intro e;exact (bne_iff_ne.1 h35) (by rw [e];rfl)
     have HF0:=Ha (show (!(hd0 l.headT==35))=true by rw [hl,Pts.headT,hhd,h35n];rfl);have HF1:=Ha (show (l.headK==1)=true by rw [hl];rfl);have HF:=Ha (show l.right=true by unfold Pts.right;rw [hln,HA.out,HF0.out,HF1.out];rfl);go_enter Tryz.func39,Tryz.ntmps39;clear ha hl0 hln hhd h35n;subst hl;go_wp2_with fail;refine (qB ((Pts.cons 1 t o kids cm r).deep+1) 0 (Pts.cons 1 t o kids cm r) A c G _ (by omega) (by omega) hwt HG0.out HP.out).mono ?_;rintro e w1 ⟨rfl,hb1⟩;rw [HA.out];have hbox1:=(hb1.block w.heap.size (by simp)).trans HBX.out;have q0:w1.cell? ⟨w.heap.size,0,none⟩=some (.slice A (Pts.cons 1 t o kids cm r).len c):=by simp [World.cell?,hbox1]
     have hpn:=HP.out.old HG0.out hb1;have HB1:=Ha (HW0.out.trans (hb1.mono HW0.out.size));clear hb1 hbox1;obtain ⟨b,off,Ak,ck,rfl,_,c0,c1,_⟩:=hpn;simp only [Nat.zero_mul,Nat.add_zero] at c0 c1;have hlz:(0:Int)<((Pts.cons 1 t o kids cm r).len:Int):=by simp only [Pts.len];omega
     go_wp2;go_ret;exact ⟨by rw [HF.out];rfl,HB1.out⟩
   ·have HF1:=Ha (show (!(l.headK==1))=true by rw [hl,Pts.headK];exact hk);have HF:=Ha (show l.right=true by unfold Pts.right;rw [hln,HA.out,HF1.out];simp);go_enter Tryz.func39,Tryz.ntmps39;clear ha hl0 hln;subst hl;go_wp2_with fail;refine (qB ((Pts.cons k t o kids cm r).deep+1) 0 (Pts.cons k t o kids cm r) A c G _ (by omega) (by omega) hwt HG0.out HP.out).mono ?_;rintro e w1 ⟨rfl,hb1⟩;rw [HA.out];have hbox1:=(hb1.block w.heap.size (by simp)).trans HBX.out;have q0:w1.cell? ⟨w.heap.size,0,none⟩=some (.slice A (Pts.cons k t o kids cm r).len c):=by simp [World.cell?,hbox1]
    have hpn:=HP.out.old HG0.out hb1;have HB1:=Ha (HW0.out.trans (hb1.mono HW0.out.size));clear hb1 hbox1;obtain ⟨b,off,Ak,ck,rfl,_,c0,c1,_⟩:=hpn;simp only [Nat.zero_mul,Nat.add_zero] at c0 c1;have hlz:(0:Int)<((Pts.cons k t o kids cm r).len:Int):=by simp only [Pts.len];omega
    go_wp2;go_ret;exact ⟨by rw [HF.out];rfl,HB1.out⟩
 ·have hln:(l.len==0)=true:=by rw [beq_iff_eq] at hl0 ⊢;omega
  have HF:=Ha (show l.right=false by unfold Pts.right;rw [hln];simp);go_enter Tryz.func39,Tryz.ntmps39;clear hln;go_wp2;go_ret;exact ⟨by rw [HF.out];rfl,HW0.out⟩
end Go.Proofs.YtjpopekmbmcggaaGreatDoor
