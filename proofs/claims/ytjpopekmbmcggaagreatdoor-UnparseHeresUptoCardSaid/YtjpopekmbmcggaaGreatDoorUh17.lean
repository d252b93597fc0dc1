/- Towards unparseHeres_card. -/
import Derived.Test.YtjpopekmbmcggaaGreatDoorUh12
set_option maxRecDepth 100000
set_option maxHeartbeats 16000000
namespace Go.Proofs.YtjpopekmbmcggaaGreatDoor
open Go.RowKit
def DU (l:Pts) (k:Nat) (pv:Option (List UInt8)):Prop:=
 (k=0∧pv=none)∨∃ j pk t o kids cm r,k=j+1∧l.drop j=.cons pk t o kids cm r∧pv=(if pk=1 then some t.toList else none)∧(pk=1→t.toList≠[])
theorem uG (s:ByteArray) (h:0<s.size):ld0 s.toList=s[s.size-1]:=by
 have hl : s.toList.getLast? = some (s[s.size - 1]'(by omega)) := by
  rw [List.getLast?_eq_getElem?,← aL];exact get?_list s _ (by omega)
 unfold ld0;rw [← List.head?_reverse] at hl;cases hr:s.toList.reverse with
 | nil=>rw [hr] at hl;simp at hl
 | cons a r=>rw [hr] at hl;simp at hl;simpa [hd0] using hl
theorem hU (n:Nat) (IH:xA n) (p:Nat) (hp2:p≤2) (k:Int) (t o:ByteArray) (kids:Pts) (A:Option Addr) (c:Nat) (cm:Cm) (G:Nat→Prop) (w:World) (hd:kids.deep<n) (hts:t.size≤1099511627776) (hwt:kids.wt≤1099511627776) (hG:∀ k,G k→k<w.heap.size) (hp:aY G w A 0 kids):
  Calls Tryz.prog 153 #[.agg #[.int .i64 k,.string t,.string o,.slice A kids.len c,.slice cm.a cm.n cm.c],.int .i64 p] w fun e w'=>e=.returned (.bool (cH p k t.toList o.toList kids.len cm.n kids.headK kids.headT (kids.allP 1 none) (kids.allP 2 none)))∧Below w.heap.size w w':=D7 n IH p hp2 k t o kids A c cm G w hd hts hwt hG hp
theorem qA (p:Nat) (pv:Option (List UInt8)) (l:Pts) (k:Nat) (h:¬k<l.len):Pts.allP p pv (l.drop k)=true:=by rw [Pts.drop_end k l (by omega)];rfl
theorem tW:∀ n,xA n:=by
 intro n
 induction n with
 | zero=>intro p l A c G w _ h;omega
 | succ n ih=>
  intro p l A c G w hp2 hd hwt hG hp;have IH:=Ha ih;clear ih;have hlw:=Pts.len_wt l;have HG:=Ha hG;have HP:=Ha hp;clear hG hp;go_enter Tryz.func111,Tryz.ntmps111;go_wp2
  go_loopw [5] (fun i wr=>∃ (k:Nat) (pv:Option (List UInt8)),k≤l.len∧i=.int .i64 k∧Pts.allP p pv (l.drop k)=l.allP p none∧DU l k pv∧Below w.heap.size w wr) (fun i _=>l.len-(intOf i).toNat)
  case atStart=>exact ⟨0,none,by omega,rfl,by rw [Pts.drop_zero],.inl ⟨rfl,rfl⟩,Below.refl _ _⟩
  case round=>
   obtain ⟨k,pv,hk,rfl,hf,hpv,hb⟩:=hrel;have HF:=Ha hf;have HB:=Ha hb;clear hf hb;by_cases hlt:k<l.len
   ·obtain ⟨pk,t,o,kids,cm,r,hdr⟩:=Pts.drop_cons k l hlt;have hpw:=HP.out.old HG.out HB.out;have hp':=hpw.at_ k;rw [hdr,Nat.zero_add] at hp';obtain ⟨b,off,Ak,ck,rfl,hgb,c0,c1,c2,c3,c4,hkl,hpk,_⟩:=hp';have hwd:=Pts.wt_drop k l;rw [hdr,Pts.wt] at hwd;have hkd:=Pts.deep_drop k l hdr;have HG':=Ha (show ∀ g,G g→g<wr.heap.size from fun g hg=>gK (HG.out g hg) HB.out.size);have hts:t.size≤1099511627776:=by omega
    have hkwt:kids.wt≤1099511627776:=by omega
    have hkdn:kids.deep<n:=by omega
    obtain ⟨HKP,HGB,HD⟩:=hs3 hpk hgb hdr;unfold Cm.val at c4;clear hpk hdr hwd hkd hgb hpw;cases h1:cH p pk t.toList o.toList kids.len cm.n kids.headK kids.headT (kids.allP 1 none) (kids.allP 2 none)
    ·have H1:=Ha h1;clear h1;have HR:=Ha (show l.allP p none=false by rw [← HF.out,HD.out,Pts.allP];rw [H1.out];rfl);go_wp2_with fail;refine (hU n IH.out p hp2 pk t o kids Ak ck cm G _ hkdn hts hkwt HG'.out HKP.out).mono ?_;rintro e w1 ⟨rfl,hb1⟩;rw [H1.out];have hbn:=HB.out.trans (hb1.mono HB.out.size);have HBN:=Ha hbn;have hpn:=HP.out.old HG.out hbn;have hpn':=hpn.at_ k;rw [HD.out,Nat.zero_add] at hpn';obtain ⟨b2,off2,Ak2,ck2,hAA,_,d0,d1,_⟩:=hpn'
     injection hAA with hAA
     injection hAA with e1 e2
     subst e1 e2;have HPN:=Ha hpn;clear hb1 hbn;clear hpn c0 c1 c2 c3 c4;go_wp2;go_ret;exact ⟨by rw [HR.out];rfl,HBN.out⟩
    ·have H1:=Ha h1;clear h1;by_cases hk0:k=0
     ·have hpv0:pv=none:=by
       rcases hpv with ⟨_,h⟩ | ⟨j,_,_,_,_,_,_,h,_⟩
       ·exact h
       ·omega
      subst hk0;subst hpv0;clear hpv;simp only [Nat.zero_mul,Nat.add_zero] at c0 c1 c2 c3 c4;have HR:=Ha (show Pts.allP p (if pk=1 then some t.toList else none) (l.drop (0+1))=l.allP p none by rw [Pts.drop_succ 0 l HD.out,← HF.out,HD.out,Pts.allP];rw [H1.out];simp [cR]);have HNE:=Ha (show pk=1→t.toList≠[] from fun e=>by subst e;exact (cX H1.out).1);go_wp2_with fail;refine (hU n IH.out p hp2 pk t o kids Ak ck cm G _ hkdn hts hkwt HG'.out HKP.out).mono ?_;rintro e w1 ⟨rfl,hb1⟩;rw [H1.out];have hbn:=HB.out.trans (hb1.mono HB.out.size);have HBN:=Ha hbn;have hpn:=HP.out.old HG.out hbn;have hpn':=hpn.at_ 0;rw [HD.out,Nat.zero_add] at hpn';obtain ⟨b2,off2,Ak2,ck2,hAA,_,d0,d1,_⟩:=hpn'
      injection hAA with hAA
      injection hAA with e1 e2
      subst e1 e2;have HPN:=Ha hpn;clear hb1 hbn;clear hpn c0 c1 c2 c3 c4;go_wp2
      go_roundw
      case rel=>exact ⟨0+1,_,by omega,by go_num,HR.out,.inr ⟨0,pk,t,o,kids,cm,r,rfl,HD.out,rfl,HNE.out⟩,HBN.out⟩
      case measure=>simp only [intOf];omega
     ·obtain ⟨j,pk',t',o',kids',cm',r',hkj,hdj,rfl,hne'⟩:=hpv.resolve_left (fun h=>hk0 h.1);obtain rfl:j=k-1:=by omega
      have HDJ:=Ha hdj;have hjz:((k:Int)==0)=false:=by rw [gJ];omega
      have hj0:(0:Int)≤(k:Int)-1:=by omega
      have hj1:(k:Int)-1<(l.len:Int):=by omega
      have hj2:((k:Int)-1).toNat=k-1:=by omega
      clear hkj;clear hdj hpv hk0;cases mk:(pk' != 1)
      ·obtain rfl:pk'=1:=by simpa using mk
       have hpos:0<t'.size:=by rw [aL];exact List.length_pos_iff.2 (hne' rfl)
       have hp0:0<t'.size:=hpos;have hp1:(0:Int)≤(t'.size:Int)-1:=by omega
       have hp3:(t'.size:Int)-1<(t'.size:Int):=by omega
       have hp4:((t'.size:Int)-1).toNat=t'.size-1:=by omega
       have htj:=Pts.wt_drop (k-1) l;rw [HDJ.out,Pts.wt] at htj;have hts':(t'.size:Int)≤1099511627776:=by omega
       have HPV:=Ha (show (if (1:Int)=1 then some t'.toList else none)=some t'.toList from rfl);clear hne' mk htj hpos;cases m1:(pk==1)
       ·cases ml:((t'[t'.size-1].toNat:Int)==36)
        ·have mlb:(t'[t'.size-1]==36)=false:=by rw [gJ];intro e;exact (beq_eq_false_iff_ne.1 ml) (by rw [e];rfl)
         have HLD:=Ha (show (ld0 t'.toList==36)=false by rw [uG t' hp0];exact mlb);clear mlb;have HR:=Ha (show Pts.allP p (if pk=1 then some t.toList else none) (l.drop (k+1))=l.allP p none by rw [Pts.drop_succ k l HD.out,← HF.out,HD.out,Pts.allP];rw [H1.out,HPV.out];simp [cR,m1,HLD.out]);have HNE:=Ha (show pk=1→t.toList≠[] from fun e=>by subst e;exact (cX H1.out).1);go_wp2_with fail;refine (hU n IH.out p hp2 pk t o kids Ak ck cm G _ hkdn hts hkwt HG'.out HKP.out).mono ?_;rintro e w1 ⟨rfl,hb1⟩;rw [H1.out];have hbn:=HB.out.trans (hb1.mono HB.out.size);have HBN:=Ha hbn;have hpn:=HP.out.old HG.out hbn;have hpn':=hpn.at_ k;rw [HD.out,Nat.zero_add] at hpn';obtain ⟨b2,off2,Ak2,ck2,hAA,_,d0,d1,_⟩:=hpn'
         injection hAA with hAA
         injection hAA with e1 e2
         subst e1 e2;have HPN:=Ha hpn;clear hb1 hbn;have hpj:=HPN.out.at_ (k-1);rw [HDJ.out,Nat.zero_add] at hpj;obtain ⟨b3,off3,Ak3,ck3,hAA,_,g0,g1,_⟩:=hpj
         injection hAA with hAA
         injection hAA with e1 e2
         subst e1 e2;clear hpn c0 c1 c2 c3 c4;go_wp2
         go_roundw
         case rel=>exact ⟨k+1,_,by omega,by go_num,HR.out,.inr ⟨k,pk,t,o,kids,cm,r,rfl,HD.out,rfl,HNE.out⟩,HBN.out⟩
         case measure=>simp only [intOf];omega
        ·have mlb:(t'[t'.size-1]==36)=true:=by rw [beq_iff_eq];exact UInt8.toNat_inj.1 (by have:=beq_iff_eq.1 ml;show _=36;omega)
         have HLD:=Ha (show (ld0 t'.toList==36)=true by rw [uG t' hp0];exact mlb);clear mlb;cases m5:(pk==5)
         ·cases m6:(pk==6)
          ·cases m7:(pk==7)
           ·have HR:=Ha (show Pts.allP p (if pk=1 then some t.toList else none) (l.drop (k+1))=l.allP p none by rw [Pts.drop_succ k l HD.out,← HF.out,HD.out,Pts.allP];rw [H1.out,HPV.out];simp [cR,m1,HLD.out,m5,m6,m7]);have HNE:=Ha (show pk=1→t.toList≠[] from fun e=>by subst e;exact (cX H1.out).1);go_wp2_with fail;refine (hU n IH.out p hp2 pk t o kids Ak ck cm G _ hkdn hts hkwt HG'.out HKP.out).mono ?_;rintro e w1 ⟨rfl,hb1⟩;rw [H1.out];have hbn:=HB.out.trans (hb1.mono HB.out.size);have HBN:=Ha hbn;have hpn:=HP.out.old HG.out hbn;have hpn':=hpn.at_ k;rw [HD.out,Nat.zero_add] at hpn';obtain ⟨b2,off2,Ak2,ck2,hAA,_,d0,d1,_⟩:=hpn'
            injection hAA with hAA
            injection hAA with e1 e2
            subst e1 e2;have HPN:=Ha hpn;clear hb1 hbn;have hpj:=HPN.out.at_ (k-1);rw [HDJ.out,Nat.zero_add] at hpj;obtain ⟨b3,off3,Ak3,ck3,hAA,_,g0,g1,_⟩:=hpj
            injection hAA with hAA
            injection hAA with e1 e2
            subst e1 e2;clear hpn c0 c1 c2 c3 c4;go_wp2
            go_roundw
            case rel=>exact ⟨k+1,_,by omega,by go_num,HR.out,.inr ⟨k,pk,t,o,kids,cm,r,rfl,HD.out,rfl,HNE.out⟩,HBN.out⟩
            case measure=>simp only [intOf];omega
           ·have HR:=Ha (show l.allP p none=false by rw [← HF.out,HD.out,Pts.allP];rw [H1.out,HPV.out];simp [cR,m1,HLD.out,m5,m6,m7]);go_wp2_with fail;refine (hU n IH.out p hp2 pk t o kids Ak ck cm G _ hkdn hts hkwt HG'.out HKP.out).mono ?_;rintro e w1 ⟨rfl,hb1⟩;rw [H1.out];have hbn:=HB.out.trans (hb1.mono HB.out.size);have HBN:=Ha hbn;have hpn:=HP.out.old HG.out hbn;have hpn':=hpn.at_ k;rw [HD.out,Nat.zero_add] at hpn';obtain ⟨b2,off2,Ak2,ck2,hAA,_,d0,d1,_⟩:=hpn'
            injection hAA with hAA
            injection hAA with e1 e2
            subst e1 e2;have HPN:=Ha hpn;clear hb1 hbn;have hpj:=HPN.out.at_ (k-1);rw [HDJ.out,Nat.zero_add] at hpj;obtain ⟨b3,off3,Ak3,ck3,hAA,_,g0,g1,_⟩:=hpj
            injection hAA with hAA
            injection hAA with e1 e2
            subst e1 e2;clear hpn c0 c1 c2 c3 c4;go_wp2;go_ret;exact ⟨by rw [HR.out];rfl,HBN.out⟩
          ·have HR:=Ha (show l.allP p none=false by rw [← HF.out,HD.out,Pts.allP];rw [H1.out,HPV.out];simp [cR,m1,HLD.out,m5,m6]);go_wp2_with fail;refine (hU n IH.out p hp2 pk t o kids Ak ck cm G _ hkdn hts hkwt HG'.out HKP.out).mono ?_;rintro e w1 ⟨rfl,hb1⟩;rw [H1.out];have hbn:=HB.out.trans (hb1.mono HB.out.size);have HBN:=Ha hbn;have hpn:=HP.out.old HG.out hbn;have hpn':=hpn.at_ k;rw [HD.out,Nat.zero_add] at hpn';obtain ⟨b2,off2,Ak2,ck2,hAA,_,d0,d1,_⟩:=hpn'
           injection hAA with hAA
           injection hAA with e1 e2
           subst e1 e2;have HPN:=Ha hpn;clear hb1 hbn;have hpj:=HPN.out.at_ (k-1);rw [HDJ.out,Nat.zero_add] at hpj;obtain ⟨b3,off3,Ak3,ck3,hAA,_,g0,g1,_⟩:=hpj
           injection hAA with hAA
           injection hAA with e1 e2
           subst e1 e2;clear hpn c0 c1 c2 c3 c4;go_wp2;go_ret;exact ⟨by rw [HR.out];rfl,HBN.out⟩
         ·have HR:=Ha (show l.allP p none=false by rw [← HF.out,HD.out,Pts.allP];rw [H1.out,HPV.out];simp [cR,m1,HLD.out,m5]);go_wp2_with fail;refine (hU n IH.out p hp2 pk t o kids Ak ck cm G _ hkdn hts hkwt HG'.out HKP.out).mono ?_;rintro e w1 ⟨rfl,hb1⟩;rw [H1.out];have hbn:=HB.out.trans (hb1.mono HB.out.size);have HBN:=Ha hbn;have hpn:=HP.out.old HG.out hbn;have hpn':=hpn.at_ k;rw [HD.out,Nat.zero_add] at hpn';obtain ⟨b2,off2,Ak2,ck2,hAA,_,d0,d1,_⟩:=hpn'
          injection hAA with hAA
          injection hAA with e1 e2
          subst e1 e2;have HPN:=Ha hpn;clear hb1 hbn;have hpj:=HPN.out.at_ (k-1);rw [HDJ.out,Nat.zero_add] at hpj;obtain ⟨b3,off3,Ak3,ck3,hAA,_,g0,g1,_⟩:=hpj
          injection hAA with hAA
          injection hAA with e1 e2
          subst e1 e2;clear hpn c0 c1 c2 c3 c4;go_wp2;go_ret;exact ⟨by rw [HR.out];rfl,HBN.out⟩
       ·have HR:=Ha (show l.allP p none=false by rw [← HF.out,HD.out,Pts.allP];rw [H1.out,HPV.out];simp [cR,m1]);go_wp2_with fail;refine (hU n IH.out p hp2 pk t o kids Ak ck cm G _ hkdn hts hkwt HG'.out HKP.out).mono ?_;rintro e w1 ⟨rfl,hb1⟩;rw [H1.out];have hbn:=HB.out.trans (hb1.mono HB.out.size);have HBN:=Ha hbn;have hpn:=HP.out.old HG.out hbn;have hpn':=hpn.at_ k;rw [HD.out,Nat.zero_add] at hpn';obtain ⟨b2,off2,Ak2,ck2,hAA,_,d0,d1,_⟩:=hpn'
        injection hAA with hAA
        injection hAA with e1 e2
        subst e1 e2;have HPN:=Ha hpn;clear hb1 hbn;have hpj:=HPN.out.at_ (k-1);rw [HDJ.out,Nat.zero_add] at hpj;obtain ⟨b3,off3,Ak3,ck3,hAA,_,g0,g1,_⟩:=hpj
        injection hAA with hAA
        injection hAA with e1 e2
        subst e1 e2;clear hpn c0 c1 c2 c3 c4;go_wp2;go_ret;exact ⟨by rw [HR.out];rfl,HBN.out⟩
      ·have HPV:=Ha (show (if pk'=1 then some t'.toList else none)=(none:Option (List UInt8)) from if_neg (bne_iff_ne.1 mk));clear hne';have HR:=Ha (show Pts.allP p (if pk=1 then some t.toList else none) (l.drop (k+1))=l.allP p none by rw [Pts.drop_succ k l HD.out,← HF.out,HD.out,Pts.allP];rw [H1.out,HPV.out];simp [cR]);have HNE:=Ha (show pk=1→t.toList≠[] from fun e=>by subst e;exact (cX H1.out).1);go_wp2_with fail;refine (hU n IH.out p hp2 pk t o kids Ak ck cm G _ hkdn hts hkwt HG'.out HKP.out).mono ?_;rintro e w1 ⟨rfl,hb1⟩;rw [H1.out];have hbn:=HB.out.trans (hb1.mono HB.out.size);have HBN:=Ha hbn;have hpn:=HP.out.old HG.out hbn;have hpn':=hpn.at_ k;rw [HD.out,Nat.zero_add] at hpn';obtain ⟨b2,off2,Ak2,ck2,hAA,_,d0,d1,_⟩:=hpn'
       injection hAA with hAA
       injection hAA with e1 e2
       subst e1 e2;have HPN:=Ha hpn;clear hb1 hbn;have hpj:=HPN.out.at_ (k-1);rw [HDJ.out,Nat.zero_add] at hpj;obtain ⟨b3,off3,Ak3,ck3,hAA,_,g0,g1,_⟩:=hpj
       injection hAA with hAA
       injection hAA with e1 e2
       subst e1 e2;clear hpn c0 c1 c2 c3 c4;go_wp2
       go_roundw
       case rel=>exact ⟨k+1,_,by omega,by go_num,HR.out,.inr ⟨k,pk,t,o,kids,cm,r,rfl,HD.out,rfl,HNE.out⟩,HBN.out⟩
       case measure=>simp only [intOf];omega
   ·have HR:=Ha (show l.allP p none=true by rw [← HF.out];exact qA p pv l k hlt);go_wp2;go_ret;exact ⟨by rw [HR.out];rfl,HB.out⟩
theorem CD (l:Pts) (A:Option Addr) (c:Nat) (G:Nat→Prop) (w:World) (hwt:l.wt≤1099511627776) (hG:∀ k,G k→k<w.heap.size) (hp:aY G w A 0 l):
  Calls Tryz.prog 42 #[.agg #[.slice A l.len c]] w fun e w'=>e=.returned (.bool l.right)∧Below w.heap.size w w':=by
 have hw0:Below w.heap.size w (w.alloc (.cells #[.slice A l.len c] 31)):=(Below.refl _ _).alloc (Nat.le_refl _) _;have hbox:=heap_alloc_new w (.cells #[.slice A l.len c] 31);have hp0:=hp.old hG hw0;have hG0:∀ g,G g→g<(w.alloc (.cells #[.slice A l.len c] 31)).heap.size:=fun g hg=>by have:=hG g hg;simp;omega
 have hlw:=Pts.len_wt l;obtain ⟨HW0,HBX,HP,HG0⟩:=hs4 hw0 hbox hp0 hG0;clear hw0 hbox hp hp0 hG hG0;cases hl0:((l.len:Int)==0)
 ·have hln:(l.len==0)=false:=by rw [gJ] at hl0 ⊢;omega
  have HL0:=Ha hl0;cases ha:l.allP 0 none
  ·have HA:=Ha ha;have HF:=Ha (show l.right=false by unfold Pts.right;rw [ha];simp);go_enter Tryz.func42,Tryz.ntmps42;go_wp2_with fail;refine (tW (l.deep+1) 0 l A c G _ (by omega) (by omega) hwt HG0.out HP.out).mono ?_;rintro e w1 ⟨rfl,hb1⟩;rw [HA.out];have hbox1:=(hb1.block w.heap.size (by simp)).trans HBX.out;have q0:w1.cell? ⟨w.heap.size,0,none⟩=some (.slice A l.len c):=by simp [World.cell?,hbox1]
   have hpn:=HP.out.old HG0.out hb1;have HB1:=Ha (HW0.out.trans (hb1.mono HW0.out.size));clear hb1 hbox1;clear hpn;go_wp2;go_ret;exact ⟨by rw [HF.out];rfl,HB1.out⟩
  ·have HA:=Ha ha;have hc:=dZ hl0;obtain ⟨k,t,o,kids,cm,r,hl⟩:=hc;cases hk:(k != 1)
   ·obtain rfl:k=1:=by simpa using hk
    have hne:t.toList≠[]:=by
     have:=HA.out;rw [hl] at this;simp only [Pts.allP,Bool.and_eq_true] at this;exact (cX this.1.1).1
    have hpos:0<t.size:=by rw [aL];exact List.length_pos_iff.2 hne
    have hposz:(0:Int)<(t.size:Int):=by omega
    have hhd:hd0 t.toList=t[0]:=eA t hpos;clear hne hk;cases h35:((t[0].toNat:Int) != 35)
    ·have h35n:(t[0]==35)=true:=by rw [beq_iff_eq];exact UInt8.toNat_inj.1 (by have:=bne_eq_false_iff_eq.1 h35;show _=35;omega)
     have HF0:=Ha (show (!(hd0 l.headT==35))=false by rw [hl,Pts.headT,hhd,h35n];rfl);have HF1:=Ha (show (l.headK==1)=true by rw [hl];rfl);have HF:=Ha (show l.right=false by unfold Pts.right;rw [hln,HA.out,HF0.out,HF1.out];rfl);go_enter Tryz.func42,Tryz.ntmps42;clear ha hl0 hln hhd h35n;subst hl;go_wp2_with fail;refine (tW ((Pts.cons 1 t o kids cm r).deep+1) 0 (Pts.cons 1 t o kids cm r) A c G _ (by omega) (by omega) hwt HG0.out HP.out).mono ?_;rintro e w1 ⟨rfl,hb1⟩;rw [HA.out];have hbox1:=(hb1.block w.heap.size (by simp)).trans HBX.out;have q0:w1.cell? ⟨w.heap.size,0,none⟩=some (.slice A (Pts.cons 1 t o kids cm r).len c):=by simp [World.cell?,hbox1]
     have hpn:=HP.out.old HG0.out hb1;have HB1:=Ha (HW0.out.trans (hb1.mono HW0.out.size));clear hb1 hbox1;obtain ⟨b,off,Ak,ck,rfl,_,c0,c1,_⟩:=hpn;simp only [Nat.zero_mul,Nat.add_zero] at c0 c1;have hlz:(0:Int)<((Pts.cons 1 t o kids cm r).len:Int):=by simp only [Pts.len];omega
     go_wp2;go_ret;exact ⟨by rw [HF.out];rfl,HB1.out⟩
    ·have h35n:(t[0]==35)=false:=by rw [gJ];intro e;exact (bne_iff_ne.1 h35) (by rw [e];rfl)
     have HF0:=Ha (show (!(hd0 l.headT==35))=true by rw [hl,Pts.headT,hhd,h35n];rfl);have HF1:=Ha (show (l.headK==1)=true by rw [hl];rfl);have HF:=Ha (show l.right=true by unfold Pts.right;rw [hln,HA.out,HF0.out,HF1.out];rfl);go_enter Tryz.func42,Tryz.ntmps42;clear ha hl0 hln hhd h35n;subst hl;go_wp2_with fail;refine (tW ((Pts.cons 1 t o kids cm r).deep+1) 0 (Pts.cons 1 t o kids cm r) A c G _ (by omega) (by omega) hwt HG0.out HP.out).mono ?_;rintro e w1 ⟨rfl,hb1⟩;rw [HA.out];have hbox1:=(hb1.block w.heap.size (by simp)).trans HBX.out;have q0:w1.cell? ⟨w.heap.size,0,none⟩=some (.slice A (Pts.cons 1 t o kids cm r).len c):=by simp [World.cell?,hbox1]
     have hpn:=HP.out.old HG0.out hb1;have HB1:=Ha (HW0.out.trans (hb1.mono HW0.out.size));clear hb1 hbox1;obtain ⟨b,off,Ak,ck,rfl,_,c0,c1,_⟩:=hpn;simp only [Nat.zero_mul,Nat.add_zero] at c0 c1;have hlz:(0:Int)<((Pts.cons 1 t o kids cm r).len:Int):=by simp only [Pts.len];omega
     go_wp2;go_ret;exact ⟨by rw [HF.out];rfl,HB1.out⟩
   ·have HF1:=Ha (show (!(l.headK==1))=true by rw [hl,Pts.headK];exact hk);have HF:=Ha (show l.right=true by unfold Pts.right;rw [hln,HA.out,HF1.out];simp);go_enter Tryz.func42,Tryz.ntmps42;clear ha hl0 hln;subst hl;go_wp2_with fail;refine (tW ((Pts.cons k t o kids cm r).deep+1) 0 (Pts.cons k t o kids cm r) A c G _ (by omega) (by omega) hwt HG0.out HP.out).mono ?_;rintro e w1 ⟨rfl,hb1⟩;rw [HA.out];have hbox1:=(hb1.block w.heap.size (by simp)).trans HBX.out;have q0:w1.cell? ⟨w.heap.size,0,none⟩=some (.slice A (Pts.cons k t o kids cm r).len c):=by simp [World.cell?,hbox1]
    have hpn:=HP.out.old HG0.out hb1;have HB1:=Ha (HW0.out.trans (hb1.mono HW0.out.size));clear hb1 hbox1;obtain ⟨b,off,Ak,ck,rfl,_,c0,c1,_⟩:=hpn;simp only [Nat.zero_mul,Nat.add_zero] at c0 c1;have hlz:(0:Int)<((Pts.cons k t o kids cm r).len:Int):=by simp only [Pts.len];omega
    go_wp2;go_ret;exact ⟨by rw [HF.out];rfl,HB1.out⟩
 ·have hln:(l.len==0)=true:=by rw [beq_iff_eq] at hl0 ⊢;omega
  have HF:=Ha (show l.right=false by unfold Pts.right;rw [hln];simp);go_enter Tryz.func42,Tryz.ntmps42;clear hln;go_wp2;go_ret;exact ⟨by rw [HF.out];rfl,HW0.out⟩
end Go.Proofs.YtjpopekmbmcggaaGreatDoor
