/- Towards clashesWhole_upto. -/
import Derived.Test.YtpidmmfjcghmeaaGreatCz48
import Derived.Test.YtpidmmfjcghmeaaGreatCz47
import Derived.Test.YtpidmmfjcghmeaaGreatCz40
set_option maxRecDepth 100000
set_option maxHeartbeats 16000000
set_option linter.all false
namespace Go.Proofs.YtpidmmfjcghmeaaGreat
open Go.RowKit
section
attribute [local go_sem ↓] aI
structure Mt (G:Nat→Prop) (w:World) (bm:Nat) (A0:Option Addr) (c0:Nat) (A1:Option Addr) (c1:Nat) (A2:Option Addr) (c2:Nat) (g:Gm) (vr vts vu:Value):Prop where
  gb:GBox G w bm A0 c0 A1 c1 A2 c2 g
  m5:w.cell? ⟨bm,5,none⟩=some vr
  m6:w.cell? ⟨bm,6,none⟩=some vts
  m7:w.cell? ⟨bm,7,none⟩=some vu
  rs:aH G w 1 (bJ fun v (k:Nat)=>aF G w v (g.rightAt k)) vr (List.range (g.rules.length+1))
  ts:aH G w 1 (bJ fun v (k:Nat)=>aH G w 2 (dZ G w (g.terms.length+1)) v (g.rightAt k)) vts (List.range (g.rules.length+1))
  us:aH G w 1 (bJ fun v (t:Nat)=>aF G w v (ofR (t:Int) g.rules 0)) vu (List.range (g.top+1))
section
variable {G:Nat→Prop} {w w':World} {bm:Nat} {A0 A1 A2:Option Addr} {c0 c1 c2:Nat} {g:Gm} {vr vts vu:Value}
theorem Mt.on (h:Mt G w bm A0 c0 A1 c1 A2 c2 g vr vts vu) (hb:Below w.heap.size w w'):Mt G w' bm A0 c0 A1 c1 A2 c2 g vr vts vu:=
  have hk:∀ k,G k→w'.heap[k]? = w.heap[k]? := fun k hk=>hb.block k (h.gb.old k hk)
  ⟨h.gb.on hb,aD h.m5 hb,aD h.m6 hb,aD h.m7 hb,
   aH.keepG (fun _ h=>h) hk h.rs (bJ.mono fun _ _ h=>aH.keepG (fun _ h=>h) hk h fun _ _ h=>h),
   aH.keepG (fun _ h=>h) hk h.ts (bJ.mono fun _ _ h=>aH.keepG (fun _ h=>h) hk h fun _ _ h=>dZ.keep (fun _ h=>h) hk h),
   aH.keepG (fun _ h=>h) hk h.us (bJ.mono fun _ _ h=>aH.keepG (fun _ h=>h) hk h fun _ _ h=>h)⟩
theorem Mt.right (h:Mt G w bm A0 c0 A1 c1 A2 c2 g vr vts vu) {k:Nat} (hk:k≤g.rules.length):∃ b off c A c',vr=.slice (some ⟨b,off,none⟩) (g.rules.length+1) c∧w.cell? ⟨b,off+k,none⟩=some (.slice A (g.rightAt k).length c')∧aF G w (.slice A (g.rightAt k).length c') (g.rightAt k):=by
  obtain ⟨b,off,c,u,h1,h2,h3,h4⟩:=dN h.rs (show k<g.rules.length+1 by omega);obtain ⟨A,c',rfl,_⟩:=aH.shape h4;exact ⟨b,off,c,A,c',h1,h3,h4⟩
theorem Mt.tail (h:Mt G w bm A0 c0 A1 c1 A2 c2 g vr vts vu) {k:Nat} (hk:k≤g.rules.length) (hd:0<(g.rightAt k).length):∃ b off c c' b' off' bS bwS X em,vts=.slice (some ⟨b,off,none⟩) (g.rules.length+1) c∧w.cell? ⟨b,off+k,none⟩=some (.slice (some ⟨b',off',none⟩) (g.rightAt k).length c')∧w.cell? ⟨b',off',none⟩=some (.pointer (some ⟨bS,0,none⟩))∧w.cell? ⟨b',off'+1,none⟩=some (.bool em)∧BSet w bS bwS (g.terms.length+1) X:=by
  obtain ⟨b,off,c,u,h1,h2,h3,h4⟩:=dN h.ts (show k<g.rules.length+1 by omega);obtain ⟨A',c',rfl,_,_,h6⟩:=h4;obtain ⟨b',off',rfl,h8,h9⟩:=h6 (by omega);obtain ⟨vs,_,⟨p,em,rfl,bS,bwS,X,rfl,_,_,h10⟩,h11⟩:=h9 0 hd;exact ⟨b,off,c,c',b',off',bS,bwS,X,em,h1,h3,by simpa using h11 0 _ rfl,by simpa using h11 1 _ rfl,h10⟩
theorem Mt.rules (h:Mt G w bm A0 c0 A1 c1 A2 c2 g vr vts vu) {t:Nat} (hs:t≤g.top):∃ b off c A' c',vu=.slice (some ⟨b,off,none⟩) (g.top+1) c∧w.cell? ⟨b,off+t,none⟩=some (.slice A' (ofR (t:Int) g.rules 0).length c')∧aF G w (.slice A' (ofR (t:Int) g.rules 0).length c') (ofR (t:Int) g.rules 0):=by
  obtain ⟨b,off,c,u,h1,h2,h3,h4⟩:=dN h.us (show t<g.top+1 by omega);obtain ⟨A',c',rfl,_⟩:=aH.shape h4;exact ⟨b,off,c,A',c',h1,h3,h4⟩
end
def nth:List Value→Nat→Value
  | [],_=>.int .i64 0
  | v::_,0=>v
  | _::l,n+1=>nth l n
theorem exf (F:(Nat→Value)→Array Value) (A:Array Value) (h:A=F (nth A.toList)):∃ f:Nat→Value,(⟨A,[]⟩:Act)=⟨F f,[]⟩:=⟨_,by rw [← h]⟩
theorem FG {n m:Nat} {w:World} {x:Cme} (hn:n≤31) (hm:m≤240):2*pot n m w [x]+1≤1040000000000:=by
  have h2:2 ^ n≤2 ^ 31:=Nat.pow_le_pow_right (by omega) hn;have h3:(m-1)*(2 ^ n+2)≤239*(2 ^ 31+2):=Nat.mul_le_mul (by omega) (by omega);have h4:pot n m w [x]=(m-1)*(2 ^ n+2)+dL n w x:=by simp [pot]
  have h5:dL n w x≤2 ^ n+1:=by unfold dL;generalize 2 ^ n=y;split <;> omega
  have e:(2:Nat) ^ 31=2147483648:=rfl;rw [e] at h2 h3;rw [h4];generalize (m-1)*(2 ^ n+2)=z at *;omega
theorem aF.gof {G:Nat→Prop} {w:World} {b o:Nat} {n c:Nat} {l:List Int} (h:aF G w (.slice (some ⟨b,o,none⟩) n c) l) (hl:0<l.length):G b:=by
  obtain ⟨A',c',e1,_,_,h4⟩:=h;obtain ⟨b',off,h5,h6,_⟩:=h4 hl
  injection e1 with e1 _ _
  rw [h5] at e1
  injection e1 with e1
  injection e1 with e1 _
  rw [e1];exact h6
def sS (g:Gm) (s:Int) (w:World) (e:Ending) (w':World):Prop:=
  (∃ v xs vt T,e=.returned v∧Cx w.heap.size (g.terms.length+1) g s w.heap.size w' v xs vt T)∧Below w.heap.size w w'
theorem AB (G:Nat→Prop) (w:World) (bm:Nat) (A0:Option Addr) (c0:Nat) (A1:Option Addr) (c1:Nat) (A2:Option Addr) (c2:Nat) (g:Gm) (vr vts vu:Value) (s:Int) (h:Mt G w bm A0 c0 A1 c1 A2 c2 g vr vts vu) (hkn:g.Known) (hN:g.N s) (hlx:∀ r∈g.rules,r.2.length≤8) (hlr:g.rules.length≤300) (hn31:g.terms.length+1≤31) (htp:g.top≤240):
    Calls Tryz.prog 221 #[.pointer (some ⟨bm,0,none⟩),.int .i64 s] w fun e w'=>sS g s w e w':=by
  have H:=Ha h;have hn:g.terms.length+1≤64:=by omega
  have H4:=mF G;unfold ag at H4;have HNP:=Ha H4;clear H4;have hmm:=@run_makeMap Tryz.prog;have hmade:=MG.made (κ:=Int) (kT:=3) (eT:=3) (kl:=Lit.int .i64) (el:=Lit.int .i64) (z0:=0) w;have hb1:Below w.heap.size w (w.alloc (.map #[] 0)):=(gR _ _).alloc (gO _) _;generalize hW1:w.alloc (.map #[] 0)=w1 at *;have hsN:-9223372036854775808≤s∧s≤9223372036854775807:=by unfold Gm.N at hN;omega
  obtain ⟨w2,hins,hm2,hc2,hs2⟩:=MG.store sII hmade (x:=s) (v:=0) hsN (by unfold inR;omega) (by omega);have hB2:Below w.heap.size w w2:=hb1.trans (hc2.below (fun k e=>by subst e;exact gO _) hb1.size);have h2:=h.on hB2;obtain ⟨HSET,HM2,HB2,HNN,HKN⟩:=hs5 (CX (fun _=>False) w2 bm (g.terms.length+1) g.terms.length A0 c0 none 0 [] h2.gb.x0 (fun _ h=>h.elim) aH.nil0 (fun _ h=>by cases h) rfl hn) hm2 hB2 hN hkn;clear h hmade hb1 hm2 hc2 hs2 hB2 h2 hN hkn hsN;go_enter Tryz.func221,Tryz.ntmps221;go_wp2_with fail;refine nB 0 (fun m' a' w'=>∃ (vo vt:Value) (xs:List Cme) (T:List Int),(∃ f:Nat→Value,a'=⟨#[.pointer (some ⟨bm,0,none⟩),.int .i64 s,undef,undef,.slice none 0 0,.map (some w.heap.size),vo,vt,(f 8),undef,(f 10),(f 11),(f 12),(f 13),(f 14),(f 15),(f 16),(f 17),(f 18),(f 19),(f 20),(f 21),(f 22),(f 23),(f 24),(f 25),(f 26),(f 27),(f 28),(f 29),(f 30),(f 31),(f 32),(f 33),(f 34),(f 35),(f 36),(f 37),(f 38),(f 39),(f 40),(f 41),(f 42),(f 43),(f 44),(f 45),(f 46),(f 47),(f 48),(f 49),(f 50),(f 51),(f 52),(f 53),(f 54),(f 55),(f 56),(f 57),(f 58),(f 59),(f 60),(f 61),(f 62),(f 63),(f 64),(f 65),(f 66),(f 67),(f 68),(f 69),(f 70),(f 71),(f 72),(f 73),(f 74),(f 75),(f 76),(f 77),(f 78),(f 79),(f 80),(f 81),(f 82),(f 83),(f 84),(f 85),(f 86),(f 87),(f 88),(f 89),(f 90),(f 91),(f 92),(f 93),(f 94),(f 95),(f 96),(f 97),(f 98),(f 99),(f 100),(f 101),(f 102),(f 103),(f 104),(f 105),(f 106),(f 107),(f 108),(f 109),(f 110),(f 111),(f 112),(f 113),(f 114),(f 115),(f 116),(f 117),(f 118)],[]⟩)∧Cx w.heap.size (g.terms.length+1) g s w.heap.size w' vo xs vt T∧2*pot (g.terms.length+1) g.top w' xs+T.length=m'∧m'≤1040000000000∧Below w.heap.size w w') rfl ?_ ?_
  · rintro m' a' w1 ⟨vo,vt,xs,T,⟨f,rfl⟩,hcx,hm',hmx,hbel⟩;obtain ⟨HC,HBE,HMM⟩:=hs3 hcx hbel hm';obtain ⟨gq,oq,cq,rfl,hqc⟩:=hcx.que.shape;clear HSET HM2 HB2 hins hmm hcx hbel hm' hW1;cases T with
    | nil=>
      go_wp2_with fail;simp only [Exit.jump];go_ret;exact ⟨⟨vo,xs,_,[],rfl,HC.out⟩,HBE.out⟩
    | cons t0 T=>
      have hq2:=HC.out.que;rw [gG] at hq2 hqc;have z0:=hq2.cell (i:=0) (by simp);rw [Nat.add_zero,show (t0::T)[0]=t0 from rfl] at z0;have htl:=hq2.tail;rw [Nat.add_sub_cancel] at htl;generalize hAe:(if cq=1 then some ⟨gq,oq,none⟩ else some ⟨gq,oq+1,none⟩:Option Addr)=A' at htl;obtain ⟨ht0,ht1⟩:=HC.out.tin t0 (by simp);obtain ⟨p,rfl⟩:∃ p:Nat,t0=(p:Int):=⟨t0.toNat,by omega⟩;have hpx:p<xs.length:=by omega
      obtain ⟨bo,co,cs,rfl,hBo,hbo,hcells⟩:=lO HC.out.row HC.out.ne;obtain ⟨⟨xq,⟨bX,bwX⟩,sfX⟩,hxe⟩:∃ x,xs[p]? = some x:=⟨_,List.getElem?_eq_getElem hpx⟩;obtain ⟨k0,k1,k2⟩:=hcells p _ hxe;have hxm:=List.mem_of_getElem? hxe;obtain ⟨hxN,hxL⟩:=HC.out.lc _ hxm;simp only at k0 k1 k2 hxN hxL;obtain ⟨xn,rfl⟩:∃ xn:Nat,xq=(xn:Int):=⟨xq.toNat,by unfold Gm.N at hxN;omega⟩;have hxt:xn≤g.top:=by unfold Gm.N at hxN;omega
      have r0:=aA hbo _ _ k0;have r1:=aA hbo _ _ k1;have r2:=aA hbo _ _ k2;have hb8:Below w1.heap.size w1 (w1.alloc (.cells #[.int .i64 xn,.pointer (some ⟨bX,0,none⟩),.bool sfX] 303)):=(gR _ _).alloc (gO _) _;have q8:=aC w1 (.cells #[.int .i64 xn,.pointer (some ⟨bX,0,none⟩),.bool sfX] 303);generalize hW8:w1.alloc (.cells #[.int .i64 xn,.pointer (some ⟨bX,0,none⟩),.bool sfX] 303)=w8 at *;have hT8:2*pot (g.terms.length+1) g.top w1 xs+(T.length+1)=m':=HMM.out;have hcx8:=(HC.out.below hb8).pop (htl.below hb8) fun t ht=>List.mem_cons_of_mem _ ht;have hp8:=HC.out.pot_below hb8 g.top;have hB8:Below w.heap.size w w8:=HBE.out.trans (hb8.mono HBE.out.size);have ht8:=H.out.on hB8;obtain ⟨bv,ov,cv,Ak,ck,hvu,y0,hkl⟩:=ht8.rules hxt;have y7:=ht8.m7;rw [hvu] at y7;obtain ⟨kl,hkle⟩:∃ kl,kl=ofR (xn:Int) g.rules 0:=⟨_,rfl⟩;rw [← hkle] at y0 hkl;have hkll:kl.length≤300:=by rw [hkle];have:=eY (xn:Int) g.rules 0;omega
      have e0:w8.drew.cell? ⟨bm,7,none⟩=some (.slice (some ⟨bv,ov,none⟩) (g.top+1) cv):=y7;have e1:w8.drew.cell? ⟨w1.heap.size,0,none⟩=some (.int .i64 (xn:Int)):=aA q8 0 _ rfl;have e2:w8.drew.cell? ⟨bv,ov+xn,none⟩=some (.slice Ak kl.length ck):=y0;have hp0:(0:Int)≤(p:Int):=by omega
      have hp1:(p:Int)<(xs.length:Int):=by omega
      have hx0:(0:Int)≤(xn:Int):=by omega
      have hx1:(xn:Int)<(g.top:Int)+1:=by omega
      have hc0:(1:Int)≤(cq:Int):=by omega
      have hl1:(1:Int)≤(T.length:Int)+1:=by omega
      have hllc:(T.length:Int)+1≤(cq:Int):=by omega
      have HKL:=Ha (show aF G w8.drew (.slice Ak kl.length ck) kl from aH.keepG (w:=w8) (w':=w8.drew) (fun _ h=>h) (fun _ _=>rfl) hkl fun _ _ h=>h);have HKE:=Ha hkle;have HXL:=Ha hxL;have HCX:=Ha (hcx8.below (gR w8.heap.size w8).drew);have HPT:=Ha (show 2*pot (g.terms.length+1) g.top w8.drew xs+T.length<m' from by
        rw [hcx8.pot_below (gR w8.heap.size w8).drew g.top,hp8];omega)
      obtain ⟨HQ8,HBD,HXM⟩:=hs3 (show w8.drew.heap[w1.heap.size]? = some (.cells #[.int .i64 xn,.pointer (some ⟨bX,0,none⟩),.bool sfX] 303 (0,0)) from q8) (show Below w.heap.size w w8.drew∧bo<w1.heap.size from ⟨hB8.drew,(gL hbo).1⟩) (show ∃ y∈xs,y.2.1=(bX,bwX) from ⟨_,hxm,rfl⟩);clear hq2 htl hcells k0 k1 k2 hxe hxm hxN hxL hb8 hcx8 hp8 hB8 ht8 hvu y0 y7 hkl hkle q8 hbo;rw [gG];go_wp2_with fail
      go_region
      go_wp2_with fail;clear e0 e1 e2 z0 r0 r1 r2;generalize hWd:w8.drew=w9 at *;generalize hb8e:w1.heap.size=b8 at *;clear hWd hb8e hW8 hAe;have htz:((T.length:Int)+1==0)=false:=by rw [gJ];omega
      rw [htz];clear htz;have HTL:=Ha hmx;have HLX:=Ha hlx;clear hmx hlx hp0 hp1 hx0 hx1 hc0 hl1 hllc hqc ht0 ht1 hpx HC HBE HMM
      go_loopw [6,7,44] (fun ov tv iv wr=>∃ (j:Nat) (xs':List Cme) (T':List Int),j≤kl.length∧iv=.int .i64 j∧Cx w.heap.size (g.terms.length+1) g s w.heap.size wr ov xs' tv T'∧2*pot (g.terms.length+1) g.top wr xs'+T'.length<m'∧Below w.heap.size w wr∧wr.heap[b8]? = some (.cells #[.int .i64 xn,.pointer (some ⟨bX,0,none⟩),.bool sfX] 303 (0,0))∧ov.ownBlock≠some b8∧∃ y∈xs',y.2.1=(bX,bwX)) (fun _ _ iv _=>kl.length-(intOf iv).toNat)
      case atStart=>
        exact ⟨0,xs,T,gX _,rfl,HCX.out,HPT.out,HBD.out.1,HQ8.out,fun e=>by have:=HBD.out.2;simp [Value.ownBlock] at e;omega,HXM.out⟩
      case round=>
        obtain ⟨j,xs',T',hj,rfl,hcx,hpt,hbr,hq8r,hown,hxm⟩:=hrel;obtain ⟨HCR,HPR,HBR,HQR,HOW,HXR⟩:=hs6 hcx hpt hbr hq8r hown hxm;clear hcx hpt hbr hq8r hown hxm HCX HPT HXM;by_cases hlt:j<kl.length
        case neg=>
          obtain rfl:j=kl.length:=by omega
          go_wp2_with fail
          go_step3
          exact ⟨rfl,_,HPR.out,_,_,_,_,exf _ _ rfl,HCR.out,rfl,by have h1:=HPR.out;have h2:=HTL.out;omega,HBR.out⟩
        case pos=>
          obtain ⟨gq2,oq2,cq2,rfl,hqc2⟩:=HCR.out.que.shape;obtain ⟨bq,oq',rfl,zq⟩:=aF.get HKL.out hlt;have hgq:G bq:=aF.gof HKL.out (by omega);have hlo:=H.out.gb.old _ hgq;have zq:=(gM (a:=⟨bq,oq'+j,none⟩) ((HBR.out.block bq hlo).trans (HBD.out.1.block bq hlo).symm)).trans zq;obtain ⟨kk,hkk,hkr,hke⟩:∃ kk:Nat,∃ h:kk<g.rules.length,g.rules[kk].1=(xn:Int)∧kl[j]=(kk:Int):=by
            have h1:kl[j]∈ofR (xn:Int) g.rules 0:=HKE.out▸gN hlt;obtain ⟨i',e,h2,h3⟩:=fW (xn:Int) g.rules 0 _ h1;exact ⟨i',h2,h3,by rw [e,Nat.zero_add]⟩
          rw [hke] at zq;have hmt:=H.out.on HBR.out;obtain ⟨br,orr,cr,Ar,car,hvr,t0,hri⟩:=hmt.right (show kk≤g.rules.length by omega);have y5:=hmt.m5;rw [hvr] at y5;obtain ⟨rk,hrk⟩:∃ rk,rk=(g.rightAt kk).length:=⟨_,rfl⟩;have hrk8:rk≤1000:=by have:=kB HLX.out kk;omega
          rw [← hrk] at t0;have HRK:=Ha hrk;clear hrk;have hkk0:(0:Int)≤(kk:Int):=by omega
          have hkk1:(kk:Int)<(g.rules.length:Int)+1:=by omega
          by_cases h0:rk=0
          · subst h0;clear hri hmt hgq hlo hke hvr HRK;go_wp2_with fail
            go_region
            go_wp2_with fail
            go_roundw
            case rel=>exact ⟨j+1,xs',T',hlt,by go_num,HCR.out.below (gR _ _).drew,by rw [HCR.out.pot_below (gR _ _).drew];exact HPR.out,HBR.out.drew,HQR.out,HOW.out,HXR.out⟩
            case measure=>simp only [intOf];omega
          · obtain ⟨b1, o1, rfl, z0⟩ := aF.get hri (show 0 < (g.rightAt kk).length by rw [← HRK.out]; omega); obtain ⟨q, hqe⟩ : ∃ q, q = (g.rightAt kk)[0]'(by rw [← HRK.out]; omega) := ⟨_, rfl⟩; rw [← hqe, Nat.add_zero] at z0; have hb1l : b1 < w.heap.size := H.out.gb.old _ (aF.gof hri (by rw [← HRK.out]; omega)); have hqx : q = g.nxt ((kk : Int), ((0 : Nat) : Int)) := by
              rw [hqe];unfold Gm.nxt;rw [List.getD_eq_getElem?_getD,show ((((kk:Int),((0:Nat):Int)):Itm).2.toNat)=0 from rfl,show ((((kk:Int),((0:Nat):Int)):Itm).1.toNat)=kk from rfl,List.getElem?_eq_getElem];rfl
            have HQX:=Ha (show g.N q→g.Lc s q from fun h=>by rw [hqx] at h ⊢;exact .step hkk (hkr▸HXL.out) h);have HS6:=Ha (show ∀ X,Below wr.heap.size wr X→X.cell? ⟨bm,0,none⟩=some (.slice A0 g.terms.length c0)∧X.cell? ⟨bm,1,none⟩=some (.slice A1 g.nons.length c1)∧X.cell? ⟨bm,2,none⟩=some (.slice A2 g.rules.length c2)∧X.cell? ⟨bm,3,none⟩=some (.int .i64 g.start)∧X.cell? ⟨b1,o1,none⟩=some (.int .i64 q) from
              fun X hX=>⟨(hmt.gb.on hX).x0,(hmt.gb.on hX).x1,(hmt.gb.on hX).x2,(hmt.gb.on hX).x3,aD z0 hX⟩)
            have HN6:=Ha (fun X (hX:Below wr.heap.size wr X)=>HNP.out X _ g q (hmt.gb.on hX).old (hmt.gb.on hX).gm (by omega));have RD:=Ha (show Below wr.heap.size wr wr.drew from (gR _ _).drew);have hr1:(0:Int)<(rk:Int):=by omega
            have hr2:0<rk:=by omega
            have hrz:((rk:Int)==0)=false:=by rw [gJ];omega
            clear hmt hri hgq hlo hke hvr hqe hqx;go_wp2_with fail
            go_region_held3 (fun X=>X.cell? ⟨bm,0,none⟩=some (.slice A0 g.terms.length c0)∧X.cell? ⟨bm,1,none⟩=some (.slice A1 g.nons.length c1)∧X.cell? ⟨bm,2,none⟩=some (.slice A2 g.rules.length c2)∧X.cell? ⟨bm,3,none⟩=some (.int .i64 g.start)∧X.cell? ⟨b1,o1,none⟩=some (.int .i64 q))
              (exact HS6.out _ (by first | exact RD.out | exact hb6))
              (first
                | (go_at_call 81
                   with_reducible refine Calls.mono (HN6.out _ RD.out) ?_
                   rintro e w6 ⟨rfl,hb6⟩;have hb6:=RD.out.trans hb6;dsimp only))
            have HB6:=Ha hb6;clear hb6;by_cases hN:g.N q
            case neg=>
              have hdn:(decide (g.N q))=false:=decide_eq_false hN;rw [hdn];go_wp2_with fail
              go_roundw
              case rel=>exact ⟨j+1,xs',T',hlt,by go_num,HCR.out.below HB6.out,by rw [HCR.out.pot_below HB6.out];exact HPR.out,HBR.out.trans (HB6.out.mono HBR.out.size),(HB6.out.block _ (gL HQR.out).1).trans HQR.out,HOW.out,HXR.out⟩
              case measure=>simp only [intOf];omega
            case pos=>
              rw [decide_eq_true hN];have HNQ:=Ha hN;have hcx6:=HCR.out.below HB6.out;obtain ⟨ff,nm,hmg,hnm,hfm,hfx⟩:=hcx6.mp;have hqr:-9223372036854775808≤q∧q≤9223372036854775807:=by unfold Gm.N at hN;omega
              have hlook:=MG.look sII hmg (x:=q) (by unfold inR;omega);obtain ⟨okb,hokb⟩:∃ okb,okb=(ff q).isSome:=⟨_,rfl⟩;obtain ⟨v0,hv0⟩:∃ v0,v0=(ff q).getD 0:=⟨_,rfl⟩;rw [← hokb,← hv0] at hlook;have z6:=(HS6.out _ HB6.out).2.2.2.2;obtain ⟨HCX6,HMG,HOK⟩:=hs3 hcx6 (gS hmg (gS hnm (gS hfm hfx))) (gS hokb hv0);obtain ⟨Ao,co',rfl,_⟩:=hcx6.row.shape;have hxl:=hcx6.len;clear hcx6 hmg hnm hfm hfx hokb hv0 hN
              go_upto_if 78 with fail
              go_cut [6,12] (fun o2 at2 wx=>∃ (xs2:List Cme) (i:Nat),at2=.int .i64 i∧i<xs2.length∧Cx w.heap.size (g.terms.length+1) g s w.heap.size wx o2 xs2 (.slice (some ⟨gq2,oq2,none⟩) T'.length cq2) T'∧pot (g.terms.length+1) g.top wx xs2≤pot (g.terms.length+1) g.top wr xs'∧(okb=false→pot (g.terms.length+1) g.top wx xs2<pot (g.terms.length+1) g.top wr xs')∧Below w.heap.size wr wx∧wx.heap[b8]? = some (.cells #[.int .i64 xn,.pointer (some ⟨bX,0,none⟩),.bool sfX] 303 (0,0))∧o2.ownBlock≠some b8∧∃ y∈xs2,y.2.1=(bX,bwX))
              case first=>
                cases okb
                · have hfn:ff q=none:=by
                    have h1:=HOK.out.1;cases h:ff q with
                    | none=>rfl
                    | some v=>rw [h] at h1;cases h1
                  have hwB:=HBR.out.size;have hw6:=HB6.out.size;obtain ⟨w7,hins2,hm7,hc7,hs7⟩:=MG.store sII HMG.out.1 (x:=q) (v:=(xs'.length:Int)) hqr (by unfold inR;omega) (by have:=HMG.out.2.1;omega);rw [hfn] at hm7;have hB7:Below w.heap.size w w7:=(HBR.out.trans (HB6.out.mono HBR.out.size)).trans (hc7.below (fun k e=>by subst e;exact gO _) (by omega));have hmt7:=H.out.on hB7;have z7:w7.cell? ⟨b1,o1,none⟩=some (.int .i64 q):=(gM (a:=⟨b1,o1,none⟩) (hc7.same b1 (by omega) (by omega))).trans z6;obtain ⟨RD7,HSET,HM7,HFN,HZ7⟩:=hs5 (show Below w7.heap.size w7 w7.drew from (gR _ _).drew) (CX (fun _=>False) w7.drew bm (g.terms.length+1) g.terms.length A0 c0 none 0 [] hmt7.gb.x0 (fun _ h=>h.elim) aH.nil0 (fun _ h=>by cases h) rfl hn) (gS hm7 (gS hc7 hs7)) hfn z7;clear hmt7 hm7 hc7 hs7 hfn hB7;go_wp2_with fail;refine aE.start 9 (fun X=>X.cell? ⟨b1,o1,none⟩=some (.int .i64 q)) (by kernel_rfl) ?hs_1 (fun hHeld=>?hr_1)
                  case hs_1=>exact HZ7.out
                  refine aE.tks [0,1,2,3,4] ?_
                  iterate 5
                    refine aK.cons ?_;simp only [gA,gB,gC,Act.put,gD,gE,gF]
                  show aE _ _ _ _ _ _ _ _ _ _;refine aE.one (i:=5) fun K hK=>?_;simp only [gA,gB,gC]
                  go_simp
                  with_reducible refine Calls.mono HSET.out ?_
                  rintro e w8 ⟨⟨b,bw,X,rfl,hb,hbw,hset⟩,hb8⟩;have hb78:Below w7.heap.size w7 w8:=RD7.out.trans hb8;have hs77:w7.drew.heap.size=w7.heap.size:=rfl;obtain ⟨A4,c4,w9',hrun,hcx9,hpt9,hB9,hbx,how⟩:=HCX6.out.more HNQ.out (HQX.out HNQ.out) HMG.out.1 HMG.out.2.1 HMG.out.2.2.1 HMG.out.2.2.2 HFN.out HM7.out.1 (by show nm+1≤_;have:=HMG.out.2.1;omega) HM7.out.2.1 hb78 (show w.heap.size≤b by have:=HM7.out.2.2;omega) (show w.heap.size≤bw by have:=HM7.out.2.2;omega) hset (by omega);have hq6:w6.heap[b8]? = some (.cells #[.int .i64 xn,.pointer (some ⟨bX,0,none⟩),.bool sfX] 303 (0,0)):=(HB6.out.block _ (gL HQR.out).1).trans HQR.out;have hq9:=(hbx b8 ⟨_,hq6⟩ HOW.out).trans hq6;have hown9:(Value.slice A4 (xs'.length+1) c4).ownBlock≠some b8:=fun e=>by
                    rcases how with h | ⟨k,h,hk⟩
                    · exact HOW.out (h▸e)
                    · rw [h] at e
                      injection e with e
                      have:=(gL hq6).1;omega
                  have hxm9:∃ y∈xs'++[(q,(b,bw),false)],y.2.1=(bX,bwX):=by
                    obtain ⟨y,hy,e⟩:=HXR.out;exact ⟨y,List.mem_append_left _ hy,e⟩
                  rw [HCR.out.pot_below HB6.out] at hpt9;have hl9:xs'.length<(xs'++[(q,(b,bw),false)]).length:=by rw [gI,gZ];omega
                  have z8:w8.cell? ⟨b1,o1,none⟩=some (.int .i64 q):=aD HZ7.out hb78;have z8a:(w8.alloc (.cells #[.int .i64 q,.pointer (some ⟨b,0,none⟩),.bool false] 303)).cell? ⟨b1,o1,none⟩=some (.int .i64 q):=aD z8 ((gR _ _).alloc (gO _) _);have z9:w9'.cell? ⟨b1,o1,none⟩=some (.int .i64 q):=(gM (a:=⟨b1,o1,none⟩) (hB9.block b1 hb1l)).trans z6;have HZ8:=Ha (gS z8 (gS z8a z9));have hB9r:Below w.heap.size wr w9':=(HB6.out.mono HBR.out.size).trans hB9;have HF:=Ha (gS hl9 (gS hcx9 (gS hpt9 (gS hB9r (gS hq9 (gS hown9 hxm9))))));clear hl9 hcx9 hpt9 hB9 hB9r hq9 hown9 hxm9 hq6 hbx how hb hbw hset hb8 hb78 z8 z8a z9;dsimp only;refine hK.out _ _ ?_ (fun hHeld=>?_)
                  · exact HZ8.out.1
                  clear hK K;try simp only [Act.put,gD,gE,gF]
                  refine aE.one (i:=6) fun K hK=>?_;simp only [gA,gB,gC]
                  go_simp
                  refine hK.out _ _ ?_ (fun hHeld=>?_)
                  · exact HZ8.out.1
                  clear hK K;try simp only [Act.put,gD,gE,gF]
                  refine aE.one (i:=7) fun K hK=>?_;simp only [gA,gB,gC]
                  go_simp
                  refine hK.out _ _ ?_ (fun hHeld=>?_)
                  · exact HZ8.out.2.1
                  clear hK K;try simp only [Act.put,gD,gE,gF]
                  refine aE.one (i:=8) fun K hK=>?_;simp only [gA,gB,gC]
                  go_simp
                  refine hK.out _ _ ?_ (fun hHeld=>?_)
                  · exact HZ8.out.2.2
                  clear hK K;try simp only [Act.put,gD,gE,gF]
                  refine aE.last fun K hK=>?_;simp only [gA,gB,gC]
                  go_simp
                  refine hK.out _ _ (aE.done (by kernel_rfl) ?_ _);go_wp2_with fail
                  go_meet
                  exact ⟨_,xs'.length,rfl,HF.out.1,HF.out.2.1,Nat.le_of_lt HF.out.2.2.1,fun _=>HF.out.2.2.1,HF.out.2.2.2⟩
                · obtain ⟨v,hv⟩:∃ v,ff q=some v:=by
                    have h1:=HOK.out.1;cases h:ff q with
                    | none=>rw [h] at h1;cases h1
                    | some v=>exact ⟨v,rfl⟩
                  have hvv:v0=v:=by rw [HOK.out.2,hv];rfl
                  obtain ⟨hv1,x,hx,_⟩:=HMG.out.2.2.1 q v hv;have HV:=Ha (show v0=((v.toNat:Nat):Int)∧v.toNat<xs'.length from ⟨by omega,(gY hx).1⟩);have HQ6:=Ha ((HB6.out.block _ (gL HQR.out).1).trans HQR.out);clear hv hvv hv1 hx;go_wp2_with fail
                  go_meet
                  exact ⟨xs',v.toNat,by rw [HV.out.1],HV.out.2,HCX6.out,Nat.le_of_eq (HCR.out.pot_below HB6.out _),(fun h=>by cases h),HB6.out.mono HBR.out.size,HQ6.out,HOW.out,HXR.out⟩
              case rest=>
                obtain ⟨xs2,i,rfl,hi2,hcx,hp1,hp2,hb,hq,how,hxm⟩:=hcut;obtain ⟨bo2,co2,cs2,rfl,hBo2,hbo2,hcells2⟩:=lO hcx.row hcx.ne;obtain ⟨⟨xq2,⟨bT,bwT⟩,sf2⟩,hxe2⟩:∃ x,xs2[i]? = some x:=⟨_,List.getElem?_eq_getElem hi2⟩;obtain ⟨_,k1,k2⟩:=hcells2 i _ hxe2;obtain ⟨_,_,XT,hXT⟩:=hcx.sets _ (List.mem_of_getElem? hxe2);obtain ⟨yy,hyy,hye⟩:=hxm;obtain ⟨_,_,XX,hXX⟩:=hcx.sets yy hyy;rw [hye] at hXX;simp only at k1 k2 hXT hXX;obtain ⟨bt,ot,ct,ct2,bu,ou,bS,bwS,XS,em,hvt,t0,t1,t2,hXS⟩:=H.out.tail (show kk≤g.rules.length by omega) (show 0<(g.rightAt kk).length by rw [← HRK.out];omega);rw [← HRK.out] at t0;have y6:=H.out.m6;rw [hvt] at y6;have hBC:Below w.heap.size w wc:=HBR.out.trans hb;have hXSc:=hXS.below hBC;have HHA:=Ha (GY wc.drew bm bo2 (i*3) (g.terms.length+1) cs2 (xn:Int) sfX em sf2 bX bwX XX bT bwT XT bS bwS XS hbo2 k1 k2 (hXX.keep rfl rfl) (hXT.keep rfl rfl) (hXSc.keep rfl rfl) hn);have HS:=Ha (show ∀ X,Below w.heap.size w X→X.heap[b8]? = some (.cells #[.int .i64 xn,.pointer (some ⟨bX,0,none⟩),.bool sfX] 303 (0,0))→X.cell? ⟨bm,6,none⟩=some (.slice (some ⟨bt,ot,none⟩) (g.rules.length+1) ct)∧X.cell? ⟨b8,0,none⟩=some (.int .i64 (xn:Int))∧X.cell? ⟨b8,1,none⟩=some (.pointer (some ⟨bX,0,none⟩))∧X.cell? ⟨b8,2,none⟩=some (.bool sfX)∧X.cell? ⟨bt,ot+kk,none⟩=some (.slice (some ⟨bu,ou,none⟩) rk ct2)∧X.cell? ⟨bu,ou,none⟩=some (.pointer (some ⟨bS,0,none⟩))∧X.cell? ⟨bu,ou+1,none⟩=some (.bool em) from
                  fun X hX h8=>⟨aD y6 hX,aA h8 0 _ rfl,aA h8 1 _ rfl,aA h8 2 _ rfl,aD t0 hX,aD t1 hX,aD t2 hX⟩)
                obtain ⟨HCX2,HPD,HP2,HBC,HQ8,HOX,HBO,HXT,HXE,HYY⟩:=hs10 (hcx.below (gR wc.heap.size wc).drew) (show pot (g.terms.length+1) g.top wc.drew xs2=pot (g.terms.length+1) g.top wc xs2 from hcx.pot_below (gR wc.heap.size wc).drew g.top) (gS hp1 hp2) (show Below w.heap.size w wc.drew from hBC.drew) (show wc.drew.heap[b8]? = some (.cells #[.int .i64 xn,.pointer (some ⟨bX,0,none⟩),.bool sfX] 303 (0,0)) from hq) how (show wc.drew.heap[bo2]? = some (.cells cs2 303 (0,0)) from hbo2) (show BSet wc.drew bT bwT (g.terms.length+1) XT from hXT.keep rfl rfl) hxe2 (show ∃ y∈xs2,y.2.1=(bX,bwX) from ⟨yy,hyy,hye⟩);have hi0:(0:Int)≤(i:Int):=by omega
                have hi1:(i:Int)<(xs2.length:Int):=by omega
                clear hcx hp1 hp2 hb hq how hbo2 hcells2 hxe2 k1 k2 hXT hyy hye hXX hvt t0 t1 t2 hXS y6 hBC hXSc hlook;go_wp2_with fail;refine aE.start 19 (fun X=>X.cell? ⟨bm,6,none⟩=some (.slice (some ⟨bt,ot,none⟩) (g.rules.length+1) ct)∧X.cell? ⟨b8,0,none⟩=some (.int .i64 (xn:Int))∧X.cell? ⟨b8,1,none⟩=some (.pointer (some ⟨bX,0,none⟩))∧X.cell? ⟨b8,2,none⟩=some (.bool sfX)∧X.cell? ⟨bt,ot+kk,none⟩=some (.slice (some ⟨bu,ou,none⟩) rk ct2)∧X.cell? ⟨bu,ou,none⟩=some (.pointer (some ⟨bS,0,none⟩))∧X.cell? ⟨bu,ou+1,none⟩=some (.bool em)) (by kernel_rfl) ?hs_2 (fun hHeld=>?hr_2)
                case hs_2=>exact HS.out _ HBC.out HQ8.out
                refine aE.tks [0,1,2,3,4,5,6,7,8,9,10,11,12,13] ?_
                iterate 14
                  refine aK.cons ?_;simp only [gA,gB,gC,Act.put,gD,gE,gF]
                show aE _ _ _ _ _ _ _ _ _ _;refine aE.one (i:=14) fun K hK=>?_;simp only [gA,gB,gC]
                go_simp
                with_reducible refine Calls.mono HHA.out ?_
                rintro e w5 hpost;obtain ⟨mo,xs3,rfl,hl3,hcx3,hpt3,hmo3,hbb3,hmem3,hc3⟩:=HCX2.out.hand HBO.out HXE.out HXT.out hpost g.top;have hB5:Below w.heap.size w w5:=HBC.out.trans (hbb3 hBo2);have h85:=(hc3.same b8 (gL HQ8.out).1 (fun e=>by
                  rcases e with e | e
                  · exact TB.ne (T:=303) (T':=154) ⟨_,HQ8.out⟩ ⟨_,HXT.out.hw⟩ (by decide) e
                  · exact HOX.out (by rw [e];rfl))).trans HQ8.out
                have hmm5:∃ y∈xs3,y.2.1=(bX,bwX):=by
                  obtain ⟨y,hy,e⟩:=HYY.out;obtain ⟨y',hy',e'⟩:=hmem3 y hy;exact ⟨y',hy',e'.trans e⟩
                have hpa:pot (g.terms.length+1) g.top w5 xs3≤pot (g.terms.length+1) g.top wr xs':=by have h1:=HP2.out.1;have h2:=HPD.out;omega
                have hpb:(mo=true∨okb=false)→pot (g.terms.length+1) g.top w5 xs3<pot (g.terms.length+1) g.top wr xs':=fun h=>by
                  have h2:=HPD.out;rcases h with h | h
                  · have h3:=hmo3 h;have h1:=HP2.out.1;omega
                  · have h3:=HP2.out.2 h;omega
                obtain ⟨HI3,HF,HS5,HL3⟩:=hs4 (show i<xs3.length by omega) (gS hcx3 (gS hpa (gS hpb (gS hB5 (gS h85 hmm5))))) (HS.out _ hB5 h85) hl3;clear hl3 hcx3 hpt3 hmo3 hbb3 hmem3 hc3 hB5 h85 hmm5 hpa hpb hpost;dsimp only;cases mo
                case true=>
                  refine hK.out _ _ ?_ (fun hHeld=>?_)
                  · exact HS5.out
                  clear hK K;try simp only [Act.put,gD,gE,gF]
                  refine aE.one (i:=15) fun K hK=>?_;simp only [gA,gB,gC]
                  go_simp
                  refine hK.out _ _ ?_ (fun hHeld=>?_)
                  · exact HS5.out
                  clear hK K;try simp only [Act.put,gD,gE,gF]
                  refine aE.one (i:=16) fun K hK=>?_;simp only [gA,gB,gC]
                  go_simp
                  refine hK.out _ _ ?_ (fun hHeld=>?_)
                  · exact HS5.out
                  clear hK K;try simp only [Act.put,gD,gE,gF]
                  refine aE.one (i:=17) fun K hK=>?_;simp only [gA,gB,gC]
                  go_simp
                  refine hK.out _ _ ?_ (fun hHeld=>?_)
                  · exact HS5.out
                  clear hK K;try simp only [Act.put,gD,gE,gF]
                  refine aE.one (i:=18) fun K hK=>?_;simp only [gA,gB,gC]
                  go_simp
                  refine hK.out _ _ ?_ (fun hHeld=>?_)
                  · exact HS5.out
                  clear hK K;try simp only [Act.put,gD,gE,gF]
                  refine aE.done (by kernel_rfl) ?_ _;obtain ⟨v6,w6',hrun,hq6,hc6,_⟩:=HF.out.1.que.push (i:Int) (by have h1:=HPR.out;have h2:=HTL.out;omega) (gP (by have:=HBC.out.size;exact gO _) HF.out.2.2.2.1.size);obtain ⟨hcx6,hpp⟩:=HF.out.1.wait (i:=i) HI3.out hq6 hc6 g.top;obtain ⟨g6,o6,c6,rfl,_⟩:=hq6.shape;have hB6:Below w.heap.size w w6':=HF.out.2.2.2.1.trans (hc6.below (fun k e=>(HF.out.1.que.tb e).1) HF.out.2.2.2.1.size);have h86:=(hc6.same b8 (gL HF.out.2.2.2.2.1).1 (fun e=>TB.ne (T:=303) (T':=3) ⟨_,HF.out.2.2.2.2.1⟩ (HF.out.1.que.tb e).2 (by decide) rfl)).trans HF.out.2.2.2.2.1;rw [gI,gZ] at hrun hcx6;have hme:2*pot (g.terms.length+1) g.top w6' xs3+(T'++[(i:Int)]).length<m':=by
                    have h1:=HF.out.2.2.1 (.inl rfl);have h2:=HPR.out;rw [hpp,gI,gZ];omega
                  have HG:=Ha (gS hcx6 (gS hme (gS hB6 h86)));clear hq6 hc6 hcx6 hpp hme hB6 h86;go_wp2_with fail
                  go_roundw
                  case rel=>exact ⟨j+1,xs3,T'++[(i:Int)],hlt,by go_num,HG.out.1,HG.out.2.1,HG.out.2.2.1,HG.out.2.2.2,HOX.out,HF.out.2.2.2.2.2⟩
                  case measure=>simp only [intOf];omega
                case false=>
                  cases okb
                  case false=>
                    refine hK.out _ _ ?_ (fun hHeld=>?_)
                    · exact HS5.out
                    clear hK K;try simp only [Act.put,gD,gE,gF]
                    refine aE.one (i:=15) fun K hK=>?_;simp only [gA,gB,gC]
                    go_simp
                    refine hK.out _ _ ?_ (fun hHeld=>?_)
                    · exact HS5.out
                    clear hK K;try simp only [Act.put,gD,gE,gF]
                    refine aE.one (i:=16) fun K hK=>?_;simp only [gA,gB,gC]
                    go_simp
                    refine hK.out _ _ ?_ (fun hHeld=>?_)
                    · exact HS5.out
                    clear hK K;try simp only [Act.put,gD,gE,gF]
                    refine aE.one (i:=17) fun K hK=>?_;simp only [gA,gB,gC]
                    go_simp
                    refine hK.out _ _ ?_ (fun hHeld=>?_)
                    · exact HS5.out
                    clear hK K;try simp only [Act.put,gD,gE,gF]
                    refine aE.one (i:=18) fun K hK=>?_;simp only [gA,gB,gC]
                    go_simp
                    refine hK.out _ _ ?_ (fun hHeld=>?_)
                    · exact HS5.out
                    clear hK K;try simp only [Act.put,gD,gE,gF]
                    refine aE.done (by kernel_rfl) ?_ _;obtain ⟨v6,w6',hrun,hq6,hc6,_⟩:=HF.out.1.que.push (i:Int) (by have h1:=HPR.out;have h2:=HTL.out;omega) (gP (by have:=HBC.out.size;exact gO _) HF.out.2.2.2.1.size);obtain ⟨hcx6,hpp⟩:=HF.out.1.wait (i:=i) HI3.out hq6 hc6 g.top;obtain ⟨g6,o6,c6,rfl,_⟩:=hq6.shape;have hB6:Below w.heap.size w w6':=HF.out.2.2.2.1.trans (hc6.below (fun k e=>(HF.out.1.que.tb e).1) HF.out.2.2.2.1.size);have h86:=(hc6.same b8 (gL HF.out.2.2.2.2.1).1 (fun e=>TB.ne (T:=303) (T':=3) ⟨_,HF.out.2.2.2.2.1⟩ (HF.out.1.que.tb e).2 (by decide) rfl)).trans HF.out.2.2.2.2.1;rw [gI,gZ] at hrun hcx6;have hme:2*pot (g.terms.length+1) g.top w6' xs3+(T'++[(i:Int)]).length<m':=by
                      have h1:=HF.out.2.2.1 (.inr rfl);have h2:=HPR.out;rw [hpp,gI,gZ];omega
                    have HG:=Ha (gS hcx6 (gS hme (gS hB6 h86)));clear hq6 hc6 hcx6 hpp hme hB6 h86;go_wp2_with fail
                    go_roundw
                    case rel=>exact ⟨j+1,xs3,T'++[(i:Int)],hlt,by go_num,HG.out.1,HG.out.2.1,HG.out.2.2.1,HG.out.2.2.2,HOX.out,HF.out.2.2.2.2.2⟩
                    case measure=>simp only [intOf];omega
                  case true=>
                    refine hK.out _ _ ?_ (fun hHeld=>?_)
                    · exact HS5.out
                    clear hK K;try simp only [Act.put,gD,gE,gF]
                    refine aE.one (i:=15) fun K hK=>?_;simp only [gA,gB,gC]
                    go_simp
                    refine hK.out _ _ ?_ (fun hHeld=>?_)
                    · exact HS5.out
                    clear hK K;try simp only [Act.put,gD,gE,gF]
                    refine aE.one (i:=16) fun K hK=>?_;simp only [gA,gB,gC]
                    go_simp
                    refine hK.out _ _ ?_ (fun hHeld=>?_)
                    · exact HS5.out
                    clear hK K;try simp only [Act.put,gD,gE,gF]
                    refine aE.one (i:=17) fun K hK=>?_;simp only [gA,gB,gC]
                    go_simp
                    refine hK.out _ _ ?_ (fun hHeld=>?_)
                    · exact HS5.out
                    clear hK K;try simp only [Act.put,gD,gE,gF]
                    refine aE.one (i:=18) fun K hK=>?_;simp only [gA,gB,gC]
                    go_simp
                    refine hK.out _ _ ?_ (fun hHeld=>?_)
                    · exact HS5.out
                    clear hK K;try simp only [Act.put,gD,gE,gF]
                    refine aE.done (by kernel_rfl) ?_ _;go_wp2_with fail
                    go_roundw
                    case rel=>exact ⟨j+1,xs3,T',hlt,by go_num,HF.out.1,by have h1:=HF.out.2.1;have h2:=HPR.out;omega,HF.out.2.2.2.1,HF.out.2.2.2.2.1,HOX.out,HF.out.2.2.2.2.2⟩
                    case measure=>simp only [intOf];omega
  · intro hp;go_wp2_with fail
    with_reducible refine Calls.mono HSET.out ?_
    rintro e w3 ⟨⟨b,bw,X,rfl,hb,hbw,hset⟩,hb3⟩;have hB3:Below w.heap.size w w3:=HB2.out.trans (hb3.mono HB2.out.size);have hb4:Below w3.heap.size w3 (w3.alloc (.cells #[.int .i64 s,.pointer (some ⟨b,0,none⟩),.bool true] 303)):=(gR _ _).alloc (gO _) _;have q4:=aC w3 (.cells #[.int .i64 s,.pointer (some ⟨b,0,none⟩),.bool true] 303);generalize hW4:w3.alloc (.cells #[.int .i64 s,.pointer (some ⟨b,0,none⟩),.bool true] 303)=w4 at *;have hq5:=Qr.one (B:=w.heap.size) (w:=w4) 0 (hB3.trans (hb4.mono hB3.size)).size;have hb5:Below w4.heap.size w4 (w4.alloc (.cells #[.int .i64 0] 3)):=(gR _ _).alloc (gO _) _;generalize hW5:w4.alloc (.cells #[.int .i64 0] 3)=w5 at *;have hb35:Below w3.heap.size w3 w5:=hb4.trans (hb5.mono hb4.size);have hB5:Below w.heap.size w w5:=hB3.trans (hb35.mono hB3.size);have q5:w5.heap[w3.heap.size]? = some (.cells #[.int .i64 s,.pointer (some ⟨b,0,none⟩),.bool true] 303 (0,0)):=(hb5.block _ (gL q4).1).trans q4;have hrow:aG w.heap.size 303 3 eL w5 (.slice (some ⟨w3.heap.size,0,none⟩) 1 1) [(s,(b,bw),true)]:=
      ⟨[[.int .i64 s,.pointer (some ⟨b,0,none⟩),.bool true]],⟨⟨rfl,rfl⟩,trivial⟩,rfl,.inr ⟨w3.heap.size,1,_,rfl,hB3.size,q5,gO _,by unfold maxLen;omega,rfl,rfl⟩⟩
    have HCX:=Ha (Cx.start (g:=g) (n:=(g.terms.length+1)) (bmap:=w.heap.size) HNN.out hrow (by have:=HB2.out.size;omega) (by have:=HB2.out.size;omega) (hset.below hb35) ((HM2.out.below hb3).below hb35) (by simp) hq5 hB5.size (gO _));have HB5:=Ha hB5;clear hb hbw hset hb3 hB3 hb4 q4 hq5 hb5 hb35 hB5 q5 hrow;go_wp2_with fail
    go_step3
    rename_i hK;exact hK _ _ (hp _ _ _ ⟨_,_,_,_,exf _ _ rfl,HCX.out,rfl,FG hn31 htp,HB5.out⟩)
end
theorem rL:(Tryz.prog.info? 26).map (fun i=>(i.zero,i.size,i.bytes))=some (some (.slice none 0 0),1,24):=by kernel_rfl
theorem BE:(Tryz.prog.info? 297).map (fun i=>(i.zero,i.size,i.bytes))=some (some (.slice none 0 0),1,24):=by kernel_rfl
theorem r4 (m:Nat):madeCells #[Value.slice none 0 0] (m*1)=Array.replicate m (.slice none 0 0):=by
 refine Array.ext (by simp [madeCells]) fun i h1 h2=>?_;simp [madeCells,Nat.mod_one]
theorem EY (w:World) {m:Nat} (hm:m≤1000):(Instr.makeSlice 92 (.int .i64 (m:Int)) (.int .i64 (m:Int))).run Tryz.prog w=.ok (.slice (some ⟨w.heap.size,0,none⟩) m m) (w.alloc (.cells (Array.replicate m (.slice none 0 0)) 26)):=by
 obtain ⟨i0,hi0,hz0,hz1,hz2⟩:=info_parts rL;have h:=run_make (P:=Tryz.prog) w 92 26 i0 _ Tryz.underlying92 hi0 hz0 .i64 .i64 (m:Int) (m:Int) (by omega) (Int.le_refl _) (by rw [hz2];omega) (by omega);rw [hz1,Int.toNat_natCast] at h;rw [← r4];exact h
theorem EX (w:World) {m:Nat} (hm:m≤1000):(Instr.makeSlice 244 (.int .i64 (m:Int)) (.int .i64 (m:Int))).run Tryz.prog w=.ok (.slice (some ⟨w.heap.size,0,none⟩) m m) (w.alloc (.cells (Array.replicate m (.slice none 0 0)) 297)):=by
 obtain ⟨i0,hi0,hz0,hz1,hz2⟩:=info_parts BE;have h:=run_make (P:=Tryz.prog) w 244 297 i0 _ Tryz.underlying244 hi0 hz0 .i64 .i64 (m:Int) (m:Int) (by omega) (Int.le_refl _) (by rw [hz2];omega) (by omega);rw [hz1,Int.toNat_natCast] at h;rw [← r4];exact h
structure Rl (B:Nat) (F:Nat→Prop) (w:World) (bR m:Nat) (vs:List Value) (R:Nat→List Int):Prop where
 row:w.heap[bR]? = some (.cells vs.toArray 26 (0,0))
 len:vs.length=m
 ints:∀ t (h:t<vs.length),aX B w vs[t] (R t)
 own:∀ t (h:t<vs.length) k,vs[t].ownBlock=some k→¬F k
 apart:∀ t t' (h:t<vs.length) (h':t'<vs.length) k,vs[t].ownBlock=some k→vs[t'].ownBlock=some k→t=t'
theorem Rl.push {B:Nat} {F:Nat→Prop} {w:World} {bR m:Nat} {vs:List Value} {R:Nat→List Int} (h:Rl B F w bR m vs R) {t:Nat} (ht:t<vs.length) (x:Int) (hlen:(R t).length≤1000) (hB:B≤w.heap.size) (hF:∀ k,F k→k<w.heap.size):
  ∃ v' w',WrA Tryz.prog #[26,26] 26 #[vs[t],.slice (some ⟨w.heap.size,0,none⟩) 1 1] (w.alloc (.cells #[.int .i64 x] 3))=.ok v' w'∧w'.heap[bR]? = w.heap[bR]? ∧ Chg (fun k=>vs[t].ownBlock=some k) w w'∧
   ∀ w'',w''.heap[bR]? = some (.cells (vs.set t v').toArray 26 (0,0))→(∀ k,k≠bR→k<w'.heap.size→w''.heap[k]? = w'.heap[k]?)→Rl B F w'' bR m (vs.set t v') (fun t'=>if t'=t then R t++[x] else R t'):=by
 obtain ⟨v',w',hrun,hr,hc,how⟩:=aG.pushC 26 Tryz.underlying26 cB rfl (by decide) cF.one 26 (us:=[.int .i64 x]) (x:=x) rfl rfl (h.ints t ht) (by omega) (by unfold maxLen;omega) hB;have hTR:TB 26 w bR:=⟨_,h.row⟩;have hne:∀ {k},TB 3 w k→k≠bR:=fun hk=>hk.ne hTR (by decide);have hR:w'.heap[bR]? = w.heap[bR]? := hc.same bR hTR.lt fun e=>hne ((h.ints t ht).tb e).2 rfl;refine ⟨v',w',hrun,hR,hc,fun w'' h1 h2=>⟨h1,by rw [List.length_set];exact h.len,fun t' ht'=>?_,fun t' ht' k hk=>?_,fun t1 t2 ht1 ht2 k hk1 hk2=>?_⟩⟩
 ·have ht2:t'<vs.length:=by simpa using ht'
  by_cases e:t'=t
  ·subst e;rw [List.getElem_set_self,if_pos rfl];refine aG.keep hr fun k hk=>?_;have hT:=(aG.tb hr hk).2;exact h2 k (hT.ne ⟨_,hR.trans h.row⟩ (by decide)) hT.lt
  ·rw [List.getElem_set_ne (Ne.symm e),if_neg e];refine aG.keep (h.ints t' ht2) fun k hk=>?_;have hT:=((h.ints t' ht2).tb hk).2;have e1:w'.heap[k]? = w.heap[k]? := hc.same k hT.lt fun e2=>e (h.apart t' t ht2 ht k hk e2);exact (h2 k (hne hT) (gK hT.lt hc.size)).trans e1
 ·have ht2:t'<vs.length:=by simpa using ht'
  by_cases e:t'=t
  ·subst e;rw [List.getElem_set_self] at hk;rcases how with hw | hw
   ·exact h.own t' ht2 k (hw▸hk)
   ·rw [hw] at hk
    injection hk with hk
    intro hf;have:=hF k hf;omega
  ·rw [List.getElem_set_ne (Ne.symm e)] at hk;exact h.own t' ht2 k hk
 ·have h3:t1<vs.length:=by simpa using ht1
  have h4:t2<vs.length:=by simpa using ht2
  have key:∀ t' (ht':t'<vs.length),t'≠t→vs[t'].ownBlock=some k→v'.ownBlock=some k→False:=fun t' ht' e hk hv=>by
   rcases how with hw | hw
   ·exact e (h.apart t' t ht' ht k hk (hw▸hv))
   ·rw [hw] at hv
    injection hv with hv
    have:=((h.ints t' ht').tb hk).2.lt;omega
  by_cases e1:t1=t <;> by_cases e2:t2=t
  ·rw [e1,e2]
  ·subst e1;rw [List.getElem_set_self] at hk1;rw [List.getElem_set_ne (Ne.symm e2)] at hk2;exact (key t2 h4 e2 hk2 hk1).elim
  ·subst e2;rw [List.getElem_set_self] at hk2;rw [List.getElem_set_ne (Ne.symm e1)] at hk1;exact (key t1 h3 e1 hk1 hk2).elim
  ·rw [List.getElem_set_ne (Ne.symm e1)] at hk1;rw [List.getElem_set_ne (Ne.symm e2)] at hk2;exact h.apart t1 t2 h3 h4 k hk1 hk2
theorem Rl.lt {B:Nat} {F:Nat→Prop} {w:World} {bR m:Nat} {vs:List Value} {R:Nat→List Int} (h:Rl B F w bR m vs R) {t:Nat} (ht:t<vs.length) {k:Nat} (hk:vs[t].ownBlock=some k):B≤k∧TB 3 w k∧k≠bR:=
 ⟨((h.ints t ht).tb hk).1,((h.ints t ht).tb hk).2,((h.ints t ht).tb hk).2.ne ⟨_,h.row⟩ (by decide)⟩
theorem Rl.on {B:Nat} {F F':Nat→Prop} {w w':World} {bR m:Nat} {vs:List Value} {R:Nat→List Int} (h:Rl B F w bR m vs R) (hR:w'.heap[bR]? = w.heap[bR]?) (hk:∀ t (ht:t<vs.length) k,vs[t].ownBlock=some k→w'.heap[k]? = w.heap[k]?) (hF:∀ k,F' k→F k∨w.heap.size≤k):Rl B F' w' bR m vs R:=
 ⟨hR.trans h.row,h.len,fun t ht=>aG.keep (h.ints t ht) fun k hk'=>hk t ht k hk',fun t ht k hk' hf=>by
  rcases hF k hf with e | e
  ·exact h.own t ht k hk' e
  ·have:=(h.lt ht hk').2.1.lt;omega,h.apart⟩
theorem Rl.grow {B:Nat} {F F':Nat→Prop} {w w':World} {bR m:Nat} {vs:List Value} {R:Nat→List Int} (h:Rl B F w bR m vs R) (hb:Below w.heap.size w w') (hF:∀ k,F' k→F k∨w.heap.size≤k):Rl B F' w' bR m vs R:=
 h.on (hb.block _ (gL h.row).1) (fun _ ht k hk=>hb.block k (h.lt ht hk).2.1.lt) hF
theorem Rl.made (B:Nat) (F:Nat→Prop) {w:World} {bR:Nat} (m:Nat) (hr:w.heap[bR]? = some (.cells (Array.replicate m (.slice none 0 0)) 26 (0,0))):Rl B F w bR m (List.replicate m (.slice none 0 0)) fun _=>[]:=by
 refine ⟨by rw [hr,List.toArray_replicate],by simp,fun t ht=>?_,fun t ht k hk=>?_,fun t t' ht ht' k hk _=>?_⟩
 ·rw [List.getElem_replicate];exact aG.nil _ _ _ _ _
 ·rw [List.getElem_replicate] at hk;simp [Value.ownBlock] at hk
 ·rw [List.getElem_replicate] at hk;simp [Value.ownBlock] at hk
theorem Rl.slAt {B:Nat} {F:Nat→Prop} {w:World} {bR m:Nat} {vs:List Value} {R:Nat→List Int} (h:Rl B F w bR m vs R) (hm:m≤maxLen):aH (· < w.heap.size) w 1 (bJ fun v (t:Nat)=>aF (· < w.heap.size) w v (R t)) (.slice (some ⟨bR,0,none⟩) m m) (List.range m):=by
 have hlt:=(gL h.row).1;have hl:=h.len;refine ⟨some ⟨bR,0,none⟩,m,by rw [List.length_range],by rw [List.length_range];exact gO _,hm,fun h0=>⟨bR,0,rfl,hlt,fun i hi=>?_⟩⟩;have hi':i<vs.length:=by rw [hl];simpa using hi
 refine ⟨[vs[i]],rfl,⟨_,rfl, ?_⟩,fun j u hu=>?_⟩
 ·rw [List.getElem_range];exact aG.look (h.ints i hi') fun k hk=>(h.lt hi' hk).2.1.lt
 ·cases j with
  | succ j=>simp at hu
  | zero=>
   injection hu with hu
   subst hu;rw [show 0+i*1+0=i by omega];refine aA h.row i _ ?_;simp [hi']
theorem GBox.wide {G G':Nat→Prop} {w:World} {b:Nat} {A0 A1 A2:Option Addr} {c0 c1 c2:Nat} {g:Gm} (h:GBox G w b A0 c0 A1 c1 A2 c2 g) (hG:∀ k,G k→G' k) (ho:∀ k,G' k→k<w.heap.size):GBox G' w b A0 c0 A1 c1 A2 c2 g:=
 ⟨ho,h.lt,h.x0,h.x1,h.x2,h.x3,aH.keepG hG (fun _ _=>rfl) h.ht fun _ _ h=>h,aH.keepG hG (fun _ _=>rfl) h.hn fun _ _ h=>h,aH.keepG hG (fun _ _=>rfl) h.hr fun _ _ ⟨v,e,hv⟩=>⟨v,e,aH.keepG hG (fun _ _=>rfl) hv fun _ _ h=>h⟩⟩
structure Prep (w0:World) (G:Nat→Prop) (B bm:Nat) (A0:Option Addr) (c0:Nat) (A1:Option Addr) (c1:Nat) (A2:Option Addr) (c2:Nat) (g:Gm) (vl u8 u9 u10 u11 u12:Value) (bR:Nat) (F:Nat→Prop) (w:World) (vr vts:Value) (vs:List Value) (k1 k2 k3:Nat):Prop where
 gb:GBox G w bm A0 c0 A1 c1 A2 c2 g
 gF:∀ k,G k→F k
 box:w.heap[bm]? = some (.cells #[.slice A0 g.terms.length c0,.slice A1 g.nons.length c1,.slice A2 g.rules.length c2,.int .i64 g.start,vl,vr,vts,.slice (some ⟨bR,0,none⟩) (g.top+1) (g.top+1),u8,u9,u10,u11,u12] 248 (0,0))
 rs:aG B 26 1 (bJ fun v (k:Nat)=>aF F w v (g.rightAt k)) w vr (List.range k1)
 ts:aG B 293 1 (bJ fun v (k:Nat)=>aH F w 2 (dZ F w (g.terms.length+1)) v (g.rightAt k)) w vts (List.range k3)
 rl:Rl B F w bR (g.top+1) vs fun t=>ofR (t:Int) (g.rules.take k2) 0
 fr:∀ k,F k→k<w.heap.size∧k≠bm∧k≠bR∧vr.ownBlock≠some k∧vts.ownBlock≠some k
 rb:vr.ownBlock≠some bR
 bel:Below w0.heap.size w0 w
 le:w0.heap.size≤bm∧bm<B∧w0.heap.size≤B∧B≤bR∧B≤w.heap.size
section
variable {w0:World} {G:Nat→Prop} {B bm:Nat} {A0 A1 A2:Option Addr} {c0 c1 c2:Nat} {g:Gm} {vl u8 u9 u10 u11 u12:Value} {bR:Nat} {F F':Nat→Prop} {w w':World} {vr vts:Value} {vs:List Value} {k1 k2 k3:Nat}
theorem Prep.grow (h:Prep w0 G B bm A0 c0 A1 c1 A2 c2 g vl u8 u9 u10 u11 u12 bR F w vr vts vs k1 k2 k3) (hb:Below w.heap.size w w') (hF:∀ k,F k→F' k) (hF':∀ k,F' k→k<w'.heap.size∧(F k∨w.heap.size≤k)):Prep w0 G B bm A0 c0 A1 c1 A2 c2 g vl u8 u9 u10 u11 u12 bR F' w' vr vts vs k1 k2 k3:=by
 have hbm:=(gL h.box).1;have hk:∀ k,F k→w'.heap[k]? = w.heap[k]? := fun k hk=>hb.block k (h.fr k hk).1;have hR:=(gL h.rl.row).1;refine ⟨h.gb.on hb,fun k hk=>hF k (h.gF k hk),(hb.block _ hbm).trans h.box,(h.rs.below hb).mono (bJ.mono fun _ _ h=>aH.keepG hF hk h fun _ _ h=>h),(h.ts.below hb).mono (bJ.mono fun _ _ h=>aH.keepG hF hk h fun _ _ h=>h.keep hF hk),h.rl.grow hb fun k hk=>(hF' k hk).2,fun k hk=>⟨(hF' k hk).1, ?_⟩,h.rb,h.bel.trans (hb.mono h.bel.size),⟨h.le.1,h.le.2.1,h.le.2.2.1,h.le.2.2.2.1,gP h.le.2.2.2.2 hb.size⟩⟩;rcases (hF' k hk).2 with e | e
 ·exact (h.fr k e).2
 ·refine ⟨by omega,by omega,fun e2=>?_,fun e2=>?_⟩
  ·have:=(h.rs.tb e2).2.lt;omega
  ·have:=(h.ts.tb e2).2.lt;omega
theorem Prep.mt (h:Prep w0 G B bm A0 c0 A1 c1 A2 c2 g vl u8 u9 u10 u11 u12 bR F w vr vts vs (g.rules.length+1) k2 (g.rules.length+1)) (hk2:g.rules.length≤k2) (ht:g.top≤1000):Mt (· < w.heap.size) w bm A0 c0 A1 c1 A2 c2 g vr vts (.slice (some ⟨bR,0,none⟩) (g.top+1) (g.top+1)):=by
 have hFl:∀ k,F k→k<w.heap.size:=fun k hk=>(h.fr k hk).1;have hu:=h.rl.slAt (by unfold maxLen;omega);simp only [List.take_of_length_le hk2] at hu;exact ⟨h.gb.wide (fun k hk=>hFl k (h.gF k hk)) (fun _ h=>h),aA h.box 5 _ rfl,aA h.box 6 _ rfl,aA h.box 7 _ rfl,
  aG.look (h.rs.mono (bJ.mono fun _ _ h=>aH.keepG hFl (fun _ _=>rfl) h fun _ _ h=>h)) fun k hk=>(h.rs.tb hk).2.lt,
  aG.look (h.ts.mono (bJ.mono fun _ _ h=>aH.keepG hFl (fun _ _=>rfl) h fun _ _ h=>h.keep hFl (fun _ _=>rfl))) fun k hk=>(h.ts.tb hk).2.lt,hu⟩
end
end Go.Proofs.YtpidmmfjcghmeaaGreat
