/- Towards unparseHeres_card. -/
import Derived.Test.YtjpopekmbmcggaaGreatDoorUh19
import Derived.Test.YtjpopekmbmcggaaGreatDoorUh20
import Derived.Test.YtjpopekmbmcggaaGreatDoorUh22
import Derived.Test.YtjpopekmbmcggaaGreatDoorUh09
import Derived.Test.YtjpopekmbmcggaaGreatDoorUh10
import Derived.Test.YtjpopekmbmcggaaGreatDoorUh21
import Derived.Deep.CutBlock
set_option maxRecDepth 100000
set_option maxHeartbeats 16000000
namespace Go.Proofs.YtjpopekmbmcggaaGreatDoor
open Go.RowKit
def PRt (f:Nat):Prop:=∀ (G:Nat→Prop) (w:World) (vs:List Value) (x:Nd f),(∀ k,G k→k<w.heap.size)→cC w→NdV f G w vs x→
 Calls Tryz.prog 13 #[ag vs] w fun e w'=>e=.returned (.bool ((Nd.vw f).R x))∧Below w.heap.size w w'
def RRt (f:Nat):Prop:=∀ (G:Nat→Prop) (w:World) (vs:List Value) (x:Nd f),(∀ k,G k→k<w.heap.size)→NdV f G w vs x→
 Calls Tryz.prog 14 #[ag vs] w fun e w'=>e=.returned (.bool ((Nd.vw f).R x))∧Below w.heap.size w w'
theorem lK:bG 13:=fun args w=>by simp [callFunc,go_sem,Tryz.func13,Tryz.f13]
theorem WdN.cmds {f:Nat} {G:Nat→Prop} {w:World} {A:Option Addr} {n c:Nat} {x:WdF (Nd f)} (h:WdN f G w [.slice A n c] x):
  n=x.p.len∧n≤c∧c≤maxLen∧x.p.wt≤1073741824∧aY G w A 0 x.p∧fB (fun cm l=>aV G w 10 (NdV f G w) cm.val l) x.p.cmds x.cmds:=by
 obtain ⟨A',c',h1,h2,h3,h4,h5,h6⟩:=h
 injection h1 with h1
 injection h1 with e1 e2 e3
 subst e1 e2 e3;refine ⟨rfl,h2,h3,by omega,h5, ?_⟩;rw [Pts.cmds_pick];exact h6.pick _
theorem dW {β:Type} (p:β→Bool) (xs:List β) (k:Nat) (h:k<xs.length):(xs.drop k).all p=(p xs[k]&&(xs.drop (k+1)).all p):=by rw [bB xs k h,List.all_cons]
theorem eZ {β:Type} (p:β→Bool) (xs:List β) (k:Nat) (h:xs.length≤k):(xs.drop k).all p=true:=by rw [List.drop_eq_nil_of_le h];rfl
theorem dH.look {B:Nat} {w:World} {v:Value} {l:List Cm} (h:dH B w v l):∃ A c,v=.slice A l.length c∧l.length≤c∧c≤maxLen∧∀ k (hk:k<l.length),∃ g,A=some ⟨g,0,none⟩∧w.cell? ⟨g,k,none⟩=some (l[k]).val:=by
 obtain ⟨A,c,rfl,h1,h2⟩:=h.shape;refine ⟨A,c,rfl,h1,h2,fun k hk=>?_⟩;rcases h.2 with ⟨hv,h0⟩ | ⟨g,cap,cur,hv,_⟩
 ·omega
 ·obtain rfl:A=some ⟨g,0,none⟩:=by injection hv
  refine ⟨g,rfl, ?_⟩;have:=h.cells k (l[k]).val (by simp [hk])
  rwa [show (⟨g,0,none⟩:Addr).add k=⟨g,k,none⟩ by rw [oR,Nat.zero_add]] at this
theorem rQ {α:Type} {v:Vw α} {x:WdF α} (h:x.p.right=false):aP v x=false:=by rw [aP,h];rfl
theorem oQ {α:Type} {v:Vw α} {x:WdF α} (h:x.p.right=true):aP v x=x.cmds.all fun l=>l.all v.R:=by rw [aP,h];rfl
theorem tR (f:Nat) (ih:PRt f) (G:Nat→Prop) (w:World) (vs:List Value) (x:WdF (Nd f)) (hG:∀ k,G k→k<w.heap.size) (ht:cC w) (hv:WdN f G w vs x):
  Calls Tryz.prog 15 #[ag vs] w fun e w'=>e=.returned (.bool (aP (Nd.vw f) x))∧Below w.heap.size w w':=by
 obtain ⟨A,n,c,rfl⟩:=hv.shape;have hb0:Below w.heap.size w (w.alloc (.cells #[.slice A n c] 31)):=(Below.refl _ _).alloc (Nat.le_refl _) _;have q0:=dD (aN w (.cells #[.slice A n c] 31));have HG1:=Ha (fun k (h:G k)=>gK (hG k h) hb0.size);obtain ⟨rfl,hnc,hcm,hwt,hpt,-⟩:=hv.cmds;obtain ⟨HP,HV,HG,HT,IH,HB0⟩:=hs6 (hpt.old hG hb0) hv hG ht ih hb0;have HX:=Ha (CC x.p A c G _ hwt HG1.out HP.out);clear hb0 hpt hv hG ht ih;show Calls Tryz.prog 15 #[.agg #[.slice A x.p.len c]] w _;go_enter Tryz.func15,Tryz.ntmps15;go_wp2_with fail;refine HX.out.mono ?_;rintro e w1 ⟨he,hb1⟩;have HB1:=Ha (HB0.out.trans (hb1.mono HB0.out.size));cases hq:x.p.right
 ·rw [hq] at he;subst he;have HQ:=Ha hq;clear hq hb1;go_wp2_with fail;go_ret;exact ⟨aC (by rw [rQ HQ.out]),HB1.out⟩
 rw [hq] at he;subst he;have q1:w1.cell? ⟨w.heap.size,0,none⟩=some (.slice A x.p.len c):=(hb1.cell (p:=⟨w.heap.size,0,none⟩) (by simp)).trans q0;have HX2:=Ha (xY x.p A c G w1 hwt (fun k hk=>gK (HG1.out k hk) hb1.size) (HP.out.old HG1.out hb1));have HQ:=Ha (oQ (v:=Nd.vw f) hq);clear hq hb1 q0;go_wp2_with fail;refine HX2.out.mono ?_;rintro e w2 ⟨v,rfl,hcr,hb2⟩;have HB2:=Ha (HB1.out.trans (hb2.mono HB1.out.size));obtain ⟨A2,c2,rfl,hl2,hm2,hk2⟩:=hcr.look;have HK:=Ha hk2;have HLN:=Ha (show x.p.cmds.length=x.cmds.length from (HV.out.cmds).2.2.2.2.2.len);unfold maxLen at hm2;clear hb2 hcr hk2 q1;go_wp2_with fail
 go_loopw [11] (fun i wr=>∃ (k:Nat),k≤x.p.cmds.length∧i=.int .i64 k∧((x.cmds.drop k).all fun l=>l.all (Nd.vw f).R)=(x.cmds.all fun l=>l.all (Nd.vw f).R)∧Below w2.heap.size w2 wr) (fun i _=>x.p.cmds.length-(intOf i).toNat)
 case atStart=>exact ⟨0,by omega,rfl,rfl,Below.refl _ _⟩
 case round=>
  obtain ⟨k,hk,rfl,hf,hb⟩:=hrel;have HF:=Ha hf;have HB:=Ha hb;clear hf;by_cases hlt:k<x.p.cmds.length
  ·obtain ⟨g,rfl,z0⟩:=HK.out k hlt;have z1:wr.cell? ⟨g,k,none⟩=some (.slice (x.p.cmds[k]).a (x.p.cmds[k]).n (x.p.cmds[k]).c):=(World.cell?_of_block (hb.block g (fG z0))).trans z0;have hbw:=HB2.out.trans (hb.mono HB2.out.size);have hlt2:k<x.cmds.length:=by rw [← HLN.out];exact hlt
   have hs:=((HV.out.below HG.out hbw).cmds).2.2.2.2.2.get k hlt hlt2;have HC:=Ha (mD f G 13 #[] (Nd.vw f).R _ (x.cmds[k]) wr (fun j hj=>gK (HG.out j hj) hbw.size) hs lK (fun X hX vs y hy=>by
    rw [Array.append_empty];exact IH.out G X vs y (fun j hj=>gK (gK (HG.out j hj) hbw.size) hX.size) ((HT.out.below hbw).below hX) hy))
   have HD:=Ha (dW (fun l:List (Nd f)=>l.all (Nd.vw f).R) x.cmds k hlt2);clear z0 hs hbw hb;go_wp2_with fail;refine HC.out.mono ?_;rintro e w3 ⟨he,hb3⟩;have HB3:=Ha (HB.out.trans (hb3.mono HB.out.size));clear hb3 z1;cases hq:(x.cmds[k]).all (Nd.vw f).R
   ·rw [hq] at he;subst he;have HQ2:=Ha hq;clear hq;go_wp2_with fail;go_ret;exact ⟨aC (by rw [HQ.out,← HF.out,HD.out,HQ2.out];rfl),HB2.out.trans (HB3.out.mono HB2.out.size)⟩
   ·rw [hq] at he;subst he;have HQ2:=Ha hq;clear hq;go_wp2_with fail
    go_roundw
    case rel=>exact ⟨k+1,by omega,by go_num,by rw [← HF.out,HD.out,HQ2.out];rfl,HB3.out⟩
    case measure=>simp only [intOf];omega
  ·have HE:=Ha (eZ (fun l:List (Nd f)=>l.all (Nd.vw f).R) x.cmds k (by rw [← HLN.out];omega));clear hb;go_wp2_with fail;go_ret;exact ⟨aC (by rw [HQ.out,← HF.out,HE.out]),HB2.out.trans (HB.out.mono HB2.out.size)⟩
theorem AN (f:Nat) (ih:RRt f) (G:Nat→Prop) (w:World) (vs:List Value) (x:WdF (Nd f)) (hG:∀ k,G k→k<w.heap.size) (hv:WdN f G w vs x):
  Calls Tryz.prog 16 #[ag vs] w fun e w'=>e=.returned (.bool (aP (Nd.vw f) x))∧Below w.heap.size w w':=by
 obtain ⟨A,n,c,rfl⟩:=hv.shape;have hb0:Below w.heap.size w (w.alloc (.cells #[.slice A n c] 31)):=(Below.refl _ _).alloc (Nat.le_refl _) _;have q0:=dD (aN w (.cells #[.slice A n c] 31));have HG1:=Ha (fun k (h:G k)=>gK (hG k h) hb0.size);obtain ⟨rfl,hnc,hcm,hwt,hpt,-⟩:=hv.cmds;obtain ⟨HP,HV,HG,IH,HB0⟩:=hs5 (hpt.old hG hb0) hv hG ih hb0;have HX:=Ha (CD x.p A c G _ (by omega) HG1.out HP.out);clear hb0 hpt hv hG ih;show Calls Tryz.prog 16 #[.agg #[.slice A x.p.len c]] w _;go_enter Tryz.func16,Tryz.ntmps16;go_wp2_with fail;refine HX.out.mono ?_;rintro e w1 ⟨he,hb1⟩;have HB1:=Ha (HB0.out.trans (hb1.mono HB0.out.size));cases hq:x.p.right
 ·rw [hq] at he;subst he;have HQ:=Ha hq;clear hq hb1;go_wp2_with fail;go_ret;exact ⟨aC (by rw [rQ HQ.out]),HB1.out⟩
 rw [hq] at he;subst he;have q1:w1.cell? ⟨w.heap.size,0,none⟩=some (.slice A x.p.len c):=(hb1.cell (p:=⟨w.heap.size,0,none⟩) (by simp)).trans q0;have HX2:=Ha (CU x.p A c G w1 hwt (fun k hk=>gK (HG1.out k hk) hb1.size) (HP.out.old HG1.out hb1));have HQ:=Ha (oQ (v:=Nd.vw f) hq);clear hq hb1 q0;go_wp2_with fail;refine HX2.out.mono ?_;rintro e w2 ⟨v,rfl,hcr,hb2⟩;have HB2:=Ha (HB1.out.trans (hb2.mono HB1.out.size));obtain ⟨A2,c2,rfl,hl2,hm2,hk2⟩:=hcr.look;have HK:=Ha hk2;have HLN:=Ha (show x.p.cmds.length=x.cmds.length from (HV.out.cmds).2.2.2.2.2.len);unfold maxLen at hm2;clear hb2 hcr hk2 q1;go_wp2_with fail
 go_loopw [4,5] (fun i _ wr=>∃ (k:Nat),k≤x.p.cmds.length∧i=.int .i64 k∧((x.cmds.drop k).all fun l=>l.all (Nd.vw f).R)=(x.cmds.all fun l=>l.all (Nd.vw f).R)∧Below w2.heap.size w2 wr) (fun i _ _=>x.p.cmds.length-(intOf i).toNat)
 case atStart=>exact ⟨0,by omega,rfl,rfl,Below.refl _ _⟩
 case round=>
  obtain ⟨k,hk,rfl,hf,hb⟩:=hrel;have HF:=Ha hf;have HB:=Ha hb;clear hf;by_cases hlt:k<x.p.cmds.length
  ·obtain ⟨g,rfl,z0⟩:=HK.out k hlt;have hbw:=HB2.out.trans (hb.mono HB2.out.size);have hlt2:k<x.cmds.length:=by rw [← HLN.out];exact hlt
   have hs:=((HV.out.below HG.out hbw).cmds).2.2.2.2.2.get k hlt hlt2;obtain ⟨A3,c3,hv3,hl3,hm3,hk3⟩:=hs;have hgk:=fG z0;have HZ:=Ha (show ∀ X,Below w2.heap.size w2 X→X.cell? ⟨g,k,none⟩=some (.slice A3 (x.cmds[k]).length c3) from fun X hX=>by rw [← hv3];exact (World.cell?_of_block (hX.block g hgk)).trans z0);have HD:=Ha (dW (fun l:List (Nd f)=>l.all (Nd.vw f).R) x.cmds k hlt2);have z1:=HZ.out wr hb;have HK3:=Ha hk3;have HBW:=Ha hbw;unfold maxLen at hm3;clear z0 hk3 hv3 hb hbw hgk;obtain ⟨wo,rfl⟩:∃ wo:World,wo=wr:=⟨_,rfl⟩;go_wp2_with fail
   go_loopw [5] (fun i wx=>∃ (j:Nat),j≤(x.cmds[k]).length∧i=.int .i64 j∧(((x.cmds[k]).drop j).all (Nd.vw f).R)=((x.cmds[k]).all (Nd.vw f).R)∧Below wo.heap.size wo wx) (fun i _=>(x.cmds[k]).length-(intOf i).toNat)
   case atStart=>exact ⟨0,by omega,rfl,rfl,Below.refl _ _⟩
   case round=>
    obtain ⟨j,hj,rfl,hf2,hbx⟩:=hrel;obtain ⟨HF2,HBX,HBO⟩:=hs3 hf2 (HB.out.trans (hbx.mono HB.out.size)) hbx;clear hf2;have z2:=HZ.out _ HBX.out;clear z1;by_cases hlt3:j<(x.cmds[k]).length
    ·obtain ⟨b,off,rfl,hg,hel⟩:=HK3.out (by omega);obtain ⟨vs,hvl,hR,hcell⟩:=hel j hlt3;have hG3:∀ m,G m→m<wo.heap.size:=fun m hm=>gK (HG.out m hm) HBW.out.size;have hR':=hR.below hG3 hbx;obtain ⟨ky,s,nt,ni,A4,n4,c4,A5,n5,c5,A6,n6,c6,A7,n7,c7,A8,n8,c8,A9,n9,c9,rfl⟩:=hR'.shape;have z:=fun j u hj=>(bC hG3 hbx _ hg).trans (hcell j u hj);have d0:wr.cell? ⟨b,off+j*10,none⟩=some (.int .i64 ky):=by simpa using z 0 _ rfl
     have d1:wr.cell? ⟨b,off+j*10+1,none⟩=some (.string s):=by simpa using z 1 _ rfl
     have d2:wr.cell? ⟨b,off+j*10+2,none⟩=some (.bool nt):=by simpa using z 2 _ rfl
     have d3:wr.cell? ⟨b,off+j*10+3,none⟩=some (.bool ni):=by simpa using z 3 _ rfl
     have d4:wr.cell? ⟨b,off+j*10+4,none⟩=some (.slice A4 n4 c4):=by simpa using z 4 _ rfl
     have d5:wr.cell? ⟨b,off+j*10+5,none⟩=some (.slice A5 n5 c5):=by simpa using z 5 _ rfl
     have d6:wr.cell? ⟨b,off+j*10+6,none⟩=some (.slice A6 n6 c6):=by simpa using z 6 _ rfl
     have d7:wr.cell? ⟨b,off+j*10+7,none⟩=some (.slice A7 n7 c7):=by simpa using z 7 _ rfl
     have d8:wr.cell? ⟨b,off+j*10+8,none⟩=some (.slice A8 n8 c8):=by simpa using z 8 _ rfl
     have d9:wr.cell? ⟨b,off+j*10+9,none⟩=some (.slice A9 n9 c9):=by simpa using z 9 _ rfl
     have HC:=Ha (IH.out G wr _ _ (fun m hm=>gK (hG3 m hm) hbx.size) hR');have HD2:=Ha (dW (Nd.vw f).R (x.cmds[k]) j hlt3);clear z hel hcell hvl hR hR' hg hG3 hbx;go_wp2_with fail;refine HC.out.mono ?_;rintro e w4 ⟨he,hb4⟩;have HB4:=Ha (HBO.out.trans (hb4.mono HBO.out.size));clear hb4 d0 d1 d2 d3 d4 d5 d6 d7 d8 d9 z2;cases hq:(Nd.vw f).R (x.cmds[k])[j]
     ·rw [hq] at he;subst he;have HQ2:=Ha hq;clear hq;go_wp2_with fail;go_ret;exact ⟨aC (by rw [HQ.out,← HF.out,HD.out,← HF2.out,HD2.out,HQ2.out];rfl),HB2.out.trans ((HB.out.trans (HB4.out.mono HB.out.size)).mono HB2.out.size)⟩
     ·rw [hq] at he;subst he;have HQ2:=Ha hq;clear hq;go_wp2_with fail
      go_roundw
      case rel=>exact ⟨j+1,by omega,by go_num,by rw [← HF2.out,HD2.out,HQ2.out];rfl,HB4.out⟩
      case measure=>simp only [intOf];omega
    ·have HE:=Ha (eZ (Nd.vw f).R (x.cmds[k]) j (by omega));clear hbx;go_wp2_with fail
     go_roundw
     case rel=>exact ⟨k+1,by omega,by go_num,by rw [← HF.out,HD.out,← HF2.out,HE.out];rfl,HBX.out⟩
     case measure=>simp only [intOf];omega
  ·have HE:=Ha (eZ (fun l:List (Nd f)=>l.all (Nd.vw f).R) x.cmds k (by rw [← HLN.out];omega));clear hb;go_wp2_with fail;go_ret;exact ⟨aC (by rw [HQ.out,← HF.out,HE.out]),HB2.out.trans (HB.out.mono HB2.out.size)⟩
theorem aA {W X:World} {b j:Nat} {v:Value} (h:W.cell? ⟨b,j,none⟩=some v) (hX:Below W.heap.size W X):X.cell? ⟨b,j,none⟩=some v:=(World.cell?_of_block (hX.block b (fG h))).trans h
theorem cpd (w:World) (o:Obj):∃ X:World,w.alloc o=X∧Below w.heap.size w X∧X.heap[w.heap.size]? =some o:=⟨_,rfl,(Below.refl _ _).alloc (Nat.le_refl _) _,aN _ _⟩
theorem c10 {w:World} {k:Nat} {a0 a1 a2 a3 a4 a5 a6 a7 a8 a9:Value} {T:TypeId} {z:Nat×Nat} (h:w.heap[k]? =some (.cells #[a0,a1,a2,a3,a4,a5,a6,a7,a8,a9] T z)):w.cell? ⟨k,0,none⟩=some a0∧w.cell? ⟨k,1,none⟩=some a1∧w.cell? ⟨k,2,none⟩=some a2∧w.cell? ⟨k,3,none⟩=some a3∧w.cell? ⟨k,4,none⟩=some a4∧w.cell? ⟨k,5,none⟩=some a5∧w.cell? ⟨k,6,none⟩=some a6∧w.cell? ⟨k,7,none⟩=some a7∧w.cell? ⟨k,8,none⟩=some a8∧w.cell? ⟨k,9,none⟩=some a9:=by
 simp [World.cell?,h]
theorem ks3 {W X:World} {b0 j0 b1 j1 b2 j2:Nat} {v0 v1 v2:Value} (h:Below W.heap.size W X) (x0:W.cell? ⟨b0,j0,none⟩=some v0) (x1:W.cell? ⟨b1,j1,none⟩=some v1) (x2:W.cell? ⟨b2,j2,none⟩=some v2):X.cell? ⟨b0,j0,none⟩=some v0∧X.cell? ⟨b1,j1,none⟩=some v1∧X.cell? ⟨b2,j2,none⟩=some v2:=⟨aA x0 h,aA x1 h,aA x2 h⟩
theorem ks4 {W X:World} {b0 j0 b1 j1 b2 j2 b3 j3:Nat} {v0 v1 v2 v3:Value} (h:Below W.heap.size W X) (x0:W.cell? ⟨b0,j0,none⟩=some v0) (x1:W.cell? ⟨b1,j1,none⟩=some v1) (x2:W.cell? ⟨b2,j2,none⟩=some v2) (x3:W.cell? ⟨b3,j3,none⟩=some v3):X.cell? ⟨b0,j0,none⟩=some v0∧X.cell? ⟨b1,j1,none⟩=some v1∧X.cell? ⟨b2,j2,none⟩=some v2∧X.cell? ⟨b3,j3,none⟩=some v3:=⟨aA x0 h,aA x1 h,aA x2 h,aA x3 h⟩
theorem ks5 {W X:World} {b0 j0 b1 j1 b2 j2 b3 j3 b4 j4:Nat} {v0 v1 v2 v3 v4:Value} (h:Below W.heap.size W X) (x0:W.cell? ⟨b0,j0,none⟩=some v0) (x1:W.cell? ⟨b1,j1,none⟩=some v1) (x2:W.cell? ⟨b2,j2,none⟩=some v2) (x3:W.cell? ⟨b3,j3,none⟩=some v3) (x4:W.cell? ⟨b4,j4,none⟩=some v4):X.cell? ⟨b0,j0,none⟩=some v0∧X.cell? ⟨b1,j1,none⟩=some v1∧X.cell? ⟨b2,j2,none⟩=some v2∧X.cell? ⟨b3,j3,none⟩=some v3∧X.cell? ⟨b4,j4,none⟩=some v4:=⟨aA x0 h,aA x1 h,aA x2 h,aA x3 h,aA x4 h⟩
theorem ks6 {W X:World} {b0 j0 b1 j1 b2 j2 b3 j3 b4 j4 b5 j5:Nat} {v0 v1 v2 v3 v4 v5:Value} (h:Below W.heap.size W X) (x0:W.cell? ⟨b0,j0,none⟩=some v0) (x1:W.cell? ⟨b1,j1,none⟩=some v1) (x2:W.cell? ⟨b2,j2,none⟩=some v2) (x3:W.cell? ⟨b3,j3,none⟩=some v3) (x4:W.cell? ⟨b4,j4,none⟩=some v4) (x5:W.cell? ⟨b5,j5,none⟩=some v5):X.cell? ⟨b0,j0,none⟩=some v0∧X.cell? ⟨b1,j1,none⟩=some v1∧X.cell? ⟨b2,j2,none⟩=some v2∧X.cell? ⟨b3,j3,none⟩=some v3∧X.cell? ⟨b4,j4,none⟩=some v4∧X.cell? ⟨b5,j5,none⟩=some v5:=⟨aA x0 h,aA x1 h,aA x2 h,aA x3 h,aA x4 h,aA x5 h⟩
theorem ks7 {W X:World} {b0 j0 b1 j1 b2 j2 b3 j3 b4 j4 b5 j5 b6 j6:Nat} {v0 v1 v2 v3 v4 v5 v6:Value} (h:Below W.heap.size W X) (x0:W.cell? ⟨b0,j0,none⟩=some v0) (x1:W.cell? ⟨b1,j1,none⟩=some v1) (x2:W.cell? ⟨b2,j2,none⟩=some v2) (x3:W.cell? ⟨b3,j3,none⟩=some v3) (x4:W.cell? ⟨b4,j4,none⟩=some v4) (x5:W.cell? ⟨b5,j5,none⟩=some v5) (x6:W.cell? ⟨b6,j6,none⟩=some v6):X.cell? ⟨b0,j0,none⟩=some v0∧X.cell? ⟨b1,j1,none⟩=some v1∧X.cell? ⟨b2,j2,none⟩=some v2∧X.cell? ⟨b3,j3,none⟩=some v3∧X.cell? ⟨b4,j4,none⟩=some v4∧X.cell? ⟨b5,j5,none⟩=some v5∧X.cell? ⟨b6,j6,none⟩=some v6:=⟨aA x0 h,aA x1 h,aA x2 h,aA x3 h,aA x4 h,aA x5 h,aA x6 h⟩
theorem ks8 {W X:World} {b0 j0 b1 j1 b2 j2 b3 j3 b4 j4 b5 j5 b6 j6 b7 j7:Nat} {v0 v1 v2 v3 v4 v5 v6 v7:Value} (h:Below W.heap.size W X) (x0:W.cell? ⟨b0,j0,none⟩=some v0) (x1:W.cell? ⟨b1,j1,none⟩=some v1) (x2:W.cell? ⟨b2,j2,none⟩=some v2) (x3:W.cell? ⟨b3,j3,none⟩=some v3) (x4:W.cell? ⟨b4,j4,none⟩=some v4) (x5:W.cell? ⟨b5,j5,none⟩=some v5) (x6:W.cell? ⟨b6,j6,none⟩=some v6) (x7:W.cell? ⟨b7,j7,none⟩=some v7):X.cell? ⟨b0,j0,none⟩=some v0∧X.cell? ⟨b1,j1,none⟩=some v1∧X.cell? ⟨b2,j2,none⟩=some v2∧X.cell? ⟨b3,j3,none⟩=some v3∧X.cell? ⟨b4,j4,none⟩=some v4∧X.cell? ⟨b5,j5,none⟩=some v5∧X.cell? ⟨b6,j6,none⟩=some v6∧X.cell? ⟨b7,j7,none⟩=some v7:=⟨aA x0 h,aA x1 h,aA x2 h,aA x3 h,aA x4 h,aA x5 h,aA x6 h,aA x7 h⟩
theorem ks9 {W X:World} {b0 j0 b1 j1 b2 j2 b3 j3 b4 j4 b5 j5 b6 j6 b7 j7 b8 j8:Nat} {v0 v1 v2 v3 v4 v5 v6 v7 v8:Value} (h:Below W.heap.size W X) (x0:W.cell? ⟨b0,j0,none⟩=some v0) (x1:W.cell? ⟨b1,j1,none⟩=some v1) (x2:W.cell? ⟨b2,j2,none⟩=some v2) (x3:W.cell? ⟨b3,j3,none⟩=some v3) (x4:W.cell? ⟨b4,j4,none⟩=some v4) (x5:W.cell? ⟨b5,j5,none⟩=some v5) (x6:W.cell? ⟨b6,j6,none⟩=some v6) (x7:W.cell? ⟨b7,j7,none⟩=some v7) (x8:W.cell? ⟨b8,j8,none⟩=some v8):X.cell? ⟨b0,j0,none⟩=some v0∧X.cell? ⟨b1,j1,none⟩=some v1∧X.cell? ⟨b2,j2,none⟩=some v2∧X.cell? ⟨b3,j3,none⟩=some v3∧X.cell? ⟨b4,j4,none⟩=some v4∧X.cell? ⟨b5,j5,none⟩=some v5∧X.cell? ⟨b6,j6,none⟩=some v6∧X.cell? ⟨b7,j7,none⟩=some v7∧X.cell? ⟨b8,j8,none⟩=some v8:=⟨aA x0 h,aA x1 h,aA x2 h,aA x3 h,aA x4 h,aA x5 h,aA x6 h,aA x7 h,aA x8 h⟩
theorem ks10 {W X:World} {b0 j0 b1 j1 b2 j2 b3 j3 b4 j4 b5 j5 b6 j6 b7 j7 b8 j8 b9 j9:Nat} {v0 v1 v2 v3 v4 v5 v6 v7 v8 v9:Value} (h:Below W.heap.size W X) (x0:W.cell? ⟨b0,j0,none⟩=some v0) (x1:W.cell? ⟨b1,j1,none⟩=some v1) (x2:W.cell? ⟨b2,j2,none⟩=some v2) (x3:W.cell? ⟨b3,j3,none⟩=some v3) (x4:W.cell? ⟨b4,j4,none⟩=some v4) (x5:W.cell? ⟨b5,j5,none⟩=some v5) (x6:W.cell? ⟨b6,j6,none⟩=some v6) (x7:W.cell? ⟨b7,j7,none⟩=some v7) (x8:W.cell? ⟨b8,j8,none⟩=some v8) (x9:W.cell? ⟨b9,j9,none⟩=some v9):X.cell? ⟨b0,j0,none⟩=some v0∧X.cell? ⟨b1,j1,none⟩=some v1∧X.cell? ⟨b2,j2,none⟩=some v2∧X.cell? ⟨b3,j3,none⟩=some v3∧X.cell? ⟨b4,j4,none⟩=some v4∧X.cell? ⟨b5,j5,none⟩=some v5∧X.cell? ⟨b6,j6,none⟩=some v6∧X.cell? ⟨b7,j7,none⟩=some v7∧X.cell? ⟨b8,j8,none⟩=some v8∧X.cell? ⟨b9,j9,none⟩=some v9:=⟨aA x0 h,aA x1 h,aA x2 h,aA x3 h,aA x4 h,aA x5 h,aA x6 h,aA x7 h,aA x8 h,aA x9 h⟩
theorem ks11 {W X:World} {b0 j0 b1 j1 b2 j2 b3 j3 b4 j4 b5 j5 b6 j6 b7 j7 b8 j8 b9 j9 b10 j10:Nat} {v0 v1 v2 v3 v4 v5 v6 v7 v8 v9 v10:Value} (h:Below W.heap.size W X) (x0:W.cell? ⟨b0,j0,none⟩=some v0) (x1:W.cell? ⟨b1,j1,none⟩=some v1) (x2:W.cell? ⟨b2,j2,none⟩=some v2) (x3:W.cell? ⟨b3,j3,none⟩=some v3) (x4:W.cell? ⟨b4,j4,none⟩=some v4) (x5:W.cell? ⟨b5,j5,none⟩=some v5) (x6:W.cell? ⟨b6,j6,none⟩=some v6) (x7:W.cell? ⟨b7,j7,none⟩=some v7) (x8:W.cell? ⟨b8,j8,none⟩=some v8) (x9:W.cell? ⟨b9,j9,none⟩=some v9) (x10:W.cell? ⟨b10,j10,none⟩=some v10):X.cell? ⟨b0,j0,none⟩=some v0∧X.cell? ⟨b1,j1,none⟩=some v1∧X.cell? ⟨b2,j2,none⟩=some v2∧X.cell? ⟨b3,j3,none⟩=some v3∧X.cell? ⟨b4,j4,none⟩=some v4∧X.cell? ⟨b5,j5,none⟩=some v5∧X.cell? ⟨b6,j6,none⟩=some v6∧X.cell? ⟨b7,j7,none⟩=some v7∧X.cell? ⟨b8,j8,none⟩=some v8∧X.cell? ⟨b9,j9,none⟩=some v9∧X.cell? ⟨b10,j10,none⟩=some v10:=⟨aA x0 h,aA x1 h,aA x2 h,aA x3 h,aA x4 h,aA x5 h,aA x6 h,aA x7 h,aA x8 h,aA x9 h,aA x10 h⟩
theorem ks12 {W X:World} {b0 j0 b1 j1 b2 j2 b3 j3 b4 j4 b5 j5 b6 j6 b7 j7 b8 j8 b9 j9 b10 j10 b11 j11:Nat} {v0 v1 v2 v3 v4 v5 v6 v7 v8 v9 v10 v11:Value} (h:Below W.heap.size W X) (x0:W.cell? ⟨b0,j0,none⟩=some v0) (x1:W.cell? ⟨b1,j1,none⟩=some v1) (x2:W.cell? ⟨b2,j2,none⟩=some v2) (x3:W.cell? ⟨b3,j3,none⟩=some v3) (x4:W.cell? ⟨b4,j4,none⟩=some v4) (x5:W.cell? ⟨b5,j5,none⟩=some v5) (x6:W.cell? ⟨b6,j6,none⟩=some v6) (x7:W.cell? ⟨b7,j7,none⟩=some v7) (x8:W.cell? ⟨b8,j8,none⟩=some v8) (x9:W.cell? ⟨b9,j9,none⟩=some v9) (x10:W.cell? ⟨b10,j10,none⟩=some v10) (x11:W.cell? ⟨b11,j11,none⟩=some v11):X.cell? ⟨b0,j0,none⟩=some v0∧X.cell? ⟨b1,j1,none⟩=some v1∧X.cell? ⟨b2,j2,none⟩=some v2∧X.cell? ⟨b3,j3,none⟩=some v3∧X.cell? ⟨b4,j4,none⟩=some v4∧X.cell? ⟨b5,j5,none⟩=some v5∧X.cell? ⟨b6,j6,none⟩=some v6∧X.cell? ⟨b7,j7,none⟩=some v7∧X.cell? ⟨b8,j8,none⟩=some v8∧X.cell? ⟨b9,j9,none⟩=some v9∧X.cell? ⟨b10,j10,none⟩=some v10∧X.cell? ⟨b11,j11,none⟩=some v11:=⟨aA x0 h,aA x1 h,aA x2 h,aA x3 h,aA x4 h,aA x5 h,aA x6 h,aA x7 h,aA x8 h,aA x9 h,aA x10 h,aA x11 h⟩
theorem vI (s:ByteArray) (w:World) (hm:s.size≤9223372036854775807):Calls Tryz.prog 47 #[.string s] w fun e w'=>e=.returned (.bool (Chr.digits s.toList))∧Below w.heap.size w w':=(bP s w hm).mono fun _ _ ⟨h,e⟩=>⟨h,by rw [← e];exact Below.refl _ _⟩
theorem zB (op:Int) (w:World):Calls Tryz.prog 48 #[.int .i64 op] w fun e w'=>e=.returned (.bool (Ope.redir op))∧Below w.heap.size w w':=(B0 op w).mono fun _ _ ⟨h,e⟩=>⟨h,by rw [← e];exact Below.refl _ _⟩
def uD (op:Int) (u:Option (List UInt8)) (l:List UInt8):Bool:=if op=12∨op=13 then (match u with | none=>false | some s=>jB s (op==13) l) else l.isEmpty
theorem bX {α:Type} (v:Vw α) (num here:ByteArray) (op:Int) (tz:WdF α):aW v ⟨num,op,tz,here⟩=(((num.toList.isEmpty||Chr.digits num.toList)&&Ope.redir op)&&(aP v tz&&uD op tz.p.utx here.toList)):=by
  unfold aW uD Ope.redir;simp only [Bool.and_assoc];rfl
theorem lL {op:Int} {u:Option (List UInt8)} {l:List UInt8} (h:¬op=12) (h2:¬op=13):uD op u l=l.isEmpty:=by unfold uD;exact if_neg (by omega)
theorem kN {l:Pts} {s:List UInt8} (h:l.utx=some s) (hw:l.wt≤1073741824):(⟨s.toArray⟩:ByteArray).size≤1073741824:=by
  have:=Pts.utx_len l s h;show s.length≤_;omega
theorem BZ (f:Nat) (ih:PRt f) (G:Nat→Prop) (w:World) (vs:List Value) (x:RdF (Nd f)) (hG:∀ k,G k→k<w.heap.size) (ht:cC w) (hv:RdN f G w vs x):
    Calls Tryz.prog 17 #[ag vs] w fun e w'=>e=.returned (.bool (aW (Nd.vw f) x))∧Below w.heap.size w w':=by
  obtain ⟨num,op,tz,here⟩:=x;obtain ⟨vt,rfl,hnum,hhere,hv⟩:=hv;obtain ⟨A,n,c,hvt⟩:=WdN.shape hv
  injection hvt with hvt
  subst hvt;have hvv:WdN f G w [.slice A n c] tz:=hv;obtain ⟨rfl,hnc,hcm,hwt,hpt,-⟩:=hvv.cmds;simp only at hnum hhere hnc hcm hwt hpt hvv;show Calls Tryz.prog 17 #[.agg #[.string num,.int .i64 op,.slice A tz.p.len c,.string here]] w _;obtain ⟨W,hW,hbw,hbx⟩:=cpd w (.cells #[.string num,.int .i64 op,.slice A tz.p.len c,.string here] 33);have x0:W.cell? ⟨w.heap.size,0,none⟩=some (.string num):=by simp [World.cell?,hbx]
  have x1:W.cell? ⟨w.heap.size,1,none⟩=some (.int .i64 op):=by simp [World.cell?,hbx]
  have x2:W.cell? ⟨w.heap.size,2,none⟩=some (.slice A tz.p.len c):=by simp [World.cell?,hbx]
  have x3:W.cell? ⟨w.heap.size,3,none⟩=some (.string here):=by simp [World.cell?,hbx]
  obtain ⟨HGW,HGG,HPT,HBW,HB0,HG,HV,IH,HT⟩:=hs9 (fun k (h:G k)=>gK (hG k h) hbw.size) (fun X (hX:Below W.heap.size W X) k (h:G k)=>gK (gK (hG k h) hbw.size) hX.size) (hpt.old hG hbw) hbw (Below.refl W.heap.size W) hG hvv ih ht;clear hbw hbx hG hv hvv ih hpt ht;cases hn:num.toList.isEmpty
  case' false=>
    go_enter Tryz.func17,Tryz.ntmps17;go_wp2_with fail;refine (iM num _ (by omega)).mono ?_;rintro e wd ⟨he,hb⟩;have HBc:=Ha (HB0.out.trans (hb.mono HB0.out.size));obtain ⟨y0,y1,y2,y3⟩:=ks4 HBc.out x0 x1 x2 x3;clear hb;cases hd:Chr.digits num.toList
    · rw [hd] at he;subst he;have HNUM:=Ha (show (num.toList.isEmpty||Chr.digits num.toList)=false by rw [hn,hd];rfl);clear hd;go_wp2_with fail;go_ret;exact ⟨aC (by rw [bX,HNUM.out];rfl),HBW.out.trans (HBc.out.mono HBW.out.size)⟩
    rw [hd] at he;subst he;have HNUM:=Ha (show (num.toList.isEmpty||Chr.digits num.toList)=true by rw [hn,hd];rfl);clear hd
  case' true=>
    go_enter Tryz.func17,Tryz.ntmps17;have HBc:=HB0;have y0:=x0;have y1:=x1;have y2:=x2;have y3:=x3;have HNUM:=Ha (show (num.toList.isEmpty||Chr.digits num.toList)=true by rw [hn];rfl)
  all_goals
    cases hop:Ope.redir op
    · have HOP:=Ha hop;by_cases h9:op<9
      · clear hop;go_wp2_with fail;go_ret;exact ⟨aC (by rw [bX,HNUM.out,HOP.out];rfl),HBW.out.trans (HBc.out.mono HBW.out.size)⟩
      · have h17:17<op:=by
          simp only [Ope.redir,Bool.and_eq_false_iff,decide_eq_false_iff_not] at hop;omega
        clear hop;go_wp2_with fail;go_ret;exact ⟨aC (by rw [bX,HNUM.out,HOP.out];rfl),HBW.out.trans (HBc.out.mono HBW.out.size)⟩
    have h9:9≤op:=by
      simp only [Ope.redir,Bool.and_eq_true,decide_eq_true_eq] at hop;omega
    have h17:op≤17:=by
      simp only [Ope.redir,Bool.and_eq_true,decide_eq_true_eq] at hop;omega
    have HOP:=Ha hop;have HBq:=Ha HBc.out;have v0:=y0;have v1:=y1;have v2:=y2;have v3:=y3;clear hop y0 y1 y2 y3;go_wp2_with fail;refine (tR f IH.out G _ _ tz (HGG.out _ HBq.out) (HT.out.below (HBW.out.trans (HBq.out.mono HBW.out.size))) (HV.out.below HG.out (HBW.out.trans (HBq.out.mono HBW.out.size)))).mono ?_;rintro e wc ⟨he,hb⟩;have HBr:=Ha (HBq.out.trans (hb.mono HBq.out.size));obtain ⟨u0,u1,u2,u3⟩:=ks4 HBr.out x0 x1 x2 x3;clear hb v0 v1 v2 v3;cases hwd:aP (Nd.vw f) tz
    · rw [hwd] at he;subst he;have HWD:=Ha hwd;clear hwd;go_wp2_with fail;go_ret;exact ⟨aC (by rw [bX,HNUM.out,HOP.out,HWD.out];rfl),HBW.out.trans (HBr.out.mono HBW.out.size)⟩
    rw [hwd] at he;subst he;have HWD:=Ha hwd;clear hwd;by_cases h12:op=12
    · subst h12;go_wp2_with fail;refine (pX tz.p A c G _ hwt (HGG.out _ HBr.out) (HPT.out.old HGW.out HBr.out)).mono ?_;rintro e wt ⟨he,hb⟩;have HBs:=Ha (HBr.out.trans (hb.mono HBr.out.size));obtain ⟨t0,t1,t2,t3⟩:=ks4 HBs.out x0 x1 x2 x3;clear hb u0 u1 u2 u3;cases hu:tz.p.utx with
      | none=>
        rw [hu] at he;subst he;have HU:=Ha hu;clear hu;simp only [Option.isSome_none];go_wp2_with fail;go_ret;exact ⟨aC (by rw [bX,HNUM.out,HOP.out,HWD.out,HU.out];rfl),HBW.out.trans (HBs.out.mono HBW.out.size)⟩
      | some us=>
        rw [hu] at he;subst he;have HU:=Ha hu;clear hu;simp only [Option.isSome_some,Option.getD_some];unfold bs;go_wp2_with fail;refine (uI _ here false _ (by omega) (by have:=kN HU.out hwt;omega)).mono ?_;rintro e wm ⟨rfl,hb⟩;have HBm:=Ha (HBs.out.trans (hb.mono HBs.out.size));clear hb t0 t1 t2 t3;go_wp2_with fail;go_ret;exact ⟨aC (by rw [bX,HNUM.out,HOP.out,HWD.out,HU.out,aI];rfl),HBW.out.trans (HBm.out.mono HBW.out.size)⟩
    by_cases h13:op=13
    · subst h13;go_wp2_with fail;refine (pX tz.p A c G _ hwt (HGG.out _ HBr.out) (HPT.out.old HGW.out HBr.out)).mono ?_;rintro e wt ⟨he,hb⟩;have HBs:=Ha (HBr.out.trans (hb.mono HBr.out.size));obtain ⟨t0,t1,t2,t3⟩:=ks4 HBs.out x0 x1 x2 x3;clear hb u0 u1 u2 u3;cases hu:tz.p.utx with
      | none=>
        rw [hu] at he;subst he;have HU:=Ha hu;clear hu;simp only [Option.isSome_none];go_wp2_with fail;go_ret;exact ⟨aC (by rw [bX,HNUM.out,HOP.out,HWD.out,HU.out];rfl),HBW.out.trans (HBs.out.mono HBW.out.size)⟩
      | some us=>
        rw [hu] at he;subst he;have HU:=Ha hu;clear hu;simp only [Option.isSome_some,Option.getD_some];unfold bs;go_wp2_with fail;refine (uI _ here true _ (by omega) (by have:=kN HU.out hwt;omega)).mono ?_;rintro e wm ⟨rfl,hb⟩;have HBm:=Ha (HBs.out.trans (hb.mono HBs.out.size));clear hb t0 t1 t2 t3;go_wp2_with fail;go_ret;exact ⟨aC (by rw [bX,HNUM.out,HOP.out,HWD.out,HU.out,aI];rfl),HBW.out.trans (HBm.out.mono HBW.out.size)⟩
    have n12:(op != 12)=true:=bne_iff_ne.2 h12;have n13:(op != 13)=true:=bne_iff_ne.2 h13;have HN:=Ha (And.intro h12 h13);clear h12 h13;go_wp2_with fail;go_ret;exact ⟨aC (by rw [bX,HNUM.out,HOP.out,HWD.out,lL HN.out.1 HN.out.2];rfl),HBW.out.trans (HBr.out.mono HBW.out.size)⟩
theorem uK (f:Nat) (ih:RRt f) (G:Nat→Prop) (w:World) (vs:List Value) (x:RdF (Nd f)) (hG:∀ k,G k→k<w.heap.size) (hv:RdN f G w vs x):
    Calls Tryz.prog 18 #[ag vs] w fun e w'=>e=.returned (.bool (aW (Nd.vw f) x))∧Below w.heap.size w w':=by
  obtain ⟨num,op,tz,here⟩:=x;obtain ⟨vt,rfl,hnum,hhere,hv⟩:=hv;obtain ⟨A,n,c,hvt⟩:=WdN.shape hv
  injection hvt with hvt
  subst hvt;have hvv:WdN f G w [.slice A n c] tz:=hv;obtain ⟨rfl,hnc,hcm,hwt,hpt,-⟩:=hvv.cmds;simp only at hnum hhere hnc hcm hwt hpt hvv;show Calls Tryz.prog 18 #[.agg #[.string num,.int .i64 op,.slice A tz.p.len c,.string here]] w _;obtain ⟨W,hW,hbw,hbx⟩:=cpd w (.cells #[.string num,.int .i64 op,.slice A tz.p.len c,.string here] 33);have x0:W.cell? ⟨w.heap.size,0,none⟩=some (.string num):=by simp [World.cell?,hbx]
  have x1:W.cell? ⟨w.heap.size,1,none⟩=some (.int .i64 op):=by simp [World.cell?,hbx]
  have x2:W.cell? ⟨w.heap.size,2,none⟩=some (.slice A tz.p.len c):=by simp [World.cell?,hbx]
  have x3:W.cell? ⟨w.heap.size,3,none⟩=some (.string here):=by simp [World.cell?,hbx]
  obtain ⟨HGW,HGG,HPT,HBW,HB0,HG,HV,IH⟩:=hs8 (fun k (h:G k)=>gK (hG k h) hbw.size) (fun X (hX:Below W.heap.size W X) k (h:G k)=>gK (gK (hG k h) hbw.size) hX.size) (hpt.old hG hbw) hbw (Below.refl W.heap.size W) hG hvv ih;clear hbw hbx hG hv hvv ih hpt;cases hn:num.toList.isEmpty
  case' false=>
    go_enter Tryz.func18,Tryz.ntmps18;go_wp2_with fail;refine (vI num _ (by omega)).mono ?_;rintro e wd ⟨he,hb⟩;have HBc:=Ha (HB0.out.trans (hb.mono HB0.out.size));obtain ⟨y0,y1,y2,y3⟩:=ks4 HBc.out x0 x1 x2 x3;clear hb;cases hd:Chr.digits num.toList
    · rw [hd] at he;subst he;have HNUM:=Ha (show (num.toList.isEmpty||Chr.digits num.toList)=false by rw [hn,hd];rfl);clear hd;go_wp2_with fail;go_ret;exact ⟨aC (by rw [bX,HNUM.out];rfl),HBW.out.trans (HBc.out.mono HBW.out.size)⟩
    rw [hd] at he;subst he;have HNUM:=Ha (show (num.toList.isEmpty||Chr.digits num.toList)=true by rw [hn,hd];rfl);clear hd
  case' true=>
    go_enter Tryz.func18,Tryz.ntmps18;have HBc:=HB0;have y0:=x0;have y1:=x1;have y2:=x2;have y3:=x3;have HNUM:=Ha (show (num.toList.isEmpty||Chr.digits num.toList)=true by rw [hn];rfl)
  all_goals
    go_wp2_with fail;refine (zB op _).mono ?_;rintro e wo ⟨he,hb⟩;have HBq:=Ha (HBc.out.trans (hb.mono HBc.out.size));obtain ⟨v0,v1,v2,v3⟩:=ks4 HBq.out x0 x1 x2 x3;clear hb y0 y1 y2 y3;cases hop:Ope.redir op
    · rw [hop] at he;subst he;have HOP:=Ha hop;clear hop;go_wp2_with fail;go_ret;exact ⟨aC (by rw [bX,HNUM.out,HOP.out];rfl),HBW.out.trans (HBq.out.mono HBW.out.size)⟩
    rw [hop] at he;subst he;have HOP:=Ha hop;clear hop;go_wp2_with fail;refine (AN f IH.out G _ _ tz (HGG.out _ HBq.out) (HV.out.below HG.out (HBW.out.trans (HBq.out.mono HBW.out.size)))).mono ?_;rintro e wc ⟨he,hb⟩;have HBr:=Ha (HBq.out.trans (hb.mono HBq.out.size));obtain ⟨u0,u1,u2,u3⟩:=ks4 HBr.out x0 x1 x2 x3;clear hb v0 v1 v2 v3;cases hwd:aP (Nd.vw f) tz
    · rw [hwd] at he;subst he;have HWD:=Ha hwd;clear hwd;go_wp2_with fail;go_ret;exact ⟨aC (by rw [bX,HNUM.out,HOP.out,HWD.out];rfl),HBW.out.trans (HBr.out.mono HBW.out.size)⟩
    rw [hwd] at he;subst he;have HWD:=Ha hwd;clear hwd;by_cases h12:op=12
    · subst h12;go_wp2_with fail;refine (uM tz.p A c G _ hwt (HGG.out _ HBr.out) (HPT.out.old HGW.out HBr.out)).mono ?_;rintro e wt ⟨he,hb⟩;have HBs:=Ha (HBr.out.trans (hb.mono HBr.out.size));obtain ⟨t0,t1,t2,t3⟩:=ks4 HBs.out x0 x1 x2 x3;clear hb u0 u1 u2 u3;cases hu:tz.p.utx with
      | none=>
        rw [hu] at he;subst he;have HU:=Ha hu;clear hu;simp only [Option.isSome_none];go_wp2_with fail;go_ret;exact ⟨aC (by rw [bX,HNUM.out,HOP.out,HWD.out,HU.out];rfl),HBW.out.trans (HBs.out.mono HBW.out.size)⟩
      | some us=>
        rw [hu] at he;subst he;have HU:=Ha hu;clear hu;simp only [Option.isSome_some,Option.getD_some];unfold bs;go_wp2_with fail;refine (nB _ here false _ (by omega) (by have:=kN HU.out hwt;omega)).mono ?_;rintro e wm ⟨rfl,hb⟩;have HBm:=Ha (HBs.out.trans (hb.mono HBs.out.size));clear hb t0 t1 t2 t3;go_wp2_with fail;go_ret;exact ⟨aC (by rw [bX,HNUM.out,HOP.out,HWD.out,HU.out,aI];rfl),HBW.out.trans (HBm.out.mono HBW.out.size)⟩
    by_cases h13:op=13
    · subst h13;go_wp2_with fail;refine (uM tz.p A c G _ hwt (HGG.out _ HBr.out) (HPT.out.old HGW.out HBr.out)).mono ?_;rintro e wt ⟨he,hb⟩;have HBs:=Ha (HBr.out.trans (hb.mono HBr.out.size));obtain ⟨t0,t1,t2,t3⟩:=ks4 HBs.out x0 x1 x2 x3;clear hb u0 u1 u2 u3;cases hu:tz.p.utx with
      | none=>
        rw [hu] at he;subst he;have HU:=Ha hu;clear hu;simp only [Option.isSome_none];go_wp2_with fail;go_ret;exact ⟨aC (by rw [bX,HNUM.out,HOP.out,HWD.out,HU.out];rfl),HBW.out.trans (HBs.out.mono HBW.out.size)⟩
      | some us=>
        rw [hu] at he;subst he;have HU:=Ha hu;clear hu;simp only [Option.isSome_some,Option.getD_some];unfold bs;go_wp2_with fail;refine (nB _ here true _ (by omega) (by have:=kN HU.out hwt;omega)).mono ?_;rintro e wm ⟨rfl,hb⟩;have HBm:=Ha (HBs.out.trans (hb.mono HBs.out.size));clear hb t0 t1 t2 t3;go_wp2_with fail;go_ret;exact ⟨aC (by rw [bX,HNUM.out,HOP.out,HWD.out,HU.out,aI];rfl),HBW.out.trans (HBm.out.mono HBW.out.size)⟩
    have n12:(op != 12)=true:=bne_iff_ne.2 h12;have n13:(op != 13)=true:=bne_iff_ne.2 h13;have HN:=Ha (And.intro h12 h13);clear h12 h13;go_wp2_with fail;go_ret;exact ⟨aC (by rw [bX,HNUM.out,HOP.out,HWD.out,lL HN.out.1 HN.out.2];rfl),HBW.out.trans (HBr.out.mono HBW.out.size)⟩
end Go.Proofs.YtjpopekmbmcggaaGreatDoor
namespace Go.Proofs.YtjpopekmbmcggaaGreatDoor
open Go.RowKit
theorem NdV.open {f:Nat} {G:Nat→Prop} {w:World} {vs:List Value} {ky:Int} {s:ByteArray} {nt ni:Bool} {ops:List Int} {asg wds:List (WdF (Nd f))} {rds:List (RdF (Nd f))} {ars:List (ArF (Nd f))} {kds:List (Nd f)}
  (h:NdV (f+1) G w vs (NdF.mk ky s nt ni ops asg wds rds ars kds)):
  ∃ (A4:Option Addr) (c4:Nat) (A5:Option Addr) (c5:Nat) (A6:Option Addr) (c6:Nat) (A7:Option Addr) (c7:Nat) (A8:Option Addr) (c8:Nat) (A9:Option Addr) (c9:Nat),
   vs=[.int .i64 ky,.string s,.bool nt,.bool ni,.slice A4 ops.length c4,.slice A5 asg.length c5,.slice A6 wds.length c6,.slice A7 rds.length c7,.slice A8 ars.length c8,.slice A9 kds.length c9]∧s.size≤1073741824∧asg.length+rds.length≤1073741824∧
   ops.length≤9223372036854775807∧asg.length≤9223372036854775807∧wds.length≤9223372036854775807∧rds.length≤9223372036854775807∧ars.length≤9223372036854775807∧kds.length≤9223372036854775807∧
   aV G w 1 lR (.slice A4 ops.length c4) ops∧aV G w 1 (WdN f G w) (.slice A5 asg.length c5) asg∧aV G w 1 (WdN f G w) (.slice A6 wds.length c6) wds∧aV G w 4 (RdN f G w) (.slice A7 rds.length c7) rds∧
   aV G w 11 (ArN f G w) (.slice A8 ars.length c8) ars∧aV G w 10 (NdV f G w) (.slice A9 kds.length c9) kds:=by
 obtain ⟨vo,va,vw,vr,vm,vk,rfl,⟨hn1,hn2⟩,h4,h5,h6,h7,h8,h9⟩:=h;obtain ⟨A4,c4,rfl,l4,m4⟩:=h4.shape;obtain ⟨A5,c5,rfl,l5,m5⟩:=h5.shape;obtain ⟨A6,c6,rfl,l6,m6⟩:=h6.shape;obtain ⟨A7,c7,rfl,l7,m7⟩:=h7.shape;obtain ⟨A8,c8,rfl,l8,m8⟩:=h8.shape;obtain ⟨A9,c9,rfl,l9,m9⟩:=h9.shape;unfold maxLen at m4 m5 m6 m7 m8 m9;simp only at l4 l5 l6 l7 l8 l9;exact ⟨A4,c4,A5,c5,A6,c6,A7,c7,A8,c8,A9,c9,rfl,hn1,hn2,by omega,by omega,by omega,by omega,by omega,by omega,h4,h5,h6,h7,h8,h9⟩
section
variable {f:Nat} {G:Nat→Prop} {w w':World} {v:Value}
theorem aV.onI {xs:List Int} (h:aV G w 1 lR v xs) (hG:∀ k,G k→k<w.heap.size) (hb:Below w.heap.size w w'):aV G w' 1 lR v xs:=h.keep (fun _ h=>h) (bC hG hb) fun _ _ h=>h
theorem aV.onW {xs:List (WdF (Nd f))} (h:aV G w 1 (WdN f G w) v xs) (hG:∀ k,G k→k<w.heap.size) (hb:Below w.heap.size w w'):aV G w' 1 (WdN f G w') v xs:=h.keep (fun _ h=>h) (bC hG hb) fun _ _ h=>h.below hG hb
theorem aV.onR {xs:List (RdF (Nd f))} (h:aV G w 4 (RdN f G w) v xs) (hG:∀ k,G k→k<w.heap.size) (hb:Below w.heap.size w w'):aV G w' 4 (RdN f G w') v xs:=h.keep (fun _ h=>h) (bC hG hb) fun _ _ h=>h.below hG hb
theorem aV.onA {xs:List (ArF (Nd f))} (h:aV G w 11 (ArN f G w) v xs) (hG:∀ k,G k→k<w.heap.size) (hb:Below w.heap.size w w'):aV G w' 11 (ArN f G w') v xs:=h.keep (fun _ h=>h) (bC hG hb) fun _ _ h=>h.below hG hb
theorem aV.onN {xs:List (Nd f)} (h:aV G w 10 (NdV f G w) v xs) (hG:∀ k,G k→k<w.heap.size) (hb:Below w.heap.size w w'):aV G w' 10 (NdV f G w') v xs:=h.keep (fun _ h=>h) (bC hG hb) fun _ _ h=>h.below hG hb
end
theorem aG {G:Nat→Prop} {w w':World} (hG:∀ k,G k→k<w.heap.size) (hb:Below w.heap.size w w'):∀ k,G k→k<w'.heap.size:=fun k hk=>gK (hG k hk) hb.size
def tS (h e:Bool):Bool:=!e && !h
def tL (h d:Bool):Bool:=d && !h
def uB (b d:Bool):Bool:=b&&d
theorem bL {α:Type} (h0 h1 h2 h3 h4 h5 h6:Bool) (ky:Int) (s:ByteArray) (nt ni:Bool) (ops:List Int) (asg wds:List (WdF α)) (rds:List (RdF α)) (ars:List (ArF α)) (kds:List α):
  jT ⟨h0,h1,h2,h3,h4,h5,h6⟩ (NdF.mk ky s nt ni ops asg wds rds ars kds)=
   !(tS h0 s.toList.isEmpty||(tL h1 (decide (0<ops.length))||(tL h2 (decide (0<asg.length))||(tL h3 (decide (0<wds.length))||(tL h4 (decide (0<rds.length))||(tL h5 (decide (0<ars.length))||(tL h6 (decide (0<kds.length))||(uB nt (ky != 3)||uB ni (ky != 7))))))))):=by
 have e:∀ {β:Type} (l:List β) (h:Bool),(h||l.isEmpty) = !tL h (decide (0<l.length)):=fun l h=>by cases l <;> cases h <;> rfl
 have e0:∀ (l:List UInt8) (h:Bool),(h||l.isEmpty) = !tS h l.isEmpty:=fun l h=>by cases l <;> cases h <;> rfl
 have e1:∀ (b:Bool) (k n:Int),(!b||k==n) = !uB b (k != n):=fun b k n=>by cases b <;> simp [uB,bne]
 unfold jT;simp only;rw [e0 s.toList h0,e ops h1,e asg h2,e wds h3,e rds h4,e ars h5,e kds h6,e1 nt ky 3,e1 ni ky 7];simp only [Bool.not_or,Bool.and_assoc]
theorem qK:bG 17:=fun args w=>by simp [callFunc,go_sem,Tryz.func17,Tryz.f17]
theorem jJ:bG 15:=fun args w=>by simp [callFunc,go_sem,Tryz.func15,Tryz.f15]
section
variable {f:Nat} {G:Nat→Prop} {w:World}
theorem yX (ih:PRt f) (hG:∀ k,G k→k<w.heap.size) (ht:cC w):eM (NdV f G) ag w 13 #[] (Nd.vw f).R:=fun X hX vs y hy=>by
 rw [Array.append_empty];exact ih G X vs y (aG hG hX) (ht.below hX) hy
theorem pM (ih:PRt f) (hG:∀ k,G k→k<w.heap.size) (ht:cC w):eM (WdN f G) ag w 15 #[] (aP (Nd.vw f)):=fun X hX vs y hy=>by
 rw [Array.append_empty];exact tR f ih G X vs y (aG hG hX) (ht.below hX) hy
theorem yW (ih:PRt f) (hG:∀ k,G k→k<w.heap.size) (ht:cC w):eM (RdN f G) ag w 17 #[] (aW (Nd.vw f)):=fun X hX vs y hy=>by
 rw [Array.append_empty];exact BZ f ih G X vs y (aG hG hX) (ht.below hX) hy
end
theorem eU (f:Nat) (ih:PRt f) (h:Has) (G:Nat→Prop) (w:World) (vs:List Value) (x:NdF (Nd f)) (hG:∀ k,G k→k<w.heap.size) (ht:cC w) (hv:NdV (f+1) G w vs x):
  Calls Tryz.prog 79 #[ag vs,.agg #[.bool h.nm,.bool h.op,.bool h.sa,.bool h.ws,.bool h.rs,.bool h.ar,.bool h.ks]] w fun e w'=>e=.returned (.bool (aR (Nd.vw f) h x))∧Below w.heap.size w w':=by
 obtain ⟨h0,h1,h2,h3,h4,h5,h6⟩:=h;obtain ⟨ky,s,nt,ni,ops,asg,wds,rds,ars,kds⟩:=x;obtain ⟨A4,c4,A5,c5,A6,c6,A7,c7,A8,c8,A9,c9,rfl,hns,hal,hl4,hl5,hl6,hl7,hl8,hl9,hso,hsa,hsw,hsr,hsm,hsk⟩:=NdV.open hv;obtain ⟨HSO,HSA,HSW,HSR,HSM,HSK⟩:=hs6 hso hsa hsw hsr hsm hsk;clear hso hsa hsw hsr hsm hsk hv;unfold ag;have hbw:Below w.heap.size w ((w.alloc (.cells #[.int .i64 ky,.string s,.bool nt,.bool ni,.slice A4 ops.length c4,.slice A5 asg.length c5,.slice A6 wds.length c6,.slice A7 rds.length c7,.slice A8 ars.length c8,.slice A9 kds.length c9] 28)).alloc (.cells #[.bool h0,.bool h1,.bool h2,.bool h3,.bool h4,.bool h5,.bool h6] 87)):=((Below.refl _ _).alloc (Nat.le_refl _) _).alloc (by simp) _;obtain ⟨hb0,hb1⟩:=dQ w (.cells #[.int .i64 ky,.string s,.bool nt,.bool ni,.slice A4 ops.length c4,.slice A5 asg.length c5,.slice A6 wds.length c6,.slice A7 rds.length c7,.slice A8 ars.length c8,.slice A9 kds.length c9] 28) (.cells #[.bool h0,.bool h1,.bool h2,.bool h3,.bool h4,.bool h5,.bool h6] 87);generalize hW:(w.alloc (.cells #[.int .i64 ky,.string s,.bool nt,.bool ni,.slice A4 ops.length c4,.slice A5 asg.length c5,.slice A6 wds.length c6,.slice A7 rds.length c7,.slice A8 ars.length c8,.slice A9 kds.length c9] 28)).alloc (.cells #[.bool h0,.bool h1,.bool h2,.bool h3,.bool h4,.bool h5,.bool h6] 87)=W at *;obtain ⟨x0,x1,x2,x3,x4,x5,x6,x7,x8,x9⟩:=c10 hb0;have k0:W.cell? ⟨w.heap.size+1,0,none⟩=some (.bool h0):=by simp [World.cell?,hb1]
 have k1:W.cell? ⟨w.heap.size+1,1,none⟩=some (.bool h1):=by simp [World.cell?,hb1]
 have k2:W.cell? ⟨w.heap.size+1,2,none⟩=some (.bool h2):=by simp [World.cell?,hb1]
 have k3:W.cell? ⟨w.heap.size+1,3,none⟩=some (.bool h3):=by simp [World.cell?,hb1]
 have k4:W.cell? ⟨w.heap.size+1,4,none⟩=some (.bool h4):=by simp [World.cell?,hb1]
 have k5:W.cell? ⟨w.heap.size+1,5,none⟩=some (.bool h5):=by simp [World.cell?,hb1]
 have k6:W.cell? ⟨w.heap.size+1,6,none⟩=some (.bool h6):=by simp [World.cell?,hb1]
 obtain ⟨HGW,HBW,HG,HT,IH⟩:=hs5 (aG hG hbw) hbw hG ht ih;clear hbw hb0 hb1 hG ht ih;go_enter Tryz.func79,Tryz.ntmps79
 go_upto_region 1 with fail
 go_cut [5] (fun v wx=>v=.bool (tS h0 s.toList.isEmpty)∧W=wx)
 case first=>
   cases he:s.toList.isEmpty <;> cases h0;all_goals
    go_wp2_with fail
    go_meet
    exact ⟨by rw [tS,he];rfl,rfl⟩
 case rest=>
  obtain ⟨rfl,rfl⟩:=hcut;cases q0:tS h0 s.toList.isEmpty
  case true=>
   have HQ0:=Ha q0;clear q0;go_wp2_with fail;go_ret;exact ⟨aC (by rw [aR,bL,HQ0.out];rfl),HBW.out⟩
  have HQ0:=Ha q0;clear q0
  go_upto_region 2 with fail
  go_cut [5] (fun v wx=>v=.bool (tL h1 (decide (0<ops.length)))∧W=wx)
  case first=>
    cases he:(decide (0<ops.length)) <;> cases h1;all_goals
     go_wp2_with fail
     go_meet
     exact ⟨by rw [tL,he];rfl,rfl⟩
  case rest=>
   obtain ⟨rfl,rfl⟩:=hcut;cases q1:tL h1 (decide (0<ops.length))
   case true=>
    have HQ1:=Ha q1;clear q1;go_wp2_with fail;go_ret;exact ⟨aC (by rw [aR,bL,HQ0.out,HQ1.out];rfl),HBW.out⟩
   have HQ1:=Ha q1;clear q1
   go_upto_region 3 with fail
   go_cut [5] (fun v wx=>v=.bool (tL h2 (decide (0<asg.length)))∧W=wx)
   case first=>
     cases he:(decide (0<asg.length)) <;> cases h2;all_goals
      go_wp2_with fail
      go_meet
      exact ⟨by rw [tL,he];rfl,rfl⟩
   case rest=>
    obtain ⟨rfl,rfl⟩:=hcut;cases q2:tL h2 (decide (0<asg.length))
    case true=>
     have HQ2:=Ha q2;clear q2;go_wp2_with fail;go_ret;exact ⟨aC (by rw [aR,bL,HQ0.out,HQ1.out,HQ2.out];rfl),HBW.out⟩
    have HQ2:=Ha q2;clear q2
    go_upto_region 4 with fail
    go_cut [5] (fun v wx=>v=.bool (tL h3 (decide (0<wds.length)))∧W=wx)
    case first=>
      cases he:(decide (0<wds.length)) <;> cases h3;all_goals
       go_wp2_with fail
       go_meet
       exact ⟨by rw [tL,he];rfl,rfl⟩
    case rest=>
     obtain ⟨rfl,rfl⟩:=hcut;cases q3:tL h3 (decide (0<wds.length))
     case true=>
      have HQ3:=Ha q3;clear q3;go_wp2_with fail;go_ret;exact ⟨aC (by rw [aR,bL,HQ0.out,HQ1.out,HQ2.out,HQ3.out];rfl),HBW.out⟩
     have HQ3:=Ha q3;clear q3
     go_upto_region 6 with fail
     go_cut [41] (fun v wx=>v=.bool (tL h4 (decide (0<rds.length)))∧W=wx)
     case first=>
       cases he:(decide (0<rds.length)) <;> cases h4;all_goals
        go_wp2_with fail
        go_meet
        exact ⟨by rw [tL,he];rfl,rfl⟩
     case rest=>
      obtain ⟨rfl,rfl⟩:=hcut;cases q4:tL h4 (decide (0<rds.length))
      case true=>
       have HQ4:=Ha q4;clear q4;go_wp2_with fail;go_ret;exact ⟨aC (by rw [aR,bL,HQ0.out,HQ1.out,HQ2.out,HQ3.out,HQ4.out];rfl),HBW.out⟩
      have HQ4:=Ha q4;clear q4
      go_upto_region 7 with fail
      go_cut [41] (fun v wx=>v=.bool (tL h5 (decide (0<ars.length)))∧W=wx)
      case first=>
        cases he:(decide (0<ars.length)) <;> cases h5;all_goals
         go_wp2_with fail
         go_meet
         exact ⟨by rw [tL,he];rfl,rfl⟩
      case rest=>
       obtain ⟨rfl,rfl⟩:=hcut;cases q5:tL h5 (decide (0<ars.length))
       case true=>
        have HQ5:=Ha q5;clear q5;go_wp2_with fail;go_ret;exact ⟨aC (by rw [aR,bL,HQ0.out,HQ1.out,HQ2.out,HQ3.out,HQ4.out,HQ5.out];rfl),HBW.out⟩
       have HQ5:=Ha q5;clear q5
       go_upto_region 8 with fail
       go_cut [41] (fun v wx=>v=.bool (tL h6 (decide (0<kds.length)))∧W=wx)
       case first=>
         cases he:(decide (0<kds.length)) <;> cases h6;all_goals
          go_wp2_with fail
          go_meet
          exact ⟨by rw [tL,he];rfl,rfl⟩
       case rest=>
        obtain ⟨rfl,rfl⟩:=hcut;cases q6:tL h6 (decide (0<kds.length))
        case true=>
         have HQ6:=Ha q6;clear q6;go_wp2_with fail;go_ret;exact ⟨aC (by rw [aR,bL,HQ0.out,HQ1.out,HQ2.out,HQ3.out,HQ4.out,HQ5.out,HQ6.out];rfl),HBW.out⟩
        have HQ6:=Ha q6;clear q6
        go_upto_region 10 with fail
        go_cut [69] (fun v wx=>v=.bool (uB nt (ky != 3))∧W=wx)
        case first=>
          cases he:(ky != 3) <;> cases nt;all_goals
           go_wp2_with fail
           go_meet
           exact ⟨by rw [uB,he];rfl,rfl⟩
        case rest=>
         obtain ⟨rfl,rfl⟩:=hcut;cases q7:uB nt (ky != 3)
         case true=>
          have HQ7:=Ha q7;clear q7;go_wp2_with fail;go_ret;exact ⟨aC (by rw [aR,bL,HQ0.out,HQ1.out,HQ2.out,HQ3.out,HQ4.out,HQ5.out,HQ6.out,HQ7.out];rfl),HBW.out⟩
         have HQ7:=Ha q7;clear q7
         go_upto_region 11 with fail
         go_cut [69] (fun v wx=>v=.bool (uB ni (ky != 7))∧W=wx)
         case first=>
           cases he:(ky != 7) <;> cases ni;all_goals
            go_wp2_with fail
            go_meet
            exact ⟨by rw [uB,he];rfl,rfl⟩
         case rest=>
          obtain ⟨rfl,rfl⟩:=hcut;cases q8:uB ni (ky != 7)
          case true=>
           have HQ8:=Ha q8;clear q8;go_wp2_with fail;go_ret;exact ⟨aC (by rw [aR,bL,HQ0.out,HQ1.out,HQ2.out,HQ3.out,HQ4.out,HQ5.out,HQ6.out,HQ7.out,HQ8.out];rfl),HBW.out⟩
          have HQ8:=Ha q8;clear q8;have HR1:=Ha (uY f G 17 #[] (aW (Nd.vw f)) _ rds W HGW.out (HSR.out.onR HG.out HBW.out) qK (yW IH.out HGW.out (HT.out.below HBW.out)));go_wp2_with fail;refine HR1.out.mono ?_;rintro e w1 ⟨he,hb⟩;have HB1:=Ha (HBW.out.trans (hb.mono HBW.out.size));have y6:=aA x6 hb;have y5:=aA x5 hb;clear hb;cases qr:rds.all (aW (Nd.vw f))
          ·rw [qr] at he;subst he;have HQR:=Ha qr;clear qr;go_wp2_with fail;go_ret;exact ⟨aC (by rw [aR,bL,HQ0.out,HQ1.out,HQ2.out,HQ3.out,HQ4.out,HQ5.out,HQ6.out,HQ7.out,HQ8.out,HQR.out];rfl),HB1.out⟩
          rw [qr] at he;subst he;have HQR:=Ha qr;clear qr;have HR2:=Ha (jR f G 15 #[] (aP (Nd.vw f)) _ wds w1 (aG HG.out HB1.out) (HSW.out.onW HG.out HB1.out) jJ (pM IH.out (aG HG.out HB1.out) (HT.out.below HB1.out)));go_wp2_with fail;refine HR2.out.mono ?_;rintro e w2 ⟨he,hb⟩;have HB2:=Ha (HB1.out.trans (hb.mono HB1.out.size));have z5:=aA y5 hb;clear hb y5 y6;cases qw:wds.all (aP (Nd.vw f))
          ·rw [qw] at he;subst he;have HQW:=Ha qw;clear qw;go_wp2_with fail;go_ret;exact ⟨aC (by rw [aR,bL,HQ0.out,HQ1.out,HQ2.out,HQ3.out,HQ4.out,HQ5.out,HQ6.out,HQ7.out,HQ8.out,HQR.out,HQW.out];rfl),HB2.out⟩
          rw [qw] at he;subst he;have HQW:=Ha qw;clear qw;have HR3:=Ha (jR f G 15 #[] (aP (Nd.vw f)) _ asg w2 (aG HG.out HB2.out) (HSA.out.onW HG.out HB2.out) jJ (pM IH.out (aG HG.out HB2.out) (HT.out.below HB2.out)));go_wp2_with fail;refine HR3.out.mono ?_;rintro e w3 ⟨rfl,hb⟩;have HB3:=Ha (HB2.out.trans (hb.mono HB2.out.size));clear hb z5;go_wp2_with fail;go_ret;exact ⟨aC (by rw [aR,bL,HQ0.out,HQ1.out,HQ2.out,HQ3.out,HQ4.out,HQ5.out,HQ6.out,HQ7.out,HQ8.out,HQR.out,HQW.out];rfl),HB3.out⟩
end Go.Proofs.YtjpopekmbmcggaaGreatDoor
namespace Go.Proofs.YtjpopekmbmcggaaGreatDoor
open Go.RowKit
def eQ (f:Nat):Prop:=∀ (G:Nat→Prop) (w:World) (vs:List Value) (x:Nd f),(∀ k,G k→k<w.heap.size)→cC w→NdV f G w vs x→
 Calls Tryz.prog 37 #[ag vs] w fun e w'=>e=.returned (.bool ((Nd.vw f).rt x))∧Below w.heap.size w w'
def POn (f:Nat):Prop:=∀ (G:Nat→Prop) (w:World) (vs:List Value) (x:Nd f),(∀ k,G k→k<w.heap.size)→cC w→NdV f G w vs x→
 Calls Tryz.prog 79 #[ag vs,.agg #[.bool false,.bool false,.bool false,.bool false,.bool false,.bool false,.bool false]] w fun e w'=>e=.returned (.bool ((Nd.vw f).on x))∧Below w.heap.size w w'
theorem qL:bG 138:=fun args w=>by simp [callFunc,go_sem,Tryz.func138,Tryz.f138]
theorem sF:bG 140:=fun args w=>by simp [callFunc,go_sem,Tryz.func140,Tryz.f140]
theorem nR:bG 141:=fun args w=>by simp [callFunc,go_sem,Tryz.func141,Tryz.f141]
theorem vM:bG 94:=fun args w=>by simp [callFunc,go_sem,Tryz.func94,Tryz.f94]
theorem NdV.kind {f:Nat} {G:Nat→Prop} {w:World} {ky:Int} {r:List Value} {x:Nd f} (h:NdV f G w (.int .i64 ky::r) x):(Nd.vw f).kd x=ky:=by
 cases f with
 | zero=>exact h.elim
 | succ f=>
  obtain ⟨vo,va,vw,vr,vm,vk,h1,_⟩:=h
  injection h1 with h1
  injection h1 with _ h1
  exact h1.symm
theorem BM (f:Nat) (ih:eQ f) (fr:Int) (bo:Nat) (G:Nat→Prop) (w:World) (vs:List Value) (x:Nd f) (hG:∀ k,G k→k<w.heap.size) (ht:cC w) (hc:w.cell? ⟨bo,0,none⟩=some (.int .i64 fr)) (hv:NdV f G w vs x):
  Calls Tryz.prog 138 (#[ag vs]++#[.pointer (some ⟨bo,0,none⟩)]) w fun e w'=>e=.returned (.bool (decide (fr≤(Nd.vw f).kd x)&&(Nd.vw f).rt x))∧Below w.heap.size w w':=by
 obtain ⟨ky,s,nt,ni,A4,n4,c4,A5,n5,c5,A6,n6,c6,A7,n7,c7,A8,n8,c8,A9,n9,c9,rfl⟩:=hv.shape;have hkd:=NdV.kind hv;show Calls Tryz.prog 138 #[.agg #[.int .i64 ky,.string s,.bool nt,.bool ni,.slice A4 n4 c4,.slice A5 n5 c5,.slice A6 n6 c6,.slice A7 n7 c7,.slice A8 n8 c8,.slice A9 n9 c9],.pointer (some ⟨bo,0,none⟩)] w _;obtain ⟨W,hW,hbw,hb0⟩:=cpd w (.cells #[.int .i64 ky,.string s,.bool nt,.bool ni,.slice A4 n4 c4,.slice A5 n5 c5,.slice A6 n6 c6,.slice A7 n7 c7,.slice A8 n8 c8,.slice A9 n9 c9] 28);have hc1:=(hbw.cell (p:=⟨bo,0,none⟩) (fG hc)).trans hc;have HX:=Ha (ih G _ _ x (aG hG hbw) (ht.below hbw) (hv.below hG hbw));obtain ⟨x0,x1,x2,x3,x4,x5,x6,x7,x8,x9⟩:=c10 hb0;have HBW:=Ha hbw;have HKD:=Ha hkd;clear hkd hbw hb0 hG ht ih hv hc;by_cases h9:fr≤ky
 ·have HD:=Ha (decide_eq_true h9);go_enter Tryz.func138,Tryz.ntmps138;go_wp2_with fail;refine HX.out.mono ?_;rintro e w1 ⟨rfl,hb⟩;have HB:=Ha (HBW.out.trans (hb.mono HBW.out.size));clear hb;go_wp2_with fail;go_ret;exact ⟨aC (by rw [HKD.out,HD.out,Bool.true_and]),HB.out⟩
 ·have HD:=Ha (decide_eq_false h9);go_enter Tryz.func138,Tryz.ntmps138;go_wp2_with fail;go_ret;exact ⟨aC (by rw [HKD.out,HD.out,Bool.false_and]),HBW.out⟩
theorem sN (f:Nat) (ih:eQ f) (least:Nat) (fr:Int) (G:Nat→Prop) (w:World) (vs:List Value) (x:NdF (Nd f)) (hG:∀ k,G k→k<w.heap.size) (ht:cC w) (hv:NdV (f+1) G w vs x):
  Calls Tryz.prog 81 #[ag vs,.int .i64 (least:Nat),.int .i64 fr] w fun e w'=>e=.returned (.bool (bQ (Nd.vw f) least fr x))∧Below w.heap.size w w':=by
 obtain ⟨ky,s,nt,ni,ops,asg,wds,rds,ars,kds⟩:=x;obtain ⟨A4,c4,A5,c5,A6,c6,A7,c7,A8,c8,A9,c9,rfl,hns,hal,hl4,hl5,hl6,hl7,hl8,hl9,hso,hsa,hsw,hsr,hsm,hsk⟩:=NdV.open hv;obtain ⟨HSO,HSA,HSW,HSR,HSM,HSK⟩:=hs6 hso hsa hsw hsr hsm hsk;clear hso hsa hsw hsr hsm hsk hv;show Calls Tryz.prog 81 #[.agg #[.int .i64 ky,.string s,.bool nt,.bool ni,.slice A4 ops.length c4,.slice A5 asg.length c5,.slice A6 wds.length c6,.slice A7 rds.length c7,.slice A8 ars.length c8,.slice A9 kds.length c9],.int .i64 (least:Nat),.int .i64 fr] w _;have hbw:Below w.heap.size w ((w.alloc (.cells #[.int .i64 ky,.string s,.bool nt,.bool ni,.slice A4 ops.length c4,.slice A5 asg.length c5,.slice A6 wds.length c6,.slice A7 rds.length c7,.slice A8 ars.length c8,.slice A9 kds.length c9] 28)).alloc (.cells #[.int .i64 fr] 3)):=((Below.refl _ _).alloc (Nat.le_refl _) _).alloc (by simp) _;obtain ⟨hb0,hb1⟩:=dQ w (.cells #[.int .i64 ky,.string s,.bool nt,.bool ni,.slice A4 ops.length c4,.slice A5 asg.length c5,.slice A6 wds.length c6,.slice A7 rds.length c7,.slice A8 ars.length c8,.slice A9 kds.length c9] 28) (.cells #[.int .i64 fr] 3);generalize hW:(w.alloc (.cells #[.int .i64 ky,.string s,.bool nt,.bool ni,.slice A4 ops.length c4,.slice A5 asg.length c5,.slice A6 wds.length c6,.slice A7 rds.length c7,.slice A8 ars.length c8,.slice A9 kds.length c9] 28)).alloc (.cells #[.int .i64 fr] 3)=W at *;obtain ⟨x0,x1,x2,x3,x4,x5,x6,x7,x8,x9⟩:=c10 hb0;obtain ⟨HGW,HBW,HG,HT⟩:=hs4 (aG hG hbw) hbw hG ht;clear hbw hb0 hG ht;have z0:=dD hb1;have IH:=Ha ih;clear ih hb1;by_cases hl:least≤kds.length
 ·have HL:=Ha (decide_eq_true hl);have HX:=Ha (mD f G 138 #[.pointer (some ⟨w.heap.size+1,0,none⟩)] (fun y=>decide (fr≤(Nd.vw f).kd y)&&(Nd.vw f).rt y) _ kds W HGW.out (HSK.out.onN HG.out HBW.out) qL
   (fun X hX vs y hy=>BM f IH.out fr (w.heap.size+1) G X vs y (aG HGW.out hX) ((HT.out.below HBW.out).below hX) (aA z0 hX) hy))
  go_enter Tryz.func81,Tryz.ntmps81;go_wp2_with fail;refine HX.out.mono ?_;rintro e w1 ⟨rfl,hb⟩;have HB:=Ha (HBW.out.trans (hb.mono HBW.out.size));clear hb;go_wp2_with fail;go_ret;exact ⟨aC (by rw [bQ,HL.out,Bool.true_and]),HB.out⟩
 ·have HL:=Ha (decide_eq_false hl);go_enter Tryz.func81,Tryz.ntmps81;go_wp2_with fail;go_ret;exact ⟨aC (by rw [bQ,HL.out,Bool.false_and]),HBW.out⟩
theorem i4 (f:Nat) (ih:PRt f) (least:Nat) (G:Nat→Prop) (w:World) (vs:List Value) (x:NdF (Nd f)) (hG:∀ k,G k→k<w.heap.size) (ht:cC w) (hv:NdV (f+1) G w vs x):
  Calls Tryz.prog 91 #[ag vs,.int .i64 (least:Nat)] w fun e w'=>e=.returned (.bool (cD (Nd.vw f) least x))∧Below w.heap.size w w':=by
 obtain ⟨ky,s,nt,ni,ops,asg,wds,rds,ars,kds⟩:=x;obtain ⟨A4,c4,A5,c5,A6,c6,A7,c7,A8,c8,A9,c9,rfl,hns,hal,hl4,hl5,hl6,hl7,hl8,hl9,hso,hsa,hsw,hsr,hsm,hsk⟩:=NdV.open hv;obtain ⟨HSO,HSA,HSW,HSR,HSM,HSK⟩:=hs6 hso hsa hsw hsr hsm hsk;clear hso hsa hsw hsr hsm hsk hv;show Calls Tryz.prog 91 #[.agg #[.int .i64 ky,.string s,.bool nt,.bool ni,.slice A4 ops.length c4,.slice A5 asg.length c5,.slice A6 wds.length c6,.slice A7 rds.length c7,.slice A8 ars.length c8,.slice A9 kds.length c9],.int .i64 (least:Nat)] w _;obtain ⟨W,hW,hbw,hb0⟩:=cpd w (.cells #[.int .i64 ky,.string s,.bool nt,.bool ni,.slice A4 ops.length c4,.slice A5 asg.length c5,.slice A6 wds.length c6,.slice A7 rds.length c7,.slice A8 ars.length c8,.slice A9 kds.length c9] 28);obtain ⟨x0,x1,x2,x3,x4,x5,x6,x7,x8,x9⟩:=c10 hb0;obtain ⟨HGW,HBW,HG,HT⟩:=hs4 (aG hG hbw) hbw hG ht;clear hbw hb0 hG ht;by_cases hl:least≤kds.length
 ·have HL:=Ha (decide_eq_true hl);have HX:=Ha (mD f G 13 #[] (Nd.vw f).R _ kds W HGW.out (HSK.out.onN HG.out HBW.out) lK (yX ih HGW.out (HT.out.below HBW.out)));clear ih;go_enter Tryz.func91,Tryz.ntmps91;go_wp2_with fail;refine HX.out.mono ?_;rintro e w1 ⟨rfl,hb⟩;have HB:=Ha (HBW.out.trans (hb.mono HBW.out.size));clear hb;go_wp2_with fail;go_ret;exact ⟨aC (by rw [cD,HL.out,Bool.true_and]),HB.out⟩
 ·have HL:=Ha (decide_eq_false hl);clear ih;go_enter Tryz.func91,Tryz.ntmps91;go_wp2_with fail;go_ret;exact ⟨aC (by rw [cD,HL.out,Bool.false_and]),HBW.out⟩
theorem DF (k:Int) (w:World):Calls Tryz.prog 140 #[.int .i64 k] w fun e w'=>e=.returned (.bool ((k==1)||(k==2)))∧Below w.heap.size w w':=by
 cases h1:(k==1);all_goals
  go_enter Tryz.func140,Tryz.ntmps140;go_wp2_with fail;go_ret;exact ⟨rfl,Below.refl _ _⟩
theorem CJ (f:Nat) (many:Nat) (G:Nat→Prop) (w:World) (vs:List Value) (x:NdF (Nd f)) (hG:∀ k,G k→k<w.heap.size) (hv:NdV (f+1) G w vs x):
  Calls Tryz.prog 83 #[ag vs,.int .i64 (many:Nat)] w fun e w'=>e=.returned (.bool (eV many x))∧Below w.heap.size w w':=by
 obtain ⟨ky,s,nt,ni,ops,asg,wds,rds,ars,kds⟩:=x;obtain ⟨A4,c4,A5,c5,A6,c6,A7,c7,A8,c8,A9,c9,rfl,hns,hal,hl4,hl5,hl6,hl7,hl8,hl9,hso,hsa,hsw,hsr,hsm,hsk⟩:=NdV.open hv;obtain ⟨HSO,HSA,HSW,HSR,HSM,HSK⟩:=hs6 hso hsa hsw hsr hsm hsk;clear hso hsa hsw hsr hsm hsk hv;show Calls Tryz.prog 83 #[.agg #[.int .i64 ky,.string s,.bool nt,.bool ni,.slice A4 ops.length c4,.slice A5 asg.length c5,.slice A6 wds.length c6,.slice A7 rds.length c7,.slice A8 ars.length c8,.slice A9 kds.length c9],.int .i64 (many:Nat)] w _;obtain ⟨W,hW,hbw,hb0⟩:=cpd w (.cells #[.int .i64 ky,.string s,.bool nt,.bool ni,.slice A4 ops.length c4,.slice A5 asg.length c5,.slice A6 wds.length c6,.slice A7 rds.length c7,.slice A8 ars.length c8,.slice A9 kds.length c9] 28);obtain ⟨x0,x1,x2,x3,x4,x5,x6,x7,x8,x9⟩:=c10 hb0;obtain ⟨HGW,HBW,HG⟩:=hs3 (aG hG hbw) hbw hG;clear hbw hb0 hG;by_cases hl:ops.length=many
 ·have HL:=Ha (beq_iff_eq.2 hl);have h0:((ops.length:Int)==(many:Int))=true:=beq_iff_eq.2 (by omega);have h0':(ops.length==many)=true:=beq_iff_eq.2 hl;have HX:=Ha (AQ G 140 #[] (fun k=>(k==1)||(k==2)) _ ops W HGW.out (HSO.out.onI HG.out HBW.out) sF (fun X hX vs y hy=>by
   obtain rfl:vs=[.int .i64 y]:=hy;exact DF y X))
  clear hl;go_enter Tryz.func83,Tryz.ntmps83;go_wp2_with fail;refine HX.out.mono ?_;rintro e w1 ⟨rfl,hb⟩;have HB:=Ha (HBW.out.trans (hb.mono HBW.out.size));clear hb;go_wp2_with fail;go_ret;exact ⟨aC (by rw [eV,HL.out,Bool.true_and]),HB.out⟩
 ·have HL:=Ha (beq_false_of_ne hl);have h0:((ops.length:Int)==(many:Int))=false:=beq_false_of_ne (by omega);have h0':(ops.length==many)=false:=beq_false_of_ne hl;clear hl;go_enter Tryz.func83,Tryz.ntmps83;go_wp2_with fail;go_ret;exact ⟨aC (by rw [eV,HL.out,Bool.false_and]),HBW.out⟩
theorem nX (f:Nat) (G:Nat→Prop) (w:World) (vs:List Value) (x:WdF (Nd f)) (hG:∀ k,G k→k<w.heap.size) (hv:WdN f G w vs x):
  Calls Tryz.prog 141 #[ag vs] w fun e w'=>e=.returned (.bool x.p.asg.isSome)∧Below w.heap.size w w':=by
 obtain ⟨A,c,rfl,hnc,hcm,hwt,hpt,-⟩:=hv;show Calls Tryz.prog 141 #[.agg #[.slice A x.p.len c]] w _;obtain ⟨W,hW,hbw,hbz⟩:=cpd w (.cells #[.slice A x.p.len c] 31);have q0:=dD hbz;have HX:=Ha (rK x.p A c G _ (aG hG hbw) (hpt.old hG hbw) hnc hwt hcm);have HBW:=Ha hbw;clear hbw hpt hG;go_enter Tryz.func141,Tryz.ntmps141;go_wp2_with fail;refine HX.out.mono ?_;rintro e w1 ⟨v,rfl,hr,hb⟩;obtain ⟨A2,c2,rfl,_⟩:=hr.at_;have HB:=Ha (HBW.out.trans (hb.mono HBW.out.size));clear hb hr;go_wp2_with fail;go_ret;exact ⟨rfl,HB.out.alloc HB.out.size _⟩
theorem tB (f:Nat) {G:Nat→Prop} {w:World} (hG:∀ k,G k→k<w.heap.size):eM (WdN f G) ag w 141 #[] (fun x=>x.p.asg.isSome):=fun X hX vs y hy=>by
 rw [Array.append_empty];exact nX f G X vs y (aG hG hX) hy
theorem iL (a b:Nat):decide (0<(a:Int)+(b:Int))=decide (0<a+b):=by
 by_cases h:0<a+b
 ·rw [decide_eq_true h,decide_eq_true (by omega)]
 ·rw [decide_eq_false h,decide_eq_false (by omega)]
theorem fY {α:Type} (ky:Int) (s:ByteArray) (nt ni:Bool) (ops:List Int) (asg:List (WdF α)) (rds:List (RdF α)) (ars:List (ArF α)) (kds:List α):
  dU (NdF.mk ky s nt ni ops asg [] rds ars kds)=((asg.all fun x=>x.p.asg.isSome)&&decide (0<asg.length+rds.length)):=rfl
theorem cG {α:Type} (ky:Int) (s:ByteArray) (nt ni:Bool) (ops:List Int) (asg:List (WdF α)) (x:WdF α) (r:List (WdF α)) (rds:List (RdF α)) (ars:List (ArF α)) (kds:List α):
  dU (NdF.mk ky s nt ni ops asg (x::r) rds ars kds)=((asg.all fun x=>x.p.asg.isSome)&&(!x.p.asg.isSome&&(decide (0<asg.length+rds.length) || !x.p.plt.isSome||(rsv (x.p.plt.getD [])==0)))):=rfl
theorem aV.word0 {f:Nat} {G:Nat→Prop} {w:World} {A:Option Addr} {n c:Nat} {x:WdF (Nd f)} {r:List (WdF (Nd f))} (h:aV G w 1 (WdN f G w) (.slice A n c) (x::r)):
  ∃ (b off:Nat) (A0:Option Addr) (c0:Nat),A=some ⟨b,off,none⟩∧w.cell? ⟨b,off,none⟩=some (.slice A0 x.p.len c0)∧WdN f G w [.slice A0 x.p.len c0] x∧x.p.len≤c0∧c0≤maxLen∧x.p.wt≤1073741823∧aY G w A0 0 x.p:=by
 obtain ⟨A',c',hA,_,_,hel⟩:=h
 injection hA with hA1 hA2 hA3
 subst hA1;obtain ⟨b,off,rfl,hg,hel⟩:=hel (by simp);obtain ⟨vs,hvl,hR,hcell⟩:=hel 0 (by simp);simp only [gC] at hR;have hR2:=hR;obtain ⟨A0,c0,rfl,h2,h3,h4,h5,_⟩:=hR;exact ⟨b,off,A0,c0,rfl,by simpa using hcell 0 _ rfl,hR2,h2,h3,h4,h5⟩
theorem aV.node0 {f:Nat} {G:Nat→Prop} {w:World} {A:Option Addr} {n c:Nat} {x:Nd f} {r:List (Nd f)} (h:aV G w 10 (NdV f G w) (.slice A n c) (x::r)):
  ∃ (b off:Nat) (ky:Int) (s:ByteArray) (nt ni:Bool) (A4:Option Addr) (n4 c4:Nat) (A5:Option Addr) (n5 c5:Nat) (A6:Option Addr) (n6 c6:Nat) (A7:Option Addr) (n7 c7:Nat) (A8:Option Addr) (n8 c8:Nat) (A9:Option Addr) (n9 c9:Nat),A=some ⟨b,off,none⟩∧(w.cell? ⟨b,off,none⟩=some (.int .i64 ky)∧w.cell? ⟨b,off+1,none⟩=some (.string s)∧w.cell? ⟨b,off+2,none⟩=some (.bool nt)∧w.cell? ⟨b,off+3,none⟩=some (.bool ni)∧w.cell? ⟨b,off+4,none⟩=some (.slice A4 n4 c4)∧w.cell? ⟨b,off+5,none⟩=some (.slice A5 n5 c5)∧w.cell? ⟨b,off+6,none⟩=some (.slice A6 n6 c6)∧w.cell? ⟨b,off+7,none⟩=some (.slice A7 n7 c7)∧w.cell? ⟨b,off+8,none⟩=some (.slice A8 n8 c8)∧w.cell? ⟨b,off+9,none⟩=some (.slice A9 n9 c9))∧NdV f G w [.int .i64 ky,.string s,.bool nt,.bool ni,.slice A4 n4 c4,.slice A5 n5 c5,.slice A6 n6 c6,.slice A7 n7 c7,.slice A8 n8 c8,.slice A9 n9 c9] x:=by
 obtain ⟨A',c',hA,_,_,hel⟩:=h
 injection hA with hA1 hA2 hA3
 subst hA1;obtain ⟨b,off,rfl,hg,hel⟩:=hel (by simp);obtain ⟨vs,hvl,hR,hcell⟩:=hel 0 (by simp);simp only [gC] at hR;obtain ⟨ky,s,nt,ni,A4,n4,c4,A5,n5,c5,A6,n6,c6,A7,n7,c7,A8,n8,c8,A9,n9,c9,rfl⟩:=hR.shape;exact ⟨b,off,ky,s,nt,ni,A4,n4,c4,A5,n5,c5,A6,n6,c6,A7,n7,c7,A8,n8,c8,A9,n9,c9,rfl,⟨by simpa using hcell 0 _ rfl,by simpa using hcell 1 _ rfl,by simpa using hcell 2 _ rfl,by simpa using hcell 3 _ rfl,by simpa using hcell 4 _ rfl,by simpa using hcell 5 _ rfl,by simpa using hcell 6 _ rfl,by simpa using hcell 7 _ rfl,by simpa using hcell 8 _ rfl,by simpa using hcell 9 _ rfl⟩,hR⟩
theorem AF (f:Nat) (G:Nat→Prop) (w:World) (vs:List Value) (x:NdF (Nd f)) (hG:∀ k,G k→k<w.heap.size) (ht:cC w) (hv:NdV (f+1) G w vs x):
  Calls Tryz.prog 90 #[ag vs] w fun e w'=>e=.returned (.bool (dU x))∧Below w.heap.size w w':=by
 obtain ⟨ky,s,nt,ni,ops,asg,wds,rds,ars,kds⟩:=x;obtain ⟨A4,c4,A5,c5,A6,c6,A7,c7,A8,c8,A9,c9,rfl,hns,hal,hl4,hl5,hl6,hl7,hl8,hl9,hso,hsa,hsw,hsr,hsm,hsk⟩:=NdV.open hv;obtain ⟨HSO,HSA,HSW,HSR,HSM,HSK⟩:=hs6 hso hsa hsw hsr hsm hsk;clear hso hsa hsw hsr hsm hsk hv;unfold ag;obtain ⟨W,hW,hbw,hb0⟩:=cpd w (.cells #[.int .i64 ky,.string s,.bool nt,.bool ni,.slice A4 ops.length c4,.slice A5 asg.length c5,.slice A6 wds.length c6,.slice A7 rds.length c7,.slice A8 ars.length c8,.slice A9 kds.length c9] 28);obtain ⟨x0,x1,x2,x3,x4,x5,x6,x7,x8,x9⟩:=c10 hb0;obtain ⟨HGW,HBW,HG,HT⟩:=hs4 (aG hG hbw) hbw hG ht;clear hbw hb0 hG ht;have HX:=Ha (jR f G 141 #[] (fun x=>x.p.asg.isSome) _ asg W HGW.out (HSA.out.onW HG.out HBW.out) nR (tB f HGW.out));go_enter Tryz.func90,Tryz.ntmps90;go_wp2_with fail;refine HX.out.mono ?_;rintro e w1 ⟨he,hb⟩;have HB1:=Ha (HBW.out.trans (hb.mono HBW.out.size));obtain ⟨y5,y6,y7⟩:=ks3 hb x5 x6 x7;clear hb;cases qa:asg.all fun x=>x.p.asg.isSome
 ·rw [qa] at he;subst he;have HQA:=Ha qa;clear qa;go_wp2_with fail;go_ret;exact ⟨aC (by cases wds with
   | nil=>rw [fY,HQA.out];rfl
   | cons x0 r=>rw [cG,HQA.out];rfl),HB1.out⟩
 rw [qa] at he;subst he;have HQA:=Ha qa;clear qa;cases wds with
 | nil=>
  go_wp2_with fail;go_ret;exact ⟨aC (by rw [fY,HQA.out,iL];rfl),HB1.out⟩
 | cons x0 r=>
  obtain ⟨b,off,A0,c0,rfl,z0,hw0,hnc,hcm,hwt,hpt⟩:=aV.word0 (HSW.out.onW HG.out HB1.out);have hpos:0<List.length (x0::r):=by simp
  have hne:((List.length (x0::r):Nat):Int)≠0:=by simp;omega
  have hz1:(((List.length (x0::r):Nat):Int)==0)=false:=beq_false_of_ne hne;have hz2:(List.length (x0::r)==0)=false:=beq_false_of_ne (by omega);have HX2:=Ha (AM x0.p A0 c0 G w1 (by omega) (aG HG.out HB1.out) hpt);have HW0:=Ha hw0;clear hpt hw0 hne;generalize (x0::r).length=m at *;go_wp2_with fail;refine HX2.out.mono ?_;rintro e w2 ⟨rfl,hb⟩;have HB2:=Ha (HB1.out.trans (hb.mono HB1.out.size));have v6:=aA y6 hb;have z1:=aA z0 hb;have HX3:=Ha (nX f G w2 _ x0 (aG HG.out HB2.out) (HW0.out.below (aG HG.out HB1.out) hb));clear hb y5 y6 y7 z0;unfold bs;go_wp2_with fail;refine HX3.out.mono ?_;rintro e w3 ⟨he,hb⟩;have HB3:=Ha (HB2.out.trans (hb.mono HB2.out.size));have HX4:=Ha (CK ⟨(x0.p.plt.getD []).toArray⟩ w3 (HT.out.below HB3.out));clear hb v6 z1;cases q1:x0.p.asg.isSome
  case true=>
   rw [q1] at he;subst he;have HQ1:=Ha q1;clear q1;go_wp2_with fail;go_ret;exact ⟨aC (by rw [cG,HQA.out,HQ1.out];rfl),HB3.out⟩
  rw [q1] at he;subst he;have HQ1:=Ha q1;clear q1;cases q2:decide (0<(asg.length:Int)+(rds.length:Int))
  case true=>
   have HQ2:=Ha (iL _ _▸q2);go_wp2_with fail;go_ret;exact ⟨aC (by rw [cG,HQA.out,HQ1.out,HQ2.out];rfl),HB3.out⟩
  have HQ2:=Ha (iL _ _▸q2);cases q3:x0.p.plt.isSome
  ·have HQ3:=Ha q3;go_wp2_with fail;go_ret;exact ⟨aC (by rw [cG,HQA.out,HQ1.out,HQ2.out,HQ3.out];rfl),HB3.out⟩
  have HQ3:=Ha q3;go_wp2_with fail;refine HX4.out.mono ?_;rintro e w4 ⟨rfl,rfl⟩;go_wp2_with fail;go_ret;exact ⟨aC (by rw [cG,HQA.out,HQ1.out,HQ2.out,HQ3.out];rfl),HB3.out⟩
theorem i1 {α:Type} (v:Vw α) (ps:List (WdF α)) (b:α):iJ v ⟨ps,b⟩=(decide (0<ps.length)&&(ps.all (aP v)&&(v.R b||((v.kd b==1)&&v.on b)))):=by
 have e:(!ps.isEmpty)=decide (0<ps.length):=by cases ps <;> simp
 unfold iJ;simp only;rw [e,Bool.and_assoc]
theorem DV (f:Nat) (ih:PRt f) (ih2:POn f) (G:Nat→Prop) (w:World) (vs:List Value) (x:ArF (Nd f)) (hG:∀ k,G k→k<w.heap.size) (ht:cC w) (hv:ArN f G w vs x):
  Calls Tryz.prog 94 #[ag vs] w fun e w'=>e=.returned (.bool (iJ (Nd.vw f) x))∧Below w.heap.size w w':=by
 obtain ⟨ps,bd⟩:=x;obtain ⟨vp,bs',rfl,hbl,hps,hbd⟩:=hv;obtain ⟨A0,c0,rfl,hl0,hm0⟩:=aV.shape hps;obtain ⟨ky,s,nt,ni,A4,n4,c4,A5,n5,c5,A6,n6,c6,A7,n7,c7,A8,n8,c8,A9,n9,c9,rfl⟩:=NdV.shape hbd;have hkd:=NdV.kind hbd;simp only at hl0 hps hbd hkd;obtain ⟨n0,hn0⟩:∃ n0,n0=ps.length:=⟨_,rfl⟩;obtain ⟨HPS,HBD,HKD⟩:=hs3 hps hbd hkd;simp only;show Calls Tryz.prog 94 #[.agg #[.slice A0 ps.length c0,.int .i64 ky,.string s,.bool nt,.bool ni,.slice A4 n4 c4,.slice A5 n5 c5,.slice A6 n6 c6,.slice A7 n7 c7,.slice A8 n8 c8,.slice A9 n9 c9]] w _;obtain ⟨W,hW,hbw,hb0⟩:=cpd w (.cells #[.slice A0 ps.length c0,.int .i64 ky,.string s,.bool nt,.bool ni,.slice A4 n4 c4,.slice A5 n5 c5,.slice A6 n6 c6,.slice A7 n7 c7,.slice A8 n8 c8,.slice A9 n9 c9] 54);have x0:W.cell? ⟨w.heap.size,0,none⟩=some (.slice A0 ps.length c0):=by simp [World.cell?,hb0]
 have x1:W.cell? ⟨w.heap.size,1,none⟩=some (.int .i64 ky):=by simp [World.cell?,hb0]
 have x2:W.cell? ⟨w.heap.size,2,none⟩=some (.string s):=by simp [World.cell?,hb0]
 have x3:W.cell? ⟨w.heap.size,3,none⟩=some (.bool nt):=by simp [World.cell?,hb0]
 have x4:W.cell? ⟨w.heap.size,4,none⟩=some (.bool ni):=by simp [World.cell?,hb0]
 have x5:W.cell? ⟨w.heap.size,5,none⟩=some (.slice A4 n4 c4):=by simp [World.cell?,hb0]
 have x6:W.cell? ⟨w.heap.size,6,none⟩=some (.slice A5 n5 c5):=by simp [World.cell?,hb0]
 have x7:W.cell? ⟨w.heap.size,7,none⟩=some (.slice A6 n6 c6):=by simp [World.cell?,hb0]
 have x8:W.cell? ⟨w.heap.size,8,none⟩=some (.slice A7 n7 c7):=by simp [World.cell?,hb0]
 have x9:W.cell? ⟨w.heap.size,9,none⟩=some (.slice A8 n8 c8):=by simp [World.cell?,hb0]
 have x10:W.cell? ⟨w.heap.size,10,none⟩=some (.slice A9 n9 c9):=by simp [World.cell?,hb0]
 obtain ⟨HGW,HBW,HG,HT,IH,IH2,HM⟩:=hs7 (aG hG hbw) hbw hG ht ih ih2 hm0;unfold maxLen at hm0;clear hbw hb0 hG ht ih ih2 hps hbd hkd hn0 hbl;by_cases hp:0<ps.length
 case neg=>
  have HP:=Ha (decide_eq_false hp);have hz:ps.length=0:=by omega
  have hz1:((ps.length:Int)==0)=true:=by rw [hz];rfl
  have hz2:(ps.length==0)=true:=by rw [hz];rfl
  clear hz;go_enter Tryz.func94,Tryz.ntmps94;go_wp2_with fail;go_ret;exact ⟨aC (by rw [i1,HP.out];rfl),HBW.out⟩
 have HP:=Ha (decide_eq_true hp);have hz1:((ps.length:Int)==0)=false:=beq_false_of_ne (by omega);have hz2:(ps.length==0)=false:=beq_false_of_ne (by omega);have HX:=Ha (jR f G 15 #[] (aP (Nd.vw f)) _ ps W HGW.out (HPS.out.keep (fun _ h=>h) (bC HG.out HBW.out) fun _ _ h=>WdN.below h HG.out HBW.out) jJ (pM IH.out HGW.out (HT.out.below HBW.out)));go_enter Tryz.func94,Tryz.ntmps94;go_wp2_with fail;refine HX.out.mono ?_;rintro e w1 ⟨he,hb⟩;have HB1:=Ha (HBW.out.trans (hb.mono HBW.out.size));obtain ⟨y1,y2,y3,y4,y5,y6,y7,y8,y9,y10⟩:=ks10 hb x1 x2 x3 x4 x5 x6 x7 x8 x9 x10;clear hb;cases qa:ps.all (aP (Nd.vw f))
 ·rw [qa] at he;subst he;have HQA:=Ha qa;clear qa;go_wp2_with fail;go_ret;exact ⟨aC (by rw [i1,HP.out,HQA.out];rfl),HB1.out⟩
 rw [qa] at he;subst he;have HQA:=Ha qa;clear qa;have HX2:=Ha (IH.out G w1 _ bd (aG HG.out HB1.out) (HT.out.below HB1.out) (HBD.out.below HG.out HB1.out));go_wp2_with fail;refine HX2.out.mono ?_;rintro e w2 ⟨he,hb⟩;have HB2:=Ha (HB1.out.trans (hb.mono HB1.out.size));obtain ⟨v1,v2,v3,v4,v5,v6,v7,v8,v9,v10⟩:=ks10 hb y1 y2 y3 y4 y5 y6 y7 y8 y9 y10;clear hb y1 y2 y3 y4 y5 y6 y7 y8 y9 y10;cases qb:(Nd.vw f).R bd
 case true=>
  rw [qb] at he;subst he;have HQB:=Ha qb;clear qb;go_wp2_with fail;go_ret;exact ⟨aC (by rw [i1,HP.out,HQA.out,HQB.out];rfl),HB2.out⟩
 rw [qb] at he;subst he;have HQB:=Ha qb;clear qb;cases qk:(ky==1)
 ·have HQK:=Ha qk;go_wp2_with fail;go_ret;exact ⟨aC (by rw [i1,HP.out,HQA.out,HQB.out,HKD.out,HQK.out];rfl),HB2.out⟩
 have HQK:=Ha qk;have HX3:=Ha (IH2.out G w2 _ bd (aG HG.out HB2.out) (HT.out.below HB2.out) (HBD.out.below HG.out HB2.out));go_wp2_with fail;refine HX3.out.mono ?_;rintro e w3 ⟨rfl,hb⟩;have HB3:=Ha (HB2.out.trans (hb.mono HB2.out.size));clear hb;go_wp2_with fail;go_ret;exact ⟨aC (by rw [i1,HP.out,HQA.out,HQB.out,HKD.out,HQK.out];rfl),HB3.out⟩
theorem DE {f:Nat} {G:Nat→Prop} {w:World} (ih:PRt f) (ih2:POn f) (hG:∀ k,G k→k<w.heap.size) (ht:cC w):eM (ArN f G) ag w 94 #[] (iJ (Nd.vw f)):=fun X hX vs y hy=>by
 rw [Array.append_empty];exact DV f ih ih2 G X vs y (aG hG hX) (ht.below hX) hy
theorem eG {α:Type} (v:Vw α) (ky:Int) (s:ByteArray) (nt ni:Bool) (ops:List Int) (asg wds:List (WdF α)) (rds:List (RdF α)) (ars:List (ArF α)) (kds:List α):
  jF v (NdF.mk ky s nt ni ops asg wds rds ars kds)=(Chr.name s.toList&&((rsv s.toList==0)&&(match kds with | [x]=>decide (5≤v.kd x)&&(decide (v.kd x≤11)&&v.rt x) | _=>false))):=by
 unfold jF;simp only;rw [Bool.and_assoc]
 congr 2
 cases kds with
 | nil=>rfl
 | cons x r=>
  cases r with
  | nil=>simp only [Bool.and_assoc]
  | cons=>rfl
theorem fJ {α:Type} (v:Vw α) (ky:Int) (s:ByteArray) (nt ni:Bool) (ops:List Int) (asg wds:List (WdF α)) (rds:List (RdF α)) (ars:List (ArF α)) (x:α):
  jF v (NdF.mk ky s nt ni ops asg wds rds ars [x])=(Chr.name s.toList&&((rsv s.toList==0)&&(decide (5≤v.kd x)&&(decide (v.kd x≤11)&&v.rt x)))):=by rw [eG]
theorem sH (f:Nat) (ih:eQ f) (G:Nat→Prop) (w:World) (vs:List Value) (x:NdF (Nd f)) (hG:∀ k,G k→k<w.heap.size) (ht:cC w) (hv:NdV (f+1) G w vs x):
  Calls Tryz.prog 95 #[ag vs] w fun e w'=>e=.returned (.bool (jF (Nd.vw f) x))∧Below w.heap.size w w':=by
 obtain ⟨ky,s,nt,ni,ops,asg,wds,rds,ars,kds⟩:=x;obtain ⟨A4,c4,A5,c5,A6,c6,A7,c7,A8,c8,A9,c9,rfl,hns,hal,hl4,hl5,hl6,hl7,hl8,hl9,hso,hsa,hsw,hsr,hsm,hsk⟩:=NdV.open hv;obtain ⟨HSO,HSA,HSW,HSR,HSM,HSK⟩:=hs6 hso hsa hsw hsr hsm hsk;clear hso hsa hsw hsr hsm hsk hv;unfold ag;obtain ⟨W,hW,hbw,hb0⟩:=cpd w (.cells #[.int .i64 ky,.string s,.bool nt,.bool ni,.slice A4 ops.length c4,.slice A5 asg.length c5,.slice A6 wds.length c6,.slice A7 rds.length c7,.slice A8 ars.length c8,.slice A9 kds.length c9] 28);obtain ⟨x0,x1,x2,x3,x4,x5,x6,x7,x8,x9⟩:=c10 hb0;obtain ⟨HGW,HBW,HG,HT⟩:=hs4 (aG hG hbw) hbw hG ht;clear hbw hb0 hG ht;have IH:=Ha ih;clear ih;have HX:=Ha (iS s W (by omega));go_enter Tryz.func95,Tryz.ntmps95;go_wp2_with fail;refine HX.out.mono ?_;rintro e w1 ⟨he,hb⟩;have HB1:=Ha (HBW.out.trans (hb.mono HBW.out.size));have y1:=aA x1 hb;have y9:=aA x9 hb;clear hb;cases qa:Chr.name s.toList
 ·rw [qa] at he;subst he;have HQA:=Ha qa;clear qa;go_wp2_with fail;go_ret;exact ⟨aC (by rw [eG,HQA.out];rfl),HB1.out⟩
 rw [qa] at he;subst he;have HQA:=Ha qa;clear qa;have HX2:=Ha (CK s w1 (HT.out.below HB1.out));go_wp2_with fail;refine HX2.out.mono ?_;rintro e w2 ⟨rfl,rfl⟩;cases qb:(rsv s.toList==0)
 ·have HQB:=Ha qb;have qb2:(rsv s.toList != 0)=true:=by simpa [bne] using qb
  go_wp2_with fail;go_ret;exact ⟨aC (by rw [eG,HQA.out,HQB.out];rfl),HB1.out⟩
 have HQB:=Ha qb;have qb2:(rsv s.toList != 0)=false:=by simpa [bne] using qb
 cases kds with
 | nil=>
  go_wp2_with fail;go_ret;exact ⟨aC (by rw [eG,HQA.out,HQB.out];rfl),HB1.out⟩
 | cons x r=>
  cases r with
  | cons x2 r=>
   have hm1:(((x::x2::r).length:Int) != 1)=true:=bne_iff_ne.2 (by simp only [gG];omega);have hm2:((x::x2::r).length != 1)=true:=bne_iff_ne.2 (by simp only [gG];omega);generalize (x::x2::r).length=m at *;go_wp2_with fail;go_ret;exact ⟨aC (by rw [eG,HQA.out,HQB.out];rfl),HB1.out⟩
  | nil=>
   obtain ⟨b,off,kx,sx,ntx,nix,B4,m4,d4,B5,m5,d5,B6,m6,d6,B7,m7,d7,B8,m8,d8,B9,m9,d9,rfl,⟨z0,z1,z2,z3,z4,z5,z6,z7,z8,z9⟩,hnx⟩:=aV.node0 (HSK.out.onN HG.out HB1.out);have HKD:=Ha (NdV.kind hnx);have HX3:=Ha (IH.out G w1 _ x (aG HG.out HB1.out) (HT.out.below HB1.out) hnx);simp only [gG,gH,Nat.zero_add] at y9;clear hnx;by_cases h5:5≤kx
   case neg=>
    have HD:=Ha (decide_eq_false h5);go_wp2_with fail;go_ret;exact ⟨aC (by rw [fJ,HQA.out,HQB.out,HKD.out,HD.out];rfl),HB1.out⟩
   have HD:=Ha (decide_eq_true h5);by_cases h11:kx≤11
   case neg=>
    have HD2:=Ha (decide_eq_false h11);go_wp2_with fail;go_ret;exact ⟨aC (by rw [fJ,HQA.out,HQB.out,HKD.out,HD.out,HD2.out];rfl),HB1.out⟩
   have HD2:=Ha (decide_eq_true h11);go_wp2_with fail;refine HX3.out.mono ?_;rintro e w3 ⟨rfl,hb⟩;have HB3:=Ha (HB1.out.trans (hb.mono HB1.out.size));clear hb z0 z1 z2 z3 z4 z5 z6 z7 z8 z9 y1 y9;go_wp2_with fail;go_ret;exact ⟨aC (by rw [fJ,HQA.out,HQB.out,HKD.out,HD.out,HD2.out];rfl),HB3.out⟩
end Go.Proofs.YtjpopekmbmcggaaGreatDoor
