/- Towards unparseHeres_card. -/
import Derived.Test.YtjpopekmbmcggaaGreatDoorUh29
import Derived.Test.YtjpopekmbmcggaaGreatDoorUh27
set_option maxRecDepth 100000
set_option maxHeartbeats 16000000
namespace Go.Proofs.YtjpopekmbmcggaaGreatDoor
open Go.RowKit
def bR {β:Type} (M:β→Nat):List β→Nat→Nat
 | [],n=>n
 | x::r,n=>if n≤1000 then bR M r (n+M x) else n
theorem gQ {β:Type} (M:β→Nat):∀ (xs:List β) (n:Nat),bR M xs n≤n+tot M xs
 | [],n=>by simp [bR,tot]
 | x::r,n=>by
  have:=gQ M r (n+M x);rw [bR,tot]
  split <;> omega
theorem eR {β:Type} (M:β→Nat) (xs:List β) (k n:Nat) (h:k<xs.length) (hn:n≤1000):bR M (xs.drop k) n=bR M (xs.drop (k+1)) (n+M xs[k]):=by
 rw [bB xs k h,bR,if_pos hn]
theorem eS {β:Type} (M:β→Nat) (xs:List β) (k n:Nat) (h:k<xs.length) (hn:¬n≤1000):bR M (xs.drop k) n=n:=by
 rw [bB xs k h,bR,if_neg hn]
theorem fK {β:Type} (M:β→Nat) (xs:List β) (k n:Nat) (h:¬k<xs.length):bR M (xs.drop k) n=n:=by
 rw [List.drop_eq_nil_of_le (by omega),bR]
theorem iY {β:Type} {C D:β→Nat} (h:∀ x,C x≤D x):∀ xs:List β,tot C xs≤tot D xs
 | []=>Nat.le_refl _
 | x::r=>by have:=iY h r;have:=h x;rw [tot,tot];omega
theorem jA {β:Type} (C:β→Nat):∀ xs:List β,xs.length+tot C xs=tot (fun x=>C x+1) xs
 | []=>rfl
 | x::r=>by have:=jA C r;rw [tot,tot,gG];omega
theorem fZ {β:Type} (C:β→Nat):∀ xs:List β,tot (fun x=>2*C x) xs=2*tot C xs
 | []=>rfl
 | x::r=>by have:=fZ C r;rw [tot,tot];omega
theorem iD {β:Type} (C:β→Nat):∀ (xs:List β) (k:Nat) (h:k<xs.length),C xs[k]≤tot C xs
 | x::r,0,_=>by rw [tot];exact Nat.le_add_right _ _
 | x::r,k+1,h=>by have:=iD C r k (by simpa using h);rw [tot];simp only [gB];omega
section
variable {α:Type} (M:α→Nat)
def mAll (l:List α):Nat:=bR M l l.length
def WdF.c32 (x:WdF α):List (List α):=pickM (x.p.msk true 0) x.c
def mWd (x:WdF α):Nat:=bR (mAll M) x.c32 x.p.much
def mWords (l:List (WdF α)):Nat:=bR (mWd M) l l.length
def mRd (r:RdF α):Nat:=1+r.num.size / 10+r.here.size / 10+mWd M r.tz
def mAr (a:ArF α):Nat:=1+mWords M a.pats+M a.body
def qX (n:NdF α):Nat:=bR (mAr M) n.arms (bR (mRd M) n.redirs (1+n.name.size / 10+n.ops.length+mWords M n.assigns+mWords M n.words+mAll M n.kids))
variable {M} {W:α→Nat} (h:∀ x,M x+1≤2*W x)
include h
theorem lX (l:List α):mAll M l≤2*tot W l:=by
 have h1:=gQ M l l.length;have h2:=jA M l;have h3:tot (fun x=>M x+1) l≤tot (fun x=>2*W x) l:=iY h l;have h4:=fZ W l;unfold mAll;omega
theorem pH (x:WdF α):mWd M x+2≤2*wtW W x:=by
 have h1:=gQ (mAll M) x.c32 x.p.much;have h2:tot (mAll M) x.c32≤tot (fun l=>2*(1+tot W l)) x.c:=Nat.le_trans (lC _ _ _) (iY (fun l=>by have:=lX h l;omega) _);have h3:=fZ (fun l=>1+tot W l) x.c;have h4:=Pts.much_le x.p;unfold mWd wtW;omega
theorem eT (l:List (WdF α)):mWords M l≤2*tot (wtW W) l:=by
 have h1:=gQ (mWd M) l l.length;have h2:=jA (mWd M) l;have h3:tot (fun x=>mWd M x+1) l≤tot (fun x=>2*wtW W x) l:=iY (fun x=>by have:=pH h x;omega) l;have h4:=fZ (wtW W) l;unfold mWords;omega
theorem DB (r:RdF α):mRd M r≤2*wtR W r:=by
 have:=pH h r.tz;unfold mRd wtR;omega
theorem DA (a:ArF α):mAr M a≤2*wtA W a:=by
 have:=eT h a.pats;have:=h a.body;unfold mAr wtA;omega
theorem yT (n:NdF α):qX M n+1≤2*wtF W n:=by
 have h1:=gQ (mAr M) n.arms (bR (mRd M) n.redirs (1+n.name.size / 10+n.ops.length+mWords M n.assigns+mWords M n.words+mAll M n.kids));have h2:=gQ (mRd M) n.redirs (1+n.name.size / 10+n.ops.length+mWords M n.assigns+mWords M n.words+mAll M n.kids);have h3:=eT h n.assigns;have h4:=eT h n.words;have h5:=lX h n.kids;have h6:tot (mRd M) n.redirs≤tot (fun r=>2*wtR W r) n.redirs:=iY (DB h) _;have h7:tot (mAr M) n.arms≤tot (fun r=>2*wtA W r) n.arms:=iY (DA h) _;have h8:=fZ (wtR W) n.redirs;have h9:=fZ (wtA W) n.arms;unfold qX wtF;omega
end
def Nd.much:(f:Nat)→Nd f→Nat
 | 0=>fun x=>Empty.elim x
 | f+1=>fun x=>qX (Nd.much f) x
theorem Nd.much_le:∀ (f:Nat) (x:Nd f),Nd.much f x+1≤2*Nd.wt f x
 | 0,x=>Empty.elim x
 | f+1,x=>yT (Nd.much_le f) x
def LMu (f:Nat):Prop:=∀ (G:Nat→Prop) (w:World) (vs:List Value) (x:Nd f),(∀ k,G k→k<w.heap.size)→NdV f G w vs x→Nd.wt f x≤268435456→
 Calls Tryz.prog 10 #[ag vs] w fun e w'=>e=.returned (.int .i64 (Nd.much f x:Nat))∧Below w.heap.size w w'
theorem oD (f:Nat) (ih:LMu f) (G:Nat→Prop) (v:Value) (xs:List (Nd f)) (w:World) (hG:∀ k,G k→k<w.heap.size) (hs:aV G w 10 (NdV f G w) v xs) (hbd:tot (Nd.wt f) xs≤268435456) (hlen:xs.length≤1073741824):
  Calls Tryz.prog 26 #[v] w fun e w'=>e=.returned (.int .i64 (bR (Nd.much f) xs xs.length:Nat))∧Below w.heap.size w w':=by
 obtain ⟨A,c,rfl,hl,hm,hc⟩:=hs;unfold maxLen at hm;obtain ⟨HC,HG,IH,HBD⟩:=hs4 hc hG ih hbd;clear hc hG ih hbd;go_enter Tryz.func26,Tryz.ntmps26;go_wp2_with fail
 go_loopw [3,4] (fun n i wr=>∃ (k a:Nat),k≤xs.length∧i=.int .i64 k∧n=.int .i64 a∧bR (Nd.much f) (xs.drop k) a=bR (Nd.much f) xs xs.length∧a≤2147483648∧Below w.heap.size w wr) (fun _ i _=>xs.length-(intOf i).toNat)
 case atStart=>exact ⟨0,xs.length,by omega,rfl,rfl,by rw [List.drop_zero],by omega,Below.refl _ _⟩
 case round=>
  obtain ⟨k,a,hk,rfl,rfl,hf,ha,hb⟩:=hrel;have HF:=Ha hf;have HB:=Ha hb;clear hf hb;by_cases hlt:k<xs.length
  ·by_cases h1k:a≤1000
   ·obtain ⟨b,off,rfl,hg,hel⟩:=HC.out (by omega);obtain ⟨vs,hvl,hR,hcell⟩:=hel k hlt;have hR':=hR.below HG.out HB.out;have hw:=iD (Nd.wt f) xs k hlt;have hML:=Nd.much_le f xs[k];have HX:=Ha (IH.out G wr vs _ (aG HG.out HB.out) hR' (by have:=HBD.out;omega));have HD:=Ha (eR (Nd.much f) xs k a hlt h1k);have hML2:(Nd.much f) xs[k]≤536870912:=by have:=HBD.out;omega
    obtain ⟨ky,s,nt,ni,A4,n4,c4,A5,n5,c5,A6,n6,c6,A7,n7,c7,A8,n8,c8,A9,n9,c9,rfl⟩:=hR'.shape;have z:=fun j u hj=>(bC HG.out HB.out _ hg).trans (hcell j u hj);have d0:wr.cell? ⟨b,off+k*10,none⟩=some (.int .i64 ky):=by simpa using z 0 _ rfl
    have d1:wr.cell? ⟨b,off+k*10+1,none⟩=some (.string s):=by simpa using z 1 _ rfl
    have d2:wr.cell? ⟨b,off+k*10+2,none⟩=some (.bool nt):=by simpa using z 2 _ rfl
    have d3:wr.cell? ⟨b,off+k*10+3,none⟩=some (.bool ni):=by simpa using z 3 _ rfl
    have d4:wr.cell? ⟨b,off+k*10+4,none⟩=some (.slice A4 n4 c4):=by simpa using z 4 _ rfl
    have d5:wr.cell? ⟨b,off+k*10+5,none⟩=some (.slice A5 n5 c5):=by simpa using z 5 _ rfl
    have d6:wr.cell? ⟨b,off+k*10+6,none⟩=some (.slice A6 n6 c6):=by simpa using z 6 _ rfl
    have d7:wr.cell? ⟨b,off+k*10+7,none⟩=some (.slice A7 n7 c7):=by simpa using z 7 _ rfl
    have d8:wr.cell? ⟨b,off+k*10+8,none⟩=some (.slice A8 n8 c8):=by simpa using z 8 _ rfl
    have d9:wr.cell? ⟨b,off+k*10+9,none⟩=some (.slice A9 n9 c9):=by simpa using z 9 _ rfl
    clear z hel hcell hvl hR hR' hg hw hML;generalize (Nd.much f) xs[k]=cx at *;go_wp2_with fail;refine HX.out.mono ?_;rintro e w1 ⟨rfl,hb1⟩;have HB1:=Ha (HB.out.trans (hb1.mono HB.out.size));clear hb1 d0 d1 d2 d3 d4 d5 d6 d7 d8 d9;go_wp2_with fail
    go_roundw
    case rel=>exact ⟨k+1,a+cx,by omega,by go_num,by go_num,by rw [← HF.out,HD.out],by omega,HB1.out⟩
    case measure=>simp only [intOf];omega
   ·have HE:=Ha (eS (Nd.much f) xs k a hlt h1k);go_wp2_with fail;go_ret;exact ⟨bN (by rw [← HF.out,HE.out]),HB.out⟩
  ·have HE:=Ha (fK (Nd.much f) xs k a hlt);go_wp2_with fail;go_ret;exact ⟨bN (by rw [← HF.out,HE.out]),HB.out⟩
theorem WdN.c32 {f:Nat} {G:Nat→Prop} {w:World} {vs:List Value} {x:WdF (Nd f)} (h:WdN f G w vs x):fB (fun cm l=>aV G w 10 (NdV f G w) cm.val l) (x.p.cm32 0) x.c32:=by
 obtain ⟨A',c',h1,h2,h3,h4,h5,h6⟩:=h;exact h6.pickM _
theorem mU (f:Nat) (ih:LMu f) (G:Nat→Prop) (w:World) (vs:List Value) (x:WdF (Nd f)) (hG:∀ k,G k→k<w.heap.size) (hv:WdN f G w vs x) (hbd:wtW (Nd.wt f) x≤268435456):
  Calls Tryz.prog 11 #[ag vs] w fun e w'=>e=.returned (.int .i64 (mWd (Nd.much f) x:Nat))∧Below w.heap.size w w':=by
 obtain ⟨A,n,c,rfl⟩:=hv.shape;have hb0:Below w.heap.size w (w.alloc (.cells #[.slice A n c] 31)):=(Below.refl _ _).alloc (Nat.le_refl _) _;have q0:=dD (aN w (.cells #[.slice A n c] 31));have HG1:=Ha (aG hG hb0);obtain ⟨rfl,hnc,hcm,hwt,hpt,-⟩:=hv.cmds;have HP:=Ha (hpt.old hG hb0);have hml:=Pts.much_le x.p;have hml2:x.p.much≤268435456:=by unfold wtW at hbd;omega
 obtain ⟨HBD,HV,HG,IH,HB0,HX⟩:=hs6 (show tot (fun l=>1+tot (Nd.wt f) l) x.c32≤268435456 from Nat.le_trans (lC _ _ _) (by unfold wtW at hbd;omega)) hv hG ih hb0 (DD x.p G A c _ (by omega) HP.out);clear hb0 hpt hv hG ih hml hbd;show Calls Tryz.prog 11 #[.agg #[.slice A x.p.len c]] w _;go_enter Tryz.func11,Tryz.ntmps11;go_wp2_with fail;refine HX.out.mono ?_;rintro e w1 ⟨rfl,m,rfl⟩;have hbm:=belowN (Below.refl (w.alloc (.cells #[.slice A x.p.len c] 31)).heap.size (w.alloc (.cells #[.slice A x.p.len c] 31))) m;have HB1:=Ha (HB0.out.trans (hbm.mono HB0.out.size));have q1:=aA q0 hbm;have HX2:=Ha (CT x.p A c G _ hwt (aG HG1.out hbm) (HP.out.old HG1.out hbm));clear hbm q0;generalize (w.alloc (.cells #[.slice A x.p.len c] 31)).drewN m=W1 at *;go_wp2_with fail;refine HX2.out.mono ?_;rintro e w2 ⟨v,rfl,hcr,hb2⟩;have HB2:=Ha (HB1.out.trans (hb2.mono HB1.out.size));obtain ⟨A2,c2,rfl,hl2,hm2,hk2⟩:=hcr.look;have HK:=Ha hk2;have HLN:=Ha (show (x.p.cm32 0).length=x.c32.length from (WdN.c32 HV.out).len);unfold maxLen at hm2;clear hb2 hcr hk2 q1;generalize hcl:x.p.cm32 0=cl at *;have HCL:=Ha hcl;clear hcl;go_wp2_with fail
 go_loopw [3,5] (fun n i wr=>∃ (k a:Nat),k≤cl.length∧i=.int .i64 k∧n=.int .i64 a∧bR (mAll (Nd.much f)) (x.c32.drop k) a=mWd (Nd.much f) x∧a≤2147483648∧Below w2.heap.size w2 wr) (fun _ i _=>cl.length-(intOf i).toNat)
 case atStart=>exact ⟨0,x.p.much,by omega,rfl,rfl,by rw [List.drop_zero];rfl,by omega,Below.refl _ _⟩
 case round=>
  obtain ⟨k,a,hk,rfl,rfl,hf,ha,hb⟩:=hrel;have HF:=Ha hf;have HB:=Ha hb;clear hf;by_cases hlt:k<cl.length
  ·have hlt2:k<x.c32.length:=by rw [← HLN.out];exact hlt
   by_cases h1k:a≤1000
   ·obtain ⟨g,rfl,z0⟩:=HK.out k hlt;have hbw:=HB2.out.trans (hb.mono HB2.out.size);have hs:=(WdN.c32 (HV.out.below HG.out hbw));rw [HCL.out] at hs;have hs2:=hs.get k hlt hlt2;have z1:wr.cell? ⟨g,k,none⟩=some (.slice (cl[k]).a (cl[k]).n (cl[k]).c):=(World.cell?_of_block (hb.block g (fG z0))).trans z0;have hw:=iD (fun l=>1+tot (Nd.wt f) l) x.c32 k hlt2;have hML:=lX (Nd.much_le f) x.c32[k];have hbb:=HBD.out;have HX3:=Ha (oD f IH.out G _ x.c32[k] wr (aG HG.out hbw) hs2 (by omega) (by
     have:=jA (fun _:Nd f=>0) x.c32[k];have h2:∀ (l:List (Nd f)),l.length≤2*tot (Nd.wt f) l:=fun l=>by
      have h3:=jA (Nd.much f) l;have h4:tot (fun x=>Nd.much f x+1) l≤tot (fun x=>2*Nd.wt f x) l:=iY (Nd.much_le f) l;have h5:=fZ (Nd.wt f) l;omega
     have:=h2 x.c32[k];omega))
    have HD:=Ha (eR (mAll (Nd.much f)) x.c32 k a hlt2 h1k);have hML2:mAll (Nd.much f) x.c32[k]≤536870912:=by omega
    have HM:=Ha (show bR (Nd.much f) x.c32[k] (x.c32[k]).length=mAll (Nd.much f) x.c32[k] from rfl);rw [HM.out] at HX3;clear z0 hs hs2 hb hbw hw hML hbb HM;generalize mAll (Nd.much f) x.c32[k]=cx at *;go_wp2_with fail;refine HX3.out.mono ?_;rintro e w3 ⟨rfl,hb3⟩;have HB3:=Ha (HB.out.trans (hb3.mono HB.out.size));clear hb3 z1;go_wp2_with fail
    go_roundw
    case rel=>exact ⟨k+1,a+cx,by omega,by go_num,by go_num,by rw [← HF.out,HD.out],by omega,HB3.out⟩
    case measure=>simp only [intOf];omega
   ·have HE:=Ha (eS (mAll (Nd.much f)) x.c32 k a hlt2 h1k);clear hb;go_wp2_with fail;go_ret;exact ⟨bN (by rw [← HF.out,HE.out]),HB2.out.trans (HB.out.mono HB2.out.size)⟩
  ·have HE:=Ha (fK (mAll (Nd.much f)) x.c32 k a (by rw [← HLN.out];exact hlt));clear hb;go_wp2_with fail;go_ret;exact ⟨bN (by rw [← HF.out,HE.out]),HB2.out.trans (HB.out.mono HB2.out.size)⟩
theorem mB (f:Nat) (ih:LMu f) (G:Nat→Prop) (v:Value) (xs:List (WdF (Nd f))) (w:World) (hG:∀ k,G k→k<w.heap.size) (hs:aV G w 1 (WdN f G w) v xs) (hbd:tot (wtW (Nd.wt f)) xs≤268435456) (hlen:xs.length≤1073741824):
  Calls Tryz.prog 34 #[v] w fun e w'=>e=.returned (.int .i64 (bR (mWd (Nd.much f)) xs xs.length:Nat))∧Below w.heap.size w w':=by
 obtain ⟨A,c,rfl,hl,hm,hc⟩:=hs;unfold maxLen at hm;obtain ⟨HC,HG,IH,HBD⟩:=hs4 hc hG ih hbd;clear hc hG ih hbd;go_enter Tryz.func34,Tryz.ntmps34;go_wp2_with fail
 go_loopw [3,4] (fun n i wr=>∃ (k a:Nat),k≤xs.length∧i=.int .i64 k∧n=.int .i64 a∧bR (mWd (Nd.much f)) (xs.drop k) a=bR (mWd (Nd.much f)) xs xs.length∧a≤2147483648∧Below w.heap.size w wr) (fun _ i _=>xs.length-(intOf i).toNat)
 case atStart=>exact ⟨0,xs.length,by omega,rfl,rfl,by rw [List.drop_zero],by omega,Below.refl _ _⟩
 case round=>
  obtain ⟨k,a,hk,rfl,rfl,hf,ha,hb⟩:=hrel;have HF:=Ha hf;have HB:=Ha hb;clear hf hb;by_cases hlt:k<xs.length
  ·by_cases h1k:a≤1000
   ·obtain ⟨b,off,rfl,hg,hel⟩:=HC.out (by omega);obtain ⟨vs,hvl,hR,hcell⟩:=hel k hlt;have hR':=hR.below HG.out HB.out;have hw:=iD (wtW (Nd.wt f)) xs k hlt;have hML:=pH (Nd.much_le f) xs[k];have HX:=Ha (mU f IH.out G wr vs _ (aG HG.out HB.out) hR' (by have:=HBD.out;omega));have HD:=Ha (eR (mWd (Nd.much f)) xs k a hlt h1k);have hML2:(mWd (Nd.much f)) xs[k]≤536870912:=by have:=HBD.out;omega
    obtain ⟨A0,n0,c0,rfl⟩:=hR'.shape;have z:=fun j u hj=>(bC HG.out HB.out _ hg).trans (hcell j u hj);have d0:wr.cell? ⟨b,off+k,none⟩=some (.slice A0 n0 c0):=by simpa using z 0 _ rfl
    clear z hel hcell hvl hR hR' hg hw hML;generalize (mWd (Nd.much f)) xs[k]=cx at *;go_wp2_with fail;refine HX.out.mono ?_;rintro e w1 ⟨rfl,hb1⟩;have HB1:=Ha (HB.out.trans (hb1.mono HB.out.size));clear hb1 d0;go_wp2_with fail
    go_roundw
    case rel=>exact ⟨k+1,a+cx,by omega,by go_num,by go_num,by rw [← HF.out,HD.out],by omega,HB1.out⟩
    case measure=>simp only [intOf];omega
   ·have HE:=Ha (eS (mWd (Nd.much f)) xs k a hlt h1k);go_wp2_with fail;go_ret;exact ⟨bN (by rw [← HF.out,HE.out]),HB.out⟩
  ·have HE:=Ha (fK (mWd (Nd.much f)) xs k a hlt);go_wp2_with fail;go_ret;exact ⟨bN (by rw [← HF.out,HE.out]),HB.out⟩
theorem gT {α:Type} (W:α→Nat):∀ l:List (WdF α),l.length≤tot (wtW W) l
 | []=>Nat.le_refl _
 | x::r=>by have:=gT W r;rw [tot,gG];unfold wtW;unfold wtW at this;omega
theorem yP (f:Nat) (l:List (Nd f)):l.length≤2*tot (Nd.wt f) l:=by
 have h3:=jA (Nd.much f) l;have h4:tot (fun x=>Nd.much f x+1) l≤tot (fun x=>2*Nd.wt f x) l:=iY (Nd.much_le f) l;have h5:=fZ (Nd.wt f) l;omega
theorem vY (f:Nat) (ih:LMu f) (G:Nat→Prop) (w:World) (vs:List Value) (x:NdF (Nd f)) (hG:∀ k,G k→k<w.heap.size) (hv:NdV (f+1) G w vs x) (hbd:wtF (Nd.wt f) x≤268435456):
  Calls Tryz.prog 10 #[ag vs] w fun e w'=>e=.returned (.int .i64 (qX (Nd.much f) x:Nat))∧Below w.heap.size w w':=by
 have IH:=Ha ih;obtain ⟨ky,s,nt,ni,ops,asg,wds,rds,ars,kds⟩:=x;obtain ⟨A4,c4,A5,c5,A6,c6,A7,c7,A8,c8,A9,c9,rfl,hns,hal,hl4,hl5,hl6,hl7,hl8,hl9,hso,hsa,hsw,hsr,hsm,hsk⟩:=NdV.open hv;obtain ⟨HSO,HSA,HSW,HSR,HSM,HSK⟩:=hs6 hso hsa hsw hsr hsm hsk;clear hso hsa hsw hsr hsm hsk hv;unfold ag;obtain ⟨W,hW,hbw,hb0⟩:=cpd w (.cells #[.int .i64 ky,.string s,.bool nt,.bool ni,.slice A4 ops.length c4,.slice A5 asg.length c5,.slice A6 wds.length c6,.slice A7 rds.length c7,.slice A8 ars.length c8,.slice A9 kds.length c9] 28);have hbb:=hb0;obtain ⟨x0,x1,x2,x3,x4,x5,x6,x7,x8,x9⟩:=c10 hb0;obtain ⟨HGW,HBW,HG⟩:=hs3 (aG hG hbw) hbw hG;clear hbw hb0 hG ih;unfold wtF at hbd;simp only at hbd;have hl1:=gT (Nd.wt f) asg;have hl2:=gT (Nd.wt f) wds;have hl3:=yP f kds;have hm1:=eT (Nd.much_le f) asg;have hm2:=eT (Nd.much_le f) wds;have hm3:=lX (Nd.much_le f) kds;have g1:=fun x:Gr W=>x.calls (mB f IH.out G _ asg x.at_ (aG HGW.out x.2) (aV.onW (HSA.out.onW HG.out HBW.out) HGW.out x.2) (by omega) (by omega));have g2:=fun x:Gr W=>x.calls (mB f IH.out G _ wds x.at_ (aG HGW.out x.2) (aV.onW (HSW.out.onW HG.out HBW.out) HGW.out x.2) (by omega) (by omega));have g3:=fun x:Gr W=>x.calls (oD f IH.out G _ kds x.at_ (aG HGW.out x.2) (aV.onN (HSK.out.onN HG.out HBW.out) HGW.out x.2) (by omega) (by omega));rw [show bR (mWd (Nd.much f)) asg asg.length=mWords (Nd.much f) asg from rfl] at g1;rw [show bR (mWd (Nd.much f)) wds wds.length=mWords (Nd.much f) wds from rfl] at g2;rw [show bR (Nd.much f) kds kds.length=mAll (Nd.much f) kds from rfl] at g3;have y1:=fun x:Gr W=>Gr.box hbb x 1 _ rfl;have y4:=fun x:Gr W=>Gr.box hbb x 4 _ rfl;have y5:=fun x:Gr W=>Gr.box hbb x 5 _ rfl;have y6:=fun x:Gr W=>Gr.box hbb x 6 _ rfl;have y9:=fun x:Gr W=>Gr.box hbb x 9 _ rfl;have hne:Nonempty (Gr W):=⟨⟨_,Below.refl _ _⟩⟩;have HBX:=Ha (bI hbb);have HWT:=Ha (show tot (wtR (Nd.wt f)) rds+tot (wtA (Nd.wt f)) ars≤268435456 by omega);have hop:ops.length≤268435456:=by omega
 have HPO:=Ha (show qX (Nd.much f) (NdF.mk ky s nt ni ops asg wds rds ars kds)=bR (mAr (Nd.much f)) ars (bR (mRd (Nd.much f)) rds (1+s.size / 10+ops.length+mWords (Nd.much f) asg+mWords (Nd.much f) wds+mAll (Nd.much f) kds)) from rfl);clear hbb hl1 hl2 hl3 x0 x1 x2 x3 x4 x5 x6 x7 x8 x9;rw [HPO.out];have hq:(s.size:Int) / 10=((s.size / 10:Nat):Int):=by omega
 have hq1:s.size / 10≤268435456:=by omega
 have HQ:=Ha hq;obtain ⟨a1,ha1⟩:∃ a1,a1=mWords (Nd.much f) asg:=⟨_,rfl⟩;obtain ⟨a2,ha2⟩:∃ a2,a2=mWords (Nd.much f) wds:=⟨_,rfl⟩;obtain ⟨a3,ha3⟩:∃ a3,a3=mAll (Nd.much f) kds:=⟨_,rfl⟩;rw [← ha1] at g1 hm1;rw [← ha2] at g2 hm2;rw [← ha3] at g3 hm3;rw [← ha1,← ha2,← ha3];have b1:a1≤536870912:=by omega
 have b2:a2≤536870912:=by omega
 have b3:a3≤536870912:=by omega
 clear ha1 ha2 ha3 hm1 hm2 hm3 hbd hq;have s0:IntKind.i64.wrap ((1:Int)+(s.size:Int) / 10)=1+(s.size:Int) / 10:=IntWalk.i64_in _ (by omega);have s1:IntKind.i64.wrap ((1:Int)+(s.size:Int) / 10+(ops.length:Int))=1+(s.size:Int) / 10+(ops.length:Int):=IntWalk.i64_in _ (by omega);have s2:IntKind.i64.wrap ((1:Int)+(s.size:Int) / 10+(ops.length:Int)+(a1:Int))=1+(s.size:Int) / 10+(ops.length:Int)+(a1:Int):=IntWalk.i64_in _ (by omega);have s3:IntKind.i64.wrap ((1:Int)+(s.size:Int) / 10+(ops.length:Int)+(a1:Int)+(a2:Int))=1+(s.size:Int) / 10+(ops.length:Int)+(a1:Int)+(a2:Int):=IntWalk.i64_in _ (by omega);have s4:IntKind.i64.wrap ((1:Int)+(s.size:Int) / 10+(ops.length:Int)+(a1:Int)+(a2:Int)+(a3:Int))=1+(s.size:Int) / 10+(ops.length:Int)+(a1:Int)+(a2:Int)+(a3:Int):=IntWalk.i64_in _ (by omega);go_enter Tryz.func10,Tryz.ntmps10;go_wp2_with fail;refine bW (S:=Gr W) Gr.at_ (by kernel_rfl) (by kernel_rfl) (Gr.drew _) ?_;repeat (go_big_quiet_step (first | (with_reducible exact g1 _) | (with_reducible exact g2 _) | (with_reducible exact g3 _)))
 refine wpQuiet_nil ?_;rintro X ⟨⟨X',hX⟩,hx⟩;obtain rfl:X=X':=hx;have HX1:=Ha hX;clear hX g1 g2 g3 y1 y4 y5 y6 y9 hne s0 s1 s2 s3 s4;have hsum:(1:Int)+(s.size:Int) / 10+(ops.length:Int)+(a1:Int)+(a2:Int)+(a3:Int)=((1+s.size / 10+ops.length+a1+a2+a3:Nat):Int):=by have:=HQ.out;omega
 rw [hsum];clear hsum;have hn1:1+s.size / 10+ops.length+a1+a2+a3≤2147483648:=by omega
 obtain ⟨n0,hn0⟩:∃ n0,n0=1+s.size / 10+ops.length+a1+a2+a3:=⟨_,rfl⟩;rw [← hn0] at hn1 ⊢;have HN0:=Ha hn0;clear hn0 b1 b2 b3 hop hq1;go_wp2_with fail
 go_loopw [3,4] (fun n i wr=>∃ (k a:Nat),k≤rds.length∧i=.int .i64 k∧n=.int .i64 a∧bR (mRd (Nd.much f)) (rds.drop k) a=bR (mRd (Nd.much f)) rds n0∧a≤2147483648∧Below W.heap.size W wr) (fun _ i _=>rds.length-(intOf i).toNat)
 case atStart=>exact ⟨0,n0,by omega,rfl,rfl,by rw [List.drop_zero],hn1,HX1.out⟩
 case round=>
  obtain ⟨k,a,hk,rfl,rfl,hf,ha,hb⟩:=hrel;have HF:=Ha hf;have HB:=Ha hb;have y7w:=HBX.out wr hb 7 _ rfl;clear hf;by_cases hlt:k<rds.length
  ·by_cases h1k:a≤1000
   ·obtain ⟨A,c,hA,_,_,hel⟩:=HSR.out.onR HG.out HBW.out
    injection hA with hA1 _ hA2
    subst hA1 hA2;obtain ⟨b,off,rfl,hg,hel⟩:=hel (by omega);obtain ⟨vs,hvl,hR,hcell⟩:=hel k hlt;have hR':=hR.below HGW.out hb;have hw:=iD (wtR (Nd.wt f)) rds k hlt;have HD:=Ha (eR (mRd (Nd.much f)) rds k a hlt h1k);have z:=fun j u hj=>(bC HGW.out hb _ hg).trans (hcell j u hj);generalize rds[k]=rd at *;obtain ⟨num,op,tw,here⟩:=rd;obtain ⟨vt,rfl,hnum,hhere,hw1⟩:=hR';obtain ⟨A2,n2,c2,hvt⟩:=WdN.shape hw1
    injection hvt with hvt
    subst hvt;have hww:WdN f G wr [.slice A2 n2 c2] tw:=hw1;obtain ⟨rfl,-⟩:=WdN.cmds hww;simp only at hnum hhere;have d0:=fun y:Gr wr=>y.cell ⟨b,off+k*4,none⟩ (.string num) (by simpa using z 0 _ rfl);have d2:=fun y:Gr wr=>y.cell ⟨b,off+k*4+2,none⟩ (.slice A2 tw.p.len c2) (by simpa using z 2 _ rfl);have d3:=fun y:Gr wr=>y.cell ⟨b,off+k*4+3,none⟩ (.string here) (by simpa using z 3 _ rfl);have hGr:=aG HGW.out hb;have y7:=fun y:Gr wr=>y.cell ⟨w.heap.size,7,none⟩ _ y7w;have HWW:=Ha hww;have HGR:=Ha hGr;have hwp:wtW (Nd.wt f) tw+num.size+here.size≤268435456:=by
     have:=HWT.out;have hw':1+num.size+here.size+wtW (Nd.wt f) tw≤tot (wtR (Nd.wt f)) rds:=hw;omega
    have g1:=fun y:Gr wr=>y.calls (mU f IH.out G y.at_ _ tw (aG HGR.out y.2) (HWW.out.below HGR.out y.2) (by omega));have hm2:=pH (Nd.much_le f) tw;have HAR:=Ha (show mRd (Nd.much f) ⟨num,op,tw,here⟩=1+num.size / 10+here.size / 10+mWd (Nd.much f) tw from rfl);have hne:Nonempty (Gr wr):=⟨⟨_,Below.refl _ _⟩⟩;clear z hel hcell hvl hR hg hw1 hww hGr hb hw;unfold ag at g1;generalize mWd (Nd.much f) tw=b1 at *;have q1:(num.size:Int) / 10=((num.size / 10:Nat):Int):=by omega
    have q2:(here.size:Int) / 10=((here.size / 10:Nat):Int):=by omega
    have HQ1:=Ha q1;have HQ2:=Ha q2;have u1:num.size / 10≤268435456:=by omega
    have u2:here.size / 10≤268435456:=by omega
    clear q1 q2;have s0:IntKind.i64.wrap ((a:Int)+1)=(a:Int)+1:=IntWalk.i64_in _ (by omega);have s1:IntKind.i64.wrap ((a:Int)+1+(num.size:Int) / 10)=(a:Int)+1+(num.size:Int) / 10:=IntWalk.i64_in _ (by omega);have s2:IntKind.i64.wrap ((a:Int)+1+(num.size:Int) / 10+(here.size:Int) / 10)=(a:Int)+1+(num.size:Int) / 10+(here.size:Int) / 10:=IntWalk.i64_in _ (by omega);have s3:IntKind.i64.wrap ((a:Int)+1+(num.size:Int) / 10+(here.size:Int) / 10+(b1:Int))=(a:Int)+1+(num.size:Int) / 10+(here.size:Int) / 10+(b1:Int):=IntWalk.i64_in _ (by omega);go_wp2_with fail;refine bW (S:=Gr wr) Gr.at_ (by kernel_rfl) (by kernel_rfl) (Gr.drew _) ?_;repeat (go_big_quiet_step (first | (with_reducible exact g1 _)))
    refine wpQuiet_nil ?_;rintro X ⟨⟨X',hX⟩,hx⟩;obtain rfl:X=X':=hx;have HB3:=Ha (HB.out.trans (hX.mono HB.out.size));clear hX g1 d0 d2 d3 y7 hne s0 s1 s2 s3 y7w;go_wp2_with fail
    go_roundw
    case rel=>exact ⟨k+1,a+(1+num.size / 10+here.size / 10+b1),by omega,by go_num,by congr 1;have:=HQ1.out;have:=HQ2.out;omega,by rw [← HF.out,HD.out,HAR.out],by omega,HB3.out⟩
    case measure=>simp only [intOf];omega
   ·have HE:=Ha (show bR (mAr (Nd.much f)) ars a=bR (mAr (Nd.much f)) ars (bR (mRd (Nd.much f)) rds n0) by rw [← HF.out,eS _ _ _ _ hlt h1k]);clear hb;obtain ⟨wo,rfl⟩:∃ wo:World,wo=wr:=⟨_,rfl⟩;go_wp2_with fail
    go_loopw [3,5] (fun n i wr=>∃ (k a2:Nat),k≤ars.length∧i=.int .i64 k∧n=.int .i64 a2∧bR (mAr (Nd.much f)) (ars.drop k) a2=bR (mAr (Nd.much f)) ars (bR (mRd (Nd.much f)) rds n0)∧a2≤2147483648∧Below W.heap.size W wr) (fun _ i _=>ars.length-(intOf i).toNat)
    case atStart=>exact ⟨0,a,by omega,rfl,rfl,by rw [List.drop_zero];exact HE.out,by omega,HB.out⟩
    case round=>
     obtain ⟨k,a2,hk,rfl,rfl,hf,ha2,hb⟩:=hrel;have HF2:=Ha hf;have HB2:=Ha hb;have y8w:=HBX.out wr hb 8 _ rfl;clear hf y7w;by_cases hlt:k<ars.length
     ·by_cases h1k:a2≤1000
      ·obtain ⟨A,c,hA,_,_,hel⟩:=HSM.out.onA HG.out HBW.out
       injection hA with hA1 _ hA2
       subst hA1 hA2;obtain ⟨b,off,rfl,hg,hel⟩:=hel (by omega);obtain ⟨vs,hvl,hR,hcell⟩:=hel k hlt;have hR':=hR.below HGW.out hb;have hw:=iD (wtA (Nd.wt f)) ars k hlt;have HD:=Ha (eR (mAr (Nd.much f)) ars k a2 hlt h1k);have z:=fun j u hj=>(bC HGW.out hb _ hg).trans (hcell j u hj);generalize ars[k]=ar at *;obtain ⟨ps,bd⟩:=ar;obtain ⟨vp,bs',rfl,hbl,hps,hbd'⟩:=hR';obtain ⟨A0,c0,rfl,hl0,hm0⟩:=aV.shape hps;obtain ⟨kx,sx,ntx,nix,B4,m4,e4,B5,m5,e5,B6,m6,e6,B7,m7,e7,B8,m8,e8,B9,m9,e9,rfl⟩:=NdV.shape hbd';simp only at hl0 hps hbd';have d0:=fun y:Gr wr=>y.cell ⟨b,off+k*11,none⟩ (.slice A0 ps.length c0) (by simpa using z 0 _ rfl);have d1:=fun y:Gr wr=>y.cell ⟨b,off+k*11+1,none⟩ (.int .i64 kx) (by simpa using z 1 _ rfl);have d2:=fun y:Gr wr=>y.cell ⟨b,off+k*11+2,none⟩ (.string sx) (by simpa using z 2 _ rfl);have d3:=fun y:Gr wr=>y.cell ⟨b,off+k*11+3,none⟩ (.bool ntx) (by simpa using z 3 _ rfl);have d4:=fun y:Gr wr=>y.cell ⟨b,off+k*11+4,none⟩ (.bool nix) (by simpa using z 4 _ rfl);have d5:=fun y:Gr wr=>y.cell ⟨b,off+k*11+5,none⟩ (.slice B4 m4 e4) (by simpa using z 5 _ rfl);have d6:=fun y:Gr wr=>y.cell ⟨b,off+k*11+6,none⟩ (.slice B5 m5 e5) (by simpa using z 6 _ rfl);have d7:=fun y:Gr wr=>y.cell ⟨b,off+k*11+7,none⟩ (.slice B6 m6 e6) (by simpa using z 7 _ rfl);have d8:=fun y:Gr wr=>y.cell ⟨b,off+k*11+8,none⟩ (.slice B7 m7 e7) (by simpa using z 8 _ rfl);have d9:=fun y:Gr wr=>y.cell ⟨b,off+k*11+9,none⟩ (.slice B8 m8 e8) (by simpa using z 9 _ rfl);have d10:=fun y:Gr wr=>y.cell ⟨b,off+k*11+10,none⟩ (.slice B9 m9 e9) (by simpa using z 10 _ rfl);have hGr:=aG HGW.out hb;have y8:=fun y:Gr wr=>y.cell ⟨w.heap.size,8,none⟩ _ y8w;obtain ⟨HPS,HBD,HGR⟩:=hs3 hps hbd' hGr;have hwp:tot (wtW (Nd.wt f)) ps+Nd.wt f bd≤268435456:=by
        have:=HWT.out;have hw':1+tot (wtW (Nd.wt f)) ps+Nd.wt f bd≤tot (wtA (Nd.wt f)) ars:=hw;omega
       have hlp:=gT (Nd.wt f) ps;have g1:=fun y:Gr wr=>y.calls (mB f IH.out G _ ps y.at_ (aG HGR.out y.2) (aV.onW HPS.out HGR.out y.2) (by omega) (by omega));have g2:=fun y:Gr wr=>y.calls (IH.out G y.at_ _ bd (aG HGR.out y.2) (HBD.out.below HGR.out y.2) (by omega));have hm1:=eT (Nd.much_le f) ps;have hm2:=Nd.much_le f bd;have HAR:=Ha (show mAr (Nd.much f) ⟨ps,bd⟩=1+mWords (Nd.much f) ps+Nd.much f bd from rfl);have HMW:=Ha (show bR (mWd (Nd.much f)) ps ps.length=mWords (Nd.much f) ps from rfl);rw [HMW.out] at g1;have hne:Nonempty (Gr wr):=⟨⟨_,Below.refl _ _⟩⟩;clear z hel hcell hvl hR hg hps hbd' hGr hb hbl hw hlp HMW;unfold ag at g2;generalize mWords (Nd.much f) ps=b1 at *;generalize Nd.much f bd=b2 at *;have s0:IntKind.i64.wrap ((a2:Int)+1)=(a2:Int)+1:=IntWalk.i64_in _ (by omega);have s1:IntKind.i64.wrap ((a2:Int)+1+(b1:Int))=(a2:Int)+1+(b1:Int):=IntWalk.i64_in _ (by omega);have s2:IntKind.i64.wrap ((a2:Int)+1+(b1:Int)+(b2:Int))=(a2:Int)+1+(b1:Int)+(b2:Int):=IntWalk.i64_in _ (by omega);go_wp2_with fail;refine bW (S:=Gr wr) Gr.at_ (by kernel_rfl) (by kernel_rfl) (Gr.drew _) ?_;repeat (go_big_quiet_step (first | (with_reducible exact g1 _) | (with_reducible exact g2 _)))
       refine wpQuiet_nil ?_;rintro X ⟨⟨X',hX⟩,hx⟩;obtain rfl:X=X':=hx;have HB3:=Ha (HB2.out.trans (hX.mono HB2.out.size));clear hX g1 g2 d0 d1 d2 d3 d4 d5 d6 d7 d8 d9 d10 y8 hne s0 s1 s2 y8w;go_wp2_with fail
       go_roundw
       case rel=>exact ⟨k+1,a2+(1+b1+b2),by omega,by go_num,by congr 1;omega,by rw [← HF2.out,HD.out,HAR.out],by omega,HB3.out⟩
       case measure=>simp only [intOf];omega
      ·have HE2:=Ha (eS (mAr (Nd.much f)) ars k a2 hlt h1k);clear hb;go_wp2_with fail;go_ret;exact ⟨bN (by rw [HE2.out] at HF2;rw [HF2.out,HN0.out]),HBW.out.trans (HB2.out.mono HBW.out.size)⟩
     ·have HE2:=Ha (fK (mAr (Nd.much f)) ars k a2 hlt);clear hb;go_wp2_with fail;go_ret;exact ⟨bN (by rw [HE2.out] at HF2;rw [HF2.out,HN0.out]),HBW.out.trans (HB2.out.mono HBW.out.size)⟩
  ·have HE:=Ha (show bR (mAr (Nd.much f)) ars a=bR (mAr (Nd.much f)) ars (bR (mRd (Nd.much f)) rds n0) by rw [← HF.out,fK _ _ _ _ hlt]);clear hb;obtain ⟨wo,rfl⟩:∃ wo:World,wo=wr:=⟨_,rfl⟩;go_wp2_with fail
   go_loopw [3,5] (fun n i wr=>∃ (k a2:Nat),k≤ars.length∧i=.int .i64 k∧n=.int .i64 a2∧bR (mAr (Nd.much f)) (ars.drop k) a2=bR (mAr (Nd.much f)) ars (bR (mRd (Nd.much f)) rds n0)∧a2≤2147483648∧Below W.heap.size W wr) (fun _ i _=>ars.length-(intOf i).toNat)
   case atStart=>exact ⟨0,a,by omega,rfl,rfl,by rw [List.drop_zero];exact HE.out,by omega,HB.out⟩
   case round=>
    obtain ⟨k,a2,hk,rfl,rfl,hf,ha2,hb⟩:=hrel;have HF2:=Ha hf;have HB2:=Ha hb;have y8w:=HBX.out wr hb 8 _ rfl;clear hf y7w;by_cases hlt:k<ars.length
    ·by_cases h1k:a2≤1000
     ·obtain ⟨A,c,hA,_,_,hel⟩:=HSM.out.onA HG.out HBW.out
      injection hA with hA1 _ hA2
      subst hA1 hA2;obtain ⟨b,off,rfl,hg,hel⟩:=hel (by omega);obtain ⟨vs,hvl,hR,hcell⟩:=hel k hlt;have hR':=hR.below HGW.out hb;have hw:=iD (wtA (Nd.wt f)) ars k hlt;have HD:=Ha (eR (mAr (Nd.much f)) ars k a2 hlt h1k);have z:=fun j u hj=>(bC HGW.out hb _ hg).trans (hcell j u hj);generalize ars[k]=ar at *;obtain ⟨ps,bd⟩:=ar;obtain ⟨vp,bs',rfl,hbl,hps,hbd'⟩:=hR';obtain ⟨A0,c0,rfl,hl0,hm0⟩:=aV.shape hps;obtain ⟨kx,sx,ntx,nix,B4,m4,e4,B5,m5,e5,B6,m6,e6,B7,m7,e7,B8,m8,e8,B9,m9,e9,rfl⟩:=NdV.shape hbd';simp only at hl0 hps hbd';have d0:=fun y:Gr wr=>y.cell ⟨b,off+k*11,none⟩ (.slice A0 ps.length c0) (by simpa using z 0 _ rfl);have d1:=fun y:Gr wr=>y.cell ⟨b,off+k*11+1,none⟩ (.int .i64 kx) (by simpa using z 1 _ rfl);have d2:=fun y:Gr wr=>y.cell ⟨b,off+k*11+2,none⟩ (.string sx) (by simpa using z 2 _ rfl);have d3:=fun y:Gr wr=>y.cell ⟨b,off+k*11+3,none⟩ (.bool ntx) (by simpa using z 3 _ rfl);have d4:=fun y:Gr wr=>y.cell ⟨b,off+k*11+4,none⟩ (.bool nix) (by simpa using z 4 _ rfl);have d5:=fun y:Gr wr=>y.cell ⟨b,off+k*11+5,none⟩ (.slice B4 m4 e4) (by simpa using z 5 _ rfl);have d6:=fun y:Gr wr=>y.cell ⟨b,off+k*11+6,none⟩ (.slice B5 m5 e5) (by simpa using z 6 _ rfl);have d7:=fun y:Gr wr=>y.cell ⟨b,off+k*11+7,none⟩ (.slice B6 m6 e6) (by simpa using z 7 _ rfl);have d8:=fun y:Gr wr=>y.cell ⟨b,off+k*11+8,none⟩ (.slice B7 m7 e7) (by simpa using z 8 _ rfl);have d9:=fun y:Gr wr=>y.cell ⟨b,off+k*11+9,none⟩ (.slice B8 m8 e8) (by simpa using z 9 _ rfl);have d10:=fun y:Gr wr=>y.cell ⟨b,off+k*11+10,none⟩ (.slice B9 m9 e9) (by simpa using z 10 _ rfl);have hGr:=aG HGW.out hb;have y8:=fun y:Gr wr=>y.cell ⟨w.heap.size,8,none⟩ _ y8w;obtain ⟨HPS,HBD,HGR⟩:=hs3 hps hbd' hGr;have hwp:tot (wtW (Nd.wt f)) ps+Nd.wt f bd≤268435456:=by
       have:=HWT.out;have hw':1+tot (wtW (Nd.wt f)) ps+Nd.wt f bd≤tot (wtA (Nd.wt f)) ars:=hw;omega
      have hlp:=gT (Nd.wt f) ps;have g1:=fun y:Gr wr=>y.calls (mB f IH.out G _ ps y.at_ (aG HGR.out y.2) (aV.onW HPS.out HGR.out y.2) (by omega) (by omega));have g2:=fun y:Gr wr=>y.calls (IH.out G y.at_ _ bd (aG HGR.out y.2) (HBD.out.below HGR.out y.2) (by omega));have hm1:=eT (Nd.much_le f) ps;have hm2:=Nd.much_le f bd;have HAR:=Ha (show mAr (Nd.much f) ⟨ps,bd⟩=1+mWords (Nd.much f) ps+Nd.much f bd from rfl);have HMW:=Ha (show bR (mWd (Nd.much f)) ps ps.length=mWords (Nd.much f) ps from rfl);rw [HMW.out] at g1;have hne:Nonempty (Gr wr):=⟨⟨_,Below.refl _ _⟩⟩;clear z hel hcell hvl hR hg hps hbd' hGr hb hbl hw hlp HMW;unfold ag at g2;generalize mWords (Nd.much f) ps=b1 at *;generalize Nd.much f bd=b2 at *;have s0:IntKind.i64.wrap ((a2:Int)+1)=(a2:Int)+1:=IntWalk.i64_in _ (by omega);have s1:IntKind.i64.wrap ((a2:Int)+1+(b1:Int))=(a2:Int)+1+(b1:Int):=IntWalk.i64_in _ (by omega);have s2:IntKind.i64.wrap ((a2:Int)+1+(b1:Int)+(b2:Int))=(a2:Int)+1+(b1:Int)+(b2:Int):=IntWalk.i64_in _ (by omega);go_wp2_with fail;refine bW (S:=Gr wr) Gr.at_ (by kernel_rfl) (by kernel_rfl) (Gr.drew _) ?_;repeat (go_big_quiet_step (first | (with_reducible exact g1 _) | (with_reducible exact g2 _)))
      refine wpQuiet_nil ?_;rintro X ⟨⟨X',hX⟩,hx⟩;obtain rfl:X=X':=hx;have HB3:=Ha (HB2.out.trans (hX.mono HB2.out.size));clear hX g1 g2 d0 d1 d2 d3 d4 d5 d6 d7 d8 d9 d10 y8 hne s0 s1 s2 y8w;go_wp2_with fail
      go_roundw
      case rel=>exact ⟨k+1,a2+(1+b1+b2),by omega,by go_num,by congr 1;omega,by rw [← HF2.out,HD.out,HAR.out],by omega,HB3.out⟩
      case measure=>simp only [intOf];omega
     ·have HE2:=Ha (eS (mAr (Nd.much f)) ars k a2 hlt h1k);clear hb;go_wp2_with fail;go_ret;exact ⟨bN (by rw [HE2.out] at HF2;rw [HF2.out,HN0.out]),HBW.out.trans (HB2.out.mono HBW.out.size)⟩
    ·have HE2:=Ha (fK (mAr (Nd.much f)) ars k a2 hlt);clear hb;go_wp2_with fail;go_ret;exact ⟨bN (by rw [HE2.out] at HF2;rw [HF2.out,HN0.out]),HBW.out.trans (HB2.out.mono HBW.out.size)⟩
theorem qS:∀ f:Nat,LMu f
 | 0=>fun _ _ _ x=>Empty.elim x
 | f+1=>fun G w vs x hG hv hb=>vY f (qS f) G w vs x hG hv hb
end Go.Proofs.YtjpopekmbmcggaaGreatDoor
