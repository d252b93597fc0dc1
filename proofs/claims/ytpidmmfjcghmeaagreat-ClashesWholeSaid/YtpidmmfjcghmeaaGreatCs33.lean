/- Towards clashesWhole_upto. -/
import Derived.Test.YtpidmmfjcghmeaaGreatCs30
set_option maxRecDepth 100000
set_option maxHeartbeats 16000000
set_option linter.all false
namespace Go.Proofs.YtpidmmfjcghmeaaGreat
open Go.RowKit
section
variable {G G':Nat→Prop} {w w':World} {g:Gm}
theorem cK.keep {v:Value} {ks:List (List Itm)} (h:cK G w g v ks) (hG:∀ k,G k→G' k) (hk:∀ p:Addr,G p.block→w'.cell? p=w.cell? p):cK G' w' g v ks:=
 aH.keep h hG hk fun vs k hv=>by
  obtain ⟨a,t,h1,h2,h3⟩:=hv;exact ⟨a,t,h1,aH.keep h2 hG hk fun _ _ h=>h,aH.keep h3 hG hk fun _ _ h=>h⟩
theorem cK.at_ {A:Option Addr} {n c:Nat} {ks:List (List Itm)} (h:cK G w g (.slice A n c) ks) {i:Nat} (hi:i<ks.length):
  ∃ bb off Ai ci At ct,A=some ⟨bb,off,none⟩∧G bb∧w.cell? ⟨bb,off+i*2,none⟩=some (.slice Ai ks[i].length ci)∧w.cell? ⟨bb,off+i*2+1,none⟩=some (.slice At (Gm.transK g ks ks[i] g.top).length ct)∧
   aR G w (.slice Ai ks[i].length ci) ks[i]∧aR G w (.slice At (Gm.transK g ks ks[i] g.top).length ct) (Gm.transK g ks ks[i] g.top):=by
 obtain ⟨A',c',e,_,_,h4⟩:=h
 injection e with e1 _ _
 subst e1;obtain ⟨bb,off,rfl,hg,h5⟩:=h4 (by omega);obtain ⟨vs,h6,⟨a,t,rfl,h8,h9⟩,h10⟩:=h5 i hi;obtain ⟨Ai,ci,rfl,_⟩:=aH.shape h8;obtain ⟨At,ct,rfl,_⟩:=aH.shape h9;exact ⟨bb,off,Ai,ci,At,ct,rfl,hg,by simpa using h10 0 _ rfl,h10 1 _ rfl,h8,h9⟩
end
theorem G9 (G:Nat→Prop) (w:World) (A:Option Addr) (c:Nat) (g:Gm) (ks:List (List Itm)) (i:Nat) (s:Int) (hst:cK G w g (.slice A ks.length c) ks) (hG:∀ k,G k→k<w.heap.size) (hi:i<ks.length) (hs:1≤s∧s≤g.top) (hn:g.succK ks[i] s≠[]):
  Calls Tryz.prog 123 #[.slice A ks.length c,.int .i64 i,.int .i64 s] w fun e w'=>e=.returned (.int .i64 (ks.idxOf (g.succK ks[i] s):Int))∧Below w.heap.size w w':=by
 obtain ⟨bb,off,Ai,ci,At,ct,rfl,hgb,z0,z1,_,htr⟩:=hst.at_ hi;obtain ⟨tl,htl⟩:∃ tl,tl=Gm.transK g ks ks[i] g.top:=⟨_,rfl⟩;rw [← htl] at z1 htr;obtain ⟨r,hr⟩:∃ r:Int,r=(ks.idxOf (g.succK ks[i] s):Int):=⟨_,rfl⟩;rw [← hr];have hlen:tl.length≤9223372036854775807:=by
  obtain ⟨_,_,_,h1,h2⟩:=aH.shape htr;unfold maxLen at h2;omega
 have HM:=Ha (show (s,r)∈tl∧∀ t,(s,t)∈tl→t=r from by
  rw [htl,hr];exact ⟨Gm.mem_transK.2 ⟨hs.1,hs.2,hn,rfl⟩,fun t ht=>(Gm.mem_transK.1 ht).2.2.2⟩)
 have HT:=Ha htr;have HG:=Ha hG;have hi0:¬(i:Int)<0:=by omega
 have hi1:¬(ks.length:Int)≤(i:Int):=by omega
 have hi2:(i:Int)<(ks.length:Int):=by omega
 have hi3:(0:Int)≤(i:Int):=by omega
 clear hst htr hr htl hn z0;go_enter Tryz.func123,Tryz.ntmps123;go_wp2_with fail
 go_loopw [23] (fun iv wr=>∃ j:Nat,j≤tl.length∧iv=.int .i64 j∧(∀ q (h:q<tl.length),q<j→tl[q].1≠s)∧Below w.heap.size w wr) (fun iv _=>tl.length-(intOf iv).toNat)
 case atStart=>exact ⟨0,gX _,rfl,fun _ _ h=>absurd h (yJ _),gR _ _⟩
 case round=>
  obtain ⟨j,hj,rfl,hno,hb⟩:=hrel;have HNO:=Ha hno;have HB:=Ha hb;clear hno hb;by_cases hlt:j<tl.length
  ·obtain ⟨bt,ot,rfl,hgt,y0,y1⟩:=aR.at_ HT.out hlt;have y0:=(gM (HB.out.block bt (HG.out _ hgt))).trans y0;have y1:=(gM (HB.out.block bt (HG.out _ hgt))).trans y1;obtain ⟨a,ha⟩:∃ a,a=tl[j].1:=⟨_,rfl⟩;obtain ⟨b,hb⟩:∃ b,b=tl[j].2:=⟨_,rfl⟩;rw [← ha] at y0;rw [← hb] at y1;have HAB:=Ha (gS ha hb);have hb1:Below wr.heap.size wr (wr.alloc (.cells #[.int .i64 a,.int .i64 b] 102)):=(gR _ _).alloc (gO _) _;have q1:=aC wr (.cells #[.int .i64 a,.int .i64 b] 102);generalize hWI:wr.alloc (.cells #[.int .i64 a,.int .i64 b] 102)=wi at *;obtain ⟨r0,r1,_,_⟩:=aM q1 rfl;have HB1:=Ha (HB.out.trans (hb1.mono HB.out.size));clear ha hb hb1 q1;by_cases e:a=s
   ·have HR:=Ha (show b=r from HM.out.2 b (by
     have h1:=HAB.out.1;have h2:=HAB.out.2;rw [e] at h1;have:(s,b)=tl[j]:=Prod.ext h1 h2;rw [this];exact gN hlt))
    subst e;go_wp2_with fail;go_ret;exact ⟨by rw [HR.out];rfl,HB1.out⟩
   ·go_wp2_with fail
    go_roundw
    case rel=>
     refine ⟨j+1,hlt,by go_num,fun q hq hqj=>?_,HB1.out⟩;by_cases e2:q=j
     ·subst e2;have h1:=HAB.out.1;rw [← h1];exact e
     ·exact HNO.out q hq (by omega)
    case measure=>simp only [intOf];omega
  ·obtain ⟨q,hq,e⟩:=List.mem_iff_getElem.1 HM.out.1;exact absurd (show tl[q].1=s by rw [e]) (HNO.out q hq (by omega))
def SvV (G:Nat→Prop) (w:World) (n:Nat) (v:Value):Prop:=∃ b bw X,v=.pointer (some ⟨b,0,none⟩)∧G b∧G bw∧BSet w b bw n X
def dZ (G:Nat→Prop) (w:World) (n:Nat) (vs:List Value) (_:Int):Prop:=∃ p em,vs=[p,.bool em]∧SvV G w n p
def iQ (G:Nat→Prop) (w:World) (n:Nat) (vs:List Value) (x:Int):Prop:=∃ p sf,vs=[.int .i64 x,p,.bool sf]∧SvV G w n p
def bJ {β:Type} (P:Value→β→Prop) (vs:List Value) (x:β):Prop:=∃ v,vs=[v]∧P v x
def dH (G:Nat→Prop) (w:World) (n:Nat) (g:Gm) (v:Value) (s:Nat):Prop:=∃ l,aH G w 3 (iQ G w n) v l∧(∀ x∈l,g.N x∧g.Lc (s:Int) x)∧l.length≤241
section
variable {G G':Nat→Prop} {w w':World} {n:Nat} (hG:∀ k,G k→G' k) (hk:∀ k,G k→w'.heap[k]? = w.heap[k]?)
include hG hk
theorem SvV.keep {v:Value} (h:SvV G w n v):SvV G' w' n v:=by
 obtain ⟨b,bw,X,h1,h2,h3,h4⟩:=h;exact ⟨b,bw,X,h1,hG _ h2,hG _ h3,h4.keep (hk _ h2) (hk _ h3)⟩
theorem dZ.keep {vs:List Value} {x:Int} (h:dZ G w n vs x):dZ G' w' n vs x:=by
 obtain ⟨p,em,h1,h2⟩:=h;exact ⟨p,em,h1,h2.keep hG hk⟩
theorem iQ.keep {vs:List Value} {x:Int} (h:iQ G w n vs x):iQ G' w' n vs x:=by
 obtain ⟨p,sf,h1,h2⟩:=h;exact ⟨p,sf,h1,h2.keep hG hk⟩
theorem aH.keepG {β:Type} {sz:Nat} {R R':List Value→β→Prop} {v:Value} {xs:List β} (h:aH G w sz R v xs) (hR:∀ vs x,R vs x→R' vs x):aH G' w' sz R' v xs:=
 aH.keep h hG (fun p hp=>gM (hk _ hp)) hR
end
structure Dat (G:Nat→Prop) (w:World) (g:Gm) (ks:List (List Itm)) (vl vr vt vu vc:Value):Prop where
 sts:cK G w g vl ks
 rs:aH G w 1 (bJ fun v (k:Nat)=>aF G w v (g.rightAt k)) vr (List.range (g.rules.length+1))
 ts:aH G w 1 (bJ fun v (k:Nat)=>aH G w 2 (dZ G w (g.terms.length+1)) v (g.rightAt k)) vt (List.range (g.rules.length+1))
 us:aH G w 1 (bJ fun v (s:Nat)=>aF G w v (ofR (s:Int) g.rules 0)) vu (List.range (g.top+1))
 cs:aH G w 1 (bJ fun v (s:Nat)=>dH G w (g.terms.length+1) g v s) vc (List.range (g.top+1))
theorem bJ.mono {β:Type} {P Q:Value→β→Prop} (h:∀ v x,P v x→Q v x):∀ vs x,bJ P vs x→bJ Q vs x:=by
 rintro vs x ⟨v,h1,h2⟩;exact ⟨v,h1,h _ _ h2⟩
section
variable {G G':Nat→Prop} {w w':World} {g:Gm} {ks:List (List Itm)} {vl vr vt vu vc:Value}
theorem Dat.keep (h:Dat G w g ks vl vr vt vu vc) (hG:∀ k,G k→G' k) (hk:∀ k,G k→w'.heap[k]? = w.heap[k]?):Dat G' w' g ks vl vr vt vu vc:=
 ⟨h.sts.keep hG fun p hp => gM (hk _ hp),
  aH.keepG hG hk h.rs (bJ.mono fun _ _ h => aH.keepG hG hk h fun _ _ h => h),
  aH.keepG hG hk h.ts (bJ.mono fun _ _ h => aH.keepG hG hk h fun _ _ h => h.keep hG hk),
  aH.keepG hG hk h.us (bJ.mono fun _ _ h => aH.keepG hG hk h fun _ _ h => h),
  aH.keepG hG hk h.cs (bJ.mono fun _ _ h => by
  obtain ⟨l,h1,h2⟩:=h;exact ⟨l,aH.keepG hG hk h1 fun _ _ h=>h.keep hG hk,h2⟩)⟩
theorem dN {P:Value→Nat→Prop} {v:Value} {m:Nat} (h:aH G w 1 (bJ P) v (List.range m)) {k:Nat} (hk:k<m):
  ∃ b off c u,v=.slice (some ⟨b,off,none⟩) m c∧G b∧w.cell? ⟨b,off+k,none⟩=some u∧P u k:=by
 obtain ⟨A,c,rfl,_⟩:=h.shape;rw [yG] at h ⊢;obtain ⟨b,off,u,rfl,h1,⟨v,h2,h3⟩,h4⟩:=aH.cell1 h (k:=k) (by simpa using hk)
 injection h2 with h2 _
 subst h2;rw [List.getElem_range] at h3;exact ⟨b,off,c,u,rfl,h1,h4,h3⟩
theorem Dat.right (h:Dat G w g ks vl vr vt vu vc) {k:Nat} (hk:k≤g.rules.length):∃ b off c A c',vr=.slice (some ⟨b,off,none⟩) (g.rules.length+1) c∧G b∧w.cell? ⟨b,off+k,none⟩=some (.slice A (g.rightAt k).length c')∧aF G w (.slice A (g.rightAt k).length c') (g.rightAt k):=by
 obtain ⟨b,off,c,u,h1,h2,h3,h4⟩:=dN h.rs (show k<g.rules.length+1 by omega);obtain ⟨A,c',rfl,_⟩:=aH.shape h4;exact ⟨b,off,c,A,c',h1,h2,h3,h4⟩
end
structure Mg (G:Nat→Prop) (w:World) (bm:Nat) (A0:Option Addr) (c0:Nat) (A1:Option Addr) (c1:Nat) (A2:Option Addr) (c2:Nat) (g:Gm) (ks:List (List Itm)) (A:Option Addr) (c:Nat) (vr vt vu vc:Value):Prop where
 gb:GBox G w bm A0 c0 A1 c1 A2 c2 g
 m4:w.cell? ⟨bm,4,none⟩=some (.slice A ks.length c)
 m5:w.cell? ⟨bm,5,none⟩=some vr
 m6:w.cell? ⟨bm,6,none⟩=some vt
 m7:w.cell? ⟨bm,7,none⟩=some vu
 m8:w.cell? ⟨bm,8,none⟩=some vc
 dat:Dat G w g ks (.slice A ks.length c) vr vt vu vc
structure Mb (G:Nat→Prop) (w:World) (bm:Nat) (A0:Option Addr) (c0:Nat) (A1:Option Addr) (c1:Nat) (A2:Option Addr) (c2:Nat) (g:Gm) (ks:List (List Itm)) (A:Option Addr) (c:Nat) (vr vt vu vc:Value) (Ab:Option Addr) (cb:Nat):Prop extends Mg G w bm A0 c0 A1 c1 A2 c2 g ks A c vr vt vu vc where
 m9:w.cell? ⟨bm,9,none⟩=some (.slice Ab ks.length cb)
 bs:aF (TB 3 w) w (.slice Ab ks.length cb) ((List.range ks.length).map fun (j:Nat)=>(Gm.base ks j:Int))
section
variable {G:Nat→Prop} {w w':World} {bm:Nat} {A0 A1 A2:Option Addr} {c0 c1 c2:Nat} {g:Gm} {ks:List (List Itm)} {A:Option Addr} {c:Nat} {vr vt vu vc:Value} {Ab:Option Addr} {cb:Nat}
theorem Mg.on (h:Mg G w bm A0 c0 A1 c1 A2 c2 g ks A c vr vt vu vc) (hb:Below w.heap.size w w'):Mg G w' bm A0 c0 A1 c1 A2 c2 g ks A c vr vt vu vc:=
 ⟨h.gb.on hb,aD h.m4 hb,aD h.m5 hb,aD h.m6 hb,aD h.m7 hb,aD h.m8 hb,h.dat.keep (fun _ h=>h) fun k hk=>hb.block k (h.gb.old k hk)⟩
theorem Mb.on (h:Mb G w bm A0 c0 A1 c1 A2 c2 g ks A c vr vt vu vc Ab cb) (hb:Below w.heap.size w w'):Mb G w' bm A0 c0 A1 c1 A2 c2 g ks A c vr vt vu vc Ab cb:=
 ⟨h.toMg.on hb,aD h.m9 hb,aH.keepT h.bs fun k hk=>hb.block _ hk.lt⟩
theorem Mb.base (h:Mb G w bm A0 c0 A1 c1 A2 c2 g ks A c vr vt vu vc Ab cb) {j:Nat} (hj:j<ks.length):∃ b off,Ab=some ⟨b,off,none⟩∧w.cell? ⟨b,off+j,none⟩=some (.int .i64 (Gm.base ks j:Int)):=by
 have h1:=h.bs;obtain ⟨b,off,u,h2,_,h3,h4⟩:=aH.cell1 h1 (k:=j) (by simpa using hj)
 injection h3 with h3 _
 subst h3;refine ⟨b,off,h2, ?_⟩;rw [h4];simp
end
theorem FN (G:Nat→Prop) (w:World) (bm:Nat) (A0 c0 A1 c1 A2 c2) (g:Gm) (ks:List (List Itm)) (A:Option Addr) (c:Nat) (vr vt vu vc:Value) (Ab:Option Addr) (cb:Nat) (i:Nat) (x0 x1:Int) (h:Mb G w bm A0 c0 A1 c1 A2 c2 g ks A c vr vt vu vc Ab cb) (hi:i<ks.length) (hx:(x0,x1)∈ks[i]) (hT:Gm.base ks ks.length≤10000000):
  Calls Tryz.prog 248 #[.pointer (some ⟨bm,0,none⟩),.int .i64 i,.agg #[.int .i64 x0,.int .i64 x1]] w fun e w'=>(∃ t:Nat,e=.returned (.int .i64 t)∧t<Gm.base ks ks.length)∧Below w.heap.size w w':=by
 have hbx:Below w.heap.size w (w.alloc (.cells #[.int .i64 x0,.int .i64 x1] 250)):=(gR _ _).alloc (gO _) _;have q1:=aC w (.cells #[.int .i64 x0,.int .i64 x1] 250);generalize hWI:w.alloc (.cells #[.int .i64 x0,.int .i64 x1] 250)=w1 at *;obtain ⟨HM1,HB1,HQ⟩:=Zh3 (h.on hbx) hbx q1;obtain ⟨bb,off,Ai,ci,At,ct,hA,hgb,z0,_,hit,_⟩:=HM1.out.dat.sts.at_ hi;have y4:=HM1.out.m4;rw [hA] at y4;obtain ⟨HIT,HX,HTT⟩:=Zh3 hit hx hT;obtain ⟨l,hl⟩:∃ l,l=ks[i]:=⟨_,rfl⟩;rw [← hl] at HIT HX z0;have hlen:l.length≤9223372036854775807:=by
  obtain ⟨_,_,_,h1,h2⟩:=aH.shape HIT.out;unfold maxLen at h2;omega
 have HL:=Ha hl;obtain ⟨ab,ob,hAb,zb⟩:=HM1.out.base hi;have y9:=HM1.out.m9;rw [hAb] at y9;have hbl:=Gm.base_mono ks (Nat.le_of_lt hi);obtain ⟨bi,hbi⟩:∃ bi,bi=Gm.base ks i:=⟨_,rfl⟩;rw [← hbi] at zb;have HBI:=Ha hbi;have hi2:(i:Int)<(ks.length:Int):=by omega
 have hi3:(0:Int)≤(i:Int):=by omega
 clear h hbx q1 hA hit hx hl hAb hbi hT;go_enter Tryz.func248,Tryz.ntmps248;go_wp2_with fail
 go_loopw [18] (fun iv wr=>∃ j:Nat,j≤l.length∧iv=.int .i64 j∧(∀ q (h:q<l.length),q<j→l[q]≠(x0,x1))∧Below w1.heap.size w1 wr) (fun iv _=>l.length-(intOf iv).toNat)
 case atStart=>exact ⟨0,gX _,rfl,fun _ _ h=>absurd h (yJ _),gR _ _⟩
 case round=>
  obtain ⟨j,hj,rfl,hno,hb⟩:=hrel;obtain ⟨HNO,HB,HMR⟩:=Zh3 hno hb (HM1.out.on hb);have y9:=aD y9 hb;have zb:=aD zb hb;obtain ⟨r0,r1,_,_⟩:=aM ((hb.block _ (gL HQ.out).1).trans HQ.out) rfl;clear hno hb z0 y4;by_cases hlt:j<l.length
  ·obtain ⟨bt,ot,rfl,hgt,y0,y1⟩:=aR.at_ HIT.out hlt;have y0:=aD y0 HB.out;have y1:=aD y1 HB.out;obtain ⟨a,ha⟩:∃ a,a=l[j].1:=⟨_,rfl⟩;obtain ⟨b,hb⟩:∃ b,b=l[j].2:=⟨_,rfl⟩;rw [← ha] at y0;rw [← hb] at y1;have HAB:=Ha (show l[j]=(a,b) from Prod.ext ha.symm hb.symm);have hb1:Below wr.heap.size wr (wr.alloc (.cells #[.int .i64 a,.int .i64 b] 250)):=(gR _ _).alloc (gO _) _;have q1:=aC wr (.cells #[.int .i64 a,.int .i64 b] 250);generalize hWJ:wr.alloc (.cells #[.int .i64 a,.int .i64 b] 250)=wi at *;obtain ⟨s0,s1,_,_⟩:=aM q1 rfl;obtain ⟨r0,r1,y9,zb⟩:=Zk4 hb1 r0 r1 y9 zb;have HB2:=Ha (HB.out.trans (hb1.mono HB.out.size));clear ha hb hb1 q1;by_cases e:x0=a∧x1=b
   ·have HT:=Ha (show bi+j<Gm.base ks ks.length from by
     have h1:=HBI.out;have h2:=HL.out;rw [h1];exact Gm.place_lt hi (by rw [← h2];exact hlt))
    have hwr:IntKind.i64.wrap ((bi:Int)+(j:Int))=((bi+j:Nat):Int):=by
     have h1:=HT.out;have h2:=HTT.out;rw [show (bi:Int)+(j:Int)=((bi+j:Nat):Int) by omega];exact IntWalk.i64_in _ (by omega)
    obtain ⟨rfl,rfl⟩:=e;go_wp2_with fail;go_ret;exact ⟨⟨bi+j,rfl,HT.out⟩,HB1.out.trans (HB2.out.mono HB1.out.size)⟩
   ·have HR:=Ha (show ∀ q (h:q<l.length),q<j+1→l[q]≠(x0,x1) from fun q hq hqj e3=>by
     by_cases e2:q=j
     ·subst e2;rw [HAB.out] at e3
      injection e3 with e4 e5
      exact e ⟨e4.symm,e5.symm⟩
     ·exact HNO.out q hq (by omega) e3)
    by_cases e0:x0=a
    ·have e1:¬x1=b:=fun h=>e ⟨e0,h⟩;clear e;subst e0;go_wp2_with fail
     go_roundw
     case rel=>exact ⟨j+1,hlt,by go_num,HR.out,HB2.out⟩
     case measure=>simp only [intOf];omega
    ·clear e;go_wp2_with fail
     go_roundw
     case rel=>exact ⟨j+1,hlt,by go_num,HR.out,HB2.out⟩
     case measure=>simp only [intOf];omega
  ·obtain ⟨q,hq,e⟩:=List.mem_iff_getElem.1 HX.out;exact absurd e (HNO.out q hq (by omega))
theorem JV (G:Nat→Prop) (w:World) (bm:Nat) (A0 c0 A1 c1 A2 c2) (g:Gm) (ks:List (List Itm)) (A:Option Addr) (c:Nat) (vr vt vu vc:Value) (Ab:Option Addr) (cb:Nat) (i k d:Nat) (h:Mb G w bm A0 c0 A1 c1 A2 c2 g ks A c vr vt vu vc Ab cb) (hkn:g.Known) (ha:Gm.Aut g ks) (hi:i<ks.length) (hk:k≤g.rules.length) (hk2:g.rules.length≤1000) (hd:d<(g.rightAt k).length) (hd2:d≤1000) (hc:g.Clo (· ∈ ks[i]) ((k:Int),(d:Int))) (hT:Gm.base ks ks.length≤10000000):
  Calls Tryz.prog 222 #[.pointer (some ⟨bm,0,none⟩),.int .i64 i,.agg #[.int .i64 k,.int .i64 d]] w fun e w'=>(∃ t:Nat,e=.returned (.int .i64 t)∧t<Gm.base ks ks.length)∧Below w.heap.size w w':=by
 have hb1:Below w.heap.size w (w.alloc (.cells #[.int .i64 k,.int .i64 d] 250)):=(gR _ _).alloc (gO _) _;have q1:=aC w (.cells #[.int .i64 k,.int .i64 d] 250);generalize hWI:w.alloc (.cells #[.int .i64 k,.int .i64 d] 250)=w1 at *;have HM1:=Ha (h.on hb1);have HB1:=Ha hb1;obtain ⟨s,j,hs,h1,h2,h3,hj,h4,h5⟩:∃ s j,s=g.nxt ((k:Int),(d:Int))∧1≤s∧s≤g.top∧g.succK ks[i] s≠[]∧j=ks.idxOf (g.succK ks[i] s)∧∃ h:j<ks.length,((k:Int),(d:Int)+1)∈ks[j]:=by
  obtain ⟨h1,h2,h3,h4,h5⟩:=Gm.to_ok hkn ha hi hc (by simpa using hd);exact ⟨_,_,rfl,h1,h2,h3,rfl,h4,h5⟩
 obtain ⟨br,or,cr,Ar,car,rfl,hgr,z0,hri⟩:=HM1.out.dat.right hk;obtain ⟨ba,oa,hAr,z1⟩:=aF.get hri hd;subst hAr;have hsr:(g.rightAt k)[d]=s:=by rw [hs,pY g hd]
 rw [hsr] at z1;have y4:=HM1.out.m4;have y5:=HM1.out.m5;obtain ⟨r0,r1,_,_⟩:=aM q1 rfl;have hgo:=G9 G w1.drew.drew A c g ks i s (HM1.out.on (gR _ _).drew.drew).dat.sts (fun k hk=>HM1.out.gb.old k hk) hi ⟨h1,h2⟩ h3;rw [← hj] at hgo;have HGO:=Ha hgo;have HJ:=Ha (show ∃ h:j<ks.length,((k:Int),(d:Int)+1)∈ks[j] from ⟨h4,h5⟩);have HTT:=Ha hT;have HS:=Ha (show ∀ X,Below w1.heap.size w1 X→X.cell? ⟨w.heap.size,0,none⟩=some (.int .i64 k)∧X.cell? ⟨w.heap.size,1,none⟩=some (.int .i64 d)∧X.cell? ⟨bm,4,none⟩=some (.slice A ks.length c) from
  fun X hX=>⟨aD r0 hX,aD r1 hX,aD y4 hX⟩)
 have RD:=Ha (show Below w1.heap.size w1 w1.drew.drew from (gR _ _).drew.drew);have hk0:(0:Int)≤(k:Int):=by omega
 have hkl:(k:Int)<(g.rules.length:Int)+1:=by omega
 have hd0:(0:Int)≤(d:Int):=by omega
 have hdl:(d:Int)<((g.rightAt k).length:Int):=by omega
 have hwd:IntKind.i64.wrap ((d:Int)+1)=(d:Int)+1:=IntWalk.i64_in _ (by omega);clear h hb1 q1 hc hri hsr h1 h2 h3 h4 h5 hj hgo hs hkn ha hT;have e0:w1.drew.cell? _=_:=r0;have e1:w1.drew.cell? _=_:=r1;have e2:w1.drew.cell? _=_:=y5;have e3:w1.drew.cell? _=_:=z0;have e4:w1.drew.cell? _=_:=z1;go_enter Tryz.func222,Tryz.ntmps222;go_wp2_with fail
 go_region
 go_wp2_with fail;refine aE.start 15 (fun X=>X.cell? ⟨w.heap.size,0,none⟩=some (.int .i64 k)∧X.cell? ⟨w.heap.size,1,none⟩=some (.int .i64 d)∧X.cell? ⟨bm,4,none⟩=some (.slice A ks.length c)) (by kernel_rfl) ?hs_1 (fun hHeld=>?hr_1)
 case hs_1=>exact HS.out _ RD.out
 refine aE.tks [0,1,2,3,4,5,6,8,9,10,11,12,13] ?_ (by kernel_rfl) (by assumption)
 iterate 13
  refine aK.cons ?_ (by rfl) (by rfl) (by intro w h;(try dsimp only at h);simp only [gA,gB,gC];go_simp;try with_reducible rfl) (by exact fun _ _ _ h=>h);simp only [gA,gB,gC,Act.put,gD,gE,gF]
 show aE _ _ _ _ _ _ _ _ _ _;refine aE.one (i:=7) (by kernel_rfl) rfl fun K hK=>?_;simp only [gA,gB,gC]
 go_simp
 with_reducible refine Calls.mono HGO.out ?_
 rintro e w2 ⟨rfl,hb2⟩;dsimp only;have HB2:=Ha (show Below w1.heap.size w1 w2 from RD.out.trans hb2);clear hb2;refine hK.out _ _ ?_ (fun hHeld=>?_)
 ·exact HS.out _ HB2.out
 clear hK K;try simp only [Act.put,gD,gE,gF]
 have HPL:=Ha (FN G w2 bm A0 c0 A1 c1 A2 c2 g ks A c _ vt vu vc Ab cb j (k:Int) ((d:Int)+1) (HM1.out.on HB2.out) HJ.out.1 HJ.out.2 HTT.out);refine aE.one (i:=14) (by kernel_rfl) rfl fun K hK=>?_;simp only [gA,gB,gC]
 go_simp
 with_reducible refine Calls.mono HPL.out ?_
 rintro e w3 ⟨⟨t,rfl,ht⟩,hb3⟩;dsimp only;have HF:=Ha (gS ht (HB1.out.trans ((HB2.out.trans (hb3.mono HB2.out.size)).mono HB1.out.size)));have HB3:=Ha (show Below w1.heap.size w1 w3 from HB2.out.trans (hb3.mono HB2.out.size));clear ht hb3;refine hK.out _ _ ?_ (fun hHeld=>?_)
 ·exact HS.out _ HB3.out
 clear hK K;try simp only [Act.put,gD,gE,gF]
 refine aE.last (by kernel_rfl) rfl fun K hK=>?_;simp only [gA,gB,gC]
 go_simp
 refine hK.out _ _ (aE.done (by kernel_rfl) ?_ _);go_wp2_with fail;go_ret;exact ⟨⟨t,rfl,HF.out.1⟩,HF.out.2⟩
section
attribute [local go_sem ↓] aI
theorem kW {β:Type} {B T t sz bytes bm i:Nat} {z v:Value} {R:List Value→β→Prop} {w:World} {cs:Array Value} {xs:List β} {x:β} {us:List Value} (hu:Tryz.prog.underlying t=some (.slice T)) (hi:(Tryz.prog.info? T).map (fun i=>(i.zero,i.size,i.bytes))=some (some z,sz,bytes)) (hzs:z.cells.size=sz) (hsz:0<sz)
  (hone:∀ vs x,R vs x→∀ u∈vs,u.oneCell'=true) (hus:us.length=sz) (hR:R us x) (hbx:w.heap[bm]? = some (.cells cs 248 (0,0))) (hcs:cs[i]? = some v) (hT:T≠248) (h:aG B T sz R w v xs) (hlen:(xs.length+1)*bytes≤140737488355328) (hmx:xs.length+1≤maxLen) (hB:B≤w.heap.size):
  ∃ A4 c4 w4 w5,WrA Tryz.prog #[t,t] t #[v,.slice (some ⟨w.heap.size,0,none⟩) 1 1] (w.alloc (.cells us.toArray T))=.ok (.slice A4 (xs++[x]).length c4) w4∧w4.setCell ⟨bm,i,none⟩ (.slice A4 (xs++[x]).length c4)=w5∧(w.alloc (.cells us.toArray T)).heap[bm]? = w.heap[bm]? ∧ w4.heap[bm]? = w.heap[bm]? ∧ w4.cell? ⟨bm,i,none⟩=some v∧w4.frozen? ⟨bm,i,none⟩=false∧
   w5.heap[bm]? = some (.cells (cs.setIfInBounds i (.slice A4 (xs++[x]).length c4)) 248 (0,0))∧w5.cell? ⟨bm,i,none⟩=some (.slice A4 (xs++[x]).length c4)∧aG B T sz R w5 (.slice A4 (xs++[x]).length c4) (xs++[x])∧Chg (fun k=>k=bm∨v.ownBlock=some k) w w5∧
   ((Value.slice A4 (xs++[x]).length c4).ownBlock=v.ownBlock∨(Value.slice A4 (xs++[x]).length c4).ownBlock=some (w.heap.size+1)):=by
 obtain ⟨v',w4,hrun,hr4,hc4,how⟩:=aG.pushC t hu hi hzs hsz hone t hus hR h hlen hmx hB;obtain ⟨A4,c4,rfl,_⟩:=hr4.shape;have hlt:=(gL hbx).1;have e4:w4.heap[bm]? = w.heap[bm]? := hc4.same bm hlt fun e=>TB.ne (T:=248) ⟨_,hbx⟩ (h.tb e).2 (fun h=>hT h.symm) rfl;have hb4:=e4.trans hbx;have y4:=aA hb4 i v hcs;refine ⟨A4,c4,w4,_,hrun,rfl,Below.heap_alloc _ _ _ hlt,e4,y4,by simp [World.frozen?,hb4],aO hb4 i _,World.cell?_setCell_same _ _ _ y4,hr4.keep fun k hk=>gU _ _ _ _ fun e=>(hr4.tb hk).2.ne (T':=248) ⟨_,hb4⟩ hT e, ?_,how⟩;exact (((Chg.refl (fun k=>k=bm∨v.ownBlock=some k) w).trans2 hc4 fun i hi e=>.inr e)).setCell (p:=⟨bm,i,none⟩) (fun _=>.inl rfl) _
def jP (w:World) (B bm n:Nat) (u0 u1 u2 u3 u4 u5 u6 u7 u8 u9 va u11 u12:Value) (ps:List (Nat×Nat)) (e:Ending) (w':World):Prop:=
 (∃ va' b bw,e=.returned (.int .i64 ps.length)∧w'.heap[bm]? = some (.cells #[u0,u1,u2,u3,u4,u5,u6,u7,u8,u9,va',u11,u12] 248 (0,0))∧aG B 68 1 PV w' va' (ps++[(b,bw)])∧BSet w' b bw n 0∧w.heap.size≤b∧w.heap.size≤bw)∧Chg (fun k=>k=bm∨va.ownBlock=some k) w w'
theorem uW (w:World) (B bm n T:Nat) (A0:Option Addr) (c0:Nat) (u1 u2 u3 u4 u5 u6 u7 u8 u9 va u11 u12:Value) (ps:List (Nat×Nat)) (hbx:w.heap[bm]? = some (.cells #[.slice A0 T c0,u1,u2,u3,u4,u5,u6,u7,u8,u9,va,u11,u12] 248 (0,0))) (hr:aG B 68 1 PV w va ps) (hT:T+1=n) (hn:n≤64) (hpl:ps.length≤1000000000000) (hB:B≤w.heap.size):
  Calls Tryz.prog 156 #[.pointer (some ⟨bm,0,none⟩)] w fun e w'=>jP w B bm n (.slice A0 T c0) u1 u2 u3 u4 u5 u6 u7 u8 u9 va u11 u12 ps e w':=by
 obtain ⟨Aa,ca,rfl,_⟩:=hr.shape;have hn1:IntKind.i64.wrap ((T:Int)+1)=(n:Int):=by rw [← hT];exact IntWalk.i64_in _ (by omega)
 have HN:=Ha (r6 n w.drew (by omega) hn);have HBX:=Ha hbx;have HR:=Ha hr;have RD:=Ha (show Below w.heap.size w w.drew from (gR _ _).drew);have HS:=Ha (show ∀ X:World,X.heap[bm]? = w.heap[bm]? → X.cell? ⟨bm,0,none⟩=some (.slice A0 T c0)∧X.cell? ⟨bm,10,none⟩=some (.slice Aa ps.length ca) from
  fun X hX=>⟨aA (hX.trans hbx) 0 _ rfl,aA (hX.trans hbx) 10 _ rfl⟩)
 have HLT:=Ha (gL hbx).1;clear hbx hr hT hn;go_enter Tryz.func156,Tryz.ntmps156;go_wp2_with fail;refine aE.start 17 (fun X=>X.cell? ⟨bm,0,none⟩=some (.slice A0 T c0)∧X.cell? ⟨bm,10,none⟩=some (.slice Aa ps.length ca)) (by kernel_rfl) ?hs_1 (fun hHeld=>?hr_1)
 case hs_1=>exact HS.out _ rfl
 refine aE.tks [0,1,2,3,4,5,6,7,8,9,10,11] ?_ (by kernel_rfl) (by assumption)
 iterate 12
  refine aK.cons ?_ (by rfl) (by rfl) (by intro w h;(try dsimp only at h);simp only [gA,gB,gC];go_simp;try with_reducible rfl) (by exact fun _ _ _ h=>h);simp only [gA,gB,gC,Act.put,gD,gE,gF]
 show aE _ _ _ _ _ _ _ _ _ _;refine aE.one (i:=12) (by kernel_rfl) rfl fun K hK=>?_;simp only [gA,gB,gC]
 go_simp
 with_reducible refine Calls.mono HN.out ?_
 rintro e w2 ⟨⟨b,bw,rfl,hb,hbw,hset⟩,hb2⟩;have hb2':Below w.heap.size w w2:=RD.out.trans hb2;have HE2:=Ha (hb2'.block bm HLT.out);have hr2:=HR.out.below hb2';have hbm2:w2.heap[bm]? = _:=HE2.out.trans HBX.out;obtain ⟨A4,c4,w4,w5,hrun,hW5,e3,e4,y10,f10,hbm5,y5,hr5,hc5,_⟩:=kW (i:=10) (v:=.slice Aa ps.length ca) (t:=245) Tryz.underlying245 rN rfl (by decide) PV.one (us:=[.pointer (some ⟨b,0,none⟩)]) (x:=(b,bw)) rfl rfl hbm2 rfl (by decide) hr2 (by omega) (by unfold maxLen;omega) (gP hB hb2'.size);have HE3:=Ha (e3.trans HE2.out);have HE4:=Ha (e4.trans HE2.out);have hset5:BSet w5 b bw n 0:=hset.keepC hc5 (fun e=>e.elim (fun e=>TB.ne (T:=159) (T':=248) ⟨_,hset.hb⟩ ⟨_,hbm2⟩ (by decide) e) fun e=>TB.ne (T:=159) ⟨_,hset.hb⟩ (hr2.tb e).2 (by decide) rfl) (fun e=>e.elim (fun e=>TB.ne (T:=154) (T':=248) ⟨_,hset.hw⟩ ⟨_,hbm2⟩ (by decide) e) fun e=>TB.ne (T:=154) ⟨_,hset.hw⟩ (hr2.tb e).2 (by decide) rfl);obtain ⟨pl,hpl2⟩:∃ pl,pl=(ps++[(b,bw)]).length:=⟨_,rfl⟩;have hpll:pl=ps.length+1:=by rw [hpl2];simp
 rw [← hpl2] at hr5 hrun hW5 hbm5 y5;have hbm5:w5.heap[bm]? = some (.cells #[.slice A0 T c0,u1,u2,u3,u4,u5,u6,u7,u8,u9,.slice A4 pl c4,u11,u12] 248 (0,0)):=hbm5;have HF:=Ha (gS hbm5 (gS hr5 (gS hset5 (gS hb (gS hbw ((Chg.of hb2':Chg (fun k=>k=bm∨(Value.slice Aa ps.length ca).ownBlock=some k) w w2).trans hc5))))));have hsub:IntKind.i64.wrap ((pl:Int)-1)=(ps.length:Int):=by
  rw [show (pl:Int)-1=(ps.length:Int) by omega];exact IntWalk.i64_in _ (by omega)
 clear hb hbw hset hb2 hb2' hr2 hr5 hc5 hbm2 hset5 hbm5 hpll hpl2 e3 e4;dsimp only;refine hK.out _ _ ?_ (fun hHeld=>?_)
 ·exact HS.out _ HE2.out
 clear hK K;try simp only [Act.put,gD,gE,gF]
 refine aE.one (i:=13) (by kernel_rfl) rfl fun K hK=>?_;simp only [gA,gB,gC]
 go_simp
 refine hK.out _ _ ?_ (fun hHeld=>?_)
 ·exact HS.out _ HE3.out
 clear hK K;try simp only [Act.put,gD,gE,gF]
 refine aE.one (i:=14) (by kernel_rfl) rfl fun K hK=>?_;simp only [gA,gB,gC]
 go_simp
 refine hK.out _ _ ?_ (fun hHeld=>?_)
 ·exact HS.out _ HE4.out
 clear hK K;try simp only [Act.put,gD,gE,gF]
 refine aE.one (i:=15) (by kernel_rfl) rfl fun K hK=>?_;simp only [gA,gB,gC]
 go_simp
 refine hK.out _ _ ?_ (fun hHeld=>?_)
 ·exact HS.out _ HE4.out
 clear hK K;try simp only [Act.put,gD,gE,gF]
 refine aE.tks [16] ?_ (by kernel_rfl) (by assumption)
 iterate 1
  refine aK.cons ?_ (by rfl) (by rfl) (by intro w h;(try dsimp only at h);simp only [gA,gB,gC];go_simp;try with_reducible rfl) (by exact fun _ _ _ h=>h);simp only [gA,gB,gC,Act.put,gD,gE,gF]
 show aE _ _ _ _ _ _ _ _ _ _;refine aE.last (by kernel_rfl) rfl fun K hK=>?_;simp only [gA,gB,gC]
 go_simp
 refine hK.out _ _ (aE.done (by kernel_rfl) ?_ _);go_wp2_with fail;go_ret;exact ⟨⟨_,b,bw,rfl,HF.out.1,HF.out.2.1,HF.out.2.2.1,HF.out.2.2.2.1,HF.out.2.2.2.2.1⟩,HF.out.2.2.2.2.2⟩
def zG (n:Nat) (w:World) (e:Ending) (w':World):Prop:=(∃ b bw X,e=.returned (.pointer (some ⟨b,0,none⟩))∧w.heap.size≤b∧w.heap.size≤bw∧BSet w' b bw n X)∧Below w.heap.size w w'
theorem DE (G:Nat→Prop) (w:World) (bm n T:Nat) (A0:Option Addr) (c0:Nat) (Al:Option Addr) (cl:Nat) (l:List Int) (y0:w.cell? ⟨bm,0,none⟩=some (.slice A0 T c0)) (hG:∀ k,G k→k<w.heap.size) (hl:aF G w (.slice Al l.length cl) l) (hd:∀ t∈l,0≤t∧t<n) (hT:T+1=n) (hn:n≤64):
  Calls Tryz.prog 220 #[.pointer (some ⟨bm,0,none⟩),.slice Al l.length cl] w fun e w'=>zG n w e w':=by
 have hn1:IntKind.i64.wrap ((T:Int)+1)=(n:Int):=by rw [← hT];exact IntWalk.i64_in _ (by omega)
 obtain ⟨HN,HL,HG,HD⟩:=Zh4 (r6 n w (by omega) hn) hl hG hd;have hll:l.length≤9223372036854775807:=by
  obtain ⟨_,_,_,h1,h2⟩:=aH.shape hl;unfold maxLen at h2;omega
 clear hl hG hd hT;go_enter Tryz.func220,Tryz.ntmps220;go_wp2_with fail;refine (HN.out).mono ?_;rintro e w1 ⟨⟨b,bw,rfl,hb,hbw,hset⟩,hb1⟩;have HB1:=Ha (gS hb1 (gS hb hbw));have HS:=Ha hset;clear hb hbw hset hb1 y0;go_wp2_with fail
 go_loopw [18] (fun iv wr=>∃ (j X:Nat),j≤l.length∧iv=.int .i64 j∧BSet wr b bw n X∧Below w.heap.size w wr) (fun iv _=>l.length-(intOf iv).toNat)
 case atStart=>exact ⟨0,0,gX _,rfl,HS.out,HB1.out.1⟩
 case round=>
  obtain ⟨j,X,hj,rfl,hs,hb⟩:=hrel;have HSR:=Ha hs;have HBR:=Ha hb;clear hs hb HS;by_cases hlt:j<l.length
  ·obtain ⟨bt,ot,rfl,z0⟩:=aF.get HL.out hlt;have hz:=(HBR.out.block bt (by
    obtain ⟨A,c',e1,_,_,h4⟩:=HL.out;obtain ⟨b',off,h5,h6,_⟩:=h4 (by omega)
    injection e1 with e1 _ _
    rw [h5] at e1
    injection e1 with e1
    injection e1 with e1 _
    rw [e1];exact HG.out _ h6))
   have z0:=(gM hz).trans z0;obtain ⟨h1,h2⟩:=HD.out _ (gN hlt);obtain ⟨t,ht⟩:∃ t:Nat,l[j]=(t:Int):=⟨l[j].toNat,by omega⟩;rw [ht] at z0 h2;have HP:=Ha (sD b bw n X t wr HSR.out (by omega));clear hz ht h1 h2;go_wp2_with fail;refine (HP.out).mono ?_;rintro e w2 ⟨rfl,hs2,hd2⟩;have HS2:=Ha hs2;have HB2:=Ha (show Below w.heap.size w w2 from HBR.out.trans (hd2.below HB1.out.2.2));clear hs2 hd2 z0;generalize (!X.testBit t)=d;go_wp2_with fail
   go_roundw
   case rel=>exact ⟨j+1,_,hlt,by go_num,HS2.out,HB2.out⟩
   case measure=>simp only [intOf];omega
  ·obtain rfl:j=l.length:=by omega
   go_wp2_with fail;go_ret;exact ⟨⟨b,bw,X,rfl,HB1.out.2.1,HB1.out.2.2,HSR.out⟩,HBR.out⟩
end
def PtM (B bm bf:Nat) (w:World) (k:Nat):Prop:=(k=bm∨k=bf∨B≤k)∧(TB 248 w k∨TB 68 w k∨TB 301 w k∨TB 309 w k∨TB 307 w k)
def EvM (B bm bf:Nat) (w w':World):Prop:=Chg (PtM B bm bf w) w w'
section
variable {B bm bf:Nat} {w w' w'':World}
theorem PtM.of_eq {k:Nat} (h:PtM B bm bf w' k) (e:w'.heap[k]? = w.heap[k]?):PtM B bm bf w k:=by
 obtain ⟨h1,h2⟩:=h;have f:∀ {T:TypeId},TB T w' k→TB T w k:=fun ⟨cs,h⟩=>⟨cs,e.symm.trans h⟩;exact ⟨h1,h2.imp f (Or.imp f (Or.imp f (Or.imp f f)))⟩
theorem EvM.refl (B bm bf:Nat) (w:World):EvM B bm bf w w:=Chg.refl _ _
theorem EvM.trans (h:EvM B bm bf w w') (k:EvM B bm bf w' w''):EvM B bm bf w w'':=Chg.trans2 h k fun i hi hp=>Classical.byContradiction fun hn=>hn (hp.of_eq (h.same i hi hn))
theorem EvM.of (h:Below w.heap.size w w'):EvM B bm bf w w':=Chg.of h
theorem EvM.tb {T:TypeId} (h:EvM B bm bf w w') (hT:T≠248∧T≠68∧T≠301∧T≠309∧T≠307) {k:Nat} (hk:TB T w k):w'.heap[k]? = w.heap[k]? := h.same k hk.lt fun hp=>by
 rcases hp.2 with h | h | h | h | h
 ·exact hk.ne h hT.1 rfl
 ·exact hk.ne h hT.2.1 rfl
 ·exact hk.ne h hT.2.2.1 rfl
 ·exact hk.ne h hT.2.2.2.1 rfl
 ·exact hk.ne h hT.2.2.2.2 rfl
theorem EvM.old (h:EvM B bm bf w w') {k:Nat} (hk:k<B∧k≠bm∧k≠bf) (hB:B≤w.heap.size):w'.heap[k]? = w.heap[k]? := h.same k (by omega) fun hp=>by
 rcases hp.1 with h | h | h <;> omega
theorem EvM.set (h:EvM B bm bf w w') {b bw n X:Nat} (hX:BSet w b bw n X):BSet w' b bw n X:=hX.keep (h.tb (by decide) ⟨_,hX.hb⟩) (h.tb (by decide) ⟨_,hX.hw⟩)
end
abbrev Edg:=Nat×Nat×Option (Nat×Nat)
def CS (p:Option (Nat×Nat)):Value:=.pointer (p.map fun q=>⟨q.1,0,none⟩)
def uA (vs:List Value) (x:Edg):Prop:=∃ sf,vs=[.int .i64 (x.1:Int),.int .i64 (x.2.1:Int),CS x.2.2,.bool sf]
theorem uA.one:∀ (vs:List Value) (x:Edg),uA vs x→∀ u∈vs,u.oneCell'=true:=by
 rintro vs x ⟨sf,rfl⟩ u hu;simp at hu;rcases hu with rfl | rfl | rfl | rfl <;> rfl
theorem BL:(Tryz.prog.info? 301).map (fun i=>(i.zero,i.size,i.bytes))=some (some (.agg #[.int .i64 0,.int .i64 0,.pointer none,.bool false]),4,32):=by kernel_rfl
def lA (vs:List Value) (x:Int×Nat):Prop:=vs=[.int .i64 x.1,.int .i64 (x.2:Int)]
theorem lA.one:∀ (vs:List Value) (x:Int×Nat),lA vs x→∀ u∈vs,u.oneCell'=true:=by
 rintro vs x rfl u hu;simp at hu;rcases hu with rfl | rfl <;> rfl
theorem BN:(Tryz.prog.info? 309).map (fun i=>(i.zero,i.size,i.bytes))=some (some (.agg #[.int .i64 0,.int .i64 0]),2,16):=by kernel_rfl
structure Mx (w0:World) (G:Nat→Prop) (B bm bf:Nat) (A0:Option Addr) (c0:Nat) (A1:Option Addr) (c1:Nat) (A2:Option Addr) (c2:Nat) (g:Gm) (ks:List (List Itm)) (A:Option Addr) (c:Nat) (vr vt vu vc:Value) (Ab:Option Addr) (cb:Nat) (w:World) (va ve:Value) (ps:List (Nat×Nat)) (es:List Edg) (FV:Nat→Value) (fl:Nat→List (Int×Nat)):Prop where
 mb:Mb G w bm A0 c0 A1 c1 A2 c2 g ks A c vr vt vu vc Ab cb
 box:w.heap[bm]? = some (.cells #[.slice A0 g.terms.length c0,.slice A1 g.nons.length c1,.slice A2 g.rules.length c2,.int .i64 g.start,.slice A ks.length c,vr,vt,vu,vc,.slice Ab ks.length cb,va,ve,.slice (some ⟨bf,0,none⟩) ks.length ks.length] 248 (0,0))
 all:aG B 68 1 PV w va ps
 sets:∀ p∈ps,B≤p.2∧∃ X,BSet w p.1 p.2 (g.terms.length+1) X
 tot:Gm.base ks ks.length≤ps.length
 edg:aG B 301 4 uA w ve es
 eok:∀ x∈es,x.1<ps.length∧x.2.1<ps.length∧∀ p,x.2.2=some p→∃ X,BSet w p.1 p.2 (g.terms.length+1) X
 row:w.rowIs bf 307 ks.length FV
 fin:∀ i,i<ks.length→aG B 309 2 lA w (FV i) (fl i)∧∀ x∈fl i,x.2<ps.length∧inR x.1
 apart:∀ i j,i<ks.length→j<ks.length→i≠j→∀ k,(FV i).ownBlock=some k→(FV j).ownBlock≠some k
 bel:Below w0.heap.size w0 w
 le:w0.heap.size≤bm∧w0.heap.size≤bf∧w0.heap.size≤B∧B≤w.heap.size
 gl:∀ k,G k→k<B∧k≠bm∧k≠bf
section
variable {w0:World} {G:Nat→Prop} {B bm bf:Nat} {A0 A1 A2:Option Addr} {c0 c1 c2:Nat} {g:Gm} {ks:List (List Itm)} {A:Option Addr} {c:Nat} {vr vt vu vc:Value} {Ab:Option Addr} {cb:Nat} {w w':World} {va ve:Value} {ps:List (Nat×Nat)} {es:List Edg} {FV:Nat→Value} {fl:Nat→List (Int×Nat)}
theorem Mx.tbf (h:Mx w0 G B bm bf A0 c0 A1 c1 A2 c2 g ks A c vr vt vu vc Ab cb w va ve ps es FV fl):TB 307 w bf:=by
 obtain ⟨cs,h1,_⟩:=h.row;exact ⟨cs,h1⟩
theorem Mx.belEv (h:Mx w0 G B bm bf A0 c0 A1 c1 A2 c2 g ks A c vr vt vu vc Ab cb w va ve ps es FV fl) (hv:EvM B bm bf w w'):Below w0.heap.size w0 w':=by
 have hl:=h.le;refine ⟨hv.os.trans h.bel.os,hv.tape.trans h.bel.tape,hv.output.trans h.bel.output,gP h.bel.size hv.size,fun k hk=>?_⟩;refine (hv.same k (by have:=h.bel.size;omega) fun hp=>?_).trans (h.bel.block k hk);rcases hp.1 with e | e | e <;> omega
theorem Mx.mbK (h:Mx w0 G B bm bf A0 c0 A1 c1 A2 c2 g ks A c vr vt vu vc Ab cb w va ve ps es FV fl) (hsz:w.heap.size≤w'.heap.size) (hG:∀ k,G k→w'.heap[k]? = w.heap[k]?) (hI:∀ k,TB 3 w k→w'.heap[k]? = w.heap[k]?) {va' ve':Value} (hb:w'.heap[bm]? = some (.cells #[.slice A0 g.terms.length c0,.slice A1 g.nons.length c1,.slice A2 g.rules.length c2,.int .i64 g.start,.slice A ks.length c,vr,vt,vu,vc,.slice Ab ks.length cb,va',ve',.slice (some ⟨bf,0,none⟩) ks.length ks.length] 248 (0,0))):
  Mb G w' bm A0 c0 A1 c1 A2 c2 g ks A c vr vt vu vc Ab cb:=by
 refine ⟨⟨h.mb.gb.again hsz (fun i hi=>?_) hG,aA hb 4 _ rfl,aA hb 5 _ rfl,aA hb 6 _ rfl,aA hb 7 _ rfl,aA hb 8 _ rfl,h.mb.dat.keep (fun _ h=>h) hG⟩,aA hb 9 _ rfl,aH.keepT h.mb.bs hI⟩
 match i,hi with
 | 0,_=>rw [h.mb.gb.x0];exact aA hb 0 _ rfl
 | 1,_=>rw [h.mb.gb.x1];exact aA hb 1 _ rfl
 | 2,_=>rw [h.mb.gb.x2];exact aA hb 2 _ rfl
 | 3,_=>rw [h.mb.gb.x3];exact aA hb 3 _ rfl
theorem Mx.mbEv (h:Mx w0 G B bm bf A0 c0 A1 c1 A2 c2 g ks A c vr vt vu vc Ab cb w va ve ps es FV fl) (hv:EvM B bm bf w w') {va' ve':Value} (hb:w'.heap[bm]? = some (.cells #[.slice A0 g.terms.length c0,.slice A1 g.nons.length c1,.slice A2 g.rules.length c2,.int .i64 g.start,.slice A ks.length c,vr,vt,vu,vc,.slice Ab ks.length cb,va',ve',.slice (some ⟨bf,0,none⟩) ks.length ks.length] 248 (0,0))):
  Mb G w' bm A0 c0 A1 c1 A2 c2 g ks A c vr vt vu vc Ab cb:=h.mbK hv.size (fun k hk=>hv.old (h.gl k hk) h.le.2.2.2) (fun k hk=>hv.tb (by decide) hk) hb
theorem Mx.below (h:Mx w0 G B bm bf A0 c0 A1 c1 A2 c2 g ks A c vr vt vu vc Ab cb w va ve ps es FV fl) (hb:Below w.heap.size w w'):Mx w0 G B bm bf A0 c0 A1 c1 A2 c2 g ks A c vr vt vu vc Ab cb w' va ve ps es FV fl:=
 ⟨h.mb.on hb,(hb.block _ (gL h.box).1).trans h.box,h.all.below hb,fun p hp=>⟨(h.sets p hp).1,(h.sets p hp).2.imp fun X hX=>hX.below hb⟩,h.tot,h.edg.below hb,fun x hx=>⟨(h.eok x hx).1,(h.eok x hx).2.1,fun p hp=>((h.eok x hx).2.2 p hp).imp fun X hX=>hX.below hb⟩,bK h.row hb,fun i hi=>⟨(h.fin i hi).1.below hb,(h.fin i hi).2⟩,h.apart,h.belEv (EvM.of hb),⟨h.le.1,h.le.2.1,h.le.2.2.1,gP h.le.2.2.2 hb.size⟩,h.gl⟩
theorem Mx.wch (h:Mx w0 G B bm bf A0 c0 A1 c1 A2 c2 g ks A c vr vt vu vc Ab cb w va ve ps es FV fl) (hc:WCh (g.terms.length+1) (B ≤ ·) w w'):Mx w0 G B bm bf A0 c0 A1 c1 A2 c2 g ks A c vr vt vu vc Ab cb w' va ve ps es FV fl:=by
 have hs:∀ {T:TypeId} {k:Nat},TB T w k→T≠154→w'.heap[k]? = w.heap[k]? := fun h1 h2=>hc.chg.same _ h1.lt fun hp=>h1.not_wb h2 hp.2;have hb:=(hs (T:=248) ⟨_,h.box⟩ (by decide)).trans h.box;have hS:∀ {b bw:Nat},(∃ X,BSet w b bw (g.terms.length+1) X)→∃ X,BSet w' b bw (g.terms.length+1) X:=fun ⟨X,hX⟩=>by
  obtain ⟨X',_,h'⟩:=hc.gro _ _ _ hX;exact ⟨X',h'⟩
 exact ⟨h.mbK hc.chg.size (fun k hk=>hc.chg.same k (by have:=h.gl k hk;have:=h.le.2.2.2;omega) fun hp=>by have:=(h.gl k hk).1;have:=hp.1;omega) (fun k hk=>hs hk (by decide)) hb,hb,h.all.keep fun k hk=>hs (h.all.tb hk).2 (by decide),fun p hp=>⟨(h.sets p hp).1,hS (h.sets p hp).2⟩,h.tot,h.edg.keep fun k hk=>hs (h.edg.tb hk).2 (by decide),fun x hx=>⟨(h.eok x hx).1,(h.eok x hx).2.1,fun p hp=>hS ((h.eok x hx).2.2 p hp)⟩,h.row.of_block (hs h.tbf (by decide)),fun i hi=>⟨(h.fin i hi).1.keep fun k hk=>hs ((h.fin i hi).1.tb hk).2 (by decide),(h.fin i hi).2⟩,h.apart,h.bel.trans (hc.chg.below (fun k hp=>gP h.le.2.2.1 hp.1) h.bel.size),⟨h.le.1,h.le.2.1,h.le.2.2.1,gP h.le.2.2.2 hc.chg.size⟩,h.gl⟩
theorem Mx.fresh (h:Mx w0 G B bm bf A0 c0 A1 c1 A2 c2 g ks A c vr vt vu vc Ab cb w va ve ps es FV fl) {e:Ending} (hp:jP w B bm (g.terms.length+1) (.slice A0 g.terms.length c0) (.slice A1 g.nons.length c1) (.slice A2 g.rules.length c2) (.int .i64 g.start) (.slice A ks.length c) vr vt vu vc (.slice Ab ks.length cb) va ve (.slice (some ⟨bf,0,none⟩) ks.length ks.length) ps e w'):
  e=.returned (.int .i64 ps.length)∧∃ va' p,Mx w0 G B bm bf A0 c0 A1 c1 A2 c2 g ks A c vr vt vu vc Ab cb w' va' ve (ps++[p]) es FV fl∧EvM B bm bf w w':=by
 obtain ⟨⟨va',b,bw,rfl,hbx,hr,hset,hb,hbw⟩,hc⟩:=hp;have hle:=h.le;have hev:EvM B bm bf w w':=hc.mono fun k _ hk=>by
  rcases hk with rfl | hk
  ·exact ⟨.inl rfl,.inl ⟨_,h.box⟩⟩
  ·exact ⟨.inr (.inr (h.all.tb hk).1),.inr (.inl (h.all.tb hk).2)⟩
 have hs:∀ {T:TypeId} {k:Nat},TB T w k→T≠248→T≠68→w'.heap[k]? = w.heap[k]? := fun h1 h2 h3=>hc.same _ h1.lt fun hp=>by
  rcases hp with rfl | hp
  ·exact h1.ne (T':=248) ⟨_,h.box⟩ h2 rfl
  ·exact h1.ne (h.all.tb hp).2 h3 rfl
 have hS:∀ {b bw:Nat},(∃ X,BSet w b bw (g.terms.length+1) X)→∃ X,BSet w' b bw (g.terms.length+1) X:=fun ⟨X,hX⟩=>⟨X,hX.keep (hs ⟨_,hX.hb⟩ (by decide) (by decide)) (hs ⟨_,hX.hw⟩ (by decide) (by decide))⟩;refine ⟨rfl,va',(b,bw),⟨h.mbEv hev hbx,hbx,hr,fun p hp=>?_,by rw [gI];have:=h.tot;omega,h.edg.keep fun k hk=>hs (h.edg.tb hk).2 (by decide) (by decide),fun x hx=>?_,h.row.of_block (hs h.tbf (by decide) (by decide)),fun i hi=>⟨(h.fin i hi).1.keep fun k hk=>hs ((h.fin i hi).1.tb hk).2 (by decide) (by decide),fun x hx=>?_⟩,h.apart,h.belEv hev,⟨hle.1,hle.2.1,hle.2.2.1,gP hle.2.2.2 hc.size⟩,h.gl⟩,hev⟩
 ·rcases yC hp with hp | hp
  ·exact ⟨(h.sets p hp).1,hS (h.sets p hp).2⟩
  ·rw [gV] at hp;subst hp;exact ⟨by simp only;omega,_,hset⟩
 ·rw [gI];obtain ⟨h1,h2,h3⟩:=h.eok x hx;exact ⟨by omega,by omega,fun p hp=>hS (h3 p hp)⟩
 ·rw [gI];have:=(h.fin i hi).2 x hx;exact ⟨by omega,this.2⟩
end
section
attribute [local go_sem ↓] aI
theorem lA.cells {G:Nat→Prop} {w:World} {A:Option Addr} {n c:Nat} {l:List (Int×Nat)} (h:aH G w 2 lA (.slice A n c) l) {k:Nat} (hk:k<l.length):
  ∃ bb off,A=some ⟨bb,off,none⟩∧G bb∧w.cell? ⟨bb,off+k*2,none⟩=some (.int .i64 l[k].1)∧w.cell? ⟨bb,off+k*2+1,none⟩=some (.int .i64 (l[k].2:Int)):=by
 obtain ⟨A',c',e,_,_,h4⟩:=h
 injection e with e1 _ _
 subst e1;obtain ⟨bb,off,rfl,hg,h5⟩:=h4 (by omega);obtain ⟨vs,h6,h7,h8⟩:=h5 k hk;unfold lA at h7;subst h7;exact ⟨bb,off,rfl,hg,by simpa using h8 0 _ rfl,h8 1 _ rfl⟩
section
variable {w0:World} {G:Nat→Prop} {B bm bf:Nat} {A0 A1 A2:Option Addr} {c0 c1 c2:Nat} {g:Gm} {ks:List (List Itm)} {A:Option Addr} {c:Nat} {vr vt vu vc:Value} {Ab:Option Addr} {cb:Nat} {w w':World} {va ve:Value} {ps:List (Nat×Nat)} {es:List Edg} {FV:Nat→Value} {fl:Nat→List (Int×Nat)}
theorem Mx.pushFin (h:Mx w0 G B bm bf A0 c0 A1 c1 A2 c2 g ks A c vr vt vu vc Ab cb w va ve ps es FV fl) {i:Nat} (hi:i<ks.length) (r:Int) (hr:inR r) {at_:Nat} (hat:at_<ps.length) (hl:(fl i).length≤1000000000000):
  ∃ A4 c4 w4 w5,WrA Tryz.prog #[307,307] 307 #[FV i,.slice (some ⟨w.heap.size,0,none⟩) 1 1] (w.alloc (.cells #[.int .i64 r,.int .i64 (at_:Int)] 309))=.ok (.slice A4 ((fl i).length+1) c4) w4∧w4.setCell ⟨bf,i,none⟩ (.slice A4 ((fl i).length+1) c4)=w5∧
   (w.alloc (.cells #[.int .i64 r,.int .i64 (at_:Int)] 309)).heap[bm]? = w.heap[bm]? ∧ (w.alloc (.cells #[.int .i64 r,.int .i64 (at_:Int)] 309)).heap[bf]? = w.heap[bf]? ∧ w4.heap[bm]? = w.heap[bm]? ∧ w4.heap[bf]? = w.heap[bf]? ∧ (∃ u,w4.cell? ⟨bf,i,none⟩=some u)∧w4.frozen? ⟨bf,i,none⟩=false∧
   ∃ FV' fl',Mx w0 G B bm bf A0 c0 A1 c1 A2 c2 g ks A c vr vt vu vc Ab cb w5 va ve ps es FV' fl'∧EvM B bm bf w w5∧∀ j,(fl' j).length≤(fl j).length+1:=by
 obtain ⟨hrow,hfl⟩:=h.fin i hi;obtain ⟨v',w4,hrun,hr4,hc4,how⟩:=aG.pushC 307 Tryz.underlying307 BN rfl (by decide) lA.one 307 (us:=[.int .i64 r,.int .i64 (at_:Int)]) (x:=(r,at_)) rfl rfl hrow (by omega) (by unfold maxLen;omega) h.le.2.2.2;obtain ⟨A4,c4,rfl,_⟩:=hr4.shape;rw [gI,gZ] at hrun hr4 how;have hs:∀ {T:TypeId} {k:Nat},TB T w k→T≠309→w4.heap[k]? = w.heap[k]? := fun h1 h2=>hc4.same _ h1.lt fun e=>h1.ne (hrow.tb e).2 h2 rfl;have hbm:TB 248 w bm:=⟨_,h.box⟩;have hr0:=h.row.of_block (hs h.tbf (by decide));have hT4:TB 307 w4 bf:=h.tbf.of_eq (hs h.tbf (by decide));obtain ⟨w5,hw5⟩:∃ w5,w4.setCell ⟨bf,i,none⟩ (.slice A4 ((fl i).length+1) c4)=w5:=⟨_,rfl⟩;have hne:∀ k,k≠bf→w5.heap[k]? = w4.heap[k]? := fun k hk=>by rw [← hw5];exact gU _ _ _ _ hk
 have hs5:∀ {T:TypeId} {k:Nat},TB T w k→T≠309→T≠307→w5.heap[k]? = w.heap[k]? := fun h1 h2 h3=>(hne _ fun e=>(h1.of_eq (hs h1 h2)).ne hT4 h3 e).trans (hs h1 h2);have hev:EvM B bm bf w w5:=by
  have h1:EvM B bm bf w w4:=hc4.mono fun k _ hk=>⟨.inr (.inr (hrow.tb hk).1),.inr (.inr (.inr (.inl (hrow.tb hk).2)))⟩;rw [← hw5];exact Chg.setCell h1 (p:=⟨bf,i,none⟩) (fun _=>⟨.inr (.inl rfl),.inr (.inr (.inr (.inr h.tbf)))⟩) _
 have hS:∀ {b bw:Nat},(∃ X,BSet w b bw (g.terms.length+1) X)→∃ X,BSet w5 b bw (g.terms.length+1) X:=fun ⟨X,hX⟩=>⟨X,hX.keep (hs5 ⟨_,hX.hb⟩ (by decide) (by decide)) (hs5 ⟨_,hX.hw⟩ (by decide) (by decide))⟩;have hb5:=(hs5 hbm (by decide) (by decide)).trans h.box;refine ⟨A4,c4,w4,w5,hrun,hw5,Below.heap_alloc _ _ _ hbm.lt,Below.heap_alloc _ _ _ h.tbf.lt,hs hbm (by decide),hs h.tbf (by decide),⟨_,hr0.cell hi⟩,hr0.frozen i,fun j=>if j=i then .slice A4 ((fl i).length+1) c4 else FV j,fun j=>if j=i then fl i++[(r,at_)] else fl j, ?_,hev,fun j=>by
  by_cases e:j=i
  ·subst e;simp
  ·simp [e]⟩
 refine ⟨h.mbEv hev hb5,hb5,h.all.keep fun k hk=>hs5 (h.all.tb hk).2 (by decide) (by decide),fun p hp=>⟨(h.sets p hp).1,hS (h.sets p hp).2⟩,h.tot,h.edg.keep fun k hk=>hs5 (h.edg.tb hk).2 (by decide) (by decide),fun x hx=>⟨(h.eok x hx).1,(h.eok x hx).2.1,fun p hp=>hS ((h.eok x hx).2.2 p hp)⟩,by rw [← hw5];exact hr0.set _ _,fun j hj=>?_,fun j j' hj hj' hjj k hk=>?_,h.belEv hev,⟨h.le.1,h.le.2.1,h.le.2.2.1,gP h.le.2.2.2 hev.size⟩,h.gl⟩
 ·by_cases e:j=i
  ·subst e;simp only [if_pos];refine ⟨?_,fun x hx=>?_⟩
   ·exact aG.keep (w:=w4) (by rw [show (Value.slice A4 ((fl j).length+1) c4)=.slice A4 ((fl j).length+1) c4 from rfl];exact hr4) fun k hk=>hne k fun e=>(hr4.tb hk).2.ne hT4 (by decide) e
   ·rcases yC hx with hx | hx
    ·exact hfl x hx
    ·rw [gV] at hx;subst hx;exact ⟨hat,hr⟩
  ·simp only [if_neg e];obtain ⟨h1,h2⟩:=h.fin j hj;refine ⟨h1.keep fun k hk=>?_,h2⟩;have e4:w4.heap[k]? = w.heap[k]? := hc4.same k (h1.tb hk).2.lt fun e2=>h.apart j i hj hi e k hk e2;exact (hne k fun e2=>((h1.tb hk).2.of_eq e4).ne hT4 (by decide) e2).trans e4
 ·by_cases e:j=i
  ·subst e;simp only [if_pos] at hk;simp only [if_neg (Ne.symm hjj)];rcases how with h5 | h5
   ·rw [h5] at hk;exact h.apart j j' hj hj' hjj k hk
   ·rw [h5] at hk
    injection hk with hk
    intro h6;have:=((h.fin j' hj').1.tb h6).2.lt;omega
  ·simp only [if_neg e] at hk;by_cases e':j'=i
   ·subst e';simp only [if_pos];rcases how with h5 | h5
    ·rw [h5];exact h.apart j j' hj hj' hjj k hk
    ·rw [h5];intro h6
     injection h6 with h6
     have:=((h.fin j hj).1.tb hk).2.lt;omega
   ·simp only [if_neg e'];exact h.apart j j' hj hj' hjj k hk
end
def D6 (w0:World) (G:Nat→Prop) (B bm bf:Nat) (A0:Option Addr) (c0:Nat) (A1:Option Addr) (c1:Nat) (A2:Option Addr) (c2:Nat) (g:Gm) (ks:List (List Itm)) (A:Option Addr) (c:Nat) (vr vt vu vc:Value) (Ab:Option Addr) (cb:Nat) (ve:Value) (ps:List (Nat×Nat)) (es:List Edg) (w:World) (e:Ending) (w':World):Prop:=
 (∃ (t:Nat) (va':Value) (ps':List (Nat×Nat)) (FV':Nat→Value) (fl':Nat→List (Int×Nat)),e=.returned (.int .i64 t)∧t<ps'.length∧ps.length≤ps'.length∧ps'.length≤ps.length+1∧Mx w0 G B bm bf A0 c0 A1 c1 A2 c2 g ks A c vr vt vu vc Ab cb w' va' ve ps' es FV' fl'∧∀ i,i<ks.length→(fl' i).length≤ps'.length)∧EvM B bm bf w w'
theorem JD (w0:World) (G:Nat→Prop) (B bm bf:Nat) (A0 c0 A1 c1 A2 c2) (g:Gm) (ks:List (List Itm)) (A:Option Addr) (c:Nat) (vr vt vu vc:Value) (Ab:Option Addr) (cb:Nat) (w:World) (va ve:Value) (ps:List (Nat×Nat)) (es:List Edg) (FV:Nat→Value) (fl:Nat→List (Int×Nat)) (i:Nat) (r:Int) (h:Mx w0 G B bm bf A0 c0 A1 c1 A2 c2 g ks A c vr vt vu vc Ab cb w va ve ps es FV fl) (hi:i<ks.length) (hr:inR r) (hn:g.terms.length+1≤64) (hps:ps.length≤1000000000000) (hfl:∀ i,i<ks.length→(fl i).length≤ps.length):
  Calls Tryz.prog 225 #[.pointer (some ⟨bm,0,none⟩),.int .i64 i,.int .i64 r] w fun e w'=>D6 w0 G B bm bf A0 c0 A1 c1 A2 c2 g ks A c vr vt vu vc Ab cb ve ps es w e w':=by
 obtain ⟨Af,cf,hFV,_⟩:=(h.fin i hi).1.shape;have hlook:aH (TB 309 w) w 2 lA (FV i) (fl i):=(h.fin i hi).1.look fun k hk=>((h.fin i hi).1.tb hk).2;have hok:=(h.fin i hi).2;have z0:=h.row.cell hi;rw [hFV] at hlook z0;obtain ⟨l,hl⟩:∃ l,l=fl i:=⟨_,rfl⟩;have hll:=hfl i hi;rw [← hl] at hlook hok z0 hll;have y12:=aA h.box 12 _ rfl;obtain ⟨H,HLK,HOK,HL,HFL,HFV⟩:=Zh6 h hlook hok hl hfl (hFV.trans (by rw [← hl]));have hi0:(0:Int)≤(i:Int):=by omega
 have hi1:(i:Int)<(ks.length:Int):=by omega
 clear h hlook hok hl hFV hfl;go_enter Tryz.func225,Tryz.ntmps225;go_wp2_with fail
 go_loopw [18] (fun iv wr=>∃ j:Nat,j≤l.length∧iv=.int .i64 j∧Below w.heap.size w wr) (fun iv _=>l.length-(intOf iv).toNat)
 case atStart=>exact ⟨0,gX _,rfl,gR _ _⟩
 case round=>
  obtain ⟨j,hj,rfl,hb⟩:=hrel;have HB:=Ha hb;clear hb z0 y12;by_cases hlt:j<l.length
  ·obtain ⟨bt,ot,rfl,hgt,y0,y1⟩:=lA.cells HLK.out hlt;have y0:=aD y0 HB.out;have y1:=aD y1 HB.out;obtain ⟨a,ha⟩:∃ a,a=l[j].1:=⟨_,rfl⟩;obtain ⟨b,hb⟩:∃ b,b=l[j].2:=⟨_,rfl⟩;rw [← ha] at y0;rw [← hb] at y1;have HBL:=Ha (show b<ps.length from hb▸(HOK.out _ (gN hlt)).1);have hb1:Below wr.heap.size wr (wr.alloc (.cells #[.int .i64 a,.int .i64 (b:Int)] 309)):=(gR _ _).alloc (gO _) _;have q1:=aC wr (.cells #[.int .i64 a,.int .i64 (b:Int)] 309);generalize hWI:wr.alloc (.cells #[.int .i64 a,.int .i64 (b:Int)] 309)=wi at *;obtain ⟨r0,r1,_,_⟩:=aM q1 rfl;have HB1:=Ha (HB.out.trans (hb1.mono HB.out.size));clear ha hb hb1 q1;by_cases e:a=r
   ·subst e;go_wp2_with fail;go_ret;exact ⟨⟨b,va,ps,FV,fl,rfl,HBL.out,gO _,Nat.le_succ _,H.out.below HB1.out,HFL.out⟩,EvM.of HB1.out⟩
   ·go_wp2_with fail
    go_roundw
    case rel=>exact ⟨j+1,hlt,by go_num,HB1.out⟩
    case measure=>simp only [intOf];omega
  ·obtain rfl:j=l.length:=by omega
   have hmr:=H.out.below HB.out;have HFR:=Ha (uW wr B bm (g.terms.length+1) g.terms.length A0 c0 _ _ _ _ _ _ _ _ _ va ve _ ps hmr.box hmr.all rfl hn hps hmr.le.2.2.2);have HMR:=Ha hmr;clear hmr;go_wp2_with fail
   with_reducible refine Calls.mono HFR.out ?_
   intro e w2 hpost;obtain ⟨rfl,va2,p,hm2,hev2⟩:=HMR.out.fresh hpost;have hmd:Mx w0 G B bm bf A0 c0 A1 c1 A2 c2 g ks A c vr vt vu vc Ab cb w2.drew va2 ve (ps++[p]) es FV fl:=hm2.below (gR _ _).drew;obtain ⟨A4,c4,w4,w5,hrun0,hW5,e1,e2,e3,e4,⟨_,u4⟩,f4,FV5,fl5,hm5,hev5,hfl5⟩:=hmd.pushFin hi r hr (at_:=ps.length) (by rw [gI];simp) (by have:=HFL.out i hi;omega);have hsz:w2.drew.heap.size=w2.heap.size:=rfl;rw [HFV.out,← HL.out,hsz] at hrun0;have hrun:WrA Tryz.prog #[307,307] 307 #[.slice Af l.length cf,.slice (some ⟨w2.heap.size,0,none⟩) 1 1] (w2.alloc (.cells #[.int .i64 r,.int .i64 (ps.length:Int)] 309)).drew=.ok (.slice A4 (l.length+1) c4) w4:=hrun0;rw [← HL.out] at hW5;have HF:=Ha (show Mx w0 G B bm bf A0 c0 A1 c1 A2 c2 g ks A c vr vt vu vc Ab cb w5 va2 ve (ps++[p]) es FV5 fl5∧(∀ i,i<ks.length→(fl5 i).length≤(ps++[p]).length)∧EvM B bm bf w w5 from ⟨hm5,fun k hk=>by
    have h1:=hfl5 k;have h2:=HFL.out k hk;rw [gI,gZ];omega,(EvM.of HB.out).trans (hev2.trans ((EvM.of (gR _ _).drew).trans hev5))⟩)
   have HS:=Ha (show ∀ X:World,X.heap[bm]? = w2.heap[bm]? → X.heap[bf]? = w2.heap[bf]? → X.cell? ⟨bm,12,none⟩=some (.slice (some ⟨bf,0,none⟩) ks.length ks.length)∧X.cell? ⟨bf,i,none⟩=some (.slice Af l.length cf) from
    fun X h1 h2=>⟨aA (h1.trans hm2.box) 12 _ rfl,(gM h2).trans (by rw [hm2.row.cell hi,HFV.out])⟩)
   have HE:=Ha (gS e1 (gS e2 (gS e3 e4)));clear hm2 hev2 hmd hrun0 hm5 hev5 hfl5 e1 e2 e3 e4 hpost hsz;go_wp2_with fail;refine aE.start 18 (fun X=>X.cell? ⟨bm,12,none⟩=some (.slice (some ⟨bf,0,none⟩) ks.length ks.length)∧X.cell? ⟨bf,i,none⟩=some (.slice Af l.length cf)) (by kernel_rfl) ?hs_1 (fun hHeld=>?hr_1)
   case hs_1=>exact HS.out _ rfl rfl
   refine aE.tks [0,1,2,3,4,5,6,7,8,9,10,11,12,13,14] ?_ (by kernel_rfl) (by assumption)
   iterate 15
    refine aK.cons ?_ (by rfl) (by rfl) (by intro w h;(try dsimp only at h);simp only [gA,gB,gC];go_simp;try with_reducible rfl) (by exact fun _ _ _ h=>h);simp only [gA,gB,gC,Act.put,gD,gE,gF]
   show aE _ _ _ _ _ _ _ _ _ _;refine aE.one (i:=15) (by kernel_rfl) rfl fun K hK=>?_;simp only [gA,gB,gC]
   go_simp
   refine hK.out _ _ ?_ (fun hHeld=>?_)
   ·exact HS.out _ HE.out.1 HE.out.2.1
   clear hK K;try simp only [Act.put,gD,gE,gF]
   refine aE.one (i:=16) (by kernel_rfl) rfl fun K hK=>?_;simp only [gA,gB,gC]
   go_simp
   refine hK.out _ _ ?_ (fun hHeld=>?_)
   ·exact HS.out _ HE.out.2.2.1 HE.out.2.2.2
   clear hK K;try simp only [Act.put,gD,gE,gF]
   refine aE.tks [17] ?_ (by kernel_rfl) (by assumption)
   iterate 1
    refine aK.cons ?_ (by rfl) (by rfl) (by intro w h;(try dsimp only at h);simp only [gA,gB,gC];go_simp;try with_reducible rfl) (by exact fun _ _ _ h=>h);simp only [gA,gB,gC,Act.put,gD,gE,gF]
   show aE _ _ _ _ _ _ _ _ _ _;refine aE.last (by kernel_rfl) rfl fun K hK=>?_;simp only [gA,gB,gC]
   go_simp
   refine hK.out _ _ (aE.done (by kernel_rfl) ?_ _);go_wp2_with fail;go_ret;exact ⟨⟨ps.length,va2,ps++[p],FV5,fl5,rfl,by rw [gI];simp,by rw [gI];simp,by rw [gI];simp,HF.out.1,HF.out.2.1⟩,HF.out.2.2⟩
end
section
variable {w0:World} {G:Nat→Prop} {B bm bf:Nat} {A0 A1 A2:Option Addr} {c0 c1 c2:Nat} {g:Gm} {ks:List (List Itm)} {A:Option Addr} {c:Nat} {vr vt vu vc:Value} {Ab:Option Addr} {cb:Nat} {w w':World} {va ve:Value} {ps:List (Nat×Nat)} {es:List Edg} {FV:Nat→Value} {fl:Nat→List (Int×Nat)}
theorem Mx.hold (h:Mx w0 G B bm bf A0 c0 A1 c1 A2 c2 g ks A c vr vt vu vc Ab cb w va ve ps es FV fl) (hv:EvM B bm bf w w') {k:Nat} (hk:G k):w'.heap[k]? = w.heap[k]? := hv.old (h.gl k hk) h.le.2.2.2
theorem Mx.pushEdge (h:Mx w0 G B bm bf A0 c0 A1 c1 A2 c2 g ks A c vr vt vu vc Ab cb w va ve ps es FV fl) {tt at_:Nat} (hto:tt<ps.length) (hat:at_<ps.length) (p:Option (Nat×Nat)) (hp:∀ q,p=some q→∃ X,BSet w q.1 q.2 (g.terms.length+1) X) (sf:Bool) (hl:es.length≤1000000000000):
  ∃ A4 c4 w4 w5,WrA Tryz.prog #[246,246] 246 #[ve,.slice (some ⟨w.heap.size,0,none⟩) 1 1] (w.alloc (.cells #[.int .i64 (tt:Int),.int .i64 (at_:Int),CS p,.bool sf] 301))=.ok (.slice A4 (es.length+1) c4) w4∧w4.setCell ⟨bm,11,none⟩ (.slice A4 (es.length+1) c4)=w5∧
   EvM B bm bf w w4∧w4.heap[bm]? = w.heap[bm]? ∧ w4.cell? ⟨bm,11,none⟩=some ve∧w4.frozen? ⟨bm,11,none⟩=false∧
   Mx w0 G B bm bf A0 c0 A1 c1 A2 c2 g ks A c vr vt vu vc Ab cb w5 va (.slice A4 (es.length+1) c4) ps (es++[(tt,at_,p)]) FV fl∧EvM B bm bf w w5:=by
 obtain ⟨v',w4,hrun,hr4,hc4,how⟩:=aG.pushC 246 Tryz.underlying246 BL rfl (by decide) uA.one 246 (us:=[.int .i64 (tt:Int),.int .i64 (at_:Int),CS p,.bool sf]) (x:=(tt,at_,p)) rfl ⟨sf,rfl⟩ h.edg (by omega) (by unfold maxLen;omega) h.le.2.2.2;obtain ⟨A4,c4,rfl,_⟩:=hr4.shape;rw [gI,gZ] at hrun hr4 how;have hs:∀ {T:TypeId} {k:Nat},TB T w k→T≠301→w4.heap[k]? = w.heap[k]? := fun h1 h2=>hc4.same _ h1.lt fun e=>h1.ne (h.edg.tb e).2 h2 rfl;have hbm:TB 248 w bm:=⟨_,h.box⟩;have e4:=hs hbm (by decide);have hb4:=e4.trans h.box;have hev4:EvM B bm bf w w4:=hc4.mono fun k _ hk=>⟨.inr (.inr (h.edg.tb hk).1),.inr (.inr (.inl (h.edg.tb hk).2))⟩;obtain ⟨w5,hw5⟩:∃ w5,w4.setCell ⟨bm,11,none⟩ (.slice A4 (es.length+1) c4)=w5:=⟨_,rfl⟩;have hne:∀ k,k≠bm→w5.heap[k]? = w4.heap[k]? := fun k hk=>by rw [← hw5];exact gU _ _ _ _ hk
 have hT4:TB 248 w4 bm:=⟨_,hb4⟩;have hs5:∀ {T:TypeId} {k:Nat},TB T w k→T≠301→T≠248→w5.heap[k]? = w.heap[k]? := fun h1 h2 h3=>(hne _ fun e=>(h1.of_eq (hs h1 h2)).ne hT4 h3 e).trans (hs h1 h2);have hev:EvM B bm bf w w5:=by
  rw [← hw5];exact Chg.setCell hev4 (p:=⟨bm,11,none⟩) (fun _=>⟨.inl rfl,.inl hbm⟩) _
 have hS:∀ {b bw:Nat},(∃ X,BSet w b bw (g.terms.length+1) X)→∃ X,BSet w5 b bw (g.terms.length+1) X:=fun ⟨X,hX⟩=>⟨X,hX.keep (hs5 ⟨_,hX.hb⟩ (by decide) (by decide)) (hs5 ⟨_,hX.hw⟩ (by decide) (by decide))⟩;have hb5:=aO hb4 11 (.slice A4 (es.length+1) c4);rw [hw5] at hb5;refine ⟨A4,c4,w4,w5,hrun,hw5,hev4,e4,aA hb4 11 _ rfl,by simp [World.frozen?,hb4],⟨h.mbEv hev hb5,hb5,h.all.keep fun k hk=>hs5 (h.all.tb hk).2 (by decide) (by decide),fun p hp=>⟨(h.sets p hp).1,hS (h.sets p hp).2⟩,h.tot,hr4.keep fun k hk=>hne k fun e=>(hr4.tb hk).2.ne hT4 (by decide) e,fun x hx=>?_,h.row.of_block (hs5 h.tbf (by decide) (by decide)),fun i hi=>⟨(h.fin i hi).1.keep fun k hk=>hs5 ((h.fin i hi).1.tb hk).2 (by decide) (by decide),(h.fin i hi).2⟩,h.apart,h.belEv hev,⟨h.le.1,h.le.2.1,h.le.2.2.1,gP h.le.2.2.2 hev.size⟩,h.gl⟩,hev⟩;rcases yC hx with hx | hx
 ·exact ⟨(h.eok x hx).1,(h.eok x hx).2.1,fun q hq=>hS ((h.eok x hx).2.2 q hq)⟩
 ·rw [gV] at hx;subst hx;exact ⟨hto,hat,fun q hq=>hS (hp q hq)⟩
theorem Dat.tail (h:Dat G w g ks (.slice A ks.length c) vr vt vu vc) {k d:Nat} (hk:k≤g.rules.length) (hd:d<(g.rightAt k).length):∃ b off c A' c' b' off' p em,vt=.slice (some ⟨b,off,none⟩) (g.rules.length+1) c∧G b∧w.cell? ⟨b,off+k,none⟩=some (.slice A' (g.rightAt k).length c')∧A'=some ⟨b',off',none⟩∧G b'∧w.cell? ⟨b',off'+d*2,none⟩=some p∧w.cell? ⟨b',off'+d*2+1,none⟩=some (.bool em)∧SvV G w (g.terms.length+1) p:=by
 obtain ⟨b,off,c,u,h1,h2,h3,h4⟩:=dN h.ts (show k<g.rules.length+1 by omega);obtain ⟨A',c',rfl,_,_,h6⟩:=h4;obtain ⟨b',off',h7,h8,h9⟩:=h6 (by omega);obtain ⟨vs,_,⟨p,em,rfl,h10⟩,h11⟩:=h9 d hd;exact ⟨b,off,c,A',c',b',off',p,em,h1,h2,h3,h7,h8,by simpa using h11 0 _ rfl,h11 1 _ rfl,h10⟩
theorem Dat.rules (h:Dat G w g ks (.slice A ks.length c) vr vt vu vc) {s:Nat} (hs:s≤g.top):∃ b off c A' c',vu=.slice (some ⟨b,off,none⟩) (g.top+1) c∧G b∧w.cell? ⟨b,off+s,none⟩=some (.slice A' (ofR (s:Int) g.rules 0).length c')∧aF G w (.slice A' (ofR (s:Int) g.rules 0).length c') (ofR (s:Int) g.rules 0):=by
 obtain ⟨b,off,c,u,h1,h2,h3,h4⟩:=dN h.us (show s<g.top+1 by omega);obtain ⟨A',c',rfl,_⟩:=aH.shape h4;exact ⟨b,off,c,A',c',h1,h2,h3,h4⟩
theorem Dat.comes (h:Dat G w g ks (.slice A ks.length c) vr vt vu vc) {s:Nat} (hs:s≤g.top):∃ b off c A' c' l,vc=.slice (some ⟨b,off,none⟩) (g.top+1) c∧G b∧w.cell? ⟨b,off+s,none⟩=some (.slice A' (l:List Int).length c')∧aH G w 3 (iQ G w (g.terms.length+1)) (.slice A' l.length c') l∧(∀ x∈l,g.N x∧g.Lc (s:Int) x)∧l.length≤241:=by
 obtain ⟨b,off,c,u,h1,h2,h3,l,h4,h5,h6⟩:=dN h.cs (show s<g.top+1 by omega);obtain ⟨A',c',rfl,_⟩:=aH.shape h4;exact ⟨b,off,c,A',c',l,h1,h2,h3,h4,h5,h6⟩
theorem EK {n:Nat} {A':Option Addr} {m c':Nat} {l:List Int} (h:aH G w 3 (iQ G w n) (.slice A' m c') l) {j:Nat} (hj:j<l.length):∃ b off p sf,A'=some ⟨b,off,none⟩∧G b∧w.cell? ⟨b,off+j*3,none⟩=some (.int .i64 l[j])∧w.cell? ⟨b,off+j*3+1,none⟩=some p∧w.cell? ⟨b,off+j*3+2,none⟩=some (.bool sf)∧SvV G w n p:=by
 obtain ⟨A',c',e,_,_,h4⟩:=h
 injection e with e1 _ _
 subst e1;obtain ⟨b,off,rfl,hg,h5⟩:=h4 (by omega);obtain ⟨vs,_,⟨p,sf,rfl,h7⟩,h8⟩:=h5 j hj;exact ⟨b,off,p,sf,rfl,hg,by simpa using h8 0 _ rfl,h8 1 _ rfl,h8 2 _ rfl,h7⟩
end
end Go.Proofs.YtpidmmfjcghmeaaGreat
