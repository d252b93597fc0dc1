/- What is proved: a here-document's text stands behind the line of its command, whatever commands come behind it in that line (arguments of bulk at most 1048576; the tables begin as the program's text lays them, which the card ties). -/
import Derived.Test.YtjpopekmbmcggaaGreatDoorUh40
import Derived.ShutString
import Derived.ChangeOld
import Derived.Carry
import Derived.JoinedCond
set_option maxRecDepth 100000
set_option maxHeartbeats 16000000
namespace Go.Proofs.YtjpopekmbmcggaaGreatDoor
open Go.RowKit
theorem qN (w:World) (o0 o1 o2 o3:Obj):((((w.alloc o0).alloc o1).alloc o2).alloc o3).heap[w.heap.size]? = some o0∧((((w.alloc o0).alloc o1).alloc o2).alloc o3).heap[w.heap.size+1]? = some o1∧
  ((((w.alloc o0).alloc o1).alloc o2).alloc o3).heap[w.heap.size+1+1]? = some o2∧((((w.alloc o0).alloc o1).alloc o2).alloc o3).heap[w.heap.size+1+1+1]? = some o3∧
  ((((w.alloc o0).alloc o1).alloc o2).alloc o3).heap.size=w.heap.size+1+1+1+1∧Below w.heap.size w ((((w.alloc o0).alloc o1).alloc o2).alloc o3):=by
 have k0:=aN w o0;have k1:=aN (w.alloc o0) o1;have k2:=aN ((w.alloc o0).alloc o1) o2;have k3:=aN (((w.alloc o0).alloc o1).alloc o2) o3;rw [show (w.alloc o0).heap.size=w.heap.size+1 by simp] at k1;rw [show ((w.alloc o0).alloc o1).heap.size=w.heap.size+1+1 by simp] at k2;rw [show (((w.alloc o0).alloc o1).alloc o2).heap.size=w.heap.size+1+1+1 by simp] at k3;exact ⟨up (up (up k0)),up (up k1),up k2,k3,by simp,((((Below.refl _ _).alloc (Nat.le_refl _) _).alloc (by simp) _).alloc (by simp;omega) _).alloc (by simp;omega) _⟩
theorem nW {P:Program} {md:Region.Mode} {ops:Array Oper} {Q:Exit→Act→World→Prop} {S:World→Prop} (fuel:Nat) (listed:Array Bool) (A:Array Value) (d:List Deferred) (w:World)
  (h:∀ (T:Nat→Array Bool→Array Value→World→Prop) (B:Array Value),T=(fun f l a X=>wpAnyH P md ops Q S f l ⟨a,d⟩ X)→B=A→T fuel listed B w):wpAnyH P md ops Q S fuel listed ⟨A,d⟩ w:=
 h _ _ rfl rfl
def uU:Array Value:=#[.int .i64 0,.string ⟨#[]⟩,.bool false,.bool false,.slice none 0 0,.slice none 0 0,.slice none 0 0,.slice none 0 0,.slice none 0 0,.slice none 0 0]
structure Hn (W:World) (OA OB OG:Obj) (a b g:Option Nat) (w:World):Prop where
 below:Below W.heap.size W w
 ad:∀ x,a=some x→W.heap.size≤x∧w.heap[x]? = some OA
 bd:∀ x,b=some x→W.heap.size≤x∧w.heap[x]? = some OB
 gd:∀ x,g=some x→W.heap.size≤x∧w.heap[x]? = some OG
section
variable {W w w':World} {OA OB OG:Obj} {a b g:Option Nat}
theorem Hn.grow (h:Hn W OA OB OG a b g w) (hb:Below w.heap.size w w'):Hn W OA OB OG a b g w':=
 have up:∀ {x:Nat} {o:Obj},w.heap[x]? = some o→w'.heap[x]? = some o:=fun h2=>(hb.block _ (Array.getElem?_eq_some_iff.1 h2).1).trans h2
 ⟨h.below.trans (hb.mono h.below.size),fun x e=>⟨(h.ad x e).1,up (h.ad x e).2⟩,fun x e=>⟨(h.bd x e).1,up (h.bd x e).2⟩,fun x e=>⟨(h.gd x e).1,up (h.gd x e).2⟩⟩
theorem Hn.start (W:World) (OA OB OG:Obj):Hn W OA OB OG none none none W.drew:=
 ⟨(Below.refl _ _).drew,fun _ e=>absurd e (by simp),fun _ e=>absurd e (by simp),fun _ e=>absurd e (by simp)⟩
theorem Hn.a0 (h:Hn W OA OB OG none b g w) (x:Nat) (hx:x=w.heap.size):Hn W OA OB OG (some x) b g (w.alloc OA):=by
 subst hx;have h':=h.grow (w':=w.alloc OA) ((Below.refl _ _).alloc (Nat.le_refl _) _);exact ⟨h'.below,fun y e=>by cases e;exact ⟨h.below.size,aN w _⟩,h'.bd,h'.gd⟩
theorem Hn.b0 (h:Hn W OA OB OG a none g w) (x:Nat) (hx:x=w.heap.size):Hn W OA OB OG a (some x) g (w.alloc OB):=by
 subst hx;have h':=h.grow (w':=w.alloc OB) ((Below.refl _ _).alloc (Nat.le_refl _) _);exact ⟨h'.below,h'.ad,fun y e=>by cases e;exact ⟨h.below.size,aN w _⟩,h'.gd⟩
theorem Hn.g0 (h:Hn W OA OB OG a b none w) (x:Nat) (hx:x=w.heap.size):Hn W OA OB OG a b (some x) (w.alloc OG):=by
 subst hx;have h':=h.grow (w':=w.alloc OG) ((Below.refl _ _).alloc (Nat.le_refl _) _);exact ⟨h'.below,h'.ad,h'.bd,fun y e=>by cases e;exact ⟨h.below.size,aN w _⟩⟩
theorem Hn.zeros {x:Nat} (hO:OG=.cells uU 28 (0,0)) (h:Hn W OA OB OG a b (some x) w):(w.cell? ⟨x,0,none⟩=some (.int .i64 0)∧w.cell? ⟨x,1,none⟩=some (.string ⟨#[]⟩)∧w.cell? ⟨x,2,none⟩=some (.bool false)∧w.cell? ⟨x,3,none⟩=some (.bool false)∧w.cell? ⟨x,4,none⟩=some (.slice none 0 0)∧w.cell? ⟨x,5,none⟩=some (.slice none 0 0)∧w.cell? ⟨x,6,none⟩=some (.slice none 0 0)∧w.cell? ⟨x,7,none⟩=some (.slice none 0 0)∧w.cell? ⟨x,8,none⟩=some (.slice none 0 0)∧w.cell? ⟨x,9,none⟩=some (.slice none 0 0))∧∀ j,w.frozen? ⟨x,j,none⟩=false:=by
 obtain ⟨_,h2⟩:=h.gd x rfl;subst hO;unfold uU at h2;exact ⟨⟨aE h2 0 _ rfl,aE h2 1 _ rfl,aE h2 2 _ rfl,aE h2 3 _ rfl,aE h2 4 _ rfl,aE h2 5 _ rfl,aE h2 6 _ rfl,aE h2 7 _ rfl,aE h2 8 _ rfl,aE h2 9 _ rfl⟩,fun j=>by simp [World.frozen?,h2]⟩
end
theorem dA {w:World} {b:Nat} {cs:Array Value} {T:TypeId} {fz:Nat×Nat} (h:w.heap[b]? = some (.cells cs T fz)) (j:Nat) (u:Value):(w.setCell ⟨b,j,none⟩ u).heap[b]? = some (.cells (cs.setIfInBounds j u) T fz):=by
 simp [World.setCell,Array.getElem?_modify,h]
structure Hf (W:World) (OA OB:Obj) (a b g:Nat) (w:World):Prop where
 below:Below W.heap.size W w
 le:W.heap.size≤a∧W.heap.size≤b∧W.heap.size≤g
 ad:w.heap[a]? = some OA
 bd:w.heap[b]? = some OB
 gd:w.heap[g]? = some (.cells #[.int .i64 1,.string ⟨#[]⟩,.bool false,.bool false,.slice (some ⟨b,0,none⟩) 2 2,.slice none 0 0,.slice none 0 0,.slice none 0 0,.slice none 0 0,.slice (some ⟨a,0,none⟩) 2 2] 28 (0,0))
theorem Hn.fin {W w:World} {OA OB OG:Obj} {a b g:Nat} {vs us:Array Value} (hA:OA=.cells vs 28 (0,0)∧vs.size=20) (hB:OB=.cells us 3 (0,0)) (hO:OG=.cells uU 28 (0,0)) (h:Hn W OA OB OG (some a) (some b) (some g) w):
  Hf W OA OB a b g (((((((((((w.setCell ⟨g,0,none⟩ (.int .i64 1)).setCell ⟨g,1,none⟩ (.string ⟨#[]⟩)).setCell ⟨g,2,none⟩ (.bool false)).setCell ⟨g,3,none⟩ (.bool false)).setCell ⟨g,4,none⟩ (.slice (some ⟨b,0,none⟩) 2 2)).setCell ⟨g,5,none⟩ (.slice none 0 0)).setCell ⟨g,6,none⟩ (.slice none 0 0)).setCell ⟨g,7,none⟩ (.slice none 0 0)).setCell ⟨g,8,none⟩ (.slice none 0 0)).setCell ⟨g,9,none⟩ (.slice (some ⟨a,0,none⟩) 2 2))):=by
 obtain ⟨l1,h1⟩:=h.ad a rfl;obtain ⟨l2,h2⟩:=h.bd b rfl;obtain ⟨l3,h3⟩:=h.gd g rfl;have hga:a≠g:=fun e=>by
  subst e;rw [h1,hA.1,hO] at h3
  injection h3 with h3
  injection h3 with h3
  have:=hA.2;rw [h3] at this;exact absurd this (by decide)
 have hgb:b≠g:=fun e=>by
  subst e;rw [h2,hB,hO] at h3
  injection h3 with h3
  injection h3 with _ h3
  exact absurd h3 (by decide)
 rw [hO] at h3;unfold uU at h3;have hs:=dA (dA (dA (dA (dA (dA (dA (dA (dA (dA h3 0 (.int .i64 1)) 1 (.string ⟨#[]⟩)) 2 (.bool false)) 3 (.bool false)) 4 (.slice (some ⟨b,0,none⟩) 2 2)) 5 (.slice none 0 0)) 6 (.slice none 0 0)) 7 (.slice none 0 0)) 8 (.slice none 0 0)) 9 (.slice (some ⟨a,0,none⟩) 2 2);refine ⟨((((((((((h.below.setCell l3 _).setCell l3 _).setCell l3 _).setCell l3 _).setCell l3 _).setCell l3 _).setCell l3 _).setCell l3 _).setCell l3 _).setCell l3 _),⟨l1,l2,l3⟩, ?_, ?_,hs⟩
 ·rw [Below.heap_setCell _ _ _ _ hga,Below.heap_setCell _ _ _ _ hga,Below.heap_setCell _ _ _ _ hga,Below.heap_setCell _ _ _ _ hga,Below.heap_setCell _ _ _ _ hga,Below.heap_setCell _ _ _ _ hga,Below.heap_setCell _ _ _ _ hga,Below.heap_setCell _ _ _ _ hga,Below.heap_setCell _ _ _ _ hga,Below.heap_setCell _ _ _ _ hga];exact h1
 ·rw [Below.heap_setCell _ _ _ _ hgb,Below.heap_setCell _ _ _ _ hgb,Below.heap_setCell _ _ _ _ hgb,Below.heap_setCell _ _ _ _ hgb,Below.heap_setCell _ _ _ _ hgb,Below.heap_setCell _ _ _ _ hgb,Below.heap_setCell _ _ _ _ hgb,Below.heap_setCell _ _ _ _ hgb,Below.heap_setCell _ _ _ _ hgb,Below.heap_setCell _ _ _ _ hgb];exact h2
theorem aV.first {β:Type} {G:Nat→Prop} {w:World} {sz:Nat} {R:List Value→β→Prop} {v:Value} {x:β} (h:aV G w sz R v [x]):
  ∃ b off c vs,v=.slice (some ⟨b,off,none⟩) 1 c∧G b∧vs.length=sz∧R vs x∧∀ j u,vs[j]? = some u→w.cell? ⟨b,off+j,none⟩=some u:=by
 obtain ⟨A,c,h1,h2,h3,h4⟩:=h;obtain ⟨b,off,rfl,hg,hel⟩:=h4 (by simp);obtain ⟨vs,k1,k2,k3⟩:=hel 0 (by simp);exact ⟨b,off,c,vs,h1,hg,k1,k2,fun j u hj=>by simpa using k3 j u hj⟩
theorem BR {f:Nat} {G:Nat→Prop} {w:World} {n:Nd (f+2)} {ky:Int} {s:ByteArray} {nt ni:Bool} {A4 A5 A6 A7 A8 A9:Option Addr} {n4 c4 n5 c5 n6 c6 n7 c7 n8 c8 c9:Nat}
  (h:NdV (f+2) G w [.int .i64 ky,.string s,.bool nt,.bool ni,.slice A4 n4 c4,.slice A5 n5 c5,.slice A6 n6 c6,.slice A7 n7 c7,.slice A8 n8 c8,.slice A9 1 c9] n) (hr:(Nd.vw (f+2)).R n=true):
  ∃ (k:NdF (Nd f)) (oo:Int) (b9 o9 b4 o4:Nat) (kk:Int) (ks:ByteArray) (knt kni:Bool) (P4:Option Addr) (p4 q4:Nat) (P5:Option Addr) (p5 q5:Nat) (P6:Option Addr) (p6 q6:Nat) (P7:Option Addr) (p7 q7:Nat) (P8:Option Addr) (p8 q8:Nat) (P9:Option Addr) (p9 q9:Nat),
   NdF.kids (α:=Nd (f+1)) n=[k]∧NdF.ops (α:=Nd (f+1)) n=[oo]∧(oo=1∨oo=2)∧2≤k.k∧aO (Nd.vw f) k=true∧n4=1∧A4=some ⟨b4,o4,none⟩∧A9=some ⟨b9,o9,none⟩∧kk=k.k∧p7=k.redirs.length∧p7≤1073741824∧G b9∧G b4∧
   NdV (f+1) G w [.int .i64 kk,.string ks,.bool knt,.bool kni,.slice P4 p4 q4,.slice P5 p5 q5,.slice P6 p6 q6,.slice P7 p7 q7,.slice P8 p8 q8,.slice P9 p9 q9] k∧w.cell? ⟨b4,o4,none⟩=some (.int .i64 oo)∧w.cell? ⟨b9,o9,none⟩=some (.int .i64 kk)∧w.cell? ⟨b9,o9+1,none⟩=some (.string ks)∧w.cell? ⟨b9,o9+2,none⟩=some (.bool knt)∧w.cell? ⟨b9,o9+3,none⟩=some (.bool kni)∧w.cell? ⟨b9,o9+4,none⟩=some (.slice P4 p4 q4)∧w.cell? ⟨b9,o9+5,none⟩=some (.slice P5 p5 q5)∧w.cell? ⟨b9,o9+6,none⟩=some (.slice P6 p6 q6)∧w.cell? ⟨b9,o9+7,none⟩=some (.slice P7 p7 q7)∧w.cell? ⟨b9,o9+8,none⟩=some (.slice P8 p8 q8)∧w.cell? ⟨b9,o9+9,none⟩=some (.slice P9 p9 q9):=by
 obtain ⟨vo,va,vw,vr,vm,vk,hvs,_,ho,_,_,_,_,hk⟩:=h;cases hvs;have hl:NdF.kids (α:=Nd (f+1)) n=[]++NdF.kids (α:=Nd (f+1)) n:=rfl;obtain ⟨k,hkk⟩:∃ k,NdF.kids (α:=Nd (f+1)) n=[k]:=List.length_eq_one_iff.1 (by
  obtain ⟨A,c,e,_⟩:=hk
  injection e with _ e
  exact e.symm)
 rw [hkk] at hk;obtain ⟨b9,o9,c,vs,e,hg,hvl,hR,hc⟩:=hk.first
 injection e with e1 _ e3
 subst e1 e3;obtain ⟨oo,hoo,ho12,h2,hrt⟩:=yR hr hkk;rw [hoo] at ho;obtain ⟨b4,o4,c',vs',e',hg',hvl',hR',hc'⟩:=ho.first
 injection e' with e1 e2 e3
 subst e1 e2 e3;unfold lR at hR';subst hR';have hkv:=hR;obtain ⟨uo,ua,uw,ur,um,uk,rfl,⟨_,hl7⟩,k4,k5,k6,k7,k8,k9⟩:=hR;obtain ⟨P4,q4,rfl,_⟩:=k4.shape;obtain ⟨P5,q5,rfl,_⟩:=k5.shape;obtain ⟨P6,q6,rfl,_⟩:=k6.shape;obtain ⟨P7,q7,rfl,_⟩:=k7.shape;obtain ⟨P8,q8,rfl,_⟩:=k8.shape;obtain ⟨P9,q9,rfl,_⟩:=k9.shape;exact ⟨k,oo,b9,o9,b4,o4,_,_,_,_,P4,_,q4,P5,_,q5,P6,_,q6,P7,_,q7,P8,_,q8,P9,_,q9,hkk,hoo,ho12,h2,hrt,rfl,rfl,rfl,rfl,rfl,by omega,hg,hg',hkv,hc' 0 _ rfl,hc 0 _ rfl,hc 1 _ rfl,hc 2 _ rfl,hc 3 _ rfl,hc 4 _ rfl,hc 5 _ rfl,hc 6 _ rfl,hc 7 _ rfl,hc 8 _ rfl,hc 9 _ rfl⟩
theorem kM (f:Nat) (w:World) (vn:List Value) (n:Nd (f+2)) (tx:ByteArray) (ht:cC w) (hT:cW w) (hn:NdV (f+2) (Old w) w vn n) (bn:Nd.wt (f+2) n≤268435456):
  Calls Tryz.prog 9 #[ag vn,.string tx] w fun e w'=>e=.returned (.bool true)∧Below w.heap.size w w':=by
 obtain ⟨tl,rfl⟩:∃ l:List UInt8,tx=⟨l.toArray⟩:=⟨tx.toList,by rw [cM]⟩;have hG0:∀ k,Old w k→k<w.heap.size:=fun _ h=>h;have HN0:=Ha hn;obtain ⟨ky,s,nt,ni,A4,n4,c4,A5,n5,c5,A6,n6,c6,A7,n7,c7,A8,n8,c8,A9,n9,c9,rfl⟩:=hn.shape;show Calls Tryz.prog 9 #[.agg #[.int .i64 ky,.string s,.bool nt,.bool ni,.slice A4 n4 c4,.slice A5 n5 c5,.slice A6 n6 c6,.slice A7 n7 c7,.slice A8 n8 c8,.slice A9 n9 c9],.string ⟨tl.toArray⟩] w _;obtain ⟨q0,q1,q2,q3,hsz,hbw⟩:=qN w (.cells #[.int .i64 ky,.string s,.bool nt,.bool ni,.slice A4 n4 c4,.slice A5 n5 c5,.slice A6 n6 c6,.slice A7 n7 c7,.slice A8 n8 c8,.slice A9 n9 c9] 28) (.cells #[.int .i64 1,.string ⟨#[69]⟩,.string ⟨#[]⟩,.slice none 0 0,.slice none 0 0] 50) (.cells #[.slice (some ⟨w.heap.size+1,0,none⟩) 1 1] 31) (.cells #[.string ⟨#[]⟩,.int .i64 12,.slice (some ⟨w.heap.size+1,0,none⟩) 1 1,.string ⟨tl.toArray⟩] 33);generalize hW:(((w.alloc (.cells #[.int .i64 ky,.string s,.bool nt,.bool ni,.slice A4 n4 c4,.slice A5 n5 c5,.slice A6 n6 c6,.slice A7 n7 c7,.slice A8 n8 c8,.slice A9 n9 c9] 28)).alloc (.cells #[.int .i64 1,.string ⟨#[69]⟩,.string ⟨#[]⟩,.slice none 0 0,.slice none 0 0] 50)).alloc (.cells #[.slice (some ⟨w.heap.size+1,0,none⟩) 1 1] 31)).alloc (.cells #[.string ⟨#[]⟩,.int .i64 12,.slice (some ⟨w.heap.size+1,0,none⟩) 1 1,.string ⟨tl.toArray⟩] 33)=W at *;obtain ⟨x0_0,x1_0,x2_0,x3_0,x4_0,x5_0,x6_0,x7_0,x8_0,x9_0⟩:=c10 q0;have r0_0:W.cell? ⟨w.heap.size+1+1+1,0,none⟩=some (.string ⟨#[]⟩):=aE q3 0 _ rfl;have r1_0:W.cell? ⟨w.heap.size+1+1+1,1,none⟩=some (.int .i64 12):=aE q3 1 _ rfl;have r2_0:W.cell? ⟨w.heap.size+1+1+1,2,none⟩=some (.slice (some ⟨w.heap.size+1,0,none⟩) 1 1):=aE q3 2 _ rfl;have r3_0:W.cell? ⟨w.heap.size+1+1+1,3,none⟩=some (.string ⟨tl.toArray⟩):=aE q3 3 _ rfl;have hG1:∀ k,Old W k→k<W.heap.size:=fun _ h=>h;have hp:aY (Old W) W (some ⟨w.heap.size+1,0,none⟩) 0 hwP:=by
  unfold hwP;refine ⟨_,_,none,0,rfl,by show _<W.heap.size;omega, ?_, ?_, ?_, ?_, ?_,Nat.le_refl _,trivial,trivial⟩;all_goals simp [World.cell?,q1,Cm.val,Pts.len]
 have hwd:WdN f (Old W) W [.slice (some ⟨w.heap.size+1,0,none⟩) 1 1] hwW:=⟨_,1,rfl,Nat.le_refl _,by decide,by have:=yM;show hwP.wt≤_;omega,hp,⟨aV.nil0,trivial⟩⟩;obtain ⟨HRD,HBW,RS,HT,HG,HG1,HN,HB0,HL1⟩:=hs9 (show tl.length≤500→RdN f (Old W) W [.string ⟨#[]⟩,.int .i64 12,.slice (some ⟨w.heap.size+1,0,none⟩) 1 1,.string ⟨tl.toArray⟩] (hwR ⟨tl.toArray⟩) from fun h=>⟨_,rfl,(show 0≤1073741824 by decide),by show (⟨tl.toArray⟩:ByteArray).size≤_;rw [aS];omega,hwd⟩) hbw (ht.below hbw) (hT.below hbw) (aG hG0 hbw) hG1 (HN0.out.below hG0 hbw) (Below.refl W.heap.size W) (show 64*Nd.wt (f+2) n≤LIM by unfold LIM;omega);have HX:=Ha (qS (f+2) (Old w) W _ n HG.out HN.out bn);have HBN:=Ha bn;generalize Nd.much (f+2) n=m1 at *;unfold ag at HX;clear hbw q0 q1 q2 q3 hsz ht hT hn hG0 HN0 hp hwd bn hG1;go_enter Tryz.func9,Tryz.ntmps9;go_wp2_with fail;refine HX.out.mono ?_;rintro e w1 ⟨rfl,hb⟩;have HB1:=Ha (HB0.out.trans (hb.mono HB0.out.size));obtain ⟨x0_1,x1_1,x2_1,x3_1,x4_1,x5_1,x6_1,x7_1,x8_1,x9_1,r0_1,r1_1⟩:=ks12 hb x0_0 x1_0 x2_0 x3_0 x4_0 x5_0 x6_0 x7_0 x8_0 x9_0 r0_0 r1_0;have r2_1:=aA r2_0 hb;have r3_1:=aA r3_0 hb;clear hb HX x0_0 x1_0 x2_0 x3_0 x4_0 x5_0 x6_0 x7_0 x8_0 x9_0 r0_0 r1_0 r2_0 r3_0;by_cases h1:300<m1
 ·have HX:=Ha (fV w1 (RS.out.below HB1.out) (HT.out.below HB1.out));go_wp2_with fail;refine HX.out.mono ?_;rintro e wz ⟨rfl,hb⟩;have HBZ:=Ha (HBW.out.trans ((HB1.out.trans (hb.mono HB1.out.size)).mono HBW.out.size));clear hb;go_wp2_with fail;go_ret;exact ⟨rfl,HBZ.out⟩
 by_cases h2:500<tl.length
 ·have HX:=Ha (fV w1 (RS.out.below HB1.out) (HT.out.below HB1.out));go_wp2_with fail;refine HX.out.mono ?_;rintro e wz ⟨rfl,hb⟩;have HBZ:=Ha (HBW.out.trans ((HB1.out.trans (hb.mono HB1.out.size)).mono HBW.out.size));clear hb;go_wp2_with fail;go_ret;exact ⟨rfl,HBZ.out⟩
 have HR:=Ha (HRD.out (by omega));clear HRD;have HX:=Ha ((lF (f+2)).2 (Old w) w1 _ n (aG HG.out HB1.out) (HN.out.below HG.out HB1.out));unfold ag at HX;go_wp2_with fail;refine HX.out.mono ?_;rintro e w2 ⟨he,hb⟩;have HB2:=Ha (HB1.out.trans (hb.mono HB1.out.size));obtain ⟨x0_2,x1_2,x2_2,x3_2,x4_2,x5_2,x6_2,x7_2,x8_2,x9_2,r0_2,r1_2⟩:=ks12 hb x0_1 x1_1 x2_1 x3_1 x4_1 x5_1 x6_1 x7_1 x8_1 x9_1 r0_1 r1_1;have r2_2:=aA r2_1 hb;have r3_2:=aA r3_1 hb;clear hb HX x0_1 x1_1 x2_1 x3_1 x4_1 x5_1 x6_1 x7_1 x8_1 x9_1 r0_1 r1_1 r2_1 r3_1;cases hr:(Nd.vw (f+2)).R n
 ·rw [hr] at he;subst he;clear hr;have HX:=Ha (fV w2 (RS.out.below HB2.out) (HT.out.below HB2.out));go_wp2_with fail;refine HX.out.mono ?_;rintro e wz ⟨rfl,hb⟩;have HBZ:=Ha (HBW.out.trans ((HB2.out.trans (hb.mono HB2.out.size)).mono HBW.out.size));clear hb;go_wp2_with fail;go_ret;exact ⟨rfl,HBZ.out⟩
 rw [hr] at he;subst he;have HRN:=Ha hr;clear hr;have HX:=Ha (uK f (lF f).2 (Old W) w2 _ _ (aG HG1.out HB2.out) (HR.out.below HG1.out HB2.out));unfold ag at HX;go_wp2_with fail;refine HX.out.mono ?_;rintro e w3 ⟨he,hb⟩;have HB3:=Ha (HB2.out.trans (hb.mono HB2.out.size));obtain ⟨x0_3,x1_3,x2_3,x3_3,x4_3,x5_3,x6_3,x7_3,x8_3,x9_3,r0_3,r1_3⟩:=ks12 hb x0_2 x1_2 x2_2 x3_2 x4_2 x5_2 x6_2 x7_2 x8_2 x9_2 r0_2 r1_2;have r2_3:=aA r2_2 hb;have r3_3:=aA r3_2 hb;clear hb HX x0_2 x1_2 x2_2 x3_2 x4_2 x5_2 x6_2 x7_2 x8_2 x9_2 r0_2 r1_2 r2_2 r3_2;cases hr:aW (Nd.vw f) (hwR ⟨tl.toArray⟩)
 ·rw [hr] at he;subst he;clear hr;have HX:=Ha (fV w3 (RS.out.below HB3.out) (HT.out.below HB3.out));go_wp2_with fail;refine HX.out.mono ?_;rintro e wz ⟨rfl,hb⟩;have HBZ:=Ha (HBW.out.trans ((HB3.out.trans (hb.mono HB3.out.size)).mono HBW.out.size));clear hb;go_wp2_with fail;go_ret;exact ⟨rfl,HBZ.out⟩
 rw [hr] at he;subst he;have HRR:=Ha hr;clear hr;by_cases h9:n9=1
 case neg=>
  have h9':((n9:Int) != 1)=true:=by simp;omega
  have HX:=Ha (fV w3 (RS.out.below HB3.out) (HT.out.below HB3.out));go_wp2_with fail;refine HX.out.mono ?_;rintro e wz ⟨rfl,hb⟩;have HBZ:=Ha (HBW.out.trans ((HB3.out.trans (hb.mono HB3.out.size)).mono HBW.out.size));clear hb;go_wp2_with fail;go_ret;exact ⟨rfl,HBZ.out⟩
 subst h9;obtain ⟨k,oo,b9,o9,b4,o4,kk,ks,knt,kni,P4,p4,q4,P5,p5,q5,P6,p6,q6,P7,p7,q7,P8,p8,q8,P9,p9,q9,hkids,hops,ho12,hk2,hkr,rfl,rfl,rfl,hkk,hp7,hlp7,hg9,hg4,hkv,hc4,hk0c,hk1c,hk2c,hk3c,hk4c,hk5c,hk6c,hk7c,hk8c,hk9c⟩:=BR HN.out HRN.out;obtain ⟨c4_3,k0_3,k1_3,k2_3,k3_3,k4_3,k5_3,k6_3,k7_3,k8_3,k9_3⟩:=ks11 HB3.out hc4 hk0c hk1c hk2c hk3c hk4c hk5c hk6c hk7c hk8c hk9c;obtain ⟨HKD,HOP,HO12,HK2,HKR,HKK,HP7,HKV⟩:=hs8 hkids hops ho12 hk2 hkr hkk hp7 hkv;clear hkids hops ho12 hk2 hkr hkk hp7 hkv hc4 hk0c hk1c hk2c hk3c hk4c hk5c hk6c hk7c hk8c hk9c;go_wp2_with fail;obtain ⟨u0,u1⟩:=dQ w3 (.cells #[.string ⟨#[]⟩,.int .i64 12,.slice (some ⟨w.heap.size+1,0,none⟩) 1 1,.string ⟨tl.toArray⟩] 33) (.cells #[.int .i64 4,.string ⟨#[]⟩,.bool false,.bool false,.slice none 0 0,.slice none 0 0,.slice none 0 0,.slice (some ⟨w3.heap.size,0,none⟩) 1 1,.slice none 0 0,.slice none 0 0] 28);have hb5:Below w3.heap.size w3 ((w3.alloc (.cells #[.string ⟨#[]⟩,.int .i64 12,.slice (some ⟨w.heap.size+1,0,none⟩) 1 1,.string ⟨tl.toArray⟩] 33)).alloc (.cells #[.int .i64 4,.string ⟨#[]⟩,.bool false,.bool false,.slice none 0 0,.slice none 0 0,.slice none 0 0,.slice (some ⟨w3.heap.size,0,none⟩) 1 1,.slice none 0 0,.slice none 0 0] 28)):=((Below.refl _ _).alloc (Nat.le_refl _) _).alloc (by simp) _;have hs5:((w3.alloc (.cells #[.string ⟨#[]⟩,.int .i64 12,.slice (some ⟨w.heap.size+1,0,none⟩) 1 1,.string ⟨tl.toArray⟩] 33)).alloc (.cells #[.int .i64 4,.string ⟨#[]⟩,.bool false,.bool false,.slice none 0 0,.slice none 0 0,.slice none 0 0,.slice (some ⟨w3.heap.size,0,none⟩) 1 1,.slice none 0 0,.slice none 0 0] 28)).heap.size=w3.heap.size+1+1:=by simp
 generalize hW5:(w3.alloc (.cells #[.string ⟨#[]⟩,.int .i64 12,.slice (some ⟨w.heap.size+1,0,none⟩) 1 1,.string ⟨tl.toArray⟩] 33)).alloc (.cells #[.int .i64 4,.string ⟨#[]⟩,.bool false,.bool false,.slice none 0 0,.slice none 0 0,.slice none 0 0,.slice (some ⟨w3.heap.size,0,none⟩) 1 1,.slice none 0 0,.slice none 0 0] 28)=w5 at *;have HB5:=Ha (HB3.out.trans (hb5.mono HB3.out.size));have y0_5:w5.cell? ⟨w3.heap.size+1,0,none⟩=some (.int .i64 4):=aE u1 0 _ rfl;have y1_5:w5.cell? ⟨w3.heap.size+1,1,none⟩=some (.string ⟨#[]⟩):=aE u1 1 _ rfl;have y2_5:w5.cell? ⟨w3.heap.size+1,2,none⟩=some (.bool false):=aE u1 2 _ rfl;have y3_5:w5.cell? ⟨w3.heap.size+1,3,none⟩=some (.bool false):=aE u1 3 _ rfl;have y4_5:w5.cell? ⟨w3.heap.size+1,4,none⟩=some (.slice none 0 0):=aE u1 4 _ rfl;have y5_5:w5.cell? ⟨w3.heap.size+1,5,none⟩=some (.slice none 0 0):=aE u1 5 _ rfl;have y6_5:w5.cell? ⟨w3.heap.size+1,6,none⟩=some (.slice none 0 0):=aE u1 6 _ rfl;have y7_5:w5.cell? ⟨w3.heap.size+1,7,none⟩=some (.slice (some ⟨w3.heap.size,0,none⟩) 1 1):=aE u1 7 _ rfl;have y8_5:w5.cell? ⟨w3.heap.size+1,8,none⟩=some (.slice none 0 0):=aE u1 8 _ rfl;have y9_5:w5.cell? ⟨w3.heap.size+1,9,none⟩=some (.slice none 0 0):=aE u1 9 _ rfl;obtain ⟨x0_5,x1_5,x2_5,x3_5,x4_5,x5_5,x6_5,x7_5,x8_5,x9_5,k0_5,k1_5⟩:=ks12 hb5 x0_3 x1_3 x2_3 x3_3 x4_3 x5_3 x6_3 x7_3 x8_3 x9_3 k0_3 k1_3;obtain ⟨k2_5,k3_5,k4_5,k5_5,k6_5,k7_5,k8_5,k9_5,c4_5⟩:=ks9 hb5 k2_3 k3_3 k4_3 k5_3 k6_3 k7_3 k8_3 k9_3 c4_3;have hGo:∀ j,Old W j→Old w5 j:=fun j h=>gK h HB5.out.size;have hko:∀ p:Addr,Old W p.block→w5.cell? p=W.cell? p:=bC HG1.out HB5.out;have hrd:RdN f (Old w5) w5 [.string ⟨#[]⟩,.int .i64 12,.slice (some ⟨w.heap.size+1,0,none⟩) 1 1,.string ⟨tl.toArray⟩] (hwR ⟨tl.toArray⟩):=RdV.keep hGo hko (fun _ _ h=>h.keep hGo hko) HR.out;have HXN:=Ha (show NdV (f+1) (Old w5) w5 [.int .i64 4,.string ⟨#[]⟩,.bool false,.bool false,.slice none 0 0,.slice none 0 0,.slice none 0 0,.slice (some ⟨w3.heap.size,0,none⟩) 1 1,.slice none 0 0,.slice none 0 0] (hwX ⟨tl.toArray⟩:NdF (Nd f)) from ⟨_,_,_,_,_,_,rfl,⟨(show 0≤1073741824 by decide),(show 0+1≤1073741824 by decide)⟩,aV.nil0,aV.nil0,aV.nil0,aV.one (show Old w5 w3.heap.size by show w3.heap.size<w5.heap.size;omega) rfl hrd (bI u0 _ (Below.refl _ _)),aV.nil0,aV.nil0⟩);have HKN:=Ha (HKV.out.keep (fun j h=>hGo j (HG.out j h)) fun p hp=>hko p (HG.out _ hp));clear u0 u1 hs5 hGo hko hrd k0_3 k1_3 k2_3 k3_3 k4_3 k5_3 k6_3 k7_3 k8_3 k9_3 c4_3 hb5;have HK:=Ha (show ∀ X,Below w5.heap.size w5 X→X.cell? ⟨w3.heap.size+1,0,none⟩=some (.int .i64 4)∧X.cell? ⟨w3.heap.size+1,1,none⟩=some (.string ⟨#[]⟩)∧X.cell? ⟨w3.heap.size+1,2,none⟩=some (.bool false)∧X.cell? ⟨w3.heap.size+1,3,none⟩=some (.bool false)∧X.cell? ⟨w3.heap.size+1,4,none⟩=some (.slice none 0 0)∧X.cell? ⟨w3.heap.size+1,5,none⟩=some (.slice none 0 0)∧X.cell? ⟨w3.heap.size+1,6,none⟩=some (.slice none 0 0)∧X.cell? ⟨w3.heap.size+1,7,none⟩=some (.slice (some ⟨w3.heap.size,0,none⟩) 1 1)∧X.cell? ⟨w3.heap.size+1,8,none⟩=some (.slice none 0 0)∧X.cell? ⟨w3.heap.size+1,9,none⟩=some (.slice none 0 0)∧X.cell? ⟨w.heap.size,9,none⟩=some (.slice (some ⟨b9,o9,none⟩) 1 c9)∧X.cell? ⟨w.heap.size,4,none⟩=some (.slice (some ⟨b4,o4,none⟩) 1 c4)∧X.cell? ⟨b4,o4,none⟩=some (.int .i64 oo)∧X.cell? ⟨b9,o9,none⟩=some (.int .i64 kk)∧X.cell? ⟨b9,o9+1,none⟩=some (.string ks)∧X.cell? ⟨b9,o9+2,none⟩=some (.bool knt)∧X.cell? ⟨b9,o9+3,none⟩=some (.bool kni)∧X.cell? ⟨b9,o9+4,none⟩=some (.slice P4 p4 q4)∧X.cell? ⟨b9,o9+5,none⟩=some (.slice P5 p5 q5)∧X.cell? ⟨b9,o9+6,none⟩=some (.slice P6 p6 q6)∧X.cell? ⟨b9,o9+7,none⟩=some (.slice P7 p7 q7)∧X.cell? ⟨b9,o9+8,none⟩=some (.slice P8 p8 q8)∧X.cell? ⟨b9,o9+9,none⟩=some (.slice P9 p9 q9) from fun X hX=>⟨aA y0_5 hX,aA y1_5 hX,aA y2_5 hX,aA y3_5 hX,aA y4_5 hX,aA y5_5 hX,aA y6_5 hX,aA y7_5 hX,aA y8_5 hX,aA y9_5 hX,aA x9_5 hX,aA x4_5 hX,aA c4_5 hX,aA k0_5 hX,aA k1_5 hX,aA k2_5 hX,aA k3_5 hX,aA k4_5 hX,aA k5_5 hX,aA k6_5 hX,aA k7_5 hX,aA k8_5 hX,aA k9_5 hX⟩);clear x0_3 x1_3 x2_3 x3_3 x4_3 x5_3 x6_3 x7_3 x8_3 x9_3 r0_3 r1_3 r2_3 r3_3
 go_cut [8] from 45 to 56 (fun v8 wx=>∃ bg ba bo:Nat,v8=.pointer (some ⟨bg,0,none⟩)∧Hf w5 (.cells #[.int .i64 4,.string ⟨#[]⟩,.bool false,.bool false,.slice none 0 0,.slice none 0 0,.slice none 0 0,.slice (some ⟨w3.heap.size,0,none⟩) 1 1,.slice none 0 0,.slice none 0 0,.int .i64 kk,.string ks,.bool knt,.bool kni,.slice P4 p4 q4,.slice P5 p5 q5,.slice P6 p6 q6,.slice P7 p7 q7,.slice P8 p8 q8,.slice P9 p9 q9] 28) (.cells #[.int .i64 1,.int .i64 oo] 3) ba bo bg wx)
 case first=>
  have hj:=Hn.start w5 (.cells #[.int .i64 4,.string ⟨#[]⟩,.bool false,.bool false,.slice none 0 0,.slice none 0 0,.slice none 0 0,.slice (some ⟨w3.heap.size,0,none⟩) 1 1,.slice none 0 0,.slice none 0 0,.int .i64 kk,.string ks,.bool knt,.bool kni,.slice P4 p4 q4,.slice P5 p5 q5,.slice P6 p6 q6,.slice P7 p7 q7,.slice P8 p8 q8,.slice P9 p9 q9] 28) (.cells #[.int .i64 1,.int .i64 oo] 3) (.cells #[.int .i64 0,.string ⟨#[]⟩,.bool false,.bool false,.slice none 0 0,.slice none 0 0,.slice none 0 0,.slice none 0 0,.slice none 0 0,.slice none 0 0] 28);refine wp_region_held_drew (S:=fun X=>X.cell? ⟨w3.heap.size+1,0,none⟩=some (.int .i64 4)∧X.cell? ⟨w3.heap.size+1,1,none⟩=some (.string ⟨#[]⟩)∧X.cell? ⟨w3.heap.size+1,2,none⟩=some (.bool false)∧X.cell? ⟨w3.heap.size+1,3,none⟩=some (.bool false)∧X.cell? ⟨w3.heap.size+1,4,none⟩=some (.slice none 0 0)∧X.cell? ⟨w3.heap.size+1,5,none⟩=some (.slice none 0 0)∧X.cell? ⟨w3.heap.size+1,6,none⟩=some (.slice none 0 0)∧X.cell? ⟨w3.heap.size+1,7,none⟩=some (.slice (some ⟨w3.heap.size,0,none⟩) 1 1)∧X.cell? ⟨w3.heap.size+1,8,none⟩=some (.slice none 0 0)∧X.cell? ⟨w3.heap.size+1,9,none⟩=some (.slice none 0 0)∧X.cell? ⟨w.heap.size,9,none⟩=some (.slice (some ⟨b9,o9,none⟩) 1 c9)∧X.cell? ⟨w.heap.size,4,none⟩=some (.slice (some ⟨b4,o4,none⟩) 1 c4)∧X.cell? ⟨b4,o4,none⟩=some (.int .i64 oo)∧X.cell? ⟨b9,o9,none⟩=some (.int .i64 kk)∧X.cell? ⟨b9,o9+1,none⟩=some (.string ks)∧X.cell? ⟨b9,o9+2,none⟩=some (.bool knt)∧X.cell? ⟨b9,o9+3,none⟩=some (.bool kni)∧X.cell? ⟨b9,o9+4,none⟩=some (.slice P4 p4 q4)∧X.cell? ⟨b9,o9+5,none⟩=some (.slice P5 p5 q5)∧X.cell? ⟨b9,o9+6,none⟩=some (.slice P6 p6 q6)∧X.cell? ⟨b9,o9+7,none⟩=some (.slice P7 p7 q7)∧X.cell? ⟨b9,o9+8,none⟩=some (.slice P8 p8 q8)∧X.cell? ⟨b9,o9+9,none⟩=some (.slice P9 p9 q9)) (by kernel_rfl) ?hs0 (fun hHeld=>?hr0)
  case hs0=>exact HK.out _ hj.below
  case hr0=>
   refine wpAnyH_take (i:=0) (oi:=_) (v:=?v0) rfl (by kernel_rfl) (by kernel_rfl) (by kernel_rfl) (fun _ _ _ h=>h) (Or.inl ⟨by rfl, ?hy0⟩) (by assumption) ?hr0
   case hy0=>
    intro w hSw;try dsimp only at hSw
    simp only [gA,gC]
    go_simp
    try with_reducible rfl
   simp only [gA,gC,Act.put,gD,gE,gF];refine wpAnyH_take (i:=1) (oi:=_) (v:=?v1) rfl (by kernel_rfl) (by kernel_rfl) (by kernel_rfl) (fun _ _ _ h=>h) (Or.inl ⟨by rfl, ?hy1⟩) (by assumption) ?hr1
   case hy1=>
    intro w hSw;try dsimp only at hSw
    simp only [gA,gB,gC]
    go_simp
    try with_reducible rfl
   simp only [gA,gB,gC,Act.put,gD,gE,gF];refine wpAnyH_take (i:=2) (oi:=_) (v:=?v2) rfl (by kernel_rfl) (by kernel_rfl) (by kernel_rfl) (fun _ _ _ h=>h) (Or.inl ⟨by rfl, ?hy2⟩) (by assumption) ?hr2
   case hy2=>
    intro w hSw;try dsimp only at hSw
    simp only [gA,gB,gC]
    go_simp
    try with_reducible rfl
   simp only [gA,gB,gC,Act.put,gD,gE,gF];refine wpAnyH_take (i:=3) (oi:=_) (v:=?v3) rfl (by kernel_rfl) (by kernel_rfl) (by kernel_rfl) (fun _ _ _ h=>h) (Or.inl ⟨by rfl, ?hy3⟩) (by assumption) ?hr3
   case hy3=>
    intro w hSw;try dsimp only at hSw
    simp only [gA,gB,gC]
    go_simp
    try with_reducible rfl
   simp only [gA,gB,gC,Act.put,gD,gE,gF];refine wpAnyH_take (i:=4) (oi:=_) (v:=?v4) rfl (by kernel_rfl) (by kernel_rfl) (by kernel_rfl) (fun _ _ _ h=>h) (Or.inl ⟨by rfl, ?hy4⟩) (by assumption) ?hr4
   case hy4=>
    intro w hSw;try dsimp only at hSw
    simp only [gA,gB,gC]
    go_simp
    try with_reducible rfl
   simp only [gA,gB,gC,Act.put,gD,gE,gF];refine wpAnyH_take (i:=6) (oi:=_) (v:=?v6) rfl (by kernel_rfl) (by kernel_rfl) (by kernel_rfl) (fun _ _ _ h=>h) (Or.inl ⟨by rfl, ?hy6⟩) (by assumption) ?hr6
   case hy6=>
    intro w hSw;try dsimp only at hSw
    simp only [gA,gB,gC]
    go_simp
    try with_reducible rfl
   simp only [gA,gB,gC,Act.put,gD,gE,gF];refine wpAnyH_take (i:=7) (oi:=_) (v:=?v7) rfl (by kernel_rfl) (by kernel_rfl) (by kernel_rfl) (fun _ _ _ h=>h) (Or.inl ⟨by rfl, ?hy7⟩) (by assumption) ?hr7
   case hy7=>
    intro w hSw;try dsimp only at hSw
    simp only [gA,gB,gC]
    go_simp
    try with_reducible rfl
   simp only [gA,gB,gC,Act.put,gD,gE,gF];refine wpAnyH_take (i:=8) (oi:=_) (v:=?v8) rfl (by kernel_rfl) (by kernel_rfl) (by kernel_rfl) (fun _ _ _ h=>h) (Or.inl ⟨by rfl, ?hy8⟩) (by assumption) ?hr8
   case hy8=>
    intro w hSw;try dsimp only at hSw
    simp only [gA,gB,gC]
    go_simp
    try with_reducible rfl
   simp only [gA,gB,gC,Act.put,gD,gE,gF];refine wpAnyH_take (i:=9) (oi:=_) (v:=?v9) rfl (by kernel_rfl) (by kernel_rfl) (by kernel_rfl) (fun _ _ _ h=>h) (Or.inl ⟨by rfl, ?hy9⟩) (by assumption) ?hr9
   case hy9=>
    intro w hSw;try dsimp only at hSw
    simp only [gA,gB,gC]
    go_simp
    try with_reducible rfl
   simp only [gA,gB,gC,Act.put,gD,gE,gF];refine nW _ _ _ _ _ ?_;intro TT A0 hTT hA0;have HTT:=Ha hTT;have HA0:=Ha hA0;clear hTT hA0 hHeld;have L111b:∀ (ba:Nat) (bo:Nat) (bg:Nat) (X:World),Hn w5 (.cells #[.int .i64 4,.string ⟨#[]⟩,.bool false,.bool false,.slice none 0 0,.slice none 0 0,.slice none 0 0,.slice (some ⟨w3.heap.size,0,none⟩) 1 1,.slice none 0 0,.slice none 0 0,.int .i64 kk,.string ks,.bool knt,.bool kni,.slice P4 p4 q4,.slice P5 p5 q5,.slice P6 p6 q6,.slice P7 p7 q7,.slice P8 p8 q8,.slice P9 p9 q9] 28) (.cells #[.int .i64 1,.int .i64 oo] 3) (.cells #[.int .i64 0,.string ⟨#[]⟩,.bool false,.bool false,.slice none 0 0,.slice none 0 0,.slice none 0 0,.slice none 0 0,.slice none 0 0,.slice none 0 0] 28) (some ba) (some bo) (some bg) X→TT 1 #[true,true,true,true,true,true,true,true,true,true,true,true,true,false] (((((A0).setIfInBounds 50 (.slice (some ⟨ba,0,none⟩) 2 2)).setIfInBounds 55 (.slice (some ⟨bo,0,none⟩) 2 2)).setIfInBounds 8 (.pointer (some ⟨bg,0,none⟩))).setIfInBounds 56 (.agg #[.int .i64 1,.string ⟨#[]⟩,.bool false,.bool false,.slice (some ⟨bo,0,none⟩) 2 2,.slice none 0 0,.slice none 0 0,.slice none 0 0,.slice none 0 0,.slice (some ⟨ba,0,none⟩) 2 2])) X:=by
    intro ba bo bg X hj;rw [HTT.out,HA0.out];simp only [gD,gE,gF];have hz:=hj.zeros rfl;obtain ⟨⟨z0,z1,z2,z3,z4,z5,z6,z7,z8,z9⟩,zf⟩:=hz;have f0:=zf 0;have f1:=zf 1;have f2:=zf 2;have f3:=zf 3;have f4:=zf 4;have f5:=zf 5;have f6:=zf 6;have f7:=zf 7;have f8:=zf 8;have f9:=zf 9;clear zf;refine wpAnyH_ready (rs:=[13]) (by kernel_rfl) (by simp) ?_;refine AllReadyH.cons (o:=_) rfl (fun K hK=>?_) AllReadyH.nil;simp only [gA,gB,gC]
    go_simp
    refine hK.out _ _ ?_ (fun _=>?_)
    ·exact HK.out _ (((((((((((hj.below.setCell (hj.gd _ rfl).1 _).setCell (hj.gd _ rfl).1 _).setCell (hj.gd _ rfl).1 _).setCell (hj.gd _ rfl).1 _).setCell (hj.gd _ rfl).1 _).setCell (hj.gd _ rfl).1 _).setCell (hj.gd _ rfl).1 _).setCell (hj.gd _ rfl).1 _).setCell (hj.gd _ rfl).1 _).setCell (hj.gd _ rfl).1 _))
    refine wpAnyH_done (by kernel_rfl) ?_ _;go_wp2_with fail
    go_meet
    exact ⟨_,ba,bo,rfl,Hn.fin ⟨rfl,rfl⟩ rfl rfl hj⟩
   replace L111b:=Ha L111b;have L110b:∀ (ba:Nat) (bo:Nat) (X:World),Hn w5 (.cells #[.int .i64 4,.string ⟨#[]⟩,.bool false,.bool false,.slice none 0 0,.slice none 0 0,.slice none 0 0,.slice (some ⟨w3.heap.size,0,none⟩) 1 1,.slice none 0 0,.slice none 0 0,.int .i64 kk,.string ks,.bool knt,.bool kni,.slice P4 p4 q4,.slice P5 p5 q5,.slice P6 p6 q6,.slice P7 p7 q7,.slice P8 p8 q8,.slice P9 p9 q9] 28) (.cells #[.int .i64 1,.int .i64 oo] 3) (.cells #[.int .i64 0,.string ⟨#[]⟩,.bool false,.bool false,.slice none 0 0,.slice none 0 0,.slice none 0 0,.slice none 0 0,.slice none 0 0,.slice none 0 0] 28) (some ba) (some bo) none X→TT 2 #[true,true,true,true,true,true,true,true,true,true,true,true,false,false] ((((A0).setIfInBounds 50 (.slice (some ⟨ba,0,none⟩) 2 2)).setIfInBounds 55 (.slice (some ⟨bo,0,none⟩) 2 2)).setIfInBounds 56 (.agg #[.int .i64 1,.string ⟨#[]⟩,.bool false,.bool false,.slice (some ⟨bo,0,none⟩) 2 2,.slice none 0 0,.slice none 0 0,.slice none 0 0,.slice none 0 0,.slice (some ⟨ba,0,none⟩) 2 2])) X:=by
    intro ba bo X hj;rw [HTT.out,HA0.out];simp only [gD,gE,gF];refine wpAnyH_ready (rs:=[12]) (by kernel_rfl) (by simp) ?_;refine AllReadyH.cons (o:=_) rfl (fun K hK=>?_) ?_
    ·simp only [gA,gB,gC]
     go_simp
     refine hK.out _ _ ?_ (fun _=>?_)
     ·exact HK.out _ (hj.g0 _ rfl).below
     have h:=L111b.out ba bo _ _ (hj.g0 _ rfl);rw [HTT.out,HA0.out] at h;simp only [gD,gE,gF] at h;exact h
    exact AllReadyH.nil
   replace L110b:=Ha L110b;have L111:∀ (ba:Nat) (bo:Nat) (bg:Nat) (X:World),Hn w5 (.cells #[.int .i64 4,.string ⟨#[]⟩,.bool false,.bool false,.slice none 0 0,.slice none 0 0,.slice none 0 0,.slice (some ⟨w3.heap.size,0,none⟩) 1 1,.slice none 0 0,.slice none 0 0,.int .i64 kk,.string ks,.bool knt,.bool kni,.slice P4 p4 q4,.slice P5 p5 q5,.slice P6 p6 q6,.slice P7 p7 q7,.slice P8 p8 q8,.slice P9 p9 q9] 28) (.cells #[.int .i64 1,.int .i64 oo] 3) (.cells #[.int .i64 0,.string ⟨#[]⟩,.bool false,.bool false,.slice none 0 0,.slice none 0 0,.slice none 0 0,.slice none 0 0,.slice none 0 0,.slice none 0 0] 28) (some ba) (some bo) (some bg) X→TT 2 #[true,true,true,true,true,true,true,true,true,true,true,false,true,false] ((((A0).setIfInBounds 50 (.slice (some ⟨ba,0,none⟩) 2 2)).setIfInBounds 55 (.slice (some ⟨bo,0,none⟩) 2 2)).setIfInBounds 8 (.pointer (some ⟨bg,0,none⟩))) X:=by
    intro ba bo bg X hj;rw [HTT.out,HA0.out];simp only [gD,gE,gF];refine wpAnyH_take (i:=11) (oi:=_) (v:=?v111) rfl (by kernel_rfl) (by kernel_rfl) (by kernel_rfl) (fun _ _ _ h=>h) (Or.inl ⟨by rfl, ?hy111⟩) (HK.out _ hj.below) ?hr111
    case hy111=>
     intro w hSw;try dsimp only at hSw
     simp only [gA,gB,gC]
     go_simp
     try with_reducible rfl
    have h:=L111b.out ba bo bg _ (hj);rw [HTT.out,HA0.out] at h;simp only [gD,gE,gF] at h;exact h
   replace L111:=Ha L111;have L110:∀ (ba:Nat) (bo:Nat) (X:World),Hn w5 (.cells #[.int .i64 4,.string ⟨#[]⟩,.bool false,.bool false,.slice none 0 0,.slice none 0 0,.slice none 0 0,.slice (some ⟨w3.heap.size,0,none⟩) 1 1,.slice none 0 0,.slice none 0 0,.int .i64 kk,.string ks,.bool knt,.bool kni,.slice P4 p4 q4,.slice P5 p5 q5,.slice P6 p6 q6,.slice P7 p7 q7,.slice P8 p8 q8,.slice P9 p9 q9] 28) (.cells #[.int .i64 1,.int .i64 oo] 3) (.cells #[.int .i64 0,.string ⟨#[]⟩,.bool false,.bool false,.slice none 0 0,.slice none 0 0,.slice none 0 0,.slice none 0 0,.slice none 0 0,.slice none 0 0] 28) (some ba) (some bo) none X→TT 3 #[true,true,true,true,true,true,true,true,true,true,true,false,false,false] (((A0).setIfInBounds 50 (.slice (some ⟨ba,0,none⟩) 2 2)).setIfInBounds 55 (.slice (some ⟨bo,0,none⟩) 2 2)) X:=by
    intro ba bo X hj;rw [HTT.out,HA0.out];simp only [gD,gE,gF];refine wpAnyH_take (i:=11) (oi:=_) (v:=?v110) rfl (by kernel_rfl) (by kernel_rfl) (by kernel_rfl) (fun _ _ _ h=>h) (Or.inl ⟨by rfl, ?hy110⟩) (HK.out _ hj.below) ?hr110
    case hy110=>
     intro w hSw;try dsimp only at hSw
     simp only [gA,gB,gC]
     go_simp
     try with_reducible rfl
    have h:=L110b.out ba bo _ (hj);rw [HTT.out,HA0.out] at h;simp only [gD,gE,gF] at h;exact h
   replace L110:=Ha L110;have L101:∀ (ba:Nat) (bg:Nat) (X:World),Hn w5 (.cells #[.int .i64 4,.string ⟨#[]⟩,.bool false,.bool false,.slice none 0 0,.slice none 0 0,.slice none 0 0,.slice (some ⟨w3.heap.size,0,none⟩) 1 1,.slice none 0 0,.slice none 0 0,.int .i64 kk,.string ks,.bool knt,.bool kni,.slice P4 p4 q4,.slice P5 p5 q5,.slice P6 p6 q6,.slice P7 p7 q7,.slice P8 p8 q8,.slice P9 p9 q9] 28) (.cells #[.int .i64 1,.int .i64 oo] 3) (.cells #[.int .i64 0,.string ⟨#[]⟩,.bool false,.bool false,.slice none 0 0,.slice none 0 0,.slice none 0 0,.slice none 0 0,.slice none 0 0,.slice none 0 0] 28) (some ba) none (some bg) X→TT 3 #[true,true,true,true,true,true,true,true,true,true,false,false,true,false] (((A0).setIfInBounds 50 (.slice (some ⟨ba,0,none⟩) 2 2)).setIfInBounds 8 (.pointer (some ⟨bg,0,none⟩))) X:=by
    intro ba bg X hj;rw [HTT.out,HA0.out];simp only [gD,gE,gF];refine wpAnyH_ready (rs:=[10]) (by kernel_rfl) (by simp) ?_;refine AllReadyH.cons (o:=_) rfl (fun K hK=>?_) ?_
    ·simp only [gA,gB,gC]
     go_simp
     refine hK.out _ _ ?_ (fun _=>?_)
     ·exact HK.out _ (hj.b0 _ rfl).below
     have h:=L111.out ba _ bg _ (hj.b0 _ rfl);rw [HTT.out,HA0.out] at h;simp only [gD,gE,gF] at h;exact h
    exact AllReadyH.nil
   replace L101:=Ha L101;have L011:∀ (bo:Nat) (bg:Nat) (X:World),Hn w5 (.cells #[.int .i64 4,.string ⟨#[]⟩,.bool false,.bool false,.slice none 0 0,.slice none 0 0,.slice none 0 0,.slice (some ⟨w3.heap.size,0,none⟩) 1 1,.slice none 0 0,.slice none 0 0,.int .i64 kk,.string ks,.bool knt,.bool kni,.slice P4 p4 q4,.slice P5 p5 q5,.slice P6 p6 q6,.slice P7 p7 q7,.slice P8 p8 q8,.slice P9 p9 q9] 28) (.cells #[.int .i64 1,.int .i64 oo] 3) (.cells #[.int .i64 0,.string ⟨#[]⟩,.bool false,.bool false,.slice none 0 0,.slice none 0 0,.slice none 0 0,.slice none 0 0,.slice none 0 0,.slice none 0 0] 28) none (some bo) (some bg) X→TT 3 #[true,true,true,true,true,false,true,true,true,true,true,false,true,false] (((A0).setIfInBounds 55 (.slice (some ⟨bo,0,none⟩) 2 2)).setIfInBounds 8 (.pointer (some ⟨bg,0,none⟩))) X:=by
    intro bo bg X hj;rw [HTT.out,HA0.out];simp only [gD,gE,gF];refine wpAnyH_ready (rs:=[5]) (by kernel_rfl) (by simp) ?_;refine AllReadyH.cons (o:=_) rfl (fun K hK=>?_) ?_
    ·simp only [gA,gB,gC]
     go_simp
     refine hK.out _ _ ?_ (fun _=>?_)
     ·exact HK.out _ (hj.a0 _ rfl).below
     have h:=L111.out _ bo bg _ (hj.a0 _ rfl);rw [HTT.out,HA0.out] at h;simp only [gD,gE,gF] at h;exact h
    exact AllReadyH.nil
   replace L011:=Ha L011;have L100:∀ (ba:Nat) (X:World),Hn w5 (.cells #[.int .i64 4,.string ⟨#[]⟩,.bool false,.bool false,.slice none 0 0,.slice none 0 0,.slice none 0 0,.slice (some ⟨w3.heap.size,0,none⟩) 1 1,.slice none 0 0,.slice none 0 0,.int .i64 kk,.string ks,.bool knt,.bool kni,.slice P4 p4 q4,.slice P5 p5 q5,.slice P6 p6 q6,.slice P7 p7 q7,.slice P8 p8 q8,.slice P9 p9 q9] 28) (.cells #[.int .i64 1,.int .i64 oo] 3) (.cells #[.int .i64 0,.string ⟨#[]⟩,.bool false,.bool false,.slice none 0 0,.slice none 0 0,.slice none 0 0,.slice none 0 0,.slice none 0 0,.slice none 0 0] 28) (some ba) none none X→TT 4 #[true,true,true,true,true,true,true,true,true,true,false,false,false,false] ((A0).setIfInBounds 50 (.slice (some ⟨ba,0,none⟩) 2 2)) X:=by
    intro ba X hj;rw [HTT.out,HA0.out];simp only [gD,gE,gF];refine wpAnyH_ready (rs:=[10,12]) (by kernel_rfl) (by simp) ?_;refine AllReadyH.cons (o:=_) rfl (fun K hK=>?_) ?_
    ·simp only [gA,gB,gC]
     go_simp
     refine hK.out _ _ ?_ (fun _=>?_)
     ·exact HK.out _ (hj.b0 _ rfl).below
     have h:=L110.out ba _ _ (hj.b0 _ rfl);rw [HTT.out,HA0.out] at h;simp only [gD,gE,gF] at h;exact h
    refine AllReadyH.cons (o:=_) rfl (fun K hK=>?_) ?_
    ·simp only [gA,gB,gC]
     go_simp
     refine hK.out _ _ ?_ (fun _=>?_)
     ·exact HK.out _ (hj.g0 _ rfl).below
     have h:=L101.out ba _ _ (hj.g0 _ rfl);rw [HTT.out,HA0.out] at h;simp only [gD,gE,gF] at h;exact h
    exact AllReadyH.nil
   replace L100:=Ha L100;have L010:∀ (bo:Nat) (X:World),Hn w5 (.cells #[.int .i64 4,.string ⟨#[]⟩,.bool false,.bool false,.slice none 0 0,.slice none 0 0,.slice none 0 0,.slice (some ⟨w3.heap.size,0,none⟩) 1 1,.slice none 0 0,.slice none 0 0,.int .i64 kk,.string ks,.bool knt,.bool kni,.slice P4 p4 q4,.slice P5 p5 q5,.slice P6 p6 q6,.slice P7 p7 q7,.slice P8 p8 q8,.slice P9 p9 q9] 28) (.cells #[.int .i64 1,.int .i64 oo] 3) (.cells #[.int .i64 0,.string ⟨#[]⟩,.bool false,.bool false,.slice none 0 0,.slice none 0 0,.slice none 0 0,.slice none 0 0,.slice none 0 0,.slice none 0 0] 28) none (some bo) none X→TT 4 #[true,true,true,true,true,false,true,true,true,true,true,false,false,false] ((A0).setIfInBounds 55 (.slice (some ⟨bo,0,none⟩) 2 2)) X:=by
    intro bo X hj;rw [HTT.out,HA0.out];simp only [gD,gE,gF];refine wpAnyH_ready (rs:=[5,12]) (by kernel_rfl) (by simp) ?_;refine AllReadyH.cons (o:=_) rfl (fun K hK=>?_) ?_
    ·simp only [gA,gB,gC]
     go_simp
     refine hK.out _ _ ?_ (fun _=>?_)
     ·exact HK.out _ (hj.a0 _ rfl).below
     have h:=L110.out _ bo _ (hj.a0 _ rfl);rw [HTT.out,HA0.out] at h;simp only [gD,gE,gF] at h;exact h
    refine AllReadyH.cons (o:=_) rfl (fun K hK=>?_) ?_
    ·simp only [gA,gB,gC]
     go_simp
     refine hK.out _ _ ?_ (fun _=>?_)
     ·exact HK.out _ (hj.g0 _ rfl).below
     have h:=L011.out bo _ _ (hj.g0 _ rfl);rw [HTT.out,HA0.out] at h;simp only [gD,gE,gF] at h;exact h
    exact AllReadyH.nil
   replace L010:=Ha L010;have L001:∀ (bg:Nat) (X:World),Hn w5 (.cells #[.int .i64 4,.string ⟨#[]⟩,.bool false,.bool false,.slice none 0 0,.slice none 0 0,.slice none 0 0,.slice (some ⟨w3.heap.size,0,none⟩) 1 1,.slice none 0 0,.slice none 0 0,.int .i64 kk,.string ks,.bool knt,.bool kni,.slice P4 p4 q4,.slice P5 p5 q5,.slice P6 p6 q6,.slice P7 p7 q7,.slice P8 p8 q8,.slice P9 p9 q9] 28) (.cells #[.int .i64 1,.int .i64 oo] 3) (.cells #[.int .i64 0,.string ⟨#[]⟩,.bool false,.bool false,.slice none 0 0,.slice none 0 0,.slice none 0 0,.slice none 0 0,.slice none 0 0,.slice none 0 0] 28) none none (some bg) X→TT 4 #[true,true,true,true,true,false,true,true,true,true,false,false,true,false] ((A0).setIfInBounds 8 (.pointer (some ⟨bg,0,none⟩))) X:=by
    intro bg X hj;rw [HTT.out,HA0.out];simp only [gD,gE,gF];refine wpAnyH_ready (rs:=[5,10]) (by kernel_rfl) (by simp) ?_;refine AllReadyH.cons (o:=_) rfl (fun K hK=>?_) ?_
    ·simp only [gA,gB,gC]
     go_simp
     refine hK.out _ _ ?_ (fun _=>?_)
     ·exact HK.out _ (hj.a0 _ rfl).below
     have h:=L101.out _ bg _ (hj.a0 _ rfl);rw [HTT.out,HA0.out] at h;simp only [gD,gE,gF] at h;exact h
    refine AllReadyH.cons (o:=_) rfl (fun K hK=>?_) ?_
    ·simp only [gA,gB,gC]
     go_simp
     refine hK.out _ _ ?_ (fun _=>?_)
     ·exact HK.out _ (hj.b0 _ rfl).below
     have h:=L011.out _ bg _ (hj.b0 _ rfl);rw [HTT.out,HA0.out] at h;simp only [gD,gE,gF] at h;exact h
    exact AllReadyH.nil
   replace L001:=Ha L001;have L000:∀  (X:World),Hn w5 (.cells #[.int .i64 4,.string ⟨#[]⟩,.bool false,.bool false,.slice none 0 0,.slice none 0 0,.slice none 0 0,.slice (some ⟨w3.heap.size,0,none⟩) 1 1,.slice none 0 0,.slice none 0 0,.int .i64 kk,.string ks,.bool knt,.bool kni,.slice P4 p4 q4,.slice P5 p5 q5,.slice P6 p6 q6,.slice P7 p7 q7,.slice P8 p8 q8,.slice P9 p9 q9] 28) (.cells #[.int .i64 1,.int .i64 oo] 3) (.cells #[.int .i64 0,.string ⟨#[]⟩,.bool false,.bool false,.slice none 0 0,.slice none 0 0,.slice none 0 0,.slice none 0 0,.slice none 0 0,.slice none 0 0] 28) none none none X→TT 5 #[true,true,true,true,true,false,true,true,true,true,false,false,false,false] (A0) X:=by
    intro  X hj;rw [HTT.out,HA0.out];refine wpAnyH_ready (rs:=[5,10,12]) (by kernel_rfl) (by simp) ?_;refine AllReadyH.cons (o:=_) rfl (fun K hK=>?_) ?_
    ·simp only [gA,gB,gC]
     go_simp
     refine hK.out _ _ ?_ (fun _=>?_)
     ·exact HK.out _ (hj.a0 _ rfl).below
     have h:=L100.out _ _ (hj.a0 _ rfl);rw [HTT.out,HA0.out] at h;simp only [gD,gE,gF] at h;exact h
    refine AllReadyH.cons (o:=_) rfl (fun K hK=>?_) ?_
    ·simp only [gA,gB,gC]
     go_simp
     refine hK.out _ _ ?_ (fun _=>?_)
     ·exact HK.out _ (hj.b0 _ rfl).below
     have h:=L010.out _ _ (hj.b0 _ rfl);rw [HTT.out,HA0.out] at h;simp only [gD,gE,gF] at h;exact h
    refine AllReadyH.cons (o:=_) rfl (fun K hK=>?_) ?_
    ·simp only [gA,gB,gC]
     go_simp
     refine hK.out _ _ ?_ (fun _=>?_)
     ·exact HK.out _ (hj.g0 _ rfl).below
     have h:=L001.out _ _ (hj.g0 _ rfl);rw [HTT.out,HA0.out] at h;simp only [gD,gE,gF] at h;exact h
    exact AllReadyH.nil
   replace L000:=Ha L000;exact L000.out _ hj
 case rest=>
  obtain ⟨bg,ba,bo,rfl,hf⟩:=hcut;have HB6:=Ha (HB5.out.trans (hf.below.mono HB5.out.size));have z0_6:wc.cell? ⟨bg,0,none⟩=some (.int .i64 1):=aE hf.gd 0 _ rfl;have z1_6:wc.cell? ⟨bg,1,none⟩=some (.string ⟨#[]⟩):=aE hf.gd 1 _ rfl;have z2_6:wc.cell? ⟨bg,2,none⟩=some (.bool false):=aE hf.gd 2 _ rfl;have z3_6:wc.cell? ⟨bg,3,none⟩=some (.bool false):=aE hf.gd 3 _ rfl;have z4_6:wc.cell? ⟨bg,4,none⟩=some (.slice (some ⟨bo,0,none⟩) 2 2):=aE hf.gd 4 _ rfl;have z5_6:wc.cell? ⟨bg,5,none⟩=some (.slice none 0 0):=aE hf.gd 5 _ rfl;have z6_6:wc.cell? ⟨bg,6,none⟩=some (.slice none 0 0):=aE hf.gd 6 _ rfl;have z7_6:wc.cell? ⟨bg,7,none⟩=some (.slice none 0 0):=aE hf.gd 7 _ rfl;have z8_6:wc.cell? ⟨bg,8,none⟩=some (.slice none 0 0):=aE hf.gd 8 _ rfl;have z9_6:wc.cell? ⟨bg,9,none⟩=some (.slice (some ⟨ba,0,none⟩) 2 2):=aE hf.gd 9 _ rfl;have x0_6:=aA x0_5 hf.below;have x1_6:=aA x1_5 hf.below;have x2_6:=aA x2_5 hf.below;have x3_6:=aA x3_5 hf.below;have x4_6:=aA x4_5 hf.below;have x5_6:=aA x5_5 hf.below;have x6_6:=aA x6_5 hf.below;have x7_6:=aA x7_5 hf.below;have x8_6:=aA x8_5 hf.below;have x9_6:=aA x9_5 hf.below;have k0_6:=aA k0_5 hf.below;have k7_6:=aA k7_5 hf.below;have hGo:∀ j,Old w5 j→Old wc j:=fun j h=>gK h hf.below.size;have hko:∀ p:Addr,Old w5 p.block→wc.cell? p=w5.cell? p:=bC (fun _ h=>h) hf.below;have HLN6:=Ha (show NdV (f+2) (Old wc) wc [.int .i64 1,.string ⟨#[]⟩,.bool false,.bool false,.slice (some ⟨bo,0,none⟩) 2 2,.slice none 0 0,.slice none 0 0,.slice none 0 0,.slice none 0 0,.slice (some ⟨ba,0,none⟩) 2 2] (hwL ⟨tl.toArray⟩ oo k) from ⟨_,_,_,_,_,_,rfl,⟨(show 0≤1073741824 by decide),(show 0+0≤1073741824 by decide)⟩,
   aV.two (show Old wc bo from (Array.getElem?_eq_some_iff.1 hf.bd).1) rfl rfl (show lR [.int .i64 1] 1 from rfl) (show lR [.int .i64 oo] oo from rfl) (bI hf.bd _ (Below.refl _ _)),aV.nil0,aV.nil0,aV.nil0,aV.nil0,
   aV.two (show Old wc ba from (Array.getElem?_eq_some_iff.1 hf.ad).1) rfl rfl (HXN.out.keep hGo hko) (HKN.out.keep hGo hko) (bI hf.ad _ (Below.refl _ _))⟩)
  have HNC:=Ha (HN.out.below HG.out HB6.out);have HLR:=Ha (CX ⟨tl.toArray⟩ oo k HRR.out HO12.out HK2.out HKR.out);obtain ⟨s1,hs1⟩:∃ z,z=(Nd.tv (f+2)).sh (hwL ⟨tl.toArray⟩ oo k):=⟨_,rfl⟩;obtain ⟨t1,ht1⟩:∃ z,z=(Nd.tv (f+2)).sh n:=⟨_,rfl⟩;have hlen:=BK ⟨tl.toArray⟩ oo k HKD.out HOP.out;rw [← hs1,← ht1,aI] at hlen;have hbt:=(Nd.tv_ok (f+2)).sh n;rw [← ht1] at hbt;have hbn:=HBN.out;have HLN:=Ha (show (s1.length:Int)=(t1.length:Int)+(tl.length:Int)+8 by omega);have HSM:=Ha (show kk=4→p7=0→s1=[60,60,32,69,59,32]++t1++tl++[69,10] from fun h4 h7=>by
   have:=sJ ⟨tl.toArray⟩ oo k (HKK.out.symm.trans h4) (List.eq_nil_of_length_eq_zero (HP7.out.symm.trans h7)) HKD.out HOP.out;rw [← hs1,← ht1,aI] at this;exact this)
  have hlw:Nd.wt (f+2) (hwL ⟨tl.toArray⟩ oo k)≤536870912:=by
   have h1:=CY (Nd.wt f) ⟨tl.toArray⟩ oo k;have h3:wtF (Nd.wt f) k≤Nd.wt (f+2) n:=by
    have h4:tot (wtF (Nd.wt f)) (NdF.kids (α:=Nd (f+1)) n)≤Nd.wt (f+2) n:=by
     show _≤wtF (wtF (Nd.wt f)) n;unfold wtF;omega
    rw [HKD.out] at h4;exact Nat.le_trans (by simp [tot]) h4
   rw [aS] at h1;show wtF (wtF (Nd.wt f)) (hwL ⟨tl.toArray⟩ oo k)≤_;omega
  have HL2:=Ha (show 64*Nd.wt (f+2) (hwL ⟨tl.toArray⟩ oo k)≤LIM by unfold LIM;omega);have HGC:=Ha (aG HG.out HB6.out);have E1:=(rI (f+2) (hwL ⟨tl.toArray⟩ oo k)).trans ((if_pos HLR.out).trans hs1.symm);have E2:=(rI (f+2) n).trans ((if_pos HRN.out).trans ht1.symm);have p1:=fun Y:Gr wc=>(Y.calls (tN (f+2) (Old wc) Y.at_ _ _ (fun j h=>gK h Y.2.size) (RS.out.below (HB6.out.trans (Y.2.mono HB6.out.size))) (HT.out.below (HB6.out.trans (Y.2.mono HB6.out.size))) (HLN6.out.below (fun _ h=>h) Y.2) HL2.out)).mono fun e w' h=>(⟨h.1.trans (congrArg (fun z=>Ending.returned (bs z)) E1),h.2⟩:e=.returned (bs s1)∧∃ y:Gr wc,w'=y.at_);have p2:=fun Y:Gr wc=>(Y.calls (tN (f+2) (Old w) Y.at_ _ n (aG HGC.out Y.2) (RS.out.below (HB6.out.trans (Y.2.mono HB6.out.size))) (HT.out.below (HB6.out.trans (Y.2.mono HB6.out.size))) (HNC.out.below HGC.out Y.2) HL1.out)).mono fun e w' h=>(⟨h.1.trans (congrArg (fun z=>Ending.returned (bs z)) E2),h.2⟩:e=.returned (bs t1)∧∃ y:Gr wc,w'=y.at_);clear E1 E2;unfold ag bs at p1 p2;have a0:=fun Y:Gr wc=>Y.cell _ _ z0_6;have a1:=fun Y:Gr wc=>Y.cell _ _ z1_6;have a2:=fun Y:Gr wc=>Y.cell _ _ z2_6;have a3:=fun Y:Gr wc=>Y.cell _ _ z3_6;have a4:=fun Y:Gr wc=>Y.cell _ _ z4_6;have a5:=fun Y:Gr wc=>Y.cell _ _ z5_6;have a6:=fun Y:Gr wc=>Y.cell _ _ z6_6;have a7:=fun Y:Gr wc=>Y.cell _ _ z7_6;have a8:=fun Y:Gr wc=>Y.cell _ _ z8_6;have a9:=fun Y:Gr wc=>Y.cell _ _ z9_6;have d0:=fun Y:Gr wc=>Y.cell _ _ x0_6;have d1:=fun Y:Gr wc=>Y.cell _ _ x1_6;have d2:=fun Y:Gr wc=>Y.cell _ _ x2_6;have d3:=fun Y:Gr wc=>Y.cell _ _ x3_6;have d4:=fun Y:Gr wc=>Y.cell _ _ x4_6;have d5:=fun Y:Gr wc=>Y.cell _ _ x5_6;have d6:=fun Y:Gr wc=>Y.cell _ _ x6_6;have d7:=fun Y:Gr wc=>Y.cell _ _ x7_6;have d8:=fun Y:Gr wc=>Y.cell _ _ x8_6;have d9:=fun Y:Gr wc=>Y.cell _ _ x9_6;have hne2:Nonempty (Gr wc):=⟨⟨_,Below.refl _ _⟩⟩;have HLT:=Ha (show t1.length≤17179869184 by omega);clear hs1 ht1 hlen hbt hbn hlw hf hGo hko;go_wp2_with fail;refine bW (S:=Gr wc) Gr.at_ (by kernel_rfl) (by kernel_rfl) (Gr.drew _) ?_;repeat (go_big_quiet_step (first | (with_reducible exact p1 _) | (with_reducible exact p2 _)))
  refine wpQuiet_nil ?_;rintro wy ⟨⟨wy',hY⟩,hY2⟩;obtain rfl:wy=wy':=hY2;have HBY:=Ha (HB6.out.trans (hY.mono HB6.out.size));have x9_7:wy.cell? _=_:=aA x9_6 hY;have k0_7:wy.cell? _=_:=aA k0_6 hY;have k7_7:wy.cell? _=_:=aA k7_6 hY;clear hY p1 p2 hne2 a0 d0 z0_6 a1 d1 z1_6 a2 d2 z2_6 a3 d3 z3_6 a4 d4 z4_6 a5 d5 z5_6 a6 d6 z6_6 a7 d7 z7_6 a8 d8 z8_6 a9 d9 z9_6 x0_6 x1_6 x2_6 x3_6 x4_6 x5_6 x6_6 x7_6 x8_6 x9_6 k0_6 k7_6;have hlt:=HLT.out;have e1:IntKind.i64.wrap ((t1.length:Int)+(tl.length:Int))=(t1.length:Int)+(tl.length:Int):=IntWalk.i64_in _ (by omega);have e2:IntKind.i64.wrap ((t1.length:Int)+(tl.length:Int)+8)=(t1.length:Int)+(tl.length:Int)+8:=IntWalk.i64_in _ (by omega);clear hlt;by_cases h4:kk=4
  case neg=>
   have e3:=HLN.out;have HX:=Ha (fV wy (RS.out.below HBY.out) (HT.out.below HBY.out));go_wp2_with fail;refine HX.out.mono ?_;rintro e wz ⟨rfl,hb⟩;have HBZ:=Ha (HBW.out.trans ((HBY.out.trans (hb.mono HBY.out.size)).mono HBW.out.size));clear hb;go_wp2_with fail;go_ret;exact ⟨rfl,HBZ.out⟩
  by_cases h7:p7=0
  case neg=>
   subst h4;have h7':(0:Int)<(p7:Int):=by omega
   have e3:=HLN.out;have HX:=Ha (fV wy (RS.out.below HBY.out) (HT.out.below HBY.out));go_wp2_with fail;refine HX.out.mono ?_;rintro e wz ⟨rfl,hb⟩;have HBZ:=Ha (HBW.out.trans ((HBY.out.trans (hb.mono HBY.out.size)).mono HBW.out.size));clear hb;go_wp2_with fail;go_ret;exact ⟨rfl,HBZ.out⟩
  have hsm:=HSM.out h4 h7;have hlt:=HLT.out;subst h4 h7;clear e1 e2;obtain ⟨za,hza⟩:∃ z:List UInt8,z=[60,60,32,69,59,32]++t1:=⟨_,rfl⟩;obtain ⟨zb,hzb⟩:∃ z:List UInt8,z=za++tl:=⟨_,rfl⟩;have lza:za.length=6+t1.length:=by rw [hza];simp;omega
  have lzb:zb.length=za.length+tl.length:=by rw [hzb,gI]
  have aa:=oS [60,60,32,69,59,32] t1 (by simp only [gG,gH];omega);have ab:=oS za tl (by omega);have ac:=oS zb [69,10] (by simp only [gG,gH];omega);rw [← hza] at aa hsm;rw [← hzb] at ab hsm;rw [← hsm] at ac;clear hza hzb lza lzb hsm hlt;have HX:=Ha (fV wy (RS.out.below HBY.out) (HT.out.below HBY.out));go_wp2_with fail;refine HX.out.mono ?_;rintro e wz ⟨rfl,hb⟩;have HBZ:=Ha (HBW.out.trans ((HBY.out.trans (hb.mono HBY.out.size)).mono HBW.out.size));clear hb;go_wp2_with fail;go_ret;exact ⟨rfl,HBZ.out⟩
end Go.Proofs.YtjpopekmbmcggaaGreatDoor
namespace Go.Proofs.YtjpopekmbmcggaaGreatDoor
open Go.ChangeShapes Go.WideShapes Go.ChangeAt Go.RowKit
open Go.ChangeMaps (open_string shut_string)
set_option linter.unusedVariables false
set_option maxRecDepth 100000 in
theorem jQ (os : Os) {H : Type} (enc : TypeId × Value → H) : ∃ places, DataW.whole enc Tryz.prog ((laidWorld2 os).forCall (fun _ _ => 0) ⟨#[], #[.agg #[.int .i64 0, .string ByteArray.empty, .bool false, .bool false, .slice none 0 0, .slice none 0 0, .slice none 0 0, .slice none 0 0, .slice none 0 0, .slice none 0 0], .string ByteArray.empty], []⟩).memory Tryz.f9.params.toList Rows.unparseHeresSpec.vars false (#[.agg #[.int .i64 0, .string ByteArray.empty, .bool false, .bool false, .slice none 0 0, .slice none 0 0, .slice none 0 0, .slice none 0 0, .slice none 0 0, .slice none 0 0], .string ByteArray.empty] : Array Value).toList 8 = some ([.agg [.lit (.int .i64 0), .lit (.string []), .lit (.bool false), .lit (.bool false), .nil, .nil, .nil, .nil, .nil, .nil], .lit (.string [])], [], places) :=
  ⟨[], by kernel_rfl⟩
set_option maxRecDepth 100000 in
theorem iG (H : Type) (enc : TypeId × Value → H) (W : World) (base : Nat) (args : Array Value) (ds gs : List (DataW H)) (before : List MemPlace)
    (hval0 : ∀ (j : Nat) t v, Tryz.f9.params[j]? = some t → args[j]? = some v → Value.okWide Tryz.prog W .any base t v)
    (hW : DataW.Whole enc Tryz.prog Tryz.f9.params.toList Rows.unparseHeresSpec.vars false W args.toList ds gs before) (hL : laidMetH Tryz.prog pG W) (hk : Rows.uptoSmall H (ds ++ gs) = true) :
    Calls Tryz.prog 9 args W fun e W' => ∃ v, e = .returned v ∧ Rows.unparseHeresSpec.post enc Tryz.prog Tryz.f9 false true false false W args v W' := by
  have hval : ∀ (j : Nat) t v, Tryz.f9.params[j]? = some t → args[j]? = some v → Value.okWide Tryz.prog W .any base t v := hval0
  have hW' := hW
  obtain ⟨p, q, hA0, hV, rfl, hfz, hnd⟩ := hW
  have hA : DataW.TrodAll enc Tryz.prog W 0 (fun _ => true) true Tryz.f9.params.toList args.toList ds p := hA0
  rw [Tryz.params9] at hA hval
  obtain ⟨v0, vs0, d0, ds0, p0, q0, hargs, rfl, rfl, h0, r0⟩ := trodAll_cons hA
  obtain ⟨v1, vs1, d1, ds1, p1, q1, rfl, rfl, rfl, h1, r1⟩ := trodAll_cons r0
  obtain ⟨rfl, rfl, rfl⟩ := trodAll_nil r1
  obtain rfl : args = #[v0, v1] := by cases args; simp_all
  obtain ⟨rfl, rfl⟩ := trodVars_none hV
  have hlt := fun x hx => hW'.lt x hx
  have hlt0 : ∀ x ∈ p0, x.block < W.heap.size := fun x hx => by simpa using hlt x (List.mem_append.2 (.inl (List.mem_append.2 (.inl hx))))
  obtain ⟨f, hf⟩ : ∃ f : Nat, f = 1048576 := ⟨_, rfl⟩
  have hbk : Rows.uptoBulk d0 + (Rows.uptoBulk d1) ≤ f := by
    have h : Rows.uptoBulkAll ([d0, d1] ++ []) ≤ 1048576 := of_decide_eq_true hk
    rw [hf]
    simpa only [List.cons_append, List.nil_append, Rows.uptoBulkAll, Nat.add_zero] using h
  have h0k := h0
  obtain ⟨z0, n, rfl, hv0, hw0⟩ := tF f (by omega) (hval 0 28 v0 rfl rfl) h0 (by omega)
  obtain ⟨tx, rfl, rfl, rfl, w1⟩ := open_string Tryz.underlying9 (hval 1 9 v1 rfl rfl) h1
  have ht := rE hL
  have hT := (jU hL).1
  obtain ⟨m, rfl⟩ : ∃ m, f = m + 1 := ⟨1048575, hf⟩
  clear hA0 hval0
  refine (kM m W z0 n tx ht hT hv0 (show Nd.wt (m + 1 + 1) n ≤ 268435456 by omega)).mono fun e W' ⟨he, bel⟩ => ?_
  subst he
  exact ⟨_, rfl, _, _, _, [], _, [], hW', trodAll_mk1 (shut_bool Tryz.underlying4 _), (trodAll_cons_mk (Below.trod BN (by kernel_rfl) (of_decide_eq_true (by kernel_rfl)) h0k bel hlt0) (trodAll_cons_mk (shut_string Tryz.underlying9 w1) trodAll_mk0)), rfl, bel.frame _, fun h => by cases h⟩
set_option maxRecDepth 100000 in
theorem jC (os : Os) (started : os.Started) (H : Type) (enc : TypeId × Value → H) (F : Stop.Interp) :
    ReturnsInHanded {} Tryz.checked os 9 .any ((Rows.OpenSpec.upto Rows.unparseHeresSpec).preRow enc Tryz.prog Tryz.f9 Rows.unparseHeresUptoRow.domain false Rows.unparseHeresUptoRow.laid) (((Rows.OpenSpec.upto Rows.unparseHeresSpec).at F).post enc Tryz.prog Tryz.f9 false true false false) := by
  obtain ⟨places, hx⟩ := jQ os enc
  refine returnsInHanded_of_row (C := Tryz.checked) (s := Rows.OpenSpec.upto Rows.unparseHeresSpec) own started (by kernel_rfl) Tryz.func9
    (witness_row_at (enc := enc) (C := Tryz.checked) false (laidWorld2 os) #[.agg #[.int .i64 0, .string ByteArray.empty, .bool false, .bool false, .slice none 0 0, .slice none 0 0, .slice none 0 0, .slice none 0 0, .slice none 0 0, .slice none 0 0], .string ByteArray.empty] rfl (by kernel_rfl) (by kernel_rfl) (by kernel_rfl)
      (OpenSpec.preRow_of_cond 8 hx (by kernel_rfl) (fun k hk => by cases hk; kernel_rfl) (by kernel_rfl) (vR os _))) ?_
  intro W base args ds gs before hval hW _ hcond _ hL _ _
  exact iG H enc W base args ds gs before hval hW hL (hcond _ rfl)
theorem kL : Rows.UnparseHeresUptoSaid :=
  OpenClaim.holds_of_cond 9 Tryz.f9 rfl rfl rfl rfl rfl rfl rfl ⟨rfl, rfl, rfl, rfl, rfl⟩ rfl rfl rfl rfl rfl (by kernel_rfl) Tryz.func9 (by kernel_rfl)
    (of_decide_eq_true (by kernel_rfl)) (by unfold Func.isWrapper; first | (rw [if_pos (by decide +kernel)]; kernel_rfl) | (rw [if_neg (by decide +kernel)]; exact ⟨rfl, rfl⟩))
    (fun os started H enc _ F => by rw [OpenClaim.pre_eq_preRow]; exact jC os started H enc F)
theorem unparseHeres_card : Rows.UnparseHeresUptoCardSaid :=
  Claim7.holds_tied_plain_at .later [] [.data, .data] true Rows.unparseHeresUptoCard.stood.harness false
    kL (fun _ h => by cases h) (by kernel_rfl) (fun _ h => by cases h) unparseHeresUpto_row_tie rfl ⟨rfl, rfl⟩ (by kernel_rfl) rfl
    (fun f fn hf hfn => by
      obtain rfl : f = 9 := Option.some.inj ((show Tryz.prog.funcNamed Rows.unparseHeresUptoRow.func = some 9 by kernel_rfl).symm.trans hf) |>.symm
      obtain rfl : fn = Tryz.f9 := (Option.some.inj (Tryz.func9.symm.trans hfn)).symm
      exact ⟨by kernel_rfl, fun j t ht => by
        rw [Tryz.params9] at ht
        have hm : t ∈ [28, 9] := by simpa using Array.mem_of_getElem? ht
        have hall : ([28, 9].all fun u => !Tryz.prog.wantsStandIn u) = true := by kernel_rfl
        exact (show Tryz.prog.wantsStandIn t = false by simpa using List.all_eq_true.1 hall t hm)⟩)
    (by kernel_rfl)
#print axioms unparseHeres_card
end Go.Proofs.YtjpopekmbmcggaaGreatDoor
