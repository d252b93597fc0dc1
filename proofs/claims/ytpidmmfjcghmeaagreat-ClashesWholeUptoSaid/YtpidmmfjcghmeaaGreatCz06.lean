/- Towards clashesWhole_upto. -/
import Derived.Test.YtpidmmfjcghmeaaGreatCz02
import Derived.BigRegion
set_option maxRecDepth 100000
set_option maxHeartbeats 16000000
set_option linter.all false
namespace Go.Proofs.YtpidmmfjcghmeaaGreat
open Go.RowKit
structure GBox (G:Nat→Prop) (w:World) (b:Nat) (A0:Option Addr) (c0:Nat) (A1:Option Addr) (c1:Nat) (A2:Option Addr) (c2:Nat) (g:Gm):Prop where
  old:∀ k,G k→k<w.heap.size
  lt:b<w.heap.size
  x0:w.cell? ⟨b,0,none⟩=some (.slice A0 g.terms.length c0)
  x1:w.cell? ⟨b,1,none⟩=some (.slice A1 g.nons.length c1)
  x2:w.cell? ⟨b,2,none⟩=some (.slice A2 g.rules.length c2)
  x3:w.cell? ⟨b,3,none⟩=some (.int .i64 g.start)
  ht:aW G w (.slice A0 g.terms.length c0) g.terms
  hn:aW G w (.slice A1 g.nons.length c1) g.nons
  hr:cD G w (.slice A2 g.rules.length c2) g.rules
theorem aD {w w':World} {b j:Nat} {v:Value} (h:w.cell? ⟨b,j,none⟩=some v) (hb:Below w.heap.size w w'):w'.cell? ⟨b,j,none⟩=some v:=(gM (hb.block _ (i1 h))).trans h
theorem cpd (w:World) (o:Obj):∃ X:World,w.alloc o=X∧Below w.heap.size w X∧X.heap[w.heap.size]? =some o:=⟨_,rfl,(Below.refl _ _).alloc (Nat.le_refl _) _,aC _ _⟩
theorem c10 {w:World} {k:Nat} {a0 a1 a2 a3 a4 a5 a6 a7 a8 a9:Value} {T:TypeId} {z:Nat×Nat} (h:w.heap[k]? =some (.cells #[a0,a1,a2,a3,a4,a5,a6,a7,a8,a9] T z)):w.cell? ⟨k,0,none⟩=some a0∧w.cell? ⟨k,1,none⟩=some a1∧w.cell? ⟨k,2,none⟩=some a2∧w.cell? ⟨k,3,none⟩=some a3∧w.cell? ⟨k,4,none⟩=some a4∧w.cell? ⟨k,5,none⟩=some a5∧w.cell? ⟨k,6,none⟩=some a6∧w.cell? ⟨k,7,none⟩=some a7∧w.cell? ⟨k,8,none⟩=some a8∧w.cell? ⟨k,9,none⟩=some a9:=by
 simp [World.cell?,h]
theorem ks3 {W X:World} {b0 j0 b1 j1 b2 j2:Nat} {v0 v1 v2:Value} (h:Below W.heap.size W X) (x0:W.cell? ⟨b0,j0,none⟩=some v0) (x1:W.cell? ⟨b1,j1,none⟩=some v1) (x2:W.cell? ⟨b2,j2,none⟩=some v2):X.cell? ⟨b0,j0,none⟩=some v0∧X.cell? ⟨b1,j1,none⟩=some v1∧X.cell? ⟨b2,j2,none⟩=some v2:=⟨aD x0 h,aD x1 h,aD x2 h⟩
theorem ks4 {W X:World} {b0 j0 b1 j1 b2 j2 b3 j3:Nat} {v0 v1 v2 v3:Value} (h:Below W.heap.size W X) (x0:W.cell? ⟨b0,j0,none⟩=some v0) (x1:W.cell? ⟨b1,j1,none⟩=some v1) (x2:W.cell? ⟨b2,j2,none⟩=some v2) (x3:W.cell? ⟨b3,j3,none⟩=some v3):X.cell? ⟨b0,j0,none⟩=some v0∧X.cell? ⟨b1,j1,none⟩=some v1∧X.cell? ⟨b2,j2,none⟩=some v2∧X.cell? ⟨b3,j3,none⟩=some v3:=⟨aD x0 h,aD x1 h,aD x2 h,aD x3 h⟩
theorem ks5 {W X:World} {b0 j0 b1 j1 b2 j2 b3 j3 b4 j4:Nat} {v0 v1 v2 v3 v4:Value} (h:Below W.heap.size W X) (x0:W.cell? ⟨b0,j0,none⟩=some v0) (x1:W.cell? ⟨b1,j1,none⟩=some v1) (x2:W.cell? ⟨b2,j2,none⟩=some v2) (x3:W.cell? ⟨b3,j3,none⟩=some v3) (x4:W.cell? ⟨b4,j4,none⟩=some v4):X.cell? ⟨b0,j0,none⟩=some v0∧X.cell? ⟨b1,j1,none⟩=some v1∧X.cell? ⟨b2,j2,none⟩=some v2∧X.cell? ⟨b3,j3,none⟩=some v3∧X.cell? ⟨b4,j4,none⟩=some v4:=⟨aD x0 h,aD x1 h,aD x2 h,aD x3 h,aD x4 h⟩
theorem ks6 {W X:World} {b0 j0 b1 j1 b2 j2 b3 j3 b4 j4 b5 j5:Nat} {v0 v1 v2 v3 v4 v5:Value} (h:Below W.heap.size W X) (x0:W.cell? ⟨b0,j0,none⟩=some v0) (x1:W.cell? ⟨b1,j1,none⟩=some v1) (x2:W.cell? ⟨b2,j2,none⟩=some v2) (x3:W.cell? ⟨b3,j3,none⟩=some v3) (x4:W.cell? ⟨b4,j4,none⟩=some v4) (x5:W.cell? ⟨b5,j5,none⟩=some v5):X.cell? ⟨b0,j0,none⟩=some v0∧X.cell? ⟨b1,j1,none⟩=some v1∧X.cell? ⟨b2,j2,none⟩=some v2∧X.cell? ⟨b3,j3,none⟩=some v3∧X.cell? ⟨b4,j4,none⟩=some v4∧X.cell? ⟨b5,j5,none⟩=some v5:=⟨aD x0 h,aD x1 h,aD x2 h,aD x3 h,aD x4 h,aD x5 h⟩
theorem ks7 {W X:World} {b0 j0 b1 j1 b2 j2 b3 j3 b4 j4 b5 j5 b6 j6:Nat} {v0 v1 v2 v3 v4 v5 v6:Value} (h:Below W.heap.size W X) (x0:W.cell? ⟨b0,j0,none⟩=some v0) (x1:W.cell? ⟨b1,j1,none⟩=some v1) (x2:W.cell? ⟨b2,j2,none⟩=some v2) (x3:W.cell? ⟨b3,j3,none⟩=some v3) (x4:W.cell? ⟨b4,j4,none⟩=some v4) (x5:W.cell? ⟨b5,j5,none⟩=some v5) (x6:W.cell? ⟨b6,j6,none⟩=some v6):X.cell? ⟨b0,j0,none⟩=some v0∧X.cell? ⟨b1,j1,none⟩=some v1∧X.cell? ⟨b2,j2,none⟩=some v2∧X.cell? ⟨b3,j3,none⟩=some v3∧X.cell? ⟨b4,j4,none⟩=some v4∧X.cell? ⟨b5,j5,none⟩=some v5∧X.cell? ⟨b6,j6,none⟩=some v6:=⟨aD x0 h,aD x1 h,aD x2 h,aD x3 h,aD x4 h,aD x5 h,aD x6 h⟩
theorem ks8 {W X:World} {b0 j0 b1 j1 b2 j2 b3 j3 b4 j4 b5 j5 b6 j6 b7 j7:Nat} {v0 v1 v2 v3 v4 v5 v6 v7:Value} (h:Below W.heap.size W X) (x0:W.cell? ⟨b0,j0,none⟩=some v0) (x1:W.cell? ⟨b1,j1,none⟩=some v1) (x2:W.cell? ⟨b2,j2,none⟩=some v2) (x3:W.cell? ⟨b3,j3,none⟩=some v3) (x4:W.cell? ⟨b4,j4,none⟩=some v4) (x5:W.cell? ⟨b5,j5,none⟩=some v5) (x6:W.cell? ⟨b6,j6,none⟩=some v6) (x7:W.cell? ⟨b7,j7,none⟩=some v7):X.cell? ⟨b0,j0,none⟩=some v0∧X.cell? ⟨b1,j1,none⟩=some v1∧X.cell? ⟨b2,j2,none⟩=some v2∧X.cell? ⟨b3,j3,none⟩=some v3∧X.cell? ⟨b4,j4,none⟩=some v4∧X.cell? ⟨b5,j5,none⟩=some v5∧X.cell? ⟨b6,j6,none⟩=some v6∧X.cell? ⟨b7,j7,none⟩=some v7:=⟨aD x0 h,aD x1 h,aD x2 h,aD x3 h,aD x4 h,aD x5 h,aD x6 h,aD x7 h⟩
theorem ks9 {W X:World} {b0 j0 b1 j1 b2 j2 b3 j3 b4 j4 b5 j5 b6 j6 b7 j7 b8 j8:Nat} {v0 v1 v2 v3 v4 v5 v6 v7 v8:Value} (h:Below W.heap.size W X) (x0:W.cell? ⟨b0,j0,none⟩=some v0) (x1:W.cell? ⟨b1,j1,none⟩=some v1) (x2:W.cell? ⟨b2,j2,none⟩=some v2) (x3:W.cell? ⟨b3,j3,none⟩=some v3) (x4:W.cell? ⟨b4,j4,none⟩=some v4) (x5:W.cell? ⟨b5,j5,none⟩=some v5) (x6:W.cell? ⟨b6,j6,none⟩=some v6) (x7:W.cell? ⟨b7,j7,none⟩=some v7) (x8:W.cell? ⟨b8,j8,none⟩=some v8):X.cell? ⟨b0,j0,none⟩=some v0∧X.cell? ⟨b1,j1,none⟩=some v1∧X.cell? ⟨b2,j2,none⟩=some v2∧X.cell? ⟨b3,j3,none⟩=some v3∧X.cell? ⟨b4,j4,none⟩=some v4∧X.cell? ⟨b5,j5,none⟩=some v5∧X.cell? ⟨b6,j6,none⟩=some v6∧X.cell? ⟨b7,j7,none⟩=some v7∧X.cell? ⟨b8,j8,none⟩=some v8:=⟨aD x0 h,aD x1 h,aD x2 h,aD x3 h,aD x4 h,aD x5 h,aD x6 h,aD x7 h,aD x8 h⟩
theorem ks10 {W X:World} {b0 j0 b1 j1 b2 j2 b3 j3 b4 j4 b5 j5 b6 j6 b7 j7 b8 j8 b9 j9:Nat} {v0 v1 v2 v3 v4 v5 v6 v7 v8 v9:Value} (h:Below W.heap.size W X) (x0:W.cell? ⟨b0,j0,none⟩=some v0) (x1:W.cell? ⟨b1,j1,none⟩=some v1) (x2:W.cell? ⟨b2,j2,none⟩=some v2) (x3:W.cell? ⟨b3,j3,none⟩=some v3) (x4:W.cell? ⟨b4,j4,none⟩=some v4) (x5:W.cell? ⟨b5,j5,none⟩=some v5) (x6:W.cell? ⟨b6,j6,none⟩=some v6) (x7:W.cell? ⟨b7,j7,none⟩=some v7) (x8:W.cell? ⟨b8,j8,none⟩=some v8) (x9:W.cell? ⟨b9,j9,none⟩=some v9):X.cell? ⟨b0,j0,none⟩=some v0∧X.cell? ⟨b1,j1,none⟩=some v1∧X.cell? ⟨b2,j2,none⟩=some v2∧X.cell? ⟨b3,j3,none⟩=some v3∧X.cell? ⟨b4,j4,none⟩=some v4∧X.cell? ⟨b5,j5,none⟩=some v5∧X.cell? ⟨b6,j6,none⟩=some v6∧X.cell? ⟨b7,j7,none⟩=some v7∧X.cell? ⟨b8,j8,none⟩=some v8∧X.cell? ⟨b9,j9,none⟩=some v9:=⟨aD x0 h,aD x1 h,aD x2 h,aD x3 h,aD x4 h,aD x5 h,aD x6 h,aD x7 h,aD x8 h,aD x9 h⟩
theorem ks11 {W X:World} {b0 j0 b1 j1 b2 j2 b3 j3 b4 j4 b5 j5 b6 j6 b7 j7 b8 j8 b9 j9 b10 j10:Nat} {v0 v1 v2 v3 v4 v5 v6 v7 v8 v9 v10:Value} (h:Below W.heap.size W X) (x0:W.cell? ⟨b0,j0,none⟩=some v0) (x1:W.cell? ⟨b1,j1,none⟩=some v1) (x2:W.cell? ⟨b2,j2,none⟩=some v2) (x3:W.cell? ⟨b3,j3,none⟩=some v3) (x4:W.cell? ⟨b4,j4,none⟩=some v4) (x5:W.cell? ⟨b5,j5,none⟩=some v5) (x6:W.cell? ⟨b6,j6,none⟩=some v6) (x7:W.cell? ⟨b7,j7,none⟩=some v7) (x8:W.cell? ⟨b8,j8,none⟩=some v8) (x9:W.cell? ⟨b9,j9,none⟩=some v9) (x10:W.cell? ⟨b10,j10,none⟩=some v10):X.cell? ⟨b0,j0,none⟩=some v0∧X.cell? ⟨b1,j1,none⟩=some v1∧X.cell? ⟨b2,j2,none⟩=some v2∧X.cell? ⟨b3,j3,none⟩=some v3∧X.cell? ⟨b4,j4,none⟩=some v4∧X.cell? ⟨b5,j5,none⟩=some v5∧X.cell? ⟨b6,j6,none⟩=some v6∧X.cell? ⟨b7,j7,none⟩=some v7∧X.cell? ⟨b8,j8,none⟩=some v8∧X.cell? ⟨b9,j9,none⟩=some v9∧X.cell? ⟨b10,j10,none⟩=some v10:=⟨aD x0 h,aD x1 h,aD x2 h,aD x3 h,aD x4 h,aD x5 h,aD x6 h,aD x7 h,aD x8 h,aD x9 h,aD x10 h⟩
theorem ks12 {W X:World} {b0 j0 b1 j1 b2 j2 b3 j3 b4 j4 b5 j5 b6 j6 b7 j7 b8 j8 b9 j9 b10 j10 b11 j11:Nat} {v0 v1 v2 v3 v4 v5 v6 v7 v8 v9 v10 v11:Value} (h:Below W.heap.size W X) (x0:W.cell? ⟨b0,j0,none⟩=some v0) (x1:W.cell? ⟨b1,j1,none⟩=some v1) (x2:W.cell? ⟨b2,j2,none⟩=some v2) (x3:W.cell? ⟨b3,j3,none⟩=some v3) (x4:W.cell? ⟨b4,j4,none⟩=some v4) (x5:W.cell? ⟨b5,j5,none⟩=some v5) (x6:W.cell? ⟨b6,j6,none⟩=some v6) (x7:W.cell? ⟨b7,j7,none⟩=some v7) (x8:W.cell? ⟨b8,j8,none⟩=some v8) (x9:W.cell? ⟨b9,j9,none⟩=some v9) (x10:W.cell? ⟨b10,j10,none⟩=some v10) (x11:W.cell? ⟨b11,j11,none⟩=some v11):X.cell? ⟨b0,j0,none⟩=some v0∧X.cell? ⟨b1,j1,none⟩=some v1∧X.cell? ⟨b2,j2,none⟩=some v2∧X.cell? ⟨b3,j3,none⟩=some v3∧X.cell? ⟨b4,j4,none⟩=some v4∧X.cell? ⟨b5,j5,none⟩=some v5∧X.cell? ⟨b6,j6,none⟩=some v6∧X.cell? ⟨b7,j7,none⟩=some v7∧X.cell? ⟨b8,j8,none⟩=some v8∧X.cell? ⟨b9,j9,none⟩=some v9∧X.cell? ⟨b10,j10,none⟩=some v10∧X.cell? ⟨b11,j11,none⟩=some v11:=⟨aD x0 h,aD x1 h,aD x2 h,aD x3 h,aD x4 h,aD x5 h,aD x6 h,aD x7 h,aD x8 h,aD x9 h,aD x10 h,aD x11 h⟩
theorem aA {w:World} {k:Nat} {cs:Array Value} {T:TypeId} {fz:Nat×Nat} (hh:w.heap[k]? = some (.cells cs T fz)) (i:Nat) (v:Value) (hi:cs[i]? = some v):w.cell? ⟨k,i,none⟩=some v:=by
  simp only [World.cell?,hh];exact hi
section
variable {G:Nat→Prop} {w w':World} {b:Nat} {A0 A1 A2:Option Addr} {c0 c1 c2:Nat} {g:Gm}
theorem GBox.on (h:GBox G w b A0 c0 A1 c1 A2 c2 g) (hb:Below w.heap.size w w'):GBox G w' b A0 c0 A1 c1 A2 c2 g:=
  ⟨bN h.old hb,gK h.lt hb.size,aD h.x0 hb,aD h.x1 hb,aD h.x2 hb,aD h.x3 hb,h.ht.below h.old hb,h.hn.below h.old hb,h.hr.below h.old hb⟩
theorem GBox.cells (h:GBox G w b A0 c0 A1 c1 A2 c2 g):w.cell? ⟨b,0,none⟩=some (.slice A0 g.terms.length c0)∧w.cell? ⟨b,1,none⟩=some (.slice A1 g.nons.length c1)∧w.cell? ⟨b,2,none⟩=some (.slice A2 g.rules.length c2)∧w.cell? ⟨b,3,none⟩=some (.int .i64 g.start):=
  ⟨h.x0,h.x1,h.x2,h.x3⟩
theorem GBox.gm (h:GBox G w b A0 c0 A1 c1 A2 c2 g):GmV G w [.slice A0 g.terms.length c0,.slice A1 g.nons.length c1,.slice A2 g.rules.length c2,.int .i64 g.start] g:=⟨_,_,_,rfl,h.ht,h.hn,h.hr⟩
theorem GBox.lens (h:GBox G w b A0 c0 A1 c1 A2 c2 g):g.terms.length≤9223372036854775807∧g.nons.length≤9223372036854775807∧g.rules.length≤9223372036854775807:=by
  have a1:=aH.shape h.ht;have a2:=aH.shape h.hn;have a3:=aH.shape h.hr;obtain ⟨_,_,e1,b1,d1⟩:=a1;obtain ⟨_,_,e2,b2,d2⟩:=a2;obtain ⟨_,_,e3,b3,d3⟩:=a3;unfold maxLen at d1 d2 d3;omega
theorem GBox.term (h:GBox G w b A0 c0 A1 c1 A2 c2 g) {k:Nat} (hk:k<g.terms.length):∃ bb off,A0=some ⟨bb,off,none⟩∧w.cell? ⟨bb,off+k,none⟩=some (bs g.terms[k]):=by
  obtain ⟨bb,off,u,e,_,hu,hc⟩:=aH.cell1 h.ht hk;unfold iT at hu
  injection hu with hu _
  subst hu;exact ⟨bb,off,e,hc⟩
theorem GBox.non (h:GBox G w b A0 c0 A1 c1 A2 c2 g) {k:Nat} (hk:k<g.nons.length):∃ bb off,A1=some ⟨bb,off,none⟩∧w.cell? ⟨bb,off+k,none⟩=some (bs g.nons[k]):=by
  obtain ⟨bb,off,u,e,_,hu,hc⟩:=aH.cell1 h.hn hk;unfold iT at hu
  injection hu with hu _
  subst hu;exact ⟨bb,off,e,hc⟩
theorem cD.at_ {A:Option Addr} {n c:Nat} {l:List (Int×List Int)} (h:cD G w (.slice A n c) l) {k:Nat} (hk:k<l.length):
    ∃ bb off Ar cr,A=some ⟨bb,off,none⟩∧G bb∧w.cell? ⟨bb,off+k*2,none⟩=some (.int .i64 l[k].1)∧w.cell? ⟨bb,off+k*2+1,none⟩=some (.slice Ar l[k].2.length cr)∧aF G w (.slice Ar l[k].2.length cr) l[k].2:=by
  obtain ⟨A',c',e,_,_,h4⟩:=h
  injection e with e1 _ _
  subst e1;obtain ⟨bb,off,rfl,hg,h5⟩:=h4 (by omega);obtain ⟨vs,h6,h7,h8⟩:=h5 k hk;obtain ⟨v,rfl,h9⟩:=h7;have z0:=h8 0 _ rfl;have z1:=h8 1 _ rfl;obtain ⟨Ar,cr,rfl,_,_⟩:=h9.shape;exact ⟨bb,off,Ar,cr,rfl,hg,by simpa using z0,z1,h9⟩
theorem GBox.rule (h:GBox G w b A0 c0 A1 c1 A2 c2 g) {k:Nat} (hk:k<g.rules.length):
    ∃ bb off Ar cr,A2=some ⟨bb,off,none⟩∧w.cell? ⟨bb,off+k*2,none⟩=some (.int .i64 g.rules[k].1)∧w.cell? ⟨bb,off+k*2+1,none⟩=some (.slice Ar g.rules[k].2.length cr)∧aF G w (.slice Ar g.rules[k].2.length cr) g.rules[k].2:=by
  obtain ⟨bb,off,Ar,cr,e,_,h1⟩:=cD.at_ h.hr hk;exact ⟨bb,off,Ar,cr,e,h1⟩
theorem aF.get {A:Option Addr} {n c:Nat} {l:List Int} (h:aF G w (.slice A n c) l) {k:Nat} (hk:k<l.length):∃ bb off,A=some ⟨bb,off,none⟩∧w.cell? ⟨bb,off+k,none⟩=some (.int .i64 l[k]):=by
  obtain ⟨bb,off,u,e,_,hu,hc⟩:=aH.cell1 h hk;unfold cF at hu
  injection hu with hu _
  subst hu;exact ⟨bb,off,e,hc⟩
theorem aW.get {A:Option Addr} {n c:Nat} {l:List (List UInt8)} (h:aW G w (.slice A n c) l) {k:Nat} (hk:k<l.length):∃ bb off,A=some ⟨bb,off,none⟩∧w.cell? ⟨bb,off+k,none⟩=some (bs l[k]):=by
  obtain ⟨bb,off,u,e,_,hu,hc⟩:=aH.cell1 h hk;unfold iT at hu
  injection hu with hu _
  subst hu;exact ⟨bb,off,e,hc⟩
theorem GBox.start {vs:List Value} (hG:∀ k,G k→k<w.heap.size) (h:GmV G w vs g):∃ A0 c0 A1 c1 A2 c2,vs=[.slice A0 g.terms.length c0,.slice A1 g.nons.length c1,.slice A2 g.rules.length c2,.int .i64 g.start]∧
    Below w.heap.size w (w.alloc (.cells #[.slice A0 g.terms.length c0,.slice A1 g.nons.length c1,.slice A2 g.rules.length c2,.int .i64 g.start] 25))∧
    GBox G (w.alloc (.cells #[.slice A0 g.terms.length c0,.slice A1 g.nons.length c1,.slice A2 g.rules.length c2,.int .i64 g.start] 25)) w.heap.size A0 c0 A1 c1 A2 c2 g:=by
  obtain ⟨A0,c0,A1,c1,A2,c2,rfl,ht,hn,hr⟩:=h.shape;have hb:Below w.heap.size w (w.alloc (.cells #[.slice A0 g.terms.length c0,.slice A1 g.nons.length c1,.slice A2 g.rules.length c2,.int .i64 g.start] 25)):=(gR _ _).alloc (gO _) _;have q:=aC w (.cells #[.slice A0 g.terms.length c0,.slice A1 g.nons.length c1,.slice A2 g.rules.length c2,.int .i64 g.start] 25);exact ⟨A0,c0,A1,c1,A2,c2,rfl,hb,bN hG hb,by simp,aA q 0 _ rfl,aA q 1 _ rfl,aA q 2 _ rfl,aA q 3 _ rfl,ht.below hG hb,hn.below hG hb,hr.below hG hb⟩
theorem GBox.go {vs:List Value} (hG:∀ k,G k→k<w.heap.size) (h:GmV G w vs g):∃ A0 c0 A1 c1 A2 c2 W,ag vs=.agg #[.slice A0 g.terms.length c0,.slice A1 g.nons.length c1,.slice A2 g.rules.length c2,.int .i64 g.start]∧w.alloc (.cells #[.slice A0 g.terms.length c0,.slice A1 g.nons.length c1,.slice A2 g.rules.length c2,.int .i64 g.start] 25)=W∧
    (W.cell? ⟨w.heap.size,0,none⟩=some (.slice A0 g.terms.length c0)∧W.cell? ⟨w.heap.size,1,none⟩=some (.slice A1 g.nons.length c1)∧W.cell? ⟨w.heap.size,2,none⟩=some (.slice A2 g.rules.length c2)∧W.cell? ⟨w.heap.size,3,none⟩=some (.int .i64 g.start))∧Hid (Below w.heap.size w W)∧Hid (GBox G W w.heap.size A0 c0 A1 c1 A2 c2 g):=by
  obtain ⟨A0,c0,A1,c1,A2,c2,rfl,hb,hx⟩:=GBox.start hG h;exact ⟨A0,c0,A1,c1,A2,c2,_,rfl,rfl,hx.cells,Ha hb,Ha hx⟩
end
section
variable {β:Type} {B:Nat} {T:TypeId} {sz:Nat} {R:List Value→β→Prop} {w w':World} {v:Value} {xs ys:List β}
theorem aG.nil (B:Nat) (T:TypeId) (sz:Nat) (R:List Value→β→Prop) (w:World):aG B T sz R w (.slice none 0 0) []:=⟨[],trivial,by simp,.inl ⟨rfl,rfl⟩⟩
theorem aG.lower {B':Nat} (h:aG B T sz R w v xs) (hB:B'≤B):aG B' T sz R w v xs:=by
 obtain ⟨us,hf,hl,ho⟩:=h;refine ⟨us,hf,hl, ?_⟩;rcases ho with h0 | ⟨g,cap,cur,e1,e2,e3⟩
 ·exact .inl h0
 ·exact .inr ⟨g,cap,cur,e1,gP hB e2,e3⟩
theorem aG.add (t:TypeId) {z:Value} {bytes:Nat} (hu:Tryz.prog.underlying t=some (.slice T)) (hi:(Tryz.prog.info? T).map (fun i=>(i.zero,i.size,i.bytes))=some (some z,sz,bytes)) (hzs:z.cells.size=sz) (hsz:0<sz)
  (hone:∀ vs x,R vs x→∀ u∈vs,u.oneCell'=true) (ty:TypeId) {G:Nat→Prop} {v2:Value} (h:aG B T sz R w v xs) (hx:aH G w sz R v2 ys) (hlen:(xs.length+ys.length)*bytes≤140737488355328) (hmx:xs.length+ys.length≤maxLen) (hB:B≤w.heap.size):
  ∃ v' w',WrA Tryz.prog #[t,t] ty #[v,v2] w=.ok v' w'∧aG B T sz R w' v' (xs++ys)∧Below B w w':=by
 obtain ⟨v',w',h1,h2,h3,_⟩:=h.append t hu hi hzs hsz hone ty hx hlen hmx hB;exact ⟨v',w',h1,h2,(gR B w).grown h3 hB fun k e=>(h.lt e).1⟩
theorem aG.push (t:TypeId) {z:Value} {bytes:Nat} (hu:Tryz.prog.underlying t=some (.slice T)) (hi:(Tryz.prog.info? T).map (fun i=>(i.zero,i.size,i.bytes))=some (some z,sz,bytes)) (hzs:z.cells.size=sz) (hsz:0<sz)
  (hone:∀ vs x,R vs x→∀ u∈vs,u.oneCell'=true) (ty:TypeId) {us:List Value} {x:β} (hus:us.length=sz) (hR:R us x) (h:aG B T sz R w v xs) (hlen:(xs.length+1)*bytes≤140737488355328) (hmx:xs.length+1≤maxLen) (hB:B≤w.heap.size):
  ∃ v' w',WrA Tryz.prog #[t,t] ty #[v,.slice (some ⟨w.heap.size,0,none⟩) 1 1] (w.alloc (.cells us.toArray T))=.ok v' w'∧aG B T sz R w' v' (xs++[x])∧Below B w w':=by
 have hb:Below w.heap.size w (w.alloc (.cells us.toArray T)):=(gR _ _).alloc (gO _) _;have q:=aC w (.cells us.toArray T);have hx:aH (fun _=>True) (w.alloc (.cells us.toArray T)) sz R (.slice (some ⟨w.heap.size,0,none⟩) 1 1) [x]:=
  ⟨_,_,rfl,gO _,by unfold maxLen;omega,fun _=>⟨_,_,rfl,trivial,fun i hi=>by
   obtain rfl:i=0:=by simpa using hi
   exact ⟨us,hus,hR,fun j u hj=>by simpa using aA q j u (by simpa using hj)⟩⟩⟩
 obtain ⟨v',w',h1,h2,h3⟩:=(h.below hb).add t hu hi hzs hsz hone ty hx hlen hmx (gP hB hb.size);exact ⟨v',w',h1,h2,(hb.mono hB).trans h3⟩
end
def aX (B:Nat) (w:World) (v:Value) (l:List Int):Prop:=aG B 3 1 cF w v l
def cL (B:Nat) (w:World) (v:Value) (l:List (List UInt8)):Prop:=aG B 9 1 iT w v l
section
variable {B:Nat} {w w':World} {v v2:Value} {xs ys:List Int}
theorem aX.add {G:Nat→Prop} (h:aX B w v xs) (hx:aF G w v2 ys) (hl:xs.length+ys.length≤1099511627776) (hB:B≤w.heap.size):∃ v' w',WrA Tryz.prog #[26,26] 26 #[v,v2] w=.ok v' w'∧aX B w' v' (xs++ys)∧Below B w w':=
 aG.add 26 Tryz.underlying26 cB rfl (by decide) cF.one _ h hx (by omega) (by unfold maxLen;omega) hB
theorem aX.push (x:Int) (h:aX B w v xs) (hl:xs.length+1≤1099511627776) (hB:B≤w.heap.size):∃ v' w',WrA Tryz.prog #[26,26] 26 #[v,.slice (some ⟨w.heap.size,0,none⟩) 1 1] (w.alloc (.cells #[.int .i64 x] 3))=.ok v' w'∧aX B w' v' (xs++[x])∧Below B w w':=
 aG.push 26 Tryz.underlying26 cB rfl (by decide) cF.one _ (us:=[.int .i64 x]) rfl rfl h (by omega) (by unfold maxLen;omega) hB
theorem aX.shape (h:aX B w v xs):∃ A c,v=.slice A xs.length c:=by
 obtain ⟨A,c,e,_⟩:=aG.shape h;exact ⟨A,c,e⟩
theorem aX.at_ (h:aX B w v xs):aF (Old w) w v xs:=aG.look h fun _ hg=>(aG.lt h hg).2
theorem aX.below (h:aX B w v xs) (hb:Below w.heap.size w w'):aX B w' v xs:=aG.below h hb
end
section
variable {B:Nat} {w w':World} {v v2:Value} {xs ys:List (List UInt8)}
theorem cL.add {G:Nat→Prop} (h:cL B w v xs) (hx:aW G w v2 ys) (hl:xs.length+ys.length≤1099511627776) (hB:B≤w.heap.size):∃ v' w',WrA Tryz.prog #[22,22] 22 #[v,v2] w=.ok v' w'∧cL B w' v' (xs++ys)∧Below B w w':=
 aG.add 22 Tryz.underlying22 fT rfl (by decide) iT.one _ h hx (by omega) (by unfold maxLen;omega) hB
theorem cL.push (x:List UInt8) (h:cL B w v xs) (hl:xs.length+1≤1099511627776) (hB:B≤w.heap.size):∃ v' w',WrA Tryz.prog #[22,22] 22 #[v,.slice (some ⟨w.heap.size,0,none⟩) 1 1] (w.alloc (.cells #[bs x] 9))=.ok v' w'∧cL B w' v' (xs++[x])∧Below B w w':=
 aG.push 22 Tryz.underlying22 fT rfl (by decide) iT.one _ (us:=[bs x]) rfl rfl h (by omega) (by unfold maxLen;omega) hB
theorem cL.shape (h:cL B w v xs):∃ A c,v=.slice A xs.length c:=by
 obtain ⟨A,c,e,_⟩:=aG.shape h;exact ⟨A,c,e⟩
theorem cL.at_ (h:cL B w v xs):aW (Old w) w v xs:=aG.look h fun _ hg=>(aG.lt h hg).2
theorem cL.below (h:cL B w v xs) (hb:Below w.heap.size w w'):cL B w' v xs:=aG.below h hb
end
theorem F5 (g:Gm) (s:Int):decide (g.T s)=(decide (1≤s)&&decide (s≤(g.terms.length:Int))):=by
 rw [Bool.eq_iff_iff,decide_eq_true_iff,Bool.and_eq_true,decide_eq_true_iff,decide_eq_true_iff];exact Iff.rfl
theorem F4 (g:Gm) (s:Int):decide (g.N s)=(decide ((g.terms.length:Int)<s)&&decide (s≤(g.top:Int))):=by
 rw [Bool.eq_iff_iff,decide_eq_true_iff,Bool.and_eq_true,decide_eq_true_iff,decide_eq_true_iff];exact Iff.rfl
theorem vU (G:Nat→Prop) (w:World) (vs:List Value) (g:Gm) (hG:∀ k,G k→k<w.heap.size) (hg:GmV G w vs g) (hl:g.top≤9223372036854775807):
  Calls Tryz.prog 38 #[ag vs] w fun e w'=>e=.returned (.int .i64 g.top)∧Below w.heap.size w w':=by
 obtain ⟨A0,c0,A1,c1,A2,c2,W,ev,hW,⟨x0,x1,x2,x3⟩,HB,HX⟩:=GBox.go hG hg;rw [ev];have HG:=Ha hG;clear hG hg ev;have e1:IntKind.i64.wrap ((g.terms.length:Int)+(g.nons.length:Int))=(g.top:Int):=by
  rw [IntWalk.i64_in _ (by unfold Gm.top at hl;omega)];unfold Gm.top;omega
 clear hl HX;go_enter Tryz.func38,Tryz.ntmps38;go_wp2_with fail;go_ret;exact ⟨rfl,HB.out⟩
theorem DH (G:Nat→Prop) (w:World) (vs:List Value) (g:Gm) (s:Int)(hG:∀ k,G k→k<w.heap.size) (hg:GmV G w vs g):
  Calls Tryz.prog 10 #[ag vs,.int .i64 s] w fun e w'=>e=.returned (.bool (decide (g.T s)))∧Below w.heap.size w w':=by
 obtain ⟨A0,c0,A1,c1,A2,c2,W,ev,hW,⟨x0,x1,x2,x3⟩,HB,HX⟩:=GBox.go hG hg;rw [ev];have HG:=Ha hG;clear hG hg ev;have HT:=Ha (F5 g s);clear HX;go_enter Tryz.func10,Tryz.ntmps10;by_cases h1:1≤s
 ·by_cases h2:s≤(g.terms.length:Int)
  ·go_wp2_with fail;go_ret;exact ⟨aJ (by rw [HT.out];simp;omega),HB.out⟩
  ·go_wp2_with fail;go_ret;exact ⟨aJ (by rw [HT.out];simp;omega),HB.out⟩
 ·go_wp2_with fail;go_ret;exact ⟨aJ (by rw [HT.out];simp;omega),HB.out⟩
theorem CB (G:Nat→Prop) (w:World) (vs:List Value) (g:Gm) (s:Int)(hG:∀ k,G k→k<w.heap.size) (hg:GmV G w vs g) (hl:g.top≤9223372036854775807):
  Calls Tryz.prog 42 #[ag vs,.int .i64 s] w fun e w'=>e=.returned (.bool (decide (g.N s)))∧Below w.heap.size w w':=by
 obtain ⟨A0,c0,A1,c1,A2,c2,W,ev,hW,⟨x0,x1,x2,x3⟩,HB,HX⟩:=GBox.go hG hg;rw [ev];have HG:=Ha hG;clear hG hg ev;have HT:=Ha (F4 g s);have HL:=Ha hl;clear hl;go_enter Tryz.func42,Tryz.ntmps42;by_cases h1:(g.terms.length:Int)<s
 ·go_wp2_with fail;refine (vU G _ _ g HX.out.old HX.out.gm HL.out).mono ?_;rintro e w1 ⟨rfl,hb1⟩;by_cases h2:s≤(g.top:Int)
  ·go_wp2_with fail;go_ret;exact ⟨aJ (by rw [HT.out];simp;omega),HB.out.trans (hb1.mono HB.out.size)⟩
  ·go_wp2_with fail;go_ret;exact ⟨aJ (by rw [HT.out];simp;omega),HB.out.trans (hb1.mono HB.out.size)⟩
 ·go_wp2_with fail;go_ret;exact ⟨aJ (by rw [HT.out];simp;omega),HB.out⟩
section
attribute [local go_sem ↓] aI
theorem aH.len {β:Type} {G:Nat→Prop} {w:World} {sz:Nat} {R:List Value→β→Prop} {A:Option Addr} {n c:Nat} {xs:List β} (h:aH G w sz R (.slice A n c) xs):n=xs.length∧n≤9223372036854775807:=by
 obtain ⟨A',c',e,h2,h3,_⟩:=h
 injection e with _ e _
 unfold maxLen at h3;exact ⟨e,by omega⟩
theorem dlt (k n:Nat):decide ((k:Int)<(n:Int))=decide (k<n):=by rw [Bool.eq_iff_iff,decide_eq_true_iff,decide_eq_true_iff];omega
theorem aF.drewN {G:Nat→Prop} {w:World} {v:Value} {l:List Int} (h:aF G w v l) (q:Nat):aF G (w.drewN q) v l:=h
theorem G3 (G:Nat→Prop) (w:World) (A1 A2:Option Addr) (n1 n2 c1 c2:Nat) (a b:List Int) (ha:aF G w (.slice A1 n1 c1) a) (hb:aF G w (.slice A2 n2 c2) b):
  Calls Tryz.prog 139 #[.slice A1 n1 c1,.slice A2 n2 c2] w fun e w'=>e=.returned (.bool (decide (a=b)))∧∃ m,w'=w.drewN m:=by
 have l1:=aH.len ha;have l2:=aH.len hb;have HA:=Ha ha;have HB:=Ha hb;have hm:=l1.2;have HL1:=Ha l1.1;have HL2:=Ha l2.1;clear ha hb l1 l2;go_enter Tryz.func139,Tryz.ntmps139;by_cases hl:n1=n2
 case neg=>
  have he:=Ha (decide_eq_false (show ¬a=b from fun h=>hl (by rw [HL1.out,HL2.out,h])));go_wp2_with fail;go_ret;exact ⟨aJ he.out.symm,0,rfl⟩
 subst hl;go_wp2
 go_loopw [5] (fun i wr=>∃ (k q:Nat),k≤n1∧i=.int .i64 k∧(a.drop k=b.drop k↔a=b)∧wr=w.drewN q) (fun i _=>n1-(intOf i).toNat)
 case atStart=>exact ⟨0,0,by omega,rfl,Iff.rfl,rfl⟩
 case round=>
  obtain ⟨k,q,hk,rfl,hi,rfl⟩:=hrel;by_cases hlt:k<n1
  ·have hlt1:k<a.length:=by have:=HL1.out;omega
   have hlt2:k<b.length:=by have:=HL2.out;omega
   obtain ⟨b1,o1,rfl,z1⟩:=HA.out.get hlt1;obtain ⟨b2,o2,rfl,z2⟩:=HB.out.get hlt2;rw [bD a k hlt1,bD b k hlt2] at hi;have HI:=Ha hi;clear hi
   revert HI z1 z2
   generalize a[k]=x;generalize b[k]=y;intro z1 z2 HI;by_cases hxy:x=y
   ·subst hxy;have HI2:=Ha (show a.drop (k+1)=b.drop (k+1)↔a=b by have:=HI.out;rw [List.cons.injEq] at this;simpa using this);clear HI;go_wp2_with fail
    go_quiet (fail)
    go_wp2_with fail
    go_roundw
    case rel=>exact ⟨k+1,_,by omega,by go_num,HI2.out,rfl⟩
    case measure=>simp only [intOf];omega
   ·have he:=Ha (decide_eq_false (show ¬a=b from fun h=>hxy (by have:=HI.out.2 h;injection this)));go_wp2_with fail
    go_quiet (fail)
    go_wp2_with fail;go_ret;exact ⟨aJ he.out.symm,q+nq,World.drewN_drewN ..⟩
  ·have he:=Ha (decide_eq_true (hi.1 (by rw [List.drop_eq_nil_of_le (by have:=HL1.out;omega),List.drop_eq_nil_of_le (by have:=HL2.out;omega)])));clear hi;go_wp2_with fail;go_ret;exact ⟨aJ he.out.symm,q,rfl⟩
theorem FE (G:Nat→Prop) (w:World) (A:Option Addr) (n c:Nat) (l:List (List UInt8)) (s:List UInt8) (ha:aW G w (.slice A n c) l):
  Calls Tryz.prog 37 #[.slice A n c,bs s] w fun e w'=>e=.returned (.int .i64 (fidx (fun x=>x==s) l 0))∧w'=w:=by
 have l1:=aH.len ha;have HA:=Ha ha;have hm:=l1.2;have HL:=Ha l1.1;clear ha l1;unfold bs;obtain ⟨S,hS⟩:∃ S:ByteArray,S=⟨s.toArray⟩:=⟨_,rfl⟩;rw [← hS];have HS:=Ha (show S.toList=s by rw [hS,cJ]);clear hS;go_enter Tryz.func37,Tryz.ntmps37;go_wp2
 go_loopw [5] (fun i wr=>∃ (k:Nat),k≤n∧i=.int .i64 k∧fidx (fun x=>x==s) (l.drop k) k=fidx (fun x=>x==s) l 0∧wr=w) (fun i _=>n-(intOf i).toNat)
 case atStart=>exact ⟨0,by omega,rfl,rfl,rfl⟩
 case round=>
  obtain ⟨k,hk,rfl,hi,rfl⟩:=hrel;by_cases hlt:k<n
  ·have hlt1:k<l.length:=by have:=HL.out;omega
   obtain ⟨b1,o1,rfl,z1⟩:=HA.out.get hlt1;rw [bD l k hlt1,fidx] at hi;unfold bs at z1;obtain ⟨X,hX⟩:∃ X:ByteArray,X=⟨l[k].toArray⟩:=⟨_,rfl⟩;rw [← hX] at z1;rw [show l[k]=X.toList by rw [hX,cJ],← HS.out] at hi;have HI:=Ha hi;clear hi hX;cases hq:(X.toList==S.toList)
   ·have HI2:=Ha (show fidx (fun x=>x==s) (l.drop (k+1)) (k+1)=fidx (fun x=>x==s) l 0 by have:=HI.out;rwa [if_neg (by rw [hq];decide),HS.out] at this);clear HI;go_wp2_with fail
    go_roundw
    case rel=>exact ⟨k+1,by omega,by go_num,HI2.out,trivial⟩
    case measure=>simp only [intOf];omega
   ·have he:=Ha (show (k:Int)=fidx (fun x=>x==s) l 0 by have:=HI.out;rwa [if_pos hq,HS.out] at this);clear HI;go_wp2_with fail;go_ret;exact ⟨bG he.out,rfl⟩
  ·have he:=Ha (show fidx (fun x=>x==s) l 0=-1 by rw [← hi,List.drop_eq_nil_of_le (by have:=HL.out;omega)];rfl);clear hi;go_wp2_with fail;go_ret;exact ⟨bG he.out.symm,rfl⟩
theorem H7 (G:Nat→Prop) (w:World) (vs:List Value) (g:Gm) (hG:∀ k,G k→k<w.heap.size) (hg:GmV G w vs g):
  Calls Tryz.prog 23 #[ag vs] w fun e w'=>e=.returned (.bool (g.rules.any (fun r=>decide (8<r.2.length))||decide (120<g.terms.length)||decide (120<g.nons.length)||decide (300<g.rules.length)))∧Below w.heap.size w w':=by
 obtain ⟨A0,c0,A1,c1,A2,c2,W,ev,hW,⟨x0,x1,x2,x3⟩,HB,HX⟩:=GBox.go hG hg;rw [ev];have HG:=Ha hG;clear hG hg ev;have HL:=Ha HX.out.lens;go_enter Tryz.func23,Tryz.ntmps23;go_wp2
 go_loopw [3] (fun i wr=>∃ (k:Nat),k≤g.rules.length∧i=.int .i64 k∧(g.rules.drop k).any (fun r=>decide (8<r.2.length))=g.rules.any (fun r=>decide (8<r.2.length))∧wr=W) (fun i _=>g.rules.length-(intOf i).toNat)
 case atStart=>exact ⟨0,by omega,rfl,rfl,rfl⟩
 case round=>
  obtain ⟨k,hk,rfl,hi,rfl⟩:=hrel;by_cases hlt:k<g.rules.length
  ·obtain ⟨bb,off,Ar,cr,rfl,z0,z1,zi⟩:=HX.out.rule hlt;have hm:=zi.len.2;rw [bD g.rules k hlt,List.any_cons] at hi;have HI:=Ha hi;have hml:=HL.out.2.2;clear hi zi;by_cases h8:8<g.rules[k].2.length
   ·have HI2:=Ha (show g.rules.any (fun r=>decide (8<r.2.length))=true by rw [← HI.out,decide_eq_true h8];rfl);clear HI;go_wp2_with fail;go_ret;exact ⟨by first | rfl | (simp [HI2.out];done) | (rw [HI2.out];rfl),HB.out⟩
   ·have HI2:=Ha (show (g.rules.drop (k+1)).any (fun r=>decide (8<r.2.length))=g.rules.any (fun r=>decide (8<r.2.length)) by rw [← HI.out,decide_eq_false h8,Bool.false_or]);clear HI;go_wp2_with fail
    go_roundw
    case rel=>exact ⟨k+1,by omega,by go_num,HI2.out,by first | rfl | trivial⟩
    case measure=>simp only [intOf];omega
  ·have he:=Ha (show g.rules.any (fun r=>decide (8<r.2.length))=false by rw [← hi,List.drop_eq_nil_of_le (by omega)];rfl);clear hi;obtain ⟨e1,e2,e3⟩:=hs3 (dlt 120 g.terms.length) (dlt 120 g.nons.length) (dlt 300 g.rules.length);by_cases h1:120<g.terms.length
   ·go_wp2_with fail;go_ret;exact ⟨by first | rfl | (simp [he.out];done),HB.out⟩
   by_cases h2:120<g.nons.length
   ·go_wp2_with fail;go_ret;exact ⟨by first | rfl | (simp [he.out];done),HB.out⟩
   go_wp2_with fail;go_ret;exact ⟨aJ (by rw [he.out,Bool.false_or,← e1.out,← e2.out,← e3.out];rfl),HB.out⟩
end
section
attribute [local go_sem ↓] aI
section
variable {β:Type} [DecidableEq β] {l:List β} {i:Nat}
omit [DecidableEq β] in
theorem dG (h:i<l.length):l.take (i+1)=l.take i++[l[i]]:=by rw [List.take_append_getElem h]
omit [DecidableEq β] in
theorem pX (h:i<l.length) (hn:(l.take i).Nodup) (hm:l[i] ∉ l.take i):(l.take (i+1)).Nodup:=by
 rw [dG h,List.nodup_append];exact ⟨hn,by simp,fun a ha b hb e=>by rw [gV] at hb;subst hb;subst e;exact hm ha⟩
omit [DecidableEq β] in
theorem pW (h:i<l.length) (hm:l[i]∈l.take i):¬l.Nodup:=fun hn=>by
 have h1:(l.take (i+1)).Nodup:=hn.sublist (List.take_sublist _ _);rw [dG h,List.nodup_append] at h1;exact h1.2.2 _ hm _ (by simp) rfl
omit [DecidableEq β] in
theorem eD {x:β} {k:Nat} (h:k<l.length) (hm:x ∉ l.take k) (hx:¬x=l[k]):x ∉ l.take (k+1):=by
 rw [dG h,List.mem_append,gV];exact fun h=>h.elim hm hx
omit [DecidableEq β] in
theorem r5 {x:β} {k i:Nat} (h:k<i) (hk:k<l.length) (hx:x=l[k]):x∈l.take i:=by
 rw [hx,List.mem_take_iff_getElem];exact ⟨k,by omega,rfl⟩
end
theorem up {W:World} {o:Obj} {k:Nat} {x:Obj} (h:W.heap[k]? = some x):(W.alloc o).heap[k]? = some x:=(Below.heap_alloc _ _ _ (gL h).1).trans h
def ofR (s:Int):List (Int×List Int)→Nat→List Int
 | [],_=>[]
 | r::l,k=>if r.1=s then (k:Int)::ofR s l (k+1) else ofR s l (k+1)
theorem p4 (s:Int):∀ (l:List (Int×List Int)) (k:Nat),ofR s l k=[]↔∀ r∈l,r.1≠s
 | [],_=>by simp [ofR]
 | r::l,k=>by
  rw [ofR];by_cases h:r.1=s
  ·rw [if_pos h];simp [h]
  ·rw [if_neg h,p4 s l];simp [h]
theorem eY (s:Int):∀ (l:List (Int×List Int)) (k:Nat),(ofR s l k).length≤l.length
 | [],_=>gO _
 | r::l,k=>by
  rw [ofR];have:=eY s l (k+1)
  split <;> simp <;> omega
theorem rF {β:Type} [BEq β] [LawfulBEq β] (l:List β) (s:β) (k:Nat):(0≤fidx (fun x=>x==s) l k)↔s∈l:=by
 have h:=fJ (fun x=>x==s) l k;rw [Bool.eq_iff_iff,decide_eq_true_iff,List.any_eq_true] at h;rw [h];simp
theorem tV (G:Nat→Prop) (w:World) (vs us:List Value) (a b:Int×List Int) (hG:∀ k,G k→k<w.heap.size) (ha:RuV G w vs a) (hb:RuV G w us b):
  Calls Tryz.prog 73 #[ag vs,ag us] w fun e w'=>e=.returned (.bool (decide (a=b)))∧Below w.heap.size w w':=by
 obtain ⟨Aa,ca,rfl,_,_⟩:=ha.shape;obtain ⟨Ab,cb,rfl,_,_⟩:=hb.shape;have hb1:Below w.heap.size w (w.alloc (.cells #[.int .i64 a.1,.slice Aa a.2.length ca] 64)):=(gR _ _).alloc (gO _) _;have hb2:Below w.heap.size w ((w.alloc (.cells #[.int .i64 a.1,.slice Aa a.2.length ca] 64)).alloc (.cells #[.int .i64 b.1,.slice Ab b.2.length cb] 64)):=hb1.alloc (by simp) _;have q0:=up (aC w (.cells #[.int .i64 a.1,.slice Aa a.2.length ca] 64)) (o:=.cells #[.int .i64 b.1,.slice Ab b.2.length cb] 64);have q1:=aC (w.alloc (.cells #[.int .i64 a.1,.slice Aa a.2.length ca] 64)) (.cells #[.int .i64 b.1,.slice Ab b.2.length cb] 64);rw [show (w.alloc (.cells #[.int .i64 a.1,.slice Aa a.2.length ca] 64)).heap.size=w.heap.size+1 by simp] at q1;unfold ag;generalize hW:(w.alloc (.cells #[.int .i64 a.1,.slice Aa a.2.length ca] 64)).alloc (.cells #[.int .i64 b.1,.slice Ab b.2.length cb] 64)=W at *;have y0:=aA q0 0 _ rfl;have y1:=aA q0 1 _ rfl;have z0:=aA q1 0 _ rfl;have z1:=aA q1 1 _ rfl;obtain ⟨va,ea,ia⟩:=ha
 injection ea with _ ea
 injection ea with ea _
 subst ea;obtain ⟨vb,eb,ib⟩:=hb
 injection eb with _ eb
 injection eb with eb _
 subst eb;obtain ⟨HI,HB,HE⟩:=hs3 (G3 G W _ _ _ _ _ _ a.2 b.2 (aF.below hG hb2 ia) (aF.below hG hb2 ib)) hb2 (show decide (a=b)=(decide (a.1=b.1)&&decide (a.2=b.2)) by rw [Bool.eq_iff_iff];simp [Prod.ext_iff]);clear hb1 hb2 q0 q1 ia ib hG;obtain ⟨a1,a2⟩:=a;obtain ⟨b1,b2⟩:=b;dsimp only at *;go_enter Tryz.func73,Tryz.ntmps73;by_cases h1:a1=b1
 ·subst h1;go_wp2_with fail;refine (HI.out).mono ?_;rintro e w1 ⟨rfl,m,rfl⟩;go_wp2_with fail;go_ret;exact ⟨aJ (by rw [HE.out];simp),lI HB.out m⟩
 ·go_wp2_with fail;go_ret;exact ⟨by first | rfl | (rw [HE.out,decide_eq_false h1];rfl),HB.out⟩
theorem JX (G:Nat→Prop) (w:World) (vs:List Value) (g:Gm) (s:Int)(hG:∀ k,G k→k<w.heap.size) (hg:GmV G w vs g) (hl:g.rules.length≤1099511627775):
  Calls Tryz.prog 29 #[ag vs,.int .i64 s] w fun e w'=>∃ v,e=.returned v∧aX w.heap.size w' v (ofR s g.rules 0)∧Below w.heap.size w w':=by
 obtain ⟨A0,c0,A1,c1,A2,c2,W,ev,hW,⟨x0,x1,x2,x3⟩,HB,HX⟩:=GBox.go hG hg;rw [ev];have HG:=Ha hG;clear hG hg ev;go_enter Tryz.func29,Tryz.ntmps29;go_wp2
 go_loopw [5,6] (fun o i wr=>∃ (k:Nat) (l:List Int),k≤g.rules.length∧i=.int .i64 k∧aX W.heap.size wr o l∧l.length≤k∧l++ofR s (g.rules.drop k) k=ofR s g.rules 0∧Below W.heap.size W wr) (fun _ i _=>g.rules.length-(intOf i).toNat)
 case atStart=>exact ⟨0,[],by omega,rfl,aG.nil _ _ _ _ _,by simp,rfl,gR _ _⟩
 case round=>
  obtain ⟨k,l,hk,rfl,ho,hll,hi,hb⟩:=hrel;obtain ⟨Ao,co,rfl⟩:=ho.shape;obtain ⟨HO,HBR,HXR⟩:=hs3 ho hb (HX.out.on hb);clear x0 x1 x2 x3;obtain ⟨x0,x1,x2,x3⟩:=HXR.out.cells;clear ho hb;by_cases hlt:k<g.rules.length
  ·obtain ⟨bb,off,Ar,cr,rfl,z0,z1,zi⟩:=HXR.out.rule hlt;rw [bD _ k hlt,ofR] at hi;clear zi;by_cases hs:g.rules[k].1=s
   ·rw [if_pos hs] at hi;obtain ⟨v',w',hrun,ho',hb'⟩:=HO.out.push (k:Int) (by omega) HBR.out.size;obtain ⟨HO2,HB2,HI⟩:=hs3 ho' hb' hi;clear ho' hb' hi;subst hs;go_wp2_with fail
    go_roundw
    case rel=>exact ⟨k+1,l++[(k:Int)],by omega,by go_num,HO2.out,by simp;omega,by rw [List.append_assoc];exact HI.out,HBR.out.trans HB2.out⟩
    case measure=>simp only [intOf];omega
   ·rw [if_neg hs] at hi;have HI:=Ha hi;clear hi;go_wp2_with fail
    go_roundw
    case rel=>exact ⟨k+1,l,by omega,by go_num,HO.out,by omega,HI.out,HBR.out⟩
    case measure=>simp only [intOf];omega
  ·have HE:=Ha (show ofR s g.rules 0=l by rw [← hi,List.drop_eq_nil_of_le (by omega)];simp [ofR]);clear hi;go_wp2_with fail;go_ret;exact ⟨_,rfl,by rw [HE.out];exact aG.lower HO.out HB.out.size,HB.out.trans (HBR.out.mono HB.out.size)⟩
theorem DR (G:Nat→Prop) (w:World) (vs:List Value) (g:Gm) (hG:∀ k,G k→k<w.heap.size) (hg:GmV G w vs g):
  Calls Tryz.prog 28 #[ag vs] w fun e w'=>e=.returned (.bool (decide g.rules.Nodup))∧Below w.heap.size w w':=by
 obtain ⟨A0,c0,A1,c1,A2,c2,W,ev,hW,⟨x0,x1,x2,x3⟩,HB,HX⟩:=GBox.go hG hg;rw [ev];have HG:=Ha hG;clear hG hg ev;have HL:=Ha HX.out.lens;go_enter Tryz.func28,Tryz.ntmps28;go_wp2
 go_loopw [3] (fun i wr=>∃ (k:Nat),k≤g.rules.length∧i=.int .i64 k∧(g.rules.take k).Nodup∧Below W.heap.size W wr) (fun i _=>g.rules.length-(intOf i).toNat)
 case atStart=>exact ⟨0,by omega,rfl,by simp,gR _ _⟩
 case round=>
  obtain ⟨k,hk,rfl,hi,hb⟩:=hrel;obtain ⟨HBR,HI,HXR⟩:=hs3 hb hi (HX.out.on hb);clear x0 x1 x2 x3;obtain ⟨x0,x1,x2,x3⟩:=HXR.out.cells;have hml:=HL.out.2.2;clear hb hi;by_cases hlt:k<g.rules.length
  ·go_wp2
   go_loopw [4] (fun i wr=>∃ (j:Nat),j≤k∧i=.int .i64 j∧g.rules[k] ∉ g.rules.take j∧Below W.heap.size W wr) (fun i _=>k-(intOf i).toNat)
   case atStart=>exact ⟨0,by omega,rfl,by simp,HBR.out⟩
   case round=>
    obtain ⟨j,hj,rfl,hi,hb⟩:=hrel;obtain ⟨HBQ,HJ,HXQ⟩:=hs3 hb hi (HX.out.on hb);clear x0 x1 x2 x3;obtain ⟨x0,x1,x2,x3⟩:=HXQ.out.cells;clear hb hi;by_cases hjk:j<k
    ·have hjl:j<g.rules.length:=by omega
     obtain ⟨bb,off,Ak,ck,eA,z0,z1,zi⟩:=HXQ.out.rule hlt;obtain ⟨bb',off',Aj,cj,eA',y0,y1,yi⟩:=HXQ.out.rule hjl;subst eA
     injection eA' with eA'
     injection eA' with e1 e2
     subst e1 e2;have p:=fun Y:Gr wr=>Y.calls (tV G Y.at_ [.int .i64 g.rules[k].1,.slice Ak g.rules[k].2.length ck] [.int .i64 g.rules[j].1,.slice Aj g.rules[j].2.length cj] g.rules[k] g.rules[j] (bN HXQ.out.old Y.2) (RuV.below HXQ.out.old Y.2 ⟨_,rfl,zi⟩) (RuV.below HXQ.out.old Y.2 ⟨_,rfl,yi⟩));unfold ag at p;have hq0:(decide (g.rules[k]=g.rules[j])=true→¬g.rules.Nodup)∧(decide (g.rules[k]=g.rules[j])=false→g.rules[k] ∉ g.rules.take (j+1)):=
      ⟨fun h=>pW hlt (r5 hjk hjl (of_decide_eq_true h)),fun h=>eD hjl HJ.out (of_decide_eq_false h)⟩
     generalize decide (g.rules[k]=g.rules[j])=q at p hq0;have HQ:=Ha hq0;clear hq0;have f2:=fun Y:Gr wr=>Y.cell _ _ x2;have fk0:=fun Y:Gr wr=>Y.cell _ _ z0;have fk1:=fun Y:Gr wr=>Y.cell _ _ z1;have fj0:=fun Y:Gr wr=>Y.cell _ _ y0;have fj1:=fun Y:Gr wr=>Y.cell _ _ y1;have hne:Nonempty (Gr wr):=⟨⟨_,gR _ _⟩⟩;clear zi yi z0 z1 y0 y1 x0 x1 x2 x3 HJ
     revert p HQ fk0 fk1 fj0 fj1
     generalize g.rules[k]=rk;generalize g.rules[j]=rj;obtain ⟨k1,k2⟩:=rk;obtain ⟨j1,j2⟩:=rj;dsimp only;intro p HQ fk0 fk1 fj0 fj1;go_wp2_with fail;refine aN (S:=Gr wr) Gr.at_ (by kernel_rfl) (by kernel_rfl) (Gr.drew _) ?_;repeat (go_big_quiet_step (with_reducible exact p _))
     refine wpQuiet_nil ?_;rintro wy ⟨⟨wy',hY⟩,hY2⟩;obtain rfl:wy=wy':=hY2;clear p f2 fk0 fk1 fj0 fj1 hne;have HBY:=Ha (HBQ.out.trans (hY.mono HBQ.out.size));clear hY;cases q
     ·have he:=Ha (HQ.out.2 rfl);clear HQ;go_wp2_with fail
      go_roundw
      case rel=>exact ⟨j+1,by omega,by go_num,he.out,HBY.out⟩
      case measure=>simp only [intOf];omega
     ·have he:=Ha (decide_eq_false (HQ.out.1 rfl));clear HQ;go_wp2_with fail;go_ret;exact ⟨by first | (rw [he.out];done) | (rw [he.out];rfl),HB.out.trans (HBY.out.mono HB.out.size)⟩
    ·have he:=Ha (show (g.rules.take (k+1)).Nodup by
      have hjk:j=k:=by omega
      have:=HJ.out;rw [hjk] at this;exact pX hlt HI.out this)
     go_wp2_with fail
     go_roundw
     case rel=>exact ⟨k+1,by omega,by go_num,he.out,HBQ.out⟩
     case measure=>simp only [intOf];omega
  ·have he:=Ha (decide_eq_true (show g.rules.Nodup by have:=HI.out;rwa [List.take_of_length_le (by omega)] at this));go_wp2_with fail;go_ret;exact ⟨by first | (rw [he.out];done) | (rw [he.out];rfl),HB.out.trans (HBR.out.mono HB.out.size)⟩
end
section
attribute [local go_sem ↓] aI
theorem E4 (G:Nat→Prop) (w:World) (vs:List Value) (g:Gm) (hG:∀ k,G k→k<w.heap.size) (hg:GmV G w vs g) (hl:g.top≤1099511627775):
  Calls Tryz.prog 26 #[ag vs] w fun e w'=>∃ v,e=.returned v∧cL w.heap.size w' v g.names∧Below w.heap.size w w':=by
 obtain ⟨A0,c0,A1,c1,A2,c2,W,ev,hW,⟨x0,x1,x2,x3⟩,HB,HX⟩:=GBox.go hG hg;rw [ev];have HG:=Ha hG;clear hG hg ev;unfold Gm.top at hl;have hba:Below W.heap.size W (W.drew.alloc (.cells #[] 9)):=((gR _ _).drew).alloc (by simp) _;have hn0:cL W.heap.size (W.drew.alloc (.cells #[] 9)) (.slice (some ⟨W.heap.size,0,none⟩) 0 0) []:=by
  have:=aG.fresh (T:=9) (sz:=1) W.drew (B:=W.heap.size) (by simp) iT;unfold cL
  simpa using this
 obtain ⟨v1,w1,hr1,hs1,hb1⟩:=hn0.add (aW.below HX.out.old hba HX.out.ht) (by simp;omega) hba.size;rw [List.nil_append] at hs1;obtain ⟨A3,c3,rfl⟩:=hs1.shape;have hbb:=hba.trans hb1;obtain ⟨v2,w2,hr2,hs2,hb2⟩:=hs1.add (aW.below HX.out.old hbb HX.out.hn) (by omega) hbb.size;have y1:=aD x1 hbb;have z0:=aD x0 hba;have z1:=aD x1 hba;obtain ⟨A4,c4,rfl⟩:=hs2.shape;rw [gI] at hs2 hr2;have HS2:=Ha hs2;have HB2:=Ha (hbb.trans hb2);rw [show W.drew.alloc (.cells #[] 9)=(W.alloc (.cells #[] 9)).drew from rfl] at hr1 z0 z1;clear hn0 hs1 hs2 hb1 hb2 hba hbb HX;go_enter Tryz.func26,Tryz.ntmps26;go_wp2
 go_region
 go_wp2;go_ret;exact ⟨_,rfl,aG.lower HS2.out HB.out.size,HB.out.trans (HB2.out.mono HB.out.size)⟩
theorem IC (G:Nat→Prop) (w:World) (A:Option Addr) (n c:Nat) (l:List (List UInt8)) (hG:∀ k,G k→k<w.heap.size) (ha:aW G w (.slice A n c) l):
  Calls Tryz.prog 25 #[.slice A n c] w fun e w'=>e=.returned (.bool (decide l.Nodup))∧Below w.heap.size w w':=by
 have l1:=aH.len ha;have HA:=Ha ha;have hm:=l1.2;have HL:=Ha l1.1;have HG:=Ha hG;clear ha l1 hG;go_enter Tryz.func25,Tryz.ntmps25;go_wp2
 go_loopw [3] (fun i wr=>∃ (k:Nat),k≤n∧i=.int .i64 k∧(l.take k).Nodup∧Below w.heap.size w wr) (fun i _=>n-(intOf i).toNat)
 case atStart=>exact ⟨0,by omega,rfl,by simp,gR _ _⟩
 case round=>
  obtain ⟨k,hk,rfl,hi,hb⟩:=hrel;have HBR:=Ha hb;have HAR:=Ha (aW.below HG.out hb HA.out);clear hb;have HI:=Ha hi;clear hi;by_cases hlt:k<n
  ·have hlt1:k<l.length:=by have:=HL.out;omega
   obtain ⟨b1,o1,rfl,z1⟩:=HAR.out.get hlt1;have hsub:aW G wr (.slice (some ⟨b1,o1,none⟩) k c) (l.take k):=by
    obtain ⟨A',c',e,h2,h3,h4⟩:=HAR.out
    injection e with e1 e2 e3
    subst e1 e3;refine ⟨_,_,by rw [List.length_take];congr 1;omega,by rw [List.length_take];omega,h3,fun hn=>?_⟩;obtain ⟨b,off,e,hg,hel⟩:=h4 (by omega);refine ⟨b,off,e,hg,fun i hi=>?_⟩;rw [List.length_take] at hi;obtain ⟨vs,h5,h6,h7⟩:=hel i (by omega);exact ⟨vs,h5,by rw [List.getElem_take];exact h6,h7⟩
   have hq0:(decide (0≤fidx (fun x=>x==l[k]) (l.take k) 0)=true→¬l.Nodup)∧(decide (0≤fidx (fun x=>x==l[k]) (l.take k) 0)=false→(l.take (k+1)).Nodup):=
    ⟨fun h=>pW hlt1 ((rF _ _ _).1 (of_decide_eq_true h)),fun h=>pX hlt1 HI.out (fun hm=>of_decide_eq_false h ((rF _ _ _).2 hm))⟩
   have p:=fun Y:Gr wr=>Y.calls ((FE G Y.at_ _ _ _ _ l[k] (aW.below (bN HG.out HBR.out) Y.2 hsub)).mono fun _ w' h=>(⟨h.1,h.2▸gR _ _⟩:_∧Below Y.at_.heap.size Y.at_ w'));have f1:=fun Y:Gr wr=>Y.cell _ _ z1;have hne:Nonempty (Gr wr):=⟨⟨_,gR _ _⟩⟩;have HQ:=Ha hq0;clear hq0 hsub z1
   revert p HQ f1
   generalize fidx (fun x=>x==l[k]) (l.take k) 0=r;generalize l[k]=x;unfold bs;intro p f1 HQ;have hk0:(0:Int)≤(k:Int):=by omega
   have hk1:(k:Int)≤(c:Int):=by have:=HL.out;have:=HA.out;obtain ⟨_,c',e,h2,_⟩:=this;injection e with _ _ e;omega
   have hk2:k≤c:=by omega
   go_wp2_with fail;refine aN (S:=Gr wr) Gr.at_ (by kernel_rfl) (by kernel_rfl) (Gr.drew _) ?_;repeat (go_big_quiet_step (with_reducible exact p _))
   refine wpQuiet_nil ?_;rintro wy ⟨⟨wy',hY⟩,hY2⟩;obtain rfl:wy=wy':=hY2;have HBY:=Ha (HBR.out.trans (hY.mono HBR.out.size));clear p f1 hne hY;cases hr:decide (0≤r)
   ·have he:=Ha (HQ.out.2 hr);have hr2:=of_decide_eq_false hr;clear hr HQ;go_wp2_with fail
    go_roundw
    case rel=>exact ⟨k+1,by omega,by go_num,he.out,HBY.out⟩
    case measure=>simp only [intOf];omega
   ·have he:=Ha (decide_eq_false (HQ.out.1 hr));have hr2:=of_decide_eq_true hr;clear hr HQ;go_wp2_with fail;go_ret;exact ⟨by first | (rw [he.out];done) | (rw [he.out];rfl),HBY.out⟩
  ·have he:=Ha (decide_eq_true (show l.Nodup by have:=HI.out;rwa [List.take_of_length_le (by have:=HL.out;omega)] at this));go_wp2_with fail;go_ret;exact ⟨by first | (rw [he.out];done) | (rw [he.out];rfl),HBR.out⟩
end
end Go.Proofs.YtpidmmfjcghmeaaGreat
