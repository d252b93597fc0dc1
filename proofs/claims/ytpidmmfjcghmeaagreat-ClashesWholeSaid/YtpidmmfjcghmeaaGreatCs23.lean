/- Towards clashesWhole_upto. -/
import Derived.Test.YtpidmmfjcghmeaaGreatCs15
import Derived.Deep.DeepCutAuto
import Derived.Deep.RegionHeld3
import Derived.Deep.RegionWith
import Derived.Test.YtpidmmfjcghmeaaGreatCs09
import Derived.Test.YtpidmmfjcghmeaaGreatCs17
set_option maxRecDepth 100000
set_option maxHeartbeats 16000000
set_option linter.all false
namespace Go.Proofs.YtpidmmfjcghmeaaGreat
open Go.RowKit
section
attribute [local go_sem ↓] aI
theorem oH (X:Nat) (s:Int):∀ n i,s∈dK X n i↔∃ j:Nat,s=(j:Int)∧i≤j∧j<i+n∧X.testBit j=true
 | 0,i=>by
  rw [dK];constructor
  ·intro h;cases h
  ·rintro ⟨j,_,h1,h2,_⟩;omega
 | n+1,i=>by
  rw [dK];have ih:=oH X s n (i+1);by_cases hb:X.testBit i=true
  ·rw [if_pos hb,List.mem_cons,ih];constructor
   ·rintro (rfl | ⟨j,h1,h2,h3,h4⟩)
    ·exact ⟨i,rfl,gO _,by omega,hb⟩
    ·exact ⟨j,h1,by omega,by omega,h4⟩
   ·rintro ⟨j,h1,h2,h3,h4⟩;by_cases e:j=i
    ·subst e;exact .inl h1
    ·exact .inr ⟨j,h1,by omega,by omega,h4⟩
  ·rw [if_neg hb,ih];constructor
   ·rintro ⟨j,h1,h2,h3,h4⟩;exact ⟨j,h1,by omega,by omega,h4⟩
   ·rintro ⟨j,h1,h2,h3,h4⟩;have e:j≠i:=fun e=>hb (e▸h4);exact ⟨j,h1,by omega,by omega,h4⟩
theorem aO {w:World} {k:Nat} {cs:Array Value} {T:TypeId} {fz:Nat×Nat} (hh:w.heap[k]? = some (.cells cs T fz)) (i:Nat) (v:Value):(w.setCell ⟨k,i,none⟩ v).heap[k]? = some (.cells (cs.setIfInBounds i v) T fz):=by
 simp [World.setCell,Array.getElem?_modify,hh]
structure On (g:Gm) (bo bn n N b0:Nat) (w0 w5 w:World) (vt vn:Value) (l:List Int):Prop where
 out:w.heap[bo]? = some (.cells #[vt,vn,.slice none 0 0,.int .i64 0] 25 (0,0))
 t:cL N w vt ((l.filter fun s=>decide (g.T s)).map g.name)
 nn:cL N w vn ((l.filter fun s=>!decide (g.T s)).map g.name)
 apart:∀ j,vt.ownBlock=some j→vn.ownBlock≠some j
 now:w.rowIs bn 3 n (fun j=>.int .i64 (xM l j))
 same:∀ k,k<N→k≠bo→k≠bn→w.heap[k]? = w5.heap[k]?
 bel:Below b0 w0 w
 sz:N≤w.heap.size
structure Om (g:Gm) (bo bn n N b0:Nat) (w0 w5 w:World) (vt vn:Value) (l:List Int) (x:Int):Prop where
 out:w.heap[bo]? = some (.cells #[vt,vn,.slice none 0 0,.int .i64 0] 25 (0,0))
 t:cL N w vt ((l.filter fun s=>decide (g.T s)).map g.name)
 nn:cL N w vn ((l.filter fun s=>!decide (g.T s)).map g.name)
 apart:∀ j,vt.ownBlock=some j→vn.ownBlock≠some j
 now:w.rowIs bn 3 n (fun j=>.int .i64 (xM (l++[x]) j))
 same:∀ k,k<N→k≠bo→k≠bn→w.heap[k]? = w5.heap[k]?
 bel:Below b0 w0 w
 sz:N≤w.heap.size
section
variable {g:Gm} {bo bn n N b0:Nat} {w0 w5 w w':World} {vt vn:Value} {l:List Int} {x:Int}
theorem On.put {m:Nat} (h:On g bo bn n N b0 w0 w5 w vt vn l) (hm:(m:Int) ∉ l) (h1:bn≠bo) (h2:bn<N) (h3:b0≤bn):
  Om g bo bn n N b0 w0 w5 (w.setCell ⟨bn,m,none⟩ (.int .i64 ((l.length:Int)+1))) vt vn l (m:Int):=by
 have e:∀ k,k≠bn→(w.setCell ⟨bn,m,none⟩ (.int .i64 ((l.length:Int)+1))).heap[k]? = w.heap[k]? := fun k hk=>gU _ _ _ _ hk;refine ⟨(e _ h1.symm).trans h.out,h.t.keep fun j hj=>e _ ?_,h.nn.keep fun j hj=>e _ ?_,h.apart,(h.now.set m _).congr fun j _=>?_,fun k hk k1 k2=>(e k k2).trans (h.same k hk k1 k2),h.bel.setCell h3 _,by simpa using h.sz⟩
 ·have:=(aG.lt h.t hj).1;omega
 ·have:=(aG.lt h.nn hj).1;omega
 ·rw [xN hm]
  split <;> rfl
theorem Om.below (h:Om g bo bn n N b0 w0 w5 w vt vn l x) (hb:Below w.heap.size w w') (h1:bo<N) (h2:bn<N) (h3:b0≤w.heap.size):Om g bo bn n N b0 w0 w5 w' vt vn l x:=by
 have hz:=h.sz;refine ⟨(hb.block _ (by omega)).trans h.out,h.t.below hb,h.nn.below hb,h.apart,h.now.of_block (hb.block _ (by omega)),fun k hk k1 k2=>(hb.block _ (by omega)).trans (h.same k hk k1 k2),h.bel.trans (hb.mono h3),gP hz hb.size⟩
end
end
section
attribute [local go_sem ↓] aI
structure Or (bo N b0:Nat) (w0 w9 w:World) (vt vn vr:Value) (st:Int) (l:List (Int×List Int)):Prop where
 out:w.heap[bo]? = some (.cells #[vt,vn,vr,.int .i64 st] 25 (0,0))
 r:Rus N w vr l
 same:∀ k,k<N→k≠bo→w.heap[k]? = w9.heap[k]?
 bel:Below b0 w0 w
 sz:N≤w.heap.size
section
variable {g:Gm} {bo bn n N b0:Nat} {w0 w5 w w' w9 wy:World} {vt vn vr:Value} {st:Int} {l:List (Int×List Int)}
theorem On.start {l:List Int} (h:On g bo bn n N b0 w0 w5 w vt vn l) (st:Int) (h0:b0≤bo) (h1:bo<N) (hne:bo≠bn):
  Or bo w.heap.size b0 w0 (w.setCell ⟨bo,3,none⟩ (.int .i64 st)) (w.setCell ⟨bo,3,none⟩ (.int .i64 st)) vt vn (.slice none 0 0) st []∧cL N (w.setCell ⟨bo,3,none⟩ (.int .i64 st)) vt ((l.filter fun s=>decide (g.T s)).map g.name)∧cL N (w.setCell ⟨bo,3,none⟩ (.int .i64 st)) vn ((l.filter fun s=>!decide (g.T s)).map g.name)∧
   (w.setCell ⟨bo,3,none⟩ (.int .i64 st)).rowIs bn 3 n (fun j=>.int .i64 (xM l j))∧∀ k,k<N→k≠bo→k≠bn→(w.setCell ⟨bo,3,none⟩ (.int .i64 st)).heap[k]? = w5.heap[k]? := by
 have e:∀ k,k≠bo→(w.setCell ⟨bo,3,none⟩ (.int .i64 st)).heap[k]? = w.heap[k]? := fun k hk=>gU _ _ _ _ hk;refine ⟨⟨aO h.out _ _,Rus.nil _ _,fun _ _ _=>rfl,h.bel.setCell h0 _,by simp⟩,h.t.keep fun j hj=>e j ?_,h.nn.keep fun j hj=>e j ?_,h.now.of_block (e _ (Ne.symm hne)),fun k hk k1 k2=>(e k k1).trans (h.same k hk k1 k2)⟩
 ·have:=(aG.lt h.t hj).1;omega
 ·have:=(aG.lt h.nn hj).1;omega
theorem Or.below (h:Or bo N b0 w0 w9 w vt vn vr st l) (hb:Below w.heap.size w w') (h1:bo<N) (hb0:b0≤N):Or bo N b0 w0 w9 w' vt vn vr st l:=by
 have hz:=h.sz;have hz2:=hb.size;exact ⟨(hb.block _ (by omega)).trans h.out,h.r.below hb,fun k hk k1=>(hb.block _ (by omega)).trans (h.same k hk k1),h.bel.trans (hb.mono (by omega)),by omega⟩
theorem Or.add {v8:Value} {w8:World} {x:Int×List Int} (h:Or bo N b0 w0 w9 w vt vn vr st l) (h0:b0≤bo) (h1:bo<N) (hb0:b0≤N) (hb:Below w.heap.size w wy) (hr:Rus N w8 v8 (l++[x])) (hb8:Below N wy w8):
  Or bo N b0 w0 w9 (w8.setCell ⟨bo,2,none⟩ v8) vt vn v8 st (l++[x]):=by
 have hz:=h.sz;have hz2:=hb.size;have hz3:=hb8.size;have e:∀ k,k≠bo→(w8.setCell ⟨bo,2,none⟩ v8).heap[k]? = w8.heap[k]? := fun k hk=>gU _ _ _ _ hk;have hq:w8.heap[bo]? = some (.cells #[vt,vn,vr,.int .i64 st] 25 (0,0)):=(hb8.block _ h1).trans ((hb.block _ (by omega)).trans h.out);refine ⟨aO hq _ _,hr.keep (fun k hk _=>e k (by omega)) (by simp),fun k hk k1=>(e k k1).trans ((hb8.block k hk).trans ((hb.block _ (by omega)).trans (h.same k hk k1))),((h.bel.trans (hb.mono (by omega))).trans (hb8.mono hb0)).setCell h0 _,by simp;omega⟩
end
structure Oi (by_:Nat) (w2 w:World) (c:Int) (vy:Value) (l:List Int):Prop where
 out:w.heap[by_]? = some (.cells #[.int .i64 c,vy] 64 (0,0))
 r:aX (by_+1) w vy l
 bel:Below by_ w2 w
 sz:by_+1≤w.heap.size
theorem Oi.start {w:World} (c:Int):Oi w.heap.size (w.alloc (.cells #[.int .i64 c,.slice none 0 0] 64)) (w.alloc (.cells #[.int .i64 c,.slice none 0 0] 64)) c (.slice none 0 0) []:=
 ⟨aC _ _,aG.nil _ _ _ _ _,gR _ _,by simp⟩
theorem Oi.add {b:Nat} {w2 w w8:World} {c x:Int} {vy v8:Value} {l:List Int} (h:Oi b w2 w c vy l) (hr:aX (b+1) w8 v8 (l++[x])) (hb:Below (b+1) w w8):Oi b w2 (w8.setCell ⟨b,1,none⟩ v8) c v8 (l++[x]):=by
 have hz:=h.sz;have hz2:=hb.size;have e:∀ k,k≠b→(w8.setCell ⟨b,1,none⟩ v8).heap[k]? = w8.heap[k]? := fun k hk=>gU _ _ _ _ hk;exact ⟨aO ((hb.block _ (by omega)).trans h.out) _ _,hr.keepH fun j hj=>e j (by have:=(aG.lt hr hj).1;omega),(h.bel.trans (hb.mono (by omega))).setCell (gO _) _,by simp;omega⟩
def rl (R:List Int) (l:List (Int×List Int)):List (Int×List Int):=(l.filter fun r=>R.contains r.1).map fun r=>(Gm.pos R r.1,r.2.map (Gm.pos R))
end
section
attribute [local go_sem ↓] aI
structure Ot (G:Nat→Prop) (bo N b0:Nat) (w0 w9 w:World) (vt vn vr:Value) (st:Int) (l:List (Int×List Int)):Prop where
 out:w.heap[bo]? = some (.cells #[vt,vn,vr,.int .i64 st] 25 (0,0))
 r:aG N 64 2 (RuV G w0) w vr l
 same:∀ k,k<N→k≠bo→w.heap[k]? = w9.heap[k]?
 bel:Below b0 w0 w
 sz:N≤w.heap.size
section
variable {G:Nat→Prop} {bo N b0:Nat} {w0 w w' w9:World} {vt vn vr:Value} {st:Int} {l:List (Int×List Int)}
theorem Ot.below (h:Ot G bo N b0 w0 w9 w vt vn vr st l) (hb:Below w.heap.size w w') (h1:bo<N) (hb0:b0≤N):Ot G bo N b0 w0 w9 w' vt vn vr st l:=by
 have hz:=h.sz;have hz2:=hb.size;exact ⟨(hb.block _ (by omega)).trans h.out,h.r.below hb,fun k hk k1=>(hb.block _ (by omega)).trans (h.same k hk k1),h.bel.trans (hb.mono (by omega)),by omega⟩
theorem Ot.add {v8:Value} {w8:World} {x:Int×List Int} (h:Ot G bo N b0 w0 w9 w vt vn vr st l) (h0:b0≤bo) (h1:bo<N) (hb0:b0≤N) (hr:aG N 64 2 (RuV G w0) w8 v8 (l++[x])) (hb8:Below N w w8):
  Ot G bo N b0 w0 w9 (w8.setCell ⟨bo,2,none⟩ v8) vt vn v8 st (l++[x]):=by
 have hz:=h.sz;have hz3:=hb8.size;have e:∀ k,k≠bo→(w8.setCell ⟨bo,2,none⟩ v8).heap[k]? = w8.heap[k]? := fun k hk=>gU _ _ _ _ hk;exact ⟨aO ((hb8.block _ h1).trans h.out) _ _,hr.keep fun j hj=>e j (by have:=(aG.lt hr hj).1;omega),fun k hk k1=>(e k k1).trans ((hb8.block k hk).trans (h.same k hk k1)),(h.bel.trans (hb8.mono hb0)).setCell h0 _,by simp;omega⟩
end
end
section
attribute [local go_sem ↓] aI
def zF (G:Nat→Prop) (g:Gm) (k:Nat) (w:World) (e:Ending) (w':World):Prop:=
 (∃ A c,e=.returned (.tuple #[.agg #[.int .i64 (g.leftAt k),.slice A (g.rightAt k).length c],.bool true])∧aF (fun j=>G j∨(w.heap.size≤j∧j<w'.heap.size)) w' (.slice A (g.rightAt k).length c) (g.rightAt k))∧Below w.heap.size w w'
theorem aF.grow {w w':World} {v:Value} {l:List Int} (h:aF (Old w) w v l) (hb:Below w.heap.size w w'):aF (Old w') w' v l:=h.keep (fun _ hk=>gK hk hb.size) (cI (fun _ h=>h) hb)
theorem aF.old {G:Nat→Prop} {w:World} {v:Value} {l:List Int} (hG:∀ k,G k→k<w.heap.size) (h:aF G w v l):aF (Old w) w v l:=h.keep hG fun _ _=>rfl
theorem aM {w:World} {b:Nat} {u0 u1:Value} {T:TypeId} {n:Nat} (h:w.heap[b]? = some (.cells #[u0,u1] T (0,0))) (hn:n=b):
  w.cell? ⟨n,0,none⟩=some u0∧w.cell? ⟨n,1,none⟩=some u1∧w.frozen? ⟨n,0,none⟩=false∧w.frozen? ⟨n,1,none⟩=false:=by
 subst hn;exact ⟨aA h 0 _ rfl,aA h 1 _ rfl,by simp [World.frozen?,h],by simp [World.frozen?,h]⟩
theorem k5 {w:World} {b:Nat} {u0 u1:Value} {T:TypeId} {fz:Nat×Nat} (h:w.heap[b]? = some (.cells #[u0,u1] T fz)) (v0 v1:Value):
  ((w.setCell ⟨b,0,none⟩ v0).setCell ⟨b,1,none⟩ v1).heap[b]? = some (.cells #[v0,v1] T fz)∧
  (∀ k,k≠b→((w.setCell ⟨b,0,none⟩ v0).setCell ⟨b,1,none⟩ v1).heap[k]? = w.heap[k]?)∧
  ((w.setCell ⟨b,0,none⟩ v0).setCell ⟨b,1,none⟩ v1).heap.size=w.heap.size∧
  (∀ (B:Nat) (a:World),B≤b→Below B a w→Below B a ((w.setCell ⟨b,0,none⟩ v0).setCell ⟨b,1,none⟩ v1)):=
 ⟨aO (aO h 0 v0) 1 v1,fun _ hk=>(gU _ _ _ _ hk).trans (gU _ _ _ _ hk),by simp,
  fun _ _ hB hb=>(hb.setCell (p:=⟨b,0,none⟩) hB v0).setCell (p:=⟨b,1,none⟩) hB v1⟩
theorem CZ (G:Nat→Prop) (w:World) (vs:List Value) (g:Gm) (k:Nat)(hG:∀ k,G k→k<w.heap.size) (hg:GmV G w vs g) (hk:k≤g.rules.length):
  Calls Tryz.prog 121 #[ag vs,.int .i64 k] w fun e w'=>zF G g k w e w':=by
 obtain ⟨A0,c0,A1,c1,A2,c2,W,ev,hW,⟨x0,x1,x2,x3⟩,HB,HX⟩:=GBox.go hG hg;rw [ev];have HG:=Ha hG;clear hG hg ev;have hn1:¬(k:Int)<0:=by omega
 have hn2:¬(g.rules.length:Int)<(k:Int):=by omega
 have hv1:Below W.heap.size W (W.alloc (.cells #[.int .i64 0,.slice none 0 0] 64)):=(gR _ _).alloc (gO _) _;have qr:=aC W (.cells #[.int .i64 0,.slice none 0 0] 64);have hsz1:(W.alloc (.cells #[.int .i64 0,.slice none 0 0] 64)).heap.size=W.heap.size+1:=by simp
 generalize hV0:W.alloc (.cells #[.int .i64 0,.slice none 0 0] 64)=V0 at *;obtain ⟨HX0,HV0,HQR⟩:=Zh3 (HX.out.on hv1) hv1 qr;clear x0 x1 x2 x3 hv1 qr;obtain ⟨x0,x1,x2,x3⟩:=HX0.out.cells;go_enter Tryz.func121,Tryz.ntmps121;by_cases h1:k=g.rules.length
 ·have h2:(k:Int)=(g.rules.length:Int):=by omega
  have HK:=Ha h1;have hb1:Below V0.heap.size V0 (V0.alloc (.cells #[.int .i64 g.start] 3)):=(gR _ _).alloc (gO _) _;have q1:=aC V0 (.cells #[.int .i64 g.start] 3);generalize hV1:V0.alloc (.cells #[.int .i64 g.start] 3)=V1 at *;have hq:=(hb1.block W.heap.size (by omega)).trans HQR.out;obtain ⟨r0,r1,f0,f1⟩:=aM hq rfl;have HV1:=Ha (HV0.out.trans (hb1.mono (by omega)));have HQ:=Ha hq;have HQ1:=Ha q1;clear h1 hb1 hq q1;go_wp2_with fail;obtain ⟨q2,e2,s2,b2⟩:=k5 HQ.out (.int .i64 0) (.slice (some ⟨W.heap.size+1,0,none⟩) 1 1);have hbl:=HB.out.trans ((b2 _ _ (gO _) HV1.out).mono HB.out.size);have hq1:V1.heap[W.heap.size+1]? = some (.cells #[.int .i64 g.start] 3 (0,0)):=by rw [← hsz1];exact HQ1.out
  have hq3:=(e2 (W.heap.size+1) (by omega)).trans hq1;obtain ⟨d0,d1,_⟩:=aM q2 rfl;clear q2 e2 b2;generalize (V1.setCell ⟨W.heap.size,0,none⟩ (.int .i64 0)).setCell ⟨W.heap.size,1,none⟩ (.slice (some ⟨W.heap.size+1,0,none⟩) 1 1)=W4 at *;refine bodyPost_ret (v:=.tuple #[.agg #[.int .i64 0,.slice (some ⟨W.heap.size+1,0,none⟩) 1 1],.bool true]) (by simp [results,Tryz.results121,go_sem,d0,d1]) rfl ?_;refine ⟨⟨some ⟨W.heap.size+1,0,none⟩,1, ?_, ?_⟩,hbl⟩
  ·rw [HK.out,Gm.rightAt_own];unfold Gm.leftAt;rw [dif_neg (Nat.lt_irrefl _)];rfl
  ·rw [HK.out,Gm.rightAt_own];refine ⟨_,1,rfl,gO _,by unfold maxLen;omega,fun _=>⟨_,_,rfl,.inr ⟨by have:=HB.out.size;omega,(gL hq3).1⟩,fun i hi=>?_⟩⟩;obtain rfl:i=0:=by simpa using hi
   exact ⟨_,rfl,rfl,fun j u hj=>by simpa using aA hq3 j u (by simpa using hj)⟩
 ·have hlt:k<g.rules.length:=by omega
  have hne:¬(k:Int)=(g.rules.length:Int):=by omega
  obtain ⟨bb,off,Ar,cr,rfl,z0,z1,zi⟩:=HX0.out.rule hlt;have HZI:=Ha zi;obtain ⟨r0,r1,f0,f1⟩:=aM HQR.out rfl;have hl2:=aH.len zi;have hm2:=hl2.2;clear zi hl2;go_wp2_with fail;obtain ⟨q2,e2,s2,b2⟩:=k5 HQR.out (.int .i64 g.rules[k].1) (.slice Ar g.rules[k].2.length cr);have hbl:=HB.out.trans ((b2 _ _ (gO _) HV0.out).mono HB.out.size);obtain ⟨d0,d1,_⟩:=aM q2 rfl;have hz4:=HZI.out.keep (G':=fun j=>G j∨(w.heap.size≤j∧j<((V0.setCell ⟨W.heap.size,0,none⟩ (.int .i64 g.rules[k].1)).setCell ⟨W.heap.size,1,none⟩ (.slice Ar g.rules[k].2.length cr)).heap.size)) (fun k hk=>.inl hk) (fun p hp=>gM (e2 _ (by have:=HG.out _ hp;have:=HB.out.size;omega)));clear q2 e2 b2 s2;generalize (V0.setCell ⟨W.heap.size,0,none⟩ (.int .i64 g.rules[k].1)).setCell ⟨W.heap.size,1,none⟩ (.slice Ar g.rules[k].2.length cr)=W4 at *;refine bodyPost_ret (v:=.tuple #[.agg #[.int .i64 g.rules[k].1,.slice Ar g.rules[k].2.length cr],.bool true]) (by simp [results,Tryz.results121,go_sem,d0,d1]) rfl ?_;refine ⟨⟨Ar,cr, ?_, ?_⟩,hbl⟩
  ·rw [Gm.rightAt_lt g hlt,Gm.leftAt_lt g hlt]
  ·rw [Gm.rightAt_lt g hlt];exact hz4
theorem CK (g:Gm) {k d:Nat} (h:(g.rightAt k).length≤d):g.nxt ((k:Int),(d:Int))=0:=by
 unfold Gm.nxt;simp only [yB];rw [List.getD_eq_getElem?_getD,List.getElem?_eq_none h];rfl
theorem pY (g:Gm) {k d:Nat} (h:d<(g.rightAt k).length):g.nxt ((k:Int),(d:Int))=(g.rightAt k)[d]:=by
 unfold Gm.nxt;simp only [yB];rw [List.getD_eq_getElem?_getD,List.getElem?_eq_getElem h];rfl
theorem o5 (G:Nat→Prop) (w:World) (b:Nat) (A0 c0 A1 c1 A2 c2) (g:Gm) (k d:Nat) (hx:GBox G w b A0 c0 A1 c1 A2 c2 g) (hk:k≤g.rules.length):
  Calls Tryz.prog 161 #[.pointer (some ⟨b,0,none⟩),.agg #[.int .i64 k,.int .i64 d]] w fun e w'=>e=.returned (.int .i64 (g.nxt ((k:Int),(d:Int))))∧Below w.heap.size w w':=by
 have hb0:Below w.heap.size w (w.alloc (.cells #[.int .i64 k,.int .i64 d] 250)):=(gR _ _).alloc (gO _) _;have q0:=aC w (.cells #[.int .i64 k,.int .i64 d] 250);generalize hW:w.alloc (.cells #[.int .i64 k,.int .i64 d] 250)=W at *;have HX:=Ha (hx.on hb0);have HB:=Ha hb0;have HQ0:=Ha q0;have HXG:=Ha hx.old;have hr:=CZ G;unfold ag at hr;have HC:=Ha (fun X (hX:Below W.heap.size W X)=>(hr X _ g k (HX.out.on hX).old (HX.out.on hX).gm hk).mono fun e w' (hp:zF G g k X e w')=>gS hp (hX.trans (hp.2.mono hX.size)));clear hx hb0 hr;obtain ⟨x0,x1,x2,x3⟩:=HX.out.cells;obtain ⟨r0,r1,f0,f1⟩:=aM q0 rfl;go_enter Tryz.func161,Tryz.ntmps161;have HS:=Ha (show ∀ X,Below W.heap.size W X→X.cell? ⟨b,0,none⟩=some (.slice A0 g.terms.length c0)∧X.cell? ⟨b,1,none⟩=some (.slice A1 g.nons.length c1)∧X.cell? ⟨b,2,none⟩=some (.slice A2 g.rules.length c2)∧X.cell? ⟨b,3,none⟩=some (.int .i64 g.start)∧X.cell? ⟨w.heap.size,0,none⟩=some (.int .i64 k) from
  fun X hX=>⟨(HX.out.on hX).x0,(HX.out.on hX).x1,(HX.out.on hX).x2,(HX.out.on hX).x3,aD (aA HQ0.out 0 _ rfl) hX⟩)
 have R0:=Ha (show Below W.heap.size W W.drew from (gR _ _).drew);go_wp2_with fail
 go_cut [5] (fun v5 wx=>Below W.heap.size W wx∧∃ bb A c,v5=.pointer (some ⟨bb,0,none⟩)∧wx.heap[bb]? = some (.cells #[.int .i64 (g.leftAt k),.slice A (g.rightAt k).length c] 64 (0,0))∧aF (Old wx) wx (.slice A (g.rightAt k).length c) (g.rightAt k))
 case first=>
  go_region_held3 (fun X=>X.cell? ⟨b,0,none⟩=some (.slice A0 g.terms.length c0)∧X.cell? ⟨b,1,none⟩=some (.slice A1 g.nons.length c1)∧X.cell? ⟨b,2,none⟩=some (.slice A2 g.rules.length c2)∧X.cell? ⟨b,3,none⟩=some (.int .i64 g.start)∧X.cell? ⟨w.heap.size,0,none⟩=some (.int .i64 k))
   (exact HS.out _ (by first | exact R0.out | exact bW | exact R0.out.alloc (by simp) _ | exact Below.alloc bW bW.size _ | exact ((R0.out.alloc (by simp) _).setCell (by simp) _).setCell (by simp) _ | exact ((Below.alloc bW bW.size _).setCell bW.size _).setCell bW.size _ | exact ((bW).setCell (by simp) _).setCell (by simp) _))
   (first
    | (go_at_call 121
       with_reducible refine Calls.mono (HC.out W.drew R0.out) ?_
       rintro e wR ⟨⟨⟨AR, cR, rfl, hRI⟩, bR⟩, bW⟩;dsimp only)
    | (go_at_call 121
       refine Calls.mono (HC.out _ (R0.out.alloc (by simp) _)) ?_;rintro e wR ⟨⟨⟨AR, cR, rfl, hRI⟩, bR⟩, bW⟩;have hbx := (bR.block W.heap.size (by simp)).trans (aC W.drew _);obtain ⟨s0, s1, g0, g1⟩ := aM hbx rfl;dsimp only))
  all_goals
   go_wp2_with fail
   go_meet
   first
    | exact ⟨bW.alloc bW.size _,_,AR,cR,rfl,aC _ _,(hRI.keep (fun k hk=>hk.elim (fun h=>gK (HX.out.old k h) bW.size) fun h=>h.2) (fun _ _=>rfl):aF (Old wR) wR _ _).grow ((gR _ _).alloc (gO _) _)⟩
    | (obtain ⟨q2, e2, s2, b2⟩ := k5 hbx (.int .i64 (g.leftAt k)) (.slice AR (g.rightAt k).length cR)
       exact ⟨b2 _ _ (gO _) bW, _, AR, cR, rfl, q2, hRI.keep (fun j hj => by unfold Old; rw [s2]; exact hj.elim (fun h => gK (HX.out.old j h) bW.size) fun h => h.2)
         (fun p hp => gM (e2 _ (fun h => hp.elim (fun hp => by have := HXG.out _ hp; have := HB.out.size; omega) fun hp => by have := hp.1; simp at this; omega)))⟩)
 case rest=>
  obtain ⟨bc,bb,A5,c5,rfl,q5,i5⟩:=hcut;have z0:=aD (aA HQ0.out 0 _ rfl) bc;have z1:=aD (aA HQ0.out 1 _ rfl) bc;obtain ⟨y0,y1,_,_⟩:=aM q5 rfl;have hl5:=aH.len i5;have hm5:=hl5.2;have HBB:=Ha (HB.out.trans (bc.mono HB.out.size));by_cases hd:d<(g.rightAt k).length
  ·obtain ⟨br,orr,rfl,zz⟩:=i5.get hd;have HN:=Ha (pY g hd);have hdl:(d:Int)<((g.rightAt k).length:Int):=by omega
   clear i5 hl5 bc q5 x0 x1 x2 x3;go_wp2_with fail;go_ret;exact ⟨by rw [HN.out];rfl,HBB.out⟩
  ·have HN:=Ha (CK g (k:=k) (d:=d) (by omega));have hdl:¬(d:Int)<((g.rightAt k).length:Int):=by omega
   clear i5 hl5 bc q5 x0 x1 x2 x3;go_wp2_with fail;go_ret;exact ⟨by rw [HN.out];rfl,HBB.out⟩
def bY (l:List Int):List Itm:=l.map fun k=>(k,0)
theorem zW (G:Nat→Prop) (w:World) (b:Nat) (A0 c0 A1 c1 A2 c2) (g:Gm) (s:Int) (hx:GBox G w b A0 c0 A1 c1 A2 c2 g) (hl:g.rules.length≤1000000):
  Calls Tryz.prog 160 #[.pointer (some ⟨b,0,none⟩),.int .i64 s] w fun e w'=>(∃ v,e=.returned v∧Its w.heap.size w' v (bY (ofR s g.rules 0)))∧Below w.heap.size w w':=by
 have HX:=Ha hx;have ho:=JN G w _ g s hx.old hx.gm (by omega);unfold ag at ho;have hol:=eY s g.rules 0;obtain ⟨L,hL⟩:∃ L,L=ofR s g.rules 0:=⟨_,rfl⟩;rw [← hL] at ho hol ⊢;have HC:=Ha ho;clear ho hx hL;obtain ⟨x0,x1,x2,x3⟩:=HX.out.cells;go_enter Tryz.func160,Tryz.ntmps160;go_wp2_with fail;refine (HC.out).mono ?_;rintro e w1 ⟨v,rfl,hv,hb1⟩;obtain ⟨A,c,rfl⟩:=hv.shape;have HV:=Ha hv.at_;have HB1:=Ha hb1;clear hv hb1 x0 x1 x2 x3;go_wp2_with fail
 go_loopw [5,15] (fun ov iv wr=>∃ (k:Nat),k≤L.length∧iv=.int .i64 k∧Its w1.heap.size wr ov (bY (L.take k))∧Below w1.heap.size w1 wr) (fun _ iv _=>L.length-(intOf iv).toNat)
 case atStart=>exact ⟨0,by omega,rfl,aG.nil _ _ _ _ _,gR _ _⟩
 case round=>
  obtain ⟨k,hk,rfl,ho,hb2⟩:=hrel;by_cases hlt:k<L.length
  ·obtain ⟨bl,ol,rfl,z⟩:=(HV.out.below (fun _ h=>h) hb2).get hlt;obtain ⟨v7,w7,hrun,hrw,hb7⟩:=Its.push (L[k],0) ho (by unfold bY;simp;omega) hb2.size;have HR7:=Ha hrw;have HB7:=Ha (hb2.trans hb7);clear ho hb2 hrw hb7;dsimp only at hrun;go_wp2_with fail
   go_roundw
   case rel=>exact ⟨k+1,by omega,by go_num,by rw [List.take_succ_eq_append_getElem hlt];unfold bY at HR7 ⊢;rw [List.map_append];exact HR7.out,HB7.out⟩
   case measure=>simp only [intOf];omega
  ·obtain rfl:k=L.length:=by omega
   rw [List.take_length] at ho;have HO:=Ha (show Its w.heap.size wr u5 (bY L) from aG.lower ho HB1.out.size);have HB2:=Ha (HB1.out.trans (hb2.mono HB1.out.size));clear ho hb2;go_wp2_with fail;go_ret;exact ⟨⟨_,rfl,HO.out⟩,HB2.out⟩
theorem JL (G:Nat→Prop) (w:World) (vs:List Value) (g:Gm) (hG:∀ k,G k→k<w.heap.size) (hg:GmV G w vs g) (hw:GW g):
  Calls Tryz.prog 163 #[ag vs] w fun e w'=>e=.returned (.bool true)∧Below w.heap.size w w':=by
 obtain ⟨A0,c0,A1,c1,A2,c2,W,ev,hW,⟨x0,x1,x2,x3⟩,HB,HX⟩:=GBox.go hG hg;rw [ev];have HG:=Ha hG;clear hG hg ev;have hc:=kR G;unfold ag at hc;have HC:=Ha (hc W _ g HX.out.old HX.out.gm hw);clear hc hw;go_enter Tryz.func163,Tryz.ntmps163;go_wp2_with fail;refine (HC.out).mono ?_;rintro e w1 ⟨rfl,hb1⟩;go_wp2_with fail;go_ret;exact ⟨rfl,HB.out.trans (hb1.mono HB.out.size)⟩
theorem ED (G:Nat→Prop) (w:World) (vs:List Value) (g:Gm) (hG:∀ k,G k→k<w.heap.size) (hg:GmV G w vs g) (hw:GW g):
  Calls Tryz.prog 102 #[ag vs] w fun e w'=>(∃ v,e=.returned v∧Its w.heap.size w' v [((g.rules.length:Int),0)])∧Below w.heap.size w w':=by
 obtain ⟨A0,c0,A1,c1,A2,c2,W,ev,hW,⟨x0,x1,x2,x3⟩,HB,HX⟩:=GBox.go hG hg;rw [ev];have HG:=Ha hG;clear hG hg ev;have hc:=JL G;unfold ag at hc;have HC:=Ha (hc W _ g HX.out.old HX.out.gm hw);clear hc hw;go_enter Tryz.func102,Tryz.ntmps102;go_wp2_with fail;refine (HC.out).mono ?_;rintro e w1 ⟨rfl,hb1⟩;have HX1:=Ha (HX.out.on hb1);have HB1:=Ha (HB.out.trans (hb1.mono HB.out.size));clear x0 x1 x2 x3 hb1;obtain ⟨x0,x1,x2,x3⟩:=HX1.out.cells;have hb2:Below w1.heap.size w1 (w1.alloc (.cells #[.int .i64 g.rules.length,.int .i64 0] 250)):=(gR _ _).alloc (gO _) _;have q2:=aC w1 (.cells #[.int .i64 g.rules.length,.int .i64 0] 250);have HB2:=Ha (HB1.out.trans (hb2.mono HB1.out.size));have HQ2:=Ha q2;clear hb2 q2;go_wp2_with fail;go_ret;exact ⟨⟨_,rfl,[[.int .i64 g.rules.length,.int .i64 0]],⟨⟨rfl,rfl⟩,trivial⟩,by simp,.inr ⟨_,1,_,rfl,HB1.out.size,HQ2.out,gO _,by unfold maxLen;omega,by simp,by simp⟩⟩,HB2.out⟩
end
section
attribute [local go_sem ↓] aI
structure Fz (w:World) (b m n bE bwE:Nat) (A1:Option Addr) (c1:Nat) (A2:Option Addr) (c2:Nat) (ps qs:List (Nat×Nat)):Prop where
 box:w.heap[b]? = some (.cells #[.int .i64 ((n:Int)-1),.int .i64 ((m:Int)-1),.pointer (some ⟨bE,0,none⟩),.slice A1 m c1,.slice A2 m c2] 330 (0,0))
 e:∃ XE,BSet w bE bwE m XE
 rp:aH (TB 68 w) w 1 PV (.slice A1 m c1) ps
 rq:aH (TB 68 w) w 1 PV (.slice A2 m c2) qs
 lp:ps.length=m
 lq:qs.length=m
 sp:Ss n w ps
 sq:Ss n w qs
 np:∀ p∈ps,p.2≠bwE
 nq:∀ p∈qs,p.2≠bwE
 n1:1≤n
 nm:n≤m
section
variable {w w':World} {b m n bE bwE:Nat} {A1:Option Addr} {c1:Nat} {A2:Option Addr} {c2:Nat} {ps qs:List (Nat×Nat)}
theorem aH.keepT {β:Type} {T:TypeId} {sz:Nat} {R:List Value→β→Prop} {v:Value} {xs:List β} (h:aH (TB T w) w sz R v xs) (hk:∀ k,TB T w k→w'.heap[k]? = w.heap[k]?):aH (TB T w') w' sz R v xs:=
 h.keep (fun k hT=>hT.of_eq (hk k hT)) (fun _ hp=>gM (hk _ hp)) fun _ _ h=>h
theorem Fz.wch (h:Fz w b m n bE bwE A1 c1 A2 c2 ps qs) {K:Nat→Prop} (hc:WCh n K w w') (hK:¬K bwE):Fz w' b m n bE bwE A1 c1 A2 c2 ps qs:=by
 have ht:∀ T,T≠154→∀ k,TB T w k→w'.heap[k]? = w.heap[k]? := fun T hT k h=>hc.chg.same k h.lt fun hp=>h.not_wb hT hp.2;obtain ⟨XE,hE⟩:=h.e;exact ⟨(ht _ (by decide) b ⟨_,h.box⟩).trans h.box,⟨XE,hE.keep (ht _ (by decide) _ ⟨_,hE.hb⟩) (hc.chg.same _ hE.lt.2 fun hp=>hK hp.1)⟩,h.rp.keepT (ht _ (by decide)),h.rq.keepT (ht _ (by decide)),h.lp,h.lq,h.sp.wch hc,h.sq.wch hc,h.np,h.nq,h.n1,h.nm⟩
theorem Fz.below (h:Fz w b m n bE bwE A1 c1 A2 c2 ps qs) (hb:Below w.heap.size w w'):Fz w' b m n bE bwE A1 c1 A2 c2 ps qs:=h.wch (K:=fun _=>False) ((WCh.refl n _ w).below hb) (fun h=>h)
theorem Fz.cells (h:Fz w b m n bE bwE A1 c1 A2 c2 ps qs):w.cell? ⟨b,0,none⟩=some (.int .i64 ((n:Int)-1))∧w.cell? ⟨b,1,none⟩=some (.int .i64 ((m:Int)-1))∧w.cell? ⟨b,2,none⟩=some (.pointer (some ⟨bE,0,none⟩))∧w.cell? ⟨b,3,none⟩=some (.slice A1 m c1)∧w.cell? ⟨b,4,none⟩=some (.slice A2 m c2):=
 ⟨aA h.box 0 _ rfl,aA h.box 1 _ rfl,aA h.box 2 _ rfl,aA h.box 3 _ rfl,aA h.box 4 _ rfl⟩
theorem mI {G:Nat→Prop} {A:Option Addr} {n c:Nat} {ps:List (Nat×Nat)} (h:aH G w 1 PV (.slice A n c) ps) {k:Nat} (hk:k<ps.length):∃ bb off,A=some ⟨bb,off,none⟩∧G bb∧w.cell? ⟨bb,off+k,none⟩=some (.pointer (some ⟨ps[k].1,0,none⟩)):=by
 obtain ⟨bb,off,u,e,hg,hu,hc⟩:=aH.cell1 h hk
 injection hu with hu _
 subst hu;exact ⟨bb,off,e,hg,hc⟩
end
theorem DQ (a m x:Nat) (w:World) (h:x<m):
  Calls Tryz.prog 255 #[.agg #[.int .i64 a,.int .i64 ((m:Int)-1)],.int .i64 x] w fun e w'=>e=.returned (.bool true)∧Below w.heap.size w w':=by
 have h1:(0:Int)≤(x:Int):=by omega
 have h2:(x:Int)≤(m:Int)-1:=by omega
 clear h;go_enter Tryz.func255,Tryz.ntmps255;go_wp2_with fail;go_ret;exact ⟨rfl,(gR _ _).alloc (gO _) _⟩
theorem JM (n m x:Nat) (w:World) (h:x<m):
  Calls Tryz.prog 256 #[.agg #[.int .i64 ((n:Int)-1),.int .i64 ((m:Int)-1)],.int .i64 x] w fun e w'=>e=.returned (.bool (decide ((n:Int)-1<(x:Int))))∧Below w.heap.size w w':=by
 have h2:(x:Int)≤(m:Int)-1:=by omega
 clear h;go_enter Tryz.func256,Tryz.ntmps256;by_cases h1:(n:Int)-1<(x:Int)
 ·go_wp2_with fail;go_ret;exact ⟨by simp [h1],(gR _ _).alloc (gO _) _⟩
 ·go_wp2_with fail;go_ret;exact ⟨by simp [h1],(gR _ _).alloc (gO _) _⟩
theorem cG (X Y:Nat):X≤X ||| Y:=Nat.left_le_or
theorem FD {X0 X Y:Nat} (h:X0≤X):(decide (X ||| Y≠X)||decide (X≠X0))=decide (X ||| Y≠X0):=by
 have:=cG X Y;rw [← Bool.decide_or,decide_eq_decide];omega
theorem tI (G:Nat→Prop) (w:World) (b m n bE bwE:Nat) (A1:Option Addr) (c1:Nat) (A2:Option Addr) (c2:Nat) (ps qs:List (Nat×Nat)) (bt bwt Xt:Nat) (A:Option Addr) (c:Nat) (l:List Int) (hf:Fz w b m n bE bwE A1 c1 A2 c2 ps qs) (ht:BSet w bt bwt n Xt) (hE:bwt≠bwE) (hG:∀ k,G k→k<w.heap.size∧k≠bwt) (hl:aF G w (.slice A l.length c) l) (hs:∀ s∈l,0≤s∧s<m):
  Calls Tryz.prog 245 #[.pointer (some ⟨b,0,none⟩),.pointer (some ⟨bt,0,none⟩),.slice A l.length c] w fun e w'=>∃ (all:Bool) (X':Nat),e=.returned (.tuple #[.bool (decide (X'≠Xt)),.bool all])∧Xt≤X'∧BSet w' bt bwt n X'∧Chg (· = bwt) w w':=by
 obtain ⟨HF,HT,HL,HS,HG,HE⟩:=Zh6 hf ht hl hs hG hE;have hlm:=(aH.len hl).2;clear hf ht hE hG hl hs;go_enter Tryz.func245,Tryz.ntmps245;go_wp2
 go_loopw [8,13] (fun mv iv wr=>∃ (k X1:Nat),k≤l.length∧iv=.int .i64 k∧mv=.bool (decide (X1≠Xt))∧Xt≤X1∧BSet wr bt bwt n X1∧Chg (· = bwt) w wr) (fun _ iv _=>l.length-(intOf iv).toNat)
 case atStart=>exact ⟨0,Xt,by omega,rfl,by simp,gO _,HT.out,Chg.refl _ _⟩
 case round=>
  obtain ⟨k,X1,hk,rfl,rfl,hle,hx,hc⟩:=hrel;have hfr:=HF.out.wch (WCh.one (K:=(· = bwt)) HT.out hc hx hle rfl) (fun e=>HE.out e.symm);have hlr:aF G wr (.slice A l.length c) l:=HL.out.keep (fun _ h=>h) fun p hp=>gM (hc.same _ (HG.out _ hp).1 (HG.out _ hp).2);obtain ⟨HLE,HX,HC,HFR,HLR⟩:=Zh5 hle hx hc hfr hlr;clear hle hx hc hfr hlr;obtain ⟨y0,y1,y2,y3,y4⟩:=HFR.out.cells;by_cases hlt:k<l.length
  ·obtain ⟨bl,ol,rfl,z⟩:=HLR.out.get hlt;obtain ⟨x,hx⟩:∃ x:Nat,l[k]=(x:Int):=⟨l[k].toNat,by have:=(HS.out _ (gN hlt)).1;omega⟩;have hxm:x<m:=by have:=(HS.out _ (gN hlt)).2;omega
   rw [hx] at z;have hSY:=Ha (DQ ((n:Int)-1).toNat m x wr hxm);have hn0:(((n:Int)-1).toNat:Int)=(n:Int)-1:=by have:=HFR.out.n1;omega
   rw [hn0] at hSY;clear hx hn0;go_wp2_with fail;refine (hSY.out).mono ?_;rintro e w1 ⟨rfl,hb1⟩;have hf1:=HFR.out.below hb1;have hx1:=HX.out.below hb1;have hc1:Chg (· = bwt) w w1:=HC.out.trans (Chg.of hb1);have hxp:x<ps.length:=by rw [hf1.lp];exact hxm
   obtain ⟨Y,hY⟩:=hf1.sp _ (gN hxp);obtain ⟨bb,off,rfl,_,zp⟩:=mI hf1.rp hxp;obtain ⟨HOR,HF1,HX1,HC1⟩:=Zh4 (p6 bt bwt n X1 _ _ Y w1 hx1 hY) hf1 hx1 hc1;clear y0 y1 y2 y3 y4 z hb1 hf1 hx1 hc1 hY;obtain ⟨y0,y1,y2,y3,y4⟩:=HF1.out.cells;have HMO:=Ha (FD (Y:=Y) HLE.out);have hor:=HOR.out;have HLE2:=Ha (gP HLE.out (cG X1 Y));have HLE3:=Ha (cG X1 Y);clear HOR
   revert HMO hor HLE2 HLE3
   generalize hZ:X1 ||| Y=Z
   clear hZ;intro HMO hor HLE2 HLE3
   revert HMO hor
   generalize decide (Z≠X1)=d1;generalize decide (X1≠Xt)=d0;intro HMO hor;have HOR:=Ha hor;clear hor;go_wp2_with fail;refine (HOR.out).mono ?_;rintro e w2 ⟨rfl,hx2,hc2⟩;have hf2:=HF1.out.wch (WCh.one (K:=(· = bwt)) HX1.out hc2 hx2 HLE3.out rfl) (fun e=>HE.out e.symm);obtain ⟨XE,hXE⟩:=hf2.e;obtain ⟨HHA,HX2,HC2,HF2⟩:=Zh4 (JF bE bwE m XE x w2 hXE hxm) hx2 (HC1.out.trans hc2) hf2;clear y0 y1 y2 y3 y4 zp hx2 hc2 hf2 hXE;obtain ⟨y0,y1,y2,y3,y4⟩:=HF2.out.cells
   revert HHA
   generalize XE.testBit x=tb;intro HHA;have HD:Hid ((d1||d0)=decide (Z≠Xt)):=HMO;cases d1
   ·go_wp2_with fail;refine (HHA.out).mono ?_;rintro e w3 ⟨rfl,rfl⟩;cases tb
    ·go_wp2_with fail;refine bodyPost_ret (v:=.tuple #[.bool d0,.bool false]) (by simp [results,Tryz.results245,go_sem]) rfl ?_;exact ⟨false,Z,by rw [← HD.out];rfl,HLE2.out,HX2.out,HC2.out⟩
    ·go_wp2_with fail
     go_roundw
     case rel=>exact ⟨k+1,Z,by omega,by go_num,by rw [← HD.out];rfl,HLE2.out,HX2.out,HC2.out⟩
     case measure=>simp only [intOf];omega
   ·go_wp2_with fail;refine (HHA.out).mono ?_;rintro e w3 ⟨rfl,rfl⟩;cases tb
    ·go_wp2_with fail;refine bodyPost_ret (v:=.tuple #[.bool true,.bool false]) (by simp [results,Tryz.results245,go_sem]) rfl ?_;exact ⟨false,Z,by rw [← HD.out];rfl,HLE2.out,HX2.out,HC2.out⟩
    ·go_wp2_with fail
     go_roundw
     case rel=>exact ⟨k+1,Z,by omega,by go_num,by rw [← HD.out];rfl,HLE2.out,HX2.out,HC2.out⟩
     case measure=>simp only [intOf];omega
  ·obtain rfl:k=l.length:=by omega
   go_wp2_with fail;refine bodyPost_ret (v:=.tuple #[.bool (decide (X1≠Xt)),.bool true]) (by simp [results,Tryz.results245,go_sem]) rfl ?_;exact ⟨true,X1,rfl,HLE.out,HX.out,HC.out⟩
end
section
attribute [local go_sem ↓] aI
theorem GQ (G:Nat→Prop) (w:World) (b m n bE bwE:Nat) (A1:Option Addr) (c1:Nat) (A2:Option Addr) (c2:Nat) (ps qs:List (Nat×Nat)) (A:Option Addr) (c:Nat) (l:List Int) (hf:Fz w b m n bE bwE A1 c1 A2 c2 ps qs) (hn:n≤64) (hG:∀ k,G k→k<w.heap.size) (hl:aF G w (.slice A l.length c) l) (hs:∀ s∈l,0≤s∧s<m):
  Calls Tryz.prog 219 #[.pointer (some ⟨b,0,none⟩),.slice A l.length c] w fun e w'=>(∃ (v:Value) (all:Bool) (r:List Int),e=.returned (.tuple #[v,.bool all])∧aX w.heap.size w' v r∧∀ t∈r,0≤t∧t<n)∧Below w.heap.size w w':=by
 obtain ⟨HF,HL,HS,HG,HN⟩:=Zh5 hf hl hs hG (r6 n w hf.n1 hn);have hn1:(n:Int)-1+1=n:=by omega
 clear hf hl hs hG;obtain ⟨y0,y1,y2,y3,y4⟩:=HF.out.cells;go_enter Tryz.func219,Tryz.ntmps219;go_wp2_with fail;refine (HN.out).mono ?_;rintro e w1 ⟨⟨bt,bwt,rfl,hbt,hbwt,ht⟩,hb1⟩;have hE:bwt≠bwE:=by obtain ⟨XE,hE⟩:=HF.out.e;have:=hE.lt;omega
 obtain ⟨HLN,HB1,HBW⟩:=Zh3 (tI G w1 b m n bE bwE A1 c1 A2 c2 ps qs bt bwt 0 A c l (HF.out.below hb1) ht hE (fun k hk=>by have:=HG.out k hk;have:=hb1.size;omega) (aF.below HG.out hb1 HL.out) HS.out) hb1 hbwt;clear hb1 hbt hbwt ht hE y0 y1 y2 y3 y4;go_wp2_with fail;refine (HLN.out).mono ?_;rintro e w2 ⟨all,X',rfl,_,hx2,hc2⟩;have HB2:=Ha (HB1.out.trans (hc2.below (fun i e=>by have:=HBW.out;omega) HB1.out.size));have HLI:=Ha (CD bt bwt n X' w2 hx2);clear hx2 hc2;go_wp2_with fail;refine (HLI.out).mono ?_;rintro e w3 ⟨⟨v,rfl,hv⟩,hb3⟩;have HV:=Ha (show aX w.heap.size w3 v (dK X' n 0) from aG.lower hv HB2.out.size);have HB3:=Ha (HB2.out.trans (hb3.mono HB2.out.size));clear hv hb3;go_wp2_with fail;refine bodyPost_ret (v:=.tuple #[v,.bool all]) (by simp [results,Tryz.results219,go_sem]) rfl ?_;refine ⟨⟨v,all,_,rfl,HV.out,fun t ht=>?_⟩,HB3.out⟩;obtain ⟨j,rfl,_,h2,_⟩:=(oH _ _ _ _).1 ht;omega
theorem aF.dropK {G:Nat→Prop} {w:World} {b off n c:Nat} {l:List Int} (h:aF G w (.slice (some ⟨b,off,none⟩) n c) l) {k:Nat} (hk:k≤n):aF G w (.slice (if c=k then some ⟨b,off,none⟩ else some ⟨b,off+k,none⟩) (n-k) (c-k)) (l.drop k):=by
 obtain ⟨A,c',e,h1,h2,h3⟩:=h
 injection e with e1 e2 e3
 subst e1 e2 e3;have hl:(l.drop k).length=l.length-k:=by simp
 refine ⟨_,_,by rw [hl],by rw [hl];omega,by omega,fun hp=>?_⟩;rw [hl] at hp;rw [if_neg (by omega)];obtain ⟨b',o',e4,h5,h6⟩:=h3 (by omega)
 injection e4 with e4
 injection e4 with e4 e5
 subst e4 e5;refine ⟨b,off+k,rfl,h5,fun i hi=>?_⟩;obtain ⟨vs,k1,k2,k3⟩:=h6 (k+i) (by rw [hl] at hi;omega);refine ⟨vs,k1,by rw [List.getElem_drop];exact k2,fun j u hj=>?_⟩;rw [show off+k+i*1+j=off+(k+i)*1+j by omega];exact k3 j u hj
theorem IU (G:Nat→Prop) (w:World) (B b m n bE bwE:Nat) (A1:Option Addr) (c1:Nat) (A2:Option Addr) (c2:Nat) (ps qs:List (Nat×Nat)) (x0:Nat) (A:Option Addr) (c:Nat) (l:List Int) (hf:Fz w b m n bE bwE A1 c1 A2 c2 ps qs) (hB:∀ q∈qs,B≤q.2) (hG:∀ k,G k→k<B) (hBw:B≤w.heap.size) (hl:aF G w (.slice A l.length c) l) (hs:∀ s∈l,0≤s∧s<m) (hx0:x0<m):
  Calls Tryz.prog 246 #[.pointer (some ⟨b,0,none⟩),.agg #[.int .i64 x0,.slice A l.length c]] w fun e w'=>(∃ more,e=.returned (.bool more)∧(more=true→aQ n w' qs<aQ n w qs))∧WCh n (fun k=>B≤k∧k≠bwE) w w':=by
 have hb0:Below w.heap.size w (w.alloc (.cells #[.int .i64 x0,.slice A l.length c] 64)):=(gR _ _).alloc (gO _) _;have q0:=aC w (.cells #[.int .i64 x0,.slice A l.length c] 64);have hsz:(w.alloc (.cells #[.int .i64 x0,.slice A l.length c] 64)).heap.size=w.heap.size+1:=by simp
 generalize hW:w.alloc (.cells #[.int .i64 x0,.slice A l.length c] 64)=W at *;obtain ⟨Kp,hK⟩:∃ Kp:Nat→Prop,Kp=fun k=>B≤k∧k≠bwE:=⟨_,rfl⟩;rw [← hK];have HK:=Ha hK;have hg1:=(WCh.refl n Kp w).below hb0;have HF:=Ha hf;have HL:=Ha hl;have HS:=Ha hs;have HG:=Ha hG;have HB:=Ha hB;have HBW:=Ha hBw;have HQ0:=Ha q0;have HG1:=Ha hg1;have hnK:¬Kp bwE:=by rw [hK];exact fun h=>h.2 rfl
 have HNK:=Ha hnK;have HX0:=Ha hx0;have hlm:=(aH.len hl).2;have HTB:Hid (TB 64 W w.heap.size):=⟨_,q0⟩;obtain ⟨r0,r1,f0,f1⟩:=aM q0 rfl;clear hf hl hs hG hB hBw hg1 hnK hK hb0;go_enter Tryz.func246,Tryz.ntmps246;go_wp2_with fail;clear r0 r1 f0 f1 q0
 go_loopw [5,13] (fun mv iv wr=>∃ (k:Nat) (mo:Bool),k≤l.length∧iv=.int .i64 k∧mv=.bool mo∧(mo=true→aQ n wr qs<aQ n w qs)∧WCh n Kp w wr∧wr.heap[w.heap.size]? = W.heap[w.heap.size]?) (fun _ iv _=>l.length-(intOf iv).toNat)
 case atStart=>exact ⟨0,false,by omega,rfl,rfl,(fun h=>by cases h),HG1.out,rfl⟩
 case round=>
  obtain ⟨k,mo,hk,rfl,rfl,hrm,hwc,hbx⟩:=hrel;have hqr:=hbx.trans HQ0.out;have hfr:=HF.out.wch hwc HNK.out;have hgk:∀ k,G k→k<w.heap.size∧¬Kp k:=fun k hk=>⟨by have:=HG.out _ hk;have:=HBW.out;omega,fun h=>by rw [HK.out] at h;have:=HG.out _ hk;have:=h.1;omega⟩;have hlr:aF G wr (.slice A l.length c) l:=HL.out.keep (fun _ h=>h) fun p hp=>gM (hwc.chg.same _ (hgk _ hp).1 fun h=>(hgk _ hp).2 h.1);obtain ⟨HRW,HRM,HWC,HQR,HFR,HLR,HGK⟩:=Zh7 (dF HF.out.sq hwc) hrm hwc hqr hfr hlr hgk;clear hrm hwc hbx hqr hfr hlr hgk;obtain ⟨r0,r1,f0,f1⟩:=aM HQR.out rfl;obtain ⟨y0,y1,y2,y3,y4⟩:=HFR.out.cells;by_cases hlt:k<l.length
  ·obtain ⟨bl,ol,rfl,z⟩:=HLR.out.get hlt;obtain ⟨x,hx⟩:∃ x:Nat,l[k]=(x:Int):=⟨l[k].toNat,by have:=(HS.out _ (gN hlt)).1;omega⟩;have hxm:x<m:=by have:=(HS.out _ (gN hlt)).2;omega
   rw [hx] at z;have hNO:=Ha (JM n m x wr hxm);clear hx;by_cases hnn:(n:Int)-1<(x:Int)
   case neg=>
    rw [yE hnn] at hNO;clear hnn;go_wp2_with fail;refine (hNO.out).mono ?_;rintro e w1 ⟨rfl,hb1⟩;obtain ⟨HW1,HR1,HX1⟩:=Zh3 (HWC.out.below hb1) (show mo=true→aQ n w1 qs<aQ n w qs from fun h=>Nat.lt_of_le_of_lt (dF HFR.out.sq ((WCh.refl n Kp wr).below hb1)) (HRM.out h)) ((hb1.block w.heap.size (gL HQR.out).1).trans (HQR.out.trans HQ0.out.symm));clear hb1 y0 y1 y2 y3 y4 r0 r1 f0 f1;go_wp2_with fail
    go_roundw
    case rel=>exact ⟨k+1,mo,by omega,by go_num,rfl,HR1.out,HW1.out,HX1.out⟩
    case measure=>simp only [intOf];omega
   case pos=>
    rw [yD hnn] at hNO;clear hnn;go_wp2_with fail;refine (hNO.out).mono ?_;rintro e w1 ⟨rfl,hb1'⟩;have hb1:=hb1'.drew;have hf1:=HFR.out.below hb1;have hw1:=HWC.out.below hb1;have hl1:aF G w1.drew (.slice (some ⟨bl,ol,none⟩) l.length c) l:=HL.out.keep (fun _ h=>h) fun p hp=>gM (hw1.chg.same _ (HGK.out _ hp).1 fun h=>(HGK.out _ hp).2 h.1);have hxq:x<qs.length:=by rw [hf1.lq];exact hxm
    obtain ⟨q,hq⟩:∃ q,q=qs[x]:=⟨_,rfl⟩;have hmq:q∈qs:=hq▸gN hxq;obtain ⟨Y,hY⟩:=hf1.sq _ hmq;have hx0q:x0<qs.length:=by rw [hf1.lq];exact HX0.out
    obtain ⟨q0,hq0⟩:∃ q,q=qs[x0]:=⟨_,rfl⟩;have hmq0:q0∈qs:=hq0▸gN hx0q;obtain ⟨bb0,off0,e0,hTq0,zq0⟩:=mI hf1.rq hx0q;obtain ⟨bb,off,rfl,hTq,zq⟩:=mI hf1.rq hxq
    injection e0 with e0
    injection e0 with e0 e1
    subst e0 e1;rw [← hq] at zq;rw [← hq0] at zq0;have HMQ0:=Ha hmq0;obtain ⟨k1,hk1e⟩:∃ k1:Nat,k1=k+1:=⟨_,rfl⟩;have hk1:IntKind.i64.wrap ((k:Int)+1)=(k1:Int):=by rw [hk1e];exact IntWalk.i64_in _ (by omega)
    have hk2:(k1:Int)≤(l.length:Int):=by omega
    have HK1:=Ha hk1e;have hdr:=aF.dropK hl1 (k:=k1) (by omega);have hdl:l.length-k1=(l.drop k1).length:=by simp
    clear hk1e;generalize hAe:(if c=k1 then some ⟨bl,ol,none⟩ else some ⟨bl,ol+k1,none⟩:Option Addr)=A' at hdr;rw [hdl] at hdr;have HLN:=Ha (tI G w1.drew b m n bE bwE _ _ _ _ ps qs _ _ Y A' (c-k1) (l.drop k1) hf1 hY (hf1.nq _ hmq) (fun k hk=>⟨gK (HGK.out k hk).1 hw1.chg.size,fun e=>by have h1:=HB.out _ hmq;have h2:=HG.out _ hk;omega⟩) hdr (fun s hs=>HS.out s (List.mem_of_mem_drop hs)));rw [← hdl] at HLN;clear hdl;have HQ1:=Ha ((hb1.block w.heap.size (gL HQR.out).1).trans HQR.out);have hcap:l.length≤c:=by obtain ⟨_,_,e,h2,_⟩:=hl1.shape;injection e with _ _ e;subst e;exact h2
    have HF1:=Ha hf1;have HW1:=Ha hw1;have HY:=Ha hY;have HMQ:=Ha hmq;have HSS:=Ha (show ∀ X,WCh n Kp w1.drew X→X.cell? ⟨b,4,none⟩=some (.slice (some ⟨bb,off,none⟩) m c2)∧X.cell? ⟨bb,off+x,none⟩=some (.pointer (some ⟨q.1,0,none⟩))∧X.cell? ⟨w.heap.size,1,none⟩=some (.slice (some ⟨bl,ol,none⟩) l.length c)∧X.heap[w.heap.size]? = some (.cells #[.int .i64 x0,.slice (some ⟨bl,ol,none⟩) l.length c] 64 (0,0))∧X.cell? ⟨w.heap.size,0,none⟩=some (.int .i64 x0)∧X.cell? ⟨bb,off+x0,none⟩=some (.pointer (some ⟨q0.1,0,none⟩)) from
     fun X hX=>⟨(HF1.out.wch hX HNK.out).cells.2.2.2.2,hX.cell zq (hTq.not_wb (by decide)),hX.cell (aA HQ1.out 1 _ rfl) (TB.not_wb (T:=64) ⟨_,HQ1.out⟩ (by decide)),(hX.chg.same _ (gL HQ1.out).1 fun h=>TB.not_wb (T:=64) ⟨_,HQ1.out⟩ (by decide) h.2).trans HQ1.out,hX.cell (aA HQ1.out 0 _ rfl) (TB.not_wb (T:=64) ⟨_,HQ1.out⟩ (by decide)),hX.cell zq0 (hTq0.not_wb (by decide))⟩)
    have HR1:=Ha (show aQ n w1.drew qs≤aQ n wr qs from dF HFR.out.sq ((WCh.refl n Kp wr).below hb1));have hkq:Kp q.2:=by rw [HK.out];exact ⟨HB.out _ hmq,HF1.out.nq _ hmq⟩
    have HKQ:=Ha hkq;clear y0 y1 y2 y3 y4 r0 r1 f0 f1 hb1 hb1' hl1 hf1 hw1 hdr z zq hY hmq hq hTq hkq hmq0 hq0 hTq0 zq0 hx0q hxq;go_wp2_with fail;refine aE.start 18 (fun X=>X.cell? ⟨b,4,none⟩=some (.slice (some ⟨bb,off,none⟩) m c2)∧X.cell? ⟨bb,off+x,none⟩=some (.pointer (some ⟨q.1,0,none⟩))∧X.cell? ⟨w.heap.size,1,none⟩=some (.slice (some ⟨bl,ol,none⟩) l.length c)) (by kernel_rfl) ?hs_1 (fun hHeld=>?hr_1)
    case hs_1=>exact (fun h=>⟨h.1,h.2.1,h.2.2.1⟩) (HSS.out _ (WCh.refl _ _ _))
    refine aE.tks [0,1,2,3,4,5,6,7,8,9,10,11,12] ?_ (by kernel_rfl) (by assumption)
    iterate 13
     refine aK.cons ?_ (by rfl) (by rfl) (by intro w h;(try dsimp only at h);simp only [gA,gB,gC];go_simp;try with_reducible rfl) (by exact fun _ _ _ h=>h);simp only [gA,gB,gC,Act.put,gD,gE,gF]
    show aE _ _ _ _ _ _ _ _ _ _;refine aE.one (i:=13) (by kernel_rfl) rfl fun K hK=>?_;simp only [gA,gB,gC]
    go_simp
    refine Calls.mono HLN.out ?_;rintro e w2 ⟨all,Y',rfl,hle,hy2,hc2⟩;have hw2:WCh n Kp w1.drew w2:=WCh.one HY.out hc2 hy2 hle HKQ.out;obtain ⟨HD1,HW2,HY2⟩:=Zh3 (show decide (Y'≠Y)=true→aQ n w2 qs<aQ n w1.drew qs from fun h=>jJ HF1.out.sq hw2 ⟨q,HMQ.out,by rw [HY.out.wd,hy2.wd];have:=of_decide_eq_true h;omega⟩) hw2 hy2;clear hle hy2 hc2 hw2
    revert HD1
    generalize decide (Y'≠Y)=d1;intro HD1;dsimp only;refine hK.out _ _ ?_ (fun hHeld=>?_)
    ·exact (fun h=>⟨h.1,h.2.1,h.2.2.1⟩) (HSS.out _ HW2.out)
    clear hK K;try simp only [Act.put,gD,gE,gF]
    refine aE.tks [14,15,16,17] ?_ (by kernel_rfl) (by assumption)
    iterate 4
     refine aK.cons ?_ (by rfl) (by rfl) (by intro w h;(try dsimp only at h);simp only [gA,gB,gC];go_simp;try with_reducible rfl) (by exact fun _ _ _ h=>h);simp only [gA,gB,gC,Act.put,gD,gE,gF]
    show aE _ _ _ _ _ _ _ _ _ _;have HW02:=Ha (HW1.out.trans HW2.out);have HRL:=Ha (show aQ n w2 qs≤aQ n wr qs∧(d1=true→aQ n w2 qs<aQ n wr qs) from ⟨gP (dF HF1.out.sq HW2.out) HR1.out,fun h=>gK (HD1.out h) HR1.out⟩);cases all
    case false=>
     have HRF:=Ha (show (mo||d1)=true→aQ n w2 qs<aQ n w qs from fun h=>(Bool.or_eq_true_iff.1 h).elim (fun h=>Nat.lt_of_le_of_lt HRL.out.1 (HRM.out h)) (fun h=>gK (HRL.out.2 h) HRW.out));have HX2:=Ha (((HSS.out _ HW2.out).2.2.2.1).trans HQ0.out.symm);cases mo
     ·refine aE.last (by kernel_rfl) rfl fun K hK=>?_;simp only [gA,gB,gC]
      go_simp
      refine hK.out _ _ (aE.done (by kernel_rfl) ?_ _);go_wp2_with fail
      go_roundw
      case rel=>exact ⟨k1,false||d1,by have:=HK1.out;omega,by first | rfl | go_num,rfl,HRF.out,HW02.out,HX2.out⟩
      case measure=>have:=HK1.out;simp only [intOf];omega
     ·refine aE.last (by kernel_rfl) rfl fun K hK=>?_;simp only [gA,gB,gC]
      go_simp
      refine hK.out _ _ (aE.done (by kernel_rfl) ?_ _);go_wp2_with fail
      go_roundw
      case rel=>exact ⟨k1,true||d1,by have:=HK1.out;omega,by first | rfl | go_num,rfl,HRF.out,HW02.out,HX2.out⟩
      case measure=>have:=HK1.out;simp only [intOf];omega
    case true=>
     have hf2:=HF1.out.wch HW2.out HNK.out;have hf2d:Fz w2.drew b m n bE bwE _ _ _ _ ps qs:=hf2.below (gR _ _).drew;obtain ⟨Z,hZ⟩:=hf2d.sq _ HMQ0.out;obtain ⟨HOR,HF2,HYD⟩:=Zh3 (p6 q.1 q.2 n Y' q0.1 q0.2 Z w2.drew (HY2.out.below (gR _ _).drew) hZ) hf2d (HY2.out.below (gR _ _).drew);clear hf2 hf2d hZ;refine aE.last (by kernel_rfl) rfl fun K hK=>?_;simp only [gA,gB,gC]
     go_simp
     refine hK.out _ _ (aE.done (by kernel_rfl) ?_ _);go_wp2_with fail;refine aE.start 19 (fun X=>X.cell? ⟨b,4,none⟩=some (.slice (some ⟨bb,off,none⟩) m c2)∧X.cell? ⟨bb,off+x,none⟩=some (.pointer (some ⟨q.1,0,none⟩))∧X.cell? ⟨w.heap.size,0,none⟩=some (.int .i64 x0)∧X.cell? ⟨bb,off+x0,none⟩=some (.pointer (some ⟨q0.1,0,none⟩))) (by kernel_rfl) ?hs_2 (fun hHeld=>?hr_2)
     case hs_2=>exact (fun h=>⟨h.1,h.2.1,h.2.2.2.2⟩) (HSS.out _ HW2.out.drew)
     refine aE.tks [0,1,2,3,4,5,6,7,8,9,10,11,12,13,14] ?_ (by kernel_rfl) (by assumption)
     iterate 15
      refine aK.cons ?_ (by rfl) (by rfl) (by intro w h;(try dsimp only at h);simp only [gA,gB,gC];go_simp;try with_reducible rfl) (by exact fun _ _ _ h=>h);simp only [gA,gB,gC,Act.put,gD,gE,gF]
     show aE _ _ _ _ _ _ _ _ _ _;refine aE.one (i:=15) (by kernel_rfl) rfl fun K hK=>?_;simp only [gA,gB,gC]
     go_simp
     refine Calls.mono HOR.out ?_;rintro e w3 ⟨rfl,hy3,hc3⟩;have hw3:WCh n Kp w2.drew w3:=WCh.one HYD.out hc3 hy3 (cG _ _) HKQ.out;have HD2:=Ha (show decide (Y' ||| Z≠Y')=true→aQ n w3 qs<aQ n w2.drew qs from fun h=>jJ HF2.out.sq hw3 ⟨q,HMQ.out,by rw [HYD.out.wd,hy3.wd];have:=of_decide_eq_true h;have:=cG Y' Z;omega⟩);have HW3:=Ha hw3;clear hy3 hc3 hw3
     revert HD2
     generalize decide (Y' ||| Z≠Y')=d2;intro HD2;obtain ⟨HRL3,HW03,HX3⟩:=Zh3 (show aQ n w3 qs≤aQ n w2 qs∧(d2=true→aQ n w3 qs<aQ n w2 qs) from ⟨(dF HF2.out.sq HW3.out:aQ n w3 qs≤aQ n w2.drew qs),HD2.out⟩) (HW02.out.drew.trans HW3.out) (((HSS.out _ (HW2.out.drew.trans HW3.out)).2.2.2.1).trans HQ0.out.symm);dsimp only;refine hK.out _ _ ?_ (fun hHeld=>?_)
     ·exact (fun h=>⟨h.1,h.2.1,h.2.2.2.2⟩) (HSS.out _ (HW2.out.drew.trans HW3.out))
     clear hK K;try simp only [Act.put,gD,gE,gF]
     refine aE.tks [16] ?_ (by kernel_rfl) (by assumption)
     iterate 1
      refine aK.cons ?_ (by rfl) (by rfl) (by intro w h;(try dsimp only at h);simp only [gA,gB,gC];go_simp;try with_reducible rfl) (by exact fun _ _ _ h=>h);simp only [gA,gB,gC,Act.put,gD,gE,gF]
     show aE _ _ _ _ _ _ _ _ _ _;have HRF:=Ha (show (mo||(d2||d1))=true→aQ n w3 qs<aQ n w qs from fun h=>by
      have h1:=HRL.out.1;have h2:=HRL3.out.1;have h3:=HRW.out;rcases Bool.or_eq_true_iff.1 h with h | h
      ·have:=HRM.out h;omega
      ·rcases Bool.or_eq_true_iff.1 h with h | h
       ·have:=HRL3.out.2 h;omega
       ·have:=HRL.out.2 h;omega)
     cases d2
     ·refine aE.one (i:=17) (by kernel_rfl) rfl fun K hK=>?_;simp only [gA,gB,gC]
      go_simp
      refine hK.out _ _ ?_ (fun hHeld=>?_)
      ·exact (fun h=>⟨h.1,h.2.1,h.2.2.2.2⟩) (HSS.out _ (HW2.out.drew.trans HW3.out))
      clear hK K;try simp only [Act.put,gD,gE,gF]
      refine aE.tks [18] ?_ (by kernel_rfl) (by assumption)
      iterate 1
       refine aK.cons ?_ (by rfl) (by rfl) (by intro w h;(try dsimp only at h);simp only [gA,gB,gC];go_simp;try with_reducible rfl) (by exact fun _ _ _ h=>h);simp only [gA,gB,gC,Act.put,gD,gE,gF]
      show aE _ _ _ _ _ _ _ _ _ _;cases mo
      ·refine aE.last (by kernel_rfl) rfl fun K hK=>?_;simp only [gA,gB,gC]
       go_simp
       refine hK.out _ _ (aE.done (by kernel_rfl) ?_ _);go_wp2_with fail
       go_roundw
       case rel=>exact ⟨k1,false||(false||d1),by have:=HK1.out;omega,by first | rfl | go_num,rfl,HRF.out,HW03.out,HX3.out⟩
       case measure=>have:=HK1.out;simp only [intOf];omega
      ·refine aE.last (by kernel_rfl) rfl fun K hK=>?_;simp only [gA,gB,gC]
       go_simp
       refine hK.out _ _ (aE.done (by kernel_rfl) ?_ _);go_wp2_with fail
       go_roundw
       case rel=>exact ⟨k1,true||(false||d1),by have:=HK1.out;omega,by first | rfl | go_num,rfl,HRF.out,HW03.out,HX3.out⟩
       case measure=>have:=HK1.out;simp only [intOf];omega
     ·refine aE.one (i:=17) (by kernel_rfl) rfl fun K hK=>?_;simp only [gA,gB,gC]
      go_simp
      refine hK.out _ _ ?_ (fun hHeld=>?_)
      ·exact (fun h=>⟨h.1,h.2.1,h.2.2.2.2⟩) (HSS.out _ (HW2.out.drew.trans HW3.out))
      clear hK K;try simp only [Act.put,gD,gE,gF]
      refine aE.tks [18] ?_ (by kernel_rfl) (by assumption)
      iterate 1
       refine aK.cons ?_ (by rfl) (by rfl) (by intro w h;(try dsimp only at h);simp only [gA,gB,gC];go_simp;try with_reducible rfl) (by exact fun _ _ _ h=>h);simp only [gA,gB,gC,Act.put,gD,gE,gF]
      show aE _ _ _ _ _ _ _ _ _ _;cases mo
      ·refine aE.last (by kernel_rfl) rfl fun K hK=>?_;simp only [gA,gB,gC]
       go_simp
       refine hK.out _ _ (aE.done (by kernel_rfl) ?_ _);go_wp2_with fail
       go_roundw
       case rel=>exact ⟨k1,false||(true||d1),by have:=HK1.out;omega,by first | rfl | go_num,rfl,HRF.out,HW03.out,HX3.out⟩
       case measure=>have:=HK1.out;simp only [intOf];omega
      ·refine aE.last (by kernel_rfl) rfl fun K hK=>?_;simp only [gA,gB,gC]
       go_simp
       refine hK.out _ _ (aE.done (by kernel_rfl) ?_ _);go_wp2_with fail
       go_roundw
       case rel=>exact ⟨k1,true||(true||d1),by have:=HK1.out;omega,by first | rfl | go_num,rfl,HRF.out,HW03.out,HX3.out⟩
       case measure=>have:=HK1.out;simp only [intOf];omega
  ·obtain rfl:k=l.length:=by omega
   go_wp2_with fail;go_ret;exact ⟨⟨mo,rfl,HRM.out⟩,HWC.out⟩
end
def bZ:List Int→List Int→Int
 | [],[]=>0
 | [],_::_=>-1
 | _::_,[]=>1
 | x::a,y::b=>if x<y then -1 else if y<x then 1 else bZ a b
def pC (x y:Int):Int:=if x<y then -1 else if y<x then 1 else 0
theorem BY (w:World) (x:Int):
  Calls Tryz.prog 177 #[.int .i64 x] w fun e w'=>e=.returned (.bool false)∧w'=w:=by
 go_enter Tryz.func177,Tryz.ntmps177;go_wp2_with fail;go_ret;exact ⟨rfl,rfl⟩
theorem GX (w:World) (x y:Int):
  Calls Tryz.prog 109 #[.int .i64 x,.int .i64 y] w fun e w'=>e=.returned (.int .i64 (pC x y))∧w'=w:=by
 have H:=Ha (BY w);go_enter Tryz.func109,Tryz.ntmps109;go_wp2_with fail;refine (H.out x).mono ?_;rintro e w1 ⟨rfl,rfl⟩;go_wp2_with fail;refine (H.out y).mono ?_;rintro e w2 ⟨rfl,rfl⟩;by_cases h1:x<y
 ·have hc:pC x y=-1:=if_pos h1;have HC:=Ha hc;clear hc;go_wp2_with fail;go_ret;exact ⟨by rw [HC.out];rfl,rfl⟩
 by_cases h2:y<x
 ·have HC:=Ha (show pC x y=1 from by unfold pC;rw [if_neg h1,if_pos h2]);go_wp2_with fail;go_ret;exact ⟨by rw [HC.out];rfl,rfl⟩
 ·have HC:=Ha (show pC x y=0 from by unfold pC;rw [if_neg h1,if_neg h2]);have h3:¬y<x:=h2;go_wp2_with fail;go_ret;exact ⟨by rw [HC.out];rfl,rfl⟩
theorem GI (G G2:Nat→Prop) (w:World) (A A2:Option Addr) (c c2:Nat) (a b:List Int) (ha:aF G w (.slice A a.length c) a) (hb:aF G2 w (.slice A2 b.length c2) b):
  Calls Tryz.prog 50 #[.slice A a.length c,.slice A2 b.length c2] w fun e w'=>e=.returned (.int .i64 (bZ a b))∧w'=w:=by
 obtain ⟨HC,HA,HB⟩:=Zh3 (GX w) ha hb;have hla:=(aH.len ha).2;have hlb:=(aH.len hb).2;clear ha hb;go_enter Tryz.func50,Tryz.ntmps50;go_wp2_with fail
 go_loopw [11] (fun iv wr=>∃ i:Nat,i≤a.length∧i≤b.length∧iv=.int .i64 i∧bZ a b=bZ (a.drop i) (b.drop i)∧wr=w) (fun iv _=>a.length-(intOf iv).toNat)
 case atStart=>exact ⟨0,gX _,gX _,rfl,rfl,rfl⟩
 case round=>
  obtain ⟨i,hia,hib,rfl,hl,rfl⟩:=hrel;have HL:=Ha hl;clear hl;by_cases h1:i<a.length
  ·obtain ⟨ba,oa,rfl,z0⟩:=HA.out.get h1;obtain ⟨x,hx⟩:∃ x,x=a[i]:=⟨_,rfl⟩;rw [← hx] at z0;have HX:=Ha hx;clear hx;by_cases h2:i<b.length
   ·obtain ⟨bb,ob,rfl,z1⟩:=HB.out.get h2;obtain ⟨y,hy⟩:∃ y,y=b[i]:=⟨_,rfl⟩;rw [← hy] at z1;have HL2:=Ha (show bZ a b=if x<y then -1 else if y<x then 1 else bZ (a.drop (i+1)) (b.drop (i+1)) from by
     rw [HL.out,List.drop_eq_getElem_cons h1,List.drop_eq_getElem_cons h2,← HX.out,← hy,bZ])
    clear hy HL;obtain ⟨cc,hcc⟩:∃ cc,cc=pC x y:=⟨_,rfl⟩;have HC1:=Ha (HC.out x y);rw [← hcc] at HC1;by_cases h3:x=y
    ·have h0:cc=0:=by rw [hcc,h3];simp [pC]
     have HR:=Ha (show bZ a b=bZ (a.drop (i+1)) (b.drop (i+1)) from by rw [HL2.out,h3];simp);subst h0;clear hcc h3;go_wp2_with fail;refine (HC1.out).mono ?_;rintro e w1 ⟨rfl,rfl⟩;go_wp2_with fail
     go_roundw
     case rel=>exact ⟨i+1,h1,h2,by go_num,HR.out,trivial⟩
     case measure=>simp only [intOf];omega
    ·have HR:=Ha (show bZ a b=cc∧cc≠0 from by
      rw [HL2.out,hcc];unfold pC;by_cases h4:x<y
      ·rw [if_pos h4,if_pos h4];simp
      ·rw [if_neg h4,if_neg h4,if_pos (show y<x by omega),if_pos (show y<x by omega)];simp)
     have h0:¬cc=0:=HR.out.2;clear hcc h3;go_wp2_with fail;refine (HC1.out).mono ?_;rintro e w1 ⟨rfl,rfl⟩;go_wp2_with fail;go_ret;exact ⟨by rw [HR.out.1];rfl,rfl⟩
   ·have HR:=Ha (show bZ a b=1 from by
     rw [HL.out,show b.drop i=[] from List.drop_eq_nil_of_le (by omega),List.drop_eq_getElem_cons h1,bZ])
    go_wp2_with fail;go_ret;exact ⟨by rw [HR.out];rfl,rfl⟩
  ·by_cases h2:a.length<b.length
   ·have HR:=Ha (show bZ a b=-1 from by
     rw [HL.out,show a.drop i=[] from List.drop_eq_nil_of_le (by omega),List.drop_eq_getElem_cons (show i<b.length by omega),bZ])
    have h3:(a.length:Int)<(b.length:Int):=by omega
    go_wp2_with fail;go_ret;exact ⟨by rw [HR.out];rfl,rfl⟩
   ·have HR:=Ha (show bZ a b=0 from by
     rw [HL.out,show a.drop i=[] from List.drop_eq_nil_of_le (by omega),show b.drop i=[] from List.drop_eq_nil_of_le (by omega),bZ])
    have h3:¬(a.length:Int)<(b.length:Int):=by omega
    go_wp2_with fail;go_ret;exact ⟨by rw [HR.out];rfl,rfl⟩
end Go.Proofs.YtpidmmfjcghmeaaGreat
