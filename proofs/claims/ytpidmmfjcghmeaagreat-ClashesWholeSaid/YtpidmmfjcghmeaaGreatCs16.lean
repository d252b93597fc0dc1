/- Towards clashesWhole_upto. -/
import Derived.Test.YtpidmmfjcghmeaaGreatCs13
set_option maxRecDepth 100000
set_option maxHeartbeats 16000000
set_option linter.all false
namespace Go.Proofs.YtpidmmfjcghmeaaGreat
open Go.RowKit
theorem iV (d:Nat→Nat→Nat→Bool) (bb:Nat→Nat→Bool) (N:Nat) (x:Int) (r:List Int) (i:Nat):begB d bb N (x::r) i=true↔i=N∨bb x.toNat i=true∨∃ k,i+k≤N∧d x.toNat i (i+k)=true∧begB d bb N r (i+k)=true:=by
 rw [begB,Bool.or_eq_true,Bool.or_eq_true,List.any_eq_true,beq_iff_eq,or_assoc];refine or_congr Iff.rfl (or_congr Iff.rfl ?_);constructor
 ·rintro ⟨k,hk,h⟩;rw [yF] at h;exact ⟨k,by have:=List.mem_range.1 hk;omega,h.1,h.2⟩
 ·rintro ⟨k,hk,h1,h2⟩;exact ⟨k,List.mem_range.2 (by omega),by rw [h1,h2];rfl⟩
theorem zQ:∀ (l:List Int) (G:Nat→Prop) (w:World) (bc bd bB:Nat) (p r:Nat→Nat) (q:Nat→Nat→Nat) (m N:Nat) (d:Nat→Nat→Nat→Bool) (bb:Nat→Nat→Bool) (v0 v1 v2 v3:Value) (Al:Option Addr) (cl:Nat) (A:Option Addr) (c i:Nat),
  Ch w bc bd bB p r q m (N+1) d bb v0 v1 v2 v3 Al cl→(∀ k,G k→k<w.heap.size)→aF G w (.slice A l.length c) l→(∀ s∈l,0≤s∧s<m)→i≤N→N≤1000000→m≤1000000→
  Calls Tryz.prog 154 #[.pointer (some ⟨bc,0,none⟩),.slice A l.length c,.int .i64 i] w fun e w'=>e=.returned (.bool (begB d bb N l i))∧Below w.heap.size w w':=by
 intro l
 induction l with
 | nil=>
  intro G w bc bd bB p r q m N d bb v0 v1 v2 v3 Al cl A c i hch _ _ _ hi hN hm;have y4:=aA hch.hc 4 _ rfl;rw [show #[v0,v1,v2,v3,Value.slice Al (N+1-1) cl,Value.slice (some ⟨bd,0,none⟩) m m,Value.slice (some ⟨bB,0,none⟩) m m][4]=Value.slice Al N cl from rfl] at y4;have he:=Ha (show begB d bb N [] i=(i==N) from rfl);clear hch;go_enter Tryz.func154,Tryz.ntmps154;by_cases hiN:i=N
  ·have he2:=Ha (show begB d bb N [] i=true by rw [he.out];simpa using hiN);have hb:((i:Int)==(N:Int))=true:=by rw [hiN];exact beq_self_eq_true _
   clear hiN;go_wp2_with fail;go_ret;exact ⟨by rw [he2.out];rfl,gR _ _⟩
  ·have he2:=Ha (show begB d bb N [] i=false by rw [he.out];simpa using hiN);have hb:((i:Int)==(N:Int))=false:=by rw [gJ];omega
   clear hiN;go_wp2_with fail;go_ret;exact ⟨by rw [he2.out];rfl,gR _ _⟩
 | cons x l ih=>
  intro G w bc bd bB p r q m N d bb v0 v1 v2 v3 Al cl A c i hch hG hin hs hi hN hm;obtain ⟨x',hx'⟩:∃ x':Nat,x=(x':Int):=⟨x.toNat,by have:=(hs x (yH ..)).1;omega⟩;subst hx';have hxm:x'<m:=by have:=(hs _ (yH ..)).2;omega
  have hlen:((x':Int)::l).length=l.length+1:=rfl;rw [hlen] at hin ⊢;obtain ⟨b,off,rfl,z⟩:=aF.get hin (k:=0) (by simp);have htl:=hin.tail';generalize hAe:(if c=1 then some ⟨b,off,none⟩ else some ⟨b,off+1,none⟩:Option Addr)=A' at htl;have hcap:l.length+1≤c:=by obtain ⟨_,_,e,h2,_⟩:=hin.shape;injection e with _ _ e;subst e;exact h2
  have hc0:(1:Int)≤(c:Int):=by omega
  have hl1:(1:Int)≤(l.length:Int)+1:=by omega
  have hllc:(l.length:Int)+1≤(c:Int):=by omega
  rw [show ((x':Int)::l)[0]=(x':Int) from rfl,Nat.add_zero] at z;obtain ⟨y4,y6,y7,y8⟩:=hch.bcells hxm (show i<N+1 by omega);rw [Nat.add_sub_cancel] at y4;obtain ⟨HCH,HG,HTL,HS,IH,HSP,HX4⟩:=Zh7 hch hG htl (fun s h=>hs s (yI _ h)) ih (iV d bb N (x':Int) l i) y4;clear hch hG hin htl hs ih hlen;go_enter Tryz.func154,Tryz.ntmps154;by_cases hiN:i=N
  ·have he2:=Ha (show begB d bb N ((x':Int)::l) i=true from HSP.out.2 (.inl hiN));have hb:((i:Int)==(N:Int))=true:=by rw [hiN];exact beq_self_eq_true _
   clear hiN;go_wp2_with fail;go_ret;exact ⟨by rw [he2.out];rfl,gR _ _⟩
  have hb:((i:Int)==(N:Int))=false:=by rw [gJ];omega
  have HNN:=Ha hiN;clear hiN;have HBB:=Ha (show bb x' i=true→begB d bb N ((x':Int)::l) i=true from fun h=>HSP.out.2 (.inr (.inl h)));have HBN:=Ha (show bb x' i=false→(begB d bb N ((x':Int)::l) i=true→∃ k,i+k≤N∧d x' i (i+k)=true∧begB d bb N l (i+k)=true) from fun h h2=>by
   rcases HSP.out.1 h2 with h3 | h3 | h3
   ·exact absurd h3 HNN.out
   ·rw [yB,h] at h3;cases h3
   ·exact h3)
  revert y8 HBB HBN
  generalize hbx:bb x' i=b1;intro y8 HBB HBN;clear hbx;have z2:=z;cases b1
  case true=>
   have he:=Ha (HBB.out rfl);go_wp2_with fail
   go_region
   go_wp2_with fail;go_ret;exact ⟨by rw [he.out];rfl,(gR _ _).drew⟩
  go_wp2_with fail
  go_region
  clear z2;have hd0:Below w.heap.size w w.drew:=(gR _ _).drew;have HD0:=Ha hd0;clear hd0 y4 y6 y7 y8;go_wp2
  go_loopw [7] (fun mv wr=>∃ k:Nat,mv=.int .i64 ((i+k:Nat):Int)∧i+k≤N+1∧(∀ k',k'<k→¬(d x' i (i+k')=true∧begB d bb N l (i+k')=true))∧Below w.heap.size w wr) (fun mv _=>N+1-(intOf mv).toNat)
  case atStart=>exact ⟨0,rfl,by omega,fun _ h=>absurd h (yJ _),HD0.out⟩
  case round=>
   obtain ⟨k,rfl,hk,hno,hb⟩:=hrel;have HNO:=Ha hno;have HB:=Ha hb;have hchr:=HCH.out.below hb;have hzr:=aD z hb;have hz4:=aD HX4.out hb;clear hno hb;obtain ⟨mm,hmm⟩:∃ mm,mm=i+k:=⟨_,rfl⟩;rw [← hmm] at hk ⊢;have HMM:=Ha hmm;clear hmm;by_cases hle:mm≤N
   ·obtain ⟨e1,e2,e3,e4⟩:=hchr.dcells hxm (show i<N+1 by omega) (show mm<N+1 by omega);have hne:Nonempty (Gr wr):=⟨⟨_,gR _ _⟩⟩;have pc:=fun Y:Gr wr=>Y.calls (IH.out G Y.at_ bc bd bB _ _ _ _ _ d bb _ _ _ _ _ _ A' (c-1) mm (hchr.below Y.2) (bN (bN HG.out HB.out) Y.2) (HTL.out.below HG.out (HB.out.trans (Below.mono Y.2 HB.out.size))) HS.out hle hN hm);have f0:=fun Y:Gr wr=>Y.cell _ _ e1;have f1:=fun Y:Gr wr=>Y.cell _ _ e2;have f2:=fun Y:Gr wr=>Y.cell _ _ e3;have f3:=fun Y:Gr wr=>Y.cell _ _ e4;have fz:=fun Y:Gr wr=>Y.cell _ _ hzr;clear hchr e1 e2 e3 e4 hzr z;have HYES:=Ha (show d x' i mm=true→begB d bb N l mm=true→begB d bb N ((x':Int)::l) i=true from fun h1 h2=>HSP.out.2 (.inr (.inr ⟨k,by rw [← HMM.out];exact hle,by rw [← HMM.out,yB];exact h1,by rw [← HMM.out];exact h2⟩)));have HNEXT:=Ha (show ¬(d x' i mm=true∧begB d bb N l mm=true)→∀ k',k'<k+1→¬(d x' i (i+k')=true∧begB d bb N l (i+k')=true) from fun h k' hk'=>by
     by_cases e:k'=k
     ·rw [e,← HMM.out];exact h
     ·exact HNO.out k' (by omega))
    revert pc f3 HYES HNEXT
    generalize d x' i mm=d1;generalize begB d bb N l mm=d2;intro pc f3 HYES HNEXT;go_wp2_with fail;cases d1
    ·refine aN (S:=Gr wr) Gr.at_ (by kernel_rfl) (by kernel_rfl) (Gr.drew _) ?_;repeat (go_big_quiet_step (with_reducible exact pc _))
     refine wpQuiet_nil ?_;rintro wz ⟨⟨wz',hY⟩,hY2⟩;obtain rfl:wz=wz':=hY2;have HBZ:=Ha (HB.out.trans (hY.mono HB.out.size));clear pc f0 f1 f2 f3 fz hne hY hz4;go_wp2_with fail
     go_roundw
     case rel=>exact ⟨k+1,by have:=HMM.out;go_num,by have:=HMM.out;omega,HNEXT.out (by simp),HBZ.out⟩
     case measure=>simp only [intOf];omega
    ·refine aN (S:=Gr wr) Gr.at_ (by kernel_rfl) (by kernel_rfl) (Gr.drew _) ?_;repeat (go_big_quiet_step (with_reducible exact pc _))
     refine wpQuiet_nil ?_;rintro wz ⟨⟨wz',hY⟩,hY2⟩;obtain rfl:wz=wz':=hY2;have HBZ:=Ha (HB.out.trans (hY.mono HB.out.size));clear pc f0 f1 f2 f3 fz hne hY hz4;cases d2
     ·go_wp2_with fail
      go_roundw
      case rel=>exact ⟨k+1,by have:=HMM.out;go_num,by have:=HMM.out;omega,HNEXT.out (by simp),HBZ.out⟩
      case measure=>simp only [intOf];omega
     ·have he:=Ha (HYES.out rfl rfl);go_wp2_with fail;go_ret;exact ⟨by rw [he.out];rfl,HBZ.out⟩
   ·have he:=Ha (show begB d bb N ((x':Int)::l) i=false from by
     rw [Bool.eq_false_iff];intro h;obtain ⟨k',h1,h2,h3⟩:=HBN.out (by first | rfl | trivial) h;exact HNO.out k' (by have:=HMM.out;omega) ⟨h2,h3⟩)
    go_wp2_with fail;go_ret;exact ⟨by rw [he.out];rfl,HB.out⟩
def setD (d:Nat→Nat→Nat→Bool) (s i j:Nat):Nat→Nat→Nat→Bool:=fun s' i' j'=>if s'=s∧i'=i∧j'=j then true else d s' i' j'
def setB (bb:Nat→Nat→Bool) (s i:Nat):Nat→Nat→Bool:=fun s' i'=>if s'=s∧i'=i then true else bb s' i'
inductive Steps (x:Nat) (l:List Int) (N:Nat) (d0:Nat→Nat→Nat→Bool) (b0:Nat→Nat→Bool):(Nat→Nat→Nat→Bool)→(Nat→Nat→Bool)→Prop
 | refl:Steps x l N d0 b0 d0 b0
 | dd {d:Nat→Nat→Nat→Bool} {bb:Nat→Nat→Bool} {i j:Nat}:Steps x l N d0 b0 d bb→i≤j→j≤N→spanB d l i j=true→Steps x l N d0 b0 (setD d x i j) bb
 | bb {d:Nat→Nat→Nat→Bool} {bb:Nat→Nat→Bool} {i:Nat}:Steps x l N d0 b0 d bb→i≤N→begB d bb N l i=true→Steps x l N d0 b0 d (setB bb x i)
def dY (f:Nat→Nat):Nat→Nat
 | 0=>0
 | n+1=>dY f n+f n
theorem eF {f g:Nat→Nat}:∀ n,(∀ k,k<n→f k≤g k)→dY f n≤dY g n
 | 0,_=>gO _
 | n+1,h=>Nat.add_le_add (eF n fun k hk=>h k (by omega)) (h n (by omega))
theorem eG {f g:Nat→Nat}:∀ n,(∀ k,k<n→f k≤g k)→(∃ k,k<n∧f k<g k)→dY f n<dY g n
 | 0,_,⟨k,hk,_⟩=>absurd hk (yJ k)
 | n+1,h,⟨k,hk,hlt⟩=>by
  have h1:=eF n fun k hk=>h k (by omega);have h2:=h n (by omega);unfold dY;by_cases e:k=n
  ·subst e;omega
  ·have:=eG n (fun k hk=>h k (by omega)) ⟨k,by omega,hlt⟩;omega
theorem jM {f g:Nat→Nat} (n:Nat) (h:∀ k,k<n→f k=g k):dY f n=dY g n:=
 Nat.le_antisymm (eF n fun k hk=>Nat.le_of_eq (h k hk)) (eF n fun k hk=>Nat.le_of_eq (h k hk).symm)
def nb (b:Bool):Nat:=if b then 0 else 1
def meas (m n:Nat) (d:Nat→Nat→Nat→Bool) (bb:Nat→Nat→Bool):Nat:=dY (fun s=>dY (fun i=>dY (fun j=>nb (d s i j)) n+nb (bb s i)) n) m
theorem FC {m n:Nat} {d d':Nat→Nat→Nat→Bool} {bb bb':Nat→Nat→Bool} (h1:∀ s i j,s<m→i<n→j<n→d s i j=d' s i j) (h2:∀ s i,s<m→i<n→bb s i=bb' s i):meas m n d bb=meas m n d' bb':=
 jM m fun s hs=>jM n fun i hi=>by
  show dY _ n+_=dY _ n+_;rw [jM n (fun j hj=>by rw [h1 s i j hs hi hj]),h2 s i hs hi]
theorem xJ {m n:Nat} {d:Nat→Nat→Nat→Bool} {bb:Nat→Nat→Bool} {s i j:Nat} (hs:s<m) (hi:i<n) (hj:j<n) (h:d s i j=false):meas m n (setD d s i j) bb<meas m n d bb:=by
 have hle:∀ s' i' j',nb (setD d s i j s' i' j')≤nb (d s' i' j'):=fun s' i' j'=>by
  unfold setD
  split
  ·simp [nb]
  ·exact gO _
 refine eG m (fun s' _=>eF n fun i' _=>Nat.add_le_add_right (eF n fun j' _=>hle ..) _) ⟨s,hs,eG n (fun i' _=>Nat.add_le_add_right (eF n fun j' _=>hle ..) _) ⟨i,hi,Nat.add_lt_add_right (eG n (fun j' _=>hle ..) ⟨j,hj, ?_⟩) _⟩⟩;unfold setD;rw [if_pos ⟨rfl,rfl,rfl⟩,h];decide
theorem xI {m n:Nat} {d:Nat→Nat→Nat→Bool} {bb:Nat→Nat→Bool} {s i:Nat} (hs:s<m) (hi:i<n) (h:bb s i=false):meas m n d (setB bb s i)<meas m n d bb:=by
 have hle:∀ s' i',nb (setB bb s i s' i')≤nb (bb s' i'):=fun s' i'=>by
  unfold setB
  split
  ·simp [nb]
  ·exact gO _
 refine eG m (fun s' _=>eF n fun i' _=>Nat.add_le_add_left (hle ..) _) ⟨s,hs,eG n (fun i' _=>Nat.add_le_add_left (hle ..) _) ⟨i,hi,Nat.add_lt_add_left ?_ _⟩⟩;unfold setB;rw [if_pos ⟨rfl,rfl⟩,h];decide
section
variable {w w':World} {bc bd bB:Nat} {p r:Nat→Nat} {q:Nat→Nat→Nat} {m n:Nat} {d:Nat→Nat→Nat→Bool} {bb:Nat→Nat→Bool} {v0 v1 v2 v3:Value} {Al:Option Addr} {cl:Nat}
theorem aV {b b':Nat} {T T':TypeId} {k k':Nat} {f f':Nat→Value} (h:w.rowIs b T k f) (h':w.rowIs b' T' k' f') (hT:T≠T'):b≠b':=fun e=>by
 subst e;obtain ⟨c,h1,_⟩:=h;obtain ⟨c',h2,_⟩:=h';rw [h1] at h2
 injection h2 with h2
 injection h2 with _ h2
 exact hT h2
theorem cQ {b b':Nat} {T T':TypeId} {k:Nat} {f:Nat→Value} {cs:Array Value} (h:w.rowIs b T k f) (h':w.heap[b']? = some (.cells cs T' (0,0))) (hT:T≠T'):b≠b':=fun e=>by
 subst e;obtain ⟨c,h1,_⟩:=h;rw [h1] at h'
 injection h' with h2
 injection h2 with _ h2
 exact hT h2
theorem Ch.setD (h:Ch w bc bd bB p r q m n d bb v0 v1 v2 v3 Al cl) {s i j:Nat} (hs:s<m) (hi:i<n):Ch (w.setCell ⟨q s i,j,none⟩ (.bool true)) bc bd bB p r q m n (Proofs.YtpidmmfjcghmeaaGreat.setD d s i j) bb v0 v1 v2 v3 Al cl:=by
 have e:∀ k,k≠q s i→(w.setCell ⟨q s i,j,none⟩ (.bool true)).heap[k]? = w.heap[k]? := fun k hk=>gU _ _ _ _ hk;have hq:=h.hq s i hs hi;refine ⟨(e _ (Ne.symm (cQ hq h.hc (by decide)))).trans h.hc,h.hd.of_block (e _ (aV h.hd hq (by decide))),h.hB.of_block (e _ (aV h.hB hq (by decide))),fun s' hs'=>(h.hp s' hs').of_block (e _ (aV (h.hp s' hs') hq (by decide))),fun s' i' hs' hi'=>?_,fun s' hs'=>(h.hr s' hs').of_block (e _ (Ne.symm (h.qr s i s' hs hi hs'))),h.qq,h.rr,h.qr,h.n1⟩;by_cases hk:q s' i'=q s i
 ·obtain ⟨rfl,rfl⟩:=h.qq s' i' s i hs' hi' hs hi hk;refine (hq.set j _).congr fun j' _=>?_;unfold Proofs.YtpidmmfjcghmeaaGreat.setD;by_cases ej:j'=j
  ·rw [if_pos ej,if_pos ⟨rfl,rfl,ej⟩]
  ·rw [if_neg ej,if_neg fun h=>ej h.2.2]
 ·refine ((h.hq s' i' hs' hi').of_block (e _ hk)).congr fun j' _=>?_;unfold Proofs.YtpidmmfjcghmeaaGreat.setD;rw [if_neg fun h=>hk (by rw [h.1,h.2.1])]
theorem Ch.setB (h:Ch w bc bd bB p r q m n d bb v0 v1 v2 v3 Al cl) {s i:Nat} (hs:s<m):Ch (w.setCell ⟨r s,i,none⟩ (.bool true)) bc bd bB p r q m n d (Proofs.YtpidmmfjcghmeaaGreat.setB bb s i) v0 v1 v2 v3 Al cl:=by
 have e:∀ k,k≠r s→(w.setCell ⟨r s,i,none⟩ (.bool true)).heap[k]? = w.heap[k]? := fun k hk=>gU _ _ _ _ hk;have hr:=h.hr s hs;refine ⟨(e _ (Ne.symm (cQ hr h.hc (by decide)))).trans h.hc,h.hd.of_block (e _ (aV h.hd hr (by decide))),h.hB.of_block (e _ (aV h.hB hr (by decide))),fun s' hs'=>(h.hp s' hs').of_block (e _ (aV (h.hp s' hs') hr (by decide))),fun s' i' hs' hi'=>(h.hq s' i' hs' hi').of_block (e _ (h.qr s' i' s hs' hi' hs)),fun s' hs'=>?_,h.qq,h.rr,h.qr,h.n1⟩;by_cases hk:r s'=r s
 ·obtain rfl:=h.rr s' s hs' hs hk;refine (hr.set i _).congr fun i' _=>?_;unfold Proofs.YtpidmmfjcghmeaaGreat.setB;by_cases ej:i'=i
  ·rw [if_pos ej,if_pos ⟨rfl,ej⟩]
  ·rw [if_neg ej,if_neg fun h=>ej h.2]
 ·refine ((h.hr s' hs').of_block (e _ hk)).congr fun i' _=>?_;unfold Proofs.YtpidmmfjcghmeaaGreat.setB;rw [if_neg fun h=>hk (by rw [h.1])]
end
def sV:Value→Nat
 | .slice (some a) _ _=>a.block
 | _=>0
def uK:Value→Bool
 | .bool b=>b
 | _=>false
def iZ (w:World) (b i:Nat):Value:=(w.cell? ⟨b,i,none⟩).getD (.bool false)
def dOf (w:World) (bc:Nat) (s i j:Nat):Bool:=uK (iZ w (sV (iZ w (sV (iZ w (sV (iZ w bc 5)) s)) i)) j)
def bOf (w:World) (bc:Nat) (s i:Nat):Bool:=uK (iZ w (sV (iZ w (sV (iZ w bc 6)) s)) i)
theorem vC {w:World} {bc bd bB:Nat} {p r:Nat→Nat} {q:Nat→Nat→Nat} {m n:Nat} {d:Nat→Nat→Nat→Bool} {bb:Nat→Nat→Bool} {v0 v1 v2 v3:Value} {Al:Option Addr} {cl:Nat} (h:Ch w bc bd bB p r q m n d bb v0 v1 v2 v3 Al cl):
  meas m n (dOf w bc) (bOf w bc)=meas m n d bb:=FC (fun s i j hs hi hj=>by
   obtain ⟨e1,e2,e3,e4⟩:=h.dcells hs hi hj;simp [dOf,iZ,sV,uK,e1,e2,e3,e4]) fun s i hs hi=>by
   obtain ⟨_,e1,e2,e3⟩:=h.bcells hs hi;simp [bOf,iZ,sV,uK,e1,e2,e3]
structure Rs (B0:Nat) (w0 w:World) (b3 bc bd bB:Nat) (p r:Nat→Nat) (q:Nat→Nat→Nat) (m N:Nat) (d0:Nat→Nat→Nat→Bool) (bb0:Nat→Nat→Bool) (v0 v1 v2 v3:Value) (Al:Option Addr) (cl:Nat) (x:Nat) (l:List Int) (vl:Value) (d:Nat→Nat→Nat→Bool) (bb:Nat→Nat→Bool) (more:Bool):Prop where
 ch:Ch w bc bd bB p r q m (N+1) d bb v0 v1 v2 v3 Al cl
 st:Steps x l N d0 bb0 d bb
 box:w.heap[b3]? = some (.cells #[.int .i64 x,vl] 64 (0,0))
 bel:Below B0 w0 w
 my:more=true→meas m (N+1) d bb<meas m (N+1) d0 bb0
 mn:more=false→d=d0∧bb=bb0
section
variable {B0:Nat} {w0 w w':World} {b3 bc bd bB:Nat} {p r:Nat→Nat} {q:Nat→Nat→Nat} {m N:Nat} {d0:Nat→Nat→Nat→Bool} {bb0:Nat→Nat→Bool} {v0 v1 v2 v3:Value} {Al:Option Addr} {cl:Nat} {x:Nat} {l:List Int} {vl:Value} {d:Nat→Nat→Nat→Bool} {bb:Nat→Nat→Bool} {more:Bool}
theorem Rs.below (h:Rs B0 w0 w b3 bc bd bB p r q m N d0 bb0 v0 v1 v2 v3 Al cl x l vl d bb more) (hb:Below w.heap.size w w') (hB:B0≤w.heap.size):Rs B0 w0 w' b3 bc bd bB p r q m N d0 bb0 v0 v1 v2 v3 Al cl x l vl d bb more:=
 ⟨h.ch.below hb,h.st,(hb.block _ (gL h.box).1).trans h.box,h.bel.trans (hb.mono hB),h.my,h.mn⟩
theorem Rs.le (h:Rs B0 w0 w b3 bc bd bB p r q m N d0 bb0 v0 v1 v2 v3 Al cl x l vl d bb more):meas m (N+1) d bb≤meas m (N+1) d0 bb0:=by
 cases hm:more
 ·obtain ⟨h1,h2⟩:=h.mn hm;rw [h1,h2];exact gO _
 ·exact Nat.le_of_lt (h.my hm)
theorem Rs.setD {i j:Nat} (h:Rs B0 w0 w b3 bc bd bB p r q m N d0 bb0 v0 v1 v2 v3 Al cl x l vl d bb more) (hx:x<m) (hij:i≤j) (hj:j≤N) (hd:d x i j=false) (hs:spanB d l i j=true) (hB:B0≤q x i):Rs B0 w0 (w.setCell ⟨q x i,j,none⟩ (.bool true)) b3 bc bd bB p r q m N d0 bb0 v0 v1 v2 v3 Al cl x l vl (Proofs.YtpidmmfjcghmeaaGreat.setD d x i j) bb true:=
 ⟨h.ch.setD hx (by omega),h.st.dd hij hj hs,(gU _ _ _ _ (Ne.symm (cQ (h.ch.hq x i hx (by omega)) h.box (by decide)))).trans h.box,h.bel.setCell hB _,fun _=>gK (xJ hx (by omega) (by omega) hd) h.le,fun h=>by cases h⟩
theorem Rs.setB {i:Nat} (h:Rs B0 w0 w b3 bc bd bB p r q m N d0 bb0 v0 v1 v2 v3 Al cl x l vl d bb more) (hx:x<m) (hi:i≤N) (hd:bb x i=false) (hs:begB d bb N l i=true) (hB:B0≤r x):Rs B0 w0 (w.setCell ⟨r x,i,none⟩ (.bool true)) b3 bc bd bB p r q m N d0 bb0 v0 v1 v2 v3 Al cl x l vl d (Proofs.YtpidmmfjcghmeaaGreat.setB bb x i) true:=
 ⟨h.ch.setB hx,h.st.bb hi hs,(gU _ _ _ _ (Ne.symm (cQ (h.ch.hr x hx) h.box (by decide)))).trans h.box,h.bel.setCell hB _,fun _=>gK (xI hx (by omega) hd) h.le,fun h=>by cases h⟩
end
def qN (B0:Nat) (w:World) (bc bd bB:Nat) (p r:Nat→Nat) (q:Nat→Nat→Nat) (m N:Nat) (d:Nat→Nat→Nat→Bool) (bb:Nat→Nat→Bool) (v0 v1 v2 v3:Value) (Al:Option Addr) (cl:Nat) (x:Nat) (l:List Int) (e:Ending) (w':World):Prop:=
 ∃ d' bb' more,e=.returned (.bool more)∧Ch w' bc bd bB p r q m (N+1) d' bb' v0 v1 v2 v3 Al cl∧Steps x l N d bb d' bb'∧Below B0 w w'∧(more=true→meas m (N+1) d' bb'<meas m (N+1) d bb)∧
  (more=false→d'=d∧bb'=bb∧(∀ i j,i≤j→j≤N→spanB d l i j=true→d x i j=true)∧∀ i,i≤N→begB d bb N l i=true→bb x i=true)
theorem IV (G:Nat→Prop) (w:World) (B0 bc bd bB:Nat) (p r:Nat→Nat) (q:Nat→Nat→Nat) (m N:Nat) (d:Nat→Nat→Nat→Bool) (bb:Nat→Nat→Bool) (v0 v1 v2 v3:Value) (Al:Option Addr) (cl:Nat) (us:List Value) (x:Nat) (l:List Int)
  (hch:Ch w bc bd bB p r q m (N+1) d bb v0 v1 v2 v3 Al cl) (hG:∀ k,G k→k<B0) (hB0:B0≤w.heap.size) (hBq:∀ s i,s<m→i<N+1→B0≤q s i) (hBr:∀ s,s<m→B0≤r s) (hu:RuV G w us ((x:Int),l)) (hx:x<m) (hs:∀ s∈l,0≤s∧s<m) (hN:N≤900000) (hm:m≤1000000):
  Calls Tryz.prog 94 #[.pointer (some ⟨bc,0,none⟩),ag us] w fun e w'=>qN B0 w bc bd bB p r q m N d bb v0 v1 v2 v3 Al cl x l e w':=by
 obtain ⟨vl,rfl,hl⟩:=hu;obtain ⟨A,c,rfl,_,_⟩:=hl.shape;unfold ag;have hb0:Below w.heap.size w (w.alloc (.cells #[.int .i64 (x:Int),.slice A l.length c] 64)):=(gR _ _).alloc (gO _) _;have q0:=aC w (.cells #[.int .i64 (x:Int),.slice A l.length c] 64);have hR0:Rs B0 w (w.alloc (.cells #[.int .i64 (x:Int),.slice A l.length c] 64)) w.heap.size bc bd bB p r q m N d bb v0 v1 v2 v3 Al cl x l (.slice A l.length c) d bb false:=
  ⟨hch.below hb0,.refl,q0,hb0.mono hB0,fun h=>(by cases h),fun _=>⟨rfl,rfl⟩⟩
 obtain ⟨HR0,HIN,HG,HBQ,HBR,HS⟩:=Zh6 hR0 (fun (Y:World) (hY:Below B0 w Y)=>aF.keep (G':=G) (fun _ h=>h) (fun p hp=>hY.cell (hG _ hp)) hl) hG hBq hBr hs;clear hch hb0 q0 hR0 hl hG hBq hBr hs;generalize hW:w.alloc (.cells #[.int .i64 (x:Int),.slice A l.length c] 64)=W at *;go_enter Tryz.func94,Tryz.ntmps94;go_wp2
 go_loopw [5,6] (fun mv iv wr=>∃ (i:Nat) (d':Nat→Nat→Nat→Bool) (bb':Nat→Nat→Bool) (more:Bool),mv=.bool more∧iv=.int .i64 i∧i≤N+1∧Rs B0 w wr w.heap.size bc bd bB p r q m N d bb v0 v1 v2 v3 Al cl x l (.slice A l.length c) d' bb' more∧
  (more=false→(∀ i' j',i'<i→i'≤j'→j'≤N→spanB d l i' j'=true→d x i' j'=true)∧∀ i',i'<i→begB d bb N l i'=true→bb x i'=true)) (fun _ iv _=>N+1-(intOf iv).toNat)
 case atStart=>exact ⟨0,d,bb,false,rfl,rfl,by omega,HR0.out,fun _=>⟨fun _ _ h=>absurd h (yJ _),fun _ h=>absurd h (yJ _)⟩⟩
 case round=>
  obtain ⟨i,d',bb',more,rfl,rfl,hi,hrs,hcl⟩:=hrel;have HRS:=Ha hrs;have HCL:=Ha hcl;have y4:=aA hrs.ch.hc 4 _ rfl;rw [show #[v0,v1,v2,v3,Value.slice Al (N+1-1) cl,Value.slice (some ⟨bd,0,none⟩) m m,Value.slice (some ⟨bB,0,none⟩) m m][4]=Value.slice Al N cl from rfl] at y4;clear hrs hcl;by_cases hle:i≤N
  ·go_wp2
   go_loopw [5,7] (fun mv jv wr=>∃ (j:Nat) (d':Nat→Nat→Nat→Bool) (bb':Nat→Nat→Bool) (more:Bool),mv=.bool more∧jv=.int .i64 j∧i≤j∧j≤N+1∧Rs B0 w wr w.heap.size bc bd bB p r q m N d bb v0 v1 v2 v3 Al cl x l (.slice A l.length c) d' bb' more∧
    (more=false→(∀ i' j',i'<i→i'≤j'→j'≤N→spanB d l i' j'=true→d x i' j'=true)∧(∀ i',i'<i→begB d bb N l i'=true→bb x i'=true)∧∀ j',i≤j'→j'<j→spanB d l i j'=true→d x i j'=true)) (fun _ jv _=>N+1-(intOf jv).toNat)
   case atStart=>exact ⟨i,d',bb',more,rfl,rfl,gO _,hi,HRS.out,fun h=>⟨(HCL.out h).1,(HCL.out h).2,fun _ h1 h2=>absurd h2 (by omega)⟩⟩
   case round=>
    clear HRS HCL y4;obtain ⟨j,d',bb',more,rfl,rfl,hij,hj,hrs,hcl⟩:=hrel;have HRS:=Ha hrs;have HCL:=Ha hcl;have y4:=aA hrs.ch.hc 4 _ rfl;rw [show #[v0,v1,v2,v3,Value.slice Al (N+1-1) cl,Value.slice (some ⟨bd,0,none⟩) m m,Value.slice (some ⟨bB,0,none⟩) m m][4]=Value.slice Al N cl from rfl] at y4;have hszr:B0≤wr.heap.size:=gP hB0 hrs.bel.size;by_cases hjl:j≤N
    ·obtain ⟨e1,e2,e3,e4⟩:=hrs.ch.dcells hx (show i<N+1 by omega) (show j<N+1 by omega);have e5:=aA hrs.box 0 _ rfl;have e6:=aA hrs.box 1 _ rfl;clear hrs hcl;have hne:Nonempty (Gr wr):=⟨⟨_,gR _ _⟩⟩;have pc:=fun Y:Gr wr=>Y.calls (IY l G Y.at_ bc bd bB _ _ _ _ _ d' bb' _ _ _ _ _ _ A c i j (HRS.out.ch.below Y.2) (fun k hk=>gK (HG.out k hk) (gP hszr Y.2.size)) (HIN.out _ (HRS.out.bel.trans (Below.mono Y.2 hszr))) HS.out (by omega) (by omega) (by omega) hm);have f0:=fun Y:Gr wr=>Y.cell _ _ e1;have f1:=fun Y:Gr wr=>Y.cell _ _ e2;have f2:=fun Y:Gr wr=>Y.cell _ _ e3;have f3:=fun Y:Gr wr=>Y.cell _ _ e4;have f4:=fun Y:Gr wr=>Y.cell _ _ e5;have f5:=fun Y:Gr wr=>Y.cell _ _ e6;clear e1 e2 e3 e4 e5 e6;have HYES:=Ha (show d' x i j=false→spanB d' l i j=true→_ from fun h1 h2 (Y:World) (hY:Below wr.heap.size wr Y)=>(HRS.out.below hY hszr).setD hx hij hjl h1 h2 (HBQ.out x i hx (by omega)));have HNEXT:=Ha (show ¬(d' x i j=false∧spanB d' l i j=true)→more=false→∀ j',i≤j'→j'<j+1→spanB d l i j'=true→d x i j'=true from fun h hmo j' h1 h2 h3=>by
      by_cases e:j'=j
      ·obtain ⟨r1,r2⟩:=HRS.out.mn hmo;subst e;rw [r1] at h;cases hdd:d x i j'
       ·exact absurd ⟨hdd,h3⟩ h
       ·rfl
      ·exact (HCL.out hmo).2.2 j' h1 (by omega) h3)
     have HCH:=Ha (fun (Y:World) (hY:Below wr.heap.size wr Y)=>(HRS.out.below hY hszr).ch)
     revert pc f3 HYES HNEXT
     generalize hd1:d' x i j=d1;generalize hd2:spanB d' l i j=d2;intro pc f3 HYES HNEXT;clear hd1 hd2;go_wp2_with fail;cases d1
     ·refine aN (S:=Gr wr) Gr.at_ (by kernel_rfl) (by kernel_rfl) (Gr.drew _) ?_;repeat (go_big_quiet_step (with_reducible exact pc _))
      refine wpQuiet_nil ?_;rintro wz ⟨⟨wz',hY⟩,hY2⟩;obtain rfl:wz=wz':=hY2;have HBZ:=Ha hY;clear pc f0 f1 f2 f3 f4 f5 hne hY y4;cases d2
      ·go_wp2_with fail
       go_roundw
       case rel=>exact ⟨j+1,d',bb',more,rfl,by go_num,by omega,by omega,HRS.out.below HBZ.out hszr,fun h=>⟨(HCL.out h).1,(HCL.out h).2.1,HNEXT.out (by simp) h⟩⟩
       case measure=>simp only [intOf];omega
      ·have hchz:=HCH.out wz HBZ.out;obtain ⟨e1,e2,e3,e4⟩:=hchz.dcells hx (show i<N+1 by omega) (show j<N+1 by omega);have e7:=(hchz.hq x i hx (show i<N+1 by omega)).frozen j;have e5:=aA (HRS.out.below HBZ.out hszr).box 0 _ rfl;have HZZ:=Ha (HYES.out (by first | rfl | trivial) (by first | rfl | trivial) wz.drew (HBZ.out.drew));clear hchz;go_wp2_with fail
       go_region
       clear e1 e2 e3 e4 e5 e7;go_wp2_with fail
       go_roundw
       case rel=>exact ⟨j+1,_,_,true,rfl,by go_num,by omega,by omega,HZZ.out,fun h=>(by cases h)⟩
       case measure=>simp only [intOf];omega
     ·refine aN (S:=Gr wr) Gr.at_ (by kernel_rfl) (by kernel_rfl) (Gr.drew _) ?_;repeat (go_big_quiet_step (with_reducible exact pc _))
      refine wpQuiet_nil ?_;rintro wz ⟨⟨wz',hY⟩,hY2⟩;obtain rfl:wz=wz':=hY2;have HBZ:=Ha hY;clear pc f0 f1 f2 f3 f4 f5 hne hY y4;go_wp2_with fail
      go_roundw
      case rel=>exact ⟨j+1,d',bb',more,rfl,by go_num,by omega,by omega,HRS.out.below HBZ.out hszr,fun h=>⟨(HCL.out h).1,(HCL.out h).2.1,HNEXT.out (by simp) h⟩⟩
      case measure=>simp only [intOf];omega
    ·obtain rfl:j=N+1:=by omega
     have HCLI:=Ha (show more=false→∀ i' j',i'<i+1→i'≤j'→j'≤N→spanB d l i' j'=true→d x i' j'=true from fun h i' j' h1 h2 h3 h4=>by
      by_cases e:i'=i
      ·subst e;exact (HCL.out h).2.2 j' h2 (by omega) h4
      ·exact (HCL.out h).1 i' j' (by omega) h2 h3 h4)
     have HCLB:=Ha (show more=false→∀ i',i'<i→begB d bb N l i'=true→bb x i'=true from fun h=>(HCL.out h).2.1);clear HCL;obtain ⟨_,e1,e2,e3⟩:=hrs.ch.bcells hx (show i<N+1 by omega);have e5:=aA hrs.box 0 _ rfl;have e6:=aA hrs.box 1 _ rfl;clear hrs hcl;have hne:Nonempty (Gr wr):=⟨⟨_,gR _ _⟩⟩;have pc:=fun Y:Gr wr=>Y.calls (zQ l G Y.at_ bc bd bB _ _ _ _ _ d' bb' _ _ _ _ _ _ A c i (HRS.out.ch.below Y.2) (fun k hk=>gK (HG.out k hk) (gP hszr Y.2.size)) (HIN.out _ (HRS.out.bel.trans (Below.mono Y.2 hszr))) HS.out hle (by omega) hm);have f0:=fun Y:Gr wr=>Y.cell _ _ e1;have f1:=fun Y:Gr wr=>Y.cell _ _ e2;have f2:=fun Y:Gr wr=>Y.cell _ _ e3;have f4:=fun Y:Gr wr=>Y.cell _ _ e5;have f5:=fun Y:Gr wr=>Y.cell _ _ e6;clear e1 e2 e3 e5 e6;have HYES:=Ha (show bb' x i=false→begB d' bb' N l i=true→_ from fun h1 h2 (Y:World) (hY:Below wr.heap.size wr Y)=>(HRS.out.below hY hszr).setB hx hle h1 h2 (HBR.out x hx));have HNEXT:=Ha (show ¬(bb' x i=false∧begB d' bb' N l i=true)→more=false→∀ i',i'<i+1→begB d bb N l i'=true→bb x i'=true from fun h hmo i' h1 h3=>by
      by_cases e:i'=i
      ·obtain ⟨r1,r2⟩:=HRS.out.mn hmo;subst e;rw [r1,r2] at h;cases hdd:bb x i'
       ·exact absurd ⟨hdd,h3⟩ h
       ·rfl
      ·exact HCLB.out hmo i' (by omega) h3)
     have HCH:=Ha (fun (Y:World) (hY:Below wr.heap.size wr Y)=>(HRS.out.below hY hszr).ch)
     revert pc f2 HYES HNEXT
     generalize hd1:bb' x i=d1;generalize hd2:begB d' bb' N l i=d2;intro pc f2 HYES HNEXT;clear hd1 hd2;go_wp2_with fail;cases d1
     ·refine aN (S:=Gr wr) Gr.at_ (by kernel_rfl) (by kernel_rfl) (Gr.drew _) ?_;repeat (go_big_quiet_step (with_reducible exact pc _))
      refine wpQuiet_nil ?_;rintro wz ⟨⟨wz',hY⟩,hY2⟩;obtain rfl:wz=wz':=hY2;have HBZ:=Ha hY;clear pc f0 f1 f2 f4 f5 hne hY y4;cases d2
      ·go_wp2_with fail
       go_roundw
       case rel=>exact ⟨i+1,d',bb',more,rfl,by go_num,by omega,HRS.out.below HBZ.out hszr,fun h=>⟨HCLI.out h,HNEXT.out (by simp) h⟩⟩
       case measure=>simp only [intOf];omega
      ·have hchz:=HCH.out wz HBZ.out;obtain ⟨_,e1,e2,e3⟩:=hchz.bcells hx (show i<N+1 by omega);have e7:=(hchz.hr x hx).frozen i;have e5:=aA (HRS.out.below HBZ.out hszr).box 0 _ rfl;have HZZ:=Ha (HYES.out (by first | rfl | trivial) (by first | rfl | trivial) wz.drew (HBZ.out.drew));clear hchz;go_wp2_with fail
       go_region
       clear e1 e2 e3 e5 e7;go_wp2_with fail
       go_roundw
       case rel=>exact ⟨i+1,_,_,true,rfl,by go_num,by omega,HZZ.out,fun h=>(by cases h)⟩
       case measure=>simp only [intOf];omega
     ·refine aN (S:=Gr wr) Gr.at_ (by kernel_rfl) (by kernel_rfl) (Gr.drew _) ?_;repeat (go_big_quiet_step (with_reducible exact pc _))
      refine wpQuiet_nil ?_;rintro wz ⟨⟨wz',hY⟩,hY2⟩;obtain rfl:wz=wz':=hY2;have HBZ:=Ha hY;clear pc f0 f1 f2 f4 f5 hne hY y4;go_wp2_with fail
      go_roundw
      case rel=>exact ⟨i+1,d',bb',more,rfl,by go_num,by omega,HRS.out.below HBZ.out hszr,fun h=>⟨HCLI.out h,HNEXT.out (by simp) h⟩⟩
      case measure=>simp only [intOf];omega
  ·have HFI:=Ha (show qN B0 w bc bd bB p r q m N d bb v0 v1 v2 v3 Al cl x l (.returned (.bool more)) wr from
    ⟨d',bb',more,rfl,HRS.out.ch,HRS.out.st,HRS.out.bel,HRS.out.my,fun h=>⟨(HRS.out.mn h).1,(HRS.out.mn h).2,fun i' j' h1 h2 h3=>(HCL.out h).1 i' j' (by omega) h1 h2 h3,fun i' h1 h2=>(HCL.out h).2 i' (by omega) h2⟩⟩)
   go_wp2_with fail;go_ret;exact HFI.out
def up1 {α:Type} (f:Nat→α) (k:Nat) (v:α):Nat→α:=fun s=>if s=k then v else f s
def up2 {α:Type} (f:Nat→Nat→α) (k i:Nat) (v:α):Nat→Nat→α:=fun s j=>if s=k∧j=i then v else f s j
theorem dI {α:Type} (f:Nat→α) (k:Nat) (v:α):up1 f k v k=v:=if_pos rfl
theorem cM {α:Type} (f:Nat→α) {k s:Nat} (v:α) (h:s≠k):up1 f k v s=f s:=if_neg h
theorem iO {α:Type} (f:Nat→Nat→α) (k i:Nat) (v:α):up2 f k i v k i=v:=if_pos ⟨rfl,rfl⟩
theorem dJ {α:Type} (f:Nat→Nat→α) {k i s j:Nat} (v:α) (h:¬(s=k∧j=i)):up2 f k i v s j=f s j:=if_neg h
structure Cp (B0:Nat) (w:World) (bc bd bB:Nat) (p r:Nat→Nat) (q:Nat→Nat→Nat) (m n K K':Nat) (aq:Nat→Nat→Bool) (d:Nat→Nat→Nat→Bool) (bb:Nat→Nat→Bool) (v0 v1 v2 v3:Value) (Al:Option Addr) (cl:Nat):Prop where
 hc:w.heap[bc]? = some (.cells #[v0,v1,v2,v3,.slice Al (n-1) cl,.slice (some ⟨bd,0,none⟩) m m,.slice (some ⟨bB,0,none⟩) m m] 79 (0,0))
 hd:w.rowIs bd 76 m (fun s=>if s<K then .slice (some ⟨p s,0,none⟩) n n else .slice none 0 0)
 hB:w.rowIs bB 75 m (fun s=>if s<K' then .slice (some ⟨r s,0,none⟩) n n else .slice none 0 0)
 hp:∀ s,s<K→w.rowIs (p s) 75 n (fun i=>if aq s i=true then .slice (some ⟨q s i,0,none⟩) n n else .slice none 0 0)
 hq:∀ s i,aq s i=true→w.rowIs (q s i) 4 n (fun j=>.bool (d s i j))
 hr:∀ s,s<K'→w.rowIs (r s) 4 n (fun i=>.bool (bb s i))
 qq:∀ s i s' i',aq s i=true→aq s' i'=true→q s i=q s' i'→s=s'∧i=i'
 rr:∀ s s',s<K'→s'<K'→r s=r s'→s=s'
 qr:∀ s i s',aq s i=true→s'<K'→q s i≠r s'
 pp:∀ s s',s<K→s'<K→p s=p s'→s=s'
 pB:∀ s,s<K→p s≠bB
 dB:bd≠bB
 B0q:∀ s i,aq s i=true→B0≤q s i
 B0r:∀ s,s<K'→B0≤r s
 B0p:∀ s,s<K→B0≤p s
 B0d:B0≤bd
 B0B:B0≤bB
 n1:1≤n
section
variable {B0:Nat} {w w':World} {bc bd bB:Nat} {p r:Nat→Nat} {q:Nat→Nat→Nat} {m n K K':Nat} {aq:Nat→Nat→Bool} {d:Nat→Nat→Nat→Bool} {bb:Nat→Nat→Bool} {v0 v1 v2 v3:Value} {Al:Option Addr} {cl:Nat}
theorem Cp.below (h:Cp B0 w bc bd bB p r q m n K K' aq d bb v0 v1 v2 v3 Al cl) (hb:Below w.heap.size w w'):Cp B0 w' bc bd bB p r q m n K K' aq d bb v0 v1 v2 v3 Al cl:=
 ⟨(hb.block _ (gL h.hc).1).trans h.hc,bK h.hd hb,bK h.hB hb,fun s hs=>bK (h.hp s hs) hb,fun s i hs=>bK (h.hq s i hs) hb,fun s hs=>bK (h.hr s hs) hb,h.qq,h.rr,h.qr,h.pp,h.pB,h.dB,h.B0q,h.B0r,h.B0p,h.B0d,h.B0B,h.n1⟩
theorem Cp.done (h:Cp B0 w bc bd bB p r q m n m m aq d bb v0 v1 v2 v3 Al cl) (ha:∀ s i,s<m→i<n→aq s i=true):Ch w bc bd bB p r q m n d bb v0 v1 v2 v3 Al cl:=
 ⟨h.hc,h.hd.congr fun _ hs=>if_pos hs,h.hB.congr fun _ hs=>if_pos hs,fun s hs=>(h.hp s hs).congr fun i hi=>if_pos (ha s i hs hi),fun s i hs hi=>h.hq s i (ha s i hs hi),h.hr,fun s i s' i' hs hi hs' hi' e=>h.qq _ _ _ _ (ha s i hs hi) (ha s' i' hs' hi') e,h.rr,fun s i _ hs hi hs'=>h.qr _ _ _ (ha s i hs hi) hs',h.n1⟩
theorem Cp.start (hc:w.heap[bc]? = some (.cells #[v0,v1,v2,v3,.slice Al (n-1) cl,.slice (some ⟨bd,0,none⟩) m m,.slice (some ⟨bB,0,none⟩) m m] 79 (0,0))) (hd:w.rowIs bd 76 m (fun _=>.slice none 0 0)) (hB:w.rowIs bB 75 m (fun _=>.slice none 0 0)) (h1:B0≤bd) (h2:B0≤bB) (hn:1≤n):
  Cp B0 w bc bd bB p r q m n 0 0 (fun _ _=>false) d bb v0 v1 v2 v3 Al cl:=
 ⟨hc,hd.congr fun _ _=>(if_neg (yJ _)).symm,hB.congr fun _ _=>(if_neg (yJ _)).symm,fun _ h=>absurd h (yJ _),fun _ _ h=>(by cases h),fun _ h=>absurd h (yJ _),fun _ _ _ _ h=>(by cases h),fun _ _ h=>absurd h (yJ _),fun _ _ _ h=>(by cases h),fun _ _ h=>absurd h (yJ _),fun _ h=>absurd h (yJ _),aV hd hB (by decide),fun _ _ h=>(by cases h),fun _ h=>absurd h (yJ _),fun _ h=>absurd h (yJ _),h1,h2,hn⟩
theorem Cp.newR (h:Cp B0 w bc bd bB p r q m n K K' aq d bb v0 v1 v2 v3 Al cl) (hB:B0≤w.heap.size):
  Cp B0 ((w.alloc (.cells (madeCells #[.bool false] n) 4)).setCell ⟨bB,K',none⟩ (.slice (some ⟨w.heap.size,0,none⟩) n n)) bc bd bB p (up1 r K' w.heap.size) q m n K (K'+1) aq d (fun s i=>if s=K' then false else bb s i) v0 v1 v2 v3 Al cl:=by
 have hb:Below w.heap.size w (w.alloc (.cells (madeCells #[.bool false] n) 4)):=(gR _ _).alloc (gO _) _;have h1:=h.below hb;have hn:=World.rowIs_made w (.bool false) n 4;have e:∀ k,k≠bB→((w.alloc (.cells (madeCells #[.bool false] n) 4)).setCell ⟨bB,K',none⟩ (.slice (some ⟨w.heap.size,0,none⟩) n n)).heap[k]? = (w.alloc (.cells (madeCells #[.bool false] n) 4)).heap[k]? := fun k hk=>gU _ _ _ _ hk;have hlr:∀ s,s<K'→r s<w.heap.size:=fun s hs=>(h.hr s hs).lt;have hlq:∀ s i,aq s i=true→q s i<w.heap.size:=fun s i hs=>(h.hq s i hs).lt;refine ⟨(e _ (Ne.symm (cQ h1.hB h1.hc (by decide)))).trans h1.hc,h1.hd.of_block (e _ h.dB),((h1.hB.set K' _).congr fun s _=>?_),fun s hs=>(h1.hp s hs).of_block (e _ (h.pB s hs)),fun s i hs=>(h1.hq s i hs).of_block (e _ (aV (h1.hq s i hs) h1.hB (by decide))),fun s hs=>?_,h.qq,fun s s' hs hs' he=>?_,fun s i s' hs hs'=>?_,h.pp,h.pB,h.dB,h.B0q,fun s hs=>?_,h.B0p,h.B0d,h.B0B,h.n1⟩
 ·by_cases es:s=K'
  ·rw [if_pos es,if_pos (by omega),es,dI]
  ·rw [if_neg es];by_cases hs:s<K'
   ·rw [if_pos hs,if_pos (by omega),cM _ _ es]
   ·rw [if_neg hs,if_neg (by omega)]
 ·by_cases es:s=K'
  ·subst es;rw [dI];exact (hn.of_block (e _ (aV hn h1.hB (by decide)))).congr fun i _=>by rw [if_pos rfl]
  ·rw [cM _ _ es];have hs2:s<K':=by omega
   exact ((h1.hr s hs2).of_block (e _ (aV (h1.hr s hs2) h1.hB (by decide)))).congr fun i _=>by rw [if_neg es]
 ·by_cases es:s=K'
  ·by_cases es':s'=K'
   ·omega
   ·rw [es,dI,cM _ _ es'] at he;have:=hlr s' (by omega);omega
  ·by_cases es':s'=K'
   ·rw [es',dI,cM _ _ es] at he;have:=hlr s (by omega);omega
   ·rw [cM _ _ es,cM _ _ es'] at he;exact h.rr s s' (by omega) (by omega) he
 ·by_cases es':s'=K'
  ·rw [es',dI];have:=hlq s i hs;omega
  ·rw [cM _ _ es'];exact h.qr s i s' hs (by omega)
 ·by_cases es:s=K'
  ·rw [es,dI];exact hB
  ·rw [cM _ _ es];exact h.B0r s (by omega)
theorem Cp.newP (h:Cp B0 w bc bd bB p r q m n K K' aq d bb v0 v1 v2 v3 Al cl) (hB:B0≤w.heap.size) (ha:∀ i,aq K i=false):
  Cp B0 ((w.alloc (.cells (madeCells #[.slice none 0 0] n) 75)).setCell ⟨bd,K,none⟩ (.slice (some ⟨w.heap.size,0,none⟩) n n)) bc bd bB (up1 p K w.heap.size) r q m n (K+1) K' aq d bb v0 v1 v2 v3 Al cl:=by
 have hb:Below w.heap.size w (w.alloc (.cells (madeCells #[.slice none 0 0] n) 75)):=(gR _ _).alloc (gO _) _;have h1:=h.below hb;have hn:=World.rowIs_made w (.slice none 0 0) n 75;have e:∀ k,k≠bd→((w.alloc (.cells (madeCells #[.slice none 0 0] n) 75)).setCell ⟨bd,K,none⟩ (.slice (some ⟨w.heap.size,0,none⟩) n n)).heap[k]? = (w.alloc (.cells (madeCells #[.slice none 0 0] n) 75)).heap[k]? := fun k hk=>gU _ _ _ _ hk;have hlp:∀ s,s<K→p s<w.heap.size:=fun s hs=>(h.hp s hs).lt;refine ⟨(e _ (Ne.symm (cQ h1.hd h1.hc (by decide)))).trans h1.hc,(h1.hd.set K _).congr fun s _=>?_,h1.hB.of_block (e _ (Ne.symm h.dB)),fun s hs=>?_,fun s i hs=>(h1.hq s i hs).of_block (e _ (aV (h1.hq s i hs) h1.hd (by decide))),fun s hs=>(h1.hr s hs).of_block (e _ (aV (h1.hr s hs) h1.hd (by decide))),h.qq,h.rr,h.qr,fun s s' hs hs' he=>?_,fun s hs=>?_,h.dB,h.B0q,h.B0r,fun s hs=>?_,h.B0d,h.B0B,h.n1⟩
 ·by_cases es:s=K
  ·rw [if_pos es,if_pos (by omega),es,dI]
  ·rw [if_neg es];by_cases hs:s<K
   ·rw [if_pos hs,if_pos (by omega),cM _ _ es]
   ·rw [if_neg hs,if_neg (by omega)]
 ·by_cases es:s=K
  ·subst es;rw [dI];exact (hn.of_block (e _ (aV hn h1.hd (by decide)))).congr fun i _=>by rw [if_neg (by rw [ha];decide)]
  ·rw [cM _ _ es];have hs2:s<K:=by omega
   exact (h1.hp s hs2).of_block (e _ (aV (h1.hp s hs2) h1.hd (by decide)))
 ·by_cases es:s=K
  ·by_cases es':s'=K
   ·omega
   ·rw [es,dI,cM _ _ es'] at he;have:=hlp s' (by omega);omega
  ·by_cases es':s'=K
   ·rw [es',dI,cM _ _ es] at he;have:=hlp s (by omega);omega
   ·rw [cM _ _ es,cM _ _ es'] at he;exact h.pp s s' (by omega) (by omega) he
 ·by_cases es:s=K
  ·rw [es,dI];have:=h.hB.lt;omega
  ·rw [cM _ _ es];exact h.pB s (by omega)
 ·by_cases es:s=K
  ·rw [es,dI];exact hB
  ·rw [cM _ _ es];exact h.B0p s (by omega)
theorem Cp.newQ (h:Cp B0 w bc bd bB p r q m n K K' aq d bb v0 v1 v2 v3 Al cl) (hB:B0≤w.heap.size) {k i:Nat} (hk:k<K) (ha:aq k i=false):
  Cp B0 ((w.alloc (.cells (madeCells #[.bool false] n) 4)).setCell ⟨p k,i,none⟩ (.slice (some ⟨w.heap.size,0,none⟩) n n)) bc bd bB p r (up2 q k i w.heap.size) m n K K' (up2 aq k i true) (fun s i' j=>if s=k∧i'=i then false else d s i' j) bb v0 v1 v2 v3 Al cl:=by
 have hb:Below w.heap.size w (w.alloc (.cells (madeCells #[.bool false] n) 4)):=(gR _ _).alloc (gO _) _;have h1:=h.below hb;have hn:=World.rowIs_made w (.bool false) n 4;have e:∀ j,j≠p k→((w.alloc (.cells (madeCells #[.bool false] n) 4)).setCell ⟨p k,i,none⟩ (.slice (some ⟨w.heap.size,0,none⟩) n n)).heap[j]? = (w.alloc (.cells (madeCells #[.bool false] n) 4)).heap[j]? := fun j hj=>gU _ _ _ _ hj;have hpk:=h1.hp k hk;have hlq:∀ s i,aq s i=true→q s i<w.heap.size:=fun s i hs=>(h.hq s i hs).lt;have hlr:∀ s,s<K'→r s<w.heap.size:=fun s hs=>(h.hr s hs).lt;have ho:∀ s j,up2 aq k i true s j=true→(s=k∧j=i)∨(¬(s=k∧j=i)∧aq s j=true):=fun s j h=>by
  by_cases e:s=k∧j=i
  ·exact .inl e
  ·rw [dJ _ _ e] at h;exact .inr ⟨e,h⟩
 refine ⟨(e _ (Ne.symm (cQ hpk h1.hc (by decide)))).trans h1.hc,h1.hd.of_block (e _ (aV h1.hd hpk (by decide))),h1.hB.of_block (e _ (Ne.symm (h.pB k hk))),fun s hs=>?_,fun s j hs=>?_,fun s hs=>(h1.hr s hs).of_block (e _ (aV (h1.hr s hs) hpk (by decide))),fun s j s' j' hs hs' he=>?_,h.rr,fun s j s' hs hs'=>?_,h.pp,h.pB,h.dB,fun s j hs=>?_,h.B0r,h.B0p,h.B0d,h.B0B,h.n1⟩
 ·by_cases es:s=k
  ·subst es;refine (hpk.set i _).congr fun j _=>?_;by_cases ej:j=i
   ·subst ej;rw [if_pos rfl,iO,if_pos rfl,iO]
   ·rw [if_neg ej,dJ _ _ (fun h=>ej h.2),dJ _ _ (fun h=>ej h.2)]
  ·refine ((h1.hp s hs).of_block (e _ fun h2=>es (h.pp s k hs hk h2))).congr fun j _=>?_;rw [dJ _ _ (fun h=>es h.1),dJ _ _ (fun h=>es h.1)]
 ·rcases ho s j hs with ⟨rfl,rfl⟩ | ⟨e1,e2⟩
  ·rw [iO];exact (hn.of_block (e _ (aV hn hpk (by decide)))).congr fun j' _=>by rw [if_pos ⟨rfl,rfl⟩]
  ·rw [dJ _ _ e1];exact ((h1.hq s j e2).of_block (e _ (aV (h1.hq s j e2) hpk (by decide)))).congr fun j' _=>by rw [if_neg e1]
 ·rcases ho s j hs with ⟨rfl,rfl⟩ | ⟨e1,e2⟩ <;> rcases ho s' j' hs' with ⟨rfl,rfl⟩ | ⟨e3,e4⟩
  ·exact ⟨rfl,rfl⟩
  ·rw [iO,dJ _ _ e3] at he;have:=hlq s' j' e4;omega
  ·rw [iO,dJ _ _ e1] at he;have:=hlq s j e2;omega
  ·rw [dJ _ _ e1,dJ _ _ e3] at he;exact h.qq _ _ _ _ e2 e4 he
 ·rcases ho s j hs with ⟨rfl,rfl⟩ | ⟨e1,e2⟩
  ·rw [iO];have:=hlr s' hs';omega
  ·rw [dJ _ _ e1];exact h.qr s j s' e2 hs'
 ·rcases ho s j hs with ⟨rfl,rfl⟩ | ⟨e1,e2⟩
  ·rw [iO];exact hB
  ·rw [dJ _ _ e1];exact h.B0q s j e2
theorem Cp.putD (h:Cp B0 w bc bd bB p r q m n K K' aq d bb v0 v1 v2 v3 Al cl) {s i:Nat} (ha:aq s i=true) (j:Nat) (v:Bool):
  Cp B0 (w.setCell ⟨q s i,j,none⟩ (.bool v)) bc bd bB p r q m n K K' aq (fun s' i' j'=>if s'=s∧i'=i∧j'=j then v else d s' i' j') bb v0 v1 v2 v3 Al cl:=by
 have e:∀ k,k≠q s i→(w.setCell ⟨q s i,j,none⟩ (.bool v)).heap[k]? = w.heap[k]? := fun k hk=>gU _ _ _ _ hk;have hq:=h.hq s i ha;refine ⟨(e _ (Ne.symm (cQ hq h.hc (by decide)))).trans h.hc,h.hd.of_block (e _ (aV h.hd hq (by decide))),h.hB.of_block (e _ (aV h.hB hq (by decide))),fun s' hs'=>(h.hp s' hs').of_block (e _ (aV (h.hp s' hs') hq (by decide))),fun s' i' hs'=>?_,fun s' hs'=>(h.hr s' hs').of_block (e _ (Ne.symm (h.qr s i s' ha hs'))),h.qq,h.rr,h.qr,h.pp,h.pB,h.dB,h.B0q,h.B0r,h.B0p,h.B0d,h.B0B,h.n1⟩;by_cases hk:q s' i'=q s i
 ·obtain ⟨rfl,rfl⟩:=h.qq s' i' s i hs' ha hk;refine (hq.set j _).congr fun j' _=>?_;by_cases ej:j'=j
  ·rw [if_pos ej,if_pos ⟨rfl,rfl,ej⟩]
  ·rw [if_neg ej,if_neg fun h=>ej h.2.2]
 ·refine ((h.hq s' i' hs').of_block (e _ hk)).congr fun j' _=>?_;rw [if_neg fun h=>hk (by rw [h.1,h.2.1])]
theorem Cp.putB (h:Cp B0 w bc bd bB p r q m n K K' aq d bb v0 v1 v2 v3 Al cl) {s:Nat} (hs:s<K') (i:Nat) (v:Bool):
  Cp B0 (w.setCell ⟨r s,i,none⟩ (.bool v)) bc bd bB p r q m n K K' aq d (fun s' i'=>if s'=s∧i'=i then v else bb s' i') v0 v1 v2 v3 Al cl:=by
 have e:∀ k,k≠r s→(w.setCell ⟨r s,i,none⟩ (.bool v)).heap[k]? = w.heap[k]? := fun k hk=>gU _ _ _ _ hk;have hr:=h.hr s hs;refine ⟨(e _ (Ne.symm (cQ hr h.hc (by decide)))).trans h.hc,h.hd.of_block (e _ (aV h.hd hr (by decide))),h.hB.of_block (e _ (aV h.hB hr (by decide))),fun s' hs'=>(h.hp s' hs').of_block (e _ (aV (h.hp s' hs') hr (by decide))),fun s' i' hs'=>(h.hq s' i' hs').of_block (e _ (h.qr s' i' s hs' hs)),fun s' hs'=>?_,h.qq,h.rr,h.qr,h.pp,h.pB,h.dB,h.B0q,h.B0r,h.B0p,h.B0d,h.B0B,h.n1⟩;by_cases hk:r s'=r s
 ·obtain rfl:=h.rr s' s hs' hs hk;refine (hr.set i _).congr fun i' _=>?_;by_cases ej:i'=i
  ·rw [if_pos ej,if_pos ⟨rfl,ej⟩]
  ·rw [if_neg ej,if_neg fun h=>ej h.2]
 ·refine ((h.hr s' hs').of_block (e _ hk)).congr fun i' _=>?_;rw [if_neg fun h=>hk (by rw [h.1])]
theorem Cp.conv {aq':Nat→Nat→Bool} {d':Nat→Nat→Nat→Bool} {bb':Nat→Nat→Bool} (h:Cp B0 w bc bd bB p r q m n K K' aq d bb v0 v1 v2 v3 Al cl) (h1:∀ s i,aq s i=aq' s i) (h2:∀ s i j,aq s i=true→j<n→d s i j=d' s i j) (h3:∀ s i,s<K'→i<n→bb s i=bb' s i):Cp B0 w bc bd bB p r q m n K K' aq' d' bb' v0 v1 v2 v3 Al cl:=by
 have e:aq=aq':=funext fun s=>funext fun i=>h1 s i;subst e;exact ⟨h.hc,h.hd,h.hB,h.hp,fun s i hs=>(h.hq s i hs).congr fun j hj=>by rw [h2 s i j hs hj],fun s hs=>(h.hr s hs).congr fun i hi=>by rw [h3 s i hs hi],h.qq,h.rr,h.qr,h.pp,h.pB,h.dB,h.B0q,h.B0r,h.B0p,h.B0d,h.B0B,h.n1⟩
end
end Go.Proofs.YtpidmmfjcghmeaaGreat
