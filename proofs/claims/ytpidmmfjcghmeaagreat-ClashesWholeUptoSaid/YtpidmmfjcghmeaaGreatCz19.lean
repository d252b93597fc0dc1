/- Towards clashesWhole_upto. -/
import Derived.Test.YtpidmmfjcghmeaaGreatCz15
import Derived.Test.YtpidmmfjcghmeaaGreatCz16
import Derived.Laws.CopyRow
import Derived.Lib.SliceRun
set_option maxRecDepth 100000
set_option maxHeartbeats 16000000
set_option linter.all false
namespace Go.Proofs.YtpidmmfjcghmeaaGreat
open Go.RowKit
section
attribute [local go_sem ↓] aI
theorem gT (a b:Nat) (ha:a<18446744073709551616) (hb:b<18446744073709551616):
  bits .andNot .u64 (a:Int) (b:Int)=((a &&& (18446744073709551615-b):Nat):Int):=by
 have hx:a &&& (18446744073709551615-b)<2 ^ 64:=Nat.and_lt_two_pow _ (by omega);have h1:(BitVec.ofInt 64 (a:Int)).toNat=a:=by
  rw [BitVec.ofInt_natCast,BitVec.toNat_ofNat];exact Nat.mod_eq_of_lt (by omega)
 have h2:(BitVec.ofInt 64 (b:Int)).toNat=b:=by
  rw [BitVec.ofInt_natCast,BitVec.toNat_ofNat];exact Nat.mod_eq_of_lt (by omega)
 show IntKind.u64.wrap ((BitVec.ofInt 64 (a:Int) &&& ~~~BitVec.ofInt 64 (b:Int)).toNat:Int)=_;rw [BitVec.toNat_and,BitVec.toNat_not,h1,h2,IntKind.wrap_u64];have e:2 ^ 64-1-b=18446744073709551615-b:=by omega
 rw [e];omega
theorem qX {Y X:Nat} (hX:X<18446744073709551616) (hY:Y<18446744073709551616):Y &&& (18446744073709551615-X)=0↔X ||| Y=X:=by
 have key:∀ i,i<64→(18446744073709551615-X).testBit i = !X.testBit i:=fun i hi=>by
  have:=Nat.testBit_two_pow_sub_succ (x:=X) (n:=64) (by omega) i;rw [show 2 ^ 64-(X+1)=18446744073709551615-X by omega] at this;rw [this];simp [hi]
 have hi64:∀ Z i,Z<18446744073709551616→64≤i→Z.testBit i=false:=fun Z i hZ hi=>Nat.testBit_lt_two_pow (gK hZ (Nat.pow_le_pow_right (n:=2) (by decide) hi));constructor
 ·intro h;apply Nat.eq_of_testBit_eq;intro i;rw [Nat.testBit_or];rcases Nat.lt_or_ge i 64 with hi | hi
  ·have h1:=congrArg (Nat.testBit · i) h;simp only [Nat.testBit_and,key i hi,Nat.zero_testBit] at h1;cases hx:X.testBit i <;> cases hy:Y.testBit i <;> simp_all
  ·rw [hi64 X i hX hi,hi64 Y i hY hi];rfl
 ·intro h;apply Nat.eq_of_testBit_eq;intro i;rw [Nat.testBit_and,Nat.zero_testBit];rcases Nat.lt_or_ge i 64 with hi | hi
  ·rw [key i hi];have h1:=congrArg (Nat.testBit · i) h;simp only [Nat.testBit_or] at h1;cases hx:X.testBit i <;> cases hy:Y.testBit i <;> simp_all
  ·rw [hi64 Y i hY hi];rfl
def wE (vs:List Value) (X:Nat):Prop:=vs=[.int .u64 X]
theorem wE.one:∀ (vs:List Value) (x:Nat),wE vs x→∀ u∈vs,u.oneCell'=true:=by
 rintro vs x rfl u hu;simp only [List.mem_cons,List.not_mem_nil,or_false] at hu;subst hu;rfl
theorem BSet.word {w:World} {b bw n X:Nat} (h:BSet w b bw n X):aH (fun _=>True) w 1 wE (.slice (some ⟨bw,0,none⟩) 1 1) [X]:=
 ⟨_,_,rfl,gO _,by unfold maxLen;omega,fun _=>⟨_,_,rfl,trivial,fun i hi=>by
  obtain rfl:i=0:=by simpa using hi
  exact ⟨_,rfl,rfl,fun j u hj=>by
   match j,hj with
   | 0,hj=>simp at hj;subst hj;exact h.d0⟩⟩⟩
def GI (B:Nat) (w:World) (v:Value) (X:Nat):Prop:=∃ g c,v=.slice (some ⟨g,0,none⟩) 1 c∧1≤c∧B≤g∧w.cell? ⟨g,0,none⟩=some (.int .u64 X)∧w.frozen? ⟨g,0,none⟩=false
theorem aG.wrow {B X:Nat} {w:World} {v:Value} (h:aG B 154 1 wE w v [X]):GI B w v X:=by
 have h2:=h.look (G:=fun _=>True) fun _ _=>trivial;obtain ⟨us,hf,hl,ho⟩:=h;rcases ho with ⟨rfl,hn⟩ | ⟨g,cap,cur,rfl,hB,hh,hc,_⟩
 ·cases hn
 ·obtain ⟨b,off,u,e,_,hu,hcl⟩:=aH.cell1 h2 (k:=0) (by simp)
  injection e with e
  injection e with e1 e2
  subst e1 e2
  injection hu with hu _
  subst hu;exact ⟨g,cap,rfl,hc,hB,hcl,by simp [World.frozen?,hh]⟩
theorem wN (b bw n X:Nat) (w:World) (h:BSet w b bw n X):
  Calls Tryz.prog 257 #[.slice (some ⟨bw,0,none⟩) 1 1] w fun e w'=>(∃ v,e=.returned v∧GI w.heap.size w' v X)∧Below w.heap.size w w':=by
 have q31:∀ (w:World) (a:Option Addr) (n c:Nat),(binOp .eql 157 (.slice a n c) (.slice none 0 0)).run Tryz.prog w=.ok (.bool a.isNone) w:=fun w a n c=>Lib.run_eql_slice_nil w _ _ a n c 0 0 Tryz.underlying157;have hb:Below w.heap.size w (w.alloc (.cells #[] 154)):=(gR _ _).alloc (gO _) _;have h0:aG w.heap.size 154 1 wE (w.alloc (.cells #[] 154)) (.slice (some ⟨w.heap.size,0,none⟩) 0 0) []:=aG.fresh w (gO _) _;obtain ⟨v',w',hr,h2,h3⟩:=h0.add 157 Tryz.underlying157 jY rfl (by decide) wE.one 157 (h.below hb).word (by simp) (by simp [maxLen]) hb.size;have H2:=Ha h2.wrow;have HB:=Ha (hb.trans h3);clear h h2 h3 h0 hb;go_enter Tryz.func257,Tryz.ntmps257;go_wp2_with fail;go_ret;exact ⟨⟨_,rfl,H2.out⟩,HB.out⟩
theorem I9:∀ i:Fin 64,IntKind.u64.wrap (IntKind.u64.wrap (2 ^ i.val)-1)=((2 ^ i.val-1:Nat):Int):=by decide +kernel
theorem I8 (i:Nat) (h:i<64):IntKind.u64.wrap (IntKind.u64.wrap (2 ^ i)-1)=((2 ^ i-1:Nat):Int):=I9 ⟨i,h⟩
theorem IY:bits .and .i64 64 63=0:=by decide +kernel
theorem FY (b bw n X:Nat) (w:World) (h:BSet w b bw n X):
  Calls Tryz.prog 249 #[.pointer (some ⟨b,0,none⟩),.int .i64 n] w fun e w'=>(∃ v,e=.returned v∧GI w.heap.size w' v X)∧Below w.heap.size w w':=by
 have HC:=Ha (wN b bw n X w h);have c0:=h.c0;have c1:=h.c1;have hn:=h.n64;have hn1:=h.n1;have hx:=h.x64;have HXN:=Ha h.hX;clear h;have hd:((n:Int)+63) / 64=1:=by omega
 have hmn:min (n:Int) (n:Int)=n:=by omega
 go_enter Tryz.func249,Tryz.ntmps249;go_wp2_with fail;refine (HC.out).mono ?_;rintro e w1 ⟨⟨v,rfl,hr⟩,hb1⟩;obtain ⟨g,c,rfl,hc,hg,hcl,hfz⟩:=hr;have HB1:=Ha hb1;have HG:=Ha hg;clear hb1 hg;by_cases h64:n=64
 ·subst h64;have hand:=IY;go_wp2_with fail;go_ret;exact ⟨⟨_,rfl,g,c,rfl,hc,HG.out,hcl,hfz⟩,HB1.out⟩
 ·have hlt:n<64:=by omega
  obtain ⟨p,hp⟩:∃ p:Nat,p=2 ^ n-1:=⟨_,rfl⟩;have hm:=I8 n hlt;have hpl:p<18446744073709551616:=by rw [hp];have:=mH n hlt;omega
  have hmm:bits .and .u64 (X:Int) (p:Int)=(X:Int):=by
   rw [bits_and_u64_nat X p hx hpl,hp,Nat.and_two_pow_sub_one_eq_mod,Nat.mod_eq_of_lt HXN.out]
  rw [← hp] at hm;have hand:=IX n hlt;have hn0:((n:Int) != 0)=true:=bne_iff_ne.2 (by omega);have hn00:¬(n:Int)=0:=by omega
  clear hp h64;go_wp2_with fail;go_ret;refine ⟨⟨_,rfl,g,c,rfl,hc,HG.out, ?_, ?_⟩,HB1.out.setCell HG.out _⟩
  ·exact World.cell?_setCell_same _ _ _ hcl
  ·simpa using hfz
theorem tZ (n:Nat) (w:World):
  Calls Tryz.prog 249 #[.pointer none,.int .i64 n] w fun e w'=>e=.returned (.slice none 0 0)∧w'=w:=by
 go_enter Tryz.func249,Tryz.ntmps249;go_wp2_with fail;go_ret;exact ⟨rfl,rfl⟩
theorem BSet.put {w:World} {b bw n X Z:Nat} (h:BSet w b bw n X) (hZ:Z<2 ^ n):BSet (w.setCell ⟨bw,0,none⟩ (.int .u64 (Z:Int))) b bw n Z:=
 ⟨h.n1,h.n64,hZ,h.ne,by rw [gU _ _ _ _ h.ne];exact h.hb,by simp [World.setCell,Array.getElem?_modify,h.hw]⟩
theorem p6 (b bw n X b2 bw2 Y:Nat) (w:World) (h:BSet w b bw n X) (h2:BSet w b2 bw2 n Y):
  Calls Tryz.prog 224 #[.pointer (some ⟨b,0,none⟩),.pointer (some ⟨b2,0,none⟩)] w fun e w'=>e=.returned (.bool (decide (X ||| Y≠X)))∧BSet w' b bw n (X ||| Y)∧Chg (· = bw) w w':=by
 obtain ⟨HR,HW,HX⟩:=hs3 (qE b bw n X w h) (FY b2 bw2 n Y w h2) h;have hx:=h.x64;have hy:=h2.x64;have HZ:=Ha (show X ||| Y<2 ^ n from Nat.or_lt_two_pow h.hX h2.hX);have hA:=gT Y X hy hx;have hO:=bits_or_u64_nat X Y hx hy;have HE:=Ha (qX (Y:=Y) hx hy);clear h h2;go_enter Tryz.func224,Tryz.ntmps224;go_wp2_with fail;refine (HR.out).mono ?_;rintro e w0 ⟨rfl,rfl⟩;go_wp2_with fail;refine (HW.out).mono ?_;rintro e w1 ⟨⟨v,rfl,hr⟩,hb1⟩;obtain ⟨g,c,rfl,hc,hg,hcl,hfz⟩:=hr;have hx1:=HX.out.below hb1;have HB1:=Ha hb1;have HX1:=Ha hx1;have c1:=hx1.c1;have d0:=hx1.d0;have fz:=hx1.fz;clear hb1 hg hx1;go_wp2_with fail;obtain ⟨Q,hQ⟩:∃ Q:World→Prop,Q=fun wr=>BSet wr b bw n (X ||| Y)∧Chg (· = bw) w0 wr:=⟨_,rfl⟩;have HQ:=Ha hQ;clear hQ
 go_loopw [5,13] (fun ch iv wr=>(iv=.int .i64 0∧ch=.bool false∧wr=w1)∨(iv=.int .i64 1∧ch=.bool (decide (X ||| Y≠X))∧Q wr)) (fun _ iv _=>2-(intOf iv).toNat)
 case atStart=>exact .inl ⟨rfl,rfl,rfl⟩
 case round=>
  rcases hrel with ⟨rfl,rfl,rfl⟩ | ⟨rfl,rfl,hq⟩
  ·obtain ⟨Z,hZ⟩:∃ Z:Nat,Z=Y &&& (18446744073709551615-X):=⟨_,rfl⟩;rw [← hZ] at hA HE;by_cases hz:Z=0
   ·subst hz;have HN:=Ha (HE.out.1 rfl);clear hZ;go_wp2_with fail
    go_roundw
    case rel=>exact .inr ⟨by go_num,by rw [HN.out];simp,by rw [HQ.out];exact ⟨by rw [HN.out];exact HX1.out,Chg.of HB1.out⟩⟩
    case measure=>simp [intOf]
   ·have hz0:¬(Z:Int)=0:=by omega
    have hz1:((Z:Int) != 0)=true:=bne_iff_ne.2 hz0;have HN:=Ha (show ¬(X ||| Y=X) from fun h=>hz (HE.out.2 h));clear hZ hz;go_wp2_with fail
    go_roundw
    case rel=>exact .inr ⟨by go_num,by simp [HN.out],by rw [HQ.out];exact ⟨HX1.out.put HZ.out,Chg.setCell (P:=(· = bw)) (p:=⟨bw,0,none⟩) (Chg.of HB1.out) (fun _=>rfl) _⟩⟩
    case measure=>simp [intOf]
  ·have HF:=Ha hq;clear hq;go_wp2_with fail;go_ret;have:=HF.out;rw [HQ.out] at this;exact ⟨rfl,this⟩
theorem FA (b bw n X:Nat) (w:World) (h:BSet w b bw n X):
  Calls Tryz.prog 224 #[.pointer (some ⟨b,0,none⟩),.pointer none] w fun e w'=>e=.returned (.bool false)∧Below w.heap.size w w':=by
 have HR:=Ha (qE b bw n X w h);clear h;have HW:=Ha (tZ n w);go_enter Tryz.func224,Tryz.ntmps224;go_wp2_with fail;refine (HR.out).mono ?_;rintro e w0 ⟨rfl,rfl⟩;go_wp2_with fail;refine (HW.out).mono ?_;rintro e w1 ⟨rfl,rfl⟩;go_wp2_with fail
 go_loopw [5,13] (fun ch iv wr=>iv=.int .i64 0∧ch=.bool false∧wr=w1) (fun _ iv _=>2-(intOf iv).toNat)
 case atStart=>exact ⟨rfl,rfl,rfl⟩
 case round=>
  obtain ⟨rfl,rfl,rfl⟩:=hrel;go_wp2_with fail;go_ret;exact ⟨rfl,gR _ _⟩
theorem dA {w:World} {g:Nat} {cur cur':Array Value} {T:TypeId} {fr:Nat×Nat} (h:w.heap[g]? = some (.cells cur T fr)):(w.setRow g cur').heap[g]? = some (.cells cur' T fr):=by
 simp [World.setRow,Array.getElem?_modify,h]
theorem dS {w:World} {g k:Nat} {cur':Array Value} (h:k≠g):(w.setRow g cur').heap[k]? = w.heap[k]? := by
 simp [World.setRow,Array.getElem?_modify,Ne.symm h]
theorem IS (b bw n X:Nat) (w:World) (h:BSet w b bw n X):
  Calls Tryz.prog 223 #[.pointer (some ⟨b,0,none⟩)] w fun e w'=>(∃ b' bw',e=.returned (.pointer (some ⟨b',0,none⟩))∧w.heap.size≤b'∧w.heap.size≤bw'∧BSet w' b' bw' n X)∧Below w.heap.size w w':=by
 obtain ⟨i,hi,hz0,hz1,hz2⟩:=info_parts jY;have hmk:=run_make (P:=Tryz.prog) w 157 154 i (.int .u64 0) Tryz.underlying157 hi hz0 .i64 .i64 1 1 (by decide) (by decide) (by rw [hz2];decide) (by decide);rw [hz1] at hmk;have hmc:madeCells (Value.int .u64 0).cells ((1:Int).toNat*1)=#[.int .u64 0]:=by first | kernel_rfl | (simp [madeCells,Value.cells];done)
 rw [hmc] at hmk;have hb1:Below w.heap.size w (w.alloc (.cells #[.int .u64 0] 154)):=(gR _ _).alloc (gO _) _;have q0:=aC w (.cells #[.int .u64 0] 154);generalize hW1:w.alloc (.cells #[.int .u64 0] 154)=W1 at *;have hx1:=h.below hb1;have hcp:=run_copy_row Tryz.prog W1 157 157 3 154 w.heap.size 0 1 1 ⟨bw,0,none⟩ 1 1 #[.int .u64 0] 154 [.int .u64 X] Tryz.underlying157 (by rw [hi];simp [hz1]) q0 rfl
  (fun j v hj=>by
   match j,hj with
   | 0,hj=>simp at hj;subst hj;exact hx1.d0) (by simp) (fun v hv=>by simp at hv;subst hv;rfl)
 generalize hW2:W1.setRow w.heap.size _=W2 at hcp;have q2:W2.heap[w.heap.size]? = some (.cells #[.int .u64 X] 154 (0,0)):=by rw [← hW2];exact dA q0
 have hb2:Below w.heap.size w W2:=by
  refine ⟨?_, ?_, ?_, ?_,fun k hk=>?_⟩
  ·rw [← hW2];exact hb1.os
  ·rw [← hW2];exact hb1.tape
  ·rw [← hW2];exact hb1.output
  ·rw [← hW2];have:=hb1.size;simpa [World.setRow] using this
  ·rw [← hW2,dS (by omega)];exact hb1.block k hk
 have hx2:=h.below hb2;have hs2:W2.heap.size=w.heap.size+1:=by rw [← hW2,← hW1];simp [World.setRow]
 have q3:=aC W2 (.cells #[.int .i64 n,.slice (some ⟨w.heap.size,0,none⟩) 1 1] 159);have q4:=Below.heap_alloc W2 (.cells #[.int .i64 n,.slice (some ⟨w.heap.size,0,none⟩) 1 1] 159) w.heap.size (by omega);rw [q2] at q4;rw [hs2] at q3;have HS:=Ha (show BSet (W2.alloc (.cells #[.int .i64 n,.slice (some ⟨w.heap.size,0,none⟩) 1 1] 159)) (w.heap.size+1) w.heap.size n X from ⟨h.n1,h.n64,h.hX,by omega,q3,q4⟩);have HB:=Ha (hb2.alloc (by omega) (.cells #[.int .i64 n,.slice (some ⟨w.heap.size,0,none⟩) 1 1] 159));have c1:=h.c1;have d1:=hx1.c1;have e0:=hx2.c0;clear h hb1 q0 hx1 hb2 hx2 q2 q3 q4 hW2 hi hz0 hz1 hz2 hmc;go_enter Tryz.func223,Tryz.ntmps223;go_wp2_with fail;go_ret;exact ⟨⟨_,_,rfl,by omega,gO _,HS.out⟩,HB.out⟩
end
section
attribute [local go_sem ↓] aI
def Wb (w:World) (k:Nat):Prop:=∃ X:Nat,w.heap[k]? = some (.cells #[.int .u64 X] 154 (0,0))
structure WCh (n:Nat) (K:Nat→Prop) (w w':World):Prop where
 chg:Chg (fun k=>K k∧Wb w k) w w'
 gro:∀ b bw X,BSet w b bw n X→∃ X',X≤X'∧BSet w' b bw n X'
section
variable {n:Nat} {K:Nat→Prop} {w w' w'':World}
theorem BSet.keepC {b bw X:Nat} {P:Nat→Prop} (h:BSet w b bw n X) (hc:Chg P w w') (h1:¬P b) (h2:¬P bw):BSet w' b bw n X:=h.keep (hc.same _ h.lt.1 h1) (hc.same _ h.lt.2 h2)
theorem BSet.box_ne {b bw X b2 bw2 n2 X2:Nat} (h:BSet w b bw n X) (h2:BSet w b2 bw2 n2 X2):b2≠bw:=fun e=>by
 have h3:=h2.hb;rw [e,h.hw] at h3
 injection h3 with h3
 injection h3 with h4 h5
 exact absurd h5 (by decide)
theorem BSet.same_word {b bw X b2 n2 X2:Nat} (h:BSet w b bw n X) (h2:BSet w b2 bw n2 X2):X=X2:=by
 have h3:=h.hw;rw [h2.hw] at h3
 injection h3 with h3
 injection h3 with h4
 have h5:=congrArg (fun a:Array Value=>a[0]?) h4;simp at h5;exact (Int.ofNat.inj h5).symm
theorem BSet.wb {b bw X:Nat} (h:BSet w b bw n X):Wb w bw:=⟨X,h.hw⟩
theorem BSet.other {b bw X X' b2 bw2 X2:Nat} (h:BSet w b bw n X) (h2:BSet w b2 bw2 n X2) (hc:Chg (· = bw) w w') (h':BSet w' b bw n X') (hle:X≤X'):∃ X2',X2≤X2'∧BSet w' b2 bw2 n X2':=by
 have hb2:=h.box_ne h2;by_cases e:bw2=bw
 ·subst e;have:=h.same_word h2;subst this;exact ⟨X',hle,h2.n1,h2.n64,h'.hX,h2.ne,(hc.same _ h2.lt.1 hb2).trans h2.hb,h'.hw⟩
 ·exact ⟨X2,gO _,h2.keepC hc hb2 e⟩
theorem WCh.refl (n:Nat) (K:Nat→Prop) (w:World):WCh n K w w:=⟨Chg.refl _ _,fun _ _ X h=>⟨X,gO _,h⟩⟩
theorem WCh.trans (h:WCh n K w w') (k:WCh n K w' w''):WCh n K w w'':=
 ⟨h.chg.trans2 k.chg fun i hi hq=>⟨hq.1,Classical.byContradiction fun hn=>by
  have:=h.chg.same i hi fun hp=>hn hp.2;obtain ⟨X,hX⟩:=hq.2;exact hn ⟨X,this.symm.trans hX⟩⟩,fun b bw X hb=>by
  obtain ⟨X1,h1,h2⟩:=h.gro b bw X hb;obtain ⟨X2,h3,h4⟩:=k.gro b bw X1 h2;exact ⟨X2,gP h1 h3,h4⟩⟩
theorem WCh.below (h:WCh n K w w') (hb:Below w'.heap.size w' w''):WCh n K w w'':=
 ⟨h.chg.trans2 (Chg.of (P:=fun _=>False) hb) fun _ _ h=>h.elim,fun b bw X hX=>by
  obtain ⟨X1,h1,h2⟩:=h.gro b bw X hX;exact ⟨X1,h1,h2.below hb⟩⟩
theorem WCh.drew (h:WCh n K w w'):WCh n K w w'.drew:=⟨h.chg.drew,fun b bw X hX=>by
  obtain ⟨X1,h1,h2⟩:=h.gro b bw X hX;exact ⟨X1,h1,h2.keep rfl rfl⟩⟩
theorem WCh.one {b bw X X':Nat} (h:BSet w b bw n X) (hc:Chg (· = bw) w w') (h':BSet w' b bw n X') (hle:X≤X') (hK:K bw):WCh n K w w':=
 ⟨hc.mono fun i _ e=>by subst e;exact ⟨hK,h.wb⟩,fun _ _ _ h2=>h.other h2 hc h' hle⟩
theorem WCh.mono {K':Nat→Prop} (h:WCh n K w w') (hK:∀ k,k<w.heap.size→Wb w k→K k→K' k):WCh n K' w w':=⟨h.chg.mono fun i hi hp=>⟨hK i hi hp.2 hp.1,hp.2⟩,h.gro⟩
theorem WCh.cell (h:WCh n K w w') {p:Addr} {v:Value} (hc:w.cell? p=some v) (hn:¬Wb w p.block):w'.cell? p=some v:=h.chg.cell hc fun hp=>hn hp.2
end
def TB (T:TypeId) (w:World) (k:Nat):Prop:=∃ cs,w.heap[k]? = some (.cells cs T (0,0))
theorem TB.not_wb {T:TypeId} {w:World} {k:Nat} (h:TB T w k) (hT:T≠154):¬Wb w k:=fun ⟨X,hX⟩=>by
 obtain ⟨cs,hc⟩:=h;rw [hX] at hc
 injection hc with hc
 injection hc with _ hc
 exact hT hc.symm
theorem TB.lt {T:TypeId} {w:World} {k:Nat} (h:TB T w k):k<w.heap.size:=by
 obtain ⟨cs,hc⟩:=h;exact (gL hc).1
theorem TB.of_eq {T:TypeId} {w w':World} {k:Nat} (h:TB T w k) (e:w'.heap[k]? = w.heap[k]?):TB T w' k:=by
 obtain ⟨cs,hc⟩:=h;exact ⟨cs,e.trans hc⟩
theorem TB.ne {T T':TypeId} {w:World} {k k':Nat} (h:TB T w k) (h':TB T' w k') (hT:T≠T'):k≠k':=fun e=>by
 subst e;obtain ⟨cs,hc⟩:=h;obtain ⟨cs',hc'⟩:=h';rw [hc] at hc'
 injection hc' with hc'
 injection hc' with _ hc'
 exact hT hc'
section
variable {β:Type} {B:Nat} {T:TypeId} {sz:Nat} {R:List Value→β→Prop} {w w':World} {v:Value} {xs ys:List β}
theorem aG.tb (h:aG B T sz R w v xs) {g:Nat} (hg:v.ownBlock=some g):B≤g∧TB T w g:=by
 obtain ⟨us,hf,_,ho⟩:=h;rcases ho with ⟨rfl,_⟩ | ⟨g',cap,cur,rfl,hB,hh,_⟩
 ·simp [Value.ownBlock] at hg
 ·simp [Value.ownBlock] at hg;subst hg;exact ⟨hB,cur,hh⟩
theorem aG.addC (t:TypeId) {z:Value} {bytes:Nat} (hu:Tryz.prog.underlying t=some (.slice T)) (hi:(Tryz.prog.info? T).map (fun i=>(i.zero,i.size,i.bytes))=some (some z,sz,bytes)) (hzs:z.cells.size=sz) (hsz:0<sz)
  (hone:∀ vs x,R vs x→∀ u∈vs,u.oneCell'=true) (ty:TypeId) {G:Nat→Prop} {v2:Value} (h:aG B T sz R w v xs) (hx:aH G w sz R v2 ys) (hlen:(xs.length+ys.length)*bytes≤140737488355328) (hmx:xs.length+ys.length≤maxLen) (hB:B≤w.heap.size):
  ∃ v' w',WrA Tryz.prog #[t,t] ty #[v,v2] w=.ok v' w'∧aG B T sz R w' v' (xs++ys)∧Chg (fun k=>v.ownBlock=some k) w w'∧(v'.ownBlock=v.ownBlock∨v'.ownBlock=some w.heap.size):=by
 obtain ⟨v',w',h1,h2,h3,h4⟩:=h.append t hu hi hzs hsz hone ty hx hlen hmx hB;exact ⟨v',w',h1,h2,(Chg.refl _ w).grown h3 fun k e _=>e,h4⟩
theorem aG.pushC (t:TypeId) {z:Value} {bytes:Nat} (hu:Tryz.prog.underlying t=some (.slice T)) (hi:(Tryz.prog.info? T).map (fun i=>(i.zero,i.size,i.bytes))=some (some z,sz,bytes)) (hzs:z.cells.size=sz) (hsz:0<sz)
  (hone:∀ vs x,R vs x→∀ u∈vs,u.oneCell'=true) (ty:TypeId) {us:List Value} {x:β} (hus:us.length=sz) (hR:R us x) (h:aG B T sz R w v xs) (hlen:(xs.length+1)*bytes≤140737488355328) (hmx:xs.length+1≤maxLen) (hB:B≤w.heap.size):
  ∃ v' w',WrA Tryz.prog #[t,t] ty #[v,.slice (some ⟨w.heap.size,0,none⟩) 1 1] (w.alloc (.cells us.toArray T))=.ok v' w'∧aG B T sz R w' v' (xs++[x])∧Chg (fun k=>v.ownBlock=some k) w w'∧(v'.ownBlock=v.ownBlock∨v'.ownBlock=some (w.heap.size+1)):=by
 have hb:Below w.heap.size w (w.alloc (.cells us.toArray T)):=(gR _ _).alloc (gO _) _;have q:=aC w (.cells us.toArray T);have hx:aH (fun _=>True) (w.alloc (.cells us.toArray T)) sz R (.slice (some ⟨w.heap.size,0,none⟩) 1 1) [x]:=
  ⟨_,_,rfl,gO _,by unfold maxLen;omega,fun _=>⟨_,_,rfl,trivial,fun i hi=>by
   obtain rfl:i=0:=by simpa using hi
   exact ⟨us,hus,hR,fun j u hj=>by simpa using aA q j u (by simpa using hj)⟩⟩⟩
 obtain ⟨v',w',h1,h2,h3,h4⟩:=(h.below hb).addC t hu hi hzs hsz hone ty hx hlen hmx (gP hB hb.size);exact ⟨v',w',h1,h2,(Chg.of hb).trans h3,by simpa using h4⟩
end
def PV (vs:List Value) (p:Nat×Nat):Prop:=vs=[.pointer (some ⟨p.1,0,none⟩)]
theorem PV.one:∀ (vs:List Value) (p:Nat×Nat),PV vs p→∀ u∈vs,u.oneCell'=true:=by
 rintro vs x rfl u hu;simp only [List.mem_cons,List.not_mem_nil,or_false] at hu;subst hu;rfl
theorem rN:(Tryz.prog.info? 68).map (fun i=>(i.zero,i.size,i.bytes))=some (some (.pointer none),1,8):=by kernel_rfl
def Ss (n:Nat) (w:World) (ps:List (Nat×Nat)):Prop:=∀ p∈ps,∃ X,BSet w p.1 p.2 n X
theorem Ss.wch {n:Nat} {K:Nat→Prop} {w w':World} {ps:List (Nat×Nat)} (h:Ss n w ps) (hc:WCh n K w w'):Ss n w' ps:=fun p hp=>by
 obtain ⟨X,hX⟩:=h p hp;obtain ⟨X',_,h'⟩:=hc.gro _ _ _ hX;exact ⟨X',h'⟩
def wd (w:World) (bw:Nat):Nat:=match w.cell? ⟨bw,0,none⟩ with
 | some (Value.int _ z)=>z.toNat
 | _=>0
theorem BSet.wd {w:World} {b bw n X:Nat} (h:BSet w b bw n X):wd w bw=X:=by
 unfold Proofs.YtpidmmfjcghmeaaGreat.wd;rw [h.d0];simp
def aQ (n:Nat) (w:World) (ps:List (Nat×Nat)):Nat:=(ps.map fun p=>2 ^ n-wd w p.2).sum
theorem dF {n:Nat} {K:Nat→Prop} {w w':World}:∀ {ps:List (Nat×Nat)},Ss n w ps→WCh n K w w'→aQ n w' ps≤aQ n w ps
 | [],_,_=>gO _
 | p::ps,h,hc=>by
  have:=dF (ps:=ps) (fun q hq=>h q (List.mem_cons_of_mem _ hq)) hc;obtain ⟨X,hX⟩:=h p (List.mem_cons_self ..);obtain ⟨X',h1,h2⟩:=hc.gro _ _ _ hX;unfold aQ at this ⊢;rw [List.map_cons,List.map_cons,List.sum_cons,List.sum_cons,hX.wd,h2.wd];omega
theorem jJ {n:Nat} {K:Nat→Prop} {w w':World}:∀ {ps:List (Nat×Nat)},Ss n w ps→WCh n K w w'→(∃ p∈ps,wd w p.2<wd w' p.2)→aQ n w' ps<aQ n w ps
 | p::ps,h,hc,⟨q,hq,hlt⟩=>by
  have h0:Ss n w ps:=fun q hq=>h q (List.mem_cons_of_mem _ hq);obtain ⟨X,hX⟩:=h p (List.mem_cons_self ..);obtain ⟨X',h1,h2⟩:=hc.gro _ _ _ hX;have h3:=h2.hX;have h4:=hX.wd;have h5:=h2.wd;rcases List.mem_cons.1 hq with rfl | hq
  ·have:=dF h0 hc;unfold aQ at this ⊢;rw [List.map_cons,List.map_cons,List.sum_cons,List.sum_cons];omega
  ·have:=jJ h0 hc ⟨q,hq,hlt⟩;unfold aQ at this ⊢;rw [List.map_cons,List.map_cons,List.sum_cons,List.sum_cons];omega
theorem uV (n r:Nat) (w:World) (h1:1≤r) (h2:r≤64) (hn:n≤1000000):
  Calls Tryz.prog 244 #[.int .i64 n,.int .i64 r] w fun e w'=>(∃ v ps,e=.returned v∧ps.length=n∧aG w.heap.size 68 1 PV w' v ps∧∀ p∈ps,w.heap.size≤p.2∧BSet w' p.1 p.2 r 0)∧Below w.heap.size w w':=by
 have HN:=Ha (fun X=>r6 r X h1 h2);go_enter Tryz.func244,Tryz.ntmps244;go_wp2
 go_loopw [5,7] (fun o iv wr=>∃ (i:Nat) (ps:List (Nat×Nat)),i≤n∧iv=.int .i64 i∧ps.length=i∧aG w.heap.size 68 1 PV wr o ps∧(∀ p∈ps,w.heap.size≤p.2∧BSet wr p.1 p.2 r 0)∧Below w.heap.size w wr) (fun _ iv _=>n-(intOf iv).toNat)
 case atStart=>exact ⟨0,[],by omega,rfl,rfl,aG.nil _ _ _ _ _,(fun p hp=>by cases hp),gR _ _⟩
 case round=>
  obtain ⟨i,ps,hi,rfl,hl,ho,hs,hw⟩:=hrel;obtain ⟨Ao,co,rfl,_⟩:=ho.shape;obtain ⟨HL,HO,HS,HW⟩:=hs4 hl ho hs hw;clear ho hs hw hl;by_cases hlt:i<n
  ·go_wp2_with fail;refine (HN.out wr).mono ?_;rintro e w1 ⟨⟨b,bw,rfl,hb,hbw,hset⟩,hb1⟩;have hr1:=HO.out.below hb1;obtain ⟨v',w',hrun,ho',hc',_⟩:=aG.pushC 245 Tryz.underlying245 rN rfl (by decide) PV.one 245 (us:=[.pointer (some ⟨b,0,none⟩)]) (x:=(b,bw)) rfl rfl hr1 (by rw [HL.out];omega) (by rw [HL.out];unfold maxLen;omega) (gP HW.out.size hb1.size);have hk:∀ q m X,BSet w1 q m r X→BSet w' q m r X:=fun q m X hq=>hq.keepC hc' (fun e=>(hr1.tb e).2.ne ⟨_,hq.hb⟩ (by decide) rfl) (fun e=>(hr1.tb e).2.ne ⟨_,hq.hw⟩ (by decide) rfl);have HB:=Ha (HW.out.trans (hb1.mono HW.out.size) |>.trans (hc'.below (fun k e=>(hr1.tb e).1) (gP HW.out.size hb1.size)));have HS':=Ha (show ∀ p∈ps++[(b,bw)],w.heap.size≤p.2∧BSet w' p.1 p.2 r 0 from fun p hp=>by
    rcases List.mem_append.1 hp with hp | hp
    ·exact ⟨(HS.out p hp).1,hk _ _ _ ((HS.out p hp).2.below hb1)⟩
    ·rw [gV] at hp;subst hp;exact ⟨gP HW.out.size hbw,hk _ _ _ hset⟩)
   have HO':=Ha ho';clear hb hbw hset hb1 hr1 ho' hc' hk;go_wp2_with fail
   go_roundw
   case rel=>exact ⟨i+1,ps++[(b,bw)],by omega,by go_num,by simp [HL.out],HO'.out,HS'.out,HB.out⟩
   case measure=>simp only [intOf];omega
  ·obtain rfl:i=n:=by omega
   go_wp2_with fail;go_ret;exact ⟨⟨_,_,rfl,HL.out,HO.out,HS.out⟩,HW.out⟩
end
end Go.Proofs.YtpidmmfjcghmeaaGreat
