/- Towards clashesWhole_upto. -/
import Derived.Test.YtpidmmfjcghmeaaGreatCz32
import Derived.Test.YtpidmmfjcghmeaaGreatCz37
set_option maxRecDepth 100000
set_option maxHeartbeats 16000000
set_option linter.all false
namespace Go.Proofs.YtpidmmfjcghmeaaGreat
open Go.RowKit
section
attribute [local go_sem ↓] aI
abbrev Fd:=Bool×Bool×List Int
def cS (F:Nat→Fd) (m:Nat):Bool→List Int→List Int→Option (Bool×List Int)
 | lg,u,[]=>some (lg,u)
 | lg,u,s::r=>if s<0∨(m:Int)≤s∨(F s.toNat).1=false then none else
  if lg||(F s.toNat).2.1||decide (4096<u.length+(F s.toNat).2.2.length) then cS F m true u r else cS F m false (u++(F s.toNat).2.2) r
def jn (F:Nat→Fd) (m:Nat) (l:List Int):Fd:=match cS F m false [] l with
 | none=>(false,false,[])
 | some (true,_)=>(true,true,[])
 | some (false,u)=>(true,false,u)
structure Wo (w:World) (N bw bF m:Nat) (F:Nat→Fd) (V:Nat→Value):Prop where
 box:w.heap[bw]? = some (.cells #[.slice (some ⟨bF,0,none⟩) m m] 179 (0,0))
 row:∃ cur,w.heap[bF]? = some (.cells cur 181 (0,0))∧cur.size=m*3∧∀ s,s<m→cur[s*3]? = some (.bool (F s).1)∧cur[s*3+1]? = some (.bool (F s).2.1)∧cur[s*3+2]? = some (V s)
 its:∀ s,s<m→∃ A c,V s=.slice A (F s).2.2.length c∧aF (fun k=>k<N∧TB 3 w k) w (.slice A (F s).2.2.length c) (F s).2.2∧(F s).2.2.length≤4096
section
variable {w w':World} {N N' bw bF m:Nat} {F:Nat→Fd} {V:Nat→Value}
theorem Wo.tb (h:Wo w N bw bF m F V):TB 181 w bF:=by
 obtain ⟨cur,h1,_⟩:=h.row;exact ⟨cur,h1⟩
theorem Wo.keep (h:Wo w N bw bF m F V) (h1:w'.heap[bw]? = w.heap[bw]?) (h2:w'.heap[bF]? = w.heap[bF]?) (h3:∀ k,k<N→TB 3 w k→w'.heap[k]? = w.heap[k]?):Wo w' N bw bF m F V:=by
 obtain ⟨cur,h4,h5⟩:=h.row;exact ⟨h1.trans h.box,⟨cur,h2.trans h4,h5⟩,fun s hs=>by
  obtain ⟨A,c,h6,h7,h8⟩:=h.its s hs;exact ⟨A,c,h6,aH.keep h7 (fun k hk=>⟨hk.1,hk.2.of_eq (h3 k hk.1 hk.2)⟩) (fun p hp=>gM (h3 _ hp.1 hp.2)) fun _ _ h=>h,h8⟩⟩
theorem Wo.below (h:Wo w N bw bF m F V) (hb:Below w.heap.size w w'):Wo w' N bw bF m F V:=
 h.keep (hb.block _ (gL h.box).1) (hb.block _ h.tb.lt) fun _ _ hk=>hb.block _ hk.lt
theorem Wo.more (h:Wo w N bw bF m F V) (hN:N≤N'):Wo w N' bw bF m F V:=
 ⟨h.box,h.row,fun s hs=>by
  obtain ⟨A,c,h6,h7,h8⟩:=h.its s hs;exact ⟨A,c,h6,aH.keep h7 (fun k hk=>⟨gK hk.1 hN,hk.2⟩) (fun _ _=>rfl) fun _ _ h=>h,h8⟩⟩
theorem Wo.cells (h:Wo w N bw bF m F V) {s:Nat} (hs:s<m):∃ A c,w.cell? ⟨bF,s*3,none⟩=some (.bool (F s).1)∧w.cell? ⟨bF,s*3+1,none⟩=some (.bool (F s).2.1)∧w.cell? ⟨bF,s*3+2,none⟩=some (.slice A (F s).2.2.length c)∧aF (fun k=>k<N∧TB 3 w k) w (.slice A (F s).2.2.length c) (F s).2.2∧(F s).2.2.length≤4096:=by
 obtain ⟨cur,h4,h5,h6⟩:=h.row;obtain ⟨A,c,h7,h8,h9⟩:=h.its s hs;exact ⟨A,c,aA h4 _ _ (h6 s hs).1,aA h4 _ _ (h6 s hs).2.1,aA h4 _ _ (by rw [← h7];exact (h6 s hs).2.2),h8,h9⟩
end
theorem aP {w:World} {b:Nat} {u0 u1 u2:Value} {T:TypeId} {n:Nat} (h:w.heap[b]? = some (.cells #[u0,u1,u2] T (0,0))) (hn:n=b):
  w.cell? ⟨n,0,none⟩=some u0∧w.cell? ⟨n,1,none⟩=some u1∧w.cell? ⟨n,2,none⟩=some u2∧w.frozen? ⟨n,0,none⟩=false∧w.frozen? ⟨n,1,none⟩=false∧w.frozen? ⟨n,2,none⟩=false:=by
 subst hn;exact ⟨aA h 0 _ rfl,aA h 1 _ rfl,aA h 2 _ rfl,by simp [World.frozen?,h],by simp [World.frozen?,h],by simp [World.frozen?,h]⟩
structure Jw (w0 wr:World) (bw bF m:Nat) (F:Nat→Fd) (V:Nat→Value) (lg:Bool) (v:Value) (u:List Int):Prop where
 wo:Wo wr w0.heap.size bw bF m F V
 q4:wr.heap[w0.heap.size]? = some (.cells #[.bool false,.bool false,.slice none 0 0] 181 (0,0))
 q5:wr.heap[w0.heap.size+1]? = some (.cells #[.bool true,.bool lg,v] 181 (0,0))
 row:aG (w0.heap.size+2) 3 1 cF wr v u
 bel:Below w0.heap.size w0 wr
 size:w0.heap.size+2≤wr.heap.size
theorem Jw.below {w0 wr w':World} {bw bF m:Nat} {F:Nat→Fd} {V:Nat→Value} {lg:Bool} {v:Value} {u:List Int} (h:Jw w0 wr bw bF m F V lg v u) (hb:Below wr.heap.size wr w'):Jw w0 w' bw bF m F V lg v u:=
 ⟨h.wo.below hb,(hb.block _ (by have:=h.size;omega)).trans h.q4,(hb.block _ (by have:=h.size;omega)).trans h.q5,h.row.below hb,h.bel.trans (hb.mono h.bel.size),gP h.size hb.size⟩
theorem Jw.setLg {w0 wr:World} {bw bF m:Nat} {F:Nat→Fd} {V:Nat→Value} {lg:Bool} {v:Value} {u:List Int} (h:Jw w0 wr bw bF m F V lg v u) (hB:bw<w0.heap.size∧bF<w0.heap.size) (lg':Bool):Jw w0 (wr.setCell ⟨w0.heap.size+1,1,none⟩ (.bool lg')) bw bF m F V lg' v u:=by
 have hne:∀ k,k≠w0.heap.size+1→(wr.setCell ⟨w0.heap.size+1,1,none⟩ (.bool lg')).heap[k]? = wr.heap[k]? := fun k hk=>gU _ _ _ _ hk;have hT:∀ k,TB 3 wr k→k≠w0.heap.size+1:=fun k hk=>hk.ne (T':=181) ⟨_,h.q5⟩ (by decide);exact ⟨h.wo.keep (hne _ (by omega)) (hne _ (by omega)) fun k _ hk=>hne k (hT k hk),(hne _ (by omega)).trans h.q4,aO h.q5 1 _,aG.keep h.row fun k hk=>hne k (hT k (aG.tb h.row hk).2),h.bel.setCell (p:=⟨w0.heap.size+1,1,none⟩) (Nat.le_succ _) _,by simpa using h.size⟩
theorem Jw.addW {w0 wr w3:World} {bw bF m:Nat} {F:Nat→Fd} {V:Nat→Value} {lg:Bool} {v v':Value} {u u':List Int} (h:Jw w0 wr bw bF m F V lg v u) (hB:bw<w0.heap.size∧bF<w0.heap.size) (hc:Chg (fun k=>v.ownBlock=some k) wr w3) (hr:aG (w0.heap.size+2) 3 1 cF w3 v' u'):
  Jw w0 (w3.setCell ⟨w0.heap.size+1,2,none⟩ v') bw bF m F V lg v' u'∧w3.heap[w0.heap.size+1]? = some (.cells #[.bool true,.bool lg,v] 181 (0,0)):=by
 have hT:∀ {k},v.ownBlock=some k→w0.heap.size+2≤k∧TB 3 wr k:=fun e=>aG.tb h.row e;have hs:=h.size;have h3:∀ k,k<w0.heap.size+2→w3.heap[k]? = wr.heap[k]? := fun k hk=>hc.same k (by omega) fun e=>by have:=(hT e).1;omega
 have h5:=(h3 (w0.heap.size+1) (by omega)).trans h.q5;have hne:∀ k,k≠w0.heap.size+1→(w3.setCell ⟨w0.heap.size+1,2,none⟩ v').heap[k]? = w3.heap[k]? := fun k hk=>gU _ _ _ _ hk;refine ⟨⟨h.wo.keep ((hne _ (by omega)).trans (h3 _ (by omega))) ((hne _ (by omega)).trans (h3 _ (by omega))) fun k hk _=>(hne k (by omega)).trans (h3 k (by omega)),(hne _ (by omega)).trans ((h3 _ (by omega)).trans h.q4),aO h5 2 _,aG.keep hr fun k hk=>hne k ((aG.tb hr hk).2.ne (T':=181) ⟨_,h5⟩ (by decide)),(h.bel.trans (hc.below (fun k e=>by have:=(hT e).1;omega) h.bel.size)).setCell (p:=⟨w0.heap.size+1,2,none⟩) (Nat.le_succ _) _,by have:=hc.size;simp;omega⟩,h5⟩
def dP (F:Nat→Fd) (m:Nat) (l:List Int) (w:World) (e:Ending) (w':World):Prop:=
 (∃ A c,e=.returned (.agg #[.bool (jn F m l).1,.bool (jn F m l).2.1,.slice A (jn F m l).2.2.length c])∧aF (fun k=>w.heap.size≤k∧TB 3 w' k) w' (.slice A (jn F m l).2.2.length c) (jn F m l).2.2∧aG w.heap.size 3 1 cF w' (.slice A (jn F m l).2.2.length c) (jn F m l).2.2)∧Below w.heap.size w w'
theorem mA {F:Nat→Fd} {m:Nat} {l:List Int} {w w':World} (h:jn F m l=(false,false,[])) (hb:Below w.heap.size w w'):dP F m l w (.returned (.agg #[.bool false,.bool false,.slice none 0 0])) w':=by
 unfold dP;rw [h];exact ⟨⟨none,0,rfl,⟨none,0,rfl,gO _,gX _,fun h=>absurd h (Nat.lt_irrefl 0)⟩,aG.nil _ _ _ _ _⟩,hb⟩
theorem BT (G:Nat→Prop) (w:World) (bw bF m:Nat) (F:Nat→Fd) (V:Nat→Value) (Al:Option Addr) (cl:Nat) (l:List Int) (h:Wo w w.heap.size bw bF m F V) (hG:∀ k,G k→k<w.heap.size) (hl:aF G w (.slice Al l.length cl) l):
  Calls Tryz.prog 105 #[.pointer (some ⟨bw,0,none⟩),.slice Al l.length cl] w fun e w'=>dP F m l w e w':=by
 have q1:=aC w (.cells #[.bool false,.bool false,.slice none 0 0] 181);have hb1:Below w.heap.size w (w.alloc (.cells #[.bool false,.bool false,.slice none 0 0] 181)):=(gR _ _).alloc (gO _) _;have hz1:(w.alloc (.cells #[.bool false,.bool false,.slice none 0 0] 181)).heap.size=w.heap.size+1:=by simp
 generalize hW1:w.alloc (.cells #[.bool false,.bool false,.slice none 0 0] 181)=w1 at *;have q2:=aC w1 (.cells #[.bool true,.bool false,.slice none 0 0] 181);have hb2:Below w1.heap.size w1 (w1.alloc (.cells #[.bool true,.bool false,.slice none 0 0] 181)):=(gR _ _).alloc (gO _) _;have hz2:(w1.alloc (.cells #[.bool true,.bool false,.slice none 0 0] 181)).heap.size=w1.heap.size+1:=by simp
 generalize hW2:w1.alloc (.cells #[.bool true,.bool false,.slice none 0 0] 181)=w2 at *;have hll:=(aH.len hl).2;have hwl:bw<w.heap.size∧bF<w.heap.size:=⟨(gL h.box).1,h.tb.lt⟩;have q2':w2.heap[w.heap.size+1]? = some (.cells #[.bool true,.bool false,.slice none 0 0] 181 (0,0)):=by rw [← hz1];exact q2
 obtain ⟨r0,r1,r2,f0,f1,f2⟩:=aP q2' rfl;have hs1:w2.setCell ⟨w.heap.size+1,1,none⟩ (.bool false)=w2:=cC q2' rfl;have hs2:w2.setCell ⟨w.heap.size+1,2,none⟩ (.slice none 0 0)=w2:=cC q2' rfl;have HJ:=Ha (show Jw w w2 bw bF m F V false (.slice none 0 0) [] from
  ⟨(h.below hb1).below hb2,(hb2.block _ (by omega)).trans q1,q2',aG.nil _ _ _ _ _,hb1.trans (hb2.mono hb1.size),by omega⟩)
 obtain ⟨HL,HG,HWL,HN⟩:=hs4 hl hG hwl (show w.heap.size<w1.heap.size from by omega);clear q1 hb1 q2 q2' hb2 hz2 hwl hG hl h;go_enter Tryz.func105,Tryz.ntmps105;go_wp2_with fail
 go_loopw [12] (fun iv wr=>∃ (i:Nat) (lg:Bool) (v:Value) (u:List Int),i≤l.length∧iv=.int .i64 i∧Jw w wr bw bF m F V lg v u∧u.length≤4096∧cS F m false [] l=cS F m lg u (l.drop i)) (fun iv _=>l.length-(intOf iv).toNat)
 case atStart=>exact ⟨0,false,.slice none 0 0,[],gX _,rfl,HJ.out,by simp,rfl⟩
 case round=>
  obtain ⟨i,lg,v,u,hi,rfl,hj,hu,hg⟩:=hrel;have HJ2:=Ha hj;have HGO:=Ha hg;clear hj hg HJ r0 r1 r2 f0 f1 f2 hs1 hs2;obtain ⟨q0,q1,q2,e0,e1,e2⟩:=aP HJ2.out.q5 rfl;by_cases hil:i<l.length
  ·obtain ⟨bl,ol,rfl,z0⟩:=(aF.below HG.out HJ2.out.bel HL.out).get hil;obtain ⟨x,hx⟩:∃ x,x=l[i]:=⟨_,rfl⟩;rw [← hx] at z0;have HSTEP:=Ha (show cS F m false [] l=cS F m lg u (x::l.drop (i+1)) from by rw [HGO.out,List.drop_eq_getElem_cons hil,← hx]);have yb:=aA HJ2.out.wo.box 0 _ rfl;have q4:=HJ2.out.q4;obtain ⟨p0,p1,p2,g0,g1,g2⟩:=aP q4 rfl;have t0:wr.setCell ⟨w.heap.size,0,none⟩ (.bool false)=wr:=cC q4 rfl;have t1:wr.setCell ⟨w.heap.size,1,none⟩ (.bool false)=wr:=cC q4 rfl;have t2:wr.setCell ⟨w.heap.size,2,none⟩ (.slice none 0 0)=wr:=cC q4 rfl;clear hx HGO q4;by_cases hneg:x<0
   ·have HE:=Ha (show jn F m l=(false,false,[]) from by unfold jn;rw [HSTEP.out,cS,if_pos (.inl hneg)]);clear HSTEP;go_wp2_with fail;refine bodyPost_ret (v:=.agg #[.bool false,.bool false,.slice none 0 0]) (by simp [results,Tryz.results105,go_sem,p0,p1,p2]) rfl ?_;exact mA HE.out HJ2.out.bel
   obtain ⟨s,hs⟩:∃ s:Nat,x=(s:Int):=⟨x.toNat,by omega⟩;subst hs;by_cases hsm:s<m
   ·obtain ⟨A,c,k0,k1,k2,hat,hww⟩:=HJ2.out.wo.cells hsm;rcases hF:F s with ⟨okb,lgb,ww⟩
    rw [hF] at k0 k1 k2 hat hww;simp only at k0 k1 k2 hat hww;cases okb
    ·have HE:=Ha (show jn F m l=(false,false,[]) from by unfold jn;rw [HSTEP.out,cS,if_pos (.inr (.inr (by rw [Int.toNat_natCast,hF])))]);clear HSTEP hneg hF hat hww k1 k2;go_wp2_with fail;refine bodyPost_ret (v:=.agg #[.bool false,.bool false,.slice none 0 0]) (by simp [results,Tryz.results105,go_sem,p0,p1,p2]) rfl ?_;exact mA HE.out HJ2.out.bel
    have HST2:=Ha (show cS F m false [] l=if lg||lgb||decide (4096<u.length+ww.length) then cS F m true u (l.drop (i+1)) else cS F m false (u++ww) (l.drop (i+1)) from by
     rw [HSTEP.out,cS,if_neg (by rw [Int.toNat_natCast,hF];simp;omega)];simp only [Int.toNat_natCast,hF])
    obtain ⟨Av,cv,rfl,_⟩:=aG.shape HJ2.out.row;have hbj:Below wr.heap.size wr (wr.alloc (.cells #[.bool true,.bool lgb,.slice A ww.length c] 181)):=(gR _ _).alloc (gO _) _;have q8:=aC wr (.cells #[.bool true,.bool lgb,.slice A ww.length c] 181);generalize hWJ:wr.alloc (.cells #[.bool true,.bool lgb,.slice A ww.length c] 181)=wj at *;have hjj:=HJ2.out.below hbj;have hatj:aF (fun k=>k<w.heap.size∧TB 3 wj k) wj (.slice A ww.length c) ww:=aH.keep hat (fun k hk=>⟨hk.1,hk.2.of_eq (hbj.block _ hk.2.lt)⟩) (fun p hp=>gM (hbj.block _ hp.2.lt)) fun _ _ h=>h;obtain ⟨a0,a1,a2,b0,b1,b2⟩:=aP q8 rfl;obtain ⟨m0,m1,m2,n0,n1,n2⟩:=aP hjj.q5 rfl;have hsum:IntKind.i64.wrap ((u.length:Int)+(ww.length:Int))=((u.length+ww.length:Nat):Int):=by rw [IntWalk.i64_in _ (by omega)];omega
    obtain ⟨SM,hSM⟩:∃ SM,SM=u.length+ww.length:=⟨_,rfl⟩;rw [← hSM] at hsum;obtain ⟨HSM,HQ8,HJJ,HAT⟩:=hs4 hSM q8 hjj hatj;rw [← hSM] at HST2;have hszr:w.heap.size+2≤wr.heap.size:=HJ2.out.size;clear hF HSTEP hat hSM q8 hjj hatj hbj p0 p1 p2 g0 g1 g2 t0 t1 t2;have key:lg=true∨(lg=false∧lgb=true)∨(lg=false∧lgb=false∧4096<SM)∨(lg=false∧lgb=false∧¬4096<SM):=by
     cases lg <;> cases lgb <;> simp <;> omega
    rcases key with rfl | ⟨rfl,rfl⟩ | ⟨rfl,rfl,hgt⟩ | ⟨rfl,rfl,hgt⟩
    ·skip
     have HJK:=Ha (HJJ.out.setLg HWL.out true);have HST3:=Ha (show cS F m false [] l=cS F m true u (l.drop (i+1)) from by rw [HST2.out];simp);have c1:=aA HJK.out.q5 1 _ rfl;generalize hWK:wj.setCell ⟨w.heap.size+1,1,none⟩ (.bool true)=wk at *;clear HST2;go_wp2_with fail
     go_roundw
     case rel=>exact ⟨i+1,true,.slice Av u.length cv,u,hil,by go_num,HJK.out,hu,HST3.out⟩
     case measure=>simp only [intOf];omega
    ·skip
     have HJK:=Ha (HJJ.out.setLg HWL.out true);have HST3:=Ha (show cS F m false [] l=cS F m true u (l.drop (i+1)) from by rw [HST2.out];simp);have c1:=aA HJK.out.q5 1 _ rfl;generalize hWK:wj.setCell ⟨w.heap.size+1,1,none⟩ (.bool true)=wk at *;clear HST2;go_wp2_with fail
     go_roundw
     case rel=>exact ⟨i+1,true,.slice Av u.length cv,u,hil,by go_num,HJK.out,hu,HST3.out⟩
     case measure=>simp only [intOf];omega
    ·have hgi:(4096:Int)<(SM:Int):=by omega
     have HJK:=Ha (HJJ.out.setLg HWL.out true);have HST3:=Ha (show cS F m false [] l=cS F m true u (l.drop (i+1)) from by rw [HST2.out];simp [hgt]);have c1:=aA HJK.out.q5 1 _ rfl;generalize hWK:wj.setCell ⟨w.heap.size+1,1,none⟩ (.bool true)=wk at *;clear HST2;go_wp2_with fail
     go_roundw
     case rel=>exact ⟨i+1,true,.slice Av u.length cv,u,hil,by go_num,HJK.out,hu,HST3.out⟩
     case measure=>simp only [intOf];omega
    ·have hgi:¬(4096:Int)<(SM:Int):=by omega
     have hjk:=HJJ.out.setLg HWL.out false;have HST3:=Ha (show cS F m false [] l=cS F m false (u++ww) (l.drop (i+1)) from by rw [HST2.out];simp [hgt]);have hne:∀ k,k≠w.heap.size+1→(wj.setCell ⟨w.heap.size+1,1,none⟩ (.bool false)).heap[k]? = wj.heap[k]? := fun k hk=>gU _ _ _ _ hk;have q8k:=(hne wr.heap.size (by omega)).trans HQ8.out;have hak:aF (fun k=>k<w.heap.size) (wj.setCell ⟨w.heap.size+1,1,none⟩ (.bool false)) (.slice A ww.length c) ww:=aH.keep HAT.out (fun _ hk=>hk.1) (fun p hp=>gM (hne _ (by have:=hp.1;omega))) fun _ _ h=>h;generalize hWK:wj.setCell ⟨w.heap.size+1,1,none⟩ (.bool false)=wk at *;obtain ⟨v',w3,hrun,hr3,hc3,_⟩:=aG.addC 26 Tryz.underlying26 cB rfl (by decide) cF.one 26 hjk.row hak (by omega) (by unfold maxLen;omega) hjk.size;obtain ⟨hj3,q53⟩:=hjk.addW HWL.out hc3 hr3;obtain ⟨d0,d1,d2,_,_,_⟩:=aP hjk.q5 rfl;obtain ⟨_,_,d8,_,_,_⟩:=aP q8k rfl;obtain ⟨_,_,d23,_,_,d53⟩:=aP q53 rfl;obtain ⟨A3,c3,rfl,_⟩:=aG.shape hr3;have HJ3:=Ha hj3;have hul:(u++ww).length≤4096:=by rw [gI,← HSM.out];omega
     generalize hUW:u++ww=uw at *;clear HST2 hjk hne q8k hak hr3 hc3 hj3 q53 hUW;go_wp2_with fail
     go_roundw
     case rel=>exact ⟨i+1,false,.slice A3 uw.length c3,uw,hil,by go_num,HJ3.out,hul,HST3.out⟩
     case measure=>simp only [intOf];omega
   ·have HE:=Ha (show jn F m l=(false,false,[]) from by unfold jn;rw [HSTEP.out,cS,if_pos (.inr (.inl (by omega)))]);clear HSTEP hneg;go_wp2_with fail;refine bodyPost_ret (v:=.agg #[.bool false,.bool false,.slice none 0 0]) (by simp [results,Tryz.results105,go_sem,p0,p1,p2]) rfl ?_;exact mA HE.out HJ2.out.bel
  ·have HE:=Ha (show cS F m false [] l=some (lg,u) from by rw [HGO.out,List.drop_eq_nil_of_le (by omega)];rfl);cases lg
   ·have HJN:=Ha (show jn F m l=(true,false,u) from by unfold jn;rw [HE.out]);obtain ⟨Av,cv,rfl,_⟩:=aG.shape HJ2.out.row;have q4x:=HJ2.out.q4;have hbx:=HJ2.out.bel;have h0:(wr.setCell ⟨w.heap.size,0,none⟩ (.bool true)).heap[w.heap.size]? = some (.cells #[.bool true,.bool false,.slice none 0 0] 181 (0,0)):=aO q4x 0 _;have hb0:Below w.heap.size w (wr.setCell ⟨w.heap.size,0,none⟩ (.bool true)):=hbx.setCell (p:=⟨w.heap.size,0,none⟩) (gO _) _;have hn0:∀ k,k≠w.heap.size→(wr.setCell ⟨w.heap.size,0,none⟩ (.bool true)).heap[k]? = wr.heap[k]? := fun k hk=>gU _ _ _ _ hk;generalize hX0:wr.setCell ⟨w.heap.size,0,none⟩ (.bool true)=x0 at *;have h1:(x0.setCell ⟨w.heap.size,1,none⟩ (.bool false)).heap[w.heap.size]? = some (.cells #[.bool true,.bool false,.slice none 0 0] 181 (0,0)):=aO h0 1 _;have hb1:Below w.heap.size w (x0.setCell ⟨w.heap.size,1,none⟩ (.bool false)):=hb0.setCell (p:=⟨w.heap.size,1,none⟩) (gO _) _;have hn1:∀ k,k≠w.heap.size→(x0.setCell ⟨w.heap.size,1,none⟩ (.bool false)).heap[k]? = wr.heap[k]? := fun k hk=>(gU _ _ _ _ hk).trans (hn0 k hk);generalize hX1:x0.setCell ⟨w.heap.size,1,none⟩ (.bool false)=x1 at *;have h2:(x1.setCell ⟨w.heap.size,2,none⟩ (.slice Av u.length cv)).heap[w.heap.size]? = some (.cells #[.bool true,.bool false,(.slice Av u.length cv)] 181 (0,0)):=aO h1 2 _;have hb2:Below w.heap.size w (x1.setCell ⟨w.heap.size,2,none⟩ (.slice Av u.length cv)):=hb1.setCell (p:=⟨w.heap.size,2,none⟩) (gO _) _;have hn2:∀ k,k≠w.heap.size→(x1.setCell ⟨w.heap.size,2,none⟩ (.slice Av u.length cv)).heap[k]? = wr.heap[k]? := fun k hk=>(gU _ _ _ _ hk).trans (hn1 k hk);generalize hX2:x1.setCell ⟨w.heap.size,2,none⟩ (.slice Av u.length cv)=x2 at *;obtain ⟨a0,a1,a2,b0,b1,b2⟩:=aP q4x rfl;obtain ⟨a00,a01,a02,b00,b01,b02⟩:=aP h0 rfl;obtain ⟨a10,a11,a12,b10,b11,b12⟩:=aP h1 rfl;obtain ⟨a20,a21,a22,_,_,_⟩:=aP h2 rfl;have HB2:=Ha hb2;have HN2:=Ha hn2;clear h0 h1 h2 hb0 hb1 hb2 hn0 hn1 hn2 q4x hbx;go_wp2_with fail;refine bodyPost_ret (v:=.agg #[.bool true,.bool false,.slice Av u.length cv]) (by simp [results,Tryz.results105,go_sem,a20,a21,a22]) rfl ?_
    skip
    unfold dP;rw [HJN.out];have hr:=aG.keep HJ2.out.row (w':=x2) fun k hk=>HN2.out k (by have:=(aG.tb HJ2.out.row hk).1;omega);exact ⟨⟨Av,cv,rfl,aG.look hr fun k hk=>⟨by have:=(aG.tb hr hk).1;omega,(aG.tb hr hk).2⟩,aG.lower hr (by omega)⟩,HB2.out⟩
   ·have HJN:=Ha (show jn F m l=(true,true,[]) from by unfold jn;rw [HE.out]);have q4y:=HJ2.out.q4;have q5y:(wr.setCell ⟨w.heap.size+1,2,none⟩ (.slice none 0 0)).heap[w.heap.size+1]? = some (.cells #[.bool true,.bool true,.slice none 0 0] 181 (0,0)):=aO HJ2.out.q5 2 _;have q4x:(wr.setCell ⟨w.heap.size+1,2,none⟩ (.slice none 0 0)).heap[w.heap.size]? = _:=(gU _ _ _ _ (by show w.heap.size≠w.heap.size+1;omega)).trans q4y;have hbx:Below w.heap.size w (wr.setCell ⟨w.heap.size+1,2,none⟩ (.slice none 0 0)):=HJ2.out.bel.setCell (p:=⟨w.heap.size+1,2,none⟩) (Nat.le_succ _) _;generalize hWK:wr.setCell ⟨w.heap.size+1,2,none⟩ (.slice none 0 0)=wk at *;obtain ⟨m0,m1,m2,_,_,_⟩:=aP q5y rfl;clear q4y q5y;have h0:(wk.setCell ⟨w.heap.size,0,none⟩ (.bool true)).heap[w.heap.size]? = some (.cells #[.bool true,.bool false,.slice none 0 0] 181 (0,0)):=aO q4x 0 _;have hb0:Below w.heap.size w (wk.setCell ⟨w.heap.size,0,none⟩ (.bool true)):=hbx.setCell (p:=⟨w.heap.size,0,none⟩) (gO _) _;have hn0:∀ k,k≠w.heap.size→(wk.setCell ⟨w.heap.size,0,none⟩ (.bool true)).heap[k]? = wk.heap[k]? := fun k hk=>gU _ _ _ _ hk;generalize hX0:wk.setCell ⟨w.heap.size,0,none⟩ (.bool true)=x0 at *;have h1:(x0.setCell ⟨w.heap.size,1,none⟩ (.bool true)).heap[w.heap.size]? = some (.cells #[.bool true,.bool true,.slice none 0 0] 181 (0,0)):=aO h0 1 _;have hb1:Below w.heap.size w (x0.setCell ⟨w.heap.size,1,none⟩ (.bool true)):=hb0.setCell (p:=⟨w.heap.size,1,none⟩) (gO _) _;have hn1:∀ k,k≠w.heap.size→(x0.setCell ⟨w.heap.size,1,none⟩ (.bool true)).heap[k]? = wk.heap[k]? := fun k hk=>(gU _ _ _ _ hk).trans (hn0 k hk);generalize hX1:x0.setCell ⟨w.heap.size,1,none⟩ (.bool true)=x1 at *;have h2:(x1.setCell ⟨w.heap.size,2,none⟩ (.slice none 0 0)).heap[w.heap.size]? = some (.cells #[.bool true,.bool true,(.slice none 0 0)] 181 (0,0)):=aO h1 2 _;have hb2:Below w.heap.size w (x1.setCell ⟨w.heap.size,2,none⟩ (.slice none 0 0)):=hb1.setCell (p:=⟨w.heap.size,2,none⟩) (gO _) _;have hn2:∀ k,k≠w.heap.size→(x1.setCell ⟨w.heap.size,2,none⟩ (.slice none 0 0)).heap[k]? = wk.heap[k]? := fun k hk=>(gU _ _ _ _ hk).trans (hn1 k hk);generalize hX2:x1.setCell ⟨w.heap.size,2,none⟩ (.slice none 0 0)=x2 at *;obtain ⟨a0,a1,a2,b0,b1,b2⟩:=aP q4x rfl;obtain ⟨a00,a01,a02,b00,b01,b02⟩:=aP h0 rfl;obtain ⟨a10,a11,a12,b10,b11,b12⟩:=aP h1 rfl;obtain ⟨a20,a21,a22,_,_,_⟩:=aP h2 rfl;have HB2:=Ha hb2;have HN2:=Ha hn2;clear h0 h1 h2 hb0 hb1 hb2 hn0 hn1 hn2 q4x hbx;have hs2:x1.setCell ⟨w.heap.size,2,none⟩ (.slice none 0 0)=x2:=hX2;go_wp2_with fail;refine bodyPost_ret (v:=.agg #[.bool true,.bool true,.slice none 0 0]) (by simp [results,Tryz.results105,go_sem,a20,a21,a22]) rfl ?_
    skip
    unfold dP;rw [HJN.out];exact ⟨⟨none,0,rfl,⟨none,0,rfl,gO _,gX _,fun h=>absurd h (Nat.lt_irrefl 0)⟩,aG.nil _ _ _ _ _⟩,HB2.out⟩
end
def shlt (a b:List Int):Bool:=if a.length=b.length then decide (bZ a b<0) else decide (a.length<b.length)
def zI (x y:Fd):Bool:=if x.1=false then false else if y.1=false then true else if x.2.1||y.2.1 then y.2.1 && !x.2.1 else shlt x.2.2 y.2.2
theorem FL (G:Nat→Prop) (w:World) (A A2:Option Addr) (c c2:Nat) (a b:List Int) (ha:aF G w (.slice A a.length c) a) (hb:aF G w (.slice A2 b.length c2) b):
  Calls Tryz.prog 166 #[.slice A a.length c,.slice A2 b.length c2] w fun e w'=>e=.returned (.bool (shlt a b))∧w'=w:=by
 have HL:=Ha (F7 G G w A A2 c c2 a b ha hb);have hla:=(aH.len ha).2;have hlb:=(aH.len hb).2;clear ha hb;go_enter Tryz.func166,Tryz.ntmps166;by_cases h:a.length=b.length
 ·have hi:(a.length:Int)=(b.length:Int):=by omega
  have HS:=Ha (show shlt a b=decide (bZ a b<0) from by unfold shlt;rw [if_pos h]);obtain ⟨cc,hcc⟩:∃ cc,cc=bZ a b:=⟨_,rfl⟩;rw [← hcc] at HL HS;generalize a.length=la at *;subst h;clear hcc;go_wp2_with fail;refine (HL.out).mono ?_;rintro e w1 ⟨rfl,rfl⟩;go_wp2_with fail;go_ret;exact ⟨by rw [HS.out];rfl,rfl⟩
 ·have hi:¬(a.length:Int)=(b.length:Int):=by omega
  have HS:=Ha (show shlt a b=decide (a.length<b.length) from by unfold shlt;rw [if_neg h]);clear h;go_wp2_with fail;go_ret;exact ⟨by rw [HS.out];rfl,rfl⟩
theorem zJ (G:Nat→Prop) (w:World) (x y:Fd) (Ax Ay:Option Addr) (cx cy:Nat) (hG:∀ k,G k→k<w.heap.size) (hx:aF G w (.slice Ax x.2.2.length cx) x.2.2) (hy:aF G w (.slice Ay y.2.2.length cy) y.2.2):
  Calls Tryz.prog 106 #[.agg #[.func (.func 166) #[] #[]],.agg #[.bool x.1,.bool x.2.1,.slice Ax x.2.2.length cx],.agg #[.bool y.1,.bool y.2.1,.slice Ay y.2.2.length cy]] w fun e w'=>e=.returned (.bool (zI x y))∧Below w.heap.size w w':=by
 obtain ⟨xo,xl,xw⟩:=x;obtain ⟨yo,yl,yw⟩:=y;simp only at hx hy;have q1:=aC w (.cells #[.func (.func 166) #[] #[]] 184);have hb1:Below w.heap.size w (w.alloc (.cells #[.func (.func 166) #[] #[]] 184)):=(gR _ _).alloc (gO _) _;have hz1:(w.alloc (.cells #[.func (.func 166) #[] #[]] 184)).heap.size=w.heap.size+1:=by simp
 generalize hW1:w.alloc (.cells #[.func (.func 166) #[] #[]] 184)=w1 at *;have q2:=aC w1 (.cells #[.bool xo,.bool xl,.slice Ax xw.length cx] 181);have hb2:Below w1.heap.size w1 (w1.alloc (.cells #[.bool xo,.bool xl,.slice Ax xw.length cx] 181)):=(gR _ _).alloc (gO _) _;have hz2:(w1.alloc (.cells #[.bool xo,.bool xl,.slice Ax xw.length cx] 181)).heap.size=w1.heap.size+1:=by simp
 generalize hW2:w1.alloc (.cells #[.bool xo,.bool xl,.slice Ax xw.length cx] 181)=w2 at *;have q3:=aC w2 (.cells #[.bool yo,.bool yl,.slice Ay yw.length cy] 181);have hb3:Below w2.heap.size w2 (w2.alloc (.cells #[.bool yo,.bool yl,.slice Ay yw.length cy] 181)):=(gR _ _).alloc (gO _) _;generalize hW3:w2.alloc (.cells #[.bool yo,.bool yl,.slice Ay yw.length cy] 181)=w3 at *;have hb23:Below w1.heap.size w1 w3:=hb2.trans (hb3.mono hb2.size);have hb13:Below w.heap.size w w3:=hb1.trans (hb23.mono hb1.size);have y0:=aA ((hb23.block w.heap.size (by omega)).trans q1) 0 _ rfl;obtain ⟨x0,x1,x2,_,_,_⟩:=aP ((hb3.block w1.heap.size (by omega)).trans q2) rfl;obtain ⟨z0,z1,z2,_,_,_⟩:=aP q3 rfl;have HS:=Ha (FL G w3 Ax Ay cx cy xw yw (aF.below hG hb13 hx) (aF.below hG hb13 hy));have HB:=Ha hb13;rw [hz1] at hz2 x0 x1 x2;rw [hz2] at z0 z1 z2;clear q1 q2 q3 hb1 hb2 hb3 hb23 hb13 hx hy hG;go_enter Tryz.func106,Tryz.ntmps106;cases xo
 ·go_wp2_with fail;go_ret;exact ⟨rfl,HB.out⟩
 cases yo
 ·go_wp2_with fail;go_ret;exact ⟨rfl,HB.out⟩
 cases xl
 ·cases yl
  ·have HE:=Ha (show zI (true,false,xw) (true,false,yw)=shlt xw yw from rfl);generalize shlt xw yw=bb at *;go_wp2_with fail;refine (HS.out).mono ?_;rintro e w4 ⟨rfl,rfl⟩;go_wp2_with fail;go_ret;exact ⟨by rw [HE.out];rfl,HB.out⟩
  ·go_wp2_with fail;go_ret;exact ⟨rfl,HB.out⟩
 ·cases yl
  ·go_wp2_with fail;go_ret;exact ⟨rfl,HB.out⟩
  ·go_wp2_with fail;go_ret;exact ⟨rfl,HB.out⟩
theorem tW (w:World):
  Calls Tryz.prog 104 #[] w fun e w'=>e=.returned (.agg #[.func (.func 166) #[] #[]])∧Below w.heap.size w w':=by
 have q1:=aC w (.cells #[.func (.func 166) #[] #[]] 184);have hb1:Below w.heap.size w (w.alloc (.cells #[.func (.func 166) #[] #[]] 184)):=(gR _ _).alloc (gO _) _;generalize hW1:w.alloc (.cells #[.func (.func 166) #[] #[]] 184)=w1 at *;have y0:=aA q1 0 _ rfl;have HB:=Ha hb1;clear q1 hb1;go_enter Tryz.func104,Tryz.ntmps104;go_wp2_with fail;refine bodyPost_ret (v:=.agg #[.func (.func 166) #[] #[]]) (by simp [results,Tryz.results104,go_sem,y0]) rfl ?_;exact ⟨rfl,HB.out⟩
def qM (F:Nat→Fd) (m:Nat) (l:List Int) (w:World) (e:Ending) (w':World):Prop:=
 (∃ A c,e=.returned (.tuple #[.slice A (jn F m l).2.2.length c,.bool ((jn F m l).1 && !(jn F m l).2.1)])∧aF (fun k=>w.heap.size≤k∧TB 3 w' k) w' (.slice A (jn F m l).2.2.length c) (jn F m l).2.2∧aG w.heap.size 3 1 cF w' (.slice A (jn F m l).2.2.length c) (jn F m l).2.2)∧Below w.heap.size w w'
theorem FX (G:Nat→Prop) (w:World) (bw bF m:Nat) (F:Nat→Fd) (V:Nat→Value) (Al:Option Addr) (cl:Nat) (l:List Int) (h:Wo w w.heap.size bw bF m F V) (hG:∀ k,G k→k<w.heap.size) (hl:aF G w (.slice Al l.length cl) l):
  Calls Tryz.prog 52 #[.pointer (some ⟨bw,0,none⟩),.slice Al l.length cl] w fun e w'=>qM F m l w e w':=by
 have HJ:=BT G w bw bF m F V Al cl l h hG hl;unfold dP at HJ;unfold qM;generalize jn F m l=R at *;obtain ⟨ok,lg,u⟩:=R;simp only at HJ ⊢;have HJ:=Ha HJ;clear h hG hl;go_enter Tryz.func52,Tryz.ntmps52;go_wp2_with fail
 with_reducible refine Calls.mono HJ.out ?_
 rintro e w1 ⟨⟨A,c,rfl,hi,hnr⟩,hb⟩;have q1:=aC w1 (.cells #[.bool ok,.bool lg,.slice A u.length c] 181);have hb1:Below w1.heap.size w1 (w1.alloc (.cells #[.bool ok,.bool lg,.slice A u.length c] 181)):=(gR _ _).alloc (gO _) _;generalize hW1:w1.alloc (.cells #[.bool ok,.bool lg,.slice A u.length c] 181)=w2 at *;obtain ⟨x0,x1,x2,_,_,_⟩:=aP q1 rfl;have c0:w2.drew.cell? _=_:=x0;have c1:w2.drew.cell? _=_:=x1;have c2:w2.drew.cell? _=_:=x2;have HF:=Ha (show aF (fun k=>w.heap.size≤k∧TB 3 w2.drew k) w2.drew (.slice A u.length c) u∧Below w.heap.size w w2.drew∧aG w.heap.size 3 1 cF w2.drew (.slice A u.length c) u from
  ⟨aH.keep hi (fun k hk=>⟨hk.1,hk.2.of_eq (hb1.block _ hk.2.lt)⟩) (fun p hp=>gM (hb1.block _ hp.2.lt)) fun _ _ h=>h,(hb.trans (hb1.mono hb.size)).drew,aG.below (aG.below hnr hb1) (gR _ _).drew⟩)
 clear hi hnr hb hb1 q1 HJ;cases ok
 ·go_wp2_with fail
  go_region
  go_wp2_with fail;refine bodyPost_ret (v:=.tuple #[.slice A u.length c,.bool false]) (by simp [results,Tryz.results52,go_sem]) rfl ?_;exact ⟨⟨A,c,rfl,HF.out.1,HF.out.2.2⟩,HF.out.2.1⟩
 cases lg
 ·go_wp2_with fail
  go_region
  go_wp2_with fail;refine bodyPost_ret (v:=.tuple #[.slice A u.length c,.bool true]) (by simp [results,Tryz.results52,go_sem]) rfl ?_;exact ⟨⟨A,c,rfl,HF.out.1,HF.out.2.2⟩,HF.out.2.1⟩
 ·go_wp2_with fail
  go_region
  go_wp2_with fail;refine bodyPost_ret (v:=.tuple #[.slice A u.length c,.bool false]) (by simp [results,Tryz.results52,go_sem]) rfl ?_;exact ⟨⟨A,c,rfl,HF.out.1,HF.out.2.2⟩,HF.out.2.1⟩
structure FOk (g:Gm) (m:Nat) (F:Nat→Fd):Prop where
 der:∀ s,1≤s→s<m→(F s).1=true→(F s).2.1=false→g.Der [(s:Int)] (F s).2.2
 zero:(F 0).2.2=[]
 dig:∀ s,s<m→∀ t∈(F s).2.2,0≤t∧t<(m:Int)
 len:∀ s,s<m→(F s).2.2.length≤4096
theorem l8 {g:Gm} {m:Nat} {F:Nat→Fd} (h:FOk g m F):∀ (l:List Int) (lg:Bool) (u0 u:List Int),(∀ s∈l,1≤s∧s<(m:Int))→cS F m lg u0 l=some (false,u)→∃ v,u=u0++v∧lg=false∧g.Der l v
 | [],lg,u0,u,_,e=>by
  unfold cS at e
  injection e with e
  injection e with e1 e2
  exact ⟨[],by rw [List.append_nil,e2],e1,.nil⟩
 | s::r,lg,u0,u,hl,e=>by
  have hs:=hl s (List.mem_cons_self ..);have hr:∀ t∈r,1≤t∧t<(m:Int):=fun t ht=>hl t (List.mem_cons_of_mem _ ht);unfold cS at e
  split at e
  ·cases e
  ·rename_i hn
   split at e
   ·obtain ⟨_,_,h2,_⟩:=l8 h r true u0 u hr e;cases h2
   ·rename_i hn2;obtain ⟨v,h1,_,h3⟩:=l8 h r false (u0++(F s.toNat).2.2) u hr e;rw [Bool.or_eq_true,Bool.or_eq_true,not_or,not_or,Bool.not_eq_true,Bool.not_eq_true] at hn2;have hok:(F s.toNat).1=true:=by
     cases h4:(F s.toNat).1
     ·exact absurd (.inr (.inr h4)) hn
     ·rfl
    have hd:=h.der s.toNat (by omega) (by omega) hok hn2.1.2;rw [show ((s.toNat:Nat):Int)=s by omega] at hd;exact ⟨(F s.toNat).2.2++v,by rw [h1,List.append_assoc],hn2.1.1,hd.app h3⟩
theorem BR {g:Gm} {m:Nat} {F:Nat→Fd} (h:FOk g m F) {l:List Int} (hl:∀ s∈l,1≤s∧s<(m:Int)) (h1:(jn F m l).1=true) (h2:(jn F m l).2.1=false):g.Der l (jn F m l).2.2:=by
 unfold jn at h1 h2 ⊢
 split at h1
 ·cases h1
 ·rename_i e;rw [e] at h2;cases h2
 ·rename_i u e;obtain ⟨v,h3,_,h4⟩:=l8 h l false [] u hl e;simp only;rw [h3,List.nil_append];exact h4
theorem l9 {m:Nat} {F:Nat→Fd} (hd:∀ s,s<m→∀ t∈(F s).2.2,0≤t∧t<(m:Int)):∀ (l:List Int) (lg b:Bool) (u0 u:List Int),(∀ t∈u0,0≤t∧t<(m:Int))→u0.length≤4096→cS F m lg u0 l=some (b,u)→(∀ t∈u,0≤t∧t<(m:Int))∧u.length≤4096
 | [],lg,b,u0,u,h0,hlen,e=>by
  unfold cS at e
  injection e with e
  injection e with e1 e2
  subst e2;exact ⟨h0,hlen⟩
 | s::r,lg,b,u0,u,h0,hlen,e=>by
  unfold cS at e
  split at e
  ·cases e
  ·rename_i hn
   split at e
   ·exact l9 hd r true b u0 u h0 hlen e
   ·rename_i hn2;rw [Bool.or_eq_true,not_or,decide_eq_true_iff] at hn2;refine l9 hd r false b _ u (fun t ht=>?_) (by rw [gI];omega) e;rcases List.mem_append.1 ht with ht | ht
    ·exact h0 t ht
    ·exact hd s.toNat (by omega) t ht
theorem BS {m:Nat} {F:Nat→Fd} (hd:∀ s,s<m→∀ t∈(F s).2.2,0≤t∧t<(m:Int)) (l:List Int):(∀ t∈(jn F m l).2.2,0≤t∧t<(m:Int))∧(jn F m l).2.2.length≤4096:=by
 unfold jn
 split
 ·simp
 ·simp
 ·rename_i u e;exact l9 hd l false false [] u (by simp) (by simp) e
def iP (M:Nat):Nat→List Int→Nat
 | a,[]=>a
 | a,d::l=>iP M (a*M+d.toNat) l
theorem cX (M:Nat):∀ (l:List Int) (a:Nat),iP M a l=a*M ^ l.length+iP M 0 l
 | [],a=>by simp [iP]
 | d::l,a=>by
  show iP M (a*M+d.toNat) l=_+iP M (0*M+d.toNat) l;rw [cX M l,cX M l (0*M+d.toNat),gG,Nat.pow_succ',← Nat.mul_assoc,Nat.zero_mul,Nat.zero_add,Nat.add_mul,Nat.add_assoc]
theorem qI {M:Nat}:∀ (l:List Int),(∀ t∈l,0≤t∧t<(M:Int))→iP M 0 l<M ^ l.length
 | [],_=>by simp [iP]
 | d::l,h=>by
  have h1:=qI l fun t ht=>h t (List.mem_cons_of_mem _ ht);have h2:=h d (List.mem_cons_self ..);show iP M (0*M+d.toNat) l<_;rw [cX,Nat.zero_mul,Nat.zero_add,gG,Nat.pow_succ'];have h3:(d.toNat+1)*M ^ l.length≤M*M ^ l.length:=Nat.mul_le_mul_right _ (by omega);rw [Nat.add_mul,Nat.one_mul] at h3;omega
theorem sO {M:Nat}:∀ (a b:List Int),(∀ t∈a,0≤t∧t<(M:Int))→(∀ t∈b,0≤t∧t<(M:Int))→a.length=b.length→bZ a b<0→iP M 0 a<iP M 0 b
 | [],[],_,_,_,h=>by simp [bZ] at h
 | [],_::_,_,_,h,_=>by simp at h
 | _::_,[],_,_,h,_=>by simp at h
 | x::a,y::b,ha,hb,hl,h=>by
  have hl2:a.length=b.length:=by simpa using hl
  have ha2:∀ t∈a,0≤t∧t<(M:Int):=fun t ht=>ha t (List.mem_cons_of_mem _ ht);have hb2:∀ t∈b,0≤t∧t<(M:Int):=fun t ht=>hb t (List.mem_cons_of_mem _ ht);have hx:=ha x (List.mem_cons_self ..);have hy:=hb y (List.mem_cons_self ..);show iP M (0*M+x.toNat) a<iP M (0*M+y.toNat) b;rw [cX M a,cX M b,Nat.zero_mul,Nat.zero_add,Nat.zero_add,hl2];unfold bZ at h
  split at h
  ·rename_i hxy;have h1:=qI a ha2;rw [hl2] at h1;have h3:(x.toNat+1)*M ^ b.length≤y.toNat*M ^ b.length:=Nat.mul_le_mul_right _ (by omega);rw [Nat.add_mul,Nat.one_mul] at h3;omega
  ·split at h
   ·omega
   ·rename_i h1 h2;have h3:=sO a b ha2 hb2 hl2 h;have e:x=y:=by omega
    subst e;omega
def zK:Nat:=4097
theorem D4 {n:Nat} (h:n≤4096):n≤zK:=Nat.le_succ_of_le h
def mL (M:Nat) (x:Fd):Nat:=if x.1=false then 3*M ^ zK else if x.2.1=true then 2*M ^ zK else iP M 1 x.2.2
theorem qZ {M:Nat} (hM:2≤M) {x y:Fd} (hx:∀ t∈x.2.2,0≤t∧t<(M:Int)) (hy:∀ t∈y.2.2,0≤t∧t<(M:Int)) (hlx:x.2.2.length≤4096) (h:zI x y=true):mL M x<mL M y:=by
 obtain ⟨xo,xl,xw⟩:=x;obtain ⟨yo,yl,yw⟩:=y;simp only at hx hy hlx;have hp:0<M ^ zK:=Nat.pow_pos (by omega);have hv:iP M 1 xw<2*M ^ xw.length:=by
  rw [cX];have:=qI xw hx;omega
 have hpl:M ^ xw.length≤M ^ zK:=Nat.pow_le_pow_right (by omega) (D4 hlx);unfold zI at h;unfold mL;cases xo
 ·simp at h
 cases yo
 ·cases xl
  ·simp only [Bool.true_eq_false,if_false,if_true,Bool.false_eq_true];omega
  ·simp only [Bool.true_eq_false,if_false,if_true];omega
 cases xl
 ·cases yl
  ·simp only [Bool.true_eq_false,if_false,Bool.false_eq_true,Bool.or_self] at h ⊢;unfold shlt at h
   split at h
   ·rename_i hl;rw [decide_eq_true_iff] at h;rw [cX M xw,cX M yw,hl];have:=sO xw yw hx hy hl h;omega
   ·rename_i hl;rw [decide_eq_true_iff] at h;rw [cX M yw];have h1:M ^ (xw.length+1)≤M ^ yw.length:=Nat.pow_le_pow_right (by omega) (by omega);rw [Nat.pow_succ] at h1;have h2:M ^ xw.length*2≤M ^ xw.length*M:=Nat.mul_le_mul_left _ hM;omega
  ·simp only [Bool.true_eq_false,if_false,Bool.false_eq_true,if_true];omega
 ·cases yl <;> simp at h
def rdI (w:World):Value→List Int
 | .slice (some a) n _=>(List.range n).map fun i=>match w.cell? ⟨a.block,a.off+i,none⟩ with
  | some (.int _ x)=>x
  | _=>0
 | _=>[]
def rdB:Option Value→Bool
 | some (.bool b)=>b
 | _=>false
def rdF (w:World) (bF s:Nat):Fd:=(rdB (w.cell? ⟨bF,s*3,none⟩),rdB (w.cell? ⟨bF,s*3+1,none⟩),match w.cell? ⟨bF,s*3+2,none⟩ with
 | some v=>rdI w v
 | none=>[])
def mWo (w:World) (bF m:Nat):Nat:=dY (fun s=>mL m (rdF w bF s)) m
theorem IF {G:Nat→Prop} {w:World} {A:Option Addr} {n c:Nat} {l:List Int} (h:aF G w (.slice A n c) l):rdI w (.slice A n c)=l:=by
 have hn:=(aH.len h).1;subst hn;cases A with
 | none=>
  by_cases h0:0<l.length
  ·obtain ⟨bb,off,e,_⟩:=aF.get h h0;cases e
  ·have hl:l=[]:=List.length_eq_zero_iff.1 (by omega);rw [hl];rfl
 | some a=>
  refine List.ext_getElem (by simp [rdI]) fun i h1 h2=>?_;obtain ⟨bb,off,e,hc⟩:=aF.get h h2
  injection e with e
  subst e;simp only [rdI,List.getElem_map,List.getElem_range,hc]
def g5 {α:Type} (F:Nat→α) (s:Nat) (x:α):Nat→α:=fun t=>if t=s then x else F t
section
variable {w w':World} {N bw bF m:Nat} {F:Nat→Fd} {V:Nat→Value}
theorem Wo.rd (h:Wo w N bw bF m F V) {s:Nat} (hs:s<m):rdF w bF s=F s:=by
 obtain ⟨A,c,h1,h2,h3,h4,_⟩:=h.cells hs;unfold rdF;rw [h1,h2,h3];simp only [rdB,IF h4]
theorem Wo.meas (h:Wo w N bw bF m F V):mWo w bF m=dY (fun s=>mL m (F s)) m:=jM m fun s hs=>by rw [h.rd hs]
theorem Wo.put (h:Wo w N bw bF m F V) {s:Nat} (hs:s<m) {x:Fd} {A:Option Addr} {c:Nat} (hv:aF (fun k=>k<N∧TB 3 w k) w (.slice A x.2.2.length c) x.2.2) (hl:x.2.2.length≤4096):
  Wo (((w.setCell ⟨bF,s*3,none⟩ (.bool x.1)).setCell ⟨bF,s*3+1,none⟩ (.bool x.2.1)).setCell ⟨bF,s*3+2,none⟩ (.slice A x.2.2.length c)) N bw bF m (g5 F s x) (g5 V s (.slice A x.2.2.length c)):=by
 obtain ⟨cur,h1,h2,h3⟩:=h.row;have g1:=aO h1 (s*3) (.bool x.1);have g2:=aO g1 (s*3+1) (.bool x.2.1);have g3:=aO g2 (s*3+2) (.slice A x.2.2.length c);have hne:∀ k,k≠bF→(((w.setCell ⟨bF,s*3,none⟩ (.bool x.1)).setCell ⟨bF,s*3+1,none⟩ (.bool x.2.1)).setCell ⟨bF,s*3+2,none⟩ (.slice A x.2.2.length c)).heap[k]? = w.heap[k]? := fun k hk=>
  ((gU _ _ _ _ hk).trans (gU _ _ _ _ hk)).trans (gU _ _ _ _ hk)
 have hi:∀ k,TB 3 w k→(((w.setCell ⟨bF,s*3,none⟩ (.bool x.1)).setCell ⟨bF,s*3+1,none⟩ (.bool x.2.1)).setCell ⟨bF,s*3+2,none⟩ (.slice A x.2.2.length c)).heap[k]? = w.heap[k]? := fun k hk=>hne k (hk.ne h.tb (by decide));generalize (((w.setCell ⟨bF,s*3,none⟩ (.bool x.1)).setCell ⟨bF,s*3+1,none⟩ (.bool x.2.1)).setCell ⟨bF,s*3+2,none⟩ (.slice A x.2.2.length c))=w3 at *;have kp:∀ {A':Option Addr} {c':Nat} {l:List Int},aF (fun k=>k<N∧TB 3 w k) w (.slice A' l.length c') l→aF (fun k=>k<N∧TB 3 w3 k) w3 (.slice A' l.length c') l:=fun h5=>
  aH.keep h5 (fun k hk=>⟨hk.1,hk.2.of_eq (hi k hk.2)⟩) (fun p hp=>gM (hi _ hp.2)) fun _ _ h=>h
 refine ⟨(hne bw fun e=>TB.ne (T:=179) ⟨_,h.box⟩ h.tb (by decide) e).trans h.box,⟨_,g3,by simpa using h2,fun t ht=>?_⟩,fun t ht=>?_⟩
 ·have hz:s*3+2<cur.size:=by omega
  unfold g5;by_cases e:t=s
  ·subst e;simp only [if_pos];refine ⟨?_, ?_, ?_⟩
   ·rw [Array.getElem?_setIfInBounds_ne (by omega),Array.getElem?_setIfInBounds_ne (by omega),Array.getElem?_setIfInBounds_self_of_lt (by omega)]
   ·rw [Array.getElem?_setIfInBounds_ne (by omega),Array.getElem?_setIfInBounds_self_of_lt (by simp;omega)]
   ·rw [Array.getElem?_setIfInBounds_self_of_lt (by simp;omega)]
  ·simp only [if_neg e];obtain ⟨e1,e2,e3⟩:=h3 t ht;refine ⟨?_, ?_, ?_⟩
   ·rw [Array.getElem?_setIfInBounds_ne (by omega),Array.getElem?_setIfInBounds_ne (by omega),Array.getElem?_setIfInBounds_ne (by omega)];exact e1
   ·rw [Array.getElem?_setIfInBounds_ne (by omega),Array.getElem?_setIfInBounds_ne (by omega),Array.getElem?_setIfInBounds_ne (by omega)];exact e2
   ·rw [Array.getElem?_setIfInBounds_ne (by omega),Array.getElem?_setIfInBounds_ne (by omega),Array.getElem?_setIfInBounds_ne (by omega)];exact e3
 ·unfold g5;by_cases e:t=s
  ·subst e;simp only [if_pos];exact ⟨A,c,rfl,kp hv,hl⟩
  ·simp only [if_neg e];obtain ⟨A',c',h5,h6,h7⟩:=h.its t ht;exact ⟨A',c',h5,kp h6,h7⟩
end
theorem CN {m:Nat} {F:Nat→Fd} {s:Nat} {x:Fd} (hs:s<m) (h:mL m x<mL m (F s)):dY (fun t=>mL m (g5 F s x t)) m<dY (fun t=>mL m (F t)) m:=by
 refine eG m (fun t _=>?_) ⟨s,hs, ?_⟩
 ·unfold g5;by_cases e:t=s
  ·subst e;simp only [if_pos];omega
  ·simp only [if_neg e];exact gO _
 ·unfold g5;simp only [if_pos];exact h
theorem BC:(Tryz.prog.info? 181).map (fun i=>(i.zero,i.size,i.bytes))=some (some (.agg #[.bool false,.bool false,.slice none 0 0]),3,32):=by kernel_rfl
theorem G9 (m:Nat) {s:Nat} (hs:s<m):(madeCells #[Value.bool false,.bool false,.slice none 0 0] (m*3))[s*3]? = some (.bool false)∧(madeCells #[Value.bool false,.bool false,.slice none 0 0] (m*3))[s*3+1]? = some (.bool false)∧(madeCells #[Value.bool false,.bool false,.slice none 0 0] (m*3))[s*3+2]? = some (.slice none 0 0):=by
 have h0:(s*3) % 3=0:=by omega
 have h1:(s*3+1) % 3=1:=by omega
 have h2:(s*3+2) % 3=2:=by omega
 refine ⟨?_, ?_, ?_⟩
 ·simp [madeCells,h0,show s*3<m*3 by omega]
 ·simp [madeCells,h1,show s*3+1<m*3 by omega]
 ·simp [madeCells,h2,show s*3+2<m*3 by omega]
theorem EW (w:World) {m:Nat} (hm:m≤1000):(Instr.makeSlice 177 (.int .i64 (m:Int)) (.int .i64 (m:Int))).run Tryz.prog w=.ok (.slice (some ⟨w.heap.size,0,none⟩) m m) (w.alloc (.cells (madeCells #[.bool false,.bool false,.slice none 0 0] (m*3)) 181)):=by
 obtain ⟨i0,hi0,hz0,hz1,hz2⟩:=info_parts BC;have h:=run_make (P:=Tryz.prog) w 177 181 i0 _ Tryz.underlying177 hi0 hz0 .i64 .i64 (m:Int) (m:Int) (by omega) (Int.le_refl _) (by rw [hz2];omega) (by omega);rw [hz1,Int.toNat_natCast] at h;exact h
end Go.Proofs.YtpidmmfjcghmeaaGreat
