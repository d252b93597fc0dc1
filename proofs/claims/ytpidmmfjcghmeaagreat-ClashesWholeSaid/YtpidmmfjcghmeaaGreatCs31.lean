/- Towards clashesWhole_upto. -/
import Derived.Test.YtpidmmfjcghmeaaGreatCs29
import Derived.Test.YtpidmmfjcghmeaaGreatCs27
set_option maxRecDepth 100000
set_option maxHeartbeats 16000000
set_option linter.all false
namespace Go.Proofs.YtpidmmfjcghmeaaGreat
open Go.RowKit
section
attribute [local go_sem ↓] aI
abbrev Fd:=Bool×Bool×List Int
def cS (F:Nat→Fd) (m:Nat):Bool→List Int→List Int→Option (Bool×List Int)
 | lg,u,[]=>some (lg,u)
 | lg,u,s::r=>if s<0∨(m:Int)≤s∨(F s.toNat).1=false then none else
  if lg||(F s.toNat).2.1||decide (4096<u.length+(F s.toNat).2.2.length) then cS F m true u r else cS F m false (u++(F s.toNat).2.2) r
def jn (F:Nat→Fd) (m:Nat) (l:List Int):Fd:=match cS F m false [] l with
 | none=>(false,false,[])
 | some (true,_)=>(true,true,[])
 | some (false,u)=>(true,false,u)
structure Wo (w:World) (N bw bF m:Nat) (F:Nat→Fd) (V:Nat→Value):Prop where
 box:w.heap[bw]? = some (.cells #[.slice (some ⟨bF,0,none⟩) m m] 179 (0,0))
 row:∃ cur,w.heap[bF]? = some (.cells cur 181 (0,0))∧cur.size=m*3∧∀ s,s<m→cur[s*3]? = some (.bool (F s).1)∧cur[s*3+1]? = some (.bool (F s).2.1)∧cur[s*3+2]? = some (V s)
 its:∀ s,s<m→∃ A c,V s=.slice A (F s).2.2.length c∧aF (fun k=>k<N∧TB 3 w k) w (.slice A (F s).2.2.length c) (F s).2.2∧(F s).2.2.length≤4096
section
variable {w w':World} {N N' bw bF m:Nat} {F:Nat→Fd} {V:Nat→Value}
theorem Wo.tb (h:Wo w N bw bF m F V):TB 181 w bF:=by
 obtain ⟨cur,h1,_⟩:=h.row;exact ⟨cur,h1⟩
theorem Wo.keep (h:Wo w N bw bF m F V) (h1:w'.heap[bw]? = w.heap[bw]?) (h2:w'.heap[bF]? = w.heap[bF]?) (h3:∀ k,k<N→TB 3 w k→w'.heap[k]? = w.heap[k]?):Wo w' N bw bF m F V:=by
 obtain ⟨cur,h4,h5⟩:=h.row;exact ⟨h1.trans h.box,⟨cur,h2.trans h4,h5⟩,fun s hs=>by
  obtain ⟨A,c,h6,h7,h8⟩:=h.its s hs;exact ⟨A,c,h6,aH.keep h7 (fun k hk=>⟨hk.1,hk.2.of_eq (h3 k hk.1 hk.2)⟩) (fun p hp=>gM (h3 _ hp.1 hp.2)) fun _ _ h=>h,h8⟩⟩
theorem Wo.below (h:Wo w N bw bF m F V) (hb:Below w.heap.size w w'):Wo w' N bw bF m F V:=
 h.keep (hb.block _ (gL h.box).1) (hb.block _ h.tb.lt) fun _ _ hk=>hb.block _ hk.lt
theorem Wo.more (h:Wo w N bw bF m F V) (hN:N≤N'):Wo w N' bw bF m F V:=
 ⟨h.box,h.row,fun s hs=>by
  obtain ⟨A,c,h6,h7,h8⟩:=h.its s hs;exact ⟨A,c,h6,aH.keep h7 (fun k hk=>⟨gK hk.1 hN,hk.2⟩) (fun _ _=>rfl) fun _ _ h=>h,h8⟩⟩
theorem Wo.cells (h:Wo w N bw bF m F V) {s:Nat} (hs:s<m):∃ A c,w.cell? ⟨bF,s*3,none⟩=some (.bool (F s).1)∧w.cell? ⟨bF,s*3+1,none⟩=some (.bool (F s).2.1)∧w.cell? ⟨bF,s*3+2,none⟩=some (.slice A (F s).2.2.length c)∧aF (fun k=>k<N∧TB 3 w k) w (.slice A (F s).2.2.length c) (F s).2.2∧(F s).2.2.length≤4096:=by
 obtain ⟨cur,h4,h5,h6⟩:=h.row;obtain ⟨A,c,h7,h8,h9⟩:=h.its s hs;exact ⟨A,c,aA h4 _ _ (h6 s hs).1,aA h4 _ _ (h6 s hs).2.1,aA h4 _ _ (by rw [← h7];exact (h6 s hs).2.2),h8,h9⟩
end
theorem aP {w:World} {b:Nat} {u0 u1 u2:Value} {T:TypeId} {n:Nat} (h:w.heap[b]? = some (.cells #[u0,u1,u2] T (0,0))) (hn:n=b):
  w.cell? ⟨n,0,none⟩=some u0∧w.cell? ⟨n,1,none⟩=some u1∧w.cell? ⟨n,2,none⟩=some u2∧w.frozen? ⟨n,0,none⟩=false∧w.frozen? ⟨n,1,none⟩=false∧w.frozen? ⟨n,2,none⟩=false:=by
 subst hn;exact ⟨aA h 0 _ rfl,aA h 1 _ rfl,aA h 2 _ rfl,by simp [World.frozen?,h],by simp [World.frozen?,h],by simp [World.frozen?,h]⟩
structure Jw (w0 wr:World) (bw bF m:Nat) (F:Nat→Fd) (V:Nat→Value) (lg:Bool) (v:Value) (u:List Int):Prop where
 wo:Wo wr w0.heap.size bw bF m F V
 q4:wr.heap[w0.heap.size]? = some (.cells #[.bool false,.bool false,.slice none 0 0] 181 (0,0))
 q5:wr.heap[w0.heap.size+1]? = some (.cells #[.bool true,.bool lg,v] 181 (0,0))
 row:aG (w0.heap.size+2) 3 1 cF wr v u
 bel:Below w0.heap.size w0 wr
 size:w0.heap.size+2≤wr.heap.size
theorem Jw.below {w0 wr w':World} {bw bF m:Nat} {F:Nat→Fd} {V:Nat→Value} {lg:Bool} {v:Value} {u:List Int} (h:Jw w0 wr bw bF m F V lg v u) (hb:Below wr.heap.size wr w'):Jw w0 w' bw bF m F V lg v u:=
 ⟨h.wo.below hb,(hb.block _ (by have:=h.size;omega)).trans h.q4,(hb.block _ (by have:=h.size;omega)).trans h.q5,h.row.below hb,h.bel.trans (hb.mono h.bel.size),gP h.size hb.size⟩
theorem Jw.setLg {w0 wr:World} {bw bF m:Nat} {F:Nat→Fd} {V:Nat→Value} {lg:Bool} {v:Value} {u:List Int} (h:Jw w0 wr bw bF m F V lg v u) (hB:bw<w0.heap.size∧bF<w0.heap.size) (lg':Bool):Jw w0 (wr.setCell ⟨w0.heap.size+1,1,none⟩ (.bool lg')) bw bF m F V lg' v u:=by
 have hne:∀ k,k≠w0.heap.size+1→(wr.setCell ⟨w0.heap.size+1,1,none⟩ (.bool lg')).heap[k]? = wr.heap[k]? := fun k hk=>gU _ _ _ _ hk;have hT:∀ k,TB 3 wr k→k≠w0.heap.size+1:=fun k hk=>hk.ne (T':=181) ⟨_,h.q5⟩ (by decide);exact ⟨h.wo.keep (hne _ (by omega)) (hne _ (by omega)) fun k _ hk=>hne k (hT k hk),(hne _ (by omega)).trans h.q4,aO h.q5 1 _,aG.keep h.row fun k hk=>hne k (hT k (aG.tb h.row hk).2),h.bel.setCell (p:=⟨w0.heap.size+1,1,none⟩) (Nat.le_succ _) _,by simpa using h.size⟩
theorem Jw.addW {w0 wr w3:World} {bw bF m:Nat} {F:Nat→Fd} {V:Nat→Value} {lg:Bool} {v v':Value} {u u':List Int} (h:Jw w0 wr bw bF m F V lg v u) (hB:bw<w0.heap.size∧bF<w0.heap.size) (hc:Chg (fun k=>v.ownBlock=some k) wr w3) (hr:aG (w0.heap.size+2) 3 1 cF w3 v' u'):
  Jw w0 (w3.setCell ⟨w0.heap.size+1,2,none⟩ v') bw bF m F V lg v' u'∧w3.heap[w0.heap.size+1]? = some (.cells #[.bool true,.bool lg,v] 181 (0,0)):=by
 have hT:∀ {k},v.ownBlock=some k→w0.heap.size+2≤k∧TB 3 wr k:=fun e=>aG.tb h.row e;have hs:=h.size;have h3:∀ k,k<w0.heap.size+2→w3.heap[k]? = wr.heap[k]? := fun k hk=>hc.same k (by omega) fun e=>by have:=(hT e).1;omega
 have h5:=(h3 (w0.heap.size+1) (by omega)).trans h.q5;have hne:∀ k,k≠w0.heap.size+1→(w3.setCell ⟨w0.heap.size+1,2,none⟩ v').heap[k]? = w3.heap[k]? := fun k hk=>gU _ _ _ _ hk;refine ⟨⟨h.wo.keep ((hne _ (by omega)).trans (h3 _ (by omega))) ((hne _ (by omega)).trans (h3 _ (by omega))) fun k hk _=>(hne k (by omega)).trans (h3 k (by omega)),(hne _ (by omega)).trans ((h3 _ (by omega)).trans h.q4),aO h5 2 _,aG.keep hr fun k hk=>hne k ((aG.tb hr hk).2.ne (T':=181) ⟨_,h5⟩ (by decide)),(h.bel.trans (hc.below (fun k e=>by have:=(hT e).1;omega) h.bel.size)).setCell (p:=⟨w0.heap.size+1,2,none⟩) (Nat.le_succ _) _,by have:=hc.size;simp;omega⟩,h5⟩
def dP (F:Nat→Fd) (m:Nat) (l:List Int) (w:World) (e:Ending) (w':World):Prop:=
 (∃ A c,e=.returned (.agg #[.bool (jn F m l).1,.bool (jn F m l).2.1,.slice A (jn F m l).2.2.length c])∧aF (fun k=>w.heap.size≤k∧TB 3 w' k) w' (.slice A (jn F m l).2.2.length c) (jn F m l).2.2∧aG w.heap.size 3 1 cF w' (.slice A (jn F m l).2.2.length c) (jn F m l).2.2)∧Below w.heap.size w w'
theorem mA {F:Nat→Fd} {m:Nat} {l:List Int} {w w':World} (h:jn F m l=(false,false,[])) (hb:Below w.heap.size w w'):dP F m l w (.returned (.agg #[.bool false,.bool false,.slice none 0 0])) w':=by
 unfold dP;rw [h];exact ⟨⟨none,0,rfl,⟨none,0,rfl,gO _,gX _,fun h=>absurd h (Nat.lt_irrefl 0)⟩,aG.nil _ _ _ _ _⟩,hb⟩
theorem B7 (G:Nat→Prop) (w:World) (bw bF m:Nat) (F:Nat→Fd) (V:Nat→Value) (Al:Option Addr) (cl:Nat) (l:List Int) (h:Wo w w.heap.size bw bF m F V) (hG:∀ k,G k→k<w.heap.size) (hl:aF G w (.slice Al l.length cl) l):
  Calls Tryz.prog 105 #[.pointer (some ⟨bw,0,none⟩),.slice Al l.length cl] w fun e w'=>dP F m l w e w':=by
 have q1:=aC w (.cells #[.bool false,.bool false,.slice none 0 0] 181);have hb1:Below w.heap.size w (w.alloc (.cells #[.bool false,.bool false,.slice none 0 0] 181)):=(gR _ _).alloc (gO _) _;have hz1:(w.alloc (.cells #[.bool false,.bool false,.slice none 0 0] 181)).heap.size=w.heap.size+1:=by simp
 generalize hW1:w.alloc (.cells #[.bool false,.bool false,.slice none 0 0] 181)=w1 at *;have q2:=aC w1 (.cells #[.bool true,.bool false,.slice none 0 0] 181);have hb2:Below w1.heap.size w1 (w1.alloc (.cells #[.bool true,.bool false,.slice none 0 0] 181)):=(gR _ _).alloc (gO _) _;have hz2:(w1.alloc (.cells #[.bool true,.bool false,.slice none 0 0] 181)).heap.size=w1.heap.size+1:=by simp
 generalize hW2:w1.alloc (.cells #[.bool true,.bool false,.slice none 0 0] 181)=w2 at *;have hll:=(aH.len hl).2;have hwl:bw<w.heap.size∧bF<w.heap.size:=⟨(gL h.box).1,h.tb.lt⟩;have q2':w2.heap[w.heap.size+1]? = some (.cells #[.bool true,.bool false,.slice none 0 0] 181 (0,0)):=by rw [← hz1];exact q2
 obtain ⟨r0,r1,r2,f0,f1,f2⟩:=aP q2' rfl;have hs1:w2.setCell ⟨w.heap.size+1,1,none⟩ (.bool false)=w2:=cC q2' rfl;have hs2:w2.setCell ⟨w.heap.size+1,2,none⟩ (.slice none 0 0)=w2:=cC q2' rfl;have HJ:=Ha (show Jw w w2 bw bF m F V false (.slice none 0 0) [] from
  ⟨(h.below hb1).below hb2,(hb2.block _ (by omega)).trans q1,q2',aG.nil _ _ _ _ _,hb1.trans (hb2.mono hb1.size),by omega⟩)
 obtain ⟨HL,HG,HWL,HN⟩:=Zh4 hl hG hwl (show w.heap.size<w1.heap.size from by omega);clear q1 hb1 q2 q2' hb2 hz2 hwl hG hl h;go_enter Tryz.func105,Tryz.ntmps105;go_wp2_with fail
 go_loopw [12] (fun iv wr=>∃ (i:Nat) (lg:Bool) (v:Value) (u:List Int),i≤l.length∧iv=.int .i64 i∧Jw w wr bw bF m F V lg v u∧u.length≤4096∧cS F m false [] l=cS F m lg u (l.drop i)) (fun iv _=>l.length-(intOf iv).toNat)
 case atStart=>exact ⟨0,false,.slice none 0 0,[],gX _,rfl,HJ.out,by simp,rfl⟩
 case round=>
  obtain ⟨i,lg,v,u,hi,rfl,hj,hu,hg⟩:=hrel;have HJ2:=Ha hj;have HGO:=Ha hg;clear hj hg HJ r0 r1 r2 f0 f1 f2 hs1 hs2;obtain ⟨q0,q1,q2,e0,e1,e2⟩:=aP HJ2.out.q5 rfl;by_cases hil:i<l.length
  ·obtain ⟨bl,ol,rfl,z0⟩:=(aF.below HG.out HJ2.out.bel HL.out).get hil;obtain ⟨x,hx⟩:∃ x,x=l[i]:=⟨_,rfl⟩;rw [← hx] at z0;have HSTEP:=Ha (show cS F m false [] l=cS F m lg u (x::l.drop (i+1)) from by rw [HGO.out,List.drop_eq_getElem_cons hil,← hx]);have yb:=aA HJ2.out.wo.box 0 _ rfl;have q4:=HJ2.out.q4;obtain ⟨p0,p1,p2,g0,g1,g2⟩:=aP q4 rfl;have t0:wr.setCell ⟨w.heap.size,0,none⟩ (.bool false)=wr:=cC q4 rfl;have t1:wr.setCell ⟨w.heap.size,1,none⟩ (.bool false)=wr:=cC q4 rfl;have t2:wr.setCell ⟨w.heap.size,2,none⟩ (.slice none 0 0)=wr:=cC q4 rfl;clear hx HGO q4;by_cases hneg:x<0
   ·have HE:=Ha (show jn F m l=(false,false,[]) from by unfold jn;rw [HSTEP.out,cS,if_pos (.inl hneg)]);clear HSTEP;go_wp2_with fail;refine bodyPost_ret (v:=.agg #[.bool false,.bool false,.slice none 0 0]) (by simp [results,Tryz.results105,go_sem,p0,p1,p2]) rfl ?_;exact mA HE.out HJ2.out.bel
   obtain ⟨s,hs⟩:∃ s:Nat,x=(s:Int):=⟨x.toNat,by omega⟩;subst hs;by_cases hsm:s<m
   ·obtain ⟨A,c,k0,k1,k2,hat,hww⟩:=HJ2.out.wo.cells hsm;rcases hF:F s with ⟨okb,lgb,ww⟩
    rw [hF] at k0 k1 k2 hat hww;simp only at k0 k1 k2 hat hww;cases okb
    ·have HE:=Ha (show jn F m l=(false,false,[]) from by unfold jn;rw [HSTEP.out,cS,if_pos (.inr (.inr (by rw [yB,hF])))]);clear HSTEP hneg hF hat hww k1 k2;go_wp2_with fail;refine bodyPost_ret (v:=.agg #[.bool false,.bool false,.slice none 0 0]) (by simp [results,Tryz.results105,go_sem,p0,p1,p2]) rfl ?_;exact mA HE.out HJ2.out.bel
    have HST2:=Ha (show cS F m false [] l=if lg||lgb||decide (4096<u.length+ww.length) then cS F m true u (l.drop (i+1)) else cS F m false (u++ww) (l.drop (i+1)) from by
     rw [HSTEP.out,cS,if_neg (by rw [yB,hF];simp;omega)];simp only [yB,hF])
    obtain ⟨Av,cv,rfl,_⟩:=aG.shape HJ2.out.row;have hbj:Below wr.heap.size wr (wr.alloc (.cells #[.bool true,.bool lgb,.slice A ww.length c] 181)):=(gR _ _).alloc (gO _) _;have q8:=aC wr (.cells #[.bool true,.bool lgb,.slice A ww.length c] 181);generalize hWJ:wr.alloc (.cells #[.bool true,.bool lgb,.slice A ww.length c] 181)=wj at *;have hjj:=HJ2.out.below hbj;have hatj:aF (fun k=>k<w.heap.size∧TB 3 wj k) wj (.slice A ww.length c) ww:=aH.keep hat (fun k hk=>⟨hk.1,hk.2.of_eq (hbj.block _ hk.2.lt)⟩) (fun p hp=>gM (hbj.block _ hp.2.lt)) fun _ _ h=>h;obtain ⟨a0,a1,a2,b0,b1,b2⟩:=aP q8 rfl;obtain ⟨m0,m1,m2,n0,n1,n2⟩:=aP hjj.q5 rfl;have hsum:IntKind.i64.wrap ((u.length:Int)+(ww.length:Int))=((u.length+ww.length:Nat):Int):=by rw [IntWalk.i64_in _ (by omega)];omega
    obtain ⟨SM,hSM⟩:∃ SM,SM=u.length+ww.length:=⟨_,rfl⟩;rw [← hSM] at hsum;obtain ⟨HSM,HQ8,HJJ,HAT⟩:=Zh4 hSM q8 hjj hatj;rw [← hSM] at HST2;have hszr:w.heap.size+2≤wr.heap.size:=HJ2.out.size;clear hF HSTEP hat hSM q8 hjj hatj hbj p0 p1 p2 g0 g1 g2 t0 t1 t2;have key:lg=true∨(lg=false∧lgb=true)∨(lg=false∧lgb=false∧4096<SM)∨(lg=false∧lgb=false∧¬4096<SM):=by
     cases lg <;> cases lgb <;> simp <;> omega
    rcases key with rfl | ⟨rfl,rfl⟩ | ⟨rfl,rfl,hgt⟩ | ⟨rfl,rfl,hgt⟩
    ·skip
     have HJK:=Ha (HJJ.out.setLg HWL.out true);have HST3:=Ha (show cS F m false [] l=cS F m true u (l.drop (i+1)) from by rw [HST2.out];simp);have c1:=aA HJK.out.q5 1 _ rfl;generalize hWK:wj.setCell ⟨w.heap.size+1,1,none⟩ (.bool true)=wk at *;clear HST2;go_wp2_with fail
     go_roundw
     case rel=>exact ⟨i+1,true,.slice Av u.length cv,u,hil,by go_num,HJK.out,hu,HST3.out⟩
     case measure=>simp only [intOf];omega
    ·skip
     have HJK:=Ha (HJJ.out.setLg HWL.out true);have HST3:=Ha (show cS F m false [] l=cS F m true u (l.drop (i+1)) from by rw [HST2.out];simp);have c1:=aA HJK.out.q5 1 _ rfl;generalize hWK:wj.setCell ⟨w.heap.size+1,1,none⟩ (.bool true)=wk at *;clear HST2;go_wp2_with fail
     go_roundw
     case rel=>exact ⟨i+1,true,.slice Av u.length cv,u,hil,by go_num,HJK.out,hu,HST3.out⟩
     case measure=>simp only [intOf];omega
    ·have hgi:(4096:Int)<(SM:Int):=by omega
     have HJK:=Ha (HJJ.out.setLg HWL.out true);have HST3:=Ha (show cS F m false [] l=cS F m true u (l.drop (i+1)) from by rw [HST2.out];simp [hgt]);have c1:=aA HJK.out.q5 1 _ rfl;generalize hWK:wj.setCell ⟨w.heap.size+1,1,none⟩ (.bool true)=wk at *;clear HST2;go_wp2_with fail
     go_roundw
     case rel=>exact ⟨i+1,true,.slice Av u.length cv,u,hil,by go_num,HJK.out,hu,HST3.out⟩
     case measure=>simp only [intOf];omega
    ·have hgi:¬(4096:Int)<(SM:Int):=by omega
     have hjk:=HJJ.out.setLg HWL.out false;have HST3:=Ha (show cS F m false [] l=cS F m false (u++ww) (l.drop (i+1)) from by rw [HST2.out];simp [hgt]);have hne:∀ k,k≠w.heap.size+1→(wj.setCell ⟨w.heap.size+1,1,none⟩ (.bool false)).heap[k]? = wj.heap[k]? := fun k hk=>gU _ _ _ _ hk;have q8k:=(hne wr.heap.size (by omega)).trans HQ8.out;have hak:aF (fun k=>k<w.heap.size) (wj.setCell ⟨w.heap.size+1,1,none⟩ (.bool false)) (.slice A ww.length c) ww:=aH.keep HAT.out (fun _ hk=>hk.1) (fun p hp=>gM (hne _ (by have:=hp.1;omega))) fun _ _ h=>h;generalize hWK:wj.setCell ⟨w.heap.size+1,1,none⟩ (.bool false)=wk at *;obtain ⟨v',w3,hrun,hr3,hc3,_⟩:=aG.addC 26 Tryz.underlying26 cB rfl (by decide) cF.one 26 hjk.row hak (by omega) (by unfold maxLen;omega) hjk.size;obtain ⟨hj3,q53⟩:=hjk.addW HWL.out hc3 hr3;obtain ⟨d0,d1,d2,_,_,_⟩:=aP hjk.q5 rfl;obtain ⟨_,_,d8,_,_,_⟩:=aP q8k rfl;obtain ⟨_,_,d23,_,_,d53⟩:=aP q53 rfl;obtain ⟨A3,c3,rfl,_⟩:=aG.shape hr3;have HJ3:=Ha hj3;have hul:(u++ww).length≤4096:=by rw [gI,← HSM.out];omega
     generalize hUW:u++ww=uw at *;clear HST2 hjk hne q8k hak hr3 hc3 hj3 q53 hUW;go_wp2_with fail
     go_roundw
     case rel=>exact ⟨i+1,false,.slice A3 uw.length c3,uw,hil,by go_num,HJ3.out,hul,HST3.out⟩
     case measure=>simp only [intOf];omega
   ·have HE:=Ha (show jn F m l=(false,false,[]) from by unfold jn;rw [HSTEP.out,cS,if_pos (.inr (.inl (by omega)))]);clear HSTEP hneg;go_wp2_with fail;refine bodyPost_ret (v:=.agg #[.bool false,.bool false,.slice none 0 0]) (by simp [results,Tryz.results105,go_sem,p0,p1,p2]) rfl ?_;exact mA HE.out HJ2.out.bel
  ·have HE:=Ha (show cS F m false [] l=some (lg,u) from by rw [HGO.out,List.drop_eq_nil_of_le (by omega)];rfl);cases lg
   ·have HJN:=Ha (show jn F m l=(true,false,u) from by unfold jn;rw [HE.out]);obtain ⟨Av,cv,rfl,_⟩:=aG.shape HJ2.out.row;have q4x:=HJ2.out.q4;have hbx:=HJ2.out.bel;have h0:(wr.setCell ⟨w.heap.size,0,none⟩ (.bool true)).heap[w.heap.size]? = some (.cells #[.bool true,.bool false,.slice none 0 0] 181 (0,0)):=aO q4x 0 _;have hb0:Below w.heap.size w (wr.setCell ⟨w.heap.size,0,none⟩ (.bool true)):=hbx.setCell (p:=⟨w.heap.size,0,none⟩) (gO _) _;have hn0:∀ k,k≠w.heap.size→(wr.setCell ⟨w.heap.size,0,none⟩ (.bool true)).heap[k]? = wr.heap[k]? := fun k hk=>gU _ _ _ _ hk;generalize hX0:wr.setCell ⟨w.heap.size,0,none⟩ (.bool true)=x0 at *;have h1:(x0.setCell ⟨w.heap.size,1,none⟩ (.bool false)).heap[w.heap.size]? = some (.cells #[.bool true,.bool false,.slice none 0 0] 181 (0,0)):=aO h0 1 _;have hb1:Below w.heap.size w (x0.setCell ⟨w.heap.size,1,none⟩ (.bool false)):=hb0.setCell (p:=⟨w.heap.size,1,none⟩) (gO _) _;have hn1:∀ k,k≠w.heap.size→(x0.setCell ⟨w.heap.size,1,none⟩ (.bool false)).heap[k]? = wr.heap[k]? := fun k hk=>(gU _ _ _ _ hk).trans (hn0 k hk);generalize hX1:x0.setCell ⟨w.heap.size,1,none⟩ (.bool false)=x1 at *;have h2:(x1.setCell ⟨w.heap.size,2,none⟩ (.slice Av u.length cv)).heap[w.heap.size]? = some (.cells #[.bool true,.bool false,(.slice Av u.length cv)] 181 (0,0)):=aO h1 2 _;have hb2:Below w.heap.size w (x1.setCell ⟨w.heap.size,2,none⟩ (.slice Av u.length cv)):=hb1.setCell (p:=⟨w.heap.size,2,none⟩) (gO _) _;have hn2:∀ k,k≠w.heap.size→(x1.setCell ⟨w.heap.size,2,none⟩ (.slice Av u.length cv)).heap[k]? = wr.heap[k]? := fun k hk=>(gU _ _ _ _ hk).trans (hn1 k hk);generalize hX2:x1.setCell ⟨w.heap.size,2,none⟩ (.slice Av u.length cv)=x2 at *;obtain ⟨a0,a1,a2,b0,b1,b2⟩:=aP q4x rfl;obtain ⟨a00,a01,a02,b00,b01,b02⟩:=aP h0 rfl;obtain ⟨a10,a11,a12,b10,b11,b12⟩:=aP h1 rfl;obtain ⟨a20,a21,a22,_,_,_⟩:=aP h2 rfl;have HB2:=Ha hb2;have HN2:=Ha hn2;clear h0 h1 h2 hb0 hb1 hb2 hn0 hn1 hn2 q4x hbx;go_wp2_with fail;refine bodyPost_ret (v:=.agg #[.bool true,.bool false,.slice Av u.length cv]) (by simp [results,Tryz.results105,go_sem,a20,a21,a22]) rfl ?_
    skip
    unfold dP;rw [HJN.out];have hr:=aG.keep HJ2.out.row (w':=x2) fun k hk=>HN2.out k (by have:=(aG.tb HJ2.out.row hk).1;omega);exact ⟨⟨Av,cv,rfl,aG.look hr fun k hk=>⟨by have:=(aG.tb hr hk).1;omega,(aG.tb hr hk).2⟩,aG.lower hr (by omega)⟩,HB2.out⟩
   ·have HJN:=Ha (show jn F m l=(true,true,[]) from by unfold jn;rw [HE.out]);have q4y:=HJ2.out.q4;have q5y:(wr.setCell ⟨w.heap.size+1,2,none⟩ (.slice none 0 0)).heap[w.heap.size+1]? = some (.cells #[.bool true,.bool true,.slice none 0 0] 181 (0,0)):=aO HJ2.out.q5 2 _;have q4x:(wr.setCell ⟨w.heap.size+1,2,none⟩ (.slice none 0 0)).heap[w.heap.size]? = _:=(gU _ _ _ _ (by show w.heap.size≠w.heap.size+1;omega)).trans q4y;have hbx:Below w.heap.size w (wr.setCell ⟨w.heap.size+1,2,none⟩ (.slice none 0 0)):=HJ2.out.bel.setCell (p:=⟨w.heap.size+1,2,none⟩) (Nat.le_succ _) _;generalize hWK:wr.setCell ⟨w.heap.size+1,2,none⟩ (.slice none 0 0)=wk at *;obtain ⟨m0,m1,m2,_,_,_⟩:=aP q5y rfl;clear q4y q5y;have h0:(wk.setCell ⟨w.heap.size,0,none⟩ (.bool true)).heap[w.heap.size]? = some (.cells #[.bool true,.bool false,.slice none 0 0] 181 (0,0)):=aO q4x 0 _;have hb0:Below w.heap.size w (wk.setCell ⟨w.heap.size,0,none⟩ (.bool true)):=hbx.setCell (p:=⟨w.heap.size,0,none⟩) (gO _) _;have hn0:∀ k,k≠w.heap.size→(wk.setCell ⟨w.heap.size,0,none⟩ (.bool true)).heap[k]? = wk.heap[k]? := fun k hk=>gU _ _ _ _ hk;generalize hX0:wk.setCell ⟨w.heap.size,0,none⟩ (.bool true)=x0 at *;have h1:(x0.setCell ⟨w.heap.size,1,none⟩ (.bool true)).heap[w.heap.size]? = some (.cells #[.bool true,.bool true,.slice none 0 0] 181 (0,0)):=aO h0 1 _;have hb1:Below w.heap.size w (x0.setCell ⟨w.heap.size,1,none⟩ (.bool true)):=hb0.setCell (p:=⟨w.heap.size,1,none⟩) (gO _) _;have hn1:∀ k,k≠w.heap.size→(x0.setCell ⟨w.heap.size,1,none⟩ (.bool true)).heap[k]? = wk.heap[k]? := fun k hk=>(gU _ _ _ _ hk).trans (hn0 k hk);generalize hX1:x0.setCell ⟨w.heap.size,1,none⟩ (.bool true)=x1 at *;have h2:(x1.setCell ⟨w.heap.size,2,none⟩ (.slice none 0 0)).heap[w.heap.size]? = some (.cells #[.bool true,.bool true,(.slice none 0 0)] 181 (0,0)):=aO h1 2 _;have hb2:Below w.heap.size w (x1.setCell ⟨w.heap.size,2,none⟩ (.slice none 0 0)):=hb1.setCell (p:=⟨w.heap.size,2,none⟩) (gO _) _;have hn2:∀ k,k≠w.heap.size→(x1.setCell ⟨w.heap.size,2,none⟩ (.slice none 0 0)).heap[k]? = wk.heap[k]? := fun k hk=>(gU _ _ _ _ hk).trans (hn1 k hk);generalize hX2:x1.setCell ⟨w.heap.size,2,none⟩ (.slice none 0 0)=x2 at *;obtain ⟨a0,a1,a2,b0,b1,b2⟩:=aP q4x rfl;obtain ⟨a00,a01,a02,b00,b01,b02⟩:=aP h0 rfl;obtain ⟨a10,a11,a12,b10,b11,b12⟩:=aP h1 rfl;obtain ⟨a20,a21,a22,_,_,_⟩:=aP h2 rfl;have HB2:=Ha hb2;have HN2:=Ha hn2;clear h0 h1 h2 hb0 hb1 hb2 hn0 hn1 hn2 q4x hbx;have hs2:x1.setCell ⟨w.heap.size,2,none⟩ (.slice none 0 0)=x2:=hX2;go_wp2_with fail;refine bodyPost_ret (v:=.agg #[.bool true,.bool true,.slice none 0 0]) (by simp [results,Tryz.results105,go_sem,a20,a21,a22]) rfl ?_
    skip
    unfold dP;rw [HJN.out];exact ⟨⟨none,0,rfl,⟨none,0,rfl,gO _,gX _,fun h=>absurd h (Nat.lt_irrefl 0)⟩,aG.nil _ _ _ _ _⟩,HB2.out⟩
end
def shlt (a b:List Int):Bool:=if a.length=b.length then decide (bZ a b<0) else decide (a.length<b.length)
def zS (x y:Fd):Bool:=if x.1=false then false else if y.1=false then true else if x.2.1||y.2.1 then y.2.1 && !x.2.1 else shlt x.2.2 y.2.2
theorem F3 (G:Nat→Prop) (w:World) (A A2:Option Addr) (c c2:Nat) (a b:List Int) (ha:aF G w (.slice A a.length c) a) (hb:aF G w (.slice A2 b.length c2) b):
  Calls Tryz.prog 166 #[.slice A a.length c,.slice A2 b.length c2] w fun e w'=>e=.returned (.bool (shlt a b))∧w'=w:=by
 have HL:=Ha (GI G G w A A2 c c2 a b ha hb);have hla:=(aH.len ha).2;have hlb:=(aH.len hb).2;clear ha hb;go_enter Tryz.func166,Tryz.ntmps166;by_cases h:a.length=b.length
 ·have hi:(a.length:Int)=(b.length:Int):=by omega
  have HS:=Ha (show shlt a b=decide (bZ a b<0) from by unfold shlt;rw [if_pos h]);obtain ⟨cc,hcc⟩:∃ cc,cc=bZ a b:=⟨_,rfl⟩;rw [← hcc] at HL HS;generalize a.length=la at *;subst h;clear hcc;go_wp2_with fail;refine (HL.out).mono ?_;rintro e w1 ⟨rfl,rfl⟩;go_wp2_with fail;go_ret;exact ⟨by rw [HS.out];rfl,rfl⟩
 ·have hi:¬(a.length:Int)=(b.length:Int):=by omega
  have HS:=Ha (show shlt a b=decide (a.length<b.length) from by unfold shlt;rw [if_neg h]);clear h;go_wp2_with fail;go_ret;exact ⟨by rw [HS.out];rfl,rfl⟩
theorem zT (G:Nat→Prop) (w:World) (x y:Fd) (Ax Ay:Option Addr) (cx cy:Nat) (hG:∀ k,G k→k<w.heap.size) (hx:aF G w (.slice Ax x.2.2.length cx) x.2.2) (hy:aF G w (.slice Ay y.2.2.length cy) y.2.2):
  Calls Tryz.prog 106 #[.agg #[.func (.func 166) #[] #[]],.agg #[.bool x.1,.bool x.2.1,.slice Ax x.2.2.length cx],.agg #[.bool y.1,.bool y.2.1,.slice Ay y.2.2.length cy]] w fun e w'=>e=.returned (.bool (zS x y))∧Below w.heap.size w w':=by
 obtain ⟨xo,xl,xw⟩:=x;obtain ⟨yo,yl,yw⟩:=y;simp only at hx hy;have q1:=aC w (.cells #[.func (.func 166) #[] #[]] 184);have hb1:Below w.heap.size w (w.alloc (.cells #[.func (.func 166) #[] #[]] 184)):=(gR _ _).alloc (gO _) _;have hz1:(w.alloc (.cells #[.func (.func 166) #[] #[]] 184)).heap.size=w.heap.size+1:=by simp
 generalize hW1:w.alloc (.cells #[.func (.func 166) #[] #[]] 184)=w1 at *;have q2:=aC w1 (.cells #[.bool xo,.bool xl,.slice Ax xw.length cx] 181);have hb2:Below w1.heap.size w1 (w1.alloc (.cells #[.bool xo,.bool xl,.slice Ax xw.length cx] 181)):=(gR _ _).alloc (gO _) _;have hz2:(w1.alloc (.cells #[.bool xo,.bool xl,.slice Ax xw.length cx] 181)).heap.size=w1.heap.size+1:=by simp
 generalize hW2:w1.alloc (.cells #[.bool xo,.bool xl,.slice Ax xw.length cx] 181)=w2 at *;have q3:=aC w2 (.cells #[.bool yo,.bool yl,.slice Ay yw.length cy] 181);have hb3:Below w2.heap.size w2 (w2.alloc (.cells #[.bool yo,.bool yl,.slice Ay yw.length cy] 181)):=(gR _ _).alloc (gO _) _;generalize hW3:w2.alloc (.cells #[.bool yo,.bool yl,.slice Ay yw.length cy] 181)=w3 at *;have hb23:Below w1.heap.size w1 w3:=hb2.trans (hb3.mono hb2.size);have hb13:Below w.heap.size w w3:=hb1.trans (hb23.mono hb1.size);have y0:=aA ((hb23.block w.heap.size (by omega)).trans q1) 0 _ rfl;obtain ⟨x0,x1,x2,_,_,_⟩:=aP ((hb3.block w1.heap.size (by omega)).trans q2) rfl;obtain ⟨z0,z1,z2,_,_,_⟩:=aP q3 rfl;have HS:=Ha (F3 G w3 Ax Ay cx cy xw yw (aF.below hG hb13 hx) (aF.below hG hb13 hy));have HB:=Ha hb13;rw [hz1] at hz2 x0 x1 x2;rw [hz2] at z0 z1 z2;clear q1 q2 q3 hb1 hb2 hb3 hb23 hb13 hx hy hG;go_enter Tryz.func106,Tryz.ntmps106;cases xo
 ·go_wp2_with fail;go_ret;exact ⟨rfl,HB.out⟩
 cases yo
 ·go_wp2_with fail;go_ret;exact ⟨rfl,HB.out⟩
 cases xl
 ·cases yl
  ·have HE:=Ha (show zS (true,false,xw) (true,false,yw)=shlt xw yw from rfl);generalize shlt xw yw=bb at *;go_wp2_with fail;refine (HS.out).mono ?_;rintro e w4 ⟨rfl,rfl⟩;go_wp2_with fail;go_ret;exact ⟨by rw [HE.out];rfl,HB.out⟩
  ·go_wp2_with fail;go_ret;exact ⟨rfl,HB.out⟩
 ·cases yl
  ·go_wp2_with fail;go_ret;exact ⟨rfl,HB.out⟩
  ·go_wp2_with fail;go_ret;exact ⟨rfl,HB.out⟩
theorem tW (w:World):
  Calls Tryz.prog 104 #[] w fun e w'=>e=.returned (.agg #[.func (.func 166) #[] #[]])∧Below w.heap.size w w':=by
 have q1:=aC w (.cells #[.func (.func 166) #[] #[]] 184);have hb1:Below w.heap.size w (w.alloc (.cells #[.func (.func 166) #[] #[]] 184)):=(gR _ _).alloc (gO _) _;generalize hW1:w.alloc (.cells #[.func (.func 166) #[] #[]] 184)=w1 at *;have y0:=aA q1 0 _ rfl;have HB:=Ha hb1;clear q1 hb1;go_enter Tryz.func104,Tryz.ntmps104;go_wp2_with fail;refine bodyPost_ret (v:=.agg #[.func (.func 166) #[] #[]]) (by simp [results,Tryz.results104,go_sem,y0]) rfl ?_;exact ⟨rfl,HB.out⟩
def qM (F:Nat→Fd) (m:Nat) (l:List Int) (w:World) (e:Ending) (w':World):Prop:=
 (∃ A c,e=.returned (.tuple #[.slice A (jn F m l).2.2.length c,.bool ((jn F m l).1 && !(jn F m l).2.1)])∧aF (fun k=>w.heap.size≤k∧TB 3 w' k) w' (.slice A (jn F m l).2.2.length c) (jn F m l).2.2∧aG w.heap.size 3 1 cF w' (.slice A (jn F m l).2.2.length c) (jn F m l).2.2)∧Below w.heap.size w w'
theorem GB (G:Nat→Prop) (w:World) (bw bF m:Nat) (F:Nat→Fd) (V:Nat→Value) (Al:Option Addr) (cl:Nat) (l:List Int) (h:Wo w w.heap.size bw bF m F V) (hG:∀ k,G k→k<w.heap.size) (hl:aF G w (.slice Al l.length cl) l):
  Calls Tryz.prog 52 #[.pointer (some ⟨bw,0,none⟩),.slice Al l.length cl] w fun e w'=>qM F m l w e w':=by
 have HJ:=B7 G w bw bF m F V Al cl l h hG hl;unfold dP at HJ;unfold qM;generalize jn F m l=R at *;obtain ⟨ok,lg,u⟩:=R;simp only at HJ ⊢;have HJ:=Ha HJ;clear h hG hl;go_enter Tryz.func52,Tryz.ntmps52;go_wp2_with fail
 with_reducible refine Calls.mono HJ.out ?_
 rintro e w1 ⟨⟨A,c,rfl,hi,hnr⟩,hb⟩;have q1:=aC w1 (.cells #[.bool ok,.bool lg,.slice A u.length c] 181);have hb1:Below w1.heap.size w1 (w1.alloc (.cells #[.bool ok,.bool lg,.slice A u.length c] 181)):=(gR _ _).alloc (gO _) _;generalize hW1:w1.alloc (.cells #[.bool ok,.bool lg,.slice A u.length c] 181)=w2 at *;obtain ⟨x0,x1,x2,_,_,_⟩:=aP q1 rfl;have c0:w2.drew.cell? _=_:=x0;have c1:w2.drew.cell? _=_:=x1;have c2:w2.drew.cell? _=_:=x2;have HF:=Ha (show aF (fun k=>w.heap.size≤k∧TB 3 w2.drew k) w2.drew (.slice A u.length c) u∧Below w.heap.size w w2.drew∧aG w.heap.size 3 1 cF w2.drew (.slice A u.length c) u from
  ⟨aH.keep hi (fun k hk=>⟨hk.1,hk.2.of_eq (hb1.block _ hk.2.lt)⟩) (fun p hp=>gM (hb1.block _ hp.2.lt)) fun _ _ h=>h,(hb.trans (hb1.mono hb.size)).drew,aG.below (aG.below hnr hb1) (gR _ _).drew⟩)
 clear hi hnr hb hb1 q1 HJ;cases ok
 ·go_wp2_with fail
  go_region
  go_wp2_with fail;refine bodyPost_ret (v:=.tuple #[.slice A u.length c,.bool false]) (by simp [results,Tryz.results52,go_sem]) rfl ?_;exact ⟨⟨A,c,rfl,HF.out.1,HF.out.2.2⟩,HF.out.2.1⟩
 cases lg
 ·go_wp2_with fail
  go_region
  go_wp2_with fail;refine bodyPost_ret (v:=.tuple #[.slice A u.length c,.bool true]) (by simp [results,Tryz.results52,go_sem]) rfl ?_;exact ⟨⟨A,c,rfl,HF.out.1,HF.out.2.2⟩,HF.out.2.1⟩
 ·go_wp2_with fail
  go_region
  go_wp2_with fail;refine bodyPost_ret (v:=.tuple #[.slice A u.length c,.bool false]) (by simp [results,Tryz.results52,go_sem]) rfl ?_;exact ⟨⟨A,c,rfl,HF.out.1,HF.out.2.2⟩,HF.out.2.1⟩
structure FOk (g:Gm) (m:Nat) (F:Nat→Fd):Prop where
 der:∀ s,1≤s→s<m→(F s).1=true→(F s).2.1=false→g.Der [(s:Int)] (F s).2.2
 zero:(F 0).2.2=[]
 dig:∀ s,s<m→∀ t∈(F s).2.2,0≤t∧t<(m:Int)
 len:∀ s,s<m→(F s).2.2.length≤4096
theorem l8 {g:Gm} {m:Nat} {F:Nat→Fd} (h:FOk g m F):∀ (l:List Int) (lg:Bool) (u0 u:List Int),(∀ s∈l,1≤s∧s<(m:Int))→cS F m lg u0 l=some (false,u)→∃ v,u=u0++v∧lg=false∧g.Der l v
 | [],lg,u0,u,_,e=>by
  unfold cS at e
  injection e with e
  injection e with e1 e2
  exact ⟨[],by rw [List.append_nil,e2],e1,.nil⟩
 | s::r,lg,u0,u,hl,e=>by
  have hs:=hl s (yH ..);have hr:∀ t∈r,1≤t∧t<(m:Int):=fun t ht=>hl t (yI _ ht);unfold cS at e
  split at e
  ·cases e
  ·rename_i hn
   split at e
   ·obtain ⟨_,_,h2,_⟩:=l8 h r true u0 u hr e;cases h2
   ·rename_i hn2;obtain ⟨v,h1,_,h3⟩:=l8 h r false (u0++(F s.toNat).2.2) u hr e;rw [Bool.or_eq_true,Bool.or_eq_true,not_or,not_or,Bool.not_eq_true,Bool.not_eq_true] at hn2;have hok:(F s.toNat).1=true:=by
     cases h4:(F s.toNat).1
     ·exact absurd (.inr (.inr h4)) hn
     ·rfl
    have hd:=h.der s.toNat (by omega) (by omega) hok hn2.1.2;rw [show ((s.toNat:Nat):Int)=s by omega] at hd;exact ⟨(F s.toNat).2.2++v,by rw [h1,List.append_assoc],hn2.1.1,hd.app h3⟩
theorem B5 {g:Gm} {m:Nat} {F:Nat→Fd} (h:FOk g m F) {l:List Int} (hl:∀ s∈l,1≤s∧s<(m:Int)) (h1:(jn F m l).1=true) (h2:(jn F m l).2.1=false):g.Der l (jn F m l).2.2:=by
 unfold jn at h1 h2 ⊢
 split at h1
 ·cases h1
 ·rename_i e;rw [e] at h2;cases h2
 ·rename_i u e;obtain ⟨v,h3,_,h4⟩:=l8 h l false [] u hl e;simp only;rw [h3,List.nil_append];exact h4
theorem l9 {m:Nat} {F:Nat→Fd} (hd:∀ s,s<m→∀ t∈(F s).2.2,0≤t∧t<(m:Int)):∀ (l:List Int) (lg b:Bool) (u0 u:List Int),(∀ t∈u0,0≤t∧t<(m:Int))→u0.length≤4096→cS F m lg u0 l=some (b,u)→(∀ t∈u,0≤t∧t<(m:Int))∧u.length≤4096
 | [],lg,b,u0,u,h0,hlen,e=>by
  unfold cS at e
  injection e with e
  injection e with e1 e2
  subst e2;exact ⟨h0,hlen⟩
 | s::r,lg,b,u0,u,h0,hlen,e=>by
  unfold cS at e
  split at e
  ·cases e
  ·rename_i hn
   split at e
   ·exact l9 hd r true b u0 u h0 hlen e
   ·rename_i hn2;rw [Bool.or_eq_true,not_or,decide_eq_true_iff] at hn2;refine l9 hd r false b _ u (fun t ht=>?_) (by rw [gI];omega) e;rcases yC ht with ht | ht
    ·exact h0 t ht
    ·exact hd s.toNat (by omega) t ht
theorem B6 {m:Nat} {F:Nat→Fd} (hd:∀ s,s<m→∀ t∈(F s).2.2,0≤t∧t<(m:Int)) (l:List Int):(∀ t∈(jn F m l).2.2,0≤t∧t<(m:Int))∧(jn F m l).2.2.length≤4096:=by
 unfold jn
 split
 ·simp
 ·simp
 ·rename_i u e;exact l9 hd l false false [] u (by simp) (by simp) e
def iP (M:Nat):Nat→List Int→Nat
 | a,[]=>a
 | a,d::l=>iP M (a*M+d.toNat) l
theorem cX (M:Nat):∀ (l:List Int) (a:Nat),iP M a l=a*M ^ l.length+iP M 0 l
 | [],a=>by simp [iP]
 | d::l,a=>by
  show iP M (a*M+d.toNat) l=_+iP M (0*M+d.toNat) l;rw [cX M l,cX M l (0*M+d.toNat),gG,Nat.pow_succ',← Nat.mul_assoc,Nat.zero_mul,Nat.zero_add,Nat.add_mul,Nat.add_assoc]
theorem qI {M:Nat}:∀ (l:List Int),(∀ t∈l,0≤t∧t<(M:Int))→iP M 0 l<M ^ l.length
 | [],_=>by simp [iP]
 | d::l,h=>by
  have h1:=qI l fun t ht=>h t (yI _ ht);have h2:=h d (yH ..);show iP M (0*M+d.toNat) l<_;rw [cX,Nat.zero_mul,Nat.zero_add,gG,Nat.pow_succ'];have h3:(d.toNat+1)*M ^ l.length≤M*M ^ l.length:=Nat.mul_le_mul_right _ (by omega);rw [Nat.add_mul,Nat.one_mul] at h3;omega
theorem sO {M:Nat}:∀ (a b:List Int),(∀ t∈a,0≤t∧t<(M:Int))→(∀ t∈b,0≤t∧t<(M:Int))→a.length=b.length→bZ a b<0→iP M 0 a<iP M 0 b
 | [],[],_,_,_,h=>by simp [bZ] at h
 | [],_::_,_,_,h,_=>by simp at h
 | _::_,[],_,_,h,_=>by simp at h
 | x::a,y::b,ha,hb,hl,h=>by
  have hl2:a.length=b.length:=by simpa using hl
  have ha2:∀ t∈a,0≤t∧t<(M:Int):=fun t ht=>ha t (yI _ ht);have hb2:∀ t∈b,0≤t∧t<(M:Int):=fun t ht=>hb t (yI _ ht);have hx:=ha x (yH ..);have hy:=hb y (yH ..);show iP M (0*M+x.toNat) a<iP M (0*M+y.toNat) b;rw [cX M a,cX M b,Nat.zero_mul,Nat.zero_add,Nat.zero_add,hl2];unfold bZ at h
  split at h
  ·rename_i hxy;have h1:=qI a ha2;rw [hl2] at h1;have h3:(x.toNat+1)*M ^ b.length≤y.toNat*M ^ b.length:=Nat.mul_le_mul_right _ (by omega);rw [Nat.add_mul,Nat.one_mul] at h3;omega
  ·split at h
   ·omega
   ·rename_i h1 h2;have h3:=sO a b ha2 hb2 hl2 h;have e:x=y:=by omega
    subst e;omega
def zU:Nat:=4097
theorem EE {n:Nat} (h:n≤4096):n≤zU:=Nat.le_succ_of_le h
def mL (M:Nat) (x:Fd):Nat:=if x.1=false then 3*M ^ zU else if x.2.1=true then 2*M ^ zU else iP M 1 x.2.2
theorem qZ {M:Nat} (hM:2≤M) {x y:Fd} (hx:∀ t∈x.2.2,0≤t∧t<(M:Int)) (hy:∀ t∈y.2.2,0≤t∧t<(M:Int)) (hlx:x.2.2.length≤4096) (h:zS x y=true):mL M x<mL M y:=by
 obtain ⟨xo,xl,xw⟩:=x;obtain ⟨yo,yl,yw⟩:=y;simp only at hx hy hlx;have hp:0<M ^ zU:=Nat.pow_pos (by omega);have hv:iP M 1 xw<2*M ^ xw.length:=by
  rw [cX];have:=qI xw hx;omega
 have hpl:M ^ xw.length≤M ^ zU:=Nat.pow_le_pow_right (by omega) (EE hlx);unfold zS at h;unfold mL;cases xo
 ·simp at h
 cases yo
 ·cases xl
  ·simp only [Bool.true_eq_false,if_false,if_true,Bool.false_eq_true];omega
  ·simp only [Bool.true_eq_false,if_false,if_true];omega
 cases xl
 ·cases yl
  ·simp only [Bool.true_eq_false,if_false,Bool.false_eq_true,Bool.or_self] at h ⊢;unfold shlt at h
   split at h
   ·rename_i hl;rw [decide_eq_true_iff] at h;rw [cX M xw,cX M yw,hl];have:=sO xw yw hx hy hl h;omega
   ·rename_i hl;rw [decide_eq_true_iff] at h;rw [cX M yw];have h1:M ^ (xw.length+1)≤M ^ yw.length:=Nat.pow_le_pow_right (by omega) (by omega);rw [Nat.pow_succ] at h1;have h2:M ^ xw.length*2≤M ^ xw.length*M:=Nat.mul_le_mul_left _ hM;omega
  ·simp only [Bool.true_eq_false,if_false,Bool.false_eq_true,if_true];omega
 ·cases yl <;> simp at h
def rdI (w:World):Value→List Int
 | .slice (some a) n _=>(List.range n).map fun i=>match w.cell? ⟨a.block,a.off+i,none⟩ with
  | some (.int _ x)=>x
  | _=>0
 | _=>[]
def rdB:Option Value→Bool
 | some (.bool b)=>b
 | _=>false
def rdF (w:World) (bF s:Nat):Fd:=(rdB (w.cell? ⟨bF,s*3,none⟩),rdB (w.cell? ⟨bF,s*3+1,none⟩),match w.cell? ⟨bF,s*3+2,none⟩ with
 | some v=>rdI w v
 | none=>[])
def mWo (w:World) (bF m:Nat):Nat:=dY (fun s=>mL m (rdF w bF s)) m
theorem IR {G:Nat→Prop} {w:World} {A:Option Addr} {n c:Nat} {l:List Int} (h:aF G w (.slice A n c) l):rdI w (.slice A n c)=l:=by
 have hn:=(aH.len h).1;subst hn;cases A with
 | none=>
  by_cases h0:0<l.length
  ·obtain ⟨bb,off,e,_⟩:=aF.get h h0;cases e
  ·have hl:l=[]:=List.length_eq_zero_iff.1 (by omega);rw [hl];rfl
 | some a=>
  refine List.ext_getElem (by simp [rdI]) fun i h1 h2=>?_;obtain ⟨bb,off,e,hc⟩:=aF.get h h2
  injection e with e
  subst e;simp only [rdI,List.getElem_map,List.getElem_range,hc]
def g5 {α:Type} (F:Nat→α) (s:Nat) (x:α):Nat→α:=fun t=>if t=s then x else F t
section
variable {w w':World} {N bw bF m:Nat} {F:Nat→Fd} {V:Nat→Value}
theorem Wo.rd (h:Wo w N bw bF m F V) {s:Nat} (hs:s<m):rdF w bF s=F s:=by
 obtain ⟨A,c,h1,h2,h3,h4,_⟩:=h.cells hs;unfold rdF;rw [h1,h2,h3];simp only [rdB,IR h4]
theorem Wo.meas (h:Wo w N bw bF m F V):mWo w bF m=dY (fun s=>mL m (F s)) m:=jM m fun s hs=>by rw [h.rd hs]
theorem Wo.put (h:Wo w N bw bF m F V) {s:Nat} (hs:s<m) {x:Fd} {A:Option Addr} {c:Nat} (hv:aF (fun k=>k<N∧TB 3 w k) w (.slice A x.2.2.length c) x.2.2) (hl:x.2.2.length≤4096):
  Wo (((w.setCell ⟨bF,s*3,none⟩ (.bool x.1)).setCell ⟨bF,s*3+1,none⟩ (.bool x.2.1)).setCell ⟨bF,s*3+2,none⟩ (.slice A x.2.2.length c)) N bw bF m (g5 F s x) (g5 V s (.slice A x.2.2.length c)):=by
 obtain ⟨cur,h1,h2,h3⟩:=h.row;have g1:=aO h1 (s*3) (.bool x.1);have g2:=aO g1 (s*3+1) (.bool x.2.1);have g3:=aO g2 (s*3+2) (.slice A x.2.2.length c);have hne:∀ k,k≠bF→(((w.setCell ⟨bF,s*3,none⟩ (.bool x.1)).setCell ⟨bF,s*3+1,none⟩ (.bool x.2.1)).setCell ⟨bF,s*3+2,none⟩ (.slice A x.2.2.length c)).heap[k]? = w.heap[k]? := fun k hk=>
  ((gU _ _ _ _ hk).trans (gU _ _ _ _ hk)).trans (gU _ _ _ _ hk)
 have hi:∀ k,TB 3 w k→(((w.setCell ⟨bF,s*3,none⟩ (.bool x.1)).setCell ⟨bF,s*3+1,none⟩ (.bool x.2.1)).setCell ⟨bF,s*3+2,none⟩ (.slice A x.2.2.length c)).heap[k]? = w.heap[k]? := fun k hk=>hne k (hk.ne h.tb (by decide));generalize (((w.setCell ⟨bF,s*3,none⟩ (.bool x.1)).setCell ⟨bF,s*3+1,none⟩ (.bool x.2.1)).setCell ⟨bF,s*3+2,none⟩ (.slice A x.2.2.length c))=w3 at *;have kp:∀ {A':Option Addr} {c':Nat} {l:List Int},aF (fun k=>k<N∧TB 3 w k) w (.slice A' l.length c') l→aF (fun k=>k<N∧TB 3 w3 k) w3 (.slice A' l.length c') l:=fun h5=>
  aH.keep h5 (fun k hk=>⟨hk.1,hk.2.of_eq (hi k hk.2)⟩) (fun p hp=>gM (hi _ hp.2)) fun _ _ h=>h
 refine ⟨(hne bw fun e=>TB.ne (T:=179) ⟨_,h.box⟩ h.tb (by decide) e).trans h.box,⟨_,g3,by simpa using h2,fun t ht=>?_⟩,fun t ht=>?_⟩
 ·have hz:s*3+2<cur.size:=by omega
  unfold g5;by_cases e:t=s
  ·subst e;simp only [if_pos];refine ⟨?_, ?_, ?_⟩
   ·rw [Array.getElem?_setIfInBounds_ne (by omega),Array.getElem?_setIfInBounds_ne (by omega),Array.getElem?_setIfInBounds_self_of_lt (by omega)]
   ·rw [Array.getElem?_setIfInBounds_ne (by omega),Array.getElem?_setIfInBounds_self_of_lt (by simp;omega)]
   ·rw [Array.getElem?_setIfInBounds_self_of_lt (by simp;omega)]
  ·simp only [if_neg e];obtain ⟨e1,e2,e3⟩:=h3 t ht;refine ⟨?_, ?_, ?_⟩
   ·rw [Array.getElem?_setIfInBounds_ne (by omega),Array.getElem?_setIfInBounds_ne (by omega),Array.getElem?_setIfInBounds_ne (by omega)];exact e1
   ·rw [Array.getElem?_setIfInBounds_ne (by omega),Array.getElem?_setIfInBounds_ne (by omega),Array.getElem?_setIfInBounds_ne (by omega)];exact e2
   ·rw [Array.getElem?_setIfInBounds_ne (by omega),Array.getElem?_setIfInBounds_ne (by omega),Array.getElem?_setIfInBounds_ne (by omega)];exact e3
 ·unfold g5;by_cases e:t=s
  ·subst e;simp only [if_pos];exact ⟨A,c,rfl,kp hv,hl⟩
  ·simp only [if_neg e];obtain ⟨A',c',h5,h6,h7⟩:=h.its t ht;exact ⟨A',c',h5,kp h6,h7⟩
end
theorem CX {m:Nat} {F:Nat→Fd} {s:Nat} {x:Fd} (hs:s<m) (h:mL m x<mL m (F s)):dY (fun t=>mL m (g5 F s x t)) m<dY (fun t=>mL m (F t)) m:=by
 refine eG m (fun t _=>?_) ⟨s,hs, ?_⟩
 ·unfold g5;by_cases e:t=s
  ·subst e;simp only [if_pos];omega
  ·simp only [if_neg e];exact gO _
 ·unfold g5;simp only [if_pos];exact h
theorem BM:(Tryz.prog.info? 181).map (fun i=>(i.zero,i.size,i.bytes))=some (some (.agg #[.bool false,.bool false,.slice none 0 0]),3,32):=by kernel_rfl
theorem IG (m:Nat) {s:Nat} (hs:s<m):(madeCells #[Value.bool false,.bool false,.slice none 0 0] (m*3))[s*3]? = some (.bool false)∧(madeCells #[Value.bool false,.bool false,.slice none 0 0] (m*3))[s*3+1]? = some (.bool false)∧(madeCells #[Value.bool false,.bool false,.slice none 0 0] (m*3))[s*3+2]? = some (.slice none 0 0):=by
 have h0:(s*3) % 3=0:=by omega
 have h1:(s*3+1) % 3=1:=by omega
 have h2:(s*3+2) % 3=2:=by omega
 refine ⟨?_, ?_, ?_⟩
 ·simp [madeCells,h0,show s*3<m*3 by omega]
 ·simp [madeCells,h1,show s*3+1<m*3 by omega]
 ·simp [madeCells,h2,show s*3+2<m*3 by omega]
theorem E6 (w:World) {m:Nat} (hm:m≤1000):(Instr.makeSlice 177 (.int .i64 (m:Int)) (.int .i64 (m:Int))).run Tryz.prog w=.ok (.slice (some ⟨w.heap.size,0,none⟩) m m) (w.alloc (.cells (madeCells #[.bool false,.bool false,.slice none 0 0] (m*3)) 181)):=by
 obtain ⟨i0,hi0,hz0,hz1,hz2⟩:=info_parts BM;have h:=run_make (P:=Tryz.prog) w 177 181 i0 _ Tryz.underlying177 hi0 hz0 .i64 .i64 (m:Int) (m:Int) (by omega) (Int.le_refl _) (by rw [hz2];omega) (by omega);rw [hz1,yB] at h;exact h
theorem FOk.put {g:Gm} {m:Nat} {F:Nat→Fd} (h:FOk g m F) {s:Nat} {x:Fd} (h1:1≤s→x.1=true→x.2.1=false→g.Der [(s:Int)] x.2.2) (h0:s=0→x.2.2=[]) (hd:∀ t∈x.2.2,0≤t∧t<(m:Int)) (hl:x.2.2.length≤4096):FOk g m (g5 F s x):=by
 refine ⟨fun t ht htm=>?_, ?_,fun t htm=>?_,fun t htm=>?_⟩
 ·unfold g5;by_cases e:t=s
  ·subst e;rw [if_pos rfl];exact h1 ht
  ·rw [if_neg e];exact h.der t ht htm
 ·unfold g5;by_cases e:0=s
  ·rw [if_pos e];exact h0 e.symm
  ·rw [if_neg e];exact h.zero
 ·unfold g5;by_cases e:t=s
  ·rw [if_pos e];exact hd
  ·rw [if_neg e];exact h.dig t htm
 ·unfold g5;by_cases e:t=s
  ·rw [if_pos e];exact hl
  ·rw [if_neg e];exact h.len t htm
theorem Wo.stores {w:World} {N bw bF m:Nat} {F:Nat→Fd} {V:Nat→Value} (h:Wo w N bw bF m F V) {s:Nat} (hs:s<m) (u0 u1:Value):
  (∃ v,w.cell? ⟨bF,s*3,none⟩=some v)∧w.frozen? ⟨bF,s*3,none⟩=false∧
  (∃ v,(w.setCell ⟨bF,s*3,none⟩ u0).cell? ⟨bF,s*3+1,none⟩=some v)∧(w.setCell ⟨bF,s*3,none⟩ u0).frozen? ⟨bF,s*3+1,none⟩=false∧
  (∃ v,((w.setCell ⟨bF,s*3,none⟩ u0).setCell ⟨bF,s*3+1,none⟩ u1).cell? ⟨bF,s*3+2,none⟩=some v)∧((w.setCell ⟨bF,s*3,none⟩ u0).setCell ⟨bF,s*3+1,none⟩ u1).frozen? ⟨bF,s*3+2,none⟩=false:=by
 obtain ⟨cur,h1,h2,h3⟩:=h.row;have g1:=aO h1 (s*3) u0;have g2:=aO g1 (s*3+1) u1;obtain ⟨e1,e2,e3⟩:=h3 s hs;refine ⟨⟨_,aA h1 _ _ e1⟩,by simp [World.frozen?,h1],⟨_,aA g1 _ _ ((Array.getElem?_setIfInBounds_ne (by omega)).trans e2)⟩,by simp [World.frozen?,g1],⟨_,aA g2 _ _ ((Array.getElem?_setIfInBounds_ne (by omega)).trans ((Array.getElem?_setIfInBounds_ne (by omega)).trans e3))⟩,by simp [World.frozen?,g2]⟩
structure Lo (G:Nat→Prop) (w0 wr:World) (bw bF m:Nat) (A0:Option Addr) (c0:Nat) (A1:Option Addr) (c1:Nat) (A2:Option Addr) (c2:Nat) (g:Gm) (F:Nat→Fd) (V:Nat→Value):Prop where
 bx:GBox G wr w0.heap.size A0 c0 A1 c1 A2 c2 g
 wo:Wo wr wr.heap.size bw bF m F V
 ok:FOk g m F
 bel:Below w0.heap.size w0 wr
 lt:w0.heap.size<bw∧w0.heap.size<bF
section
variable {G:Nat→Prop} {w0 wr w':World} {bw bF m:Nat} {A0 A1 A2:Option Addr} {c0 c1 c2:Nat} {g:Gm} {F:Nat→Fd} {V:Nat→Value}
theorem Lo.below (h:Lo G w0 wr bw bF m A0 c0 A1 c1 A2 c2 g F V) (hb:Below wr.heap.size wr w'):Lo G w0 w' bw bF m A0 c0 A1 c1 A2 c2 g F V:=
 ⟨h.bx.on hb,(h.wo.below hb).more hb.size,h.ok,h.bel.trans (hb.mono h.bel.size),h.lt⟩
theorem Lo.put (h:Lo G w0 wr bw bF m A0 c0 A1 c1 A2 c2 g F V) (hGl:∀ k,G k→k<w0.heap.size) {s:Nat} (hs:s<m) {x:Fd} {A:Option Addr} {c:Nat} (hv:aF (TB 3 wr) wr (.slice A x.2.2.length c) x.2.2) (h1:1≤s→x.1=true→x.2.1=false→g.Der [(s:Int)] x.2.2) (h0:s=0→x.2.2=[]) (hd:∀ t∈x.2.2,0≤t∧t<(m:Int)) (hl:x.2.2.length≤4096):
  Lo G w0 (((wr.setCell ⟨bF,s*3,none⟩ (.bool x.1)).setCell ⟨bF,s*3+1,none⟩ (.bool x.2.1)).setCell ⟨bF,s*3+2,none⟩ (.slice A x.2.2.length c)) bw bF m A0 c0 A1 c1 A2 c2 g (g5 F s x) (g5 V s (.slice A x.2.2.length c)):=by
 have hwo:=h.wo.put hs (x:=x) (A:=A) (c:=c) (aH.keep hv (fun k hk=>⟨hk.lt,hk⟩) (fun _ _=>rfl) fun _ _ h=>h) hl;have hlt:=h.lt;have hne:∀ k,k≤w0.heap.size→(((wr.setCell ⟨bF,s*3,none⟩ (.bool x.1)).setCell ⟨bF,s*3+1,none⟩ (.bool x.2.1)).setCell ⟨bF,s*3+2,none⟩ (.slice A x.2.2.length c)).heap[k]? = wr.heap[k]? := fun k hk=>
  have e:k≠bF:=by omega
  ((gU _ _ _ _ e).trans (gU _ _ _ _ e)).trans (gU _ _ _ _ e)
 exact ⟨h.bx.stay hGl hne,hwo.more (by simp),h.ok.put h1 h0 hd hl,((h.bel.setCell (p:=⟨bF,s*3,none⟩) (by simp only;omega) _).setCell (p:=⟨bF,s*3+1,none⟩) (by simp only;omega) _).setCell (p:=⟨bF,s*3+2,none⟩) (by simp only;omega) _,h.lt⟩
end
theorem rR {w:World} {k:Nat} {x:Int} (q:w.heap[k]? = some (.cells #[.int .i64 x] 3 (0,0))):aF (TB 3 w) w (.slice (some ⟨k,0,none⟩) 1 1) [x]:=
 ⟨_,_,rfl,gO _,by unfold maxLen;omega,fun _=>⟨k,0,rfl,⟨_,q⟩,fun i hi=>by
  obtain rfl:i=0:=by simpa using hi
  refine ⟨[.int .i64 x],rfl,rfl,fun j u hj=>?_⟩;obtain rfl:j=0:=by have:=(gY hj).1;simpa using this
  simp at hj;subst hj;exact aA q 0 _ rfl⟩⟩
def nM (g:Gm) (w:World) (e:Ending) (w':World):Prop:=
 (∃ bw bF F V,e=.returned (.pointer (some ⟨bw,0,none⟩))∧Wo w' w'.heap.size bw bF (g.top+1) F V∧FOk g (g.top+1) F∧w.heap.size≤bw∧w.heap.size≤bF)∧Below w.heap.size w w'
theorem E4 (G:Nat→Prop) (w:World) (vs:List Value) (g:Gm) (hG:∀ k,G k→k<w.heap.size) (hg:GmV G w vs g) (hw:GW g):
  Calls Tryz.prog 46 #[ag vs] w fun e w'=>nM g w e w':=by
 obtain ⟨A0,c0,A1,c1,A2,c2,W,ev,hW,⟨x0,x1,x2,x3⟩,HB,HX⟩:=GBox.go hG hg;rw [ev];have HG:=Ha hG;clear hG hg ev;have h2:=kR G;have h3:=jN G;have h4:=DR G;unfold ag at h2 h3 h4;have H2:=Ha h2;have H3:=Ha h3;have H4:=Ha h4;have HW:=Ha hw;have hlt:=hw.top;obtain ⟨m,hm⟩:∃ m,m=g.top+1:=⟨_,rfl⟩;have HM:=Ha hm;have hm1:IntKind.i64.wrap ((g.top:Int)+1)=(m:Int):=by rw [hm];exact IntWalk.i64_in _ (by omega)
 have hml:m≤241:=by omega
 have hm2:2≤m:=by omega
 clear h2 h3 h4 hw hm;go_enter Tryz.func46,Tryz.ntmps46;go_wp2_with fail;refine (H2.out _ _ g HX.out.old HX.out.gm HW.out).mono ?_;rintro e w1 ⟨rfl,hb1⟩;have HX1:=Ha (HX.out.on hb1);have HB1:=Ha (HB.out.trans (hb1.mono HB.out.size));clear x0 x1 x2 x3 hb1;obtain ⟨x0,x1,x2,x3⟩:=HX1.out.cells;go_wp2_with fail;refine (H3.out _ _ g HX1.out.old HX1.out.gm (by omega)).mono ?_;rintro e w2 ⟨rfl,hb1⟩;have HX2:=Ha (HX1.out.on hb1);have HB2:=Ha (HB1.out.trans (hb1.mono HB1.out.size));clear x0 x1 x2 x3 hb1;obtain ⟨x0,x1,x2,x3⟩:=HX2.out.cells;have hmk:=E6 w2 (m:=m) (by omega);have hbm:Below w2.heap.size w2 (w2.alloc (.cells (madeCells #[.bool false,.bool false,.slice none 0 0] (m*3)) 181)):=(gR _ _).alloc (gO _) _;have qm:=aC w2 (.cells (madeCells #[.bool false,.bool false,.slice none 0 0] (m*3)) 181);have hzm:(w2.alloc (.cells (madeCells #[.bool false,.bool false,.slice none 0 0] (m*3)) 181)).heap.size=w2.heap.size+1:=by simp
 generalize hWm:w2.alloc (.cells (madeCells #[.bool false,.bool false,.slice none 0 0] (m*3)) 181)=wm at *;have hbb:Below wm.heap.size wm (wm.alloc (.cells #[.slice (some ⟨w2.heap.size,0,none⟩) m m] 179)):=(gR _ _).alloc (gO _) _;have qb:=aC wm (.cells #[.slice (some ⟨w2.heap.size,0,none⟩) m m] 179);have hzb:(wm.alloc (.cells #[.slice (some ⟨w2.heap.size,0,none⟩) m m] 179)).heap.size=wm.heap.size+1:=by simp
 generalize hWb:wm.alloc (.cells #[.slice (some ⟨w2.heap.size,0,none⟩) m m] 179)=wb at *;have hbmb:Below w2.heap.size w2 wb:=hbm.trans (hbb.mono hbm.size);have hwlt:w.heap.size<w2.heap.size:=by have:=HX2.out.lt;omega
 have HLo:=Ha (show Lo G w wb wm.heap.size w2.heap.size m A0 c0 A1 c1 A2 c2 g (fun _=>(false,false,[])) (fun _=>.slice none 0 0) from
  ⟨HX2.out.on hbmb,⟨qb,⟨_,(hbb.block _ (by omega)).trans qm,size_madeCells _ _,fun s hs=>IG m hs⟩,fun s _=>⟨none,0,rfl,⟨none,0,rfl,gO _,gX _,fun h=>absurd h (Nat.lt_irrefl 0)⟩,gX _⟩⟩,⟨fun _ _ _ h=>by simp at h,rfl,fun _ _ _ h=>by simp at h,fun _ _=>by simp⟩,HB2.out.trans (hbmb.mono HB2.out.size),by omega,by omega⟩)
 generalize hbF:w2.heap.size=bF at *;generalize hbw:wm.heap.size=bw at *;have y0:=aA HLo.out.wo.box 0 _ rfl;obtain ⟨⟨_,s1⟩,f1,⟨_,s2⟩,f2,⟨_,s3⟩,f3⟩:=HLo.out.wo.stores (show 0<m by omega) (.bool true) (.bool false);have hput:=HLo.out.put HG.out (show 0<m by omega) (x:=(true,false,[])) (A:=none) (c:=0) ⟨none,0,rfl,gO _,gX _,fun h=>absurd h (Nat.lt_irrefl 0)⟩ (fun h=>absurd h (by decide)) (fun _=>rfl) (fun _ h=>by cases h) (gX _);have hone:(((wb.setCell ⟨bF,0*3,none⟩ (.bool true)).setCell ⟨bF,0*3+1,none⟩ (.bool false)).setCell ⟨bF,0*3+2,none⟩ (.slice none 0 0))=wb.setCell ⟨bF,0,none⟩ (.bool true):=by
  obtain ⟨cur,h1,h2,h3⟩:=HLo.out.wo.row;have g1:=aO h1 0 (.bool true);obtain ⟨e1,e2,e3⟩:=h3 0 (by omega);have k1:(wb.setCell ⟨bF,0,none⟩ (.bool true)).setCell ⟨bF,1,none⟩ (.bool false)=wb.setCell ⟨bF,0,none⟩ (.bool true):=cC g1 ((Array.getElem?_setIfInBounds_ne (by omega)).trans e2);have k2:(wb.setCell ⟨bF,0,none⟩ (.bool true)).setCell ⟨bF,2,none⟩ (.slice none 0 0)=wb.setCell ⟨bF,0,none⟩ (.bool true):=cC g1 ((Array.getElem?_setIfInBounds_ne (by omega)).trans e3);show ((wb.setCell ⟨bF,0,none⟩ (.bool true)).setCell ⟨bF,1,none⟩ (.bool false)).setCell ⟨bF,2,none⟩ (.slice none 0 0)=_;rw [k1,k2]
 have hput2:Lo G w (((wb.setCell ⟨bF,0*3,none⟩ (.bool true)).setCell ⟨bF,0*3+1,none⟩ (.bool false)).setCell ⟨bF,0*3+2,none⟩ (.slice none 0 0)) bw bF m A0 c0 A1 c1 A2 c2 g (g5 (fun _=>(false,false,[])) 0 (true,false,[])) (g5 (fun _=>.slice none 0 0) 0 (.slice none 0 0)):=hput;rw [hone] at hput2;have HLo2:=Ha hput2;clear hput hput2 hone hbm qm hzm hbb qb hzb hbmb hwlt s2 f2 s3 f3 x0 x1 x2 x3 HX2 HB2 hbF;have hmi:(0:Int)<(m:Int):=by omega
 rw [Nat.zero_mul] at s1 f1;generalize hWC:wb.setCell ⟨bF,0,none⟩ (.bool true)=wc at *;go_wp2_with fail
 go_loopw [4] (fun iv wr=>∃ (s:Nat) (F:Nat→Fd) (V:Nat→Value),1≤s∧s≤g.terms.length+1∧iv=.int .i64 s∧Lo G w wr bw bF m A0 c0 A1 c1 A2 c2 g F V) (fun iv _=>g.terms.length+1-(intOf iv).toNat)
 case atStart=>exact ⟨1,_,_,gO _,by omega,rfl,HLo2.out⟩
 case round=>
  obtain ⟨s,F,V,hs1,hs2,rfl,hlo⟩:=hrel;have HL:=Ha hlo;clear hlo HLo HLo2 s1 f1 y0 hmk;obtain ⟨x0,x1,x2,x3⟩:=HL.out.bx.cells;have htl:g.terms.length≤g.top:=by unfold Gm.top;omega
  have HC:=Ha (H4.out wr _ g (s:Int) HL.out.bx.old HL.out.bx.gm);by_cases hT:g.T (s:Int)
  ·rw [yD hT] at HC;have HT:=Ha hT;have hst:s≤g.terms.length:=by unfold Gm.T at hT;omega
   clear hT;go_wp2_with fail;refine (HC.out).mono ?_;rintro e wa ⟨rfl,hba⟩;have hla:=HL.out.below hba;have hbi:Below wa.heap.size wa (wa.alloc (.cells #[.int .i64 s] 3)):=(gR _ _).alloc (gO _) _;have qi:=aC wa (.cells #[.int .i64 s] 3);have yb:=aA hla.wo.box 0 _ rfl;generalize hWI:wa.alloc (.cells #[.int .i64 s] 3)=wi at *;have hli:=hla.below hbi;have yi:=aA hli.wo.box 0 _ rfl;have hsm:s<m:=by have:=HM.out;omega
   obtain ⟨⟨_,s1⟩,f1,⟨_,s2⟩,f2,⟨_,s3⟩,f3⟩:=hli.wo.stores hsm (.bool true) (.bool false);have HP:=Ha (hli.put HG.out hsm (x:=(true,false,[(s:Int)])) (rR qi) (fun _ _ _=>(Gm.Der.of_term HW.out.kn HT.out).2 rfl) (fun h=>by omega) (fun t ht=>by
    rw [gV] at ht;subst ht;omega) (by simp))
   clear hla hbi qi hli hba x0 x1 x2 x3;go_wp2_with fail
   go_roundw
   case rel=>exact ⟨s+1,_,_,by omega,by omega,by go_num,HP.out⟩
   case measure=>simp only [intOf];omega
  ·rw [yE hT] at HC;clear hT;go_wp2_with fail;refine (HC.out).mono ?_;rintro e wa ⟨rfl,hba⟩;have HLa:=Ha (HL.out.below hba);clear hba x0 x1 x2 x3 HL;go_wp2_with fail;refine (tW wa).mono ?_;rintro e w4 ⟨rfl,hb4⟩;have q5:=aC w4 (.cells #[.func (.func 166) #[] #[]] 184);have hb5:Below w4.heap.size w4 (w4.alloc (.cells #[.func (.func 166) #[] #[]] 184)):=(gR _ _).alloc (gO _) _;generalize hbo:w4.heap.size=bo at *;generalize hW5:w4.alloc (.cells #[.func (.func 166) #[] #[]] 184)=w5 at *;have HL5:=Ha ((HLa.out.below hb4).below (hbo.symm▸hb5));have HQ5:=Ha q5;clear hb4 hb5 q5 HLa;go_wp2_with fail
   go_loopw [6] (fun mv wr=>∃ (mo:Bool) (F:Nat→Fd) (V:Nat→Value),mv=.bool mo∧Lo G w wr bw bF m A0 c0 A1 c1 A2 c2 g F V∧wr.heap[bo]? = some (.cells #[.func (.func 166) #[] #[]] 184 (0,0))) (fun mv wr=>2*mWo wr bF m+fF mv)
   case atStart=>exact ⟨true,_,_,rfl,HL5.out,HQ5.out⟩
   case round=>
    obtain ⟨mo,F1,V1,rfl,hlo,hqo⟩:=hrel;have HL:=Ha hlo;have HQ:=Ha hqo;clear hlo hqo HL5 HQ5;cases mo
    ·go_wp2_with fail;go_ret;refine ⟨⟨bw,bF,F1,V1,rfl, ?_, ?_,Nat.le_of_lt HL.out.lt.1,Nat.le_of_lt HL.out.lt.2⟩,HL.out.bel⟩
     ·rw [← HM.out];exact HL.out.wo
     ·rw [← HM.out];exact HL.out.ok
    ·obtain ⟨x0,x1,x2,x3⟩:=HL.out.bx.cells;obtain ⟨M0,hM0⟩:∃ M0,M0=mWo wr bF m:=⟨_,rfl⟩;have HM0:=Ha hM0;have hlr:=HW.out.lr;clear hM0;go_wp2_with fail
     go_loopw [6,44] (fun mv iv wr=>∃ (mo:Bool) (i:Nat) (F:Nat→Fd) (V:Nat→Value),mv=.bool mo∧iv=.int .i64 i∧i≤g.rules.length∧Lo G w wr bw bF m A0 c0 A1 c1 A2 c2 g F V∧wr.heap[bo]? = some (.cells #[.func (.func 166) #[] #[]] 184 (0,0))∧mWo wr bF m≤M0∧(mo=true→mWo wr bF m<M0)) (fun _ iv _=>g.rules.length-(intOf iv).toNat)
     case atStart=>exact ⟨false,0,F1,V1,rfl,rfl,gX _,HL.out,HQ.out,Nat.le_of_eq HM0.out.symm,fun h=>by cases h⟩
     case round=>
      obtain ⟨mo,i,F2,V2,rfl,rfl,hi,hlo,hqo,hle,hlt2⟩:=hrel;obtain ⟨HL2,HQ2,HLT⟩:=Zh3 hlo hqo (gS hle hlt2);have HLW:=Ha HL2.out.wo.meas;clear hlo hqo HL HQ x0 x1 x2 x3 hle hlt2;by_cases hil:i<g.rules.length
      ·obtain ⟨br,off,Ar,cr,rfl,z0,z1,hri⟩:=HL2.out.bx.rule hil;obtain ⟨lf,hlf⟩:∃ lf:Nat,g.rules[i].1=(lf:Int):=⟨g.rules[i].1.toNat,by have:=HW.out.kn.left _ (gN hil);unfold Gm.N at this;omega⟩;have HLF:=Ha (show lf<m∧1≤lf∧g.N (lf:Int) from by
        have h1:=HW.out.kn.left _ (gN hil);rw [hlf] at h1;have h2:=h1;unfold Gm.N at h2;have:=HM.out;exact ⟨by omega,by omega,h1⟩)
       have hlm:=HLF.out.1;rw [hlf] at z0;obtain ⟨rr,hrr⟩:∃ rr,rr=g.rules[i].2:=⟨_,rfl⟩;rw [← hrr] at z1 hri;have HRU:=Ha (show ((lf:Int),rr)∈g.rules from by rw [← hlf,hrr];exact gN hil);have HRS:=Ha (show ∀ s∈rr,1≤s∧s<(m:Int) from fun s hs=>by
        have h1:=HW.out.kn.right _ (gN hil) s (hrr▸hs);have:=HM.out;have htl2:g.terms.length≤g.top:=by unfold Gm.top;omega
        unfold Gm.T Gm.N at h1;omega)
       have hb6:Below wr.heap.size wr (wr.alloc (.cells #[.int .i64 lf,.slice Ar rr.length cr] 64)):=(gR _ _).alloc (gO _) _;have q6:=aC wr (.cells #[.int .i64 lf,.slice Ar rr.length cr] 64);generalize hb8:wr.heap.size=b8 at *;generalize hW6:wr.alloc (.cells #[.int .i64 lf,.slice Ar rr.length cr] 64)=w6 at *;have HL6:=Ha (HL2.out.below (hb8.symm▸hb6));have HRI6:=Ha (aF.below HL2.out.bx.old (hb8.symm▸hb6) hri);have HJ:=Ha (B7 G w6 bw bF m F2 V2 Ar cr rr HL6.out.wo HL6.out.bx.old HRI6.out);have HB6:=Ha (show Below wr.heap.size wr w6 from hb8.symm▸hb6);obtain ⟨a0,a1,_,_⟩:=aM q6 rfl;have HQ6:=Ha q6;clear hri hlf hrr hb6 q6;have HJ':=HJ.out;unfold dP at HJ';obtain ⟨x,hx⟩:∃ x,x=jn F2 m rr:=⟨_,rfl⟩;have HD:=Ha (show (x.1=true→x.2.1=false→g.Der rr x.2.2)∧(∀ t∈x.2.2,0≤t∧t<(m:Int))∧x.2.2.length≤4096 from by
        rw [hx];exact ⟨B5 HL2.out.ok HRS.out,B6 HL2.out.ok.dig rr⟩)
       rw [← hx] at HJ';clear HJ hx;obtain ⟨xo,xl,xw⟩:=x;simp only at HJ' HD;have HJ:=Ha HJ';clear HJ';go_wp2_with fail
       with_reducible refine Calls.mono HJ.out ?_
       rintro e w7 ⟨⟨Aj,cj,rfl,hji,_⟩,hb7⟩;have hb8':Below w7.heap.size w7 (w7.alloc (.cells #[.bool xo,.bool xl,.slice Aj xw.length cj] 181)):=(gR _ _).alloc (gO _) _;have q9:=aC w7 (.cells #[.bool xo,.bool xl,.slice Aj xw.length cj] 181);generalize hb9:w7.heap.size=b9 at *;generalize hW8:w7.alloc (.cells #[.bool xo,.bool xl,.slice Aj xw.length cj] 181)=w8 at *;have hb78:Below w7.heap.size w7 w8:=hb9.symm▸hb8';have hb68:Below w6.heap.size w6 w8:=hb7.trans (hb78.mono hb7.size);obtain ⟨HL8,HQ8,HQ68,HQ9⟩:=Zh4 (HL6.out.below hb68) ((hb68.block _ (gK (gL HQ2.out).1 HB6.out.size)).trans ((HB6.out.block _ (gL HQ2.out).1).trans HQ2.out)) ((hb68.block _ (gL HQ6.out).1).trans HQ6.out) q9;have hji8:aF (TB 3 w8) w8 (.slice Aj xw.length cj) xw:=aH.keep hji (fun k hk=>hk.2.of_eq (hb78.block _ hk.2.lt)) (fun p hp=>gM (hb78.block _ hp.2.lt)) fun _ _ h=>h;obtain ⟨Ay,cy,k0,k1,k2,hat,hyl⟩:=HL8.out.wo.cells hlm;rcases hF:F2 lf with ⟨yo,yl,yw⟩
       rw [hF] at k0 k1 k2 hat hyl;simp only at k0 k1 k2 hat hyl;have hat8:aF (TB 3 w8) w8 (.slice Ay yw.length cy) yw:=aH.keep hat (fun k hk=>hk.2) (fun _ _=>rfl) fun _ _ h=>h;have HBT:=Ha (zT (TB 3 w8) w8.drew (xo,xl,xw) (yo,yl,yw) Aj Ay cj cy (fun _ h=>h.lt) hji8 hat8);obtain ⟨bt,hbt⟩:∃ bt,bt=zS (xo,xl,xw) (yo,yl,yw):=⟨_,rfl⟩;rw [← hbt] at HBT;have HRK:=Ha (show bt=true→mL m (xo,xl,xw)<mL m (F2 lf) from fun h=>by
        have hy:=HL8.out.ok.dig lf hlm;rw [hF] at hy ⊢;exact qZ hm2 HD.out.2.1 hy HD.out.2.2 (hbt.symm.trans h))
       have HJI:=Ha hji8;obtain ⟨c0',c1',c2',_,_,_⟩:=aP q9 rfl;have HSS:=Ha (show (fun X:World=>X.cell? ⟨bo,0,none⟩=some (.func (.func 166) #[] #[])∧X.cell? ⟨b9,0,none⟩=some (.bool xo)∧X.cell? ⟨b9,1,none⟩=some (.bool xl)∧X.cell? ⟨b9,2,none⟩=some (.slice Aj xw.length cj)∧X.cell? ⟨bw,0,none⟩=some (.slice (some ⟨bF,0,none⟩) m m)∧X.cell? ⟨b8,0,none⟩=some (.int .i64 lf)∧X.cell? ⟨bF,lf*3,none⟩=some (.bool yo)∧X.cell? ⟨bF,lf*3+1,none⟩=some (.bool yl)∧X.cell? ⟨bF,lf*3+2,none⟩=some (.slice Ay yw.length cy)) w8.drew from ⟨aA HQ8.out 0 _ rfl,c0',c1',c2',aA HL8.out.wo.box 0 _ rfl,aA HQ68.out 0 _ rfl,k0,k1,k2⟩);clear hb8' q9 hb78 hb68 hji hji8 hat hat8 hF hbt hb7 k0 k1 k2 hyl c0' c1' c2' HQ2 HL2 HL6 HJ HRI6 z0 z1 a0 a1;go_wp2_with fail;refine aE.start 11 (fun X=>X.cell? ⟨bo,0,none⟩=some (.func (.func 166) #[] #[])∧X.cell? ⟨b9,0,none⟩=some (.bool xo)∧X.cell? ⟨b9,1,none⟩=some (.bool xl)∧X.cell? ⟨b9,2,none⟩=some (.slice Aj xw.length cj)∧X.cell? ⟨bw,0,none⟩=some (.slice (some ⟨bF,0,none⟩) m m)∧X.cell? ⟨b8,0,none⟩=some (.int .i64 lf)∧X.cell? ⟨bF,lf*3,none⟩=some (.bool yo)∧X.cell? ⟨bF,lf*3+1,none⟩=some (.bool yl)∧X.cell? ⟨bF,lf*3+2,none⟩=some (.slice Ay yw.length cy)) (by kernel_rfl) ?hs_1 (fun hHeld=>?hr_1)
       case hs_1=>exact HSS.out
       refine aE.tks [0,1,2,3,4,5,6,7,8,9] ?_ (by kernel_rfl) (by assumption)
       iterate 10
        refine aK.cons ?_ (by rfl) (by rfl) (by intro w h;(try dsimp only at h);simp only [gA,gB,gC];go_simp;try with_reducible rfl) (by exact fun _ _ _ h=>h);simp only [gA,gB,gC,Act.put,gD,gE,gF]
       show aE _ _ _ _ _ _ _ _ _ _;refine aE.one (i:=10) (by kernel_rfl) rfl fun K hK=>?_;simp only [gA,gB,gC]
       go_simp
       with_reducible refine Calls.mono HBT.out ?_
       rintro e w9 ⟨rfl,hb9'⟩;have hl9:=(HL8.out.below (gR _ _).drew).below hb9';have hb89:Below w8.heap.size w8 w9:=(gR _ _).drew.trans hb9';have HS9:=Ha (show (fun X=>X.cell? ⟨bo,0,none⟩=some (.func (.func 166) #[] #[])∧X.cell? ⟨b9,0,none⟩=some (.bool xo)∧X.cell? ⟨b9,1,none⟩=some (.bool xl)∧X.cell? ⟨b9,2,none⟩=some (.slice Aj xw.length cj)∧X.cell? ⟨bw,0,none⟩=some (.slice (some ⟨bF,0,none⟩) m m)∧X.cell? ⟨b8,0,none⟩=some (.int .i64 lf)∧X.cell? ⟨bF,lf*3,none⟩=some (.bool yo)∧X.cell? ⟨bF,lf*3+1,none⟩=some (.bool yl)∧X.cell? ⟨bF,lf*3+2,none⟩=some (.slice Ay yw.length cy)) w9 from by
        have h:=HSS.out;exact ⟨aD h.1 hb9',aD h.2.1 hb9',aD h.2.2.1 hb9',aD h.2.2.2.1 hb9',aD h.2.2.2.2.1 hb9',aD h.2.2.2.2.2.1 hb9',aD h.2.2.2.2.2.2.1 hb9',aD h.2.2.2.2.2.2.2.1 hb9',aD h.2.2.2.2.2.2.2.2 hb9'⟩)
       have HMW:=Ha (show mWo w9 bF m≤M0∧(mo=true→mWo w9 bF m<M0) from by
        have h1:=HLT.out;rw [hl9.wo.meas];rw [HLW.out] at h1;exact h1)
       obtain ⟨HL9,HQO9,HJI9⟩:=Zh3 hl9 ((hb89.block _ (gL HQ8.out).1).trans HQ8.out) (show aF (TB 3 w9.drew) w9.drew (.slice Aj xw.length cj) xw from aH.keep HJI.out (fun k hk=>hk.of_eq (hb89.block _ hk.lt)) (fun p hp=>gM (hb89.block _ hp.lt)) fun _ _ h=>h);clear hl9 hb89 hb9' HL8 HQ8 HJI HBT;dsimp only;refine hK.out _ _ ?_ (fun hHeld=>?_)
       ·exact HS9.out
       clear hK K;try simp only [Act.put,gD,gE,gF]
       refine aE.done (by kernel_rfl) ?_ _;cases bt
       ·go_wp2_with fail
        go_roundw
        case rel=>exact ⟨mo,i+1,F2,V2,rfl,by go_num,hil,HL9.out,HQO9.out,HMW.out.1,HMW.out.2⟩
        case measure=>simp only [intOf];omega
       ·have HR:=Ha (HRK.out rfl);have hld:=HL9.out.below (gR _ _).drew;have hfz:∀ j,w9.frozen? ⟨bF,j,none⟩=false:=fun j=>by
         obtain ⟨cur,h1,_⟩:=HL9.out.wo.row;simp [World.frozen?,h1]
        have fz1:=hfz (lf*3+1);have fz2:=hfz (lf*3+2);obtain ⟨⟨_,s1⟩,f1,⟨_,s2⟩,f2,⟨_,s3⟩,f3⟩:=hld.wo.stores hlm (.bool xo) (.bool xl);have hput:=hld.put HG.out hlm (x:=(xo,xl,xw)) (A:=Aj) (c:=cj) HJI9.out (fun _ h1 h2=>(Gm.Der.of_rule HLF.out.2.2).2 ⟨rr,HRU.out,HD.out.1 h1 h2⟩) (fun h=>by have:=HLF.out.2.1;omega) HD.out.2.1 HD.out.2.2;have hbf:bo≠bF:=TB.ne (T:=184) ⟨_,HQO9.out⟩ HL9.out.wo.tb (by decide);have HQX:=Ha (((gU _ _ _ _ hbf).trans (gU _ _ _ _ hbf)).trans ((gU _ _ _ _ hbf).trans HQO9.out):(((w9.drew.setCell ⟨bF,lf*3,none⟩ (.bool xo)).setCell ⟨bF,lf*3+1,none⟩ (.bool xl)).setCell ⟨bF,lf*3+2,none⟩ (.slice Aj xw.length cj)).heap[bo]? = _);have HPUT:=Ha hput;have HRP:=Ha (show mWo (((w9.drew.setCell ⟨bF,lf*3,none⟩ (.bool xo)).setCell ⟨bF,lf*3+1,none⟩ (.bool xl)).setCell ⟨bF,lf*3+2,none⟩ (.slice Aj xw.length cj)) bF m<M0 from by
         have h1:=hput.wo.meas;have h2:=CX hlm HR.out;have h3:=HMW.out.1;rw [HL9.out.wo.meas] at h3;exact gK (Nat.lt_of_le_of_lt (Nat.le_of_eq h1) h2) h3)
        have HSX:=Ha (show (fun X:World=>X.cell? ⟨b9,0,none⟩=some (.bool xo)∧X.cell? ⟨b9,1,none⟩=some (.bool xl)∧X.cell? ⟨b9,2,none⟩=some (.slice Aj xw.length cj)∧X.cell? ⟨bw,0,none⟩=some (.slice (some ⟨bF,0,none⟩) m m)∧X.cell? ⟨b8,0,none⟩=some (.int .i64 lf)) w9.drew from by
         have h:=HS9.out;exact ⟨h.2.1,h.2.2.1,h.2.2.2.1,h.2.2.2.2.1,h.2.2.2.2.2.1⟩)
        clear hfz hld hput hbf HL9 HQO9 HMW HS9 HSS HRK;go_wp2_with fail;refine aE.start 8 (fun X=>X.cell? ⟨b9,0,none⟩=some (.bool xo)∧X.cell? ⟨b9,1,none⟩=some (.bool xl)∧X.cell? ⟨b9,2,none⟩=some (.slice Aj xw.length cj)∧X.cell? ⟨bw,0,none⟩=some (.slice (some ⟨bF,0,none⟩) m m)∧X.cell? ⟨b8,0,none⟩=some (.int .i64 lf)) (by kernel_rfl) ?hs_2 (fun hHeld=>?hr_2)
        case hs_2=>exact HSX.out
        refine aE.tks [0,1,2,3,4,5,6,7] ?_ (by kernel_rfl) (by assumption)
        iterate 8
         refine aK.cons ?_ (by rfl) (by rfl) (by intro w h;(try dsimp only at h);simp only [gA,gB,gC];go_simp;try with_reducible rfl) (by exact fun _ _ _ h=>h);simp only [gA,gB,gC,Act.put,gD,gE,gF]
        show aE _ _ _ _ _ _ _ _ _ _;refine aE.last (by kernel_rfl) rfl fun K hK=>?_;simp only [gA,gB,gC]
        go_simp
        refine hK.out _ _ (aE.done (by kernel_rfl) ?_ _);go_wp2_with fail
        go_roundw
        case rel=>exact ⟨true,i+1,_,_,rfl,by go_num,hil,HPUT.out,HQX.out,Nat.le_of_lt HRP.out,fun _=>HRP.out⟩
        case measure=>simp only [intOf];omega
      ·obtain rfl:i=g.rules.length:=by omega
       have HMM:=Ha HLT.out;clear hil HLT;cases mo
       ·go_wp2_with fail
        go_roundw
        case rel=>exact ⟨false,F2,V2,rfl,HL2.out,HQ2.out⟩
        case measure=>
         have h1:=HMM.out.1;have h2:=HM0.out;simp only [fF];omega
       ·go_wp2_with fail
        go_roundw
        case rel=>exact ⟨true,F2,V2,rfl,HL2.out,HQ2.out⟩
        case measure=>
         have h1:=HMM.out.2 rfl;have h2:=HM0.out;simp only [fF];omega
structure Ro (w:World) (br bW n:Nat) (W:Nat→Option (List Int)) (V:Nat→Value) (vw:Value):Prop where
 box:w.heap[br]? = some (.cells #[.slice (some ⟨bW,0,none⟩) n n,vw] 96 (0,0))
 row:w.rowIs bW 26 n V
 its:∀ i,i<n→match W i with
  | none=>V i=.slice none 0 0
  | some l=>∃ b c,V i=.slice (some ⟨b,0,none⟩) l.length c∧aF (TB 3 w) w (V i) l
theorem Ro.below {w w':World} {br bW n:Nat} {W:Nat→Option (List Int)} {V:Nat→Value} {vw:Value} (h:Ro w br bW n W V vw) (hb:Below w.heap.size w w'):Ro w' br bW n W V vw:=
 ⟨(hb.block _ (gL h.box).1).trans h.box,bK h.row hb,fun i hi=>by
  have h1:=h.its i hi;cases hW:W i with
  | none=>rw [hW] at h1;exact h1
  | some l=>
   rw [hW] at h1;obtain ⟨b,c,h2,h3⟩:=h1;exact ⟨b,c,h2,aH.keepT h3 fun k hk=>hb.block _ hk.lt⟩⟩
theorem IT (w:World) (br bW n:Nat) (W:Nat→Option (List Int)) (V:Nat→Value) (vw:Value) (h:Ro w br bW n W V vw):
  Calls Tryz.prog 110 #[.pointer (some ⟨br,0,none⟩)] w fun e w'=>e=.returned (.int .i64 n)∧w'=w:=by
 have y0:=aA h.box 0 _ rfl;clear h;go_enter Tryz.func110,Tryz.ntmps110;go_wp2_with fail;go_ret;exact ⟨rfl,rfl⟩
theorem BX {w:World} {k:Nat} {l:List Int} (q:w.heap[k]? = some (.cells (l.map (Value.int .i64)).toArray 3 (0,0))) (hl:l.length≤1000000):aF (TB 3 w) w (.slice (some ⟨k,0,none⟩) l.length l.length) l:=
 ⟨_,_,rfl,gO _,by unfold maxLen;omega,fun _=>⟨k,0,rfl,⟨_,q⟩,fun i hi=>by
  refine ⟨[.int .i64 l[i]],rfl,rfl,fun j u hj=>?_⟩;obtain rfl:j=0:=by have:=(gY hj).1;simpa using this
  simp at hj;subst hj;exact aA q _ _ (by simp [hi])⟩⟩
theorem CF (G:Nat→Prop) (w:World) (b0 c:Nat) (l:List Int) (s:Int) (hG:∀ k,G k→k<w.heap.size) (hl:aF G w (.slice (some ⟨b0,0,none⟩) l.length c) l) (hll:l.length≤100000):
  Calls Tryz.prog 47 #[.slice (some ⟨b0,0,none⟩) l.length c,.int .i64 s] w fun e w'=>(∃ b,e=.returned (.slice (some ⟨b,0,none⟩) (l++[s]).length (l++[s]).length)∧w.heap.size≤b∧aF (TB 3 w') w' (.slice (some ⟨b,0,none⟩) (l++[s]).length (l++[s]).length) (l++[s]))∧Below w.heap.size w w':=by
 obtain ⟨n,hn⟩:∃ n,n=l.length+1:=⟨_,rfl⟩;have hm1:IntKind.i64.wrap ((l.length:Int)+1)=(n:Int):=by rw [hn];exact IntWalk.i64_in _ (by omega)
 have hmk:=run_make_row' (P:=Tryz.prog) 26 3 (.int .i64 0) 8 Tryz.underlying26 cB rfl .i64 .i64 n (by omega) (by omega) w;have q1:=aC w (.cells (madeCells #[.int .i64 0] n) 3);have hb1:Below w.heap.size w (w.alloc (.cells (madeCells #[.int .i64 0] n) 3)):=(gR _ _).alloc (gO _) _;generalize hW1:w.alloc (.cells (madeCells #[.int .i64 0] n) 3)=w1 at *;have hl1:=aF.below hG hb1 hl;have hi:(Tryz.prog.info? 3).map (·.size)=some 1:=by kernel_rfl
 have hcp:=run_copy_row Tryz.prog w1 26 26 3 3 w.heap.size 0 n n ⟨b0,0,none⟩ l.length c _ 3 (l.map (Value.int .i64)) Tryz.underlying26 hi q1 (by rw [List.length_map];show _=min _ _;omega) (fun j v hj=>by
  have hj2:=(gY hj);obtain ⟨hj3,hj4⟩:=hj2;have hj5:j<l.length:=by simpa using hj3
  obtain ⟨bb,off,e,hc⟩:=aF.get hl1 hj5
  injection e with e
  injection e with e1 e2
  subst e1 e2;have e:(⟨b0,0,none⟩:Addr).add j=⟨b0,0+j,none⟩:=by unfold Addr.add;split <;> simp_all
  rw [e,hc,← hj4];simp) (by rw [List.length_map,size_madeCells];omega) (fun v hv=>by
  obtain ⟨x,_,rfl⟩:=List.mem_map.1 hv;rfl)
 have hrow:((madeCells #[Value.int .i64 0] n).toList.take 0++l.map (Value.int .i64)++(madeCells #[Value.int .i64 0] n).toList.drop (0+(l.map (Value.int .i64)).length)).toArray=(l.map (Value.int .i64)++[Value.int .i64 0]).toArray:=by
  rw [toList_madeCells_one,List.length_map,hn];simp
 rw [hrow] at hcp;have q2:(w1.setRow w.heap.size (l.map (Value.int .i64)++[Value.int .i64 0]).toArray).heap[w.heap.size]? = some (.cells (l.map (Value.int .i64)++[Value.int .i64 0]).toArray 3 (0,0)):=dA q1;have hb2:Below w.heap.size w (w1.setRow w.heap.size (l.map (Value.int .i64)++[Value.int .i64 0]).toArray):=hb1.trans ⟨rfl,rfl,rfl,by simp [World.setRow],fun k hk=>dS (Nat.ne_of_lt hk)⟩;generalize hW2:w1.setRow w.heap.size (l.map (Value.int .i64)++[Value.int .i64 0]).toArray=w2 at *;have y2:=aA q2 l.length (.int .i64 0) (by simp);have f2:w2.frozen? ⟨w.heap.size,l.length,none⟩=false:=by simp [World.frozen?,q2]
 have q3:(w2.setCell ⟨w.heap.size,l.length,none⟩ (.int .i64 s)).heap[w.heap.size]? = some (.cells ((l++[s]).map (Value.int .i64)).toArray 3 (0,0)):=by
  rw [aO q2];simp
 have HF:=Ha (gS (BX q3 (by simp;omega)) (hb2.setCell (p:=⟨w.heap.size,l.length,none⟩) (gO _) (.int .i64 s)));have HN:=Ha (show (l++[s]).length=n from by simp [hn]);have hln:l.length<n:=by omega
 clear hn hb1 hb2 hl hl1 q1 q2 q3 hrow hG;go_enter Tryz.func47,Tryz.ntmps47;go_wp2_with fail;go_ret;exact ⟨⟨w.heap.size,by rw [HN.out];rfl,gO _,HF.out.1⟩,HF.out.2⟩
end Go.Proofs.YtpidmmfjcghmeaaGreat
