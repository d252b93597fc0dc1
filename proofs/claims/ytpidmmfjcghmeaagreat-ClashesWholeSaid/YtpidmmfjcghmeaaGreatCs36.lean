/- Towards clashesWhole_upto. -/
import Derived.Test.YtpidmmfjcghmeaaGreatCs32
import Derived.Test.YtpidmmfjcghmeaaGreatCs33
import Derived.Laws.NewBlocks
set_option maxRecDepth 100000
set_option maxHeartbeats 16000000
set_option linter.all false
namespace Go.Proofs.YtpidmmfjcghmeaaGreat
open Go.RowKit
section
attribute [local go_sem ↓] aI
structure RtI (g:Gm) (ks:List (List Itm)) (w0:World) (B N br bx bW bw bF:Nat) (F:Nat→Fd) (VF:Nat→Value) (v:Value) (wr:World) (W:Nat→Option (List Int)) (V:Nat→Value):Prop where
 box:wr.heap[bx]? = some (.cells #[.pointer (some ⟨br,0,none⟩)] 42 (0,0))
 ro:Ro wr br bW ks.length W V (.pointer (some ⟨bw,0,none⟩))
 wo:Wo wr N bw bF (g.top+1) F VF
 sts:cK (· < B) wr g v ks
 bel:Below w0.heap.size w0 wr
 le:w0.heap.size≤B∧B≤N∧B≤bW∧N≤wr.heap.size
section
variable {g:Gm} {ks:List (List Itm)} {w0:World} {B N br bx bW bw bF:Nat} {F:Nat→Fd} {VF:Nat→Value} {v:Value} {w w':World} {W:Nat→Option (List Int)} {V:Nat→Value}
theorem RtI.keepC {P:Nat→Prop} (h:RtI g ks w0 B N br bx bW bw bF F VF v w W V) (hc:Chg P w w') (hP:∀ k,P k→N≤k∧TB 3 w k) (hap:∀ i,i<ks.length→∀ b k c,V i=.slice (some ⟨b,0,none⟩) k c→0<k→TB 3 w b→¬P b):RtI g ks w0 B N br bx bW bw bF F VF v w' W V:=by
 have hT:∀ {T:TypeId} {k:Nat},TB T w k→T≠3→¬P k:=fun h1 h2 hp=>h1.ne (hP _ hp).2 h2 rfl;have hl:=h.le;refine ⟨(hc.same bx (gL h.box).1 (hT ⟨_,h.box⟩ (by decide))).trans h.box,h.ro.keepC hc (hT ⟨_,h.ro.box⟩ (by decide)) (hT h.ro.tb (by decide)) hap, ?_, ?_, ?_,by have:=hc.size;omega⟩
 ·exact h.wo.keep (hc.same _ (gL h.wo.box).1 (hT ⟨_,h.wo.box⟩ (by decide))) (hc.same _ h.wo.tb.lt (hT h.wo.tb (by decide))) fun k hk ht=>hc.same k ht.lt fun hp=>by have:=(hP k hp).1;omega
 ·exact h.sts.keep (fun _ h=>h) fun p hp=>gM (hc.same _ (by omega) fun hq=>by have:=(hP _ hq).1;omega)
 ·refine ⟨hc.os.trans h.bel.os,hc.tape.trans h.bel.tape,hc.output.trans h.bel.output,gP h.bel.size hc.size,fun k hk=>?_⟩;exact (hc.same k (by have:=h.bel.size;omega) fun hp=>by have:=(hP k hp).1;omega).trans (h.bel.block k hk)
theorem RtI.below (h:RtI g ks w0 B N br bx bW bw bF F VF v w W V) (hb:Below w.heap.size w w'):RtI g ks w0 B N br bx bW bw bF F VF v w' W V:=
 h.keepC (Chg.of (P:=fun _=>False) hb) (fun _ h=>h.elim) fun _ _ _ _ _ _ _ _ h=>h
theorem RtI.put (h:RtI g ks w0 B N br bx bW bw bF F VF v w W V) {t b c:Nat} (ht:t<ks.length) {l:List Int} (hl:aF (TB 3 w) w (.slice (some ⟨b,0,none⟩) l.length c) l):
  RtI g ks w0 B N br bx bW bw bF F VF v (w.setCell ⟨bW,t,none⟩ (.slice (some ⟨b,0,none⟩) l.length c)) (g4 W t l) (fun i=>if i=t then .slice (some ⟨b,0,none⟩) l.length c else V i):=by
 have hne:∀ k,k≠bW→(w.setCell ⟨bW,t,none⟩ (.slice (some ⟨b,0,none⟩) l.length c)).heap[k]? = w.heap[k]? := fun k hk=>gU _ _ _ _ hk;have hT:∀ {T:TypeId} {k:Nat},TB T w k→T≠26→k≠bW:=fun h1 h2 e=>h1.ne h.ro.tb h2 e;have hle:=h.le;refine ⟨(hne _ (hT ⟨_,h.box⟩ (by decide))).trans h.box,h.ro.put ht hl,h.wo.keep (hne _ (hT ⟨_,h.wo.box⟩ (by decide))) (hne _ (hT h.wo.tb (by decide))) (fun k _ hk=>hne _ (hT hk (by decide))),h.sts.keep (fun _ h=>h) (fun p hp=>gM (hne _ (by omega))),h.bel.setCell (p:=⟨bW,t,none⟩) (by simp only;omega) _,by simpa using hle⟩
end
theorem AJ (W:Nat→Option (List Int)):∀ n,cnW W n≤n
 | 0=>gO _
 | n+1=>by
  have h1:=AJ W n;have h2:=GK (W n).isSome;show cnW W n+nb (W n).isSome≤n+1;omega
def lC (n:Nat) (W:Nat→Option (List Int)) (xs:List Int):Prop:=∀ x∈xs,0≤x∧x<n∧(W x.toNat).isSome=true
theorem lC.put {n:Nat} {W:Nat→Option (List Int)} {xs:List Int} (h:lC n W xs) (t:Nat) (l:List Int):lC n (g4 W t l) xs:=fun x hx=>by
 obtain ⟨h1,h2,h3⟩:=h x hx;refine ⟨h1,h2, ?_⟩;unfold g4
 split
 ·rfl
 ·exact h3
structure RtJ (g:Gm) (ks:List (List Itm)) (w0:World) (B N br bx bW bw bF:Nat) (F:Nat→Fd) (VF:Nat→Value) (v:Value) (B2 cn0 p:Nat) (An:Option Addr) (cn:Nat) (now:List Int) (wr:World) (W:Nat→Option (List Int)) (V:Nat→Value) (nx:Value) (xs:List Int):Prop where
 ri:RtI g ks w0 B N br bx bW bw bF F VF v wr W V
 wv:Wv g ks W (fun x=>x∈now.drop p∨x∈xs)
 nok:lC ks.length W now
 xok:lC ks.length W xs
 row:aG B2 3 1 cF wr nx xs
 apart:∀ i,i<ks.length→∀ b k c,V i=.slice (some ⟨b,0,none⟩) k c→0<k→nx.ownBlock≠some b
 nat:aF (fun k=>k<B2∧TB 3 wr k) wr (.slice An now.length cn) now
 cnt:xs.length+cnW W ks.length≤cn0
 le:N≤B2∧B2≤wr.heap.size
section
variable {g:Gm} {ks:List (List Itm)} {w0:World} {B N br bx bW bw bF:Nat} {F:Nat→Fd} {VF:Nat→Value} {v:Value} {B2 cn0 p:Nat} {An:Option Addr} {cn:Nat} {now:List Int} {w w':World} {W:Nat→Option (List Int)} {V:Nat→Value} {nx:Value} {xs:List Int}
theorem RtJ.below (h:RtJ g ks w0 B N br bx bW bw bF F VF v B2 cn0 p An cn now w W V nx xs) (hb:Below w.heap.size w w'):RtJ g ks w0 B N br bx bW bw bF F VF v B2 cn0 p An cn now w' W V nx xs:=
 ⟨h.ri.below hb,h.wv,h.nok,h.xok,h.row.below hb,h.apart,aH.keep h.nat (fun k hk=>⟨hk.1,hk.2.of_eq (hb.block _ hk.2.lt)⟩) (fun p hp=>gM (hb.block _ hp.2.lt)) (fun _ _ h=>h),h.cnt,h.le.1,gP h.le.2 hb.size⟩
theorem RtJ.push (h:RtJ g ks w0 B N br bx bW bw bF F VF v B2 cn0 p An cn now w W V nx xs) (ha:Gm.Aut g ks) {i:Nat} (hi:i<ks.length) {l:List Int} (hWi:W i=some l) {s:Int} {t:Nat} (hst:(s,(t:Int))∈Gm.transK g ks ks[i] g.top) (hn:W t=none) {b c:Nat} (hfr:nx.ownBlock≠some b)
  (hl:aF (TB 3 w) w (.slice (some ⟨b,0,none⟩) (l++[s]).length c) (l++[s])) {w3:World} (hw3:w3=w.setCell ⟨bW,t,none⟩ (.slice (some ⟨b,0,none⟩) (l++[s]).length c)) (hcn:cn0≤100000):
  ∃ v' w4 V',WrA Tryz.prog #[26,26] 26 #[nx,.slice (some ⟨w3.heap.size,0,none⟩) 1 1] (w3.alloc (.cells #[.int .i64 (t:Int)] 3))=.ok v' w4∧RtJ g ks w0 B N br bx bW bw bF F VF v B2 cn0 p An cn now w4 (g4 W t (l++[s])) V' v' (xs++[(t:Int)])∧∀ k,k<B→w4.heap[k]? = w.heap[k]? := by
 obtain ⟨_,_,_,h4⟩:=Gm.mem_transK.1 hst;obtain ⟨hj,_⟩:=ha.idx (gN hi) (by omega) (Gm.mem_transK.1 hst).2.1 (Gm.mem_transK.1 hst).2.2.1;have ht:t<ks.length:=by omega
 have hp:=h.ri.put ht hl;have hwv:=h.wv.put ha hi hWi hst (by rw [yB];exact hn);rw [yB] at hwv;have hcp:=AK (l++[s]) ht hn;have hcnt:=h.cnt;have hle:=h.le;have hrl:=h.ri.le;have hTW:=h.ri.ro.tb;rw [← hw3] at hp;have hne:∀ k,k≠bW→w3.heap[k]? = w.heap[k]? := fun k hk=>by rw [hw3];exact gU _ _ _ _ hk
 have hsz:w3.heap.size=w.heap.size:=by rw [hw3];simp
 have hi3:∀ k,TB 3 w k→w3.heap[k]? = w.heap[k]? := fun k hk=>hne k fun e=>hk.ne hTW (by decide) e;have hr3:aG B2 3 1 cF w3 nx xs:=h.row.keep fun k hk=>hi3 k (h.row.tb hk).2;obtain ⟨v',w4,hrun,hr4,hc4,how⟩:=aG.pushC 26 Tryz.underlying26 cB rfl (by decide) cF.one 26 (us:=[.int .i64 (t:Int)]) (x:=(t:Int)) rfl rfl hr3 (by omega) (by unfold maxLen;omega) (by omega);have hap3:∀ j,j<ks.length→∀ b' k c',(if j=t then Value.slice (some ⟨b,0,none⟩) (l++[s]).length c else V j)=.slice (some ⟨b',0,none⟩) k c'→0<k→nx.ownBlock≠some b':=fun j hj2 b' k c' e hk=>by
  by_cases ej:j=t
  ·rw [if_pos ej] at e
   injection e with e1 _ _
   injection e1 with e1
   injection e1 with e1 _
   rw [← e1];exact hfr
  ·rw [if_neg ej] at e;exact h.apart j hj2 b' k c' e hk
 have hk4:∀ k,k<B2→TB 3 w3 k→w4.heap[k]? = w3.heap[k]? := fun k hk ht=>hc4.same k ht.lt fun e=>by have:=(hr3.tb e).1;omega
 refine ⟨v',w4,_,hrun,⟨hp.keepC hc4 (fun k hk=>⟨by have:=(hr3.tb hk).1;omega,(hr3.tb hk).2⟩) (fun j hj2 b' k c' e hk _ e2=>hap3 j hj2 b' k c' e hk e2), ?_,h.nok.put _ _, ?_,hr4, ?_, ?_, ?_,hle.1,gP (by omega) hc4.size⟩,fun k hk=>(hc4.same k (by have:=h.ri.bel.size;omega) fun e=>by have:=(hr3.tb e).1;omega).trans (hne k (by omega))⟩
 ·refine hwv.mono fun j _ hx=>.inl ?_;rcases hx with (h1 | h1) | h1
  ·exact .inl h1
  ·exact .inr (List.mem_append_left _ h1)
  ·exact .inr (by rw [h1];simp)
 ·intro x hx;rcases yC hx with hx | hx
  ·exact h.xok.put _ _ x hx
  ·rw [gV] at hx;subst hx;refine ⟨by omega,by omega, ?_⟩;rw [yB];unfold g4;rw [if_pos rfl];rfl
 ·intro j hj2 b' k c' e hk e2;rcases how with h5 | h5
  ·rw [h5] at e2;exact hap3 j hj2 b' k c' e hk e2
  ·rw [h5] at e2
   injection e2 with e2
   have:=hp.ro.nil? hj2;rcases this with ⟨_,h6⟩ | ⟨l',b'',c'',_,h6,h7⟩
   ·rw [h6] at e
    injection e with e1 _ _
    cases e1
   ·rw [h6] at e
    injection e with e1 e3 _
    injection e1 with e1
    injection e1 with e1 _
    obtain ⟨A',c3,e4,_,_,h8⟩:=h7;obtain ⟨b4,off,h9,h10,_⟩:=h8 (by omega)
    injection e4 with e4 _ _
    rw [h9] at e4
    injection e4 with e4
    injection e4 with e4 _
    have:=h10.lt;omega
 ·refine aH.keep h.nat (fun k hk=>?_) (fun q hq=>?_) fun _ _ h=>h
  ·have e1:=hi3 k hk.2;have h5:=hk.2.of_eq e1;exact ⟨hk.1,h5.of_eq (hk4 k hk.1 h5)⟩
  ·have e1:=hi3 _ hq.2;have h5:=hq.2.of_eq e1;exact gM ((hk4 _ hq.1 h5).trans e1)
 ·rw [gI,gZ];omega
theorem RtJ.done (h:RtJ g ks w0 B N br bx bW bw bF F VF v B2 cn0 p An cn now w W V nx xs) (hp:p<now.length) (hd:∀ i:Nat,(hi:i<ks.length)→now[p]=(i:Int)→∀ s t,(s,t)∈Gm.transK g ks ks[i] g.top→(W t.toNat).isSome=true):RtJ g ks w0 B N br bx bW bw bF F VF v B2 cn0 (p+1) An cn now w W V nx xs:=
 ⟨h.ri,h.wv.mono fun i hi hx=>by
  rcases hx with h1 | h1
  ·rw [List.drop_eq_getElem_cons hp] at h1;rcases List.mem_cons.1 h1 with h2 | h2
   ·exact .inr (hd i hi h2.symm)
   ·exact .inl (.inl h2)
  ·exact .inl (.inr h1),h.nok,h.xok,h.row,h.apart,h.nat,h.cnt,h.le⟩
end
def wD (g:Gm) (w:World) (e:Ending) (w':World):Prop:=
 ((g.kernels=none∧e=.returned (.tuple #[.pointer none,.int .i64 7]))∨∃ ks br bW bw bF W V F VF,g.kernels=some ks∧e=.returned (.tuple #[.pointer (some ⟨br,0,none⟩),.int .i64 0])∧Ro w' br bW ks.length W V (.pointer (some ⟨bw,0,none⟩))∧Wo w' w'.heap.size bw bF (g.top+1) F VF∧FOk g (g.top+1) F∧∀ i,i<ks.length→∃ l,W i=some l∧Gm.Path g ks l i∧l.length≤2000)∧Below w.heap.size w w'
theorem xE:(Tryz.prog.info? 26).map (fun i=>(i.zero,i.size,i.bytes))=some (some (.slice none 0 0),1,24):=by kernel_rfl
def RtB (g:Gm) (n:Nat) (w1:World) (v6:Value) (wx:World):Prop:=
 Below w1.heap.size w1 wx∧∃ bx br bW bw bF F VF,v6=.pointer (some ⟨bx,0,none⟩)∧w1.heap.size≤bW∧wx.heap[bx]? = some (.cells #[.pointer (some ⟨br,0,none⟩)] 42 (0,0))∧wx.heap[br]? = some (.cells #[.slice (some ⟨bW,0,none⟩) n n,.pointer (some ⟨bw,0,none⟩)] 96 (0,0))∧
  wx.heap[bW]? = some (.cells (madeCells #[.slice none 0 0] n) 26 (0,0))∧Wo wx wx.heap.size bw bF (g.top+1) F VF∧FOk g (g.top+1) F
theorem pM {w:World} {n:Nat} {cs:Array Value} {T:TypeId} (hn:n=w.heap.size):(w.alloc (.cells cs T)).heap[n]? = some (.cells cs T (0,0)):=by
 subst hn;exact aC w _
theorem jX {w:World} {n:Nat} {o:Obj} (hn:n<w.heap.size):(w.alloc o).heap[n]? = w.heap[n]? := Below.heap_alloc w o n hn
theorem lt1 (n:Nat):n<n+1:=by omega
theorem lt2 (n:Nat):n<n+1+1:=by omega
theorem lt3 (n:Nat):n<n+1+1+1:=by omega
theorem l7 {w:World} {b m i:Nat} {v:Value} {cs cs':Array Value} {T T':TypeId} (h:w.heap[b]? = some (.cells cs T (0,0))) (h':w.heap[m]? = some (.cells cs' T' (0,0))) (hT:T'≠T):(w.setCell ⟨b,i,none⟩ v).heap[m]? = w.heap[m]? :=
 gU _ _ _ _ fun e=>TB.ne (T:=T') (T':=T) ⟨_,h'⟩ ⟨_,h⟩ hT e
theorem I5 {wR:World} {N bx bw bF m:Nat} {F:Nat→Fd} {VF:Nat→Value} {u:Value} (hwo:Wo wR N bw bF m F VF) (qx:wR.heap[bx]? = some (.cells #[u] 42 (0,0))) (v:Value):Wo (wR.setCell ⟨bx,0,none⟩ v) N bw bF m F VF:=by
 have hT:∀ {T:TypeId} {k:Nat},TB T wR k→T≠42→(wR.setCell ⟨bx,0,none⟩ v).heap[k]? = wR.heap[k]? := fun h1 h2=>gU _ _ _ _ fun e=>h1.ne (T':=42) ⟨_,qx⟩ h2 e;exact hwo.keep (hT ⟨_,hwo.box⟩ (by decide)) (hT hwo.tb (by decide)) fun k _ hk=>hT hk (by decide)
theorem k7 {w Y:World} {bw bF m:Nat} {F:Nat→Fd} {VF:Nat→Value} (h:Wo w w.heap.size bw bF m F VF) (hb:Below w.heap.size w Y):Wo Y Y.heap.size bw bF m F VF:=(h.below hb).more hb.size
theorem D4 {wR Y:World} {bx bw bF m:Nat} {F:Nat→Fd} {VF:Nat→Value} {u v:Value} (hwo:Wo wR wR.heap.size bw bF m F VF) (qx:wR.heap[bx]? = some (.cells #[u] 42 (0,0))) (hb:Below (wR.setCell ⟨bx,0,none⟩ v).heap.size (wR.setCell ⟨bx,0,none⟩ v) Y):Wo Y Y.heap.size bw bF m F VF:=
 k7 ((I5 hwo qx v).more (by simp)) hb
theorem xW {g:Gm} {n:Nat} {w1 Y:World} {bx br bW bw bF:Nat} {F:Nat→Fd} {VF:Nat→Value} (hok:FOk g (g.top+1) F) (qx:Y.heap[bx]? = some (.cells #[.pointer (some ⟨br,0,none⟩)] 42 (0,0))) (qr:Y.heap[br]? = some (.cells #[.slice (some ⟨bW,0,none⟩) n n,.pointer (some ⟨bw,0,none⟩)] 96 (0,0)))
  (qW:Y.heap[bW]? = some (.cells (madeCells #[.slice none 0 0] n) 26 (0,0))) (hbel:Below w1.heap.size w1 Y) (hle:w1.heap.size≤bW) (wo:Wo Y Y.heap.size bw bF (g.top+1) F VF):RtB g n w1 (.pointer (some ⟨bx,0,none⟩)) Y:=
 ⟨hbel,bx,br,bW,bw,bF,F,VF,rfl,hle,qx,qr,qW,wo,hok⟩
theorem FX (G:Nat→Prop) (w:World) (vs:List Value) (g:Gm) (hG:∀ k,G k→k<w.heap.size) (hg:GmV G w vs g) (hw:GW g):
  Calls Tryz.prog 15 #[ag vs] w fun e w'=>wD g w e w':=by
 obtain ⟨A0,c0,A1,c1,A2,c2,W,ev,hW,⟨x0,x1,x2,x3⟩,HB,HX⟩:=GBox.go hG hg;rw [ev];have HG:=Ha hG;clear hG hg ev;have h2:=o7 G;have h3:=E4 G;unfold ag at h2 h3;have H2:=Ha h2;have H3:=Ha h3;have HW:=Ha hw;clear h2 h3 hw;have hWW:W.heap.size=w.heap.size+1:=by rw [← hW];simp
 go_enter Tryz.func15,Tryz.ntmps15;go_wp2_with fail;refine (H2.out _ _ g HX.out.old HX.out.gm HW.out).mono ?_;rintro e w1 ⟨hres,hb1⟩;have HX1:=Ha (HX.out.on hb1);have HB1:=Ha (HB.out.trans (hb1.mono HB.out.size));clear x0 x1 x2 x3 hb1;obtain ⟨x0,x1,x2,x3⟩:=HX1.out.cells;rcases hres with ⟨hk,rfl⟩ | ⟨ks,v,hk,rfl,hst⟩
 ·have HK:=Ha (gS hk HB1.out);clear hk;go_wp2_with fail;refine bodyPost_ret (v:=.tuple #[.pointer none,.int .i64 7]) (by simp [results,Tryz.results15,go_sem]) rfl ?_;exact ⟨.inl ⟨HK.out.1,rfl⟩,HK.out.2⟩
 ·obtain ⟨A,c,rfl,hAle,hcm⟩:=aH.shape hst;have hks:=Gm.kernels_aut hk;have hkl:=hks.len;have hk0:0<ks.length:=(gY hks.zero).1;have HK:=Ha hk;have HA:=Ha hks;have HST:=Ha (show cK (· < w1.heap.size) w1 g (.slice A ks.length c) ks from hst);have hmk:=fun X=>run_make_row' (P:=Tryz.prog) 92 26 (.slice none 0 0) 24 Tryz.underlying92 xE rfl .i64 .i64 ks.length (by omega) (by omega) X;have HS:=Ha (show ∀ X,Below w1.heap.size w1 X→X.cell? ⟨w.heap.size,0,none⟩=some (.slice A0 g.terms.length c0)∧X.cell? ⟨w.heap.size,1,none⟩=some (.slice A1 g.nons.length c1)∧X.cell? ⟨w.heap.size,2,none⟩=some (.slice A2 g.rules.length c2)∧X.cell? ⟨w.heap.size,3,none⟩=some (.int .i64 g.start) from
   fun X hX=>⟨(HX1.out.on hX).x0,(HX1.out.on hX).x1,(HX1.out.on hX).x2,(HX1.out.on hX).x3⟩)
  have HC:=Ha (fun X (hX:Below w1.heap.size w1 X)=>(H3.out X _ g (HX1.out.on hX).old (HX1.out.on hX).gm HW.out).mono fun e w' (hp:nM g X e w')=>gS hp (hX.trans (hp.2.mono hX.size)));have R0:=Ha (show Below w1.heap.size w1 w1.drew from (gR _ _).drew);have HEB:=Ha (show Below w1.heap.size w1 ((w1.alloc (.cells (madeCells #[.slice none 0 0] ks.length) 26)).drew)∧(w1.heap.size)<((w1.alloc (.cells (madeCells #[.slice none 0 0] ks.length) 26)).drew).heap.size∧((w1.alloc (.cells (madeCells #[.slice none 0 0] ks.length) 26)).drew).heap[w1.heap.size]? = some (.cells (madeCells #[.slice none 0 0] ks.length) 26 (0,0)) from by
   refine ⟨by first | exact ((gR _ _).alloc (by simp) _).drew | exact (((gR _ _).alloc (by simp) _).alloc (by simp) _).drew, ?_⟩;exact ⟨by show _<(w1.alloc (.cells (madeCells #[.slice none 0 0] ks.length) 26)).heap.size;simp,aC w1 (.cells (madeCells #[.slice none 0 0] ks.length) 26)⟩)
  have HEC:=Ha (show Below w1.heap.size w1 ((w1.alloc (.cells #[.pointer none] 42)).drew)∧(w1.heap.size)<((w1.alloc (.cells #[.pointer none] 42)).drew).heap.size∧((w1.alloc (.cells #[.pointer none] 42)).drew).heap[w1.heap.size]? = some (.cells #[.pointer none] 42 (0,0)) from by
   refine ⟨by first | exact ((gR _ _).alloc (by simp) _).drew | exact (((gR _ _).alloc (by simp) _).alloc (by simp) _).drew, ?_⟩;exact ⟨by show _<(w1.alloc (.cells #[.pointer none] 42)).heap.size;simp,aC w1 (.cells #[.pointer none] 42)⟩)
  have HED:=Ha (show Below w1.heap.size w1 (((w1.alloc (.cells (madeCells #[.slice none 0 0] ks.length) 26)).alloc (.cells #[.pointer none] 42)).drew)∧(w1.heap.size+1)<(((w1.alloc (.cells (madeCells #[.slice none 0 0] ks.length) 26)).alloc (.cells #[.pointer none] 42)).drew).heap.size∧(((w1.alloc (.cells (madeCells #[.slice none 0 0] ks.length) 26)).alloc (.cells #[.pointer none] 42)).drew).heap[w1.heap.size+1]? = some (.cells #[.pointer none] 42 (0,0))∧(w1.heap.size)<(((w1.alloc (.cells (madeCells #[.slice none 0 0] ks.length) 26)).alloc (.cells #[.pointer none] 42)).drew).heap.size∧(((w1.alloc (.cells (madeCells #[.slice none 0 0] ks.length) 26)).alloc (.cells #[.pointer none] 42)).drew).heap[w1.heap.size]? = some (.cells (madeCells #[.slice none 0 0] ks.length) 26 (0,0)) from by
   refine ⟨by first | exact ((gR _ _).alloc (by simp) _).drew | exact (((gR _ _).alloc (by simp) _).alloc (by simp) _).drew, ?_⟩;exact ⟨by show _<((w1.alloc (.cells (madeCells #[.slice none 0 0] ks.length) 26)).alloc (.cells #[.pointer none] 42)).heap.size;simp,(by have h:=aC (w1.alloc (.cells (madeCells #[.slice none 0 0] ks.length) 26)) (.cells #[.pointer none] 42);rw [World.size_alloc] at h;exact h),by show _<((w1.alloc (.cells (madeCells #[.slice none 0 0] ks.length) 26)).alloc (.cells #[.pointer none] 42)).heap.size;simp;omega,(Below.heap_alloc (w1.alloc (.cells (madeCells #[.slice none 0 0] ks.length) 26)) (.cells #[.pointer none] 42) w1.heap.size (by simp)).trans (aC w1 (.cells (madeCells #[.slice none 0 0] ks.length) 26))⟩)
  have HEE:=Ha (show Below w1.heap.size w1 (((w1.alloc (.cells #[.pointer none] 42)).alloc (.cells (madeCells #[.slice none 0 0] ks.length) 26)).drew)∧(w1.heap.size+1)<(((w1.alloc (.cells #[.pointer none] 42)).alloc (.cells (madeCells #[.slice none 0 0] ks.length) 26)).drew).heap.size∧(((w1.alloc (.cells #[.pointer none] 42)).alloc (.cells (madeCells #[.slice none 0 0] ks.length) 26)).drew).heap[w1.heap.size+1]? = some (.cells (madeCells #[.slice none 0 0] ks.length) 26 (0,0))∧(w1.heap.size)<(((w1.alloc (.cells #[.pointer none] 42)).alloc (.cells (madeCells #[.slice none 0 0] ks.length) 26)).drew).heap.size∧(((w1.alloc (.cells #[.pointer none] 42)).alloc (.cells (madeCells #[.slice none 0 0] ks.length) 26)).drew).heap[w1.heap.size]? = some (.cells #[.pointer none] 42 (0,0)) from by
   refine ⟨by first | exact ((gR _ _).alloc (by simp) _).drew | exact (((gR _ _).alloc (by simp) _).alloc (by simp) _).drew, ?_⟩;exact ⟨by show _<((w1.alloc (.cells #[.pointer none] 42)).alloc (.cells (madeCells #[.slice none 0 0] ks.length) 26)).heap.size;simp,(by have h:=aC (w1.alloc (.cells #[.pointer none] 42)) (.cells (madeCells #[.slice none 0 0] ks.length) 26);rw [World.size_alloc] at h;exact h),by show _<((w1.alloc (.cells #[.pointer none] 42)).alloc (.cells (madeCells #[.slice none 0 0] ks.length) 26)).heap.size;simp;omega,(Below.heap_alloc (w1.alloc (.cells #[.pointer none] 42)) (.cells (madeCells #[.slice none 0 0] ks.length) 26) w1.heap.size (by simp)).trans (aC w1 (.cells #[.pointer none] 42))⟩)
  clear hk hks hst x0 x1 x2 x3;go_wp2_with fail
  go_cut [6] (fun v6 wx=>RtB g ks.length w1 v6 wx)
  case first=>
   go_region_held3 (fun X=>X.cell? ⟨w.heap.size,0,none⟩=some (.slice A0 g.terms.length c0)∧X.cell? ⟨w.heap.size,1,none⟩=some (.slice A1 g.nons.length c1)∧X.cell? ⟨w.heap.size,2,none⟩=some (.slice A2 g.rules.length c2)∧X.cell? ⟨w.heap.size,3,none⟩=some (.int .i64 g.start))
    (exact HS.out _ (by first
     | exact R0.out
     | exact bW
     | exact ((gR _ _).alloc (by simp) _).drew
     | exact (((gR _ _).alloc (by simp) _).alloc (by simp) _).drew
     | (repeat (refine Below.alloc ?_ (by first | exact bW.size | (have:=bW.size;simp;omega)) _))
       first | exact bW | exact Below.setCell bW (by simp) _))
    (first
     | (go_at_call 46
        with_reducible refine Calls.mono (HC.out (w1.drew) R0.out) ?_
        rintro e wR ⟨⟨⟨bw, bF, F, VF, rfl, hwo, hok, hbw, hbF⟩, bR⟩, bW⟩;have qx := True.intro;have l1 := True.intro;have l2 := True.intro;have l3 := True.intro;have hsx := True.intro;have qm := True.intro;have lm1 := True.intro;have lm2 := True.intro;have lm3 := True.intro;have hsm := True.intro;dsimp only)
     | (go_at_call 46
        with_reducible refine Calls.mono (HC.out ((w1.alloc (.cells (madeCells #[.slice none 0 0] ks.length) 26)).drew) HEB.out.1) ?_
        rintro e wR ⟨⟨⟨bw, bF, F, VF, rfl, hwo, hok, hbw, hbF⟩, bR⟩, bW⟩;have qm := (bR.block (w1.heap.size) HEB.out.2.1).trans HEB.out.2.2;have qx := True.intro;have l1 := True.intro;have l2 := True.intro;have l3 := True.intro;have hsx := True.intro;have lm1 := (gL qm).1;have lm2 := Nat.lt_succ_of_lt lm1;have lm3 := Nat.lt_succ_of_lt lm2;have hsm := True.intro;dsimp only)
     | (go_at_call 46
        with_reducible refine Calls.mono (HC.out ((w1.alloc (.cells #[.pointer none] 42)).drew) HEC.out.1) ?_
        rintro e wR ⟨⟨⟨bw, bF, F, VF, rfl, hwo, hok, hbw, hbF⟩, bR⟩, bW⟩; have qx := (bR.block (w1.heap.size) HEC.out.2.1).trans HEC.out.2.2; have cx := aA qx 0 _ rfl; have fx : wR.frozen? ⟨w1.heap.size, 0, none⟩ = false := by simp [World.frozen?, qx]
        have l1 := (gL qx).1;have l2 := Nat.lt_succ_of_lt l1;have l3 := Nat.lt_succ_of_lt l2;have hsx := fun v => aO qx 0 v;have qm := True.intro;have lm1 := True.intro;have lm2 := True.intro;have lm3 := True.intro;have hsm := True.intro;dsimp only)
     | (go_at_call 46
        with_reducible refine Calls.mono (HC.out (((w1.alloc (.cells (madeCells #[.slice none 0 0] ks.length) 26)).alloc (.cells #[.pointer none] 42)).drew) HED.out.1) ?_
        rintro e wR ⟨⟨⟨bw, bF, F, VF, rfl, hwo, hok, hbw, hbF⟩, bR⟩, bW⟩; have qx := (bR.block (w1.heap.size + 1) HED.out.2.1).trans HED.out.2.2.1; have cx := aA qx 0 _ rfl; have fx : wR.frozen? ⟨w1.heap.size + 1, 0, none⟩ = false := by simp [World.frozen?, qx]
        have qm := (bR.block (w1.heap.size) HED.out.2.2.2.1).trans HED.out.2.2.2.2;have l1 := (gL qx).1;have l2 := Nat.lt_succ_of_lt l1;have l3 := Nat.lt_succ_of_lt l2;have hsx := fun v => aO qx 0 v;have lm1 := (gL qm).1;have lm2 := Nat.lt_succ_of_lt lm1;have lm3 := Nat.lt_succ_of_lt lm2;have hsm := fun v => (l7 (i := 0) (v := v) qx qm (by decide)).trans qm;dsimp only)
     | (go_at_call 46
        with_reducible refine Calls.mono (HC.out (((w1.alloc (.cells #[.pointer none] 42)).alloc (.cells (madeCells #[.slice none 0 0] ks.length) 26)).drew) HEE.out.1) ?_
        rintro e wR ⟨⟨⟨bw, bF, F, VF, rfl, hwo, hok, hbw, hbF⟩, bR⟩, bW⟩; have qm := (bR.block (w1.heap.size + 1) HEE.out.2.1).trans HEE.out.2.2.1; have qx := (bR.block (w1.heap.size) HEE.out.2.2.2.1).trans HEE.out.2.2.2.2; have cx := aA qx 0 _ rfl; have fx : wR.frozen? ⟨w1.heap.size, 0, none⟩ = false := by simp [World.frozen?, qx]
        have l1 := (gL qx).1;have l2 := Nat.lt_succ_of_lt l1;have l3 := Nat.lt_succ_of_lt l2;have hsx := fun v => aO qx 0 v;have lm1 := (gL qm).1;have lm2 := Nat.lt_succ_of_lt lm1;have lm3 := Nat.lt_succ_of_lt lm2;have hsm := fun v => (l7 (i := 0) (v := v) qx qm (by decide)).trans qm;dsimp only))
   all_goals
    go_wp2_with fail
    go_meet
    apply xW hok
    case qx=>
     first
      | (simp only [pM,jX,World.size_alloc,World.size_setCell,lt1,lt2,lt3,hsx,l1,l2,l3];rfl)
      | skip
    case qr=>
     first
      | (simp only [pM,jX,World.size_alloc,World.size_setCell,lt1,lt2,lt3];rfl)
      | skip
    case qW=>
     first
      | (simp only [pM,jX,World.size_alloc,World.size_setCell,lt1,lt2,lt3,hsm,qm,lm1,lm2,lm3];done)
      | skip
    case hbel=>
     (repeat (refine Below.alloc ?_ (by first | exact bW.size | (have:=bW.size;simp;omega)) _))
     first | exact bW | exact Below.setCell bW (by simp) _
    case hle=>first | exact gO _ | (have:=bW.size;simp;done) | (have:=bW.size;simp;omega) | (have:=bW.size;omega)
    case wo=>
     first
      | (refine k7 hwo ?_
         repeat (refine Below.alloc ?_ (by first | exact gO _ | (simp only [World.size_alloc, World.size_setCell]; omega)) _)
         exact gR _ _)
      | (apply D4 hwo qx
         repeat (refine Below.alloc ?_ (by first | exact gO _ | (simp only [World.size_alloc, World.size_setCell]; omega)) _)
         exact gR _ _)
  case rest=>
   obtain ⟨hb2,bx,br,bW,bw,bF,F,VF,rfl,hle,qx,qr,qW,hwo,hok⟩:=hcut;have HOK:=Ha hok;have hrow:wc.rowIs bW 26 ks.length fun _=>.slice none 0 0:=by
    have:=World.rowIs_made w1 (.slice none 0 0) ks.length 26;obtain ⟨cs,h1,h2⟩:=this;have e:=(aC w1 (.cells (madeCells #[.slice none 0 0] ks.length) 26)).symm.trans h1
    injection e with e
    injection e with e _
    subst e;exact ⟨_,qW,h2⟩
   have hri0:RtI g ks w w1.heap.size wc.heap.size br bx bW bw bF F VF (.slice A ks.length c) wc (fun _=>none) (fun _=>.slice none 0 0):=
    ⟨qx,⟨qr,hrow,fun _ _=>rfl⟩,hwo,HST.out.keep (fun _ h=>h) (fun p hp=>gM (hb2.block _ hp)),HB1.out.trans (hb2.mono HB1.out.size),⟨HB1.out.size,hb2.size,hle,gO _⟩⟩
   have hb3:Below wc.heap.size wc (wc.alloc (.cells #[] 3)):=(gR _ _).alloc (gO _) _;have q3:=aC wc (.cells #[] 3);generalize hW3:wc.alloc (.cells #[] 3)=w3 at *;have hri3:=hri0.below hb3;have y0:=aA hri0.box 0 _ rfl;have y1:=aA hri0.ro.box 0 _ rfl;have y2:=hri3.ro.row.cell hk0;have y3:=hri3.ro.row.frozen 0;have hri4:=hri3.put hk0 (b:=wc.heap.size) (c:=0) (l:=[]) ⟨_,_,rfl,gO _,gX _,fun h=>absurd h (Nat.lt_irrefl 0)⟩;rw [gH] at hri4;generalize hW4:w3.setCell ⟨bW,0,none⟩ (.slice (some ⟨wc.heap.size,0,none⟩) 0 0)=w4 at *;have hb5:Below w4.heap.size w4 (w4.alloc (.cells #[.int .i64 0] 3)):=(gR _ _).alloc (gO _) _;have q5:=aC w4 (.cells #[.int .i64 0] 3);generalize hW5:w4.alloc (.cells #[.int .i64 0] 3)=w5 at *;have HR5:=Ha (hri4.below hb5);have HN5:=Ha (rR q5);have hk0i:(0:Int)<(ks.length:Int):=by omega
   clear hb2 hle qx qr qW hwo hok hrow hri0 hb3 q3 hri3 hri4 hb5 q5 HST HS HC R0 hmk;go_wp2_with fail
   go_loopw [7] (fun nv wr=>∃ (Wy:Nat→Option (List Int)) (V:Nat→Value) (now:List Int),RtI g ks w w1.heap.size wc.heap.size br bx bW bw bF F VF (.slice A ks.length c) wr Wy V∧Wv g ks Wy (· ∈ now)∧lC ks.length Wy now∧∃ An cn,nv=.slice An now.length cn∧aF (TB 3 wr) wr (.slice An now.length cn) now) (fun nv wr=>2*nnW wr bW ks.length+min 1 (rY nv))
   case atStart=>exact ⟨_,_,[0],HR5.out,Wv.start hk0,(fun x hx=>by
    rw [gV] at hx;subst hx;exact ⟨by omega,by omega,rfl⟩),_,_,rfl,HN5.out⟩
   case round=>
    obtain ⟨Wy,V,now,hri,hwv,hnok,An,cn,rfl,hnat⟩:=hrel;obtain ⟨HRI,HWV,HNK,HNA,HME⟩:=Zh5 hri hwv hnok hnat hri.ro.meas;have y0:=aA hri.box 0 _ rfl;clear hri hwv hnok hnat HR5 HN5;by_cases hn0:now.length=0
    ·have hnn:now=[]:=yM hn0;have HE:=Ha (show ∀ i,i<ks.length→∃ l,Wy i=some l∧Gm.Path g ks l i∧l.length≤2000 from fun i hi=>by
      have h1:=HWV.out;rw [hnn] at h1;have h2:=(h1.mono fun _ _ h=>absurd h (by simp):Wv g ks Wy (fun _=>False)).all HK.out i hi;obtain ⟨l,hl⟩:=Option.isSome_iff_exists.1 h2;obtain ⟨h3,h4⟩:=h1.path i l hi hl;exact ⟨l,hl,h3,by omega⟩)
     clear hnn;rw [hn0];go_wp2_with fail;refine bodyPost_ret (v:=.tuple #[.pointer (some ⟨br,0,none⟩),.int .i64 0]) (by simp [results,Tryz.results15,go_sem]) rfl ?_;exact ⟨.inr ⟨ks,br,bW,bw,bF,Wy,V,F,VF,HK.out,rfl,HRI.out.ro,HRI.out.wo.more HRI.out.le.2.2.2,HOK.out,HE.out⟩,HRI.out.bel⟩
    ·have hn1:(0:Int)<(now.length:Int):=by omega
     have hn2:0<now.length:=by omega
     obtain ⟨B2,hB2⟩:∃ B2,B2=wr.heap.size:=⟨_,rfl⟩;obtain ⟨cn0,hcn0⟩:∃ c,c=cnW Wy ks.length:=⟨_,rfl⟩;have hcl:=AJ Wy ks.length;have HJ0:=Ha (show RtJ g ks w w1.heap.size wc.heap.size br bx bW bw bF F VF (.slice A ks.length c) B2 cn0 0 An cn now wr Wy V (.slice none 0 0) [] from
      ⟨HRI.out,HWV.out.mono fun _ _ h=>.inl (.inl (by simpa using h)),HNK.out,(fun x hx=>by cases hx),aG.nil _ _ _ _ _,(fun _ _ _ _ _ _ _ h=>by simp [Value.ownBlock] at h),aH.keep HNA.out (fun k hk=>⟨by have:=hk.lt;omega,hk⟩) (fun _ _=>rfl) (fun _ _ h=>h),by rw [hcn0];simp,by have:=HRI.out.le;omega⟩)
     have HCN:=Ha (gS hcn0 (show cn0≤2000 by omega));have HB2:=Ha hB2;have q31:∀ (w:World) (a:Option Addr) (n c:Nat),(binOp .eql 26 (.slice a n c) (.slice none 0 0)).run Tryz.prog w=.ok (.bool a.isNone) w:=fun w a n c=>Lib.run_eql_slice_nil w 26 3 a n c 0 0 Tryz.underlying26;clear hB2 hcn0 hcl HRI HWV HNK HNA y0;go_wp2_with fail
     go_loopw [8,40] (fun nx iv wq=>∃ (p:Nat) (W2:Nat→Option (List Int)) (V2:Nat→Value) (xs:List Int),p≤now.length∧iv=.int .i64 p∧RtJ g ks w w1.heap.size wc.heap.size br bx bW bw bF F VF (.slice A ks.length c) B2 cn0 p An cn now wq W2 V2 nx xs) (fun _ iv _=>now.length-(intOf iv).toNat)
     case atStart=>exact ⟨0,Wy,V,[],gX _,rfl,HJ0.out⟩
     case round=>
      obtain ⟨p,W2,V2,xs,hp,rfl,hj⟩:=hrel;have HJ:=Ha hj;obtain ⟨Ax,cx,rfl,_⟩:=hj.row.shape;clear HJ0;have hnl:now.length≤9223372036854775807:=by
       obtain ⟨_,_,_,h1,h2⟩:=aH.shape hj.nat;unfold maxLen at h2;omega
      by_cases hlt:p<now.length
      ·obtain ⟨bn,on,rfl,zn⟩:=aF.get hj.nat hlt;obtain ⟨h01,h02,h03⟩:=hj.nok _ (gN hlt);obtain ⟨i,hie⟩:∃ i:Nat,now[p]=(i:Int):=⟨now[p].toNat,by omega⟩;rw [hie] at zn h02;have hi:i<ks.length:=by omega
       have HIE:=Ha hie;obtain ⟨sb,so,Ai,ci,At,ct,rfl,_,_,z1,_,htr⟩:=hj.ri.sts.at_ hi;obtain ⟨tl,htl⟩:∃ tl,tl=Gm.transK g ks ks[i] g.top:=⟨_,rfl⟩;rw [← htl] at z1 htr;have HTL:=Ha htl;have HTR:=Ha htr;have htll:tl.length≤9223372036854775807:=by
        obtain ⟨_,_,_,h1,h2⟩:=aH.shape htr;unfold maxLen at h2;omega
       have hi0:(0:Int)≤(i:Int):=by omega
       have hi1:(i:Int)<(ks.length:Int):=by omega
       clear hj hie h01 h03 htl htr;go_wp2_with fail
       go_loopw [8,50] (fun nx iv wq=>∃ (j:Nat) (W3:Nat→Option (List Int)) (V3:Nat→Value) (xs3:List Int),j≤tl.length∧iv=.int .i64 j∧RtJ g ks w w1.heap.size wc.heap.size br bx bW bw bF F VF (.slice (some ⟨sb,so,none⟩) ks.length c) B2 cn0 p (some ⟨bn,on,none⟩) cn now wq W3 V3 nx xs3∧aR (· < w1.heap.size) wq (.slice At tl.length ct) tl∧∀ q (h:q<tl.length),q<j→(W3 tl[q].2.toNat).isSome=true) (fun _ iv _=>tl.length-(intOf iv).toNat)
       case atStart=>exact ⟨0,W2,V2,xs,gX _,rfl,HJ.out,HTR.out,fun _ _ h=>absurd h (yJ _)⟩
       case round=>
        obtain ⟨j,W3,V3,xs3,hj,rfl,hrj,hit,hdn⟩:=hrel;obtain ⟨HJ3,HIT,HDN⟩:=Zh3 hrj hit hdn;obtain ⟨Ax,cx,rfl,_⟩:=hrj.row.shape;clear HJ HTR zn z1;by_cases hjt:j<tl.length
        ·obtain ⟨bt,ot,rfl,hbt,y0,y1⟩:=aR.at_ hit hjt;obtain ⟨s,tt,hse,hte,hmem⟩:∃ (s:Int) (tt:Nat),tl[j].1=s∧tl[j].2=(tt:Int)∧(s,(tt:Int))∈Gm.transK g ks ks[i] g.top:=by
          have h1:tl[j]∈Gm.transK g ks ks[i] g.top:=HTL.out▸gN hjt;have h2:=(Gm.mem_transK.1 h1).2.2.2;exact ⟨_,_,rfl,h2,h2▸h1⟩
         rw [hse] at y0;rw [hte] at y1;have htt:tt<ks.length:=by
          obtain ⟨h1,h2,h3,h4⟩:=Gm.mem_transK.1 hmem;obtain ⟨h5,_⟩:=HA.out.idx (gN hi) (by omega) h2 h3;omega
         have HTE:=Ha hte;have HMEM:=Ha hmem;have hb5:Below wr.heap.size wr (wr.alloc (.cells #[.int .i64 s,.int .i64 tt] 102)):=(gR _ _).alloc (gO _) _;have q5:=aC wr (.cells #[.int .i64 s,.int .i64 tt] 102);generalize hW5:wr.alloc (.cells #[.int .i64 s,.int .i64 tt] 102)=w5 at *;have HB5:=Ha hb5;have HQ5:=Ha q5;have hj5:=hrj.below hb5;have HJ5:=Ha hj5;obtain ⟨r0,r1,_,_⟩:=aM q5 rfl;have u0:=aA hj5.ri.box 0 _ rfl;have u1:=aA hj5.ri.ro.box 0 _ rfl;have u2:=hj5.ri.ro.row.cell htt;have ht0:(0:Int)≤(tt:Int):=by omega
         have ht1:(tt:Int)<(ks.length:Int):=by omega
         have hnil:=hj5.ri.ro.nil? htt;clear hse hte hmem hb5 q5 hrj hit hdn hj5;have d0:w5.drew.cell? _=_:=r0;have d1:w5.drew.cell? _=_:=r1;have d2:w5.drew.cell? _=_:=u0;have d3:w5.drew.cell? _=_:=u1;go_wp2_with fail;rcases hnil with ⟨hWn,hVn⟩ | ⟨l',b',c',hWs,hVs,_⟩
         ·rw [hVn] at u2;have d4:w5.drew.cell? _=_:=u2;have h03:(W3 i).isSome=true:=by
           have:=(HJ5.out.nok _ (gN hlt)).2.2;rw [HIE.out,yB] at this;exact this
          obtain ⟨li,bi,cx2,hWi,hVi,hli⟩:=(HJ5.out.ri.ro.nil? hi).resolve_left fun h=>by rw [h.1] at h03;cases h03
          have u5:=HJ5.out.ri.ro.row.cell hi;rw [hVi] at u5;have hlil:=(HJ5.out.wv.path i li hi hWi).2;obtain ⟨ln,hln⟩:∃ ln,ln=li++[s]:=⟨_,rfl⟩;have hlg:=CF (TB 3 w5) w5.drew.drew bi cx2 li s (fun _ h=>h.lt) hli (by omega);rw [← hln] at hlg;have HLG:=Ha hlg;have HLN:=Ha hln;have RD:=Ha (show Below w5.heap.size w5 w5.drew.drew from (gR _ _).drew.drew);have HS:=Ha (show ∀ X,Below w5.heap.size w5 X→X.cell? ⟨wr.heap.size,0,none⟩=some (.int .i64 s)∧X.cell? ⟨wr.heap.size,1,none⟩=some (.int .i64 tt)∧X.cell? ⟨bx,0,none⟩=some (.pointer (some ⟨br,0,none⟩))∧X.cell? ⟨br,0,none⟩=some (.slice (some ⟨bW,0,none⟩) ks.length ks.length)∧X.cell? ⟨bW,i,none⟩=some (.slice (some ⟨bi,0,none⟩) li.length cx2) from
           fun X hX=>⟨aD r0 hX,aD r1 hX,aD u0 hX,aD u1 hX,aD u5 hX⟩)
          obtain ⟨HWN,HVN,HWI⟩:=Zh3 hWn hVn hWi;clear hlg hln hli hVi hWi hWn hVn h03 hlil
          go_region
          clear d0 d1 d2 d3 d4 r0 r1 u0 u1 u2 u5;go_wp2_with fail;refine aE.start 17 (fun X=>X.cell? ⟨wr.heap.size,0,none⟩=some (.int .i64 s)∧X.cell? ⟨wr.heap.size,1,none⟩=some (.int .i64 tt)∧X.cell? ⟨bx,0,none⟩=some (.pointer (some ⟨br,0,none⟩))∧X.cell? ⟨br,0,none⟩=some (.slice (some ⟨bW,0,none⟩) ks.length ks.length)∧X.cell? ⟨bW,i,none⟩=some (.slice (some ⟨bi,0,none⟩) li.length cx2)) (by kernel_rfl) ?hs_1 (fun hHeld=>?hr_1)
          case hs_1=>exact HS.out _ RD.out
          refine aE.tks [0,1,2,3,4,5,6,7,8,9,10,11,12,13,14] ?_ (by kernel_rfl) (by assumption)
          iterate 15
           refine aK.cons ?_ (by rfl) (by rfl) (by intro w h;(try dsimp only at h);simp only [gA,gB,gC];go_simp;try with_reducible rfl) (by exact fun _ _ _ h=>h);simp only [gA,gB,gC,Act.put,gD,gE,gF]
          show aE _ _ _ _ _ _ _ _ _ _;refine aE.one (i:=15) (by kernel_rfl) rfl fun K hK=>?_;simp only [gA,gB,gC]
          go_simp
          with_reducible refine Calls.mono HLG.out ?_
          rintro e w7 ⟨⟨b,rfl,hbf,hl7⟩,hb7⟩;dsimp only;have HB7:=Ha (show Below w5.heap.size w5 w7 from RD.out.trans hb7);have hj7:=HJ5.out.below HB7.out;have v7:=hj7.ri.ro.row.cell htt;have f7:=hj7.ri.ro.row.frozen tt;rw [HVN.out] at v7;have hc7:=aA ((HB7.out.block _ (gL HQ5.out).1).trans HQ5.out) 1 _ rfl;have hne8:(⟨wr.heap.size,1,none⟩:Addr).block≠bW:=by
           have h1:=hj7.ri.ro.tb;have h2:=HJ3.out.ri.ro.tb.lt;simp only;omega
          have hrlt:∀ k,(Value.slice Ax xs3.length cx).ownBlock=some k→k<wr.heap.size:=fun k hk=>(HJ3.out.row.tb hk).2.lt;have hs5:=HB5.out.size;obtain ⟨w8,hW8⟩:∃ w8,w7.setCell ⟨bW,tt,none⟩ (.slice (some ⟨b,0,none⟩) ln.length ln.length)=w8:=⟨_,rfl⟩;have hpush:=hj7.push HA.out hi HWI.out HMEM.out HWN.out (b:=b) (c:=ln.length) (fun e=>by
           have h1:=hrlt _ e;have h2:w5.heap.size≤b:=hbf;omega) (by rw [← HLN.out];exact hl7) (w3:=w8) (by rw [← hW8,← HLN.out]) (by have:=HCN.out.2;omega)
          obtain ⟨v9,w9,V9,hrun,hj9,hold9⟩:=hpush;obtain ⟨A9,c9,rfl,_⟩:=hj9.row.shape;have hc8:w8.cell? ⟨wr.heap.size,1,none⟩=some (.int .i64 tt):=by
           rw [← hW8,World.cell?_setCell_other _ _ _ _ (fun e=>hne8 (by rw [← e]))];exact hc7
          obtain ⟨xs9,hxs9⟩:∃ xs9,xs9=xs3++[(tt:Int)]:=⟨_,rfl⟩;rw [← hxs9] at hrun hj9;have HJ9:=Ha hj9;have HI9:=Ha (show aR (· < w1.heap.size) w9 (.slice (some ⟨bt,ot,none⟩) tl.length ct) tl from aH.keep HIT.out (fun _ h=>h) (fun p hp=>gM ((hold9 _ hp).trans ((HB7.out.block _ (by have:=HJ3.out.ri.le;omega)).trans (HB5.out.block _ (by have:=HJ3.out.ri.le;omega))))) fun _ _ h=>h);have HD9:=Ha (show ∀ q (h:q<tl.length),q<j+1→(g4 W3 tt (li++[s]) tl[q].2.toNat).isSome=true from fun q hq hqj=>by
           unfold g4
           split
           ·rfl
           ·rename_i hne;by_cases e:q=j
            ·subst e;rw [HTE.out,yB] at hne;exact absurd rfl hne
            ·exact HDN.out q hq (by omega))
          clear hj7 hj9 hold9 hb7 hl7 hbf hrlt hne8 hc7 hs5 hxs9;refine hK.out _ _ ?_ (fun hHeld=>?_)
          ·exact HS.out _ HB7.out
          clear hK K;try simp only [Act.put,gD,gE,gF]
          refine aE.tks [16] ?_ (by kernel_rfl) (by assumption)
          iterate 1
           refine aK.cons ?_ (by rfl) (by rfl) (by intro w h;(try dsimp only at h);simp only [gA,gB,gC];go_simp;try with_reducible rfl) (by exact fun _ _ _ h=>h);simp only [gA,gB,gC,Act.put,gD,gE,gF]
          show aE _ _ _ _ _ _ _ _ _ _;refine aE.last (by kernel_rfl) rfl fun K hK=>?_;simp only [gA,gB,gC]
          go_simp
          refine hK.out _ _ (aE.done (by kernel_rfl) ?_ _);go_wp2_with fail
          go_roundw
          case rel=>exact ⟨j+1,_,V9,xs9,hjt,by go_num,HJ9.out,HI9.out,HD9.out⟩
          case measure=>simp only [intOf];omega
         ·rw [hVs] at u2;have d4:w5.drew.cell? _=_:=u2;have HD:=Ha (show ∀ q (h:q<tl.length),q<j+1→(W3 tl[q].2.toNat).isSome=true from fun q hq hqj=>by
           by_cases e:q=j
           ·subst e;rw [HTE.out,yB,hWs];rfl
           ·exact HDN.out q hq (by omega))
          have HJD:=Ha (HJ5.out.below (gR w5.heap.size w5).drew);have HID:=Ha (show aR (· < w1.heap.size) w5.drew (.slice (some ⟨bt,ot,none⟩) tl.length ct) tl from aH.keep HIT.out (fun _ h=>h) (fun p hp=>gM (HB5.out.block _ (by have:=HJ3.out.ri.le;omega))) fun _ _ h=>h);clear hWs hVs
          go_region
          go_wp2_with fail
          go_roundw
          case rel=>exact ⟨j+1,W3,V3,xs3,hjt,by go_num,HJD.out,HID.out,HD.out⟩
          case measure=>simp only [intOf];omega
        ·obtain rfl:j=tl.length:=by omega
         have HJN:=Ha (hrj.done hlt fun i' hi' e s t hst=>by
          rw [HIE.out] at e;obtain rfl:i=i':=by omega
          rw [← HTL.out] at hst;obtain ⟨q,hq,e2⟩:=List.mem_iff_getElem.1 hst;have:=hdn q hq hq;rw [e2] at this;exact this)
         clear hrj hit hdn;go_wp2_with fail
         go_roundw
         case rel=>exact ⟨p+1,W3,V3,xs3,hlt,by go_num,HJN.out⟩
         case measure=>simp only [intOf];omega
      ·obtain rfl:p=now.length:=by omega
       have hso:=yQ hj.row (fun x hx=>⟨(hj.xok x hx).1,(hj.xok x hx).2.1⟩) hk0 (by have:=hj.cnt;have:=HCN.out.2;omega) hj.ri.ro hj.ri.box hj.apart;have HSO:=Ha hso;have HCT:=Ha hj.cnt;obtain ⟨xl,hxl⟩:∃ xl,xl=xs.length:=⟨_,rfl⟩;rw [← hxl] at HSO HCT;have HXL:=Ha hxl;clear hj hso hxl;rw [HXL.out.symm];go_wp2_with fail
       with_reducible refine Calls.mono HSO.out ?_
       rintro e w9 ⟨rfl,r,hrl,hr9,hmem,hc9⟩;have hrl:r.length=xl:=hrl;have hri9:=HJ.out.ri.keepC hc9 (fun k hk=>⟨by have h1:=(HJ.out.row.tb (by rw [← HXL.out];exact hk)).1;have h2:=HJ.out.le.1;omega,(HJ.out.row.tb (by rw [← HXL.out];exact hk)).2⟩) (fun i hi b k c' e hk _ e2=>HJ.out.apart i hi b k c' e hk (by rw [← HXL.out];exact e2));have HF:=Ha (show RtI g ks w w1.heap.size wc.heap.size br bx bW bw bF F VF (.slice A ks.length c) w9 W2 V2∧Wv g ks W2 (· ∈ r)∧lC ks.length W2 r∧aF (TB 3 w9) w9 (.slice Ax r.length cx) r∧nnW w9 bW ks.length=cnW W2 ks.length from by
        refine ⟨hri9,HJ.out.wv.mono fun i _ hx=>.inl ?_,fun x hx=>HJ.out.xok x ((hmem x).1 hx), ?_,hri9.ro.meas⟩
        ·rcases hx with hx | hx
         ·rw [List.drop_length] at hx;cases hx
         ·exact (hmem _).2 hx
        ·rw [hrl];exact aG.look hr9 fun k hk=>(aG.tb hr9 hk).2)
       have HRL:=Ha hrl;clear hrl hr9 hmem hc9 hri9;go_wp2_with fail
       go_roundw
       case rel=>exact ⟨W2,V2,r,HF.out.1,HF.out.2.1,HF.out.2.2.1,Ax,cx,by rw [HRL.out],HF.out.2.2.2.1⟩
       case measure=>
        have h1:=HF.out.2.2.2.2;have h2:=HME.out;have h3:=HCT.out;have h4:=HCN.out.1;rw [h1,h2];simp only [rY];omega
end
end Go.Proofs.YtpidmmfjcghmeaaGreat
