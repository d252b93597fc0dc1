/- Towards clashesWhole_upto. -/
import Derived.Test.YtpidmmfjcghmeaaGreatCs37
set_option maxRecDepth 100000
set_option maxHeartbeats 16000000
set_option linter.all false
namespace Go.Proofs.YtpidmmfjcghmeaaGreat
open Go.RowKit
theorem GBox.wide {G G':Nat→Prop} {w:World} {b:Nat} {A0 A1 A2:Option Addr} {c0 c1 c2:Nat} {g:Gm} (h:GBox G w b A0 c0 A1 c1 A2 c2 g) (hG:∀ k,G k→G' k) (ho:∀ k,G' k→k<w.heap.size):GBox G' w b A0 c0 A1 c1 A2 c2 g:=
 ⟨ho,h.lt,h.x0,h.x1,h.x2,h.x3,aH.keepG hG (fun _ _=>rfl) h.ht fun _ _ h=>h,aH.keepG hG (fun _ _=>rfl) h.hn fun _ _ h=>h,aH.keepG hG (fun _ _=>rfl) h.hr fun _ _ ⟨v,e,hv⟩=>⟨v,e,aH.keepG hG (fun _ _=>rfl) hv fun _ _ h=>h⟩⟩
structure Prep (w0:World) (G:Nat→Prop) (B bm:Nat) (A0:Option Addr) (c0:Nat) (A1:Option Addr) (c1:Nat) (A2:Option Addr) (c2:Nat) (g:Gm) (vl u8 u9 u10 u11 u12:Value) (bR:Nat) (F:Nat→Prop) (w:World) (vr vts:Value) (vs:List Value) (k1 k2 k3:Nat):Prop where
 gb:GBox G w bm A0 c0 A1 c1 A2 c2 g
 gF:∀ k,G k→F k
 box:w.heap[bm]? = some (.cells #[.slice A0 g.terms.length c0,.slice A1 g.nons.length c1,.slice A2 g.rules.length c2,.int .i64 g.start,vl,vr,vts,.slice (some ⟨bR,0,none⟩) (g.top+1) (g.top+1),u8,u9,u10,u11,u12] 248 (0,0))
 rs:aG B 26 1 (bJ fun v (k:Nat)=>aF F w v (g.rightAt k)) w vr (List.range k1)
 ts:aG B 293 1 (bJ fun v (k:Nat)=>aH F w 2 (dZ F w (g.terms.length+1)) v (g.rightAt k)) w vts (List.range k3)
 rl:Rl B F w bR (g.top+1) vs fun t=>ofR (t:Int) (g.rules.take k2) 0
 fr:∀ k,F k→k<w.heap.size∧k≠bm∧k≠bR∧vr.ownBlock≠some k∧vts.ownBlock≠some k
 rb:vr.ownBlock≠some bR
 bel:Below w0.heap.size w0 w
 le:w0.heap.size≤bm∧bm<B∧w0.heap.size≤B∧B≤bR∧B≤w.heap.size
section
variable {w0:World} {G:Nat→Prop} {B bm:Nat} {A0 A1 A2:Option Addr} {c0 c1 c2:Nat} {g:Gm} {vl u8 u9 u10 u11 u12:Value} {bR:Nat} {F F':Nat→Prop} {w w':World} {vr vts:Value} {vs:List Value} {k1 k2 k3:Nat}
theorem Prep.grow (h:Prep w0 G B bm A0 c0 A1 c1 A2 c2 g vl u8 u9 u10 u11 u12 bR F w vr vts vs k1 k2 k3) (hb:Below w.heap.size w w') (hF:∀ k,F k→F' k) (hF':∀ k,F' k→k<w'.heap.size∧(F k∨w.heap.size≤k)):Prep w0 G B bm A0 c0 A1 c1 A2 c2 g vl u8 u9 u10 u11 u12 bR F' w' vr vts vs k1 k2 k3:=by
 have hbm:=(gL h.box).1;have hk:∀ k,F k→w'.heap[k]? = w.heap[k]? := fun k hk=>hb.block k (h.fr k hk).1;have hR:=(gL h.rl.row).1;refine ⟨h.gb.on hb,fun k hk=>hF k (h.gF k hk),(hb.block _ hbm).trans h.box,(h.rs.below hb).mono (bJ.mono fun _ _ h=>aH.keepG hF hk h fun _ _ h=>h),(h.ts.below hb).mono (bJ.mono fun _ _ h=>aH.keepG hF hk h fun _ _ h=>h.keep hF hk),h.rl.grow hb fun k hk=>(hF' k hk).2,fun k hk=>⟨(hF' k hk).1, ?_⟩,h.rb,h.bel.trans (hb.mono h.bel.size),⟨h.le.1,h.le.2.1,h.le.2.2.1,h.le.2.2.2.1,gP h.le.2.2.2.2 hb.size⟩⟩;rcases (hF' k hk).2 with e | e
 ·exact (h.fr k e).2
 ·refine ⟨by omega,by omega,fun e2=>?_,fun e2=>?_⟩
  ·have:=(h.rs.tb e2).2.lt;omega
  ·have:=(h.ts.tb e2).2.lt;omega
theorem Prep.mt (h:Prep w0 G B bm A0 c0 A1 c1 A2 c2 g vl u8 u9 u10 u11 u12 bR F w vr vts vs (g.rules.length+1) k2 (g.rules.length+1)) (hk2:g.rules.length≤k2) (ht:g.top≤1000):Mt (· < w.heap.size) w bm A0 c0 A1 c1 A2 c2 g vr vts (.slice (some ⟨bR,0,none⟩) (g.top+1) (g.top+1)):=by
 have hFl:∀ k,F k→k<w.heap.size:=fun k hk=>(h.fr k hk).1;have hu:=h.rl.slAt (by unfold maxLen;omega);simp only [List.take_of_length_le hk2] at hu;exact ⟨h.gb.wide (fun k hk=>hFl k (h.gF k hk)) (fun _ h=>h),aA h.box 5 _ rfl,aA h.box 6 _ rfl,aA h.box 7 _ rfl,
  aG.look (h.rs.mono (bJ.mono fun _ _ h=>aH.keepG hFl (fun _ _=>rfl) h fun _ _ h=>h)) fun k hk=>(h.rs.tb hk).2.lt,
  aG.look (h.ts.mono (bJ.mono fun _ _ h=>aH.keepG hFl (fun _ _=>rfl) h fun _ _ h=>h.keep hFl (fun _ _=>rfl))) fun k hk=>(h.ts.tb hk).2.lt,hu⟩
end
section
variable {w0:World} {G:Nat→Prop} {B bm:Nat} {A0 A1 A2:Option Addr} {c0 c1 c2:Nat} {g:Gm} {vl u8 u9 u10 u11 u12:Value} {bR:Nat} {F F':Nat→Prop} {w w':World} {vr vts:Value} {vs:List Value} {k1 k2 k3:Nat}
theorem bJ.one {β:Type} {P:Value→β→Prop} (hP:∀ v x,P v x→v.oneCell'=true):∀ (vs:List Value) (x:β),bJ P vs x→∀ u∈vs,u.oneCell'=true:=by
 rintro vs x ⟨v,rfl,hv⟩ u hu;simp at hu;subst hu;exact hP _ _ hv
theorem BR:(Tryz.prog.info? 293).map (fun i=>(i.zero,i.size,i.bytes))=some (some (.slice none 0 0),1,24):=by kernel_rfl
theorem Prep.pushRight (h:Prep w0 G B bm A0 c0 A1 c1 A2 c2 g vl u8 u9 u10 u11 u12 bR F w vr vts vs k1 k2 k3) {rv:Value} (hrv:aF F w rv (g.rightAt k1)) (hkl:k1≤1000):
  ∃ A4 c4 w4 w5,WrA Tryz.prog #[92,92] 92 #[vr,.slice (some ⟨w.heap.size,0,none⟩) 1 1] (w.alloc (.cells #[rv] 26))=.ok (.slice A4 (k1+1) c4) w4∧w4.setCell ⟨bm,5,none⟩ (.slice A4 (k1+1) c4)=w5∧(w.alloc (.cells #[rv] 26)).heap[bm]? = w.heap[bm]? ∧ w4.heap[bm]? = w.heap[bm]? ∧ w4.cell? ⟨bm,5,none⟩=some vr∧w4.frozen? ⟨bm,5,none⟩=false∧Chg (fun k=>k=bm∨vr.ownBlock=some k) w w5∧Prep w0 G B bm A0 c0 A1 c1 A2 c2 g vl u8 u9 u10 u11 u12 bR F w5 (.slice A4 (k1+1) c4) vts vs (k1+1) k2 k3:=by
 obtain ⟨A4,c4,w4,w5,hrun,hW5,e3,e4,y5,f5,hbm5,y55,hr5,hc5,how⟩:=kW (i:=5) (v:=vr) (t:=92) Tryz.underlying92 rL rfl (by decide) (bJ.one fun v x hv=>by obtain ⟨A,c,rfl,_⟩:=aH.shape hv;rfl) (us:=[rv]) (x:=k1) rfl ⟨rv,rfl,hrv⟩ h.box rfl (by decide) h.rs (by rw [yG];omega) (by rw [yG];unfold maxLen;omega) h.le.2.2.2.2;rw [gI,gZ,yG] at hrun hW5 hbm5 y55 hr5 how;refine ⟨A4,c4,w4,w5,hrun,hW5,e3,e4,y5,f5,hc5, ?_⟩;have hk:∀ k,F k→w5.heap[k]? = w.heap[k]? := fun k hk=>hc5.same k (h.fr k hk).1 fun e=>e.elim (h.fr k hk).2.1 (h.fr k hk).2.2.2.1;have hTb:TB 248 w bm:=⟨_,h.box⟩;have hTR:TB 26 w bR:=⟨_,h.rl.row⟩;have hbl:=h.le;refine ⟨h.gb.again hc5.size (fun i hi=>?_) fun k hk'=>hk k (h.gF k hk'),h.gF,hbm5, ?_, ?_,h.rl.on (hc5.same bR hTR.lt fun e=>e.elim (fun e=>hTR.ne hTb (by decide) e) h.rb) (fun t ht k hk'=>hc5.same k (h.rl.lt ht hk').2.1.lt fun e=>e.elim (fun e=>(h.rl.lt ht hk').2.1.ne hTb (by decide) e) fun e=>(h.rl.lt ht hk').2.1.ne (h.rs.tb e).2 (by decide) rfl) fun k hk=>.inl hk,fun k hk'=>?_,fun e=>?_,h.bel.trans (hc5.below (fun k e=>?_) h.bel.size),⟨hbl.1,hbl.2.1,hbl.2.2.1,hbl.2.2.2.1,gP hbl.2.2.2.2 hc5.size⟩⟩
 ·match i,hi with
  | 0,_=>exact (aA hbm5 0 _ rfl).trans (aA h.box 0 _ rfl).symm
  | 1,_=>exact (aA hbm5 1 _ rfl).trans (aA h.box 1 _ rfl).symm
  | 2,_=>exact (aA hbm5 2 _ rfl).trans (aA h.box 2 _ rfl).symm
  | 3,_=>exact (aA hbm5 3 _ rfl).trans (aA h.box 3 _ rfl).symm
 ·rw [List.range_succ];exact hr5.mono (bJ.mono fun _ _ h=>aH.keepG (fun _ h=>h) hk h fun _ _ h=>h)
 ·exact (h.ts.keep fun k hk'=>hc5.same k (h.ts.tb hk').2.lt fun e=>e.elim (fun e=>(h.ts.tb hk').2.ne hTb (by decide) e) fun e=>(h.ts.tb hk').2.ne (h.rs.tb e).2 (by decide) rfl).mono (bJ.mono fun _ _ h=>aH.keepG (fun _ h=>h) hk h fun _ _ h=>h.keep (fun _ h=>h) hk)
 ·obtain ⟨f1,f2,f3,f4,f5⟩:=h.fr k hk';refine ⟨gK f1 hc5.size,f2,f3,fun e=>?_,f5⟩;rcases how with hw | hw
  ·exact f4 (hw▸e)
  ·rw [hw] at e
   injection e with e
   omega
 ·rcases how with hw | hw
  ·exact h.rb (hw▸e)
  ·rw [hw] at e
   injection e with e
   have:=hTR.lt;omega
 ·rcases e with rfl | e
  ·exact hbl.1
  ·exact gP hbl.2.2.1 (h.rs.tb e).1
theorem Prep.pushTail (h:Prep w0 G B bm A0 c0 A1 c1 A2 c2 g vl u8 u9 u10 u11 u12 bR F w vr vts vs k1 k2 k3) {rv:Value} (hrv:aH F w 2 (dZ F w (g.terms.length+1)) rv (g.rightAt k3)) (hkl:k3≤1000):
  ∃ A4 c4 w4 w5,WrA Tryz.prog #[243,243] 243 #[vts,.slice (some ⟨w.heap.size,0,none⟩) 1 1] (w.alloc (.cells #[rv] 293))=.ok (.slice A4 (k3+1) c4) w4∧w4.setCell ⟨bm,6,none⟩ (.slice A4 (k3+1) c4)=w5∧(w.alloc (.cells #[rv] 293)).heap[bm]? = w.heap[bm]? ∧ w4.heap[bm]? = w.heap[bm]? ∧ w4.cell? ⟨bm,6,none⟩=some vts∧w4.frozen? ⟨bm,6,none⟩=false∧Chg (fun k=>k=bm∨vts.ownBlock=some k) w w5∧Prep w0 G B bm A0 c0 A1 c1 A2 c2 g vl u8 u9 u10 u11 u12 bR F w5 vr (.slice A4 (k3+1) c4) vs k1 k2 (k3+1):=by
 obtain ⟨A4,c4,w4,w5,hrun,hW5,e3,e4,y5,f5,hbm5,y55,hr5,hc5,how⟩:=kW (i:=6) (v:=vts) (t:=243) Tryz.underlying243 BR rfl (by decide) (bJ.one fun v x hv=>by obtain ⟨A,c,rfl,_⟩:=aH.shape hv;rfl) (us:=[rv]) (x:=k3) rfl ⟨rv,rfl,hrv⟩ h.box rfl (by decide) h.ts (by rw [yG];omega) (by rw [yG];unfold maxLen;omega) h.le.2.2.2.2;rw [gI,gZ,yG] at hrun hW5 hbm5 y55 hr5 how;refine ⟨A4,c4,w4,w5,hrun,hW5,e3,e4,y5,f5,hc5, ?_⟩;have hk:∀ k,F k→w5.heap[k]? = w.heap[k]? := fun k hk=>hc5.same k (h.fr k hk).1 fun e=>e.elim (h.fr k hk).2.1 (h.fr k hk).2.2.2.2;have hTb:TB 248 w bm:=⟨_,h.box⟩;have hTR:TB 26 w bR:=⟨_,h.rl.row⟩;have hbl:=h.le;refine ⟨h.gb.again hc5.size (fun i hi=>?_) fun k hk'=>hk k (h.gF k hk'),h.gF,hbm5, ?_, ?_,h.rl.on (hc5.same bR hTR.lt fun e=>e.elim (fun e=>hTR.ne hTb (by decide) e) fun e=>hTR.ne (h.ts.tb e).2 (by decide) rfl) (fun t ht k hk'=>hc5.same k (h.rl.lt ht hk').2.1.lt fun e=>e.elim (fun e=>(h.rl.lt ht hk').2.1.ne hTb (by decide) e) fun e=>(h.rl.lt ht hk').2.1.ne (h.ts.tb e).2 (by decide) rfl) fun k hk=>.inl hk,fun k hk'=>?_,fun e=>?_,h.bel.trans (hc5.below (fun k e=>?_) h.bel.size),⟨hbl.1,hbl.2.1,hbl.2.2.1,hbl.2.2.2.1,gP hbl.2.2.2.2 hc5.size⟩⟩
 ·match i,hi with
  | 0,_=>exact (aA hbm5 0 _ rfl).trans (aA h.box 0 _ rfl).symm
  | 1,_=>exact (aA hbm5 1 _ rfl).trans (aA h.box 1 _ rfl).symm
  | 2,_=>exact (aA hbm5 2 _ rfl).trans (aA h.box 2 _ rfl).symm
  | 3,_=>exact (aA hbm5 3 _ rfl).trans (aA h.box 3 _ rfl).symm
 ·exact (h.rs.keep fun k hk'=>hc5.same k (h.rs.tb hk').2.lt fun e=>e.elim (fun e=>(h.rs.tb hk').2.ne hTb (by decide) e) fun e=>(h.rs.tb hk').2.ne (h.ts.tb e).2 (by decide) rfl).mono (bJ.mono fun _ _ h=>aH.keepG (fun _ h=>h) hk h fun _ _ h=>h)
 ·rw [List.range_succ];exact hr5.mono (bJ.mono fun _ _ h=>aH.keepG (fun _ h=>h) hk h fun _ _ h=>h.keep (fun _ h=>h) hk)
 ·obtain ⟨f1,f2,f3,f4,f5⟩:=h.fr k hk';refine ⟨gK f1 hc5.size,f2,f3,f4,fun e=>?_⟩;rcases how with hw | hw
  ·exact f5 (hw▸e)
  ·rw [hw] at e
   injection e with e
   omega
 ·exact h.rb e
 ·rcases e with rfl | e
  ·exact hbl.1
  ·exact gP hbl.2.2.1 (h.ts.tb e).1
end
theorem vE (s:Int):∀ (l m:List (Int×List Int)) (k:Nat),ofR s (l++m) k=ofR s l k++ofR s m (k+l.length)
 | [],m,k=>by simp [ofR]
 | r::l,m,k=>by
  have ih:=vE s l m (k+1);rw [List.cons_append,ofR,ofR,ih,gG,show k+(l.length+1)=k+1+l.length by omega];by_cases h:r.1=s
  ·rw [if_pos h,if_pos h];rfl
  ·rw [if_neg h,if_neg h]
theorem CN (s:Int) (l:List (Int×List Int)) {k:Nat} (h:k<l.length):ofR s (l.take (k+1)) 0=if l[k].1=s then ofR s (l.take k) 0++[(k:Int)] else ofR s (l.take k) 0:=by
 rw [← List.take_append_getElem h,vE,yA,Nat.min_eq_left (Nat.le_of_lt h),Nat.zero_add,ofR,ofR];by_cases e:l[k].1=s
 ·rw [if_pos e,if_pos e]
 ·rw [if_neg e,if_neg e,List.append_nil]
theorem Rl.congr {B:Nat} {F:Nat→Prop} {w:World} {bR m:Nat} {vs:List Value} {R R':Nat→List Int} (h:Rl B F w bR m vs R) (hR:∀ t,t<m→R t=R' t):Rl B F w bR m vs R':=
 ⟨h.row,h.len,fun t ht=>by rw [← hR t (h.len▸ht)];exact h.ints t ht,h.own,h.apart⟩
section
variable {w0:World} {G:Nat→Prop} {B bm:Nat} {A0 A1 A2:Option Addr} {c0 c1 c2:Nat} {g:Gm} {vl u8 u9 u10 u11 u12:Value} {bR:Nat} {F F':Nat→Prop} {w w':World} {vr vts:Value} {vs:List Value} {k1 k2 k3:Nat}
theorem Prep.pushRule (h:Prep w0 G B bm A0 c0 A1 c1 A2 c2 g vl u8 u9 u10 u11 u12 bR F w vr vts vs k1 k2 k3) (hk:k2<g.rules.length) (hlr:g.rules.length≤300) {t:Nat} (ht:g.rules[k2].1=(t:Int)) (htv:t<vs.length):
  ∃ v' w4 w5,WrA Tryz.prog #[26,26] 26 #[vs[t],.slice (some ⟨w.heap.size,0,none⟩) 1 1] (w.alloc (.cells #[.int .i64 (k2:Int)] 3))=.ok v' w4∧w4.setCell ⟨bR,t,none⟩ v'=w5∧(∃ A n c,v'=.slice A n c)∧(w.alloc (.cells #[.int .i64 (k2:Int)] 3)).heap[bR]? = w.heap[bR]? ∧ (w.alloc (.cells #[.int .i64 (k2:Int)] 3)).heap[bm]? = w.heap[bm]? ∧ w4.heap[bR]? = w.heap[bR]? ∧ w4.heap[bm]? = w.heap[bm]? ∧ w5.heap[bm]? = w.heap[bm]? ∧ w4.cell? ⟨bR,t,none⟩=some vs[t]∧w4.frozen? ⟨bR,t,none⟩=false∧Chg (fun k=>k=bR∨vs[t].ownBlock=some k) w w5∧Prep w0 G B bm A0 c0 A1 c1 A2 c2 g vl u8 u9 u10 u11 u12 bR F w5 vr vts (vs.set t v') k1 (k2+1) k3:=by
 have hbl:=h.le;have hFl:∀ k,F k→k<w.heap.size:=fun k hk=>(h.fr k hk).1;obtain ⟨v',w4,hrun,e4,hc4,hend⟩:=h.rl.push htv (k2:Int) (by have:=eY (t:Int) (g.rules.take k2) 0;rw [yA] at this;omega) hbl.2.2.2.2 hFl;have hb4:=e4.trans h.rl.row;have hTb:TB 248 w bm:=⟨_,h.box⟩;have hTR:TB 26 w bR:=⟨_,h.rl.row⟩;have hTt:∀ {k},vs[t].ownBlock=some k→TB 3 w k:=fun hk=>(h.rl.lt htv hk).2.1;have e4m:w4.heap[bm]? = w.heap[bm]? := hc4.same bm hTb.lt fun e=>hTb.ne (hTt e) (by decide) rfl;have hne:bm≠bR:=hTb.ne hTR (by decide);have y4:w4.cell? ⟨bR,t,none⟩=some vs[t]:=aA hb4 t _ (by simp [htv]);have hset:=aO hb4 t v';have hoth:∀ k,k≠bR→(w4.setCell ⟨bR,t,none⟩ v').heap[k]? = w4.heap[k]? := fun k hk=>gU _ _ _ _ hk;have hrl:=hend (w4.setCell ⟨bR,t,none⟩ v') (by rw [hset,List.setIfInBounds_toArray]) fun k hk _=>hoth k hk;have hc5:Chg (fun k=>k=bR∨vs[t].ownBlock=some k) w (w4.setCell ⟨bR,t,none⟩ v'):=((Chg.refl (fun k=>k=bR∨vs[t].ownBlock=some k) w).trans2 hc4 fun i hi e=>.inr e).setCell (p:=⟨bR,t,none⟩) (fun _=>.inl rfl) _;have hk5:∀ k,F k→(w4.setCell ⟨bR,t,none⟩ v').heap[k]? = w.heap[k]? := fun k hk'=>hc5.same k (hFl k hk') fun e=>e.elim (h.fr k hk').2.2.1 fun e=>h.rl.own t htv k e hk';have e5m:(w4.setCell ⟨bR,t,none⟩ v').heap[bm]? = w.heap[bm]? := (hoth bm hne).trans e4m;have hsh:∃ A n c,v'=.slice A n c:=by
  have h1:=hrl.ints t (by simpa using htv);rw [List.getElem_set_self] at h1;obtain ⟨A,c,e⟩:=aX.shape h1;exact ⟨A,_,c,e⟩
 refine ⟨v',w4,_,hrun,rfl,hsh,Below.heap_alloc _ _ _ hTR.lt,Below.heap_alloc _ _ _ hTb.lt,e4,e4m,e5m,y4,by simp [World.frozen?,hb4],hc5, ?_⟩;have hsl:(w4.setCell ⟨bR,t,none⟩ v').heap.size=w4.heap.size:=by simp
 refine ⟨h.gb.again hc5.size (fun i hi=>?_) fun k hk'=>hk5 k (h.gF k hk'),h.gF,e5m.trans h.box, ?_, ?_,hrl.congr fun t' ht'=>?_,fun k hk'=>?_,h.rb,h.bel.trans (hc5.below (fun k e=>?_) h.bel.size),⟨hbl.1,hbl.2.1,hbl.2.2.1,hbl.2.2.2.1,gP hbl.2.2.2.2 hc5.size⟩⟩
 ·exact gM (a:=⟨bm,i,none⟩) e5m
 ·exact (h.rs.keep fun k hk'=>hc5.same k (h.rs.tb hk').2.lt fun e=>e.elim (fun e=>h.rb (e▸hk')) fun e=>(h.rs.tb hk').2.ne (hTt e) (by decide) rfl).mono (bJ.mono fun _ _ h=>aH.keepG (fun _ h=>h) hk5 h fun _ _ h=>h)
 ·exact (h.ts.keep fun k hk'=>hc5.same k (h.ts.tb hk').2.lt fun e=>e.elim (fun e=>(h.ts.tb hk').2.ne hTR (by decide) e) fun e=>(h.ts.tb hk').2.ne (hTt e) (by decide) rfl).mono (bJ.mono fun _ _ h=>aH.keepG (fun _ h=>h) hk5 h fun _ _ h=>h.keep (fun _ h=>h) hk5)
 ·rw [CN _ _ hk,ht];by_cases e:t'=t
  ·subst e;rw [if_pos rfl,if_pos rfl]
  ·rw [if_neg e,if_neg (by omega)]
 ·obtain ⟨f1,f2⟩:=h.fr k hk';exact ⟨gK f1 hc5.size,f2⟩
 ·rcases e with rfl | e
  ·exact gP hbl.2.2.1 hbl.2.2.2.1
  ·exact gP hbl.2.2.1 (h.rl.lt htv e).1
end
theorem aH.map {α β:Type} {G:Nat→Prop} {w:World} {sz:Nat} {R:List Value→α→Prop} {R':List Value→β→Prop} {v:Value} {xs:List α} {f:α→β} (h:aH G w sz R v xs) (hR:∀ vs x,x∈xs→R vs x→R' vs (f x)):aH G w sz R' v (xs.map f):=by
 obtain ⟨A,c,h1,h2,h3,h4⟩:=h;refine ⟨A,c,by rw [List.length_map];exact h1,by rw [List.length_map];exact h2,h3,fun hn=>?_⟩;rw [List.length_map] at hn;obtain ⟨b,off,h5,h6,h7⟩:=h4 hn;refine ⟨b,off,h5,h6,fun i hi=>?_⟩;rw [List.length_map] at hi;obtain ⟨us,h8,h9,h10⟩:=h7 i hi;exact ⟨us,h8,by rw [List.getElem_map];exact hR _ _ (gN hi) h9,h10⟩
theorem Rl.slG {B:Nat} {F G':Nat→Prop} {w:World} {bR m:Nat} {vs:List Value} {R:Nat→List Int} (h:Rl B F w bR m vs R) (hm:m≤maxLen) (hR:G' bR) (hG:∀ k,B≤k→TB 3 w k→G' k):aH G' w 1 (bJ fun v (t:Nat)=>aF G' w v (R t)) (.slice (some ⟨bR,0,none⟩) m m) (List.range m):=by
 have hl:=h.len;refine ⟨some ⟨bR,0,none⟩,m,by rw [yG],by rw [yG];exact gO _,hm,fun h0=>⟨bR,0,rfl,hR,fun i hi=>?_⟩⟩;have hi':i<vs.length:=by rw [hl];simpa using hi
 refine ⟨[vs[i]],rfl,⟨_,rfl, ?_⟩,fun j u hu=>?_⟩
 ·rw [List.getElem_range];exact aG.look (h.ints i hi') fun k hk=>hG k (h.lt hi' hk).1 (h.lt hi' hk).2.1
 ·cases j with
  | succ j=>simp at hu
  | zero=>
   injection hu with hu
   subst hu;rw [show 0+i*1+0=i by omega];refine aA h.row i _ ?_;simp [hi']
section
variable {w0:World} {G:Nat→Prop} {B bm:Nat} {A0 A1 A2:Option Addr} {c0 c1 c2:Nat} {g:Gm} {vl u8 u9 u10 u11 u12:Value} {bR:Nat} {F G':Nat→Prop} {w w':World} {vr vts vu:Value} {vs:List Value} {k2:Nat}
theorem Prep.mt2 (h:Prep w0 G B bm A0 c0 A1 c1 A2 c2 g vl u8 u9 u10 u11 u12 bR F w vr vts vs (g.rules.length+1) k2 (g.rules.length+1)) (hk2:g.rules.length≤k2) (ht:g.top≤1000) (hF:∀ k,F k→G' k) (ho:∀ k,G' k→k<w.heap.size) (hB:∀ k,B≤k→k<w.heap.size→G' k):Mt G' w bm A0 c0 A1 c1 A2 c2 g vr vts (.slice (some ⟨bR,0,none⟩) (g.top+1) (g.top+1)):=by
 have hTR:TB 26 w bR:=⟨_,h.rl.row⟩;have hu:=h.rl.slG (G':=G') (by unfold maxLen;omega) (hB _ h.le.2.2.2.1 hTR.lt) fun k h1 hk=>hB k h1 hk.lt;simp only [List.take_of_length_le hk2] at hu;exact ⟨h.gb.wide (fun k hk=>hF k (h.gF k hk)) ho,aA h.box 5 _ rfl,aA h.box 6 _ rfl,aA h.box 7 _ rfl,
  aG.look (h.rs.mono (bJ.mono fun _ _ h=>aH.keepG hF (fun _ _=>rfl) h fun _ _ h=>h)) fun k hk=>hB k (h.rs.tb hk).1 (h.rs.tb hk).2.lt,
  aG.look (h.ts.mono (bJ.mono fun _ _ h=>aH.keepG hF (fun _ _=>rfl) h fun _ _ h=>h.keep hF (fun _ _=>rfl))) fun k hk=>hB k (h.ts.tb hk).1 (h.ts.tb hk).2.lt,hu⟩
theorem Mt.keepG (h:Mt G w bm A0 c0 A1 c1 A2 c2 g vr vts vu) (hG:∀ k,G k→G' k) (ho:∀ k,G' k→k<w'.heap.size) (hs:w.heap.size≤w'.heap.size) (hk:∀ k,G k→w'.heap[k]? = w.heap[k]?) (hc:∀ i,i<8→w'.cell? ⟨bm,i,none⟩=w.cell? ⟨bm,i,none⟩):Mt G' w' bm A0 c0 A1 c1 A2 c2 g vr vts vu:=
 ⟨(h.gb.again hs (fun i hi => hc i (by omega)) hk).wide hG ho, (hc 5 (by decide)).trans h.m5, (hc 6 (by decide)).trans h.m6, (hc 7 (by decide)).trans h.m7,
  aH.keepG hG hk h.rs (bJ.mono fun _ _ h => aH.keepG hG hk h fun _ _ h => h),
  aH.keepG hG hk h.ts (bJ.mono fun _ _ h => aH.keepG hG hk h fun _ _ h => dZ.keep hG hk h),
  aH.keepG hG hk h.us (bJ.mono fun _ _ h => aH.keepG hG hk h fun _ _ h => h)⟩
end
theorem dH.keep {G G':Nat→Prop} {w w':World} {n:Nat} {g:Gm} {v:Value} {s:Nat} (h:dH G w n g v s) (hG:∀ k,G k→G' k) (hk:∀ k,G k→w'.heap[k]? = w.heap[k]?):dH G' w' n g v s:=by
 obtain ⟨l,h1,h2⟩:=h;exact ⟨l,aH.keepG hG hk h1 fun _ _ h=>h.keep hG hk,h2⟩
theorem Cx.comes {G':Nat→Prop} {B n:Nat} {g:Gm} {s:Nat} {bmap:Nat} {w w':World} {v:Value} {xs:List Cme} {vt:Value} {T:List Int} (h:Cx B n g (s:Int) bmap w v xs vt T) (ht:g.top≤240) (hG:∀ k,B≤k→k<w.heap.size→G' k) (hk:∀ k,B≤k→k<w.heap.size→w'.heap[k]? = w.heap[k]?):dH G' w' n g v s:=by
 have hl:=h.len;refine ⟨xs.map (·.1), ?_,fun x hx=>?_,by rw [List.length_map];omega⟩
 ·have h1:=aG.look (G:=fun k=>B≤k∧k<w.heap.size) h.row fun k hk=>h.row.lt hk;have h2:aH (fun k=>B≤k∧k<w.heap.size) w 3 (iQ (fun k=>B≤k∧k<w.heap.size) w n) v (xs.map (·.1)):=h1.map fun vs x hx e=>by
   obtain ⟨k1,k2,X,hX⟩:=h.sets x hx;exact ⟨_,_,e,x.2.1.1,x.2.1.2,X,rfl,⟨k1,hX.lt.1⟩,⟨k2,hX.lt.2⟩,hX⟩
  exact aH.keepG (fun k hk=>hG k hk.1 hk.2) (fun k hk'=>hk k hk'.1 hk'.2) h2 fun _ _ h3=>h3.keep (fun k hk=>hG k hk.1 hk.2) (fun k hk'=>hk k hk'.1 hk'.2)
 ·obtain ⟨y,hy,rfl⟩:=List.mem_map.1 hx;exact h.lc y hy
theorem dH.nil {G:Nat→Prop} {w:World} {n:Nat} {g:Gm} {s:Nat}:dH G w n g (.slice none 0 0) s:=⟨[],aH.nil0,fun _ h=>(by cases h),by simp⟩
structure Cms (G:Nat→Prop) (bm:Nat) (A0:Option Addr) (c0:Nat) (A1:Option Addr) (c1:Nat) (A2:Option Addr) (c2:Nat) (g:Gm) (vl vr vts vu u9 u10 u11 u12:Value) (lo bC:Nat) (w:World) (vs:List Value):Prop where
 mt:Mt G w bm A0 c0 A1 c1 A2 c2 g vr vts vu
 box:w.heap[bm]? = some (.cells #[.slice A0 g.terms.length c0,.slice A1 g.nons.length c1,.slice A2 g.rules.length c2,.int .i64 g.start,vl,vr,vts,vu,.slice (some ⟨bC,0,none⟩) (g.top+1) (g.top+1),u9,u10,u11,u12] 248 (0,0))
 row:w.heap[bC]? = some (.cells vs.toArray 297 (0,0))
 len:vs.length=g.top+1
 cs:∀ t (h:t<vs.length),dH (fun k=>lo≤k∧k<w.heap.size∧k≠bC) w (g.terms.length+1) g vs[t] t
 gl:∀ k,G k→k≠bm∧k≠bC
 lo:lo≤bC
section
variable {G:Nat→Prop} {bm:Nat} {A0 A1 A2:Option Addr} {c0 c1 c2:Nat} {g:Gm} {vl vr vts vu u9 u10 u11 u12:Value} {lo bC:Nat} {w w':World} {vs:List Value}
theorem Cms.put (h:Cms G bm A0 c0 A1 c1 A2 c2 g vl vr vts vu u9 u10 u11 u12 lo bC w vs) {s:Nat} (hs:s<vs.length) {v:Value} {xs:List Cme} {vt:Value} {T:List Int} (hb:Below w.heap.size w w') (hx:Cx w.heap.size (g.terms.length+1) g (s:Int) w.heap.size w' v xs vt T) (ht:g.top≤240):
  w'.heap[bC]? = w.heap[bC]? ∧ w'.heap[bm]? = w.heap[bm]? ∧ w'.cell? ⟨bC,s,none⟩=some vs[s]∧w'.frozen? ⟨bC,s,none⟩=false∧Chg (· = bC) w (w'.setCell ⟨bC,s,none⟩ v)∧Cms G bm A0 c0 A1 c1 A2 c2 g vl vr vts vu u9 u10 u11 u12 lo bC (w'.setCell ⟨bC,s,none⟩ v) (vs.set s v):=by
 have hTb:TB 248 w bm:=⟨_,h.box⟩;have hTC:TB 297 w bC:=⟨_,h.row⟩;have hne:bm≠bC:=hTb.ne hTC (by decide);have eC:=hb.block bC hTC.lt;have em:=hb.block bm hTb.lt;have hC:=eC.trans h.row;have hc:Chg (· = bC) w (w'.setCell ⟨bC,s,none⟩ v):=(Chg.of hb:Chg (· = bC) w w').setCell (p:=⟨bC,s,none⟩) (fun _=>rfl) _;have hset:=aO hC s v;have hoth:∀ k,k≠bC→(w'.setCell ⟨bC,s,none⟩ v).heap[k]? = w'.heap[k]? := fun k hk=>gU _ _ _ _ hk;have hm2:(w'.setCell ⟨bC,s,none⟩ v).heap[bm]? = w.heap[bm]? := (hoth bm hne).trans em;have hsz:(w'.setCell ⟨bC,s,none⟩ v).heap.size=w'.heap.size:=by simp
 refine ⟨eC,em,aA hC s _ (by simp [hs]),by simp [World.frozen?,hC],hc, ?_,hm2.trans h.box,by rw [hset,List.setIfInBounds_toArray],by rw [List.length_set];exact h.len,fun t ht'=>?_,h.gl,h.lo⟩
 ·exact h.mt.keepG (fun _ h=>h) (fun k hk=>gK (h.mt.gb.old k hk) hc.size) hc.size (fun k hk=>hc.same k (h.mt.gb.old k hk) (h.gl k hk).2) fun i _=>gM (a:=⟨bm,i,none⟩) hm2
 ·have ht2:t<vs.length:=by simpa using ht'
  by_cases e:t=s
  ·subst e;rw [List.getElem_set_self];exact hx.comes ht (fun k h1 h2=>⟨by have:=hTC.lt;have:=h.lo;omega,by rw [hsz];exact h2,by have:=hTC.lt;omega⟩) fun k h1 h2=>hoth k (by have:=hTC.lt;omega)
  ·rw [List.getElem_set_ne (Ne.symm e)];exact (h.cs t ht2).keep (fun k hk=>⟨hk.1,gK hk.2.1 hc.size,hk.2.2⟩) fun k hk=>hc.same k hk.2.1 hk.2.2
theorem Cms.below (h:Cms G bm A0 c0 A1 c1 A2 c2 g vl vr vts vu u9 u10 u11 u12 lo bC w vs) (hb:Below w.heap.size w w'):Cms G bm A0 c0 A1 c1 A2 c2 g vl vr vts vu u9 u10 u11 u12 lo bC w' vs:=
 ⟨h.mt.on hb,(hb.block _ (gL h.box).1).trans h.box,(hb.block _ (gL h.row).1).trans h.row,h.len,fun t ht=>(h.cs t ht).keep (fun k hk=>⟨hk.1,gK hk.2.1 hb.size,hk.2.2⟩) fun k hk=>hb.block k hk.2.1,h.gl,h.lo⟩
theorem Cms.slAt (h:Cms G bm A0 c0 A1 c1 A2 c2 g vl vr vts vu u9 u10 u11 u12 lo bC w vs) (ht:g.top≤1000):aH (fun k=>lo≤k∧k<w.heap.size) w 1 (bJ fun v (s:Nat)=>dH (fun k=>lo≤k∧k<w.heap.size) w (g.terms.length+1) g v s) (.slice (some ⟨bC,0,none⟩) (g.top+1) (g.top+1)) (List.range (g.top+1)):=by
 have hl:=h.len;have hTC:TB 297 w bC:=⟨_,h.row⟩;refine ⟨some ⟨bC,0,none⟩,g.top+1,by rw [yG],by rw [yG];exact gO _,by unfold maxLen;omega,fun h0=>⟨bC,0,rfl,⟨h.lo,hTC.lt⟩,fun i hi=>?_⟩⟩;have hi':i<vs.length:=by rw [hl];simpa using hi
 refine ⟨[vs[i]],rfl,⟨_,rfl, ?_⟩,fun j u hu=>?_⟩
 ·rw [List.getElem_range];exact (h.cs i hi').keep (fun k hk=>⟨hk.1,hk.2.1⟩) fun _ _=>rfl
 ·cases j with
  | succ j=>simp at hu
  | zero=>
   injection hu with hu
   subst hu;rw [show 0+i*1+0=i by omega];refine aA h.row i _ ?_;simp [hi']
theorem Cms.made {w1:World} (hm:Mt G w1 bm A0 c0 A1 c1 A2 c2 g vr vts vu) (hG:∀ k,G k→k≠bm∧k<w.heap.size) (hlo:lo≤w.heap.size) (hbm:w1.heap[bm]? = some (.cells #[.slice A0 g.terms.length c0,.slice A1 g.nons.length c1,.slice A2 g.rules.length c2,.int .i64 g.start,vl,vr,vts,vu,.slice (some ⟨w.heap.size,0,none⟩) (g.top+1) (g.top+1),u9,u10,u11,u12] 248 (0,0))) (hr:w1.heap[w.heap.size]? = some (.cells (Array.replicate (g.top+1) (.slice none 0 0)) 297 (0,0))):
  Cms G bm A0 c0 A1 c1 A2 c2 g vl vr vts vu u9 u10 u11 u12 lo w.heap.size w1 (List.replicate (g.top+1) (.slice none 0 0)):=
 ⟨hm,hbm,by rw [hr,List.toArray_replicate],by simp,fun t ht=>by rw [List.getElem_replicate];exact dH.nil,fun k hk=>⟨(hG k hk).1,by have:=(hG k hk).2;omega⟩,hlo⟩
theorem Cms.start {w1 w2:World} {m:Nat} (hm:Mt G w bm A0 c0 A1 c1 A2 c2 g vr vts vu) (hG:∀ k,G k→k≠bm) (hlo:lo≤w.heap.size) (hbx:w.heap[bm]? = some (.cells #[.slice A0 g.terms.length c0,.slice A1 g.nons.length c1,.slice A2 g.rules.length c2,.int .i64 g.start,vl,vr,vts,vu,.slice none 0 0,u9,u10,u11,u12] 248 (0,0))) (hme:m=g.top+1) (h1:w.alloc (.cells (Array.replicate m (.slice none 0 0)) 297)=w1) (h2:w1.setCell ⟨bm,8,none⟩ (.slice (some ⟨w.heap.size,0,none⟩) m m)=w2):
  w1.cell? ⟨bm,8,none⟩=some (.slice none 0 0)∧w1.frozen? ⟨bm,8,none⟩=false∧Chg (· = bm) w w2∧Cms G bm A0 c0 A1 c1 A2 c2 g vl vr vts vu u9 u10 u11 u12 lo w.heap.size w2 (List.replicate (g.top+1) (.slice none 0 0)):=by
 subst h1;have hb1:Below w.heap.size w (w.alloc (.cells (Array.replicate m (.slice none 0 0)) 297)):=(gR _ _).alloc (gO _) _;have q1:=aC w (.cells (Array.replicate m (.slice none 0 0)) 297);generalize w.alloc (.cells (Array.replicate m (.slice none 0 0)) 297)=w1 at *;have hlt:=(gL hbx).1;have hbx1:=(hb1.block bm hlt).trans hbx;subst h2;have hoth:∀ k,k≠bm→(w1.setCell ⟨bm,8,none⟩ (.slice (some ⟨w.heap.size,0,none⟩) m m)).heap[k]? = w1.heap[k]? := fun k hk=>gU _ _ _ _ hk;have hset:=aO hbx1 8 (.slice (some ⟨w.heap.size,0,none⟩) m m);have hc:Chg (· = bm) w (w1.setCell ⟨bm,8,none⟩ (.slice (some ⟨w.heap.size,0,none⟩) m m)):=(Chg.of hb1:Chg (· = bm) w w1).setCell (p:=⟨bm,8,none⟩) (fun _=>rfl) _;have hR:=(hoth w.heap.size (by omega)).trans q1;generalize w1.setCell ⟨bm,8,none⟩ (.slice (some ⟨w.heap.size,0,none⟩) m m)=w2 at *;subst hme;refine ⟨aA hbx1 8 _ rfl,by simp [World.frozen?,hbx1],hc,Cms.made (hm.keepG (fun _ h=>h) (fun k hk=>gK (hm.gb.old k hk) hc.size) hc.size (fun k hk=>hc.same k (hm.gb.old k hk) (hG k hk)) fun i hi=>?_) (fun k hk=>⟨hG k hk,hm.gb.old k hk⟩) hlo hset hR⟩
 match i,hi with
 | 0,_=>exact (aA hset 0 _ rfl).trans (aA hbx 0 _ rfl).symm
 | 1,_=>exact (aA hset 1 _ rfl).trans (aA hbx 1 _ rfl).symm
 | 2,_=>exact (aA hset 2 _ rfl).trans (aA hbx 2 _ rfl).symm
 | 3,_=>exact (aA hset 3 _ rfl).trans (aA hbx 3 _ rfl).symm
 | 4,_=>exact (aA hset 4 _ rfl).trans (aA hbx 4 _ rfl).symm
 | 5,_=>exact (aA hset 5 _ rfl).trans (aA hbx 5 _ rfl).symm
 | 6,_=>exact (aA hset 6 _ rfl).trans (aA hbx 6 _ rfl).symm
 | 7,_=>exact (aA hset 7 _ rfl).trans (aA hbx 7 _ rfl).symm
end
theorem Fz.chgT {w w':World} {b m n bE bwE:Nat} {A1:Option Addr} {c1:Nat} {A2:Option Addr} {c2:Nat} {ps qs:List (Nat×Nat)} (h:Fz w b m n bE bwE A1 c1 A2 c2 ps qs) (hk:∀ k,TB 330 w k∨TB 68 w k∨TB 159 w k∨TB 154 w k→w'.heap[k]? = w.heap[k]?):Fz w' b m n bE bwE A1 c1 A2 c2 ps qs:=by
 obtain ⟨XE,hE⟩:=h.e;have hs:∀ {b bw X r:Nat},BSet w b bw r X→BSet w' b bw r X:=fun hX=>hX.keep (hk _ (.inr (.inr (.inl ⟨_,hX.hb⟩)))) (hk _ (.inr (.inr (.inr ⟨_,hX.hw⟩))));exact ⟨(hk _ (.inl ⟨_,h.box⟩)).trans h.box,⟨XE,hs hE⟩,h.rp.keepT fun k hT=>hk k (.inr (.inl hT)),h.rq.keepT fun k hT=>hk k (.inr (.inl hT)),h.lp,h.lq,fun p hp=>(h.sp p hp).imp fun X hX=>hs hX,fun p hp=>(h.sq p hp).imp fun X hX=>hs hX,h.np,h.nq,h.n1,h.nm⟩
theorem Fz.chg2 {w w':World} {b m n bE bwE:Nat} {A1:Option Addr} {c1:Nat} {A2:Option Addr} {c2:Nat} {ps qs:List (Nat×Nat)} (h:Fz w b m n bE bwE A1 c1 A2 c2 ps qs) {bm bR:Nat} (hm:TB 248 w bm) (hR:TB 26 w bR) (hc:Chg (fun k=>k=bm∨k=bR) w w'):Fz w' b m n bE bwE A1 c1 A2 c2 ps qs:=
 h.chgT fun k hk=>by
  rcases hk with hk | hk | hk | hk
  ·exact hc.same k hk.lt fun e=>e.elim (fun e=>hk.ne hm (by decide) e) fun e=>hk.ne hR (by decide) e
  ·exact hc.same k hk.lt fun e=>e.elim (fun e=>hk.ne hm (by decide) e) fun e=>hk.ne hR (by decide) e
  ·exact hc.same k hk.lt fun e=>e.elim (fun e=>hk.ne hm (by decide) e) fun e=>hk.ne hR (by decide) e
  ·exact hc.same k hk.lt fun e=>e.elim (fun e=>hk.ne hm (by decide) e) fun e=>hk.ne hR (by decide) e
section
variable {w0 w:World} {G:Nat→Prop} {bm:Nat} {A0 A1 A2:Option Addr} {c0 c1 c2:Nat} {g:Gm} {vl u8 u9 u10 u11 u12:Value} {m:Nat}
theorem Prep.start (hgb:GBox G w bm A0 c0 A1 c1 A2 c2 g) (hbx:w.heap[bm]? = some (.cells #[.slice A0 g.terms.length c0,.slice A1 g.nons.length c1,.slice A2 g.rules.length c2,.int .i64 g.start,vl,.slice none 0 0,.slice none 0 0,.slice none 0 0,u8,u9,u10,u11,u12] 248 (0,0))) (hGm:∀ k,G k→k≠bm) (hb:Below w0.heap.size w0 w) (hle:w0.heap.size≤bm) (hm:m=g.top+1) {w1 w2:World} (h1:w.alloc (.cells (Array.replicate m (.slice none 0 0)) 26)=w1) (h2:w1.setCell ⟨bm,7,none⟩ (.slice (some ⟨w.heap.size,0,none⟩) m m)=w2):
  w1.cell? ⟨bm,7,none⟩=some (.slice none 0 0)∧w1.frozen? ⟨bm,7,none⟩=false∧TB 248 w2 bm∧TB 26 w2 w.heap.size∧Chg (· = bm) w w2∧w2.heap.size=w.heap.size+1∧
  Prep w0 G w.heap.size bm A0 c0 A1 c1 A2 c2 g vl u8 u9 u10 u11 u12 w.heap.size G w2 (.slice none 0 0) (.slice none 0 0) (List.replicate m (.slice none 0 0)) 0 0 0:=by
 subst h1;have hb1:Below w.heap.size w (w.alloc (.cells (Array.replicate m (.slice none 0 0)) 26)):=(gR _ _).alloc (gO _) _;have q1:=aC w (.cells (Array.replicate m (.slice none 0 0)) 26);have hsz:(w.alloc (.cells (Array.replicate m (.slice none 0 0)) 26)).heap.size=w.heap.size+1:=by simp
 generalize w.alloc (.cells (Array.replicate m (.slice none 0 0)) 26)=w1 at *;have hlt:=hgb.lt;have hbx1:=(hb1.block bm hlt).trans hbx;subst h2;have hoth:∀ k,k≠bm→(w1.setCell ⟨bm,7,none⟩ (.slice (some ⟨w.heap.size,0,none⟩) m m)).heap[k]? = w1.heap[k]? := fun k hk=>gU _ _ _ _ hk;have hset:=aO hbx1 7 (.slice (some ⟨w.heap.size,0,none⟩) m m);have hc:Chg (· = bm) w (w1.setCell ⟨bm,7,none⟩ (.slice (some ⟨w.heap.size,0,none⟩) m m)):=(Chg.of hb1:Chg (· = bm) w w1).setCell (p:=⟨bm,7,none⟩) (fun _=>rfl) _;have hsz2:(w1.setCell ⟨bm,7,none⟩ (.slice (some ⟨w.heap.size,0,none⟩) m m)).heap.size=w.heap.size+1:=by simp [hsz]
 have hR:=(hoth w.heap.size (by omega)).trans q1;have hrl:=Rl.made w.heap.size G m hR;generalize w1.setCell ⟨bm,7,none⟩ (.slice (some ⟨w.heap.size,0,none⟩) m m)=w2 at *;subst hm;refine ⟨aA hbx1 7 _ rfl,by simp [World.frozen?,hbx1],⟨_,hset⟩,⟨_,hR⟩,hc,hsz2,hgb.again hc.size (fun i hi=>?_) (fun k hk=>hc.same k (hgb.old k hk) (hGm k hk)),fun _ h=>h,hset,aG.nil _ _ _ _ _,aG.nil _ _ _ _ _,hrl.congr fun t _=>by simp [ofR],fun k hk=>⟨gK (hgb.old k hk) hc.size,hGm k hk,by have:=hgb.old k hk;omega,by simp [Value.ownBlock],by simp [Value.ownBlock]⟩,by simp [Value.ownBlock],hb.trans (hc.below (fun k e=>by rw [e];exact hle) hb.size),⟨hle,hlt,hb.size,gO _,hc.size⟩⟩
 match i,hi with
 | 0,_=>exact (aA hset 0 _ rfl).trans (aA hbx 0 _ rfl).symm
 | 1,_=>exact (aA hset 1 _ rfl).trans (aA hbx 1 _ rfl).symm
 | 2,_=>exact (aA hset 2 _ rfl).trans (aA hbx 2 _ rfl).symm
 | 3,_=>exact (aA hset 3 _ rfl).trans (aA hbx 3 _ rfl).symm
end
def uC (G:Nat→Prop) (w:World) (bm:Nat) (A0:Option Addr) (c0:Nat) (A1:Option Addr) (c1:Nat) (A2:Option Addr) (c2:Nat) (g:Gm) (vl u9 u10 u11 u12:Value) (e:Ending) (w':World):Prop:=
 (e=.returned (.tuple #[])∧∃ vr vts vu vc,w'.heap[bm]? = some (.cells #[.slice A0 g.terms.length c0,.slice A1 g.nons.length c1,.slice A2 g.rules.length c2,.int .i64 g.start,vl,vr,vts,vu,vc,u9,u10,u11,u12] 248 (0,0))∧Mt (fun k=>k<w'.heap.size∧(G k∨w.heap.size≤k)) w' bm A0 c0 A1 c1 A2 c2 g vr vts vu∧
  aH (fun k=>w.heap.size≤k∧k<w'.heap.size) w' 1 (bJ fun v (s:Nat)=>dH (fun k=>w.heap.size≤k∧k<w'.heap.size) w' (g.terms.length+1) g v s) vc (List.range (g.top+1)))∧Chg (· = bm) w w'
abbrev Tls (B n:Nat) (w:World) (v:Value) (l:List Int):Prop:=aG B 296 2 (dZ (fun k=>B≤k∧k<w.heap.size) w n) w v l
theorem BU:(Tryz.prog.info? 296).map (fun i=>(i.zero,i.size,i.bytes))=some (some (.agg #[.pointer none,.bool false]),2,16):=by kernel_rfl
theorem dZ.one {G:Nat→Prop} {w:World} {n:Nat}:∀ (vs:List Value) (x:Int),dZ G w n vs x→∀ u∈vs,u.oneCell'=true:=by
 rintro vs x ⟨p,em,rfl,b,bw,X,rfl,_⟩ u hu;simp at hu;rcases hu with rfl | rfl <;> rfl
theorem Tls.below {B n:Nat} {w w':World} {v:Value} {l:List Int} (h:Tls B n w v l) (hb:Below w.heap.size w w'):Tls B n w' v l:=
 (aG.below h hb).mono fun _ _ h=>h.keep (fun _ hk=>⟨hk.1,gK hk.2 hb.size⟩) fun k hk=>hb.block k hk.2
theorem Tls.push {B n:Nat} {w:World} {v:Value} {l:List Int} (h:Tls B n w v l) (x:Int) {em:Bool} {b bw X:Nat} (hB:B≤b) (hBw:B≤bw) (hX:BSet w b bw n X) (hl:l.length+1≤1000) (hBs:B≤w.heap.size):
  ∃ A c w',WrA Tryz.prog #[293,293] 293 #[v,.slice (some ⟨w.heap.size,0,none⟩) 1 1] (w.alloc (.cells #[.pointer (some ⟨b,0,none⟩),.bool em] 296))=.ok (.slice A (l.length+1) c) w'∧Tls B n w' (.slice A (l.length+1) c) (l++[x])∧Below B w w':=by
 obtain ⟨v',w',hrun,hr,hc,_⟩:=aG.pushC 293 Tryz.underlying293 BU rfl (by decide) dZ.one 293 (us:=[.pointer (some ⟨b,0,none⟩),.bool em]) (x:=x) rfl ⟨_,_,rfl,b,bw,X,rfl,⟨hB,hX.lt.1⟩,⟨hBw,hX.lt.2⟩,hX⟩ h (by omega) (by unfold maxLen;omega) hBs;obtain ⟨A,c,rfl,_⟩:=hr.shape;rw [gI,gZ] at hrun hr;have hset:∀ {b bw X:Nat},BSet w b bw n X→BSet w' b bw n X:=fun hX=>hX.keepC hc (fun e=>TB.ne (T:=159) ⟨_,hX.hb⟩ (h.tb e).2 (by decide) rfl) fun e=>TB.ne (T:=154) ⟨_,hX.hw⟩ (h.tb e).2 (by decide) rfl;refine ⟨A,c,w',hrun,hr.mono ?_,hc.below (fun k e=>(h.tb e).1) hBs⟩;rintro vs y ⟨p,em,rfl,b,bw,X,rfl,h1,h2,h3⟩;exact ⟨_,_,rfl,b,bw,X,rfl,⟨h1.1,gK h1.2 hc.size⟩,⟨h2.1,gK h2.2 hc.size⟩,hset h3⟩
section
attribute [local go_sem ↓] aI
theorem CE (w0 w:World) (G:Nat→Prop) (bm:Nat) (A0 c0 A1 c1 A2 c2) (g:Gm) (vl z9 z10 z11 z12:Value) (hbx:w.heap[bm]? = some (.cells #[.slice A0 g.terms.length c0,.slice A1 g.nons.length c1,.slice A2 g.rules.length c2,.int .i64 g.start,vl,.slice none 0 0,.slice none 0 0,.slice none 0 0,.slice none 0 0,z9,z10,z11,z12] 248 (0,0))) (hgb:GBox G w bm A0 c0 A1 c1 A2 c2 g) (hGm:∀ k,G k→k≠bm) (hw0:Below w0.heap.size w0 w) (hle:w0.heap.size≤bm) (hw:GW g) (ht:g.top≤63) (hn31:g.terms.length+1≤31):
  Calls Tryz.prog 155 #[.pointer (some ⟨bm,0,none⟩)] w fun e w'=>uC G w bm A0 c0 A1 c1 A2 c2 g vl z9 z10 z11 z12 e w':=by
 have H1:=ET G;have H3:=jN;have H4:=CZ;unfold ag at H1 H3 H4;have HFI:=Ha H1;have HT:=Ha H3;have HRU:=Ha H4;have HX:=Ha hgb;have HBX:=Ha hbx;have HGM:=Ha hGm;have HW:=Ha hw;have HW0:=Ha (gS hw0 hle);have hlr:=hw.lr;have HTOP:=Ha (gS ht hn31);clear H1 H3 H4 hgb hbx hGm hw hw0 hle;obtain ⟨x0,x1,x2,x3⟩:=HX.out.cells;go_enter Tryz.func155,Tryz.ntmps155;go_wp2_with fail;refine (HFI.out _ _ g HX.out.old HX.out.gm HW.out ht).mono ?_;rintro e w1 ⟨⟨bf,bE,bwE,B1,d1,B2,d2,ps,qs,rfl,hfs⟩,hb1⟩;have HFS1:=Ha hfs;have HX1:=Ha (HX.out.on hb1);have HB1:=Ha hb1;clear hfs hb1 x0 x1 x2 x3;obtain ⟨x0,x1,x2,x3⟩:=HX1.out.cells;go_wp2_with fail;refine (HT.out _ _ _ g HX1.out.old HX1.out.gm (by omega)).mono ?_;rintro e w2 ⟨rfl,hb2⟩;obtain ⟨m,hm⟩:∃ m:Nat,m=g.top+1:=⟨_,rfl⟩;have hm1:IntKind.i64.wrap ((g.top:Int)+1)=(m:Int):=by rw [hm];exact IntWalk.i64_in _ (by omega)
 have hmk:=E8 w2 (m:=m) (by omega);have hB2:=HB1.out.trans (hb2.mono HB1.out.size);obtain ⟨w3,hW3⟩:∃ w3,w2.alloc (.cells (Array.replicate m (.slice none 0 0)) 26)=w3:=⟨_,rfl⟩;obtain ⟨wL,hWL⟩:∃ wL,w3.setCell ⟨bm,7,none⟩ (.slice (some ⟨w2.heap.size,0,none⟩) m m)=wL:=⟨_,rfl⟩;obtain ⟨y7,f7,hTm,hTR,hcL,hsL,hpL⟩:=Prep.start (HX1.out.on hb2) ((hB2.block bm HX.out.lt).trans HBX.out) HGM.out (HW0.out.1.trans (hB2.mono HW0.out.1.size)) HW0.out.2 hm hW3 hWL;have hfL:Fz wL bf (g.top+1) (g.terms.length+1) bE bwE B1 d1 B2 d2 ps qs:=(HFS1.out.below hb2).chgT fun k hk=>by
  have hT2:TB 248 w2 bm:=⟨_,(hB2.block bm HX.out.lt).trans HBX.out⟩;rcases hk with hk | hk | hk | hk <;> exact hcL.same k hk.lt fun e=>hk.ne hT2 (by decide) e
 have hcW:Chg (· = bm) w wL:=(Chg.of hB2:Chg (· = bm) w w2).trans hcL;rw [hW3] at hmk;have HM:=Ha hm;have HBR:=Ha (show w.heap.size≤w2.heap.size from hB2.size);generalize hbR:w2.heap.size=bR at *;have HL:=Ha (gS hTm (gS hTR (gS hfL (gS hcW hsL))));have HP:=Ha hpL;clear hTm hTR hfL hcW hsL hpL hcL x0 x1 x2 x3 hb2 hB2 hm;obtain ⟨n1,hn1⟩:∃ n:Nat,n=g.rules.length+1:=⟨_,rfl⟩;have hnw:IntKind.i64.wrap ((g.rules.length:Int)+1)=(n1:Int):=by rw [hn1];exact IntWalk.i64_in _ (by omega)
 have HN1:=Ha hn1;obtain ⟨x0,x1,x2,x3⟩:=HP.out.gb.cells;go_wp2_with fail
 go_loopw [33] (fun kv wr=>∃ (k:Nat) (F:Nat→Prop) (vr vts:Value) (vs:List Value),k≤n1∧kv=.int .i64 k∧Prep w0 G bR bm A0 c0 A1 c1 A2 c2 g vl (.slice none 0 0) z9 z10 z11 z12 bR F wr vr vts vs k (min k g.rules.length) k∧Chg (fun k=>k=bm∨k=bR) wL wr∧∀ j,F j→G j∨w.heap.size≤j) (fun kv _=>n1-(intOf kv).toNat)
 case atStart=>exact ⟨0,_,_,_,_,gX _,rfl,by rw [Nat.zero_min];exact HP.out,Chg.refl _ _,fun _ h=>.inl h⟩
 case round=>
  obtain ⟨k,F,vr,vts,vs,hk,rfl,hp,hc,hF⟩:=hrel;obtain ⟨HPR,HCR,HFF⟩:=Zh3 hp hc hF;clear hp hc hF HP x0 x1 x2 x3 y7 f7 hmk;obtain ⟨x0,x1,x2,x3⟩:=HPR.out.gb.cells;by_cases hlt:k<n1
  case neg=>
   obtain rfl:k=n1:=by omega
   have hp:Prep w0 G bR bm A0 c0 A1 c1 A2 c2 g vl (.slice none 0 0) z9 z10 z11 z12 bR F wr vr vts vs (g.rules.length+1) (min (g.rules.length+1) g.rules.length) (g.rules.length+1):=by
    have h:=HPR.out;rw [show k=g.rules.length+1 from HN1.out] at h;exact h
   have hmt:=hp.mt2 (G':=fun j=>j<wr.heap.size∧(G j∨w.heap.size≤j)) (by omega) (by omega) (fun j hj=>⟨(hp.fr j hj).1,HFF.out j hj⟩) (fun _ h=>h.1) (fun j h1 h2=>⟨h2,.inr (by have:=HBR.out;omega)⟩);have hbmw:bm<w.heap.size:=HX.out.lt;have HMT:=Ha hmt;have HBP:=Ha hp.box;have hcw:Chg (· = bm) w wr:=HL.out.2.2.2.1.trans2 HCR.out fun i hi e=>e.elim id fun e=>by have:=HBR.out;omega
   have HCW:=Ha hcw;clear hp hmt hcw HPR HCR HFF;obtain ⟨x0,x1,x2,x3⟩:=HMT.out.gb.cells;go_wp2_with fail;refine (HT.out _ _ _ g HMT.out.gb.old HMT.out.gb.gm (by omega)).mono ?_;rintro e wa ⟨rfl,hba⟩;have hm1':=hm1;have hmk:=E7 wa (m:=m) (by have:=HM.out;omega);obtain ⟨wb,hWb⟩:∃ wb,wa.alloc (.cells (Array.replicate m (.slice none 0 0)) 297)=wb:=⟨_,rfl⟩;obtain ⟨wM,hWM⟩:∃ wM,wb.setCell ⟨bm,8,none⟩ (.slice (some ⟨wa.heap.size,0,none⟩) m m)=wM:=⟨_,rfl⟩;rw [hWb] at hmk;have hwa:w.heap.size≤wa.heap.size:=gP HCW.out.size hba.size;obtain ⟨y8,f8,hcM,hcms⟩:=Cms.start (lo:=w.heap.size) (HMT.out.on hba) (fun j hj=>hj.2.elim (HGM.out j) fun h=>by omega) hwa ((hba.block bm (by have:=HCW.out.size;omega)).trans HBP.out) HM.out hWb hWM;obtain ⟨wq,hwq⟩:∃ wq,wq=wr:=⟨_,rfl⟩;rw [← hwq] at hcms;have HCWM:=Ha (show Chg (· = bm) w wM from (HCW.out.trans (Chg.of hba)).trans hcM);generalize hbC:wa.heap.size=bC at *;have HBC:=Ha (show w.heap.size≤bC from hwa);have HCMS:=Ha hcms;have HWQ:=Ha (show ∀ j,j<wq.heap.size∧(G j∨w.heap.size≤j)→(G j∨w.heap.size≤j) from fun j h=>h.2);clear hcms hcM hba hwq hwa x0 x1 x2 x3;obtain ⟨t1,ht1⟩:∃ t1:Nat,t1=g.terms.length+1:=⟨_,rfl⟩;have htw:IntKind.i64.wrap ((g.terms.length:Int)+1)=(t1:Int):=by rw [ht1];exact IntWalk.i64_in _ (by omega)
   have HT1:=Ha ht1
   have htt1 : t1 ≤ m := by have h1 := HM.out; have : g.terms.length ≤ g.top := by (unfold Gm.top; omega)
                            omega
   obtain ⟨x0,x1,x2,x3⟩:=HCMS.out.mt.gb.cells;clear ht1;go_wp2_with fail;clear hmk y8 f8 hWM hWb x0 x1 x2 x3
   go_loopw [10] (fun sv wr=>∃ (s:Nat) (vs':List Value),t1≤s∧s≤m∧sv=.int .i64 s∧Cms (fun j=>j<wq.heap.size∧(G j∨w.heap.size≤j)) bm A0 c0 A1 c1 A2 c2 g vl vr vts (.slice (some ⟨bR,0,none⟩) (g.top+1) (g.top+1)) z9 z10 z11 z12 w.heap.size bC wr vs'∧Chg (· = bC) wM wr) (fun sv _=>m-(intOf sv).toNat)
   case atStart=>exact ⟨t1,_,gO _,htt1,rfl,HCMS.out,Chg.refl _ _⟩
   case round=>
    obtain ⟨s,vs',hs1,hsm,rfl,hcm,hcr⟩:=hrel;have HCM:=Ha hcm;have HCR:=Ha hcr;clear hcm hcr HCMS;obtain ⟨x0,x1,x2,x3⟩:=HCM.out.mt.gb.cells;go_wp2_with fail;refine (HT.out _ _ _ g HCM.out.mt.gb.old HCM.out.mt.gb.gm (by omega)).mono ?_;rintro e wt ⟨rfl,hbt⟩;have HCT:=Ha (HCM.out.below hbt);have HCB:=Ha (show Chg (· = bC) wM wt from HCR.out.trans (Chg.of hbt));clear hbt x0 x1 x2 x3;by_cases hst:s≤g.top
    ·have hcd:=HCT.out.below (gR wt.heap.size wt).drew;have hN:g.N (s:Int):=by have:=HT1.out;unfold Gm.N;omega
     have HCO:=Ha (AM _ wt.drew bm A0 c0 A1 c1 A2 c2 g vr vts _ (s:Int) hcd.mt HW.out.kn hN HW.out.lx hlr hn31 (by omega));have HS:=Ha (show ∀ X:World,X.heap[bm]? = wt.drew.heap[bm]? → X.cell? ⟨bm,8,none⟩=some (.slice (some ⟨bC,0,none⟩) (g.top+1) (g.top+1)) from fun X hX=>aA (hX.trans hcd.box) 8 _ rfl);have HCD:=Ha hcd;have hsl:s<vs'.length:=by rw [hcd.len];omega
     have hs0:(0:Int)≤(s:Int):=by omega
     have hs2:(s:Int)<(g.top:Int)+1:=by omega
     have hst':(s:Int)≤(g.top:Int):=by omega
     have hsw:IntKind.i64.wrap ((s:Int)+1)=((s+1:Nat):Int):=by rw [IntWalk.i64_in _ (by omega)];omega
     clear hcd hN;go_wp2_with fail;refine aE.start 9 (fun X=>X.cell? ⟨bm,8,none⟩=some (.slice (some ⟨bC,0,none⟩) (g.top+1) (g.top+1))) (by kernel_rfl) ?hs_1 (fun hHeld=>?hr_1)
     case hs_1=>exact HS.out _ rfl
     refine aE.tks [0,1,2,3,4,5,6] ?_ (by kernel_rfl) (by assumption)
     iterate 7
      refine aK.cons ?_ (by rfl) (by rfl) (by intro w h;(try dsimp only at h);simp only [gA,gB,gC];go_simp;try with_reducible rfl) (by exact fun _ _ _ h=>h);simp only [gA,gB,gC,Act.put,gD,gE,gF]
     show aE _ _ _ _ _ _ _ _ _ _;refine aE.one (i:=7) (by kernel_rfl) rfl fun K hK=>?_;simp only [gA,gB,gC]
     go_simp
     with_reducible refine Calls.mono HCO.out ?_
     rintro e wv ⟨⟨v,xs,vt,T,rfl,hx⟩,hbv⟩;obtain ⟨eC,em,yC,fC,hcC,hcm⟩:=HCD.out.put hsl hbv hx (by omega);obtain ⟨Av,cv,rfl,_⟩:=hx.row.shape;obtain ⟨HV,HCN,HCC⟩:=Zh3 (HS.out wv em) hcm (show Chg (· = bC) wM _ from (HCB.out.drew).trans hcC);clear hx hbv eC em hcm hcC;dsimp only;refine hK.out _ _ ?_ (fun hHeld=>?_)
     ·exact HV.out
     clear hK K;try simp only [Act.put,gD,gE,gF]
     refine aE.one (i:=8) (by kernel_rfl) rfl fun K hK=>?_;simp only [gA,gB,gC]
     go_simp
     refine hK.out _ _ ?_ (fun hHeld=>?_)
     ·exact HV.out
     clear hK K;try simp only [Act.put,gD,gE,gF]
     refine aE.last (by kernel_rfl) rfl fun K hK=>?_;simp only [gA,gB,gC]
     go_simp
     refine hK.out _ _ (aE.done (by kernel_rfl) ?_ _);go_wp2_with fail
     go_roundw
     case rel=>
      have h2:=HM.out;exact ⟨s+1,_,by omega,by omega,by first | rfl | go_num,HCN.out,HCC.out⟩
     case measure=>
      have h2:=HM.out;simp only [intOf];omega
    ·have hst':¬(s:Int)≤(g.top:Int):=by omega
     have HFI2:=Ha (show uC G w bm A0 c0 A1 c1 A2 c2 g vl z9 z10 z11 z12 (.returned (.tuple #[])) wt from
      ⟨⟨rfl,vr,vts,_,_,HCT.out.box,HCT.out.mt.keepG (fun j hj=>⟨HCT.out.mt.gb.old j hj,HWQ.out j hj⟩) (fun _ h=>h.1) (gO _) (fun _ _=>rfl) (fun _ _=>rfl),HCT.out.slAt (by omega)⟩,HCWM.out.trans2 HCB.out fun i hi e=>by have:=HBC.out;omega⟩)
     clear hst;go_wp2_with fail
     go_end0
     exact HFI2.out
  case pos=>
   have hkr:k≤g.rules.length:=by have:=HN1.out;omega
   go_wp2_with fail;refine (HRU.out G _ _ g k HPR.out.gb.old HPR.out.gb.gm hkr).mono ?_;rintro e w5 ⟨⟨A,c,rfl,hri⟩,hb5⟩;obtain ⟨rl,hrl⟩:∃ rl,rl=(g.rightAt k).length:=⟨_,rfl⟩;rw [← hrl] at hri ⊢;have hb6:Below w5.heap.size w5 (w5.alloc (.cells #[.int .i64 (g.leftAt k),.slice A rl c] 64)):=(gR _ _).alloc (gO _) _;have q6:=aC w5 (.cells #[.int .i64 (g.leftAt k),.slice A rl c] 64);generalize hW6:w5.alloc (.cells #[.int .i64 (g.leftAt k),.slice A rl c] 64)=w6 at *;have hb56:Below wr.heap.size wr w6.drew:=(hb5.trans (hb6.mono hb5.size)).drew;obtain ⟨F6,hF6⟩:∃ F6:Nat→Prop,F6=fun j=>F j∨(wr.heap.size≤j∧j<w6.heap.size):=⟨_,rfl⟩;have hFl:=fun j (hj:F j)=>(HPR.out.fr j hj).1;have hp6:=HPR.out.grow (F':=F6) hb56 (fun j h=>by rw [hF6];exact .inl h) (fun j h=>by
    rw [hF6] at h;rcases h with h | h
    ·exact ⟨gK (hFl j h) hb56.size,.inl h⟩
    ·exact ⟨h.2,.inr h.1⟩)
   have hri6:aF F6 w6.drew (.slice A rl c) (g.rightAt k):=aH.keepG (w:=w5) (fun j h=>by
    rw [hF6];rcases h with h | h
    ·exact .inl (HPR.out.gF j h)
    ·exact .inr ⟨h.1,gK h.2 hb6.size⟩) (fun j h=>(hb6.drew).block j (by
    rcases h with h | h
    ·exact gK (HPR.out.gb.old j h) hb5.size
    ·exact h.2)) hri fun _ _ h=>h
   have hsz5:=hb5.size;obtain ⟨Ar,cr,rfl,_⟩:=hp6.rs.shape;rw [yG] at hp6;obtain ⟨A4,c4,w7a,w7,hrun,hW7,e3,e4,y5,f5,hc7,hp7⟩:=hp6.pushRight hri6 (by omega);replace hrun:WrA Tryz.prog #[92,92] 92 #[.slice Ar k cr,.slice (some ⟨w6.heap.size,0,none⟩) 1 1] (w6.alloc (.cells #[.slice A rl c] 26)).drew=.ok (.slice A4 (k+1) c4) w7a:=hrun;have hTq:TB 64 w6.drew w5.heap.size:=⟨_,q6⟩;have hqm:w5.heap.size≠bm:=hTq.ne (T':=248) ⟨_,hp6.box⟩ (by decide);have q7:w7.heap[w5.heap.size]? = some (.cells #[.int .i64 (g.leftAt k),.slice A rl c] 64 (0,0)):=(hc7.same _ hTq.lt fun e=>e.elim hqm fun e=>hTq.ne (hp6.rs.tb e).2 (by decide) rfl).trans q6;have q7a:w7a.heap[w5.heap.size]? = some (.cells #[.int .i64 (g.leftAt k),.slice A rl c] 64 (0,0)):=by
    rw [← hW7] at q7;exact (gU _ _ _ _ hqm).symm.trans q7
   have q6a:(w6.drew.alloc (.cells #[.slice A rl c] 26)).heap[w5.heap.size]? = some (.cells #[.int .i64 (g.leftAt k),.slice A rl c] 64 (0,0)):=(Below.heap_alloc _ _ _ hTq.lt).trans q6;have hS:∀ X:World,X.heap[bm]? = w6.drew.heap[bm]? → X.heap[w5.heap.size]? = some (.cells #[.int .i64 (g.leftAt k),.slice A rl c] 64 (0,0))→X.cell? ⟨bm,5,none⟩=some (.slice Ar k cr)∧X.cell? ⟨w5.heap.size,1,none⟩=some (.slice A rl c):=fun X h1 h2=>⟨aA (h1.trans hp6.box) 5 _ rfl,aA h2 1 _ rfl⟩;have HS6:=Ha (gS (hS _ rfl q6) (gS (hS _ e3 q6a) (hS _ e4 q7a)));have hcl:Chg (fun k=>k=bm∨k=bR) wL w7:=(HCR.out.trans2 (Chg.of hb56:Chg (fun k=>k=bm∨k=bR) wr w6.drew) fun _ _ h=>h).trans2 hc7 fun i hi e=>e.elim .inl fun e=>.inr (by
    have h1:=(hp6.rs.tb e).1;have h2:=HL.out.2.2.2.2;omega)
   have HR6:=Ha (show aF F6 w7 (.slice A rl c) (g.rightAt k) from aH.keepG (fun _ h=>h) (fun j hj=>hc7.same j (hp6.fr j hj).1 fun e=>e.elim (hp6.fr j hj).2.1 (hp6.fr j hj).2.2.2.1) hri6 fun _ _ h=>h);have HP7:=Ha hp7;have HC7:=Ha hcl;have HQ7:=Ha q7;have HRL:=Ha hrl;have HF6:=Ha hF6;have hrl8:rl≤8:=by rw [hrl];exact kB HW.out.lx k
   clear hb6 hb56 hFl hp6 hri6 hri hb5 hS q6 q7 q7a q6a hcl hp7 hrl hF6 hTq;clear x0 x1 x2 x3;go_wp2_with fail;refine aE.start 11 (fun X=>X.cell? ⟨bm,5,none⟩=some (.slice Ar k cr)∧X.cell? ⟨w5.heap.size,1,none⟩=some (.slice A rl c)) (by kernel_rfl) ?hs_2 (fun hHeld=>?hr_2)
   case hs_2=>exact HS6.out.1
   refine aE.tks [0,1,2,3,4,5,6] ?_ (by kernel_rfl) (by assumption)
   iterate 7
    refine aK.cons ?_ (by rfl) (by rfl) (by intro w h;(try dsimp only at h);simp only [gA,gB,gC];go_simp;try with_reducible rfl) (by exact fun _ _ _ h=>h);simp only [gA,gB,gC,Act.put,gD,gE,gF]
   show aE _ _ _ _ _ _ _ _ _ _;refine aE.one (i:=7) (by kernel_rfl) rfl fun K hK=>?_;simp only [gA,gB,gC]
   go_simp
   refine hK.out _ _ ?_ (fun hHeld=>?_)
   ·exact HS6.out.2.1
   clear hK K;try simp only [Act.put,gD,gE,gF]
   refine aE.one (i:=8) (by kernel_rfl) rfl fun K hK=>?_;simp only [gA,gB,gC]
   go_simp
   refine hK.out _ _ ?_ (fun hHeld=>?_)
   ·exact HS6.out.2.2
   clear hK K;try simp only [Act.put,gD,gE,gF]
   refine aE.one (i:=9) (by kernel_rfl) rfl fun K hK=>?_;simp only [gA,gB,gC]
   go_simp
   refine hK.out _ _ ?_ (fun hHeld=>?_)
   ·exact HS6.out.2.2
   clear hK K;try simp only [Act.put,gD,gE,gF]
   refine aE.one (i:=10) (by kernel_rfl) rfl fun K hK=>?_;simp only [gA,gB,gC]
   go_simp
   refine hK.out _ _ ?_ (fun hHeld=>?_)
   ·exact HS6.out.2.2
   clear hK K;try simp only [Act.put,gD,gE,gF]
   refine aE.last (by kernel_rfl) rfl fun K hK=>?_;simp only [gA,gB,gC]
   go_simp
   refine hK.out _ _ (aE.done (by kernel_rfl) ?_ _);clear hrun hW7 e3 e4 y5 f5 HS6 HPR;obtain ⟨x0,x1,x2,x3⟩:=HP7.out.gb.cells
   go_upto_if 63 with fail
   go_cut [] (fun wx=>∃ vs',Prep w0 G bR bm A0 c0 A1 c1 A2 c2 g vl (.slice none 0 0) z9 z10 z11 z12 bR F6 wx (.slice A4 (k+1) c4) vts vs' (k+1) (min (k+1) g.rules.length) k∧Chg (fun j=>j=bm∨j=bR) wL wx∧wx.heap[w5.heap.size]? = some (.cells #[.int .i64 (g.leftAt k),.slice A rl c] 64 (0,0))∧(∀ j,F6 j→wx.heap[j]? = w7.heap[j]?))
   case first=>
    by_cases hkl:k<g.rules.length
    ·obtain ⟨t,htl,htt⟩:∃ t:Nat,g.rules[k].1=(t:Int)∧t≤g.top:=by
      have h1:=HW.out.kn.left _ (gN hkl);unfold Gm.N at h1;exact ⟨g.rules[k].1.toNat,by omega,by omega⟩
     have hmin:min k g.rules.length=k:=by omega
     have hpd:=HP7.out.grow (F':=F6) (gR w7.heap.size w7).drew (fun _ h=>h) fun j h=>⟨(HP7.out.fr j h).1,.inl h⟩;rw [hmin] at hpd;have htv:t<vs.length:=by rw [hpd.rl.len];omega
     obtain ⟨vt,hvt⟩:∃ vt,vt=vs[t]:=⟨_,rfl⟩;have hru:=hpd.pushRule hkl hlr htl htv;have hvc:vs.toArray[t]? = some vt:=by rw [hvt];simp [htv]
     have hTv:∀ i,vs[t].ownBlock=some i→TB 3 w7.drew i:=fun i hi=>(hpd.rl.lt htv hi).2.1;obtain ⟨At,nt,ct,hve⟩:∃ A n c,vs[t]=.slice A n c:=by
      obtain ⟨A,c,e⟩:=aX.shape (hpd.rl.ints t htv);exact ⟨A,_,c,e⟩
     rw [← hvt] at hru hTv hve;obtain rfl:=hve;obtain ⟨v',w8a,w8,hrun,hW8,⟨A8,n8,c8,rfl⟩,eR1,em1,eR2,em2,em3,y8,f8,hc8,hp8⟩:=hru;replace hrun:WrA Tryz.prog #[26,26] 26 #[.slice At nt ct,.slice (some ⟨w7.heap.size,0,none⟩) 1 1] (w7.alloc (.cells #[.int .i64 (k:Int)] 3)).drew=.ok (.slice A8 n8 c8) w8a:=hrun;have q7d:w7.drew.heap[w5.heap.size]? = some (.cells #[.int .i64 (g.leftAt k),.slice A rl c] 64 (0,0)):=HQ7.out;rw [Gm.leftAt_lt g hkl,htl] at q7d;have hTq:TB 64 w7.drew w5.heap.size:=⟨_,q7d⟩;have hTm:TB 248 w7.drew bm:=⟨_,hpd.box⟩;have hTR:TB 26 w7.drew bR:=⟨_,hpd.rl.row⟩;have hqR:w5.heap.size≠bR:=hTq.ne hTR (by decide);have q8:w8.heap[w5.heap.size]? = some (.cells #[.int .i64 (t:Int),.slice A rl c] 64 (0,0)):=(hc8.same _ hTq.lt fun e=>e.elim hqR fun e=>hTq.ne (hTv _ e) (by decide) rfl).trans q7d;have q8a:w8a.heap[w5.heap.size]? = some (.cells #[.int .i64 (t:Int),.slice A rl c] 64 (0,0)):=by
      rw [← hW8] at q8;exact (gU _ _ _ _ hqR).symm.trans q8
     have q7a:=(Below.heap_alloc w7.drew (.cells #[.int .i64 (k:Int)] 3) _ hTq.lt).trans q7d;have hS:∀ X:World,X.heap[bm]? = w7.drew.heap[bm]? → X.heap[w5.heap.size]? = some (.cells #[.int .i64 (t:Int),.slice A rl c] 64 (0,0))→X.heap[bR]? = w7.drew.heap[bR]? → X.cell? ⟨bm,7,none⟩=some (.slice (some ⟨bR,0,none⟩) (g.top+1) (g.top+1))∧X.cell? ⟨w5.heap.size,0,none⟩=some (.int .i64 (t:Int))∧X.cell? ⟨bR,t,none⟩=some (.slice At nt ct):=fun X h1 h2 h3=>⟨aA (h1.trans hpd.box) 7 _ rfl,aA h2 0 _ rfl,aA (h3.trans hpd.rl.row) t _ hvc⟩;have HS8:=Ha (gS (hS _ rfl q7d rfl) (gS (hS _ em1 q7a eR1) (hS _ em2 q8a eR2)));have hc8':Chg (fun j=>j=bm∨j=bR) wL w8:=(HC7.out.drew).trans2 hc8 fun i hi e=>.inr (e.elim id fun e=>by
      have h1:=(hpd.rl.lt htv (hvt▸e)).1;have h2:=HL.out.2.2.2.2;omega)
     have q8b:w8.heap[w5.heap.size]? = some (.cells #[.int .i64 (g.leftAt k),.slice A rl c] 64 (0,0)):=by rw [Gm.leftAt_lt g hkl,htl];exact q8
     have hk8:∀ j,F6 j→w8.heap[j]? = w7.heap[j]? := fun j hj=>hc8.same j (hpd.fr j hj).1 fun e=>e.elim (hpd.fr j hj).2.2.1 fun e=>hpd.rl.own t htv j (hvt▸e) hj;have hmin1:min (k+1) g.rules.length=k+1:=by omega
     have HF8:=Ha (show ∃ vs',Prep w0 G bR bm A0 c0 A1 c1 A2 c2 g vl (.slice none 0 0) z9 z10 z11 z12 bR F6 w8 (.slice A4 (k+1) c4) vts vs' (k+1) (min (k+1) g.rules.length) k∧Chg (fun j=>j=bm∨j=bR) wL w8∧w8.heap[w5.heap.size]? = some (.cells #[.int .i64 (g.leftAt k),.slice A rl c] 64 (0,0))∧(∀ j,F6 j→w8.heap[j]? = w7.heap[j]?) from ⟨_,by rw [hmin1];exact hp8,hc8',q8b,hk8⟩);have ht0:(0:Int)≤(t:Int):=by omega
     have ht1:(t:Int)<(g.top:Int)+1:=by omega
     have hkl':(k:Int)<(g.rules.length:Int):=by omega
     clear hpd hvc hTv hvt htv q7d hTq hTm hTR hqR q8 q8a q7a hS hc8' q8b hk8 hmin1 hmin hp8 hc8 htl htt hkl;go_wp2_with fail;refine aE.start 18 (fun X=>X.cell? ⟨bm,7,none⟩=some (.slice (some ⟨bR,0,none⟩) (g.top+1) (g.top+1))∧X.cell? ⟨w5.heap.size,0,none⟩=some (.int .i64 (t:Int))∧X.cell? ⟨bR,t,none⟩=some (.slice At nt ct)) (by kernel_rfl) ?hs_3 (fun hHeld=>?hr_3)
     case hs_3=>exact HS8.out.1
     refine aE.tks [0,1,2,3,4,5,6,7,8,9,10,11,12,13,14] ?_ (by kernel_rfl) (by assumption)
     iterate 15
      refine aK.cons ?_ (by rfl) (by rfl) (by intro w h;(try dsimp only at h);simp only [gA,gB,gC];go_simp;try with_reducible rfl) (by exact fun _ _ _ h=>h);simp only [gA,gB,gC,Act.put,gD,gE,gF]
     show aE _ _ _ _ _ _ _ _ _ _;refine aE.one (i:=15) (by kernel_rfl) rfl fun K hK=>?_;simp only [gA,gB,gC]
     go_simp
     refine hK.out _ _ ?_ (fun hHeld=>?_)
     ·exact HS8.out.2.1
     clear hK K;try simp only [Act.put,gD,gE,gF]
     refine aE.one (i:=16) (by kernel_rfl) rfl fun K hK=>?_;simp only [gA,gB,gC]
     go_simp
     refine hK.out _ _ ?_ (fun hHeld=>?_)
     ·exact HS8.out.2.2
     clear hK K;try simp only [Act.put,gD,gE,gF]
     refine aE.one (i:=17) (by kernel_rfl) rfl fun K hK=>?_;simp only [gA,gB,gC]
     go_simp
     refine hK.out _ _ ?_ (fun hHeld=>?_)
     ·exact HS8.out.2.2
     clear hK K;try simp only [Act.put,gD,gE,gF]
     refine aE.last (by kernel_rfl) rfl fun K hK=>?_;simp only [gA,gB,gC]
     go_simp
     refine hK.out _ _ (aE.done (by kernel_rfl) ?_ _);go_wp2_with fail
     go_meet
     exact HF8.out
    ·have hkl':¬(k:Int)<(g.rules.length:Int):=by omega
     have HF8:=Ha (show ∃ vs',Prep w0 G bR bm A0 c0 A1 c1 A2 c2 g vl (.slice none 0 0) z9 z10 z11 z12 bR F6 w7 (.slice A4 (k+1) c4) vts vs' (k+1) (min (k+1) g.rules.length) k∧Chg (fun j=>j=bm∨j=bR) wL w7∧w7.heap[w5.heap.size]? = some (.cells #[.int .i64 (g.leftAt k),.slice A rl c] 64 (0,0)) from ⟨vs,by rw [show min (k+1) g.rules.length=min k g.rules.length by omega];exact HP7.out,HC7.out,HQ7.out⟩);clear hkl;go_wp2_with fail
     go_meet
     obtain ⟨vs',h1,h2,h3⟩:=HF8.out;exact ⟨vs',h1,h2,h3,fun _ _=>rfl⟩
   case rest=>
    obtain ⟨vs',hpc,hcc,hqc,hkc⟩:=hcut;have HRC:=Ha (show aF F6 wc (.slice A rl c) (g.rightAt k) from aH.keepG (fun _ h=>h) hkc HR6.out fun _ _ h=>h);have hfc:Fz wc bf (g.top+1) (g.terms.length+1) bE bwE B1 d1 B2 d2 ps qs:=HL.out.2.2.1.chg2 HL.out.1 HL.out.2.1 hcc;obtain ⟨HPC,HCC,HQC,HFC⟩:=Zh4 hpc hcc hqc hfc;have r1:=aA hqc 1 _ rfl;clear hpc hcc hqc hkc hfc HR6 HP7 HC7 HQ7 x0 x1 x2 x3;go_wp2_with fail
    go_loopw [6,85] (fun tv iv we=>∃ d,d≤rl∧iv=.int .i64 (d:Nat)∧Tls wc.heap.size (g.terms.length+1) we tv ((g.rightAt k).take d)∧Below wc.heap.size wc we) (fun _ iv _=>rl-(intOf iv).toNat)
    case atStart=>exact ⟨0,gX _,rfl,by rw [List.take_zero];exact aG.nil _ _ _ _ _,gR _ _⟩
    case round=>
     obtain ⟨d,hd,rfl,htl,hbe⟩:=hrel;have HTE:=Ha htl;have HBE:=Ha hbe;have r1:=aD r1 hbe;clear htl hbe;by_cases hdl:d<rl
     ·obtain ⟨bl,ol,rfl,_⟩:=aF.get HRC.out (k:=d) (by rw [← HRL.out];exact hdl);have hGe:∀ j,F6 j→j<wr.heap.size:=fun j hj=>gK (HPC.out.fr j hj).1 HBE.out.size;have hre:aF F6 wr (.slice (some ⟨bl,ol,none⟩) rl c) (g.rightAt k):=aH.keepG (fun _ h=>h) (fun j hj=>HBE.out.block j (HPC.out.fr j hj).1) HRC.out fun _ _ h=>h;have hcap:rl≤c:=by obtain ⟨_,_,e,h2,_⟩:=hre.shape;injection e with _ e1 e;subst e;rw [e1];exact h2
      have hcm:c≤maxLen:=by obtain ⟨_,_,e,_,h2⟩:=hre.shape;injection e with _ e1 e;subst e;exact h2
      unfold maxLen at hcm;obtain ⟨d1',hd1⟩:∃ d1':Nat,d1'=d+1:=⟨_,rfl⟩;have hdw:IntKind.i64.wrap ((d:Int)+1)=(d1':Int):=by rw [hd1];exact IntWalk.i64_in _ (by omega)
      have hd2:(d1':Int)≤(rl:Int):=by omega
      have hd0:(0:Int)≤(d1':Int):=by omega
      have hcap':(rl:Int)≤(c:Int):=by omega
      have hdr:=aF.dropK hre (k:=d1') (by omega);have hdl2:rl-d1'=((g.rightAt k).drop d1').length:=by rw [List.length_drop,← HRL.out]
      generalize hAe:(if c=d1' then some ⟨bl,ol,none⟩ else some ⟨bl,ol+d1',none⟩:Option Addr)=A' at hdr;rw [hdl2] at hdr;have hfe:=HFC.out.below HBE.out;have HLN:=Ha (GQ F6 wr bf (g.top+1) (g.terms.length+1) bE bwE B1 d1 B2 d2 ps qs A' (c-d1') ((g.rightAt k).drop d1') hfe (by omega) hGe hdr (fun s hs=>by
       rcases Gm.right_sym HW.out.kn k s (List.mem_of_mem_drop hs) with h | h
       ·unfold Gm.T at h;unfold Gm.top;omega
       ·unfold Gm.N at h;omega))
      rw [← hdl2] at HLN;have HD1:=Ha hd1;clear hGe hre hcm hdr hdl2 hfe hd1;go_wp2_with fail;refine (HLN.out).mono ?_;rintro e w9 ⟨⟨v9,all,r9,rfl,hv9,hd9⟩,hb9⟩;obtain ⟨A9,c9,rfl⟩:=aX.shape hv9;have hB9:=HBE.out.trans (hb9.mono HBE.out.size);have x0:=aD HPC.out.gb.x0 hB9;have HSE:=Ha (DE (Old w9) w9 bm (g.terms.length+1) g.terms.length A0 c0 A9 c9 r9 x0 (fun _ h=>h) (aX.at_ hv9) hd9 rfl (by omega));have HB9:=Ha hB9;have HT9:=Ha (Tls.below HTE.out hb9);clear hv9 hd9 hb9 hB9 x0;go_wp2_with fail;refine (HSE.out).mono ?_;rintro e w10 ⟨⟨b10,bw10,X10,rfl,hb10,hbw10,hset10⟩,hbb10⟩;obtain ⟨At,ct,rfl,_⟩:=(HT9.out).shape;have htake:((g.rightAt k).take d).length=d:=by rw [yA,← HRL.out];omega
      have hB9s := HB9.out.size; have htp := (Tls.below HT9.out hbb10).push ((g.rightAt k)[d]'(by rw [← HRL.out]; exact hdl)) (em := all) (gP hB9s hb10) (gP hB9s hbw10) hset10 (by omega) (gP hB9s hbb10.size); rw [htake, List.take_append_getElem] at htp; rw [htake]; obtain ⟨A11, c11, w11, hrun, htl, hb11⟩ := htp; have HT11 := Ha htl; have HB11 := Ha ((HB9.out.trans (hbb10.mono HB9.out.size)).trans hb11); clear htl hb11 hb10 hbw10 hset10 hbb10; go_wp2_with fail
      go_roundw
      case rel=>exact ⟨d1',by have:=HD1.out;omega,by first | rfl | go_num,by rw [HD1.out];exact HT11.out,HB11.out⟩
      case measure=>have:=HD1.out;simp only [intOf];omega
     ·obtain rfl:d=rl:=by omega
      obtain ⟨F9,hF9⟩:∃ F9:Nat→Prop,F9=fun j=>F6 j∨(wc.heap.size≤j∧j<wr.heap.size):=⟨_,rfl⟩;have hp9:=HPC.out.grow (F':=F9) HBE.out (fun j h=>by rw [hF9];exact .inl h) (fun j h=>by
       rw [hF9] at h;rcases h with h | h
       ·exact ⟨gK (HPC.out.fr j h).1 HBE.out.size,.inl h⟩
       ·exact ⟨h.2,.inr h.1⟩)
      have hrv:aH F9 wr 2 (dZ F9 wr (g.terms.length+1)) u6 (g.rightAt k):=by
       have h1:=HTE.out;rw [HRL.out,List.take_length] at h1;exact aG.look (h1.mono fun _ _ h=>h.keep (fun j hj=>by rw [hF9];exact .inr hj) fun _ _=>rfl) fun j hj=>by rw [hF9];exact .inr (h1.lt hj)
      obtain ⟨Av,cv,rfl,_⟩:=hp9.ts.shape;rw [yG] at hp9;obtain ⟨A5,c5,w9a,w9,hrun,hW9,e3,e4,y6,f6,hc9,hp10⟩:=hp9.pushTail hrv (by omega);have z6:=aA hp9.box 6 _ rfl;have HP10:=Ha hp10;have HC10:=Ha (show Chg (fun j=>j=bm∨j=bR) wL w9 from (HCC.out.trans2 (Chg.of HBE.out:Chg (fun j=>j=bm∨j=bR) wc wr) fun _ _ h=>h).trans2 hc9 fun i hi e=>e.elim .inl fun e=>.inr (by
       have h1:=(hp9.ts.tb e).1;have h2:=HL.out.2.2.2.2;omega))
      have HF10:=Ha (show ∀ j,F9 j→G j∨w.heap.size≤j from fun j hj=>by
       have hwr:=HFF.out;rw [hF9,HF6.out] at hj;have h0:=HB1.out.size;have h1:=HCR.out.size;have h2:=HBR.out;have h3:=HCC.out.size;have h4:=HL.out.2.2.2.2;rcases hj with (hj | hj) | hj
       ·exact hwr j hj
       ·exact .inr (by omega)
       ·exact .inr (by omega))
      obtain ⟨At,ct,hte,_⟩:=HTE.out.shape;rw [yA,← HRL.out,Nat.min_self] at hte;clear hp9 hrv hc9 hp10 hF9;subst hte;go_wp2_with fail
      go_roundw
      case rel=>exact ⟨k+1,_,_,_,_,by omega,by go_num,HP10.out,HC10.out,HF10.out⟩
      case measure=>simp only [intOf];omega
end
structure Ba (w0:World) (G:Nat→Prop) (B bm bf:Nat) (A0:Option Addr) (c0:Nat) (A1:Option Addr) (c1:Nat) (A2:Option Addr) (c2:Nat) (g:Gm) (ks:List (List Itm)) (A:Option Addr) (c:Nat) (vr vt vu vc:Value) (w:World) (vb va:Value) (ps:List (Nat×Nat)) (i M:Nat):Prop where
 dat:Dat G w g ks (.slice A ks.length c) vr vt vu vc
 gb:GBox G w bm A0 c0 A1 c1 A2 c2 g
 box:w.heap[bm]? = some (.cells #[.slice A0 g.terms.length c0,.slice A1 g.nons.length c1,.slice A2 g.rules.length c2,.int .i64 g.start,.slice A ks.length c,vr,vt,vu,vc,vb,va,.slice none 0 0,.slice (some ⟨bf,0,none⟩) ks.length ks.length] 248 (0,0))
 bs:aX B w vb ((List.range i).map fun (j:Nat)=>(Gm.base ks j:Int))
 all:aG B 68 1 PV w va ps
 sets:∀ p∈ps,B≤p.2∧∃ X,BSet w p.1 p.2 (g.terms.length+1) X
 tot:ps.length=M
 row:w.rowIs bf 307 ks.length fun _=>.slice none 0 0
 bel:Below w0.heap.size w0 w
 le:w0.heap.size≤bm∧w0.heap.size≤bf∧w0.heap.size≤B∧B≤w.heap.size
 gl:∀ k,G k→k<B∧k≠bm∧k≠bf
section
variable {w0:World} {G:Nat→Prop} {B bm bf:Nat} {A0 A1 A2:Option Addr} {c0 c1 c2:Nat} {g:Gm} {ks:List (List Itm)} {A:Option Addr} {c:Nat} {vr vt vu vc:Value} {w w':World} {vb va:Value} {ps:List (Nat×Nat)} {i M:Nat}
theorem Ba.tbf (h:Ba w0 G B bm bf A0 c0 A1 c1 A2 c2 g ks A c vr vt vu vc w vb va ps i M):TB 307 w bf:=by
 obtain ⟨cs,h1,_⟩:=h.row;exact ⟨cs,h1⟩
theorem Ba.below (h:Ba w0 G B bm bf A0 c0 A1 c1 A2 c2 g ks A c vr vt vu vc w vb va ps i M) (hb:Below w.heap.size w w'):Ba w0 G B bm bf A0 c0 A1 c1 A2 c2 g ks A c vr vt vu vc w' vb va ps i M:=
 ⟨h.dat.keep (fun _ h=>h) fun k hk=>hb.block k (h.gb.old k hk),h.gb.on hb,(hb.block _ (gL h.box).1).trans h.box,aX.below h.bs hb,h.all.below hb,fun p hp=>⟨(h.sets p hp).1,(h.sets p hp).2.imp fun X hX=>hX.below hb⟩,h.tot,bK h.row hb,h.bel.trans (hb.mono h.bel.size),⟨h.le.1,h.le.2.1,h.le.2.2.1,gP h.le.2.2.2 hb.size⟩,h.gl⟩
theorem Ba.gbK (h:Ba w0 G B bm bf A0 c0 A1 c1 A2 c2 g ks A c vr vt vu vc w vb va ps i M) (hsz:w.heap.size≤w'.heap.size) (hG:∀ k,G k→w'.heap[k]? = w.heap[k]?) {vb' va':Value} (hb:w'.heap[bm]? = some (.cells #[.slice A0 g.terms.length c0,.slice A1 g.nons.length c1,.slice A2 g.rules.length c2,.int .i64 g.start,.slice A ks.length c,vr,vt,vu,vc,vb',va',.slice none 0 0,.slice (some ⟨bf,0,none⟩) ks.length ks.length] 248 (0,0))):GBox G w' bm A0 c0 A1 c1 A2 c2 g:=by
 refine h.gb.again hsz (fun i hi=>?_) hG
 match i,hi with
 | 0,_=>rw [h.gb.x0];exact aA hb 0 _ rfl
 | 1,_=>rw [h.gb.x1];exact aA hb 1 _ rfl
 | 2,_=>rw [h.gb.x2];exact aA hb 2 _ rfl
 | 3,_=>rw [h.gb.x3];exact aA hb 3 _ rfl
theorem Ba.pushB (h:Ba w0 G B bm bf A0 c0 A1 c1 A2 c2 g ks A c vr vt vu vc w vb va ps i M) (hM:M=Gm.base ks i) (hi:i≤1000000):
  ∃ A4 c4 w4 w5,WrA Tryz.prog #[26,26] 26 #[vb,.slice (some ⟨w.heap.size,0,none⟩) 1 1] (w.alloc (.cells #[.int .i64 (M:Int)] 3))=.ok (.slice A4 (i+1) c4) w4∧w4.setCell ⟨bm,9,none⟩ (.slice A4 (i+1) c4)=w5∧(w.alloc (.cells #[.int .i64 (M:Int)] 3)).heap[bm]? = w.heap[bm]? ∧ w4.heap[bm]? = w.heap[bm]? ∧ w4.cell? ⟨bm,9,none⟩=some vb∧w4.frozen? ⟨bm,9,none⟩=false∧Ba w0 G B bm bf A0 c0 A1 c1 A2 c2 g ks A c vr vt vu vc w5 (.slice A4 (i+1) c4) va ps (i+1) M:=by
 have hbl:=h.le;obtain ⟨A4,c4,w4,w5,hrun,hW5,e3,e4,y5,f5,hbm5,y55,hr5,hc5,how⟩:=kW (i:=9) (v:=vb) (t:=26) Tryz.underlying26 cB rfl (by decide) cF.one (us:=[.int .i64 (M:Int)]) (x:=(M:Int)) rfl rfl h.box rfl (by decide) h.bs (by simp;omega) (by unfold maxLen;simp;omega) hbl.2.2.2;rw [gI,gZ,List.length_map,yG] at hrun hW5 hbm5 y55 hr5 how;have hTb:TB 248 w bm:=⟨_,h.box⟩;have hs:∀ {T:TypeId} {k:Nat},TB T w k→T≠248→T≠3→w5.heap[k]? = w.heap[k]? := fun h1 h2 h3=>hc5.same _ h1.lt fun e=>e.elim (fun e=>h1.ne hTb h2 e) fun e=>h1.ne (aG.tb h.bs e).2 h3 rfl;have hG:∀ k,G k→w5.heap[k]? = w.heap[k]? := fun k hk=>hc5.same k (h.gb.old k hk) fun e=>e.elim (h.gl k hk).2.1 fun e=>by
  have h1:=(aG.tb h.bs e).1;have h2:=(h.gl k hk).1;omega
 refine ⟨A4,c4,w4,w5,hrun,hW5,e3,e4,y5,f5,h.dat.keep (fun _ h=>h) hG,h.gbK hc5.size hG hbm5,hbm5, ?_,h.all.keep fun k hk=>hs (h.all.tb hk).2 (by decide) (by decide),fun p hp=>⟨(h.sets p hp).1,(h.sets p hp).2.imp fun X hX=>hX.keep (hs ⟨_,hX.hb⟩ (by decide) (by decide)) (hs ⟨_,hX.hw⟩ (by decide) (by decide))⟩,h.tot,h.row.of_block (hs h.tbf (by decide) (by decide)),h.bel.trans (hc5.below (fun k e=>?_) h.bel.size),⟨hbl.1,hbl.2.1,hbl.2.2.1,gP hbl.2.2.2 hc5.size⟩,h.gl⟩
 ·rw [List.range_succ,List.map_append,List.map_singleton,← hM];exact hr5
 ·rcases e with rfl | e
  ·exact hbl.1
  ·exact gP hbl.2.2.1 (aG.tb h.bs e).1
theorem Ba.fresh (h:Ba w0 G B bm bf A0 c0 A1 c1 A2 c2 g ks A c vr vt vu vc w vb va ps i M) {e:Ending} (hp:jP w B bm (g.terms.length+1) (.slice A0 g.terms.length c0) (.slice A1 g.nons.length c1) (.slice A2 g.rules.length c2) (.int .i64 g.start) (.slice A ks.length c) vr vt vu vc vb va (.slice none 0 0) (.slice (some ⟨bf,0,none⟩) ks.length ks.length) ps e w'):
  e=.returned (.int .i64 ps.length)∧∃ va' p,Ba w0 G B bm bf A0 c0 A1 c1 A2 c2 g ks A c vr vt vu vc w' vb va' (ps++[p]) i (M+1):=by
 obtain ⟨⟨va',b,bw,rfl,hbx,hr,hset,hb,hbw⟩,hc⟩:=hp;have hbl:=h.le;have hTb:TB 248 w bm:=⟨_,h.box⟩;have hs:∀ {T:TypeId} {k:Nat},TB T w k→T≠248→T≠68→w'.heap[k]? = w.heap[k]? := fun h1 h2 h3=>hc.same _ h1.lt fun e=>e.elim (fun e=>h1.ne hTb h2 e) fun e=>h1.ne (h.all.tb e).2 h3 rfl;have hG:∀ k,G k→w'.heap[k]? = w.heap[k]? := fun k hk=>hc.same k (h.gb.old k hk) fun e=>e.elim (h.gl k hk).2.1 fun e=>by
  have h1:=(h.all.tb e).1;have h2:=(h.gl k hk).1;omega
 refine ⟨rfl,va',(b,bw),h.dat.keep (fun _ h=>h) hG,h.gbK hc.size hG hbx,hbx,aG.keep h.bs fun k hk=>hs (aG.tb h.bs hk).2 (by decide) (by decide),hr,fun p hp=>?_,by rw [gI,gZ,h.tot],h.row.of_block (hs h.tbf (by decide) (by decide)),h.bel.trans (hc.below (fun k e=>?_) h.bel.size),⟨hbl.1,hbl.2.1,hbl.2.2.1,gP hbl.2.2.2 hc.size⟩,h.gl⟩
 ·rcases yC hp with hp | hp
  ·exact ⟨(h.sets p hp).1,(h.sets p hp).2.imp fun X hX=>hX.keep (hs ⟨_,hX.hb⟩ (by decide) (by decide)) (hs ⟨_,hX.hw⟩ (by decide) (by decide))⟩
  ·rw [gV] at hp;subst hp;exact ⟨by simp only;omega,_,hset⟩
 ·rcases e with rfl | e
  ·exact hbl.1
  ·exact gP hbl.2.2.1 (h.all.tb e).1
theorem Ba.start (hm:Mt G w bm A0 c0 A1 c1 A2 c2 g vr vt vu) (hcs:aH G w 1 (bJ fun v (s:Nat)=>dH G w (g.terms.length+1) g v s) vc (List.range (g.top+1))) (hst:cK G w g (.slice A ks.length c) ks) (hbx:w.heap[bm]? = some (.cells #[.slice A0 g.terms.length c0,.slice A1 g.nons.length c1,.slice A2 g.rules.length c2,.int .i64 g.start,.slice A ks.length c,vr,vt,vu,vc,.slice none 0 0,.slice none 0 0,.slice none 0 0,.slice (some ⟨bf,0,none⟩) ks.length ks.length] 248 (0,0))) (hrow:w.rowIs bf 307 ks.length fun _=>.slice none 0 0) (hb:Below w0.heap.size w0 w) (hle:w0.heap.size≤bm∧w0.heap.size≤bf) (hG:∀ k,G k→k≠bm∧k≠bf):
  Ba w0 G w.heap.size bm bf A0 c0 A1 c1 A2 c2 g ks A c vr vt vu vc w (.slice none 0 0) (.slice none 0 0) [] 0 0:=
 ⟨⟨hst,hm.rs,hm.ts,hm.us,hcs⟩,hm.gb,hbx,aG.nil _ _ _ _ _,aG.nil _ _ _ _ _,fun _ h=>(by cases h),rfl,hrow,hb,⟨hle.1,hle.2,hb.size,gO _⟩,fun k hk=>⟨hm.gb.old k hk,hG k hk⟩⟩
theorem Ba.mx (h:Ba w0 G B bm bf A0 c0 A1 c1 A2 c2 g ks A c vr vt vu vc w vb va ps ks.length (Gm.base ks ks.length)):∃ Ab cb,vb=.slice Ab ks.length cb∧Mx w0 G B bm bf A0 c0 A1 c1 A2 c2 g ks A c vr vt vu vc Ab cb w va (.slice none 0 0) ps [] (fun _=>.slice none 0 0) fun _=>[]:=by
 obtain ⟨Ab,cb,rfl,_⟩:=aG.shape h.bs;have hb:=h.box;have hbs:=h.bs;rw [List.length_map,yG] at hb hbs;refine ⟨Ab,cb,by rw [List.length_map,yG],⟨⟨⟨h.gb,aA hb 4 _ rfl,aA hb 5 _ rfl,aA hb 6 _ rfl,aA hb 7 _ rfl,aA hb 8 _ rfl,h.dat⟩,aA hb 9 _ rfl,aG.look hbs fun k hk=>(aG.tb hbs hk).2⟩,hb,h.all,h.sets,Nat.le_of_eq h.tot.symm,aG.nil _ _ _ _ _,fun _ h=>(by cases h),h.row,fun i hi=>⟨aG.nil _ _ _ _ _,fun _ h=>(by cases h)⟩,fun i j _ _ _ k hk=>by simp [Value.ownBlock] at hk,h.bel,h.le,h.gl⟩⟩
end
theorem BP:(Tryz.prog.info? 307).map (fun i=>(i.zero,i.size,i.bytes))=some (some (.slice none 0 0),1,24):=by kernel_rfl
end Go.Proofs.YtpidmmfjcghmeaaGreat
