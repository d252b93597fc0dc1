/- Towards clashesWhole_upto. -/
import Derived.Test.YtpidmmfjcghmeaaGreatCz49
set_option maxRecDepth 100000
set_option maxHeartbeats 16000000
set_option linter.all false
namespace Go.Proofs.YtpidmmfjcghmeaaGreat
open Go.RowKit
section
variable {w0:World} {G:Nat→Prop} {B bm:Nat} {A0 A1 A2:Option Addr} {c0 c1 c2:Nat} {g:Gm} {vl u8 u9 u10 u11 u12:Value} {bR:Nat} {F F':Nat→Prop} {w w':World} {vr vts:Value} {vs:List Value} {k1 k2 k3:Nat}
theorem bJ.one {β:Type} {P:Value→β→Prop} (hP:∀ v x,P v x→v.oneCell'=true):∀ (vs:List Value) (x:β),bJ P vs x→∀ u∈vs,u.oneCell'=true:=by
 rintro vs x ⟨v,rfl,hv⟩ u hu;simp at hu;subst hu;exact hP _ _ hv
theorem BH:(Tryz.prog.info? 293).map (fun i=>(i.zero,i.size,i.bytes))=some (some (.slice none 0 0),1,24):=by kernel_rfl
theorem Prep.pushRight (h:Prep w0 G B bm A0 c0 A1 c1 A2 c2 g vl u8 u9 u10 u11 u12 bR F w vr vts vs k1 k2 k3) {rv:Value} (hrv:aF F w rv (g.rightAt k1)) (hkl:k1≤1000):
  ∃ A4 c4 w4 w5,WrA Tryz.prog #[92,92] 92 #[vr,.slice (some ⟨w.heap.size,0,none⟩) 1 1] (w.alloc (.cells #[rv] 26))=.ok (.slice A4 (k1+1) c4) w4∧w4.setCell ⟨bm,5,none⟩ (.slice A4 (k1+1) c4)=w5∧(w.alloc (.cells #[rv] 26)).heap[bm]? = w.heap[bm]? ∧ w4.heap[bm]? = w.heap[bm]? ∧ w4.cell? ⟨bm,5,none⟩=some vr∧w4.frozen? ⟨bm,5,none⟩=false∧Chg (fun k=>k=bm∨vr.ownBlock=some k) w w5∧Prep w0 G B bm A0 c0 A1 c1 A2 c2 g vl u8 u9 u10 u11 u12 bR F w5 (.slice A4 (k1+1) c4) vts vs (k1+1) k2 k3:=by
 obtain ⟨A4,c4,w4,w5,hrun,hW5,e3,e4,y5,f5,hbm5,y55,hr5,hc5,how⟩:=kW (i:=5) (v:=vr) (t:=92) Tryz.underlying92 rL rfl (by decide) (bJ.one fun v x hv=>by obtain ⟨A,c,rfl,_⟩:=aH.shape hv;rfl) (us:=[rv]) (x:=k1) rfl ⟨rv,rfl,hrv⟩ h.box rfl (by decide) h.rs (by rw [List.length_range];omega) (by rw [List.length_range];unfold maxLen;omega) h.le.2.2.2.2;rw [gI,gZ,List.length_range] at hrun hW5 hbm5 y55 hr5 how;refine ⟨A4,c4,w4,w5,hrun,hW5,e3,e4,y5,f5,hc5, ?_⟩;have hk:∀ k,F k→w5.heap[k]? = w.heap[k]? := fun k hk=>hc5.same k (h.fr k hk).1 fun e=>e.elim (h.fr k hk).2.1 (h.fr k hk).2.2.2.1;have hTb:TB 248 w bm:=⟨_,h.box⟩;have hTR:TB 26 w bR:=⟨_,h.rl.row⟩;have hbl:=h.le;refine ⟨h.gb.again hc5.size (fun i hi=>?_) fun k hk'=>hk k (h.gF k hk'),h.gF,hbm5, ?_, ?_,h.rl.on (hc5.same bR hTR.lt fun e=>e.elim (fun e=>hTR.ne hTb (by decide) e) h.rb) (fun t ht k hk'=>hc5.same k (h.rl.lt ht hk').2.1.lt fun e=>e.elim (fun e=>(h.rl.lt ht hk').2.1.ne hTb (by decide) e) fun e=>(h.rl.lt ht hk').2.1.ne (h.rs.tb e).2 (by decide) rfl) fun k hk=>.inl hk,fun k hk'=>?_,fun e=>?_,h.bel.trans (hc5.below (fun k e=>?_) h.bel.size),⟨hbl.1,hbl.2.1,hbl.2.2.1,hbl.2.2.2.1,gP hbl.2.2.2.2 hc5.size⟩⟩
 ·match i,hi with
  | 0,_=>exact (aA hbm5 0 _ rfl).trans (aA h.box 0 _ rfl).symm
  | 1,_=>exact (aA hbm5 1 _ rfl).trans (aA h.box 1 _ rfl).symm
  | 2,_=>exact (aA hbm5 2 _ rfl).trans (aA h.box 2 _ rfl).symm
  | 3,_=>exact (aA hbm5 3 _ rfl).trans (aA h.box 3 _ rfl).symm
 ·rw [List.range_succ];exact hr5.mono (bJ.mono fun _ _ h=>aH.keepG (fun _ h=>h) hk h fun _ _ h=>h)
 ·exact (h.ts.keep fun k hk'=>hc5.same k (h.ts.tb hk').2.lt fun e=>e.elim (fun e=>(h.ts.tb hk').2.ne hTb (by decide) e) fun e=>(h.ts.tb hk').2.ne (h.rs.tb e).2 (by decide) rfl).mono (bJ.mono fun _ _ h=>aH.keepG (fun _ h=>h) hk h fun _ _ h=>h.keep (fun _ h=>h) hk)
 ·obtain ⟨f1,f2,f3,f4,f5⟩:=h.fr k hk';refine ⟨gK f1 hc5.size,f2,f3,fun e=>?_,f5⟩;rcases how with hw | hw
  ·exact f4 (hw▸e)
  ·rw [hw] at e
   injection e with e
   omega
 ·rcases how with hw | hw
  ·exact h.rb (hw▸e)
  ·rw [hw] at e
   injection e with e
   have:=hTR.lt;omega
 ·rcases e with rfl | e
  ·exact hbl.1
  ·exact gP hbl.2.2.1 (h.rs.tb e).1
theorem Prep.pushTail (h:Prep w0 G B bm A0 c0 A1 c1 A2 c2 g vl u8 u9 u10 u11 u12 bR F w vr vts vs k1 k2 k3) {rv:Value} (hrv:aH F w 2 (dZ F w (g.terms.length+1)) rv (g.rightAt k3)) (hkl:k3≤1000):
  ∃ A4 c4 w4 w5,WrA Tryz.prog #[243,243] 243 #[vts,.slice (some ⟨w.heap.size,0,none⟩) 1 1] (w.alloc (.cells #[rv] 293))=.ok (.slice A4 (k3+1) c4) w4∧w4.setCell ⟨bm,6,none⟩ (.slice A4 (k3+1) c4)=w5∧(w.alloc (.cells #[rv] 293)).heap[bm]? = w.heap[bm]? ∧ w4.heap[bm]? = w.heap[bm]? ∧ w4.cell? ⟨bm,6,none⟩=some vts∧w4.frozen? ⟨bm,6,none⟩=false∧Chg (fun k=>k=bm∨vts.ownBlock=some k) w w5∧Prep w0 G B bm A0 c0 A1 c1 A2 c2 g vl u8 u9 u10 u11 u12 bR F w5 vr (.slice A4 (k3+1) c4) vs k1 k2 (k3+1):=by
 obtain ⟨A4,c4,w4,w5,hrun,hW5,e3,e4,y5,f5,hbm5,y55,hr5,hc5,how⟩:=kW (i:=6) (v:=vts) (t:=243) Tryz.underlying243 BH rfl (by decide) (bJ.one fun v x hv=>by obtain ⟨A,c,rfl,_⟩:=aH.shape hv;rfl) (us:=[rv]) (x:=k3) rfl ⟨rv,rfl,hrv⟩ h.box rfl (by decide) h.ts (by rw [List.length_range];omega) (by rw [List.length_range];unfold maxLen;omega) h.le.2.2.2.2;rw [gI,gZ,List.length_range] at hrun hW5 hbm5 y55 hr5 how;refine ⟨A4,c4,w4,w5,hrun,hW5,e3,e4,y5,f5,hc5, ?_⟩;have hk:∀ k,F k→w5.heap[k]? = w.heap[k]? := fun k hk=>hc5.same k (h.fr k hk).1 fun e=>e.elim (h.fr k hk).2.1 (h.fr k hk).2.2.2.2;have hTb:TB 248 w bm:=⟨_,h.box⟩;have hTR:TB 26 w bR:=⟨_,h.rl.row⟩;have hbl:=h.le;refine ⟨h.gb.again hc5.size (fun i hi=>?_) fun k hk'=>hk k (h.gF k hk'),h.gF,hbm5, ?_, ?_,h.rl.on (hc5.same bR hTR.lt fun e=>e.elim (fun e=>hTR.ne hTb (by decide) e) fun e=>hTR.ne (h.ts.tb e).2 (by decide) rfl) (fun t ht k hk'=>hc5.same k (h.rl.lt ht hk').2.1.lt fun e=>e.elim (fun e=>(h.rl.lt ht hk').2.1.ne hTb (by decide) e) fun e=>(h.rl.lt ht hk').2.1.ne (h.ts.tb e).2 (by decide) rfl) fun k hk=>.inl hk,fun k hk'=>?_,fun e=>?_,h.bel.trans (hc5.below (fun k e=>?_) h.bel.size),⟨hbl.1,hbl.2.1,hbl.2.2.1,hbl.2.2.2.1,gP hbl.2.2.2.2 hc5.size⟩⟩
 ·match i,hi with
  | 0,_=>exact (aA hbm5 0 _ rfl).trans (aA h.box 0 _ rfl).symm
  | 1,_=>exact (aA hbm5 1 _ rfl).trans (aA h.box 1 _ rfl).symm
  | 2,_=>exact (aA hbm5 2 _ rfl).trans (aA h.box 2 _ rfl).symm
  | 3,_=>exact (aA hbm5 3 _ rfl).trans (aA h.box 3 _ rfl).symm
 ·exact (h.rs.keep fun k hk'=>hc5.same k (h.rs.tb hk').2.lt fun e=>e.elim (fun e=>(h.rs.tb hk').2.ne hTb (by decide) e) fun e=>(h.rs.tb hk').2.ne (h.ts.tb e).2 (by decide) rfl).mono (bJ.mono fun _ _ h=>aH.keepG (fun _ h=>h) hk h fun _ _ h=>h)
 ·rw [List.range_succ];exact hr5.mono (bJ.mono fun _ _ h=>aH.keepG (fun _ h=>h) hk h fun _ _ h=>h.keep (fun _ h=>h) hk)
 ·obtain ⟨f1,f2,f3,f4,f5⟩:=h.fr k hk';refine ⟨gK f1 hc5.size,f2,f3,f4,fun e=>?_⟩;rcases how with hw | hw
  ·exact f5 (hw▸e)
  ·rw [hw] at e
   injection e with e
   omega
 ·exact h.rb e
 ·rcases e with rfl | e
  ·exact hbl.1
  ·exact gP hbl.2.2.1 (h.ts.tb e).1
end
theorem vE (s:Int):∀ (l m:List (Int×List Int)) (k:Nat),ofR s (l++m) k=ofR s l k++ofR s m (k+l.length)
 | [],m,k=>by simp [ofR]
 | r::l,m,k=>by
  have ih:=vE s l m (k+1);rw [List.cons_append,ofR,ofR,ih,gG,show k+(l.length+1)=k+1+l.length by omega];by_cases h:r.1=s
  ·rw [if_pos h,if_pos h];rfl
  ·rw [if_neg h,if_neg h]
theorem CC (s:Int) (l:List (Int×List Int)) {k:Nat} (h:k<l.length):ofR s (l.take (k+1)) 0=if l[k].1=s then ofR s (l.take k) 0++[(k:Int)] else ofR s (l.take k) 0:=by
 rw [← List.take_append_getElem h,vE,List.length_take,Nat.min_eq_left (Nat.le_of_lt h),Nat.zero_add,ofR,ofR];by_cases e:l[k].1=s
 ·rw [if_pos e,if_pos e]
 ·rw [if_neg e,if_neg e,List.append_nil]
theorem Rl.congr {B:Nat} {F:Nat→Prop} {w:World} {bR m:Nat} {vs:List Value} {R R':Nat→List Int} (h:Rl B F w bR m vs R) (hR:∀ t,t<m→R t=R' t):Rl B F w bR m vs R':=
 ⟨h.row,h.len,fun t ht=>by rw [← hR t (h.len▸ht)];exact h.ints t ht,h.own,h.apart⟩
section
variable {w0:World} {G:Nat→Prop} {B bm:Nat} {A0 A1 A2:Option Addr} {c0 c1 c2:Nat} {g:Gm} {vl u8 u9 u10 u11 u12:Value} {bR:Nat} {F F':Nat→Prop} {w w':World} {vr vts:Value} {vs:List Value} {k1 k2 k3:Nat}
theorem Prep.pushRule (h:Prep w0 G B bm A0 c0 A1 c1 A2 c2 g vl u8 u9 u10 u11 u12 bR F w vr vts vs k1 k2 k3) (hk:k2<g.rules.length) (hlr:g.rules.length≤300) {t:Nat} (ht:g.rules[k2].1=(t:Int)) (htv:t<vs.length):
  ∃ v' w4 w5,WrA Tryz.prog #[26,26] 26 #[vs[t],.slice (some ⟨w.heap.size,0,none⟩) 1 1] (w.alloc (.cells #[.int .i64 (k2:Int)] 3))=.ok v' w4∧w4.setCell ⟨bR,t,none⟩ v'=w5∧(∃ A n c,v'=.slice A n c)∧(w.alloc (.cells #[.int .i64 (k2:Int)] 3)).heap[bR]? = w.heap[bR]? ∧ (w.alloc (.cells #[.int .i64 (k2:Int)] 3)).heap[bm]? = w.heap[bm]? ∧ w4.heap[bR]? = w.heap[bR]? ∧ w4.heap[bm]? = w.heap[bm]? ∧ w5.heap[bm]? = w.heap[bm]? ∧ w4.cell? ⟨bR,t,none⟩=some vs[t]∧w4.frozen? ⟨bR,t,none⟩=false∧Chg (fun k=>k=bR∨vs[t].ownBlock=some k) w w5∧Prep w0 G B bm A0 c0 A1 c1 A2 c2 g vl u8 u9 u10 u11 u12 bR F w5 vr vts (vs.set t v') k1 (k2+1) k3:=by
 have hbl:=h.le;have hFl:∀ k,F k→k<w.heap.size:=fun k hk=>(h.fr k hk).1;obtain ⟨v',w4,hrun,e4,hc4,hend⟩:=h.rl.push htv (k2:Int) (by have:=eY (t:Int) (g.rules.take k2) 0;rw [List.length_take] at this;omega) hbl.2.2.2.2 hFl;have hb4:=e4.trans h.rl.row;have hTb:TB 248 w bm:=⟨_,h.box⟩;have hTR:TB 26 w bR:=⟨_,h.rl.row⟩;have hTt:∀ {k},vs[t].ownBlock=some k→TB 3 w k:=fun hk=>(h.rl.lt htv hk).2.1;have e4m:w4.heap[bm]? = w.heap[bm]? := hc4.same bm hTb.lt fun e=>hTb.ne (hTt e) (by decide) rfl;have hne:bm≠bR:=hTb.ne hTR (by decide);have y4:w4.cell? ⟨bR,t,none⟩=some vs[t]:=aA hb4 t _ (by simp [htv]);have hset:=aO hb4 t v';have hoth:∀ k,k≠bR→(w4.setCell ⟨bR,t,none⟩ v').heap[k]? = w4.heap[k]? := fun k hk=>gU _ _ _ _ hk;have hrl:=hend (w4.setCell ⟨bR,t,none⟩ v') (by rw [hset,List.setIfInBounds_toArray]) fun k hk _=>hoth k hk;have hc5:Chg (fun k=>k=bR∨vs[t].ownBlock=some k) w (w4.setCell ⟨bR,t,none⟩ v'):=((Chg.refl (fun k=>k=bR∨vs[t].ownBlock=some k) w).trans2 hc4 fun i hi e=>.inr e).setCell (p:=⟨bR,t,none⟩) (fun _=>.inl rfl) _;have hk5:∀ k,F k→(w4.setCell ⟨bR,t,none⟩ v').heap[k]? = w.heap[k]? := fun k hk'=>hc5.same k (hFl k hk') fun e=>e.elim (h.fr k hk').2.2.1 fun e=>h.rl.own t htv k e hk';have e5m:(w4.setCell ⟨bR,t,none⟩ v').heap[bm]? = w.heap[bm]? := (hoth bm hne).trans e4m;have hsh:∃ A n c,v'=.slice A n c:=by
  have h1:=hrl.ints t (by simpa using htv);rw [List.getElem_set_self] at h1;obtain ⟨A,c,e⟩:=aX.shape h1;exact ⟨A,_,c,e⟩
 refine ⟨v',w4,_,hrun,rfl,hsh,Below.heap_alloc _ _ _ hTR.lt,Below.heap_alloc _ _ _ hTb.lt,e4,e4m,e5m,y4,by simp [World.frozen?,hb4],hc5, ?_⟩;have hsl:(w4.setCell ⟨bR,t,none⟩ v').heap.size=w4.heap.size:=by simp
 refine ⟨h.gb.again hc5.size (fun i hi=>?_) fun k hk'=>hk5 k (h.gF k hk'),h.gF,e5m.trans h.box, ?_, ?_,hrl.congr fun t' ht'=>?_,fun k hk'=>?_,h.rb,h.bel.trans (hc5.below (fun k e=>?_) h.bel.size),⟨hbl.1,hbl.2.1,hbl.2.2.1,hbl.2.2.2.1,gP hbl.2.2.2.2 hc5.size⟩⟩
 ·exact gM (a:=⟨bm,i,none⟩) e5m
 ·exact (h.rs.keep fun k hk'=>hc5.same k (h.rs.tb hk').2.lt fun e=>e.elim (fun e=>h.rb (e▸hk')) fun e=>(h.rs.tb hk').2.ne (hTt e) (by decide) rfl).mono (bJ.mono fun _ _ h=>aH.keepG (fun _ h=>h) hk5 h fun _ _ h=>h)
 ·exact (h.ts.keep fun k hk'=>hc5.same k (h.ts.tb hk').2.lt fun e=>e.elim (fun e=>(h.ts.tb hk').2.ne hTR (by decide) e) fun e=>(h.ts.tb hk').2.ne (hTt e) (by decide) rfl).mono (bJ.mono fun _ _ h=>aH.keepG (fun _ h=>h) hk5 h fun _ _ h=>h.keep (fun _ h=>h) hk5)
 ·rw [CC _ _ hk,ht];by_cases e:t'=t
  ·subst e;rw [if_pos rfl,if_pos rfl]
  ·rw [if_neg e,if_neg (by omega)]
 ·obtain ⟨f1,f2⟩:=h.fr k hk';exact ⟨gK f1 hc5.size,f2⟩
 ·rcases e with rfl | e
  ·exact gP hbl.2.2.1 hbl.2.2.2.1
  ·exact gP hbl.2.2.1 (h.rl.lt htv e).1
end
theorem aH.map {α β:Type} {G:Nat→Prop} {w:World} {sz:Nat} {R:List Value→α→Prop} {R':List Value→β→Prop} {v:Value} {xs:List α} {f:α→β} (h:aH G w sz R v xs) (hR:∀ vs x,x∈xs→R vs x→R' vs (f x)):aH G w sz R' v (xs.map f):=by
  obtain ⟨A,c,h1,h2,h3,h4⟩:=h;refine ⟨A,c,by rw [List.length_map];exact h1,by rw [List.length_map];exact h2,h3,fun hn=>?_⟩;rw [List.length_map] at hn;obtain ⟨b,off,h5,h6,h7⟩:=h4 hn;refine ⟨b,off,h5,h6,fun i hi=>?_⟩;rw [List.length_map] at hi;obtain ⟨us,h8,h9,h10⟩:=h7 i hi;exact ⟨us,h8,by rw [List.getElem_map];exact hR _ _ (gN hi) h9,h10⟩
theorem Rl.slG {B:Nat} {F G':Nat→Prop} {w:World} {bR m:Nat} {vs:List Value} {R:Nat→List Int} (h:Rl B F w bR m vs R) (hm:m≤maxLen) (hR:G' bR) (hG:∀ k,B≤k→TB 3 w k→G' k):aH G' w 1 (bJ fun v (t:Nat)=>aF G' w v (R t)) (.slice (some ⟨bR,0,none⟩) m m) (List.range m):=by
  have hl:=h.len;refine ⟨some ⟨bR,0,none⟩,m,by rw [List.length_range],by rw [List.length_range];exact gO _,hm,fun h0=>⟨bR,0,rfl,hR,fun i hi=>?_⟩⟩;have hi':i<vs.length:=by rw [hl];simpa using hi
  refine ⟨[vs[i]],rfl,⟨_,rfl, ?_⟩,fun j u hu=>?_⟩
  · rw [List.getElem_range];exact aG.look (h.ints i hi') fun k hk=>hG k (h.lt hi' hk).1 (h.lt hi' hk).2.1
  · cases j with
    | succ j=>simp at hu
    | zero=>
      injection hu with hu
      subst hu;rw [show 0+i*1+0=i by omega];refine aA h.row i _ ?_;simp [hi']
section
variable {w0:World} {G:Nat→Prop} {B bm:Nat} {A0 A1 A2:Option Addr} {c0 c1 c2:Nat} {g:Gm} {vl u8 u9 u10 u11 u12:Value} {bR:Nat} {F G':Nat→Prop} {w w':World} {vr vts vu:Value} {vs:List Value} {k2:Nat}
theorem Prep.mt2 (h:Prep w0 G B bm A0 c0 A1 c1 A2 c2 g vl u8 u9 u10 u11 u12 bR F w vr vts vs (g.rules.length+1) k2 (g.rules.length+1)) (hk2:g.rules.length≤k2) (ht:g.top≤1000) (hF:∀ k,F k→G' k) (ho:∀ k,G' k→k<w.heap.size) (hB:∀ k,B≤k→k<w.heap.size→G' k):Mt G' w bm A0 c0 A1 c1 A2 c2 g vr vts (.slice (some ⟨bR,0,none⟩) (g.top+1) (g.top+1)):=by
  have hTR:TB 26 w bR:=⟨_,h.rl.row⟩;have hu:=h.rl.slG (G':=G') (by unfold maxLen;omega) (hB _ h.le.2.2.2.1 hTR.lt) fun k h1 hk=>hB k h1 hk.lt;simp only [List.take_of_length_le hk2] at hu;exact ⟨h.gb.wide (fun k hk=>hF k (h.gF k hk)) ho,aA h.box 5 _ rfl,aA h.box 6 _ rfl,aA h.box 7 _ rfl,
    aG.look (h.rs.mono (bJ.mono fun _ _ h=>aH.keepG hF (fun _ _=>rfl) h fun _ _ h=>h)) fun k hk=>hB k (h.rs.tb hk).1 (h.rs.tb hk).2.lt,
    aG.look (h.ts.mono (bJ.mono fun _ _ h=>aH.keepG hF (fun _ _=>rfl) h fun _ _ h=>h.keep hF (fun _ _=>rfl))) fun k hk=>hB k (h.ts.tb hk).1 (h.ts.tb hk).2.lt,hu⟩
theorem Mt.keepG (h:Mt G w bm A0 c0 A1 c1 A2 c2 g vr vts vu) (hG:∀ k,G k→G' k) (ho:∀ k,G' k→k<w'.heap.size) (hs:w.heap.size≤w'.heap.size) (hk:∀ k,G k→w'.heap[k]? = w.heap[k]?) (hc:∀ i,i<8→w'.cell? ⟨bm,i,none⟩=w.cell? ⟨bm,i,none⟩):Mt G' w' bm A0 c0 A1 c1 A2 c2 g vr vts vu:=
  ⟨(h.gb.again hs (fun i hi=>hc i (by omega)) hk).wide hG ho,(hc 5 (by decide)).trans h.m5,(hc 6 (by decide)).trans h.m6,(hc 7 (by decide)).trans h.m7,
   aH.keepG hG hk h.rs (bJ.mono fun _ _ h=>aH.keepG hG hk h fun _ _ h=>h),
   aH.keepG hG hk h.ts (bJ.mono fun _ _ h=>aH.keepG hG hk h fun _ _ h=>dZ.keep hG hk h),
   aH.keepG hG hk h.us (bJ.mono fun _ _ h=>aH.keepG hG hk h fun _ _ h=>h)⟩
end
theorem dH.keep {G G':Nat→Prop} {w w':World} {n:Nat} {g:Gm} {v:Value} {s:Nat} (h:dH G w n g v s) (hG:∀ k,G k→G' k) (hk:∀ k,G k→w'.heap[k]? = w.heap[k]?):dH G' w' n g v s:=by
  obtain ⟨l,h1,h2⟩:=h;exact ⟨l,aH.keepG hG hk h1 fun _ _ h=>h.keep hG hk,h2⟩
theorem Cx.comes {G':Nat→Prop} {B n:Nat} {g:Gm} {s:Nat} {bmap:Nat} {w w':World} {v:Value} {xs:List Cme} {vt:Value} {T:List Int} (h:Cx B n g (s:Int) bmap w v xs vt T) (ht:g.top≤240) (hG:∀ k,B≤k→k<w.heap.size→G' k) (hk:∀ k,B≤k→k<w.heap.size→w'.heap[k]? = w.heap[k]?):dH G' w' n g v s:=by
  have hl:=h.len;refine ⟨xs.map (·.1), ?_,fun x hx=>?_,by rw [List.length_map];omega⟩
  · have h1:=aG.look (G:=fun k=>B≤k∧k<w.heap.size) h.row fun k hk=>h.row.lt hk;have h2:aH (fun k=>B≤k∧k<w.heap.size) w 3 (iQ (fun k=>B≤k∧k<w.heap.size) w n) v (xs.map (·.1)):=h1.map fun vs x hx e=>by
      obtain ⟨k1,k2,X,hX⟩:=h.sets x hx;exact ⟨_,_,e,x.2.1.1,x.2.1.2,X,rfl,⟨k1,hX.lt.1⟩,⟨k2,hX.lt.2⟩,hX⟩
    exact aH.keepG (fun k hk=>hG k hk.1 hk.2) (fun k hk'=>hk k hk'.1 hk'.2) h2 fun _ _ h3=>h3.keep (fun k hk=>hG k hk.1 hk.2) (fun k hk'=>hk k hk'.1 hk'.2)
  · obtain ⟨y,hy,rfl⟩:=List.mem_map.1 hx;exact h.lc y hy
theorem dH.nil {G:Nat→Prop} {w:World} {n:Nat} {g:Gm} {s:Nat}:dH G w n g (.slice none 0 0) s:=⟨[],aH.nil0,fun _ h=>(by cases h),by simp⟩
structure Cms (G:Nat→Prop) (bm:Nat) (A0:Option Addr) (c0:Nat) (A1:Option Addr) (c1:Nat) (A2:Option Addr) (c2:Nat) (g:Gm) (vl vr vts vu u9 u10 u11 u12:Value) (lo bC:Nat) (w:World) (vs:List Value):Prop where
  mt:Mt G w bm A0 c0 A1 c1 A2 c2 g vr vts vu
  box:w.heap[bm]? = some (.cells #[.slice A0 g.terms.length c0,.slice A1 g.nons.length c1,.slice A2 g.rules.length c2,.int .i64 g.start,vl,vr,vts,vu,.slice (some ⟨bC,0,none⟩) (g.top+1) (g.top+1),u9,u10,u11,u12] 248 (0,0))
  row:w.heap[bC]? = some (.cells vs.toArray 297 (0,0))
  len:vs.length=g.top+1
  cs:∀ t (h:t<vs.length),dH (fun k=>lo≤k∧k<w.heap.size∧k≠bC) w (g.terms.length+1) g vs[t] t
  gl:∀ k,G k→k≠bm∧k≠bC
  lo:lo≤bC
section
variable {G:Nat→Prop} {bm:Nat} {A0 A1 A2:Option Addr} {c0 c1 c2:Nat} {g:Gm} {vl vr vts vu u9 u10 u11 u12:Value} {lo bC:Nat} {w w':World} {vs:List Value}
theorem Cms.put (h:Cms G bm A0 c0 A1 c1 A2 c2 g vl vr vts vu u9 u10 u11 u12 lo bC w vs) {s:Nat} (hs:s<vs.length) {v:Value} {xs:List Cme} {vt:Value} {T:List Int} (hb:Below w.heap.size w w') (hx:Cx w.heap.size (g.terms.length+1) g (s:Int) w.heap.size w' v xs vt T) (ht:g.top≤240):
    w'.heap[bC]? = w.heap[bC]? ∧ w'.heap[bm]? = w.heap[bm]? ∧ w'.cell? ⟨bC,s,none⟩=some vs[s]∧w'.frozen? ⟨bC,s,none⟩=false∧Chg (· = bC) w (w'.setCell ⟨bC,s,none⟩ v)∧Cms G bm A0 c0 A1 c1 A2 c2 g vl vr vts vu u9 u10 u11 u12 lo bC (w'.setCell ⟨bC,s,none⟩ v) (vs.set s v):=by
  have hTb:TB 248 w bm:=⟨_,h.box⟩;have hTC:TB 297 w bC:=⟨_,h.row⟩;have hne:bm≠bC:=hTb.ne hTC (by decide);have eC:=hb.block bC hTC.lt;have em:=hb.block bm hTb.lt;have hC:=eC.trans h.row;have hc:Chg (· = bC) w (w'.setCell ⟨bC,s,none⟩ v):=(Chg.of hb:Chg (· = bC) w w').setCell (p:=⟨bC,s,none⟩) (fun _=>rfl) _;have hset:=aO hC s v;have hoth:∀ k,k≠bC→(w'.setCell ⟨bC,s,none⟩ v).heap[k]? = w'.heap[k]? := fun k hk=>gU _ _ _ _ hk;have hm2:(w'.setCell ⟨bC,s,none⟩ v).heap[bm]? = w.heap[bm]? := (hoth bm hne).trans em;have hsz:(w'.setCell ⟨bC,s,none⟩ v).heap.size=w'.heap.size:=by simp
  refine ⟨eC,em,aA hC s _ (by simp [hs]),by simp [World.frozen?,hC],hc, ?_,hm2.trans h.box,by rw [hset,List.setIfInBounds_toArray],by rw [List.length_set];exact h.len,fun t ht'=>?_,h.gl,h.lo⟩
  · exact h.mt.keepG (fun _ h=>h) (fun k hk=>gK (h.mt.gb.old k hk) hc.size) hc.size (fun k hk=>hc.same k (h.mt.gb.old k hk) (h.gl k hk).2) fun i _=>gM (a:=⟨bm,i,none⟩) hm2
  · have ht2:t<vs.length:=by simpa using ht'
    by_cases e:t=s
    · subst e;rw [List.getElem_set_self];exact hx.comes ht (fun k h1 h2=>⟨by have:=hTC.lt;have:=h.lo;omega,by rw [hsz];exact h2,by have:=hTC.lt;omega⟩) fun k h1 h2=>hoth k (by have:=hTC.lt;omega)
    · rw [List.getElem_set_ne (Ne.symm e)];exact (h.cs t ht2).keep (fun k hk=>⟨hk.1,gK hk.2.1 hc.size,hk.2.2⟩) fun k hk=>hc.same k hk.2.1 hk.2.2
theorem Cms.below (h:Cms G bm A0 c0 A1 c1 A2 c2 g vl vr vts vu u9 u10 u11 u12 lo bC w vs) (hb:Below w.heap.size w w'):Cms G bm A0 c0 A1 c1 A2 c2 g vl vr vts vu u9 u10 u11 u12 lo bC w' vs:=
  ⟨h.mt.on hb,(hb.block _ (gL h.box).1).trans h.box,(hb.block _ (gL h.row).1).trans h.row,h.len,fun t ht=>(h.cs t ht).keep (fun k hk=>⟨hk.1,gK hk.2.1 hb.size,hk.2.2⟩) fun k hk=>hb.block k hk.2.1,h.gl,h.lo⟩
theorem Cms.slAt (h:Cms G bm A0 c0 A1 c1 A2 c2 g vl vr vts vu u9 u10 u11 u12 lo bC w vs) (ht:g.top≤1000):aH (fun k=>lo≤k∧k<w.heap.size) w 1 (bJ fun v (s:Nat)=>dH (fun k=>lo≤k∧k<w.heap.size) w (g.terms.length+1) g v s) (.slice (some ⟨bC,0,none⟩) (g.top+1) (g.top+1)) (List.range (g.top+1)):=by
  have hl:=h.len;have hTC:TB 297 w bC:=⟨_,h.row⟩;refine ⟨some ⟨bC,0,none⟩,g.top+1,by rw [List.length_range],by rw [List.length_range];exact gO _,by unfold maxLen;omega,fun h0=>⟨bC,0,rfl,⟨h.lo,hTC.lt⟩,fun i hi=>?_⟩⟩;have hi':i<vs.length:=by rw [hl];simpa using hi
  refine ⟨[vs[i]],rfl,⟨_,rfl, ?_⟩,fun j u hu=>?_⟩
  · rw [List.getElem_range];exact (h.cs i hi').keep (fun k hk=>⟨hk.1,hk.2.1⟩) fun _ _=>rfl
  · cases j with
    | succ j=>simp at hu
    | zero=>
      injection hu with hu
      subst hu;rw [show 0+i*1+0=i by omega];refine aA h.row i _ ?_;simp [hi']
theorem Cms.made {w1:World} (hm:Mt G w1 bm A0 c0 A1 c1 A2 c2 g vr vts vu) (hG:∀ k,G k→k≠bm∧k<w.heap.size) (hlo:lo≤w.heap.size) (hbm:w1.heap[bm]? = some (.cells #[.slice A0 g.terms.length c0,.slice A1 g.nons.length c1,.slice A2 g.rules.length c2,.int .i64 g.start,vl,vr,vts,vu,.slice (some ⟨w.heap.size,0,none⟩) (g.top+1) (g.top+1),u9,u10,u11,u12] 248 (0,0))) (hr:w1.heap[w.heap.size]? = some (.cells (Array.replicate (g.top+1) (.slice none 0 0)) 297 (0,0))):
    Cms G bm A0 c0 A1 c1 A2 c2 g vl vr vts vu u9 u10 u11 u12 lo w.heap.size w1 (List.replicate (g.top+1) (.slice none 0 0)):=
  ⟨hm,hbm,by rw [hr,List.toArray_replicate],by simp,fun t ht=>by rw [List.getElem_replicate];exact dH.nil,fun k hk=>⟨(hG k hk).1,by have:=(hG k hk).2;omega⟩,hlo⟩
theorem Cms.start {w1 w2:World} {m:Nat} (hm:Mt G w bm A0 c0 A1 c1 A2 c2 g vr vts vu) (hG:∀ k,G k→k≠bm) (hlo:lo≤w.heap.size) (hbx:w.heap[bm]? = some (.cells #[.slice A0 g.terms.length c0,.slice A1 g.nons.length c1,.slice A2 g.rules.length c2,.int .i64 g.start,vl,vr,vts,vu,.slice none 0 0,u9,u10,u11,u12] 248 (0,0))) (hme:m=g.top+1) (h1:w.alloc (.cells (Array.replicate m (.slice none 0 0)) 297)=w1) (h2:w1.setCell ⟨bm,8,none⟩ (.slice (some ⟨w.heap.size,0,none⟩) m m)=w2):
    w1.cell? ⟨bm,8,none⟩=some (.slice none 0 0)∧w1.frozen? ⟨bm,8,none⟩=false∧Chg (· = bm) w w2∧Cms G bm A0 c0 A1 c1 A2 c2 g vl vr vts vu u9 u10 u11 u12 lo w.heap.size w2 (List.replicate (g.top+1) (.slice none 0 0)):=by
  subst h1;have hb1:Below w.heap.size w (w.alloc (.cells (Array.replicate m (.slice none 0 0)) 297)):=(gR _ _).alloc (gO _) _;have q1:=aC w (.cells (Array.replicate m (.slice none 0 0)) 297);generalize w.alloc (.cells (Array.replicate m (.slice none 0 0)) 297)=w1 at *;have hlt:=(gL hbx).1;have hbx1:=(hb1.block bm hlt).trans hbx;subst h2;have hoth:∀ k,k≠bm→(w1.setCell ⟨bm,8,none⟩ (.slice (some ⟨w.heap.size,0,none⟩) m m)).heap[k]? = w1.heap[k]? := fun k hk=>gU _ _ _ _ hk;have hset:=aO hbx1 8 (.slice (some ⟨w.heap.size,0,none⟩) m m);have hc:Chg (· = bm) w (w1.setCell ⟨bm,8,none⟩ (.slice (some ⟨w.heap.size,0,none⟩) m m)):=(Chg.of hb1:Chg (· = bm) w w1).setCell (p:=⟨bm,8,none⟩) (fun _=>rfl) _;have hR:=(hoth w.heap.size (by omega)).trans q1;generalize w1.setCell ⟨bm,8,none⟩ (.slice (some ⟨w.heap.size,0,none⟩) m m)=w2 at *;subst hme;refine ⟨aA hbx1 8 _ rfl,by simp [World.frozen?,hbx1],hc,Cms.made (hm.keepG (fun _ h=>h) (fun k hk=>gK (hm.gb.old k hk) hc.size) hc.size (fun k hk=>hc.same k (hm.gb.old k hk) (hG k hk)) fun i hi=>?_) (fun k hk=>⟨hG k hk,hm.gb.old k hk⟩) hlo hset hR⟩
  match i,hi with
  | 0,_=>exact (aA hset 0 _ rfl).trans (aA hbx 0 _ rfl).symm
  | 1,_=>exact (aA hset 1 _ rfl).trans (aA hbx 1 _ rfl).symm
  | 2,_=>exact (aA hset 2 _ rfl).trans (aA hbx 2 _ rfl).symm
  | 3,_=>exact (aA hset 3 _ rfl).trans (aA hbx 3 _ rfl).symm
  | 4,_=>exact (aA hset 4 _ rfl).trans (aA hbx 4 _ rfl).symm
  | 5,_=>exact (aA hset 5 _ rfl).trans (aA hbx 5 _ rfl).symm
  | 6,_=>exact (aA hset 6 _ rfl).trans (aA hbx 6 _ rfl).symm
  | 7,_=>exact (aA hset 7 _ rfl).trans (aA hbx 7 _ rfl).symm
end
theorem FS.chgT {w w':World} {b m n bE bwE:Nat} {A1:Option Addr} {c1:Nat} {A2:Option Addr} {c2:Nat} {ps qs:List (Nat×Nat)} (h:FS w b m n bE bwE A1 c1 A2 c2 ps qs) (hk:∀ k,TB 330 w k∨TB 68 w k∨TB 159 w k∨TB 154 w k→w'.heap[k]? = w.heap[k]?):FS w' b m n bE bwE A1 c1 A2 c2 ps qs:=by
 obtain ⟨XE,hE⟩:=h.e;have hs:∀ {b bw X r:Nat},BSet w b bw r X→BSet w' b bw r X:=fun hX=>hX.keep (hk _ (.inr (.inr (.inl ⟨_,hX.hb⟩)))) (hk _ (.inr (.inr (.inr ⟨_,hX.hw⟩))));exact ⟨(hk _ (.inl ⟨_,h.box⟩)).trans h.box,⟨XE,hs hE⟩,h.rp.keepT fun k hT=>hk k (.inr (.inl hT)),h.rq.keepT fun k hT=>hk k (.inr (.inl hT)),h.lp,h.lq,fun p hp=>(h.sp p hp).imp fun X hX=>hs hX,fun p hp=>(h.sq p hp).imp fun X hX=>hs hX,h.np,h.nq,h.n1,h.nm⟩
theorem FS.chg2 {w w':World} {b m n bE bwE:Nat} {A1:Option Addr} {c1:Nat} {A2:Option Addr} {c2:Nat} {ps qs:List (Nat×Nat)} (h:FS w b m n bE bwE A1 c1 A2 c2 ps qs) {bm bR:Nat} (hm:TB 248 w bm) (hR:TB 26 w bR) (hc:Chg (fun k=>k=bm∨k=bR) w w'):FS w' b m n bE bwE A1 c1 A2 c2 ps qs:=
 h.chgT fun k hk=>by
  rcases hk with hk | hk | hk | hk
  ·exact hc.same k hk.lt fun e=>e.elim (fun e=>hk.ne hm (by decide) e) fun e=>hk.ne hR (by decide) e
  ·exact hc.same k hk.lt fun e=>e.elim (fun e=>hk.ne hm (by decide) e) fun e=>hk.ne hR (by decide) e
  ·exact hc.same k hk.lt fun e=>e.elim (fun e=>hk.ne hm (by decide) e) fun e=>hk.ne hR (by decide) e
  ·exact hc.same k hk.lt fun e=>e.elim (fun e=>hk.ne hm (by decide) e) fun e=>hk.ne hR (by decide) e
section
variable {w0 w:World} {G:Nat→Prop} {bm:Nat} {A0 A1 A2:Option Addr} {c0 c1 c2:Nat} {g:Gm} {vl u8 u9 u10 u11 u12:Value} {m:Nat}
theorem Prep.start (hgb:GBox G w bm A0 c0 A1 c1 A2 c2 g) (hbx:w.heap[bm]? = some (.cells #[.slice A0 g.terms.length c0,.slice A1 g.nons.length c1,.slice A2 g.rules.length c2,.int .i64 g.start,vl,.slice none 0 0,.slice none 0 0,.slice none 0 0,u8,u9,u10,u11,u12] 248 (0,0))) (hGm:∀ k,G k→k≠bm) (hb:Below w0.heap.size w0 w) (hle:w0.heap.size≤bm) (hm:m=g.top+1) {w1 w2:World} (h1:w.alloc (.cells (Array.replicate m (.slice none 0 0)) 26)=w1) (h2:w1.setCell ⟨bm,7,none⟩ (.slice (some ⟨w.heap.size,0,none⟩) m m)=w2):
  w1.cell? ⟨bm,7,none⟩=some (.slice none 0 0)∧w1.frozen? ⟨bm,7,none⟩=false∧TB 248 w2 bm∧TB 26 w2 w.heap.size∧Chg (· = bm) w w2∧w2.heap.size=w.heap.size+1∧
  Prep w0 G w.heap.size bm A0 c0 A1 c1 A2 c2 g vl u8 u9 u10 u11 u12 w.heap.size G w2 (.slice none 0 0) (.slice none 0 0) (List.replicate m (.slice none 0 0)) 0 0 0:=by
 subst h1;have hb1:Below w.heap.size w (w.alloc (.cells (Array.replicate m (.slice none 0 0)) 26)):=(gR _ _).alloc (gO _) _;have q1:=aC w (.cells (Array.replicate m (.slice none 0 0)) 26);have hsz:(w.alloc (.cells (Array.replicate m (.slice none 0 0)) 26)).heap.size=w.heap.size+1:=by simp
 generalize w.alloc (.cells (Array.replicate m (.slice none 0 0)) 26)=w1 at *;have hlt:=hgb.lt;have hbx1:=(hb1.block bm hlt).trans hbx;subst h2;have hoth:∀ k,k≠bm→(w1.setCell ⟨bm,7,none⟩ (.slice (some ⟨w.heap.size,0,none⟩) m m)).heap[k]? = w1.heap[k]? := fun k hk=>gU _ _ _ _ hk;have hset:=aO hbx1 7 (.slice (some ⟨w.heap.size,0,none⟩) m m);have hc:Chg (· = bm) w (w1.setCell ⟨bm,7,none⟩ (.slice (some ⟨w.heap.size,0,none⟩) m m)):=(Chg.of hb1:Chg (· = bm) w w1).setCell (p:=⟨bm,7,none⟩) (fun _=>rfl) _;have hsz2:(w1.setCell ⟨bm,7,none⟩ (.slice (some ⟨w.heap.size,0,none⟩) m m)).heap.size=w.heap.size+1:=by simp [hsz]
 have hR:=(hoth w.heap.size (by omega)).trans q1;have hrl:=Rl.made w.heap.size G m hR;generalize w1.setCell ⟨bm,7,none⟩ (.slice (some ⟨w.heap.size,0,none⟩) m m)=w2 at *;subst hm;refine ⟨aA hbx1 7 _ rfl,by simp [World.frozen?,hbx1],⟨_,hset⟩,⟨_,hR⟩,hc,hsz2,hgb.again hc.size (fun i hi=>?_) (fun k hk=>hc.same k (hgb.old k hk) (hGm k hk)),fun _ h=>h,hset,aG.nil _ _ _ _ _,aG.nil _ _ _ _ _,hrl.congr fun t _=>by simp [ofR],fun k hk=>⟨gK (hgb.old k hk) hc.size,hGm k hk,by have:=hgb.old k hk;omega,by simp [Value.ownBlock],by simp [Value.ownBlock]⟩,by simp [Value.ownBlock],hb.trans (hc.below (fun k e=>by rw [e];exact hle) hb.size),⟨hle,hlt,hb.size,gO _,hc.size⟩⟩
 match i,hi with
 | 0,_=>exact (aA hset 0 _ rfl).trans (aA hbx 0 _ rfl).symm
 | 1,_=>exact (aA hset 1 _ rfl).trans (aA hbx 1 _ rfl).symm
 | 2,_=>exact (aA hset 2 _ rfl).trans (aA hbx 2 _ rfl).symm
 | 3,_=>exact (aA hset 3 _ rfl).trans (aA hbx 3 _ rfl).symm
end
def uC (G:Nat→Prop) (w:World) (bm:Nat) (A0:Option Addr) (c0:Nat) (A1:Option Addr) (c1:Nat) (A2:Option Addr) (c2:Nat) (g:Gm) (vl u9 u10 u11 u12:Value) (e:Ending) (w':World):Prop:=
 (e=.returned (.tuple #[])∧∃ vr vts vu vc,w'.heap[bm]? = some (.cells #[.slice A0 g.terms.length c0,.slice A1 g.nons.length c1,.slice A2 g.rules.length c2,.int .i64 g.start,vl,vr,vts,vu,vc,u9,u10,u11,u12] 248 (0,0))∧Mt (fun k=>k<w'.heap.size∧(G k∨w.heap.size≤k)) w' bm A0 c0 A1 c1 A2 c2 g vr vts vu∧
  aH (fun k=>w.heap.size≤k∧k<w'.heap.size) w' 1 (bJ fun v (s:Nat)=>dH (fun k=>w.heap.size≤k∧k<w'.heap.size) w' (g.terms.length+1) g v s) vc (List.range (g.top+1)))∧Chg (· = bm) w w'
abbrev Tls (B n:Nat) (w:World) (v:Value) (l:List Int):Prop:=aG B 296 2 (dZ (fun k=>B≤k∧k<w.heap.size) w n) w v l
theorem BK:(Tryz.prog.info? 296).map (fun i=>(i.zero,i.size,i.bytes))=some (some (.agg #[.pointer none,.bool false]),2,16):=by kernel_rfl
theorem dZ.one {G:Nat→Prop} {w:World} {n:Nat}:∀ (vs:List Value) (x:Int),dZ G w n vs x→∀ u∈vs,u.oneCell'=true:=by
 rintro vs x ⟨p,em,rfl,b,bw,X,rfl,_⟩ u hu;simp at hu;rcases hu with rfl | rfl <;> rfl
theorem Tls.below {B n:Nat} {w w':World} {v:Value} {l:List Int} (h:Tls B n w v l) (hb:Below w.heap.size w w'):Tls B n w' v l:=
 (aG.below h hb).mono fun _ _ h=>h.keep (fun _ hk=>⟨hk.1,gK hk.2 hb.size⟩) fun k hk=>hb.block k hk.2
theorem Tls.push {B n:Nat} {w:World} {v:Value} {l:List Int} (h:Tls B n w v l) (x:Int) {em:Bool} {b bw X:Nat} (hB:B≤b) (hBw:B≤bw) (hX:BSet w b bw n X) (hl:l.length+1≤1000) (hBs:B≤w.heap.size):
  ∃ A c w',WrA Tryz.prog #[293,293] 293 #[v,.slice (some ⟨w.heap.size,0,none⟩) 1 1] (w.alloc (.cells #[.pointer (some ⟨b,0,none⟩),.bool em] 296))=.ok (.slice A (l.length+1) c) w'∧Tls B n w' (.slice A (l.length+1) c) (l++[x])∧Below B w w':=by
 obtain ⟨v',w',hrun,hr,hc,_⟩:=aG.pushC 293 Tryz.underlying293 BK rfl (by decide) dZ.one 293 (us:=[.pointer (some ⟨b,0,none⟩),.bool em]) (x:=x) rfl ⟨_,_,rfl,b,bw,X,rfl,⟨hB,hX.lt.1⟩,⟨hBw,hX.lt.2⟩,hX⟩ h (by omega) (by unfold maxLen;omega) hBs;obtain ⟨A,c,rfl,_⟩:=hr.shape;rw [gI,gZ] at hrun hr;have hset:∀ {b bw X:Nat},BSet w b bw n X→BSet w' b bw n X:=fun hX=>hX.keepC hc (fun e=>TB.ne (T:=159) ⟨_,hX.hb⟩ (h.tb e).2 (by decide) rfl) fun e=>TB.ne (T:=154) ⟨_,hX.hw⟩ (h.tb e).2 (by decide) rfl;refine ⟨A,c,w',hrun,hr.mono ?_,hc.below (fun k e=>(h.tb e).1) hBs⟩;rintro vs y ⟨p,em,rfl,b,bw,X,rfl,h1,h2,h3⟩;exact ⟨_,_,rfl,b,bw,X,rfl,⟨h1.1,gK h1.2 hc.size⟩,⟨h2.1,gK h2.2 hc.size⟩,hset h3⟩
end Go.Proofs.YtpidmmfjcghmeaaGreat
