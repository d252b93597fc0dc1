/- Towards clashesWhole_upto. -/
import Derived.Test.YtpidmmfjcghmeaaGreatCs34
import Derived.Test.YtpidmmfjcghmeaaGreatCs35
import Derived.Test.YtpidmmfjcghmeaaGreatCs31
set_option maxRecDepth 100000
set_option maxHeartbeats 16000000
set_option linter.all false
namespace Go.Proofs.YtpidmmfjcghmeaaGreat
open Go.RowKit
theorem CC {p:Nat→Prop}:∀ n,p n→∃ m,p m∧∀ k,p k→m≤k:=by
 intro n
 induction n using Nat.strongRecOn with
 | ind n ih=>
  intro hn;by_cases h:∃ k,k<n∧p k
  ·obtain ⟨k,h1,h2⟩:=h;exact ih k h1 h2
  ·exact ⟨n,hn,fun k hk=>Nat.le_of_not_lt fun hlt=>h ⟨k,hlt,hk⟩⟩
open Classical in
theorem nB {P:Program} {a:Act} {w:World} {Q:Exit→Act→World→Prop} {c rest:Code} (l:Nat) (J:Nat→Act→World→Prop) (hf:findLabel c l=some (Code.skip.seq rest))
  (pass:∀ m a w,J m a w→rest.wp P (Exit.jump l (fun a' w'=>∃ m',m'<m∧J m' a' w') Q) a w) (first:(∀ m a w,J m a w→rest.wp P (Exit.jump l (fun a' w'=>∃ m',J m' a' w') Q) a w)→c.wp P (Exit.jump l (fun a' w'=>∃ m',J m' a' w') Q) a w):(Code.scope c).wp P Q a w:=by
 have hl:∀ a w,(∃ m,J m a w)→∃ m,J m a w∧∀ k,J k a w→m≤k:=fun a w ⟨m,h⟩=>CC m h;refine jO l (fun a' w'=>∃ m',J m' a' w') (fun a w=>if h:∃ m,J m a w then (hl a w h).choose else 0) hf (fun a w hJ=>?_) (fun hp=>first fun m a w hJ=>hp a w ⟨m,hJ⟩);refine wp_mono (pass _ a w (hl a w hJ).choose_spec.1) (oB fun a' w' ⟨m',h1,h2⟩=>⟨⟨m',h2⟩, ?_⟩);have h3:∃ m,J m a' w':=⟨m',h2⟩;show (if h:∃ m,J m a' w' then (hl a' w' h).choose else 0)<(if h:∃ m,J m a w then (hl a w h).choose else 0);rw [dif_pos hJ,dif_pos h3];exact Nat.lt_of_le_of_lt ((hl a' w' h3).choose_spec.2 _ h2) h1
abbrev Cme:=Int×(Nat×Nat)×Bool
def eL (vs:List Value) (x:Cme):Prop:=vs=[.int .i64 x.1,.pointer (some ⟨x.2.1.1,0,none⟩),.bool x.2.2]
theorem eL.one:∀ (vs:List Value) (x:Cme),eL vs x→∀ u∈vs,u.oneCell'=true:=by
 rintro vs x rfl u hu;simp at hu;rcases hu with rfl | rfl | rfl <;> rfl
theorem BK:(Tryz.prog.info? 303).map (fun i=>(i.zero,i.size,i.bytes))=some (some (.agg #[.int .i64 0,.pointer none,.bool false]),3,24):=by kernel_rfl
def i7 (xs:List Cme):List Value:=(xs.map fun x=>[Value.int .i64 x.1,.pointer (some ⟨x.2.1.1,0,none⟩),.bool x.2.2]).flatten
theorem nU:∀ xs:List Cme,(i7 xs).length=xs.length*3
 | []=>rfl
 | x::xs=>by
  show ([Value.int .i64 x.1,.pointer (some ⟨x.2.1.1,0,none⟩),.bool x.2.2]++i7 xs).length=_;rw [gI,nU xs];simp;omega
theorem lY:∀ {us:List (List Value)} {xs:List Cme},cZ 3 eL us xs→us.flatten=i7 xs
 | [],[],_=>rfl
 | [],_::_,h=>h.elim
 | _::_,[],h=>h.elim
 | vs::us,x::xs,h=>by
  have e:vs=_:=h.1.2;rw [List.flatten_cons,lY h.2,e];rfl
theorem iA:∀ xs:List Cme,cZ 3 eL (xs.map fun x=>[Value.int .i64 x.1,.pointer (some ⟨x.2.1.1,0,none⟩),.bool x.2.2]) xs
 | []=>trivial
 | _::xs=>⟨⟨rfl,rfl⟩,iA xs⟩
theorem nV:∀ (xs:List Cme) (i:Nat) (x:Cme),xs[i]? = some x→i7 (xs.set i (x.1,x.2.1,true))=(i7 xs).set (i*3+2) (.bool true)
 | [],_,_,h=>by simp at h
 | y::xs,0,x,h=>by
  simp at h;subst h;rfl
 | y::xs,i+1,x,h=>by
  have:=nV xs i x (by simpa using h);show [Value.int .i64 y.1,.pointer (some ⟨y.2.1.1,0,none⟩),.bool y.2.2]++i7 (xs.set i (x.1,x.2.1,true))=([Value.int .i64 y.1,.pointer (some ⟨y.2.1.1,0,none⟩),.bool y.2.2]++i7 xs).set ((i+1)*3+2) (.bool true);rw [this,List.set_append_right _ _ (by simp;omega)]
  congr 2
  simp;omega
theorem lO {B:Nat} {w:World} {v:Value} {xs:List Cme} (h:aG B 303 3 eL w v xs) (h0:0<xs.length):∃ g c cs,v=.slice (some ⟨g,0,none⟩) xs.length c∧B≤g∧w.heap[g]? = some (.cells cs 303 (0,0))∧∀ i x,xs[i]? = some x→cs[i*3]? = some (.int .i64 x.1)∧cs[i*3+1]? = some (.pointer (some ⟨x.2.1.1,0,none⟩))∧cs[i*3+2]? = some (.bool x.2.2):=by
 obtain ⟨us,hf,hl,ho⟩:=h;rcases ho with ⟨_,hn⟩ | ⟨g,cap,cur,rfl,hB,hh,hc,hm,hcs,ht⟩
 ·omega
 ·refine ⟨g,cap,cur,rfl,hB,hh,fun i x hx=>?_⟩;have hi:=(gY hx).1;have hxe:=(gY hx).2;obtain ⟨vs,_,h3,h4⟩:=hf.get i hi;rw [hxe] at h3;unfold eL at h3;subst h3;have key:∀ j u,j<3→us.flatten[i*3+j]? = some u→cur[i*3+j]? = some u:=fun j u hj hu=>by
   rw [← ht,List.getElem?_take_of_lt (by omega)] at hu;rw [← Array.getElem?_toList];exact hu
  exact ⟨key 0 _ (by omega) (h4 0 _ rfl),key 1 _ (by omega) (h4 1 _ rfl),key 2 _ (by omega) (h4 2 _ rfl)⟩
theorem wU {B g c:Nat} {w w':World} {xs:List Cme} {cs:Array Value} (h:aG B 303 3 eL w (.slice (some ⟨g,0,none⟩) xs.length c) xs) (hh:w.heap[g]? = some (.cells cs 303 (0,0))) {i:Nat} {x:Cme} (hx:xs[i]? = some x) (h':w'.heap[g]? = some (.cells (cs.setIfInBounds (i*3+2) (.bool true)) 303 (0,0))):
  aG B 303 3 eL w' (.slice (some ⟨g,0,none⟩) xs.length c) (xs.set i (x.1,x.2.1,true)):=by
 obtain ⟨us,hf,hl,ho⟩:=h;have hi:=(gY hx).1;rcases ho with ⟨e,hn⟩ | ⟨g',cap,cur,e,hB,hh2,hc,hm,hcs,ht⟩
 ·omega
 ·injection e with e1 _ e3
  injection e1 with e1
  injection e1 with e1 _
  subst e1 e3;rw [hh] at hh2
  injection hh2 with hh2
  injection hh2 with hh2 _
  subst hh2;have hlen:(xs.set i (x.1,x.2.1,true)).length=xs.length:=by simp
  refine ⟨_,iA _, ?_,.inr ⟨g,c,_,by rw [hlen],hB,h',by rw [hlen];exact hc,hm,by simpa using hcs, ?_⟩⟩
  ·show (i7 _).length=_;rw [nU]
  ·show _=i7 _;rw [hlen,nV xs i x hx,← lY hf,← ht];simp [List.take_set]
theorem qG:∀ {a b:List Nat},a.length=b.length→(∀ i (h1:i<a.length) (h2:i<b.length),a[i]≤b[i])→a.sum≤b.sum
 | [],[],_,_=>gO _
 | [],_::_,h,_=>by simp at h
 | _::_,[],h,_=>by simp at h
 | x::a,y::b,h,hp=>by
  have h1:=qG (a:=a) (b:=b) (by simpa using h) fun i h1 h2=>hp (i+1) (Nat.succ_lt_succ h1) (Nat.succ_lt_succ h2);have h2:=hp 0 (by simp) (by simp);simp at h2;simp;omega
theorem vO:∀ {a b:List Nat},a.length=b.length→(∀ i (h1:i<a.length) (h2:i<b.length),a[i]≤b[i])→(∃ i,∃ h1:i<a.length,∃ h2:i<b.length,a[i]<b[i])→a.sum<b.sum
 | [],_,_,_,⟨i,h1,_⟩=>by simp at h1
 | _::_,[],h,_,_=>by simp at h
 | x::a,y::b,h,hp,⟨i,h1,h2,h3⟩=>by
  have hl:a.length=b.length:=by simpa using h
  have hq:∀ i (h1:i<a.length) (h2:i<b.length),a[i]≤b[i]:=fun i h1 h2=>hp (i+1) (Nat.succ_lt_succ h1) (Nat.succ_lt_succ h2);have h4:=qG hl hq;have h5:=hp 0 (by simp) (by simp);simp at h5;simp
  match i,h1,h2,h3 with
  | 0,_,_,h3=>simp at h3;omega
  | i+1,h1,h2,h3=>
   have:=vO hl hq ⟨i,by simpa using h1,by simpa using h2,by simpa using h3⟩;omega
def dL (n:Nat) (w:World) (x:Cme):Nat:=2 ^ n-wd w x.2.1.2+(if x.2.2 then 0 else 1)
def pot (n m:Nat) (w:World) (xs:List Cme):Nat:=(m-xs.length)*(2 ^ n+2)+(xs.map (dL n w)).sum
theorem CQ {n m:Nat} {w w':World} {xs xs':List Cme} (hl:xs'.length=xs.length) (h:∀ (i:Nat) x x',xs[i]? = some x→xs'[i]? = some x'→dL n w' x'≤dL n w x):pot n m w' xs'≤pot n m w xs:=by
 unfold pot;rw [hl];refine Nat.add_le_add_left (qG (by simp [hl]) fun i h1 h2=>?_) _;simp only [List.getElem_map];exact h i _ _ (List.getElem?_eq_getElem (by simpa using h2)) (List.getElem?_eq_getElem (by simpa using h1))
theorem CR {n m:Nat} {w w':World} {xs xs':List Cme} (hl:xs'.length=xs.length) (h:∀ (i:Nat) x x',xs[i]? = some x→xs'[i]? = some x'→dL n w' x'≤dL n w x) (hs:∃ (i:Nat),∃ x x',xs[i]? = some x∧xs'[i]? = some x'∧dL n w' x'<dL n w x):pot n m w' xs'<pot n m w xs:=by
 unfold pot;rw [hl];obtain ⟨i,x,x',h1,h2,h3⟩:=hs;obtain ⟨k1,e1⟩:=gY h1;obtain ⟨k2,e2⟩:=gY h2;refine Nat.add_lt_add_left (vO (by simp [hl]) (fun i h1 h2=>?_) ⟨i,by simpa using k2,by simpa using k1, ?_⟩) _
 ·simp only [List.getElem_map];exact h i _ _ (List.getElem?_eq_getElem (by simpa using h2)) (List.getElem?_eq_getElem (by simpa using h1))
 ·simp only [List.getElem_map,e1,e2];exact h3
abbrev MII (w:World) (b:Nat) (f:Int→Option Int) (n:Nat):Prop:=MG 3 3 (Lit.int .i64) (Lit.int .i64) 0 w b f n
structure Cx (B n:Nat) (g:Gm) (s:Int) (bmap:Nat) (wr:World) (vo:Value) (xs:List Cme) (vt:Value) (T:List Int):Prop where
 row:aG B 303 3 eL wr vo xs
 sets:∀ x∈xs,B≤x.2.1.1∧B≤x.2.1.2∧∃ X,BSet wr x.2.1.1 x.2.1.2 n X
 nd:(xs.map (·.1)).Nodup
 lc:∀ x∈xs,g.N x.1∧g.Lc s x.1
 mp:∃ f nm,MII wr bmap f nm∧nm≤xs.length∧(∀ q i,f q=some i→0≤i∧∃ x,xs[i.toNat]? = some x∧x.1=q)∧∀ x∈xs,(f x.1).isSome=true
 que:Qr B wr vt T
 tin:∀ t∈T,0≤t∧t<xs.length
 ne:0<xs.length
 le:B≤wr.heap.size∧B≤bmap
section
variable {B n:Nat} {g:Gm} {s:Int} {bmap:Nat} {w w':World} {vo:Value} {xs:List Cme} {vt:Value} {T:List Int}
theorem Cx.len (h:Cx B n g s bmap w vo xs vt T):xs.length≤g.top:=by
 have:=eO (m:=(List.range g.top).map fun (i:Nat)=>(i:Int)+1) h.nd fun q hq=>by
  obtain ⟨x,hx,rfl⟩:=List.mem_map.1 hq;have h1:=(h.lc x hx).1;unfold Gm.N at h1;exact List.mem_map.2 ⟨(x.1-1).toNat,List.mem_range.2 (by omega),by omega⟩
 simpa using this
theorem Cx.below (h:Cx B n g s bmap w vo xs vt T) (hb:Below w.heap.size w w'):Cx B n g s bmap w' vo xs vt T:=by
 obtain ⟨f,nm,h1,h2⟩:=h.mp;exact ⟨h.row.below hb,fun x hx=>⟨(h.sets x hx).1,(h.sets x hx).2.1,(h.sets x hx).2.2.imp fun X hX=>hX.below hb⟩,h.nd,h.lc,⟨f,nm,h1.below hb,h2⟩,h.que.below hb,h.tin,h.ne,⟨gP h.le.1 hb.size,h.le.2⟩⟩
theorem Cx.pot_below (h:Cx B n g s bmap w vo xs vt T) (hb:Below w.heap.size w w') (m:Nat):pot n m w' xs=pot n m w xs:=by
 unfold pot
 congr 2
 refine List.map_congr_left fun x hx=>?_;obtain ⟨_,_,X,hX⟩:=h.sets x hx;unfold dL;rw [hX.wd,(hX.below hb).wd]
theorem Cx.pop (h:Cx B n g s bmap w vo xs vt T) {v':Value} {T':List Int} (hq:Qr B w v' T') (hT:∀ t∈T',t∈T):Cx B n g s bmap w vo xs v' T':=
 ⟨h.row,h.sets,h.nd,h.lc,h.mp,hq,fun t ht=>h.tin t (hT t ht),h.ne,h.le⟩
theorem Cx.wait (h:Cx B n g s bmap w vo xs vt T) {v':Value} {i:Nat} (hi:i<xs.length) (hq:Qr B w' v' (T++[(i:Int)])) (hc:Chg (isQ vt) w w') (m:Nat):Cx B n g s bmap w' vo xs v' (T++[(i:Int)])∧pot n m w' xs=pot n m w xs:=by
 have hs:∀ {T:TypeId} {k:Nat},TB T w k→T≠3→w'.heap[k]? = w.heap[k]? := fun h1 h2=>hc.same _ h1.lt fun e=>h1.ne (h.que.tb e).2 h2 rfl;obtain ⟨f,nm,h1,h2⟩:=h.mp;have hset:∀ {b bw X:Nat},BSet w b bw n X→BSet w' b bw n X:=fun hX=>hX.keep (hs ⟨_,hX.hb⟩ (by decide)) (hs ⟨_,hX.hw⟩ (by decide));refine ⟨⟨h.row.keep fun k hk=>hs (h.row.tb hk).2 (by decide),fun x hx=>⟨(h.sets x hx).1,(h.sets x hx).2.1,(h.sets x hx).2.2.imp fun X hX=>hset hX⟩,h.nd,h.lc,⟨f,nm,h1.keep (hc.same _ h1.lt fun e=>h1.not_tb _ (h.que.tb e).2),h2⟩,hq,fun t ht=>?_,h.ne,⟨gP h.le.1 hc.size,h.le.2⟩⟩, ?_⟩
 ·rcases yC ht with ht | ht
  ·exact h.tin t ht
  ·rw [gV] at ht;omega
 ·unfold pot
  congr 2
  refine List.map_congr_left fun x hx=>?_;obtain ⟨_,_,X,hX⟩:=h.sets x hx;unfold dL;rw [hX.wd,(hset hX).wd]
theorem Cx.hand {bo co:Nat} (h:Cx B n g s bmap w (.slice (some ⟨bo,0,none⟩) xs.length co) xs vt T) {cs:Array Value} (hh:w.heap[bo]? = some (.cells cs 303 (0,0))) {i:Nat} {x:Cme} (hx:xs[i]? = some x) {X2:Nat} (hX2:BSet w x.2.1.1 x.2.1.2 n X2) {e:Ending} (hp:iR n w bo (i*3) cs x.2.1.1 x.2.1.2 X2 x.2.2 e w') (m:Nat):
  ∃ mo xs',e=.returned (.bool mo)∧xs'.length=xs.length∧Cx B n g s bmap w' (.slice (some ⟨bo,0,none⟩) xs.length co) xs' vt T∧pot n m w' xs'≤pot n m w xs∧(mo=true→pot n m w' xs'<pot n m w xs)∧(B≤bo→Below B w w')∧(∀ y∈xs,∃ y'∈xs',y'.2.1=y.2.1)∧Chg (fun k=>k=x.2.1.2∨k=bo) w w':=by
 obtain ⟨mo,sf',X',rfl,hle,hset',hbo,hsf,hmo,hc⟩:=hp;have hi:=(gY hx).1;have hxm:x∈xs:=List.mem_of_getElem? hx;have hTo:TB 303 w bo:=⟨_,hh⟩;have hTw:TB 154 w x.2.1.2:=⟨_,hX2.hw⟩;have hs:∀ {T:TypeId} {k:Nat},TB T w k→T≠303→T≠154→w'.heap[k]? = w.heap[k]? := fun h1 h2 h3=>hc.same _ h1.lt fun e=>by
  rcases e with rfl | rfl
  ·exact h1.ne hTw h3 rfl
  ·exact h1.ne hTo h2 rfl
 have hgro:∀ {b bw Y:Nat},BSet w b bw n Y→∃ Y',Y≤Y'∧BSet w' b bw n Y':=fun {b bw Y} hY=>by
  by_cases e:bw=x.2.1.2
  ·subst e;have:=hX2.same_word hY;subst this;exact ⟨X',hle,hY.n1,hY.n64,hset'.hX,hY.ne,(hs ⟨_,hY.hb⟩ (by decide) (by decide)).trans hY.hb,hset'.hw⟩
  ·refine ⟨Y,gO _,hY.keep (hs ⟨_,hY.hb⟩ (by decide) (by decide)) (hc.same _ hY.lt.2 fun e2=>?_)⟩;rcases e2 with e2 | e2
   ·exact e e2
   ·exact TB.ne (T:=154) ⟨_,hY.hw⟩ hTo (by decide) e2
 obtain ⟨f,nm,h1,h2,h3,h4⟩:=h.mp;have hmap:=h1.keep (w':=w') (hc.same _ h1.lt fun e=>by
  rcases e with e | e
  ·exact h1.not_tb _ (e▸hTw)
  ·exact h1.not_tb _ (e▸hTo))
 have hque:=h.que.keep (w':=w') fun k hk=>hs (h.que.tb hk).2 (by decide) (by decide);have hbel:B≤bo→Below B w w':=fun hB=>hc.below (fun k e=>by
  rcases e with rfl | rfl
  ·exact (h.sets x hxm).2.1
  ·exact hB) h.le.1
 have hwd:wd w x.2.1.2=X2∧wd w' x.2.1.2=X':=⟨hX2.wd,hset'.wd⟩;have hX'lt:=hset'.hX;have hmono:∀ y∈xs,wd w y.2.1.2≤wd w' y.2.1.2∧wd w' y.2.1.2<2 ^ n:=fun y hy=>by
  obtain ⟨_,_,Y,hY⟩:=h.sets y hy;obtain ⟨Y',k1,k2⟩:=hgro hY;rw [hY.wd,k2.wd];exact ⟨k1,k2.hX⟩
 by_cases e:sf'=x.2.2
 ·rw [if_pos e] at hbo;refine ⟨mo,xs,rfl,rfl,⟨h.row.keep fun k hk=>?_,fun y hy=>⟨(h.sets y hy).1,(h.sets y hy).2.1, ?_⟩,h.nd,h.lc,⟨f,nm,hmap,h2,h3,h4⟩,hque,h.tin,h.ne,⟨gP h.le.1 hc.size,h.le.2⟩⟩,CQ rfl fun j y y' hy hy'=>?_,fun hm=>CR rfl (fun j y y' hy hy'=>?_) ⟨i,x,x,hx,hx, ?_⟩,hbel,fun y hy=>⟨y,hy,rfl⟩,hc⟩
  ·simp [Value.ownBlock] at hk;subst hk;exact hbo.trans hh.symm
  ·obtain ⟨_,_,Y,hY⟩:=h.sets y hy;obtain ⟨Y',_,k2⟩:=hgro hY;exact ⟨Y',k2⟩
  ·rw [hy] at hy'
   injection hy' with hy'
   subst hy';have:=hmono y (List.mem_of_getElem? hy);unfold dL;omega
  ·rw [hy] at hy'
   injection hy' with hy'
   subst hy';have:=hmono y (List.mem_of_getElem? hy);unfold dL;omega
  ·rcases hmo hm with k | ⟨k1,k2⟩
   ·unfold dL;rw [hwd.1,hwd.2];omega
   ·rw [e,k1] at k2;cases k2
 ·rw [if_neg e] at hbo;have hf:x.2.2=false:=by
   cases hx2:x.2.2
   ·rfl
   ·exact absurd ((hsf hx2).trans hx2.symm) e
  have hrow:=wU h.row hh hx hbo;have hl:(xs.set i (x.1,x.2.1,true)).length=xs.length:=by simp
  have hget:∀ (j:Nat) (y':Cme),(xs.set i (x.1,x.2.1,true))[j]? = some y'→∃ y:Cme,xs[j]? = some y∧y'.1=y.1∧y'.2.1=y.2.1∧(y'.2.2=y.2.2∨y'.2.2=true):=fun j y' hy'=>by
   by_cases ej:j=i
   ·subst ej;rw [List.getElem?_set_self hi] at hy'
    injection hy' with hy'
    subst hy';exact ⟨x,hx,rfl,rfl,.inr rfl⟩
   ·rw [List.getElem?_set_ne (Ne.symm ej)] at hy';exact ⟨y',hy',rfl,rfl,.inl rfl⟩
  have hmem:∀ y':Cme,y'∈xs.set i (x.1,x.2.1,true)→∃ y:Cme,y∈xs∧y'.1=y.1∧y'.2.1=y.2.1:=fun y' hy'=>by
   obtain ⟨j,hj⟩:=List.mem_iff_getElem?.1 hy';obtain ⟨y,k1,k2,k3,_⟩:=hget j y' hj;exact ⟨y,List.mem_of_getElem? k1,k2,k3⟩
  have hmp:(xs.set i (x.1,x.2.1,true)).map (·.1)=xs.map (·.1):=by
   rw [List.map_set];refine List.ext_getElem? fun j=>?_;by_cases ej:j=i
   ·subst ej;rw [List.getElem?_set_self (by simpa using hi),List.getElem?_map,hx];rfl
   ·rw [List.getElem?_set_ne (Ne.symm ej)]
  have hple:∀ (j:Nat) (y y':Cme),xs[j]? = some y→(xs.set i (x.1,x.2.1,true))[j]? = some y'→dL n w' y'≤dL n w y:=fun j y y' hy hy'=>by
   obtain ⟨y2,k1,_,k3,k4⟩:=hget j y' hy';rw [hy] at k1
   injection k1 with k1
   subst k1;have:=hmono y (List.mem_of_getElem? hy);unfold dL;rw [k3];rcases k4 with k4 | k4
   ·rw [k4];omega
   ·rw [k4,if_pos rfl];omega
  refine ⟨mo,_,rfl,hl,⟨hrow,fun y' hy'=>?_,by rw [hmp];exact h.nd,fun y' hy'=>?_,⟨f,nm,hmap,by rw [hl];exact h2,fun q j hq=>?_,fun y' hy'=>?_⟩,hque,fun t ht=>by rw [hl];exact h.tin t ht,by rw [hl];exact h.ne,⟨gP h.le.1 hc.size,h.le.2⟩⟩,CQ hl hple,fun _=>CR hl hple ⟨i,x,(x.1,x.2.1,true),hx,List.getElem?_set_self hi, ?_⟩,hbel,fun y hy=>?_,hc⟩
  ·obtain ⟨y,hy,k1,k2⟩:=hmem y' hy';rw [k2];obtain ⟨m1,m2,Y,hY⟩:=h.sets y hy;obtain ⟨Y',_,k3⟩:=hgro hY;exact ⟨m1,m2,Y',k3⟩
  ·obtain ⟨y,hy,k1,k2⟩:=hmem y' hy';rw [k1];exact h.lc y hy
  ·obtain ⟨m1,y,m2,m3⟩:=h3 q j hq;by_cases ej:j.toNat=i
   ·refine ⟨m1,(x.1,x.2.1,true),by rw [ej];exact List.getElem?_set_self hi, ?_⟩;rw [ej,hx] at m2
    injection m2 with m2
    rw [← m3,← m2]
   ·exact ⟨m1,y,by rw [List.getElem?_set_ne (Ne.symm ej)];exact m2,m3⟩
  ·obtain ⟨y,hy,k1,k2⟩:=hmem y' hy';rw [k1];exact h4 y hy
  ·unfold dL;have:=hmono x hxm;rw [hf];simp;omega
  ·obtain ⟨j,hj⟩:=List.mem_iff_getElem?.1 hy;by_cases ej:j=i
   ·subst ej;rw [hx] at hj
    injection hj with hj
    subst hj;exact ⟨_,List.mem_of_getElem? (List.getElem?_set_self hi),rfl⟩
   ·exact ⟨y,List.mem_of_getElem? (by rw [List.getElem?_set_ne (Ne.symm ej)];exact hj),rfl⟩
theorem Cx.more (h:Cx B n g s bmap w vo xs vt T) {q:Int} (hN:g.N q) (hL:g.Lc s q) {w1 w2:World} {f:Int→Option Int} {nm nm':Nat} (hf:MII w bmap f nm) (hfl:nm≤xs.length) (hfm:∀ q i,f q=some i→0≤i∧∃ x,xs[i.toNat]? = some x∧x.1=q) (hfx:∀ x∈xs,(f x.1).isSome=true) (hq:f q=none)
  (hm1:MII w1 bmap (eK f q (xs.length:Int)) nm') (hn':nm'≤xs.length+1) (hc1:Chg (· = bmap) w w1) (hb2:Below w1.heap.size w1 w2) {b bw:Nat} (hb:B≤b) (hbw:B≤bw) {X0:Nat} (hset:BSet w2 b bw n X0) (hl:xs.length≤1000000):
  ∃ A4 c4 w4,WrA Tryz.prog #[297,297] 297 #[vo,.slice (some ⟨w2.heap.size,0,none⟩) 1 1] (w2.alloc (.cells #[.int .i64 q,.pointer (some ⟨b,0,none⟩),.bool false] 303))=.ok (.slice A4 (xs.length+1) c4) w4∧
   Cx B n g s bmap w4 (.slice A4 (xs.length+1) c4) (xs++[(q,(b,bw),false)]) vt T∧pot n g.top w4 (xs++[(q,(b,bw),false)])<pot n g.top w xs∧Below B w w4∧(∀ k,TB 303 w k→vo.ownBlock≠some k→w4.heap[k]? = w.heap[k]?)∧((Value.slice A4 (xs.length+1) c4).ownBlock=vo.ownBlock∨∃ k,(Value.slice A4 (xs.length+1) c4).ownBlock=some k∧w.heap.size≤k):=by
 have hqn:∀ x∈xs,x.1≠q:=fun x hx e=>by
  have:=hfx x hx;rw [e,hq] at this;cases this
 have hs1:∀ {T:TypeId} {k:Nat},TB T w k→w1.heap[k]? = w.heap[k]? := fun h1=>hc1.same _ h1.lt fun e=>by
  subst e;exact hf.not_tb _ h1
 have hs2:∀ {T:TypeId} {k:Nat},TB T w k→w2.heap[k]? = w.heap[k]? := fun h1=>(hb2.block _ (h1.of_eq (hs1 h1)).lt).trans (hs1 h1);have hB2:Below B w w2:=(hc1.below (fun k e=>by subst e;exact h.le.2) h.le.1).trans (hb2.mono (gP h.le.1 hc1.size));have hrow2:aG B 303 3 eL w2 vo xs:=h.row.keep fun k hk=>hs2 (h.row.tb hk).2;obtain ⟨v4,w4,hrun,hr4,hc4,how⟩:=aG.pushC 297 Tryz.underlying297 BK rfl (by decide) eL.one 297 (us:=[.int .i64 q,.pointer (some ⟨b,0,none⟩),.bool false]) (x:=(q,(b,bw),false)) rfl rfl hrow2 (by omega) (by unfold maxLen;omega) (gP h.le.1 hB2.size |> fun h=>h);obtain ⟨A4,c4,rfl,_⟩:=hr4.shape;rw [gI,gZ] at hrun hr4 how;have hs4:∀ {T:TypeId} {k:Nat},TB T w2 k→T≠303→w4.heap[k]? = w2.heap[k]? := fun h1 h2=>hc4.same _ h1.lt fun e=>h1.ne (hrow2.tb e).2 h2 rfl;have hsw:∀ {T:TypeId} {k:Nat},TB T w k→T≠303→w4.heap[k]? = w.heap[k]? := fun h1 h2=>(hs4 (h1.of_eq (hs2 h1)) h2).trans (hs2 h1);have hset4:BSet w4 b bw n X0:=hset.keep (hs4 ⟨_,hset.hb⟩ (by decide)) (hs4 ⟨_,hset.hw⟩ (by decide));have hk4:∀ {b bw X:Nat},BSet w b bw n X→BSet w4 b bw n X:=fun hX=>hX.keep (hsw ⟨_,hX.hb⟩ (by decide)) (hsw ⟨_,hX.hw⟩ (by decide));have hm2:=hm1.below hb2;have hmap4:MII w4 bmap (eK f q (xs.length:Int)) nm':=hm2.keep (hc4.same _ hm2.lt fun e=>hm2.not_tb _ (hrow2.tb e).2);have hBf:Below B w w4:=hB2.trans (hc4.below (fun k e=>(hrow2.tb e).1) (gP h.le.1 hB2.size));have hlen:xs.length+1≤g.top:=by
  have h1:((xs.map (·.1))++[q]).Nodup:=by
   rw [List.nodup_append];refine ⟨h.nd,by simp,fun a ha c hc=>?_⟩;rw [gV] at hc;subst hc;obtain ⟨x,hx,rfl⟩:=List.mem_map.1 ha;exact hqn x hx
  have:=eO (m:=(List.range g.top).map fun (i:Nat)=>(i:Int)+1) h1 fun y hy=>by
   have h2:g.N y:=by
    rcases yC hy with hy | hy
    ·obtain ⟨x,hx,rfl⟩:=List.mem_map.1 hy;exact (h.lc x hx).1
    ·rw [gV] at hy;subst hy;exact hN
   unfold Gm.N at h2;exact List.mem_map.2 ⟨(y-1).toNat,List.mem_range.2 (by omega),by omega⟩
  simpa using this
 refine ⟨A4,c4,w4,hrun,⟨by rw [gI,gZ] at *;exact hr4,fun x hx=>?_, ?_,fun x hx=>?_,⟨_,nm',hmap4,by rw [gI,gZ];exact hn',fun y i hy=>?_,fun x hx=>?_⟩,h.que.keep fun k hk=>hsw (h.que.tb hk).2 (by decide),fun t ht=>by rw [gI];have:=h.tin t ht;omega,by rw [gI];have:=h.ne;omega,⟨gP h.le.1 hBf.size,h.le.2⟩⟩, ?_,hBf,fun k hk hne=>(hc4.same k (hk.of_eq (hs2 hk)).lt hne).trans (hs2 hk),how.imp id fun e=>⟨_,e,by have:=hc1.size;have:=hb2.size;omega⟩⟩
 ·rcases yC hx with hx | hx
  ·exact ⟨(h.sets x hx).1,(h.sets x hx).2.1,(h.sets x hx).2.2.imp fun X hX=>hk4 hX⟩
  ·rw [gV] at hx;subst hx;exact ⟨hb,hbw,X0,hset4⟩
 ·rw [List.map_append,List.nodup_append];refine ⟨h.nd,by simp,fun a ha c hc=>?_⟩;simp at hc;subst hc;obtain ⟨x,hx,rfl⟩:=List.mem_map.1 ha;exact hqn x hx
 ·rcases yC hx with hx | hx
  ·exact h.lc x hx
  ·rw [gV] at hx;subst hx;exact ⟨hN,hL⟩
 ·unfold eK at hy;by_cases e:y=q
  ·rw [if_pos e] at hy
   injection hy with hy
   subst hy;exact ⟨by omega,(q,(b,bw),false),by simp,e.symm⟩
  ·rw [if_neg e] at hy;obtain ⟨h1,x,h2,h3⟩:=hfm y i hy;exact ⟨h1,x,by rw [List.getElem?_append_left (gY h2).1];exact h2,h3⟩
 ·unfold eK;by_cases e:x.1=q
  ·rw [if_pos e];rfl
  ·rw [if_neg e];rcases yC hx with hx | hx
   ·exact hfx x hx
   ·rw [gV] at hx;subst hx;exact absurd rfl e
 ·have hp:(xs.map (dL n w4)).sum=(xs.map (dL n w)).sum:=by
   congr 1
   refine List.map_congr_left fun x hx=>?_;obtain ⟨_,_,X,hX⟩:=h.sets x hx;unfold dL;rw [hX.wd,(hk4 hX).wd]
  unfold pot;rw [List.map_append,List.sum_append,hp,gI,gZ];have e1:(g.top-xs.length)*(2 ^ n+2)=(g.top-(xs.length+1))*(2 ^ n+2)+(2 ^ n+2):=by
   rw [show g.top-xs.length=(g.top-(xs.length+1))+1 by omega,Nat.add_mul];omega
  have e2:([(q,(b,bw),false)].map (dL n w4)).sum=2 ^ n-X0+1:=by
   simp [dL,hset4.wd]
  rw [e1,e2];have hpp:=Nat.two_pow_pos n;generalize 2 ^ n=M at *;omega
theorem Cx.start {b bw X:Nat} {nm:Nat} (hN:g.N s) (row:aG B 303 3 eL w vo [(s,(b,bw),true)]) (hb:B≤b) (hbw:B≤bw) (hset:BSet w b bw n X) (hm:MII w bmap (eK (fun _=>none) s 0) nm) (hnm:nm≤1) (que:Qr B w vt [0]) (hB:B≤w.heap.size) (hbm:B≤bmap):Cx B n g s bmap w vo [(s,(b,bw),true)] vt [0]:=by
 refine ⟨row,fun x hx=>?_,by simp,fun x hx=>?_,⟨_,nm,hm,hnm,fun q i hq=>?_,fun x hx=>?_⟩,que,fun t ht=>?_,by simp,⟨hB,hbm⟩⟩
 ·rw [gV] at hx;subst hx;exact ⟨hb,hbw,X,hset⟩
 ·rw [gV] at hx;subst hx;exact ⟨hN,.refl⟩
 ·unfold eK at hq;by_cases e:q=s
  ·rw [if_pos e] at hq
   injection hq with hq
   subst hq;exact ⟨Int.le_refl _,_,rfl,e.symm⟩
  ·rw [if_neg e] at hq;cases hq
 ·rw [gV] at hx;subst hx;unfold eK;rw [if_pos rfl];rfl
 ·rw [gV] at ht;subst ht;simp
end
section
attribute [local go_sem ↓] aI
structure Mt (G:Nat→Prop) (w:World) (bm:Nat) (A0:Option Addr) (c0:Nat) (A1:Option Addr) (c1:Nat) (A2:Option Addr) (c2:Nat) (g:Gm) (vr vts vu:Value):Prop where
 gb:GBox G w bm A0 c0 A1 c1 A2 c2 g
 m5:w.cell? ⟨bm,5,none⟩=some vr
 m6:w.cell? ⟨bm,6,none⟩=some vts
 m7:w.cell? ⟨bm,7,none⟩=some vu
 rs:aH G w 1 (bJ fun v (k:Nat)=>aF G w v (g.rightAt k)) vr (List.range (g.rules.length+1))
 ts:aH G w 1 (bJ fun v (k:Nat)=>aH G w 2 (dZ G w (g.terms.length+1)) v (g.rightAt k)) vts (List.range (g.rules.length+1))
 us:aH G w 1 (bJ fun v (t:Nat)=>aF G w v (ofR (t:Int) g.rules 0)) vu (List.range (g.top+1))
section
variable {G:Nat→Prop} {w w':World} {bm:Nat} {A0 A1 A2:Option Addr} {c0 c1 c2:Nat} {g:Gm} {vr vts vu:Value}
theorem Mt.on (h:Mt G w bm A0 c0 A1 c1 A2 c2 g vr vts vu) (hb:Below w.heap.size w w'):Mt G w' bm A0 c0 A1 c1 A2 c2 g vr vts vu:=
 have hk:∀ k,G k→w'.heap[k]? = w.heap[k]? := fun k hk=>hb.block k (h.gb.old k hk)
 ⟨h.gb.on hb, aD h.m5 hb, aD h.m6 hb, aD h.m7 hb,
  aH.keepG (fun _ h => h) hk h.rs (bJ.mono fun _ _ h => aH.keepG (fun _ h => h) hk h fun _ _ h => h),
  aH.keepG (fun _ h => h) hk h.ts (bJ.mono fun _ _ h => aH.keepG (fun _ h => h) hk h fun _ _ h => dZ.keep (fun _ h => h) hk h),
  aH.keepG (fun _ h => h) hk h.us (bJ.mono fun _ _ h => aH.keepG (fun _ h => h) hk h fun _ _ h => h)⟩
theorem Mt.right (h:Mt G w bm A0 c0 A1 c1 A2 c2 g vr vts vu) {k:Nat} (hk:k≤g.rules.length):∃ b off c A c',vr=.slice (some ⟨b,off,none⟩) (g.rules.length+1) c∧w.cell? ⟨b,off+k,none⟩=some (.slice A (g.rightAt k).length c')∧aF G w (.slice A (g.rightAt k).length c') (g.rightAt k):=by
 obtain ⟨b,off,c,u,h1,h2,h3,h4⟩:=dN h.rs (show k<g.rules.length+1 by omega);obtain ⟨A,c',rfl,_⟩:=aH.shape h4;exact ⟨b,off,c,A,c',h1,h3,h4⟩
theorem Mt.tail (h:Mt G w bm A0 c0 A1 c1 A2 c2 g vr vts vu) {k:Nat} (hk:k≤g.rules.length) (hd:0<(g.rightAt k).length):∃ b off c c' b' off' bS bwS X em,vts=.slice (some ⟨b,off,none⟩) (g.rules.length+1) c∧w.cell? ⟨b,off+k,none⟩=some (.slice (some ⟨b',off',none⟩) (g.rightAt k).length c')∧w.cell? ⟨b',off',none⟩=some (.pointer (some ⟨bS,0,none⟩))∧w.cell? ⟨b',off'+1,none⟩=some (.bool em)∧BSet w bS bwS (g.terms.length+1) X:=by
 obtain ⟨b,off,c,u,h1,h2,h3,h4⟩:=dN h.ts (show k<g.rules.length+1 by omega);obtain ⟨A',c',rfl,_,_,h6⟩:=h4;obtain ⟨b',off',rfl,h8,h9⟩:=h6 (by omega);obtain ⟨vs,_,⟨p,em,rfl,bS,bwS,X,rfl,_,_,h10⟩,h11⟩:=h9 0 hd;exact ⟨b,off,c,c',b',off',bS,bwS,X,em,h1,h3,by simpa using h11 0 _ rfl,by simpa using h11 1 _ rfl,h10⟩
theorem Mt.rules (h:Mt G w bm A0 c0 A1 c1 A2 c2 g vr vts vu) {t:Nat} (hs:t≤g.top):∃ b off c A' c',vu=.slice (some ⟨b,off,none⟩) (g.top+1) c∧w.cell? ⟨b,off+t,none⟩=some (.slice A' (ofR (t:Int) g.rules 0).length c')∧aF G w (.slice A' (ofR (t:Int) g.rules 0).length c') (ofR (t:Int) g.rules 0):=by
 obtain ⟨b,off,c,u,h1,h2,h3,h4⟩:=dN h.us (show t<g.top+1 by omega);obtain ⟨A',c',rfl,_⟩:=aH.shape h4;exact ⟨b,off,c,A',c',h1,h3,h4⟩
end
def nth:List Value→Nat→Value
 | [],_=>.int .i64 0
 | v::_,0=>v
 | _::l,n+1=>nth l n
theorem exf (F:(Nat→Value)→Array Value) (A:Array Value) (h:A=F (nth A.toList)):∃ f:Nat→Value,(⟨A,[]⟩:Act)=⟨F f,[]⟩:=⟨_,by rw [← h]⟩
theorem FW {n m:Nat} {w:World} {x:Cme} (hn:n≤31) (hm:m≤240):2*pot n m w [x]+1≤1040000000000:=by
 have h2:2 ^ n≤2 ^ 31:=Nat.pow_le_pow_right (by omega) hn;have h3:(m-1)*(2 ^ n+2)≤239*(2 ^ 31+2):=Nat.mul_le_mul (by omega) (by omega);have h4:pot n m w [x]=(m-1)*(2 ^ n+2)+dL n w x:=by simp [pot]
 have h5:dL n w x≤2 ^ n+1:=by unfold dL;generalize 2 ^ n=y;split <;> omega
 have e:(2:Nat) ^ 31=2147483648:=rfl;rw [e] at h2 h3;rw [h4];generalize (m-1)*(2 ^ n+2)=z at *;omega
theorem aF.gof {G:Nat→Prop} {w:World} {b o:Nat} {n c:Nat} {l:List Int} (h:aF G w (.slice (some ⟨b,o,none⟩) n c) l) (hl:0<l.length):G b:=by
 obtain ⟨A',c',e1,_,_,h4⟩:=h;obtain ⟨b',off,h5,h6,_⟩:=h4 hl
 injection e1 with e1 _ _
 rw [h5] at e1
 injection e1 with e1
 injection e1 with e1 _
 rw [e1];exact h6
def sS (g:Gm) (s:Int) (w:World) (e:Ending) (w':World):Prop:=
 (∃ v xs vt T,e=.returned v∧Cx w.heap.size (g.terms.length+1) g s w.heap.size w' v xs vt T)∧Below w.heap.size w w'
theorem AM (G:Nat→Prop) (w:World) (bm:Nat) (A0 c0 A1 c1 A2 c2) (g:Gm) (vr vts vu:Value) (s:Int) (h:Mt G w bm A0 c0 A1 c1 A2 c2 g vr vts vu) (hkn:g.Known) (hN:g.N s) (hlx:∀ r∈g.rules,r.2.length≤8) (hlr:g.rules.length≤300) (hn31:g.terms.length+1≤31) (htp:g.top≤240):
  Calls Tryz.prog 221 #[.pointer (some ⟨bm,0,none⟩),.int .i64 s] w fun e w'=>sS g s w e w':=by
 have H:=Ha h;have hn:g.terms.length+1≤64:=by omega
 have H4:=mF G;unfold ag at H4;have HNP:=Ha H4;clear H4;have hmm:=@run_makeMap Tryz.prog;have hmade:=MG.made (κ:=Int) (kT:=3) (eT:=3) (kl:=Lit.int .i64) (el:=Lit.int .i64) (z0:=0) w;have hb1:Below w.heap.size w (w.alloc (.map #[] 0)):=(gR _ _).alloc (gO _) _;generalize hW1:w.alloc (.map #[] 0)=w1 at *;have hsN:-9223372036854775808≤s∧s≤9223372036854775807:=by unfold Gm.N at hN;omega
 obtain ⟨w2,hins,hm2,hc2,hs2⟩:=MG.store sII hmade (x:=s) (v:=0) hsN (by unfold inR;omega) (by omega);have hB2:Below w.heap.size w w2:=hb1.trans (hc2.below (fun k e=>by subst e;exact gO _) hb1.size);have h2:=h.on hB2;obtain ⟨HSET,HM2,HB2,HNN,HKN⟩:=Zh5 (DE (fun _=>False) w2 bm (g.terms.length+1) g.terms.length A0 c0 none 0 [] h2.gb.x0 (fun _ h=>h.elim) aH.nil0 (fun _ h=>by cases h) rfl hn) hm2 hB2 hN hkn;clear h hmade hb1 hm2 hc2 hs2 hB2 h2 hN hkn hsN;go_enter Tryz.func221,Tryz.ntmps221;go_wp2_with fail;refine nB 0 (fun m' a' w'=>∃ (vo vt:Value) (xs:List Cme) (T:List Int),(∃ f:Nat→Value,a'=⟨#[.pointer (some ⟨bm,0,none⟩),.int .i64 s,undef,undef,.slice none 0 0,.map (some w.heap.size),vo,vt,(f 8),undef,(f 10),(f 11),(f 12),(f 13),(f 14),(f 15),(f 16),(f 17),(f 18),(f 19),(f 20),(f 21),(f 22),(f 23),(f 24),(f 25),(f 26),(f 27),(f 28),(f 29),(f 30),(f 31),(f 32),(f 33),(f 34),(f 35),(f 36),(f 37),(f 38),(f 39),(f 40),(f 41),(f 42),(f 43),(f 44),(f 45),(f 46),(f 47),(f 48),(f 49),(f 50),(f 51),(f 52),(f 53),(f 54),(f 55),(f 56),(f 57),(f 58),(f 59),(f 60),(f 61),(f 62),(f 63),(f 64),(f 65),(f 66),(f 67),(f 68),(f 69),(f 70),(f 71),(f 72),(f 73),(f 74),(f 75),(f 76),(f 77),(f 78),(f 79),(f 80),(f 81),(f 82),(f 83),(f 84),(f 85),(f 86),(f 87),(f 88),(f 89),(f 90),(f 91),(f 92),(f 93),(f 94),(f 95),(f 96),(f 97),(f 98),(f 99),(f 100),(f 101),(f 102),(f 103),(f 104),(f 105),(f 106),(f 107),(f 108),(f 109),(f 110),(f 111),(f 112),(f 113),(f 114),(f 115),(f 116),(f 117),(f 118)],[]⟩)∧Cx w.heap.size (g.terms.length+1) g s w.heap.size w' vo xs vt T∧2*pot (g.terms.length+1) g.top w' xs+T.length=m'∧m'≤1040000000000∧Below w.heap.size w w') rfl ?_ ?_
 ·rintro m' a' w1 ⟨vo,vt,xs,T,⟨f,rfl⟩,hcx,hm',hmx,hbel⟩;obtain ⟨HC,HBE,HMM⟩:=Zh3 hcx hbel hm';obtain ⟨gq,oq,cq,rfl,hqc⟩:=hcx.que.shape;clear HSET HM2 HB2 hins hmm hcx hbel hm' hW1;cases T with
  | nil=>
   go_wp2_with fail;simp only [Exit.jump];go_ret;exact ⟨⟨vo,xs,_,[],rfl,HC.out⟩,HBE.out⟩
  | cons t0 T=>
   have hq2:=HC.out.que;rw [gG] at hq2 hqc;have z0:=hq2.cell (i:=0) (by simp);rw [Nat.add_zero,show (t0::T)[0]=t0 from rfl] at z0;have htl:=hq2.tail;rw [Nat.add_sub_cancel] at htl;generalize hAe:(if cq=1 then some ⟨gq,oq,none⟩ else some ⟨gq,oq+1,none⟩:Option Addr)=A' at htl;obtain ⟨ht0,ht1⟩:=HC.out.tin t0 (by simp);obtain ⟨p,rfl⟩:∃ p:Nat,t0=(p:Int):=⟨t0.toNat,by omega⟩;have hpx:p<xs.length:=by omega
   obtain ⟨bo,co,cs,rfl,hBo,hbo,hcells⟩:=lO HC.out.row HC.out.ne;obtain ⟨⟨xq,⟨bX,bwX⟩,sfX⟩,hxe⟩:∃ x,xs[p]? = some x:=⟨_,List.getElem?_eq_getElem hpx⟩;obtain ⟨k0,k1,k2⟩:=hcells p _ hxe;have hxm:=List.mem_of_getElem? hxe;obtain ⟨hxN,hxL⟩:=HC.out.lc _ hxm;simp only at k0 k1 k2 hxN hxL;obtain ⟨xn,rfl⟩:∃ xn:Nat,xq=(xn:Int):=⟨xq.toNat,by unfold Gm.N at hxN;omega⟩;have hxt:xn≤g.top:=by unfold Gm.N at hxN;omega
   have r0:=aA hbo _ _ k0;have r1:=aA hbo _ _ k1;have r2:=aA hbo _ _ k2;have hb8:Below w1.heap.size w1 (w1.alloc (.cells #[.int .i64 xn,.pointer (some ⟨bX,0,none⟩),.bool sfX] 303)):=(gR _ _).alloc (gO _) _;have q8:=aC w1 (.cells #[.int .i64 xn,.pointer (some ⟨bX,0,none⟩),.bool sfX] 303);generalize hW8:w1.alloc (.cells #[.int .i64 xn,.pointer (some ⟨bX,0,none⟩),.bool sfX] 303)=w8 at *;have hT8:2*pot (g.terms.length+1) g.top w1 xs+(T.length+1)=m':=HMM.out;have hcx8:=(HC.out.below hb8).pop (htl.below hb8) fun t ht=>yI _ ht;have hp8:=HC.out.pot_below hb8 g.top;have hB8:Below w.heap.size w w8:=HBE.out.trans (hb8.mono HBE.out.size);have ht8:=H.out.on hB8;obtain ⟨bv,ov,cv,Ak,ck,hvu,y0,hkl⟩:=ht8.rules hxt;have y7:=ht8.m7;rw [hvu] at y7;obtain ⟨kl,hkle⟩:∃ kl,kl=ofR (xn:Int) g.rules 0:=⟨_,rfl⟩;rw [← hkle] at y0 hkl;have hkll:kl.length≤300:=by rw [hkle];have:=eY (xn:Int) g.rules 0;omega
   have e0:w8.drew.cell? ⟨bm,7,none⟩=some (.slice (some ⟨bv,ov,none⟩) (g.top+1) cv):=y7;have e1:w8.drew.cell? ⟨w1.heap.size,0,none⟩=some (.int .i64 (xn:Int)):=aA q8 0 _ rfl;have e2:w8.drew.cell? ⟨bv,ov+xn,none⟩=some (.slice Ak kl.length ck):=y0;have hp0:(0:Int)≤(p:Int):=by omega
   have hp1:(p:Int)<(xs.length:Int):=by omega
   have hx0:(0:Int)≤(xn:Int):=by omega
   have hx1:(xn:Int)<(g.top:Int)+1:=by omega
   have hc0:(1:Int)≤(cq:Int):=by omega
   have hl1:(1:Int)≤(T.length:Int)+1:=by omega
   have hllc:(T.length:Int)+1≤(cq:Int):=by omega
   have HKL:=Ha (show aF G w8.drew (.slice Ak kl.length ck) kl from aH.keepG (w:=w8) (w':=w8.drew) (fun _ h=>h) (fun _ _=>rfl) hkl fun _ _ h=>h);have HKE:=Ha hkle;have HXL:=Ha hxL;have HCX:=Ha (hcx8.below (gR w8.heap.size w8).drew);have HPT:=Ha (show 2*pot (g.terms.length+1) g.top w8.drew xs+T.length<m' from by
    rw [hcx8.pot_below (gR w8.heap.size w8).drew g.top,hp8];omega)
   obtain ⟨HQ8,HBD,HXM⟩:=Zh3 (show w8.drew.heap[w1.heap.size]? = some (.cells #[.int .i64 xn,.pointer (some ⟨bX,0,none⟩),.bool sfX] 303 (0,0)) from q8) (show Below w.heap.size w w8.drew∧bo<w1.heap.size from ⟨hB8.drew,(gL hbo).1⟩) (show ∃ y∈xs,y.2.1=(bX,bwX) from ⟨_,hxm,rfl⟩);clear hq2 htl hcells k0 k1 k2 hxe hxm hxN hxL hb8 hcx8 hp8 hB8 ht8 hvu y0 y7 hkl hkle q8 hbo;rw [gG];go_wp2_with fail
   go_region
   go_wp2_with fail;clear e0 e1 e2 z0 r0 r1 r2;generalize hWd:w8.drew=w9 at *;generalize hb8e:w1.heap.size=b8 at *;clear hWd hb8e hW8 hAe;have htz:((T.length:Int)+1==0)=false:=by rw [gJ];omega
   rw [htz];clear htz;have HTL:=Ha hmx;have HLX:=Ha hlx;clear hmx hlx hp0 hp1 hx0 hx1 hc0 hl1 hllc hqc ht0 ht1 hpx HC HBE HMM
   go_loopw [6,7,44] (fun ov tv iv wr=>∃ (j:Nat) (xs':List Cme) (T':List Int),j≤kl.length∧iv=.int .i64 j∧Cx w.heap.size (g.terms.length+1) g s w.heap.size wr ov xs' tv T'∧2*pot (g.terms.length+1) g.top wr xs'+T'.length<m'∧Below w.heap.size w wr∧wr.heap[b8]? = some (.cells #[.int .i64 xn,.pointer (some ⟨bX,0,none⟩),.bool sfX] 303 (0,0))∧ov.ownBlock≠some b8∧∃ y∈xs',y.2.1=(bX,bwX)) (fun _ _ iv _=>kl.length-(intOf iv).toNat)
   case atStart=>
    exact ⟨0,xs,T,gX _,rfl,HCX.out,HPT.out,HBD.out.1,HQ8.out,fun e=>by have:=HBD.out.2;simp [Value.ownBlock] at e;omega,HXM.out⟩
   case round=>
    obtain ⟨j,xs',T',hj,rfl,hcx,hpt,hbr,hq8r,hown,hxm⟩:=hrel;obtain ⟨HCR,HPR,HBR,HQR,HOW,HXR⟩:=Zh6 hcx hpt hbr hq8r hown hxm;clear hcx hpt hbr hq8r hown hxm HCX HPT HXM;by_cases hlt:j<kl.length
    case neg=>
     obtain rfl:j=kl.length:=by omega
     go_wp2_with fail
     go_step3
     exact ⟨rfl,_,HPR.out,_,_,_,_,exf _ _ rfl,HCR.out,rfl,by have h1:=HPR.out;have h2:=HTL.out;omega,HBR.out⟩
    case pos=>
     obtain ⟨gq2,oq2,cq2,rfl,hqc2⟩:=HCR.out.que.shape;obtain ⟨bq,oq',rfl,zq⟩:=aF.get HKL.out hlt;have hgq:G bq:=aF.gof HKL.out (by omega);have hlo:=H.out.gb.old _ hgq;have zq:=(gM (a:=⟨bq,oq'+j,none⟩) ((HBR.out.block bq hlo).trans (HBD.out.1.block bq hlo).symm)).trans zq;obtain ⟨kk,hkk,hkr,hke⟩:∃ kk:Nat,∃ h:kk<g.rules.length,g.rules[kk].1=(xn:Int)∧kl[j]=(kk:Int):=by
      have h1:kl[j]∈ofR (xn:Int) g.rules 0:=HKE.out▸gN hlt;obtain ⟨i',e,h2,h3⟩:=fW (xn:Int) g.rules 0 _ h1;exact ⟨i',h2,h3,by rw [e,Nat.zero_add]⟩
     rw [hke] at zq;have hmt:=H.out.on HBR.out;obtain ⟨br,orr,cr,Ar,car,hvr,t0,hri⟩:=hmt.right (show kk≤g.rules.length by omega);have y5:=hmt.m5;rw [hvr] at y5;obtain ⟨rk,hrk⟩:∃ rk,rk=(g.rightAt kk).length:=⟨_,rfl⟩;have hrk8:rk≤1000:=by have:=kB HLX.out kk;omega
     rw [← hrk] at t0;have HRK:=Ha hrk;clear hrk;have hkk0:(0:Int)≤(kk:Int):=by omega
     have hkk1:(kk:Int)<(g.rules.length:Int)+1:=by omega
     by_cases h0:rk=0
     ·subst h0;clear hri hmt hgq hlo hke hvr HRK;go_wp2_with fail
      go_region
      go_wp2_with fail
      go_roundw
      case rel=>exact ⟨j+1,xs',T',hlt,by go_num,HCR.out.below (gR _ _).drew,by rw [HCR.out.pot_below (gR _ _).drew];exact HPR.out,HBR.out.drew,HQR.out,HOW.out,HXR.out⟩
      case measure=>simp only [intOf];omega
     ·obtain ⟨b1, o1, rfl, z0⟩ := aF.get hri (show 0 < (g.rightAt kk).length by rw [← HRK.out]; omega); obtain ⟨q, hqe⟩ : ∃ q, q = (g.rightAt kk)[0]'(by rw [← HRK.out]; omega) := ⟨_, rfl⟩; rw [← hqe, Nat.add_zero] at z0; have hb1l : b1 < w.heap.size := H.out.gb.old _ (aF.gof hri (by rw [← HRK.out]; omega)); have hqx : q = g.nxt ((kk : Int), ((0 : Nat) : Int)) := by
       rw [hqe];unfold Gm.nxt;rw [List.getD_eq_getElem?_getD,show ((((kk:Int),((0:Nat):Int)):Itm).2.toNat)=0 from rfl,show ((((kk:Int),((0:Nat):Int)):Itm).1.toNat)=kk from rfl,List.getElem?_eq_getElem];rfl
      have HQX:=Ha (show g.N q→g.Lc s q from fun h=>by rw [hqx] at h ⊢;exact .step hkk (hkr▸HXL.out) h);have HS6:=Ha (show ∀ X,Below wr.heap.size wr X→X.cell? ⟨bm,0,none⟩=some (.slice A0 g.terms.length c0)∧X.cell? ⟨bm,1,none⟩=some (.slice A1 g.nons.length c1)∧X.cell? ⟨bm,2,none⟩=some (.slice A2 g.rules.length c2)∧X.cell? ⟨bm,3,none⟩=some (.int .i64 g.start)∧X.cell? ⟨b1,o1,none⟩=some (.int .i64 q) from
       fun X hX=>⟨(hmt.gb.on hX).x0,(hmt.gb.on hX).x1,(hmt.gb.on hX).x2,(hmt.gb.on hX).x3,aD z0 hX⟩)
      have HN6:=Ha (fun X (hX:Below wr.heap.size wr X)=>HNP.out X _ g q (hmt.gb.on hX).old (hmt.gb.on hX).gm (by omega));have RD:=Ha (show Below wr.heap.size wr wr.drew from (gR _ _).drew);have hr1:(0:Int)<(rk:Int):=by omega
      have hr2:0<rk:=by omega
      have hrz:((rk:Int)==0)=false:=by rw [gJ];omega
      clear hmt hri hgq hlo hke hvr hqe hqx;go_wp2_with fail
      go_region_held3 (fun X=>X.cell? ⟨bm,0,none⟩=some (.slice A0 g.terms.length c0)∧X.cell? ⟨bm,1,none⟩=some (.slice A1 g.nons.length c1)∧X.cell? ⟨bm,2,none⟩=some (.slice A2 g.rules.length c2)∧X.cell? ⟨bm,3,none⟩=some (.int .i64 g.start)∧X.cell? ⟨b1,o1,none⟩=some (.int .i64 q))
       (exact HS6.out _ (by first | exact RD.out | exact hb6))
       (first
        | (go_at_call 81
           with_reducible refine Calls.mono (HN6.out _ RD.out) ?_
           rintro e w6 ⟨rfl, hb6⟩;have hb6 := RD.out.trans hb6;dsimp only))
      have HB6:=Ha hb6;clear hb6;by_cases hN:g.N q
      case neg=>
       have hdn:(decide (g.N q))=false:=yE hN;rw [hdn];go_wp2_with fail
       go_roundw
       case rel=>exact ⟨j+1,xs',T',hlt,by go_num,HCR.out.below HB6.out,by rw [HCR.out.pot_below HB6.out];exact HPR.out,HBR.out.trans (HB6.out.mono HBR.out.size),(HB6.out.block _ (gL HQR.out).1).trans HQR.out,HOW.out,HXR.out⟩
       case measure=>simp only [intOf];omega
      case pos=>
       rw [yD hN];have HNQ:=Ha hN;have hcx6:=HCR.out.below HB6.out;obtain ⟨ff,nm,hmg,hnm,hfm,hfx⟩:=hcx6.mp;have hqr:-9223372036854775808≤q∧q≤9223372036854775807:=by unfold Gm.N at hN;omega
       have hlook:=MG.look sII hmg (x:=q) (by unfold inR;omega);obtain ⟨okb,hokb⟩:∃ okb,okb=(ff q).isSome:=⟨_,rfl⟩;obtain ⟨v0,hv0⟩:∃ v0,v0=(ff q).getD 0:=⟨_,rfl⟩;rw [← hokb,← hv0] at hlook;have z6:=(HS6.out _ HB6.out).2.2.2.2;obtain ⟨HCX6,HMG,HOK⟩:=Zh3 hcx6 (gS hmg (gS hnm (gS hfm hfx))) (gS hokb hv0);obtain ⟨Ao,co',rfl,_⟩:=hcx6.row.shape;have hxl:=hcx6.len;clear hcx6 hmg hnm hfm hfx hokb hv0 hN
       go_upto_if 78 with fail
       go_cut [6,12] (fun o2 at2 wx=>∃ (xs2:List Cme) (i:Nat),at2=.int .i64 i∧i<xs2.length∧Cx w.heap.size (g.terms.length+1) g s w.heap.size wx o2 xs2 (.slice (some ⟨gq2,oq2,none⟩) T'.length cq2) T'∧pot (g.terms.length+1) g.top wx xs2≤pot (g.terms.length+1) g.top wr xs'∧(okb=false→pot (g.terms.length+1) g.top wx xs2<pot (g.terms.length+1) g.top wr xs')∧Below w.heap.size wr wx∧wx.heap[b8]? = some (.cells #[.int .i64 xn,.pointer (some ⟨bX,0,none⟩),.bool sfX] 303 (0,0))∧o2.ownBlock≠some b8∧∃ y∈xs2,y.2.1=(bX,bwX))
       case first=>
        cases okb
        ·have hfn:ff q=none:=by
          have h1:=HOK.out.1;cases h:ff q with
          | none=>rfl
          | some v=>rw [h] at h1;cases h1
         have hwB:=HBR.out.size;have hw6:=HB6.out.size;obtain ⟨w7,hins2,hm7,hc7,hs7⟩:=MG.store sII HMG.out.1 (x:=q) (v:=(xs'.length:Int)) hqr (by unfold inR;omega) (by have:=HMG.out.2.1;omega);rw [hfn] at hm7;have hB7:Below w.heap.size w w7:=(HBR.out.trans (HB6.out.mono HBR.out.size)).trans (hc7.below (fun k e=>by subst e;exact gO _) (by omega));have hmt7:=H.out.on hB7;have z7:w7.cell? ⟨b1,o1,none⟩=some (.int .i64 q):=(gM (a:=⟨b1,o1,none⟩) (hc7.same b1 (by omega) (by omega))).trans z6;obtain ⟨RD7,HSET,HM7,HFN,HZ7⟩:=Zh5 (show Below w7.heap.size w7 w7.drew from (gR _ _).drew) (DE (fun _=>False) w7.drew bm (g.terms.length+1) g.terms.length A0 c0 none 0 [] hmt7.gb.x0 (fun _ h=>h.elim) aH.nil0 (fun _ h=>by cases h) rfl hn) (gS hm7 (gS hc7 hs7)) hfn z7;clear hmt7 hm7 hc7 hs7 hfn hB7;go_wp2_with fail;refine aE.start 9 (fun X=>X.cell? ⟨b1,o1,none⟩=some (.int .i64 q)) (by kernel_rfl) ?hs_1 (fun hHeld=>?hr_1)
         case hs_1=>exact HZ7.out
         refine aE.tks [0,1,2,3,4] ?_ (by kernel_rfl) (by assumption)
         iterate 5
          refine aK.cons ?_ (by rfl) (by rfl) (by intro w h;(try dsimp only at h);simp only [gA,gB,gC];go_simp;try with_reducible rfl) (by exact fun _ _ _ h=>h);simp only [gA,gB,gC,Act.put,gD,gE,gF]
         show aE _ _ _ _ _ _ _ _ _ _;refine aE.one (i:=5) (by kernel_rfl) rfl fun K hK=>?_;simp only [gA,gB,gC]
         go_simp
         with_reducible refine Calls.mono HSET.out ?_
         rintro e w8 ⟨⟨b,bw,X,rfl,hb,hbw,hset⟩,hb8⟩;have hb78:Below w7.heap.size w7 w8:=RD7.out.trans hb8;have hs77:w7.drew.heap.size=w7.heap.size:=rfl;obtain ⟨A4,c4,w9',hrun,hcx9,hpt9,hB9,hbx,how⟩:=HCX6.out.more HNQ.out (HQX.out HNQ.out) HMG.out.1 HMG.out.2.1 HMG.out.2.2.1 HMG.out.2.2.2 HFN.out HM7.out.1 (by show nm+1≤_;have:=HMG.out.2.1;omega) HM7.out.2.1 hb78 (show w.heap.size≤b by have:=HM7.out.2.2;omega) (show w.heap.size≤bw by have:=HM7.out.2.2;omega) hset (by omega);have hq6:w6.heap[b8]? = some (.cells #[.int .i64 xn,.pointer (some ⟨bX,0,none⟩),.bool sfX] 303 (0,0)):=(HB6.out.block _ (gL HQR.out).1).trans HQR.out;have hq9:=(hbx b8 ⟨_,hq6⟩ HOW.out).trans hq6;have hown9:(Value.slice A4 (xs'.length+1) c4).ownBlock≠some b8:=fun e=>by
          rcases how with h | ⟨k,h,hk⟩
          ·exact HOW.out (h▸e)
          ·rw [h] at e
           injection e with e
           have:=(gL hq6).1;omega
         have hxm9:∃ y∈xs'++[(q,(b,bw),false)],y.2.1=(bX,bwX):=by
          obtain ⟨y,hy,e⟩:=HXR.out;exact ⟨y,List.mem_append_left _ hy,e⟩
         rw [HCR.out.pot_below HB6.out] at hpt9;have hl9:xs'.length<(xs'++[(q,(b,bw),false)]).length:=by rw [gI,gZ];omega
         have z8:w8.cell? ⟨b1,o1,none⟩=some (.int .i64 q):=aD HZ7.out hb78;have z8a:(w8.alloc (.cells #[.int .i64 q,.pointer (some ⟨b,0,none⟩),.bool false] 303)).cell? ⟨b1,o1,none⟩=some (.int .i64 q):=aD z8 ((gR _ _).alloc (gO _) _);have z9:w9'.cell? ⟨b1,o1,none⟩=some (.int .i64 q):=(gM (a:=⟨b1,o1,none⟩) (hB9.block b1 hb1l)).trans z6;have HZ8:=Ha (gS z8 (gS z8a z9));have hB9r:Below w.heap.size wr w9':=(HB6.out.mono HBR.out.size).trans hB9;have HF:=Ha (gS hl9 (gS hcx9 (gS hpt9 (gS hB9r (gS hq9 (gS hown9 hxm9))))));clear hl9 hcx9 hpt9 hB9 hB9r hq9 hown9 hxm9 hq6 hbx how hb hbw hset hb8 hb78 z8 z8a z9;dsimp only;refine hK.out _ _ ?_ (fun hHeld=>?_)
         ·exact HZ8.out.1
         clear hK K;try simp only [Act.put,gD,gE,gF]
         refine aE.one (i:=6) (by kernel_rfl) rfl fun K hK=>?_;simp only [gA,gB,gC]
         go_simp
         refine hK.out _ _ ?_ (fun hHeld=>?_)
         ·exact HZ8.out.1
         clear hK K;try simp only [Act.put,gD,gE,gF]
         refine aE.one (i:=7) (by kernel_rfl) rfl fun K hK=>?_;simp only [gA,gB,gC]
         go_simp
         refine hK.out _ _ ?_ (fun hHeld=>?_)
         ·exact HZ8.out.2.1
         clear hK K;try simp only [Act.put,gD,gE,gF]
         refine aE.one (i:=8) (by kernel_rfl) rfl fun K hK=>?_;simp only [gA,gB,gC]
         go_simp
         refine hK.out _ _ ?_ (fun hHeld=>?_)
         ·exact HZ8.out.2.2
         clear hK K;try simp only [Act.put,gD,gE,gF]
         refine aE.last (by kernel_rfl) rfl fun K hK=>?_;simp only [gA,gB,gC]
         go_simp
         refine hK.out _ _ (aE.done (by kernel_rfl) ?_ _);go_wp2_with fail
         go_meet
         exact ⟨_,xs'.length,rfl,HF.out.1,HF.out.2.1,Nat.le_of_lt HF.out.2.2.1,fun _=>HF.out.2.2.1,HF.out.2.2.2⟩
        ·obtain ⟨v,hv⟩:∃ v,ff q=some v:=by
          have h1:=HOK.out.1;cases h:ff q with
          | none=>rw [h] at h1;cases h1
          | some v=>exact ⟨v,rfl⟩
         have hvv:v0=v:=by rw [HOK.out.2,hv];rfl
         obtain ⟨hv1,x,hx,_⟩:=HMG.out.2.2.1 q v hv;have HV:=Ha (show v0=((v.toNat:Nat):Int)∧v.toNat<xs'.length from ⟨by omega,(gY hx).1⟩);have HQ6:=Ha ((HB6.out.block _ (gL HQR.out).1).trans HQR.out);clear hv hvv hv1 hx;go_wp2_with fail
         go_meet
         exact ⟨xs',v.toNat,by rw [HV.out.1],HV.out.2,HCX6.out,Nat.le_of_eq (HCR.out.pot_below HB6.out _),(fun h=>by cases h),HB6.out.mono HBR.out.size,HQ6.out,HOW.out,HXR.out⟩
       case rest=>
        obtain ⟨xs2,i,rfl,hi2,hcx,hp1,hp2,hb,hq,how,hxm⟩:=hcut;obtain ⟨bo2,co2,cs2,rfl,hBo2,hbo2,hcells2⟩:=lO hcx.row hcx.ne;obtain ⟨⟨xq2,⟨bT,bwT⟩,sf2⟩,hxe2⟩:∃ x,xs2[i]? = some x:=⟨_,List.getElem?_eq_getElem hi2⟩;obtain ⟨_,k1,k2⟩:=hcells2 i _ hxe2;obtain ⟨_,_,XT,hXT⟩:=hcx.sets _ (List.mem_of_getElem? hxe2);obtain ⟨yy,hyy,hye⟩:=hxm;obtain ⟨_,_,XX,hXX⟩:=hcx.sets yy hyy;rw [hye] at hXX;simp only at k1 k2 hXT hXX;obtain ⟨bt,ot,ct,ct2,bu,ou,bS,bwS,XS,em,hvt,t0,t1,t2,hXS⟩:=H.out.tail (show kk≤g.rules.length by omega) (show 0<(g.rightAt kk).length by rw [← HRK.out];omega);rw [← HRK.out] at t0;have y6:=H.out.m6;rw [hvt] at y6;have hBC:Below w.heap.size w wc:=HBR.out.trans hb;have hXSc:=hXS.below hBC;have HHA:=Ha (H8 wc.drew bm bo2 (i*3) (g.terms.length+1) cs2 (xn:Int) sfX em sf2 bX bwX XX bT bwT XT bS bwS XS hbo2 k1 k2 (hXX.keep rfl rfl) (hXT.keep rfl rfl) (hXSc.keep rfl rfl) hn);have HS:=Ha (show ∀ X,Below w.heap.size w X→X.heap[b8]? = some (.cells #[.int .i64 xn,.pointer (some ⟨bX,0,none⟩),.bool sfX] 303 (0,0))→X.cell? ⟨bm,6,none⟩=some (.slice (some ⟨bt,ot,none⟩) (g.rules.length+1) ct)∧X.cell? ⟨b8,0,none⟩=some (.int .i64 (xn:Int))∧X.cell? ⟨b8,1,none⟩=some (.pointer (some ⟨bX,0,none⟩))∧X.cell? ⟨b8,2,none⟩=some (.bool sfX)∧X.cell? ⟨bt,ot+kk,none⟩=some (.slice (some ⟨bu,ou,none⟩) rk ct2)∧X.cell? ⟨bu,ou,none⟩=some (.pointer (some ⟨bS,0,none⟩))∧X.cell? ⟨bu,ou+1,none⟩=some (.bool em) from
         fun X hX h8=>⟨aD y6 hX,aA h8 0 _ rfl,aA h8 1 _ rfl,aA h8 2 _ rfl,aD t0 hX,aD t1 hX,aD t2 hX⟩)
        obtain ⟨HCX2,HPD,HP2,HBC,HQ8,HOX,HBO,HXT,HXE,HYY⟩:=Zh10 (hcx.below (gR wc.heap.size wc).drew) (show pot (g.terms.length+1) g.top wc.drew xs2=pot (g.terms.length+1) g.top wc xs2 from hcx.pot_below (gR wc.heap.size wc).drew g.top) (gS hp1 hp2) (show Below w.heap.size w wc.drew from hBC.drew) (show wc.drew.heap[b8]? = some (.cells #[.int .i64 xn,.pointer (some ⟨bX,0,none⟩),.bool sfX] 303 (0,0)) from hq) how (show wc.drew.heap[bo2]? = some (.cells cs2 303 (0,0)) from hbo2) (show BSet wc.drew bT bwT (g.terms.length+1) XT from hXT.keep rfl rfl) hxe2 (show ∃ y∈xs2,y.2.1=(bX,bwX) from ⟨yy,hyy,hye⟩);have hi0:(0:Int)≤(i:Int):=by omega
        have hi1:(i:Int)<(xs2.length:Int):=by omega
        clear hcx hp1 hp2 hb hq how hbo2 hcells2 hxe2 k1 k2 hXT hyy hye hXX hvt t0 t1 t2 hXS y6 hBC hXSc hlook;go_wp2_with fail;refine aE.start 19 (fun X=>X.cell? ⟨bm,6,none⟩=some (.slice (some ⟨bt,ot,none⟩) (g.rules.length+1) ct)∧X.cell? ⟨b8,0,none⟩=some (.int .i64 (xn:Int))∧X.cell? ⟨b8,1,none⟩=some (.pointer (some ⟨bX,0,none⟩))∧X.cell? ⟨b8,2,none⟩=some (.bool sfX)∧X.cell? ⟨bt,ot+kk,none⟩=some (.slice (some ⟨bu,ou,none⟩) rk ct2)∧X.cell? ⟨bu,ou,none⟩=some (.pointer (some ⟨bS,0,none⟩))∧X.cell? ⟨bu,ou+1,none⟩=some (.bool em)) (by kernel_rfl) ?hs_2 (fun hHeld=>?hr_2)
        case hs_2=>exact HS.out _ HBC.out HQ8.out
        refine aE.tks [0,1,2,3,4,5,6,7,8,9,10,11,12,13] ?_ (by kernel_rfl) (by assumption)
        iterate 14
         refine aK.cons ?_ (by rfl) (by rfl) (by intro w h;(try dsimp only at h);simp only [gA,gB,gC];go_simp;try with_reducible rfl) (by exact fun _ _ _ h=>h);simp only [gA,gB,gC,Act.put,gD,gE,gF]
        show aE _ _ _ _ _ _ _ _ _ _;refine aE.one (i:=14) (by kernel_rfl) rfl fun K hK=>?_;simp only [gA,gB,gC]
        go_simp
        with_reducible refine Calls.mono HHA.out ?_
        rintro e w5 hpost;obtain ⟨mo,xs3,rfl,hl3,hcx3,hpt3,hmo3,hbb3,hmem3,hc3⟩:=HCX2.out.hand HBO.out HXE.out HXT.out hpost g.top;have hB5:Below w.heap.size w w5:=HBC.out.trans (hbb3 hBo2);have h85:=(hc3.same b8 (gL HQ8.out).1 (fun e=>by
         rcases e with e | e
         ·exact TB.ne (T:=303) (T':=154) ⟨_,HQ8.out⟩ ⟨_,HXT.out.hw⟩ (by decide) e
         ·exact HOX.out (by rw [e];rfl))).trans HQ8.out
        have hmm5:∃ y∈xs3,y.2.1=(bX,bwX):=by
         obtain ⟨y,hy,e⟩:=HYY.out;obtain ⟨y',hy',e'⟩:=hmem3 y hy;exact ⟨y',hy',e'.trans e⟩
        have hpa:pot (g.terms.length+1) g.top w5 xs3≤pot (g.terms.length+1) g.top wr xs':=by have h1:=HP2.out.1;have h2:=HPD.out;omega
        have hpb:(mo=true∨okb=false)→pot (g.terms.length+1) g.top w5 xs3<pot (g.terms.length+1) g.top wr xs':=fun h=>by
         have h2:=HPD.out;rcases h with h | h
         ·have h3:=hmo3 h;have h1:=HP2.out.1;omega
         ·have h3:=HP2.out.2 h;omega
        obtain ⟨HI3,HF,HS5,HL3⟩:=Zh4 (show i<xs3.length by omega) (gS hcx3 (gS hpa (gS hpb (gS hB5 (gS h85 hmm5))))) (HS.out _ hB5 h85) hl3;clear hl3 hcx3 hpt3 hmo3 hbb3 hmem3 hc3 hB5 h85 hmm5 hpa hpb hpost;dsimp only;cases mo
        case true=>
         refine hK.out _ _ ?_ (fun hHeld=>?_)
         ·exact HS5.out
         clear hK K;try simp only [Act.put,gD,gE,gF]
         refine aE.one (i:=15) (by kernel_rfl) rfl fun K hK=>?_;simp only [gA,gB,gC]
         go_simp
         refine hK.out _ _ ?_ (fun hHeld=>?_)
         ·exact HS5.out
         clear hK K;try simp only [Act.put,gD,gE,gF]
         refine aE.one (i:=16) (by kernel_rfl) rfl fun K hK=>?_;simp only [gA,gB,gC]
         go_simp
         refine hK.out _ _ ?_ (fun hHeld=>?_)
         ·exact HS5.out
         clear hK K;try simp only [Act.put,gD,gE,gF]
         refine aE.one (i:=17) (by kernel_rfl) rfl fun K hK=>?_;simp only [gA,gB,gC]
         go_simp
         refine hK.out _ _ ?_ (fun hHeld=>?_)
         ·exact HS5.out
         clear hK K;try simp only [Act.put,gD,gE,gF]
         refine aE.one (i:=18) (by kernel_rfl) rfl fun K hK=>?_;simp only [gA,gB,gC]
         go_simp
         refine hK.out _ _ ?_ (fun hHeld=>?_)
         ·exact HS5.out
         clear hK K;try simp only [Act.put,gD,gE,gF]
         refine aE.done (by kernel_rfl) ?_ _;obtain ⟨v6,w6',hrun,hq6,hc6,_⟩:=HF.out.1.que.push (i:Int) (by have h1:=HPR.out;have h2:=HTL.out;omega) (gP (by have:=HBC.out.size;exact gO _) HF.out.2.2.2.1.size);obtain ⟨hcx6,hpp⟩:=HF.out.1.wait (i:=i) HI3.out hq6 hc6 g.top;obtain ⟨g6,o6,c6,rfl,_⟩:=hq6.shape;have hB6:Below w.heap.size w w6':=HF.out.2.2.2.1.trans (hc6.below (fun k e=>(HF.out.1.que.tb e).1) HF.out.2.2.2.1.size);have h86:=(hc6.same b8 (gL HF.out.2.2.2.2.1).1 (fun e=>TB.ne (T:=303) (T':=3) ⟨_,HF.out.2.2.2.2.1⟩ (HF.out.1.que.tb e).2 (by decide) rfl)).trans HF.out.2.2.2.2.1;rw [gI,gZ] at hrun hcx6;have hme:2*pot (g.terms.length+1) g.top w6' xs3+(T'++[(i:Int)]).length<m':=by
          have h1:=HF.out.2.2.1 (.inl rfl);have h2:=HPR.out;rw [hpp,gI,gZ];omega
         have HG:=Ha (gS hcx6 (gS hme (gS hB6 h86)));clear hq6 hc6 hcx6 hpp hme hB6 h86;go_wp2_with fail
         go_roundw
         case rel=>exact ⟨j+1,xs3,T'++[(i:Int)],hlt,by go_num,HG.out.1,HG.out.2.1,HG.out.2.2.1,HG.out.2.2.2,HOX.out,HF.out.2.2.2.2.2⟩
         case measure=>simp only [intOf];omega
        case false=>
         cases okb
         case false=>
          refine hK.out _ _ ?_ (fun hHeld=>?_)
          ·exact HS5.out
          clear hK K;try simp only [Act.put,gD,gE,gF]
          refine aE.one (i:=15) (by kernel_rfl) rfl fun K hK=>?_;simp only [gA,gB,gC]
          go_simp
          refine hK.out _ _ ?_ (fun hHeld=>?_)
          ·exact HS5.out
          clear hK K;try simp only [Act.put,gD,gE,gF]
          refine aE.one (i:=16) (by kernel_rfl) rfl fun K hK=>?_;simp only [gA,gB,gC]
          go_simp
          refine hK.out _ _ ?_ (fun hHeld=>?_)
          ·exact HS5.out
          clear hK K;try simp only [Act.put,gD,gE,gF]
          refine aE.one (i:=17) (by kernel_rfl) rfl fun K hK=>?_;simp only [gA,gB,gC]
          go_simp
          refine hK.out _ _ ?_ (fun hHeld=>?_)
          ·exact HS5.out
          clear hK K;try simp only [Act.put,gD,gE,gF]
          refine aE.one (i:=18) (by kernel_rfl) rfl fun K hK=>?_;simp only [gA,gB,gC]
          go_simp
          refine hK.out _ _ ?_ (fun hHeld=>?_)
          ·exact HS5.out
          clear hK K;try simp only [Act.put,gD,gE,gF]
          refine aE.done (by kernel_rfl) ?_ _;obtain ⟨v6,w6',hrun,hq6,hc6,_⟩:=HF.out.1.que.push (i:Int) (by have h1:=HPR.out;have h2:=HTL.out;omega) (gP (by have:=HBC.out.size;exact gO _) HF.out.2.2.2.1.size);obtain ⟨hcx6,hpp⟩:=HF.out.1.wait (i:=i) HI3.out hq6 hc6 g.top;obtain ⟨g6,o6,c6,rfl,_⟩:=hq6.shape;have hB6:Below w.heap.size w w6':=HF.out.2.2.2.1.trans (hc6.below (fun k e=>(HF.out.1.que.tb e).1) HF.out.2.2.2.1.size);have h86:=(hc6.same b8 (gL HF.out.2.2.2.2.1).1 (fun e=>TB.ne (T:=303) (T':=3) ⟨_,HF.out.2.2.2.2.1⟩ (HF.out.1.que.tb e).2 (by decide) rfl)).trans HF.out.2.2.2.2.1;rw [gI,gZ] at hrun hcx6;have hme:2*pot (g.terms.length+1) g.top w6' xs3+(T'++[(i:Int)]).length<m':=by
           have h1:=HF.out.2.2.1 (.inr rfl);have h2:=HPR.out;rw [hpp,gI,gZ];omega
          have HG:=Ha (gS hcx6 (gS hme (gS hB6 h86)));clear hq6 hc6 hcx6 hpp hme hB6 h86;go_wp2_with fail
          go_roundw
          case rel=>exact ⟨j+1,xs3,T'++[(i:Int)],hlt,by go_num,HG.out.1,HG.out.2.1,HG.out.2.2.1,HG.out.2.2.2,HOX.out,HF.out.2.2.2.2.2⟩
          case measure=>simp only [intOf];omega
         case true=>
          refine hK.out _ _ ?_ (fun hHeld=>?_)
          ·exact HS5.out
          clear hK K;try simp only [Act.put,gD,gE,gF]
          refine aE.one (i:=15) (by kernel_rfl) rfl fun K hK=>?_;simp only [gA,gB,gC]
          go_simp
          refine hK.out _ _ ?_ (fun hHeld=>?_)
          ·exact HS5.out
          clear hK K;try simp only [Act.put,gD,gE,gF]
          refine aE.one (i:=16) (by kernel_rfl) rfl fun K hK=>?_;simp only [gA,gB,gC]
          go_simp
          refine hK.out _ _ ?_ (fun hHeld=>?_)
          ·exact HS5.out
          clear hK K;try simp only [Act.put,gD,gE,gF]
          refine aE.one (i:=17) (by kernel_rfl) rfl fun K hK=>?_;simp only [gA,gB,gC]
          go_simp
          refine hK.out _ _ ?_ (fun hHeld=>?_)
          ·exact HS5.out
          clear hK K;try simp only [Act.put,gD,gE,gF]
          refine aE.one (i:=18) (by kernel_rfl) rfl fun K hK=>?_;simp only [gA,gB,gC]
          go_simp
          refine hK.out _ _ ?_ (fun hHeld=>?_)
          ·exact HS5.out
          clear hK K;try simp only [Act.put,gD,gE,gF]
          refine aE.done (by kernel_rfl) ?_ _;go_wp2_with fail
          go_roundw
          case rel=>exact ⟨j+1,xs3,T',hlt,by go_num,HF.out.1,by have h1:=HF.out.2.1;have h2:=HPR.out;omega,HF.out.2.2.2.1,HF.out.2.2.2.2.1,HOX.out,HF.out.2.2.2.2.2⟩
          case measure=>simp only [intOf];omega
 ·intro hp;go_wp2_with fail
  with_reducible refine Calls.mono HSET.out ?_
  rintro e w3 ⟨⟨b,bw,X,rfl,hb,hbw,hset⟩,hb3⟩;have hB3:Below w.heap.size w w3:=HB2.out.trans (hb3.mono HB2.out.size);have hb4:Below w3.heap.size w3 (w3.alloc (.cells #[.int .i64 s,.pointer (some ⟨b,0,none⟩),.bool true] 303)):=(gR _ _).alloc (gO _) _;have q4:=aC w3 (.cells #[.int .i64 s,.pointer (some ⟨b,0,none⟩),.bool true] 303);generalize hW4:w3.alloc (.cells #[.int .i64 s,.pointer (some ⟨b,0,none⟩),.bool true] 303)=w4 at *;have hq5:=Qr.one (B:=w.heap.size) (w:=w4) 0 (hB3.trans (hb4.mono hB3.size)).size;have hb5:Below w4.heap.size w4 (w4.alloc (.cells #[.int .i64 0] 3)):=(gR _ _).alloc (gO _) _;generalize hW5:w4.alloc (.cells #[.int .i64 0] 3)=w5 at *;have hb35:Below w3.heap.size w3 w5:=hb4.trans (hb5.mono hb4.size);have hB5:Below w.heap.size w w5:=hB3.trans (hb35.mono hB3.size);have q5:w5.heap[w3.heap.size]? = some (.cells #[.int .i64 s,.pointer (some ⟨b,0,none⟩),.bool true] 303 (0,0)):=(hb5.block _ (gL q4).1).trans q4;have hrow:aG w.heap.size 303 3 eL w5 (.slice (some ⟨w3.heap.size,0,none⟩) 1 1) [(s,(b,bw),true)]:=
   ⟨[[.int .i64 s,.pointer (some ⟨b,0,none⟩),.bool true]],⟨⟨rfl,rfl⟩,trivial⟩,rfl,.inr ⟨w3.heap.size,1,_,rfl,hB3.size,q5,gO _,by unfold maxLen;omega,rfl,rfl⟩⟩
  have HCX:=Ha (Cx.start (g:=g) (n:=(g.terms.length+1)) (bmap:=w.heap.size) HNN.out hrow (by have:=HB2.out.size;omega) (by have:=HB2.out.size;omega) (hset.below hb35) ((HM2.out.below hb3).below hb35) (by simp) hq5 hB5.size (gO _));have HB5:=Ha hB5;clear hb hbw hset hb3 hB3 hb4 q4 hq5 hb5 hb35 hB5 q5 hrow;go_wp2_with fail
  go_step3
  rename_i hK;exact hK _ _ (hp _ _ _ ⟨_,_,_,_,exf _ _ rfl,HCX.out,rfl,FW hn31 htp,HB5.out⟩)
end
theorem rL:(Tryz.prog.info? 26).map (fun i=>(i.zero,i.size,i.bytes))=some (some (.slice none 0 0),1,24):=by kernel_rfl
theorem BO:(Tryz.prog.info? 297).map (fun i=>(i.zero,i.size,i.bytes))=some (some (.slice none 0 0),1,24):=by kernel_rfl
theorem r4 (m:Nat):madeCells #[Value.slice none 0 0] (m*1)=Array.replicate m (.slice none 0 0):=by
 refine Array.ext (by simp [madeCells]) fun i h1 h2=>?_;simp [madeCells,Nat.mod_one]
theorem E8 (w:World) {m:Nat} (hm:m≤1000):(Instr.makeSlice 92 (.int .i64 (m:Int)) (.int .i64 (m:Int))).run Tryz.prog w=.ok (.slice (some ⟨w.heap.size,0,none⟩) m m) (w.alloc (.cells (Array.replicate m (.slice none 0 0)) 26)):=by
 obtain ⟨i0,hi0,hz0,hz1,hz2⟩:=info_parts rL;have h:=run_make (P:=Tryz.prog) w 92 26 i0 _ Tryz.underlying92 hi0 hz0 .i64 .i64 (m:Int) (m:Int) (by omega) (Int.le_refl _) (by rw [hz2];omega) (by omega);rw [hz1,yB] at h;rw [← r4];exact h
theorem E7 (w:World) {m:Nat} (hm:m≤1000):(Instr.makeSlice 244 (.int .i64 (m:Int)) (.int .i64 (m:Int))).run Tryz.prog w=.ok (.slice (some ⟨w.heap.size,0,none⟩) m m) (w.alloc (.cells (Array.replicate m (.slice none 0 0)) 297)):=by
 obtain ⟨i0,hi0,hz0,hz1,hz2⟩:=info_parts BO;have h:=run_make (P:=Tryz.prog) w 244 297 i0 _ Tryz.underlying244 hi0 hz0 .i64 .i64 (m:Int) (m:Int) (by omega) (Int.le_refl _) (by rw [hz2];omega) (by omega);rw [hz1,yB] at h;rw [← r4];exact h
structure Rl (B:Nat) (F:Nat→Prop) (w:World) (bR m:Nat) (vs:List Value) (R:Nat→List Int):Prop where
 row:w.heap[bR]? = some (.cells vs.toArray 26 (0,0))
 len:vs.length=m
 ints:∀ t (h:t<vs.length),aX B w vs[t] (R t)
 own:∀ t (h:t<vs.length) k,vs[t].ownBlock=some k→¬F k
 apart:∀ t t' (h:t<vs.length) (h':t'<vs.length) k,vs[t].ownBlock=some k→vs[t'].ownBlock=some k→t=t'
theorem Rl.push {B:Nat} {F:Nat→Prop} {w:World} {bR m:Nat} {vs:List Value} {R:Nat→List Int} (h:Rl B F w bR m vs R) {t:Nat} (ht:t<vs.length) (x:Int) (hlen:(R t).length≤1000) (hB:B≤w.heap.size) (hF:∀ k,F k→k<w.heap.size):
  ∃ v' w',WrA Tryz.prog #[26,26] 26 #[vs[t],.slice (some ⟨w.heap.size,0,none⟩) 1 1] (w.alloc (.cells #[.int .i64 x] 3))=.ok v' w'∧w'.heap[bR]? = w.heap[bR]? ∧ Chg (fun k=>vs[t].ownBlock=some k) w w'∧
   ∀ w'',w''.heap[bR]? = some (.cells (vs.set t v').toArray 26 (0,0))→(∀ k,k≠bR→k<w'.heap.size→w''.heap[k]? = w'.heap[k]?)→Rl B F w'' bR m (vs.set t v') (fun t'=>if t'=t then R t++[x] else R t'):=by
 obtain ⟨v',w',hrun,hr,hc,how⟩:=aG.pushC 26 Tryz.underlying26 cB rfl (by decide) cF.one 26 (us:=[.int .i64 x]) (x:=x) rfl rfl (h.ints t ht) (by omega) (by unfold maxLen;omega) hB;have hTR:TB 26 w bR:=⟨_,h.row⟩;have hne:∀ {k},TB 3 w k→k≠bR:=fun hk=>hk.ne hTR (by decide);have hR:w'.heap[bR]? = w.heap[bR]? := hc.same bR hTR.lt fun e=>hne ((h.ints t ht).tb e).2 rfl;refine ⟨v',w',hrun,hR,hc,fun w'' h1 h2=>⟨h1,by rw [List.length_set];exact h.len,fun t' ht'=>?_,fun t' ht' k hk=>?_,fun t1 t2 ht1 ht2 k hk1 hk2=>?_⟩⟩
 ·have ht2:t'<vs.length:=by simpa using ht'
  by_cases e:t'=t
  ·subst e;rw [List.getElem_set_self,if_pos rfl];refine aG.keep hr fun k hk=>?_;have hT:=(aG.tb hr hk).2;exact h2 k (hT.ne ⟨_,hR.trans h.row⟩ (by decide)) hT.lt
  ·rw [List.getElem_set_ne (Ne.symm e),if_neg e];refine aG.keep (h.ints t' ht2) fun k hk=>?_;have hT:=((h.ints t' ht2).tb hk).2;have e1:w'.heap[k]? = w.heap[k]? := hc.same k hT.lt fun e2=>e (h.apart t' t ht2 ht k hk e2);exact (h2 k (hne hT) (gK hT.lt hc.size)).trans e1
 ·have ht2:t'<vs.length:=by simpa using ht'
  by_cases e:t'=t
  ·subst e;rw [List.getElem_set_self] at hk;rcases how with hw | hw
   ·exact h.own t' ht2 k (hw▸hk)
   ·rw [hw] at hk
    injection hk with hk
    intro hf;have:=hF k hf;omega
  ·rw [List.getElem_set_ne (Ne.symm e)] at hk;exact h.own t' ht2 k hk
 ·have h3:t1<vs.length:=by simpa using ht1
  have h4:t2<vs.length:=by simpa using ht2
  have key:∀ t' (ht':t'<vs.length),t'≠t→vs[t'].ownBlock=some k→v'.ownBlock=some k→False:=fun t' ht' e hk hv=>by
   rcases how with hw | hw
   ·exact e (h.apart t' t ht' ht k hk (hw▸hv))
   ·rw [hw] at hv
    injection hv with hv
    have:=((h.ints t' ht').tb hk).2.lt;omega
  by_cases e1:t1=t <;> by_cases e2:t2=t
  ·rw [e1,e2]
  ·subst e1;rw [List.getElem_set_self] at hk1;rw [List.getElem_set_ne (Ne.symm e2)] at hk2;exact (key t2 h4 e2 hk2 hk1).elim
  ·subst e2;rw [List.getElem_set_self] at hk2;rw [List.getElem_set_ne (Ne.symm e1)] at hk1;exact (key t1 h3 e1 hk1 hk2).elim
  ·rw [List.getElem_set_ne (Ne.symm e1)] at hk1;rw [List.getElem_set_ne (Ne.symm e2)] at hk2;exact h.apart t1 t2 h3 h4 k hk1 hk2
theorem Rl.lt {B:Nat} {F:Nat→Prop} {w:World} {bR m:Nat} {vs:List Value} {R:Nat→List Int} (h:Rl B F w bR m vs R) {t:Nat} (ht:t<vs.length) {k:Nat} (hk:vs[t].ownBlock=some k):B≤k∧TB 3 w k∧k≠bR:=
 ⟨((h.ints t ht).tb hk).1,((h.ints t ht).tb hk).2,((h.ints t ht).tb hk).2.ne ⟨_,h.row⟩ (by decide)⟩
theorem Rl.on {B:Nat} {F F':Nat→Prop} {w w':World} {bR m:Nat} {vs:List Value} {R:Nat→List Int} (h:Rl B F w bR m vs R) (hR:w'.heap[bR]? = w.heap[bR]?) (hk:∀ t (ht:t<vs.length) k,vs[t].ownBlock=some k→w'.heap[k]? = w.heap[k]?) (hF:∀ k,F' k→F k∨w.heap.size≤k):Rl B F' w' bR m vs R:=
 ⟨hR.trans h.row,h.len,fun t ht=>aG.keep (h.ints t ht) fun k hk'=>hk t ht k hk',fun t ht k hk' hf=>by
  rcases hF k hf with e | e
  ·exact h.own t ht k hk' e
  ·have:=(h.lt ht hk').2.1.lt;omega,h.apart⟩
theorem Rl.grow {B:Nat} {F F':Nat→Prop} {w w':World} {bR m:Nat} {vs:List Value} {R:Nat→List Int} (h:Rl B F w bR m vs R) (hb:Below w.heap.size w w') (hF:∀ k,F' k→F k∨w.heap.size≤k):Rl B F' w' bR m vs R:=
 h.on (hb.block _ (gL h.row).1) (fun _ ht k hk=>hb.block k (h.lt ht hk).2.1.lt) hF
theorem Rl.made (B:Nat) (F:Nat→Prop) {w:World} {bR:Nat} (m:Nat) (hr:w.heap[bR]? = some (.cells (Array.replicate m (.slice none 0 0)) 26 (0,0))):Rl B F w bR m (List.replicate m (.slice none 0 0)) fun _=>[]:=by
 refine ⟨by rw [hr,List.toArray_replicate],by simp,fun t ht=>?_,fun t ht k hk=>?_,fun t t' ht ht' k hk _=>?_⟩
 ·rw [List.getElem_replicate];exact aG.nil _ _ _ _ _
 ·rw [List.getElem_replicate] at hk;simp [Value.ownBlock] at hk
 ·rw [List.getElem_replicate] at hk;simp [Value.ownBlock] at hk
theorem Rl.slAt {B:Nat} {F:Nat→Prop} {w:World} {bR m:Nat} {vs:List Value} {R:Nat→List Int} (h:Rl B F w bR m vs R) (hm:m≤maxLen):aH (· < w.heap.size) w 1 (bJ fun v (t:Nat)=>aF (· < w.heap.size) w v (R t)) (.slice (some ⟨bR,0,none⟩) m m) (List.range m):=by
 have hlt:=(gL h.row).1;have hl:=h.len;refine ⟨some ⟨bR,0,none⟩,m,by rw [yG],by rw [yG];exact gO _,hm,fun h0=>⟨bR,0,rfl,hlt,fun i hi=>?_⟩⟩;have hi':i<vs.length:=by rw [hl];simpa using hi
 refine ⟨[vs[i]],rfl,⟨_,rfl, ?_⟩,fun j u hu=>?_⟩
 ·rw [List.getElem_range];exact aG.look (h.ints i hi') fun k hk=>(h.lt hi' hk).2.1.lt
 ·cases j with
  | succ j=>simp at hu
  | zero=>
   injection hu with hu
   subst hu;rw [show 0+i*1+0=i by omega];refine aA h.row i _ ?_;simp [hi']
end Go.Proofs.YtpidmmfjcghmeaaGreat
