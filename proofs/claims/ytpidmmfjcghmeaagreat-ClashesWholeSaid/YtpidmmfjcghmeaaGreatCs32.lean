/- Towards clashesWhole_upto. -/
import Derived.Test.YtpidmmfjcghmeaaGreatCs31
set_option maxRecDepth 100000
set_option maxHeartbeats 16000000
set_option linter.all false
namespace Go.Proofs.YtpidmmfjcghmeaaGreat
open Go.RowKit
section
attribute [local go_sem ↓] aI
theorem EJ (G:Nat→Prop) (w:World) (b0 c:Nat) (l:List Int) (hG:∀ k,G k→k<w.heap.size) (hl:aF G w (.slice (some ⟨b0,0,none⟩) l.length c) l) (hll:l.length≤1000000):
  Calls Tryz.prog 111 #[.slice (some ⟨b0,0,none⟩) l.length c] w fun e w'=>(∃ A c',e=.returned (.slice A l.length c')∧aF (TB 3 w') w' (.slice A l.length c') l)∧Below w.heap.size w w':=by
 have q1:=aC w (.cells #[] 3);have hb1:Below w.heap.size w (w.alloc (.cells #[] 3)):=(gR _ _).alloc (gO _) _;generalize hW1:w.alloc (.cells #[] 3)=w1 at *;have hr1:aG w.heap.size 3 1 cF w1 (.slice (some ⟨w.heap.size,0,none⟩) 0 0) []:=⟨[],trivial,rfl,.inr ⟨_,0,#[],rfl,gO _,q1,gO _,gX _,rfl,rfl⟩⟩;obtain ⟨v',w3,hrun,hr3,hc3,_⟩:=aG.addC 26 Tryz.underlying26 cB rfl (by decide) cF.one 26 hr1 (aF.below hG hb1 hl) (by simp;omega) (by unfold maxLen;simp;omega) hb1.size;have hb3:Below w.heap.size w w3:=hb1.trans (hc3.below (fun k e=>(aG.tb hr1 e).1) hb1.size);rw [List.nil_append] at hr3;have hlk:=aG.look hr3 (G:=TB 3 w3) fun k hk=>(aG.tb hr3 hk).2;obtain ⟨A,c',rfl,_⟩:=aG.shape hr3;have HF:=Ha (gS hlk hb3);clear q1 hb1 hr1 hr3 hc3 hb3 hlk hl hG;have q31:∀ (w:World) (a:Option Addr) (n c:Nat),(binOp .eql 26 (.slice a n c) (.slice none 0 0)).run Tryz.prog w=.ok (.bool a.isNone) w:=fun w a n c=>Lib.run_eql_slice_nil w 26 3 a n c 0 0 Tryz.underlying26;go_enter Tryz.func111,Tryz.ntmps111;go_wp2_with fail;go_ret;exact ⟨⟨A,c',rfl,HF.out.1⟩,HF.out.2⟩
end
open Go.Sort Go.Shelf
section
variable {w w':World} {br bW n:Nat} {W:Nat→Option (List Int)} {V:Nat→Value} {vw:Value}
theorem Ro.tb (h:Ro w br bW n W V vw):TB 26 w bW:=by
 obtain ⟨cs,h1,_⟩:=h.row;exact ⟨cs,h1⟩
theorem iH {T:TypeId} {b o k c:Nat} {l:List Int} (h:aF (TB T w) w (.slice (some ⟨b,o,none⟩) k c) l) (hk:0<k→TB T w b→w'.heap[b]? = w.heap[b]?):aF (TB T w') w' (.slice (some ⟨b,o,none⟩) k c) l:=by
 obtain ⟨A,c',h1,h2,h3,h4⟩:=h;refine ⟨A,c',h1,h2,h3,fun hn=>?_⟩;obtain ⟨b',off,h5,h6,h7⟩:=h4 hn
 injection h1 with e1 e3 _
 rw [h5] at e1
 injection e1 with e1
 injection e1 with e1 e2
 subst e1;have hb:=hk (by omega) h6;refine ⟨b,off,h5,h6.of_eq hb,fun i hi=>?_⟩;obtain ⟨vs,h8,h9,h10⟩:=h7 i hi;exact ⟨vs,h8,h9,fun j u hj=>(gM hb).trans (h10 j u hj)⟩
theorem Ro.keepC {P:Nat→Prop} (h:Ro w br bW n W V vw) (hc:Chg P w w') (h1:¬P br) (h2:¬P bW) (h3:∀ i,i<n→∀ b k c,V i=.slice (some ⟨b,0,none⟩) k c→0<k→TB 3 w b→¬P b):Ro w' br bW n W V vw:=
 ⟨(hc.same _ (gL h.box).1 h1).trans h.box,h.row.of_block (hc.same _ h.tb.lt h2),fun i hi=>by
  have h4:=h.its i hi;cases hW:W i with
  | none=>rw [hW] at h4;exact h4
  | some l=>
   rw [hW] at h4;obtain ⟨b,c,h5,h6⟩:=h4;refine ⟨b,c,h5, ?_⟩;rw [h5] at h6 ⊢;exact iH h6 fun hp ht=>hc.same _ ht.lt (h3 i hi b _ c h5 hp ht)⟩
theorem Ro.put (h:Ro w br bW n W V vw) {t b:Nat} (ht:t<n) {l:List Int} {c:Nat} (hl:aF (TB 3 w) w (.slice (some ⟨b,0,none⟩) l.length c) l):
  Ro (w.setCell ⟨bW,t,none⟩ (.slice (some ⟨b,0,none⟩) l.length c)) br bW n (g4 W t l) (fun i=>if i=t then .slice (some ⟨b,0,none⟩) l.length c else V i) vw:=by
 have hne:∀ k,k≠bW→(w.setCell ⟨bW,t,none⟩ (.slice (some ⟨b,0,none⟩) l.length c)).heap[k]? = w.heap[k]? := fun k hk=>gU _ _ _ _ hk;refine ⟨(hne _ fun e=>TB.ne (T:=96) ⟨_,h.box⟩ h.tb (by decide) e).trans h.box,h.row.set _ _,fun i hi=>?_⟩;unfold g4;by_cases e:i=t
 ·subst e;simp only [if_pos];exact ⟨b,c,rfl,iH hl fun _ hT=>hne _ fun e=>hT.ne h.tb (by decide) e⟩
 ·simp only [if_neg e];have h4:=h.its i hi;cases hW:W i with
  | none=>rw [hW] at h4;exact h4
  | some l'=>
   rw [hW] at h4;obtain ⟨b',c',h5,h6⟩:=h4;refine ⟨b',c',h5, ?_⟩;rw [h5] at h6 ⊢;exact iH h6 fun _ hT=>hne _ fun e=>hT.ne h.tb (by decide) e
def nnW (w:World) (bW n:Nat):Nat:=dY (fun i=>match w.cell? ⟨bW,i,none⟩ with
 | some (.slice none _ _)=>1
 | _=>0) n
theorem Ro.meas (h:Ro w br bW n W V vw):nnW w bW n=cnW W n:=jM n fun i hi=>by
 have h1:=h.row.cell hi;have h4:=h.its i hi;rw [h1];cases hW:W i with
 | none=>rw [hW] at h4;simp only at h4;rw [h4];rfl
 | some l=>
  rw [hW] at h4;obtain ⟨b,c,h5,h6⟩:=h4;rw [h5];rfl
theorem Ro.nil? (h:Ro w br bW n W V vw) {t:Nat} (ht:t<n):(W t=none∧V t=.slice none 0 0)∨∃ l b c,W t=some l∧V t=.slice (some ⟨b,0,none⟩) l.length c∧aF (TB 3 w) w (.slice (some ⟨b,0,none⟩) l.length c) l:=by
 have h4:=h.its t ht;cases hW:W t with
 | none=>rw [hW] at h4;exact .inl ⟨rfl,h4⟩
 | some l=>
  rw [hW] at h4;obtain ⟨b,c,h5,h6⟩:=h4;rw [h5] at h6;exact .inr ⟨l,b,c,rfl,h5,h6⟩
end
theorem GA (W:Nat→List Int):SWO (ltOf fun x y:Nat=>bZ (W x) (W y)) where
 irrefl x:=by unfold ltOf;simp [oD]
 trans x y z h1 h2:=by unfold ltOf at *;simp only [decide_eq_true_eq] at *;exact mC _ _ _ h1 h2
 ntrans x y z h1 h2:=by unfold ltOf at *;simp only [decide_eq_false_iff_not] at *;exact kF _ _ _ h1 h2
def nF (n:Nat) (x:Nat):Value:=.int .i64 ((x % n:Nat):Int)
theorem lX:∀ {us:List (List Value)} {xs:List Int},cZ 1 cF us xs→us.flatten=xs.map (Value.int .i64)
 | [],[],_=>rfl
 | [],_::_,h=>h.elim
 | _::_,[],h=>h.elim
 | vs::us,x::xs,h=>by
  have e:vs=_:=h.1.2;rw [List.flatten_cons,lX h.2,e];rfl
theorem rH:∀ (xs:List Int),cZ 1 cF (xs.map fun x=>[Value.int .i64 x]) xs
 | []=>trivial
 | _::xs=>⟨⟨rfl,rfl⟩,rH xs⟩
theorem jW:∀ (xs:List Int),(xs.map fun x=>[Value.int .i64 x]).flatten=xs.map (Value.int .i64)
 | []=>rfl
 | x::xs=>by rw [List.map_cons,List.flatten_cons,jW xs];rfl
theorem H9 {w:World} {g n:Nat} {cur:Array Value} {e:TypeId} {l:List Int} (hb:w.heap[g]? = some (.cells cur e (0,0))) (ht:cur.toList.take l.length=l.map (Value.int .i64)) (hbd:∀ x∈l,0≤x∧x<n):Holds (nF n) w g 0 (l.map Int.toNat).toArray:=by
 intro j hj;have hj':j<l.length:=by simpa using hj
 refine ⟨?_,by simp [World.frozen?,hb]⟩;have h1:(cur.toList.take l.length)[j]? = (l.map (Value.int .i64))[j]? := by rw [ht]
 rw [List.getElem?_take_of_lt hj'] at h1;have h2:=hbd l[j] (gN hj');simp only [World.cell?,hb,Nat.zero_add];simp only [Option.isSome_none,Bool.false_eq_true,if_false];rw [← Array.getElem?_toList,h1];simp only [List.getElem?_map,List.getElem?_eq_getElem hj',Option.map_some,nF];rw [getElem!_pos _ j hj];simp only [gA,List.getElem_map];rw [Nat.mod_eq_of_lt (by omega)]
 congr 2
 omega
theorem pN {α:Type} {enc:α→Value} {w:World} {g n:Nat} {os:Array Obj} {cur:Array Value} {e:TypeId} {fr:Nat×Nat} (d:Array α) [Inhabited α] (hb:w.heap[g]? = some (.cells cur e fr)):
  (grow (putRow enc (Sort.ahead w n) g 0 d) os).heap[g]? = some (.cells (putCells enc 0 d cur) e fr):=by
 have hg:g<w.heap.size:=(gL hb).1;rw [heap_grow_old _ _ (by simpa using hg)];simp [putRow,mapBlock,Sort.ahead,Array.getElem?_modify,hb,onCells]
theorem fG {α:Type} [Inhabited α] {enc:α→Value} {w:World} {g n:Nat} {os:Array Obj} (d:Array α):w.grownBy (grow (putRow enc (Sort.ahead w n) g 0 d) os) (some g):=by
 refine ⟨rfl,rfl,rfl,by simp,fun k hk hne=>?_⟩;rw [heap_grow_old _ _ (by simpa using hk)];have:g≠k:=fun e=>hne (by rw [e]);simp [putRow,mapBlock,Sort.ahead,Array.getElem?_modify,this]
theorem mS {α:Type} [Inhabited α] {enc:α→Value} (cur:Array Value) (d:Array α) (h:d.size≤cur.size):(putCells enc 0 d cur).toList.take d.size=d.toList.map enc:=by
 apply List.ext_getElem?;intro j;by_cases hj:j<d.size
 ·rw [List.getElem?_take_of_lt hj,Array.getElem?_toList];simp [putCells,hj,show j<cur.size by omega]
 ·rw [List.getElem?_take_eq_none (by omega),List.getElem?_eq_none (by simp;omega)]
theorem tX {B g cap n:Nat} {w:World} {l:List Int} (h:aG B 3 1 cF w (.slice (some ⟨g,0,none⟩) l.length cap) l) (hbd:∀ x∈l,0≤x∧x<n) (hl:l.length≤1000000000) {f:Nat} {cb:Array Value} (cf:Nat→Nat→Int) (hO:SWO (ltOf cf))
  (eg:∀ args w,(callFunc f args).run Tryz.prog w=.ok (.enter f args) w) (hcmp:CmpLays1 Tryz.prog f cb (nF n) cf g 0 l.length w):
  Calls Tryz.prog 48 #[.slice (some ⟨g,0,none⟩) l.length cap,.func (.func f) #[] cb] w fun e w'=>e=.returned (.tuple #[])∧
   ∃ r,r.length=l.length∧aG B 3 1 cF w' (.slice (some ⟨g,0,none⟩) l.length cap) r∧(∀ x,x∈r↔x∈l)∧w.grownBy w' (some g):=by
 obtain ⟨us,hf,hul,ho⟩:=h;rcases ho with ⟨hv,_⟩ | ⟨g',cap',cur,hv,hB,hh,hc,hm,hcs,ht⟩
 ·cases hv
 obtain ⟨rfl,rfl⟩:g=g'∧cap=cap':=by injection hv with e1 _ e2;injection e1 with e1;injection e1 with e1;exact ⟨e1,e2⟩
 rw [lX hf,Nat.mul_one] at ht;obtain ⟨d,hd⟩:∃ d:Array Nat,d=(l.map Int.toNat).toArray:=⟨_,rfl⟩;have hds:d.size=l.length:=by rw [hd];simp
 have hold:Holds (nF n) w g 0 d:=by rw [hd];exact H9 hh ht hbd
 rw [← hds] at hcmp;have hcon:=Any.slices_SortFunc Try.ShInt (nF n) (fun x=>rfl) cf hO f cb g 0 cap d w eg hcmp hold (gL hh).1 (by omega);rw [hds] at hcon;refine hcon.mono fun e w' hp=>?_;obtain ⟨he,d',m,os,hperm,_,hw⟩:=hp;subst hw;have hsz:d'.size=l.length:=by rw [← hds];exact hperm.1
 have hpm:d'.toList.Perm d.toList:=by
  have h1:=hperm.2.2;have e1:d.extract 0 l.length=d:=by rw [← hds];exact Array.extract_size
  have e2:d'.extract 0 l.length=d':=by rw [← hsz];exact Array.extract_size
  rwa [e1,e2] at h1
 have hlt:∀ x∈d'.toList,∃ y∈l,y.toNat=x:=fun x hx=>by
  have:=hpm.mem_iff.1 hx;rw [hd] at this
  simpa using this
 have hmap:d'.toList.map (nF n)=(d'.toList.map fun (x:Nat)=>(x:Int)).map (Value.int .i64):=by
  rw [List.map_map];refine List.map_congr_left fun x hx=>?_;obtain ⟨y,hy,rfl⟩:=hlt x hx;have:=hbd y hy;show Value.int .i64 ((y.toNat % n:Nat):Int)=_;rw [Nat.mod_eq_of_lt (by omega)];rfl
 refine ⟨he,d'.toList.map fun (x:Nat)=>(x:Int),by simp [hsz],⟨_,rH _, ?_,.inr ⟨g,cap,putCells (nF n) 0 d' cur, ?_,hB,pN d' hh, ?_,hm,by simp [putCells,hcs], ?_⟩⟩,fun x=>?_,fG d'⟩
 ·rw [jW];simp
 ·simp [hsz]
 ·simp [hsz];exact hc
 ·rw [jW,← hmap];have:=mS (enc:=nF n) cur d' (by omega)
  simpa using this
 ·rw [List.mem_map];constructor
  ·rintro ⟨y,hy,rfl⟩;obtain ⟨z,hz,rfl⟩:=hlt y hy;have:=hbd z hz
   rwa [show ((z.toNat:Nat):Int)=z by omega]
  ·intro hx;have:=hbd x hx;refine ⟨x.toNat,hpm.mem_iff.2 ?_,by omega⟩;rw [hd]
   simpa using ⟨x,hx,rfl⟩
end Go.Proofs.YtpidmmfjcghmeaaGreat
namespace Go.Proofs.YtpidmmfjcghmeaaGreat
open Go.RowKit
section
attribute [local go_sem ↓] aI
theorem sZ (w:World):
  Calls Tryz.prog 111 #[.slice none 0 0] w fun e w'=>e=.returned (.slice none 0 0)∧w'=w:=by
 have q31:∀ (w:World) (a:Option Addr) (n c:Nat),(binOp .eql 26 (.slice a n c) (.slice none 0 0)).run Tryz.prog w=.ok (.bool a.isNone) w:=fun w a n c=>Lib.run_eql_slice_nil w 26 3 a n c 0 0 Tryz.underlying26;go_enter Tryz.func111,Tryz.ntmps111;go_wp2_with fail;go_ret;exact ⟨rfl,rfl⟩
def wayL (W:Nat→Option (List Int)) (i:Nat):List Int:=(W i).getD []
def oZ (W:Nat→Option (List Int)) (i:Nat) (w:World) (e:Ending) (w':World):Prop:=
 (∃ A c,e=.returned (.tuple #[.slice A (wayL W i).length c,.bool true])∧aF (TB 3 w') w' (.slice A (wayL W i).length c) (wayL W i))∧Below w.heap.size w w'
theorem JX (w:World) (br bW n:Nat) (W:Nat→Option (List Int)) (V:Nat→Value) (vw:Value) (i:Nat) (h:Ro w br bW n W V vw) (hi:i<n) (hl:∀ j l,W j=some l→l.length≤1000000):
  Calls Tryz.prog 51 #[.pointer (some ⟨br,0,none⟩),.int .i64 i] w fun e w'=>oZ W i w e w':=by
 have HR:=Ha (IT w br bW n W V vw h);have y0:=aA h.box 0 _ rfl;have z0:=h.row.cell hi;have hit:=h.its i hi;unfold oZ wayL;rcases hW:W i with _ | l
 ·rw [hW] at hit;simp only at hit;rw [hit] at z0;have HC:=Ha (sZ w);clear hit h hl hW;go_enter Tryz.func51,Tryz.ntmps51;go_wp2_with fail;refine (HR.out).mono ?_;rintro e w1 ⟨rfl,rfl⟩;go_wp2_with fail;refine (HC.out).mono ?_;rintro e w2 ⟨rfl,rfl⟩;go_wp2_with fail;refine bodyPost_ret (v:=.tuple #[.slice none 0 0,.bool true]) (by simp [results,Tryz.results51,go_sem]) rfl ?_;exact ⟨⟨none,0,rfl,none,0,rfl,gO _,gX _,fun h=>absurd h (Nat.lt_irrefl 0)⟩,gR _ _⟩
 ·rw [hW] at hit;obtain ⟨b,c,hv,hat⟩:=hit;rw [hv] at z0 hat;have HC:=Ha (EJ (TB 3 w) w b c l (fun _ h=>h.lt) hat (hl i l hW));clear hat h hl hW hv;go_enter Tryz.func51,Tryz.ntmps51;go_wp2_with fail;refine (HR.out).mono ?_;rintro e w1 ⟨rfl,rfl⟩;go_wp2_with fail;refine (HC.out).mono ?_;rintro e w2 ⟨⟨A,c',rfl,hat⟩,hb⟩;have HF:=Ha (gS hat hb);clear hat hb;go_wp2_with fail;refine bodyPost_ret (v:=.tuple #[.slice A l.length c',.bool true]) (by simp [results,Tryz.results51,go_sem]) rfl ?_;exact ⟨⟨A,c',rfl,HF.out.1⟩,HF.out.2⟩
end
open Go.Sort Go.Shelf
theorem Ro.way {w:World} {br bW n:Nat} {W:Nat→Option (List Int)} {V:Nat→Value} {vw:Value} (h:Ro w br bW n W V vw) {i:Nat} (hi:i<n):∃ A c,V i=.slice A (wayL W i).length c∧aF (TB 3 w) w (.slice A (wayL W i).length c) (wayL W i):=by
 unfold wayL;rcases h.nil? hi with ⟨h1,h2⟩ | ⟨l,b,c,h1,h2,h3⟩
 ·rw [h1];exact ⟨none,0,h2,aH.nil0⟩
 ·rw [h1];exact ⟨_,c,h2,h3⟩
theorem I4 (w:World) (br bW bx n:Nat) (W:Nat→Option (List Int)) (V:Nat→Value) (vw:Value) (x y:Nat) (h:Ro w br bW n W V vw) (hb:w.heap[bx]? = some (.cells #[.pointer (some ⟨br,0,none⟩)] 42 (0,0))) (hx:x<n) (hy:y<n):
  Calls Tryz.prog 49 #[.int .i64 x,.int .i64 y,.pointer (some ⟨bx,0,none⟩)] w fun e w'=>e=.returned (.int .i64 (bZ (wayL W x) (wayL W y)))∧w'=w.drew:=by
 obtain ⟨Ax,cx,hvx,hax⟩:=h.way hx;obtain ⟨Ay,cy,hvy,hay⟩:=h.way hy;have z0:=aA hb 0 _ rfl;have y0:=aA h.box 0 _ rfl;have zx:=h.row.cell hx;have zy:=h.row.cell hy;rw [hvx] at zx;rw [hvy] at zy;have HC:=Ha (GI (TB 3 w) (TB 3 w) w.drew Ax Ay cx cy (wayL W x) (wayL W y) hax hay);generalize wayL W x=a at *;generalize wayL W y=b at *;have hx0:(0:Int)≤(x:Int):=by omega
 have hy0:(0:Int)≤(y:Int):=by omega
 have hxn:(x:Int)<(n:Int):=by omega
 have hyn:(y:Int)<(n:Int):=by omega
 clear h hb hvx hvy hax hay;go_enter Tryz.func49,Tryz.ntmps49;go_wp2_with fail;refine aE.start 15 (fun X=>X.cell? ⟨bx,0,none⟩=some (.pointer (some ⟨br,0,none⟩))∧X.cell? ⟨br,0,none⟩=some (.slice (some ⟨bW,0,none⟩) n n)∧X.cell? ⟨bW,x,none⟩=some (.slice Ax a.length cx)∧X.cell? ⟨bW,y,none⟩=some (.slice Ay b.length cy)) (by kernel_rfl) ?hs_1 (fun hHeld=>?hr_1)
 case hs_1=>exact ⟨z0,y0,zx,zy⟩
 refine aE.tks [0,1,2,3,4,5,6,7,8,9,10,11,12,13] ?_ (by kernel_rfl) (by assumption)
 iterate 14
  refine aK.cons ?_ (by rfl) (by rfl) (by intro w h;(try dsimp only at h);simp only [gA,gB,gC];go_simp;try with_reducible rfl) (by exact fun _ _ _ h=>h);simp only [gA,gB,gC,Act.put,gD,gE,gF]
 show aE _ _ _ _ _ _ _ _ _ _;refine aE.one (i:=14) (by kernel_rfl) rfl fun K hK=>?_;simp only [gA,gB,gC]
 go_simp
 with_reducible refine Calls.mono HC.out ?_
 rintro e w1 ⟨rfl,rfl⟩;dsimp only;refine hK.out _ _ ?_ (fun hHeld=>?_)
 ·exact ⟨z0,y0,zx,zy⟩
 clear hK K;try simp only [Act.put,gD,gE,gF]
 refine aE.last (by kernel_rfl) rfl fun K hK=>?_;simp only [gA,gB,gC]
 go_simp
 refine hK.out _ _ (aE.done (by kernel_rfl) ?_ _);go_wp2_with fail;go_ret;exact ⟨rfl,rfl⟩
theorem yQ {B br bW bx n:Nat} {w:World} {v:Value} {l:List Int} {W:Nat→Option (List Int)} {V:Nat→Value} {vw:Value} (h:aG B 3 1 cF w v l) (hbd:∀ x∈l,0≤x∧x<n) (hn:0<n) (hl:l.length≤1000000000) (hr:Ro w br bW n W V vw) (hb:w.heap[bx]? = some (.cells #[.pointer (some ⟨br,0,none⟩)] 42 (0,0)))
  (hap:∀ i,i<n→∀ b k c,V i=.slice (some ⟨b,0,none⟩) k c→0<k→v.ownBlock≠some b):
  Calls Tryz.prog 48 #[v,.func (.func 49) #[] #[.pointer (some ⟨bx,0,none⟩)]] w fun e w'=>e=.returned (.tuple #[])∧
   ∃ r,r.length=l.length∧aG B 3 1 cF w' v r∧(∀ x,x∈r↔x∈l)∧Chg (fun k=>v.ownBlock=some k) w w':=by
 obtain ⟨A,c,rfl,_⟩:=h.shape;by_cases h0:l.length=0
 ·obtain rfl:l=[]:=yM h0;refine (AnyF.slices_SortFunc_none { Try.ShInt with } A c _ w).mono ?_;rintro e w' ⟨rfl,rfl⟩;exact ⟨rfl,[],rfl,h,fun _=>Iff.rfl,Chg.refl _ _⟩
 ·obtain ⟨g,hA⟩:∃ g,A=some ⟨g,0,none⟩:=by
   obtain ⟨us,hf,hul,ho⟩:=h;rcases ho with ⟨e,_⟩ | ⟨g,cap,cur,e,_⟩
   ·injection e with _ e _;omega
   ·injection e with e _ _;exact ⟨g,e⟩
  subst hA;have hgT:TB 3 w g:=(h.tb rfl).2;have eg:∀ args w,(callFunc 49 args).run Tryz.prog w=.ok (.enter 49 args) w:=enters_of Tryz.func49 (by kernel_rfl) rfl;refine (tX h hbd hl (fun x y:Nat=>bZ (wayL W (x % n)) (wayL W (y % n))) (GA fun x=>wayL W (x % n)) eg (cb:=#[.pointer (some ⟨bx,0,none⟩)]) ?_).mono ?_
  ·intro m os dk _ x y;have hgr:=fG (enc:=nF n) (w:=w) (g:=g) (n:=m) (os:=os) dk;have hc:Chg (fun k=>k=g) w (sortWorld (nF n) w g 0 m dk os):=(Chg.refl _ w).grown hgr fun k e _=>by injection e with e;exact e.symm
   have hbxT:TB 42 w bx:=⟨_,hb⟩;have hr2:=hr.keepC hc (fun e=>TB.ne (T:=96) ⟨_,hr.box⟩ hgT (by decide) e) (fun e=>hr.tb.ne hgT (by decide) e) fun i hi b k c e hp _ e2=>hap i hi b k c e hp (by rw [e2];rfl);have hb2:=(hc.same bx hbxT.lt fun e=>hbxT.ne hgT (by decide) e).trans hb;refine (I4 _ br bW bx n W V vw (x % n) (y % n) hr2 hb2 (Nat.mod_lt _ hn) (Nat.mod_lt _ hn)).mono ?_;rintro e w' ⟨rfl,rfl⟩;exact ⟨rfl,1,#[],by rw [grow_empty];rfl⟩
  ·rintro e w' ⟨rfl,r,h1,h2,h3,h4⟩;exact ⟨rfl,r,h1,h2,h3,(Chg.refl _ w).grown h4 fun k e _=>e⟩
end Go.Proofs.YtpidmmfjcghmeaaGreat
namespace Go.Proofs.YtpidmmfjcghmeaaGreat
open Go.RowKit
def lE (F:Nat→Fd) (m:Nat) (l:List Int) (w:World) (e:Ending) (w':World):Prop:=
 (∃ A c,e=.returned (.tuple #[.slice A (jn F m l).2.2.length c,.bool ((jn F m l).1 && !(jn F m l).2.1)])∧aF (TB 3 w') w' (.slice A (jn F m l).2.2.length c) (jn F m l).2.2∧aG w.heap.size 3 1 cF w' (.slice A (jn F m l).2.2.length c) (jn F m l).2.2)∧Below w.heap.size w w'
theorem DT (w:World) (br bW n bw bF m:Nat) (W:Nat→Option (List Int)) (V:Nat→Value) (F:Nat→Fd) (VF:Nat→Value) (i:Nat) (h:Ro w br bW n W V (.pointer (some ⟨bw,0,none⟩))) (hwo:Wo w w.heap.size bw bF m F VF) (hi:i<n) (hl:∀ j l,W j=some l→l.length≤1000000):
  Calls Tryz.prog 16 #[.pointer (some ⟨br,0,none⟩),.int .i64 i] w fun e w'=>lE F m (wayL W i) w e w':=by
 have HWY:=JX w br bW n W V (.pointer (some ⟨bw,0,none⟩)) i h hi hl;unfold oZ at HWY;generalize wayL W i=l at *;obtain ⟨HY,HR,HO⟩:=Zh3 HWY h hwo;clear h hwo hl hi HWY;go_enter Tryz.func16,Tryz.ntmps16;go_wp2_with fail
 with_reducible refine Calls.mono HY.out ?_
 rintro e w1 ⟨⟨A,c,rfl,hat⟩,hb⟩;have HWL:=Ha (GB (TB 3 w1) w1 bw bF m F VF A c l ((HO.out.below hb).more hb.size) (fun _ h=>h.lt) hat);have HB:=Ha hb;have y1:=aA (HR.out.below hb).box 1 _ rfl;clear hat hb HR HO HY;go_wp2_with fail
 with_reducible refine Calls.mono HWL.out ?_
 rintro e w2 ⟨⟨A2,c2,rfl,hat,hnr⟩,hb⟩;have HF:=Ha (show aF (TB 3 w2) w2 (.slice A2 (jn F m l).2.2.length c2) (jn F m l).2.2∧Below w.heap.size w w2∧aG w.heap.size 3 1 cF w2 (.slice A2 (jn F m l).2.2.length c2) (jn F m l).2.2 from ⟨aH.keep hat (fun _ h=>h.2) (fun _ _=>rfl) fun _ _ h=>h,HB.out.trans (hb.mono HB.out.size),aG.lower hnr HB.out.size⟩);obtain ⟨bb,hbb⟩:∃ bb,bb=((jn F m l).1 && !(jn F m l).2.1):=⟨_,rfl⟩;obtain ⟨nn,hnn⟩:∃ nn,nn=(jn F m l).2.2.length:=⟨_,rfl⟩;rw [← hbb,← hnn];have HE:=Ha (gS hbb hnn);clear hat hnr hb HWL hbb hnn;go_wp2_with fail;refine bodyPost_ret (v:=.tuple #[.slice A2 nn c2,.bool bb]) (by simp [results,Tryz.results16,go_sem]) rfl ?_;refine ⟨⟨A2,c2,by rw [HE.out.1,HE.out.2],HF.out.1,HF.out.2.2⟩,HF.out.2.1⟩
section
attribute [local go_sem ↓] aI
def yV (F:Nat→Fd) (m:Nat) (l:List Int) (t:Int):List Int×Bool:=
 if ((jn F m l).1 && !(jn F m l).2.1)=false∨t=0 then ((jn F m l).2.2,(jn F m l).1 && !(jn F m l).2.1) else ((jn F m l).2.2++[t],true)
def o0 (F:Nat→Fd) (m:Nat) (l:List Int) (t:Int) (w:World) (e:Ending) (w':World):Prop:=
 (∃ A c,e=.returned (.tuple #[.slice A (yV F m l t).1.length c,.bool (yV F m l t).2])∧aF (TB 3 w') w' (.slice A (yV F m l t).1.length c) (yV F m l t).1)∧Below w.heap.size w w'
theorem qJ {w w':World} {wl:List Int×Bool} {u:List Int} {b:Bool} {A0:Option Addr} {c0:Nat} (h:wl=(u,b)) (hi:aF (TB 3 w') w' (.slice A0 u.length c0) u) (hb:Below w.heap.size w w'):
  (∃ A c,Ending.returned (.tuple #[.slice A0 u.length c0,.bool b])=.returned (.tuple #[.slice A wl.1.length c,.bool wl.2])∧aF (TB 3 w') w' (.slice A wl.1.length c) wl.1)∧Below w.heap.size w w':=by
 subst h;exact ⟨⟨A0,c0,rfl,hi⟩,hb⟩
theorem yW (w:World) (br bW n bw bF m:Nat) (W:Nat→Option (List Int)) (V:Nat→Value) (F:Nat→Fd) (VF:Nat→Value) (i:Nat) (t ka na kb nb:Int) (h:Ro w br bW n W V (.pointer (some ⟨bw,0,none⟩))) (hwo:Wo w w.heap.size bw bF m F VF) (hi:i<n) (hl:∀ j l,W j=some l→l.length≤1000000) (hlen:(jn F m (wayL W i)).2.2.length≤4096):
  Calls Tryz.prog 17 #[.pointer (some ⟨br,0,none⟩),.agg #[.int .i64 i,.int .i64 t,.int .i64 ka,.int .i64 na,.int .i64 kb,.int .i64 nb]] w fun e w'=>o0 F m (wayL W i) t w e w':=by
 have q1:=aC w (.cells #[.int .i64 i,.int .i64 t,.int .i64 ka,.int .i64 na,.int .i64 kb,.int .i64 nb] 50);have hb1:Below w.heap.size w (w.alloc (.cells #[.int .i64 i,.int .i64 t,.int .i64 ka,.int .i64 na,.int .i64 kb,.int .i64 nb] 50)):=(gR _ _).alloc (gO _) _;generalize hW1:w.alloc (.cells #[.int .i64 i,.int .i64 t,.int .i64 ka,.int .i64 na,.int .i64 kb,.int .i64 nb] 50)=w1 at *;have hT:=DT w1 br bW n bw bF m W V F VF i (h.below hb1) ((hwo.below hb1).more hb1.size) hi hl;unfold lE at hT;unfold o0 yV;generalize jn F m (wayL W i)=R at *;obtain ⟨ok,lg,u⟩:=R;simp only at hT hlen ⊢;obtain ⟨HT,HB1,HQ1⟩:=Zh3 hT hb1 q1;obtain ⟨bb,hbb⟩:∃ bb,bb=(ok && !lg):=⟨_,rfl⟩;rw [← hbb] at HT ⊢;obtain ⟨wl,hwl⟩:∃ wl,wl=(if bb=false∨t=0 then (u,bb) else (u++[t],true)):=⟨_,rfl⟩;rw [← hwl];have HWL:=Ha hwl;clear hwl;have y0:=aA q1 0 _ rfl;clear h hwo hl hT hb1 q1 hbb;go_enter Tryz.func17,Tryz.ntmps17;go_wp2_with fail
 with_reducible refine Calls.mono HT.out ?_
 rintro e w2 ⟨⟨A,c,rfl,hat,hnr⟩,hb⟩;have y1:=aA ((hb.block _ (gL HQ1.out).1).trans HQ1.out) 1 _ rfl;have HF:=Ha (gS hat (HB1.out.trans (hb.mono HB1.out.size)));have HNR:=Ha (aG.lower hnr HB1.out.size);clear hat hnr hb HT y0;cases bb
 ·go_wp2_with fail;refine bodyPost_ret (v:=.tuple #[.slice A u.length c,.bool false]) (by simp [results,Tryz.results17,go_sem]) rfl ?_;exact qJ (HWL.out.trans (by simp)) HF.out.1 HF.out.2
 by_cases h0:t=0
 ·subst h0;go_wp2_with fail;refine bodyPost_ret (v:=.tuple #[.slice A u.length c,.bool true]) (by simp [results,Tryz.results17,go_sem]) rfl ?_;exact qJ (HWL.out.trans (by simp)) HF.out.1 HF.out.2
 ·obtain ⟨v',w3,hrun0,hr3,hc3,_⟩:=aG.pushC 26 Tryz.underlying26 cB rfl (by decide) cF.one 26 (us:=[.int .i64 t]) (x:=t) rfl rfl HNR.out (by omega) (by unfold maxLen;omega) HF.out.2.size;obtain ⟨A3,c3,rfl,_⟩:=aG.shape hr3;have HF3:=Ha (gS (aG.look hr3 (G:=TB 3 w3) fun k hk=>(aG.tb hr3 hk).2) (HF.out.2.trans (hc3.below (fun k e=>(aG.tb HNR.out e).1) HF.out.2.size)));have hrun:WrA Tryz.prog #[26,26] 26 #[.slice A u.length c,.slice (some ⟨w2.heap.size,0,none⟩) 1 1] (w2.alloc (.cells #[.int .i64 t] 3))=.ok (.slice A3 (u++[t]).length c3) w3:=hrun0;obtain ⟨ut,hLN⟩:∃ ut,ut=u++[t]:=⟨_,rfl⟩;rw [← hLN] at hrun HF3;have HE:=Ha (show wl=(ut,true) from by rw [HWL.out,hLN];simp [h0]);clear hr3 hc3 HF HNR hLN hrun0;go_wp2_with fail;refine bodyPost_ret (v:=.tuple #[.slice A3 ut.length c3,.bool true]) (by simp [results,Tryz.results17,go_sem]) rfl ?_;exact qJ HE.out HF3.out.1 HF3.out.2
end
end Go.Proofs.YtpidmmfjcghmeaaGreat
