/- Towards clashesWhole_upto. -/
import Derived.Test.YtpidmmfjcghmeaaGreatCs29
import Derived.Test.YtpidmmfjcghmeaaGreatCs27
set_option maxRecDepth 100000
set_option maxHeartbeats 16000000
set_option linter.all false
namespace Go.Proofs.YtpidmmfjcghmeaaGreat
open Go.RowKit
section
attribute [local go_sem ↓] aI
def Pt (g:Gm) (P:Itm→Prop) (L:Nat→List Itm):Prop:=∀ (s:Nat) (y:Itm),y∈L s↔1≤s∧∃ x,P x∧g.nxt x=(s:Int)∧y=(x.1,x.2+1)
theorem Pt.start (g:Gm):Pt g (fun _=>False) fun _=>[]:=fun s y=>⟨(fun h=>by cases h),fun ⟨_,_,h,_⟩=>h.elim⟩
theorem Pt.put {g:Gm} {P:Itm→Prop} {L:Nat→List Itm} (h:Pt g P L) (x:Itm):Pt g (fun z=>P z∨z=x) (g7 g L x):=fun s y=>by
 unfold g7;by_cases e:1≤g.nxt x∧(s:Int)=g.nxt x
 ·rw [if_pos e,List.mem_append,h s y,gV];constructor
  ·rintro (⟨h1,z,h2,h3⟩ | rfl)
   ·exact ⟨h1,z,.inl h2,h3⟩
   ·exact ⟨by omega,x,.inr rfl,e.2.symm,rfl⟩
  ·rintro ⟨h1,z,h2 | rfl,h3⟩
   ·exact .inl ⟨h1,z,h2,h3⟩
   ·exact .inr h3.2
 ·rw [if_neg e,h s y];constructor
  ·rintro ⟨h1,z,h2,h3⟩;exact ⟨h1,z,.inl h2,h3⟩
  ·rintro ⟨h1,z,h2 | rfl,h3⟩
   ·exact ⟨h1,z,h2,h3⟩
   ·exact absurd ⟨by omega,h3.1.symm⟩ e
theorem Pt.conv {g:Gm} {P Q:Itm→Prop} {L:Nat→List Itm} (h:Pt g P L) (he:∀ x,P x↔Q x):Pt g Q L:=fun s y=>by
 rw [h s y];simp only [he]
theorem sN (g:Gm) (L:Nat→List Itm) (x:Itm) (s:Nat):(g7 g L x s).length≤(L s).length+1:=by
 unfold g7
 split
 ·rw [gI];simp
 ·omega
theorem Pt.succ {g:Gm} {k r:List Itm} {L:Nat→List Itm} {s:Nat} (h:Pt g (g.Clo (· ∈ k)) L) (h1:r.Pairwise bL) (h2:∀ x,x∈r↔x∈L s):g.succK k (s:Int)=r:=
 Gm.succK_eq h1 fun y=>by
  rw [h2,h s y];unfold Gm.Gos;constructor
  ·rintro ⟨h3,x,h4,h5,h6⟩;exact ⟨by omega,x,h4,h5,h6⟩
  ·rintro ⟨h3,x,h4,h5,h6⟩;exact ⟨by omega,x,h4,h5,h6⟩
structure Be (G:Nat→Prop) (b rb m:Nat) (A0:Option Addr) (c0:Nat) (A1:Option Addr) (c1:Nat) (A2:Option Addr) (c2:Nat) (g:Gm) (v6 v7 v8:Value) (w:World) (F:Nat→Value):Prop where
 box:w.heap[b]? = some (.cells #[.slice A0 g.terms.length c0,.slice A1 g.nons.length c1,.slice A2 g.rules.length c2,.int .i64 g.start,.slice (some ⟨rb,0,none⟩) m m,v6,v7,v8] 171 (0,0))
 row:w.rowIs rb 97 m F
 its:∀ i:Nat,g.terms.length<i→i<m→∃ n c l,F i=.slice n (l:List Itm).length c∧l.length≤100000∧aR (TB 250 w) w (F i) l∧∀ y,y∈l↔g.LcI (i:Int) y
 gb:GBox G w b A0 c0 A1 c1 A2 c2 g
section
variable {G:Nat→Prop} {B b bb bo ro rb m:Nat} {A0 A1 A2:Option Addr} {c0 c1 c2:Nat} {g:Gm} {v6 v7 v8:Value} {w w' w3:World} {F FB:Nat→Value} {L:Nat→List Itm} {s:Nat}
theorem Be.keep (h:Be G b rb m A0 c0 A1 c1 A2 c2 g v6 v7 v8 w F) (hs:w.heap.size≤w'.heap.size) (h1:w'.heap[b]? = w.heap[b]?) (h2:w'.heap[rb]? = w.heap[rb]?) (h3:∀ k,TB 250 w k→w'.heap[k]? = w.heap[k]?) (h4:∀ k,G k→w'.heap[k]? = w.heap[k]?):Be G b rb m A0 c0 A1 c1 A2 c2 g v6 v7 v8 w' F:=
 ⟨h1.trans h.box,h.row.of_block h2,fun i hi1 hi2=>by
  obtain ⟨n,c,l,e,h5,h6,h7⟩:=h.its i hi1 hi2;exact ⟨n,c,l,e,h5,aH.keepT h6 h3,h7⟩,h.gb.again hs (fun _ _=>gM h1) h4⟩
theorem Be.below (h:Be G b rb m A0 c0 A1 c1 A2 c2 g v6 v7 v8 w F) (hb:Below w.heap.size w w'):Be G b rb m A0 c0 A1 c1 A2 c2 g v6 v7 v8 w' F:=
 h.keep hb.size (hb.block _ h.gb.lt) (hb.block _ h.row.lt) (fun _ hk=>hb.block _ hk.lt) fun k hk=>hb.block _ (h.gb.old k hk)
theorem So.repl (h:So G B b bb bo ro m A0 c0 A1 c1 A2 c2 g w F L) (hs:s<m) {v':Value} {r:List Itm} (hr:Its B w3 v' r) (hc:Chg (fun k=>(F s).ownBlock=some k) w w3) (how:v'.ownBlock=(F s).ownBlock):
  So G B b bb bo ro m A0 c0 A1 c1 A2 c2 g (w3.setCell ⟨ro,s,none⟩ v') (fun t=>if t=s then v' else F t) (fun t=>if t=s then r else L t)∧w3.rowIs ro 97 m F∧w3.heap[bo]? = w.heap[bo]? := by
 have hT:∀ {i},(F s).ownBlock=some i→B≤i∧TB 250 w i:=fun e=>(h.its s hs).tb e;have h3:∀ i,i<w.heap.size→(F s).ownBlock≠some i→w3.heap[i]? = w.heap[i]? := fun i hi hn=>hc.same i hi hn;have hbs:=h.gB;have hro3:=h.row.of_block (h3 ro h.row.lt fun e=>(hT e).2.ne h.tro (by decide) rfl);have hbo3:=h3 bo (gL h.box).1 fun e=>(hT e).2.ne (T':=169) ⟨_,h.box⟩ (by decide) rfl;have hbb3:=h3 bb (gL h.bbx).1 fun e=>(hT e).2.ne (T':=167) ⟨_,h.bbx⟩ (by decide) rfl;have hT3:TB 97 w3 ro:=by
  obtain ⟨cs,h1,_⟩:=hro3;exact ⟨cs,h1⟩
 have hne:∀ i,i≠ro→(w3.setCell ⟨ro,s,none⟩ v').heap[i]? = w3.heap[i]? := fun i hi=>gU _ _ _ _ hi;have hbor:bo≠ro:=fun e=>TB.ne (T:=169) ⟨_,hbo3.trans h.box⟩ hT3 (by decide) e;have hbbr:bb≠ro:=fun e=>TB.ne (T:=167) ⟨_,hbb3.trans h.bbx⟩ hT3 (by decide) e;have hold:∀ i,i<B→(w3.setCell ⟨ro,s,none⟩ v').heap[i]? = w.heap[i]? := fun i hi=>(hne i (by omega)).trans (h3 i (by have:=h.size;omega) fun e=>by have:=(hT e).1;omega);refine ⟨⟨(hne _ hbbr).trans (hbb3.trans h.bbx),(hne _ hbor).trans (hbo3.trans h.box),hro3.set _ _,fun t ht=>?_,fun t u ht hu htu i hi=>?_,h.gb.again (by simpa using hc.size) (fun i _=>gM (hold b hbs.1)) (fun i hi=>hold i (hbs.2.2.2.2 i hi)),hbs⟩,hro3,hbo3⟩
 ·by_cases e:t=s
  ·simp only [if_pos e];exact aG.keep hr fun i hi=>hne i fun e=>(hr.tb hi).2.ne hT3 (by decide) e
  ·simp only [if_neg e];exact aG.keep (h.its t ht) fun i hi=>(hne i fun e2=>((h.its t ht).tb hi).2.ne h.tro (by decide) e2).trans (h3 i ((h.its t ht).tb hi).2.lt fun e2=>h.apart t s ht hs e i hi e2)
 ·have e1:∀ t,(if t=s then v' else F t).ownBlock=(F t).ownBlock:=fun t=>by
   by_cases e:t=s
   ·rw [if_pos e,how,e]
   ·rw [if_neg e]
  simp only [e1] at hi ⊢;exact h.apart t u ht hu htu i hi
end
theorem So.map {G:Nat→Prop} {B b bb bo ro m:Nat} {A0 A1 A2:Option Addr} {c0 c1 c2:Nat} {g:Gm} {w w':World} {F:Nat→Value} {L:Nat→List Itm} {mp:Nat} (h:So G B b bb bo ro m A0 c0 A1 c1 A2 c2 g w F L) (hc:Chg (· = mp) w w') (hm:∀ T,¬TB T w mp) (hB:B≤mp):So G B b bb bo ro m A0 c0 A1 c1 A2 c2 g w' F L:=by
 have hk:∀ T i,TB T w i→w'.heap[i]? = w.heap[i]? := fun T i hi=>hc.same i hi.lt fun e=>hm T (e▸hi);exact ⟨(hk _ _ ⟨_,h.bbx⟩).trans h.bbx,(hk _ _ ⟨_,h.box⟩).trans h.box,h.row.of_block (hk _ _ h.tro),fun s hs=>aG.keep (h.its s hs) fun i hi=>hk _ _ ((h.its s hs).tb hi).2,h.apart,h.gb.again hc.size (fun _ _=>gM (hc.same b h.gb.lt fun e=>by have:=h.gB.1;omega)) (fun i hi=>hc.same i (h.gb.old i hi) fun e=>by have:=h.gB.2.2.2.2 i hi;omega),h.gB⟩
theorem oM {g:Gm} (hk:g.Known) (x:Itm):0≤g.nxt x∧g.nxt x≤g.top:=by
 unfold Gm.nxt;rw [List.getD_eq_getElem?_getD];by_cases h:x.2.toNat<(g.rightAt x.1.toNat).length
 ·rw [List.getElem?_eq_getElem h];have h1:=Gm.right_sym hk x.1.toNat _ (gN h);have:=Gm.mem_T_le h1;exact ⟨fO h1,by simp only [Option.getD_some];omega⟩
 ·rw [List.getElem?_eq_none (by omega)];exact ⟨Int.le_refl _,by simp⟩
def jT (g:Gm) (k:List Itm) (m:Nat) (w:World) (e:Ending) (w':World):Prop:=
 (∃ ro F,e=.returned (.slice (some ⟨ro,0,none⟩) m m)∧w.heap.size≤ro∧w'.rowIs ro 97 m F∧∀ s,s<m→Its w.heap.size w' (F s) (g.succK k (s:Int)))∧Below w.heap.size w w'
theorem F8 (G G2:Nat→Prop) (w:World) (b rb m:Nat) (A0 c0 A1 c1 A2 c2) (g:Gm) (v6 v7 v8:Value) (FB:Nat→Value) (A:Option Addr) (c:Nat) (k:List Itm) (h:Be G b rb m A0 c0 A1 c1 A2 c2 g v6 v7 v8 w FB) (hm:m=g.top+1) (hl:g.top≤240) (hk:g.Known) (hG2:∀ i,G2 i→i<w.heap.size) (hkat:aR G2 w (.slice A k.length c) k) (hok:∀ x∈k,g.Ok x) (hrl:∀ r∈g.rules,r.2.length≤8) (hr:g.rules.length≤300) (hkl:k.length≤3000):
  Calls Tryz.prog 103 #[.pointer (some ⟨b,0,none⟩),.slice A k.length c] w fun e w'=>jT g k m w e w':=by
 have H3:=jN G;have H4:=mF G;unfold ag at H3 H4;have HT:=Ha H3;have HNN:=Ha H4;have hmm:=@run_makeMap Tryz.prog;have hb1:Below w.heap.size w (w.alloc (.cells #[.pointer (some ⟨b,0,none⟩)] 167)):=(gR _ _).alloc (gO _) _;have q1:=aC w (.cells #[.pointer (some ⟨b,0,none⟩)] 167);have hz1:(w.alloc (.cells #[.pointer (some ⟨b,0,none⟩)] 167)).heap.size=w.heap.size+1:=by simp
 generalize hW1:w.alloc (.cells #[.pointer (some ⟨b,0,none⟩)] 167)=wb at *;obtain ⟨HBB,HQ1,HB1,HKA,HG2,HOK,HK,HM,HH⟩:=Zh9 (h.below hb1) q1 hb1 hkat hG2 hok hk hm h;have hml:m≤241:=by omega
 have hlm:=(aH.len hkat).2;have y0:=aA q1 0 _ rfl;obtain ⟨x0,x1,x2,x3⟩:=HBB.out.gb.cells;clear h hb1 q1 hkat hG2 hok hk hm H3 H4;go_enter Tryz.func103,Tryz.ntmps103;go_wp2_with fail;refine (HT.out _ _ g HBB.out.gb.old HBB.out.gb.gm (by omega)).mono ?_;rintro e w1 ⟨rfl,hb2⟩;have HB2:=Ha (show Below w.heap.size w w1 from HB1.out.trans (hb2.mono HB1.out.size));have HQ2:=Ha ((hb2.block _ (gL HQ1.out).1).trans HQ1.out);have HBE:=Ha (HBB.out.below hb2);have hm1:IntKind.i64.wrap ((g.top:Int)+1)=(m:Int):=by rw [HM.out];exact IntWalk.i64_in _ (by omega)
 have hmk:=run_make_row' (P:=Tryz.prog) 169 97 (.slice none 0 0) 24 Tryz.underlying169 oA rfl .i64 .i64 m (by omega) (by omega) w1;have hrow:=World.rowIs_made w1 (.slice none 0 0) m 97;have hb3:Below w1.heap.size w1 (w1.alloc (.cells (madeCells #[.slice none 0 0] m) 97)):=(gR _ _).alloc (gO _) _;have hz3:(w1.alloc (.cells (madeCells #[.slice none 0 0] m) 97)).heap.size=w1.heap.size+1:=by simp
 generalize hW2:w1.alloc (.cells (madeCells #[.slice none 0 0] m) 97)=w2 at *;have hb4:Below w2.heap.size w2 (w2.alloc (.cells #[.slice (some ⟨w1.heap.size,0,none⟩) m m] 169)):=(gR _ _).alloc (gO _) _;have q4:=aC w2 (.cells #[.slice (some ⟨w1.heap.size,0,none⟩) m m] 169);have hz4:(w2.alloc (.cells #[.slice (some ⟨w1.heap.size,0,none⟩) m m] 169)).heap.size=w2.heap.size+1:=by simp
 generalize hW4:w2.alloc (.cells #[.slice (some ⟨w1.heap.size,0,none⟩) m m] 169)=w4 at *;have hb14:Below w1.heap.size w1 w4:=hb3.trans (hb4.mono hb3.size);have hb5:Below w4.heap.size w4 (w4.alloc (.map #[] 0)):=(gR _ _).alloc (gO _) _;have hmade:=MG.made (κ:=Int) (kT:=3) (eT:=4) (kl:=Lit.int .i64) (el:=Lit.bool) (z0:=false) w4;generalize hW5:w4.alloc (.map #[] 0)=w5 at *;have hb15:Below w1.heap.size w1 w5:=hb14.trans (hb5.mono hb14.size);have HB5:=Ha (show Below w.heap.size w w5 from HB2.out.trans (hb15.mono HB2.out.size));have HBE5:=Ha (HBE.out.below hb15);have HMM:=Ha hmade;have HSZ:=Ha (show w.heap.size<w1.heap.size∧w2.heap.size=w1.heap.size+1∧w4.heap.size=w1.heap.size+2 from ⟨by have:=hb2.size;omega,hz3,by omega⟩);have HSO:=Ha (show So G w.heap.size b w.heap.size w2.heap.size w1.heap.size m A0 c0 A1 c1 A2 c2 g w5 (fun _=>.slice none 0 0) (fun _=>[]) from
  ⟨(hb15.block _ (gL HQ2.out).1).trans HQ2.out,(hb5.block _ (gL q4).1).trans q4,bK (bK hrow hb4) hb5,fun s _=>aG.nil _ _ _ _ _,fun _ _ _ _ _ k hk=>by simp [Value.ownBlock] at hk,HBE5.out.gb,HH.out.gb.lt,by have:=HB2.out.size;omega,HB2.out.size,gO _,fun i hi=>HH.out.gb.old i hi⟩)
 clear hb2 hrow hb3 hb4 q4 hb14 hb5 hmade hb15 hz3 hz4;go_wp2_with fail;generalize hBg:w.heap.size=B at *;generalize hbo:w2.heap.size=bo at *;generalize hro:w1.heap.size=ro at *;generalize hmp:w4.heap.size=mp at *;have hmr:mp≠ro:=by have:=HSZ.out;omega
 have HMR:=Ha hmr
 go_loopw [25] (fun iv wr=>∃ (p:Nat) (F:Nat→Value) (L:Nat→List Itm) (M:List Int),p≤k.length∧iv=.int .i64 p∧So G B b B bo ro m A0 c0 A1 c1 A2 c2 g wr F L∧Pt g (fun x=>x∈k.take p∨∃ t∈M,g.LcI t x) L∧MG 3 4 (Lit.int .i64) Lit.bool false wr mp (mkF M) M.length∧M.length≤p∧(∀ t,t∈M↔g.N t∧∃ z∈k.take p,g.nxt z=t)∧(∀ s,(L s).length≤p*100001)∧Below B w wr) (fun iv _=>k.length-(intOf iv).toNat)
 case atStart=>exact ⟨0,_,_,[],by omega,rfl,HSO.out,(Pt.start g).conv fun x=>by simp,HMM.out.conv fun x=>by simp [mkF],by simp,fun t=>by simp,fun s=>by simp,HB5.out⟩
 case round=>
  obtain ⟨p,F,L,M,hp,rfl,hso,hpt,hmg,hml2,hM,hL,hbw⟩:=hrel;obtain ⟨HS,HP,HMG,HMI,HLL,HBW⟩:=Zh6 hso hpt hmg hM hL hbw;clear hso hpt hmg hM hL hbw HSO HMM HBE5 x0 x1 x2 x3 y0;by_cases hlt:p<k.length
  ·have hbeq:Below w.heap.size w wr:=by rw [hBg];exact HBW.out
   obtain ⟨bk,ok,rfl,_,z0,z1⟩:=aR.at_ (HKA.out.below (by rw [hBg];exact HG2.out) hbeq) hlt;have hxok:=HOK.out _ (gN hlt);obtain ⟨r,hr'⟩:∃ r:Nat,k[p].1=(r:Int):=⟨k[p].1.toNat,by unfold Gm.Ok at hxok;omega⟩;obtain ⟨d,hd'⟩:∃ d:Nat,k[p].2=(d:Int):=⟨k[p].2.toNat,by unfold Gm.Ok at hxok;omega⟩;have hxe:k[p]=((r:Int),(d:Int)):=Prod.ext hr' hd';rw [hr'] at z0;rw [hd'] at z1;rw [hxe] at hxok;have hrn:r≤g.rules.length:=by unfold Gm.Ok at hxok;simp only at hxok;omega
   have hdn:d≤1000:=by
    unfold Gm.Ok at hxok;simp only [yB] at hxok;have:(g.rightAt r).length≤8:=by
     unfold Gm.rightAt
     split
     ·exact hrl _ (gN _)
     ·split <;> simp
    omega
   have hnr:=oM HK.out ((r:Int),(d:Int));have HXE:=Ha hxe;clear hxe hr' hd' hxok;have hb1:Below wr.heap.size wr (wr.alloc (.cells #[.int .i64 r,.int .i64 d] 250)):=(gR _ _).alloc (gO _) _;have q1:=aC wr (.cells #[.int .i64 r,.int .i64 d] 250);generalize hWI:wr.alloc (.cells #[.int .i64 r,.int .i64 d] 250)=wi at *;obtain ⟨r0,r1,_,_⟩:=aM q1 rfl;have HPU:=Ha (GM G wi B b B bo ro m A0 c0 A1 c1 A2 c2 g F L r d (HS.out.below hb1) hrn hdn (by have:=HM.out;omega) hnr.1 (fun s _=>gP (HLL.out s) (by omega)));have HBI:=Ha hb1;have HQI:=Ha q1;clear hb1 q1;have HOWN:=Ha (show ∀ i,(∃ s,s<m∧(F s).ownBlock=some i)→i<wr.heap.size∧TB 250 wr i from fun i ⟨s,hs,hi⟩=>⟨((HS.out.its s hs).tb hi).2.lt,((HS.out.its s hs).tb hi).2⟩);go_wp2_with fail;refine HPU.out.mono ?_;rintro e w6 ⟨rfl,⟨F1,hso1⟩,hbw1,hch1⟩;have hsi:=hso1.size;have hrwr:ro<wr.heap.size:=HS.out.row.lt;have hbx6:=(hch1.same wr.heap.size (gL HQI.out).1 fun e=>by
    rcases e with e | e
    ·have:=(HOWN.out _ e).1;omega
    ·omega).trans HQI.out
   have hmg6:=(HMG.out.below HBI.out).keep (w':=w6) (hch1.same mp (HMG.out.below HBI.out).lt fun e=>by
    rcases e with e | e
    ·exact HMG.out.not_tb _ (HOWN.out _ e).2
    ·exact HMR.out e)
   have hbw6:Below B w w6:=(HBW.out.trans (HBI.out.mono (by have:=HS.out.size;omega))).trans hbw1;obtain ⟨HS6,HMG6,HBW6,HP6,HL6,HNX⟩:=Zh6 hso1 hmg6 hbw6 (HP.out.put ((r:Int),(d:Int))) (show ∀ s,(g7 g L ((r:Int),(d:Int)) s).length≤p*100001+1 from fun s=>gP (sN g L _ s) (by have:=HLL.out s;omega)) (o5 G w6 b A0 c0 A1 c1 A2 c2 g r d hso1.gb hrn);have y6:=aA hso1.bbx 0 _ rfl;obtain ⟨nn,hnn⟩:∃ nn,nn=g.nxt ((r:Int),(d:Int)):=⟨_,rfl⟩;rw [← hnn] at HNX hnr;have HNE:=Ha hnn;obtain ⟨r0,r1,_,_⟩:=aM hbx6 rfl;have HBX6:=Ha hbx6;clear hso1 hbw1 hch1 hbx6 hmg6 hbw6 hnn HMG HS HBW HP HLL z0 z1;go_wp2_with fail;refine (HNX.out).mono ?_;rintro e w7 ⟨rfl,hb7⟩;obtain ⟨HS7,HMG7,HBW7⟩:=Zh3 (HS6.out.below hb7) (HMG6.out.below hb7) (HBW6.out.trans (hb7.mono hsi));have y7:=aA HS7.out.bbx 0 _ rfl;obtain ⟨x0,x1,x2,x3⟩:=HS7.out.gb.cells;have HNO:=Ha (HNN.out w7 _ g nn HS7.out.gb.old HS7.out.gb.gm (by omega));have hget:=MG.get sIB HMG7.out (x:=nn) (by unfold inR;omega);have HTK:=Ha (show k.take (p+1)=k.take p++[((r:Int),(d:Int))] by rw [List.take_succ_eq_append_getElem hlt,HXE.out]);clear hb7 r0 r1 y6;by_cases hin:nn∈M
   ·rw [show (mkF M nn).getD false=true from by unfold mkF;rw [if_pos hin];rfl] at hget;have HR:=Ha (show Pt g (fun x=>x∈k.take (p+1)∨∃ t∈M,g.LcI t x) (g7 g L ((r:Int),(d:Int)))∧(∀ t,t∈M↔g.N t∧∃ z∈k.take (p+1),g.nxt z=t) from by
     refine ⟨HP6.out.conv fun x=>?_,fun t=>?_⟩
     ·rw [HTK.out,List.mem_append,gV];constructor
      ·rintro ((h | h) | h)
       ·exact .inl (.inl h)
       ·exact .inr h
       ·exact .inl (.inr h)
      ·rintro ((h | h) | h)
       ·exact .inl (.inl h)
       ·exact .inr h
       ·exact .inl (.inr h)
     ·rw [HMI.out t,HTK.out];constructor
      ·rintro ⟨h1,z,h2,h3⟩;exact ⟨h1,z,List.mem_append_left _ h2,h3⟩
      ·rintro ⟨h1,z,h2,h3⟩;rcases yC h2 with h2 | h2
       ·exact ⟨h1,z,h2,h3⟩
       ·rw [gV] at h2;subst h2;rw [← h3,← HNE.out];exact (HMI.out nn).1 hin)
    clear hin x0 x1 x2 x3;go_wp2_with fail
    go_roundw
    case rel=>exact ⟨p+1,F1,_,M,by omega,by go_num,HS7.out,HR.out.1,HMG7.out,by omega,HR.out.2,fun s=>gP (HL6.out s) (by omega),HBW7.out⟩
    case measure=>simp only [intOf];omega
   ·rw [show (mkF M nn).getD false=false from by unfold mkF;rw [if_neg hin];rfl] at hget;by_cases hN:g.N nn
    case neg=>
     rw [yE hN] at HNO;have HR:=Ha (show Pt g (fun x=>x∈k.take (p+1)∨∃ t∈M,g.LcI t x) (g7 g L ((r:Int),(d:Int)))∧(∀ t,t∈M↔g.N t∧∃ z∈k.take (p+1),g.nxt z=t) from by
      refine ⟨HP6.out.conv fun x=>?_,fun t=>?_⟩
      ·rw [HTK.out,List.mem_append,gV];constructor
       ·rintro ((h | h) | h)
        ·exact .inl (.inl h)
        ·exact .inr h
        ·exact .inl (.inr h)
       ·rintro ((h | h) | h)
        ·exact .inl (.inl h)
        ·exact .inr h
        ·exact .inl (.inr h)
      ·rw [HMI.out t,HTK.out];constructor
       ·rintro ⟨h1,z,h2,h3⟩;exact ⟨h1,z,List.mem_append_left _ h2,h3⟩
       ·rintro ⟨h1,z,h2,h3⟩;rcases yC h2 with h2 | h2
        ·exact ⟨h1,z,h2,h3⟩
        ·rw [gV] at h2;subst h2;rw [← h3,← HNE.out] at h1;exact absurd h1 hN)
     clear hN hin;go_wp2_with fail;refine (HNO.out).mono ?_;rintro e w8 ⟨rfl,hb8⟩;have HF:=Ha (gS (HS7.out.below hb8) (gS (HMG7.out.below hb8) (HBW7.out.trans (hb8.mono HS7.out.size))));clear hb8 x0 x1 x2 x3;go_wp2_with fail
     go_roundw
     case rel=>exact ⟨p+1,F1,_,M,by omega,by go_num,HF.out.1,HR.out.1,HF.out.2.1,by omega,HR.out.2,fun s=>gP (HL6.out s) (by omega),HF.out.2.2⟩
     case measure=>simp only [intOf];omega
    case pos=>
     rw [yD hN] at HNO;have HNT:=Ha hN;have HIN:=Ha hin;obtain ⟨sn,hsn⟩:∃ sn:Nat,nn=(sn:Int):=⟨nn.toNat,by omega⟩;have hst:g.terms.length<sn∧sn<m:=by unfold Gm.N at hN;have:=HM.out;omega
     have HSN:=Ha hsn;clear hN hin hsn;go_wp2_with fail;refine (HNO.out).mono ?_;rintro e w8 ⟨rfl,hb8⟩;have hm8:=HMG7.out.below hb8;have hs8:=HS7.out.below hb8;have hB8:Below B w w8:=HBW7.out.trans (hb8.mono HS7.out.size);have hget8:=MG.get sIB hm8 (x:=nn) (by unfold inR;omega);obtain ⟨w9,hst9,hm9,hc9,hs9⟩:=MG.store sIB hm8 (x:=nn) (v:=true) (by unfold inR;omega) trivial (by omega);have hBmp:B≤mp:=by have:=HSZ.out;omega
     have hso9:=hs8.map hc9 (hm8.not_tb) hBmp;have hB9:Below B w w9:=hB8.trans (hc9.below (fun i e=>by subst e;exact hBmp) hs8.size);have hM9:MG 3 4 (Lit.int .i64) Lit.bool false w9 mp (mkF (M++[nn])) (M.length+1):=by
      rw [show (mkF M nn).isSome=false from by unfold mkF;rw [if_neg HIN.out];rfl] at hm9;refine hm9.conv fun x=>?_;unfold eK mkF;by_cases e:x=nn
      ·rw [if_pos e,if_pos (by simp [e])]
      ·rw [if_neg e];by_cases h2:x∈M
       ·rw [if_pos h2,if_pos (by simp [h2])]
       ·rw [if_neg h2,if_neg (by simp [h2,e])]
     have hbe9:=HH.out.below (show Below w.heap.size w w9 by rw [hBg];exact hB9);obtain ⟨ln,lc,l,hFB,hll,hlat,hlm2⟩:=HH.out.its sn hst.1 hst.2;have HLAT:=Ha (show aR (Old w) w (.slice ln l.length lc) l from by rw [← hFB];exact aH.keep hlat (fun _ h=>h.lt) (fun _ _=>rfl) fun _ _ h=>h);have y9:=aA hso9.bbx 0 _ rfl;have y94:=aA hbe9.box 4 _ rfl;have y9n:=hbe9.row.cell hst.2;rw [hFB] at y9n;obtain ⟨HLM,HS9,HMG9,HBW9⟩:=Zh4 hlm2 hso9 hM9 hB9;have hllm:=(aH.len HLAT.out).2;rw [HSN.out] at hst9 hget8;clear hb8 hm8 hs8 hB8 hm9 hc9 hs9 hso9 hM9 hbe9 hFB hlat hlm2 hB9 x0 x1 x2 x3 y7 hget;have hsn0:nn=(sn:Int):=HSN.out;clear HSN;subst hsn0;go_wp2_with fail
     go_loopw [57] (fun iv wq=>∃ (j:Nat) (F':Nat→Value) (L':Nat→List Itm),j≤l.length∧iv=.int .i64 j∧So G B b B bo ro m A0 c0 A1 c1 A2 c2 g wq F' L'∧Pt g (fun x=>((x∈k.take p∨∃ t∈M,g.LcI t x)∨x=((r:Int),(d:Int)))∨x∈l.take j) L'∧MG 3 4 (Lit.int .i64) Lit.bool false wq mp (mkF (M++[(sn:Int)])) (M.length+1)∧(∀ s,(L' s).length≤p*100001+1+j)∧Below B w wq) (fun iv _=>l.length-(intOf iv).toNat)
     case atStart=>exact ⟨0,F1,_,by omega,rfl,HS9.out,HP6.out.conv fun x=>by simp,HMG9.out,fun s=>by have:=HL6.out s;omega,HBW9.out⟩
     case round=>
      obtain ⟨j,F',L',hj,rfl,hso,hpt,hmg,hL,hbw⟩:=hrel;obtain ⟨HS,HP,HMG,HLL,HBW⟩:=Zh5 hso hpt hmg hL hbw;clear hso hpt hmg hL hbw HS9 HMG9 HBW9 HS7 HMG7 HBW7 HS6 HMG6 HBW6 y9 y94 y9n hst9 hget8;by_cases hjl:j<l.length
      ·have hbeq:Below w.heap.size w wr:=by rw [hBg];exact HBW.out
       obtain ⟨bj,oj,rfl,_,z0,z1⟩:=aR.at_ (aR.below (fun _ h=>h) hbeq HLAT.out) hjl;obtain ⟨k',hk',hle,_⟩:=(HLM.out l[j]).1 (gN hjl);rw [hle] at z0 z1;have HLE:=Ha hle;clear hle;have hb1:Below wr.heap.size wr (wr.alloc (.cells #[.int .i64 k',.int .i64 0] 250)):=(gR _ _).alloc (gO _) _;have q1:=aC wr (.cells #[.int .i64 k',.int .i64 0] 250);generalize hWJ:wr.alloc (.cells #[.int .i64 k',.int .i64 0] 250)=wj at *;obtain ⟨r0,r1,_,_⟩:=aM q1 rfl;have hws:wj.setCell ⟨wr.heap.size,1,none⟩ (.int .i64 0)=wj:=cC q1 rfl;have hnr2:=oM HK.out ((k':Int),((0:Nat):Int));have hpu:=GM G wj B b B bo ro m A0 c0 A1 c1 A2 c2 g F' L' k' 0 (HS.out.below hb1) (by omega) (by omega) (by have:=HM.out;omega) hnr2.1 (fun s _=>gP (HLL.out s) (by omega));rw [show (((0:Nat)):Int)=0 from rfl] at hpu;have HPU:=Ha hpu;have HOWN:=Ha (show ∀ i,(∃ s,s<m∧(F' s).ownBlock=some i)→TB 250 wr i from fun i ⟨s,hs,hi⟩=>((HS.out.its s hs).tb hi).2);have HBJ:=Ha hb1;clear hb1 q1 hpu hnr2;go_wp2_with fail;refine HPU.out.mono ?_;rintro e w10 ⟨rfl,⟨F2,hso2⟩,hbw2,hch2⟩;have hmg10:=(HMG.out.below HBJ.out).keep (w':=w10) (hch2.same mp (HMG.out.below HBJ.out).lt fun e=>by
        rcases e with e | e
        ·exact HMG.out.not_tb _ (HOWN.out _ e)
        ·exact HMR.out e)
       obtain ⟨HF,HL2,HTJ⟩:=Zh3 (gS hso2 (gS (HP.out.put ((k':Int),0)) (gS hmg10 ((HBW.out.trans (HBJ.out.mono (by have:=HS.out.size;omega))).trans hbw2)))) (show ∀ s,(g7 g L' ((k':Int),0) s).length≤p*100001+1+(j+1) from fun s=>gP (sN g L' _ s) (by have:=HLL.out s;omega)) (show l.take (j+1)=l.take j++[((k':Int),0)] by rw [List.take_succ_eq_append_getElem hjl,HLE.out]);clear hso2 hbw2 hch2 hmg10 r0 r1 z0 z1 hws;go_wp2_with fail
       go_roundw
       case rel=>
        refine ⟨j+1,F2,_,by omega,by go_num,HF.out.1,HF.out.2.1.conv fun x=>?_,HF.out.2.2.1,HL2.out,HF.out.2.2.2⟩;rw [HTJ.out,List.mem_append,gV,or_assoc]
       case measure=>simp only [intOf];omega
      ·obtain rfl:j=l.length:=by omega
       have HR:=Ha (show Pt g (fun x=>x∈k.take (p+1)∨∃ t∈M++[(sn:Int)],g.LcI t x) L'∧(∀ t,t∈M++[(sn:Int)]↔g.N t∧∃ z∈k.take (p+1),g.nxt z=t) from by
        refine ⟨HP.out.conv fun x=>?_,fun t=>?_⟩
        ·rw [HTK.out,List.mem_append,gV,List.take_length,HLM.out];constructor
         ·rintro (((h | ⟨t,h,h2⟩) | h) | h)
          ·exact .inl (.inl h)
          ·exact .inr ⟨t,List.mem_append_left _ h,h2⟩
          ·exact .inl (.inr h)
          ·exact .inr ⟨_,List.mem_append_right _ (List.mem_singleton.2 rfl),h⟩
         ·rintro ((h | h) | ⟨t,h,h2⟩)
          ·exact .inl (.inl (.inl h))
          ·exact .inl (.inr h)
          ·rcases yC h with h | h
           ·exact .inl (.inl (.inr ⟨t,h,h2⟩))
           ·rw [gV] at h;subst h;exact .inr h2
        ·rw [List.mem_append,HMI.out t,HTK.out,gV];constructor
         ·rintro (⟨h1,z,h2,h3⟩ | rfl)
          ·exact ⟨h1,z,List.mem_append_left _ h2,h3⟩
          ·exact ⟨HNT.out,_,List.mem_append_right _ (List.mem_singleton.2 rfl),HNE.out.symm⟩
         ·rintro ⟨h1,z,h2,h3⟩;rcases yC h2 with h2 | h2
          ·exact .inl ⟨h1,z,h2,h3⟩
          ·rw [gV] at h2;subst h2;exact .inr (h3.symm.trans HNE.out.symm))
       have HML:=Ha (show (M++[(sn:Int)]).length=M.length+1 by simp);go_wp2_with fail
       go_roundw
       case rel=>exact ⟨p+1,F',L',M++[(sn:Int)],by omega,by go_num,HS.out,HR.out.1,by rw [HML.out];exact HMG.out,by rw [HML.out];omega,HR.out.2,fun s=>gP (HLL.out s) (by omega),HBW.out⟩
       case measure=>simp only [intOf];omega
  ·obtain rfl:p=k.length:=by omega
   have HCL:=Ha (show Pt g (g.Clo (· ∈ k)) L from HP.out.conv fun x=>by
    rw [Gm.clo_iff HK.out,List.take_length];constructor
    ·rintro (h | ⟨t,h,h2⟩)
     ·exact .inl h
     ·obtain ⟨h3,z,h4,h5⟩:=(HMI.out t).1 h;rw [List.take_length] at h4;exact .inr ⟨z,h4,by rw [h5];exact h3,by rw [h5];exact h2⟩
    ·rintro (h | ⟨z,h,h2,h3⟩)
     ·exact .inl h
     ·exact .inr ⟨_,(HMI.out _).2 ⟨h2,z,by rw [List.take_length];exact h,rfl⟩,h3⟩)
   have yb:=aA HS.out.box 0 _ rfl;clear HP HMG HMI hml2;go_wp2_with fail
   go_loopw [68] (fun iv wr=>∃ (s:Nat) (F':Nat→Value) (L':Nat→List Itm),s≤m∧iv=.int .i64 s∧So G B b B bo ro m A0 c0 A1 c1 A2 c2 g wr F' L'∧(∀ t,t<s→L' t=g.succK k (t:Int))∧(∀ t,s≤t→L' t=L t)∧Below B w wr) (fun iv _=>m-(intOf iv).toNat)
   case atStart=>exact ⟨0,F,L,by omega,rfl,HS.out,fun t ht=>absurd ht (yJ t),fun _ _=>rfl,HBW.out⟩
   case round=>
    obtain ⟨s,F',L',hs,rfl,hso,hdone,hrest,hbw⟩:=hrel;obtain ⟨HS2,HD,HR,HBW2⟩:=Zh4 hso hdone hrest hbw;have yb2:=aA hso.box 0 _ rfl;clear hso hdone hrest hbw HS HBW yb;by_cases hsm:s<m
    ·obtain ⟨Av,cv,hFs,_⟩:=aG.shape (HS2.out.its s hsm);have hLs:L' s=L s:=HR.out s (gO _);have hls:(L' s).length≤1000000000:=by rw [hLs];have:=HLL.out s;omega
     have hbd:∀ x∈L' s,Bd x:=fun y hy=>by
      rw [hLs] at hy;have h3:=Gm.Gos.ok HOK.out ((HCL.out s y).1 hy |> fun ⟨h1,x,hx,h2,e⟩=>(⟨by omega,x,hx,h2,e⟩:g.Gos k (s:Int) y));unfold Gm.Ok at h3;have h8:(g.rightAt y.1.toNat).length≤8:=by
       unfold Gm.rightAt
       split
       ·exact hrl _ (gN _)
       ·split <;> simp
      unfold Bd;omega
     have HOR:=Ha (FK B (F' s) wr.drew (L' s) (aG.below (HS2.out.its s hsm) (gR _ _).drew) hbd hls);have zs:=HS2.out.row.cell hsm;rw [hFs] at zs HOR;obtain ⟨HFS,HLS,HSS⟩:=Zh3 hFs hLs (show (fun X:World=>X.cell? ⟨bo,0,none⟩=some (.slice (some ⟨ro,0,none⟩) m m)∧X.cell? ⟨ro,s,none⟩=some (.slice Av (L' s).length cv)) wr.drew from ⟨yb2,zs⟩);clear hFs hLs hls hbd;go_wp2_with fail;refine aE.start 8 (fun X=>X.cell? ⟨bo,0,none⟩=some (.slice (some ⟨ro,0,none⟩) m m)∧X.cell? ⟨ro,s,none⟩=some (.slice Av (L' s).length cv)) (by kernel_rfl) ?hs_1 (fun hHeld=>?hr_1)
     case hs_1=>exact HSS.out
     refine aE.tks [0,1,2,3,4,5] ?_ (by kernel_rfl) (by assumption)
     iterate 6
      refine aK.cons ?_ (by rfl) (by rfl) (by intro w h;(try dsimp only at h);simp only [gA,gB,gC];go_simp;try with_reducible rfl) (by exact fun _ _ _ h=>h);simp only [gA,gB,gC,Act.put,gD,gE,gF]
     show aE _ _ _ _ _ _ _ _ _ _;refine aE.one (i:=6) (by kernel_rfl) rfl fun K hK=>?_;simp only [gA,gB,gC]
     go_simp
     with_reducible refine Calls.mono HOR.out ?_
     rintro e w5 ⟨⟨u,r,rfl,hru,hrs,hrm,hrl2,how⟩,hc5⟩;obtain ⟨Au,cu,hue,_⟩:=aG.shape hru;generalize r.length=rn at hue;subst hue;have hc50:Chg (fun i=>(F' s).ownBlock=some i) wr w5:=(Chg.of (gR _ _).drew).trans2 hc5 fun i _ e=>by rw [HFS.out];exact e
     obtain ⟨hso5,hro5,hbo5⟩:=HS2.out.repl hsm hru hc50 (by rw [how,HFS.out]);have hsr:r=g.succK k (s:Int):=(Pt.succ HCL.out hrs (fun x=>by rw [hrm,HLS.out])).symm;have HSO5:=Ha hso5;have HSR:=Ha hsr;have z5:=hro5.cell hsm;have f5:=hro5.frozen s;have y5:=aA (hbo5.trans HS2.out.box) 0 _ rfl;have HBW5:=Ha (show Below B w (w5.setCell ⟨ro,s,none⟩ (.slice Au rn cu)) from (HBW2.out.trans (hc50.below (fun i e=>((HS2.out.its s hsm).tb e).1) HS2.out.size)).setCell (p:=⟨ro,s,none⟩) HS2.out.gB.2.2.1 _);have HSS5:=Ha (show (fun X:World=>X.cell? ⟨bo,0,none⟩=some (.slice (some ⟨ro,0,none⟩) m m)∧X.cell? ⟨ro,s,none⟩=some (.slice Av (L' s).length cv)) w5 from ⟨y5,by rw [← HFS.out];exact z5⟩);clear hru hrs hrm hrl2 how hc5 hc50 hso5 hro5 hbo5 hsr zs yb2;dsimp only;refine hK.out _ _ ?_ (fun hHeld=>?_)
     ·exact HSS5.out
     clear hK K;try simp only [Act.put,gD,gE,gF]
     refine aE.tks [7] ?_ (by kernel_rfl) (by assumption)
     iterate 1
      refine aK.cons ?_ (by rfl) (by rfl) (by intro w h;(try dsimp only at h);simp only [gA,gB,gC];go_simp;try with_reducible rfl) (by exact fun _ _ _ h=>h);simp only [gA,gB,gC,Act.put,gD,gE,gF]
     show aE _ _ _ _ _ _ _ _ _ _;refine aE.last (by kernel_rfl) rfl fun K hK=>?_;simp only [gA,gB,gC]
     go_simp
     refine hK.out _ _ (aE.done (by kernel_rfl) ?_ _);go_wp2_with fail
     go_roundw
     case rel=>
      refine ⟨s+1,_,_,by omega,by go_num,HSO5.out,fun t ht=>?_,fun t ht=>?_,HBW5.out⟩
      ·by_cases e:t=s
       ·rw [if_pos e,e];exact HSR.out
       ·rw [if_neg e];exact HD.out t (by omega)
      ·rw [if_neg (by omega)];exact HR.out t (by omega)
     case measure=>simp only [intOf];omega
    ·obtain rfl:s=m:=by omega
     go_wp2_with fail;go_ret;rw [← hBg] at *;exact ⟨⟨ro,F',rfl,HS2.out.gB.2.2.1,HS2.out.row,fun t ht=>by rw [← HD.out t ht];exact HS2.out.its t ht⟩,HBW2.out⟩
end
section
attribute [local go_sem ↓] aI
def MT (w:World) (mt:Nat) (T:Pk→Option Int) (n:Nat):Prop:=MG 175 3 klP (Lit.int .i64) 0 w mt T n
def Kit (w:World) (kvs:List Value) (ks:List (List Itm)):Prop:=∀ j (h:j<ks.length),∃ A c,kvs[j]? = some (.slice A ks[j].length c)∧aR (TB 250 w) w (.slice A ks[j].length c) ks[j]
structure Bw (G:Nat→Prop) (W b ma mt rb m:Nat) (A0:Option Addr) (c0:Nat) (A1:Option Addr) (c1:Nat) (A2:Option Addr) (c2:Nat) (g:Gm) (w:World) (vs:Value) (kvs:List Value) (ks:List (List Itm)) (FB:Nat→Value) (T:Pk→Option Int) (n:Nat):Prop where
 bx:GBox G w W A0 c0 A1 c1 A2 c2 g
 GW:∀ k,G k→k<W
 st:Bst (W+1) b ma mt A0 c0 A1 c1 A2 c2 g (.slice (some ⟨rb,0,none⟩) m m) w vs kvs ks
 be:Be G b rb m A0 c0 A1 c1 A2 c2 g vs (.map (some ma)) (.map (some mt)) w FB
 its:Kit w kvs ks
 mg:MT w mt T n
 mm:ma≠mt
 mW:W<mt
 row:W<rb
section
variable {G:Nat→Prop} {W b ma mt rb m:Nat} {A0 A1 A2:Option Addr} {c0 c1 c2:Nat} {g:Gm} {w w':World} {vs vs':Value} {kvs kvs':List Value} {ks ks':List (List Itm)} {FB:Nat→Value} {T T':Pk→Option Int} {n n':Nat}
theorem Kit.keep (h:Kit w kvs ks) (hk:∀ k,TB 250 w k→w'.heap[k]? = w.heap[k]?):Kit w' kvs ks:=fun j hj=>by
 obtain ⟨A,c,h1,h2⟩:=h j hj;exact ⟨A,c,h1,aH.keepT h2 hk⟩
theorem Bw.below (h:Bw G W b ma mt rb m A0 c0 A1 c1 A2 c2 g w vs kvs ks FB T n) (hb:Below w.heap.size w w'):Bw G W b ma mt rb m A0 c0 A1 c1 A2 c2 g w' vs kvs ks FB T n:=
 ⟨h.bx.on hb,h.GW,h.st.below hb,h.be.below hb,h.its.keep (fun _ hk=>hb.block _ hk.lt),MG.below h.mg hb,h.mm,h.mW,h.row⟩
theorem Bw.bm (h:Bw G W b ma mt rb m A0 c0 A1 c1 A2 c2 g w vs kvs ks FB T n):b≠mt:=fun e=>MG.not_tb h.mg 171 (e▸⟨_,h.be.box⟩)
theorem Bw.size (h:Bw G W b ma mt rb m A0 c0 A1 c1 A2 c2 g w vs kvs ks FB T n):W+1≤w.heap.size:=h.bx.lt
theorem Bw.state (h:Bw G W b ma mt rb m A0 c0 A1 c1 A2 c2 g w vs kvs ks FB T n) {A:Option Addr} {c:Nat} {k:List Itm} (hn:k≠[]) (hk:aR (TB 250 w) w (.slice A k.length c) k) {e:Ending} (hs:zH (W+1) b ma mt A0 c0 A1 c1 A2 c2 g (.slice (some ⟨rb,0,none⟩) m m) kvs ks (.slice A k.length c) k w e w'):
  ∃ vs' kvs',e=.returned (.int .i64 ((Gm.addK ks k).idxOf k:Int))∧Bw G W b ma mt rb m A0 c0 A1 c1 A2 c2 g w' vs' kvs' (Gm.addK ks k) FB T n∧Below (W+1) w w'∧Cs (W+1) mt w w':=by
 obtain ⟨⟨vs',kvs',ks',rfl,hst,hor⟩,hc⟩:=hs;have hks:ks'=Gm.addK ks k:=by
  unfold Gm.addK;rcases hor with ⟨h1,h2,_⟩ | ⟨h1,h2,_⟩
  ·rw [if_pos (.inr h1),h2]
  ·rw [if_neg (by rintro (e | e);exact hn e;exact h1 e),h2]
 have hbl:=hc.below h.size;have hkeep:Kit w' kvs ks:=h.its.keep (hc.tb (.inl rfl));refine ⟨vs',kvs',by rw [hks],⟨h.bx.stay h.GW fun i hi=>hbl.block i (by omega),h.GW,hks▸hst, ?_, ?_,h.mg.keep (hc.same mt h.mg.lt fun hp=>hp.2.2.2 rfl),h.mm,h.mW,h.row⟩,hbl,hc⟩
 ·have hrow:w'.heap[rb]? = w.heap[rb]? := hc.tb (.inr rfl) rb (by
   obtain ⟨cs,h1,_⟩:=h.be.row;exact ⟨cs,h1⟩)
  exact ⟨hst.box,h.be.row.of_block hrow,fun i h1 h2=>by
   obtain ⟨n,c,l,e,h3,h4,h5⟩:=h.be.its i h1 h2;exact ⟨n,c,l,e,h3,aH.keepT h4 (hc.tb (.inl rfl)),h5⟩,⟨fun k hk=>by have:=h.GW k hk;have:=hbl.size;have:=h.size;omega,(gL hst.box).1,aA hst.box 0 _ rfl,aA hst.box 1 _ rfl,aA hst.box 2 _ rfl,aA hst.box 3 _ rfl,
   h.be.gb.ht.keep (fun _ h=>h) (fun p hp=>gM (hbl.block _ (by have:=h.GW _ hp;omega))),h.be.gb.hn.keep (fun _ h=>h) (fun p hp=>gM (hbl.block _ (by have:=h.GW _ hp;omega))),h.be.gb.hr.keep (fun _ h=>h) (fun p hp=>gM (hbl.block _ (by have:=h.GW _ hp;omega)))⟩⟩
 ·rw [← hks];rcases hor with ⟨h1,h2,h3⟩ | ⟨h1,h2,h3⟩
  ·rw [h2,h3];exact hkeep
  ·intro j hj;have hlen:=h.st.len;subst h2 h3;rw [gI,gZ] at hj;by_cases e:j<ks.length
   ·obtain ⟨A',c',h4,h5⟩:=hkeep j e;rw [List.getElem_append_left e];exact ⟨A',c',by rw [List.getElem?_append_left (by omega)];exact h4,h5⟩
   ·obtain rfl:j=ks.length:=by omega
    rw [List.getElem_concat_length rfl];exact ⟨A,c,by rw [← hlen,List.getElem?_concat_length],aH.keepT hk (hc.tb (.inl rfl))⟩
theorem Bw.put (h:Bw G W b ma mt rb m A0 c0 A1 c1 A2 c2 g w vs kvs ks FB T n) (hm:MT w' mt T' n') (hc:Chg (· = mt) w w'):Bw G W b ma mt rb m A0 c0 A1 c1 A2 c2 g w' vs kvs ks FB T' n':=by
 have hk:∀ T i,TB T w i→w'.heap[i]? = w.heap[i]? := fun T i hi=>hc.same i hi.lt fun e=>MG.not_tb h.mg T (e▸hi);have hb:=hk _ b ⟨_,h.be.box⟩;have hG:∀ i,i≤W→w'.heap[i]? = w.heap[i]? := fun i hi=>hc.same i (by have:=h.bx.lt;omega) fun e=>by have:=h.mW;omega
 exact ⟨h.bx.stay h.GW hG,h.GW,h.st.keep hb (hc.same ma (by obtain ⟨_,_,h1,_⟩:=h.st.at_;exact h1.lt) h.mm) (hk _),h.be.keep hc.size hb (hk 97 rb (by
  obtain ⟨cs,h1,_⟩:=h.be.row;exact ⟨cs,h1⟩)) (hk _) (fun i hi=>hG i (by have:=h.GW i hi;omega)),h.its.keep (hk _),hm,h.mm,h.mW,h.row⟩
end
end
theorem BV:(Tryz.prog.info? 102).map (fun i=>(i.zero,i.size,i.bytes))=some (some (.agg #[.int .i64 0,.int .i64 0]),2,16):=by kernel_rfl
theorem sK {g:Gm} {ks:List (List Itm)} {l:List Itm} {s:Nat} (h1:1≤s) (h:g.succK l (s:Int)=[]):Gm.transK g ks l s=Gm.transK g ks l (s-1):=by
 obtain ⟨n,rfl⟩:∃ n,s=n+1:=⟨s-1,by omega⟩;have h:g.succK l ((n:Int)+1)=[]:=h;show Gm.transK g ks l n++(if g.succK l ((n:Int)+1)=[] then [] else _)=_;rw [if_pos h,List.append_nil];rfl
theorem sM {g:Gm} {ks:List (List Itm)} {l:List Itm} {s:Nat} (h1:1≤s) (h:g.succK l (s:Int)≠[]):Gm.transK g ks l s=Gm.transK g ks l (s-1)++[((s:Int),(ks.idxOf (g.succK l (s:Int)):Int))]:=by
 obtain ⟨n,rfl⟩:∃ n,s=n+1:=⟨s-1,by omega⟩;have h:¬g.succK l ((n:Int)+1)=[]:=h;show Gm.transK g ks l n++(if g.succK l ((n:Int)+1)=[] then [] else _)=_;rw [if_neg h];rfl
theorem iN (g:Gm) (ks:List (List Itm)) (l:List Itm):∀ n,(Gm.transK g ks l n).length≤n
 | 0=>gO _
 | n+1=>by
  have:=iN g ks l n;unfold Gm.transK;rw [gI]
  split
  ·simp;omega
  ·simp;omega
structure Sr (w:World) (sb n cs:Nat) (kvs:List Value) (TV:Nat→Value):Prop where
 row:∃ cur,w.heap[sb]? = some (.cells cur 100 (0,0))∧cur.size=cs*2∧∀ j (h:j<kvs.length),cur[j*2]? = some kvs[j]∧cur[j*2+1]? = some (TV j)
 len:kvs.length=n
 nc:n≤cs
 cm:cs≤maxLen
theorem I0 {B:Nat} {w:World} {vs:Value} {kvs:List Value} (h:aG B 100 2 sT w vs kvs) (hn:0<kvs.length):
  ∃ sb c,vs=.slice (some ⟨sb,0,none⟩) kvs.length c∧B≤sb∧Sr w sb kvs.length c kvs fun _=>.slice none 0 0:=by
 obtain ⟨us,hf,hz,ho⟩:=h;rcases ho with ⟨rfl,hn0⟩ | ⟨g,cap,cur,rfl,hB,hh,hc,hm,hcs,htake⟩
 ·omega
 ·refine ⟨g,cap,rfl,hB,⟨cur,hh,hcs,fun j hj=>?_⟩,rfl,hc,hm⟩;obtain ⟨xs,_,⟨_,e⟩,h8⟩:=hf.get j hj;subst e;have h9:∀ i u,[kvs[j],Value.slice none 0 0][i]? = some u→cur[j*2+i]? = some u:=fun i u hi=>by
   have h10:=h8 i u hi;have hlt:j*2+i<kvs.length*2:=by
    have:i<2:=by
     have:=(gY hi).1
     simpa using this
    omega
   rw [← htake,List.getElem?_take_of_lt hlt,Array.getElem?_toList] at h10;exact h10
  exact ⟨h9 0 _ rfl,h9 1 _ rfl⟩
section
variable {w w':World} {sb n cs:Nat} {kvs:List Value} {TV:Nat→Value}
theorem Sr.tb (h:Sr w sb n cs kvs TV):TB 100 w sb:=by
 obtain ⟨cur,h1,_⟩:=h.row;exact ⟨cur,h1⟩
theorem Sr.keep (h:Sr w sb n cs kvs TV) (hk:w'.heap[sb]? = w.heap[sb]?):Sr w' sb n cs kvs TV:=by
 obtain ⟨cur,h1,h2⟩:=h.row;exact ⟨⟨cur,hk.trans h1,h2⟩,h.len,h.nc,h.cm⟩
theorem Sr.cells (h:Sr w sb n cs kvs TV) {j:Nat} (hj:j<n):∃ h2:j<kvs.length,w.cell? ⟨sb,j*2,none⟩=some kvs[j]∧w.cell? ⟨sb,j*2+1,none⟩=some (TV j)∧w.frozen? ⟨sb,j*2+1,none⟩=false:=by
 obtain ⟨cur,h1,h2,h3⟩:=h.row;have hj2:j<kvs.length:=by have:=h.len;omega
 exact ⟨hj2,aA h1 _ _ (h3 j hj2).1,aA h1 _ _ (h3 j hj2).2,by simp [World.frozen?,h1]⟩
theorem Sr.set (h:Sr w sb n cs kvs TV) (i:Nat) (v:Value):Sr (w.setCell ⟨sb,i*2+1,none⟩ v) sb n cs kvs (fun j=>if j=i then v else TV j):=by
 obtain ⟨cur,h1,h2,h3⟩:=h.row;refine ⟨⟨_,aO h1 _ v,by simpa using h2,fun j hj=>?_⟩,h.len,h.nc,h.cm⟩;have hjc:j*2+1<cur.size:=by have:=h.len;have:=h.nc;omega
 refine ⟨by rw [Array.getElem?_setIfInBounds_ne (by omega)];exact (h3 j hj).1, ?_⟩;by_cases e:j=i
 ·subst e;rw [if_pos rfl,Array.getElem?_setIfInBounds_self_of_lt hjc]
 ·rw [if_neg e,Array.getElem?_setIfInBounds_ne (by omega)];exact (h3 j hj).2
end
structure Tw (G:Nat→Prop) (W N b mt:Nat) (vi:Value) (A0:Option Addr) (c0:Nat) (A1:Option Addr) (c1:Nat) (A2:Option Addr) (c2:Nat) (g:Gm) (w:World) (sb cs:Nat) (vm:Value) (kvs:List Value) (ks:List (List Itm)) (n i:Nat) (TV:Nat→Value):Prop where
 bx:GBox G w W A0 c0 A1 c1 A2 c2 g
 GW:∀ k,G k→k<W
 Wb:W<b∧W<sb∧W<N∧N≤w.heap.size
 box:w.heap[b]? = some (.cells #[.slice A0 g.terms.length c0,.slice A1 g.nons.length c1,.slice A2 g.rules.length c2,.int .i64 g.start,vi,.slice (some ⟨sb,0,none⟩) ks.length cs,vm,.map (some mt)] 171 (0,0))
 row:Sr w sb ks.length cs kvs TV
 its:Kit w kvs ks
 done:∀ j (_:j<ks.length),j<i→∃ A c,TV j=.slice A (Gm.transK g ks ks[j] g.top).length c∧aR (fun k=>k<N∧TB 102 w k) w (.slice A (Gm.transK g ks ks[j] g.top).length c) (Gm.transK g ks ks[j] g.top)
 rest:∀ j,i<j→TV j=.slice none 0 0
 mg:MT w mt (toF g ks ks.length 0) n
section
variable {G:Nat→Prop} {W N N' b mt:Nat} {vi:Value} {A0 A1 A2:Option Addr} {c0 c1 c2:Nat} {g:Gm} {w w' w3:World} {sb cs:Nat} {vm:Value} {kvs:List Value} {ks:List (List Itm)} {n i:Nat} {TV:Nat→Value}
theorem Tw.below (h:Tw G W N b mt vi A0 c0 A1 c1 A2 c2 g w sb cs vm kvs ks n i TV) (hb:Below w.heap.size w w'):Tw G W N b mt vi A0 c0 A1 c1 A2 c2 g w' sb cs vm kvs ks n i TV:=
 ⟨h.bx.on hb,h.GW,by have:=h.Wb;have:=hb.size;omega,(hb.block _ (gL h.box).1).trans h.box,h.row.keep (hb.block _ h.row.tb.lt),h.its.keep (fun _ hk=>hb.block _ hk.lt),fun j hj hji=>by
  obtain ⟨A,c,e,h1⟩:=h.done j hj hji;exact ⟨A,c,e,aH.keep h1 (fun k hk=>⟨hk.1,hk.2.of_eq (hb.block _ hk.2.lt)⟩) (fun p hp=>gM (hb.block _ hp.2.lt)) fun _ _ h=>h⟩,h.rest,MG.below h.mg hb⟩
theorem Tw.next (h:Tw G W N b mt vi A0 c0 A1 c1 A2 c2 g w sb cs vm kvs ks n i TV) (hi:i<ks.length) (ht:aG N 102 2 ItV w (TV i) (Gm.transK g ks ks[i] g.top)) (hr:∀ j,i<j→TV j=.slice none 0 0):Tw G W w.heap.size b mt vi A0 c0 A1 c1 A2 c2 g w sb cs vm kvs ks n (i+1) TV:=
 ⟨h.bx,h.GW,by have:=h.Wb;omega,h.box,h.row,h.its,fun j hj hji=>by
  by_cases e:j=i
  ·subst e;obtain ⟨A,c,e2,_⟩:=aG.shape ht;exact ⟨A,c,e2,by rw [← e2];exact aG.look ht fun k hk=>⟨(aG.tb ht hk).2.lt,(aG.tb ht hk).2⟩⟩
  ·obtain ⟨A,c,e2,h1⟩:=h.done j hj (by omega);exact ⟨A,c,e2,aH.keep h1 (fun k hk=>⟨hk.2.lt,hk.2⟩) (fun _ _=>rfl) fun _ _ h=>h⟩,fun j hj=>hr j (by omega),h.mg⟩
theorem Tw.push (h:Tw G W N b mt vi A0 c0 A1 c1 A2 c2 g w sb cs vm kvs ks n i TV) {l l':List Itm} (ht:aG N 102 2 ItV w (TV i) l) {v':Value} (hc:Chg (fun k=>(TV i).ownBlock=some k) w w3) (ht':aG N 102 2 ItV w3 v' l'):
  Tw G W N b mt vi A0 c0 A1 c1 A2 c2 g (w3.setCell ⟨sb,i*2+1,none⟩ v') sb cs vm kvs ks n i (fun j=>if j=i then v' else TV j)∧aG N 102 2 ItV (w3.setCell ⟨sb,i*2+1,none⟩ v') v' l'∧
  w3.heap[b]? = w.heap[b]? ∧ w3.heap[sb]? = w.heap[sb]? ∧ Below (W+1) w (w3.setCell ⟨sb,i*2+1,none⟩ v'):=by
 have hT:∀ {k},(TV i).ownBlock=some k→N≤k∧TB 102 w k:=fun e=>aG.tb ht e;have hW:=h.Wb;have h3:∀ k,k<w.heap.size→(TV i).ownBlock≠some k→w3.heap[k]? = w.heap[k]? := fun k hk hn=>hc.same k hk hn;have hother:∀ {T k},T≠102→TB T w k→w3.heap[k]? = w.heap[k]? := fun hne hk=>h3 _ hk.lt fun e=>hk.ne (hT e).2 hne rfl;have hb3:=hother (T:=171) (by decide) ⟨_,h.box⟩;have hs3:=hother (by decide) h.row.tb;have hne:∀ k,k≠sb→(w3.setCell ⟨sb,i*2+1,none⟩ v').heap[k]? = w3.heap[k]? := fun k hk=>gU _ _ _ _ hk;have hts3:TB 100 w3 sb:=h.row.tb.of_eq hs3;have hlow:∀ k,k≤W→(w3.setCell ⟨sb,i*2+1,none⟩ v').heap[k]? = w.heap[k]? := fun k hk=>(hne k (by omega)).trans (h3 k (by omega) fun e=>by have:=(hT e).1;omega);have hit:∀ k,TB 250 w k→(w3.setCell ⟨sb,i*2+1,none⟩ v').heap[k]? = w.heap[k]? := fun k hk=>(hne k fun e=>hk.ne h.row.tb (by decide) e).trans (hother (by decide) hk);have hlt:∀ k,k<N→TB 102 w k→(w3.setCell ⟨sb,i*2+1,none⟩ v').heap[k]? = w.heap[k]? := fun k hk hT2=>(hne k fun e=>hT2.ne h.row.tb (by decide) e).trans (h3 k hT2.lt fun e=>by have:=(hT e).1;omega);have hmt:(w3.setCell ⟨sb,i*2+1,none⟩ v').heap[mt]? = w.heap[mt]? := (hne mt fun e=>MG.not_tb h.mg _ (e▸h.row.tb)).trans (h3 mt (MG.lt h.mg) fun e=>MG.not_tb h.mg _ (hT e).2);have hsz:=hc.size;refine ⟨⟨h.bx.stay h.GW hlow,h.GW,by simp;omega,(hne b fun e=>TB.ne (T:=171) ⟨_,h.box⟩ h.row.tb (by decide) e).trans (hb3.trans h.box),(h.row.keep hs3).set i v',h.its.keep hit,fun j hj hji=>?_,fun j hj=>?_,h.mg.keep hmt⟩,aG.keep ht' fun k hk=>hne k fun e=>(aG.tb ht' hk).2.ne hts3 (by decide) e,hb3,hs3, ?_⟩
 ·obtain ⟨A,c,e,h1⟩:=h.done j hj hji;refine ⟨A,c,by simp only [if_neg (Nat.ne_of_lt hji)];exact e,aH.keep h1 (fun k hk=>⟨hk.1,hk.2.of_eq (hlt k hk.1 hk.2)⟩) (fun p hp=>gM (hlt _ hp.1 hp.2)) fun _ _ h=>h⟩
 ·simp only [if_neg (Nat.ne_of_gt hj)];exact h.rest j hj
 ·exact (hc.below (fun k e=>by have:=(hT e).1;omega) (by omega)).setCell (p:=⟨sb,i*2+1,none⟩) (by have:=hW.2.1;simp only;omega) _
end
section
attribute [local go_sem ↓] aI
def StV (G:Nat→Prop) (w:World) (g:Gm) (ks:List (List Itm)) (vs:List Value) (k:List Itm):Prop:=∃ a t,vs=[a,t]∧aR G w a k∧aR G w t (Gm.transK g ks k g.top)
def cK (G:Nat→Prop) (w:World) (g:Gm) (v:Value) (ks:List (List Itm)):Prop:=aH G w 2 (StV G w g ks) v ks
def vZ (g:Gm) (w:World) (e:Ending) (w':World):Prop:=
 ((g.kernels=none∧e=.returned (.tuple #[.slice none 0 0,.int .i64 7]))∨∃ ks v,g.kernels=some ks∧e=.returned (.tuple #[v,.int .i64 0])∧cK (Old w') w' g v ks)∧Below w.heap.size w w'
structure Rw (w:World) (ro m:Nat) (F:Nat→Value) (g:Gm) (l:List Itm):Prop where
 row:w.rowIs ro 97 m F
 its:∀ s,s<m→∃ A c,F s=.slice A (g.succK l (s:Int)).length c∧aR (TB 250 w) w (.slice A (g.succK l (s:Int)).length c) (g.succK l (s:Int))
theorem Rw.keep {w w':World} {ro m:Nat} {F:Nat→Value} {g:Gm} {l:List Itm} (h:Rw w ro m F g l) (h1:∀ k,TB 250 w k→w'.heap[k]? = w.heap[k]?) (h2:∀ k,TB 97 w k→w'.heap[k]? = w.heap[k]?):Rw w' ro m F g l:=
 ⟨h.row.of_block (h2 ro (by
  obtain ⟨cs,h3,_⟩:=h.row;exact ⟨cs,h3⟩)),fun s hs=>by
  obtain ⟨A,c,h3,h4⟩:=h.its s hs;exact ⟨A,c,h3,aH.keepT h4 h1⟩⟩
theorem jT.rw {g:Gm} {k:List Itm} {m ro:Nat} {F:Nat→Value} {B:Nat} {w':World} (h1:w'.rowIs ro 97 m F) (h2:∀ s,s<m→Its B w' (F s) (g.succK k (s:Int))):Rw w' ro m F g k:=
 ⟨h1,fun s hs=>by
  obtain ⟨A,c,e,_⟩:=aG.shape (h2 s hs);exact ⟨A,c,e,by rw [← e];exact aG.look (h2 s hs) fun i hi=>(aG.tb (h2 s hs) hi).2⟩⟩
theorem DK {B:Nat} {w:World} {vs:Value} {kvs:List Value} (h:aG B 100 2 sT w vs kvs) {j:Nat} (hj:j<kvs.length):
  ∃ sb c,vs=.slice (some ⟨sb,0,none⟩) kvs.length c∧w.cell? ⟨sb,j*2,none⟩=some kvs[j]∧w.cell? ⟨sb,j*2+1,none⟩=some (.slice none 0 0):=by
 obtain ⟨us,hf,_,ho⟩:=h;rcases ho with ⟨rfl,hn⟩ | ⟨g,cap,cur,rfl,hB,hh,hc,hm,hcs,htake⟩
 ·omega
 ·have hsl:=aG.look (G:=fun _=>True) ⟨us,hf,by assumption,.inr ⟨g,cap,cur,rfl,hB,hh,hc,hm,hcs,htake⟩⟩ fun _ _=>trivial;obtain ⟨A,c,e,_,_,h4⟩:=hsl;obtain ⟨b,off,h5,_,h7⟩:=h4 (by omega);obtain ⟨xs,_,⟨_,rfl⟩,h8⟩:=h7 j hj;subst h5
  injection e with e1 _ e3
  injection e1 with e1
  injection e1 with e1 e2
  subst e1 e2;exact ⟨_,_,rfl,by simpa using h8 0 _ rfl,by simpa using h8 1 _ rfl⟩
theorem o7 (G:Nat→Prop) (w:World) (vs:List Value) (g:Gm) (hG:∀ k,G k→k<w.heap.size) (hg:GmV G w vs g) (hw:GW g):
  Calls Tryz.prog 45 #[ag vs] w fun e w'=>vZ g w e w':=by
 obtain ⟨A0,c0,A1,c1,A2,c2,W,ev,hW,⟨x0,x1,x2,x3⟩,HB,HX⟩:=GBox.go hG hg;rw [ev];have HG:=Ha hG;clear hG hg ev;have h2:=kR G;have h3:=ED G;have h4:=jN G;unfold ag at h2 h3 h4;obtain ⟨H2,H3,H4,HW⟩:=Zh4 h2 h3 h4 hw;have hlt:=hw.top.1;have hmm:=@run_makeMap Tryz.prog;obtain ⟨m,hm⟩:∃ m,m=g.top+1:=⟨_,rfl⟩;have HM:=Ha hm;have HGL:=Ha HG.out;clear h2 h3 h4 hw;go_enter Tryz.func45,Tryz.ntmps45;go_wp2_with fail;refine (H2.out _ _ g HX.out.old HX.out.gm HW.out).mono ?_;rintro e w1 ⟨rfl,hb1⟩;have HX1:=Ha (HX.out.on hb1);have HB1:=Ha (HB.out.trans (hb1.mono HB.out.size));clear x0 x1 x2 x3 hb1;obtain ⟨x0,x1,x2,x3⟩:=HX1.out.cells;have q2:Below w1.heap.size w1 (w1.alloc (.map #[] 0)):=(gR _ _).alloc (gO _) _;have hs2:(w1.alloc (.map #[] 0)).heap.size=w1.heap.size+1:=by simp
 have hmi:=MI.made w1;generalize hW2:w1.alloc (.map #[] 0)=w2 at *;have q3:Below w2.heap.size w2 (w2.alloc (.map #[] 0)):=(gR _ _).alloc (gO _) _;have hs3:(w2.alloc (.map #[] 0)).heap.size=w2.heap.size+1:=by simp
 have hmt:=MG.made (κ:=Pk) (kT:=175) (eT:=3) (kl:=klP) (el:=Lit.int .i64) (z0:=0) w2;generalize hW3:w2.alloc (.map #[] 0)=w3 at *;have q4:Below w3.heap.size w3 (w3.alloc (.cells #[.slice A0 g.terms.length c0,.slice A1 g.nons.length c1,.slice A2 g.rules.length c2,.int .i64 g.start,.slice none 0 0,.slice none 0 0,.map (some w1.heap.size),.map (some w2.heap.size)] 171)):=(gR _ _).alloc (gO _) _;have hs4:(w3.alloc (.cells #[.slice A0 g.terms.length c0,.slice A1 g.nons.length c1,.slice A2 g.rules.length c2,.int .i64 g.start,.slice none 0 0,.slice none 0 0,.map (some w1.heap.size),.map (some w2.heap.size)] 171)).heap.size=w3.heap.size+1:=by simp
 have hbx:=aC w3 (.cells #[.slice A0 g.terms.length c0,.slice A1 g.nons.length c1,.slice A2 g.rules.length c2,.int .i64 g.start,.slice none 0 0,.slice none 0 0,.map (some w1.heap.size),.map (some w2.heap.size)] 171);generalize hW4:w3.alloc (.cells #[.slice A0 g.terms.length c0,.slice A1 g.nons.length c1,.slice A2 g.rules.length c2,.int .i64 g.start,.slice none 0 0,.slice none 0 0,.map (some w1.heap.size),.map (some w2.heap.size)] 171)=w4 at *;have hb24:Below w2.heap.size w2 w4:=q3.trans (q4.mono q3.size);have hb14:Below w1.heap.size w1 w4:=q2.trans (hb24.mono q2.size);have hx4:=HX1.out.on hb14;have hgb:GBox G w4 w3.heap.size A0 c0 A1 c1 A2 c2 g:=⟨hx4.old,by omega,aA hbx 0 _ rfl,aA hbx 1 _ rfl,aA hbx 2 _ rfl,aA hbx 3 _ rfl,hx4.ht,hx4.hn,hx4.hr⟩;obtain ⟨HPR,HMI,HMT,HX4,HSZ,HB14⟩:=Zh6 (IQ G w4 w3.heap.size A0 c0 A1 c1 A2 c2 g (.slice none 0 0) (.slice none 0 0) (.map (some w1.heap.size)) (.map (some w2.heap.size)) hbx hgb (fun k hk=>by have:=HX1.out.old k hk;omega) hlt HW.out.lr) (hmi.keepH ((hb24.block w1.heap.size (by omega))):MI w4 w1.heap.size (fun _=>none) 0) (MG.below hmt q4) hx4 (show w.heap.size<w1.heap.size∧w2.heap.size=w1.heap.size+1∧w3.heap.size=w1.heap.size+2∧w4.heap.size=w1.heap.size+3 from ⟨HX1.out.lt,by omega⟩) hb14;clear q2 q3 q4 hs2 hs3 hs4 hmi hmt hbx hb24 hb14 hx4 hgb;go_wp2_with fail
 with_reducible refine Calls.mono HPR.out ?_
 rintro e w5 ⟨rfl,rb,FB,hpr⟩;rw [← hm] at hpr;generalize hma:w1.heap.size=ma at *;generalize hmt:w2.heap.size=mt at *;generalize hb:w3.heap.size=b at *;have hch:=hpr.chg;have hbw:Bw G w.heap.size b ma mt rb m A0 c0 A1 c1 A2 c2 g w5 (.slice none 0 0) [] [] FB (fun _=>none) 0:=by
  have h0:=HSZ.out;clear hm;refine ⟨HX4.out.stay HGL.out fun k hk=>hch.same k (by omega) (fun e=>by omega),HGL.out,⟨hpr.box,⟨fun _=>none,0,HMI.out.keepH (hch.same ma (by omega) fun e=>by omega),gX _,fun _ _=>by simp⟩,aG.nil _ _ _ _ _,rfl,(fun _ h=>by cases h),by omega,by omega⟩,⟨hpr.box,hpr.row,fun i h1 h2=>hpr.its i h1 h2,hpr.gb⟩,fun j hj=>absurd hj (yJ j),HMT.out.keep (hch.same mt (by omega) fun e=>by omega),by omega,by omega,by have:=hpr.le;omega⟩
 have HBW:=Ha hbw;have HBE:=Ha (show Below w.heap.size w w5 from (HB1.out.trans (HB14.out.mono (by have:=HSZ.out;omega))).trans (hch.below (fun i e=>by have:=HSZ.out;omega) (by have:=HSZ.out;omega)));clear hch hpr hbw hmt hma hb hm HPR HMI HMT HX4 HB14 HX1 HB1 x0 x1 x2 x3;obtain ⟨x0,x1,x2,x3⟩:=HBW.out.bx.cells;go_wp2_with fail;refine (H3.out _ _ g HBW.out.bx.old HBW.out.bx.gm HW.out).mono ?_;rintro e w6 ⟨⟨u,rfl,hu⟩,hb6⟩;have hbw6:=HBW.out.below hb6;have hu:Its w5.heap.size w6 u g.own:=hu;obtain ⟨Au0,cu,rfl,_⟩:=aG.shape hu;have hlk:=aG.look hu (G:=TB 250 w6) fun i hi=>(aG.tb hu hi).2;have hmte:∃ es c,w6.heap[mt]? = some (.map es c):=MG.isMap hbw6.mg;have hsm:∀ k,Gm.KOk g k→∀ x∈k,eM x:=fun k hk x hx=>by
  have:=hk.small HW.out.lr HW.out.lx x hx;unfold eM;omega
 obtain ⟨HSM,HS,HBW6,HLK,HBE6⟩:=Zh5 hsm (vN (TB 250 w6) w6 (w.heap.size+1) b ma mt A0 c0 A1 c1 A2 c2 g (.slice (some ⟨rb,0,none⟩) m m) (.slice none 0 0) [] [] Au0 cu g.own hbw6.st (fun _ h=>h.lt) hlk (hsm _ (Gm.KOk.own g)) (by simp [Gm.own]) (by simp) hbw6.mm hbw6.bm hmte hbw6.size) hbw6 hlk (HBE.out.trans (hb6.mono HBE.out.size));clear hb6 hbw6 hu hlk hmte HBW HBE x0 x1 x2 x3 hsm;go_wp2_with fail
 with_reducible refine Calls.mono HS.out ?_
 rintro e w7 hst;obtain ⟨vs7,kvs7,rfl,hbw7,hb7,_⟩:=HBW6.out.state (by simp [Gm.own]) HLK.out hst;have h7:Gm.addK [] g.own=[g.own]:=by simp [Gm.addK,Gm.own]
 rw [h7] at hbw7;have HBW7:=Ha hbw7;have HBE7:=Ha (show Below w.heap.size w w7 from HBE6.out.trans (hb7.mono (by omega)));generalize hidx:(List.idxOf g.own (Gm.addK [] g.own):Int)=ix at *;clear hst hbw7 hb7 h7 hidx HBW6 HLK HBE6 HS;go_wp2_with fail
 go_loopw [6] (fun iv wr=>∃ (i:Nat) (vs:Value) (kvs:List Value) (ks:List (List Itm)) (n:Nat),iv=.int .i64 i∧Bw G w.heap.size b ma mt rb m A0 c0 A1 c1 A2 c2 g wr vs kvs ks FB (toF g ks i 0) n∧Au g ks i 0∧ks.length≤2000∧g.kernels=Gm.buildK g (2002-i) i ks∧n≤i*241∧Below w.heap.size w wr) (fun iv _=>2000-(intOf iv).toNat)
 case atStart=>exact ⟨0,vs7,kvs7,[g.own],0,rfl,by
  rw [show toF g [g.own] 0 0=fun _=>none from funext (yS g _)];exact HBW7.out,Au.start g,by simp,rfl,gO _,HBE7.out⟩
 case round=>
  obtain ⟨i,vs,kvs,ks,n,rfl,hbw,hau,hkl,hbk,hn,hbe⟩:=hrel;obtain ⟨HBW,HAU,HBK,HBE⟩:=Zh4 hbw hau hbk hbe;have hlen:=hbw.st.len;have hil:=hau.il;obtain ⟨Av,cv,rfl,_⟩:=hbw.st.row.shape;have y5:=aA hbw.st.box 5 _ rfl;rw [hlen] at y5;clear hbw hau hbk hbe HBW7 HBE7;by_cases hi:i<ks.length
  ·obtain ⟨sb,cs,hve,z0,z1⟩:=DK HBW.out.st.row (j:=i) (by omega)
   injection hve with e1 _ e3
   subst e1 e3;obtain ⟨A,c,hk1,hk2⟩:=HBW.out.its i hi;have hk3:kvs[i]=.slice A ks[i].length c:=by
    rw [List.getElem?_eq_getElem (by omega)] at hk1
    injection hk1
   rw [hk3] at z0;obtain ⟨l,hl⟩:∃ l,l=ks[i]:=⟨_,rfl⟩;rw [← hl] at z0 hk2;have hko:Gm.KOk g l:=by rw [hl];exact HAU.out.kok _ (gN hi)
   obtain ⟨HSP,HKO,HL,HI,HIL,HLEN⟩:=Zh6 (F8 G (TB 250 wr) wr b rb m A0 c0 A1 c1 A2 c2 g _ _ _ FB A c l HBW.out.be HM.out hlt HW.out.kn (fun _ h=>h.lt) hk2 hko.ok HW.out.lx HW.out.lr (by have:=hko.len HW.out.lr HW.out.lx;omega)) hko hl hi hil hlen;have hlc:(i:Int)<(ks.length:Int):=by omega
   clear hk1 hk2 hk3 hko hl hil hlen z1;go_wp2_with fail;refine (HSP.out).mono ?_;rintro e w8 ⟨⟨ro,F,rfl,hro,hrow,hits⟩,hb8⟩;have HRW:=Ha (jT.rw hrow hits);have HBW8:=Ha (HBW.out.below hb8);have HBE8:=Ha (HBE.out.trans (hb8.mono HBE.out.size));have hml:m≤241:=by have:=HM.out;omega
   clear hrow hits hb8 hro z0 y5 HSP HBW HBE;go_wp2_with fail
   go_loopw [49] (fun iv wq=>∃ (s:Nat) (vs':Value) (kvs':List Value) (ks':List (List Itm)) (n':Nat),s≤m∧iv=.int .i64 s∧Bw G w.heap.size b ma mt rb m A0 c0 A1 c1 A2 c2 g wq vs' kvs' ks' FB (toF g ks' i s) n'∧Au g ks' i s∧ks'=Gm.procK g l s ks∧n'≤i*241+s∧Rw wq ro m F g l∧Below w.heap.size w wq) (fun iv _=>m-(intOf iv).toNat)
   case atStart=>exact ⟨0,_,kvs,ks,n,gX _,rfl,HBW8.out,HAU.out,rfl,hn,HRW.out,HBE8.out⟩
   case round=>
    obtain ⟨s,vs',kvs',ks',n',hs,rfl,hbw,hau,hks',hn',hrw,hbe⟩:=hrel;have HBW:=Ha hbw;have HAU2:=Ha hau;have HKS:=Ha hks';have HRW2:=Ha hrw;have HBE:=Ha hbe;have HIP:=Ha (show ∃ h:i<ks'.length,ks'[i]=l from by
     obtain ⟨h1,h2⟩:=Gm.prefix_getElem (Gm.procK_le g l s ks) HI.out;subst hks';exact ⟨h1,h2.trans HL.out.symm⟩)
    have HKL:=Ha (show ks'.length≤2000+s from by
     rw [hks'];have:=oO g l s ks;omega)
    clear hbw hau hks' hrw hbe HRW HBW8 HBE8;by_cases hsm:s<m
    ·obtain ⟨Af,cf,hFs,hfat⟩:=HRW2.out.its s hsm;have zf:=HRW2.out.row.cell hsm;rw [hFs] at zf;obtain ⟨r,hr⟩:∃ r,r=g.succK l (s:Int):=⟨_,rfl⟩;rw [← hr] at zf hfat;have HNX:=Ha (show nxK g ks' i s=r from by rw [jZ HIP.out.1,HIP.out.2,hr]);have HADD:=Ha (show Gm.addK ks' r=Gm.procK g l (s+1) ks from by rw [← HNX.out];exact tM HKS.out HIP.out.1 HIP.out.2);have HAS:=Ha (show Au g (Gm.addK ks' r) i (s+1) from by have:=HAU2.out.step HIP.out.1;rwa [HNX.out] at this);have hrl:=(aH.len hfat).2;have HR:=Ha hr;have HFAT:=Ha hfat;clear hFs hfat hr;by_cases hr0:r=[]
     ·have hz:(r.length:Int)=0:=by rw [hr0];rfl
      have HE:=Ha (show Gm.addK ks' r=ks' from by unfold Gm.addK;rw [if_pos (.inl hr0)]);have HT:=Ha (show toF g ks' i s=toF g ks' i (s+1) from funext (DV (HNX.out.trans hr0)));clear hr0;go_wp2_with fail
      go_roundw
      case rel=>exact ⟨s+1,vs',kvs',ks',n',by omega,by go_num,HT.out▸HBW.out,HE.out▸HAS.out,HE.out.symm.trans HADD.out,by omega,HRW2.out,HBE.out⟩
      case measure=>simp only [intOf];omega
     ·have hz:(0:Int)<(r.length:Int):=by
       have:=List.length_pos_iff.2 hr0;omega
      have hbd:=HBW.out.below (gR _ _).drew;have hfd:aR (TB 250 wr.drew) wr.drew (.slice Af r.length cf) r:=aH.keepT HFAT.out fun _ _=>rfl;have HKR:=Ha (show Gm.KOk g r from by rw [HR.out];exact HKO.out.succ _ (by rw [← HR.out];exact hr0));have HST:=Ha (vN (TB 250 wr.drew) wr.drew (w.heap.size+1) b ma mt A0 c0 A1 c1 A2 c2 g (.slice (some ⟨rb,0,none⟩) m m) vs' kvs' ks' Af cf r hbd.st (fun _ h=>h.lt) hfd (HSM.out _ HKR.out) (by have:=HKR.out.len HW.out.lr HW.out.lx;omega) (by have:=HKL.out;omega) hbd.mm hbd.bm (MG.isMap hbd.mg) hbd.size);have y7:=aA hbd.st.box 7 _ rfl;obtain ⟨HBD,HFD,HR0,HSS⟩:=Zh4 hbd hfd hr0 (show (fun X:World=>X.cell? ⟨b,7,none⟩=some (.map (some mt))) wr.drew from y7);clear hbd hfd hr0;go_wp2_with fail;refine aE.start 10 (fun X=>X.cell? ⟨b,7,none⟩=some (.map (some mt))) (by kernel_rfl) ?hs_1 (fun hHeld=>?hr_1)
      case hs_1=>exact HSS.out
      refine aE.tks [0,1,2,3,4,5,6,7,8] ?_ (by kernel_rfl) (by assumption)
      iterate 9
       refine aK.cons ?_ (by rfl) (by rfl) (by intro w h;(try dsimp only at h);simp only [gA,gB,gC];go_simp;try with_reducible rfl) (by exact fun _ _ _ h=>h);simp only [gA,gB,gC,Act.put,gD,gE,gF]
      show aE _ _ _ _ _ _ _ _ _ _;refine aE.one (i:=9) (by kernel_rfl) rfl fun K hK=>?_;simp only [gA,gB,gC]
      go_simp
      with_reducible refine Calls.mono HST.out ?_
      rintro e w10 hst;obtain ⟨vs2,kvs2,rfl,hbw10,hb10,hcs⟩:=HBD.out.state HR0.out HFD.out hst;have hil2:i<65536:=by have:=HI.out;omega
      have hsl2:s<65536:=by omega
      have hixb:(List.idxOf r (Gm.addK ks' r):Int)≤3000:=by
       have h1:List.idxOf r (Gm.addK ks' r)≤(Gm.addK ks' r).length:=List.idxOf_le_length;have h2:=qT ks' r;have:=HKL.out;omega
      obtain ⟨w11,hst11,hm11,hc11,hs11⟩:=MG.store sPI hbw10.mg (x:=(⟨⟨i,hil2⟩,⟨s,hsl2⟩⟩:Pk)) (v:=(List.idxOf r (Gm.addK ks' r):Int)) trivial (by unfold inR;omega) (by have:=HI.out;omega);rw [DW (g:=g) (ks:=ks') (i:=i) (s:=s) (⟨⟨i,hil2⟩,⟨s,hsl2⟩⟩:Pk) (by unfold cN;simp)] at hm11;have hfe:eK (toF g ks' i s) (⟨⟨i,hil2⟩,⟨s,hsl2⟩⟩:Pk) (List.idxOf r (Gm.addK ks' r):Int)=toF g (Gm.addK ks' r) i (s+1):=funext fun p=>by
       have:=DX HAU2.out HIP.out.1 (by have:=HM.out;omega) (by rw [HNX.out];exact HR0.out) hil2 hsl2 p;rw [HNX.out] at this;exact this
      have HBW11:=Ha (show Bw G w.heap.size b ma mt rb m A0 c0 A1 c1 A2 c2 g w11 vs2 kvs2 (Gm.addK ks' r) FB (toF g (Gm.addK ks' r) i (s+1)) (n'+1) from hbw10.put (by
       rw [hfe] at hm11;exact hm11) hc11)
      have hst11:(Instr.mapUpdate 168 (.map (some mt)) (.agg #[.int .i64 i,.int .i64 s]) (.int .i64 (List.idxOf r (Gm.addK ks' r):Int))).run Tryz.prog w10=.ok () w11:=hst11;generalize (List.idxOf r (Gm.addK ks' r):Int)=ix at *;obtain ⟨HRW11,HBE11,HSS10⟩:=Zh3 ((HRW2.out.keep (w':=w10) (fun k hk=>hcs.tb (.inl rfl) k hk) (fun k hk=>hcs.tb (.inr rfl) k hk)).keep (w':=w11) (fun k hk=>hc11.same k hk.lt fun e=>MG.not_tb hbw10.mg _ (e▸hk)) (fun k hk=>hc11.same k hk.lt fun e=>MG.not_tb hbw10.mg _ (e▸hk))) (show Below w.heap.size w w11 from (HBE.out.drew.trans (hb10.mono (Nat.le_succ _))).trans (hc11.below (fun i e=>by have:=hbw10.mW;omega) (by have:=hbw10.size;omega))) (show (fun X:World=>X.cell? ⟨b,7,none⟩=some (.map (some mt))) w10 from aA hbw10.st.box 7 _ rfl);clear hst hbw10 hb10 hcs hm11 hc11 hs11 hfe hixb;dsimp only;refine hK.out _ _ ?_ (fun hHeld=>?_)
      ·exact HSS10.out
      clear hK K;try simp only [Act.put,gD,gE,gF]
      refine aE.last (by kernel_rfl) rfl fun K hK=>?_;simp only [gA,gB,gC]
      go_simp
      refine hK.out _ _ (aE.done (by kernel_rfl) ?_ _);go_wp2_with fail
      go_roundw
      case rel=>exact ⟨s+1,vs2,kvs2,Gm.addK ks' r,n'+1,by omega,by go_num,HBW11.out,HAS.out,HADD.out,by omega,HRW11.out,HBE11.out⟩
      case measure=>simp only [intOf];omega
    ·obtain rfl:s=m:=by omega
     have hlen2 := HBW.out.st.len; obtain ⟨Av2, cv2, rfl, _⟩ := HBW.out.st.row.shape; have y5 := aA HBW.out.st.box 5 _ rfl; rw [hlen2] at y5; have HKS2 := Ha (show ks' = Gm.procK g (ks[i]'HI.out) (g.top + 1) ks from by have h1 := HKS.out; rw [HL.out, HM.out] at h1; exact h1); obtain ⟨f, hf⟩ : ∃ f, 2002 - i = f + 1 := ⟨2002 - i - 1, by have := HI.out; omega⟩; have HF := Ha hf; clear hlen2 hf; by_cases hmany : 2000 < ks'.length
     ·have hmi:(2000:Int)<(ks'.length:Int):=by omega
      have HMA:=Ha hmany;clear hmany;go_wp2_with fail;refine bodyPost_ret (v:=.tuple #[.slice none 0 0,.int .i64 7]) (by simp [results,Tryz.results45,go_sem]) rfl ?_;refine ⟨.inl ⟨?_,rfl⟩,HBE.out⟩;rw [HBK.out,HF.out];exact rA HI.out (HKS2.out▸HMA.out)
     ·have hmi:¬(2000:Int)<(ks'.length:Int):=by omega
      have HMA:=Ha hmany;clear hmany;go_wp2_with fail
      go_roundw
      case rel=>
       refine ⟨i+1,.slice Av2 kvs'.length cv2,kvs',ks',n',by go_num, ?_,(HM.out▸HAU2.out).next,by have:=HMA.out;omega, ?_,by omega,HBE.out⟩
       ·rw [show toF g ks' (i+1) 0=toF g ks' i s from by rw [HM.out];exact (funext (DU g ks' i)).symm];exact HBW.out
       ·rw [HBK.out,HF.out,show 2002-(i+1)=f by have:=HF.out;omega,rB HI.out (by rw [← HKS2.out];have:=HMA.out;omega),← HKS2.out]
      case measure=>simp only [intOf];have:=HI.out;omega
  ·have hie:i=ks.length:=by omega
   have HKER:=Ha (show g.kernels=some ks from by
    rw [HBK.out,show 2002-i=(2001-i)+1 by omega];exact sX hi)
   have HAUT:=Ha (Gm.kernels_aut HKER.out);have hk0:0<ks.length:=(gY HAUT.out.zero).1;obtain ⟨sb,cs,hve,hsb,hsr⟩:=I0 HBW.out.st.row (by omega)
   injection hve with e1 _ e3
   subst e1 e3;rw [hlen] at hsr;have htw:Tw G w.heap.size wr.heap.size b mt (.slice (some ⟨rb,0,none⟩) m m) A0 c0 A1 c1 A2 c2 g wr sb cv (.map (some ma)) kvs ks n 0 (fun _=>.slice none 0 0):=by
    have hbo:=HBW.out.st.box;rw [hlen] at hbo;refine ⟨HBW.out.bx,HBW.out.GW,⟨HBW.out.st.hb,by omega,HBW.out.bx.lt,gO _⟩,hbo,hsr,HBW.out.its,fun j _ h=>absurd h (yJ j),fun _ _=>rfl, ?_⟩;have:=HBW.out.mg
    rwa [hie] at this
   have HTW:=Ha htw;have hge:¬(i:Int)<(ks.length:Int):=by omega
   obtain ⟨K,hK⟩:∃ K,K=ks.length:=⟨_,rfl⟩;have HK:=Ha hK;have hKl:K≤2000:=by omega
   rw [← hK] at y5 hge;clear hsb hsr htw hie hlen hi hil hkl hk0 HBW HBK HAU hK;go_wp2_with fail
   go_loopw [79] (fun iv wr=>∃ (j N:Nat) (TV:Nat→Value),j≤K∧iv=.int .i64 j∧Tw G w.heap.size N b mt (.slice (some ⟨rb,0,none⟩) m m) A0 c0 A1 c1 A2 c2 g wr sb cv (.map (some ma)) kvs ks n j TV∧(∀ t,j≤t→TV t=.slice none 0 0)∧Below w.heap.size w wr) (fun iv _=>K-(intOf iv).toNat)
   case atStart=>exact ⟨0,_,_,gX _,rfl,HTW.out,fun _ _=>rfl,HBE.out⟩
   case round=>
    obtain ⟨j,N,TV,hj,rfl,htw,htv,hbe⟩:=hrel;obtain ⟨HTW2,HTV,HBE2⟩:=Zh3 htw htv hbe;have y5:=aA htw.box 5 _ rfl;clear htw htv hbe HTW HBE;rw [← HK.out] at y5;by_cases hjk:j<K
    ·obtain ⟨l,hl⟩:∃ l,ks[j]? = some l:=⟨_,List.getElem?_eq_getElem (by rw [← HK.out];exact hjk)⟩;have HL:=Ha (gY hl);clear hl y5;go_wp2_with fail
     go_loopw [10] (fun iv wq=>∃ (s:Nat) (TV':Nat→Value),1≤s∧s≤m∧iv=.int .i64 s∧Tw G w.heap.size N b mt (.slice (some ⟨rb,0,none⟩) m m) A0 c0 A1 c1 A2 c2 g wq sb cv (.map (some ma)) kvs ks n j TV'∧aG N 102 2 ItV wq (TV' j) (Gm.transK g ks l (s-1))∧(∀ t,j<t→TV' t=.slice none 0 0)∧Below w.heap.size w wq) (fun iv _=>m-(intOf iv).toNat)
     case atStart=>exact ⟨1,TV,gO _,by have:=HM.out;omega,rfl,HTW2.out,by rw [HTV.out j (gO _)];exact aG.nil _ _ _ _ _,fun t ht=>HTV.out t (by omega),HBE2.out⟩
     case round=>
      obtain ⟨s,TV',hs1,hsm,rfl,htw,hnr,htv',hbe⟩:=hrel;obtain ⟨HTWa,HNRa,HTVa,HBEa⟩:=Zh4 htw hnr htv' hbe;clear htw hnr htv' hbe HTW2 HTV HBE2;obtain ⟨x0,x1,x2,x3⟩:=HTWa.out.bx.cells;go_wp2_with fail;refine (H4.out _ _ g HTWa.out.bx.old HTWa.out.bx.gm (by omega)).mono ?_;rintro e w9 ⟨rfl,hb9⟩;obtain ⟨HTW9,HNR9,HBE9⟩:=Zh3 (HTWa.out.below hb9) (aG.below HNRa.out hb9) (HBEa.out.trans (hb9.mono HBEa.out.size));have y7:=aA HTW9.out.box 7 _ rfl;clear hb9 x0 x1 x2 x3 HTWa HNRa HBEa;by_cases hst:s≤g.top
      ·have hj2:j<65536:=by omega
       have hs2:s<65536:=by omega
       have hlook:=MG.look sPI HTW9.out.mg (x:=(⟨⟨j,hj2⟩,⟨s,hs2⟩⟩:Pk)) trivial;have hnx:nxK g ks j s=g.succK l (s:Int):=by
        obtain ⟨h1,h2⟩:=HL.out;rw [jZ h1,h2]
       have hdn:cN g ks.length 0 j s:=by unfold cN;have:=HL.out.1;omega
       by_cases hr0:g.succK l (s:Int)=[]
       ·rw [fD (g:=g) (ks:=ks) (i:=ks.length) (s:=0) (p:=(⟨⟨j,hj2⟩,⟨s,hs2⟩⟩:Pk)) fun h=>h.2 (hnx.trans hr0)] at hlook;have hlook:(Instr.lookup 168 (.map (some mt)) (.agg #[.int .i64 j,.int .i64 s]) true).run Tryz.prog w9=.ok (.tuple #[.int .i64 0,.bool false]) w9:=hlook;have HT:=Ha (sK (ks:=ks) hs1 hr0);clear hr0 hnx hdn;go_wp2_with fail
        go_roundw
        case rel=>exact ⟨s+1,TV',by omega,by have:=HM.out;omega,by go_num,HTW9.out,by rw [Nat.add_sub_cancel,HT.out];exact HNR9.out,HTVa.out,HBE9.out⟩
        case measure=>simp only [intOf];have:=HM.out;omega
       ·rw [eH (g:=g) (ks:=ks) (i:=ks.length) (s:=0) (p:=(⟨⟨j,hj2⟩,⟨s,hs2⟩⟩:Pk)) hdn (fun h=>hr0 (hnx.symm.trans h))] at hlook;have hlook:(Instr.lookup 168 (.map (some mt)) (.agg #[.int .i64 j,.int .i64 s]) true).run Tryz.prog w9=.ok (.tuple #[.int .i64 (ks.idxOf (nxK g ks j s):Int),.bool true]) w9:=hlook;rw [hnx] at hlook;have HT:=Ha (sM (ks:=ks) hs1 hr0);have hix:(ks.idxOf (g.succK l (s:Int)):Int)≤2000:=by
         have h1:ks.idxOf (g.succK l (s:Int))≤ks.length:=List.idxOf_le_length;have:=HK.out;omega
        have hix0:(0:Int)≤(ks.idxOf (g.succK l (s:Int)):Int):=by omega
        generalize (ks.idxOf (g.succK l (s:Int)):Int)=ix at *;have htd:=HTW9.out.below (gR _ _).drew;have hnd:=aG.below HNR9.out (gR _ _).drew;have hjl:j<ks.length:=HL.out.1;obtain ⟨At,ct,hte,_⟩:=aG.shape hnd;obtain ⟨hj3,_,zt,zf⟩:=htd.row.cells hjl;have hll:=iN g ks l (s-1);obtain ⟨v',w3,hrun,hr3,hc3,_⟩:=aG.pushC 98 Tryz.underlying98 BV rfl (by decide) ItV.one 98 (us:=[.int .i64 s,.int .i64 ix]) (x:=((s:Int),ix)) rfl rfl hnd (by omega) (by unfold maxLen;omega) htd.Wb.2.2.2;obtain ⟨htp,hnp,hb3,hs3,hbp⟩:=htd.push hnd hc3 hr3;obtain ⟨A3,c3,rfl,_⟩:=aG.shape hr3;rw [hte] at hrun zt;have y5:=aA htd.box 5 _ rfl;rw [← HK.out] at y5;obtain ⟨_,_,zt3,zf3⟩:=(htd.row.keep hs3).cells hjl;rw [hte] at zt3;have y53:=aA (hb3.trans htd.box) 5 _ rfl;rw [← HK.out] at y53;have hAl:Below w9.drew.heap.size w9.drew (w9.drew.alloc (.cells #[.int .i64 s,.int .i64 ix] 102)):=(gR _ _).alloc (gO _) _;obtain ⟨LN,hLN⟩:∃ LN,LN=(Gm.transK g ks l (s-1)++[((s:Int),ix)]).length:=⟨_,rfl⟩;rw [← hLN] at htp hnp hbp hrun;rw [← HT.out] at hnp;obtain ⟨HTP,HNP,HBP⟩:=Zh3 htp hnp (show Below w.heap.size w (w3.setCell ⟨sb,j*2+1,none⟩ (.slice A3 LN c3)) from HBE9.out.drew.trans (hbp.mono (Nat.le_succ _)));obtain ⟨ll,hll2⟩:∃ ll,ll=(Gm.transK g ks l (s-1)).length:=⟨_,rfl⟩;rw [← hll2] at hrun zt zt3;obtain ⟨HSS,HS2,HS3⟩:=Zh3 (show (fun X:World=>X.cell? ⟨b,5,none⟩=some (.slice (some ⟨sb,0,none⟩) K cv)∧X.cell? ⟨sb,j*2+1,none⟩=some (.slice At ll ct)) w9.drew from ⟨y5,zt⟩) (show (fun X:World=>X.cell? ⟨b,5,none⟩=some (.slice (some ⟨sb,0,none⟩) K cv)∧X.cell? ⟨sb,j*2+1,none⟩=some (.slice At ll ct)) (w9.drew.alloc (.cells #[.int .i64 s,.int .i64 ix] 102)) from ⟨aD (w:=w9.drew) y5 hAl,aD (w:=w9.drew) zt hAl⟩) (show (fun X:World=>X.cell? ⟨b,5,none⟩=some (.slice (some ⟨sb,0,none⟩) K cv)∧X.cell? ⟨sb,j*2+1,none⟩=some (.slice At ll ct)) w3 from ⟨y53,zt3⟩);have hrun:WrA Tryz.prog #[98,98] 98 #[.slice At ll ct,.slice (some ⟨w9.heap.size,0,none⟩) 1 1] (w9.alloc (.cells #[.int .i64 s,.int .i64 ix] 102)).drew=.ok (.slice A3 LN c3) w3:=hrun;clear hAl htd hnd hte hr3 hc3 htp hnp hb3 hs3 hbp hll hll2 hLN hnx hdn hr0;go_wp2_with fail;refine aE.start 20 (fun X=>X.cell? ⟨b,5,none⟩=some (.slice (some ⟨sb,0,none⟩) K cv)∧X.cell? ⟨sb,j*2+1,none⟩=some (.slice At ll ct)) (by kernel_rfl) ?hs_2 (fun hHeld=>?hr_2)
        case hs_2=>exact HSS.out
        refine aE.tks [0,1,2,3,4,5,6,7,8,9,10,11,12,13,14,15] ?_ (by kernel_rfl) (by assumption)
        iterate 16
         refine aK.cons ?_ (by rfl) (by rfl) (by intro w h;(try dsimp only at h);simp only [gA,gB,gC];go_simp;try with_reducible rfl) (by exact fun _ _ _ h=>h);simp only [gA,gB,gC,Act.put,gD,gE,gF]
        show aE _ _ _ _ _ _ _ _ _ _;refine aE.one (i:=16) (by kernel_rfl) rfl fun K hK=>?_;simp only [gA,gB,gC]
        go_simp
        refine hK.out _ _ ?_ (fun hHeld=>?_)
        ·exact HS2.out
        clear hK K;try simp only [Act.put,gD,gE,gF]
        refine aE.one (i:=17) (by kernel_rfl) rfl fun K hK=>?_;simp only [gA,gB,gC]
        go_simp
        refine hK.out _ _ ?_ (fun hHeld=>?_)
        ·exact HS3.out
        clear hK K;try simp only [Act.put,gD,gE,gF]
        refine aE.one (i:=18) (by kernel_rfl) rfl fun K hK=>?_;simp only [gA,gB,gC]
        go_simp
        refine hK.out _ _ ?_ (fun hHeld=>?_)
        ·exact HS3.out
        clear hK K;try simp only [Act.put,gD,gE,gF]
        refine aE.tks [19] ?_ (by kernel_rfl) (by assumption)
        iterate 1
         refine aK.cons ?_ (by rfl) (by rfl) (by intro w h;(try dsimp only at h);simp only [gA,gB,gC];go_simp;try with_reducible rfl) (by exact fun _ _ _ h=>h);simp only [gA,gB,gC,Act.put,gD,gE,gF]
        show aE _ _ _ _ _ _ _ _ _ _;refine aE.last (by kernel_rfl) rfl fun K hK=>?_;simp only [gA,gB,gC]
        go_simp
        refine hK.out _ _ (aE.done (by kernel_rfl) ?_ _);go_wp2_with fail
        go_roundw
        case rel=>exact ⟨s+1,_,by omega,by have:=HM.out;omega,by go_num,HTP.out,by simp only [if_pos];rw [Nat.add_sub_cancel];exact HNP.out,fun t ht=>by simp only [if_neg (Nat.ne_of_gt ht)];exact HTVa.out t ht,HBP.out⟩
        case measure=>simp only [intOf];have:=HM.out;omega
      ·have hsT:s-1=g.top:=by have:=HM.out;omega
       have HN9:=Ha HNR9.out;rw [hsT] at HN9;clear hsT;go_wp2_with fail
       go_roundw
       case rel=>exact ⟨j+1,w9.heap.size,TV',by omega,by go_num,HTW9.out.next HL.out.1 (by rw [HL.out.2];exact HN9.out) HTVa.out,fun t ht=>HTVa.out t (by omega),HBE9.out⟩
       case measure=>simp only [intOf];omega
    ·obtain rfl:j=K:=by omega
     go_wp2_with fail;go_wp2_with fail;refine bodyPost_ret (v:=.tuple #[.slice (some ⟨sb,0,none⟩) j cv,.int .i64 0]) (by simp [results,Tryz.results45,go_sem]) rfl ?_;refine ⟨.inr ⟨ks,_,HKER.out,rfl, ?_⟩,HBE2.out⟩;rw [HK.out];refine ⟨_,_,rfl,HTW2.out.row.nc,HTW2.out.row.cm,fun _=>⟨_,_,rfl,HTW2.out.row.tb.lt,fun t ht=>?_⟩⟩;obtain ⟨h1,h2,h3,_⟩:=HTW2.out.row.cells ht;obtain ⟨A,c,h4,h5⟩:=HTW2.out.its t ht;obtain ⟨A',c',h6,h7⟩:=HTW2.out.done t ht (by rw [HK.out];exact ht);refine ⟨[.slice A ks[t].length c,.slice A' (Gm.transK g ks ks[t] g.top).length c'],rfl,⟨_,_,rfl,aH.keep h5 (fun _ h=>h.lt) (fun _ _=>rfl) fun _ _ h=>h,aH.keep h7 (fun _ h=>h.2.lt) (fun _ _=>rfl) fun _ _ h=>h⟩,fun q u hq=>?_⟩;rw [List.getElem?_eq_getElem h1] at h4
     injection h4 with h4
     rw [h4] at h2;rw [h6] at h3
     match q,hq with
     | 0,hq=>simp at hq;subst hq;simpa using h2
     | 1,hq=>simp at hq;subst hq;simpa using h3
     | q+2,hq=>simp at hq
end
end Go.Proofs.YtpidmmfjcghmeaaGreat
