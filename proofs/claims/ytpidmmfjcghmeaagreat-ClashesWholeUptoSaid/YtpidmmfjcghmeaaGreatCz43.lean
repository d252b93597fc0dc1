/- Towards clashesWhole_upto. -/
import Derived.Test.YtpidmmfjcghmeaaGreatCz41
set_option maxRecDepth 100000
set_option maxHeartbeats 16000000
set_option linter.all false
namespace Go.Proofs.YtpidmmfjcghmeaaGreat
open Go.RowKit
def lE (F:Nat→Fd) (m:Nat) (l:List Int) (w:World) (e:Ending) (w':World):Prop:=
 (∃ A c,e=.returned (.tuple #[.slice A (jn F m l).2.2.length c,.bool ((jn F m l).1 && !(jn F m l).2.1)])∧aF (TB 3 w') w' (.slice A (jn F m l).2.2.length c) (jn F m l).2.2∧aG w.heap.size 3 1 cF w' (.slice A (jn F m l).2.2.length c) (jn F m l).2.2)∧Below w.heap.size w w'
theorem DI (w:World) (br bW n bw bF m:Nat) (W:Nat→Option (List Int)) (V:Nat→Value) (F:Nat→Fd) (VF:Nat→Value) (i:Nat) (h:Ro w br bW n W V (.pointer (some ⟨bw,0,none⟩))) (hwo:Wo w w.heap.size bw bF m F VF) (hi:i<n) (hl:∀ j l,W j=some l→l.length≤1000000):
  Calls Tryz.prog 16 #[.pointer (some ⟨br,0,none⟩),.int .i64 i] w fun e w'=>lE F m (wayL W i) w e w':=by
 have HWY:=JL w br bW n W V (.pointer (some ⟨bw,0,none⟩)) i h hi hl;unfold oZ at HWY;generalize wayL W i=l at *;obtain ⟨HY,HR,HO⟩:=hs3 HWY h hwo;clear h hwo hl hi HWY;go_enter Tryz.func16,Tryz.ntmps16;go_wp2_with fail
 with_reducible refine Calls.mono HY.out ?_
 rintro e w1 ⟨⟨A,c,rfl,hat⟩,hb⟩;have HWL:=Ha (FX (TB 3 w1) w1 bw bF m F VF A c l ((HO.out.below hb).more hb.size) (fun _ h=>h.lt) hat);have HB:=Ha hb;have y1:=aA (HR.out.below hb).box 1 _ rfl;clear hat hb HR HO HY;go_wp2_with fail
 with_reducible refine Calls.mono HWL.out ?_
 rintro e w2 ⟨⟨A2,c2,rfl,hat,hnr⟩,hb⟩;have HF:=Ha (show aF (TB 3 w2) w2 (.slice A2 (jn F m l).2.2.length c2) (jn F m l).2.2∧Below w.heap.size w w2∧aG w.heap.size 3 1 cF w2 (.slice A2 (jn F m l).2.2.length c2) (jn F m l).2.2 from ⟨aH.keep hat (fun _ h=>h.2) (fun _ _=>rfl) fun _ _ h=>h,HB.out.trans (hb.mono HB.out.size),aG.lower hnr HB.out.size⟩);obtain ⟨bb,hbb⟩:∃ bb,bb=((jn F m l).1 && !(jn F m l).2.1):=⟨_,rfl⟩;obtain ⟨nn,hnn⟩:∃ nn,nn=(jn F m l).2.2.length:=⟨_,rfl⟩;rw [← hbb,← hnn];have HE:=Ha (gS hbb hnn);clear hat hnr hb HWL hbb hnn;go_wp2_with fail;refine bodyPost_ret (v:=.tuple #[.slice A2 nn c2,.bool bb]) (by simp [results,Tryz.results16,go_sem]) rfl ?_;refine ⟨⟨A2,c2,by rw [HE.out.1,HE.out.2],HF.out.1,HF.out.2.2⟩,HF.out.2.1⟩
section
attribute [local go_sem ↓] aI
def yL (F:Nat→Fd) (m:Nat) (l:List Int) (t:Int):List Int×Bool:=
 if ((jn F m l).1 && !(jn F m l).2.1)=false∨t=0 then ((jn F m l).2.2,(jn F m l).1 && !(jn F m l).2.1) else ((jn F m l).2.2++[t],true)
def o0 (F:Nat→Fd) (m:Nat) (l:List Int) (t:Int) (w:World) (e:Ending) (w':World):Prop:=
 (∃ A c,e=.returned (.tuple #[.slice A (yL F m l t).1.length c,.bool (yL F m l t).2])∧aF (TB 3 w') w' (.slice A (yL F m l t).1.length c) (yL F m l t).1)∧Below w.heap.size w w'
theorem qJ {w w':World} {wl:List Int×Bool} {u:List Int} {b:Bool} {A0:Option Addr} {c0:Nat} (h:wl=(u,b)) (hi:aF (TB 3 w') w' (.slice A0 u.length c0) u) (hb:Below w.heap.size w w'):
  (∃ A c,Ending.returned (.tuple #[.slice A0 u.length c0,.bool b])=.returned (.tuple #[.slice A wl.1.length c,.bool wl.2])∧aF (TB 3 w') w' (.slice A wl.1.length c) wl.1)∧Below w.heap.size w w':=by
 subst h;exact ⟨⟨A0,c0,rfl,hi⟩,hb⟩
theorem yM (w:World) (br bW n bw bF m:Nat) (W:Nat→Option (List Int)) (V:Nat→Value) (F:Nat→Fd) (VF:Nat→Value) (i:Nat) (t ka na kb nb:Int) (h:Ro w br bW n W V (.pointer (some ⟨bw,0,none⟩))) (hwo:Wo w w.heap.size bw bF m F VF) (hi:i<n) (hl:∀ j l,W j=some l→l.length≤1000000) (hlen:(jn F m (wayL W i)).2.2.length≤4096):
  Calls Tryz.prog 17 #[.pointer (some ⟨br,0,none⟩),.agg #[.int .i64 i,.int .i64 t,.int .i64 ka,.int .i64 na,.int .i64 kb,.int .i64 nb]] w fun e w'=>o0 F m (wayL W i) t w e w':=by
 have q1:=aC w (.cells #[.int .i64 i,.int .i64 t,.int .i64 ka,.int .i64 na,.int .i64 kb,.int .i64 nb] 50);have hb1:Below w.heap.size w (w.alloc (.cells #[.int .i64 i,.int .i64 t,.int .i64 ka,.int .i64 na,.int .i64 kb,.int .i64 nb] 50)):=(gR _ _).alloc (gO _) _;generalize hW1:w.alloc (.cells #[.int .i64 i,.int .i64 t,.int .i64 ka,.int .i64 na,.int .i64 kb,.int .i64 nb] 50)=w1 at *;have hT:=DI w1 br bW n bw bF m W V F VF i (h.below hb1) ((hwo.below hb1).more hb1.size) hi hl;unfold lE at hT;unfold o0 yL;generalize jn F m (wayL W i)=R at *;obtain ⟨ok,lg,u⟩:=R;simp only at hT hlen ⊢;obtain ⟨HT,HB1,HQ1⟩:=hs3 hT hb1 q1;obtain ⟨bb,hbb⟩:∃ bb,bb=(ok && !lg):=⟨_,rfl⟩;rw [← hbb] at HT ⊢;obtain ⟨wl,hwl⟩:∃ wl,wl=(if bb=false∨t=0 then (u,bb) else (u++[t],true)):=⟨_,rfl⟩;rw [← hwl];have HWL:=Ha hwl;clear hwl;have y0:=aA q1 0 _ rfl;clear h hwo hl hT hb1 q1 hbb;go_enter Tryz.func17,Tryz.ntmps17;go_wp2_with fail
 with_reducible refine Calls.mono HT.out ?_
 rintro e w2 ⟨⟨A,c,rfl,hat,hnr⟩,hb⟩;have y1:=aA ((hb.block _ (gL HQ1.out).1).trans HQ1.out) 1 _ rfl;have HF:=Ha (gS hat (HB1.out.trans (hb.mono HB1.out.size)));have HNR:=Ha (aG.lower hnr HB1.out.size);clear hat hnr hb HT y0;cases bb
 ·go_wp2_with fail;refine bodyPost_ret (v:=.tuple #[.slice A u.length c,.bool false]) (by simp [results,Tryz.results17,go_sem]) rfl ?_;exact qJ (HWL.out.trans (by simp)) HF.out.1 HF.out.2
 by_cases h0:t=0
 ·subst h0;go_wp2_with fail;refine bodyPost_ret (v:=.tuple #[.slice A u.length c,.bool true]) (by simp [results,Tryz.results17,go_sem]) rfl ?_;exact qJ (HWL.out.trans (by simp)) HF.out.1 HF.out.2
 ·obtain ⟨v',w3,hrun0,hr3,hc3,_⟩:=aG.pushC 26 Tryz.underlying26 cB rfl (by decide) cF.one 26 (us:=[.int .i64 t]) (x:=t) rfl rfl HNR.out (by omega) (by unfold maxLen;omega) HF.out.2.size;obtain ⟨A3,c3,rfl,_⟩:=aG.shape hr3;have HF3:=Ha (gS (aG.look hr3 (G:=TB 3 w3) fun k hk=>(aG.tb hr3 hk).2) (HF.out.2.trans (hc3.below (fun k e=>(aG.tb HNR.out e).1) HF.out.2.size)));have hrun:WrA Tryz.prog #[26,26] 26 #[.slice A u.length c,.slice (some ⟨w2.heap.size,0,none⟩) 1 1] (w2.alloc (.cells #[.int .i64 t] 3))=.ok (.slice A3 (u++[t]).length c3) w3:=hrun0;obtain ⟨ut,hLN⟩:∃ ut,ut=u++[t]:=⟨_,rfl⟩;rw [← hLN] at hrun HF3;have HE:=Ha (show wl=(ut,true) from by rw [HWL.out,hLN];simp [h0]);clear hr3 hc3 HF HNR hLN hrun0;go_wp2_with fail;refine bodyPost_ret (v:=.tuple #[.slice A3 ut.length c3,.bool true]) (by simp [results,Tryz.results17,go_sem]) rfl ?_;exact qJ HE.out HF3.out.1 HF3.out.2
end
end Go.Proofs.YtpidmmfjcghmeaaGreat
