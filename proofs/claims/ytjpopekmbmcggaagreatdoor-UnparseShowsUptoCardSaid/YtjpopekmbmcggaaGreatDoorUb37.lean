/- Towards unparseShows_card: UpMeth4, UpRMeth1, UpMeth5. Merged from smaller texts by a program of the author's. -/
import Derived.Test.YtjpopekmbmcggaaGreatDoorUb34
import Derived.Test.YtjpopekmbmcggaaGreatDoorUb35
import Derived.Test.YtjpopekmbmcggaaGreatDoorUb36
set_option maxRecDepth 100000
set_option maxHeartbeats 16000000
namespace Go.Proofs.YtjpopekmbmcggaaGreatDoor
open Go.RowKit
theorem mW {α:Type} (v:Tv α) (sep:List UInt8) (b:Bool) (l:List (WdF α)) (k:Nat) (h:k<l.length):bH v sep b (l.drop k)=(if b then sep else [])++wordX v l[k]++bH v sep true (l.drop (k+1)):=by rw [bC l k h,bH]
theorem jK (s:St) (a b:List UInt8):(s.put a).put b=s.put (a++b):=by simp [St.put]
theorem kN {α:Type} (v:Tv α) (l:List (RdF α)) (k:Nat) (s:St) (h:k<l.length):bE v (l.drop k) s=bE v (l.drop (k+1)) (cZ v l[k] (s.put [32])):=by rw [bC l k h,bE]
theorem CF (f:Nat) (ihw:PWd f) (G:Nat→Prop) (B b:Nat) (w:World) (v:Value) (xs:List (WdF (Nd f))) (sp:List UInt8) (st:St) (hG:∀ k,G k→k<B) (hT:TxB B w) (hs:aW G w 1 (WdN f G w) v xs) (hfw:∀ x∈xs,eA (Nd.ft f) x) (hp:Pn B b st w) (hsp:sp.length≤8) (hl:st.len+64*tot (wtW (Nd.wt f)) xs≤1099511627744):
  Calls Tryz.prog 252 #[.pointer (some ⟨b,0,none⟩),v,.string ⟨sp.toArray⟩] w (Wrt B b w (st.put (bH (Nd.tv f) sp false xs))):=by
 obtain ⟨A1,c1,rfl,hlc,hmc⟩:=hs.shape;unfold maxLen at hmc;have hB:=hp.size;obtain ⟨w0,rfl⟩:∃ x:World,x=w:=⟨w,rfl⟩;have KW:=Ha (Ks.refl B b w0);have LW:=hB;obtain ⟨HT,HSX,HG⟩:=hs3 hT hs hG;obtain ⟨st0,hst0⟩:∃ z:St,z=st:=⟨_,rfl⟩;have ln0:st0.len=st.len:=by rw [hst0]
 have HP0:=Ha hp;rw [← hst0] at HP0;obtain ⟨ES0,KS0,IHW,HFW⟩:=hs4 hst0 (Ks.refl B b w0) ihw hfw;clear hp hG hT hs hst0 ihw hfw;go_enter Tryz.func252,Tryz.ntmps252;go_wp2_with fail
 go_loopw [10] (fun i wr=>∃ (k:Nat) (str:St),k≤xs.length∧i=.int .i64 k∧str.put (bH (Nd.tv f) sp (decide (0<k)) (xs.drop k))=st0.put (bH (Nd.tv f) sp false xs)∧str.len+64*tot (wtW (Nd.wt f)) (xs.drop k)≤1099511627744∧Pn B b str wr∧Ks B b w0 wr) (fun i _=>xs.length-(intOf i).toNat)
 case atStart=>exact ⟨0,st0,by omega,rfl,rfl,by rw [List.drop_zero];omega,HP0.out,KS0.out⟩
 case round=>
  obtain ⟨k,str,hk,rfl,he,lnr,hq,hks⟩:=hrel;obtain ⟨HE,HPr,KSr⟩:=hs3 he hq hks;clear he hq hks;by_cases hlt:k<xs.length
  ·obtain ⟨bkX,okX,rfl,hg,hel⟩:=HSX.out.elem (by omega);have HELX:=Ha hel;have HGKX:=Ha hg;clear hel hg;have HD:=Ha (mW (Nd.tv f) sp (decide (0<k)) xs k hlt);have htd:=bS (wtW (Nd.wt f)) xs k hlt;obtain ⟨usk,hvl,hR0,hcell⟩:=HELX.out k (by omega);have z:=fun j u hj=>(keepB HG.out ((KW.out.trans KSr.out).below hB) _ HGKX.out).trans (hcell j u hj);obtain ⟨A0k,n0k,c0k,rfl⟩:=hR0.shape;have dk_0:wr.cell? ⟨bkX,okX+k,none⟩=some (.slice A0k n0k c0k):=by simpa using z 0 _ rfl
   have HEk:=Ha hR0;clear hR0 z hcell hvl;obtain ⟨wvk1,hVvk1,hwv,hev⟩:=eP wr (.cells #[.slice A0k n0k c0k] 31);have hny:wr.heap.size≠b:=by have:=HPr.out.lt;omega
   obtain ⟨KSvk1,HPvk1,HYvk1⟩:=hs3 (KSr.out.trans (.of_below hwv)) (HPr.out.below hwv) hev;clear hwv hev;have y0:wvk1.cell? ⟨wr.heap.size,0,none⟩=some (.slice A0k n0k c0k):=aF HYvk1.out 0 _ rfl;by_cases hbr:0<k
   ·go_wp2_with fail;refine (fR sp HPvk1.out (by omega)).mono ?_;rintro e w2 ⟨rfl,hq,hk⟩;have KS2:=Ha (KSvk1.out.trans hk);have HY2:=Ha (hk.box HYvk1.out hny (by decide) (by decide));obtain ⟨st2,hst⟩:∃ zst:St,zst=str.put sp:=⟨_,rfl⟩;have ln2:=St.put_len str sp;rw [← hst] at hq ln2;have ES2:=Ha hst;have HP2:=Ha hq;clear hst hq hk  y0;have y0:w2.cell? ⟨wr.heap.size,0,none⟩=some (.slice A0k n0k c0k):=aF HY2.out 0 _ rfl;have hwltw:=cD (Nd.tv_ok f) (xs[k]);have HXw:=Ha (IHW.out G w2 _ _ _ xs[k] (fun j hj=>gK (HG.out j hj) (Nat.le_trans LW KS2.out.size)) (HT.out.below (KS2.out.below LW)).1 (HEk.out.belowB HG.out ((KW.out.trans KS2.out).below hB)) (HFW.out _ (List.getElem_mem hlt)) (by unfold LIM;omega));go_wp2_with fail;refine HXw.out.mono ?_;rintro e wt3 ⟨rfl,hk⟩;obtain ⟨KSt3,HPt3,HYt3⟩:=hs3 (KS2.out.trans (.of_below hk)) (HP2.out.below hk) ((Ks.of_below (B:=B) (b:=b) hk).box HY2.out hny (by decide) (by decide));clear hk HXw dk_0 y0;obtain ⟨tw,htw⟩:∃ l:List UInt8,l=wordX (Nd.tv f) (xs[k]):=⟨_,rfl⟩;rw [← htw] at hwltw;have HTW:=Ha htw;unfold bs;rw [← htw];clear htw;have y0:wt3.cell? ⟨wr.heap.size,0,none⟩=some (.slice A0k n0k c0k):=aF HYt3.out 0 _ rfl;go_wp2_with fail;refine (fR tw HPt3.out (by omega)).mono ?_;rintro e w4 ⟨rfl,hq,hk⟩;have KS4:=Ha (KSt3.out.trans hk);have HY4:=Ha (hk.box HYt3.out hny (by decide) (by decide));obtain ⟨st4,hst⟩:∃ zst:St,zst=st2.put tw:=⟨_,rfl⟩;have ln4:=St.put_len st2 tw;rw [← hst] at hq ln4;have ES4:=Ha hst;have HP4:=Ha hq;clear hst hq hk  y0;have y0:w4.cell? ⟨wr.heap.size,0,none⟩=some (.slice A0k n0k c0k):=aF HY4.out 0 _ rfl;have HN:=Ha (show st4.put (bH (Nd.tv f) sp (decide (0<k+1)) (xs.drop (k+1)))=st0.put (bH (Nd.tv f) sp false xs) by rw [← HE.out,HD.out,decide_eq_true (show 0<k+1 by omega),ES4.out,← HTW.out,ES2.out,decide_eq_true hbr,if_pos rfl,jK,jK,← List.append_assoc]);go_wp2_with fail
    go_roundw
    case rel=>exact ⟨k+1,st4,by omega,by go_num,HN.out,by omega,HP4.out,KS4.out⟩
    case measure=>simp only [intOf];omega
   ·have hwltw:=cD (Nd.tv_ok f) (xs[k]);have HXw:=Ha (IHW.out G wvk1 _ _ _ xs[k] (fun j hj=>gK (HG.out j hj) (Nat.le_trans LW KSvk1.out.size)) (HT.out.below (KSvk1.out.below LW)).1 (HEk.out.belowB HG.out ((KW.out.trans KSvk1.out).below hB)) (HFW.out _ (List.getElem_mem hlt)) (by unfold LIM;omega));go_wp2_with fail;refine HXw.out.mono ?_;rintro e wt2 ⟨rfl,hk⟩;obtain ⟨KSt2,HPt2,HYt2⟩:=hs3 (KSvk1.out.trans (.of_below hk)) (HPvk1.out.below hk) ((Ks.of_below (B:=B) (b:=b) hk).box HYvk1.out hny (by decide) (by decide));clear hk HXw dk_0 y0;obtain ⟨tw,htw⟩:∃ l:List UInt8,l=wordX (Nd.tv f) (xs[k]):=⟨_,rfl⟩;rw [← htw] at hwltw;have HTW:=Ha htw;unfold bs;rw [← htw];clear htw;have y0:wt2.cell? ⟨wr.heap.size,0,none⟩=some (.slice A0k n0k c0k):=aF HYt2.out 0 _ rfl;go_wp2_with fail;refine (fR tw HPt2.out (by omega)).mono ?_;rintro e w3 ⟨rfl,hq,hk⟩;have KS3:=Ha (KSt2.out.trans hk);have HY3:=Ha (hk.box HYt2.out hny (by decide) (by decide));obtain ⟨st3,hst⟩:∃ zst:St,zst=str.put tw:=⟨_,rfl⟩;have ln3:=St.put_len str tw;rw [← hst] at hq ln3;have ES3:=Ha hst;have HP3:=Ha hq;clear hst hq hk  y0;have y0:w3.cell? ⟨wr.heap.size,0,none⟩=some (.slice A0k n0k c0k):=aF HY3.out 0 _ rfl;have HN:=Ha (show st3.put (bH (Nd.tv f) sp (decide (0<k+1)) (xs.drop (k+1)))=st0.put (bH (Nd.tv f) sp false xs) by rw [← HE.out,HD.out,decide_eq_true (show 0<k+1 by omega),ES3.out,← HTW.out,decide_eq_false hbr,if_neg Bool.false_ne_true,jK,List.nil_append]);go_wp2_with fail
    go_roundw
    case rel=>exact ⟨k+1,st3,by omega,by go_num,HN.out,by omega,HP3.out,KS3.out⟩
    case measure=>simp only [intOf];omega
  ·have hpe:str=st0.put (bH (Nd.tv f) sp false xs):=by rw [← HE.out,List.drop_eq_nil_of_le (by omega),bH,dN]
   rw [ES0.out] at hpe;have FIN:=Ha hpe.symm;clear hpe;go_wp2_with fail
   go_end0
   rw [FIN.out];exact ⟨rfl,HPr.out,KW.out.trans KSr.out⟩
theorem yX (f:Nat) (ihw:PWd f) (G:Nat→Prop) (B b:Nat) (w:World) (v:Value) (xs:List (RdF (Nd f))) (st:St) (hG:∀ k,G k→k<B) (hT:TxB B w) (hs:aW G w 4 (RdN f G w) v xs) (hfw:∀ x∈xs,eA (Nd.ft f) x.tz) (hp:Pn B b st w) (hl:st.len+64*tot (wtR (Nd.wt f)) xs≤1099511627744):
  Calls Tryz.prog 203 #[.pointer (some ⟨b,0,none⟩),v] w (Wrt B b w (bE (Nd.tv f) xs st)):=by
 obtain ⟨A1,c1,rfl,hlc,hmc⟩:=hs.shape;unfold maxLen at hmc;have hB:=hp.size;obtain ⟨w0,rfl⟩:∃ x:World,x=w:=⟨w,rfl⟩;have KW:=Ha (Ks.refl B b w0);have LW:=hB;obtain ⟨HT,HSX,HG⟩:=hs3 hT hs hG;obtain ⟨st0,hst0⟩:∃ z:St,z=st:=⟨_,rfl⟩;have ln0:st0.len=st.len:=by rw [hst0]
 have HP0:=Ha hp;rw [← hst0] at HP0;obtain ⟨ES0,KS0,IHW,HFW⟩:=hs4 hst0 (Ks.refl B b w0) ihw hfw;clear hp hG hT hs hst0 ihw hfw;go_enter Tryz.func203,Tryz.ntmps203;go_wp2_with fail
 go_loopw [8] (fun i wr=>∃ (k:Nat) (str:St),k≤xs.length∧i=.int .i64 k∧bE (Nd.tv f) (xs.drop k) str=bE (Nd.tv f) xs st0∧str.len+64*tot (wtR (Nd.wt f)) (xs.drop k)≤1099511627744∧Pn B b str wr∧Ks B b w0 wr) (fun i _=>xs.length-(intOf i).toNat)
 case atStart=>exact ⟨0,st0,by omega,rfl,rfl,by rw [List.drop_zero];omega,HP0.out,KS0.out⟩
 case round=>
  obtain ⟨k,str,hk,rfl,he,lnr,hq,hks⟩:=hrel;obtain ⟨HE,HPr,KSr⟩:=hs3 he hq hks;clear he hq hks;by_cases hlt:k<xs.length
  ·obtain ⟨bkX,okX,rfl,hg,hel⟩:=HSX.out.elem (by omega);have HELX:=Ha hel;have HGKX:=Ha hg;clear hel hg;have HD:=Ha (kN (Nd.tv f) xs k str hlt);have htd:=bS (wtR (Nd.wt f)) xs k hlt;obtain ⟨usk,hvl,hR0,hcell⟩:=HELX.out k (by omega);have z:=fun j u hj=>(keepB HG.out ((KW.out.trans KSr.out).below hB) _ HGKX.out).trans (hcell j u hj);obtain ⟨sk,ok,A2k,n2k,c2k,shk,rfl⟩:=hR0.shape;have dk_0:wr.cell? ⟨bkX,okX+k*4,none⟩=some (.string sk):=by simpa using z 0 _ rfl
   have dk_1:wr.cell? ⟨bkX,okX+k*4+1,none⟩=some (.int .i64 ok):=by simpa using z 1 _ rfl
   have dk_2:wr.cell? ⟨bkX,okX+k*4+2,none⟩=some (.slice A2k n2k c2k):=by simpa using z 2 _ rfl
   have dk_3:wr.cell? ⟨bkX,okX+k*4+3,none⟩=some (.string shk):=by simpa using z 3 _ rfl
   have HEk:=Ha hR0;clear hR0 z hcell hvl;obtain ⟨wvk1,hVvk1,hwv,hev⟩:=eP wr (.cells #[.string sk,.int .i64 ok,.slice A2k n2k c2k,.string shk] 33);have hny:wr.heap.size≠b:=by have:=HPr.out.lt;omega
   obtain ⟨KSvk1,HPvk1,HYvk1⟩:=hs3 (KSr.out.trans (.of_below hwv)) (HPr.out.below hwv) hev;clear hwv hev;have y0:wvk1.cell? ⟨wr.heap.size,0,none⟩=some (.string sk):=aF HYvk1.out 0 _ rfl;have y1:wvk1.cell? ⟨wr.heap.size,1,none⟩=some (.int .i64 ok):=aF HYvk1.out 1 _ rfl;have y2:wvk1.cell? ⟨wr.heap.size,2,none⟩=some (.slice A2k n2k c2k):=aF HYvk1.out 2 _ rfl;have y3:wvk1.cell? ⟨wr.heap.size,3,none⟩=some (.string shk):=aF HYvk1.out 3 _ rfl;go_wp2_with fail;refine (fR [32] HPvk1.out (by simp only [gG,gH];omega)).mono ?_;rintro e w2 ⟨rfl,hq,hk⟩;have KS2:=Ha (KSvk1.out.trans hk);have HY2:=Ha (hk.box HYvk1.out hny (by decide) (by decide));obtain ⟨st2,hst⟩:∃ zst:St,zst=str.put [32]:=⟨_,rfl⟩;have ln2:=St.put_len str [32];rw [← hst] at hq ln2;have ES2:=Ha hst;have HP2:=Ha hq;clear hst hq hk  y0 y1 y2 y3;have y0:w2.cell? ⟨wr.heap.size,0,none⟩=some (.string sk):=aF HY2.out 0 _ rfl;have y1:w2.cell? ⟨wr.heap.size,1,none⟩=some (.int .i64 ok):=aF HY2.out 1 _ rfl;have y2:w2.cell? ⟨wr.heap.size,2,none⟩=some (.slice A2k n2k c2k):=aF HY2.out 2 _ rfl;have y3:w2.cell? ⟨wr.heap.size,3,none⟩=some (.string shk):=aF HY2.out 3 _ rfl;simp only [gG,gH] at ln2;have hkl:=eJ (Nd.tv_ok f) xs[k] st2;have HX:=Ha (uG f IHW.out G B b w2 _ xs[k] st2 HG.out (HT.out.below (KS2.out.below LW)) (HEk.out.belowB HG.out ((KW.out.trans KS2.out).below hB)) (HFW.out _ (List.getElem_mem hlt)) HP2.out (by unfold LIM;omega));go_wp2_with fail;refine (HX.out).mono ?_;rintro e w3 ⟨rfl,hq,hk⟩;have KS3:=Ha (KS2.out.trans hk);have HY3:=Ha (hk.box HY2.out hny (by decide) (by decide));obtain ⟨st3,hst⟩:∃ zst:St,zst=cZ (Nd.tv f) xs[k] st2:=⟨_,rfl⟩;have ln3:=hkl;rw [← hst] at hq ln3;have ES3:=Ha hst;have HP3:=Ha hq;clear hst hq hk HX hkl dk_0 dk_1 dk_2 dk_3 y0 y1 y2 y3;have y0:w3.cell? ⟨wr.heap.size,0,none⟩=some (.string sk):=aF HY3.out 0 _ rfl;have y1:w3.cell? ⟨wr.heap.size,1,none⟩=some (.int .i64 ok):=aF HY3.out 1 _ rfl;have y2:w3.cell? ⟨wr.heap.size,2,none⟩=some (.slice A2k n2k c2k):=aF HY3.out 2 _ rfl;have y3:w3.cell? ⟨wr.heap.size,3,none⟩=some (.string shk):=aF HY3.out 3 _ rfl;have HN:=Ha (show bE (Nd.tv f) (xs.drop (k+1)) st3=bE (Nd.tv f) xs st0 by rw [← HE.out,HD.out,ES3.out,ES2.out]);go_wp2_with fail
   go_roundw
   case rel=>exact ⟨k+1,st3,by omega,by go_num,HN.out,by omega,HP3.out,KS3.out⟩
   case measure=>simp only [intOf];omega
  ·have hpe:str=bE (Nd.tv f) xs st0:=by rw [← HE.out,List.drop_eq_nil_of_le (by omega),bE]
   rw [ES0.out] at hpe;have FIN:=Ha hpe.symm;clear hpe;go_wp2_with fail
   go_end0
   rw [FIN.out];exact ⟨rfl,HPr.out,KW.out.trans KSr.out⟩
theorem rK (f:Nat) (ih:RWd f) (G:Nat→Prop) (w:World) (v:Value) (xs:List (WdF (Nd f))) (sep:List UInt8) (hG:∀ k,G k→k<w.heap.size) (hs:aW G w 1 (WdN f G w) v xs) (hf:∀ x∈xs,eA (Nd.ft f) x) (hsep:sep.length≤8) (hl:64*tot (wtW (Nd.wt f)) xs≤LIM):
  Calls Tryz.prog 232 #[v,.string ⟨sep.toArray⟩] w fun e w'=>e=.returned (bs (bH (Nd.tv f) sep false xs))∧Below w.heap.size w w':=by
 obtain ⟨A,c,rfl,hlc,hm,hel⟩:=hs;have HEL:=Ha hel;have HG:=Ha hG;have IH:=Ha ih;have HF:=Ha hf;unfold maxLen at hm;have hjl:=fU (Nd.tv_ok f) sep hsep xs false;have HTL:=Ha (show ∀ k (h:k<xs.length),64*wtW (Nd.wt f) xs[k]≤LIM from fun k h=>by
  have:=iP (W:=wtW (Nd.wt f)) xs k _ (List.getElem?_eq_getElem h);omega)
 unfold LIM at hl;clear hG hel hf ih;go_enter Tryz.func232,Tryz.ntmps232;go_wp2_with fail
 go_loopw [5,6] (fun s i wr=>∃ (k:Nat) (pre:List UInt8),k≤xs.length∧s=.string ⟨pre.toArray⟩∧i=.int .i64 k∧pre++bH (Nd.tv f) sep (decide (0<k)) (xs.drop k)=bH (Nd.tv f) sep false xs∧Below w.heap.size w wr) (fun _ i _=>xs.length-(intOf i).toNat)
 case atStart=>exact ⟨0,[],by omega,rfl,rfl,rfl,Below.refl _ _⟩
 case round=>
  obtain ⟨k,pre,hk,rfl,rfl,he,hb⟩:=hrel;have HE:=Ha he;have HB:=Ha hb;have hpl:pre.length≤(bH (Nd.tv f) sep false xs).length:=by rw [← he,gI];omega
  clear he;by_cases hlt:k<xs.length
  ·obtain ⟨bb,off,rfl,hg,hel⟩:=HEL.out (by omega);obtain ⟨vs,hvl,hR0,hcell⟩:=hel k hlt;have hR:=hR0.below HG.out hb;have z:=fun j u hj=>(bA HG.out hb _ hg).trans (hcell j u hj);obtain ⟨A0,n0,c0,rfl⟩:=hR.shape;have d0:wr.cell? ⟨bb,off+k,none⟩=some (.slice A0 n0 c0):=by simpa using z 0 _ rfl
   have HX:=Ha (IH.out G wr A0 n0 c0 xs[k] (aG HG.out hb) hR (HF.out _ (List.getElem_mem hlt)) (HTL.out k hlt));have HD:=Ha (mW (Nd.tv f) sep (decide (0<k)) xs k hlt);have hwl:pre.length+(if decide (0<k)=true then sep else []).length+(wordX (Nd.tv f) xs[k]).length≤(bH (Nd.tv f) sep false xs).length:=by rw [← HE.out,HD.out,gI,gI,gI];omega
   generalize wordX (Nd.tv f) xs[k]=tx at *;clear hel hcell hg hR hR0 z hvl hb;by_cases hk0:0<k
   ·have hd:decide (0<k)=true:=decide_eq_true hk0;rw [hd,if_pos rfl] at hwl;obtain ⟨z1,hz1⟩:∃ z:List UInt8,z=pre++sep:=⟨_,rfl⟩;have a1:=bN pre sep (by omega);rw [← hz1] at a1;have zl:z1.length=pre.length+sep.length:=by rw [hz1,gI]
    have a2:=bN z1 tx (by omega);have HN:=Ha (show (z1++tx)++bH (Nd.tv f) sep (decide (0<k+1)) (xs.drop (k+1))=bH (Nd.tv f) sep false xs by rw [← HE.out,HD.out,hd,decide_eq_true (show 0<k+1 by omega),hz1,if_pos rfl];simp only [List.append_assoc]);have hki:(0:Int)<(k:Int):=by omega
    clear hz1 hd;go_wp2_with fail;refine HX.out.mono ?_;rintro e w1 ⟨rfl,hb1⟩;have HB1:=Ha (HB.out.trans (hb1.mono HB.out.size));clear hb1 d0;unfold bs;go_wp2_with fail
    go_roundw
    case rel=>exact ⟨k+1,z1++tx,by omega,rfl,by go_num,HN.out,HB1.out⟩
    case measure=>simp only [intOf];omega
   ·obtain rfl:k=0:=by omega
    rw [decide_eq_false (Nat.lt_irrefl 0),if_neg Bool.false_ne_true,gH] at hwl;rw [Nat.add_zero] at d0;have a2:=bN pre tx (by omega);have HN:=Ha (show (pre++tx)++bH (Nd.tv f) sep (decide (0<0+1)) (xs.drop (0+1))=bH (Nd.tv f) sep false xs by rw [← HE.out,HD.out,decide_eq_false (Nat.lt_irrefl 0),decide_eq_true (show 0<0+1 by omega)];simp only [Bool.false_eq_true,if_false,List.nil_append,List.append_assoc]);go_wp2_with fail;refine HX.out.mono ?_;rintro e w1 ⟨rfl,hb1⟩;have HB1:=Ha (HB.out.trans (hb1.mono HB.out.size));clear hb1 d0;unfold bs;go_wp2_with fail
    go_roundw
    case rel=>exact ⟨0+1,pre++tx,by omega,rfl,by go_num,HN.out,HB1.out⟩
    case measure=>simp only [intOf];omega
  ·have hpe:pre=bH (Nd.tv f) sep false xs:=by have:=HE.out;rw [List.drop_eq_nil_of_le (by omega),bH,List.append_nil] at this;exact this
   have HPE:=Ha hpe;clear hb hpe;go_wp2_with fail;go_ret;exact ⟨by rw [← HPE.out];rfl,HB.out⟩
theorem zB (e s:List UInt8) (t:Bool) (w:World) (h:s.length+e.length+1≤1099511627776):Calls Tryz.prog 248 #[.agg #[.string ⟨e.toArray⟩,.bool t],.string ⟨s.toArray⟩] w fun r w'=>r=.returned (bs (s++e++[10]))∧Below w.heap.size w w':=by
 have h1:=fun W=>bN s e (by omega) W;have h2:=fun W=>bN (s++e) [10] (by rw [gI,gG,gH];omega) W;go_enter Tryz.func248,Tryz.ntmps248;go_wp2_with fail;go_ret;exact ⟨by rw [List.append_assoc];rfl,(Below.refl _ _).alloc (Nat.le_refl _) _⟩
theorem nE (f:Nat) (ih:RWd f) (G:Nat→Prop) (b:Nat) (w:World) (vs:List Value) (r:RdF (Nd f)) (st:St) (hG:∀ k,G k→k<b) (hv:RdN f G w vs r) (hf:eA (Nd.ft f) r.tz) (hp:Tx b st w) (hl:st.len+64*wtR (Nd.wt f) r≤LIM+32):
  Calls Tryz.prog 231 #[.pointer (some ⟨b,0,none⟩),ag vs] w (Wtx b w (cZ (Nd.tv f) r st)):=by
 have hwlen:=cD (Nd.tv_ok f) r.tz;have htx:=nK r.op;have hut:=nL r.tz.p;obtain ⟨num,op,tw,here⟩:=r;obtain ⟨vt,rfl,hns,hhs,hw⟩:=hv;obtain ⟨A,n,c,hvt⟩:=WdN.shape hw
 injection hvt with hvt
 subst hvt;have hww:WdN f G w [.slice A n c] tw:=hw;obtain ⟨rfl,hnc,hcm,hwt,hpt,-⟩:=hww.cmds;simp only at hf hwlen htx hut;have hl2:st.len+64*wtR (Nd.wt f) ⟨num,op,tw,here⟩≤1099511627776+32:=hl;unfold wtR at hl2;simp only at hl2;have hwt2:tw.p.wt+1≤wtW (Nd.wt f) tw:=by unfold wtW;omega
 obtain ⟨nm,rfl⟩:∃ l:List UInt8,num=⟨l.toArray⟩:=⟨num.toList,by rw [bP]⟩;obtain ⟨hr,rfl⟩:∃ l:List UInt8,here=⟨l.toArray⟩:=⟨here.toList,by rw [bP]⟩;rw [aP,aP] at hl2;show Calls Tryz.prog 231 #[.pointer (some ⟨b,0,none⟩),.agg #[.string ⟨nm.toArray⟩,.int .i64 op,.slice A tw.p.len c,.string ⟨hr.toArray⟩]] w (Wtx b w _);have hB:=hp.lt;obtain ⟨w0,hW,hbw,hbx⟩:=cpd w (.cells #[.string ⟨nm.toArray⟩,.int .i64 op,.slice A tw.p.len c,.string ⟨hr.toArray⟩] 33);have hnb:w.heap.size≠b:=by omega
 have KW:=Ha (Kb.of_below (b:=b) hbw);have LW:b<w0.heap.size:=gK hB hbw.size;have hb0:Below b w w0:=hbw.mono (Nat.le_of_lt hB);have HWD:=Ha (hww.belowB hG hb0);have HPT:=Ha (hpt.keep fun p hp=>World.cell?_of_block (hb0.block _ (hG _ hp)));have HP0:=Ha (hp.keep hbw);have HG:=Ha hG;have IH:=Ha ih;have HF:=Ha hf;have HBX:=Ha hbx;have HS:=Ha (show ∀ X,Kb b w0 X→X.cell? ⟨w.heap.size,0,none⟩=some (.string ⟨nm.toArray⟩)∧X.cell? ⟨w.heap.size,1,none⟩=some (.int .i64 op)∧X.cell? ⟨w.heap.size,2,none⟩=some (.slice A tw.p.len c)∧X.cell? ⟨w.heap.size,3,none⟩=some (.string ⟨hr.toArray⟩) from fun X hX=>by
  have:=hX.box HBX.out hnb;exact ⟨aF this 0 _ rfl,aF this 1 _ rfl,aF this 2 _ rfl,aF this 3 _ rfl⟩)
 obtain ⟨x0,x1,x2,x3⟩:=HS.out _ (Kb.refl b w0);obtain ⟨tq,hto⟩:∃ l:List UInt8,l=Ope.txtI op:=⟨_,rfl⟩;obtain ⟨td,htd⟩:∃ l:List UInt8,l=wordX (Nd.tv f) tw:=⟨_,rfl⟩;have HTO:=Ha hto;have HTD:=Ha htd;rw [← hto] at htx;rw [← htd] at hwlen;have FT:=Ha (show ∀ X,Calls Tryz.prog 247 #[.int .i64 op] X fun e w'=>e=.returned (bs tq)∧X=w' from fun X=>by rw [hto];exact DI op X);have FW:=Ha (show ∀ X,Kb b w0 X→Calls Tryz.prog 75 #[.agg #[.slice A tw.p.len c]] X fun e w'=>e=.returned (bs td)∧Kb b w0 w'∧(∀ s,Tx b s X→Tx b s w') from fun X hX=>
  (IH.out G X A tw.p.len c tw (fun k hk=>Nat.lt_trans (HG.out k hk) (gK LW hX.size)) (HWD.out.belowB HG.out (hX.below (Nat.le_of_lt LW))) HF.out (by unfold LIM;omega)).mono fun _ _ ⟨h1,h2⟩=>⟨by rw [htd];exact h1,hX.trans (.of_below h2),fun s hs=>hs.keep h2⟩)
 have FU:=Ha (show ∀ X,Kb b w0 X→Calls Tryz.prog 49 #[.agg #[.slice A tw.p.len c]] X fun e w'=>e=.returned (.tuple #[bs (tw.p.utx.getD []),.bool tw.p.utx.isSome])∧Below X.heap.size X w' from fun X hX=>
  pY tw.p A c G X hwt (fun k hk=>Nat.lt_trans (HG.out k hk) (gK LW hX.size)) (HPT.out.keep fun p hp=>World.cell?_of_block ((hX.below (Nat.le_of_lt LW)).block _ (HG.out _ hp))))
 have R0:=Ha (show Kb b w0 w0.drew from .of_below (Below.refl _ _).drew);have hp0:=HP0.out.keep (Below.refl w0.heap.size w0).drew;have P0:=Ha hp0;have t0:=hp0.c0;clear hbw hb0 hp hp0 hG hbx hw hww hpt ih hf hto htd;have hle:=St.le1 st;obtain ⟨z1,hz1⟩:∃ z:List UInt8,z=st.1++nm:=⟨_,rfl⟩;have l1:z1.length=st.1.length+nm.length:=by rw [hz1,gI]
 obtain ⟨z2,hz2⟩:∃ z:List UInt8,z=z1++tq:=⟨_,rfl⟩;have l2:z2.length=z1.length+tq.length:=by rw [hz2,gI]
 obtain ⟨z3,hz3⟩:∃ z:List UInt8,z=z2++[32]:=⟨_,rfl⟩;have l3:z3.length=z2.length+1:=by rw [hz3,gI];rfl
 obtain ⟨z4,hz4⟩:∃ z:List UInt8,z=z3++td:=⟨_,rfl⟩;have l4:z4.length=z3.length+td.length:=by rw [hz4,gI]
 have a1:=bN st.1 nm (by omega);have a2:=bN z1 tq (by omega);have a3:=bN z2 [32] (by simp only [gG,gH];omega);have a4:=bN z3 td (by omega);rw [← hz1] at a1;rw [← hz2] at a2;rw [← hz3] at a3;rw [← hz4] at a4;obtain ⟨stp,hstp⟩:∃ z:St,z=(z4,st.2):=⟨_,rfl⟩;have hsl:stp.len≤1099511627740:=by rw [hstp];unfold St.len at hl2 ⊢;simp only;omega
 have HSP:=Ha (show stp=st.put (nm++Ope.txtI op++[32]++wordX (Nd.tv f) tw) by rw [hstp,hz4,hz3,hz2,hz1,HTO.out,HTD.out];simp only [St.put,List.append_assoc]);have HST:=Ha hstp;clear hz1 hz2 hz3 hz4 hstp;go_enter Tryz.func231,Tryz.ntmps231;go_wp2_with fail;have HQ:=Ha (show ∀ X,Kb b w0 X→Tx b st X→(X.cell? ⟨w.heap.size,0,none⟩=some (.string ⟨nm.toArray⟩)∧X.cell? ⟨w.heap.size,1,none⟩=some (.int .i64 op)∧X.cell? ⟨w.heap.size,2,none⟩=some (.slice A tw.p.len c)∧X.cell? ⟨b,0,none⟩=some (.string ⟨st.1.toArray⟩)) from fun X h t=>by
  obtain ⟨y0,y1,y2,y3⟩:=HS.out X h;exact ⟨y0,y1,y2,t.c0⟩)
 go_cut [] from 6 to 24 (fun wx=>Tx b stp wx∧Kb b w0 wx)
 case first=>
  refine aU.start 19 (fun X=>X.cell? ⟨w.heap.size,0,none⟩=some (.string ⟨nm.toArray⟩)∧X.cell? ⟨w.heap.size,1,none⟩=some (.int .i64 op)∧X.cell? ⟨w.heap.size,2,none⟩=some (.slice A tw.p.len c)∧X.cell? ⟨b,0,none⟩=some (.string ⟨st.1.toArray⟩)) (by kernel_rfl) ?hs_1 (fun hHeld=>?hr_1)
  case hs_1=>exact HQ.out _ R0.out P0.out
  case hr_1=>
   refine aU.take (i:=0) (oi:=_) (v:=?v0_1) rfl (by kernel_rfl) (by kernel_rfl) (by kernel_rfl) (by kernel_rfl) (fun _ _ _ h=>h) (Or.inl ⟨by rfl, ?hy0_1⟩) (by assumption) ?hr0_1
   case hy0_1=>
    intro w hSw;try dsimp only at hSw
    simp only [gA,gC]
    go_simp
    try with_reducible rfl
   simp only [gA,gC,Act.put,gD,gE,gF];refine aU.take (i:=1) (oi:=_) (v:=?v1_1) rfl (by kernel_rfl) (by kernel_rfl) (by kernel_rfl) (by kernel_rfl) (fun _ _ _ h=>h) (Or.inl ⟨by rfl, ?hy1_1⟩) (by assumption) ?hr1_1
   case hy1_1=>
    intro w hSw;try dsimp only at hSw
    simp only [gA,gB,gC]
    go_simp
    try with_reducible rfl
   simp only [gA,gB,gC,Act.put,gD,gE,gF];refine aU.take (i:=2) (oi:=_) (v:=?v2_1) rfl (by kernel_rfl) (by kernel_rfl) (by kernel_rfl) (by kernel_rfl) (fun _ _ _ h=>h) (Or.inl ⟨by rfl, ?hy2_1⟩) (by assumption) ?hr2_1
   case hy2_1=>
    intro w hSw;try dsimp only at hSw
    simp only [gA,gB,gC]
    go_simp
    try with_reducible rfl
   simp only [gA,gB,gC,Act.put,gD,gE,gF];refine aU.take (i:=3) (oi:=_) (v:=?v3_1) rfl (by kernel_rfl) (by kernel_rfl) (by kernel_rfl) (by kernel_rfl) (fun _ _ _ h=>h) (Or.inl ⟨by rfl, ?hy3_1⟩) (by assumption) ?hr3_1
   case hy3_1=>
    intro w hSw;try dsimp only at hSw
    simp only [gA,gB,gC]
    go_simp
    try with_reducible rfl
   simp only [gA,gB,gC,Act.put,gD,gE,gF];refine aU.take (i:=4) (oi:=_) (v:=?v4_1) rfl (by kernel_rfl) (by kernel_rfl) (by kernel_rfl) (by kernel_rfl) (fun _ _ _ h=>h) (Or.inl ⟨by rfl, ?hy4_1⟩) (by assumption) ?hr4_1
   case hy4_1=>
    intro w hSw;try dsimp only at hSw
    simp only [gA,gB,gC]
    go_simp
    try with_reducible rfl
   simp only [gA,gB,gC,Act.put,gD,gE,gF];refine aU.take (i:=5) (oi:=_) (v:=?v5_1) rfl (by kernel_rfl) (by kernel_rfl) (by kernel_rfl) (by kernel_rfl) (fun _ _ _ h=>h) (Or.inl ⟨by rfl, ?hy5_1⟩) (by assumption) ?hr5_1
   case hy5_1=>
    intro w hSw;try dsimp only at hSw
    simp only [gA,gB,gC]
    go_simp
    try with_reducible rfl
   simp only [gA,gB,gC,Act.put,gD,gE,gF];refine aU.take (i:=6) (oi:=_) (v:=?v6_1) rfl (by kernel_rfl) (by kernel_rfl) (by kernel_rfl) (by kernel_rfl) (fun _ _ _ h=>h) (Or.inl ⟨by rfl, ?hy6_1⟩) (by assumption) ?hr6_1
   case hy6_1=>
    intro w hSw;try dsimp only at hSw
    simp only [gA,gB,gC]
    go_simp
    try with_reducible rfl
   simp only [gA,gB,gC,Act.put,gD,gE,gF];refine aU.take (i:=7) (oi:=_) (v:=?v7_1) rfl (by kernel_rfl) (by kernel_rfl) (by kernel_rfl) (by kernel_rfl) (fun _ _ _ h=>h) (Or.inl ⟨by rfl, ?hy7_1⟩) (by assumption) ?hr7_1
   case hy7_1=>
    intro w hSw;try dsimp only at hSw
    simp only [gA,gB,gC]
    go_simp
    try with_reducible rfl
   simp only [gA,gB,gC,Act.put,gD,gE,gF];refine aU.take (i:=8) (oi:=_) (v:=?v8_1) rfl (by kernel_rfl) (by kernel_rfl) (by kernel_rfl) (by kernel_rfl) (fun _ _ _ h=>h) (Or.inl ⟨by rfl, ?hy8_1⟩) (by assumption) ?hr8_1
   case hy8_1=>
    intro w hSw;try dsimp only at hSw
    simp only [gA,gB,gC]
    go_simp
    try with_reducible rfl
   simp only [gA,gB,gC,Act.put,gD,gE,gF];refine aU.take (i:=9) (oi:=_) (v:=?v9_1) rfl (by kernel_rfl) (by kernel_rfl) (by kernel_rfl) (by kernel_rfl) (fun _ _ _ h=>h) (Or.inl ⟨by rfl, ?hy9_1⟩) (by assumption) ?hr9_1
   case hy9_1=>
    intro w hSw;try dsimp only at hSw
    simp only [gA,gB,gC]
    go_simp
    try with_reducible rfl
   simp only [gA,gB,gC,Act.put,gD,gE,gF];refine aU.take (i:=13) (oi:=_) (v:=?v13_1) rfl (by kernel_rfl) (by kernel_rfl) (by kernel_rfl) (by kernel_rfl) (fun _ _ _ h=>h) (Or.inl ⟨by rfl, ?hy13_1⟩) (by assumption) ?hr13_1
   case hy13_1=>
    intro w hSw;try dsimp only at hSw
    simp only [gA,gB,gC]
    go_simp
    try with_reducible rfl
   simp only [gA,gB,gC,Act.put,gD,gE,gF];refine aU.take (i:=14) (oi:=_) (v:=?v14_1) rfl (by kernel_rfl) (by kernel_rfl) (by kernel_rfl) (by kernel_rfl) (fun _ _ _ h=>h) (Or.inl ⟨by rfl, ?hy14_1⟩) (by assumption) ?hr14_1
   case hy14_1=>
    intro w hSw;try dsimp only at hSw
    simp only [gA,gB,gC]
    go_simp
    try with_reducible rfl
   simp only [gA,gB,gC,Act.put,gD,gE,gF];refine aU.one (i:=10) (o:=_) (by kernel_rfl) rfl (fun K hK=>?_);simp only [gA,gB,gC]
   go_simp
   go_at_call 247
   refine Calls.mono (FT.out _) ?_;rintro e wT ⟨rfl,rfl⟩;unfold bs;dsimp only;refine hK.out _ _ ?_ (fun hHeld=>?_)
   ·exact HQ.out _ R0.out P0.out
   clear hK K;try simp only [Act.put,gD,gE,gF]
   refine aU.take (i:=11) (oi:=_) (v:=?v11_1) rfl (by kernel_rfl) (by kernel_rfl) (by kernel_rfl) (by kernel_rfl) (fun _ _ _ h=>h) (Or.inl ⟨by rfl, ?hy11_1⟩) (by assumption) ?hr11_1
   case hy11_1=>
    intro w hSw;try dsimp only at hSw
    simp only [gA,gB,gC]
    go_simp
    try with_reducible rfl
   simp only [gA,gB,gC,Act.put,gD,gE,gF];refine aU.take (i:=12) (oi:=_) (v:=?v12_1) rfl (by kernel_rfl) (by kernel_rfl) (by kernel_rfl) (by kernel_rfl) (fun _ _ _ h=>h) (Or.inl ⟨by rfl, ?hy12_1⟩) (by assumption) ?hr12_1
   case hy12_1=>
    intro w hSw;try dsimp only at hSw
    simp only [gA,gB,gC]
    go_simp
    try with_reducible rfl
   simp only [gA,gB,gC,Act.put,gD,gE,gF];refine aU.one (i:=15) (o:=_) (by kernel_rfl) rfl (fun K hK=>?_);simp only [gA,gB,gC]
   go_simp
   go_at_call 75
   refine Calls.mono (FW.out _ R0.out) ?_;rintro e wD ⟨rfl,kwd0,pwd0⟩;have kwd:=Ha kwd0;have ptd:=pwd0 _ P0.out;have pwd:=Ha ptd;have td0:=ptd.c0;have gd0:=ptd.f 0;clear kwd0 pwd0 ptd;unfold bs;dsimp only;refine hK.out _ _ ?_ (fun hHeld=>?_)
   ·exact HQ.out _ kwd.out pwd.out
   clear hK K;try simp only [Act.put,gD,gE,gF]
   refine aU.take (i:=16) (oi:=_) (v:=?v16_1) rfl (by kernel_rfl) (by kernel_rfl) (by kernel_rfl) (by kernel_rfl) (fun _ _ _ h=>h) (Or.inl ⟨by rfl, ?hy16_1⟩) (by assumption) ?hr16_1
   case hy16_1=>
    intro w hSw;try dsimp only at hSw
    simp only [gA,gB,gC]
    go_simp
    try with_reducible rfl
   simp only [gA,gB,gC,Act.put,gD,gE,gF];refine aU.one (i:=17) (o:=_) (by kernel_rfl) rfl (fun K hK=>?_);simp only [gA,gB,gC]
   go_simp
   refine hK.out _ _ ?_ (fun hHeld=>?_)
   ·exact (by assumption)
   clear hK K;try simp only [Act.put,gD,gE,gF]
   refine aU.take (i:=18) (oi:=_) (v:=?v18_1) rfl (by kernel_rfl) (by kernel_rfl) (by kernel_rfl) (by kernel_rfl) (fun _ _ _ h=>h) (Or.inl ⟨by rfl, ?hy18_1⟩) (by assumption) ?hr18_1
   case hy18_1=>
    intro w hSw;try dsimp only at hSw
    simp only [gA,gB,gC]
    go_simp
    try with_reducible rfl
   simp only [gA,gB,gC,Act.put,gD,gE,gF];refine aU.last (o:=_) (by kernel_rfl) rfl (fun K hK=>?_);simp only [gA,gB,gC]
   go_simp
   refine hK.out _ _ ?_;refine aU.done (by kernel_rfl) ?_ _;go_wp2_with fail
   go_meet
   exact ⟨by rw [HST.out];exact pwd.out.set0 z4,kwd.out.set 0 _⟩
 case rest=>
  obtain ⟨hpc,hkc⟩:=hcut;have PC:=Ha hpc;have KC:=Ha hkc;clear x0 x1 x2 x3 t0 hpc hkc;obtain ⟨x0,x1,x2,x3⟩:=HS.out _ KC.out;have hnl:(⟨nm.toArray⟩:ByteArray).toList=nm:=by rw [Lib.toList_data]
  have hrl:(⟨hr.toArray⟩:ByteArray).toList=hr:=by rw [Lib.toList_data]
  by_cases hop:op=12∨op=13
  case neg=>
   have o1:(op==12)=false:=by rw [gJ];intro e;exact hop (.inl e)
   have o2:(op==13)=false:=by rw [gJ];intro e;exact hop (.inr e)
   have FIN:=Ha (show cZ (Nd.tv f) ⟨⟨nm.toArray⟩,op,tw,⟨hr.toArray⟩⟩ st=stp by rw [oT _ _ _ hop,HSP.out,hnl]);go_wp2_with fail
   go_end0
   rw [FIN.out];exact ⟨rfl,PC.out,KW.out.trans KC.out⟩
  have FIN:=Ha (show cZ (Nd.tv f) ⟨⟨nm.toArray⟩,op,tw,⟨hr.toArray⟩⟩ st=(stp.1,stp.2++(hr++tw.p.utx.getD []++[10])) by rw [nB _ _ _ hop,HSP.out,hnl,hrl]);have HXU:=Ha (FU.out _ KC.out);have hs2:stp.2.length≤st.len:=by rw [HST.out];exact St.le2 st
  generalize tw.p.utx.getD []=ut at *;obtain ⟨tt,htt⟩:∃ l:List UInt8,l=hr++ut++[10]:=⟨_,rfl⟩;have HSW:=Ha (fun (X:World) (t:Bool)=>zB ut hr t X (by omega));rw [← htt] at HSW FIN;have htl:tt.length=hr.length+ut.length+1:=by rw [htt,gI,gI,gG,gH]
  clear htt;obtain ⟨z5,hz5⟩:∃ z:List UInt8,z=stp.2++tt:=⟨_,rfl⟩;have a5:=bN stp.2 tt (by omega);rw [← hz5] at a5 FIN;clear hz5 hut a1 a2 a3 a4;rcases hop with rfl | rfl
  ·go_wp2_with fail;refine HXU.out.mono ?_;rintro e wU ⟨rfl,hbU⟩;have KU:=Ha (KC.out.trans (.of_below hbU));have PU:=Ha (PC.out.keep hbU);clear hbU x0 x1 x2 x3;obtain ⟨x0,x1,x2,x3⟩:=HS.out _ KU.out;have KD:=Ha (KU.out.trans (.of_below (Below.refl wU.heap.size wU).drew));have hpd:=PU.out.keep (Below.refl wU.heap.size wU).drew;have PD:=Ha hpd;clear hpd;unfold bs;go_wp2_with fail;have HQ4:=Ha (show ∀ X,Kb b w0 X→Tx b stp X→(X.cell? ⟨w.heap.size,0,none⟩=some (.string ⟨nm.toArray⟩)∧X.cell? ⟨w.heap.size,1,none⟩=some (.int .i64 12)∧X.cell? ⟨w.heap.size,2,none⟩=some (.slice A tw.p.len c)∧X.cell? ⟨w.heap.size,3,none⟩=some (.string ⟨hr.toArray⟩)∧X.cell? ⟨b,1,none⟩=some (.string ⟨stp.2.toArray⟩)) from fun X h t=>by
    obtain ⟨y0,y1,y2,y3⟩:=HS.out X h;exact ⟨y0,y1,y2,y3,t.c1⟩)
   refine aU.start 16 (fun X=>X.cell? ⟨w.heap.size,0,none⟩=some (.string ⟨nm.toArray⟩)∧X.cell? ⟨w.heap.size,1,none⟩=some (.int .i64 12)∧X.cell? ⟨w.heap.size,2,none⟩=some (.slice A tw.p.len c)∧X.cell? ⟨w.heap.size,3,none⟩=some (.string ⟨hr.toArray⟩)∧X.cell? ⟨b,1,none⟩=some (.string ⟨stp.2.toArray⟩)) (by kernel_rfl) ?hs_2 (fun hHeld=>?hr_2)
   case hs_2=>exact HQ4.out _ KD.out PD.out
   case hr_2=>
    refine aU.take (i:=0) (oi:=_) (v:=?v0_2) rfl (by kernel_rfl) (by kernel_rfl) (by kernel_rfl) (by kernel_rfl) (fun _ _ _ h=>h) (Or.inl ⟨by rfl, ?hy0_2⟩) (by assumption) ?hr0_2
    case hy0_2=>
     intro w hSw;try dsimp only at hSw
     simp only [gA,gC]
     go_simp
     try with_reducible rfl
    simp only [gA,gC,Act.put,gD,gE,gF];refine aU.take (i:=1) (oi:=_) (v:=?v1_2) rfl (by kernel_rfl) (by kernel_rfl) (by kernel_rfl) (by kernel_rfl) (fun _ _ _ h=>h) (Or.inl ⟨by rfl, ?hy1_2⟩) (by assumption) ?hr1_2
    case hy1_2=>
     intro w hSw;try dsimp only at hSw
     simp only [gA,gB,gC]
     go_simp
     try with_reducible rfl
    simp only [gA,gB,gC,Act.put,gD,gE,gF];refine aU.take (i:=2) (oi:=_) (v:=?v2_2) rfl (by kernel_rfl) (by kernel_rfl) (by kernel_rfl) (by kernel_rfl) (fun _ _ _ h=>h) (Or.inl ⟨by rfl, ?hy2_2⟩) (by assumption) ?hr2_2
    case hy2_2=>
     intro w hSw;try dsimp only at hSw
     simp only [gA,gB,gC]
     go_simp
     try with_reducible rfl
    simp only [gA,gB,gC,Act.put,gD,gE,gF];refine aU.take (i:=3) (oi:=_) (v:=?v3_2) rfl (by kernel_rfl) (by kernel_rfl) (by kernel_rfl) (by kernel_rfl) (fun _ _ _ h=>h) (Or.inl ⟨by rfl, ?hy3_2⟩) (by assumption) ?hr3_2
    case hy3_2=>
     intro w hSw;try dsimp only at hSw
     simp only [gA,gB,gC]
     go_simp
     try with_reducible rfl
    simp only [gA,gB,gC,Act.put,gD,gE,gF];refine aU.take (i:=4) (oi:=_) (v:=?v4_2) rfl (by kernel_rfl) (by kernel_rfl) (by kernel_rfl) (by kernel_rfl) (fun _ _ _ h=>h) (Or.inl ⟨by rfl, ?hy4_2⟩) (by assumption) ?hr4_2
    case hy4_2=>
     intro w hSw;try dsimp only at hSw
     simp only [gA,gB,gC]
     go_simp
     try with_reducible rfl
    simp only [gA,gB,gC,Act.put,gD,gE,gF];refine aU.take (i:=5) (oi:=_) (v:=?v5_2) rfl (by kernel_rfl) (by kernel_rfl) (by kernel_rfl) (by kernel_rfl) (fun _ _ _ h=>h) (Or.inl ⟨by rfl, ?hy5_2⟩) (by assumption) ?hr5_2
    case hy5_2=>
     intro w hSw;try dsimp only at hSw
     simp only [gA,gB,gC]
     go_simp
     try with_reducible rfl
    simp only [gA,gB,gC,Act.put,gD,gE,gF];refine aU.take (i:=6) (oi:=_) (v:=?v6_2) rfl (by kernel_rfl) (by kernel_rfl) (by kernel_rfl) (by kernel_rfl) (fun _ _ _ h=>h) (Or.inl ⟨by rfl, ?hy6_2⟩) (by assumption) ?hr6_2
    case hy6_2=>
     intro w hSw;try dsimp only at hSw
     simp only [gA,gB,gC]
     go_simp
     try with_reducible rfl
    simp only [gA,gB,gC,Act.put,gD,gE,gF];refine aU.take (i:=7) (oi:=_) (v:=?v7_2) rfl (by kernel_rfl) (by kernel_rfl) (by kernel_rfl) (by kernel_rfl) (fun _ _ _ h=>h) (Or.inl ⟨by rfl, ?hy7_2⟩) (by assumption) ?hr7_2
    case hy7_2=>
     intro w hSw;try dsimp only at hSw
     simp only [gA,gB,gC]
     go_simp
     try with_reducible rfl
    simp only [gA,gB,gC,Act.put,gD,gE,gF];refine aU.take (i:=8) (oi:=_) (v:=?v8_2) rfl (by kernel_rfl) (by kernel_rfl) (by kernel_rfl) (by kernel_rfl) (fun _ _ _ h=>h) (Or.inl ⟨by rfl, ?hy8_2⟩) (by assumption) ?hr8_2
    case hy8_2=>
     intro w hSw;try dsimp only at hSw
     simp only [gA,gB,gC]
     go_simp
     try with_reducible rfl
    simp only [gA,gB,gC,Act.put,gD,gE,gF];refine aU.take (i:=9) (oi:=_) (v:=?v9_2) rfl (by kernel_rfl) (by kernel_rfl) (by kernel_rfl) (by kernel_rfl) (fun _ _ _ h=>h) (Or.inl ⟨by rfl, ?hy9_2⟩) (by assumption) ?hr9_2
    case hy9_2=>
     intro w hSw;try dsimp only at hSw
     simp only [gA,gB,gC]
     go_simp
     try with_reducible rfl
    simp only [gA,gB,gC,Act.put,gD,gE,gF];refine aU.take (i:=10) (oi:=_) (v:=?v10_2) rfl (by kernel_rfl) (by kernel_rfl) (by kernel_rfl) (by kernel_rfl) (fun _ _ _ h=>h) (Or.inl ⟨by rfl, ?hy10_2⟩) (by assumption) ?hr10_2
    case hy10_2=>
     intro w hSw;try dsimp only at hSw
     simp only [gA,gB,gC]
     go_simp
     try with_reducible rfl
    simp only [gA,gB,gC,Act.put,gD,gE,gF];refine aU.take (i:=11) (oi:=_) (v:=?v11_2) rfl (by kernel_rfl) (by kernel_rfl) (by kernel_rfl) (by kernel_rfl) (fun _ _ _ h=>h) (Or.inl ⟨by rfl, ?hy11_2⟩) (by assumption) ?hr11_2
    case hy11_2=>
     intro w hSw;try dsimp only at hSw
     simp only [gA,gB,gC]
     go_simp
     try with_reducible rfl
    simp only [gA,gB,gC,Act.put,gD,gE,gF];refine aU.one (i:=12) (o:=_) (by kernel_rfl) rfl (fun K hK=>?_);simp only [gA,gB,gC]
    go_simp
    go_at_call 248
    refine Calls.mono (HSW.out _ _) ?_;rintro e wS ⟨rfl,hbS⟩;have kwd:=Ha (KD.out.trans (.of_below hbS));have ptd:=PD.out.keep hbS;have pwd:=Ha ptd;have td1:=ptd.c1;have gd1:=ptd.f 1;clear hbS ptd;unfold bs;dsimp only;refine hK.out _ _ ?_ (fun hHeld=>?_)
    ·exact HQ4.out _ kwd.out pwd.out
    clear hK K;try simp only [Act.put,gD,gE,gF]
    refine aU.take (i:=13) (oi:=_) (v:=?v13_2) rfl (by kernel_rfl) (by kernel_rfl) (by kernel_rfl) (by kernel_rfl) (fun _ _ _ h=>h) (Or.inl ⟨by rfl, ?hy13_2⟩) (by assumption) ?hr13_2
    case hy13_2=>
     intro w hSw;try dsimp only at hSw
     simp only [gA,gB,gC]
     go_simp
     try with_reducible rfl
    simp only [gA,gB,gC,Act.put,gD,gE,gF];refine aU.one (i:=14) (o:=_) (by kernel_rfl) rfl (fun K hK=>?_);simp only [gA,gB,gC]
    go_simp
    refine hK.out _ _ ?_ (fun hHeld=>?_)
    ·exact (by assumption)
    clear hK K;try simp only [Act.put,gD,gE,gF]
    refine aU.take (i:=15) (oi:=_) (v:=?v15_2) rfl (by kernel_rfl) (by kernel_rfl) (by kernel_rfl) (by kernel_rfl) (fun _ _ _ h=>h) (Or.inl ⟨by rfl, ?hy15_2⟩) (by assumption) ?hr15_2
    case hy15_2=>
     intro w hSw;try dsimp only at hSw
     simp only [gA,gB,gC]
     go_simp
     try with_reducible rfl
    simp only [gA,gB,gC,Act.put,gD,gE,gF];refine aU.last (o:=_) (by kernel_rfl) rfl (fun K hK=>?_);simp only [gA,gB,gC]
    go_simp
    refine hK.out _ _ ?_;refine aU.done (by kernel_rfl) ?_ _;go_wp2_with fail
    go_end0
    rw [FIN.out];exact ⟨rfl,pwd.out.set1 z5,KW.out.trans (kwd.out.set 1 _)⟩
  ·go_wp2_with fail;refine HXU.out.mono ?_;rintro e wU ⟨rfl,hbU⟩;have KU:=Ha (KC.out.trans (.of_below hbU));have PU:=Ha (PC.out.keep hbU);clear hbU x0 x1 x2 x3;obtain ⟨x0,x1,x2,x3⟩:=HS.out _ KU.out;have KD:=Ha (KU.out.trans (.of_below (Below.refl wU.heap.size wU).drew));have hpd:=PU.out.keep (Below.refl wU.heap.size wU).drew;have PD:=Ha hpd;clear hpd;unfold bs;go_wp2_with fail;have HQ4:=Ha (show ∀ X,Kb b w0 X→Tx b stp X→(X.cell? ⟨w.heap.size,0,none⟩=some (.string ⟨nm.toArray⟩)∧X.cell? ⟨w.heap.size,1,none⟩=some (.int .i64 13)∧X.cell? ⟨w.heap.size,2,none⟩=some (.slice A tw.p.len c)∧X.cell? ⟨w.heap.size,3,none⟩=some (.string ⟨hr.toArray⟩)∧X.cell? ⟨b,1,none⟩=some (.string ⟨stp.2.toArray⟩)) from fun X h t=>by
    obtain ⟨y0,y1,y2,y3⟩:=HS.out X h;exact ⟨y0,y1,y2,y3,t.c1⟩)
   refine aU.start 16 (fun X=>X.cell? ⟨w.heap.size,0,none⟩=some (.string ⟨nm.toArray⟩)∧X.cell? ⟨w.heap.size,1,none⟩=some (.int .i64 13)∧X.cell? ⟨w.heap.size,2,none⟩=some (.slice A tw.p.len c)∧X.cell? ⟨w.heap.size,3,none⟩=some (.string ⟨hr.toArray⟩)∧X.cell? ⟨b,1,none⟩=some (.string ⟨stp.2.toArray⟩)) (by kernel_rfl) ?hs_3 (fun hHeld=>?hr_3)
   case hs_3=>exact HQ4.out _ KD.out PD.out
   case hr_3=>
    refine aU.take (i:=0) (oi:=_) (v:=?v0_3) rfl (by kernel_rfl) (by kernel_rfl) (by kernel_rfl) (by kernel_rfl) (fun _ _ _ h=>h) (Or.inl ⟨by rfl, ?hy0_3⟩) (by assumption) ?hr0_3
    case hy0_3=>
     intro w hSw;try dsimp only at hSw
     simp only [gA,gC]
     go_simp
     try with_reducible rfl
    simp only [gA,gC,Act.put,gD,gE,gF];refine aU.take (i:=1) (oi:=_) (v:=?v1_3) rfl (by kernel_rfl) (by kernel_rfl) (by kernel_rfl) (by kernel_rfl) (fun _ _ _ h=>h) (Or.inl ⟨by rfl, ?hy1_3⟩) (by assumption) ?hr1_3
    case hy1_3=>
     intro w hSw;try dsimp only at hSw
     simp only [gA,gB,gC]
     go_simp
     try with_reducible rfl
    simp only [gA,gB,gC,Act.put,gD,gE,gF];refine aU.take (i:=2) (oi:=_) (v:=?v2_3) rfl (by kernel_rfl) (by kernel_rfl) (by kernel_rfl) (by kernel_rfl) (fun _ _ _ h=>h) (Or.inl ⟨by rfl, ?hy2_3⟩) (by assumption) ?hr2_3
    case hy2_3=>
     intro w hSw;try dsimp only at hSw
     simp only [gA,gB,gC]
     go_simp
     try with_reducible rfl
    simp only [gA,gB,gC,Act.put,gD,gE,gF];refine aU.take (i:=3) (oi:=_) (v:=?v3_3) rfl (by kernel_rfl) (by kernel_rfl) (by kernel_rfl) (by kernel_rfl) (fun _ _ _ h=>h) (Or.inl ⟨by rfl, ?hy3_3⟩) (by assumption) ?hr3_3
    case hy3_3=>
     intro w hSw;try dsimp only at hSw
     simp only [gA,gB,gC]
     go_simp
     try with_reducible rfl
    simp only [gA,gB,gC,Act.put,gD,gE,gF];refine aU.take (i:=4) (oi:=_) (v:=?v4_3) rfl (by kernel_rfl) (by kernel_rfl) (by kernel_rfl) (by kernel_rfl) (fun _ _ _ h=>h) (Or.inl ⟨by rfl, ?hy4_3⟩) (by assumption) ?hr4_3
    case hy4_3=>
     intro w hSw;try dsimp only at hSw
     simp only [gA,gB,gC]
     go_simp
     try with_reducible rfl
    simp only [gA,gB,gC,Act.put,gD,gE,gF];refine aU.take (i:=5) (oi:=_) (v:=?v5_3) rfl (by kernel_rfl) (by kernel_rfl) (by kernel_rfl) (by kernel_rfl) (fun _ _ _ h=>h) (Or.inl ⟨by rfl, ?hy5_3⟩) (by assumption) ?hr5_3
    case hy5_3=>
     intro w hSw;try dsimp only at hSw
     simp only [gA,gB,gC]
     go_simp
     try with_reducible rfl
    simp only [gA,gB,gC,Act.put,gD,gE,gF];refine aU.take (i:=6) (oi:=_) (v:=?v6_3) rfl (by kernel_rfl) (by kernel_rfl) (by kernel_rfl) (by kernel_rfl) (fun _ _ _ h=>h) (Or.inl ⟨by rfl, ?hy6_3⟩) (by assumption) ?hr6_3
    case hy6_3=>
     intro w hSw;try dsimp only at hSw
     simp only [gA,gB,gC]
     go_simp
     try with_reducible rfl
    simp only [gA,gB,gC,Act.put,gD,gE,gF];refine aU.take (i:=7) (oi:=_) (v:=?v7_3) rfl (by kernel_rfl) (by kernel_rfl) (by kernel_rfl) (by kernel_rfl) (fun _ _ _ h=>h) (Or.inl ⟨by rfl, ?hy7_3⟩) (by assumption) ?hr7_3
    case hy7_3=>
     intro w hSw;try dsimp only at hSw
     simp only [gA,gB,gC]
     go_simp
     try with_reducible rfl
    simp only [gA,gB,gC,Act.put,gD,gE,gF];refine aU.take (i:=8) (oi:=_) (v:=?v8_3) rfl (by kernel_rfl) (by kernel_rfl) (by kernel_rfl) (by kernel_rfl) (fun _ _ _ h=>h) (Or.inl ⟨by rfl, ?hy8_3⟩) (by assumption) ?hr8_3
    case hy8_3=>
     intro w hSw;try dsimp only at hSw
     simp only [gA,gB,gC]
     go_simp
     try with_reducible rfl
    simp only [gA,gB,gC,Act.put,gD,gE,gF];refine aU.take (i:=9) (oi:=_) (v:=?v9_3) rfl (by kernel_rfl) (by kernel_rfl) (by kernel_rfl) (by kernel_rfl) (fun _ _ _ h=>h) (Or.inl ⟨by rfl, ?hy9_3⟩) (by assumption) ?hr9_3
    case hy9_3=>
     intro w hSw;try dsimp only at hSw
     simp only [gA,gB,gC]
     go_simp
     try with_reducible rfl
    simp only [gA,gB,gC,Act.put,gD,gE,gF];refine aU.take (i:=10) (oi:=_) (v:=?v10_3) rfl (by kernel_rfl) (by kernel_rfl) (by kernel_rfl) (by kernel_rfl) (fun _ _ _ h=>h) (Or.inl ⟨by rfl, ?hy10_3⟩) (by assumption) ?hr10_3
    case hy10_3=>
     intro w hSw;try dsimp only at hSw
     simp only [gA,gB,gC]
     go_simp
     try with_reducible rfl
    simp only [gA,gB,gC,Act.put,gD,gE,gF];refine aU.take (i:=11) (oi:=_) (v:=?v11_3) rfl (by kernel_rfl) (by kernel_rfl) (by kernel_rfl) (by kernel_rfl) (fun _ _ _ h=>h) (Or.inl ⟨by rfl, ?hy11_3⟩) (by assumption) ?hr11_3
    case hy11_3=>
     intro w hSw;try dsimp only at hSw
     simp only [gA,gB,gC]
     go_simp
     try with_reducible rfl
    simp only [gA,gB,gC,Act.put,gD,gE,gF];refine aU.one (i:=12) (o:=_) (by kernel_rfl) rfl (fun K hK=>?_);simp only [gA,gB,gC]
    go_simp
    go_at_call 248
    refine Calls.mono (HSW.out _ _) ?_;rintro e wS ⟨rfl,hbS⟩;have kwd:=Ha (KD.out.trans (.of_below hbS));have ptd:=PD.out.keep hbS;have pwd:=Ha ptd;have td1:=ptd.c1;have gd1:=ptd.f 1;clear hbS ptd;unfold bs;dsimp only;refine hK.out _ _ ?_ (fun hHeld=>?_)
    ·exact HQ4.out _ kwd.out pwd.out
    clear hK K;try simp only [Act.put,gD,gE,gF]
    refine aU.take (i:=13) (oi:=_) (v:=?v13_3) rfl (by kernel_rfl) (by kernel_rfl) (by kernel_rfl) (by kernel_rfl) (fun _ _ _ h=>h) (Or.inl ⟨by rfl, ?hy13_3⟩) (by assumption) ?hr13_3
    case hy13_3=>
     intro w hSw;try dsimp only at hSw
     simp only [gA,gB,gC]
     go_simp
     try with_reducible rfl
    simp only [gA,gB,gC,Act.put,gD,gE,gF];refine aU.one (i:=14) (o:=_) (by kernel_rfl) rfl (fun K hK=>?_);simp only [gA,gB,gC]
    go_simp
    refine hK.out _ _ ?_ (fun hHeld=>?_)
    ·exact (by assumption)
    clear hK K;try simp only [Act.put,gD,gE,gF]
    refine aU.take (i:=15) (oi:=_) (v:=?v15_3) rfl (by kernel_rfl) (by kernel_rfl) (by kernel_rfl) (by kernel_rfl) (fun _ _ _ h=>h) (Or.inl ⟨by rfl, ?hy15_3⟩) (by assumption) ?hr15_3
    case hy15_3=>
     intro w hSw;try dsimp only at hSw
     simp only [gA,gB,gC]
     go_simp
     try with_reducible rfl
    simp only [gA,gB,gC,Act.put,gD,gE,gF];refine aU.last (o:=_) (by kernel_rfl) rfl (fun K hK=>?_);simp only [gA,gB,gC]
    go_simp
    refine hK.out _ _ ?_;refine aU.done (by kernel_rfl) ?_ _;go_wp2_with fail
    go_end0
    rw [FIN.out];exact ⟨rfl,pwd.out.set1 z5,KW.out.trans (kwd.out.set 1 _)⟩
theorem eM (f:Nat) (ih:RWd f) (G:Nat→Prop) (b:Nat) (w:World) (v:Value) (rs:List (RdF (Nd f))) (st:St) (hG:∀ k,G k→k<b) (hs:aW G w 4 (RdN f G w) v rs) (hf:∀ r∈rs,eA (Nd.ft f) r.tz) (hp:Tx b st w) (hl:st.len+64*tot (wtR (Nd.wt f)) rs≤LIM):
  Calls Tryz.prog 198 #[.pointer (some ⟨b,0,none⟩),v] w (Wtx b w (bE (Nd.tv f) rs st)):=by
 obtain ⟨A,c,rfl,hlc,hm,hel⟩:=hs;have hB:=hp.lt;obtain ⟨HEL,HG,IH,HF,HP⟩:=hs5 hel hG ih hf hp;unfold maxLen at hm;have hl2:st.len+64*tot (wtR (Nd.wt f)) rs≤1099511627776:=hl;clear hG hel hf ih hp;go_enter Tryz.func198,Tryz.ntmps198;go_wp2_with fail
 go_loopw [4] (fun i wr=>∃ (k:Nat) (str:St),k≤rs.length∧i=.int .i64 k∧bE (Nd.tv f) (rs.drop k) str=bE (Nd.tv f) rs st∧str.len+64*tot (wtR (Nd.wt f)) (rs.drop k)≤1099511627776∧Tx b str wr∧Kb b w wr) (fun i _=>rs.length-(intOf i).toNat)
 case atStart=>exact ⟨0,st,by omega,rfl,rfl,by rw [List.drop_zero];omega,HP.out,Kb.refl _ _⟩
 case round=>
  obtain ⟨k,str,hk,rfl,he,lnr,hq,hks⟩:=hrel;obtain ⟨HE,HPr,KSr⟩:=hs3 he hq hks;have t0:=hq.c0;have g0:=hq.f 0;clear he hq hks;by_cases hlt:k<rs.length
  ·obtain ⟨bb,off,rfl,hg,hel⟩:=HEL.out (by omega);obtain ⟨vs,hvl,hR0,hcell⟩:=hel k hlt;have htd:=bS (wtR (Nd.wt f)) rs k hlt;have hw1:1≤wtR (Nd.wt f) rs[k]:=by unfold wtR;omega
   have HD:=Ha (kN (Nd.tv f) rs k str hlt);have hrl:=eJ (Nd.tv_ok f) rs[k] (str.put [32]);rw [St.put_len,gG,gH] at hrl;have hle:=St.le1 str;have a1:=bN str.1 [32] (by simp only [gG,gH];omega);have hq:=HPr.out.put [32];have hk1:=KSr.out.set 0 (.string ⟨(str.1++[32]).toArray⟩);generalize hZ:wr.setCell ⟨b,0,none⟩ (.string ⟨(str.1++[32]).toArray⟩)=W1 at *;have hb1:=hk1.below (Nat.le_of_lt hB);have z:=fun j u hj=>(keepB HG.out hb1 _ hg).trans (hcell j u hj);obtain ⟨s,o,A2,n2,c2,sh,rfl⟩:=hR0.shape;have d0:W1.cell? ⟨bb,off+k*4,none⟩=some (.string s):=by simpa using z 0 _ rfl
   have d1:W1.cell? ⟨bb,off+k*4+1,none⟩=some (.int .i64 o):=by simpa using z 1 _ rfl
   have d2:W1.cell? ⟨bb,off+k*4+2,none⟩=some (.slice A2 n2 c2):=by simpa using z 2 _ rfl
   have d3:W1.cell? ⟨bb,off+k*4+3,none⟩=some (.string sh):=by simpa using z 3 _ rfl
   have HX:=Ha (nE f IH.out G b W1 _ rs[k] (str.put [32]) HG.out (hR0.belowB HG.out hb1) (HF.out _ (List.getElem_mem hlt)) hq (by rw [St.put_len,gG,gH];unfold LIM;omega));unfold ag at HX;have HK1:=Ha hk1;clear hq hk1 hb1 z hcell hg hR0 hel hvl;go_wp2_with fail;refine HX.out.mono ?_;rintro e w2 ⟨rfl,hq,hk2⟩;obtain ⟨HQ,HK2,HN⟩:=hs3 hq (HK1.out.trans hk2) (show bE (Nd.tv f) (rs.drop (k+1)) (cZ (Nd.tv f) rs[k] (str.put [32]))=bE (Nd.tv f) rs st by rw [← HE.out,HD.out]);clear hq hk2 d0 d1 d2 d3;go_wp2_with fail
   go_roundw
   case rel=>exact ⟨k+1,_,by omega,by go_num,HN.out,by omega,HQ.out,HK2.out⟩
   case measure=>simp only [intOf];omega
  ·have hpe:str=bE (Nd.tv f) rs st:=by rw [← HE.out,List.drop_eq_nil_of_le (by omega),bE]
   have HPE:=Ha hpe;clear hpe;go_wp2_with fail
   go_end0
   rw [← HPE.out];exact ⟨rfl,HPr.out,KSr.out⟩
theorem mH {α:Type} (v:Tv α) (l:List (ArF α)) (k:Nat) (s:St) (h:k<l.length):eC v (l.drop k) s=eC v (l.drop (k+1)) ((v.ls l[k].body ((((s.put [40]).put (bH v eX false l[k].pats)).put [41]).line)).put [59,59]).line:=by
 rw [bC l k h,eC,jK,jK,List.append_assoc]
theorem oW {α:Type} (v:Tv α) (l:List (WdF α)) (h:0<l.length):word0 v l=wordX v l[0]:=by
 cases l with
 | nil=>simp at h
 | cons x l=>rfl
theorem xS (f:Nat) (ih:PLs f) (ihw:PWd f) (G:Nat→Prop) (B b:Nat) (w:World) (vs:List Value) (n:NdF (Nd f)) (st:St) (hG:∀ k,G k→k<B) (hT:TxB B w) (hv:NdV (f+1) G w vs n) (hw0:0<n.words.length) (hfw:∀ x∈n.words,eA (Nd.ft f) x) (hfa:∀ a∈n.arms,(∀ x∈a.pats,eA (Nd.ft f) x)∧(Nd.ft f).ls a.body) (hp:Pn B b st w) (hl:st.len+64*Nd.wt (f+1) n≤LIM):
  Calls Tryz.prog 236 #[.pointer (some ⟨b,0,none⟩),ag vs] w (Wrt B b w (dW (Nd.tv f) n st)):=by
 obtain ⟨ky,nmb,nt,ni,ops,asg,wds,rds,ars,kds⟩:=n;obtain ⟨A4,c4,A5,c5,A6,c6,A7,c7,A8,c8,A9,c9,rfl,hns,hal,hl4,hl5,hl6,hl7,hl8,hl9,hso,hsa,hsw,hsr,hsm,hsk⟩:=NdV.open hv;obtain ⟨nm,rfl⟩:∃ l:List UInt8,nmb=⟨l.toArray⟩:=⟨nmb.toList,by rw [bP]⟩;have hl2:st.len+64*wtF (Nd.wt f) (NdF.mk ky ⟨nm.toArray⟩ nt ni ops asg wds rds ars kds)≤1099511627776:=hl;unfold wtF at hl2;simp only [aP] at hl2;have hnl:(⟨nm.toArray⟩:ByteArray).toList=nm:=by rw [Lib.toList_data]
 simp only at hw0 hfw hfa;have hwt:=fS (wtW (Nd.wt f)) wds 0 hw0;obtain ⟨bkW,okW,rfl,hg,hel⟩:=hsw.elem (by omega);have HELW:=Ha hel;have HGKW:=Ha hg;clear hel hg;unfold ag;obtain ⟨w0,hW,hbw,hbx⟩:=cpd w (.cells #[.int .i64 ky,.string ⟨nm.toArray⟩,.bool nt,.bool ni,.slice A4 ops.length c4,.slice A5 asg.length c5,.slice (some ⟨bkW,okW,none⟩) wds.length c6,.slice A7 rds.length c7,.slice A8 ars.length c8,.slice A9 kds.length c9] 28);have hnb:w.heap.size≠b:=by have:=hp.lt;omega
 have hB:=hp.size;have KW:=Ha (Ks.of_below (B:=B) (b:=b) hbw);have hb0:Below B w w0:=hbw.mono hB;have LW:B≤w0.heap.size:=Nat.le_trans hB hbw.size;obtain ⟨HT,HV,HP0⟩:=hs3 (hT.below hb0) hv (hp.below hbw);obtain ⟨st0,hst0⟩:∃ z:St,z=st:=⟨_,rfl⟩;have ln0:st0.len=st.len:=by rw [hst0]
 rw [← hst0] at HP0;obtain ⟨ES0,HSO,HSA,HSW,HSR,HSM,HSK⟩:=hs7 hst0 hso hsa hsw hsr hsm hsk;clear hso hsa hsw hsr hsm hsk;obtain ⟨HG,IH,IHW,HFW,HFA,HBX,KS0⟩:=hs7 hG ih ihw hfw hfa hbx (Ks.refl B b w0);clear hbw hb0 hp hG hT hv hst0 hbx ih ihw hfw hfa;obtain ⟨x0,x1,x2,x3,x4,x5,x6,x7,x8,x9⟩:=aE (KS0.out.box HBX.out hnb (by decide) (by decide));go_enter Tryz.func236,Tryz.ntmps236;obtain ⟨usc,hvl,hR0,hcell⟩:=HELW.out 0 (by omega);have z:=fun j u hj=>(keepB HG.out ((KW.out.trans KS0.out).below hB) _ HGKW.out).trans (hcell j u hj);obtain ⟨A0c,n0c,c0c,rfl⟩:=hR0.shape;have dc_0:w0.cell? ⟨bkW,okW,none⟩=some (.slice A0c n0c c0c):=by simpa using z 0 _ rfl
 have HEc:=Ha hR0;clear hR0 z hcell hvl;have hwltw:=cD (Nd.tv_ok f) (wds[0]);have HXw:=Ha (IHW.out G w0 _ _ _ wds[0] (fun j hj=>gK (HG.out j hj) (Nat.le_trans LW KS0.out.size)) (HT.out.below (KS0.out.below LW)).1 (HEc.out.belowB HG.out ((KW.out.trans KS0.out).below hB)) (HFW.out _ (List.getElem_mem hw0)) (by unfold LIM;omega));go_wp2_with fail;refine HXw.out.mono ?_;rintro e wt1 ⟨rfl,hk⟩;have KSt1:=Ha (KS0.out.trans (.of_below hk));have HPt1:=Ha (HP0.out.below hk);clear hk HXw dc_0 x0 x1 x2 x3 x4 x5 x6 x7 x8 x9;obtain ⟨tw,htw⟩:∃ l:List UInt8,l=wordX (Nd.tv f) (wds[0]):=⟨_,rfl⟩;rw [← htw] at hwltw;have HTW:=Ha htw;unfold bs;rw [← htw];clear htw;obtain ⟨x0,x1,x2,x3,x4,x5,x6,x7,x8,x9⟩:=aE (KSt1.out.box HBX.out hnb (by decide) (by decide));go_wp2_with fail;refine (DT i8 tw tIn HPt1.out (by simp only [i8,tIn,gG,gH];omega)).mono ?_;rintro e w2 ⟨rfl,hq,hk⟩;have KS2:=Ha (KSt1.out.trans hk);obtain ⟨st2,hst⟩:∃ zst:St,zst=(st0.put (i8++tw++tIn)).line:=⟨_,rfl⟩;have ln2:=(St.line_len (st0.put (i8++tw++tIn))).trans (congrArg (· + 1) (St.put_len st0 (i8++tw++tIn)));rw [← hst] at hq ln2;have ES2:=Ha hst;have HP2:=Ha hq;clear hst hq hk  x0 x1 x2 x3 x4 x5 x6 x7 x8 x9;obtain ⟨x0,x1,x2,x3,x4,x5,x6,x7,x8,x9⟩:=aE (KS2.out.box HBX.out hnb (by decide) (by decide));simp only [i8,tIn,gI,gG,gH] at ln2;go_wp2_with fail
 go_loopw [17] (fun i wr=>∃ (k:Nat) (str:St),k≤ars.length∧i=.int .i64 k∧eC (Nd.tv f) (ars.drop k) str=eC (Nd.tv f) ars st2∧str.len+64*tot (wtA (Nd.wt f)) (ars.drop k)≤1099511627744∧Pn B b str wr∧Ks B b w0 wr) (fun i _=>ars.length-(intOf i).toNat)
 case atStart=>exact ⟨0,st2,by omega,rfl,rfl,by rw [List.drop_zero];omega,HP2.out,KS2.out⟩
 case round=>
  obtain ⟨k,str,hk,rfl,he,lnr,hq,hks⟩:=hrel;obtain ⟨HE,HPr,KSr⟩:=hs3 he hq hks;clear he hq hks x0 x1 x2 x3 x4 x5 x6 x7 x8 x9;obtain ⟨x0,x1,x2,x3,x4,x5,x6,x7,x8,x9⟩:=aE (KSr.out.box HBX.out hnb (by decide) (by decide));by_cases hlt:k<ars.length
  ·clear x0 x1 x2 x3 x4 x5 x6 x7 x8 x9;obtain ⟨bkM,okM,rfl,hg,hel⟩:=HSM.out.elem (by omega);have HELM:=Ha hel;have HGKM:=Ha hg;clear hel hg;obtain ⟨x0,x1,x2,x3,x4,x5,x6,x7,x8,x9⟩:=aE (KSr.out.box HBX.out hnb (by decide) (by decide));have HD:=Ha (mH (Nd.tv f) ars k str hlt);have htd:=bS (wtA (Nd.wt f)) ars k hlt;have hfk:=HFA.out _ (List.getElem_mem hlt);have HFP:=Ha hfk.1;have HFB:=Ha hfk.2;clear hfk;obtain ⟨usk,hvl,hR0,hcell⟩:=HELM.out k (by omega);have z:=fun j u hj=>(keepB HG.out ((KW.out.trans KSr.out).below hB) _ HGKM.out).trans (hcell j u hj);obtain ⟨P0k,p0k,q0k,kyk,sk,ntk,nik,A4k,n4k,c4k,A5k,n5k,c5k,A6k,n6k,c6k,A7k,n7k,c7k,A8k,n8k,c8k,A9k,n9k,c9k,rfl⟩:=hR0.shape;have dk_0:wr.cell? ⟨bkM,okM+k*11,none⟩=some (.slice P0k p0k q0k):=by simpa using z 0 _ rfl
   have dk_1:wr.cell? ⟨bkM,okM+k*11+1,none⟩=some (.int .i64 kyk):=by simpa using z 1 _ rfl
   have dk_2:wr.cell? ⟨bkM,okM+k*11+2,none⟩=some (.string sk):=by simpa using z 2 _ rfl
   have dk_3:wr.cell? ⟨bkM,okM+k*11+3,none⟩=some (.bool ntk):=by simpa using z 3 _ rfl
   have dk_4:wr.cell? ⟨bkM,okM+k*11+4,none⟩=some (.bool nik):=by simpa using z 4 _ rfl
   have dk_5:wr.cell? ⟨bkM,okM+k*11+5,none⟩=some (.slice A4k n4k c4k):=by simpa using z 5 _ rfl
   have dk_6:wr.cell? ⟨bkM,okM+k*11+6,none⟩=some (.slice A5k n5k c5k):=by simpa using z 6 _ rfl
   have dk_7:wr.cell? ⟨bkM,okM+k*11+7,none⟩=some (.slice A6k n6k c6k):=by simpa using z 7 _ rfl
   have dk_8:wr.cell? ⟨bkM,okM+k*11+8,none⟩=some (.slice A7k n7k c7k):=by simpa using z 8 _ rfl
   have dk_9:wr.cell? ⟨bkM,okM+k*11+9,none⟩=some (.slice A8k n8k c8k):=by simpa using z 9 _ rfl
   have dk_10:wr.cell? ⟨bkM,okM+k*11+10,none⟩=some (.slice A9k n9k c9k):=by simpa using z 10 _ rfl
   have HEk:=Ha hR0;clear hR0 z hcell hvl;obtain ⟨wvk3,hVvk3,hwv,hev⟩:=eP wr (.cells #[.slice P0k p0k q0k,.int .i64 kyk,.string sk,.bool ntk,.bool nik,.slice A4k n4k c4k,.slice A5k n5k c5k,.slice A6k n6k c6k,.slice A7k n7k c7k,.slice A8k n8k c8k,.slice A9k n9k c9k] 54);have hny:wr.heap.size≠b:=by have:=HPr.out.lt;omega
   obtain ⟨KSvk3,HPvk3,HYvk3⟩:=hs3 (KSr.out.trans (.of_below hwv)) (HPr.out.below hwv) hev;clear hwv hev x0 x1 x2 x3 x4 x5 x6 x7 x8 x9;obtain ⟨x0,x1,x2,x3,x4,x5,x6,x7,x8,x9⟩:=aE (KSvk3.out.box HBX.out hnb (by decide) (by decide));have y0:wvk3.cell? ⟨wr.heap.size,0,none⟩=some (.slice P0k p0k q0k):=aF HYvk3.out 0 _ rfl;have y1:wvk3.cell? ⟨wr.heap.size,1,none⟩=some (.int .i64 kyk):=aF HYvk3.out 1 _ rfl;have y2:wvk3.cell? ⟨wr.heap.size,2,none⟩=some (.string sk):=aF HYvk3.out 2 _ rfl;have y3:wvk3.cell? ⟨wr.heap.size,3,none⟩=some (.bool ntk):=aF HYvk3.out 3 _ rfl;have y4:wvk3.cell? ⟨wr.heap.size,4,none⟩=some (.bool nik):=aF HYvk3.out 4 _ rfl;have y5:wvk3.cell? ⟨wr.heap.size,5,none⟩=some (.slice A4k n4k c4k):=aF HYvk3.out 5 _ rfl;have y6:wvk3.cell? ⟨wr.heap.size,6,none⟩=some (.slice A5k n5k c5k):=aF HYvk3.out 6 _ rfl;have y7:wvk3.cell? ⟨wr.heap.size,7,none⟩=some (.slice A6k n6k c6k):=aF HYvk3.out 7 _ rfl;have y8:wvk3.cell? ⟨wr.heap.size,8,none⟩=some (.slice A7k n7k c7k):=aF HYvk3.out 8 _ rfl;have y9:wvk3.cell? ⟨wr.heap.size,9,none⟩=some (.slice A8k n8k c8k):=aF HYvk3.out 9 _ rfl;have y10:wvk3.cell? ⟨wr.heap.size,10,none⟩=some (.slice A9k n9k c9k):=aF HYvk3.out 10 _ rfl;obtain ⟨vp,bs1,earm,_,hps,hbd⟩:=HEk.out
   injection earm with e1 e2
   subst e1 e2;have HPS:=Ha hps;have HBD:=Ha hbd;clear hps hbd HEk;obtain ⟨ark,hark⟩:∃ a:ArF (Nd f),a=ars[k]:=⟨_,rfl⟩;rw [← hark] at HD htd HFP HFB HPS HBD;clear hark;have hwa:wtA (Nd.wt f) ark=1+tot (wtW (Nd.wt f)) ark.pats+Nd.wt f ark.body:=rfl;go_wp2_with fail;refine (fR [40] HPvk3.out (by simp only [gG,gH];omega)).mono ?_;rintro e w4 ⟨rfl,hq,hk⟩;have KS4:=Ha (KSvk3.out.trans hk);have HY4:=Ha (hk.box HYvk3.out hny (by decide) (by decide));obtain ⟨st4,hst⟩:∃ zst:St,zst=str.put [40]:=⟨_,rfl⟩;have ln4:=St.put_len str [40];rw [← hst] at hq ln4;have ES4:=Ha hst;have HP4:=Ha hq;clear hst hq hk  x0 x1 x2 x3 x4 x5 x6 x7 x8 x9 y0 y1 y2 y3 y4 y5 y6 y7 y8 y9 y10;obtain ⟨x0,x1,x2,x3,x4,x5,x6,x7,x8,x9⟩:=aE (KS4.out.box HBX.out hnb (by decide) (by decide));have y0:w4.cell? ⟨wr.heap.size,0,none⟩=some (.slice P0k p0k q0k):=aF HY4.out 0 _ rfl;have y1:w4.cell? ⟨wr.heap.size,1,none⟩=some (.int .i64 kyk):=aF HY4.out 1 _ rfl;have y2:w4.cell? ⟨wr.heap.size,2,none⟩=some (.string sk):=aF HY4.out 2 _ rfl;have y3:w4.cell? ⟨wr.heap.size,3,none⟩=some (.bool ntk):=aF HY4.out 3 _ rfl;have y4:w4.cell? ⟨wr.heap.size,4,none⟩=some (.bool nik):=aF HY4.out 4 _ rfl;have y5:w4.cell? ⟨wr.heap.size,5,none⟩=some (.slice A4k n4k c4k):=aF HY4.out 5 _ rfl;have y6:w4.cell? ⟨wr.heap.size,6,none⟩=some (.slice A5k n5k c5k):=aF HY4.out 6 _ rfl;have y7:w4.cell? ⟨wr.heap.size,7,none⟩=some (.slice A6k n6k c6k):=aF HY4.out 7 _ rfl;have y8:w4.cell? ⟨wr.heap.size,8,none⟩=some (.slice A7k n7k c7k):=aF HY4.out 8 _ rfl;have y9:w4.cell? ⟨wr.heap.size,9,none⟩=some (.slice A8k n8k c8k):=aF HY4.out 9 _ rfl;have y10:w4.cell? ⟨wr.heap.size,10,none⟩=some (.slice A9k n9k c9k):=aF HY4.out 10 _ rfl;simp only [gG,gH] at ln4;clear dk_0 dk_1 dk_2 dk_3 dk_4 dk_5 dk_6 dk_7 dk_8 dk_9 dk_10;have hjl:=fU (Nd.tv_ok f) eX (by simp [eX]) ark.pats false;have HX:=Ha (CF f IHW.out G B b w4 _ ark.pats eX st4 HG.out (HT.out.below (KS4.out.below LW)) (aW.belowW HPS.out HG.out ((KW.out.trans KS4.out).below hB)) HFP.out HP4.out (by decide) (by omega));go_wp2_with fail;refine (HX.out).mono ?_;rintro e w5 ⟨rfl,hq,hk⟩;have KS5:=Ha (KS4.out.trans hk);have HY5:=Ha (hk.box HY4.out hny (by decide) (by decide));obtain ⟨st5,hst⟩:∃ zst:St,zst=st4.put (bH (Nd.tv f) eX false ark.pats):=⟨_,rfl⟩;have ln5:=St.put_len st4 (bH (Nd.tv f) eX false ark.pats);rw [← hst] at hq ln5;have ES5:=Ha hst;have HP5:=Ha hq;clear hst hq hk HX x0 x1 x2 x3 x4 x5 x6 x7 x8 x9 y0 y1 y2 y3 y4 y5 y6 y7 y8 y9 y10;obtain ⟨x0,x1,x2,x3,x4,x5,x6,x7,x8,x9⟩:=aE (KS5.out.box HBX.out hnb (by decide) (by decide));have y0:w5.cell? ⟨wr.heap.size,0,none⟩=some (.slice P0k p0k q0k):=aF HY5.out 0 _ rfl;have y1:w5.cell? ⟨wr.heap.size,1,none⟩=some (.int .i64 kyk):=aF HY5.out 1 _ rfl;have y2:w5.cell? ⟨wr.heap.size,2,none⟩=some (.string sk):=aF HY5.out 2 _ rfl;have y3:w5.cell? ⟨wr.heap.size,3,none⟩=some (.bool ntk):=aF HY5.out 3 _ rfl;have y4:w5.cell? ⟨wr.heap.size,4,none⟩=some (.bool nik):=aF HY5.out 4 _ rfl;have y5:w5.cell? ⟨wr.heap.size,5,none⟩=some (.slice A4k n4k c4k):=aF HY5.out 5 _ rfl;have y6:w5.cell? ⟨wr.heap.size,6,none⟩=some (.slice A5k n5k c5k):=aF HY5.out 6 _ rfl;have y7:w5.cell? ⟨wr.heap.size,7,none⟩=some (.slice A6k n6k c6k):=aF HY5.out 7 _ rfl;have y8:w5.cell? ⟨wr.heap.size,8,none⟩=some (.slice A7k n7k c7k):=aF HY5.out 8 _ rfl;have y9:w5.cell? ⟨wr.heap.size,9,none⟩=some (.slice A8k n8k c8k):=aF HY5.out 9 _ rfl;have y10:w5.cell? ⟨wr.heap.size,10,none⟩=some (.slice A9k n9k c9k):=aF HY5.out 10 _ rfl;go_wp2_with fail;refine (i1 [41] HP5.out (by simp only [gG,gH];omega)).mono ?_;rintro e w6 ⟨rfl,hq,hk⟩;have KS6:=Ha (KS5.out.trans hk);have HY6:=Ha (hk.box HY5.out hny (by decide) (by decide));obtain ⟨st6,hst⟩:∃ zst:St,zst=(st5.put [41]).line:=⟨_,rfl⟩;have ln6:=(St.line_len (st5.put [41])).trans (congrArg (· + 1) (St.put_len st5 [41]));rw [← hst] at hq ln6;have ES6:=Ha hst;have HP6:=Ha hq;clear hst hq hk  x0 x1 x2 x3 x4 x5 x6 x7 x8 x9 y0 y1 y2 y3 y4 y5 y6 y7 y8 y9 y10;obtain ⟨x0,x1,x2,x3,x4,x5,x6,x7,x8,x9⟩:=aE (KS6.out.box HBX.out hnb (by decide) (by decide));have y0:w6.cell? ⟨wr.heap.size,0,none⟩=some (.slice P0k p0k q0k):=aF HY6.out 0 _ rfl;have y1:w6.cell? ⟨wr.heap.size,1,none⟩=some (.int .i64 kyk):=aF HY6.out 1 _ rfl;have y2:w6.cell? ⟨wr.heap.size,2,none⟩=some (.string sk):=aF HY6.out 2 _ rfl;have y3:w6.cell? ⟨wr.heap.size,3,none⟩=some (.bool ntk):=aF HY6.out 3 _ rfl;have y4:w6.cell? ⟨wr.heap.size,4,none⟩=some (.bool nik):=aF HY6.out 4 _ rfl;have y5:w6.cell? ⟨wr.heap.size,5,none⟩=some (.slice A4k n4k c4k):=aF HY6.out 5 _ rfl;have y6:w6.cell? ⟨wr.heap.size,6,none⟩=some (.slice A5k n5k c5k):=aF HY6.out 6 _ rfl;have y7:w6.cell? ⟨wr.heap.size,7,none⟩=some (.slice A6k n6k c6k):=aF HY6.out 7 _ rfl;have y8:w6.cell? ⟨wr.heap.size,8,none⟩=some (.slice A7k n7k c7k):=aF HY6.out 8 _ rfl;have y9:w6.cell? ⟨wr.heap.size,9,none⟩=some (.slice A8k n8k c8k):=aF HY6.out 9 _ rfl;have y10:w6.cell? ⟨wr.heap.size,10,none⟩=some (.slice A9k n9k c9k):=aF HY6.out 10 _ rfl;simp only [gG,gH] at ln6;have hkl:=(Nd.tv_ok f).ls ark.body st6;have HX:=Ha (IH.out G B b w6 _ ark.body st6 HG.out (HT.out.below (KS6.out.below LW)) (NdV.belowB HBD.out HG.out ((KW.out.trans KS6.out).below hB)) HFB.out HP6.out (by unfold LIM;omega));go_wp2_with fail;refine (HX.out).mono ?_;rintro e w7 ⟨rfl,hq,hk⟩;have KS7:=Ha (KS6.out.trans hk);have HY7:=Ha (hk.box HY6.out hny (by decide) (by decide));obtain ⟨st7,hst⟩:∃ zst:St,zst=(Nd.tv f).ls ark.body st6:=⟨_,rfl⟩;have ln7:=hkl;rw [← hst] at hq ln7;have ES7:=Ha hst;have HP7:=Ha hq;clear hst hq hk HX hkl x0 x1 x2 x3 x4 x5 x6 x7 x8 x9 y0 y1 y2 y3 y4 y5 y6 y7 y8 y9 y10;obtain ⟨x0,x1,x2,x3,x4,x5,x6,x7,x8,x9⟩:=aE (KS7.out.box HBX.out hnb (by decide) (by decide));have y0:w7.cell? ⟨wr.heap.size,0,none⟩=some (.slice P0k p0k q0k):=aF HY7.out 0 _ rfl;have y1:w7.cell? ⟨wr.heap.size,1,none⟩=some (.int .i64 kyk):=aF HY7.out 1 _ rfl;have y2:w7.cell? ⟨wr.heap.size,2,none⟩=some (.string sk):=aF HY7.out 2 _ rfl;have y3:w7.cell? ⟨wr.heap.size,3,none⟩=some (.bool ntk):=aF HY7.out 3 _ rfl;have y4:w7.cell? ⟨wr.heap.size,4,none⟩=some (.bool nik):=aF HY7.out 4 _ rfl;have y5:w7.cell? ⟨wr.heap.size,5,none⟩=some (.slice A4k n4k c4k):=aF HY7.out 5 _ rfl;have y6:w7.cell? ⟨wr.heap.size,6,none⟩=some (.slice A5k n5k c5k):=aF HY7.out 6 _ rfl;have y7:w7.cell? ⟨wr.heap.size,7,none⟩=some (.slice A6k n6k c6k):=aF HY7.out 7 _ rfl;have y8:w7.cell? ⟨wr.heap.size,8,none⟩=some (.slice A7k n7k c7k):=aF HY7.out 8 _ rfl;have y9:w7.cell? ⟨wr.heap.size,9,none⟩=some (.slice A8k n8k c8k):=aF HY7.out 9 _ rfl;have y10:w7.cell? ⟨wr.heap.size,10,none⟩=some (.slice A9k n9k c9k):=aF HY7.out 10 _ rfl;go_wp2_with fail;refine (i1 [59,59] HP7.out (by simp only [gG,gH];omega)).mono ?_;rintro e w8 ⟨rfl,hq,hk⟩;have KS8:=Ha (KS7.out.trans hk);have HY8:=Ha (hk.box HY7.out hny (by decide) (by decide));obtain ⟨st8,hst⟩:∃ zst:St,zst=(st7.put [59,59]).line:=⟨_,rfl⟩;have ln8:=(St.line_len (st7.put [59,59])).trans (congrArg (· + 1) (St.put_len st7 [59,59]));rw [← hst] at hq ln8;have ES8:=Ha hst;have HP8:=Ha hq;clear hst hq hk  x0 x1 x2 x3 x4 x5 x6 x7 x8 x9 y0 y1 y2 y3 y4 y5 y6 y7 y8 y9 y10;obtain ⟨x0,x1,x2,x3,x4,x5,x6,x7,x8,x9⟩:=aE (KS8.out.box HBX.out hnb (by decide) (by decide));have y0:w8.cell? ⟨wr.heap.size,0,none⟩=some (.slice P0k p0k q0k):=aF HY8.out 0 _ rfl;have y1:w8.cell? ⟨wr.heap.size,1,none⟩=some (.int .i64 kyk):=aF HY8.out 1 _ rfl;have y2:w8.cell? ⟨wr.heap.size,2,none⟩=some (.string sk):=aF HY8.out 2 _ rfl;have y3:w8.cell? ⟨wr.heap.size,3,none⟩=some (.bool ntk):=aF HY8.out 3 _ rfl;have y4:w8.cell? ⟨wr.heap.size,4,none⟩=some (.bool nik):=aF HY8.out 4 _ rfl;have y5:w8.cell? ⟨wr.heap.size,5,none⟩=some (.slice A4k n4k c4k):=aF HY8.out 5 _ rfl;have y6:w8.cell? ⟨wr.heap.size,6,none⟩=some (.slice A5k n5k c5k):=aF HY8.out 6 _ rfl;have y7:w8.cell? ⟨wr.heap.size,7,none⟩=some (.slice A6k n6k c6k):=aF HY8.out 7 _ rfl;have y8:w8.cell? ⟨wr.heap.size,8,none⟩=some (.slice A7k n7k c7k):=aF HY8.out 8 _ rfl;have y9:w8.cell? ⟨wr.heap.size,9,none⟩=some (.slice A8k n8k c8k):=aF HY8.out 9 _ rfl;have y10:w8.cell? ⟨wr.heap.size,10,none⟩=some (.slice A9k n9k c9k):=aF HY8.out 10 _ rfl;simp only [gG,gH] at ln8;have HN:=Ha (show eC (Nd.tv f) (ars.drop (k+1)) st8=eC (Nd.tv f) ars st2 by rw [← HE.out,HD.out,ES8.out,ES7.out,ES6.out,ES5.out,ES4.out]);go_wp2_with fail
   go_roundw
   case rel=>exact ⟨k+1,st8,by omega,by go_num,HN.out,by omega,HP8.out,KS8.out⟩
   case measure=>simp only [intOf];omega
  ·have hpe:str=eC (Nd.tv f) ars st2:=by rw [← HE.out,List.drop_eq_nil_of_le (by omega),eC]
   have FIN0:=Ha hpe;clear hpe;go_wp2_with fail;refine (fR lV HPr.out (by simp only [lV,gG,gH];omega)).mono ?_;rintro e w103 ⟨rfl,hq,hk⟩;have KS103:=Ha (KSr.out.trans hk);obtain ⟨st103,hst⟩:∃ zst:St,zst=str.put lV:=⟨_,rfl⟩;have ln103:=St.put_len str lV;rw [← hst] at hq ln103;have ES103:=Ha hst;have HP103:=Ha hq;clear hst hq hk  x0 x1 x2 x3 x4 x5 x6 x7 x8 x9;obtain ⟨x0,x1,x2,x3,x4,x5,x6,x7,x8,x9⟩:=aE (KS103.out.box HBX.out hnb (by decide) (by decide));simp only [lV,gG,gH] at ln103;go_wp2_with fail
   go_end0
   have FIN:=Ha (show dW (Nd.tv f) (NdF.mk ky ⟨nm.toArray⟩ nt ni ops asg wds rds ars kds) st=st103 by unfold dW;rw [ES103.out,FIN0.out,ES2.out,ES0.out,HTW.out,oW _ _ hw0]);rw [FIN.out];exact ⟨rfl,HP103.out,KW.out.trans KS103.out⟩
theorem sE (f:Nat) (ih:PLs f) (ihw:PWd f) (G:Nat→Prop) (B b:Nat) (w:World) (vs:List Value) (n:NdF (Nd f)) (st:St) (hG:∀ k,G k→k<B) (hT:TxB B w) (hv:NdV (f+1) G w vs n) (hfit:cmF (Nd.ft f) n) (hp:Pn B b st w) (hl:st.len+64*Nd.wt (f+1) n≤LIM):
  Calls Tryz.prog 202 #[.pointer (some ⟨b,0,none⟩),ag vs] w (Wrt B b w (bY (Nd.tv f) n st)):=by
 obtain ⟨ky,nmb,nt,ni,ops,asg,wds,rds,ars,kds⟩:=n;obtain ⟨A4,c4,A5,c5,A6,c6,A7,c7,A8,c8,A9,c9,rfl,hns,hal,hl4,hl5,hl6,hl7,hl8,hl9,hso,hsa,hsw,hsr,hsm,hsk⟩:=NdV.open hv;obtain ⟨nm,rfl⟩:∃ l:List UInt8,nmb=⟨l.toArray⟩:=⟨nmb.toList,by rw [bP]⟩;have hl2:st.len+64*wtF (Nd.wt f) (NdF.mk ky ⟨nm.toArray⟩ nt ni ops asg wds rds ars kds)≤1099511627776:=hl;unfold wtF at hl2;simp only [aP] at hl2;have hnl:(⟨nm.toArray⟩:ByteArray).toList=nm:=by rw [Lib.toList_data]
 by_cases hk:ky=5
 ·subst hk;have hq:=hfit.lss (.inl rfl);have hk0:0<kds.length:=hq.1;have hf:∀ k∈kds,(Nd.ft f).ls k:=hq.2;have HL:=Ha hl;unfold ag;obtain ⟨w0,hW,hbw,hbx⟩:=cpd w (.cells #[.int .i64 5,.string ⟨nm.toArray⟩,.bool nt,.bool ni,.slice A4 ops.length c4,.slice A5 asg.length c5,.slice A6 wds.length c6,.slice A7 rds.length c7,.slice A8 ars.length c8,.slice A9 kds.length c9] 28);have hnb:w.heap.size≠b:=by have:=hp.lt;omega
  have hB:=hp.size;have KW:=Ha (Ks.of_below (B:=B) (b:=b) hbw);have hb0:Below B w w0:=hbw.mono hB;have LW:B≤w0.heap.size:=Nat.le_trans hB hbw.size;obtain ⟨HT,HV,HP0⟩:=hs3 (hT.below hb0) hv (hp.below hbw);obtain ⟨st0,hst0⟩:∃ z:St,z=st:=⟨_,rfl⟩;have ln0:st0.len=st.len:=by rw [hst0]
  rw [← hst0] at HP0;obtain ⟨ES0,HSO,HSA,HSW,HSR,HSM,HSK⟩:=hs7 hst0 hso hsa hsw hsr hsm hsk;clear hso hsa hsw hsr hsm hsk;obtain ⟨HG,IH,IHW,HBX,KS0⟩:=hs5 hG ih ihw hbx (Ks.refl B b w0);clear hbw hb0 hp hG hT hv hst0 hbx ih ihw;have HX:=Ha (mJ f IH.out G B b w0 _ (NdF.mk 5 ⟨nm.toArray⟩ nt ni ops asg wds rds ars kds) st0 [123] [125] HG.out (HT.out.below (KS0.out.below LW)) (HV.out.belowB HG.out ((KW.out.trans KS0.out).below hB)) hk0 hf (by decide) (by decide) HP0.out (by rw [ES0.out];exact HL.out));clear hk0 hf hfit;obtain ⟨x0,x1,x2,x3,x4,x5,x6,x7,x8,x9⟩:=aE (KS0.out.box HBX.out hnb (by decide) (by decide));go_enter Tryz.func202,Tryz.ntmps202;go_wp2_with fail;refine HX.out.mono ?_;rintro e w1 ⟨rfl,hq,hk⟩;have HQ:=Ha hq;have HKK:=Ha hk;clear hq hk x0 x1 x2 x3 x4 x5 x6 x7 x8 x9;have FIN:=Ha (show bY (Nd.tv f) (NdF.mk 5 ⟨nm.toArray⟩ nt ni ops asg wds rds ars kds) st=fW (Nd.tv f) [123] [125] (NdF.mk 5 ⟨nm.toArray⟩ nt ni ops asg wds rds ars kds) st0 by rw [ES0.out];unfold bY;rw [if_pos rfl]);go_wp2_with fail
  go_end0
  rw [FIN.out];exact ⟨rfl,HQ.out,KW.out.trans HKK.out⟩
 have h5:=hk;clear hk;by_cases hk:ky=6
 ·subst hk;have hq:=hfit.lss (.inr (.inl rfl));have hk0:0<kds.length:=hq.1;have hf:∀ k∈kds,(Nd.ft f).ls k:=hq.2;have HL:=Ha hl;unfold ag;obtain ⟨w0,hW,hbw,hbx⟩:=cpd w (.cells #[.int .i64 6,.string ⟨nm.toArray⟩,.bool nt,.bool ni,.slice A4 ops.length c4,.slice A5 asg.length c5,.slice A6 wds.length c6,.slice A7 rds.length c7,.slice A8 ars.length c8,.slice A9 kds.length c9] 28);have hnb:w.heap.size≠b:=by have:=hp.lt;omega
  have hB:=hp.size;have KW:=Ha (Ks.of_below (B:=B) (b:=b) hbw);have hb0:Below B w w0:=hbw.mono hB;have LW:B≤w0.heap.size:=Nat.le_trans hB hbw.size;obtain ⟨HT,HV,HP0⟩:=hs3 (hT.below hb0) hv (hp.below hbw);obtain ⟨st0,hst0⟩:∃ z:St,z=st:=⟨_,rfl⟩;have ln0:st0.len=st.len:=by rw [hst0]
  rw [← hst0] at HP0;obtain ⟨ES0,HSO,HSA,HSW,HSR,HSM,HSK⟩:=hs7 hst0 hso hsa hsw hsr hsm hsk;clear hso hsa hsw hsr hsm hsk;obtain ⟨HG,IH,IHW,HBX,KS0⟩:=hs5 hG ih ihw hbx (Ks.refl B b w0);clear hbw hb0 hp hG hT hv hst0 hbx ih ihw;have HX:=Ha (mJ f IH.out G B b w0 _ (NdF.mk 6 ⟨nm.toArray⟩ nt ni ops asg wds rds ars kds) st0 [40] [41] HG.out (HT.out.below (KS0.out.below LW)) (HV.out.belowB HG.out ((KW.out.trans KS0.out).below hB)) hk0 hf (by decide) (by decide) HP0.out (by rw [ES0.out];exact HL.out));clear hk0 hf hfit;obtain ⟨x0,x1,x2,x3,x4,x5,x6,x7,x8,x9⟩:=aE (KS0.out.box HBX.out hnb (by decide) (by decide));go_enter Tryz.func202,Tryz.ntmps202;go_wp2_with fail;refine HX.out.mono ?_;rintro e w1 ⟨rfl,hq,hk⟩;have HQ:=Ha hq;have HKK:=Ha hk;clear hq hk x0 x1 x2 x3 x4 x5 x6 x7 x8 x9;have FIN:=Ha (show bY (Nd.tv f) (NdF.mk 6 ⟨nm.toArray⟩ nt ni ops asg wds rds ars kds) st=fW (Nd.tv f) [40] [41] (NdF.mk 6 ⟨nm.toArray⟩ nt ni ops asg wds rds ars kds) st0 by rw [ES0.out];unfold bY;rw [if_neg (show ¬(6:Int)=5 by decide),if_pos rfl]);go_wp2_with fail
  go_end0
  rw [FIN.out];exact ⟨rfl,HQ.out,KW.out.trans HKK.out⟩
 have h6:=hk;clear hk;by_cases hk:ky=7
 ·subst hk;have hq:=hfit.lss (.inr (.inr (.inl rfl)));have hk0:0<kds.length:=hq.1;have hf:∀ k∈kds,(Nd.ft f).ls k:=hq.2;have hfw:∀ x∈wds,eA (Nd.ft f) x:=hfit.wds;have HL:=Ha hl;unfold ag;obtain ⟨w0,hW,hbw,hbx⟩:=cpd w (.cells #[.int .i64 7,.string ⟨nm.toArray⟩,.bool nt,.bool ni,.slice A4 ops.length c4,.slice A5 asg.length c5,.slice A6 wds.length c6,.slice A7 rds.length c7,.slice A8 ars.length c8,.slice A9 kds.length c9] 28);have hnb:w.heap.size≠b:=by have:=hp.lt;omega
  have hB:=hp.size;have KW:=Ha (Ks.of_below (B:=B) (b:=b) hbw);have hb0:Below B w w0:=hbw.mono hB;have LW:B≤w0.heap.size:=Nat.le_trans hB hbw.size;obtain ⟨HT,HV,HP0⟩:=hs3 (hT.below hb0) hv (hp.below hbw);obtain ⟨st0,hst0⟩:∃ z:St,z=st:=⟨_,rfl⟩;have ln0:st0.len=st.len:=by rw [hst0]
  rw [← hst0] at HP0;obtain ⟨ES0,HSO,HSA,HSW,HSR,HSM,HSK⟩:=hs7 hst0 hso hsa hsw hsr hsm hsk;clear hso hsa hsw hsr hsm hsk;obtain ⟨HG,IH,IHW,HBX,KS0⟩:=hs5 hG ih ihw hbx (Ks.refl B b w0);clear hbw hb0 hp hG hT hv hst0 hbx ih ihw;have HX:=Ha (CT f IH.out IHW.out G B b w0 _ (NdF.mk 7 ⟨nm.toArray⟩ nt ni ops asg wds rds ars kds) st0 HG.out (HT.out.below (KS0.out.below LW)) (HV.out.belowB HG.out ((KW.out.trans KS0.out).below hB)) hk0 hf hfw HP0.out (by rw [ES0.out];exact HL.out));clear hk0 hf hfw hfit;obtain ⟨x0,x1,x2,x3,x4,x5,x6,x7,x8,x9⟩:=aE (KS0.out.box HBX.out hnb (by decide) (by decide));go_enter Tryz.func202,Tryz.ntmps202;go_wp2_with fail;refine HX.out.mono ?_;rintro e w1 ⟨rfl,hq,hk⟩;have HQ:=Ha hq;have HKK:=Ha hk;clear hq hk x0 x1 x2 x3 x4 x5 x6 x7 x8 x9;have FIN:=Ha (show bY (Nd.tv f) (NdF.mk 7 ⟨nm.toArray⟩ nt ni ops asg wds rds ars kds) st=fO (Nd.tv f) (NdF.mk 7 ⟨nm.toArray⟩ nt ni ops asg wds rds ars kds) st0 by rw [ES0.out];unfold bY;rw [if_neg (show ¬(7:Int)=5 by decide),if_neg (show ¬(7:Int)=6 by decide),if_pos rfl]);go_wp2_with fail
  go_end0
  rw [FIN.out];exact ⟨rfl,HQ.out,KW.out.trans HKK.out⟩
 have h7:=hk;clear hk;by_cases hk:ky=8
 ·subst hk;have hw0:0<wds.length:=hfit.cs rfl;have hfa:∀ a∈ars,(∀ x∈a.pats,eA (Nd.ft f) x)∧(Nd.ft f).ls a.body:=hfit.ars rfl;have hfw:∀ x∈wds,eA (Nd.ft f) x:=hfit.wds;have HL:=Ha hl;unfold ag;obtain ⟨w0,hW,hbw,hbx⟩:=cpd w (.cells #[.int .i64 8,.string ⟨nm.toArray⟩,.bool nt,.bool ni,.slice A4 ops.length c4,.slice A5 asg.length c5,.slice A6 wds.length c6,.slice A7 rds.length c7,.slice A8 ars.length c8,.slice A9 kds.length c9] 28);have hnb:w.heap.size≠b:=by have:=hp.lt;omega
  have hB:=hp.size;have KW:=Ha (Ks.of_below (B:=B) (b:=b) hbw);have hb0:Below B w w0:=hbw.mono hB;have LW:B≤w0.heap.size:=Nat.le_trans hB hbw.size;obtain ⟨HT,HV,HP0⟩:=hs3 (hT.below hb0) hv (hp.below hbw);obtain ⟨st0,hst0⟩:∃ z:St,z=st:=⟨_,rfl⟩;have ln0:st0.len=st.len:=by rw [hst0]
  rw [← hst0] at HP0;obtain ⟨ES0,HSO,HSA,HSW,HSR,HSM,HSK⟩:=hs7 hst0 hso hsa hsw hsr hsm hsk;clear hso hsa hsw hsr hsm hsk;obtain ⟨HG,IH,IHW,HBX,KS0⟩:=hs5 hG ih ihw hbx (Ks.refl B b w0);clear hbw hb0 hp hG hT hv hst0 hbx ih ihw;have HX:=Ha (xS f IH.out IHW.out G B b w0 _ (NdF.mk 8 ⟨nm.toArray⟩ nt ni ops asg wds rds ars kds) st0 HG.out (HT.out.below (KS0.out.below LW)) (HV.out.belowB HG.out ((KW.out.trans KS0.out).below hB)) hw0 hfw hfa HP0.out (by rw [ES0.out];exact HL.out));clear hw0 hfa hfw hfit;obtain ⟨x0,x1,x2,x3,x4,x5,x6,x7,x8,x9⟩:=aE (KS0.out.box HBX.out hnb (by decide) (by decide));go_enter Tryz.func202,Tryz.ntmps202;go_wp2_with fail;refine HX.out.mono ?_;rintro e w1 ⟨rfl,hq,hk⟩;have HQ:=Ha hq;have HKK:=Ha hk;clear hq hk x0 x1 x2 x3 x4 x5 x6 x7 x8 x9;have FIN:=Ha (show bY (Nd.tv f) (NdF.mk 8 ⟨nm.toArray⟩ nt ni ops asg wds rds ars kds) st=dW (Nd.tv f) (NdF.mk 8 ⟨nm.toArray⟩ nt ni ops asg wds rds ars kds) st0 by rw [ES0.out];unfold bY;rw [if_neg (show ¬(8:Int)=5 by decide),if_neg (show ¬(8:Int)=6 by decide),if_neg (show ¬(8:Int)=7 by decide),if_pos rfl]);go_wp2_with fail
  go_end0
  rw [FIN.out];exact ⟨rfl,HQ.out,KW.out.trans HKK.out⟩
 have h8:=hk;clear hk;by_cases hk:ky=9
 ·subst hk;have hq:=hfit.lss (.inr (.inr (.inr (.inl rfl))));have hk0:0<kds.length:=hq.1;have hf:∀ k∈kds,(Nd.ft f).ls k:=hq.2;have HL:=Ha hl;unfold ag;obtain ⟨w0,hW,hbw,hbx⟩:=cpd w (.cells #[.int .i64 9,.string ⟨nm.toArray⟩,.bool nt,.bool ni,.slice A4 ops.length c4,.slice A5 asg.length c5,.slice A6 wds.length c6,.slice A7 rds.length c7,.slice A8 ars.length c8,.slice A9 kds.length c9] 28);have hnb:w.heap.size≠b:=by have:=hp.lt;omega
  have hB:=hp.size;have KW:=Ha (Ks.of_below (B:=B) (b:=b) hbw);have hb0:Below B w w0:=hbw.mono hB;have LW:B≤w0.heap.size:=Nat.le_trans hB hbw.size;obtain ⟨HT,HV,HP0⟩:=hs3 (hT.below hb0) hv (hp.below hbw);obtain ⟨st0,hst0⟩:∃ z:St,z=st:=⟨_,rfl⟩;have ln0:st0.len=st.len:=by rw [hst0]
  rw [← hst0] at HP0;obtain ⟨ES0,HSO,HSA,HSW,HSR,HSM,HSK⟩:=hs7 hst0 hso hsa hsw hsr hsm hsk;clear hso hsa hsw hsr hsm hsk;obtain ⟨HG,IH,IHW,HBX,KS0⟩:=hs5 hG ih ihw hbx (Ks.refl B b w0);clear hbw hb0 hp hG hT hv hst0 hbx ih ihw;have HX:=Ha (o7 f IH.out G B b w0 _ (NdF.mk 9 ⟨nm.toArray⟩ nt ni ops asg wds rds ars kds) st0 HG.out (HT.out.below (KS0.out.below LW)) (HV.out.belowB HG.out ((KW.out.trans KS0.out).below hB)) hf HP0.out (by rw [ES0.out];exact HL.out));clear hk0 hf hfit;obtain ⟨x0,x1,x2,x3,x4,x5,x6,x7,x8,x9⟩:=aE (KS0.out.box HBX.out hnb (by decide) (by decide));go_enter Tryz.func202,Tryz.ntmps202;go_wp2_with fail;refine HX.out.mono ?_;rintro e w1 ⟨rfl,hq,hk⟩;have HQ:=Ha hq;have HKK:=Ha hk;clear hq hk x0 x1 x2 x3 x4 x5 x6 x7 x8 x9;have FIN:=Ha (show bY (Nd.tv f) (NdF.mk 9 ⟨nm.toArray⟩ nt ni ops asg wds rds ars kds) st=hJ (Nd.tv f) (NdF.mk 9 ⟨nm.toArray⟩ nt ni ops asg wds rds ars kds) st0 by rw [ES0.out];unfold bY;rw [if_neg (show ¬(9:Int)=5 by decide),if_neg (show ¬(9:Int)=6 by decide),if_neg (show ¬(9:Int)=7 by decide),if_neg (show ¬(9:Int)=8 by decide),if_pos rfl]);go_wp2_with fail
  go_end0
  rw [FIN.out];exact ⟨rfl,HQ.out,KW.out.trans HKK.out⟩
 have h9:=hk;clear hk;by_cases hk:ky=10
 ·subst hk;have hq:=hfit.lss (.inr (.inr (.inr (.inr (.inl rfl)))));have hk0:0<kds.length:=hq.1;have hf:∀ k∈kds,(Nd.ft f).ls k:=hq.2;have hk2:kds.length=2:=hfit.wh (.inl rfl);have HL:=Ha hl;unfold ag;obtain ⟨w0,hW,hbw,hbx⟩:=cpd w (.cells #[.int .i64 10,.string ⟨nm.toArray⟩,.bool nt,.bool ni,.slice A4 ops.length c4,.slice A5 asg.length c5,.slice A6 wds.length c6,.slice A7 rds.length c7,.slice A8 ars.length c8,.slice A9 kds.length c9] 28);have hnb:w.heap.size≠b:=by have:=hp.lt;omega
  have hB:=hp.size;have KW:=Ha (Ks.of_below (B:=B) (b:=b) hbw);have hb0:Below B w w0:=hbw.mono hB;have LW:B≤w0.heap.size:=Nat.le_trans hB hbw.size;obtain ⟨HT,HV,HP0⟩:=hs3 (hT.below hb0) hv (hp.below hbw);obtain ⟨st0,hst0⟩:∃ z:St,z=st:=⟨_,rfl⟩;have ln0:st0.len=st.len:=by rw [hst0]
  rw [← hst0] at HP0;obtain ⟨ES0,HSO,HSA,HSW,HSR,HSM,HSK⟩:=hs7 hst0 hso hsa hsw hsr hsm hsk;clear hso hsa hsw hsr hsm hsk;obtain ⟨HG,IH,IHW,HBX,KS0⟩:=hs5 hG ih ihw hbx (Ks.refl B b w0);clear hbw hb0 hp hG hT hv hst0 hbx ih ihw;have HX:=Ha (uQ f IH.out G B b w0 _ (NdF.mk 10 ⟨nm.toArray⟩ nt ni ops asg wds rds ars kds) st0 kC HG.out (HT.out.below (KS0.out.below LW)) (HV.out.belowB HG.out ((KW.out.trans KS0.out).below hB)) hk2 hf (by decide) HP0.out (by rw [ES0.out];exact HL.out));clear hk0 hf hk2 hfit;obtain ⟨x0,x1,x2,x3,x4,x5,x6,x7,x8,x9⟩:=aE (KS0.out.box HBX.out hnb (by decide) (by decide));go_enter Tryz.func202,Tryz.ntmps202;go_wp2_with fail;refine HX.out.mono ?_;rintro e w1 ⟨rfl,hq,hk⟩;have HQ:=Ha hq;have HKK:=Ha hk;clear hq hk x0 x1 x2 x3 x4 x5 x6 x7 x8 x9;have FIN:=Ha (show bY (Nd.tv f) (NdF.mk 10 ⟨nm.toArray⟩ nt ni ops asg wds rds ars kds) st=gR (Nd.tv f) kC (NdF.mk 10 ⟨nm.toArray⟩ nt ni ops asg wds rds ars kds) st0 by rw [ES0.out];unfold bY;rw [if_neg (show ¬(10:Int)=5 by decide),if_neg (show ¬(10:Int)=6 by decide),if_neg (show ¬(10:Int)=7 by decide),if_neg (show ¬(10:Int)=8 by decide),if_neg (show ¬(10:Int)=9 by decide),if_pos rfl]);go_wp2_with fail
  go_end0
  rw [FIN.out];exact ⟨rfl,HQ.out,KW.out.trans HKK.out⟩
 have h10:=hk;clear hk;by_cases hk:ky=11
 ·subst hk;have hq:=hfit.lss (.inr (.inr (.inr (.inr (.inr rfl)))));have hk0:0<kds.length:=hq.1;have hf:∀ k∈kds,(Nd.ft f).ls k:=hq.2;have hk2:kds.length=2:=hfit.wh (.inr rfl);have HL:=Ha hl;unfold ag;obtain ⟨w0,hW,hbw,hbx⟩:=cpd w (.cells #[.int .i64 11,.string ⟨nm.toArray⟩,.bool nt,.bool ni,.slice A4 ops.length c4,.slice A5 asg.length c5,.slice A6 wds.length c6,.slice A7 rds.length c7,.slice A8 ars.length c8,.slice A9 kds.length c9] 28);have hnb:w.heap.size≠b:=by have:=hp.lt;omega
  have hB:=hp.size;have KW:=Ha (Ks.of_below (B:=B) (b:=b) hbw);have hb0:Below B w w0:=hbw.mono hB;have LW:B≤w0.heap.size:=Nat.le_trans hB hbw.size;obtain ⟨HT,HV,HP0⟩:=hs3 (hT.below hb0) hv (hp.below hbw);obtain ⟨st0,hst0⟩:∃ z:St,z=st:=⟨_,rfl⟩;have ln0:st0.len=st.len:=by rw [hst0]
  rw [← hst0] at HP0;obtain ⟨ES0,HSO,HSA,HSW,HSR,HSM,HSK⟩:=hs7 hst0 hso hsa hsw hsr hsm hsk;clear hso hsa hsw hsr hsm hsk;obtain ⟨HG,IH,IHW,HBX,KS0⟩:=hs5 hG ih ihw hbx (Ks.refl B b w0);clear hbw hb0 hp hG hT hv hst0 hbx ih ihw;have HX:=Ha (uQ f IH.out G B b w0 _ (NdF.mk 11 ⟨nm.toArray⟩ nt ni ops asg wds rds ars kds) st0 kB HG.out (HT.out.below (KS0.out.below LW)) (HV.out.belowB HG.out ((KW.out.trans KS0.out).below hB)) hk2 hf (by decide) HP0.out (by rw [ES0.out];exact HL.out));clear hk0 hf hk2 hfit;obtain ⟨x0,x1,x2,x3,x4,x5,x6,x7,x8,x9⟩:=aE (KS0.out.box HBX.out hnb (by decide) (by decide));go_enter Tryz.func202,Tryz.ntmps202;go_wp2_with fail;refine HX.out.mono ?_;rintro e w1 ⟨rfl,hq,hk⟩;have HQ:=Ha hq;have HKK:=Ha hk;clear hq hk x0 x1 x2 x3 x4 x5 x6 x7 x8 x9;have FIN:=Ha (show bY (Nd.tv f) (NdF.mk 11 ⟨nm.toArray⟩ nt ni ops asg wds rds ars kds) st=gR (Nd.tv f) kB (NdF.mk 11 ⟨nm.toArray⟩ nt ni ops asg wds rds ars kds) st0 by rw [ES0.out];unfold bY;rw [if_neg (show ¬(11:Int)=5 by decide),if_neg (show ¬(11:Int)=6 by decide),if_neg (show ¬(11:Int)=7 by decide),if_neg (show ¬(11:Int)=8 by decide),if_neg (show ¬(11:Int)=9 by decide),if_neg (show ¬(11:Int)=10 by decide),if_pos rfl]);go_wp2_with fail
  go_end0
  rw [FIN.out];exact ⟨rfl,HQ.out,KW.out.trans HKK.out⟩
 have h11:=hk;clear hk;have b5:(ky==5)=false:=by rw [gJ];exact h5
 have b6:(ky==6)=false:=by rw [gJ];exact h6
 have b7:(ky==7)=false:=by rw [gJ];exact h7
 have b8:(ky==8)=false:=by rw [gJ];exact h8
 have b9:(ky==9)=false:=by rw [gJ];exact h9
 have b10:(ky==10)=false:=by rw [gJ];exact h10
 have b11:(ky==11)=false:=by rw [gJ];exact h11
 have FN:=Ha (show bY (Nd.tv f) (NdF.mk ky ⟨nm.toArray⟩ nt ni ops asg wds rds ars kds) st=st by unfold bY;rw [if_neg h5,if_neg h6,if_neg h7,if_neg h8,if_neg h9,if_neg h10,if_neg h11]);clear hfit h5 h6 h7 h8 h9 h10 h11;unfold ag;obtain ⟨w0,hW,hbw,hbx⟩:=cpd w (.cells #[.int .i64 ky,.string ⟨nm.toArray⟩,.bool nt,.bool ni,.slice A4 ops.length c4,.slice A5 asg.length c5,.slice A6 wds.length c6,.slice A7 rds.length c7,.slice A8 ars.length c8,.slice A9 kds.length c9] 28);have hnb:w.heap.size≠b:=by have:=hp.lt;omega
 have hB:=hp.size;have KW:=Ha (Ks.of_below (B:=B) (b:=b) hbw);have hb0:Below B w w0:=hbw.mono hB;have LW:B≤w0.heap.size:=Nat.le_trans hB hbw.size;obtain ⟨HT,HV,HP0⟩:=hs3 (hT.below hb0) hv (hp.below hbw);obtain ⟨st0,hst0⟩:∃ z:St,z=st:=⟨_,rfl⟩;have ln0:st0.len=st.len:=by rw [hst0]
 rw [← hst0] at HP0;obtain ⟨ES0,HSO,HSA,HSW,HSR,HSM,HSK⟩:=hs7 hst0 hso hsa hsw hsr hsm hsk;clear hso hsa hsw hsr hsm hsk;obtain ⟨HG,IH,IHW,HBX,KS0⟩:=hs5 hG ih ihw hbx (Ks.refl B b w0);clear hbw hb0 hp hG hT hv hst0 hbx ih ihw;obtain ⟨x0,x1,x2,x3,x4,x5,x6,x7,x8,x9⟩:=aE (KS0.out.box HBX.out hnb (by decide) (by decide));go_enter Tryz.func202,Tryz.ntmps202;go_wp2_with fail
 go_end0
 rw [FN.out,← ES0.out];exact ⟨rfl,HP0.out,KW.out.trans KS0.out⟩
end Go.Proofs.YtjpopekmbmcggaaGreatDoor
