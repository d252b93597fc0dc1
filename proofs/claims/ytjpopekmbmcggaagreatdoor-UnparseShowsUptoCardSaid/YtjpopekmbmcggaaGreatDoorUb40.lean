/- Towards unparseShows_card. -/
import Derived.Test.YtjpopekmbmcggaaGreatDoorUb38
import Derived.Test.YtjpopekmbmcggaaGreatDoorUb39
set_option maxRecDepth 100000
set_option maxHeartbeats 16000000
namespace Go.Proofs.YtjpopekmbmcggaaGreatDoor
open Go.RowKit
theorem B1 (f:Nat) (ih:RLs f) (ihw:RWd f) (G:Nat→Prop) (b:Nat) (w:World) (vs:List Value) (n:NdF (Nd f)) (st:St) (hG:∀ k,G k→k<b) (hv:NdV (f+1) G w vs n) (hk0:0<n.kids.length) (hf:∀ k∈n.kids,(Nd.ft f).ls k) (hfw:∀ x∈n.words,eA (Nd.ft f) x) (hp:Tx b st w) (hl:st.len+64*Nd.wt (f+1) n≤LIM):
  Calls Tryz.prog 195 #[.pointer (some ⟨b,0,none⟩),ag vs] w (Wtx b w (fO (Nd.tv f) n st)):=by
 obtain ⟨ky,nmb,nt,ni,ops,asg,wds,rds,ars,kds⟩:=n;obtain ⟨A4,c4,A5,c5,A6,c6,A7,c7,A8,c8,A9,c9,rfl,hns,hal,hl4,hl5,hl6,hl7,hl8,hl9,hso,hsa,hsw,hsr,hsm,hsk⟩:=NdV.open hv;obtain ⟨nm,rfl⟩:∃ l:List UInt8,nmb=⟨l.toArray⟩:=⟨nmb.toList,by rw [bP]⟩;have hl2:st.len+64*wtF (Nd.wt f) (NdF.mk ky ⟨nm.toArray⟩ nt ni ops asg wds rds ars kds)≤1099511627776:=hl;unfold wtF at hl2;simp only [aP] at hl2;have hnl:(⟨nm.toArray⟩:ByteArray).toList=nm:=by rw [Lib.toList_data]
 simp only at hk0 hf hfw;have hkt:=fS (Nd.wt f) kds 0 hk0;obtain ⟨bkK,okK,rfl,hg,hel⟩:=hsk.elem (by omega);have HELK:=Ha hel;have HGKK:=Ha hg;clear hel hg;cases ni
 ·show Calls Tryz.prog 195 #[.pointer (some ⟨b,0,none⟩),.agg #[.int .i64 ky,.string ⟨nm.toArray⟩,.bool nt,.bool false,.slice A4 ops.length c4,.slice A5 asg.length c5,.slice A6 wds.length c6,.slice A7 rds.length c7,.slice A8 ars.length c8,.slice (some ⟨bkK,okK,none⟩) kds.length c9]] w (Wtx b w _);have hB:=hp.lt;obtain ⟨w0,hW,hbw,hbx⟩:=cpd w (.cells #[.int .i64 ky,.string ⟨nm.toArray⟩,.bool nt,.bool false,.slice A4 ops.length c4,.slice A5 asg.length c5,.slice A6 wds.length c6,.slice A7 rds.length c7,.slice A8 ars.length c8,.slice (some ⟨bkK,okK,none⟩) kds.length c9] 28);have hnb:w.heap.size≠b:=by omega
  have KW:=Ha (Kb.of_below (b:=b) hbw);have LW:b<w0.heap.size:=gK hB hbw.size;have HV:=Ha hv;have HP0:=Ha (hp.keep hbw);obtain ⟨st0,hst0⟩:∃ z:St,z=st:=⟨_,rfl⟩;have ln0:st0.len=st.len:=by rw [hst0]
  rw [← hst0] at HP0;obtain ⟨ES0,HSO,HSA,HSW,HSR,HSM,HSK⟩:=hs7 hst0 hso hsa hsw hsr hsm hsk;clear hso hsa hsw hsr hsm hsk;obtain ⟨HG,IH,IHW,HF,HFW,HBX,KS0⟩:=hs7 hG ih ihw hf hfw hbx (Kb.refl b w0);clear hbw hp hG hv hst0 hbx ih ihw hf hfw;obtain ⟨x0,x1,x2,x3,x4,x5,x6,x7,x8,x9⟩:=aE (KS0.out.box HBX.out hnb);obtain ⟨t0,t1,g0,g1⟩:=HP0.out.all;go_enter Tryz.func195,Tryz.ntmps195;have hle:=St.le1 st0;obtain ⟨z00,hz00⟩:∃ z:List UInt8,z=st0.1++[102,111,114,32]:=⟨_,rfl⟩;have lz00:z00.length=st0.1.length+([102,111,114,32]:List UInt8).length:=by rw [hz00,gI]
  simp only [gG,gH] at lz00;have az00:=bN st0.1 [102,111,114,32] (by simp only [gG,gH];omega);rw [← hz00] at az00;obtain ⟨z01,hz01⟩:∃ z:List UInt8,z=z00++nm:=⟨_,rfl⟩;have lz01:z01.length=z00.length+(nm:List UInt8).length:=by rw [hz01,gI]
  have az01:=bN z00 nm (by omega);rw [← hz01] at az01;have HZ0:=Ha (show z01=(st0).1++([102,111,114,32]++nm) by rw [hz01,hz00];simp only [List.append_assoc]);clear hz00 hz01;go_wp2_with fail
  go_region
  have hq:Tx b (st0.put ([102,111,114,32]++nm)) ((w0.setCell ⟨b,0,none⟩ (.string ⟨z01.toArray⟩)).drew):=((Tx.put' HP0.out HZ0.out).keep (Below.refl _ _).drew);have hk:Kb b w0 ((w0.setCell ⟨b,0,none⟩ (.string ⟨z01.toArray⟩)).drew):=(((Kb.refl b w0).set 0 _).trans (.of_below (Below.refl _ _).drew));generalize hZ:(w0.setCell ⟨b,0,none⟩ (.string ⟨z01.toArray⟩)).drew=w1 at *;have KS1:=Ha (KS0.out.trans hk);obtain ⟨st1,hst⟩:∃ zst:St,zst=st0.put ([102,111,114,32]++nm):=⟨_,rfl⟩;have ln1:=St.put_len st0 ([102,111,114,32]++nm);rw [← hst] at hq ln1;have ES1:=Ha hst;have HP1:=Ha hq;simp only [gI,gG,gH] at ln1;clear hst hq hk hle hZ az00 lz00 az01 lz01  x0 x1 x2 x3 x4 x5 x6 x7 x8 x9 t0 t1 g0 g1;obtain ⟨x0,x1,x2,x3,x4,x5,x6,x7,x8,x9⟩:=aE (KS1.out.box HBX.out hnb);obtain ⟨t0,t1,g0,g1⟩:=HP1.out.all;go_wp2_with fail
  go_loopw [4] (fun i wr=>∃ (k:Nat) (str:St),k≤wds.length∧i=.int .i64 k∧cO (Nd.tv f) (wds.drop k) str=cO (Nd.tv f) wds st1∧str.len+64*tot (wtW (Nd.wt f)) (wds.drop k)≤1099511627760-64*tot (Nd.wt f) kds∧Tx b str wr∧Kb b w0 wr) (fun i _=>wds.length-(intOf i).toNat)
  case atStart=>exact ⟨0,st1,by omega,rfl,rfl,by rw [List.drop_zero];omega,HP1.out,KS1.out⟩
  case round=>
   obtain ⟨k,str,hk,rfl,he,lnr,hq,hks⟩:=hrel;obtain ⟨HE,HPr,KSr⟩:=hs3 he hq hks;clear he hq hks x0 x1 x2 x3 x4 x5 x6 x7 x8 x9 t0 t1 g0 g1;obtain ⟨x0,x1,x2,x3,x4,x5,x6,x7,x8,x9⟩:=aE (KSr.out.box HBX.out hnb);obtain ⟨t0,t1,g0,g1⟩:=HPr.out.all;by_cases hlt:k<wds.length
   ·clear x0 x1 x2 x3 x4 x5 x6 x7 x8 x9 t0 t1 g0 g1;obtain ⟨bkW,okW,rfl,hg,hel⟩:=HSW.out.elem (by omega);have HELW:=Ha hel;have HGKW:=Ha hg;clear hel hg;obtain ⟨x0,x1,x2,x3,x4,x5,x6,x7,x8,x9⟩:=aE (KSr.out.box HBX.out hnb);obtain ⟨t0,t1,g0,g1⟩:=HPr.out.all;have HD:=Ha (iK (Nd.tv f) wds k str hlt);have htd:=bS (wtW (Nd.wt f)) wds k hlt;obtain ⟨usk,hvl,hR0,hcell⟩:=HELW.out k (by omega);have z:=fun j u hj=>(keepB HG.out ((KW.out.trans KSr.out).below (Nat.le_of_lt hB)) _ HGKW.out).trans (hcell j u hj);obtain ⟨A0k,n0k,c0k,rfl⟩:=hR0.shape;have dk_0:wr.cell? ⟨bkW,okW+k,none⟩=some (.slice A0k n0k c0k):=by simpa using z 0 _ rfl
    have HEk:=Ha hR0;clear hR0 z hcell hvl;have hwl:=cD (Nd.tv_ok f) wds[k];obtain ⟨tw,htw⟩:∃ l:List UInt8,l=wordX (Nd.tv f) wds[k]:=⟨_,rfl⟩;have HTW:=Ha htw;rw [← htw] at hwl;have FW:=Ha (show ∀ X,Kb b wr X→Calls Tryz.prog 75 #[.agg #[.slice A0k n0k c0k]] X fun e w'=>e=.returned (bs tw)∧Kb b wr w'∧(∀ s,Tx b s X→Tx b s w') from fun X hX=>
     (IHW.out G X A0k n0k c0k wds[k] (fun j hj=>gK (Nat.lt_trans (HG.out j hj) LW) (Nat.le_trans KSr.out.size hX.size)) (HEk.out.belowB HG.out (((KW.out.trans KSr.out).trans hX).below (Nat.le_of_lt hB))) (HFW.out _ (List.getElem_mem hlt)) (by unfold LIM;omega)).mono fun _ _ ⟨h1,h2⟩=>⟨by rw [htw];exact h1,hX.trans (.of_below h2),fun s hs=>hs.keep h2⟩)
    clear htw;have hbW:bkW≠b:=by have:=HG.out _ HGKW.out;omega
    have HQ:=Ha (show ∀ X,Kb b wr X→Tx b str X→(X.cell? ⟨w.heap.size,6,none⟩=some (.slice (some ⟨bkW,okW,none⟩) wds.length c6)∧X.cell? ⟨bkW,okW+k,none⟩=some (.slice A0k n0k c0k)∧X.cell? ⟨b,0,none⟩=some (.string ⟨str.1.toArray⟩)) from fun X h t=>⟨Kb.cell h x6 (by simp only;omega),Kb.cell h dk_0 (by simp only;omega),t.c0⟩);have R0:=Ha (show Kb b wr wr.drew from .of_below (Below.refl _ _).drew);have hpd:=HPr.out.keep (Below.refl wr.heap.size wr).drew;have P0:=Ha hpd;have td:=hpd.c0;clear hpd;have hle:=St.le1 str;obtain ⟨za,hza⟩:∃ z:List UInt8,z=str.1++[32]:=⟨_,rfl⟩;have lza:za.length=(str.1:List UInt8).length+([32]:List UInt8).length:=by rw [hza,gI]
    simp only [gG,gH] at lza;have aza:=bN str.1 [32] (by simp only [gG,gH];omega);rw [← hza] at aza;obtain ⟨zb,hzb⟩:∃ z:List UInt8,z=za++tw:=⟨_,rfl⟩;have lzb:zb.length=(za:List UInt8).length+(tw:List UInt8).length:=by rw [hzb,gI]
    have azb:=bN za tw (by omega);rw [← hzb] at azb;have HZ:=Ha (show zb=str.1++([32]++tw) by rw [hzb,hza,List.append_assoc]);clear hza hzb td;go_wp2_with fail;clear x0 x1 x2 x3 x4 x5 x6 x7 x8 x9 t0 t1 g0 g1 dk_0;refine aU.start 15 (fun X=>X.cell? ⟨w.heap.size,6,none⟩=some (.slice (some ⟨bkW,okW,none⟩) wds.length c6)∧X.cell? ⟨bkW,okW+k,none⟩=some (.slice A0k n0k c0k)∧X.cell? ⟨b,0,none⟩=some (.string ⟨str.1.toArray⟩)) (by kernel_rfl) ?hs_1 (fun hHeld=>?hr_1)
    case hs_1=>exact HQ.out _ R0.out P0.out
    case hr_1=>
     refine aU.take (i:=0) (oi:=_) (v:=?v0_1) rfl (by kernel_rfl) (by kernel_rfl) (by kernel_rfl) (by kernel_rfl) (fun _ _ _ h=>h) (Or.inl ⟨by rfl, ?hy0_1⟩) (by assumption) ?hr0_1
     case hy0_1=>
      intro w hSw;try dsimp only at hSw
      simp only [gA,gC]
      go_simp
      try with_reducible rfl
     simp only [gA,gC,Act.put,gD,gE,gF];refine aU.take (i:=1) (oi:=_) (v:=?v1_1) rfl (by kernel_rfl) (by kernel_rfl) (by kernel_rfl) (by kernel_rfl) (fun _ _ _ h=>h) (Or.inl ⟨by rfl, ?hy1_1⟩) (by assumption) ?hr1_1
     case hy1_1=>
      intro w hSw;try dsimp only at hSw
      simp only [gA,gB,gC]
      go_simp
      try with_reducible rfl
     simp only [gA,gB,gC,Act.put,gD,gE,gF];refine aU.take (i:=2) (oi:=_) (v:=?v2_1) rfl (by kernel_rfl) (by kernel_rfl) (by kernel_rfl) (by kernel_rfl) (fun _ _ _ h=>h) (Or.inl ⟨by rfl, ?hy2_1⟩) (by assumption) ?hr2_1
     case hy2_1=>
      intro w hSw;try dsimp only at hSw
      simp only [gA,gB,gC]
      go_simp
      try with_reducible rfl
     simp only [gA,gB,gC,Act.put,gD,gE,gF];refine aU.take (i:=3) (oi:=_) (v:=?v3_1) rfl (by kernel_rfl) (by kernel_rfl) (by kernel_rfl) (by kernel_rfl) (fun _ _ _ h=>h) (Or.inl ⟨by rfl, ?hy3_1⟩) (by assumption) ?hr3_1
     case hy3_1=>
      intro w hSw;try dsimp only at hSw
      simp only [gA,gB,gC]
      go_simp
      try with_reducible rfl
     simp only [gA,gB,gC,Act.put,gD,gE,gF];refine aU.take (i:=4) (oi:=_) (v:=?v4_1) rfl (by kernel_rfl) (by kernel_rfl) (by kernel_rfl) (by kernel_rfl) (fun _ _ _ h=>h) (Or.inl ⟨by rfl, ?hy4_1⟩) (by assumption) ?hr4_1
     case hy4_1=>
      intro w hSw;try dsimp only at hSw
      simp only [gA,gB,gC]
      go_simp
      try with_reducible rfl
     simp only [gA,gB,gC,Act.put,gD,gE,gF];refine aU.take (i:=5) (oi:=_) (v:=?v5_1) rfl (by kernel_rfl) (by kernel_rfl) (by kernel_rfl) (by kernel_rfl) (fun _ _ _ h=>h) (Or.inl ⟨by rfl, ?hy5_1⟩) (by assumption) ?hr5_1
     case hy5_1=>
      intro w hSw;try dsimp only at hSw
      simp only [gA,gB,gC]
      go_simp
      try with_reducible rfl
     simp only [gA,gB,gC,Act.put,gD,gE,gF];refine aU.take (i:=6) (oi:=_) (v:=?v6_1) rfl (by kernel_rfl) (by kernel_rfl) (by kernel_rfl) (by kernel_rfl) (fun _ _ _ h=>h) (Or.inl ⟨by rfl, ?hy6_1⟩) (by assumption) ?hr6_1
     case hy6_1=>
      intro w hSw;try dsimp only at hSw
      simp only [gA,gB,gC]
      go_simp
      try with_reducible rfl
     simp only [gA,gB,gC,Act.put,gD,gE,gF];refine aU.take (i:=7) (oi:=_) (v:=?v7_1) rfl (by kernel_rfl) (by kernel_rfl) (by kernel_rfl) (by kernel_rfl) (fun _ _ _ h=>h) (Or.inl ⟨by rfl, ?hy7_1⟩) (by assumption) ?hr7_1
     case hy7_1=>
      intro w hSw;try dsimp only at hSw
      simp only [gA,gB,gC]
      go_simp
      try with_reducible rfl
     simp only [gA,gB,gC,Act.put,gD,gE,gF];refine aU.take (i:=8) (oi:=_) (v:=?v8_1) rfl (by kernel_rfl) (by kernel_rfl) (by kernel_rfl) (by kernel_rfl) (fun _ _ _ h=>h) (Or.inl ⟨by rfl, ?hy8_1⟩) (by assumption) ?hr8_1
     case hy8_1=>
      intro w hSw;try dsimp only at hSw
      simp only [gA,gB,gC]
      go_simp
      try with_reducible rfl
     simp only [gA,gB,gC,Act.put,gD,gE,gF];refine aU.take (i:=9) (oi:=_) (v:=?v9_1) rfl (by kernel_rfl) (by kernel_rfl) (by kernel_rfl) (by kernel_rfl) (fun _ _ _ h=>h) (Or.inl ⟨by rfl, ?hy9_1⟩) (by assumption) ?hr9_1
     case hy9_1=>
      intro w hSw;try dsimp only at hSw
      simp only [gA,gB,gC]
      go_simp
      try with_reducible rfl
     simp only [gA,gB,gC,Act.put,gD,gE,gF];refine aU.take (i:=10) (oi:=_) (v:=?v10_1) rfl (by kernel_rfl) (by kernel_rfl) (by kernel_rfl) (by kernel_rfl) (fun _ _ _ h=>h) (Or.inl ⟨by rfl, ?hy10_1⟩) (by assumption) ?hr10_1
     case hy10_1=>
      intro w hSw;try dsimp only at hSw
      simp only [gA,gB,gC]
      go_simp
      try with_reducible rfl
     simp only [gA,gB,gC,Act.put,gD,gE,gF];refine aU.one (i:=11) (o:=_) (by kernel_rfl) rfl (fun K hK=>?_);simp only [gA,gB,gC]
     go_simp
     go_at_call 75
     refine Calls.mono (FW.out _ R0.out) ?_;rintro e wD ⟨rfl,kwd0,pwd0⟩;have kwd:=Ha kwd0;have ptd:=pwd0 _ P0.out;have pwd:=Ha ptd;have te:=ptd.c0;have ge:=ptd.f 0;clear kwd0 pwd0 ptd;unfold bs;dsimp only;refine hK.out _ _ ?_ (fun hHeld=>?_)
     ·exact HQ.out _ kwd.out pwd.out
     clear hK K;try simp only [Act.put,gD,gE,gF]
     refine aU.take (i:=12) (oi:=_) (v:=?v12_1) rfl (by kernel_rfl) (by kernel_rfl) (by kernel_rfl) (by kernel_rfl) (fun _ _ _ h=>h) (Or.inl ⟨by rfl, ?hy12_1⟩) (by assumption) ?hr12_1
     case hy12_1=>
      intro w hSw;try dsimp only at hSw
      simp only [gA,gB,gC]
      go_simp
      try with_reducible rfl
     simp only [gA,gB,gC,Act.put,gD,gE,gF];refine aU.one (i:=13) (o:=_) (by kernel_rfl) rfl (fun K hK=>?_);simp only [gA,gB,gC]
     go_simp
     refine hK.out _ _ ?_ (fun hHeld=>?_)
     ·exact (by assumption)
     clear hK K;try simp only [Act.put,gD,gE,gF]
     refine aU.take (i:=14) (oi:=_) (v:=?v14_1) rfl (by kernel_rfl) (by kernel_rfl) (by kernel_rfl) (by kernel_rfl) (fun _ _ _ h=>h) (Or.inl ⟨by rfl, ?hy14_1⟩) (by assumption) ?hr14_1
     case hy14_1=>
      intro w hSw;try dsimp only at hSw
      simp only [gA,gB,gC]
      go_simp
      try with_reducible rfl
     simp only [gA,gB,gC,Act.put,gD,gE,gF];refine aU.last (o:=_) (by kernel_rfl) rfl (fun K hK=>?_);simp only [gA,gB,gC]
     go_simp
     refine hK.out _ _ ?_;refine aU.done (by kernel_rfl) ?_ _;have hq:=Tx.put' pwd.out HZ.out;have ln:=St.put_len str ([32]++tw);rw [gI,gG,gH] at ln;have HN:=Ha (show cO (Nd.tv f) (wds.drop (k+1)) (str.put ([32]++tw))=cO (Nd.tv f) wds st1 by rw [← HE.out,HD.out,HTW.out]);have HQX:=Ha hq;clear hq;go_wp2_with fail
     go_roundw
     case rel=>exact ⟨k+1,str.put ([32]++tw),by omega,by go_num,HN.out,by omega,HQX.out,KSr.out.trans (kwd.out.set 0 _)⟩
     case measure=>simp only [intOf];omega
   ·have hpe:str=cO (Nd.tv f) wds st1:=by rw [← HE.out,List.drop_eq_nil_of_le (by omega),cO]
    have FIN0:=Ha hpe;have htz:tot (wtW (Nd.wt f)) (wds.drop k)=0:=by rw [List.drop_eq_nil_of_le (by omega)];rfl
    clear hpe;go_wp2_with fail;refine (kT b str wr HPr.out (by omega)).mono ?_;rintro e w102 ⟨rfl,hq,hk⟩;have KS102:=Ha (KSr.out.trans hk);obtain ⟨st102,hst⟩:∃ zst:St,zst=str.line:=⟨_,rfl⟩;have ln102:=St.line_len str;rw [← hst] at hq ln102;have ES102:=Ha hst;have HP102:=Ha hq;clear hst hq hk  x0 x1 x2 x3 x4 x5 x6 x7 x8 x9 t0 t1 g0 g1;obtain ⟨x0,x1,x2,x3,x4,x5,x6,x7,x8,x9⟩:=aE (KS102.out.box HBX.out hnb);obtain ⟨t0,t1,g0,g1⟩:=HP102.out.all;obtain ⟨kyq,sq,ntq,niq,A4q,n4q,c4q,A5q,n5q,c5q,A6q,n6q,c6q,A7q,n7q,c7q,A8q,n8q,c8q,A9q,n9q,c9q,HEq,dq_0,dq_1,dq_2,dq_3,dq_4,dq_5,dq_6,dq_7,dq_8,dq_9⟩:=cE HELK.out 0 (by omega) (okK) (by omega) (keepB HG.out ((KW.out.trans KS102.out).below (Nat.le_of_lt hB))) HGKK.out;have hklq:=(Nd.tv_ok f).ls kds[0] ((st102.put [100,111]).line);rw [St.line_len,St.put_len] at hklq;simp only [gG,gH] at hklq;have HXq:=Ha (IH.out G b w102 _ kds[0] st102 [100,111] HG.out (HEq.out.belowB HG.out ((KW.out.trans KS102.out).below (Nat.le_of_lt hB))) (HF.out _ (List.getElem_mem _)) HP102.out (by rw [St.line_len,St.put_len];unfold LIM;simp only [gG,gH];omega));go_wp2_with fail;refine (HXq.out).mono ?_;rintro e w103 ⟨rfl,hq,hk⟩;have KS103:=Ha (KS102.out.trans hk);obtain ⟨st103,hst⟩:∃ zst:St,zst=(Nd.tv f).ls kds[0] ((st102.put [100,111]).line):=⟨_,rfl⟩;have ln103:=hklq;rw [← hst] at hq ln103;have ES103:=Ha hst;have HP103:=Ha hq;clear hst hq hk dq_0 dq_1 dq_2 dq_3 dq_4 dq_5 dq_6 dq_7 dq_8 dq_9 HXq hklq x0 x1 x2 x3 x4 x5 x6 x7 x8 x9 t0 t1 g0 g1;obtain ⟨x0,x1,x2,x3,x4,x5,x6,x7,x8,x9⟩:=aE (KS103.out.box HBX.out hnb);obtain ⟨t0,t1,g0,g1⟩:=HP103.out.all;have hle:=St.le1 st103;obtain ⟨z00,hz00⟩:∃ z:List UInt8,z=st103.1++[100,111,110,101]:=⟨_,rfl⟩;have lz00:z00.length=st103.1.length+([100,111,110,101]:List UInt8).length:=by rw [hz00,gI]
    simp only [gG,gH] at lz00;have az00:=bN st103.1 [100,111,110,101] (by simp only [gG,gH];omega);rw [← hz00] at az00;have HZ0:=Ha (show z00=(st103).1++[100,111,110,101] by rw [hz00]);clear hz00;go_wp2_with fail;have hq:Tx b (st103.put [100,111,110,101]) ((w103.setCell ⟨b,0,none⟩ (.string ⟨z00.toArray⟩))):=(Tx.put' HP103.out HZ0.out);have hk:Kb b w103 ((w103.setCell ⟨b,0,none⟩ (.string ⟨z00.toArray⟩))):=((Kb.refl b w103).set 0 _);have KS104:=Ha (KS103.out.trans hk);obtain ⟨st104,hst⟩:∃ zst:St,zst=st103.put [100,111,110,101]:=⟨_,rfl⟩;have ln104:=St.put_len st103 [100,111,110,101];rw [← hst] at hq ln104;have ES104:=Ha hst;have HP104:=Ha hq;simp only [gG,gH] at ln104;clear hst hq hk hle az00 lz00  x0 x1 x2 x3 x4 x5 x6 x7 x8 x9 t0 t1 g0 g1
    go_end0
    have FIN:=Ha (show fO (Nd.tv f) (NdF.mk ky ⟨nm.toArray⟩ nt false ops asg wds rds ars kds) st=st104 by unfold fO;rw [dK _ _ _ _ hk0];simp only;rw [hnl];show ((Nd.tv f).ls kds[0] ((((cO (Nd.tv f) wds ((st.put ([102,111,114,32]++nm)).put [])).line).put [100,111]).line)).put [100,111,110,101]=_;rw [dN,← ES0.out,← ES1.out,← FIN0.out,← ES102.out,← ES103.out,← ES104.out]);rw [FIN.out];exact ⟨rfl,HP104.out,KW.out.trans KS104.out⟩
 ·show Calls Tryz.prog 195 #[.pointer (some ⟨b,0,none⟩),.agg #[.int .i64 ky,.string ⟨nm.toArray⟩,.bool nt,.bool true,.slice A4 ops.length c4,.slice A5 asg.length c5,.slice A6 wds.length c6,.slice A7 rds.length c7,.slice A8 ars.length c8,.slice (some ⟨bkK,okK,none⟩) kds.length c9]] w (Wtx b w _);have hB:=hp.lt;obtain ⟨w0,hW,hbw,hbx⟩:=cpd w (.cells #[.int .i64 ky,.string ⟨nm.toArray⟩,.bool nt,.bool true,.slice A4 ops.length c4,.slice A5 asg.length c5,.slice A6 wds.length c6,.slice A7 rds.length c7,.slice A8 ars.length c8,.slice (some ⟨bkK,okK,none⟩) kds.length c9] 28);have hnb:w.heap.size≠b:=by omega
  have KW:=Ha (Kb.of_below (b:=b) hbw);have LW:b<w0.heap.size:=gK hB hbw.size;have HV:=Ha hv;have HP0:=Ha (hp.keep hbw);obtain ⟨st0,hst0⟩:∃ z:St,z=st:=⟨_,rfl⟩;have ln0:st0.len=st.len:=by rw [hst0]
  rw [← hst0] at HP0;obtain ⟨ES0,HSO,HSA,HSW,HSR,HSM,HSK⟩:=hs7 hst0 hso hsa hsw hsr hsm hsk;clear hso hsa hsw hsr hsm hsk;obtain ⟨HG,IH,IHW,HF,HFW,HBX,KS0⟩:=hs7 hG ih ihw hf hfw hbx (Kb.refl b w0);clear hbw hp hG hv hst0 hbx ih ihw hf hfw;obtain ⟨x0,x1,x2,x3,x4,x5,x6,x7,x8,x9⟩:=aE (KS0.out.box HBX.out hnb);obtain ⟨t0,t1,g0,g1⟩:=HP0.out.all;go_enter Tryz.func195,Tryz.ntmps195;have hle:=St.le1 st0;obtain ⟨z00,hz00⟩:∃ z:List UInt8,z=st0.1++[102,111,114,32]:=⟨_,rfl⟩;have lz00:z00.length=st0.1.length+([102,111,114,32]:List UInt8).length:=by rw [hz00,gI]
  simp only [gG,gH] at lz00;have az00:=bN st0.1 [102,111,114,32] (by simp only [gG,gH];omega);rw [← hz00] at az00;obtain ⟨z01,hz01⟩:∃ z:List UInt8,z=z00++nm:=⟨_,rfl⟩;have lz01:z01.length=z00.length+(nm:List UInt8).length:=by rw [hz01,gI]
  have az01:=bN z00 nm (by omega);rw [← hz01] at az01;have HZ0:=Ha (show z01=(st0).1++([102,111,114,32]++nm) by rw [hz01,hz00];simp only [List.append_assoc]);clear hz00 hz01;go_wp2_with fail
  go_region
  have hq:Tx b (st0.put ([102,111,114,32]++nm)) ((w0.setCell ⟨b,0,none⟩ (.string ⟨z01.toArray⟩)).drew):=((Tx.put' HP0.out HZ0.out).keep (Below.refl _ _).drew);have hk:Kb b w0 ((w0.setCell ⟨b,0,none⟩ (.string ⟨z01.toArray⟩)).drew):=(((Kb.refl b w0).set 0 _).trans (.of_below (Below.refl _ _).drew));generalize hZ:(w0.setCell ⟨b,0,none⟩ (.string ⟨z01.toArray⟩)).drew=w1 at *;have KS1:=Ha (KS0.out.trans hk);obtain ⟨st1,hst⟩:∃ zst:St,zst=st0.put ([102,111,114,32]++nm):=⟨_,rfl⟩;have ln1:=St.put_len st0 ([102,111,114,32]++nm);rw [← hst] at hq ln1;have ES1:=Ha hst;have HP1:=Ha hq;simp only [gI,gG,gH] at ln1;clear hst hq hk hle hZ az00 lz00 az01 lz01  x0 x1 x2 x3 x4 x5 x6 x7 x8 x9 t0 t1 g0 g1;obtain ⟨x0,x1,x2,x3,x4,x5,x6,x7,x8,x9⟩:=aE (KS1.out.box HBX.out hnb);obtain ⟨t0,t1,g0,g1⟩:=HP1.out.all;have hle:=St.le1 st1;obtain ⟨z00,hz00⟩:∃ z:List UInt8,z=st1.1++[32,105,110]:=⟨_,rfl⟩;have lz00:z00.length=st1.1.length+([32,105,110]:List UInt8).length:=by rw [hz00,gI]
  simp only [gG,gH] at lz00;have az00:=bN st1.1 [32,105,110] (by simp only [gG,gH];omega);rw [← hz00] at az00;have HZ0:=Ha (show z00=(st1).1++[32,105,110] by rw [hz00]);clear hz00;go_wp2_with fail;have hq:Tx b (st1.put [32,105,110]) ((w1.setCell ⟨b,0,none⟩ (.string ⟨z00.toArray⟩))):=(Tx.put' HP1.out HZ0.out);have hk:Kb b w1 ((w1.setCell ⟨b,0,none⟩ (.string ⟨z00.toArray⟩))):=((Kb.refl b w1).set 0 _);generalize hZ:(w1.setCell ⟨b,0,none⟩ (.string ⟨z00.toArray⟩))=w2 at *;have KS2:=Ha (KS1.out.trans hk);obtain ⟨st2,hst⟩:∃ zst:St,zst=st1.put [32,105,110]:=⟨_,rfl⟩;have ln2:=St.put_len st1 [32,105,110];rw [← hst] at hq ln2;have ES2:=Ha hst;have HP2:=Ha hq;simp only [gG,gH] at ln2;clear hst hq hk hle hZ az00 lz00  x0 x1 x2 x3 x4 x5 x6 x7 x8 x9 t0 t1 g0 g1;obtain ⟨x0,x1,x2,x3,x4,x5,x6,x7,x8,x9⟩:=aE (KS2.out.box HBX.out hnb);obtain ⟨t0,t1,g0,g1⟩:=HP2.out.all;go_wp2_with fail
  go_loopw [4] (fun i wr=>∃ (k:Nat) (str:St),k≤wds.length∧i=.int .i64 k∧cO (Nd.tv f) (wds.drop k) str=cO (Nd.tv f) wds st2∧str.len+64*tot (wtW (Nd.wt f)) (wds.drop k)≤1099511627760-64*tot (Nd.wt f) kds∧Tx b str wr∧Kb b w0 wr) (fun i _=>wds.length-(intOf i).toNat)
  case atStart=>exact ⟨0,st2,by omega,rfl,rfl,by rw [List.drop_zero];omega,HP2.out,KS2.out⟩
  case round=>
   obtain ⟨k,str,hk,rfl,he,lnr,hq,hks⟩:=hrel;obtain ⟨HE,HPr,KSr⟩:=hs3 he hq hks;clear he hq hks x0 x1 x2 x3 x4 x5 x6 x7 x8 x9 t0 t1 g0 g1;obtain ⟨x0,x1,x2,x3,x4,x5,x6,x7,x8,x9⟩:=aE (KSr.out.box HBX.out hnb);obtain ⟨t0,t1,g0,g1⟩:=HPr.out.all;by_cases hlt:k<wds.length
   ·clear x0 x1 x2 x3 x4 x5 x6 x7 x8 x9 t0 t1 g0 g1;obtain ⟨bkW,okW,rfl,hg,hel⟩:=HSW.out.elem (by omega);have HELW:=Ha hel;have HGKW:=Ha hg;clear hel hg;obtain ⟨x0,x1,x2,x3,x4,x5,x6,x7,x8,x9⟩:=aE (KSr.out.box HBX.out hnb);obtain ⟨t0,t1,g0,g1⟩:=HPr.out.all;have HD:=Ha (iK (Nd.tv f) wds k str hlt);have htd:=bS (wtW (Nd.wt f)) wds k hlt;obtain ⟨usk,hvl,hR0,hcell⟩:=HELW.out k (by omega);have z:=fun j u hj=>(keepB HG.out ((KW.out.trans KSr.out).below (Nat.le_of_lt hB)) _ HGKW.out).trans (hcell j u hj);obtain ⟨A0k,n0k,c0k,rfl⟩:=hR0.shape;have dk_0:wr.cell? ⟨bkW,okW+k,none⟩=some (.slice A0k n0k c0k):=by simpa using z 0 _ rfl
    have HEk:=Ha hR0;clear hR0 z hcell hvl;have hwl:=cD (Nd.tv_ok f) wds[k];obtain ⟨tw,htw⟩:∃ l:List UInt8,l=wordX (Nd.tv f) wds[k]:=⟨_,rfl⟩;have HTW:=Ha htw;rw [← htw] at hwl;have FW:=Ha (show ∀ X,Kb b wr X→Calls Tryz.prog 75 #[.agg #[.slice A0k n0k c0k]] X fun e w'=>e=.returned (bs tw)∧Kb b wr w'∧(∀ s,Tx b s X→Tx b s w') from fun X hX=>
     (IHW.out G X A0k n0k c0k wds[k] (fun j hj=>gK (Nat.lt_trans (HG.out j hj) LW) (Nat.le_trans KSr.out.size hX.size)) (HEk.out.belowB HG.out (((KW.out.trans KSr.out).trans hX).below (Nat.le_of_lt hB))) (HFW.out _ (List.getElem_mem hlt)) (by unfold LIM;omega)).mono fun _ _ ⟨h1,h2⟩=>⟨by rw [htw];exact h1,hX.trans (.of_below h2),fun s hs=>hs.keep h2⟩)
    clear htw;have hbW:bkW≠b:=by have:=HG.out _ HGKW.out;omega
    have HQ:=Ha (show ∀ X,Kb b wr X→Tx b str X→(X.cell? ⟨w.heap.size,6,none⟩=some (.slice (some ⟨bkW,okW,none⟩) wds.length c6)∧X.cell? ⟨bkW,okW+k,none⟩=some (.slice A0k n0k c0k)∧X.cell? ⟨b,0,none⟩=some (.string ⟨str.1.toArray⟩)) from fun X h t=>⟨Kb.cell h x6 (by simp only;omega),Kb.cell h dk_0 (by simp only;omega),t.c0⟩);have R0:=Ha (show Kb b wr wr.drew from .of_below (Below.refl _ _).drew);have hpd:=HPr.out.keep (Below.refl wr.heap.size wr).drew;have P0:=Ha hpd;have td:=hpd.c0;clear hpd;have hle:=St.le1 str;obtain ⟨za,hza⟩:∃ z:List UInt8,z=str.1++[32]:=⟨_,rfl⟩;have lza:za.length=(str.1:List UInt8).length+([32]:List UInt8).length:=by rw [hza,gI]
    simp only [gG,gH] at lza;have aza:=bN str.1 [32] (by simp only [gG,gH];omega);rw [← hza] at aza;obtain ⟨zb,hzb⟩:∃ z:List UInt8,z=za++tw:=⟨_,rfl⟩;have lzb:zb.length=(za:List UInt8).length+(tw:List UInt8).length:=by rw [hzb,gI]
    have azb:=bN za tw (by omega);rw [← hzb] at azb;have HZ:=Ha (show zb=str.1++([32]++tw) by rw [hzb,hza,List.append_assoc]);clear hza hzb td;go_wp2_with fail;clear x0 x1 x2 x3 x4 x5 x6 x7 x8 x9 t0 t1 g0 g1 dk_0;refine aU.start 15 (fun X=>X.cell? ⟨w.heap.size,6,none⟩=some (.slice (some ⟨bkW,okW,none⟩) wds.length c6)∧X.cell? ⟨bkW,okW+k,none⟩=some (.slice A0k n0k c0k)∧X.cell? ⟨b,0,none⟩=some (.string ⟨str.1.toArray⟩)) (by kernel_rfl) ?hs_2 (fun hHeld=>?hr_2)
    case hs_2=>exact HQ.out _ R0.out P0.out
    case hr_2=>
     refine aU.take (i:=0) (oi:=_) (v:=?v0_2) rfl (by kernel_rfl) (by kernel_rfl) (by kernel_rfl) (by kernel_rfl) (fun _ _ _ h=>h) (Or.inl ⟨by rfl, ?hy0_2⟩) (by assumption) ?hr0_2
     case hy0_2=>
      intro w hSw;try dsimp only at hSw
      simp only [gA,gC]
      go_simp
      try with_reducible rfl
     simp only [gA,gC,Act.put,gD,gE,gF];refine aU.take (i:=1) (oi:=_) (v:=?v1_2) rfl (by kernel_rfl) (by kernel_rfl) (by kernel_rfl) (by kernel_rfl) (fun _ _ _ h=>h) (Or.inl ⟨by rfl, ?hy1_2⟩) (by assumption) ?hr1_2
     case hy1_2=>
      intro w hSw;try dsimp only at hSw
      simp only [gA,gB,gC]
      go_simp
      try with_reducible rfl
     simp only [gA,gB,gC,Act.put,gD,gE,gF];refine aU.take (i:=2) (oi:=_) (v:=?v2_2) rfl (by kernel_rfl) (by kernel_rfl) (by kernel_rfl) (by kernel_rfl) (fun _ _ _ h=>h) (Or.inl ⟨by rfl, ?hy2_2⟩) (by assumption) ?hr2_2
     case hy2_2=>
      intro w hSw;try dsimp only at hSw
      simp only [gA,gB,gC]
      go_simp
      try with_reducible rfl
     simp only [gA,gB,gC,Act.put,gD,gE,gF];refine aU.take (i:=3) (oi:=_) (v:=?v3_2) rfl (by kernel_rfl) (by kernel_rfl) (by kernel_rfl) (by kernel_rfl) (fun _ _ _ h=>h) (Or.inl ⟨by rfl, ?hy3_2⟩) (by assumption) ?hr3_2
     case hy3_2=>
      intro w hSw;try dsimp only at hSw
      simp only [gA,gB,gC]
      go_simp
      try with_reducible rfl
     simp only [gA,gB,gC,Act.put,gD,gE,gF];refine aU.take (i:=4) (oi:=_) (v:=?v4_2) rfl (by kernel_rfl) (by kernel_rfl) (by kernel_rfl) (by kernel_rfl) (fun _ _ _ h=>h) (Or.inl ⟨by rfl, ?hy4_2⟩) (by assumption) ?hr4_2
     case hy4_2=>
      intro w hSw;try dsimp only at hSw
      simp only [gA,gB,gC]
      go_simp
      try with_reducible rfl
     simp only [gA,gB,gC,Act.put,gD,gE,gF];refine aU.take (i:=5) (oi:=_) (v:=?v5_2) rfl (by kernel_rfl) (by kernel_rfl) (by kernel_rfl) (by kernel_rfl) (fun _ _ _ h=>h) (Or.inl ⟨by rfl, ?hy5_2⟩) (by assumption) ?hr5_2
     case hy5_2=>
      intro w hSw;try dsimp only at hSw
      simp only [gA,gB,gC]
      go_simp
      try with_reducible rfl
     simp only [gA,gB,gC,Act.put,gD,gE,gF];refine aU.take (i:=6) (oi:=_) (v:=?v6_2) rfl (by kernel_rfl) (by kernel_rfl) (by kernel_rfl) (by kernel_rfl) (fun _ _ _ h=>h) (Or.inl ⟨by rfl, ?hy6_2⟩) (by assumption) ?hr6_2
     case hy6_2=>
      intro w hSw;try dsimp only at hSw
      simp only [gA,gB,gC]
      go_simp
      try with_reducible rfl
     simp only [gA,gB,gC,Act.put,gD,gE,gF];refine aU.take (i:=7) (oi:=_) (v:=?v7_2) rfl (by kernel_rfl) (by kernel_rfl) (by kernel_rfl) (by kernel_rfl) (fun _ _ _ h=>h) (Or.inl ⟨by rfl, ?hy7_2⟩) (by assumption) ?hr7_2
     case hy7_2=>
      intro w hSw;try dsimp only at hSw
      simp only [gA,gB,gC]
      go_simp
      try with_reducible rfl
     simp only [gA,gB,gC,Act.put,gD,gE,gF];refine aU.take (i:=8) (oi:=_) (v:=?v8_2) rfl (by kernel_rfl) (by kernel_rfl) (by kernel_rfl) (by kernel_rfl) (fun _ _ _ h=>h) (Or.inl ⟨by rfl, ?hy8_2⟩) (by assumption) ?hr8_2
     case hy8_2=>
      intro w hSw;try dsimp only at hSw
      simp only [gA,gB,gC]
      go_simp
      try with_reducible rfl
     simp only [gA,gB,gC,Act.put,gD,gE,gF];refine aU.take (i:=9) (oi:=_) (v:=?v9_2) rfl (by kernel_rfl) (by kernel_rfl) (by kernel_rfl) (by kernel_rfl) (fun _ _ _ h=>h) (Or.inl ⟨by rfl, ?hy9_2⟩) (by assumption) ?hr9_2
     case hy9_2=>
      intro w hSw;try dsimp only at hSw
      simp only [gA,gB,gC]
      go_simp
      try with_reducible rfl
     simp only [gA,gB,gC,Act.put,gD,gE,gF];refine aU.take (i:=10) (oi:=_) (v:=?v10_2) rfl (by kernel_rfl) (by kernel_rfl) (by kernel_rfl) (by kernel_rfl) (fun _ _ _ h=>h) (Or.inl ⟨by rfl, ?hy10_2⟩) (by assumption) ?hr10_2
     case hy10_2=>
      intro w hSw;try dsimp only at hSw
      simp only [gA,gB,gC]
      go_simp
      try with_reducible rfl
     simp only [gA,gB,gC,Act.put,gD,gE,gF];refine aU.one (i:=11) (o:=_) (by kernel_rfl) rfl (fun K hK=>?_);simp only [gA,gB,gC]
     go_simp
     go_at_call 75
     refine Calls.mono (FW.out _ R0.out) ?_;rintro e wD ⟨rfl,kwd0,pwd0⟩;have kwd:=Ha kwd0;have ptd:=pwd0 _ P0.out;have pwd:=Ha ptd;have te:=ptd.c0;have ge:=ptd.f 0;clear kwd0 pwd0 ptd;unfold bs;dsimp only;refine hK.out _ _ ?_ (fun hHeld=>?_)
     ·exact HQ.out _ kwd.out pwd.out
     clear hK K;try simp only [Act.put,gD,gE,gF]
     refine aU.take (i:=12) (oi:=_) (v:=?v12_2) rfl (by kernel_rfl) (by kernel_rfl) (by kernel_rfl) (by kernel_rfl) (fun _ _ _ h=>h) (Or.inl ⟨by rfl, ?hy12_2⟩) (by assumption) ?hr12_2
     case hy12_2=>
      intro w hSw;try dsimp only at hSw
      simp only [gA,gB,gC]
      go_simp
      try with_reducible rfl
     simp only [gA,gB,gC,Act.put,gD,gE,gF];refine aU.one (i:=13) (o:=_) (by kernel_rfl) rfl (fun K hK=>?_);simp only [gA,gB,gC]
     go_simp
     refine hK.out _ _ ?_ (fun hHeld=>?_)
     ·exact (by assumption)
     clear hK K;try simp only [Act.put,gD,gE,gF]
     refine aU.take (i:=14) (oi:=_) (v:=?v14_2) rfl (by kernel_rfl) (by kernel_rfl) (by kernel_rfl) (by kernel_rfl) (fun _ _ _ h=>h) (Or.inl ⟨by rfl, ?hy14_2⟩) (by assumption) ?hr14_2
     case hy14_2=>
      intro w hSw;try dsimp only at hSw
      simp only [gA,gB,gC]
      go_simp
      try with_reducible rfl
     simp only [gA,gB,gC,Act.put,gD,gE,gF];refine aU.last (o:=_) (by kernel_rfl) rfl (fun K hK=>?_);simp only [gA,gB,gC]
     go_simp
     refine hK.out _ _ ?_;refine aU.done (by kernel_rfl) ?_ _;have hq:=Tx.put' pwd.out HZ.out;have ln:=St.put_len str ([32]++tw);rw [gI,gG,gH] at ln;have HN:=Ha (show cO (Nd.tv f) (wds.drop (k+1)) (str.put ([32]++tw))=cO (Nd.tv f) wds st2 by rw [← HE.out,HD.out,HTW.out]);have HQX:=Ha hq;clear hq;go_wp2_with fail
     go_roundw
     case rel=>exact ⟨k+1,str.put ([32]++tw),by omega,by go_num,HN.out,by omega,HQX.out,KSr.out.trans (kwd.out.set 0 _)⟩
     case measure=>simp only [intOf];omega
   ·have hpe:str=cO (Nd.tv f) wds st2:=by rw [← HE.out,List.drop_eq_nil_of_le (by omega),cO]
    have FIN0:=Ha hpe;have htz:tot (wtW (Nd.wt f)) (wds.drop k)=0:=by rw [List.drop_eq_nil_of_le (by omega)];rfl
    clear hpe;go_wp2_with fail;refine (kT b str wr HPr.out (by omega)).mono ?_;rintro e w103 ⟨rfl,hq,hk⟩;have KS103:=Ha (KSr.out.trans hk);obtain ⟨st103,hst⟩:∃ zst:St,zst=str.line:=⟨_,rfl⟩;have ln103:=St.line_len str;rw [← hst] at hq ln103;have ES103:=Ha hst;have HP103:=Ha hq;clear hst hq hk  x0 x1 x2 x3 x4 x5 x6 x7 x8 x9 t0 t1 g0 g1;obtain ⟨x0,x1,x2,x3,x4,x5,x6,x7,x8,x9⟩:=aE (KS103.out.box HBX.out hnb);obtain ⟨t0,t1,g0,g1⟩:=HP103.out.all;obtain ⟨kyq,sq,ntq,niq,A4q,n4q,c4q,A5q,n5q,c5q,A6q,n6q,c6q,A7q,n7q,c7q,A8q,n8q,c8q,A9q,n9q,c9q,HEq,dq_0,dq_1,dq_2,dq_3,dq_4,dq_5,dq_6,dq_7,dq_8,dq_9⟩:=cE HELK.out 0 (by omega) (okK) (by omega) (keepB HG.out ((KW.out.trans KS103.out).below (Nat.le_of_lt hB))) HGKK.out;have hklq:=(Nd.tv_ok f).ls kds[0] ((st103.put [100,111]).line);rw [St.line_len,St.put_len] at hklq;simp only [gG,gH] at hklq;have HXq:=Ha (IH.out G b w103 _ kds[0] st103 [100,111] HG.out (HEq.out.belowB HG.out ((KW.out.trans KS103.out).below (Nat.le_of_lt hB))) (HF.out _ (List.getElem_mem _)) HP103.out (by rw [St.line_len,St.put_len];unfold LIM;simp only [gG,gH];omega));go_wp2_with fail;refine (HXq.out).mono ?_;rintro e w104 ⟨rfl,hq,hk⟩;have KS104:=Ha (KS103.out.trans hk);obtain ⟨st104,hst⟩:∃ zst:St,zst=(Nd.tv f).ls kds[0] ((st103.put [100,111]).line):=⟨_,rfl⟩;have ln104:=hklq;rw [← hst] at hq ln104;have ES104:=Ha hst;have HP104:=Ha hq;clear hst hq hk dq_0 dq_1 dq_2 dq_3 dq_4 dq_5 dq_6 dq_7 dq_8 dq_9 HXq hklq x0 x1 x2 x3 x4 x5 x6 x7 x8 x9 t0 t1 g0 g1;obtain ⟨x0,x1,x2,x3,x4,x5,x6,x7,x8,x9⟩:=aE (KS104.out.box HBX.out hnb);obtain ⟨t0,t1,g0,g1⟩:=HP104.out.all;have hle:=St.le1 st104;obtain ⟨z00,hz00⟩:∃ z:List UInt8,z=st104.1++[100,111,110,101]:=⟨_,rfl⟩;have lz00:z00.length=st104.1.length+([100,111,110,101]:List UInt8).length:=by rw [hz00,gI]
    simp only [gG,gH] at lz00;have az00:=bN st104.1 [100,111,110,101] (by simp only [gG,gH];omega);rw [← hz00] at az00;have HZ0:=Ha (show z00=(st104).1++[100,111,110,101] by rw [hz00]);clear hz00;go_wp2_with fail;have hq:Tx b (st104.put [100,111,110,101]) ((w104.setCell ⟨b,0,none⟩ (.string ⟨z00.toArray⟩))):=(Tx.put' HP104.out HZ0.out);have hk:Kb b w104 ((w104.setCell ⟨b,0,none⟩ (.string ⟨z00.toArray⟩))):=((Kb.refl b w104).set 0 _);have KS105:=Ha (KS104.out.trans hk);obtain ⟨st105,hst⟩:∃ zst:St,zst=st104.put [100,111,110,101]:=⟨_,rfl⟩;have ln105:=St.put_len st104 [100,111,110,101];rw [← hst] at hq ln105;have ES105:=Ha hst;have HP105:=Ha hq;simp only [gG,gH] at ln105;clear hst hq hk hle az00 lz00  x0 x1 x2 x3 x4 x5 x6 x7 x8 x9 t0 t1 g0 g1
    go_end0
    have FIN:=Ha (show fO (Nd.tv f) (NdF.mk ky ⟨nm.toArray⟩ nt true ops asg wds rds ars kds) st=st105 by unfold fO;rw [dK _ _ _ _ hk0];simp only;rw [hnl];show ((Nd.tv f).ls kds[0] ((((cO (Nd.tv f) wds ((st.put ([102,111,114,32]++nm)).put [32,105,110])).line).put [100,111]).line)).put [100,111,110,101]=_;rw [← ES0.out,← ES1.out,← ES2.out,← FIN0.out,← ES103.out,← ES104.out,← ES105.out]);rw [FIN.out];exact ⟨rfl,HP105.out,KW.out.trans KS105.out⟩
theorem oA (f:Nat) (ih:RLs f) (G:Nat→Prop) (b:Nat) (w:World) (vs:List Value) (n:NdF (Nd f)) (st:St) (hG:∀ k,G k→k<b) (hv:NdV (f+1) G w vs n) (hf:∀ k∈n.kids,(Nd.ft f).ls k) (hp:Tx b st w) (hl:st.len+64*Nd.wt (f+1) n≤LIM):
  Calls Tryz.prog 197 #[.pointer (some ⟨b,0,none⟩),ag vs] w (Wtx b w (hJ (Nd.tv f) n st)):=by
 obtain ⟨ky,nmb,nt,ni,ops,asg,wds,rds,ars,kds⟩:=n;obtain ⟨A4,c4,A5,c5,A6,c6,A7,c7,A8,c8,A9,c9,rfl,hns,hal,hl4,hl5,hl6,hl7,hl8,hl9,hso,hsa,hsw,hsr,hsm,hsk⟩:=NdV.open hv;obtain ⟨nm,rfl⟩:∃ l:List UInt8,nmb=⟨l.toArray⟩:=⟨nmb.toList,by rw [bP]⟩;have hl2:st.len+64*wtF (Nd.wt f) (NdF.mk ky ⟨nm.toArray⟩ nt ni ops asg wds rds ars kds)≤1099511627776:=hl;unfold wtF at hl2;simp only [aP] at hl2;have hnl:(⟨nm.toArray⟩:ByteArray).toList=nm:=by rw [Lib.toList_data]
 simp only at hf;show Calls Tryz.prog 197 #[.pointer (some ⟨b,0,none⟩),.agg #[.int .i64 ky,.string ⟨nm.toArray⟩,.bool nt,.bool ni,.slice A4 ops.length c4,.slice A5 asg.length c5,.slice A6 wds.length c6,.slice A7 rds.length c7,.slice A8 ars.length c8,.slice A9 kds.length c9]] w (Wtx b w _);have hB:=hp.lt;obtain ⟨w0,hW,hbw,hbx⟩:=cpd w (.cells #[.int .i64 ky,.string ⟨nm.toArray⟩,.bool nt,.bool ni,.slice A4 ops.length c4,.slice A5 asg.length c5,.slice A6 wds.length c6,.slice A7 rds.length c7,.slice A8 ars.length c8,.slice A9 kds.length c9] 28);have hnb:w.heap.size≠b:=by omega
 have KW:=Ha (Kb.of_below (b:=b) hbw);have LW:b<w0.heap.size:=gK hB hbw.size;have HV:=Ha hv;have HP0:=Ha (hp.keep hbw);obtain ⟨st0,hst0⟩:∃ z:St,z=st:=⟨_,rfl⟩;have ln0:st0.len=st.len:=by rw [hst0]
 rw [← hst0] at HP0;obtain ⟨ES0,HSO,HSA,HSW,HSR,HSM,HSK⟩:=hs7 hst0 hso hsa hsw hsr hsm hsk;clear hso hsa hsw hsr hsm hsk;obtain ⟨HG,IH,HF,HBX,KS0⟩:=hs5 hG ih hf hbx (Kb.refl b w0);clear hbw hp hG hv hst0 hbx ih hf;obtain ⟨x0,x1,x2,x3,x4,x5,x6,x7,x8,x9⟩:=aE (KS0.out.box HBX.out hnb);obtain ⟨t0,t1,g0,g1⟩:=HP0.out.all;go_enter Tryz.func197,Tryz.ntmps197;go_wp2_with fail
 go_loopw [4] (fun i wr=>∃ (k:Nat) (str:St),k≤kds.length∧i=.int .i64 k∧cX (Nd.tv f) k (kds.drop k) str=cX (Nd.tv f) 0 kds st0∧str.len+64*tot (Nd.wt f) (kds.drop k)≤1099511627744∧Tx b str wr∧Kb b w0 wr) (fun i _=>kds.length-(intOf i).toNat)
 case atStart=>exact ⟨0,st0,by omega,rfl,rfl,by rw [List.drop_zero];omega,HP0.out,KS0.out⟩
 case round=>
  obtain ⟨k,str,hk,rfl,he,lnr,hq,hks⟩:=hrel;obtain ⟨HE,HPr,KSr⟩:=hs3 he hq hks;clear he hq hks x0 x1 x2 x3 x4 x5 x6 x7 x8 x9 t0 t1 g0 g1;obtain ⟨x0,x1,x2,x3,x4,x5,x6,x7,x8,x9⟩:=aE (KSr.out.box HBX.out hnb);obtain ⟨t0,t1,g0,g1⟩:=HPr.out.all;by_cases hlt:k<kds.length
  ·clear x0 x1 x2 x3 x4 x5 x6 x7 x8 x9 t0 t1 g0 g1;obtain ⟨bkK,okK,rfl,hg,hel⟩:=HSK.out.elem (by omega);have HELK:=Ha hel;have HGKK:=Ha hg;clear hel hg;obtain ⟨x0,x1,x2,x3,x4,x5,x6,x7,x8,x9⟩:=aE (KSr.out.box HBX.out hnb);obtain ⟨t0,t1,g0,g1⟩:=HPr.out.all;have HD:=Ha (mL (Nd.tv f) kds k str hlt);have htd:=bS (Nd.wt f) kds k hlt;have hs1:IntKind.i64.wrap ((kds.length:Int)-1)=(kds.length:Int)-1:=IntWalk.i64_in _ (by omega);by_cases h0:k=0
   ·have hz:((k:Int)==0)=true:=by rw [beq_iff_eq];omega
    have H0:=Ha h0;clear h0;obtain ⟨kyk,sk,ntk,nik,A4k,n4k,c4k,A5k,n5k,c5k,A6k,n6k,c6k,A7k,n7k,c7k,A8k,n8k,c8k,A9k,n9k,c9k,HEk,dk_0,dk_1,dk_2,dk_3,dk_4,dk_5,dk_6,dk_7,dk_8,dk_9⟩:=cE HELK.out k (by omega) (okK+k*10) (by rfl) (keepB HG.out ((KW.out.trans KSr.out).below (Nat.le_of_lt hB))) HGKK.out;have hklk:=(Nd.tv_ok f).ls kds[k] ((str.put [105,102]).line);rw [St.line_len,St.put_len] at hklk;simp only [gG,gH] at hklk;have HXk:=Ha (IH.out G b wr _ kds[k] str [105,102] HG.out (HEk.out.belowB HG.out ((KW.out.trans KSr.out).below (Nat.le_of_lt hB))) (HF.out _ (List.getElem_mem hlt)) HPr.out (by rw [St.line_len,St.put_len];unfold LIM;simp only [gG,gH];omega));go_wp2_with fail;refine (HXk.out).mono ?_;rintro e w1 ⟨rfl,hq,hk⟩;have KS1:=Ha (KSr.out.trans hk);obtain ⟨st1,hst⟩:∃ zst:St,zst=(Nd.tv f).ls kds[k] ((str.put [105,102]).line):=⟨_,rfl⟩;have ln1:=hklk;rw [← hst] at hq ln1;have ES1:=Ha hst;have HP1:=Ha hq;clear hst hq hk dk_0 dk_1 dk_2 dk_3 dk_4 dk_5 dk_6 dk_7 dk_8 dk_9 HXk hklk x0 x1 x2 x3 x4 x5 x6 x7 x8 x9 t0 t1 g0 g1;obtain ⟨x0,x1,x2,x3,x4,x5,x6,x7,x8,x9⟩:=aE (KS1.out.box HBX.out hnb);obtain ⟨t0,t1,g0,g1⟩:=HP1.out.all;have HN:=Ha (show cX (Nd.tv f) (k+1) (kds.drop (k+1)) st1=cX (Nd.tv f) 0 kds st0 by rw [← HE.out,HD.out,show dZ k (decide (kds.length≤k+1))=[105,102] from by unfold dZ;rw [if_pos H0.out],ES1.out]);go_wp2_with fail
    go_roundw
    case rel=>exact ⟨k+1,st1,by omega,by go_num,HN.out,by omega,HP1.out,KS1.out⟩
    case measure=>simp only [intOf];omega
   ·have hz:((k:Int)==0)=false:=by rw [gJ];omega
    have H0:=Ha h0;clear h0;by_cases h1:k % 2=1
    ·have hm:(k:Int).tmod 2=1:=by rw [Int.tmod_eq_emod_of_nonneg (by omega)];omega
     have hm2:(k:Int) % 2=1:=by omega
     have H1:=Ha h1;clear h1;obtain ⟨kyk,sk,ntk,nik,A4k,n4k,c4k,A5k,n5k,c5k,A6k,n6k,c6k,A7k,n7k,c7k,A8k,n8k,c8k,A9k,n9k,c9k,HEk,dk_0,dk_1,dk_2,dk_3,dk_4,dk_5,dk_6,dk_7,dk_8,dk_9⟩:=cE HELK.out k (by omega) (okK+k*10) (by rfl) (keepB HG.out ((KW.out.trans KSr.out).below (Nat.le_of_lt hB))) HGKK.out;have hklk:=(Nd.tv_ok f).ls kds[k] ((str.put [116,104,101,110]).line);rw [St.line_len,St.put_len] at hklk;simp only [gG,gH] at hklk;have HXk:=Ha (IH.out G b wr _ kds[k] str [116,104,101,110] HG.out (HEk.out.belowB HG.out ((KW.out.trans KSr.out).below (Nat.le_of_lt hB))) (HF.out _ (List.getElem_mem hlt)) HPr.out (by rw [St.line_len,St.put_len];unfold LIM;simp only [gG,gH];omega));go_wp2_with fail;refine (HXk.out).mono ?_;rintro e w1 ⟨rfl,hq,hk⟩;have KS1:=Ha (KSr.out.trans hk);obtain ⟨st1,hst⟩:∃ zst:St,zst=(Nd.tv f).ls kds[k] ((str.put [116,104,101,110]).line):=⟨_,rfl⟩;have ln1:=hklk;rw [← hst] at hq ln1;have ES1:=Ha hst;have HP1:=Ha hq;clear hst hq hk dk_0 dk_1 dk_2 dk_3 dk_4 dk_5 dk_6 dk_7 dk_8 dk_9 HXk hklk x0 x1 x2 x3 x4 x5 x6 x7 x8 x9 t0 t1 g0 g1;obtain ⟨x0,x1,x2,x3,x4,x5,x6,x7,x8,x9⟩:=aE (KS1.out.box HBX.out hnb);obtain ⟨t0,t1,g0,g1⟩:=HP1.out.all;have HN:=Ha (show cX (Nd.tv f) (k+1) (kds.drop (k+1)) st1=cX (Nd.tv f) 0 kds st0 by rw [← HE.out,HD.out,show dZ k (decide (kds.length≤k+1))=[116,104,101,110] from by unfold dZ;rw [if_neg H0.out,if_pos H1.out],ES1.out]);go_wp2_with fail
     go_roundw
     case rel=>exact ⟨k+1,st1,by omega,by go_num,HN.out,by omega,HP1.out,KS1.out⟩
     case measure=>simp only [intOf];omega
    ·have hm:(k:Int).tmod 2=0:=by rw [Int.tmod_eq_emod_of_nonneg (by omega)];omega
     have hm2:(k:Int) % 2=0:=by omega
     have H1:=Ha h1;clear h1;by_cases h2:k+1=kds.length
     ·have hz2:((k:Int)==(kds.length:Int)-1)=true:=by rw [beq_iff_eq];omega
      have h2':kds.length≤k+1:=by omega
      clear h2;obtain ⟨kyk,sk,ntk,nik,A4k,n4k,c4k,A5k,n5k,c5k,A6k,n6k,c6k,A7k,n7k,c7k,A8k,n8k,c8k,A9k,n9k,c9k,HEk,dk_0,dk_1,dk_2,dk_3,dk_4,dk_5,dk_6,dk_7,dk_8,dk_9⟩:=cE HELK.out k (by omega) (okK+k*10) (by rfl) (keepB HG.out ((KW.out.trans KSr.out).below (Nat.le_of_lt hB))) HGKK.out;have hklk:=(Nd.tv_ok f).ls kds[k] ((str.put [101,108,115,101]).line);rw [St.line_len,St.put_len] at hklk;simp only [gG,gH] at hklk;have HXk:=Ha (IH.out G b wr _ kds[k] str [101,108,115,101] HG.out (HEk.out.belowB HG.out ((KW.out.trans KSr.out).below (Nat.le_of_lt hB))) (HF.out _ (List.getElem_mem hlt)) HPr.out (by rw [St.line_len,St.put_len];unfold LIM;simp only [gG,gH];omega));go_wp2_with fail;refine (HXk.out).mono ?_;rintro e w1 ⟨rfl,hq,hk⟩;have KS1:=Ha (KSr.out.trans hk);obtain ⟨st1,hst⟩:∃ zst:St,zst=(Nd.tv f).ls kds[k] ((str.put [101,108,115,101]).line):=⟨_,rfl⟩;have ln1:=hklk;rw [← hst] at hq ln1;have ES1:=Ha hst;have HP1:=Ha hq;clear hst hq hk dk_0 dk_1 dk_2 dk_3 dk_4 dk_5 dk_6 dk_7 dk_8 dk_9 HXk hklk x0 x1 x2 x3 x4 x5 x6 x7 x8 x9 t0 t1 g0 g1;obtain ⟨x0,x1,x2,x3,x4,x5,x6,x7,x8,x9⟩:=aE (KS1.out.box HBX.out hnb);obtain ⟨t0,t1,g0,g1⟩:=HP1.out.all;have HN:=Ha (show cX (Nd.tv f) (k+1) (kds.drop (k+1)) st1=cX (Nd.tv f) 0 kds st0 by rw [← HE.out,HD.out,show dZ k (decide (kds.length≤k+1))=[101,108,115,101] from by unfold dZ;rw [if_neg H0.out,if_neg H1.out,decide_eq_true (show kds.length≤k+1 by omega)];rfl,ES1.out]);go_wp2_with fail
      go_roundw
      case rel=>exact ⟨k+1,st1,by omega,by go_num,HN.out,by omega,HP1.out,KS1.out⟩
      case measure=>simp only [intOf];omega
     ·have hz2:((k:Int)==(kds.length:Int)-1)=false:=by rw [gJ];omega
      have h2':¬kds.length≤k+1:=by omega
      clear h2;obtain ⟨kyk,sk,ntk,nik,A4k,n4k,c4k,A5k,n5k,c5k,A6k,n6k,c6k,A7k,n7k,c7k,A8k,n8k,c8k,A9k,n9k,c9k,HEk,dk_0,dk_1,dk_2,dk_3,dk_4,dk_5,dk_6,dk_7,dk_8,dk_9⟩:=cE HELK.out k (by omega) (okK+k*10) (by rfl) (keepB HG.out ((KW.out.trans KSr.out).below (Nat.le_of_lt hB))) HGKK.out;have hklk:=(Nd.tv_ok f).ls kds[k] ((str.put [101,108,105,102]).line);rw [St.line_len,St.put_len] at hklk;simp only [gG,gH] at hklk;have HXk:=Ha (IH.out G b wr _ kds[k] str [101,108,105,102] HG.out (HEk.out.belowB HG.out ((KW.out.trans KSr.out).below (Nat.le_of_lt hB))) (HF.out _ (List.getElem_mem hlt)) HPr.out (by rw [St.line_len,St.put_len];unfold LIM;simp only [gG,gH];omega));go_wp2_with fail;refine (HXk.out).mono ?_;rintro e w1 ⟨rfl,hq,hk⟩;have KS1:=Ha (KSr.out.trans hk);obtain ⟨st1,hst⟩:∃ zst:St,zst=(Nd.tv f).ls kds[k] ((str.put [101,108,105,102]).line):=⟨_,rfl⟩;have ln1:=hklk;rw [← hst] at hq ln1;have ES1:=Ha hst;have HP1:=Ha hq;clear hst hq hk dk_0 dk_1 dk_2 dk_3 dk_4 dk_5 dk_6 dk_7 dk_8 dk_9 HXk hklk x0 x1 x2 x3 x4 x5 x6 x7 x8 x9 t0 t1 g0 g1;obtain ⟨x0,x1,x2,x3,x4,x5,x6,x7,x8,x9⟩:=aE (KS1.out.box HBX.out hnb);obtain ⟨t0,t1,g0,g1⟩:=HP1.out.all;have HN:=Ha (show cX (Nd.tv f) (k+1) (kds.drop (k+1)) st1=cX (Nd.tv f) 0 kds st0 by rw [← HE.out,HD.out,show dZ k (decide (kds.length≤k+1))=[101,108,105,102] from by unfold dZ;rw [if_neg H0.out,if_neg H1.out,decide_eq_false (show ¬kds.length≤k+1 by omega)];rfl,ES1.out]);go_wp2_with fail
      go_roundw
      case rel=>exact ⟨k+1,st1,by omega,by go_num,HN.out,by omega,HP1.out,KS1.out⟩
      case measure=>simp only [intOf];omega
  ·have hpe:str=cX (Nd.tv f) 0 kds st0:=by rw [← HE.out,List.drop_eq_nil_of_le (by omega),cX]
   have FIN0:=Ha hpe;clear hpe;have hle:=St.le1 str;obtain ⟨z00,hz00⟩:∃ z:List UInt8,z=str.1++[102,105]:=⟨_,rfl⟩;have lz00:z00.length=str.1.length+([102,105]:List UInt8).length:=by rw [hz00,gI]
   simp only [gG,gH] at lz00;have az00:=bN str.1 [102,105] (by simp only [gG,gH];omega);rw [← hz00] at az00;have HZ0:=Ha (show z00=(str).1++[102,105] by rw [hz00]);clear hz00;go_wp2_with fail;have hq:Tx b (str.put [102,105]) ((wr.setCell ⟨b,0,none⟩ (.string ⟨z00.toArray⟩))):=(Tx.put' HPr.out HZ0.out);have hk:Kb b wr ((wr.setCell ⟨b,0,none⟩ (.string ⟨z00.toArray⟩))):=((Kb.refl b wr).set 0 _);have KS101:=Ha (KSr.out.trans hk);obtain ⟨st101,hst⟩:∃ zst:St,zst=str.put [102,105]:=⟨_,rfl⟩;have ln101:=St.put_len str [102,105];rw [← hst] at hq ln101;have ES101:=Ha hst;have HP101:=Ha hq;simp only [gG,gH] at ln101;clear hst hq hk hle az00 lz00  x0 x1 x2 x3 x4 x5 x6 x7 x8 x9 t0 t1 g0 g1
   go_end0
   have FIN:=Ha (show hJ (Nd.tv f) (NdF.mk ky ⟨nm.toArray⟩ nt ni ops asg wds rds ars kds) st=st101 by unfold hJ;rw [ES101.out,FIN0.out,ES0.out]);rw [FIN.out];exact ⟨rfl,HP101.out,KW.out.trans KS101.out⟩
theorem BP (f:Nat) (ih:RLs f) (ihw:RWd f) (G:Nat→Prop) (b:Nat) (w:World) (vs:List Value) (n:NdF (Nd f)) (st:St) (hG:∀ k,G k→k<b) (hv:NdV (f+1) G w vs n) (hw0:0<n.words.length) (hfw:∀ x∈n.words,eA (Nd.ft f) x) (hfa:∀ a∈n.arms,(∀ x∈a.pats,eA (Nd.ft f) x)∧(Nd.ft f).ls a.body) (hp:Tx b st w) (hl:st.len+64*Nd.wt (f+1) n≤LIM):
    Calls Tryz.prog 196 #[.pointer (some ⟨b,0,none⟩),ag vs] w (Wtx b w (dW (Nd.tv f) n st)):=by
  obtain ⟨ky,nmb,nt,ni,ops,asg,wds,rds,ars,kds⟩:=n;obtain ⟨A4,c4,A5,c5,A6,c6,A7,c7,A8,c8,A9,c9,rfl,hns,hal,hl4,hl5,hl6,hl7,hl8,hl9,hso,hsa,hsw,hsr,hsm,hsk⟩:=NdV.open hv;obtain ⟨nm,rfl⟩:∃ l:List UInt8,nmb=⟨l.toArray⟩:=⟨nmb.toList,by rw [bP]⟩;have hl2:st.len+64*wtF (Nd.wt f) (NdF.mk ky ⟨nm.toArray⟩ nt ni ops asg wds rds ars kds)≤1099511627776:=hl;unfold wtF at hl2;simp only [aP] at hl2;have hnl:(⟨nm.toArray⟩:ByteArray).toList=nm:=by rw [Lib.toList_data]
  simp only at hw0 hfw hfa;have hwt0:=fS (wtW (Nd.wt f)) wds 0 hw0;obtain ⟨bkW,okW,rfl,hg,hel⟩:=hsw.elem (by omega);have HELW:=Ha hel;have HGKW:=Ha hg;clear hel hg;show Calls Tryz.prog 196 #[.pointer (some ⟨b,0,none⟩),.agg #[.int .i64 ky,.string ⟨nm.toArray⟩,.bool nt,.bool ni,.slice A4 ops.length c4,.slice A5 asg.length c5,.slice (some ⟨bkW,okW,none⟩) wds.length c6,.slice A7 rds.length c7,.slice A8 ars.length c8,.slice A9 kds.length c9]] w (Wtx b w _);have hB:=hp.lt;obtain ⟨w0,hW,hbw,hbx⟩:=cpd w (.cells #[.int .i64 ky,.string ⟨nm.toArray⟩,.bool nt,.bool ni,.slice A4 ops.length c4,.slice A5 asg.length c5,.slice (some ⟨bkW,okW,none⟩) wds.length c6,.slice A7 rds.length c7,.slice A8 ars.length c8,.slice A9 kds.length c9] 28);have hnb:w.heap.size≠b:=by omega
  have KW:=Ha (Kb.of_below (b:=b) hbw);have LW:b<w0.heap.size:=gK hB hbw.size;have HV:=Ha hv;have HP0:=Ha (hp.keep hbw);obtain ⟨st0,hst0⟩:∃ z:St,z=st:=⟨_,rfl⟩;have ln0:st0.len=st.len:=by rw [hst0]
  rw [← hst0] at HP0;obtain ⟨ES0,HSO,HSA,HSW,HSR,HSM,HSK⟩:=hs7 hst0 hso hsa hsw hsr hsm hsk;clear hso hsa hsw hsr hsm hsk;obtain ⟨HG,IH,IHW,HFW,HFA,HBX,KS0⟩:=hs7 hG ih ihw hfw hfa hbx (Kb.refl b w0);clear hbw hp hG hv hst0 hbx ih ihw hfw hfa;obtain ⟨x0,x1,x2,x3,x4,x5,x6,x7,x8,x9⟩:=aE (KS0.out.box HBX.out hnb);obtain ⟨t0,t1,g0,g1⟩:=HP0.out.all;go_enter Tryz.func196,Tryz.ntmps196;obtain ⟨usz,hvl,hR0,hcell⟩:=HELW.out 0 (by omega);have z:=fun j u hj=>(keepB HG.out ((KW.out.trans KS0.out).below (Nat.le_of_lt hB)) _ HGKW.out).trans (hcell j u hj);obtain ⟨A0z,n0z,c0z,rfl⟩:=hR0.shape;have dz_0:w0.cell? ⟨bkW,okW,none⟩=some (.slice A0z n0z c0z):=by simpa using z 0 _ rfl
  have HEz:=Ha hR0;clear hR0 z hcell hvl;have hwl:=cD (Nd.tv_ok f) wds[0];obtain ⟨tw,htw⟩:∃ l:List UInt8,l=wordX (Nd.tv f) wds[0]:=⟨_,rfl⟩;have HTW:=Ha htw;rw [← htw] at hwl;have FW:=Ha (show ∀ X,Kb b w0 X→Calls Tryz.prog 75 #[.agg #[.slice A0z n0z c0z]] X fun e w'=>e=.returned (bs tw)∧Kb b w0 w'∧(∀ s,Tx b s X→Tx b s w') from fun X hX=>
    (IHW.out G X A0z n0z c0z wds[0] (fun j hj=>gK (Nat.lt_trans (HG.out j hj) LW) (Nat.le_trans KS0.out.size hX.size)) (HEz.out.belowB HG.out (((KW.out.trans KS0.out).trans hX).below (Nat.le_of_lt hB))) (HFW.out _ (List.getElem_mem _)) (by unfold LIM;omega)).mono fun _ _ ⟨h1,h2⟩=>⟨by rw [htw];exact h1,hX.trans (.of_below h2),fun s hs=>hs.keep h2⟩)
  clear htw;have hbW:bkW≠b:=by have:=HG.out _ HGKW.out;omega
  have HQ:=Ha (show ∀ X,Kb b w0 X→Tx b st0 X→(X.cell? ⟨w.heap.size,6,none⟩=some (.slice (some ⟨bkW,okW,none⟩) wds.length c6)∧X.cell? ⟨bkW,okW,none⟩=some (.slice A0z n0z c0z)∧X.cell? ⟨b,0,none⟩=some (.string ⟨st0.1.toArray⟩)) from fun X h t=>⟨Kb.cell h x6 (by simp only;omega),Kb.cell h dz_0 (by simp only;omega),t.c0⟩);have R0:=Ha (show Kb b w0 w0.drew from .of_below (Below.refl _ _).drew);have hpd:=HP0.out.keep (Below.refl w0.heap.size w0).drew;have P0:=Ha hpd;have td:=hpd.c0;clear hpd;have hle:=St.le1 st0;obtain ⟨za,hza⟩:∃ z:List UInt8,z=st0.1++[99,97,115,101,32]:=⟨_,rfl⟩;have lza:za.length=(st0.1:List UInt8).length+([99,97,115,101,32]:List UInt8).length:=by rw [hza,gI]
  simp only [gG,gH] at lza;have aza:=bN st0.1 [99,97,115,101,32] (by simp only [gG,gH];omega);rw [← hza] at aza;obtain ⟨zb,hzb⟩:∃ z:List UInt8,z=za++tw:=⟨_,rfl⟩;have lzb:zb.length=(za:List UInt8).length+(tw:List UInt8).length:=by rw [hzb,gI]
  have azb:=bN za tw (by omega);rw [← hzb] at azb;obtain ⟨zc,hzc⟩:∃ z:List UInt8,z=zb++[32,105,110]:=⟨_,rfl⟩;have lzc:zc.length=(zb:List UInt8).length+([32,105,110]:List UInt8).length:=by rw [hzc,gI]
  simp only [gG,gH] at lzc;have azc:=bN zb [32,105,110] (by simp only [gG,gH];omega);rw [← hzc] at azc;have HZ:=Ha (show zc=st0.1++([99,97,115,101,32]++tw++[32,105,110]) by rw [hzc,hzb,hza];simp only [List.append_assoc]);clear hza hzb hzc td x0 x1 x2 x3 x4 x5 x6 x7 x8 x9 t0 t1 g0 g1 dz_0;go_wp2_with fail
  go_cut [] from 5 to 19 (fun wx=>Tx b (st0.put ([99,97,115,101,32]++tw++[32,105,110])) wx∧Kb b w0 wx)
  case first=>
    refine aU.start 15 (fun X=>X.cell? ⟨w.heap.size,6,none⟩=some (.slice (some ⟨bkW,okW,none⟩) wds.length c6)∧X.cell? ⟨bkW,okW,none⟩=some (.slice A0z n0z c0z)∧X.cell? ⟨b,0,none⟩=some (.string ⟨st0.1.toArray⟩)) (by kernel_rfl) ?hs_3 (fun hHeld=>?hr_3)
    case hs_3=>exact HQ.out _ R0.out P0.out
    case hr_3=>
      refine aU.take (i:=0) (oi:=_) (v:=?v0_3) rfl (by kernel_rfl) (by kernel_rfl) (by kernel_rfl) (by kernel_rfl) (fun _ _ _ h=>h) (Or.inl ⟨by rfl, ?hy0_3⟩) (by assumption) ?hr0_3
      case hy0_3=>
        intro w hSw;try dsimp only at hSw
        simp only [gA,gC]
        go_simp
        try with_reducible rfl
      simp only [gA,gC,Act.put,gD,gE,gF];refine aU.take (i:=1) (oi:=_) (v:=?v1_3) rfl (by kernel_rfl) (by kernel_rfl) (by kernel_rfl) (by kernel_rfl) (fun _ _ _ h=>h) (Or.inl ⟨by rfl, ?hy1_3⟩) (by assumption) ?hr1_3
      case hy1_3=>
        intro w hSw;try dsimp only at hSw
        simp only [gA,gB,gC]
        go_simp
        try with_reducible rfl
      simp only [gA,gB,gC,Act.put,gD,gE,gF];refine aU.take (i:=2) (oi:=_) (v:=?v2_3) rfl (by kernel_rfl) (by kernel_rfl) (by kernel_rfl) (by kernel_rfl) (fun _ _ _ h=>h) (Or.inl ⟨by rfl, ?hy2_3⟩) (by assumption) ?hr2_3
      case hy2_3=>
        intro w hSw;try dsimp only at hSw
        simp only [gA,gB,gC]
        go_simp
        try with_reducible rfl
      simp only [gA,gB,gC,Act.put,gD,gE,gF];refine aU.take (i:=3) (oi:=_) (v:=?v3_3) rfl (by kernel_rfl) (by kernel_rfl) (by kernel_rfl) (by kernel_rfl) (fun _ _ _ h=>h) (Or.inl ⟨by rfl, ?hy3_3⟩) (by assumption) ?hr3_3
      case hy3_3=>
        intro w hSw;try dsimp only at hSw
        simp only [gA,gB,gC]
        go_simp
        try with_reducible rfl
      simp only [gA,gB,gC,Act.put,gD,gE,gF];refine aU.take (i:=4) (oi:=_) (v:=?v4_3) rfl (by kernel_rfl) (by kernel_rfl) (by kernel_rfl) (by kernel_rfl) (fun _ _ _ h=>h) (Or.inl ⟨by rfl, ?hy4_3⟩) (by assumption) ?hr4_3
      case hy4_3=>
        intro w hSw;try dsimp only at hSw
        simp only [gA,gB,gC]
        go_simp
        try with_reducible rfl
      simp only [gA,gB,gC,Act.put,gD,gE,gF];refine aU.take (i:=5) (oi:=_) (v:=?v5_3) rfl (by kernel_rfl) (by kernel_rfl) (by kernel_rfl) (by kernel_rfl) (fun _ _ _ h=>h) (Or.inl ⟨by rfl, ?hy5_3⟩) (by assumption) ?hr5_3
      case hy5_3=>
        intro w hSw;try dsimp only at hSw
        simp only [gA,gB,gC]
        go_simp
        try with_reducible rfl
      simp only [gA,gB,gC,Act.put,gD,gE,gF];refine aU.take (i:=6) (oi:=_) (v:=?v6_3) rfl (by kernel_rfl) (by kernel_rfl) (by kernel_rfl) (by kernel_rfl) (fun _ _ _ h=>h) (Or.inl ⟨by rfl, ?hy6_3⟩) (by assumption) ?hr6_3
      case hy6_3=>
        intro w hSw;try dsimp only at hSw
        simp only [gA,gB,gC]
        go_simp
        try with_reducible rfl
      simp only [gA,gB,gC,Act.put,gD,gE,gF];refine aU.take (i:=7) (oi:=_) (v:=?v7_3) rfl (by kernel_rfl) (by kernel_rfl) (by kernel_rfl) (by kernel_rfl) (fun _ _ _ h=>h) (Or.inl ⟨by rfl, ?hy7_3⟩) (by assumption) ?hr7_3
      case hy7_3=>
        intro w hSw;try dsimp only at hSw
        simp only [gA,gB,gC]
        go_simp
        try with_reducible rfl
      simp only [gA,gB,gC,Act.put,gD,gE,gF];refine aU.take (i:=8) (oi:=_) (v:=?v8_3) rfl (by kernel_rfl) (by kernel_rfl) (by kernel_rfl) (by kernel_rfl) (fun _ _ _ h=>h) (Or.inl ⟨by rfl, ?hy8_3⟩) (by assumption) ?hr8_3
      case hy8_3=>
        intro w hSw;try dsimp only at hSw
        simp only [gA,gB,gC]
        go_simp
        try with_reducible rfl
      simp only [gA,gB,gC,Act.put,gD,gE,gF];refine aU.take (i:=9) (oi:=_) (v:=?v9_3) rfl (by kernel_rfl) (by kernel_rfl) (by kernel_rfl) (by kernel_rfl) (fun _ _ _ h=>h) (Or.inl ⟨by rfl, ?hy9_3⟩) (by assumption) ?hr9_3
      case hy9_3=>
        intro w hSw;try dsimp only at hSw
        simp only [gA,gB,gC]
        go_simp
        try with_reducible rfl
      simp only [gA,gB,gC,Act.put,gD,gE,gF];refine aU.one (i:=10) (o:=_) (by kernel_rfl) rfl (fun K hK=>?_);simp only [gA,gB,gC]
      go_simp
      go_at_call 75
      refine Calls.mono (FW.out _ R0.out) ?_;rintro e wD ⟨rfl,kwd0,pwd0⟩;have kwd:=Ha kwd0;have ptd:=pwd0 _ P0.out;have pwd:=Ha ptd;have te:=ptd.c0;have ge:=ptd.f 0;clear kwd0 pwd0 ptd;unfold bs;dsimp only;refine hK.out _ _ ?_ (fun hHeld=>?_)
      · exact HQ.out _ kwd.out pwd.out
      clear hK K;try simp only [Act.put,gD,gE,gF]
      refine aU.take (i:=11) (oi:=_) (v:=?v11_3) rfl (by kernel_rfl) (by kernel_rfl) (by kernel_rfl) (by kernel_rfl) (fun _ _ _ h=>h) (Or.inl ⟨by rfl, ?hy11_3⟩) (by assumption) ?hr11_3
      case hy11_3=>
        intro w hSw;try dsimp only at hSw
        simp only [gA,gB,gC]
        go_simp
        try with_reducible rfl
      simp only [gA,gB,gC,Act.put,gD,gE,gF];refine aU.take (i:=12) (oi:=_) (v:=?v12_3) rfl (by kernel_rfl) (by kernel_rfl) (by kernel_rfl) (by kernel_rfl) (fun _ _ _ h=>h) (Or.inl ⟨by rfl, ?hy12_3⟩) (by assumption) ?hr12_3
      case hy12_3=>
        intro w hSw;try dsimp only at hSw
        simp only [gA,gB,gC]
        go_simp
        try with_reducible rfl
      simp only [gA,gB,gC,Act.put,gD,gE,gF];refine aU.one (i:=13) (o:=_) (by kernel_rfl) rfl (fun K hK=>?_);simp only [gA,gB,gC]
      go_simp
      refine hK.out _ _ ?_ (fun hHeld=>?_)
      · exact (by assumption)
      clear hK K;try simp only [Act.put,gD,gE,gF]
      refine aU.take (i:=14) (oi:=_) (v:=?v14_3) rfl (by kernel_rfl) (by kernel_rfl) (by kernel_rfl) (by kernel_rfl) (fun _ _ _ h=>h) (Or.inl ⟨by rfl, ?hy14_3⟩) (by assumption) ?hr14_3
      case hy14_3=>
        intro w hSw;try dsimp only at hSw
        simp only [gA,gB,gC]
        go_simp
        try with_reducible rfl
      simp only [gA,gB,gC,Act.put,gD,gE,gF];refine aU.last (o:=_) (by kernel_rfl) rfl (fun K hK=>?_);simp only [gA,gB,gC]
      go_simp
      refine hK.out _ _ ?_;refine aU.done (by kernel_rfl) ?_ _;go_wp2_with fail
      go_meet
      exact ⟨Tx.put' pwd.out HZ.out,kwd.out.set 0 _⟩
  case rest=>
    obtain ⟨hq,hk⟩:=hcut;clear aza azb azc HQ FW R0 P0 hle;obtain ⟨w1,hw1⟩:∃ x:World,x=wc:=⟨_,rfl⟩;subst hw1;have KS1:=Ha (KS0.out.trans hk);obtain ⟨st1,hst⟩:∃ zst:St,zst=st0.put ([99,97,115,101,32]++tw++[32,105,110]):=⟨_,rfl⟩;have ln1:=St.put_len st0 ([99,97,115,101,32]++tw++[32,105,110]);rw [← hst] at hq ln1;have ES1:=Ha hst;have HP1:=Ha hq;simp only [gI,gG,gH] at ln1;clear hst hq hk;obtain ⟨x0,x1,x2,x3,x4,x5,x6,x7,x8,x9⟩:=aE (KS1.out.box HBX.out hnb);obtain ⟨t0,t1,g0,g1⟩:=HP1.out.all;go_wp2_with fail;refine (kT b st1 w1 HP1.out (by omega)).mono ?_;rintro e w2 ⟨rfl,hq,hk⟩;have KS2:=Ha (KS1.out.trans hk);obtain ⟨st2,hst⟩:∃ zst:St,zst=st1.line:=⟨_,rfl⟩;have ln2:=St.line_len st1;rw [← hst] at hq ln2;have ES2:=Ha hst;have HP2:=Ha hq;clear hst hq hk  x0 x1 x2 x3 x4 x5 x6 x7 x8 x9 t0 t1 g0 g1;obtain ⟨x0,x1,x2,x3,x4,x5,x6,x7,x8,x9⟩:=aE (KS2.out.box HBX.out hnb);obtain ⟨t0,t1,g0,g1⟩:=HP2.out.all;go_wp2_with fail
    go_loopw [4] (fun i wr=>∃ (k:Nat) (str:St),k≤ars.length∧i=.int .i64 k∧eC (Nd.tv f) (ars.drop k) str=eC (Nd.tv f) ars st2∧str.len+64*tot (wtA (Nd.wt f)) (ars.drop k)≤1099511627744∧Tx b str wr∧Kb b w0 wr) (fun i _=>ars.length-(intOf i).toNat)
    case atStart=>exact ⟨0,st2,by omega,rfl,rfl,by rw [List.drop_zero];omega,HP2.out,KS2.out⟩
    case round=>
      obtain ⟨k,str,hk,rfl,he,lnr,hq,hks⟩:=hrel;obtain ⟨HE,HPr,KSr⟩:=hs3 he hq hks;clear he hq hks x0 x1 x2 x3 x4 x5 x6 x7 x8 x9 t0 t1 g0 g1;obtain ⟨x0,x1,x2,x3,x4,x5,x6,x7,x8,x9⟩:=aE (KSr.out.box HBX.out hnb);obtain ⟨t0,t1,g0,g1⟩:=HPr.out.all;by_cases hlt:k<ars.length
      · clear x0 x1 x2 x3 x4 x5 x6 x7 x8 x9 t0 t1 g0 g1;obtain ⟨bkM,okM,rfl,hg,hel⟩:=HSM.out.elem (by omega);have HELM:=Ha hel;have HGKM:=Ha hg;clear hel hg;obtain ⟨x0,x1,x2,x3,x4,x5,x6,x7,x8,x9⟩:=aE (KSr.out.box HBX.out hnb);obtain ⟨t0,t1,g0,g1⟩:=HPr.out.all;have HD:=Ha (mH (Nd.tv f) ars k str hlt);have htd:=bS (wtA (Nd.wt f)) ars k hlt;have hwa:wtA (Nd.wt f) ars[k]=1+tot (wtW (Nd.wt f)) ars[k].pats+Nd.wt f ars[k].body:=rfl;obtain ⟨usk,hvl,hR0,hcell⟩:=HELM.out k hlt;have z:=fun j u hj=>(keepB HG.out ((KW.out.trans KSr.out).below (Nat.le_of_lt hB)) _ HGKM.out).trans (hcell j u hj);obtain ⟨P0k,p0k,q0k,kyk,sk,ntk,nik,A4k,n4k,c4k,A5k,n5k,c5k,A6k,n6k,c6k,A7k,n7k,c7k,A8k,n8k,c8k,A9k,n9k,c9k,rfl⟩:=hR0.shape;have dk_0:wr.cell? ⟨bkM,okM+k*11,none⟩=some (.slice P0k p0k q0k):=by simpa using z 0 _ rfl
        have dk_1:wr.cell? ⟨bkM,okM+k*11+1,none⟩=some (.int .i64 kyk):=by simpa using z 1 _ rfl
        have dk_2:wr.cell? ⟨bkM,okM+k*11+2,none⟩=some (.string sk):=by simpa using z 2 _ rfl
        have dk_3:wr.cell? ⟨bkM,okM+k*11+3,none⟩=some (.bool ntk):=by simpa using z 3 _ rfl
        have dk_4:wr.cell? ⟨bkM,okM+k*11+4,none⟩=some (.bool nik):=by simpa using z 4 _ rfl
        have dk_5:wr.cell? ⟨bkM,okM+k*11+5,none⟩=some (.slice A4k n4k c4k):=by simpa using z 5 _ rfl
        have dk_6:wr.cell? ⟨bkM,okM+k*11+6,none⟩=some (.slice A5k n5k c5k):=by simpa using z 6 _ rfl
        have dk_7:wr.cell? ⟨bkM,okM+k*11+7,none⟩=some (.slice A6k n6k c6k):=by simpa using z 7 _ rfl
        have dk_8:wr.cell? ⟨bkM,okM+k*11+8,none⟩=some (.slice A7k n7k c7k):=by simpa using z 8 _ rfl
        have dk_9:wr.cell? ⟨bkM,okM+k*11+9,none⟩=some (.slice A8k n8k c8k):=by simpa using z 9 _ rfl
        have dk_10:wr.cell? ⟨bkM,okM+k*11+10,none⟩=some (.slice A9k n9k c9k):=by simpa using z 10 _ rfl
        have hR1:=hR0.belowB HG.out ((KW.out.trans KSr.out).below (Nat.le_of_lt hB));obtain ⟨vp,bs0,hvp,hbl,hsp,hbd⟩:=hR1
        injection hvp with e1 e2
        subst e1 e2;have HSP:=Ha hsp;have HBD:=Ha hbd;clear hR0 z hcell hvl hbl hsp hbd;have hjl:=fU (Nd.tv_ok f) [32,124,32] (by decide) ars[k].pats false;obtain ⟨tj,htj⟩:∃ l:List UInt8,l=bH (Nd.tv f) [32,124,32] false ars[k].pats:=⟨_,rfl⟩;rw [← htj] at hjl;have HTJ:=Ha htj;have FW:=Ha (show ∀ X,Kb b wr X→Calls Tryz.prog 232 #[.slice P0k p0k q0k,.string ⟨[32,124,32].toArray⟩] X fun e w'=>e=.returned (bs tj)∧Kb b wr w'∧(∀ s,Tx b s X→Tx b s w') from fun X hX=>
          (rK f IHW.out G X _ ars[k].pats [32,124,32] (fun j hj=>gK (Nat.lt_trans (HG.out j hj) LW) (Nat.le_trans KSr.out.size hX.size)) (HSP.out.belowW HG.out (hX.below (Nat.le_of_lt (gK LW KSr.out.size)))) (HFA.out _ (List.getElem_mem hlt)).1 (by decide) (by unfold LIM;omega)).mono fun _ _ ⟨h1,h2⟩=>⟨by rw [htj];exact h1,hX.trans (.of_below h2),fun s hs=>hs.keep h2⟩)
        clear htj;obtain ⟨za,hza⟩:∃ z:List UInt8,z=[40]++tj:=⟨_,rfl⟩;have lza:za.length=([40]:List UInt8).length+(tj:List UInt8).length:=by rw [hza,gI]
        simp only [gG,gH] at lza;have aza:=bN [40] tj (by simp only [gG,gH];omega);rw [← hza] at aza;obtain ⟨zb,hzb⟩:∃ z:List UInt8,z=za++[41]:=⟨_,rfl⟩;have lzb:zb.length=(za:List UInt8).length+([41]:List UInt8).length:=by rw [hzb,gI]
        simp only [gG,gH] at lzb;have azb:=bN za [41] (by simp only [gG,gH];omega);rw [← hzb] at azb;have HZ:=Ha (show zb=[40]++tj++[41] by rw [hzb,hza]);have hkl:=(Nd.tv_ok f).ls ars[k].body ((str.put zb).line);rw [St.line_len,St.put_len] at hkl;have FL:=Ha (show ∀ X,Kb b wr X→Tx b str X→Calls Tryz.prog 194 #[.pointer (some ⟨b,0,none⟩),.string ⟨zb.toArray⟩,.agg #[.int .i64 kyk,.string sk,.bool ntk,.bool nik,.slice A4k n4k c4k,.slice A5k n5k c5k,.slice A6k n6k c6k,.slice A7k n7k c7k,.slice A8k n8k c8k,.slice A9k n9k c9k]] X (Wtx b X ((Nd.tv f).ls ars[k].body (str.put zb).line)) from fun X hX hT=>
          IH.out G b X _ ars[k].body str zb HG.out (HBD.out.belowB HG.out (hX.below (Nat.le_of_lt (gK LW KSr.out.size)))) (HFA.out _ (List.getElem_mem hlt)).2 hT (by rw [St.line_len,St.put_len];unfold LIM;omega))
        have hbM:bkM≠b:=by have:=HG.out _ HGKM.out;omega
        have HS:=Ha (show ∀ X,Kb b wr X→X.cell? ⟨w.heap.size,8,none⟩=some (.slice (some ⟨bkM,okM,none⟩) ars.length c8)∧X.cell? ⟨bkM,okM+k*11,none⟩=some (.slice P0k p0k q0k)∧X.cell? ⟨bkM,okM+k*11+1,none⟩=some (.int .i64 kyk)∧X.cell? ⟨bkM,okM+k*11+2,none⟩=some (.string sk)∧X.cell? ⟨bkM,okM+k*11+3,none⟩=some (.bool ntk)∧X.cell? ⟨bkM,okM+k*11+4,none⟩=some (.bool nik)∧X.cell? ⟨bkM,okM+k*11+5,none⟩=some (.slice A4k n4k c4k)∧X.cell? ⟨bkM,okM+k*11+6,none⟩=some (.slice A5k n5k c5k)∧X.cell? ⟨bkM,okM+k*11+7,none⟩=some (.slice A6k n6k c6k)∧X.cell? ⟨bkM,okM+k*11+8,none⟩=some (.slice A7k n7k c7k)∧X.cell? ⟨bkM,okM+k*11+9,none⟩=some (.slice A8k n8k c8k)∧X.cell? ⟨bkM,okM+k*11+10,none⟩=some (.slice A9k n9k c9k) from fun X hX=>⟨Kb.cell hX x8 (by simp only;omega),Kb.cell hX dk_0 (by simp only;omega),Kb.cell hX dk_1 (by simp only;omega),Kb.cell hX dk_2 (by simp only;omega),Kb.cell hX dk_3 (by simp only;omega),Kb.cell hX dk_4 (by simp only;omega),Kb.cell hX dk_5 (by simp only;omega),Kb.cell hX dk_6 (by simp only;omega),Kb.cell hX dk_7 (by simp only;omega),Kb.cell hX dk_8 (by simp only;omega),Kb.cell hX dk_9 (by simp only;omega),Kb.cell hX dk_10 (by simp only;omega)⟩);have R0:=Ha (show Kb b wr wr.drew from .of_below (Below.refl _ _).drew);have hpd:=HPr.out.keep (Below.refl wr.heap.size wr).drew;have P0:=Ha hpd;have td:=hpd.c0;clear hpd;clear hza hzb;go_wp2_with fail;clear x0 x1 x2 x3 x4 x5 x6 x7 x8 x9 t0 t1 g0 g1 dk_0 dk_1 dk_2 dk_3 dk_4 dk_5 dk_6 dk_7 dk_8 dk_9 dk_10
        go_region_held3 (fun X=>X.cell? ⟨w.heap.size,8,none⟩=some (.slice (some ⟨bkM,okM,none⟩) ars.length c8)∧X.cell? ⟨bkM,okM+k*11,none⟩=some (.slice P0k p0k q0k)∧X.cell? ⟨bkM,okM+k*11+1,none⟩=some (.int .i64 kyk)∧X.cell? ⟨bkM,okM+k*11+2,none⟩=some (.string sk)∧X.cell? ⟨bkM,okM+k*11+3,none⟩=some (.bool ntk)∧X.cell? ⟨bkM,okM+k*11+4,none⟩=some (.bool nik)∧X.cell? ⟨bkM,okM+k*11+5,none⟩=some (.slice A4k n4k c4k)∧X.cell? ⟨bkM,okM+k*11+6,none⟩=some (.slice A5k n5k c5k)∧X.cell? ⟨bkM,okM+k*11+7,none⟩=some (.slice A6k n6k c6k)∧X.cell? ⟨bkM,okM+k*11+8,none⟩=some (.slice A7k n7k c7k)∧X.cell? ⟨bkM,okM+k*11+9,none⟩=some (.slice A8k n8k c8k)∧X.cell? ⟨bkM,okM+k*11+10,none⟩=some (.slice A9k n9k c9k))
          (first | (with_reducible exact HS.out _ R0.out) | (with_reducible exact HS.out _ kwd.out) | (with_reducible exact HS.out _ kwl.out))
          (first
            | (go_at_call 232
               refine Calls.mono (FW.out _ R0.out) ?_;rintro e wD ⟨rfl,kwd0,pwd0⟩;have kwd:=Ha kwd0;have ptd:=pwd0 _ P0.out;have pwd:=Ha ptd;have te:=ptd.c0;have ge:=ptd.f 0;clear kwd0 pwd0 ptd;unfold bs;dsimp only)
            | (go_at_call 194
               refine Calls.mono (FL.out _ kwd.out pwd.out) ?_;rintro e wL ⟨rfl,hqL,hkL⟩;have kwl:=Ha (kwd.out.trans hkL);have ptl:=Ha hqL;clear hqL hkL;dsimp only))
        have hq:=ptl.out;have hk:=kwl.out;obtain ⟨w3,hwx⟩:∃ x:World,x=wL:=⟨_,rfl⟩;subst hwx;have KS3:=Ha (KSr.out.trans hk);obtain ⟨st3,hst⟩:∃ zst:St,zst=(Nd.tv f).ls ars[k].body (str.put zb).line:=⟨_,rfl⟩;have ln3:=hkl;rw [← hst] at hq ln3;have ES3:=Ha hst;have HP3:=Ha hq;clear hst hq hk hkl HS FW FL td te ge R0 P0 kwd kwl pwd ptl aza azb;obtain ⟨x0,x1,x2,x3,x4,x5,x6,x7,x8,x9⟩:=aE (KS3.out.box HBX.out hnb);obtain ⟨t0,t1,g0,g1⟩:=HP3.out.all;have hle:=St.le1 st3;obtain ⟨z00,hz00⟩:∃ z:List UInt8,z=st3.1++[59,59]:=⟨_,rfl⟩;have lz00:z00.length=st3.1.length+([59,59]:List UInt8).length:=by rw [hz00,gI]
        simp only [gG,gH] at lz00;have az00:=bN st3.1 [59,59] (by simp only [gG,gH];omega);rw [← hz00] at az00;have HZ0:=Ha (show z00=(st3).1++[59,59] by rw [hz00]);clear hz00;go_wp2_with fail;have hq:Tx b (st3.put [59,59]) ((w3.setCell ⟨b,0,none⟩ (.string ⟨z00.toArray⟩))):=(Tx.put' HP3.out HZ0.out);have hk:Kb b w3 ((w3.setCell ⟨b,0,none⟩ (.string ⟨z00.toArray⟩))):=((Kb.refl b w3).set 0 _);generalize hZ:(w3.setCell ⟨b,0,none⟩ (.string ⟨z00.toArray⟩))=w4 at *;have KS4:=Ha (KS3.out.trans hk);obtain ⟨st4,hst⟩:∃ zst:St,zst=st3.put [59,59]:=⟨_,rfl⟩;have ln4:=St.put_len st3 [59,59];rw [← hst] at hq ln4;have ES4:=Ha hst;have HP4:=Ha hq;simp only [gG,gH] at ln4;clear hst hq hk hle lz00;obtain ⟨nx0,nx1,nx2,nx3,nx4,nx5,nx6,nx7,nx8,nx9⟩:=aE (KS4.out.box HBX.out hnb);obtain ⟨nt0,nt1,ng0,ng1⟩:=HP4.out.all;go_wp2_with fail;refine (kT b st4 w4 HP4.out (by omega)).mono ?_;rintro e w5 ⟨rfl,hq,hk⟩;have KS5:=Ha (KS4.out.trans hk);obtain ⟨st5,hst⟩:∃ zst:St,zst=st4.line:=⟨_,rfl⟩;have ln5:=St.line_len st4;rw [← hst] at hq ln5;have ES5:=Ha hst;have HP5:=Ha hq;clear hst hq hk hZ az00  x0 x1 x2 x3 x4 x5 x6 x7 x8 x9 t0 t1 g0 g1 nx0 nx1 nx2 nx3 nx4 nx5 nx6 nx7 nx8 nx9 nt0 nt1 ng0 ng1;obtain ⟨x0,x1,x2,x3,x4,x5,x6,x7,x8,x9⟩:=aE (KS5.out.box HBX.out hnb);obtain ⟨t0,t1,g0,g1⟩:=HP5.out.all;have HN:=Ha (show eC (Nd.tv f) (ars.drop (k+1)) st5=eC (Nd.tv f) ars st2 by rw [← HE.out,HD.out,ES5.out,ES4.out,ES3.out,HZ.out,HTJ.out];simp only [jK];rfl);go_wp2_with fail
        go_roundw
        case rel=>exact ⟨k+1,st5,by omega,by go_num,HN.out,by omega,HP5.out,KS5.out⟩
        case measure=>simp only [intOf];omega
      · have hpe:str=eC (Nd.tv f) ars st2:=by rw [← HE.out,List.drop_eq_nil_of_le (by omega),eC]
        have FIN0:=Ha hpe;clear hpe;have hle:=St.le1 str;obtain ⟨z00,hz00⟩:∃ z:List UInt8,z=str.1++[101,115,97,99]:=⟨_,rfl⟩;have lz00:z00.length=str.1.length+([101,115,97,99]:List UInt8).length:=by rw [hz00,gI]
        simp only [gG,gH] at lz00;have az00:=bN str.1 [101,115,97,99] (by simp only [gG,gH];omega);rw [← hz00] at az00;have HZ0:=Ha (show z00=(str).1++[101,115,97,99] by rw [hz00]);clear hz00;go_wp2_with fail;have hq:Tx b (str.put [101,115,97,99]) ((wr.setCell ⟨b,0,none⟩ (.string ⟨z00.toArray⟩))):=(Tx.put' HPr.out HZ0.out);have hk:Kb b wr ((wr.setCell ⟨b,0,none⟩ (.string ⟨z00.toArray⟩))):=((Kb.refl b wr).set 0 _);have KS103:=Ha (KSr.out.trans hk);obtain ⟨st103,hst⟩:∃ zst:St,zst=str.put [101,115,97,99]:=⟨_,rfl⟩;have ln103:=St.put_len str [101,115,97,99];rw [← hst] at hq ln103;have ES103:=Ha hst;have HP103:=Ha hq;simp only [gG,gH] at ln103;clear hst hq hk hle az00 lz00  x0 x1 x2 x3 x4 x5 x6 x7 x8 x9 t0 t1 g0 g1
        go_end0
        have FIN:=Ha (show dW (Nd.tv f) (NdF.mk ky ⟨nm.toArray⟩ nt ni ops asg wds rds ars kds) st=st103 by unfold dW;simp only;rw [oW _ _ hw0,← HTW.out];show (eC (Nd.tv f) ars ((st.put ([99,97,115,101,32]++tw++[32,105,110])).line)).put [101,115,97,99]=_;rw [← ES0.out,← ES1.out,← ES2.out,← FIN0.out,← ES103.out]);rw [FIN.out];exact ⟨rfl,HP103.out,KW.out.trans KS103.out⟩
theorem uL {t:TypeId} {ops:Array Oper} {op:Oper} {a:Act} {w w':World} {K:Act→World→Prop} {Q:Exit→Act→World→Prop} {E:Prop} (hgd:op.guard=none) (s x:Operand)
    (ho:op.op=.call { callee:=.builtin .append,args:=#[s,x],argTypes:=#[t,t] }) {v v2 v':Value} (hs:a.eval s=v) (hx:a.eval x=v2) (ht:op.type=t)
    (hr:WrA Tryz.prog #[t,t] t #[v,v2] w=.ok v' w') (hK:K (a.put op.dst v') w'):
    if Region.wanted op (yielded ops a.tmps)=true then Oper.wp Tryz.prog op a w K Q else E:=by
  have hw:Region.wanted op (yielded ops a.tmps)=true:=by simp [Region.wanted,hgd]
  rw [if_pos hw];unfold WrA at hr;unfold Oper.wp execOp;simp only [ho,ht,resolve,invoke,builtin,Sem.run_bind,Sem.run_pure,Result.andThen_ok,List.map_toArray,List.map_cons,List.map_nil,hs,hx,hr];exact hK
theorem oH:(Tryz.prog.info? 31).map (fun i=>(i.zero,i.size,i.bytes))=some (some (.agg #[.slice none 0 0]),1,24):=by kernel_rfl
theorem WdN.one {f:Nat} {G:Nat→Prop} {w:World}:∀ (vs:List Value) (x:WdF (Nd f)),WdN f G w vs x→∀ u∈vs,u.oneCell'=true:=by
  intro vs x h u hu;obtain ⟨A,n,c,rfl⟩:=h.shape;simp only [List.mem_cons,List.not_mem_nil,or_false] at hu;subst hu;rfl
theorem wO {f:Nat} {G:Nat→Prop} {w W:World} {va vb:Value} {xs ys:List (WdF (Nd f))} (hG:∀ k,G k→k<W.heap.size) (hk:∀ p:Addr,G p.block→W.cell? p=w.cell? p) (ha:aW G w 1 (WdN f G w) va xs) (hb:aW G w 1 (WdN f G w) vb ys) (hl:xs.length+ys.length≤17179869184):
    ∃ (A2:Option Addr) (n2 c2:Nat) (W2:World) (A3:Option Addr) (c3:Nat) (W3:World) (G':Nat→Prop),WrA Tryz.prog #[23,23] 23 #[.slice (some ⟨W.heap.size,0,none⟩) 0 0,va] (W.alloc (.cells #[] 31))=.ok (.slice A2 n2 c2) W2∧
      WrA Tryz.prog #[23,23] 23 #[.slice A2 n2 c2,vb] W2=.ok (.slice A3 (xs++ys).length c3) W3∧Below W.heap.size W W2∧Below W.heap.size W W3∧(∀ k,G' k→k<W3.heap.size)∧aW G' W3 1 (WdN f G' W3) (.slice A3 (xs++ys).length c3) (xs++ys):=by
  have r0:=g6.fresh (T:=31) (sz:=1) (B:=W.heap.size) W (Nat.le_refl _) (WdN f G w);have hb0:Below W.heap.size W (W.alloc (.cells #[] 31)):=(Below.refl _ _).alloc (Nat.le_refl _) _;have k0:∀ p:Addr,G p.block→(W.alloc (.cells #[] 31)).cell? p=w.cell? p:=fun p hp=>(World.cell?_of_block (hb0.block _ (hG _ hp))).trans (hk p hp);obtain ⟨v2,W2,hr1,row1,hg1,_⟩:=r0.append 23 Tryz.underlying23 oH (by decide) (by decide) WdN.one 23 (ha.keep (fun _ h=>h) k0 fun _ _ h=>h) (by simp only [gH];omega) (by simp only [gH];unfold maxLen;omega) hb0.size;have hb2:Below W.heap.size W W2:=gU hb0 hb0.size hg1 fun g hg=>(r0.lt hg).1;have k2:∀ p:Addr,G p.block→W2.cell? p=w.cell? p:=fun p hp=>(World.cell?_of_block (hb2.block _ (hG _ hp))).trans (hk p hp);obtain ⟨v3,W3,hr2,row2,hg2,_⟩:=row1.append 23 Tryz.underlying23 oH (by decide) (by decide) WdN.one 23 (hb.keep (fun _ h=>h) k2 fun _ _ h=>h) (by simp only [List.nil_append];omega) (by simp only [List.nil_append];unfold maxLen;omega) hb2.size;have hb3:Below W.heap.size W W3:=gU hb2 hb2.size hg2 fun g hg=>(row1.lt hg).1;have k3:∀ p:Addr,G p.block→W3.cell? p=w.cell? p:=fun p hp=>(World.cell?_of_block (hb3.block _ (hG _ hp))).trans (hk p hp);obtain ⟨A2,c2,rfl,_⟩:=row1.shape;obtain ⟨A3,c3,e3,_⟩:=row2.shape;rw [List.nil_append] at row2 e3;have hs:=row2.look (G:=fun k=>G k∨v3.ownBlock=some k) fun g hg=>.inr hg;subst e3;refine ⟨A2,_,c2,W2,A3,c3,W3,fun k=>G k∨(Value.slice A3 (xs++ys).length c3).ownBlock=some k,hr1,hr2,hb2,hb3,fun k h=>h.elim (fun h=>gK (hG k h) hb3.size) fun h=>(row2.lt h).2, ?_⟩;exact hs.keep (fun _ h=>h) (fun _ _=>rfl) fun vs x h=>WdV.keep (fun _ h=>.inl h) k3 (fun _ _ h=>h.keep (fun _ h=>.inl h) k3) h
theorem wM (f:Nat) (ihw:RWd f) (G:Nat→Prop) (b:Nat) (w:World) (vs:List Value) (n:NdF (Nd f)) (st:St) (hG:∀ k,G k→k<b) (hv:NdV (f+1) G w vs n) (hfr:∀ r∈n.redirs,eA (Nd.ft f) r.tz) (hfa:∀ x∈n.assigns,eA (Nd.ft f) x) (hfw:∀ x∈n.words,eA (Nd.ft f) x) (hp:Tx b st w) (hl:st.len+64*Nd.wt (f+1) n≤LIM):
    Calls Tryz.prog 193 #[.pointer (some ⟨b,0,none⟩),ag vs] w (Wtx b w (dG (Nd.tv f) n st)):=by
  obtain ⟨ky,nmb,nt,ni,ops,asg,wds,rds,ars,kds⟩:=n;obtain ⟨A4,c4,A5,c5,A6,c6,A7,c7,A8,c8,A9,c9,rfl,hns,hal,hl4,hl5,hl6,hl7,hl8,hl9,hso,hsa,hsw,hsr,hsm,hsk⟩:=NdV.open hv;obtain ⟨nm,rfl⟩:∃ l:List UInt8,nmb=⟨l.toArray⟩:=⟨nmb.toList,by rw [bP]⟩;have hl2:st.len+64*wtF (Nd.wt f) (NdF.mk ky ⟨nm.toArray⟩ nt ni ops asg wds rds ars kds)≤1099511627776:=hl;unfold wtF at hl2;simp only [aP] at hl2;have hnl:(⟨nm.toArray⟩:ByteArray).toList=nm:=by rw [Lib.toList_data]
  simp only at hfr hfa hfw;have hl1:asg.length≤tot (wtW (Nd.wt f)) asg:=p7 (fun x=>by unfold wtW;omega) asg;have hl2':wds.length≤tot (wtW (Nd.wt f)) wds:=p7 (fun x=>by unfold wtW;omega) wds;show Calls Tryz.prog 193 #[.pointer (some ⟨b,0,none⟩),.agg #[.int .i64 ky,.string ⟨nm.toArray⟩,.bool nt,.bool ni,.slice A4 ops.length c4,.slice A5 asg.length c5,.slice A6 wds.length c6,.slice A7 rds.length c7,.slice A8 ars.length c8,.slice A9 kds.length c9]] w (Wtx b w _);have hB:=hp.lt;obtain ⟨w0,hW,hbw,hbx⟩:=cpd w (.cells #[.int .i64 ky,.string ⟨nm.toArray⟩,.bool nt,.bool ni,.slice A4 ops.length c4,.slice A5 asg.length c5,.slice A6 wds.length c6,.slice A7 rds.length c7,.slice A8 ars.length c8,.slice A9 kds.length c9] 28);have hnb:w.heap.size≠b:=by omega
  have KW:=Ha (Kb.of_below (b:=b) hbw);have LW:b<w0.heap.size:=gK hB hbw.size;have HV:=Ha hv;have HP0:=Ha (hp.keep hbw);obtain ⟨st0,hst0⟩:∃ z:St,z=st:=⟨_,rfl⟩;have ln0:st0.len=st.len:=by rw [hst0]
  rw [← hst0] at HP0;obtain ⟨ES0,HSO,HSA,HSW,HSR,HSM,HSK⟩:=hs7 hst0 hso hsa hsw hsr hsm hsk;clear hso hsa hsw hsr hsm hsk;obtain ⟨HG,IHW,HFR,HFA,HFW,HBX,KS0⟩:=hs7 hG ihw hfr hfa hfw hbx (Kb.refl b w0);clear hbw hp hG hv hst0 hbx ihw hfr hfa hfw;obtain ⟨x0,x1,x2,x3,x4,x5,x6,x7,x8,x9⟩:=aE (KS0.out.box HBX.out hnb);obtain ⟨t0,t1,g0,g1⟩:=HP0.out.all;go_enter Tryz.func193,Tryz.ntmps193;go_wp2_with fail
  go_loopw [4] (fun i wr=>∃ (k:Nat) (str:St),k≤rds.length∧i=.int .i64 k∧eW (Nd.tv f) (decide (0<k)) (rds.drop k) str=eW (Nd.tv f) false rds st0∧str.len+64*tot (wtR (Nd.wt f)) (rds.drop k)≤1099511627744-64*tot (wtW (Nd.wt f)) asg-64*tot (wtW (Nd.wt f)) wds∧Tx b str wr∧Kb b w0 wr) (fun i _=>rds.length-(intOf i).toNat)
  case atStart=>exact ⟨0,st0,by omega,rfl,rfl,by rw [List.drop_zero];omega,HP0.out,KS0.out⟩
  case round=>
    obtain ⟨k,str,hk,rfl,he,lnr,hq,hks⟩:=hrel;obtain ⟨HE,HPr,KSr⟩:=hs3 he hq hks;clear he hq hks x0 x1 x2 x3 x4 x5 x6 x7 x8 x9 t0 t1 g0 g1;obtain ⟨x0,x1,x2,x3,x4,x5,x6,x7,x8,x9⟩:=aE (KSr.out.box HBX.out hnb);obtain ⟨t0,t1,g0,g1⟩:=HPr.out.all;by_cases hlt:k<rds.length
    · clear x0 x1 x2 x3 x4 x5 x6 x7 x8 x9 t0 t1 g0 g1;obtain ⟨bkR,okR,rfl,hg,hel⟩:=HSR.out.elem (by omega);have HELR:=Ha hel;have HGKR:=Ha hg;clear hel hg;obtain ⟨x0,x1,x2,x3,x4,x5,x6,x7,x8,x9⟩:=aE (KSr.out.box HBX.out hnb);obtain ⟨t0,t1,g0,g1⟩:=HPr.out.all;have HD:=Ha (oU (Nd.tv f) (decide (0<k)) rds k str hlt);have htd:=bS (wtR (Nd.wt f)) rds k hlt;have hw1:1≤wtR (Nd.wt f) rds[k]:=by unfold wtR;omega
      by_cases hbr:0<k
      · have hki:(0:Int)<(k:Int):=by omega
        have hle:=St.le1 str;obtain ⟨z00,hz00⟩:∃ z:List UInt8,z=str.1++[32]:=⟨_,rfl⟩;have lz00:z00.length=str.1.length+([32]:List UInt8).length:=by rw [hz00,gI]
        simp only [gG,gH] at lz00;have az00:=bN str.1 [32] (by simp only [gG,gH];omega);rw [← hz00] at az00;have HZ0:=Ha (show z00=(str).1++[32] by rw [hz00]);clear hz00;have hq:Tx b (str.put [32]) ((wr.setCell ⟨b,0,none⟩ (.string ⟨z00.toArray⟩))):=(Tx.put' HPr.out HZ0.out);have hk:Kb b wr ((wr.setCell ⟨b,0,none⟩ (.string ⟨z00.toArray⟩))):=((Kb.refl b wr).set 0 _);generalize hZ:(wr.setCell ⟨b,0,none⟩ (.string ⟨z00.toArray⟩))=w1 at *;have KS1:=Ha (KSr.out.trans hk);obtain ⟨st1,hst⟩:∃ zst:St,zst=str.put [32]:=⟨_,rfl⟩;have ln1:=St.put_len str [32];rw [← hst] at hq ln1;have ES1:=Ha hst;have HP1:=Ha hq;simp only [gG,gH] at ln1;clear hst hq hk hle lz00;obtain ⟨nx0,nx1,nx2,nx3,nx4,nx5,nx6,nx7,nx8,nx9⟩:=aE (KS1.out.box HBX.out hnb);obtain ⟨nt0,nt1,ng0,ng1⟩:=HP1.out.all;obtain ⟨usk,hvl,hR0,hcell⟩:=HELR.out k (by omega);have z:=fun j u hj=>(keepB HG.out ((KW.out.trans KS1.out).below (Nat.le_of_lt hB)) _ HGKR.out).trans (hcell j u hj);obtain ⟨sk,ok,A2k,n2k,c2k,shk,rfl⟩:=hR0.shape;have dk_0:w1.cell? ⟨bkR,okR+k*4,none⟩=some (.string sk):=by simpa using z 0 _ rfl
        have dk_1:w1.cell? ⟨bkR,okR+k*4+1,none⟩=some (.int .i64 ok):=by simpa using z 1 _ rfl
        have dk_2:w1.cell? ⟨bkR,okR+k*4+2,none⟩=some (.slice A2k n2k c2k):=by simpa using z 2 _ rfl
        have dk_3:w1.cell? ⟨bkR,okR+k*4+3,none⟩=some (.string shk):=by simpa using z 3 _ rfl
        have HEk:=Ha hR0;clear hR0 z hcell hvl;have hkl:=eJ (Nd.tv_ok f) rds[k] st1;have HX:=Ha (nE f IHW.out G b w1 _ rds[k] st1 HG.out (HEk.out.belowB HG.out ((KW.out.trans KS1.out).below (Nat.le_of_lt hB))) (HFR.out _ (List.getElem_mem hlt)) HP1.out (by unfold LIM;omega));unfold ag at HX;go_wp2_with fail;refine (HX.out).mono ?_;rintro e w2 ⟨rfl,hq,hk⟩;have KS2:=Ha (KS1.out.trans hk);obtain ⟨st2,hst⟩:∃ zst:St,zst=cZ (Nd.tv f) rds[k] st1:=⟨_,rfl⟩;have ln2:=hkl;rw [← hst] at hq ln2;have ES2:=Ha hst;have HP2:=Ha hq;clear hst hq hk HX hkl dk_0 dk_1 dk_2 dk_3 hZ az00  x0 x1 x2 x3 x4 x5 x6 x7 x8 x9 t0 t1 g0 g1 nx0 nx1 nx2 nx3 nx4 nx5 nx6 nx7 nx8 nx9 nt0 nt1 ng0 ng1;obtain ⟨x0,x1,x2,x3,x4,x5,x6,x7,x8,x9⟩:=aE (KS2.out.box HBX.out hnb);obtain ⟨t0,t1,g0,g1⟩:=HP2.out.all;have HN:=Ha (show eW (Nd.tv f) (decide (0<k+1)) (rds.drop (k+1)) st2=eW (Nd.tv f) false rds st0 by rw [← HE.out,HD.out,decide_eq_true (show 0<k+1 by omega),decide_eq_true hbr,D8,ES2.out,ES1.out]);go_wp2_with fail
        go_roundw
        case rel=>exact ⟨k+1,st2,by omega,by go_num,HN.out,by omega,HP2.out,KS2.out⟩
        case measure=>simp only [intOf];omega
      · obtain rfl:k=0:=by omega
        obtain ⟨usk,hvl,hR0,hcell⟩:=HELR.out 0 (by omega);have z:=fun j u hj=>(keepB HG.out ((KW.out.trans KSr.out).below (Nat.le_of_lt hB)) _ HGKR.out).trans (hcell j u hj);obtain ⟨sk,ok,A2k,n2k,c2k,shk,rfl⟩:=hR0.shape;have dk_0:wr.cell? ⟨bkR,okR,none⟩=some (.string sk):=by simpa using z 0 _ rfl
        have dk_1:wr.cell? ⟨bkR,okR+1,none⟩=some (.int .i64 ok):=by simpa using z 1 _ rfl
        have dk_2:wr.cell? ⟨bkR,okR+2,none⟩=some (.slice A2k n2k c2k):=by simpa using z 2 _ rfl
        have dk_3:wr.cell? ⟨bkR,okR+3,none⟩=some (.string shk):=by simpa using z 3 _ rfl
        have HEk:=Ha hR0;clear hR0 z hcell hvl;have hkl:=eJ (Nd.tv_ok f) rds[0] str;have HX:=Ha (nE f IHW.out G b wr _ rds[0] str HG.out (HEk.out.belowB HG.out ((KW.out.trans KSr.out).below (Nat.le_of_lt hB))) (HFR.out _ (List.getElem_mem hlt)) HPr.out (by unfold LIM;omega));unfold ag at HX;go_wp2_with fail;refine (HX.out).mono ?_;rintro e w1 ⟨rfl,hq,hk⟩;have KS1:=Ha (KSr.out.trans hk);obtain ⟨st1,hst⟩:∃ zst:St,zst=cZ (Nd.tv f) rds[0] str:=⟨_,rfl⟩;have ln1:=hkl;rw [← hst] at hq ln1;have ES1:=Ha hst;have HP1:=Ha hq;clear hst hq hk HX hkl dk_0 dk_1 dk_2 dk_3  x0 x1 x2 x3 x4 x5 x6 x7 x8 x9 t0 t1 g0 g1;obtain ⟨x0,x1,x2,x3,x4,x5,x6,x7,x8,x9⟩:=aE (KS1.out.box HBX.out hnb);obtain ⟨t0,t1,g0,g1⟩:=HP1.out.all;have HN:=Ha (show eW (Nd.tv f) (decide (0<0+1)) (rds.drop (0+1)) st1=eW (Nd.tv f) false rds st0 by rw [← HE.out,HD.out,decide_eq_true (show 0<0+1 by omega),decide_eq_false hbr,vB,dN,ES1.out]);go_wp2_with fail
        go_roundw
        case rel=>exact ⟨0+1,st1,by omega,by go_num,HN.out,by omega,HP1.out,KS1.out⟩
        case measure=>simp only [intOf];omega
    · have hpe:str=eW (Nd.tv f) false rds st0:=by rw [← HE.out,List.drop_eq_nil_of_le (by omega),eW]
      have FIN0:=Ha hpe;clear hpe;have htz:tot (wtR (Nd.wt f)) (rds.drop k)=0:=by rw [List.drop_eq_nil_of_le (by omega)];rfl
      obtain ⟨A2,n2,q2,W2,A3,q3,W3,G',hr1,hr2,hb2,hb3,hG',hsl⟩:=wO (W:=wr.drew) (fun j hj=>Nat.lt_trans (HG.out j hj) (gK LW KSr.out.size)) (keepB HG.out (((KW.out.trans KSr.out).trans (.of_below (Below.refl _ _).drew)).below (Nat.le_of_lt hB))) HSA.out HSW.out (by omega);obtain ⟨nn,hnn⟩:∃ n:Nat,n=(asg++wds).length:=⟨_,rfl⟩;rw [← hnn] at hr2 hsl;clear hnn;have hjl:=fU (Nd.tv_ok f) [32] (by decide) (asg++wds) false;have hta:tot (wtW (Nd.wt f)) (asg++wds)=tot (wtW (Nd.wt f)) asg+tot (wtW (Nd.wt f)) wds:=rQ _ _ _;rw [hta] at hjl;have HNE:=Ha (show ∀ x∈asg++wds,wordX (Nd.tv f) x≠[] from fun x hx=>wV ((List.mem_append.1 hx).elim (HFA.out x) (HFW.out x)));have HXW:=Ha (rK f IHW.out G' W3 _ (asg++wds) [32] hG' hsl (fun x hx=>(List.mem_append.1 hx).elim (HFA.out x) (HFW.out x)) (by decide) (by rw [hta];unfold LIM;omega));obtain ⟨ta,hta2⟩:∃ l:List UInt8,l=bH (Nd.tv f) [32] false (asg++wds):=⟨_,rfl⟩;have HTA:=Ha hta2;rw [← hta2] at hjl HXW;obtain ⟨K2,K3,R0,P3⟩:=hs4 (show Kb b wr W2 from .trans (.of_below (Below.refl _ _).drew) (.of_below hb2)) (show Kb b wr W3 from .trans (.of_below (Below.refl _ _).drew) (.of_below hb3)) (show Kb b wr wr.drew from .of_below (Below.refl _ _).drew) ((HPr.out.keep (Below.refl wr.heap.size wr).drew).keep hb3);clear hta hta2 hb2 hb3 hG' hsl;have HS:=Ha (show ∀ X,Kb b wr X→X.cell? ⟨w.heap.size,5,none⟩=some (.slice A5 asg.length c5)∧X.cell? ⟨w.heap.size,6,none⟩=some (.slice A6 wds.length c6) from fun X hX=>⟨Kb.cell hX x5 (by simp only;omega),Kb.cell hX x6 (by simp only;omega)⟩);go_wp2_with fail;clear x0 x1 x2 x3 x4 x5 x6 x7 x8 x9 t0 t1 g0 g1
      go_region_held3 (fun X=>X.cell? ⟨w.heap.size,5,none⟩=some (.slice A5 asg.length c5)∧X.cell? ⟨w.heap.size,6,none⟩=some (.slice A6 wds.length c6))
        (first | (with_reducible exact HS.out _ R0.out) | (with_reducible exact HS.out _ (R0.out.trans (.of_below ((Below.refl _ _).alloc (Nat.le_refl _) _)))) | (with_reducible exact HS.out _ K2.out) | (with_reducible exact HS.out _ K3.out) | (with_reducible exact HS.out _ kwd.out))
        (first
          | (refine uL (by rfl) (.tmp 30) (.tmp 32) (by rfl) (by rfl) (by rfl) (by rfl) hr1 ?_)
          | (refine uL (by rfl) (.tmp 33) (.tmp 35) (by rfl) (by rfl) (by rfl) (by rfl) hr2 ?_)
          | (go_at_call 232
             refine Calls.mono HXW.out ?_;rintro e wD ⟨rfl,hbD⟩;have kwd:=Ha (K3.out.trans (.of_below hbD));have pwd:=Ha (P3.out.keep hbD);clear hbD;unfold bs;dsimp only))
      have hq:=pwd.out;have hk:=kwd.out;obtain ⟨w101,hwx⟩:∃ x:World,x=wD:=⟨_,rfl⟩;subst hwx;have KS101:=Ha (KSr.out.trans hk);have HP101:=Ha hq;clear hq hk HS R0 P3 K2 K3 kwd pwd hr1 hr2 HXW;obtain ⟨x0,x1,x2,x3,x4,x5,x6,x7,x8,x9⟩:=aE (KS101.out.box HBX.out hnb);obtain ⟨t0,t1,g0,g1⟩:=HP101.out.all;by_cases hrd:0<rds.length
      · by_cases hte:ta=[]
        · subst hte;have hri:(0:Int)<(rds.length:Int):=by omega
          have hle:=St.le1 str;obtain ⟨z00,hz00⟩:∃ z:List UInt8,z=str.1++([]:List UInt8):=⟨_,rfl⟩;have lz00:z00.length=str.1.length+(([]:List UInt8):List UInt8).length:=by rw [hz00,gI]
          have az00:=bN str.1 ([]:List UInt8) (by omega);rw [← hz00] at az00;have HZ0:=Ha (show z00=(str).1++([]:List UInt8) by rw [hz00]);clear hz00;go_wp2_with fail;have hq:Tx b (str.put ([]:List UInt8)) ((w101.setCell ⟨b,0,none⟩ (.string ⟨z00.toArray⟩))):=(Tx.put' HP101.out HZ0.out);have hk:Kb b w101 ((w101.setCell ⟨b,0,none⟩ (.string ⟨z00.toArray⟩))):=((Kb.refl b w101).set 0 _);have KS102:=Ha (KS101.out.trans hk);obtain ⟨st102,hst⟩:∃ zst:St,zst=str.put ([]:List UInt8):=⟨_,rfl⟩;have ln102:=St.put_len str ([]:List UInt8);rw [← hst] at hq ln102;have ES102:=Ha hst;have HP102:=Ha hq;clear hst hq hk hle az00 lz00  x0 x1 x2 x3 x4 x5 x6 x7 x8 x9 t0 t1 g0 g1
          go_end0
          have FIN:=Ha (show dG (Nd.tv f) (NdF.mk ky ⟨nm.toArray⟩ nt ni ops asg wds rds ars kds) st=st102 by rw [i6 _ _ _ HNE.out];simp only;rw [← HTA.out];rw [if_neg (fun h=>h.2 rfl),ES102.out,FIN0.out,ES0.out]);rw [FIN.out];exact ⟨rfl,HP102.out,KW.out.trans KS102.out⟩
        · obtain ⟨tc,tl,rfl⟩:∃ c l,ta=c::l:=by cases ta with | nil=>exact absurd rfl hte | cons c l=>exact ⟨c,l,rfl⟩
          have hri:(0:Int)<(rds.length:Int):=by omega
          clear hte;have hle:=St.le1 str;obtain ⟨z00,hz00⟩:∃ z:List UInt8,z=str.1++[32]:=⟨_,rfl⟩;have lz00:z00.length=str.1.length+([32]:List UInt8).length:=by rw [hz00,gI]
          simp only [gG,gH] at lz00;have az00:=bN str.1 [32] (by simp only [gG,gH];omega);rw [← hz00] at az00;have HZ0:=Ha (show z00=(str).1++[32] by rw [hz00]);clear hz00;obtain ⟨z10,hz10⟩:∃ z:List UInt8,z=z00++(tc::tl):=⟨_,rfl⟩;have lz10:z10.length=z00.length+((tc::tl):List UInt8).length:=by rw [hz10,gI]
          have az10:=bN z00 (tc::tl) (by omega);rw [← hz10] at az10;have HZ1:=Ha (show z10=(str.put [32]).1++(tc::tl) by rw [hz10,HZ0.out];simp only [St.put,List.append_assoc]);clear hz10;go_wp2_with fail;have hq:Tx b ((str.put [32]).put (tc::tl)) (((w101.setCell ⟨b,0,none⟩ (.string ⟨z00.toArray⟩)).setCell ⟨b,0,none⟩ (.string ⟨z10.toArray⟩))):=(Tx.put' (Tx.put' HP101.out HZ0.out) HZ1.out);have hk:Kb b w101 (((w101.setCell ⟨b,0,none⟩ (.string ⟨z00.toArray⟩)).setCell ⟨b,0,none⟩ (.string ⟨z10.toArray⟩))):=(((Kb.refl b w101).set 0 _).set 0 _);have KS102:=Ha (KS101.out.trans hk);obtain ⟨st102,hst⟩:∃ zst:St,zst=(str.put [32]).put (tc::tl):=⟨_,rfl⟩;have ln102:=(St.put_len (str.put [32]) (tc::tl)).trans (congrArg (· + ((tc::tl):List UInt8).length) (St.put_len str [32]));rw [← hst] at hq ln102;have ES102:=Ha hst;have HP102:=Ha hq;simp only [gG,gH] at ln102;clear hst hq hk hle az00 lz00 az10 lz10  x0 x1 x2 x3 x4 x5 x6 x7 x8 x9 t0 t1 g0 g1
          go_end0
          have FIN:=Ha (show dG (Nd.tv f) (NdF.mk ky ⟨nm.toArray⟩ nt ni ops asg wds rds ars kds) st=st102 by rw [i6 _ _ _ HNE.out];simp only;rw [← HTA.out];rw [if_pos ⟨hrd,by simp⟩,ES102.out,FIN0.out,ES0.out]);rw [FIN.out];exact ⟨rfl,HP102.out,KW.out.trans KS102.out⟩
      · have hri:¬(0:Int)<(rds.length:Int):=by omega
        have hle:=St.le1 str;obtain ⟨z00,hz00⟩:∃ z:List UInt8,z=str.1++ta:=⟨_,rfl⟩;have lz00:z00.length=str.1.length+(ta:List UInt8).length:=by rw [hz00,gI]
        have az00:=bN str.1 ta (by omega);rw [← hz00] at az00;have HZ0:=Ha (show z00=(str).1++ta by rw [hz00]);clear hz00;go_wp2_with fail;have hq:Tx b (str.put ta) ((w101.setCell ⟨b,0,none⟩ (.string ⟨z00.toArray⟩))):=(Tx.put' HP101.out HZ0.out);have hk:Kb b w101 ((w101.setCell ⟨b,0,none⟩ (.string ⟨z00.toArray⟩))):=((Kb.refl b w101).set 0 _);have KS102:=Ha (KS101.out.trans hk);obtain ⟨st102,hst⟩:∃ zst:St,zst=str.put ta:=⟨_,rfl⟩;have ln102:=St.put_len str ta;rw [← hst] at hq ln102;have ES102:=Ha hst;have HP102:=Ha hq;clear hst hq hk hle az00 lz00  x0 x1 x2 x3 x4 x5 x6 x7 x8 x9 t0 t1 g0 g1
        go_end0
        have FIN:=Ha (show dG (Nd.tv f) (NdF.mk ky ⟨nm.toArray⟩ nt ni ops asg wds rds ars kds) st=st102 by rw [i6 _ _ _ HNE.out];simp only;rw [← HTA.out];rw [if_neg (fun h=>hrd h.1),ES102.out,FIN0.out,ES0.out]);rw [FIN.out];exact ⟨rfl,HP102.out,KW.out.trans KS102.out⟩
end Go.Proofs.YtjpopekmbmcggaaGreatDoor
