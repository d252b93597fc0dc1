/- Towards unparseShows_card: UpRedir. Merged from smaller texts by a program of the author's. -/
import Derived.Test.YtjpopekmbmcggaaGreatDoorUb32
import Derived.Deep.RegionLaw
import Derived.Deep.CutRange
set_option maxRecDepth 100000
set_option maxHeartbeats 16000000
namespace Go.Proofs.YtjpopekmbmcggaaGreatDoor
open Go.RowKit
theorem BE (e s:List UInt8) (t:Bool) (w:World) (h:s.length+e.length+1≤1099511627776):Calls Tryz.prog 250 #[.agg #[.string ⟨e.toArray⟩,.bool t],.string ⟨s.toArray⟩] w fun r w'=>r=.returned (bs (s++e++[10]))∧Below w.heap.size w w':=by
  have h1:=fun W=>bN s e (by omega) W;have h2:=fun W=>bN (s++e) [10] (by rw [gI,gG,gH];omega) W;go_enter Tryz.func250,Tryz.ntmps250;go_wp2_with fail;go_ret;exact ⟨by rw [List.append_assoc];rfl,(Below.refl _ _).alloc (Nat.le_refl _) _⟩
theorem rV {B b:Nat} {s:St} {w:World} (t:List UInt8) (h:Pn B b s w) (hl:s.2.length+1≤1099511627776) (ht:1≤t.length):
    ∃ (v:Value) (A':Option Addr) (n' c':Nat) (w':World),w.cell? ⟨b,2,none⟩=some v∧WrA Tryz.prog #[73,73] 73 #[v,.slice (some ⟨w.heap.size,0,none⟩) 1 1] (w.alloc (.cells #[.string ⟨t.toArray⟩] 9))=.ok (.slice A' n' c') w'∧w'.cell? ⟨b,2,none⟩=some v∧w'.frozen? ⟨b,2,none⟩=false∧
      Ks B b w w'∧Ks B b w (w'.setCell ⟨b,2,none⟩ (.slice A' n' c'))∧Pn B b (s.1,s.2++t) (w'.setCell ⟨b,2,none⟩ (.slice A' n' c')):=by
  obtain ⟨v,xs,h1,h2,h3,h4,h5⟩:=h;obtain ⟨p,q,hh⟩:=h1.hh;have hba:Below w.heap.size w (w.alloc (.cells #[.string ⟨t.toArray⟩] 9)):=(Below.refl _ _).alloc (Nat.le_refl _) _;obtain ⟨v',w',hrun,hrow,hgr⟩:=h2.one t (by omega) h5;obtain ⟨A',c',rfl,_⟩:=hrow.look;have h2a:=h2.below hba;have hha:=(hba.block b (Array.getElem?_eq_some_iff.1 hh).1).trans hh;have hnb:∀ (cs:Array Value) (T:TypeId) (fz:Nat×Nat) (k:Nat),T≠9→(w.alloc (.cells #[.string ⟨t.toArray⟩] 9)).heap[k]? = some (.cells cs T fz)→some k≠v.ownBlock:=fun cs T fz k hT hk e=>by
    obtain ⟨_,_,c,fz',hh'⟩:=h2a.kind k e.symm;rw [hk] at hh'
    injection hh' with hh'
    injection hh' with _ hh'
    exact hT hh'
  have hbk:w'.heap[b]? = some (.cells (p::q::[v]).toArray 126 (0,0)):=(hgr.block b (Array.getElem?_eq_some_iff.1 hha).1 (hnb _ _ _ b (by decide) hha)).trans hha;have hks:Ks B b w w':=(Ks.of_below hba).trans ⟨hgr.os,hgr.tape,hgr.output,hgr.size,fun k hk hg=>hgr.block k hk fun e=>by
    obtain ⟨a1,a2,a3⟩:=h2a.kind k e.symm;rcases hg with hg | ⟨_,_,hg⟩
    · omega
    · exact hg a3⟩
  have hi:IsB 126 B b [v] s.1 w':=by
    have hia:=h1.keep hba;have one:∀ p,Bld 126 B b [v] p s.1 (w.alloc (.cells #[.string ⟨t.toArray⟩] 9))→Bld 126 B b [v] p s.1 w':=by
      rintro p ⟨hB,u,hb,hown,hn⟩;refine ⟨hB,u,(hgr.block b (Array.getElem?_eq_some_iff.1 hb).1 (hnb _ _ _ b (by decide) hb)).trans hb,hown.kept (row:=v.ownBlock) hgr ?_,hn⟩;rcases hown.2 with ⟨rfl,_⟩ | ⟨g',cap,cur,rfl,_,hg',_⟩
      · exact .inl rfl
      · exact .inr (hnb _ _ _ g' (by decide) hg')
    rcases hia with h | h
    · exact .inl (one _ h)
    · exact .inr (one _ h)
  have hset:Kp B (· = b) w' (w'.setCell ⟨b,2,none⟩ (.slice A' (xs++[t]).length c')):=(Kp.refl B (· = b) w').set (X:=(· = b)) h1.le rfl 2 _;refine ⟨v,A',_,c',w',aF hh 2 _ rfl,hrun,aF hbk 2 _ rfl,by simp [World.frozen?,hbk],hks,hks.trans (.of_kp hset),_,xs++[t],hi.setRest (by decide) _,hrow.kp hbk (by decide) hset, ?_, ?_,Nat.le_trans (Nat.le_trans h5 hks.size) hset.size⟩
  · rw [List.flatten_append,h3];simp
  · show (xs++[t]).length≤(s.2++t).length;rw [gI,gI,gG,gH];omega
theorem oT {α:Type} (v:Tv α) (r:RdF α) (s:St) (h:¬(r.op=12∨r.op=13)):cZ v r s=s.put (r.num.toList++Ope.txtI r.op++[32]++wordX v r.tz):=by
  unfold cZ rU;rw [if_neg h,List.append_nil];rfl
theorem nB {α:Type} (v:Tv α) (r:RdF α) (s:St) (h:r.op=12∨r.op=13):cZ v r s=((s.put (r.num.toList++Ope.txtI r.op++[32]++wordX v r.tz)).1,(s.put (r.num.toList++Ope.txtI r.op++[32]++wordX v r.tz)).2++(r.here.toList++r.tz.p.utx.getD []++[10])):=by
  unfold cZ rU;rw [if_pos h];rfl
theorem uK {ops:Array Oper} {op:Oper} {a:Act} {w w':World} {K:Act→World→Prop} {Q:Exit→Act→World→Prop} {E:Prop} (hgd:op.guard=none) (s x:Operand)
    (ho:op.op=.call { callee:=.builtin .append,args:=#[s,x],argTypes:=#[73,73] }) {v v2 v':Value} (hs:a.eval s=v) (hx:a.eval x=v2) (ht:op.type=73)
    (hr:WrA Tryz.prog #[73,73] 73 #[v,v2] w=.ok v' w') (hK:K (a.put op.dst v') w'):
    if Region.wanted op (yielded ops a.tmps)=true then Oper.wp Tryz.prog op a w K Q else E:=by
  have hw:Region.wanted op (yielded ops a.tmps)=true:=by simp [Region.wanted,hgd]
  rw [if_pos hw];unfold WrA at hr;unfold Oper.wp execOp;simp only [ho,ht,resolve,invoke,builtin,Sem.run_bind,Sem.run_pure,Result.andThen_ok,List.map_toArray,List.map_cons,List.map_nil,hs,hx,hr];exact hK
theorem uG (f:Nat) (ih:PWd f) (G:Nat→Prop) (B b:Nat) (w:World) (vs:List Value) (r:RdF (Nd f)) (st:St) (hG:∀ k,G k→k<B) (hT:TxB B w) (hv:RdN f G w vs r) (hf:eA (Nd.ft f) r.tz) (hp:Pn B b st w) (hl:st.len+64*wtR (Nd.wt f) r≤LIM):
    Calls Tryz.prog 233 #[.pointer (some ⟨b,0,none⟩),ag vs] w (Wrt B b w (cZ (Nd.tv f) r st)):=by
  have hwlen:=cD (Nd.tv_ok f) r.tz;have htx:=nK r.op;have hut:=nL r.tz.p;obtain ⟨num,op,tw,here⟩:=r;obtain ⟨vt,rfl,hns,hhs,hw⟩:=hv;obtain ⟨A,n,c,hvt⟩:=WdN.shape hw
  injection hvt with hvt
  subst hvt;have hww:WdN f G w [.slice A n c] tw:=hw;obtain ⟨rfl,hnc,hcm,hwt,hpt,-⟩:=hww.cmds;simp only at hf hwlen htx hut;have hl2:st.len+64*wtR (Nd.wt f) ⟨num,op,tw,here⟩≤1099511627776:=hl;unfold wtR at hl2;simp only at hl2;have hwt2:tw.p.wt+1≤wtW (Nd.wt f) tw:=by unfold wtW;omega
  obtain ⟨nm,rfl⟩:∃ l:List UInt8,num=⟨l.toArray⟩:=⟨num.toList,by rw [bP]⟩;obtain ⟨hr,rfl⟩:∃ l:List UInt8,here=⟨l.toArray⟩:=⟨here.toList,by rw [bP]⟩;rw [aP,aP] at hl2;show Calls Tryz.prog 233 #[.pointer (some ⟨b,0,none⟩),.agg #[.string ⟨nm.toArray⟩,.int .i64 op,.slice A tw.p.len c,.string ⟨hr.toArray⟩]] w (Wrt B b w _);obtain ⟨w0,hW,hbw,hbx⟩:=cpd w (.cells #[.string ⟨nm.toArray⟩,.int .i64 op,.slice A tw.p.len c,.string ⟨hr.toArray⟩] 33);have hnb:w.heap.size≠b:=by have:=hp.lt;omega
  have hB:=hp.size;have KW:=Ha (Ks.of_below (B:=B) (b:=b) hbw);have LW:B≤w0.heap.size:=Nat.le_trans hB hbw.size;have hb0:Below B w w0:=hbw.mono hB;have HT:=Ha (hT.below hb0);have HWD:=Ha (hww.belowB hG hb0);have HPT:=Ha (hpt.keep fun p hp=>World.cell?_of_block (hb0.block _ (hG _ hp)));have HP0:=Ha (hp.below hbw);have HG:=Ha hG;have IH:=Ha ih;have HF:=Ha hf;have HBX:=Ha hbx;have x0:w0.cell? ⟨w.heap.size,0,none⟩=some (.string ⟨nm.toArray⟩):=aF hbx 0 _ rfl;have x1:w0.cell? ⟨w.heap.size,1,none⟩=some (.int .i64 op):=aF hbx 1 _ rfl;have x2:w0.cell? ⟨w.heap.size,2,none⟩=some (.slice A tw.p.len c):=aF hbx 2 _ rfl;have x3:w0.cell? ⟨w.heap.size,3,none⟩=some (.string ⟨hr.toArray⟩):=aF hbx 3 _ rfl;have HS:=Ha (show ∀ X,Ks B b w0 X→X.cell? ⟨w.heap.size,0,none⟩=some (.string ⟨nm.toArray⟩)∧X.cell? ⟨w.heap.size,1,none⟩=some (.int .i64 op)∧X.cell? ⟨w.heap.size,2,none⟩=some (.slice A tw.p.len c)∧X.cell? ⟨w.heap.size,3,none⟩=some (.string ⟨hr.toArray⟩) from fun X hX=>by
    have:=hX.box HBX.out hnb (by decide) (by decide);exact ⟨aF this 0 _ rfl,aF this 1 _ rfl,aF this 2 _ rfl,aF this 3 _ rfl⟩)
  have FT:=Ha (show ∀ X,Ks B b w0 X→Calls Tryz.prog 249 #[.int .i64 op] X fun e w'=>e=.returned (bs (Ope.txtI op))∧X=w' from fun X hX=>DH op X ((HT.out.below (hX.below LW)).1));have FW:=Ha (show ∀ X,Ks B b w0 X→Calls Tryz.prog 74 #[.agg #[.slice A tw.p.len c]] X fun e w'=>e=.returned (bs (wordX (Nd.tv f) tw))∧Ks B b X w'∧Ks B b w0 w'∧(∀ s,Pn B b s X→Pn B b s w') from fun X hX=>
    (IH.out G X A tw.p.len c tw (fun k hk=>gK (HG.out k hk) (Nat.le_trans LW hX.size)) (HT.out.below (hX.below LW)).1 (HWD.out.belowB HG.out (hX.below LW)) HF.out (by unfold LIM;omega)).mono fun _ _ ⟨h1,h2⟩=>⟨h1,.of_below h2,hX.trans (.of_below h2),fun s hs=>hs.below h2⟩)
  have FU:=Ha (show ∀ X,Ks B b w0 X→Calls Tryz.prog 45 #[.agg #[.slice A tw.p.len c]] X fun e w'=>e=.returned (.tuple #[bs (tw.p.utx.getD []),.bool tw.p.utx.isSome])∧Below X.heap.size X w' from fun X hX=>
    qB tw.p A c G X hwt (fun k hk=>gK (HG.out k hk) (Nat.le_trans LW hX.size)) (HPT.out.keep fun p hp=>World.cell?_of_block ((hX.below LW).block _ (HG.out _ hp))))
  have R0:=Ha (show Ks B b w0 w0.drew from .of_below (Below.refl _ _).drew);have P0:=Ha (HP0.out.below (Below.refl w0.heap.size w0).drew);clear hbw hb0 hp hG hT hbx hw hww hpt ih hf;go_enter Tryz.func233,Tryz.ntmps233;go_wp2_with fail
  go_region_held3 (fun X=>X.cell? ⟨w.heap.size,0,none⟩=some (.string ⟨nm.toArray⟩)∧X.cell? ⟨w.heap.size,1,none⟩=some (.int .i64 op)∧X.cell? ⟨w.heap.size,2,none⟩=some (.slice A tw.p.len c)∧X.cell? ⟨w.heap.size,3,none⟩=some (.string ⟨hr.toArray⟩))
    (first | exact HS.out _ R0.out | exact HS.out _ kwd.out | exact HS.out _ (kwd.out.alloc _) | exact HS.out _ kpt.out)
    (first
      | (go_at_call 249
         refine Calls.mono (FT.out _ R0.out) ?_;rintro e wT ⟨rfl,rfl⟩;unfold bs;dsimp only)
      | (go_at_call 74
         refine Calls.mono (FW.out _ R0.out) ?_;rintro e wD ⟨rfl,_,kwd0,pwd0⟩;have kwd:=Ha kwd0;have pwd:=Ha (pwd0 _ P0.out);clear kwd0 pwd0;unfold bs;dsimp only)
      | (go_at_call 164
         refine Calls.mono (EE nm (Ope.txtI op) [32] (wordX (Nd.tv f) tw) pwd.out (by simp only [gG,gH];omega)) ?_;rintro e wP ⟨rfl,pp0,kp0⟩;have kpt:=Ha (kwd.out.trans kp0);have ppt:=Ha pp0;clear pp0 kp0;dsimp only))
  have KP:=Ha kpt.out;obtain ⟨stp,hstp⟩:∃ z:St,z=st.put (nm++Ope.txtI op++[32]++wordX (Nd.tv f) tw):=⟨_,rfl⟩;rw [← hstp] at ppt;have hsl:stp.len≤1099511627700:=by rw [hstp,St.put_len,gI,gI,gI,gG,gH];omega
  have hs2:stp.2.length≤stp.len:=by unfold St.len;omega
  have HSTP:=Ha hstp;have hul:(tw.p.utx.getD []).length≤tw.p.wt:=hut;obtain ⟨x0,x1,x2,x3⟩:=HS.out _ kpt.out;have hnl:(⟨nm.toArray⟩:ByteArray).toList=nm:=by rw [Lib.toList_data]
  have hrl:(⟨hr.toArray⟩:ByteArray).toList=hr:=by rw [Lib.toList_data]
  clear hstp;by_cases hop:op=12∨op=13
  case neg=>
    have o1:(op==12)=false:=by rw [gJ];intro e;exact hop (.inl e)
    have o2:(op==13)=false:=by rw [gJ];intro e;exact hop (.inr e)
    have FIN:=Ha (show cZ (Nd.tv f) ⟨⟨nm.toArray⟩,op,tw,⟨hr.toArray⟩⟩ st=stp by rw [oT _ _ _ hop,HSTP.out,hnl]);go_wp2_with fail
    go_end0
    rw [FIN.out];exact ⟨rfl,ppt.out,KW.out.trans KP.out⟩
  have FIN:=Ha (show cZ (Nd.tv f) ⟨⟨nm.toArray⟩,op,tw,⟨hr.toArray⟩⟩ st=(stp.1,stp.2++(hr++tw.p.utx.getD []++[10])) by rw [nB _ _ _ hop,HSTP.out,hnl,hrl]);have HXU:=Ha (FU.out _ kpt.out);clear hut;generalize tw.p.utx.getD []=ut at *;obtain ⟨tt,htt⟩:∃ l:List UInt8,l=hr++ut++[10]:=⟨_,rfl⟩;have HSW:=Ha (fun (X:World) (t:Bool)=>BE ut hr t X (by omega));rw [← htt] at HSW FIN;have htl:tt.length=hr.length+ut.length+1:=by rw [htt,gI,gI,gG,gH]
  clear htt;rcases hop with rfl | rfl
  · go_wp2_with fail;refine HXU.out.mono ?_;rintro e wU ⟨rfl,hbU⟩;have KU:=Ha (KP.out.trans (.of_below hbU));have PU:=Ha (ppt.out.below hbU);clear hbU x0 x1 x2 x3;obtain ⟨x0,x1,x2,x3⟩:=HS.out _ KU.out;unfold bs;go_wp2_with fail;have KD:=Ha (KU.out.trans (.of_below (Below.refl wU.heap.size wU).drew));have PD:=Ha (PU.out.below (Below.refl wU.heap.size wU).drew);obtain ⟨v,xs,h1,_,_,_,_⟩:=PD.out;obtain ⟨p,q,hh⟩:=h1.hh;have c2:wU.drew.cell? ⟨b,2,none⟩=some v:=aF hh 2 _ rfl;clear h1 hh;clear x0 x1 x2 x3;obtain ⟨x0,x1,x2,x3⟩:=HS.out _ KD.out
    go_region_law (first
      | (refine uK (by rfl) (.tmp 35) (.tmp 44) (by rfl) (by rfl) (by rfl) (by rfl) a2 ?_)
      | (go_simp
         go_at_call 250
         refine Calls.mono (HSW.out _ _) ?_;rintro e wS ⟨rfl,hbS⟩;obtain ⟨v2,A',n',c',wA,a1,a2,a3,a4,a5,a6,a7⟩:=rV tt (PD.out.below hbS) (by omega) (by omega);have a8:=aA c2 hbS;obtain rfl:v2=v:=Option.some.inj (a1.symm.trans a8);have a9:=aA a8 (show Below wS.heap.size wS (wS.alloc (.cells #[.string ⟨tt.toArray⟩] 9)) from (Below.refl _ _).alloc (Nat.le_refl _) _);have kZ:=Ha ((Ks.of_below (B:=B) (b:=b) hbS).trans a6);have pZ:=Ha a7;clear a1 a5 a6 a7 hbS;unfold bs;dsimp only))
    all_goals
      go_wp2_with fail
      go_end0
      rw [FIN.out];exact ⟨rfl,pZ.out,KW.out.trans (KD.out.trans kZ.out)⟩
  · go_wp2_with fail;refine HXU.out.mono ?_;rintro e wU ⟨rfl,hbU⟩;have KU:=Ha (KP.out.trans (.of_below hbU));have PU:=Ha (ppt.out.below hbU);clear hbU x0 x1 x2 x3;obtain ⟨x0,x1,x2,x3⟩:=HS.out _ KU.out;unfold bs;go_wp2_with fail;have KD:=Ha (KU.out.trans (.of_below (Below.refl wU.heap.size wU).drew));have PD:=Ha (PU.out.below (Below.refl wU.heap.size wU).drew);obtain ⟨v,xs,h1,_,_,_,_⟩:=PD.out;obtain ⟨p,q,hh⟩:=h1.hh;have c2:wU.drew.cell? ⟨b,2,none⟩=some v:=aF hh 2 _ rfl;clear h1 hh;clear x0 x1 x2 x3;obtain ⟨x0,x1,x2,x3⟩:=HS.out _ KD.out
    go_region_law (first
      | (refine uK (by rfl) (.tmp 35) (.tmp 44) (by rfl) (by rfl) (by rfl) (by rfl) a2 ?_)
      | (go_simp
         go_at_call 250
         refine Calls.mono (HSW.out _ _) ?_;rintro e wS ⟨rfl,hbS⟩;obtain ⟨v2,A',n',c',wA,a1,a2,a3,a4,a5,a6,a7⟩:=rV tt (PD.out.below hbS) (by omega) (by omega);have a8:=aA c2 hbS;obtain rfl:v2=v:=Option.some.inj (a1.symm.trans a8);have a9:=aA a8 (show Below wS.heap.size wS (wS.alloc (.cells #[.string ⟨tt.toArray⟩] 9)) from (Below.refl _ _).alloc (Nat.le_refl _) _);have kZ:=Ha ((Ks.of_below (B:=B) (b:=b) hbS).trans a6);have pZ:=Ha a7;clear a1 a5 a6 a7 hbS;unfold bs;dsimp only))
    all_goals
      go_wp2_with fail
      go_end0
      rw [FIN.out];exact ⟨rfl,pZ.out,KW.out.trans (KD.out.trans kZ.out)⟩
end Go.Proofs.YtjpopekmbmcggaaGreatDoor
