/- Towards clashesWhole_upto. -/
import Derived.Test.YtpidmmfjcghmeaaGreatCs10
import Derived.Test.YtpidmmfjcghmeaaGreatCs23
import Derived.Test.YtpidmmfjcghmeaaGreatCs24
set_option maxRecDepth 100000
set_option maxHeartbeats 16000000
set_option linter.all false
namespace Go.Proofs.YtpidmmfjcghmeaaGreat
open Go.RowKit
section
attribute [local go_sem ↓] aI
def tH (x:Itm):List UInt8:=[UInt8.ofNat (x.1.toNat / 256),UInt8.ofNat (x.1.toNat % 256),UInt8.ofNat x.2.toNat]
def fK (l:List Itm):List UInt8:=l.flatMap tH
theorem eN (l:List Itm):(fK l).length=l.length*3:=by
 unfold fK
 induction l with
 | nil=>rfl
 | cons x l ih=>rw [List.flatMap_cons,gI,ih,gG];simp [tH];omega
def eM (x:Itm):Prop:=0≤x.1∧x.1<65536∧0≤x.2∧x.2<256
theorem B9 {x y:Itm} (hx:eM x) (hy:eM y) (h:tH x=tH y):x=y:=by
 unfold tH at h;unfold eM at hx hy;simp only [List.cons.injEq,and_true] at h;have e:∀ a b:Nat,a<256→b<256→UInt8.ofNat a=UInt8.ofNat b→a=b:=fun a b ha hb h=>by
  have:=congrArg UInt8.toNat h;simp at this;omega
 have h1:=e _ _ (by omega) (by omega) h.1;have h2:=e _ _ (by omega) (by omega) h.2.1;have h3:=e _ _ (by omega) (by omega) h.2.2;exact Prod.ext (by omega) (by omega)
theorem rX:∀ {l m:List Itm},(∀ x∈l,eM x)→(∀ x∈m,eM x)→fK l=fK m→l=m
 | [],[],_,_,_=>rfl
 | [],y::m,_,_,h=>by have:=congrArg List.length h;rw [eN,eN] at this;simp at this
 | x::l,[],_,_,h=>by have:=congrArg List.length h;rw [eN,eN] at this;simp at this
 | x::l,y::m,h1,h2,h=>by
  unfold fK at h;rw [List.flatMap_cons,List.flatMap_cons] at h;obtain ⟨e1,e2⟩:=List.append_inj h (by simp [tH]);rw [B9 (h1 x (yH ..)) (h2 y (yH ..)) e1,rX (fun x hx=>h1 x (yI _ hx)) (fun x hx=>h2 x (yI _ hx)) e2]
theorem tE:Hd 141 0:=⟨by kernel_rfl,by decide⟩
theorem nE {T:TypeId} {B b:Nat} {rest:List Value} (hd:Hd T rest.length) (l:List UInt8) (w:World) (h:IsB T B b rest l w):
  Calls Tryz.prog 135 #[.pointer (some ⟨b,0,none⟩)] w fun e w'=>e=.returned (.tuple #[])∧Bld T B b rest (.pointer (some ⟨b,0,none⟩)) l w'∧Kp B (· = b) w w'∧∀ k,k≠b→w'.heap[k]? = w.heap[k]? := by
 rcases h with h | h
 ·refine (kM hd b w h.cell0 h.shape (h.frozen 0)).mono ?_;rintro e w' ⟨rfl,rfl⟩;exact ⟨rfl,h.used hd.ne _,(Kp.refl B (· = b) w).set (X:=(· = b)) h.1 rfl _ _,fun k hk=>gU _ _ _ _ hk⟩
 ·refine (lN b w h.cell0).mono ?_;rintro e w' ⟨rfl,rfl⟩;exact ⟨rfl,h,Kp.refl _ _ _,fun _ _=>rfl⟩
theorem I6 {T:TypeId} {B b:Nat} {rest:List Value} (hd:Hd T rest.length) (l:List UInt8) (x y z:UInt8) (q:Nat) (w:World) (h:IsB T B b rest l w) (hq:w.heap[q]? = some (.cells #[.int .u8 (x.toNat:Int),.int .u8 (y.toNat:Int),.int .u8 (z.toNat:Int)] 5 (0,0))) (hlen:l.length+3≤140737488355328) (hBw:B≤w.heap.size):
  Calls Tryz.prog 226 #[.pointer (some ⟨b,0,none⟩),.slice (some ⟨q,0,none⟩) 3 3] w fun e w'=>e=.returned (.tuple #[.int .i64 3,.nilIface])∧Bld T B b rest (.pointer (some ⟨b,0,none⟩)) (l++[x,y,z]) w'∧Kp B (· = b) w w':=by
 obtain ⟨i0,hi,hz0,hz1,hz2⟩:=info_parts xC;have HQ:=Ha hq;clear hq;go_enter Tryz.func226,Tryz.ntmps226;go_wp2_with fail;have hqb:q≠b:=fun e=>by
  subst e;have h2:=HQ.out;rcases h with ⟨_,v,h3,_⟩ | ⟨_,v,h3,_⟩ <;>
  ·rw [h2] at h3
   injection h3 with h3
   injection h3 with _ h3
   exact hd.ne h3.symm
 refine (nE hd l _ h).mono ?_;rintro e w1 ⟨rfl,h1,hb1,hk1⟩;obtain ⟨hB,v,hbk,hown,hn⟩:=h1;have hq1:=(hk1 q hqb).trans HQ.out;obtain ⟨v',w2,hrun,hown',hgrow,hnil,_⟩:=run_append_own_at (P:=Tryz.prog) w1 B 139 139 5 i0 (.int .u8 0) 1 1 Tryz.underlying139 hi hz0 hz1 hz2 rfl (by decide) v l.length (bcs l) hown ⟨q,0,none⟩ 3 3 (bcs [x,y,z]) rfl
  (fun j u hj=>by
   have e:(⟨q,0,none⟩:Addr).add j=⟨q,j,none⟩:=by unfold Addr.add;split <;> simp_all
   rw [e];simp only [World.cell?,hq1]
   simpa [bcs] using hj)
  (fun u hu=>by simp [bcs] at hu;rcases hu with rfl | rfl | rfl <;> rfl) (by unfold maxLen;omega) (by omega) (gP hBw hb1.size)
 have hrun:=WrA.of hrun;have hlt:b<w1.heap.size:=(gL hbk).1;have hne:=tK hown hbk hd.ne;have hb2:w2.heap[b]? = some (.cells (.pointer (some ⟨b,0,none⟩)::v::rest).toArray T (0,0)):=by
  rw [hgrow.block b hlt (fun e=>hne e.symm)];exact hbk
 have c0:w1.cell? ⟨b,0,none⟩=some (.pointer (some ⟨b,0,none⟩)):=by simp [World.cell?,hbk]
 have c1:w1.cell? ⟨b,1,none⟩=some v:=by simp [World.cell?,hbk]
 have d0:w2.cell? ⟨b,0,none⟩=some (.pointer (some ⟨b,0,none⟩)):=by simp [World.cell?,hb2]
 have d1:w2.cell? ⟨b,1,none⟩=some v:=by simp [World.cell?,hb2]
 have f1:w2.frozen? ⟨b,1,none⟩=false:=by simp [World.frozen?,hb2]
 obtain ⟨ao,n',cap,rfl⟩:∃ ao n' cap,v'=.slice ao n' cap:=by
  rcases hown'.2 with ⟨hv,_⟩ | ⟨g,cap,cur,hv,_⟩
  ·exact ⟨_,_,_,hv⟩
  ·exact ⟨_,_,_,hv⟩
 have HP:=Ha (Bld.put (l':=l++[x,y,z]) hB hb2 hd.ne (by rw [gI,EC];exact hown') (by
  rw [hnil];constructor
  ·rintro ⟨_,h⟩;cases h
  ·intro h;simp at h))
 have HK:=Ha ((hb1.grown hgrow (FM hown)).set (X:=(· = b)) hB rfl 1 (.slice ao n' cap));clear hnil hown' hgrow hown hn hq1 hk1 hb1 h hbk hb2;go_wp2_with fail;refine bodyPost_ret (v:=.tuple #[.int .i64 3,.nilIface]) (by simp [results,Tryz.results226,go_sem]) rfl ?_;exact ⟨rfl,HP.out,HK.out⟩
theorem J4 (r:Nat):IntKind.u8.wrap ((r:Int) / 256)=((UInt8.ofNat (r / 256)).toNat:Int):=by
 simp [IntKind.wrap,IntKind.bits,IntKind.signed]
theorem J3 (r:Nat):IntKind.u8.wrap (r:Int)=((UInt8.ofNat (r % 256)).toNat:Int):=by
 simp [IntKind.wrap,IntKind.bits,IntKind.signed]
theorem b25 (r:Nat):IntKind.u8.wrap (r:Int)=((UInt8.ofNat r).toNat:Int):=by
 simp [IntKind.wrap,IntKind.bits,IntKind.signed]
theorem JG (G:Nat→Prop) (w:World) (A:Option Addr) (c:Nat) (l:List Itm) (hG:∀ k,G k→k<w.heap.size) (hl:aR G w (.slice A l.length c) l) (hs:∀ x∈l,eM x) (hll:l.length≤1000000):
  Calls Tryz.prog 162 #[.slice A l.length c] w fun e w'=>e=.returned (bs (fK l))∧Below w.heap.size w w':=by
 have hb0:Below w.heap.size w (w.alloc (.cells #[.pointer none,.slice none 0 0] 141)):=(gR _ _).alloc (gO _) _;have q0:=aC w (.cells #[.pointer none,.slice none 0 0] 141);have hz0:(w.alloc (.cells #[.pointer none,.slice none 0 0] 141)).heap.size=w.heap.size+1:=by simp
 generalize hW:w.alloc (.cells #[.pointer none,.slice none 0 0] 141)=W at *;have HB0:Hid (IsB 141 w.heap.size w.heap.size [] [] W):=.inl ⟨gO _,.slice none 0 0,q0,⟨by simp [bcs],.inl ⟨rfl,rfl⟩⟩,by simp⟩;obtain ⟨HL,HG,HS,HBW⟩:=Zh4 hl hG hs hb0;have hlm:=(aH.len hl).2;clear hb0 q0 hl hG hs;go_enter Tryz.func162,Tryz.ntmps162;go_wp2_with fail
 go_loopw [8] (fun iv wr=>∃ k:Nat,k≤l.length∧iv=.int .i64 k∧IsB 141 w.heap.size w.heap.size [] (fK (l.take k)) wr∧Below w.heap.size w wr) (fun iv _=>l.length-(intOf iv).toNat)
 case atStart=>exact ⟨0,by omega,rfl,HB0.out,HBW.out⟩
 case round=>
  obtain ⟨k,hk,rfl,hb,hbl⟩:=hrel;have HBB:=Ha hb;have HBL:=Ha hbl;clear hb hbl;by_cases hlt:k<l.length
  ·obtain ⟨bb,off,rfl,_,z0,z1⟩:=aR.at_ (HL.out.below HG.out HBL.out) hlt;obtain ⟨r,hr⟩:∃ r:Nat,l[k].1=(r:Int):=⟨l[k].1.toNat,by have:=(HS.out _ (gN hlt));unfold eM at this;omega⟩;obtain ⟨d,hd⟩:∃ d:Nat,l[k].2=(d:Int):=⟨l[k].2.toNat,by have:=(HS.out _ (gN hlt));unfold eM at this;omega⟩;have HE:=Ha (show fK (l.take (k+1))=fK (l.take k)++[UInt8.ofNat (r / 256),UInt8.ofNat (r % 256),UInt8.ofNat d] from by
    rw [List.take_succ_eq_append_getElem hlt];unfold fK;rw [List.flatMap_append];simp only [List.flatMap_cons,List.flatMap_nil,List.append_nil,tH,hr,hd,yB])
   rw [hr] at z0;rw [hd] at z1;clear hr hd;have b0:=J4 r;have b1:=J3 r;have b2:=b25 d;have hb2:Below wr.heap.size wr (wr.alloc (.cells #[.int .i64 r,.int .i64 d] 250)):=(gR _ _).alloc (gO _) _;have q2:=aC wr (.cells #[.int .i64 r,.int .i64 d] 250);generalize hW2:wr.alloc (.cells #[.int .i64 r,.int .i64 d] 250)=w2 at *;obtain ⟨r0,r1,_,_⟩:=aM q2 rfl;obtain ⟨X,hX⟩:∃ X:UInt8,X=UInt8.ofNat (r / 256):=⟨_,rfl⟩;obtain ⟨Y,hY⟩:∃ X:UInt8,X=UInt8.ofNat (r % 256):=⟨_,rfl⟩;obtain ⟨Z,hZ⟩:∃ X:UInt8,X=UInt8.ofNat d:=⟨_,rfl⟩;rw [← hX] at b0 HE;rw [← hY] at b1 HE;rw [← hZ] at b2 HE;clear hX hY hZ;have hb3:Below w2.heap.size w2 (w2.alloc (.cells #[.int .u8 (X.toNat:Int),.int .u8 (Y.toNat:Int),.int .u8 (Z.toNat:Int)] 5)):=(gR _ _).alloc (gO _) _;have q3:=aC w2 (.cells #[.int .u8 (X.toNat:Int),.int .u8 (Y.toNat:Int),.int .u8 (Z.toNat:Int)] 5);have hbl3:Below w.heap.size w (w2.alloc (.cells #[.int .u8 (X.toNat:Int),.int .u8 (Y.toNat:Int),.int .u8 (Z.toNat:Int)] 5)):=(HBL.out.trans (hb2.mono HBL.out.size)).trans (hb3.mono (gP HBL.out.size hb2.size));have HWR:=Ha (I6 (rest:=[]) tE (fK (l.take k)) X Y Z _ _ ((HBB.out.keep hb2).keep hb3) q3 (by rw [eN,yA];omega) hbl3.size);have HBL3:=Ha hbl3;clear hb2 q2 hb3 q3 hbl3;go_wp2_with fail;refine (HWR.out).mono ?_;rintro e w4 ⟨rfl,hb4,hk4⟩;have HB4:=Ha (show IsB 141 w.heap.size w.heap.size [] (fK (l.take (k+1))) w4 from .inr (by rw [HE.out];exact hb4));have HL4:=Ha (HBL3.out.trans (hk4.below HBL3.out.size));clear hb4 hk4 b0 b1 b2;go_wp2_with fail
   go_roundw
   case rel=>exact ⟨k+1,by omega,by go_num,HB4.out,HL4.out⟩
   case measure=>simp only [intOf];omega
  ·obtain rfl:k=l.length:=by omega
   have HST:=Ha (iW _ wr HBB.out);go_wp2_with fail;refine (HST.out).mono ?_;rintro e w9 ⟨rfl,hk9⟩;have HK9:=Ha (HBL.out.trans (hk9.below HBL.out.size));clear hk9;go_wp2_with fail;go_ret;exact ⟨rfl,HK9.out⟩
end
end Go.Proofs.YtpidmmfjcghmeaaGreat
