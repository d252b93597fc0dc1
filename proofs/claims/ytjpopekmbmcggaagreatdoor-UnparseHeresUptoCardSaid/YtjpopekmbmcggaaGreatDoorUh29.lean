/- Towards unparseHeres_card. -/
import Derived.Test.YtjpopekmbmcggaaGreatDoorUh23
set_option maxRecDepth 100000
set_option maxHeartbeats 16000000
namespace Go.Proofs.YtjpopekmbmcggaaGreatDoor
open Go.RowKit
attribute [local go_sem ↓] cN
namespace Pts
def msk:Pts→Bool→Nat→List Bool
 | nil,_,_=>[]
 | cons _ _ _ kids cm rest,on,i=>(on&&decide (i<1000)&&decide (0<cm.n))::(kids.msk (on&&decide (i<1000)) 0++rest.msk on (i+1))
theorem kB:∀ (l:Pts) (on:Bool) (i:Nat),(l.msk on i).length=l.allc.length
 | nil,_,_=>rfl
 | cons _ _ _ kids _ rest,on,i=>by rw [msk,allc];simp [kB kids,kB rest]
end Pts
def pickM {β:Type}:List Bool→List β→List β
 | b::ks,x::xs=>if b then x::pickM ks xs else pickM ks xs
 | _,_=>[]
theorem i8 {β:Type}:∀ (ks:List Bool) (xs:List β) (ks':List Bool) (xs':List β),ks.length=xs.length→pickM (ks++ks') (xs++xs')=pickM ks xs++pickM ks' xs'
 | [],[],_,_,_=>rfl
 | k::ks,x::xs,ks',xs',h=>by
  have ih:=i8 ks xs ks' xs' (by simpa using h);simp only [List.cons_append,pickM]
  split <;> simp [ih]
 | [],_::_,_,_,h=>by simp at h
 | _::_,[],_,_,h=>by simp at h
theorem fB.pickM {α β:Type} {R:α→β→Prop}:∀ (ks:List Bool) {l:List α} {m:List β},fB R l m→fB R (pickM ks l) (pickM ks m)
 | [],_,_,_=>trivial
 | k::ks,[],[],_=>trivial
 | k::ks,_::_,_::_,h=>by
  simp only [YtjpopekmbmcggaaGreatDoor.pickM]
  split
  ·exact ⟨h.1,fB.pickM ks h.2⟩
  ·exact fB.pickM ks h.2
 | _::_,[],_::_,h=>h.elim
 | _::_,_::_,[],h=>h.elim
theorem lC {β:Type} (C:β→Nat):∀ (ks:List Bool) (xs:List β),tot C (pickM ks xs)≤tot C xs
 | [],xs=>by simp [pickM,tot]
 | _::_,[]=>by simp [pickM,tot]
 | k::ks,x::xs=>by
  have:=lC C ks xs;simp only [pickM]
  split <;> simp only [tot] <;> omega
namespace Pts
def cm32 (l:Pts) (i:Nat):List Cm:=pickM (l.msk true i) l.allc
theorem pL:∀ (l:Pts) (i:Nat),pickM (l.msk false i) l.allc=[]
 | nil,_=>rfl
 | cons _ _ _ kids cm rest,i=>by
  rw [msk,allc];simp only [Bool.false_and,pickM];rw [if_neg (by simp),i8 _ _ _ _ (kB _ _ _),pL kids,pL rest];rfl
theorem cm32_lt (k:Int) (t o:ByteArray) (kids:Pts) (cm:Cm) (r:Pts) (i:Nat) (h:i<1000):(cons k t o kids cm r).cm32 i=(if 0<cm.n then [cm] else [])++kids.cm32 0++r.cm32 (i+1):=by
 unfold cm32;rw [msk,allc];simp only [decide_eq_true h,Bool.true_and,pickM];rw [i8 _ _ _ _ (kB _ _ _)];by_cases h2:0<cm.n <;> simp [h2]
theorem cm32_ge:∀ (l:Pts) (i:Nat),1000≤i→l.cm32 i=[]
 | nil,_,_=>rfl
 | cons _ _ _ kids cm rest,i,h=>by
  have ih:=cm32_ge rest (i+1) (by omega);unfold cm32 at *;rw [msk,allc];simp only [decide_eq_false (show ¬i<1000 by omega),Bool.true_and,Bool.false_and,pickM];rw [if_neg (by simp),i8 _ _ _ _ (kB _ _ _),pL kids,ih];rfl
theorem oK {β:Type}:∀ (ks:List Bool) (xs:List β),(pickM ks xs).length≤xs.length
 | [],_=>by simp [pickM]
 | _::_,[]=>by simp [pickM]
 | k::ks,x::xs=>by
  have:=oK ks xs;simp only [pickM]
  split <;> simp only [gG] <;> omega
theorem jH:∀ l:Pts,l.allc.length=l.count
 | nil=>rfl
 | cons _ _ _ kids _ rest=>by rw [allc,count];simp [jH kids,jH rest];omega
theorem cm32_count (l:Pts) (i:Nat):(l.cm32 i).length≤l.count:=by
 rw [← jH];exact oK _ _
end Pts
theorem xU:∀ (n:Nat) (l:Pts) (G:Nat→Prop) (A:Option Addr) (c:Nat) (w:World),l.deep<n→l.wt≤1073741824→(∀ k,G k→k<w.heap.size)→aY G w A 0 l→
  Calls Tryz.prog 36 #[.slice A l.len c] w fun e w'=>∃ v,e=.returned v∧dH w.heap.size w' v (l.cm32 0)∧Below w.heap.size w w':=by
 intro n
 induction n with
 | zero=>intro l _ _ _ _ h;omega
 | succ n ih=>
  intro l G A c w hd hwt hG hp;have hlw:=Pts.len_wt l;have hcw:=Pts.count_wt l;have hcc:=Pts.cm32_count l 0;have IH:=Ha ih;clear ih;have HG:=Ha hG;have HP:=Ha hp;clear hG hp;go_enter Tryz.func36,Tryz.ntmps36;go_wp2
  go_loopw [3,4] (fun s i wr=>∃ (k:Nat) (done:List Cm),k≤l.len∧i=.int .i64 k∧dH w.heap.size wr s done∧done++(l.drop k).cm32 k=l.cm32 0∧Below w.heap.size w wr) (fun _ i _=>l.len-(intOf i).toNat)
  case atStart=>exact ⟨0,[],by omega,rfl,dH.nothing,by rw [Pts.drop_zero];rfl,Below.refl _ _⟩
  case round=>
   obtain ⟨k,done,hk,rfl,hr,hf,hb⟩:=hrel;have hdl:done.length≤1073741824:=by
    have:=congrArg List.length hf;rw [gI] at this;omega
   obtain ⟨HF,HB,HR⟩:=hs3 hf hb hr;clear hf hb hr;by_cases hlt:k<l.len∧k<1000
   ·obtain ⟨pk,t,o,kids,cm,r,hdr⟩:=Pts.drop_cons k l hlt.1;have hp':=(HP.out.old HG.out HB.out).at_ k;rw [hdr,Nat.zero_add] at hp';obtain ⟨b,off,Ak,ck,rfl,hg,c0,c1,c2,c3,c4,hl,h1,h2⟩:=hp';have hwd:=Pts.wt_drop k l;rw [hdr,Pts.wt] at hwd;have hkw:=Pts.count_wt kids;have hkc:=Pts.cm32_count kids 0;have hkd:=Pts.deep_drop k l hdr;have hG':∀ g,G g→g<wr.heap.size:=fun g hg=>gK (HG.out g hg) HB.out.size;have HD:=Ha hdr;clear hdr h2;obtain ⟨HK,HGW,HGB⟩:=hs3 h1 hG' (HG.out b hg);clear h1 hG' hg;unfold Cm.val at c4;have hlt1:=hlt.1;have hlt2:=hlt.2;have HLT:=Ha hlt;clear hlt;by_cases h6:0<cm.n
    ·have H6:=Ha h6;have hx:=HR.out.below ((Below.refl _ _).alloc (Nat.le_refl _) (.cells #[.slice cm.a cm.n cm.c] 26));have hnew:=eY (heap_alloc_new wr (.cells #[.slice cm.a cm.n cm.c] 26));obtain ⟨v1,w1,hrun1,hown1,hgr1,_⟩:=hx.append [cm] ⟨wr.heap.size,0,none⟩ 1 (fun j u hj=>by
      match j,hj with
      | 0,hj=>simp only [List.map_cons,List.map_nil,List.getElem?_cons_zero,Option.some.injEq] at hj;subst hj;exact hnew
      | j+1,hj=>simp at hj) (by simp;omega) (by simp;have:=HB.out.size;omega)
     rw [show [cm].length=1 from rfl] at hrun1;have hb1:Below w.heap.size w w1:=(HB.out.alloc HB.out.size _).grown hgr1 (by simp;have:=HB.out.size;omega) (fun g hg=>(hx.lt hg).1);have q3:w1.cell? ⟨b,off+k*5+3,none⟩=some (.slice Ak kids.len ck):=by
      have e1:=HB.out.cell (p:=⟨b,off+k*5+3,none⟩) HGB.out;have e2:=hb1.cell (p:=⟨b,off+k*5+3,none⟩) HGB.out;rw [e2,← e1];exact c3
     obtain ⟨HK1,HG1,HO1,HB1⟩:=hs4 (show aY G w1 Ak 0 kids from HK.out.keep fun p hp=>(hb1.cell (HG.out _ hp)).trans (HB.out.cell (HG.out _ hp)).symm) (show ∀ g,G g→g<w1.heap.size from fun g hg=>gK (HG.out g hg) hb1.size) hown1 hb1;clear hx hnew hown1 hgr1 hb1;go_wp2_with fail;refine (IH.out kids G Ak ck w1 (by omega) (by omega) HG1.out HK1.out).mono ?_;rintro e w2 ⟨v2,rfl,hr2,hb2⟩;have ho2:=HO1.out.below hb2;obtain ⟨v3,w3,hrun3,hown3,hgr3⟩:=ho2.joins hr2 (by simp;omega) (Nat.le_trans HB1.out.size hb2.size);have HB3:=Ha (((HB1.out.trans (hb2.mono HB1.out.size))).grown hgr3 (Nat.le_trans HB1.out.size hb2.size) (fun g hg=>(ho2.lt hg).1));have HO3:=Ha hown3;clear hr2 hb2 ho2 hown3 hgr3 hrun1 q3 c0 c1 c2 c3 c4;go_wp2
     go_roundw
     case rel=>
      refine ⟨k+1,done++[cm]++kids.cm32 0,by omega,by go_num,HO3.out, ?_,HB3.out⟩;rw [Pts.drop_succ k l HD.out,← HF.out,HD.out,Pts.cm32_lt _ _ _ _ _ _ _ HLT.out.2,if_pos H6.out];simp
     case measure=>simp only [intOf];omega
    ·have H6:=Ha h6;obtain hz:cm.n=0:=by omega
     have hz2:decide (0<cm.n)=false:=decide_eq_false h6;clear h6 hz;go_wp2_with fail;refine (IH.out kids G Ak ck wr (by omega) (by omega) HGW.out HK.out).mono ?_;rintro e w2 ⟨v2,rfl,hr2,hb2⟩;have ho2:=HR.out.below hb2;obtain ⟨v3,w3,hrun3,hown3,hgr3⟩:=ho2.joins hr2 (by omega) (Nat.le_trans HB.out.size hb2.size);have HB3:=Ha (((HB.out.trans (hb2.mono HB.out.size))).grown hgr3 (Nat.le_trans HB.out.size hb2.size) (fun g hg=>(ho2.lt hg).1));have HO3:=Ha hown3;clear hr2 hb2 ho2 hown3 hgr3 c0 c1 c2 c3 c4;go_wp2
     go_roundw
     case rel=>
      refine ⟨k+1,done++kids.cm32 0,by omega,by go_num,HO3.out, ?_,HB3.out⟩;rw [Pts.drop_succ k l HD.out,← HF.out,HD.out,Pts.cm32_lt _ _ _ _ _ _ _ HLT.out.2,if_neg H6.out];simp
     case measure=>simp only [intOf];omega
   ·have HE:=Ha (show (l.drop k).cm32 k=[] by
     by_cases hk1:k<l.len
     ·exact Pts.cm32_ge _ _ (by omega)
     ·rw [Pts.drop_end k l (by omega)];rfl)
    by_cases hk1:k<l.len
    ·have hk2:¬k<1000:=by omega
     clear hlt;go_wp2_with fail;go_ret;refine ⟨_,rfl, ?_,HB.out⟩;have h:=HF.out;rw [HE.out,List.append_nil] at h;rw [← h];exact HR.out
    ·clear hlt;go_wp2_with fail;go_ret;refine ⟨_,rfl, ?_,HB.out⟩;have h:=HF.out;rw [HE.out,List.append_nil] at h;rw [← h];exact HR.out
theorem CT (l:Pts) (A:Option Addr) (c:Nat) (G:Nat→Prop) (w:World) (hwt:l.wt≤1073741824) (hG:∀ k,G k→k<w.heap.size) (hp:aY G w A 0 l):
  Calls Tryz.prog 36 #[.slice A l.len c] w fun e w'=>∃ v,e=.returned v∧dH w.heap.size w' v (l.cm32 0)∧Below w.heap.size w w':=xU (l.deep+1) l G A c w (by omega) hwt hG hp
end Go.Proofs.YtjpopekmbmcggaaGreatDoor
