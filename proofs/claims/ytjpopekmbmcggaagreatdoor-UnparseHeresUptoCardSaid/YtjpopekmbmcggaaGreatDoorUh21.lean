/- Towards unparseHeres_card. -/
import Derived.Test.YtjpopekmbmcggaaGreatDoorUh16
import Derived.Test.YtjpopekmbmcggaaGreatDoorUh14
set_option maxRecDepth 100000
set_option maxHeartbeats 16000000
namespace Go.Proofs.YtjpopekmbmcggaaGreatDoor
open Go.RowKit
def EG (n:Nat):Prop:=∀ (l:Pts) (G:Nat→Prop) (A:Option Addr) (c:Nat) (w:World),l.deep<n→l.wt≤1073741824→aY G w A 0 l→
 Calls Tryz.prog 123 #[.slice A l.len c] w fun e w'=>e=.returned (.tuple #[bs (l.utx.getD []),.bool l.utx.isSome])∧w=w'
theorem AC:∀ n:Nat,EG n:=by
 intro n
 induction n with
 | zero=>intro l _ _ _ _ h;omega
 | succ n ih=>
  intro l G A c w hd hwt hp;have hlw:=Pts.len_wt l;have IH:=Ha ih;have HP:=Ha hp;clear ih hp;go_enter Tryz.func123,Tryz.ntmps123;go_wp2
  go_loopw [4,5] (fun s i wr=>∃ (k:Nat) (pre:List UInt8),k≤l.len∧s=bs pre∧i=.int .i64 k∧l.utx=(l.drop k).utx.map (pre ++ ·)∧pre.length+(l.drop k).wt≤l.wt∧w=wr) (fun _ i _=>l.len-(intOf i).toNat)
  case atStart=>exact ⟨0,[],by omega,rfl,rfl,by rw [Pts.drop_zero];cases l.utx <;> simp,by rw [Pts.drop_zero];simp,rfl⟩
  case round=>
   obtain ⟨k,pre,hk,rfl,rfl,hf,hl0,rfl⟩:=hrel;have HF:=Ha hf;have HL:=Ha hl0;clear hf;unfold bs;by_cases hlt:k<l.len
   ·obtain ⟨pk,t,o,kids,cm,r,hdr⟩:=Pts.drop_cons k l hlt;have hp':=HP.out.at_ k;rw [hdr,Nat.zero_add] at hp';obtain ⟨bb,off,Ak,ck,rfl,hg,c0,c1,c2,c3,c4,hl,h1,h2⟩:=hp';rw [hdr,Pts.wt] at hl0;have hkd:=Pts.deep_drop k l hdr;have HD:=Ha hdr;have HK1:=Ha h1;clear hdr hl h2 h1 c4 c2;obtain ⟨tl,rfl⟩:∃ tl:List UInt8,t=⟨tl.toArray⟩:=⟨t.toList,by rw [cM]⟩;have htl:=aS tl;have hT:(⟨tl.toArray⟩:ByteArray).toList=tl:=by rw [Lib.toList_data]
    have HT:=Ha hT;clear hT;cases m1:(pk==1)
    ·cases m2:(pk==2)
     ·cases m3:(pk==3)
      ·have h123:¬(pk=1∨pk=2∨pk=3):=by
        have a1:=beq_eq_false_iff_ne.1 m1;have a2:=beq_eq_false_iff_ne.1 m2;have a3:=beq_eq_false_iff_ne.1 m3;omega
       have H123:=Ha h123;clear h123;cases m4:(pk==4)
       ·have HN4:=Ha (show ¬pk=4 from beq_eq_false_iff_ne.1 m4);go_wp2_with fail
        go_ret2
        have hno:l.utx=none:=by rw [HF.out,HD.out,Pts.utx,if_neg H123.out,if_neg HN4.out];rfl
        exact ⟨by rw [hno];rfl,rfl⟩
       ·have H4:=Ha (show pk=4 from by simpa using m4);have hadd:∀ x,kids.utx=some x→(Op.stringOp .add ⟨pre.toArray⟩ ⟨x.toArray⟩).run Tryz.prog w=.ok (.string ⟨(pre++x).toArray⟩) w:=fun x hx=>oS pre x (by have:=Pts.utx_len kids x hx;omega) w;have HADD:=Ha hadd;clear hadd;go_wp2_with fail;refine (IH.out kids G Ak ck w (by omega) (by omega) HK1.out).mono ?_;rintro e w1 ⟨rfl,rfl⟩;cases hku:kids.utx with
        | none=>
         have HU:=Ha hku;simp only [Option.isSome_none,Option.getD_none];unfold bs;go_wp2_with fail
         go_ret2
         have hno:l.utx=none:=by rw [HF.out,HD.out,Pts.utx,if_neg H123.out,if_pos H4.out,HU.out];rfl
         exact ⟨by rw [hno];rfl,rfl⟩
        | some sk=>
         have hadd:=HADD.out sk hku;have HU:=Ha hku;simp only [Option.isSome_some,Option.getD_some];unfold bs;go_wp2_with fail
         go_roundw
         case rel=>
          refine ⟨k+1,pre++sk,by omega,rfl,by go_num, ?_, ?_,trivial⟩
          ·have h:=HF.out;rw [HD.out,Pts.utx,if_neg H123.out,if_pos H4.out,HU.out] at h;rw [Pts.drop_succ k l HD.out,h];cases r.utx <;> simp
          ·rw [Pts.drop_succ k l HD.out,gI];have h5:=Pts.utx_len kids sk HU.out;have:=HL.out;rw [HD.out,Pts.wt] at this;omega
         case measure=>simp only [intOf];omega
      ·have HM:=Ha (show pk=1∨pk=2∨pk=3 from .inr (.inr (by simpa using m3)));have hadd:=oS pre tl (by omega) w;go_wp2_with fail
       go_roundw
       case rel=>
        refine ⟨k+1,pre++tl,by omega,rfl,by go_num, ?_, ?_,trivial⟩
        ·have h:=HF.out;rw [HD.out,Pts.utx,if_pos HM.out,HT.out] at h;rw [Pts.drop_succ k l HD.out,h];cases r.utx <;> simp
        ·rw [Pts.drop_succ k l HD.out,gI];have:=HL.out;rw [HD.out,Pts.wt,aS] at this;omega
       case measure=>simp only [intOf];omega
     ·have HM:=Ha (show pk=1∨pk=2∨pk=3 from .inr (.inl (by simpa using m2)));have hadd:=oS pre tl (by omega) w;go_wp2_with fail
      go_roundw
      case rel=>
       refine ⟨k+1,pre++tl,by omega,rfl,by go_num, ?_, ?_,trivial⟩
       ·have h:=HF.out;rw [HD.out,Pts.utx,if_pos HM.out,HT.out] at h;rw [Pts.drop_succ k l HD.out,h];cases r.utx <;> simp
       ·rw [Pts.drop_succ k l HD.out,gI];have:=HL.out;rw [HD.out,Pts.wt,aS] at this;omega
      case measure=>simp only [intOf];omega
    ·have HM:=Ha (show pk=1∨pk=2∨pk=3 from .inl (by simpa using m1));have hadd:=oS pre tl (by omega) w;go_wp2_with fail
     go_roundw
     case rel=>
      refine ⟨k+1,pre++tl,by omega,rfl,by go_num, ?_, ?_,trivial⟩
      ·have h:=HF.out;rw [HD.out,Pts.utx,if_pos HM.out,HT.out] at h;rw [Pts.drop_succ k l HD.out,h];cases r.utx <;> simp
      ·rw [Pts.drop_succ k l HD.out,gI];have:=HL.out;rw [HD.out,Pts.wt,aS] at this;omega
     case measure=>simp only [intOf];omega
   ·have HE:=Ha (Pts.drop_end k l (by omega));go_wp2_with fail
    go_ret2
    have hs:l.utx=some pre:=by rw [HF.out,HE.out];simp [Pts.utx]
    exact ⟨by rw [hs];rfl,rfl⟩
theorem uM (l:Pts) (A:Option Addr) (c:Nat) (G:Nat→Prop) (w:World) (hwt:l.wt≤1073741824) (hG:∀ k,G k→k<w.heap.size) (hp:aY G w A 0 l):
  Calls Tryz.prog 49 #[.agg #[.slice A l.len c]] w fun e w'=>e=.returned (.tuple #[bs (l.utx.getD []),.bool l.utx.isSome])∧Below w.heap.size w w':=by
 have hb:Below w.heap.size w (w.alloc (.cells #[.slice A l.len c] 31)):=(Below.refl _ _).alloc (Nat.le_refl _) _;have hC:=AC (l.deep+1) l G A c (w.alloc (.cells #[.slice A l.len c] 31)) (by omega) hwt (hp.old hG hb);have HC:=Ha hC;have HB:=Ha hb;clear hC hb hp hG;go_enter Tryz.func49,Tryz.ntmps49;go_wp2_with fail;refine HC.out.mono ?_;rintro e w1 ⟨rfl,rfl⟩;unfold bs;go_wp2_with fail
 go_ret2
 exact ⟨rfl,HB.out⟩
theorem zR (l:Pts) (A:Option Addr) (c:Nat) (G:Nat→Prop) (w:World) (hwt:l.wt≤1073741824) (hG:∀ k,G k→k<w.heap.size) (hp:aY G w A 0 l):
  Calls Tryz.prog 148 #[.agg #[.slice A l.len c]] w fun e w'=>e=.returned (.tuple #[bs (l.plt.getD []),.bool l.plt.isSome])∧Below w.heap.size w w':=by
 have hb:Below w.heap.size w (w.alloc (.cells #[.slice A l.len c] 31)):=(Below.refl _ _).alloc (Nat.le_refl _) _;have HB:=Ha hb;have hlw:=Pts.len_wt l;have HP:=Ha (hp.old hG hb);clear hb hp hG;cases l with
 | nil=>
  go_enter Tryz.func148,Tryz.ntmps148;rw [show Pts.len .nil=0 from rfl];go_wp2_with fail
  go_ret2
  exact ⟨rfl,HB.out⟩
 | cons k t o kids cm r=>
  cases r with
  | cons k2 t2 o2 kids2 cm2 r2=>
   have hlen:((((Pts.cons k t o kids cm (.cons k2 t2 o2 kids2 cm2 r2)).len:Nat):Int) != 1)=true:=by simp [Pts.len];omega
   generalize (Pts.cons k t o kids cm (.cons k2 t2 o2 kids2 cm2 r2)).len=n at *;go_enter Tryz.func148,Tryz.ntmps148;go_wp2_with fail
   go_ret2
   exact ⟨rfl,HB.out⟩
  | nil=>
   obtain ⟨bb,off,Ak,ck,rfl,hg,c0,c1,c2,c3,c4,hl,h1,h2⟩:=HP.out;rw [show (Pts.cons k t o kids cm .nil).len=1 from rfl] at *;simp only [Nat.zero_mul,Nat.add_zero] at c0 c1;obtain ⟨tl,rfl⟩:∃ tl:List UInt8,t=⟨tl.toArray⟩:=⟨t.toList,by rw [cM]⟩;cases m1:(k==1)
   ·have H1:=Ha (show ¬k=1 from beq_eq_false_iff_ne.1 m1);go_enter Tryz.func148,Tryz.ntmps148;go_wp2_with fail
    go_ret2
    exact ⟨by rw [Pts.plt,if_neg H1.out];rfl,HB.out⟩
   ·have H1:=Ha (show k=1 from by simpa using m1);go_enter Tryz.func148,Tryz.ntmps148;go_wp2_with fail
    go_ret2
    exact ⟨by rw [Pts.plt,if_pos H1.out,Lib.toList_data];rfl,HB.out⟩
end Go.Proofs.YtjpopekmbmcggaaGreatDoor
