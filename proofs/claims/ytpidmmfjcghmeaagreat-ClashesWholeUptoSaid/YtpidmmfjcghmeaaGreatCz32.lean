/- Towards clashesWhole_upto. -/
import Derived.Test.YtpidmmfjcghmeaaGreatCz29
set_option maxRecDepth 100000
set_option maxHeartbeats 16000000
set_option linter.all false
namespace Go.Proofs.YtpidmmfjcghmeaaGreat
open Go.RowKit
def bZ:List Int→List Int→Int
 | [],[]=>0
 | [],_::_=>-1
 | _::_,[]=>1
 | x::a,y::b=>if x<y then -1 else if y<x then 1 else bZ a b
def pC (x y:Int):Int:=if x<y then -1 else if y<x then 1 else 0
theorem BO (w:World) (x:Int):
  Calls Tryz.prog 177 #[.int .i64 x] w fun e w'=>e=.returned (.bool false)∧w'=w:=by
 go_enter Tryz.func177,Tryz.ntmps177;go_wp2_with fail;go_ret;exact ⟨rfl,rfl⟩
theorem GM (w:World) (x y:Int):
  Calls Tryz.prog 109 #[.int .i64 x,.int .i64 y] w fun e w'=>e=.returned (.int .i64 (pC x y))∧w'=w:=by
 have H:=Ha (BO w);go_enter Tryz.func109,Tryz.ntmps109;go_wp2_with fail;refine (H.out x).mono ?_;rintro e w1 ⟨rfl,rfl⟩;go_wp2_with fail;refine (H.out y).mono ?_;rintro e w2 ⟨rfl,rfl⟩;by_cases h1:x<y
 ·have hc:pC x y=-1:=if_pos h1;have HC:=Ha hc;clear hc;go_wp2_with fail;go_ret;exact ⟨by rw [HC.out];rfl,rfl⟩
 by_cases h2:y<x
 ·have HC:=Ha (show pC x y=1 from by unfold pC;rw [if_neg h1,if_pos h2]);go_wp2_with fail;go_ret;exact ⟨by rw [HC.out];rfl,rfl⟩
 ·have HC:=Ha (show pC x y=0 from by unfold pC;rw [if_neg h1,if_neg h2]);have h3:¬y<x:=h2;go_wp2_with fail;go_ret;exact ⟨by rw [HC.out];rfl,rfl⟩
theorem F7 (G G2:Nat→Prop) (w:World) (A A2:Option Addr) (c c2:Nat) (a b:List Int) (ha:aF G w (.slice A a.length c) a) (hb:aF G2 w (.slice A2 b.length c2) b):
  Calls Tryz.prog 50 #[.slice A a.length c,.slice A2 b.length c2] w fun e w'=>e=.returned (.int .i64 (bZ a b))∧w'=w:=by
 obtain ⟨HC,HA,HB⟩:=hs3 (GM w) ha hb;have hla:=(aH.len ha).2;have hlb:=(aH.len hb).2;clear ha hb;go_enter Tryz.func50,Tryz.ntmps50;go_wp2_with fail
 go_loopw [11] (fun iv wr=>∃ i:Nat,i≤a.length∧i≤b.length∧iv=.int .i64 i∧bZ a b=bZ (a.drop i) (b.drop i)∧wr=w) (fun iv _=>a.length-(intOf iv).toNat)
 case atStart=>exact ⟨0,gX _,gX _,rfl,rfl,rfl⟩
 case round=>
  obtain ⟨i,hia,hib,rfl,hl,rfl⟩:=hrel;have HL:=Ha hl;clear hl;by_cases h1:i<a.length
  ·obtain ⟨ba,oa,rfl,z0⟩:=HA.out.get h1;obtain ⟨x,hx⟩:∃ x,x=a[i]:=⟨_,rfl⟩;rw [← hx] at z0;have HX:=Ha hx;clear hx;by_cases h2:i<b.length
   ·obtain ⟨bb,ob,rfl,z1⟩:=HB.out.get h2;obtain ⟨y,hy⟩:∃ y,y=b[i]:=⟨_,rfl⟩;rw [← hy] at z1;have HL2:=Ha (show bZ a b=if x<y then -1 else if y<x then 1 else bZ (a.drop (i+1)) (b.drop (i+1)) from by
     rw [HL.out,List.drop_eq_getElem_cons h1,List.drop_eq_getElem_cons h2,← HX.out,← hy,bZ])
    clear hy HL;obtain ⟨cc,hcc⟩:∃ cc,cc=pC x y:=⟨_,rfl⟩;have HC1:=Ha (HC.out x y);rw [← hcc] at HC1;by_cases h3:x=y
    ·have h0:cc=0:=by rw [hcc,h3];simp [pC]
     have HR:=Ha (show bZ a b=bZ (a.drop (i+1)) (b.drop (i+1)) from by rw [HL2.out,h3];simp);subst h0;clear hcc h3;go_wp2_with fail;refine (HC1.out).mono ?_;rintro e w1 ⟨rfl,rfl⟩;go_wp2_with fail
     go_roundw
     case rel=>exact ⟨i+1,h1,h2,by go_num,HR.out,trivial⟩
     case measure=>simp only [intOf];omega
    ·have HR:=Ha (show bZ a b=cc∧cc≠0 from by
      rw [HL2.out,hcc];unfold pC;by_cases h4:x<y
      ·rw [if_pos h4,if_pos h4];simp
      ·rw [if_neg h4,if_neg h4,if_pos (show y<x by omega),if_pos (show y<x by omega)];simp)
     have h0:¬cc=0:=HR.out.2;clear hcc h3;go_wp2_with fail;refine (HC1.out).mono ?_;rintro e w1 ⟨rfl,rfl⟩;go_wp2_with fail;go_ret;exact ⟨by rw [HR.out.1];rfl,rfl⟩
   ·have HR:=Ha (show bZ a b=1 from by
     rw [HL.out,show b.drop i=[] from List.drop_eq_nil_of_le (by omega),List.drop_eq_getElem_cons h1,bZ])
    go_wp2_with fail;go_ret;exact ⟨by rw [HR.out];rfl,rfl⟩
  ·by_cases h2:a.length<b.length
   ·have HR:=Ha (show bZ a b=-1 from by
     rw [HL.out,show a.drop i=[] from List.drop_eq_nil_of_le (by omega),List.drop_eq_getElem_cons (show i<b.length by omega),bZ])
    have h3:(a.length:Int)<(b.length:Int):=by omega
    go_wp2_with fail;go_ret;exact ⟨by rw [HR.out];rfl,rfl⟩
   ·have HR:=Ha (show bZ a b=0 from by
     rw [HL.out,show a.drop i=[] from List.drop_eq_nil_of_le (by omega),show b.drop i=[] from List.drop_eq_nil_of_le (by omega),bZ])
    have h3:¬(a.length:Int)<(b.length:Int):=by omega
    go_wp2_with fail;go_ret;exact ⟨by rw [HR.out];rfl,rfl⟩
end Go.Proofs.YtpidmmfjcghmeaaGreat
