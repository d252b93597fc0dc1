/- Towards clashesWhole_upto. -/
import Derived.Test.YtpidmmfjcghmeaaGreatCs13
set_option maxRecDepth 100000
set_option maxHeartbeats 16000000
set_option linter.all false
namespace Go.Proofs.YtpidmmfjcghmeaaGreat
open Go.RowKit
def dX {β:Type} (f:β→Nat) (l:List β) (k:Nat):Nat:=((l.take k).map f).sum
theorem fZ {β:Type} (f:β→Nat) (l:List β):dX f l 0=0:=by simp [dX]
theorem fY {β:Type} (f:β→Nat) (l:List β) (k:Nat) (h:k<l.length):dX f l (k+1)=dX f l k+f l[k]:=by
 unfold dX;rw [List.take_succ_eq_append_getElem h,List.map_append,List.sum_append];simp
theorem kZ {β:Type} (f:β→Nat) (l:List β) (M:Nat) (hM:∀ x∈l,f x≤M):∀ (k:Nat),k≤l.length→dX f l k≤k*M
 | 0,_=>by rw [fZ];omega
 | k+1,h=>by
  have h1:=kZ f l M hM k (by omega);have h2:=hM l[k] (gN ..);rw [fY f l k (by omega),Nat.add_mul];omega
theorem mQ {β:Type} (f:β→Nat) (l:List β) {x:β} (h:x∈l):f x≤dX f l l.length:=by
 unfold dX;rw [List.take_length]
 induction l with
 | nil=>cases h
 | cons y l ih=>
  rw [List.map_cons,List.sum_cons];rcases List.mem_cons.1 h with rfl | h
  ·omega
  ·have:=ih h;omega
structure Gm.Few (g:Gm):Prop where
 n:g.top+g.rules.length≤40
 t:∀ s∈g.terms,s.length≤819
 o:∀ s∈g.nons,s.length≤819
 r:∀ r∈g.rules,r.2.length≤368
theorem Gm.Few.fit {g:Gm} (h:g.Few):g.Fit:=by
 have:=h.n;unfold Gm.top at this;exact ⟨by omega,by omega,by omega,fun s hs=>by have:=h.t s hs;omega,fun s hs=>by have:=h.o s hs;omega,fun s hs=>by have:=h.r s hs;omega⟩
def jF (g:Gm):Nat:=g.top+g.rules.length+dX (fun s:List UInt8=>s.length / 20) g.terms (min g.terms.length 200)+dX (fun s:List UInt8=>s.length / 20) g.nons (min g.nons.length 200)+dX (fun r:Int×List Int=>r.2.length / 9) g.rules (min g.rules.length 400)
theorem G3 {g:Gm} (h:jF g≤40):g.Few:=by
 unfold jF at h;have ht:g.terms.length≤g.top:=by unfold Gm.top;omega
 have hn:g.nons.length≤g.top:=by unfold Gm.top;omega
 rw [Nat.min_eq_left (by omega),Nat.min_eq_left (by omega),Nat.min_eq_left (by omega)] at h;refine ⟨by omega,fun s hs=>?_,fun s hs=>?_,fun r hr=>?_⟩
 ·have:=mQ (fun s:List UInt8=>s.length / 20) _ hs;omega
 ·have:=mQ (fun s:List UInt8=>s.length / 20) _ hs;omega
 ·have:=mQ (fun r:Int×List Int=>r.2.length / 9) _ hr;omega
theorem IJ (G:Nat→Prop) (w:World) (vs:List Value) (g:Gm) (hG:∀ k,G k→k<w.heap.size) (hg:GmV G w vs g) (hf:g.Fit):
  Calls Tryz.prog 6 #[ag vs] w fun e w'=>e=.returned (.int .i64 (jF g))∧Below w.heap.size w w':=by
 obtain ⟨A0,c0,A1,c1,A2,c2,W,ev,hW,⟨x0,x1,x2,x3⟩,HB,HX⟩:=GBox.go hG hg;rw [ev];have HG:=Ha hG;clear hG hg ev;have HF:=Ha hf;have hl1:=hf.lt;have hl2:=hf.ln;have hl3:=hf.lr;obtain ⟨T,hT⟩:∃ T,T=(fun s:List UInt8=>s.length / 20):=⟨_,rfl⟩;obtain ⟨R,hR⟩:∃ R,R=(fun r:Int×List Int=>r.2.length / 9):=⟨_,rfl⟩;have B1:∀ k,k≤g.terms.length→k≤200→dX T g.terms k≤200*140737488355328:=fun k h1 h2=>gP (kZ T _ 140737488355328 (fun x hx=>by have:=hf.st x hx;rw [hT];simp only;omega) k h1) (by omega);have B2:∀ k,k≤g.nons.length→k≤200→dX T g.nons k≤200*140737488355328:=fun k h1 h2=>gP (kZ T _ 140737488355328 (fun x hx=>by have:=hf.sn x hx;rw [hT];simp only;omega) k h1) (by omega);have B3:∀ k,k≤g.rules.length→k≤400→dX R g.rules k≤400*140737488355328:=fun k h1 h2=>gP (kZ R _ 140737488355328 (fun x hx=>by have:=hf.sr x hx;rw [hR];simp only;omega) k h1) (by omega);have HM:=Ha (show jF g=g.top+g.rules.length+dX T g.terms (min g.terms.length 200)+dX T g.nons (min g.nons.length 200)+dX R g.rules (min g.rules.length 400) by rw [hT,hR];rfl);have HB1:=Ha B1;have HB2:=Ha B2;have HB3:=Ha B3;have HT:=Ha hT;have HR:=Ha hR;have htop:(g.top:Int)=(g.terms.length:Int)+(g.nons.length:Int):=by unfold Gm.top;omega
 have HTP:=Ha htop;clear hf hT hR B1 B2 B3 htop;go_enter Tryz.func6,Tryz.ntmps6;go_wp2
 go_loopw [3,4] (fun o v wr=>∃ (k1:Nat),v=.int .i64 k1∧k1≤g.terms.length∧k1≤200∧o=.int .i64 ((g.terms.length:Int)+(g.nons.length:Int)+(g.rules.length:Int)+(dX T g.terms k1:Int))∧W=wr) (fun _ v _=>201-(intOf v).toNat)
 case atStart=>exact ⟨0,rfl,by omega,by omega,by rw [fZ];go_num,rfl⟩
 case round=>
  obtain ⟨k1,rfl,hk0,hm0,rfl,rfl⟩:=hrel;have HW0:=Ha (HB1.out k1 hk0 hm0);by_cases hlt:k1<g.terms.length∧k1<200
  ·obtain ⟨hlt,hlt2⟩:=hlt;obtain ⟨bb,off,rfl,z⟩:=HX.out.term hlt;have HS:=Ha (fY T g.terms k1 hlt);have hb:=HF.out.st _ (gN hlt);have hw0:=HW0.out;unfold bs at z;obtain ⟨X,hX⟩:∃ X:ByteArray,X=⟨g.terms[k1].toArray⟩:=⟨_,rfl⟩;rw [← hX] at z;have hxs:X.size=g.terms[k1].length:=by rw [hX];rfl
   rw [← hxs] at hb;have HTk:=Ha (show T g.terms[k1]=X.size / 20 by rw [HT.out,hxs]);clear hX hxs;go_wp2_with fail
   go_roundw
   case rel=>exact ⟨k1+1,by go_num,by omega,by omega,by rw [HS.out,HTk.out];go_num,trivial⟩
   case measure=>simp only [intOf];omega
  ·have HK0:=Ha (show k1=min g.terms.length 200 by omega);rcases (show (k1<g.terms.length∧¬k1<200)∨¬k1<g.terms.length by omega) with ⟨hlt,hlt2⟩ | hlt
   all_goals
    have hw0:=HW0.out;go_wp2_with fail;clear hlt;try clear hlt2
    clear hw0
    go_loopw [3,5] (fun o v wr=>∃ (k2:Nat),v=.int .i64 k2∧k2≤g.nons.length∧k2≤200∧o=.int .i64 ((g.terms.length:Int)+(g.nons.length:Int)+(g.rules.length:Int)+(dX T g.terms k1:Int)+(dX T g.nons k2:Int))∧W=wr) (fun _ v _=>201-(intOf v).toNat)
    case atStart=>exact ⟨0,rfl,by omega,by omega,by rw [fZ];go_num,rfl⟩
    case round=>
     obtain ⟨k2,rfl,hk1,hm1,rfl,rfl⟩:=hrel;have HW1:=Ha (HB2.out k2 hk1 hm1);by_cases hlt:k2<g.nons.length∧k2<200
     ·obtain ⟨hlt,hlt2⟩:=hlt;obtain ⟨bb,off,rfl,z⟩:=HX.out.non hlt;have HS:=Ha (fY T g.nons k2 hlt);have hb:=HF.out.sn _ (gN hlt);have hw0:=HW0.out;have hw1:=HW1.out;unfold bs at z;obtain ⟨X,hX⟩:∃ X:ByteArray,X=⟨g.nons[k2].toArray⟩:=⟨_,rfl⟩;rw [← hX] at z;have hxs:X.size=g.nons[k2].length:=by rw [hX];rfl
      rw [← hxs] at hb;have HTk:=Ha (show T g.nons[k2]=X.size / 20 by rw [HT.out,hxs]);clear hX hxs;go_wp2_with fail
      go_roundw
      case rel=>exact ⟨k2+1,by go_num,by omega,by omega,by rw [HS.out,HTk.out];go_num,trivial⟩
      case measure=>simp only [intOf];omega
     ·have HK1:=Ha (show k2=min g.nons.length 200 by omega);rcases (show (k2<g.nons.length∧¬k2<200)∨¬k2<g.nons.length by omega) with ⟨hlt,hlt2⟩ | hlt
      all_goals
       have hw0:=HW0.out;have hw1:=HW1.out;go_wp2_with fail;clear hlt;try clear hlt2
       clear hw0 hw1
       go_loopw [3,6] (fun o v wr=>∃ (k3:Nat),v=.int .i64 k3∧k3≤g.rules.length∧k3≤400∧o=.int .i64 ((g.terms.length:Int)+(g.nons.length:Int)+(g.rules.length:Int)+(dX T g.terms k1:Int)+(dX T g.nons k2:Int)+(dX R g.rules k3:Int))∧W=wr) (fun _ v _=>401-(intOf v).toNat)
       case atStart=>exact ⟨0,rfl,by omega,by omega,by rw [fZ];go_num,rfl⟩
       case round=>
        obtain ⟨k3,rfl,hk2,hm2,rfl,rfl⟩:=hrel;have HW2:=Ha (HB3.out k3 hk2 hm2);by_cases hlt:k3<g.rules.length∧k3<400
        ·obtain ⟨hlt,hlt2⟩:=hlt;obtain ⟨bb,off,Ar,cr,rfl,z0,z1,zi⟩:=HX.out.rule hlt;have hb:=HF.out.sr _ (gN hlt);have HS:=Ha (fY R g.rules k3 hlt);have HTk:=Ha (show R g.rules[k3]=g.rules[k3].2.length / 9 by rw [HR.out]);have hw0:=HW0.out;have hw1:=HW1.out;have hw2:=HW2.out;clear zi;go_wp2_with fail
         go_roundw
         case rel=>exact ⟨k3+1,by go_num,by omega,by omega,by rw [HS.out,HTk.out];go_num,trivial⟩
         case measure=>simp only [intOf];omega
        ·have HK2:=Ha (show k3=min g.rules.length 400 by omega);rcases (show (k3<g.rules.length∧¬k3<400)∨¬k3<g.rules.length by omega) with ⟨hlt,hlt2⟩ | hlt
         all_goals
          have hw0:=HW0.out;have hw1:=HW1.out;have hw2:=HW2.out;go_wp2_with fail;go_ret;exact ⟨by rw [HM.out,← HK0.out,← HK1.out,← HK2.out];first | done | (congr 2;done) | (congr 2;have:=HTP.out;omega),HB.out⟩
end Go.Proofs.YtpidmmfjcghmeaaGreat
