/- Towards clashesWhole_upto. -/
import Derived.Test.YtpidmmfjcghmeaaGreatCz07
import Derived.Test.YtpidmmfjcghmeaaGreatCz06
set_option maxRecDepth 100000
set_option maxHeartbeats 16000000
set_option linter.all false
namespace Go.Proofs.YtpidmmfjcghmeaaGreat
open Go.RowKit
def eI (c:Nat):Bool:=decide (33≤c)&&decide (c≤126) && !(c==39)
def spanN (p:Nat→Bool) (l:List UInt8):Nat:=(l.takeWhile fun b=>p b.toNat).length
theorem sI (p:Nat→Bool) (l:List UInt8):spanN p l≤l.length:=List.IsPrefix.length_le (List.takeWhile_prefix _)
theorem mP (p:Nat→Bool) (s:ByteArray) (n:Nat) (h:n<s.size):spanN p (s.toList.drop n)=if p s[n].toNat then 1+spanN p (s.toList.drop (n+1)) else 0:=by
 have hl:n<s.toList.length:=by rw [← aT];exact h
 unfold spanN;rw [List.drop_eq_getElem_cons hl,List.takeWhile_cons,jA s n h]
 split
 ·rw [gG];omega
 ·rfl
theorem oV (p:Nat→Bool) (s:ByteArray) (n:Nat) (h:s.size≤n):spanN p (s.toList.drop n)=0:=by
 rw [List.drop_eq_nil_of_le (by rw [← aT];exact h)];rfl
def quotedB (l:List UInt8):Bool:=
 l[0]? == some 39&&decide (1≤spanN eI (l.drop 1))&&l[spanN eI (l.drop 1)+1]? == some 39&&decide (spanN eI (l.drop 1)+2≤24)&&decide (spanN eI (l.drop 1)+2=l.length)
theorem kQ (s:ByteArray) (n:Nat) (h:n<s.size) (c:UInt8):(s.toList[n]? == some c)=(s[n].toNat==c.toNat):=by
 rw [get?_list s n h];by_cases hc:s[n]=c
 ·rw [hc];simp
 ·rw [beq_eq_false_iff_ne.2 (fun e=>hc (Option.some.inj e)),beq_eq_false_iff_ne.2 (fun e=>hc (UInt8.toNat_inj.1 e))]
theorem rO (c:Nat) (w:World):
  Calls Tryz.prog 209 #[.int .u8 c] w fun e w'=>e=.returned (.bool (eI c))∧w'=w:=by
 have HT:=Ha (show eI c=(decide (33≤c)&&decide (c≤126) && !(c==39)) from rfl);go_enter Tryz.func209,Tryz.ntmps209;by_cases h1:33≤c
 ·by_cases h2:c≤126
  ·go_wp2_with fail;go_ret;exact ⟨aJ (by rw [HT.out,decide_eq_true (show 33≤c by omega),decide_eq_true (show c≤126 by omega)];exact eW c 39),rfl⟩
  ·go_wp2_with fail;go_ret;exact ⟨by first | (simp [HT.out];omega) | (rw [HT.out];simp;omega),rfl⟩
 ·go_wp2_with fail;go_ret;exact ⟨by first | (simp [HT.out];omega) | (rw [HT.out];simp;omega),rfl⟩
theorem BM (c:Nat) (w:World):
  Calls Tryz.prog 214 #[.int .u8 c] w fun e w'=>e=.returned (.bool (eI c))∧w'=w:=by
 have HT:=Ha (show eI c=(decide (33≤c)&&decide (c≤126) && !(c==39)) from rfl);go_enter Tryz.func214,Tryz.ntmps214;by_cases h1:33≤c
 ·by_cases h2:c≤126
  ·go_wp2_with fail;go_ret;exact ⟨aJ (by rw [HT.out,decide_eq_true (show 33≤c by omega),decide_eq_true (show c≤126 by omega)];exact eW c 39),rfl⟩
  ·go_wp2_with fail;go_ret;exact ⟨by first | (simp [HT.out];omega) | (rw [HT.out];simp;omega),rfl⟩
 ·go_wp2_with fail;go_ret;exact ⟨by first | (simp [HT.out];omega) | (rw [HT.out];simp;omega),rfl⟩
theorem CK (s:ByteArray) (w:World) (hm:s.size≤9223372036854775800) (h0:0<s.size) (h39:s[0].toNat=39):
  Calls Tryz.prog 138 #[.string s,.int .i64 0] w fun e w'=>(∃ n e1 e2:Int,e=.returned (.tuple #[.int .i64 n,.agg #[.int .i64 e1,.int .i64 e2]])∧(decide (e1=0)&&decide (n=s.size))=quotedB s.toList)∧Below w.heap.size w w':=by
 have hb:Below w.heap.size w (w.alloc (.cells #[.int .i64 0,.int .i64 0] 233)):=(gR _ _).alloc (gO _) _;have q:=aC w (.cells #[.int .i64 0,.int .i64 0] 233);generalize hW:w.alloc (.cells #[.int .i64 0,.int .i64 0] 233)=W at *;have y0:=aA q 0 _ rfl;have y1:=aA q 1 _ rfl;have f0:∀ j,W.frozen? ⟨w.heap.size,j,none⟩=false:=fun j=>by simp [World.frozen?,q]
 have HQ:=Ha (show quotedB s.toList=(decide (1≤spanN eI (s.toList.drop 1))&&s.toList[spanN eI (s.toList.drop 1)+1]? == some 39&&decide (spanN eI (s.toList.drop 1)+2≤24)&&decide (spanN eI (s.toList.drop 1)+2=s.size)) by
  unfold quotedB;rw [kQ s 0 h0,h39,← aT];rfl)
 have HB:=Ha hb;have HS:=Ha (show ∀ a b:Int,(((W.setCell ⟨w.heap.size,0,none⟩ (.int .i64 a)).setCell ⟨w.heap.size,1,none⟩ (.int .i64 b)).cell? ⟨w.heap.size,0,none⟩=some (.int .i64 a)∧((W.setCell ⟨w.heap.size,0,none⟩ (.int .i64 a)).setCell ⟨w.heap.size,1,none⟩ (.int .i64 b)).cell? ⟨w.heap.size,1,none⟩=some (.int .i64 b))∧Below w.heap.size w ((W.setCell ⟨w.heap.size,0,none⟩ (.int .i64 a)).setCell ⟨w.heap.size,1,none⟩ (.int .i64 b)) from fun a b=>
  ⟨⟨by simp [World.cell?,World.setCell,Array.getElem?_modify,q],by simp [World.cell?,World.setCell,Array.getElem?_modify,q]⟩,(hb.setCell (gO _) _).setCell (gO _) _⟩)
 clear hb q;have hsp:=sI eI (s.toList.drop 1);rw [List.length_drop,← aT] at hsp;generalize hT:spanN eI (s.toList.drop 1)=t at HQ hsp;have HT:=Ha hT;clear hT h39;go_enter Tryz.func138,Tryz.ntmps138;go_wp2
 go_loopw [6] (fun i wr=>∃ (n:Nat),1≤n∧n≤s.size∧i=.int .i64 n∧n+spanN eI (s.toList.drop n)=1+t∧wr=W) (fun i _=>s.size-(intOf i).toNat)
 case atStart=>exact ⟨1,by omega,by omega,rfl,by rw [HT.out],rfl⟩
 case round=>
  obtain ⟨n,hn1,hn,rfl,hi,rfl⟩:=hrel;by_cases hlt:n<s.size
  ·have hst:=mP eI s n hlt;have hbl:=iY s n hlt;cases hin:eI s[n].toNat
   ·rw [hin,if_neg (by decide)] at hst;have hnt:n=t+1:=by omega
    have HQn:=Ha (show quotedB s.toList=(decide (2≤n)&&(s[n].toNat==39)&&decide (n+1≤24)&&decide (n+1=s.size)) by
     rw [HQ.out,← hnt,kQ s n hlt,show t+2=n+1 by omega]
     congr 3
     rw [Bool.eq_iff_iff,decide_eq_true_iff,decide_eq_true_iff];omega)
    have HI:=Ha (rO s[n].toNat);rw [hin] at HI;clear hst hnt hi hin;have e39:((s[n].toNat:Int) != 39)=(s[n].toNat != 39):=eW _ 39;cases hc:s[n].toNat != 39
    ·rw [hc] at e39;have hcc:=Ha (show (s[n].toNat==39)=true by simpa using hc);clear hc;by_cases hn2:n=1
     ·subst hn2;have hF:=Ha (show (decide ((2:Int)=0)&&decide ((0:Int)=s.size))=quotedB s.toList by
       rw [HQn.out];simp)
      obtain ⟨⟨r0,r1⟩,r2⟩:=HS.out 2 1;go_wp2_with (go_at_call 209;refine (HI.out _).mono ?_;rintro e w' ⟨rfl,rfl⟩);refine bodyPost_ret (v:=.tuple #[.int .i64 (0),.agg #[.int .i64 2,.int .i64 1]]) (by simp [results,Tryz.results138,go_sem,r0,r1]) rfl ?_;exact ⟨⟨0,2,1,rfl,hF.out⟩,r2⟩
     ·by_cases hn3:24<n+1
      ·have hn4:(24:Int)<(n:Int)+1:=by omega
       have hF:=Ha (show (decide ((5:Int)=0)&&decide ((0:Int)=s.size))=quotedB s.toList by
        rw [HQn.out,decide_eq_false (show ¬n+1≤24 by omega)];simp)
       obtain ⟨⟨r0,r1⟩,r2⟩:=HS.out 5 0;go_wp2_with (go_at_call 209;refine (HI.out _).mono ?_;rintro e w' ⟨rfl,rfl⟩);refine bodyPost_ret (v:=.tuple #[.int .i64 (0),.agg #[.int .i64 5,.int .i64 0]]) (by simp [results,Tryz.results138,go_sem,r0,r1]) rfl ?_;exact ⟨⟨0,5,0,rfl,hF.out⟩,r2⟩
      ·have hn4:¬(24:Int)<(n:Int)+1:=by omega
       have hF:=Ha (show (decide ((0:Int)=0)&&decide (((n:Int)+1:Int)=s.size))=quotedB s.toList by
        rw [HQn.out,decide_eq_true (show 2≤n by omega),decide_eq_true (show n+1≤24 by omega),hcc.out];rw [Bool.eq_iff_iff];simp;omega)
       obtain ⟨⟨r0,r1⟩,r2⟩:=HS.out 0 0;go_wp2_with (go_at_call 209;refine (HI.out _).mono ?_;rintro e w' ⟨rfl,rfl⟩);refine bodyPost_ret (v:=.tuple #[.int .i64 ((n:Int)+1),.agg #[.int .i64 0,.int .i64 0]]) (by simp [results,Tryz.results138,go_sem,r0,r1]) rfl ?_;exact ⟨⟨(n:Int)+1,0,0,rfl,hF.out⟩,r2⟩
    ·rw [hc] at e39;have hF:=Ha (show (decide ((2:Int)=0)&&decide ((0:Int)=s.size))=quotedB s.toList by
      rw [HQn.out,beq_eq_false_iff_ne.2 (by simpa using hc)];simp)
     obtain ⟨⟨r0,r1⟩,r2⟩:=HS.out 2 (n:Int);clear hc;go_wp2_with (go_at_call 209;refine (HI.out _).mono ?_;rintro e w' ⟨rfl,rfl⟩);refine bodyPost_ret (v:=.tuple #[.int .i64 0,.agg #[.int .i64 2,.int .i64 n]]) (by simp [results,Tryz.results138,go_sem,r0,r1]) rfl ?_;exact ⟨⟨0,2,n,rfl,hF.out⟩,r2⟩
   ·rw [hin,if_pos rfl] at hst;have HI:=Ha (rO s[n].toNat);rw [hin] at HI;have HN:=Ha (show n+1+spanN eI (s.toList.drop (n+1))=1+t by omega);clear hst hi hin;go_wp2_with (go_at_call 209;refine (HI.out _).mono ?_;rintro e w' ⟨rfl,rfl⟩)
    go_roundw
    case rel=>exact ⟨n+1,by omega,by omega,by go_num,HN.out,by first | rfl | trivial⟩
    case measure=>simp only [intOf];omega
  ·have hz:=oV eI s n (by omega);have hF:=Ha (show (decide ((4:Int)=0)&&decide ((0:Int)=s.size))=quotedB s.toList by
    have ht:t+2≠s.size:=by omega
    rw [HQ.out,decide_eq_false ht];simp)
   obtain ⟨⟨r0,r1⟩,r2⟩:=HS.out 4 s.size;clear hi hz;go_wp2_with fail;refine bodyPost_ret (v:=.tuple #[.int .i64 (0),.agg #[.int .i64 4,.int .i64 s.size]]) (by simp [results,Tryz.results138,go_sem,r0,r1]) rfl ?_;exact ⟨⟨0,4,s.size,rfl,hF.out⟩,r2⟩
theorem kI:quotedB []=false:=rfl
theorem mK (s:ByteArray) (h0:0<s.size) (h:(s[0].toNat != 39)=true):quotedB s.toList=false:=by
 unfold quotedB;rw [kQ s 0 h0,beq_eq_false_iff_ne.2 (by simpa using h)];rfl
theorem kG (s:ByteArray) (h:s.size=0):s.toList=[]:=List.eq_nil_of_length_eq_zero (by rw [← aT];exact h)
theorem yU (s:ByteArray) (w:World) (hm:s.size≤9223372036854775800):
  Calls Tryz.prog 72 #[.string s] w fun e w'=>e=.returned (.bool (quotedB s.toList))∧Below w.heap.size w w':=by
 by_cases h0:s.size=0
 ·have hE:s.toList.isEmpty=true:=by rw [eV];exact decide_eq_true h0
  have hq:=Ha (show quotedB s.toList=false by rw [kG s h0,kI]);clear h0;go_enter Tryz.func72,Tryz.ntmps72;go_wp2_with fail;go_ret;exact ⟨by first | (rw [hq.out];done) | (rw [hq.out];rfl),gR _ _⟩
 have hp:0<s.size:=by omega
 have hE:s.toList.isEmpty=false:=by rw [eV];exact decide_eq_false h0
 have e39:((s[0].toNat:Int) != 39)=(s[0].toNat != 39):=eW _ 39;cases hc:s[0].toNat != 39
 ·rw [hc] at e39;have HC:=Ha (CK s w hm hp (by simpa using hc));clear hc h0;go_enter Tryz.func72,Tryz.ntmps72;go_wp2_with fail;refine (HC.out).mono ?_;rintro e w1 ⟨⟨n,e1,e2,rfl,hq⟩,hb⟩;have hB:=Ha (hb.alloc hb.size (.cells #[.int .i64 e1,.int .i64 e2] 233));have HQ:=Ha hq;clear hb hq;by_cases h1:e1=0
  ·subst h1;by_cases h2:n=s.size
   ·subst h2;have he:=Ha (show quotedB s.toList=true by rw [← HQ.out];simp);go_wp2_with fail;go_ret;exact ⟨by first | (rw [he.out];done) | (rw [he.out];rfl),hB.out⟩
   ·have he:=Ha (show quotedB s.toList=false by rw [← HQ.out];simp [h2]);have h3:(n==(s.size:Int))=false:=beq_eq_false_iff_ne.2 h2;go_wp2_with fail;go_ret;exact ⟨by first | (rw [he.out];done) | (rw [he.out];rfl),hB.out⟩
  ·have he:=Ha (show quotedB s.toList=false by rw [← HQ.out];simp [h1]);go_wp2_with fail;go_ret;exact ⟨by first | (rw [he.out];done) | (rw [he.out];rfl),hB.out⟩
 ·rw [hc] at e39;have hq:=Ha (mK s hp hc);clear hc h0;go_enter Tryz.func72,Tryz.ntmps72;go_wp2_with fail;go_ret;exact ⟨by first | (rw [hq.out];done) | (rw [hq.out];rfl),gR _ _⟩
def JN (fn:Nat) (p:Nat→Bool):Prop:=∀ (c:Nat) (w:World),c<256→Calls Tryz.prog fn #[.int .u8 c] w fun e w'=>e=.returned (.bool (p c))∧w'=w
def uB (fn:Nat):Prop:=∀ (args:Array Value) (w:World),(callFunc fn args).run Tryz.prog w=.ok (.enter fn args) w
theorem pH:uB 214:=fun args w=>by simp [callFunc,go_sem,Tryz.func214,Tryz.f214]
theorem IM (s:ByteArray) (k:Nat) (fn:Nat) (p:Nat→Bool) (w:World) (hm:s.size≤9223372036854775800) (hk:k≤s.size) (hent:uB fn) (hf:JN fn p):
  Calls Tryz.prog 179 #[.string s,.int .i64 k,.func (.func fn) #[] #[]] w fun e w'=>e=.returned (.int .i64 (spanN p (s.toList.drop k)))∧w'=w:=by
 have HE:=Ha hent;have HF:=Ha hf;have hsp:=sI p (s.toList.drop k);rw [List.length_drop,← aT] at hsp;generalize hT:spanN p (s.toList.drop k)=t at *;have HT:=Ha hT;clear hent hf hT;go_enter Tryz.func179,Tryz.ntmps179;go_wp2
 go_loopw [7] (fun i wr=>∃ (n:Nat),n≤t∧i=.int .i64 n∧n+spanN p (s.toList.drop (k+n))=t∧wr=w) (fun i _=>t-(intOf i).toNat)
 case atStart=>exact ⟨0,by omega,rfl,by rw [Nat.add_zero,HT.out,Nat.zero_add],rfl⟩
 case round=>
  obtain ⟨n,hn,rfl,hi,rfl⟩:=hrel;by_cases hlt:k+n<s.size
  ·have hst:=mP p s (k+n) hlt;have hbl:=iY s (k+n) hlt;have hlt':(k:Int)+(n:Int)<(s.size:Int):=by omega
   cases hin:p s[k+n].toNat
   ·rw [hin,if_neg (by decide)] at hst;have HN:=Ha (show (n:Int)=(t:Int) by omega);have HI:=Ha (HF.out s[k+n].toNat wr hbl);rw [hin] at HI;clear hst hi hin;go_wp2_with fail;rw [HE.out,Oper.upon_enter];refine HI.out.mono ?_;rintro e w' ⟨rfl,rfl⟩;go_wp2_with fail;go_ret;exact ⟨bG HN.out,rfl⟩
   ·rw [hin,if_pos rfl] at hst;have HN:=Ha (show n+1+spanN p (s.toList.drop (k+(n+1)))=t by rw [← Nat.add_assoc];omega);have hnt:n<t:=by omega
    have HI:=Ha (HF.out s[k+n].toNat wr hbl);rw [hin] at HI;clear hst hi hin;go_wp2_with fail;rw [HE.out,Oper.upon_enter];refine HI.out.mono ?_;rintro e w' ⟨rfl,rfl⟩;go_wp2_with fail
    go_roundw
    case rel=>exact ⟨n+1,by omega,by go_num,HN.out,by first | rfl | trivial⟩
    case measure=>simp only [intOf];omega
  ·have hz:=oV p s (k+n) (by omega);have HN:=Ha (show (n:Int)=(t:Int) by omega);clear hi hz;go_wp2_with fail;go_ret;exact ⟨bG HN.out,rfl⟩
theorem CJ (s:ByteArray) (w:World) (hm:s.size≤9223372036854775800) (hq:quotedB s.toList=true):
  Calls Tryz.prog 145 #[.string s,.int .i64 0] w fun e w'=>e=.returned (.tuple #[.int .i64 s.size,.nilIface])∧w'=w:=by
 unfold quotedB at hq;simp only [Bool.and_eq_true,decide_eq_true_eq] at hq;obtain ⟨⟨⟨⟨h1,h2⟩,h3⟩,h4⟩,h5⟩:=hq;rw [← aT] at h5;have h0:0<s.size:=by omega
 have HS:=Ha (IM s 1 214 eI w hm (by omega) pH (fun c w _=>BM c w));generalize spanN eI (s.toList.drop 1)=t at *;rw [kQ s (t+1) (by omega)] at h3;have e39:((s[t+1].toNat:Int) != 39)=false:=(eW _ 39).trans (by simpa using h3);have e39':((s[1+t].toNat:Int) != 39)=false:=by rw [← e39];congr 4;omega
 have HE:=Ha (show (1:Int)+(t:Int)+1=(s.size:Int) by omega);have hlt:¬(s.size:Int)≤1+(t:Int):=by omega
 have hlt2:¬(24:Int)≤1+(t:Int):=by omega
 have hsz:1+t<s.size:=by omega
 have ht1:((1:Int)+(t:Int)==1)=false:=beq_eq_false_iff_ne.2 (by omega);clear h1 h3;go_enter Tryz.func145,Tryz.ntmps145;go_wp2_with fail;refine (HS.out).mono ?_;rintro e w1 ⟨rfl,rfl⟩;go_wp2_with fail;refine bodyPost_ret (v:=.tuple #[.int .i64 (1+(t:Int)+1),.nilIface]) (by simp [results,Tryz.results145,go_sem]) rfl ?_;exact ⟨by rw [← HE.out],rfl⟩
theorem yT (s:ByteArray) (w:World) (hm:s.size≤9223372036854775800) (hq:quotedB s.toList=true):
  Calls Tryz.prog 79 #[.string s] w fun e w'=>e=.returned (.bool true)∧w'=w:=by
 have HC:=Ha (CJ s w hm hq);have h0:0<s.size:=by
  rcases Nat.eq_zero_or_pos s.size with h | h
  ·rw [kG s h,kI] at hq;exact absurd hq (by decide)
  ·exact h
 have hE:s.toList.isEmpty=false:=by rw [eV];exact decide_eq_false (by omega)
 have e39:((s[0].toNat:Int) != 39)=false:=(eW _ 39).trans (by
  cases hc:s[0].toNat != 39
  ·rfl
  ·rw [mK s h0 hc] at hq;exact absurd hq (by decide))
 clear hq;go_enter Tryz.func79,Tryz.ntmps79;go_wp2_with fail;refine (HC.out).mono ?_;rintro e w1 ⟨rfl,rfl⟩;go_wp2_with fail;go_ret;exact ⟨rfl,rfl⟩
end Go.Proofs.YtpidmmfjcghmeaaGreat
