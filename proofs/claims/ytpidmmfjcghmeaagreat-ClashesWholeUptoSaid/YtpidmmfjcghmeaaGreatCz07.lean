/- Towards clashesWhole_upto. -/
import Derived.Test.YtpidmmfjcghmeaaGreatCz02
import Derived.Test.YtpidmmfjcghmeaaGreatCz03
import Derived.Lib.Bytealg
set_option maxRecDepth 100000
set_option maxHeartbeats 16000000
set_option linter.all false
namespace Go.Proofs.YtpidmmfjcghmeaaGreat
open Go.RowKit
theorem JE:∀ c:Fin 256,(97≤bits .or .u8 (c.val:Int) 32∧bits .or .u8 (c.val:Int) 32≤122)↔(97≤c.val∧c.val≤122∨65≤c.val∧c.val≤90):=by decide +kernel
theorem r8 (c:Nat) (hc:c<256) (h:97≤c∧c≤122∨65≤c∧c≤90):97≤bits .or .u8 (c:Int) 32∧bits .or .u8 (c:Int) 32≤122:=(JE ⟨c,hc⟩).2 h
theorem or32_no (c:Nat) (hc:c<256) (h:¬(97≤c∧c≤122∨65≤c∧c≤90)):bits .or .u8 (c:Int) 32<97∨122<bits .or .u8 (c:Int) 32:=by
 have:¬(97≤bits .or .u8 (c:Int) 32∧bits .or .u8 (c:Int) 32≤122):=mt (JE ⟨c,hc⟩).1 h;omega
theorem rZ (c:Nat) (hc:c<256) (w:World) (hs:¬Chr.Sign c∨c=95):Calls Tryz.prog 238 #[.int .u8 (c:Int)] w fun e w'=>e=.returned (.int .i64 (Chr.cls c:Nat))∧w=w':=by
 rcases Chr.cls_cases c with h | ⟨h1,h2,h3⟩ | ⟨h1,h2,h3⟩ | ⟨h1,h2,h3⟩ | ⟨h1,h3⟩
 ·rcases hs with hs | rfl
  ·exact absurd h hs
  ·go_enter Tryz.func238,Tryz.ntmps238;go_wp2;go_ret;exact ⟨rfl,rfl⟩
 ·have H:=Ha h3;clear h3;go_enter Tryz.func238,Tryz.ntmps238;go_wp2;go_ret;exact ⟨bG (by rw [H.out];rfl),rfl⟩
 ·have H:=Ha h3;clear h3;obtain ⟨o1,o2⟩:=r8 c hc (by omega);go_enter Tryz.func238,Tryz.ntmps238;go_wp2;go_ret;exact ⟨bG (by rw [H.out];rfl),rfl⟩
 ·have H:=Ha h3;clear h3;obtain ⟨o1,o2⟩:=r8 c hc (by omega);go_enter Tryz.func238,Tryz.ntmps238;go_wp2;go_ret;exact ⟨bG (by rw [H.out];rfl),rfl⟩
 ·have H:=Ha h3;clear h3;obtain ⟨hs',d1,d2,d3⟩:=h1;have h95:c≠95:=hs'.2.2.2.2.1;clear hs' hs;rcases or32_no c hc (by omega) with o | o
  all_goals
   rcases (show c<48∨57<c by omega) with k | k
   all_goals
    clear d1 d2 d3;go_enter Tryz.func238,Tryz.ntmps238;go_wp2;go_ret;exact ⟨bG (by rw [H.out];rfl),rfl⟩
theorem D8 (c:Nat) (hc:c<256) (w:World):Calls Tryz.prog 182 #[.int .u8 (c:Int)] w fun e w'=>e=.returned (.int .i64 (Chr.cls c:Nat))∧w=w':=by
 rcases Chr.cls_cases c with h | h
 ·unfold Chr.Sign at h;rcases h with rfl | rfl | rfl | rfl | rfl | rfl | rfl | rfl | rfl | rfl | rfl | rfl | rfl | rfl | rfl | rfl | rfl
  all_goals
   go_enter Tryz.func182,Tryz.ntmps182;go_wp2_with (go_at_call 238;refine (rZ 95 (by omega) _ (.inr rfl)).mono ?_;rintro e w' ⟨rfl,rfl⟩);go_ret;exact ⟨rfl,rfl⟩
 ·have hs:¬Chr.Sign c:=by
   unfold Chr.Sign;rcases h with h | h | h | h
   ·omega
   ·omega
   ·omega
   ·exact fun e=>by obtain ⟨⟨h,_⟩,_⟩:=h;omega
  have HS:=Ha hs;unfold Chr.Sign at hs;simp only [not_or] at hs;obtain ⟨n1,n2,n3,n4,n5,n6,n7,n8,n9,n10,n11,n12,n13,n14,n15,n16,n17⟩:=hs;clear h;go_enter Tryz.func182,Tryz.ntmps182;go_wp2_with (go_at_call 238;refine (rZ c hc _ (.inl HS.out)).mono ?_;rintro e w' ⟨rfl,rfl⟩);go_ret;exact ⟨rfl,rfl⟩
theorem uL (c:Nat) (hc:c<256) (w:World):Calls Tryz.prog 208 #[.int .u8 (c:Int)] w fun e w'=>e=.returned (.int .i64 (Chr.cls c:Nat))∧w=w':=by
 rcases Chr.cls_cases c with h | ⟨h1,h2,h3⟩ | ⟨h1,h2,h3⟩ | ⟨h1,h2,h3⟩ | ⟨h1,h3⟩
 ·unfold Chr.Sign at h;rcases h with rfl | rfl | rfl | rfl | rfl | rfl | rfl | rfl | rfl | rfl | rfl | rfl | rfl | rfl | rfl | rfl | rfl
  all_goals
   go_enter Tryz.func208,Tryz.ntmps208;go_wp2;go_ret;exact ⟨rfl,rfl⟩
 all_goals have H:=Ha h3;clear h3
 ·skip
  have b0:((c:Int)==0)=false:=by rw [gJ];omega
  have b32:((c:Int)==32)=false:=by rw [gJ];omega
  have b9:((c:Int)==9)=false:=by rw [gJ];omega
  have b10:((c:Int)==10)=false:=by rw [gJ];omega
  have b95:((c:Int)==95)=false:=by rw [gJ];omega
  have b38:((c:Int)==38)=false:=by rw [gJ];omega
  have b124:((c:Int)==124)=false:=by rw [gJ];omega
  have b59:((c:Int)==59)=false:=by rw [gJ];omega
  have b60:((c:Int)==60)=false:=by rw [gJ];omega
  have b62:((c:Int)==62)=false:=by rw [gJ];omega
  have b40:((c:Int)==40)=false:=by rw [gJ];omega
  have b41:((c:Int)==41)=false:=by rw [gJ];omega
  have b39:((c:Int)==39)=false:=by rw [gJ];omega
  have b34:((c:Int)==34)=false:=by rw [gJ];omega
  have b92:((c:Int)==92)=false:=by rw [gJ];omega
  have b96:((c:Int)==96)=false:=by rw [gJ];omega
  have b36:((c:Int)==36)=false:=by rw [gJ];omega
  go_enter Tryz.func208,Tryz.ntmps208;go_wp2;go_ret;exact ⟨bG (by rw [H.out];rfl),rfl⟩
 ·skip
  have b0:((c:Int)==0)=false:=by rw [gJ];omega
  have b32:((c:Int)==32)=false:=by rw [gJ];omega
  have b9:((c:Int)==9)=false:=by rw [gJ];omega
  have b10:((c:Int)==10)=false:=by rw [gJ];omega
  have b95:((c:Int)==95)=false:=by rw [gJ];omega
  have b38:((c:Int)==38)=false:=by rw [gJ];omega
  have b124:((c:Int)==124)=false:=by rw [gJ];omega
  have b59:((c:Int)==59)=false:=by rw [gJ];omega
  have b60:((c:Int)==60)=false:=by rw [gJ];omega
  have b62:((c:Int)==62)=false:=by rw [gJ];omega
  have b40:((c:Int)==40)=false:=by rw [gJ];omega
  have b41:((c:Int)==41)=false:=by rw [gJ];omega
  have b39:((c:Int)==39)=false:=by rw [gJ];omega
  have b34:((c:Int)==34)=false:=by rw [gJ];omega
  have b92:((c:Int)==92)=false:=by rw [gJ];omega
  have b96:((c:Int)==96)=false:=by rw [gJ];omega
  have b36:((c:Int)==36)=false:=by rw [gJ];omega
  go_enter Tryz.func208,Tryz.ntmps208;go_wp2;go_ret;exact ⟨bG (by rw [H.out];rfl),rfl⟩
 ·skip
  have b0:((c:Int)==0)=false:=by rw [gJ];omega
  have b32:((c:Int)==32)=false:=by rw [gJ];omega
  have b9:((c:Int)==9)=false:=by rw [gJ];omega
  have b10:((c:Int)==10)=false:=by rw [gJ];omega
  have b95:((c:Int)==95)=false:=by rw [gJ];omega
  have b38:((c:Int)==38)=false:=by rw [gJ];omega
  have b124:((c:Int)==124)=false:=by rw [gJ];omega
  have b59:((c:Int)==59)=false:=by rw [gJ];omega
  have b60:((c:Int)==60)=false:=by rw [gJ];omega
  have b62:((c:Int)==62)=false:=by rw [gJ];omega
  have b40:((c:Int)==40)=false:=by rw [gJ];omega
  have b41:((c:Int)==41)=false:=by rw [gJ];omega
  have b39:((c:Int)==39)=false:=by rw [gJ];omega
  have b34:((c:Int)==34)=false:=by rw [gJ];omega
  have b92:((c:Int)==92)=false:=by rw [gJ];omega
  have b96:((c:Int)==96)=false:=by rw [gJ];omega
  have b36:((c:Int)==36)=false:=by rw [gJ];omega
  go_enter Tryz.func208,Tryz.ntmps208;go_wp2;go_ret;exact ⟨bG (by rw [H.out];rfl),rfl⟩
 ·obtain ⟨⟨n1,n2,n3,n4,n5,n6,n7,n8,n9,n10,n11,n12,n13,n14,n15,n16,n17⟩,d1,d2,d3⟩:=h1;have cs:c<48∨57<c∧c<65∨90<c∧c<97∨122<c:=by omega
  have b0:((c:Int)==0)=false:=by rw [gJ];omega
  have b32:((c:Int)==32)=false:=by rw [gJ];omega
  have b9:((c:Int)==9)=false:=by rw [gJ];omega
  have b10:((c:Int)==10)=false:=by rw [gJ];omega
  have b95:((c:Int)==95)=false:=by rw [gJ];omega
  have b38:((c:Int)==38)=false:=by rw [gJ];omega
  have b124:((c:Int)==124)=false:=by rw [gJ];omega
  have b59:((c:Int)==59)=false:=by rw [gJ];omega
  have b60:((c:Int)==60)=false:=by rw [gJ];omega
  have b62:((c:Int)==62)=false:=by rw [gJ];omega
  have b40:((c:Int)==40)=false:=by rw [gJ];omega
  have b41:((c:Int)==41)=false:=by rw [gJ];omega
  have b39:((c:Int)==39)=false:=by rw [gJ];omega
  have b34:((c:Int)==34)=false:=by rw [gJ];omega
  have b92:((c:Int)==92)=false:=by rw [gJ];omega
  have b96:((c:Int)==96)=false:=by rw [gJ];omega
  have b36:((c:Int)==36)=false:=by rw [gJ];omega
  clear n1 n2 n3 n4 n5 n6 n7 n8 n9 n10 n11 n12 n13 n14 n15 n16 n17;rcases cs with k | k | k | k
  all_goals
   clear d1 d2 d3;go_enter Tryz.func208,Tryz.ntmps208;go_wp2;go_ret;exact ⟨bG (by rw [H.out];rfl),rfl⟩
theorem pQ (s:ByteArray) (c:Int) (w:World):Calls Tryz.prog 252 #[.string s,.int .u8 c] w fun e w'=>e=.returned (.int .i64 (Lib.indexByte s.toList c.toNat.toUInt8))∧w=w':=by
 go_enter Tryz.func252,Tryz.ntmps252;go_wp2;rw [run_callFunc_extern Tryz.func266 (by kernel_rfl) (by kernel_rfl) (by kernel_rfl) (e:=Extern.BytealgIndexByte.indexByte) (by kernel_rfl),Lib.run_indexByteString];simp only [Result.andThen];rw [Oper.upon_value];go_wp2;go_ret;exact ⟨bG (by rw [Lib.toList_data]),rfl⟩
theorem rJ (s:ByteArray) (c:Int) (w:World):Calls Tryz.prog 235 #[.string s,.int .u8 c] w fun e w'=>e=.returned (.int .i64 (Lib.indexByte s.toList c.toNat.toUInt8))∧w=w':=by
 go_enter Tryz.func235,Tryz.ntmps235;go_wp2_with (go_at_call 252;refine (pQ _ _ _).mono ?_;rintro e w' ⟨rfl,rfl⟩);go_ret;exact ⟨rfl,rfl⟩
theorem jU (p:Nat→Nat→Bool) (s:ByteArray) (k:Nat) (h:k<s.size):Chr.allFrom p k (s.toList.drop k)=(p k s[k].toNat&&Chr.allFrom p (k+1) (s.toList.drop (k+1))):=by
 rw [Chr.allFrom_drop p s.toList k (by rw [← aT];exact h),jA s k h]
theorem lK (p:Nat→Nat→Bool) (s:ByteArray) (k:Nat) (h:¬k<s.size):Chr.allFrom p k (s.toList.drop k)=true:=Chr.allFrom_end p s.toList k (by rw [← aT];exact h)
theorem iY (s:ByteArray) (k:Nat) (h:k<s.size):s[k].toNat<256:=s[k].toNat_lt
theorem uH (s:ByteArray) (w:World) (hm:s.size≤9223372036854775807):Calls Tryz.prog 211 #[.string s] w fun e w'=>e=.returned (.bool (Chr.ascii s.toList))∧w=w':=by
 go_enter Tryz.func211,Tryz.ntmps211;go_wp2_with fail
 go_loop [3,6] (fun _ i=>∃ k:Nat,k≤s.size∧i=.int .i64 k∧Chr.allFrom Chr.okAscii k (s.toList.drop k)=Chr.ascii s.toList) (fun _ i=>s.size-(intOf i).toNat)
 case atStart=>exact ⟨0,by omega,rfl,rfl⟩
 case round=>
  obtain ⟨k,hk,rfl,hf⟩:=hrel;by_cases hlt:k<s.size
  ·rw [jU _ s k hlt] at hf;have H:=Ha hf;clear hf;by_cases ha:s[k].toNat<128
   ·go_wp2_with fail
    go_round
    case rel=>
     refine ⟨k+1,by omega,by go_num, ?_⟩;rw [← H.out,Chr.okAscii,decide_eq_true ha,Bool.true_and]
    case measure=>simp only [intOf];omega
   ·go_wp2_with fail;go_ret;refine ⟨aJ ?_,rfl⟩;rw [← H.out,Chr.okAscii,decide_eq_false ha,Bool.false_and]
  ·rw [lK _ s k hlt] at hf;have H:=Ha hf;clear hf;go_wp2_with fail;go_ret;exact ⟨aJ H.out,rfl⟩
theorem zV (c k:Nat):(((Chr.cls c:Nat):Int)==(k:Int))=(Chr.cls c==k):=by
 by_cases h:Chr.cls c=k
 ·rw [h];simp
 ·rw [beq_eq_false_iff_ne.2 h,beq_eq_false_iff_ne.2 (by omega)]
theorem E3 (i c:Nat) (hc:c<256) (w:World):Calls Tryz.prog 213 #[.int .i64 (i:Int),.int .u8 (c:Int)] w fun e w'=>e=.returned (.bool (Chr.okName i c))∧w=w':=by
 have e4:=zV c 4;have e3:=zV c 3;have H:Hid (Chr.okName i c=(Chr.cls c==4||Chr.cls c==3&&decide (0<i))):=rfl;cases h4:Chr.cls c==4 <;> cases h3:Chr.cls c==3 <;> rcases Nat.eq_zero_or_pos i with rfl | hi
 all_goals
  simp only [h4,h3] at e4 e3;have e4':(((Chr.cls c:Nat):Int)==4)=_:=e4;have e3':(((Chr.cls c:Nat):Int)==3)=_:=e3;clear e4 e3;have H4:=Ha h4;have H3:=Ha h3;clear h4 h3;go_enter Tryz.func213,Tryz.ntmps213;go_wp2_with (go_at_call 182;refine (D8 c hc _).mono ?_;rintro e w' ⟨rfl,rfl⟩);go_ret;refine ⟨aJ ?_,rfl⟩;rw [H.out,H4.out,H3.out];first | rfl | (rw [decide_eq_true hi];rfl)
theorem zE (s:ByteArray) (k:Nat) (h:Chr.ascii s.toList=true) (hk:k<s.size):s[k].toNat<128:=by
 have:=Chr.allFrom_at 0 s.toList h k (by rw [← aT];exact hk);rw [jA s k hk] at this
 simpa [Chr.okAscii] using this
theorem wV (s:ByteArray) (w:World) (hm:s.size≤9223372036854775807) (hasc:Chr.ascii s.toList=true):
  Calls Tryz.prog 212 #[.string s,.func (Fn.func 213) #[] #[]] w fun e w'=>e=.returned (.bool (Chr.allFrom Chr.okName 0 s.toList && !s.toList.isEmpty))∧Below w.heap.size w w':=by
 have hempty:(!s.toList.isEmpty)=decide (0<s.size):=by
  rw [aT];cases s.toList <;> simp
 have HE:=Ha hempty;clear hempty;go_enter Tryz.func212,Tryz.ntmps212;go_wp2_with fail
 go_loopw [5] (fun _ wr=>∃ k:Nat,k≤s.size∧wr=w.iter s k∧Chr.allFrom Chr.okName k (s.toList.drop k)=Chr.allFrom Chr.okName 0 s.toList) (fun _ wr=>s.size-wr.iterPos w.heap.size)
 case atStart=>exact ⟨0,by omega,rfl,rfl⟩
 case round=>
  obtain ⟨k,hk,rfl,hf⟩:=hrel;by_cases hlt:k<s.size
  ·rw [jU _ s k hlt] at hf;have H:=Ha hf;clear hf;have hnx:∀ ty,(Instr.next (.pointer (some ⟨w.heap.size,0,none⟩)) true ty).run Tryz.prog (w.iter s k)=_:=fun ty=>run_next_ascii w s k ty hlt (zE s k hasc hlt);obtain ⟨b,hb⟩:∃ b,Chr.okName k s[k].toNat=b:=⟨_,rfl⟩;cases b;all_goals
    go_wp2_with (go_at_call 213;refine (E3 k s[k].toNat (iY s k hlt) _).mono ?_;rintro e w' ⟨rfl,rfl⟩)
   ·go_ret;refine ⟨aJ ?_,(gR _ _).alloc (gO _) _⟩;rw [← H.out,hb];rfl
   ·go_roundw
    case rel=>exact ⟨k+1,by omega,rfl,by rw [← H.out,hb];rfl⟩
    case measure=>simp only [World.iterPos_iter];omega
  ·rw [lK _ s k hlt] at hf;have H:=Ha hf;clear hf;have hnx:∀ ty,(Instr.next (.pointer (some ⟨w.heap.size,0,none⟩)) true ty).run Tryz.prog (w.iter s k)=_:=fun ty=>run_next_end w s k ty hlt;go_wp2_with fail;go_ret;refine ⟨aJ ?_,(gR _ _).alloc (gO _) _⟩;rw [← H.out,Bool.true_and]
theorem B9 (s:ByteArray) (w:World) (hm:s.size≤9223372036854775807):Calls Tryz.prog 144 #[.string s] w fun e w'=>e=.returned (.bool (Chr.name s.toList))∧Below w.heap.size w w':=by
 cases ha:Chr.ascii s.toList
 ·go_enter Tryz.func144,Tryz.ntmps144;go_wp2_with (go_at_call 211;refine (uH s _ hm).mono ?_;rintro e w' ⟨rfl,rfl⟩);go_ret;refine ⟨aJ ?_,gR _ _⟩;cases h:Chr.name s.toList
  ·rfl
  ·rw [Chr.name_ascii _ h] at ha;cases ha
 ·have HA:=Ha ha;go_enter Tryz.func144,Tryz.ntmps144;go_wp2_with (first
   | (go_at_call 211;refine (uH s _ hm).mono ?_;rintro e w' ⟨rfl,rfl⟩)
   | (go_at_call 212;refine (wV s _ hm HA.out).mono ?_;rintro e w' ⟨rfl,hb⟩))
  go_ret;exact ⟨rfl,hb⟩
theorem eV (s:ByteArray):s.toList.isEmpty=decide (s.size=0):=by
  rw [aT];cases s.toList <;> simp
theorem eW (a k:Nat):(((a:Nat):Int) != (k:Int))=(a != k):=by
  by_cases h:a=k
  · rw [h];simp
  · rw [bne_iff_ne.2 h,bne_iff_ne.2 (by omega)]
theorem zX (c k:Nat):(((Chr.cls c:Nat):Int) != (k:Int))=(Chr.cls c != k):=eW _ _
theorem H9 (s:ByteArray) (w:World) (hm:s.size≤9223372036854775807):Calls Tryz.prog 137 #[.string s] w fun e w'=>e=.returned (.bool (Chr.name s.toList))∧w=w':=by
  have hfin:Chr.name s.toList=(Chr.allFrom Chr.okName 0 s.toList&&decide (0<s.size)):=by
    unfold Chr.name;rw [eV];congr 1;by_cases h:s.size=0 <;> simp [h];omega
  have HN:=Ha hfin;clear hfin;go_enter Tryz.func137,Tryz.ntmps137;go_wp2_with fail
  go_loop [3,4] (fun i _=>∃ k:Nat,k≤s.size∧i=.int .i64 k∧Chr.allFrom Chr.okName k (s.toList.drop k)=Chr.allFrom Chr.okName 0 s.toList) (fun i _=>s.size-(intOf i).toNat)
  case atStart=>exact ⟨0,by omega,rfl,rfl⟩
  case round=>
    obtain ⟨k,hk,rfl,hf⟩:=hrel;by_cases hlt:k<s.size
    · rw [jU _ s k hlt] at hf;have H:=Ha hf;clear hf;have e4:(((Chr.cls s[k].toNat:Nat):Int) != 4)=(Chr.cls s[k].toNat != 4):=zX _ 4;have e3:(((Chr.cls s[k].toNat:Nat):Int) != 3)=(Chr.cls s[k].toNat != 3):=zX _ 3;have HP:=Ha (show Chr.okName k s[k].toNat=(!(Chr.cls s[k].toNat != 4) || !(Chr.cls s[k].toNat != 3)&&decide (0<k)) by unfold Chr.okName;simp [bne]);rcases Nat.eq_zero_or_pos k with rfl | hi
      · skip
        cases h4:Chr.cls s[0].toNat != 4 <;> cases h3:Chr.cls s[0].toNat != 3;all_goals
          rw [h4,h3] at HP;rw [h3] at e3;rw [h4] at e4;clear h3 h4;go_wp2_with (go_at_call 208;refine (uL s[0].toNat (iY s 0 hlt) _).mono ?_;rintro e w' ⟨rfl,rfl⟩);first
            | (go_ret
               refine ⟨aJ ?_,rfl⟩;rw [HN.out,← H.out,HP.out];rfl)
            | (go_round
               case rel=>exact ⟨0+1,by omega,by go_num,by rw [← H.out,HP.out];rfl⟩
               case measure=>simp only [intOf];omega)
      · have hk0:((k:Int)==0)=false:=by rw [gJ];omega
        rw [decide_eq_true hi] at HP;cases h4:Chr.cls s[k].toNat != 4 <;> cases h3:Chr.cls s[k].toNat != 3;all_goals
          rw [h4,h3] at HP;rw [h3] at e3;rw [h4] at e4;clear h3 h4;go_wp2_with (go_at_call 208;refine (uL s[k].toNat (iY s k hlt) _).mono ?_;rintro e w' ⟨rfl,rfl⟩);first
            | (go_ret
               refine ⟨aJ ?_,rfl⟩;rw [HN.out,← H.out,HP.out];rfl)
            | (go_round
               case rel=>exact ⟨k+1,by omega,by go_num,by rw [← H.out,HP.out];rfl⟩
               case measure=>simp only [intOf];omega)
    · rw [lK _ s k hlt] at hf;have H:=Ha hf;clear hf;go_wp2_with fail;go_ret;refine ⟨aJ ?_,rfl⟩;rw [HN.out,← H.out,Bool.true_and]
end Go.Proofs.YtpidmmfjcghmeaaGreat
