/- Towards clashesWhole_upto. -/
import Derived.Test.YtpidmmfjcghmeaaGreatCs02
import Derived.Test.YtpidmmfjcghmeaaGreatCs03
import Derived.Lib.Bytealg
set_option maxRecDepth 100000
set_option maxHeartbeats 16000000
set_option linter.all false
namespace Go.Proofs.YtpidmmfjcghmeaaGreat
open Go.RowKit
theorem JP:∀ c:Fin 256,(97≤bits .or .u8 (c.val:Int) 32∧bits .or .u8 (c.val:Int) 32≤122)↔(97≤c.val∧c.val≤122∨65≤c.val∧c.val≤90):=by decide +kernel
theorem r8 (c:Nat) (hc:c<256) (h:97≤c∧c≤122∨65≤c∧c≤90):97≤bits .or .u8 (c:Int) 32∧bits .or .u8 (c:Int) 32≤122:=(JP ⟨c,hc⟩).2 h
theorem or32_no (c:Nat) (hc:c<256) (h:¬(97≤c∧c≤122∨65≤c∧c≤90)):bits .or .u8 (c:Int) 32<97∨122<bits .or .u8 (c:Int) 32:=by
 have:¬(97≤bits .or .u8 (c:Int) 32∧bits .or .u8 (c:Int) 32≤122):=mt (JP ⟨c,hc⟩).1 h;omega
theorem rZ (c:Nat) (hc:c<256) (w:World) (hs:¬Chr.Sign c∨c=95):Calls Tryz.prog 238 #[.int .u8 (c:Int)] w fun e w'=>e=.returned (.int .i64 (Chr.cls c:Nat))∧w=w':=by
 rcases Chr.cls_cases c with h | ⟨h1,h2,h3⟩ | ⟨h1,h2,h3⟩ | ⟨h1,h2,h3⟩ | ⟨h1,h3⟩
 ·rcases hs with hs | rfl
  ·exact absurd h hs
  ·go_enter Tryz.func238,Tryz.ntmps238;go_wp2;go_ret;exact ⟨rfl,rfl⟩
 ·have H:=Ha h3;clear h3;go_enter Tryz.func238,Tryz.ntmps238;go_wp2;go_ret;exact ⟨bG (by rw [H.out];rfl),rfl⟩
 ·have H:=Ha h3;clear h3;obtain ⟨o1,o2⟩:=r8 c hc (by omega);go_enter Tryz.func238,Tryz.ntmps238;go_wp2;go_ret;exact ⟨bG (by rw [H.out];rfl),rfl⟩
 ·have H:=Ha h3;clear h3;obtain ⟨o1,o2⟩:=r8 c hc (by omega);go_enter Tryz.func238,Tryz.ntmps238;go_wp2;go_ret;exact ⟨bG (by rw [H.out];rfl),rfl⟩
 ·have H:=Ha h3;clear h3;obtain ⟨hs',d1,d2,d3⟩:=h1;have h95:c≠95:=hs'.2.2.2.2.1;clear hs' hs;rcases or32_no c hc (by omega) with o | o
  all_goals
   rcases (show c<48∨57<c by omega) with k | k
   all_goals
    clear d1 d2 d3;go_enter Tryz.func238,Tryz.ntmps238;go_wp2;go_ret;exact ⟨bG (by rw [H.out];rfl),rfl⟩
theorem EI (c:Nat) (hc:c<256) (w:World):Calls Tryz.prog 182 #[.int .u8 (c:Int)] w fun e w'=>e=.returned (.int .i64 (Chr.cls c:Nat))∧w=w':=by
 rcases Chr.cls_cases c with h | h
 ·unfold Chr.Sign at h;rcases h with rfl | rfl | rfl | rfl | rfl | rfl | rfl | rfl | rfl | rfl | rfl | rfl | rfl | rfl | rfl | rfl | rfl
  all_goals
   go_enter Tryz.func182,Tryz.ntmps182;go_wp2_with (go_at_call 238;refine (rZ 95 (by omega) _ (.inr rfl)).mono ?_;rintro e w' ⟨rfl,rfl⟩);go_ret;exact ⟨rfl,rfl⟩
 ·have hs:¬Chr.Sign c:=by
   unfold Chr.Sign;rcases h with h | h | h | h
   ·omega
   ·omega
   ·omega
   ·exact fun e=>by obtain ⟨⟨h,_⟩,_⟩:=h;omega
  have HS:=Ha hs;unfold Chr.Sign at hs;simp only [not_or] at hs;obtain ⟨n1,n2,n3,n4,n5,n6,n7,n8,n9,n10,n11,n12,n13,n14,n15,n16,n17⟩:=hs;clear h;go_enter Tryz.func182,Tryz.ntmps182;go_wp2_with (go_at_call 238;refine (rZ c hc _ (.inl HS.out)).mono ?_;rintro e w' ⟨rfl,rfl⟩);go_ret;exact ⟨rfl,rfl⟩
theorem uL (c:Nat) (hc:c<256) (w:World):Calls Tryz.prog 208 #[.int .u8 (c:Int)] w fun e w'=>e=.returned (.int .i64 (Chr.cls c:Nat))∧w=w':=by
 rcases Chr.cls_cases c with h | ⟨h1,h2,h3⟩ | ⟨h1,h2,h3⟩ | ⟨h1,h2,h3⟩ | ⟨h1,h3⟩
 ·unfold Chr.Sign at h;rcases h with rfl | rfl | rfl | rfl | rfl | rfl | rfl | rfl | rfl | rfl | rfl | rfl | rfl | rfl | rfl | rfl | rfl
  all_goals
   go_enter Tryz.func208,Tryz.ntmps208;go_wp2;go_ret;exact ⟨rfl,rfl⟩
 all_goals have H:=Ha h3;clear h3
 ·skip
  have b0:((c:Int)==0)=false:=by rw [gJ];omega
  have b32:((c:Int)==32)=false:=by rw [gJ];omega
  have b9:((c:Int)==9)=false:=by rw [gJ];omega
  have b10:((c:Int)==10)=false:=by rw [gJ];omega
  have b95:((c:Int)==95)=false:=by rw [gJ];omega
  have b38:((c:Int)==38)=false:=by rw [gJ];omega
  have b124:((c:Int)==124)=false:=by rw [gJ];omega
  have b59:((c:Int)==59)=false:=by rw [gJ];omega
  have b60:((c:Int)==60)=false:=by rw [gJ];omega
  have b62:((c:Int)==62)=false:=by rw [gJ];omega
  have b40:((c:Int)==40)=false:=by rw [gJ];omega
  have b41:((c:Int)==41)=false:=by rw [gJ];omega
  have b39:((c:Int)==39)=false:=by rw [gJ];omega
  have b34:((c:Int)==34)=false:=by rw [gJ];omega
  have b92:((c:Int)==92)=false:=by rw [gJ];omega
  have b96:((c:Int)==96)=false:=by rw [gJ];omega
  have b36:((c:Int)==36)=false:=by rw [gJ];omega
  go_enter Tryz.func208,Tryz.ntmps208;go_wp2;go_ret;exact ⟨bG (by rw [H.out];rfl),rfl⟩
 ·skip
  have b0:((c:Int)==0)=false:=by rw [gJ];omega
  have b32:((c:Int)==32)=false:=by rw [gJ];omega
  have b9:((c:Int)==9)=false:=by rw [gJ];omega
  have b10:((c:Int)==10)=false:=by rw [gJ];omega
  have b95:((c:Int)==95)=false:=by rw [gJ];omega
  have b38:((c:Int)==38)=false:=by rw [gJ];omega
  have b124:((c:Int)==124)=false:=by rw [gJ];omega
  have b59:((c:Int)==59)=false:=by rw [gJ];omega
  have b60:((c:Int)==60)=false:=by rw [gJ];omega
  have b62:((c:Int)==62)=false:=by rw [gJ];omega
  have b40:((c:Int)==40)=false:=by rw [gJ];omega
  have b41:((c:Int)==41)=false:=by rw [gJ];omega
  have b39:((c:Int)==39)=false:=by rw [gJ];omega
  have b34:((c:Int)==34)=false:=by rw [gJ];omega
  have b92:((c:Int)==92)=false:=by rw [gJ];omega
  have b96:((c:Int)==96)=false:=by rw [gJ];omega
  have b36:((c:Int)==36)=false:=by rw [gJ];omega
  go_enter Tryz.func208,Tryz.ntmps208;go_wp2;go_ret;exact ⟨bG (by rw [H.out];rfl),rfl⟩
 ·skip
  have b0:((c:Int)==0)=false:=by rw [gJ];omega
  have b32:((c:Int)==32)=false:=by rw [gJ];omega
  have b9:((c:Int)==9)=false:=by rw [gJ];omega
  have b10:((c:Int)==10)=false:=by rw [gJ];omega
  have b95:((c:Int)==95)=false:=by rw [gJ];omega
  have b38:((c:Int)==38)=false:=by rw [gJ];omega
  have b124:((c:Int)==124)=false:=by rw [gJ];omega
  have b59:((c:Int)==59)=false:=by rw [gJ];omega
  have b60:((c:Int)==60)=false:=by rw [gJ];omega
  have b62:((c:Int)==62)=false:=by rw [gJ];omega
  have b40:((c:Int)==40)=false:=by rw [gJ];omega
  have b41:((c:Int)==41)=false:=by rw [gJ];omega
  have b39:((c:Int)==39)=false:=by rw [gJ];omega
  have b34:((c:Int)==34)=false:=by rw [gJ];omega
  have b92:((c:Int)==92)=false:=by rw [gJ];omega
  have b96:((c:Int)==96)=false:=by rw [gJ];omega
  have b36:((c:Int)==36)=false:=by rw [gJ];omega
  go_enter Tryz.func208,Tryz.ntmps208;go_wp2;go_ret;exact ⟨bG (by rw [H.out];rfl),rfl⟩
 ·obtain ⟨⟨n1,n2,n3,n4,n5,n6,n7,n8,n9,n10,n11,n12,n13,n14,n15,n16,n17⟩,d1,d2,d3⟩:=h1;have cs:c<48∨57<c∧c<65∨90<c∧c<97∨122<c:=by omega
  have b0:((c:Int)==0)=false:=by rw [gJ];omega
  have b32:((c:Int)==32)=false:=by rw [gJ];omega
  have b9:((c:Int)==9)=false:=by rw [gJ];omega
  have b10:((c:Int)==10)=false:=by rw [gJ];omega
  have b95:((c:Int)==95)=false:=by rw [gJ];omega
  have b38:((c:Int)==38)=false:=by rw [gJ];omega
  have b124:((c:Int)==124)=false:=by rw [gJ];omega
  have b59:((c:Int)==59)=false:=by rw [gJ];omega
  have b60:((c:Int)==60)=false:=by rw [gJ];omega
  have b62:((c:Int)==62)=false:=by rw [gJ];omega
  have b40:((c:Int)==40)=false:=by rw [gJ];omega
  have b41:((c:Int)==41)=false:=by rw [gJ];omega
  have b39:((c:Int)==39)=false:=by rw [gJ];omega
  have b34:((c:Int)==34)=false:=by rw [gJ];omega
  have b92:((c:Int)==92)=false:=by rw [gJ];omega
  have b96:((c:Int)==96)=false:=by rw [gJ];omega
  have b36:((c:Int)==36)=false:=by rw [gJ];omega
  clear n1 n2 n3 n4 n5 n6 n7 n8 n9 n10 n11 n12 n13 n14 n15 n16 n17;rcases cs with k | k | k | k
  all_goals
   clear d1 d2 d3;go_enter Tryz.func208,Tryz.ntmps208;go_wp2;go_ret;exact ⟨bG (by rw [H.out];rfl),rfl⟩
theorem pQ (s:ByteArray) (c:Int) (w:World):Calls Tryz.prog 252 #[.string s,.int .u8 c] w fun e w'=>e=.returned (.int .i64 (Lib.indexByte s.toList c.toNat.toUInt8))∧w=w':=by
 go_enter Tryz.func252,Tryz.ntmps252;go_wp2;rw [run_callFunc_extern Tryz.func266 (by kernel_rfl) (by kernel_rfl) (by kernel_rfl) (e:=Extern.BytealgIndexByte.indexByte) (by kernel_rfl),Lib.run_indexByteString];simp only [Result.andThen];rw [Oper.upon_value];go_wp2;go_ret;exact ⟨bG (by rw [Lib.toList_data]),rfl⟩
theorem rJ (s:ByteArray) (c:Int) (w:World):Calls Tryz.prog 235 #[.string s,.int .u8 c] w fun e w'=>e=.returned (.int .i64 (Lib.indexByte s.toList c.toNat.toUInt8))∧w=w':=by
 go_enter Tryz.func235,Tryz.ntmps235;go_wp2_with (go_at_call 252;refine (pQ _ _ _).mono ?_;rintro e w' ⟨rfl,rfl⟩);go_ret;exact ⟨rfl,rfl⟩
theorem jU (p:Nat→Nat→Bool) (s:ByteArray) (k:Nat) (h:k<s.size):Chr.allFrom p k (s.toList.drop k)=(p k s[k].toNat&&Chr.allFrom p (k+1) (s.toList.drop (k+1))):=by
 rw [Chr.allFrom_drop p s.toList k (by rw [← aT];exact h),jA s k h]
theorem lK (p:Nat→Nat→Bool) (s:ByteArray) (k:Nat) (h:¬k<s.size):Chr.allFrom p k (s.toList.drop k)=true:=Chr.allFrom_end p s.toList k (by rw [← aT];exact h)
theorem iY (s:ByteArray) (k:Nat) (h:k<s.size):s[k].toNat<256:=s[k].toNat_lt
theorem uH (s:ByteArray) (w:World) (hm:s.size≤9223372036854775807):Calls Tryz.prog 211 #[.string s] w fun e w'=>e=.returned (.bool (Chr.ascii s.toList))∧w=w':=by
 go_enter Tryz.func211,Tryz.ntmps211;go_wp2_with fail
 go_loop [3,6] (fun _ i=>∃ k:Nat,k≤s.size∧i=.int .i64 k∧Chr.allFrom Chr.okAscii k (s.toList.drop k)=Chr.ascii s.toList) (fun _ i=>s.size-(intOf i).toNat)
 case atStart=>exact ⟨0,by omega,rfl,rfl⟩
 case round=>
  obtain ⟨k,hk,rfl,hf⟩:=hrel;by_cases hlt:k<s.size
  ·rw [jU _ s k hlt] at hf;have H:=Ha hf;clear hf;by_cases ha:s[k].toNat<128
   ·go_wp2_with fail
    go_round
    case rel=>
     refine ⟨k+1,by omega,by go_num, ?_⟩;rw [← H.out,Chr.okAscii,yD ha,Bool.true_and]
    case measure=>simp only [intOf];omega
   ·go_wp2_with fail;go_ret;refine ⟨aJ ?_,rfl⟩;rw [← H.out,Chr.okAscii,yE ha,Bool.false_and]
  ·rw [lK _ s k hlt] at hf;have H:=Ha hf;clear hf;go_wp2_with fail;go_ret;exact ⟨aJ H.out,rfl⟩
theorem AG (c k:Nat):(((Chr.cls c:Nat):Int)==(k:Int))=(Chr.cls c==k):=by
 by_cases h:Chr.cls c=k
 ·rw [h];simp
 ·rw [beq_eq_false_iff_ne.2 h,beq_eq_false_iff_ne.2 (by omega)]
theorem FE (i c:Nat) (hc:c<256) (w:World):Calls Tryz.prog 213 #[.int .i64 (i:Int),.int .u8 (c:Int)] w fun e w'=>e=.returned (.bool (Chr.okName i c))∧w=w':=by
 have e4:=AG c 4;have e3:=AG c 3;have H:Hid (Chr.okName i c=(Chr.cls c==4||Chr.cls c==3&&decide (0<i))):=rfl;cases h4:Chr.cls c==4 <;> cases h3:Chr.cls c==3 <;> rcases Nat.eq_zero_or_pos i with rfl | hi
 all_goals
  simp only [h4,h3] at e4 e3;have e4':(((Chr.cls c:Nat):Int)==4)=_:=e4;have e3':(((Chr.cls c:Nat):Int)==3)=_:=e3;clear e4 e3;have H4:=Ha h4;have H3:=Ha h3;clear h4 h3;go_enter Tryz.func213,Tryz.ntmps213;go_wp2_with (go_at_call 182;refine (EI c hc _).mono ?_;rintro e w' ⟨rfl,rfl⟩);go_ret;refine ⟨aJ ?_,rfl⟩;rw [H.out,H4.out,H3.out];first | rfl | (rw [yD hi];rfl)
theorem zO (s:ByteArray) (k:Nat) (h:Chr.ascii s.toList=true) (hk:k<s.size):s[k].toNat<128:=by
 have:=Chr.allFrom_at 0 s.toList h k (by rw [← aT];exact hk);rw [jA s k hk] at this
 simpa [Chr.okAscii] using this
theorem wV (s:ByteArray) (w:World) (hm:s.size≤9223372036854775807) (hasc:Chr.ascii s.toList=true):
  Calls Tryz.prog 212 #[.string s,.func (Fn.func 213) #[] #[]] w fun e w'=>e=.returned (.bool (Chr.allFrom Chr.okName 0 s.toList && !s.toList.isEmpty))∧Below w.heap.size w w':=by
 have hempty:(!s.toList.isEmpty)=decide (0<s.size):=by
  rw [aT];cases s.toList <;> simp
 have HE:=Ha hempty;clear hempty;go_enter Tryz.func212,Tryz.ntmps212;go_wp2_with fail
 go_loopw [5] (fun _ wr=>∃ k:Nat,k≤s.size∧wr=w.iter s k∧Chr.allFrom Chr.okName k (s.toList.drop k)=Chr.allFrom Chr.okName 0 s.toList) (fun _ wr=>s.size-wr.iterPos w.heap.size)
 case atStart=>exact ⟨0,by omega,rfl,rfl⟩
 case round=>
  obtain ⟨k,hk,rfl,hf⟩:=hrel;by_cases hlt:k<s.size
  ·rw [jU _ s k hlt] at hf;have H:=Ha hf;clear hf;have hnx:∀ ty,(Instr.next (.pointer (some ⟨w.heap.size,0,none⟩)) true ty).run Tryz.prog (w.iter s k)=_:=fun ty=>run_next_ascii w s k ty hlt (zO s k hasc hlt);obtain ⟨b,hb⟩:∃ b,Chr.okName k s[k].toNat=b:=⟨_,rfl⟩;cases b;all_goals
    go_wp2_with (go_at_call 213;refine (FE k s[k].toNat (iY s k hlt) _).mono ?_;rintro e w' ⟨rfl,rfl⟩)
   ·go_ret;refine ⟨aJ ?_,(gR _ _).alloc (gO _) _⟩;rw [← H.out,hb];rfl
   ·go_roundw
    case rel=>exact ⟨k+1,by omega,rfl,by rw [← H.out,hb];rfl⟩
    case measure=>simp only [World.iterPos_iter];omega
  ·rw [lK _ s k hlt] at hf;have H:=Ha hf;clear hf;have hnx:∀ ty,(Instr.next (.pointer (some ⟨w.heap.size,0,none⟩)) true ty).run Tryz.prog (w.iter s k)=_:=fun ty=>run_next_end w s k ty hlt;go_wp2_with fail;go_ret;refine ⟨aJ ?_,(gR _ _).alloc (gO _) _⟩;rw [← H.out,Bool.true_and]
theorem CJ (s:ByteArray) (w:World) (hm:s.size≤9223372036854775807):Calls Tryz.prog 144 #[.string s] w fun e w'=>e=.returned (.bool (Chr.name s.toList))∧Below w.heap.size w w':=by
 cases ha:Chr.ascii s.toList
 ·go_enter Tryz.func144,Tryz.ntmps144;go_wp2_with (go_at_call 211;refine (uH s _ hm).mono ?_;rintro e w' ⟨rfl,rfl⟩);go_ret;refine ⟨aJ ?_,gR _ _⟩;cases h:Chr.name s.toList
  ·rfl
  ·rw [Chr.name_ascii _ h] at ha;cases ha
 ·have HA:=Ha ha;go_enter Tryz.func144,Tryz.ntmps144;go_wp2_with (first
   | (go_at_call 211;refine (uH s _ hm).mono ?_;rintro e w' ⟨rfl,rfl⟩)
   | (go_at_call 212;refine (wV s _ hm HA.out).mono ?_;rintro e w' ⟨rfl,hb⟩))
  go_ret;exact ⟨rfl,hb⟩
theorem eV (s:ByteArray):s.toList.isEmpty=decide (s.size=0):=by
 rw [aT];cases s.toList <;> simp
theorem eW (a k:Nat):(((a:Nat):Int) != (k:Int))=(a != k):=by
 by_cases h:a=k
 ·rw [h];simp
 ·rw [bne_iff_ne.2 h,bne_iff_ne.2 (by omega)]
theorem AI (c k:Nat):(((Chr.cls c:Nat):Int) != (k:Int))=(Chr.cls c != k):=eW _ _
theorem IK (s:ByteArray) (w:World) (hm:s.size≤9223372036854775807):Calls Tryz.prog 137 #[.string s] w fun e w'=>e=.returned (.bool (Chr.name s.toList))∧w=w':=by
 have hfin:Chr.name s.toList=(Chr.allFrom Chr.okName 0 s.toList&&decide (0<s.size)):=by
  unfold Chr.name;rw [eV];congr 1;by_cases h:s.size=0 <;> simp [h];omega
 have HN:=Ha hfin;clear hfin;go_enter Tryz.func137,Tryz.ntmps137;go_wp2_with fail
 go_loop [3,4] (fun i _=>∃ k:Nat,k≤s.size∧i=.int .i64 k∧Chr.allFrom Chr.okName k (s.toList.drop k)=Chr.allFrom Chr.okName 0 s.toList) (fun i _=>s.size-(intOf i).toNat)
 case atStart=>exact ⟨0,by omega,rfl,rfl⟩
 case round=>
  obtain ⟨k,hk,rfl,hf⟩:=hrel;by_cases hlt:k<s.size
  ·rw [jU _ s k hlt] at hf;have H:=Ha hf;clear hf;have e4:(((Chr.cls s[k].toNat:Nat):Int) != 4)=(Chr.cls s[k].toNat != 4):=AI _ 4;have e3:(((Chr.cls s[k].toNat:Nat):Int) != 3)=(Chr.cls s[k].toNat != 3):=AI _ 3;have HP:=Ha (show Chr.okName k s[k].toNat=(!(Chr.cls s[k].toNat != 4) || !(Chr.cls s[k].toNat != 3)&&decide (0<k)) by unfold Chr.okName;simp [bne]);rcases Nat.eq_zero_or_pos k with rfl | hi
   ·skip
    cases h4:Chr.cls s[0].toNat != 4 <;> cases h3:Chr.cls s[0].toNat != 3;all_goals
     rw [h4,h3] at HP;rw [h3] at e3;rw [h4] at e4;clear h3 h4;go_wp2_with (go_at_call 208;refine (uL s[0].toNat (iY s 0 hlt) _).mono ?_;rintro e w' ⟨rfl,rfl⟩);first
      | (go_ret
         refine ⟨aJ ?_, rfl⟩;rw [HN.out, ← H.out, HP.out]; rfl)
      | (go_round
         case rel => exact ⟨0 + 1, by omega, by go_num, by rw [← H.out, HP.out]; rfl⟩
         case measure => simp only [intOf]; omega)
   ·have hk0:((k:Int)==0)=false:=by rw [gJ];omega
    rw [yD hi] at HP;cases h4:Chr.cls s[k].toNat != 4 <;> cases h3:Chr.cls s[k].toNat != 3;all_goals
     rw [h4,h3] at HP;rw [h3] at e3;rw [h4] at e4;clear h3 h4;go_wp2_with (go_at_call 208;refine (uL s[k].toNat (iY s k hlt) _).mono ?_;rintro e w' ⟨rfl,rfl⟩);first
      | (go_ret
         refine ⟨aJ ?_, rfl⟩;rw [HN.out, ← H.out, HP.out]; rfl)
      | (go_round
         case rel => exact ⟨k + 1, by omega, by go_num, by rw [← H.out, HP.out]; rfl⟩
         case measure => simp only [intOf]; omega)
  ·rw [lK _ s k hlt] at hf;have H:=Ha hf;clear hf;go_wp2_with fail;go_ret;refine ⟨aJ ?_,rfl⟩;rw [HN.out,← H.out,Bool.true_and]
def eI (c:Nat):Bool:=decide (33≤c)&&decide (c≤126) && !(c==39)
def spanN (p:Nat→Bool) (l:List UInt8):Nat:=(l.takeWhile fun b=>p b.toNat).length
theorem sI (p:Nat→Bool) (l:List UInt8):spanN p l≤l.length:=List.IsPrefix.length_le (List.takeWhile_prefix _)
theorem mP (p:Nat→Bool) (s:ByteArray) (n:Nat) (h:n<s.size):spanN p (s.toList.drop n)=if p s[n].toNat then 1+spanN p (s.toList.drop (n+1)) else 0:=by
 have hl:n<s.toList.length:=by rw [← aT];exact h
 unfold spanN;rw [List.drop_eq_getElem_cons hl,List.takeWhile_cons,jA s n h]
 split
 ·rw [gG];omega
 ·rfl
theorem oV (p:Nat→Bool) (s:ByteArray) (n:Nat) (h:s.size≤n):spanN p (s.toList.drop n)=0:=by
 rw [List.drop_eq_nil_of_le (by rw [← aT];exact h)];rfl
def quotedB (l:List UInt8):Bool:=
 l[0]? == some 39&&decide (1≤spanN eI (l.drop 1))&&l[spanN eI (l.drop 1)+1]? == some 39&&decide (spanN eI (l.drop 1)+2≤24)&&decide (spanN eI (l.drop 1)+2=l.length)
theorem kQ (s:ByteArray) (n:Nat) (h:n<s.size) (c:UInt8):(s.toList[n]? == some c)=(s[n].toNat==c.toNat):=by
 rw [get?_list s n h];by_cases hc:s[n]=c
 ·rw [hc];simp
 ·rw [beq_eq_false_iff_ne.2 (fun e=>hc (Option.some.inj e)),beq_eq_false_iff_ne.2 (fun e=>hc (UInt8.toNat_inj.1 e))]
theorem rO (c:Nat) (w:World):
  Calls Tryz.prog 209 #[.int .u8 c] w fun e w'=>e=.returned (.bool (eI c))∧w'=w:=by
 have HT:=Ha (show eI c=(decide (33≤c)&&decide (c≤126) && !(c==39)) from rfl);go_enter Tryz.func209,Tryz.ntmps209;by_cases h1:33≤c
 ·by_cases h2:c≤126
  ·go_wp2_with fail;go_ret;exact ⟨aJ (by rw [HT.out,yD (show 33≤c by omega),yD (show c≤126 by omega)];exact eW c 39),rfl⟩
  ·go_wp2_with fail;go_ret;exact ⟨by first | (simp [HT.out];omega) | (rw [HT.out];simp;omega),rfl⟩
 ·go_wp2_with fail;go_ret;exact ⟨by first | (simp [HT.out];omega) | (rw [HT.out];simp;omega),rfl⟩
theorem BW (c:Nat) (w:World):
  Calls Tryz.prog 214 #[.int .u8 c] w fun e w'=>e=.returned (.bool (eI c))∧w'=w:=by
 have HT:=Ha (show eI c=(decide (33≤c)&&decide (c≤126) && !(c==39)) from rfl);go_enter Tryz.func214,Tryz.ntmps214;by_cases h1:33≤c
 ·by_cases h2:c≤126
  ·go_wp2_with fail;go_ret;exact ⟨aJ (by rw [HT.out,yD (show 33≤c by omega),yD (show c≤126 by omega)];exact eW c 39),rfl⟩
  ·go_wp2_with fail;go_ret;exact ⟨by first | (simp [HT.out];omega) | (rw [HT.out];simp;omega),rfl⟩
 ·go_wp2_with fail;go_ret;exact ⟨by first | (simp [HT.out];omega) | (rw [HT.out];simp;omega),rfl⟩
theorem CV (s:ByteArray) (w:World) (hm:s.size≤9223372036854775800) (h0:0<s.size) (h39:s[0].toNat=39):
  Calls Tryz.prog 138 #[.string s,.int .i64 0] w fun e w'=>(∃ n e1 e2:Int,e=.returned (.tuple #[.int .i64 n,.agg #[.int .i64 e1,.int .i64 e2]])∧(decide (e1=0)&&decide (n=s.size))=quotedB s.toList)∧Below w.heap.size w w':=by
 have hb:Below w.heap.size w (w.alloc (.cells #[.int .i64 0,.int .i64 0] 233)):=(gR _ _).alloc (gO _) _;have q:=aC w (.cells #[.int .i64 0,.int .i64 0] 233);generalize hW:w.alloc (.cells #[.int .i64 0,.int .i64 0] 233)=W at *;have y0:=aA q 0 _ rfl;have y1:=aA q 1 _ rfl;have f0:∀ j,W.frozen? ⟨w.heap.size,j,none⟩=false:=fun j=>by simp [World.frozen?,q]
 have HQ:=Ha (show quotedB s.toList=(decide (1≤spanN eI (s.toList.drop 1))&&s.toList[spanN eI (s.toList.drop 1)+1]? == some 39&&decide (spanN eI (s.toList.drop 1)+2≤24)&&decide (spanN eI (s.toList.drop 1)+2=s.size)) by
  unfold quotedB;rw [kQ s 0 h0,h39,← aT];rfl)
 have HB:=Ha hb;have HS:=Ha (show ∀ a b:Int,(((W.setCell ⟨w.heap.size,0,none⟩ (.int .i64 a)).setCell ⟨w.heap.size,1,none⟩ (.int .i64 b)).cell? ⟨w.heap.size,0,none⟩=some (.int .i64 a)∧((W.setCell ⟨w.heap.size,0,none⟩ (.int .i64 a)).setCell ⟨w.heap.size,1,none⟩ (.int .i64 b)).cell? ⟨w.heap.size,1,none⟩=some (.int .i64 b))∧Below w.heap.size w ((W.setCell ⟨w.heap.size,0,none⟩ (.int .i64 a)).setCell ⟨w.heap.size,1,none⟩ (.int .i64 b)) from fun a b=>
  ⟨⟨by simp [World.cell?,World.setCell,Array.getElem?_modify,q],by simp [World.cell?,World.setCell,Array.getElem?_modify,q]⟩,(hb.setCell (gO _) _).setCell (gO _) _⟩)
 clear hb q;have hsp:=sI eI (s.toList.drop 1);rw [List.length_drop,← aT] at hsp;generalize hT:spanN eI (s.toList.drop 1)=t at HQ hsp;have HT:=Ha hT;clear hT h39;go_enter Tryz.func138,Tryz.ntmps138;go_wp2
 go_loopw [6] (fun i wr=>∃ (n:Nat),1≤n∧n≤s.size∧i=.int .i64 n∧n+spanN eI (s.toList.drop n)=1+t∧wr=W) (fun i _=>s.size-(intOf i).toNat)
 case atStart=>exact ⟨1,by omega,by omega,rfl,by rw [HT.out],rfl⟩
 case round=>
  obtain ⟨n,hn1,hn,rfl,hi,rfl⟩:=hrel;by_cases hlt:n<s.size
  ·have hst:=mP eI s n hlt;have hbl:=iY s n hlt;cases hin:eI s[n].toNat
   ·rw [hin,if_neg (by decide)] at hst;have hnt:n=t+1:=by omega
    have HQn:=Ha (show quotedB s.toList=(decide (2≤n)&&(s[n].toNat==39)&&decide (n+1≤24)&&decide (n+1=s.size)) by
     rw [HQ.out,← hnt,kQ s n hlt,show t+2=n+1 by omega]
     congr 3
     rw [Bool.eq_iff_iff,decide_eq_true_iff,decide_eq_true_iff];omega)
    have HI:=Ha (rO s[n].toNat);rw [hin] at HI;clear hst hnt hi hin;have e39:((s[n].toNat:Int) != 39)=(s[n].toNat != 39):=eW _ 39;cases hc:s[n].toNat != 39
    ·rw [hc] at e39;have hcc:=Ha (show (s[n].toNat==39)=true by simpa using hc);clear hc;by_cases hn2:n=1
     ·subst hn2;have hF:=Ha (show (decide ((2:Int)=0)&&decide ((0:Int)=s.size))=quotedB s.toList by
       rw [HQn.out];simp)
      obtain ⟨⟨r0,r1⟩,r2⟩:=HS.out 2 1;go_wp2_with (go_at_call 209;refine (HI.out _).mono ?_;rintro e w' ⟨rfl,rfl⟩);refine bodyPost_ret (v:=.tuple #[.int .i64 (0),.agg #[.int .i64 2,.int .i64 1]]) (by simp [results,Tryz.results138,go_sem,r0,r1]) rfl ?_;exact ⟨⟨0,2,1,rfl,hF.out⟩,r2⟩
     ·by_cases hn3:24<n+1
      ·have hn4:(24:Int)<(n:Int)+1:=by omega
       have hF:=Ha (show (decide ((5:Int)=0)&&decide ((0:Int)=s.size))=quotedB s.toList by
        rw [HQn.out,yE (show ¬n+1≤24 by omega)];simp)
       obtain ⟨⟨r0,r1⟩,r2⟩:=HS.out 5 0;go_wp2_with (go_at_call 209;refine (HI.out _).mono ?_;rintro e w' ⟨rfl,rfl⟩);refine bodyPost_ret (v:=.tuple #[.int .i64 (0),.agg #[.int .i64 5,.int .i64 0]]) (by simp [results,Tryz.results138,go_sem,r0,r1]) rfl ?_;exact ⟨⟨0,5,0,rfl,hF.out⟩,r2⟩
      ·have hn4:¬(24:Int)<(n:Int)+1:=by omega
       have hF:=Ha (show (decide ((0:Int)=0)&&decide (((n:Int)+1:Int)=s.size))=quotedB s.toList by
        rw [HQn.out,yD (show 2≤n by omega),yD (show n+1≤24 by omega),hcc.out];rw [Bool.eq_iff_iff];simp;omega)
       obtain ⟨⟨r0,r1⟩,r2⟩:=HS.out 0 0;go_wp2_with (go_at_call 209;refine (HI.out _).mono ?_;rintro e w' ⟨rfl,rfl⟩);refine bodyPost_ret (v:=.tuple #[.int .i64 ((n:Int)+1),.agg #[.int .i64 0,.int .i64 0]]) (by simp [results,Tryz.results138,go_sem,r0,r1]) rfl ?_;exact ⟨⟨(n:Int)+1,0,0,rfl,hF.out⟩,r2⟩
    ·rw [hc] at e39;have hF:=Ha (show (decide ((2:Int)=0)&&decide ((0:Int)=s.size))=quotedB s.toList by
      rw [HQn.out,beq_eq_false_iff_ne.2 (by simpa using hc)];simp)
     obtain ⟨⟨r0,r1⟩,r2⟩:=HS.out 2 (n:Int);clear hc;go_wp2_with (go_at_call 209;refine (HI.out _).mono ?_;rintro e w' ⟨rfl,rfl⟩);refine bodyPost_ret (v:=.tuple #[.int .i64 0,.agg #[.int .i64 2,.int .i64 n]]) (by simp [results,Tryz.results138,go_sem,r0,r1]) rfl ?_;exact ⟨⟨0,2,n,rfl,hF.out⟩,r2⟩
   ·rw [hin,if_pos rfl] at hst;have HI:=Ha (rO s[n].toNat);rw [hin] at HI;have HN:=Ha (show n+1+spanN eI (s.toList.drop (n+1))=1+t by omega);clear hst hi hin;go_wp2_with (go_at_call 209;refine (HI.out _).mono ?_;rintro e w' ⟨rfl,rfl⟩)
    go_roundw
    case rel=>exact ⟨n+1,by omega,by omega,by go_num,HN.out,by first | rfl | trivial⟩
    case measure=>simp only [intOf];omega
  ·have hz:=oV eI s n (by omega);have hF:=Ha (show (decide ((4:Int)=0)&&decide ((0:Int)=s.size))=quotedB s.toList by
    have ht:t+2≠s.size:=by omega
    rw [HQ.out,yE ht];simp)
   obtain ⟨⟨r0,r1⟩,r2⟩:=HS.out 4 s.size;clear hi hz;go_wp2_with fail;refine bodyPost_ret (v:=.tuple #[.int .i64 (0),.agg #[.int .i64 4,.int .i64 s.size]]) (by simp [results,Tryz.results138,go_sem,r0,r1]) rfl ?_;exact ⟨⟨0,4,s.size,rfl,hF.out⟩,r2⟩
theorem kI:quotedB []=false:=rfl
theorem mK (s:ByteArray) (h0:0<s.size) (h:(s[0].toNat != 39)=true):quotedB s.toList=false:=by
 unfold quotedB;rw [kQ s 0 h0,beq_eq_false_iff_ne.2 (by simpa using h)];rfl
theorem kG (s:ByteArray) (h:s.size=0):s.toList=[]:=yM (by rw [← aT];exact h)
theorem zE (s:ByteArray) (w:World) (hm:s.size≤9223372036854775800):
  Calls Tryz.prog 72 #[.string s] w fun e w'=>e=.returned (.bool (quotedB s.toList))∧Below w.heap.size w w':=by
 by_cases h0:s.size=0
 ·have hE:s.toList.isEmpty=true:=by rw [eV];exact yD h0
  have hq:=Ha (show quotedB s.toList=false by rw [kG s h0,kI]);clear h0;go_enter Tryz.func72,Tryz.ntmps72;go_wp2_with fail;go_ret;exact ⟨by first | (rw [hq.out];done) | (rw [hq.out];rfl),gR _ _⟩
 have hp:0<s.size:=by omega
 have hE:s.toList.isEmpty=false:=by rw [eV];exact yE h0
 have e39:((s[0].toNat:Int) != 39)=(s[0].toNat != 39):=eW _ 39;cases hc:s[0].toNat != 39
 ·rw [hc] at e39;have HC:=Ha (CV s w hm hp (by simpa using hc));clear hc h0;go_enter Tryz.func72,Tryz.ntmps72;go_wp2_with fail;refine (HC.out).mono ?_;rintro e w1 ⟨⟨n,e1,e2,rfl,hq⟩,hb⟩;have hB:=Ha (hb.alloc hb.size (.cells #[.int .i64 e1,.int .i64 e2] 233));have HQ:=Ha hq;clear hb hq;by_cases h1:e1=0
  ·subst h1;by_cases h2:n=s.size
   ·subst h2;have he:=Ha (show quotedB s.toList=true by rw [← HQ.out];simp);go_wp2_with fail;go_ret;exact ⟨by first | (rw [he.out];done) | (rw [he.out];rfl),hB.out⟩
   ·have he:=Ha (show quotedB s.toList=false by rw [← HQ.out];simp [h2]);have h3:(n==(s.size:Int))=false:=beq_eq_false_iff_ne.2 h2;go_wp2_with fail;go_ret;exact ⟨by first | (rw [he.out];done) | (rw [he.out];rfl),hB.out⟩
  ·have he:=Ha (show quotedB s.toList=false by rw [← HQ.out];simp [h1]);go_wp2_with fail;go_ret;exact ⟨by first | (rw [he.out];done) | (rw [he.out];rfl),hB.out⟩
 ·rw [hc] at e39;have hq:=Ha (mK s hp hc);clear hc h0;go_enter Tryz.func72,Tryz.ntmps72;go_wp2_with fail;go_ret;exact ⟨by first | (rw [hq.out];done) | (rw [hq.out];rfl),gR _ _⟩
def JZ (fn:Nat) (p:Nat→Bool):Prop:=∀ (c:Nat) (w:World),c<256→Calls Tryz.prog fn #[.int .u8 c] w fun e w'=>e=.returned (.bool (p c))∧w'=w
def uB (fn:Nat):Prop:=∀ (args:Array Value) (w:World),(callFunc fn args).run Tryz.prog w=.ok (.enter fn args) w
theorem pH:uB 214:=fun args w=>by simp [callFunc,go_sem,Tryz.func214,Tryz.f214]
theorem IX (s:ByteArray) (k:Nat) (fn:Nat) (p:Nat→Bool) (w:World) (hm:s.size≤9223372036854775800) (hk:k≤s.size) (hent:uB fn) (hf:JZ fn p):
  Calls Tryz.prog 179 #[.string s,.int .i64 k,.func (.func fn) #[] #[]] w fun e w'=>e=.returned (.int .i64 (spanN p (s.toList.drop k)))∧w'=w:=by
 have HE:=Ha hent;have HF:=Ha hf;have hsp:=sI p (s.toList.drop k);rw [List.length_drop,← aT] at hsp;generalize hT:spanN p (s.toList.drop k)=t at *;have HT:=Ha hT;clear hent hf hT;go_enter Tryz.func179,Tryz.ntmps179;go_wp2
 go_loopw [7] (fun i wr=>∃ (n:Nat),n≤t∧i=.int .i64 n∧n+spanN p (s.toList.drop (k+n))=t∧wr=w) (fun i _=>t-(intOf i).toNat)
 case atStart=>exact ⟨0,by omega,rfl,by rw [Nat.add_zero,HT.out,Nat.zero_add],rfl⟩
 case round=>
  obtain ⟨n,hn,rfl,hi,rfl⟩:=hrel;by_cases hlt:k+n<s.size
  ·have hst:=mP p s (k+n) hlt;have hbl:=iY s (k+n) hlt;have hlt':(k:Int)+(n:Int)<(s.size:Int):=by omega
   cases hin:p s[k+n].toNat
   ·rw [hin,if_neg (by decide)] at hst;have HN:=Ha (show (n:Int)=(t:Int) by omega);have HI:=Ha (HF.out s[k+n].toNat wr hbl);rw [hin] at HI;clear hst hi hin;go_wp2_with fail;rw [HE.out,Oper.upon_enter];refine HI.out.mono ?_;rintro e w' ⟨rfl,rfl⟩;go_wp2_with fail;go_ret;exact ⟨bG HN.out,rfl⟩
   ·rw [hin,if_pos rfl] at hst;have HN:=Ha (show n+1+spanN p (s.toList.drop (k+(n+1)))=t by rw [← Nat.add_assoc];omega);have hnt:n<t:=by omega
    have HI:=Ha (HF.out s[k+n].toNat wr hbl);rw [hin] at HI;clear hst hi hin;go_wp2_with fail;rw [HE.out,Oper.upon_enter];refine HI.out.mono ?_;rintro e w' ⟨rfl,rfl⟩;go_wp2_with fail
    go_roundw
    case rel=>exact ⟨n+1,by omega,by go_num,HN.out,by first | rfl | trivial⟩
    case measure=>simp only [intOf];omega
  ·have hz:=oV p s (k+n) (by omega);have HN:=Ha (show (n:Int)=(t:Int) by omega);clear hi hz;go_wp2_with fail;go_ret;exact ⟨bG HN.out,rfl⟩
theorem CU (s:ByteArray) (w:World) (hm:s.size≤9223372036854775800) (hq:quotedB s.toList=true):
  Calls Tryz.prog 145 #[.string s,.int .i64 0] w fun e w'=>e=.returned (.tuple #[.int .i64 s.size,.nilIface])∧w'=w:=by
 unfold quotedB at hq;simp only [yF,decide_eq_true_eq] at hq;obtain ⟨⟨⟨⟨h1,h2⟩,h3⟩,h4⟩,h5⟩:=hq;rw [← aT] at h5;have h0:0<s.size:=by omega
 have HS:=Ha (IX s 1 214 eI w hm (by omega) pH (fun c w _=>BW c w));generalize spanN eI (s.toList.drop 1)=t at *;rw [kQ s (t+1) (by omega)] at h3;have e39:((s[t+1].toNat:Int) != 39)=false:=(eW _ 39).trans (by simpa using h3);have e39':((s[1+t].toNat:Int) != 39)=false:=by rw [← e39];congr 4;omega
 have HE:=Ha (show (1:Int)+(t:Int)+1=(s.size:Int) by omega);have hlt:¬(s.size:Int)≤1+(t:Int):=by omega
 have hlt2:¬(24:Int)≤1+(t:Int):=by omega
 have hsz:1+t<s.size:=by omega
 have ht1:((1:Int)+(t:Int)==1)=false:=beq_eq_false_iff_ne.2 (by omega);clear h1 h3;go_enter Tryz.func145,Tryz.ntmps145;go_wp2_with fail;refine (HS.out).mono ?_;rintro e w1 ⟨rfl,rfl⟩;go_wp2_with fail;refine bodyPost_ret (v:=.tuple #[.int .i64 (1+(t:Int)+1),.nilIface]) (by simp [results,Tryz.results145,go_sem]) rfl ?_;exact ⟨by rw [← HE.out],rfl⟩
theorem zD (s:ByteArray) (w:World) (hm:s.size≤9223372036854775800) (hq:quotedB s.toList=true):
  Calls Tryz.prog 79 #[.string s] w fun e w'=>e=.returned (.bool true)∧w'=w:=by
 have HC:=Ha (CU s w hm hq);have h0:0<s.size:=by
  rcases Nat.eq_zero_or_pos s.size with h | h
  ·rw [kG s h,kI] at hq;exact absurd hq (by decide)
  ·exact h
 have hE:s.toList.isEmpty=false:=by rw [eV];exact yE (by omega)
 have e39:((s[0].toNat:Int) != 39)=false:=(eW _ 39).trans (by
  cases hc:s[0].toNat != 39
  ·rfl
  ·rw [mK s h0 hc] at hq;exact absurd hq (by decide))
 clear hq;go_enter Tryz.func79,Tryz.ntmps79;go_wp2_with fail;refine (HC.out).mono ?_;rintro e w1 ⟨rfl,rfl⟩;go_wp2_with fail;go_ret;exact ⟨rfl,rfl⟩
end Go.Proofs.YtpidmmfjcghmeaaGreat
