/- Towards unparseHeres_card. -/
import Derived.Test.YtjpopekmbmcggaaGreatDoorUh03
import Derived.Test.YtjpopekmbmcggaaGreatDoorUh06
import Derived.Deep.RegionWith
import Derived.Laws.BytesArg
set_option maxRecDepth 100000
set_option maxHeartbeats 16000000
namespace Go.Proofs.YtjpopekmbmcggaaGreatDoor
open Go.RowKit
theorem D9:∀ c:Fin 256,(97≤bits .or .u8 (c.val:Int) 32∧bits .or .u8 (c.val:Int) 32≤122)↔(97≤c.val∧c.val≤122∨65≤c.val∧c.val≤90):=by decide +kernel
theorem rA (c:Nat) (hc:c<256) (h:97≤c∧c≤122∨65≤c∧c≤90):97≤bits .or .u8 (c:Int) 32∧bits .or .u8 (c:Int) 32≤122:=(D9 ⟨c,hc⟩).2 h
theorem or32_no (c:Nat) (hc:c<256) (h:¬(97≤c∧c≤122∨65≤c∧c≤90)):bits .or .u8 (c:Int) 32<97∨122<bits .or .u8 (c:Int) 32:=by
 have:¬(97≤bits .or .u8 (c:Int) 32∧bits .or .u8 (c:Int) 32≤122):=mt (D9 ⟨c,hc⟩).1 h;omega
theorem qT (c:Nat) (hc:c<256) (w:World) (hs:¬Chr.Sign c∨c=95):Calls Tryz.prog 154 #[.int .u8 (c:Int)] w fun e w'=>e=.returned (.int .i64 (Chr.cls c:Nat))∧w=w':=by
 rcases Chr.cls_cases c with h | ⟨h1,h2,h3⟩ | ⟨h1,h2,h3⟩ | ⟨h1,h2,h3⟩ | ⟨h1,h3⟩
 ·rcases hs with hs | rfl
  ·exact absurd h hs
  ·go_enter Tryz.func154,Tryz.ntmps154;go_wp2;go_ret;exact ⟨rfl,rfl⟩
 ·have H:=Ha h3;clear h3;go_enter Tryz.func154,Tryz.ntmps154;go_wp2;go_ret;exact ⟨bN (by rw [H.out];rfl),rfl⟩
 ·have H:=Ha h3;clear h3;obtain ⟨o1,o2⟩:=rA c hc (by omega);go_enter Tryz.func154,Tryz.ntmps154;go_wp2;go_ret;exact ⟨bN (by rw [H.out];rfl),rfl⟩
 ·have H:=Ha h3;clear h3;obtain ⟨o1,o2⟩:=rA c hc (by omega);go_enter Tryz.func154,Tryz.ntmps154;go_wp2;go_ret;exact ⟨bN (by rw [H.out];rfl),rfl⟩
 ·have H:=Ha h3;clear h3;obtain ⟨hs',d1,d2,d3⟩:=h1;have h95:c≠95:=hs'.2.2.2.2.1;clear hs' hs;rcases or32_no c hc (by omega) with o | o
  all_goals
   rcases (show c<48∨57<c by omega) with k | k
   all_goals
    clear d1 d2 d3;go_enter Tryz.func154,Tryz.ntmps154;go_wp2;go_ret;exact ⟨bN (by rw [H.out];rfl),rfl⟩
theorem cL (c:Nat) (hc:c<256) (w:World):Calls Tryz.prog 115 #[.int .u8 (c:Int)] w fun e w'=>e=.returned (.int .i64 (Chr.cls c:Nat))∧w=w':=by
 rcases Chr.cls_cases c with h | h
 ·unfold Chr.Sign at h;rcases h with rfl | rfl | rfl | rfl | rfl | rfl | rfl | rfl | rfl | rfl | rfl | rfl | rfl | rfl | rfl | rfl | rfl
  all_goals
   go_enter Tryz.func115,Tryz.ntmps115;go_wp2_with (go_at_call 154;refine (qT 95 (by omega) _ (.inr rfl)).mono ?_;rintro e w' ⟨rfl,rfl⟩);go_ret;exact ⟨rfl,rfl⟩
 ·have hs:¬Chr.Sign c:=by
   unfold Chr.Sign;rcases h with h | h | h | h
   ·omega
   ·omega
   ·omega
   ·exact fun e=>by obtain ⟨⟨h,_⟩,_⟩:=h;omega
  have HS:=Ha hs;unfold Chr.Sign at hs;simp only [not_or] at hs;obtain ⟨n1,n2,n3,n4,n5,n6,n7,n8,n9,n10,n11,n12,n13,n14,n15,n16,n17⟩:=hs;clear h;go_enter Tryz.func115,Tryz.ntmps115;go_wp2_with (go_at_call 154;refine (qT c hc _ (.inl HS.out)).mono ?_;rintro e w' ⟨rfl,rfl⟩);go_ret;exact ⟨rfl,rfl⟩
theorem aU (c:Nat) (hc:c<256) (w:World):Calls Tryz.prog 122 #[.int .u8 (c:Int)] w fun e w'=>e=.returned (.int .i64 (Chr.cls c:Nat))∧w=w':=by
 rcases Chr.cls_cases c with h | ⟨h1,h2,h3⟩ | ⟨h1,h2,h3⟩ | ⟨h1,h2,h3⟩ | ⟨h1,h3⟩
 ·unfold Chr.Sign at h;rcases h with rfl | rfl | rfl | rfl | rfl | rfl | rfl | rfl | rfl | rfl | rfl | rfl | rfl | rfl | rfl | rfl | rfl
  all_goals
   go_enter Tryz.func122,Tryz.ntmps122;go_wp2;go_ret;exact ⟨rfl,rfl⟩
 all_goals have H:=Ha h3;clear h3
 ·skip
  have b0:((c:Int)==0)=false:=by rw [gJ];omega
  have b32:((c:Int)==32)=false:=by rw [gJ];omega
  have b9:((c:Int)==9)=false:=by rw [gJ];omega
  have b10:((c:Int)==10)=false:=by rw [gJ];omega
  have b95:((c:Int)==95)=false:=by rw [gJ];omega
  have b38:((c:Int)==38)=false:=by rw [gJ];omega
  have b124:((c:Int)==124)=false:=by rw [gJ];omega
  have b59:((c:Int)==59)=false:=by rw [gJ];omega
  have b60:((c:Int)==60)=false:=by rw [gJ];omega
  have b62:((c:Int)==62)=false:=by rw [gJ];omega
  have b40:((c:Int)==40)=false:=by rw [gJ];omega
  have b41:((c:Int)==41)=false:=by rw [gJ];omega
  have b39:((c:Int)==39)=false:=by rw [gJ];omega
  have b34:((c:Int)==34)=false:=by rw [gJ];omega
  have b92:((c:Int)==92)=false:=by rw [gJ];omega
  have b96:((c:Int)==96)=false:=by rw [gJ];omega
  have b36:((c:Int)==36)=false:=by rw [gJ];omega
  go_enter Tryz.func122,Tryz.ntmps122;go_wp2;go_ret;exact ⟨bN (by rw [H.out];rfl),rfl⟩
 ·skip
  have b0:((c:Int)==0)=false:=by rw [gJ];omega
  have b32:((c:Int)==32)=false:=by rw [gJ];omega
  have b9:((c:Int)==9)=false:=by rw [gJ];omega
  have b10:((c:Int)==10)=false:=by rw [gJ];omega
  have b95:((c:Int)==95)=false:=by rw [gJ];omega
  have b38:((c:Int)==38)=false:=by rw [gJ];omega
  have b124:((c:Int)==124)=false:=by rw [gJ];omega
  have b59:((c:Int)==59)=false:=by rw [gJ];omega
  have b60:((c:Int)==60)=false:=by rw [gJ];omega
  have b62:((c:Int)==62)=false:=by rw [gJ];omega
  have b40:((c:Int)==40)=false:=by rw [gJ];omega
  have b41:((c:Int)==41)=false:=by rw [gJ];omega
  have b39:((c:Int)==39)=false:=by rw [gJ];omega
  have b34:((c:Int)==34)=false:=by rw [gJ];omega
  have b92:((c:Int)==92)=false:=by rw [gJ];omega
  have b96:((c:Int)==96)=false:=by rw [gJ];omega
  have b36:((c:Int)==36)=false:=by rw [gJ];omega
  go_enter Tryz.func122,Tryz.ntmps122;go_wp2;go_ret;exact ⟨bN (by rw [H.out];rfl),rfl⟩
 ·skip
  have b0:((c:Int)==0)=false:=by rw [gJ];omega
  have b32:((c:Int)==32)=false:=by rw [gJ];omega
  have b9:((c:Int)==9)=false:=by rw [gJ];omega
  have b10:((c:Int)==10)=false:=by rw [gJ];omega
  have b95:((c:Int)==95)=false:=by rw [gJ];omega
  have b38:((c:Int)==38)=false:=by rw [gJ];omega
  have b124:((c:Int)==124)=false:=by rw [gJ];omega
  have b59:((c:Int)==59)=false:=by rw [gJ];omega
  have b60:((c:Int)==60)=false:=by rw [gJ];omega
  have b62:((c:Int)==62)=false:=by rw [gJ];omega
  have b40:((c:Int)==40)=false:=by rw [gJ];omega
  have b41:((c:Int)==41)=false:=by rw [gJ];omega
  have b39:((c:Int)==39)=false:=by rw [gJ];omega
  have b34:((c:Int)==34)=false:=by rw [gJ];omega
  have b92:((c:Int)==92)=false:=by rw [gJ];omega
  have b96:((c:Int)==96)=false:=by rw [gJ];omega
  have b36:((c:Int)==36)=false:=by rw [gJ];omega
  go_enter Tryz.func122,Tryz.ntmps122;go_wp2;go_ret;exact ⟨bN (by rw [H.out];rfl),rfl⟩
 ·obtain ⟨⟨n1,n2,n3,n4,n5,n6,n7,n8,n9,n10,n11,n12,n13,n14,n15,n16,n17⟩,d1,d2,d3⟩:=h1;have cs:c<48∨57<c∧c<65∨90<c∧c<97∨122<c:=by omega
  have b0:((c:Int)==0)=false:=by rw [gJ];omega
  have b32:((c:Int)==32)=false:=by rw [gJ];omega
  have b9:((c:Int)==9)=false:=by rw [gJ];omega
  have b10:((c:Int)==10)=false:=by rw [gJ];omega
  have b95:((c:Int)==95)=false:=by rw [gJ];omega
  have b38:((c:Int)==38)=false:=by rw [gJ];omega
  have b124:((c:Int)==124)=false:=by rw [gJ];omega
  have b59:((c:Int)==59)=false:=by rw [gJ];omega
  have b60:((c:Int)==60)=false:=by rw [gJ];omega
  have b62:((c:Int)==62)=false:=by rw [gJ];omega
  have b40:((c:Int)==40)=false:=by rw [gJ];omega
  have b41:((c:Int)==41)=false:=by rw [gJ];omega
  have b39:((c:Int)==39)=false:=by rw [gJ];omega
  have b34:((c:Int)==34)=false:=by rw [gJ];omega
  have b92:((c:Int)==92)=false:=by rw [gJ];omega
  have b96:((c:Int)==96)=false:=by rw [gJ];omega
  have b36:((c:Int)==36)=false:=by rw [gJ];omega
  clear n1 n2 n3 n4 n5 n6 n7 n8 n9 n10 n11 n12 n13 n14 n15 n16 n17;rcases cs with k | k | k | k
  all_goals
   clear d1 d2 d3;go_enter Tryz.func122,Tryz.ntmps122;go_wp2;go_ret;exact ⟨bN (by rw [H.out];rfl),rfl⟩
theorem bY (c:Nat) (w:World):Calls Tryz.prog 221 #[.int .u8 (c:Int)] w fun e w'=>e=.returned (.bool (Chr.special c))∧w=w':=by
 by_cases h:c=64∨c=42∨c=35∨c=63∨c=45∨c=36∨c=33
 ·rcases h with rfl | rfl | rfl | rfl | rfl | rfl | rfl
  all_goals
   go_enter Tryz.func221,Tryz.ntmps221;go_wp2;go_ret;exact ⟨rfl,rfl⟩
 ·simp only [not_or] at h;obtain ⟨n1,n2,n3,n4,n5,n6,n7⟩:=h;have H:=Ha (show Chr.special c=false by simp [Chr.special,n1,n2,n3,n4,n5,n6,n7]);have b64:((c:Int)==64)=false:=by rw [gJ];omega
  have b42:((c:Int)==42)=false:=by rw [gJ];omega
  have b35:((c:Int)==35)=false:=by rw [gJ];omega
  have b63:((c:Int)==63)=false:=by rw [gJ];omega
  have b45:((c:Int)==45)=false:=by rw [gJ];omega
  have b36:((c:Int)==36)=false:=by rw [gJ];omega
  have b33:((c:Int)==33)=false:=by rw [gJ];omega
  clear n1 n2 n3 n4 n5 n6 n7;go_enter Tryz.func221,Tryz.ntmps221;go_wp2;go_ret;exact ⟨aC H.out.symm,rfl⟩
theorem pD (s:ByteArray) (c:Int) (w:World):Calls Tryz.prog 227 #[.string s,.int .u8 c] w fun e w'=>e=.returned (.int .i64 (Lib.indexByte s.toList c.toNat.toUInt8))∧w=w':=by
 go_enter Tryz.func227,Tryz.ntmps227;go_wp2;rw [run_callFunc_extern Tryz.func245 (by kernel_rfl) (by kernel_rfl) (by kernel_rfl) (e:=Extern.BytealgIndexByte.indexByte) (by kernel_rfl),Lib.run_indexByteString];simp only [Result.andThen];rw [Oper.upon_value];go_wp2;go_ret;exact ⟨bN (by rw [Lib.toList_data]),rfl⟩
theorem iO (s:ByteArray) (c:Int) (w:World):Calls Tryz.prog 216 #[.string s,.int .u8 c] w fun e w'=>e=.returned (.int .i64 (Lib.indexByte s.toList c.toNat.toUInt8))∧w=w':=by
 go_enter Tryz.func216,Tryz.ntmps216;go_wp2_with (go_at_call 227;refine (pD _ _ _).mono ?_;rintro e w' ⟨rfl,rfl⟩);go_ret;exact ⟨rfl,rfl⟩
theorem tK:∀ c:Fin 256,decide (0≤Lib.indexByte [64,42,35,63,45,36,33] ((c.val:Int).toNat.toUInt8))=Chr.special c.val:=by decide +kernel
theorem eE (c:Nat) (hc:c<256) (w:World):Calls Tryz.prog 241 #[.int .u8 (c:Int)] w fun e w'=>e=.returned (.bool (Chr.special c))∧w=w':=by
 go_enter Tryz.func241,Tryz.ntmps241;go_wp2_with (go_at_call 216;refine (iO _ _ _).mono ?_;rintro e w' ⟨rfl,rfl⟩);go_ret;refine ⟨aC ?_,rfl⟩;have h:=tK ⟨c,hc⟩;rw [← h];simp
theorem gO (p:Nat→Nat→Bool) (s:ByteArray) (k:Nat) (h:k<s.size):Chr.allFrom p k (s.toList.drop k)=(p k s[k].toNat&&Chr.allFrom p (k+1) (s.toList.drop (k+1))):=by
 rw [Chr.allFrom_drop p s.toList k (by rw [← aL];exact h),eH s k h]
theorem iK (p:Nat→Nat→Bool) (s:ByteArray) (k:Nat) (h:¬k<s.size):Chr.allFrom p k (s.toList.drop k)=true:=Chr.allFrom_end p s.toList k (by rw [← aL];exact h)
theorem aH (s:ByteArray) (k:Nat) (h:k<s.size):s[k].toNat<256:=s[k].toNat_lt
theorem lV (s:ByteArray) (w:World) (hm:s.size≤9223372036854775807):Calls Tryz.prog 112 #[.string s] w fun e w'=>e=.returned (.bool (Chr.ascii s.toList))∧w=w':=by
 go_enter Tryz.func112,Tryz.ntmps112;go_wp2_with fail
 go_loop [3,6] (fun _ i=>∃ k:Nat,k≤s.size∧i=.int .i64 k∧Chr.allFrom Chr.okAscii k (s.toList.drop k)=Chr.ascii s.toList) (fun _ i=>s.size-(intOf i).toNat)
 case atStart=>exact ⟨0,by omega,rfl,rfl⟩
 case round=>
  obtain ⟨k,hk,rfl,hf⟩:=hrel;by_cases hlt:k<s.size
  ·rw [gO _ s k hlt] at hf;have H:=Ha hf;clear hf;by_cases ha:s[k].toNat<128
   ·go_wp2_with fail
    go_round
    case rel=>
     refine ⟨k+1,by omega,by go_num, ?_⟩;rw [← H.out,Chr.okAscii,decide_eq_true ha,Bool.true_and]
    case measure=>simp only [intOf];omega
   ·go_wp2_with fail;go_ret;refine ⟨aC ?_,rfl⟩;rw [← H.out,Chr.okAscii,decide_eq_false ha,Bool.false_and]
  ·rw [iK _ s k hlt] at hf;have H:=Ha hf;clear hf;go_wp2_with fail;go_ret;exact ⟨aC H.out,rfl⟩
theorem rX (c k:Nat):(((Chr.cls c:Nat):Int)==(k:Int))=(Chr.cls c==k):=by
 by_cases h:Chr.cls c=k
 ·rw [h];simp
 ·rw [beq_eq_false_iff_ne.2 h,beq_eq_false_iff_ne.2 (by omega)]
theorem BO (i c:Nat) (hc:c<256) (w:World):Calls Tryz.prog 144 #[.int .i64 (i:Int),.int .u8 (c:Int)] w fun e w'=>e=.returned (.bool (Chr.okName i c))∧w=w':=by
 have e4:=rX c 4;have e3:=rX c 3;have H:Hid (Chr.okName i c=(Chr.cls c==4||Chr.cls c==3&&decide (0<i))):=rfl;cases h4:Chr.cls c==4 <;> cases h3:Chr.cls c==3 <;> rcases Nat.eq_zero_or_pos i with rfl | hi
 all_goals
  simp only [h4,h3] at e4 e3;have e4':(((Chr.cls c:Nat):Int)==4)=_:=e4;have e3':(((Chr.cls c:Nat):Int)==3)=_:=e3;clear e4 e3;have H4:=Ha h4;have H3:=Ha h3;clear h4 h3;go_enter Tryz.func144,Tryz.ntmps144;go_wp2_with (go_at_call 115;refine (cL c hc _).mono ?_;rintro e w' ⟨rfl,rfl⟩);go_ret;refine ⟨aC ?_,rfl⟩;rw [H.out,H4.out,H3.out];first | rfl | (rw [decide_eq_true hi];rfl)
theorem vH (i c:Nat) (hc:c<256) (w:World):Calls Tryz.prog 114 #[.int .i64 (i:Int),.int .u8 (c:Int)] w fun e w'=>e=.returned (.bool (Chr.okDigit i c))∧w=w':=by
 have e3:=rX c 3;go_enter Tryz.func114,Tryz.ntmps114;go_wp2_with (go_at_call 115;refine (cL c hc _).mono ?_;rintro e w' ⟨rfl,rfl⟩);go_ret;exact ⟨aC e3,rfl⟩
theorem qD (s:ByteArray) (k:Nat) (h:Chr.ascii s.toList=true) (hk:k<s.size):s[k].toNat<128:=by
 have:=Chr.allFrom_at 0 s.toList h k (by rw [← aL];exact hk);rw [eH s k hk] at this
 simpa [Chr.okAscii] using this
theorem vJ (s:ByteArray) (w:World) (hm:s.size≤9223372036854775807) (hasc:Chr.ascii s.toList=true):
  Calls Tryz.prog 113 #[.string s,.func (Fn.func 144) #[] #[]] w fun e w'=>e=.returned (.bool (Chr.allFrom Chr.okName 0 s.toList && !s.toList.isEmpty))∧Below w.heap.size w w':=by
 have hempty:(!s.toList.isEmpty)=decide (0<s.size):=by
  rw [aL];cases s.toList <;> simp
 have HE:=Ha hempty;clear hempty;go_enter Tryz.func113,Tryz.ntmps113;go_wp2_with fail
 go_loopw [5] (fun _ wr=>∃ k:Nat,k≤s.size∧wr=w.iter s k∧Chr.allFrom Chr.okName k (s.toList.drop k)=Chr.allFrom Chr.okName 0 s.toList) (fun _ wr=>s.size-wr.iterPos w.heap.size)
 case atStart=>exact ⟨0,by omega,rfl,rfl⟩
 case round=>
  obtain ⟨k,hk,rfl,hf⟩:=hrel;by_cases hlt:k<s.size
  ·rw [gO _ s k hlt] at hf;have H:=Ha hf;clear hf;have hnx:∀ ty,(Instr.next (.pointer (some ⟨w.heap.size,0,none⟩)) true ty).run Tryz.prog (w.iter s k)=_:=fun ty=>run_next_ascii w s k ty hlt (qD s k hasc hlt);obtain ⟨b,hb⟩:∃ b,Chr.okName k s[k].toNat=b:=⟨_,rfl⟩;cases b;all_goals
    go_wp2_with (go_at_call 144;refine (BO k s[k].toNat (aH s k hlt) _).mono ?_;rintro e w' ⟨rfl,rfl⟩)
   ·go_ret;refine ⟨aC ?_,(Below.refl _ _).alloc (Nat.le_refl _) _⟩;rw [← H.out,hb];rfl
   ·go_roundw
    case rel=>exact ⟨k+1,by omega,rfl,by rw [← H.out,hb];rfl⟩
    case measure=>simp only [World.iterPos_iter];omega
  ·rw [iK _ s k hlt] at hf;have H:=Ha hf;clear hf;have hnx:∀ ty,(Instr.next (.pointer (some ⟨w.heap.size,0,none⟩)) true ty).run Tryz.prog (w.iter s k)=_:=fun ty=>run_next_end w s k ty hlt;go_wp2_with fail;go_ret;refine ⟨aC ?_,(Below.refl _ _).alloc (Nat.le_refl _) _⟩;rw [← H.out,Bool.true_and]
theorem qI (s:ByteArray) (w:World) (hm:s.size≤9223372036854775807) (hasc:Chr.ascii s.toList=true):
  Calls Tryz.prog 113 #[.string s,.func (Fn.func 114) #[] #[]] w fun e w'=>e=.returned (.bool (Chr.allFrom Chr.okDigit 0 s.toList && !s.toList.isEmpty))∧Below w.heap.size w w':=by
 have hempty:(!s.toList.isEmpty)=decide (0<s.size):=by
  rw [aL];cases s.toList <;> simp
 have HE:=Ha hempty;clear hempty;go_enter Tryz.func113,Tryz.ntmps113;go_wp2_with fail
 go_loopw [5] (fun _ wr=>∃ k:Nat,k≤s.size∧wr=w.iter s k∧Chr.allFrom Chr.okDigit k (s.toList.drop k)=Chr.allFrom Chr.okDigit 0 s.toList) (fun _ wr=>s.size-wr.iterPos w.heap.size)
 case atStart=>exact ⟨0,by omega,rfl,rfl⟩
 case round=>
  obtain ⟨k,hk,rfl,hf⟩:=hrel;by_cases hlt:k<s.size
  ·rw [gO _ s k hlt] at hf;have H:=Ha hf;clear hf;have hnx:∀ ty,(Instr.next (.pointer (some ⟨w.heap.size,0,none⟩)) true ty).run Tryz.prog (w.iter s k)=_:=fun ty=>run_next_ascii w s k ty hlt (qD s k hasc hlt);obtain ⟨b,hb⟩:∃ b,Chr.okDigit k s[k].toNat=b:=⟨_,rfl⟩;cases b;all_goals
    go_wp2_with (go_at_call 114;refine (vH k s[k].toNat (aH s k hlt) _).mono ?_;rintro e w' ⟨rfl,rfl⟩)
   ·go_ret;refine ⟨aC ?_,(Below.refl _ _).alloc (Nat.le_refl _) _⟩;rw [← H.out,hb];rfl
   ·go_roundw
    case rel=>exact ⟨k+1,by omega,rfl,by rw [← H.out,hb];rfl⟩
    case measure=>simp only [World.iterPos_iter];omega
  ·rw [iK _ s k hlt] at hf;have H:=Ha hf;clear hf;have hnx:∀ ty,(Instr.next (.pointer (some ⟨w.heap.size,0,none⟩)) true ty).run Tryz.prog (w.iter s k)=_:=fun ty=>run_next_end w s k ty hlt;go_wp2_with fail;go_ret;refine ⟨aC ?_,(Below.refl _ _).alloc (Nat.le_refl _) _⟩;rw [← H.out,Bool.true_and]
theorem iS (s:ByteArray) (w:World) (hm:s.size≤9223372036854775807):Calls Tryz.prog 92 #[.string s] w fun e w'=>e=.returned (.bool (Chr.name s.toList))∧Below w.heap.size w w':=by
 cases ha:Chr.ascii s.toList
 ·go_enter Tryz.func92,Tryz.ntmps92;go_wp2_with (go_at_call 112;refine (lV s _ hm).mono ?_;rintro e w' ⟨rfl,rfl⟩);go_ret;refine ⟨aC ?_,Below.refl _ _⟩;cases h:Chr.name s.toList
  ·rfl
  ·rw [Chr.name_ascii _ h] at ha;cases ha
 ·have HA:=Ha ha;go_enter Tryz.func92,Tryz.ntmps92;go_wp2_with (first
   | (go_at_call 112;refine (lV s _ hm).mono ?_;rintro e w' ⟨rfl,rfl⟩)
   | (go_at_call 113;refine (vJ s _ hm HA.out).mono ?_;rintro e w' ⟨rfl,hb⟩))
  go_ret;exact ⟨rfl,hb⟩
theorem iM (s:ByteArray) (w:World) (hm:s.size≤9223372036854775807):Calls Tryz.prog 44 #[.string s] w fun e w'=>e=.returned (.bool (Chr.digits s.toList))∧Below w.heap.size w w':=by
 cases ha:Chr.ascii s.toList
 ·go_enter Tryz.func44,Tryz.ntmps44;go_wp2_with (go_at_call 112;refine (lV s _ hm).mono ?_;rintro e w' ⟨rfl,rfl⟩);go_ret;refine ⟨aC ?_,Below.refl _ _⟩;cases h:Chr.digits s.toList
  ·rfl
  ·rw [Chr.digits_ascii _ h] at ha;cases ha
 ·have HA:=Ha ha;go_enter Tryz.func44,Tryz.ntmps44;go_wp2_with (first
   | (go_at_call 112;refine (lV s _ hm).mono ?_;rintro e w' ⟨rfl,rfl⟩)
   | (go_at_call 113;refine (qI s _ hm HA.out).mono ?_;rintro e w' ⟨rfl,hb⟩))
  go_ret;exact ⟨rfl,hb⟩
theorem mL (s:ByteArray):s.toList.isEmpty=decide (s.size=0):=by
  rw [aL];cases s.toList <;> simp
theorem BP (a k:Nat):(((a:Nat):Int) != (k:Int))=(a != k):=by
  by_cases h:a=k
  · rw [h];simp
  · rw [bne_iff_ne.2 h,bne_iff_ne.2 (by omega)]
theorem rY (c k:Nat):(((Chr.cls c:Nat):Int) != (k:Int))=(Chr.cls c != k):=BP _ _
theorem bS (s:ByteArray) (w:World) (hm:s.size≤9223372036854775807):Calls Tryz.prog 103 #[.string s] w fun e w'=>e=.returned (.bool (Chr.name s.toList))∧w=w':=by
  have hfin:Chr.name s.toList=(Chr.allFrom Chr.okName 0 s.toList&&decide (0<s.size)):=by
    unfold Chr.name;rw [mL];congr 1;by_cases h:s.size=0 <;> simp [h];omega
  have HN:=Ha hfin;clear hfin;go_enter Tryz.func103,Tryz.ntmps103;go_wp2_with fail
  go_loop [3,4] (fun i _=>∃ k:Nat,k≤s.size∧i=.int .i64 k∧Chr.allFrom Chr.okName k (s.toList.drop k)=Chr.allFrom Chr.okName 0 s.toList) (fun i _=>s.size-(intOf i).toNat)
  case atStart=>exact ⟨0,by omega,rfl,rfl⟩
  case round=>
    obtain ⟨k,hk,rfl,hf⟩:=hrel;by_cases hlt:k<s.size
    · rw [gO _ s k hlt] at hf;have H:=Ha hf;clear hf;have e4:(((Chr.cls s[k].toNat:Nat):Int) != 4)=(Chr.cls s[k].toNat != 4):=rY _ 4;have e3:(((Chr.cls s[k].toNat:Nat):Int) != 3)=(Chr.cls s[k].toNat != 3):=rY _ 3;have HP:=Ha (show Chr.okName k s[k].toNat=(!(Chr.cls s[k].toNat != 4) || !(Chr.cls s[k].toNat != 3)&&decide (0<k)) by unfold Chr.okName;simp [bne]);rcases Nat.eq_zero_or_pos k with rfl | hi
      · skip
        cases h4:Chr.cls s[0].toNat != 4 <;> cases h3:Chr.cls s[0].toNat != 3;all_goals
          rw [h4,h3] at HP;rw [h3] at e3;rw [h4] at e4;clear h3 h4;go_wp2_with (go_at_call 122;refine (aU s[0].toNat (aH s 0 hlt) _).mono ?_;rintro e w' ⟨rfl,rfl⟩);first
            | (go_ret
               refine ⟨aC ?_,rfl⟩;rw [HN.out,← H.out,HP.out];rfl)
            | (go_round
               case rel=>exact ⟨0+1,by omega,by go_num,by rw [← H.out,HP.out];rfl⟩
               case measure=>simp only [intOf];omega)
      · have hk0:((k:Int)==0)=false:=by rw [gJ];omega
        rw [decide_eq_true hi] at HP;cases h4:Chr.cls s[k].toNat != 4 <;> cases h3:Chr.cls s[k].toNat != 3;all_goals
          rw [h4,h3] at HP;rw [h3] at e3;rw [h4] at e4;clear h3 h4;go_wp2_with (go_at_call 122;refine (aU s[k].toNat (aH s k hlt) _).mono ?_;rintro e w' ⟨rfl,rfl⟩);first
            | (go_ret
               refine ⟨aC ?_,rfl⟩;rw [HN.out,← H.out,HP.out];rfl)
            | (go_round
               case rel=>exact ⟨k+1,by omega,by go_num,by rw [← H.out,HP.out];rfl⟩
               case measure=>simp only [intOf];omega)
    · rw [iK _ s k hlt] at hf;have H:=Ha hf;clear hf;go_wp2_with fail;go_ret;refine ⟨aC ?_,rfl⟩;rw [HN.out,← H.out,Bool.true_and]
theorem bP (s:ByteArray) (w:World) (hm:s.size≤9223372036854775807):Calls Tryz.prog 47 #[.string s] w fun e w'=>e=.returned (.bool (Chr.digits s.toList))∧w=w':=by
  have hfin:Chr.digits s.toList=(Chr.allFrom Chr.okDigit 0 s.toList&&decide (0<s.size)):=by
    unfold Chr.digits;rw [mL];congr 1;by_cases h:s.size=0 <;> simp [h];omega
  have HN:=Ha hfin;clear hfin;go_enter Tryz.func47,Tryz.ntmps47;go_wp2_with fail
  go_loop [3] (fun i=>∃ k:Nat,k≤s.size∧i=.int .i64 k∧Chr.allFrom Chr.okDigit k (s.toList.drop k)=Chr.allFrom Chr.okDigit 0 s.toList) (fun i=>s.size-(intOf i).toNat)
  case atStart=>exact ⟨0,by omega,rfl,rfl⟩
  case round=>
    obtain ⟨k,hk,rfl,hf⟩:=hrel;by_cases hlt:k<s.size
    · rw [gO _ s k hlt] at hf;have H:=Ha hf;clear hf;have e3:(((Chr.cls s[k].toNat:Nat):Int) != 3)=(Chr.cls s[k].toNat != 3):=rY _ 3;have HP:=Ha (show Chr.okDigit k s[k].toNat = !(Chr.cls s[k].toNat != 3) by unfold Chr.okDigit;simp [bne]);cases h3:Chr.cls s[k].toNat != 3;all_goals
        rw [h3] at e3 HP;clear h3;go_wp2_with (go_at_call 122;refine (aU s[k].toNat (aH s k hlt) _).mono ?_;rintro e w' ⟨rfl,rfl⟩)
      · go_round
        case rel=>exact ⟨k+1,by omega,by go_num,by rw [← H.out,HP.out];rfl⟩
        case measure=>simp only [intOf];omega
      · go_ret;refine ⟨aC ?_,rfl⟩;rw [HN.out,← H.out,HP.out];rfl
    · rw [iK _ s k hlt] at hf;have H:=Ha hf;clear hf;go_wp2_with fail;go_ret;refine ⟨aC ?_,rfl⟩;rw [HN.out,← H.out,Bool.true_and]
theorem assign_eq (s:ByteArray) (k m:Nat) (h:k<s.size) (hm:s.size-k=m+1):
    Chr.assignFrom s.toList k (s.size-k)=if s[k].toNat=61 then (if Chr.name (s.toList.take k) then (k:Int) else -1) else Chr.assignFrom s.toList (k+1) m:=by
  rw [hm,Chr.assignFrom];have e:s.toList.getD k 0=s[k]:=by rw [List.getD_eq_getElem?_getD,get?_list s k h];rfl
  rw [e]
theorem qF (s:ByteArray) (w:World) (hm:s.size≤9223372036854775807):Calls Tryz.prog 178 #[.string s] w fun e w'=>e=.returned (.int .i64 (Chr.assign s.toList))∧w=w':=by
  have HA:=Ha (show Chr.assign s.toList=Chr.assignFrom s.toList 0 (s.size-0) by rw [Chr.assign,← aL];rfl);go_enter Tryz.func178,Tryz.ntmps178;go_wp2_with fail
  go_loop [3] (fun i=>∃ k:Nat,k≤s.size∧i=.int .i64 k∧Chr.assignFrom s.toList k (s.size-k)=Chr.assignFrom s.toList 0 (s.size-0)) (fun i=>s.size-(intOf i).toNat)
  case atStart=>exact ⟨0,by omega,rfl,rfl⟩
  case round=>
    obtain ⟨k,hk,rfl,hf⟩:=hrel;by_cases hlt:k<s.size
    · obtain ⟨m,hm1⟩:∃ m,s.size-k=m+1:=⟨s.size-k-1,by omega⟩;have hm2:s.size-(k+1)=m:=by omega
      rw [assign_eq s k m hlt hm1] at hf;have H:=Ha hf;clear hf;have HM2:=Ha hm2;clear hm1 hm2;by_cases h61:s[k].toNat=61
      · have h:=H.out;rw [if_pos h61] at h;have H2:=Ha h;clear h H;have hb:(((s[k].toNat:Nat):Int) != 61)=false:=by rw [h61];rfl
        clear h61;have hsz:(s.extract 0 k).size≤9223372036854775807:=by rw [aL,gS,List.length_take];omega
        have HS:=Ha hsz;clear hsz;cases hn:Chr.name (s.toList.take k);all_goals
          have HN:=Ha hn;go_wp2_with (go_at_call 103;refine (bS _ _ HS.out).mono ?_;rintro e w' ⟨rfl,rfl⟩;rw [gS]);go_ret;refine ⟨bN ?_,rfl⟩;rw [HA.out,← H2.out,HN.out];rfl
      · have h:=H.out;rw [if_neg h61] at h;have H2:=Ha h;clear h H;have hb:(((s[k].toNat:Nat):Int) != 61)=true:=by rw [bne_iff_ne];omega
        go_wp2_with fail
        go_round
        case rel=>exact ⟨k+1,by omega,by go_num,by rw [HM2.out];exact H2.out⟩
        case measure=>simp only [intOf];omega
    · have hz:s.size-k=0:=by omega
      rw [hz] at hf;have H:=Ha hf;clear hf hz;go_wp2_with fail;go_ret;refine ⟨bN ?_,rfl⟩;rw [HA.out,← H.out];rfl
theorem bA (s:ByteArray) (k:Nat) (h:k<s.size):s.toList.drop k=s[k]::s.toList.drop (k+1):=by
 rw [List.drop_eq_getElem_cons (by rw [← aL];exact h),eH s k h]
theorem i2 (s:ByteArray) (k:Nat) (h:k<s.size):(s.toList.drop k).head? = some s[k]:=by rw [bA s k h];rfl
theorem bJ (s:ByteArray) (k:Nat) (h:¬k<s.size):s.toList.drop k=[]:=List.drop_of_length_le (by rw [← aL];omega)
theorem aM (n:Int) (w:World):Calls Tryz.prog 186 #[.int .u8 n] w fun e w'=>e=.returned (.bool (bF n))∧w=w':=by
 cases h36:(n==36)
 ·cases h96:(n==96)
  ·cases h34:(n==34)
   ·cases h92:(n==92)
    ·have HF:=Ha (show bF n=false by simp [bF,h36,h96,h34,h92]);go_enter Tryz.func186,Tryz.ntmps186;go_wp2;go_ret;exact ⟨by rw [HF.out];rfl,rfl⟩
    ·have HF:=Ha (show bF n=true by simp [bF,h36,h96,h34,h92]);go_enter Tryz.func186,Tryz.ntmps186;go_wp2;go_ret;exact ⟨by rw [HF.out];rfl,rfl⟩
   ·have HF:=Ha (show bF n=true by simp [bF,h36,h96,h34]);go_enter Tryz.func186,Tryz.ntmps186;go_wp2;go_ret;exact ⟨by rw [HF.out];rfl,rfl⟩
  ·have HF:=Ha (show bF n=true by simp [bF,h36,h96]);go_enter Tryz.func186,Tryz.ntmps186;go_wp2;go_ret;exact ⟨by rw [HF.out];rfl,rfl⟩
 ·have HF:=Ha (show bF n=true by simp [bF,h36]);go_enter Tryz.func186,Tryz.ntmps186;go_wp2;go_ret;exact ⟨by rw [HF.out];rfl,rfl⟩
theorem aT (c:Nat) (hc:c<256) (w:World):Calls Tryz.prog 220 #[.int .u8 (c:Int)] w fun e w'=>e=.returned (.bool (bH c))∧w=w':=by
 cases h4:((Chr.cls c:Int) != 4)
 ·have HF:=Ha (show bH c=false by simp [bH,h4]);go_enter Tryz.func220,Tryz.ntmps220;go_wp2_with (first | (go_at_call 122;refine (aU c hc _).mono ?_;rintro e w' ⟨rfl,rfl⟩) | (go_at_call 221;refine (bY c _).mono ?_;rintro e w' ⟨rfl,rfl⟩));go_ret;exact ⟨by rw [HF.out];rfl,rfl⟩
 ·cases h3:((Chr.cls c:Int) != 3)
  ·have HF:=Ha (show bH c=false by simp [bH,h4,h3]);go_enter Tryz.func220,Tryz.ntmps220;go_wp2_with (first | (go_at_call 122;refine (aU c hc _).mono ?_;rintro e w' ⟨rfl,rfl⟩) | (go_at_call 221;refine (bY c _).mono ?_;rintro e w' ⟨rfl,rfl⟩));go_ret;exact ⟨by rw [HF.out];rfl,rfl⟩
  ·cases hs:Chr.special c
   ·cases h123:((c:Int) != 123)
    ·have HF:=Ha (show bH c=false by simp [bH,h4,h3,hs,h123]);go_enter Tryz.func220,Tryz.ntmps220;go_wp2_with (first | (go_at_call 122;refine (aU c hc _).mono ?_;rintro e w' ⟨rfl,rfl⟩) | (go_at_call 221;refine (bY c _).mono ?_;rintro e w' ⟨rfl,rfl⟩));go_ret;exact ⟨by rw [HF.out];rfl,rfl⟩
    ·cases h40:((c:Int) != 40)
     ·have HF:=Ha (show bH c=false by simp [bH,h4,h3,hs,h123,h40]);go_enter Tryz.func220,Tryz.ntmps220;go_wp2_with (first | (go_at_call 122;refine (aU c hc _).mono ?_;rintro e w' ⟨rfl,rfl⟩) | (go_at_call 221;refine (bY c _).mono ?_;rintro e w' ⟨rfl,rfl⟩));go_ret;exact ⟨by rw [HF.out];rfl,rfl⟩
     ·have HF:=Ha (show bH c=true by simp [bH,h4,h3,hs,h123,h40]);go_enter Tryz.func220,Tryz.ntmps220;go_wp2_with (first | (go_at_call 122;refine (aU c hc _).mono ?_;rintro e w' ⟨rfl,rfl⟩) | (go_at_call 221;refine (bY c _).mono ?_;rintro e w' ⟨rfl,rfl⟩));go_ret;exact ⟨by rw [HF.out];rfl,rfl⟩
   ·have HF:=Ha (show bH c=false by simp [bH,h4,h3,hs]);go_enter Tryz.func220,Tryz.ntmps220;go_wp2_with (first | (go_at_call 122;refine (aU c hc _).mono ?_;rintro e w' ⟨rfl,rfl⟩) | (go_at_call 221;refine (bY c _).mono ?_;rintro e w' ⟨rfl,rfl⟩));go_ret;exact ⟨by rw [HF.out];rfl,rfl⟩
theorem sP (s:ByteArray) (w:World) (hm:s.size≤1099511627776):Calls Tryz.prog 185 #[.string s,.int .i64 0] w fun e w'=>e=.returned (.bool (bE 0 s.toList))∧w=w':=by
 go_enter Tryz.func185,Tryz.ntmps185;go_wp2
 go_loop [5] (fun i=>∃ k:Nat,k≤s.size∧i=.int .i64 k∧bD 0 (s.toList.drop k)=bD 0 s.toList) (fun i=>s.size-(intOf i).toNat)
 case atStart=>exact ⟨0,by omega,rfl,rfl⟩
 case round=>
  obtain ⟨k,hk,rfl,hl⟩:=hrel;have HL:=Ha hl;clear hl;by_cases hlt:k<s.size
  ·by_cases hn:k+1<s.size
   ·have hnz:decide (((k:Int)+1)<(s.size:Int))=true:=decide_eq_true (by omega);have hnz2:¬((s.size:Int)≤(k:Int)+1):=by omega
    have HST:=Ha (dM 0 s.toList k s[k] _ (bA s k hlt));rw [i2 s (k+1) hn,Option.map_some] at HST;cases k0:((Chr.cls s[k].toNat:Int)==0)
    ·cases c36:((s[k].toNat:Int)==36)
     ·cases k3:((Chr.cls s[k].toNat:Int)==3)
      ·have n3:((Chr.cls s[k].toNat:Int) != 3)=true:=by simp only [bne,k3];rfl
       cases k4:((Chr.cls s[k].toNat:Int)==4)
       ·have n4:((Chr.cls s[k].toNat:Int) != 4)=true:=by simp only [bne,k4];rfl
        cases k8:((Chr.cls s[k].toNat:Int)==8)
        ·have n8:((Chr.cls s[k].toNat:Int) != 8)=true:=by simp only [bne,k8];rfl
         cases k7:((Chr.cls s[k].toNat:Int)==7)
         ·have n7:((Chr.cls s[k].toNat:Int) != 7)=true:=by simp only [bne,k7];rfl
          have HR:=Ha (show bE 0 s.toList=false by unfold bE;rw [← HL.out,HST.out];simp [bO,k0,c36,k3,k4,k8,k7]);go_wp2_with (first | (go_at_call 122;refine (aU s[k].toNat (aH s k hlt) _).mono ?_;rintro e w' ⟨rfl,rfl⟩) | (go_at_call 220;refine (aT s[k+1].toNat (aH s (k+1) hn) _).mono ?_;rintro e w' ⟨rfl,rfl⟩) | (go_at_call 186;refine (aM s[k+1].toNat _).mono ?_;rintro e w' ⟨rfl,rfl⟩));go_ret;exact ⟨by rw [HR.out];rfl,rfl⟩
         ·have n7:((Chr.cls s[k].toNat:Int) != 7)=false:=by simp only [bne,k7];rfl
          have HR:=Ha (show bD 0 (s.toList.drop (k+1))=bD 0 s.toList by rw [← HL.out,HST.out];simp [bO,k0,c36,k3,k4,k8,k7]);go_wp2_with (first | (go_at_call 122;refine (aU s[k].toNat (aH s k hlt) _).mono ?_;rintro e w' ⟨rfl,rfl⟩) | (go_at_call 220;refine (aT s[k+1].toNat (aH s (k+1) hn) _).mono ?_;rintro e w' ⟨rfl,rfl⟩) | (go_at_call 186;refine (aM s[k+1].toNat _).mono ?_;rintro e w' ⟨rfl,rfl⟩))
          go_round
          case rel=>exact ⟨k+1,by omega,by go_num,HR.out⟩
          case measure=>simp only [intOf];omega
        ·have n8:((Chr.cls s[k].toNat:Int) != 8)=false:=by simp only [bne,k8];rfl
         have HR:=Ha (show bD 0 (s.toList.drop (k+1))=bD 0 s.toList by rw [← HL.out,HST.out];simp [bO,k0,c36,k3,k4,k8]);go_wp2_with (first | (go_at_call 122;refine (aU s[k].toNat (aH s k hlt) _).mono ?_;rintro e w' ⟨rfl,rfl⟩) | (go_at_call 220;refine (aT s[k+1].toNat (aH s (k+1) hn) _).mono ?_;rintro e w' ⟨rfl,rfl⟩) | (go_at_call 186;refine (aM s[k+1].toNat _).mono ?_;rintro e w' ⟨rfl,rfl⟩))
         go_round
         case rel=>exact ⟨k+1,by omega,by go_num,HR.out⟩
         case measure=>simp only [intOf];omega
       ·have n4:((Chr.cls s[k].toNat:Int) != 4)=false:=by simp only [bne,k4];rfl
        have HR:=Ha (show bD 0 (s.toList.drop (k+1))=bD 0 s.toList by rw [← HL.out,HST.out];simp [bO,k0,c36,k3,k4]);go_wp2_with (first | (go_at_call 122;refine (aU s[k].toNat (aH s k hlt) _).mono ?_;rintro e w' ⟨rfl,rfl⟩) | (go_at_call 220;refine (aT s[k+1].toNat (aH s (k+1) hn) _).mono ?_;rintro e w' ⟨rfl,rfl⟩) | (go_at_call 186;refine (aM s[k+1].toNat _).mono ?_;rintro e w' ⟨rfl,rfl⟩))
        go_round
        case rel=>exact ⟨k+1,by omega,by go_num,HR.out⟩
        case measure=>simp only [intOf];omega
      ·have n3:((Chr.cls s[k].toNat:Int) != 3)=false:=by simp only [bne,k3];rfl
       have HR:=Ha (show bD 0 (s.toList.drop (k+1))=bD 0 s.toList by rw [← HL.out,HST.out];simp [bO,k0,c36,k3]);go_wp2_with (first | (go_at_call 122;refine (aU s[k].toNat (aH s k hlt) _).mono ?_;rintro e w' ⟨rfl,rfl⟩) | (go_at_call 220;refine (aT s[k+1].toNat (aH s (k+1) hn) _).mono ?_;rintro e w' ⟨rfl,rfl⟩) | (go_at_call 186;refine (aM s[k+1].toNat _).mono ?_;rintro e w' ⟨rfl,rfl⟩))
       go_round
       case rel=>exact ⟨k+1,by omega,by go_num,HR.out⟩
       case measure=>simp only [intOf];omega
     ·cases hd:bH s[k+1].toNat
      ·have HR:=Ha (show bE 0 s.toList=false by unfold bE;rw [← HL.out,HST.out];simp [bO,k0,c36,hd]);go_wp2_with (first | (go_at_call 122;refine (aU s[k].toNat (aH s k hlt) _).mono ?_;rintro e w' ⟨rfl,rfl⟩) | (go_at_call 220;refine (aT s[k+1].toNat (aH s (k+1) hn) _).mono ?_;rintro e w' ⟨rfl,rfl⟩) | (go_at_call 186;refine (aM s[k+1].toNat _).mono ?_;rintro e w' ⟨rfl,rfl⟩));go_ret;exact ⟨by rw [HR.out];rfl,rfl⟩
      ·have g7:((Chr.cls s[k].toNat:Int)==7)=true:=by rw [beq_iff_eq] at c36;rw [show s[k].toNat=36 by omega];rfl
       have g3:((Chr.cls s[k].toNat:Int) != 3)=true:=by rw [beq_iff_eq] at c36;rw [show s[k].toNat=36 by omega];rfl
       have g4:((Chr.cls s[k].toNat:Int) != 4)=true:=by rw [beq_iff_eq] at c36;rw [show s[k].toNat=36 by omega];rfl
       have g8:((Chr.cls s[k].toNat:Int) != 8)=true:=by rw [beq_iff_eq] at c36;rw [show s[k].toNat=36 by omega];rfl
       have g77:((Chr.cls s[k].toNat:Int) != 7)=false:=by rw [beq_iff_eq] at c36;rw [show s[k].toNat=36 by omega];rfl
       have HR:=Ha (show bD 0 (s.toList.drop (k+1))=bD 0 s.toList by rw [← HL.out,HST.out];simp [bO,k0,c36,hd,g7]);go_wp2_with (first | (go_at_call 122;refine (aU s[k].toNat (aH s k hlt) _).mono ?_;rintro e w' ⟨rfl,rfl⟩) | (go_at_call 220;refine (aT s[k+1].toNat (aH s (k+1) hn) _).mono ?_;rintro e w' ⟨rfl,rfl⟩) | (go_at_call 186;refine (aM s[k+1].toNat _).mono ?_;rintro e w' ⟨rfl,rfl⟩))
       go_round
       case rel=>exact ⟨k+1,by omega,by go_num,HR.out⟩
       case measure=>simp only [intOf];omega
    ·have HR:=Ha (show bE 0 s.toList=false by unfold bE;rw [← HL.out,HST.out];simp [bO,k0]);go_wp2_with (first | (go_at_call 122;refine (aU s[k].toNat (aH s k hlt) _).mono ?_;rintro e w' ⟨rfl,rfl⟩) | (go_at_call 220;refine (aT s[k+1].toNat (aH s (k+1) hn) _).mono ?_;rintro e w' ⟨rfl,rfl⟩) | (go_at_call 186;refine (aM s[k+1].toNat _).mono ?_;rintro e w' ⟨rfl,rfl⟩));go_ret;exact ⟨by rw [HR.out];rfl,rfl⟩
   ·have hnz:decide (((k:Int)+1)<(s.size:Int))=false:=decide_eq_false (by omega);have hnz2:(s.size:Int)≤(k:Int)+1:=by omega
    have HST:=Ha (dM 0 s.toList k s[k] _ (bA s k hlt));rw [bJ s (k+1) hn,List.head?_nil,Option.map_none] at HST;cases k0:((Chr.cls s[k].toNat:Int)==0)
    ·cases c36:((s[k].toNat:Int)==36)
     ·cases k3:((Chr.cls s[k].toNat:Int)==3)
      ·have n3:((Chr.cls s[k].toNat:Int) != 3)=true:=by simp only [bne,k3];rfl
       cases k4:((Chr.cls s[k].toNat:Int)==4)
       ·have n4:((Chr.cls s[k].toNat:Int) != 4)=true:=by simp only [bne,k4];rfl
        cases k8:((Chr.cls s[k].toNat:Int)==8)
        ·have n8:((Chr.cls s[k].toNat:Int) != 8)=true:=by simp only [bne,k8];rfl
         cases k7:((Chr.cls s[k].toNat:Int)==7)
         ·have n7:((Chr.cls s[k].toNat:Int) != 7)=true:=by simp only [bne,k7];rfl
          have HR:=Ha (show bE 0 s.toList=false by unfold bE;rw [← HL.out,HST.out];simp [bO,k0,c36,k3,k4,k8,k7]);go_wp2_with (first | (go_at_call 122;refine (aU s[k].toNat (aH s k hlt) _).mono ?_;rintro e w' ⟨rfl,rfl⟩) | (go_at_call 220;refine (aT s[k+1].toNat (aH s (k+1) hn) _).mono ?_;rintro e w' ⟨rfl,rfl⟩) | (go_at_call 186;refine (aM s[k+1].toNat _).mono ?_;rintro e w' ⟨rfl,rfl⟩));go_ret;exact ⟨by rw [HR.out];rfl,rfl⟩
         ·have n7:((Chr.cls s[k].toNat:Int) != 7)=false:=by simp only [bne,k7];rfl
          have HR:=Ha (show bD 0 (s.toList.drop (k+1))=bD 0 s.toList by rw [← HL.out,HST.out];simp [bO,bJ s (k+1) hn,k0,c36,k3,k4,k8,k7]);go_wp2_with (first | (go_at_call 122;refine (aU s[k].toNat (aH s k hlt) _).mono ?_;rintro e w' ⟨rfl,rfl⟩) | (go_at_call 220;refine (aT s[k+1].toNat (aH s (k+1) hn) _).mono ?_;rintro e w' ⟨rfl,rfl⟩) | (go_at_call 186;refine (aM s[k+1].toNat _).mono ?_;rintro e w' ⟨rfl,rfl⟩))
          go_round
          case rel=>exact ⟨k+1,by omega,by go_num,HR.out⟩
          case measure=>simp only [intOf];omega
        ·have n8:((Chr.cls s[k].toNat:Int) != 8)=false:=by simp only [bne,k8];rfl
         have HR:=Ha (show bD 0 (s.toList.drop (k+1))=bD 0 s.toList by rw [← HL.out,HST.out];simp [bO,bJ s (k+1) hn,k0,c36,k3,k4,k8]);go_wp2_with (first | (go_at_call 122;refine (aU s[k].toNat (aH s k hlt) _).mono ?_;rintro e w' ⟨rfl,rfl⟩) | (go_at_call 220;refine (aT s[k+1].toNat (aH s (k+1) hn) _).mono ?_;rintro e w' ⟨rfl,rfl⟩) | (go_at_call 186;refine (aM s[k+1].toNat _).mono ?_;rintro e w' ⟨rfl,rfl⟩))
         go_round
         case rel=>exact ⟨k+1,by omega,by go_num,HR.out⟩
         case measure=>simp only [intOf];omega
       ·have n4:((Chr.cls s[k].toNat:Int) != 4)=false:=by simp only [bne,k4];rfl
        have HR:=Ha (show bD 0 (s.toList.drop (k+1))=bD 0 s.toList by rw [← HL.out,HST.out];simp [bO,bJ s (k+1) hn,k0,c36,k3,k4]);go_wp2_with (first | (go_at_call 122;refine (aU s[k].toNat (aH s k hlt) _).mono ?_;rintro e w' ⟨rfl,rfl⟩) | (go_at_call 220;refine (aT s[k+1].toNat (aH s (k+1) hn) _).mono ?_;rintro e w' ⟨rfl,rfl⟩) | (go_at_call 186;refine (aM s[k+1].toNat _).mono ?_;rintro e w' ⟨rfl,rfl⟩))
        go_round
        case rel=>exact ⟨k+1,by omega,by go_num,HR.out⟩
        case measure=>simp only [intOf];omega
      ·have n3:((Chr.cls s[k].toNat:Int) != 3)=false:=by simp only [bne,k3];rfl
       have HR:=Ha (show bD 0 (s.toList.drop (k+1))=bD 0 s.toList by rw [← HL.out,HST.out];simp [bO,bJ s (k+1) hn,k0,c36,k3]);go_wp2_with (first | (go_at_call 122;refine (aU s[k].toNat (aH s k hlt) _).mono ?_;rintro e w' ⟨rfl,rfl⟩) | (go_at_call 220;refine (aT s[k+1].toNat (aH s (k+1) hn) _).mono ?_;rintro e w' ⟨rfl,rfl⟩) | (go_at_call 186;refine (aM s[k+1].toNat _).mono ?_;rintro e w' ⟨rfl,rfl⟩))
       go_round
       case rel=>exact ⟨k+1,by omega,by go_num,HR.out⟩
       case measure=>simp only [intOf];omega
     ·have g7:((Chr.cls s[k].toNat:Int)==7)=true:=by rw [beq_iff_eq] at c36;rw [show s[k].toNat=36 by omega];rfl
      have g3:((Chr.cls s[k].toNat:Int) != 3)=true:=by rw [beq_iff_eq] at c36;rw [show s[k].toNat=36 by omega];rfl
      have g4:((Chr.cls s[k].toNat:Int) != 4)=true:=by rw [beq_iff_eq] at c36;rw [show s[k].toNat=36 by omega];rfl
      have g8:((Chr.cls s[k].toNat:Int) != 8)=true:=by rw [beq_iff_eq] at c36;rw [show s[k].toNat=36 by omega];rfl
      have g77:((Chr.cls s[k].toNat:Int) != 7)=false:=by rw [beq_iff_eq] at c36;rw [show s[k].toNat=36 by omega];rfl
      have HR:=Ha (show bD 0 (s.toList.drop (k+1))=bD 0 s.toList by rw [← HL.out,HST.out];simp [bO,bJ s (k+1) hn,k0,c36,g7]);go_wp2_with (first | (go_at_call 122;refine (aU s[k].toNat (aH s k hlt) _).mono ?_;rintro e w' ⟨rfl,rfl⟩) | (go_at_call 220;refine (aT s[k+1].toNat (aH s (k+1) hn) _).mono ?_;rintro e w' ⟨rfl,rfl⟩) | (go_at_call 186;refine (aM s[k+1].toNat _).mono ?_;rintro e w' ⟨rfl,rfl⟩))
      go_round
      case rel=>exact ⟨k+1,by omega,by go_num,HR.out⟩
      case measure=>simp only [intOf];omega
    ·have HR:=Ha (show bE 0 s.toList=false by unfold bE;rw [← HL.out,HST.out];simp [bO,k0]);go_wp2_with (first | (go_at_call 122;refine (aU s[k].toNat (aH s k hlt) _).mono ?_;rintro e w' ⟨rfl,rfl⟩) | (go_at_call 220;refine (aT s[k+1].toNat (aH s (k+1) hn) _).mono ?_;rintro e w' ⟨rfl,rfl⟩) | (go_at_call 186;refine (aM s[k+1].toNat _).mono ?_;rintro e w' ⟨rfl,rfl⟩));go_ret;exact ⟨by rw [HR.out];rfl,rfl⟩
  ·have hg:bD 0 s.toList=true:=by rw [← HL.out,bJ s k hlt];rfl
   have HR:=Ha (show bE 0 s.toList = !s.toList.isEmpty by unfold bE;rw [hg];rfl);clear hg;go_wp2;go_ret;exact ⟨by rw [HR.out];rfl,rfl⟩
theorem sQ (s:ByteArray) (w:World) (hm:s.size≤1099511627776):Calls Tryz.prog 185 #[.string s,.int .i64 1] w fun e w'=>e=.returned (.bool (bE 1 s.toList))∧w=w':=by
 go_enter Tryz.func185,Tryz.ntmps185;go_wp2
 go_loop [5] (fun i=>∃ k:Nat,k≤s.size∧i=.int .i64 k∧bD 1 (s.toList.drop k)=bD 1 s.toList) (fun i=>s.size-(intOf i).toNat)
 case atStart=>exact ⟨0,by omega,rfl,rfl⟩
 case round=>
  obtain ⟨k,hk,rfl,hl⟩:=hrel;have HL:=Ha hl;clear hl;by_cases hlt:k<s.size
  ·by_cases hn:k+1<s.size
   ·have hnz:decide (((k:Int)+1)<(s.size:Int))=true:=decide_eq_true (by omega);have hnz2:¬((s.size:Int)≤(k:Int)+1):=by omega
    have HST:=Ha (dM 1 s.toList k s[k] _ (bA s k hlt));rw [i2 s (k+1) hn,Option.map_some] at HST;cases k0:((Chr.cls s[k].toNat:Int)==0)
    ·cases c36:((s[k].toNat:Int)==36)
     ·cases c34:((s[k].toNat:Int)==34)
      ·cases c96:((s[k].toNat:Int)==96)
       ·cases c92:((s[k].toNat:Int)==92)
        ·have HR:=Ha (show bD 1 (s.toList.drop (k+1))=bD 1 s.toList by rw [← HL.out,HST.out];simp [bO,k0,c36,c34,c96,c92]);go_wp2_with (first | (go_at_call 122;refine (aU s[k].toNat (aH s k hlt) _).mono ?_;rintro e w' ⟨rfl,rfl⟩) | (go_at_call 220;refine (aT s[k+1].toNat (aH s (k+1) hn) _).mono ?_;rintro e w' ⟨rfl,rfl⟩) | (go_at_call 186;refine (aM s[k+1].toNat _).mono ?_;rintro e w' ⟨rfl,rfl⟩))
         go_round
         case rel=>exact ⟨k+1,by omega,by go_num,HR.out⟩
         case measure=>simp only [intOf];omega
        ·cases e1:bF (s[k+1].toNat:Int)
         ·cases e2:((s[k+1].toNat:Int)==10)
          ·have HR:=Ha (show bD 1 (s.toList.drop (k+1))=bD 1 s.toList by rw [← HL.out,HST.out];simp [bO,k0,c36,c34,c96,c92,e1,e2]);go_wp2_with (first | (go_at_call 122;refine (aU s[k].toNat (aH s k hlt) _).mono ?_;rintro e w' ⟨rfl,rfl⟩) | (go_at_call 220;refine (aT s[k+1].toNat (aH s (k+1) hn) _).mono ?_;rintro e w' ⟨rfl,rfl⟩) | (go_at_call 186;refine (aM s[k+1].toNat _).mono ?_;rintro e w' ⟨rfl,rfl⟩))
           go_round
           case rel=>exact ⟨k+1,by omega,by go_num,HR.out⟩
           case measure=>simp only [intOf];omega
          ·have HR:=Ha (show bE 1 s.toList=false by unfold bE;rw [← HL.out,HST.out];simp [bO,k0,c36,c34,c96,c92,e1,e2]);go_wp2_with (first | (go_at_call 122;refine (aU s[k].toNat (aH s k hlt) _).mono ?_;rintro e w' ⟨rfl,rfl⟩) | (go_at_call 220;refine (aT s[k+1].toNat (aH s (k+1) hn) _).mono ?_;rintro e w' ⟨rfl,rfl⟩) | (go_at_call 186;refine (aM s[k+1].toNat _).mono ?_;rintro e w' ⟨rfl,rfl⟩));go_ret;exact ⟨by rw [HR.out];rfl,rfl⟩
         ·have HR:=Ha (show bE 1 s.toList=false by unfold bE;rw [← HL.out,HST.out];simp [bO,k0,c36,c34,c96,c92,e1]);go_wp2_with (first | (go_at_call 122;refine (aU s[k].toNat (aH s k hlt) _).mono ?_;rintro e w' ⟨rfl,rfl⟩) | (go_at_call 220;refine (aT s[k+1].toNat (aH s (k+1) hn) _).mono ?_;rintro e w' ⟨rfl,rfl⟩) | (go_at_call 186;refine (aM s[k+1].toNat _).mono ?_;rintro e w' ⟨rfl,rfl⟩));go_ret;exact ⟨by rw [HR.out];rfl,rfl⟩
       ·have HR:=Ha (show bE 1 s.toList=false by unfold bE;rw [← HL.out,HST.out];simp [bO,k0,c36,c34,c96]);go_wp2_with (first | (go_at_call 122;refine (aU s[k].toNat (aH s k hlt) _).mono ?_;rintro e w' ⟨rfl,rfl⟩) | (go_at_call 220;refine (aT s[k+1].toNat (aH s (k+1) hn) _).mono ?_;rintro e w' ⟨rfl,rfl⟩) | (go_at_call 186;refine (aM s[k+1].toNat _).mono ?_;rintro e w' ⟨rfl,rfl⟩));go_ret;exact ⟨by rw [HR.out];rfl,rfl⟩
      ·have HR:=Ha (show bE 1 s.toList=false by unfold bE;rw [← HL.out,HST.out];simp [bO,k0,c36,c34]);go_wp2_with (first | (go_at_call 122;refine (aU s[k].toNat (aH s k hlt) _).mono ?_;rintro e w' ⟨rfl,rfl⟩) | (go_at_call 220;refine (aT s[k+1].toNat (aH s (k+1) hn) _).mono ?_;rintro e w' ⟨rfl,rfl⟩) | (go_at_call 186;refine (aM s[k+1].toNat _).mono ?_;rintro e w' ⟨rfl,rfl⟩));go_ret;exact ⟨by rw [HR.out];rfl,rfl⟩
     ·cases hd:bH s[k+1].toNat
      ·have HR:=Ha (show bE 1 s.toList=false by unfold bE;rw [← HL.out,HST.out];simp [bO,k0,c36,hd]);go_wp2_with (first | (go_at_call 122;refine (aU s[k].toNat (aH s k hlt) _).mono ?_;rintro e w' ⟨rfl,rfl⟩) | (go_at_call 220;refine (aT s[k+1].toNat (aH s (k+1) hn) _).mono ?_;rintro e w' ⟨rfl,rfl⟩) | (go_at_call 186;refine (aM s[k+1].toNat _).mono ?_;rintro e w' ⟨rfl,rfl⟩));go_ret;exact ⟨by rw [HR.out];rfl,rfl⟩
      ·have c34:((s[k].toNat:Int)==34)=false:=by rw [beq_iff_eq] at c36;rw [c36];rfl
       have c96:((s[k].toNat:Int)==96)=false:=by rw [beq_iff_eq] at c36;rw [c36];rfl
       have c92:((s[k].toNat:Int)==92)=false:=by rw [beq_iff_eq] at c36;rw [c36];rfl
       have HR:=Ha (show bD 1 (s.toList.drop (k+1))=bD 1 s.toList by rw [← HL.out,HST.out];simp [bO,k0,c36,hd,c34,c96,c92]);go_wp2_with (first | (go_at_call 122;refine (aU s[k].toNat (aH s k hlt) _).mono ?_;rintro e w' ⟨rfl,rfl⟩) | (go_at_call 220;refine (aT s[k+1].toNat (aH s (k+1) hn) _).mono ?_;rintro e w' ⟨rfl,rfl⟩) | (go_at_call 186;refine (aM s[k+1].toNat _).mono ?_;rintro e w' ⟨rfl,rfl⟩))
       go_round
       case rel=>exact ⟨k+1,by omega,by go_num,HR.out⟩
       case measure=>simp only [intOf];omega
    ·have HR:=Ha (show bE 1 s.toList=false by unfold bE;rw [← HL.out,HST.out];simp [bO,k0]);go_wp2_with (first | (go_at_call 122;refine (aU s[k].toNat (aH s k hlt) _).mono ?_;rintro e w' ⟨rfl,rfl⟩) | (go_at_call 220;refine (aT s[k+1].toNat (aH s (k+1) hn) _).mono ?_;rintro e w' ⟨rfl,rfl⟩) | (go_at_call 186;refine (aM s[k+1].toNat _).mono ?_;rintro e w' ⟨rfl,rfl⟩));go_ret;exact ⟨by rw [HR.out];rfl,rfl⟩
   ·have hnz:decide (((k:Int)+1)<(s.size:Int))=false:=decide_eq_false (by omega);have hnz2:(s.size:Int)≤(k:Int)+1:=by omega
    have HST:=Ha (dM 1 s.toList k s[k] _ (bA s k hlt));rw [bJ s (k+1) hn,List.head?_nil,Option.map_none] at HST;cases k0:((Chr.cls s[k].toNat:Int)==0)
    ·cases c36:((s[k].toNat:Int)==36)
     ·cases c34:((s[k].toNat:Int)==34)
      ·cases c96:((s[k].toNat:Int)==96)
       ·cases c92:((s[k].toNat:Int)==92)
        ·have HR:=Ha (show bD 1 (s.toList.drop (k+1))=bD 1 s.toList by rw [← HL.out,HST.out];simp [bO,bJ s (k+1) hn,k0,c36,c34,c96,c92]);go_wp2_with (first | (go_at_call 122;refine (aU s[k].toNat (aH s k hlt) _).mono ?_;rintro e w' ⟨rfl,rfl⟩) | (go_at_call 220;refine (aT s[k+1].toNat (aH s (k+1) hn) _).mono ?_;rintro e w' ⟨rfl,rfl⟩) | (go_at_call 186;refine (aM s[k+1].toNat _).mono ?_;rintro e w' ⟨rfl,rfl⟩))
         go_round
         case rel=>exact ⟨k+1,by omega,by go_num,HR.out⟩
         case measure=>simp only [intOf];omega
        ·have HR:=Ha (show bE 1 s.toList=false by unfold bE;rw [← HL.out,HST.out];simp [bO,k0,c36,c34,c96,c92]);go_wp2_with (first | (go_at_call 122;refine (aU s[k].toNat (aH s k hlt) _).mono ?_;rintro e w' ⟨rfl,rfl⟩) | (go_at_call 220;refine (aT s[k+1].toNat (aH s (k+1) hn) _).mono ?_;rintro e w' ⟨rfl,rfl⟩) | (go_at_call 186;refine (aM s[k+1].toNat _).mono ?_;rintro e w' ⟨rfl,rfl⟩));go_ret;exact ⟨by rw [HR.out];rfl,rfl⟩
       ·have HR:=Ha (show bE 1 s.toList=false by unfold bE;rw [← HL.out,HST.out];simp [bO,k0,c36,c34,c96]);go_wp2_with (first | (go_at_call 122;refine (aU s[k].toNat (aH s k hlt) _).mono ?_;rintro e w' ⟨rfl,rfl⟩) | (go_at_call 220;refine (aT s[k+1].toNat (aH s (k+1) hn) _).mono ?_;rintro e w' ⟨rfl,rfl⟩) | (go_at_call 186;refine (aM s[k+1].toNat _).mono ?_;rintro e w' ⟨rfl,rfl⟩));go_ret;exact ⟨by rw [HR.out];rfl,rfl⟩
      ·have HR:=Ha (show bE 1 s.toList=false by unfold bE;rw [← HL.out,HST.out];simp [bO,k0,c36,c34]);go_wp2_with (first | (go_at_call 122;refine (aU s[k].toNat (aH s k hlt) _).mono ?_;rintro e w' ⟨rfl,rfl⟩) | (go_at_call 220;refine (aT s[k+1].toNat (aH s (k+1) hn) _).mono ?_;rintro e w' ⟨rfl,rfl⟩) | (go_at_call 186;refine (aM s[k+1].toNat _).mono ?_;rintro e w' ⟨rfl,rfl⟩));go_ret;exact ⟨by rw [HR.out];rfl,rfl⟩
     ·have c34:((s[k].toNat:Int)==34)=false:=by rw [beq_iff_eq] at c36;rw [c36];rfl
      have c96:((s[k].toNat:Int)==96)=false:=by rw [beq_iff_eq] at c36;rw [c36];rfl
      have c92:((s[k].toNat:Int)==92)=false:=by rw [beq_iff_eq] at c36;rw [c36];rfl
      have HR:=Ha (show bD 1 (s.toList.drop (k+1))=bD 1 s.toList by rw [← HL.out,HST.out];simp [bO,bJ s (k+1) hn,k0,c36,c34,c96,c92]);go_wp2_with (first | (go_at_call 122;refine (aU s[k].toNat (aH s k hlt) _).mono ?_;rintro e w' ⟨rfl,rfl⟩) | (go_at_call 220;refine (aT s[k+1].toNat (aH s (k+1) hn) _).mono ?_;rintro e w' ⟨rfl,rfl⟩) | (go_at_call 186;refine (aM s[k+1].toNat _).mono ?_;rintro e w' ⟨rfl,rfl⟩))
      go_round
      case rel=>exact ⟨k+1,by omega,by go_num,HR.out⟩
      case measure=>simp only [intOf];omega
    ·have HR:=Ha (show bE 1 s.toList=false by unfold bE;rw [← HL.out,HST.out];simp [bO,k0]);go_wp2_with (first | (go_at_call 122;refine (aU s[k].toNat (aH s k hlt) _).mono ?_;rintro e w' ⟨rfl,rfl⟩) | (go_at_call 220;refine (aT s[k+1].toNat (aH s (k+1) hn) _).mono ?_;rintro e w' ⟨rfl,rfl⟩) | (go_at_call 186;refine (aM s[k+1].toNat _).mono ?_;rintro e w' ⟨rfl,rfl⟩));go_ret;exact ⟨by rw [HR.out];rfl,rfl⟩
  ·have hg:bD 1 s.toList=true:=by rw [← HL.out,bJ s k hlt];rfl
   have HR:=Ha (show bE 1 s.toList = !s.toList.isEmpty by unfold bE;rw [hg];rfl);clear hg;go_wp2;go_ret;exact ⟨by rw [HR.out];rfl,rfl⟩
theorem sR (s:ByteArray) (w:World) (hm:s.size≤1099511627776):Calls Tryz.prog 185 #[.string s,.int .i64 2] w fun e w'=>e=.returned (.bool (bE 2 s.toList))∧w=w':=by
 go_enter Tryz.func185,Tryz.ntmps185;go_wp2
 go_loop [5] (fun i=>∃ k:Nat,k≤s.size∧i=.int .i64 k∧bD 2 (s.toList.drop k)=bD 2 s.toList) (fun i=>s.size-(intOf i).toNat)
 case atStart=>exact ⟨0,by omega,rfl,rfl⟩
 case round=>
  obtain ⟨k,hk,rfl,hl⟩:=hrel;have HL:=Ha hl;clear hl;by_cases hlt:k<s.size
  ·by_cases hn:k+1<s.size
   ·have hnz:decide (((k:Int)+1)<(s.size:Int))=true:=decide_eq_true (by omega);have hnz2:¬((s.size:Int)≤(k:Int)+1):=by omega
    have HST:=Ha (dM 2 s.toList k s[k] _ (bA s k hlt));rw [i2 s (k+1) hn,Option.map_some] at HST;cases k0:((Chr.cls s[k].toNat:Int)==0)
    ·cases c36:((s[k].toNat:Int)==36)
     ·cases c125:((s[k].toNat:Int)==125)
      ·cases k6:((Chr.cls s[k].toNat:Int)==6)
       ·have HR:=Ha (show bD 2 (s.toList.drop (k+1))=bD 2 s.toList by rw [← HL.out,HST.out];simp [bO,k0,c36,c125,k6]);go_wp2_with (first | (go_at_call 122;refine (aU s[k].toNat (aH s k hlt) _).mono ?_;rintro e w' ⟨rfl,rfl⟩) | (go_at_call 220;refine (aT s[k+1].toNat (aH s (k+1) hn) _).mono ?_;rintro e w' ⟨rfl,rfl⟩) | (go_at_call 186;refine (aM s[k+1].toNat _).mono ?_;rintro e w' ⟨rfl,rfl⟩))
        go_round
        case rel=>exact ⟨k+1,by omega,by go_num,HR.out⟩
        case measure=>simp only [intOf];omega
       ·have HR:=Ha (show bE 2 s.toList=false by unfold bE;rw [← HL.out,HST.out];simp [bO,k0,c36,c125,k6]);go_wp2_with (first | (go_at_call 122;refine (aU s[k].toNat (aH s k hlt) _).mono ?_;rintro e w' ⟨rfl,rfl⟩) | (go_at_call 220;refine (aT s[k+1].toNat (aH s (k+1) hn) _).mono ?_;rintro e w' ⟨rfl,rfl⟩) | (go_at_call 186;refine (aM s[k+1].toNat _).mono ?_;rintro e w' ⟨rfl,rfl⟩));go_ret;exact ⟨by rw [HR.out];rfl,rfl⟩
      ·have HR:=Ha (show bE 2 s.toList=false by unfold bE;rw [← HL.out,HST.out];simp [bO,k0,c36,c125]);go_wp2_with (first | (go_at_call 122;refine (aU s[k].toNat (aH s k hlt) _).mono ?_;rintro e w' ⟨rfl,rfl⟩) | (go_at_call 220;refine (aT s[k+1].toNat (aH s (k+1) hn) _).mono ?_;rintro e w' ⟨rfl,rfl⟩) | (go_at_call 186;refine (aM s[k+1].toNat _).mono ?_;rintro e w' ⟨rfl,rfl⟩));go_ret;exact ⟨by rw [HR.out];rfl,rfl⟩
     ·cases hd:bH s[k+1].toNat
      ·have HR:=Ha (show bE 2 s.toList=false by unfold bE;rw [← HL.out,HST.out];simp [bO,k0,c36,hd]);go_wp2_with (first | (go_at_call 122;refine (aU s[k].toNat (aH s k hlt) _).mono ?_;rintro e w' ⟨rfl,rfl⟩) | (go_at_call 220;refine (aT s[k+1].toNat (aH s (k+1) hn) _).mono ?_;rintro e w' ⟨rfl,rfl⟩) | (go_at_call 186;refine (aM s[k+1].toNat _).mono ?_;rintro e w' ⟨rfl,rfl⟩));go_ret;exact ⟨by rw [HR.out];rfl,rfl⟩
      ·cases c125:((s[k].toNat:Int)==125)
       ·cases k6:((Chr.cls s[k].toNat:Int)==6)
        ·have HR:=Ha (show bD 2 (s.toList.drop (k+1))=bD 2 s.toList by rw [← HL.out,HST.out];simp [bO,k0,c36,hd,c125,k6]);go_wp2_with (first | (go_at_call 122;refine (aU s[k].toNat (aH s k hlt) _).mono ?_;rintro e w' ⟨rfl,rfl⟩) | (go_at_call 220;refine (aT s[k+1].toNat (aH s (k+1) hn) _).mono ?_;rintro e w' ⟨rfl,rfl⟩) | (go_at_call 186;refine (aM s[k+1].toNat _).mono ?_;rintro e w' ⟨rfl,rfl⟩))
         go_round
         case rel=>exact ⟨k+1,by omega,by go_num,HR.out⟩
         case measure=>simp only [intOf];omega
        ·have HR:=Ha (show bE 2 s.toList=false by unfold bE;rw [← HL.out,HST.out];simp [bO,k0,c36,hd,c125,k6]);go_wp2_with (first | (go_at_call 122;refine (aU s[k].toNat (aH s k hlt) _).mono ?_;rintro e w' ⟨rfl,rfl⟩) | (go_at_call 220;refine (aT s[k+1].toNat (aH s (k+1) hn) _).mono ?_;rintro e w' ⟨rfl,rfl⟩) | (go_at_call 186;refine (aM s[k+1].toNat _).mono ?_;rintro e w' ⟨rfl,rfl⟩));go_ret;exact ⟨by rw [HR.out];rfl,rfl⟩
       ·have HR:=Ha (show bE 2 s.toList=false by unfold bE;rw [← HL.out,HST.out];simp [bO,k0,c36,hd,c125]);go_wp2_with (first | (go_at_call 122;refine (aU s[k].toNat (aH s k hlt) _).mono ?_;rintro e w' ⟨rfl,rfl⟩) | (go_at_call 220;refine (aT s[k+1].toNat (aH s (k+1) hn) _).mono ?_;rintro e w' ⟨rfl,rfl⟩) | (go_at_call 186;refine (aM s[k+1].toNat _).mono ?_;rintro e w' ⟨rfl,rfl⟩));go_ret;exact ⟨by rw [HR.out];rfl,rfl⟩
    ·have HR:=Ha (show bE 2 s.toList=false by unfold bE;rw [← HL.out,HST.out];simp [bO,k0]);go_wp2_with (first | (go_at_call 122;refine (aU s[k].toNat (aH s k hlt) _).mono ?_;rintro e w' ⟨rfl,rfl⟩) | (go_at_call 220;refine (aT s[k+1].toNat (aH s (k+1) hn) _).mono ?_;rintro e w' ⟨rfl,rfl⟩) | (go_at_call 186;refine (aM s[k+1].toNat _).mono ?_;rintro e w' ⟨rfl,rfl⟩));go_ret;exact ⟨by rw [HR.out];rfl,rfl⟩
   ·have hnz:decide (((k:Int)+1)<(s.size:Int))=false:=decide_eq_false (by omega);have hnz2:(s.size:Int)≤(k:Int)+1:=by omega
    have HST:=Ha (dM 2 s.toList k s[k] _ (bA s k hlt));rw [bJ s (k+1) hn,List.head?_nil,Option.map_none] at HST;cases k0:((Chr.cls s[k].toNat:Int)==0)
    ·cases c36:((s[k].toNat:Int)==36)
     ·cases c125:((s[k].toNat:Int)==125)
      ·cases k6:((Chr.cls s[k].toNat:Int)==6)
       ·have HR:=Ha (show bD 2 (s.toList.drop (k+1))=bD 2 s.toList by rw [← HL.out,HST.out];simp [bO,bJ s (k+1) hn,k0,c36,c125,k6]);go_wp2_with (first | (go_at_call 122;refine (aU s[k].toNat (aH s k hlt) _).mono ?_;rintro e w' ⟨rfl,rfl⟩) | (go_at_call 220;refine (aT s[k+1].toNat (aH s (k+1) hn) _).mono ?_;rintro e w' ⟨rfl,rfl⟩) | (go_at_call 186;refine (aM s[k+1].toNat _).mono ?_;rintro e w' ⟨rfl,rfl⟩))
        go_round
        case rel=>exact ⟨k+1,by omega,by go_num,HR.out⟩
        case measure=>simp only [intOf];omega
       ·have HR:=Ha (show bE 2 s.toList=false by unfold bE;rw [← HL.out,HST.out];simp [bO,k0,c36,c125,k6]);go_wp2_with (first | (go_at_call 122;refine (aU s[k].toNat (aH s k hlt) _).mono ?_;rintro e w' ⟨rfl,rfl⟩) | (go_at_call 220;refine (aT s[k+1].toNat (aH s (k+1) hn) _).mono ?_;rintro e w' ⟨rfl,rfl⟩) | (go_at_call 186;refine (aM s[k+1].toNat _).mono ?_;rintro e w' ⟨rfl,rfl⟩));go_ret;exact ⟨by rw [HR.out];rfl,rfl⟩
      ·have HR:=Ha (show bE 2 s.toList=false by unfold bE;rw [← HL.out,HST.out];simp [bO,k0,c36,c125]);go_wp2_with (first | (go_at_call 122;refine (aU s[k].toNat (aH s k hlt) _).mono ?_;rintro e w' ⟨rfl,rfl⟩) | (go_at_call 220;refine (aT s[k+1].toNat (aH s (k+1) hn) _).mono ?_;rintro e w' ⟨rfl,rfl⟩) | (go_at_call 186;refine (aM s[k+1].toNat _).mono ?_;rintro e w' ⟨rfl,rfl⟩));go_ret;exact ⟨by rw [HR.out];rfl,rfl⟩
     ·cases c125:((s[k].toNat:Int)==125)
      ·cases k6:((Chr.cls s[k].toNat:Int)==6)
       ·have HR:=Ha (show bD 2 (s.toList.drop (k+1))=bD 2 s.toList by rw [← HL.out,HST.out];simp [bO,bJ s (k+1) hn,k0,c36,c125,k6]);go_wp2_with (first | (go_at_call 122;refine (aU s[k].toNat (aH s k hlt) _).mono ?_;rintro e w' ⟨rfl,rfl⟩) | (go_at_call 220;refine (aT s[k+1].toNat (aH s (k+1) hn) _).mono ?_;rintro e w' ⟨rfl,rfl⟩) | (go_at_call 186;refine (aM s[k+1].toNat _).mono ?_;rintro e w' ⟨rfl,rfl⟩))
        go_round
        case rel=>exact ⟨k+1,by omega,by go_num,HR.out⟩
        case measure=>simp only [intOf];omega
       ·have HR:=Ha (show bE 2 s.toList=false by unfold bE;rw [← HL.out,HST.out];simp [bO,k0,c36,c125,k6]);go_wp2_with (first | (go_at_call 122;refine (aU s[k].toNat (aH s k hlt) _).mono ?_;rintro e w' ⟨rfl,rfl⟩) | (go_at_call 220;refine (aT s[k+1].toNat (aH s (k+1) hn) _).mono ?_;rintro e w' ⟨rfl,rfl⟩) | (go_at_call 186;refine (aM s[k+1].toNat _).mono ?_;rintro e w' ⟨rfl,rfl⟩));go_ret;exact ⟨by rw [HR.out];rfl,rfl⟩
      ·have HR:=Ha (show bE 2 s.toList=false by unfold bE;rw [← HL.out,HST.out];simp [bO,k0,c36,c125]);go_wp2_with (first | (go_at_call 122;refine (aU s[k].toNat (aH s k hlt) _).mono ?_;rintro e w' ⟨rfl,rfl⟩) | (go_at_call 220;refine (aT s[k+1].toNat (aH s (k+1) hn) _).mono ?_;rintro e w' ⟨rfl,rfl⟩) | (go_at_call 186;refine (aM s[k+1].toNat _).mono ?_;rintro e w' ⟨rfl,rfl⟩));go_ret;exact ⟨by rw [HR.out];rfl,rfl⟩
    ·have HR:=Ha (show bE 2 s.toList=false by unfold bE;rw [← HL.out,HST.out];simp [bO,k0]);go_wp2_with (first | (go_at_call 122;refine (aU s[k].toNat (aH s k hlt) _).mono ?_;rintro e w' ⟨rfl,rfl⟩) | (go_at_call 220;refine (aT s[k+1].toNat (aH s (k+1) hn) _).mono ?_;rintro e w' ⟨rfl,rfl⟩) | (go_at_call 186;refine (aM s[k+1].toNat _).mono ?_;rintro e w' ⟨rfl,rfl⟩));go_ret;exact ⟨by rw [HR.out];rfl,rfl⟩
  ·have hg:bD 2 s.toList=true:=by rw [← HL.out,bJ s k hlt];rfl
   have HR:=Ha (show bE 2 s.toList = !s.toList.isEmpty by unfold bE;rw [hg];rfl);clear hg;go_wp2;go_ret;exact ⟨by rw [HR.out];rfl,rfl⟩
theorem BC (s:ByteArray) (n:Int) (w:World) (hm:s.size≤1099511627776):Calls Tryz.prog 187 #[.string s,.int .u8 n] w fun e w'=>e=.returned (.bool (eB n s.toList))∧w=w':=by
 go_enter Tryz.func187,Tryz.ntmps187;go_wp2
 go_loop [5] (fun i=>∃ k:Nat,k≤s.size∧i=.int .i64 k∧eB n (s.toList.drop k)=eB n s.toList) (fun i=>s.size-(intOf i).toNat)
 case atStart=>exact ⟨0,by omega,rfl,rfl⟩
 case round=>
  obtain ⟨k,hk,rfl,hl⟩:=hrel;have HL:=Ha hl;clear hl;by_cases hlt:k<s.size
  ·cases c0:((s[k].toNat:Int)==0)
   ·cases cn:((s[k].toNat:Int)==n)
    ·have HR:=Ha (show eB n (s.toList.drop (k+1))=eB n s.toList by rw [← HL.out];unfold eB;rw [bA s k hlt,List.all_cons];simp [c0,cn]);go_wp2
     go_round
     case rel=>exact ⟨k+1,by omega,by go_num,HR.out⟩
     case measure=>simp only [intOf];omega
    ·have HR:=Ha (show eB n s.toList=false by rw [← HL.out];unfold eB;rw [bA s k hlt,List.all_cons];simp [c0,cn]);go_wp2;go_ret;exact ⟨by rw [HR.out];rfl,rfl⟩
   ·have HR:=Ha (show eB n s.toList=false by rw [← HL.out];unfold eB;rw [bA s k hlt,List.all_cons];simp [c0]);go_wp2;go_ret;exact ⟨by rw [HR.out];rfl,rfl⟩
  ·have HR:=Ha (show eB n s.toList=true by rw [← HL.out,bJ s k hlt];rfl);go_wp2;go_ret;exact ⟨by rw [HR.out];rfl,rfl⟩
theorem AU (s:ByteArray) (w:World) (hm:s.size≤1099511627776):Calls Tryz.prog 189 #[.string s] w fun e w'=>e=.returned (.bool (aZ 0 s.toList))∧w=w':=by
 go_enter Tryz.func189,Tryz.ntmps189;go_wp2
 go_loop [3,4] (fun v i=>∃ (k:Nat) (m:Int),k≤s.size∧0≤m∧m≤k∧i=.int .i64 k∧v=.int .i64 m∧aZ m (s.toList.drop k)=aZ 0 s.toList) (fun _ i=>s.size-(intOf i).toNat)
 case atStart=>exact ⟨0,0,by omega,by omega,by omega,rfl,rfl,rfl⟩
 case round=>
  obtain ⟨k,m,hk,hm1,hm2,rfl,rfl,hl⟩:=hrel;have HL:=Ha hl;clear hl;by_cases hlt:k<s.size
  ·cases c0:((s[k].toNat:Int)==0)
   ·cases c40:((s[k].toNat:Int)==40)
    ·cases c41:((s[k].toNat:Int)==41)
     ·have HR:=Ha (show aZ m (s.toList.drop (k+1))=aZ 0 s.toList by rw [← HL.out,bA s k hlt];simp [aZ,c0,c40,c41]);go_wp2
      go_round
      case rel=>exact ⟨k+1,m,by omega,by omega,by omega,by go_num,by rfl,HR.out⟩
      case measure=>simp only [intOf];omega
     ·by_cases hm0:m-1<0
      ·have HR:=Ha (show aZ 0 s.toList=false by rw [← HL.out,bA s k hlt];simp [aZ,c0,c40,c41,hm0]);go_wp2;go_ret;exact ⟨by rw [HR.out];rfl,rfl⟩
      ·have HR:=Ha (show aZ (m-1) (s.toList.drop (k+1))=aZ 0 s.toList by rw [← HL.out,bA s k hlt];simp [aZ,c0,c40,c41,hm0]);go_wp2
       go_round
       case rel=>exact ⟨k+1,(m-1),by omega,by omega,by omega,by go_num,by rfl,HR.out⟩
       case measure=>simp only [intOf];omega
    ·have c41:((s[k].toNat:Int)==41)=false:=by rw [beq_iff_eq] at c40;rw [c40];rfl
     have hm0:¬m+1<0:=by omega
     have HR:=Ha (show aZ (m+1) (s.toList.drop (k+1))=aZ 0 s.toList by rw [← HL.out,bA s k hlt];simp [aZ,c0,c40]);go_wp2
     go_round
     case rel=>exact ⟨k+1,(m+1),by omega,by omega,by omega,by go_num,by rfl,HR.out⟩
     case measure=>simp only [intOf];omega
   ·have HR:=Ha (show aZ 0 s.toList=false by rw [← HL.out,bA s k hlt];simp [aZ,c0]);go_wp2;go_ret;exact ⟨by rw [HR.out];rfl,rfl⟩
  ·have HR:=Ha (show aZ 0 s.toList=(m==0) by rw [← HL.out,bJ s k hlt];rfl);go_wp2;go_ret;exact ⟨by rw [HR.out];rfl,rfl⟩
def gR:Array Value:=#[.string ⟨#[58,45]⟩,.string ⟨#[45]⟩,.string ⟨#[58,61]⟩,.string ⟨#[61]⟩,.string ⟨#[58,63]⟩,.string ⟨#[63]⟩,.string ⟨#[58,43]⟩,.string ⟨#[43]⟩,.string ⟨#[37]⟩,.string ⟨#[37,37]⟩,.string ⟨#[35]⟩,.string ⟨#[35,35]⟩]
theorem qY (k:Nat) (h:k<12):∃ x:ByteArray,gR[k]? = some (.string x)∧qZ[k]? = some x.toList:=by
 match k,h with
 | 0,_=>exact ⟨⟨#[58,45]⟩,rfl,by rw [show (⟨#[58,45]⟩:ByteArray).toList=[58,45] from aI [58,45]];rfl⟩
 | 1,_=>exact ⟨⟨#[45]⟩,rfl,by rw [show (⟨#[45]⟩:ByteArray).toList=[45] from aI [45]];rfl⟩
 | 2,_=>exact ⟨⟨#[58,61]⟩,rfl,by rw [show (⟨#[58,61]⟩:ByteArray).toList=[58,61] from aI [58,61]];rfl⟩
 | 3,_=>exact ⟨⟨#[61]⟩,rfl,by rw [show (⟨#[61]⟩:ByteArray).toList=[61] from aI [61]];rfl⟩
 | 4,_=>exact ⟨⟨#[58,63]⟩,rfl,by rw [show (⟨#[58,63]⟩:ByteArray).toList=[58,63] from aI [58,63]];rfl⟩
 | 5,_=>exact ⟨⟨#[63]⟩,rfl,by rw [show (⟨#[63]⟩:ByteArray).toList=[63] from aI [63]];rfl⟩
 | 6,_=>exact ⟨⟨#[58,43]⟩,rfl,by rw [show (⟨#[58,43]⟩:ByteArray).toList=[58,43] from aI [58,43]];rfl⟩
 | 7,_=>exact ⟨⟨#[43]⟩,rfl,by rw [show (⟨#[43]⟩:ByteArray).toList=[43] from aI [43]];rfl⟩
 | 8,_=>exact ⟨⟨#[37]⟩,rfl,by rw [show (⟨#[37]⟩:ByteArray).toList=[37] from aI [37]];rfl⟩
 | 9,_=>exact ⟨⟨#[37,37]⟩,rfl,by rw [show (⟨#[37,37]⟩:ByteArray).toList=[37,37] from aI [37,37]];rfl⟩
 | 10,_=>exact ⟨⟨#[35]⟩,rfl,by rw [show (⟨#[35]⟩:ByteArray).toList=[35] from aI [35]];rfl⟩
 | 11,_=>exact ⟨⟨#[35,35]⟩,rfl,by rw [show (⟨#[35,35]⟩:ByteArray).toList=[35,35] from aI [35,35]];rfl⟩
theorem D8 (w:World):Calls Tryz.prog 243 #[] w fun e w'=>e=.returned (.slice (some ⟨w.heap.size,0,none⟩) 12 12)∧w'=w.alloc (.cells gR 9):=by
 go_enter Tryz.func243,Tryz.ntmps243;go_wp2;go_ret;exact ⟨rfl,rfl⟩
theorem fH (s:ByteArray) (w:World):Calls Tryz.prog 222 #[.string s] w fun e w'=>e=.returned (.bool (opB s.toList))∧Below w.heap.size w w':=by
 go_enter Tryz.func222,Tryz.ntmps222;go_wp2_with fail;refine (D8 _).mono ?_;rintro e w1 ⟨rfl,rfl⟩;have hbk:=heap_alloc_new w (.cells gR 9);have hcell:∀ k,k<12→∃ x:ByteArray,(w.alloc (.cells gR 9)).cell? ⟨w.heap.size,k,none⟩=some (.string x)∧qZ[k]? = some x.toList:=fun k hk=>by
  obtain ⟨x,h1,h2⟩:=qY k hk;exact ⟨x,by simp only [World.cell?,hbk];exact h1,h2⟩
 have HC:=Ha hcell;have HBE:=Ha ((Below.refl w.heap.size w).alloc (Nat.le_refl _) (.cells gR 9));clear hcell hbk
 revert HC HBE
 generalize w.alloc (.cells gR 9)=X;intro HC HBE;go_wp2
 go_loop [4] (fun i=>∃ k:Nat,k≤12∧i=.int .i64 k∧(qZ.take k).any (· == s.toList)=false) (fun i=>12-(intOf i).toNat)
 case atStart=>exact ⟨0,by omega,rfl,rfl⟩
 case round=>
  obtain ⟨k,hk,rfl,hl⟩:=hrel;have HL:=Ha hl;clear hl;by_cases hlt:k<12
  ·obtain ⟨x,hx,hox⟩:=HC.out k hlt;have hlz:decide ((k:Int)<12)=true:=decide_eq_true (by omega);have hkn:k<qZ.length:=hlt;have hge:qZ[k]=x.toList:=by
    have:=List.getElem?_eq_getElem hkn;rw [hox] at this;exact (Option.some.inj this).symm
   cases hq:(x.toList==s.toList)
   ·have hn:(qZ.take (k+1)).any (· == s.toList)=false:=by
     rw [List.take_succ_eq_append_getElem hkn,List.any_append,HL.out,hge];simp [hq]
    have HNN:=Ha hn;clear hn hge hox;go_wp2
    go_round
    case rel=>exact ⟨k+1,by omega,by go_num,HNN.out⟩
    case measure=>simp only [intOf];omega
   ·have hn:opB s.toList=true:=by
     unfold opB;rw [List.any_eq_true];exact ⟨x.toList,List.mem_of_getElem? hox,hq⟩
    have HNN:=Ha hn;clear hn hge hox;go_wp2;go_ret;exact ⟨by rw [HNN.out];rfl,HBE.out⟩
  ·have hlz:decide ((k:Int)<12)=false:=decide_eq_false (by omega);have hn:opB s.toList=false:=by
    have:=HL.out
    rwa [List.take_of_length_le (by show 12≤k;omega)] at this
   have HNN:=Ha hn;clear hn;go_wp2;go_ret;exact ⟨by rw [HNN.out];rfl,HBE.out⟩
theorem jV (s:ByteArray) (w:World):Calls Tryz.prog 216 #[.string s,.int .u8 61] w fun e w'=>e=.returned (.int .i64 (Lib.indexByte s.toList 61))∧w=w':=iO s 61 w
theorem qE (s:ByteArray) (w:World) (hm:s.size≤9223372036854775807):Calls Tryz.prog 211 #[.string s] w fun e w'=>e=.returned (.int .i64 (Chr.assign s.toList))∧Below w.heap.size w w':=by
 have HA:=Ha (Chr.assign_eq s.toList);have hge:=Lib.indexByte_ge s.toList 61;have hlt:=Chr.indexByte_lt 61 s.toList;rw [← aL] at hlt;by_cases hi:Lib.indexByte s.toList 61=-1
 ·have HI:=Ha hi;clear hge hlt;go_enter Tryz.func211,Tryz.ntmps211;go_wp2_with (go_at_call 216;refine (jV _ _).mono ?_;rintro e w' ⟨rfl,rfl⟩);go_ret;refine ⟨bN ?_,Below.refl _ _⟩;rw [HA.out,if_pos HI.out]
 ·obtain ⟨k,hk⟩:∃ k:Nat,Lib.indexByte s.toList 61=k:=⟨(Lib.indexByte s.toList 61).toNat,by omega⟩;have hks:k≤s.size:=by rcases hlt with h | h <;> omega
  have HK:=Ha hk;clear hi hge hlt;have hsz:(s.extract 0 k).size≤9223372036854775807:=by rw [aL,gS,List.length_take];omega
  have HS:=Ha hsz;clear hsz;cases hn:Chr.name (s.toList.take k);all_goals
   have HN:=Ha hn;go_enter Tryz.func211,Tryz.ntmps211;go_wp2_with (first
    | (go_at_call 216;refine (jV _ _).mono ?_;rintro e w' ⟨rfl,rfl⟩)
    | (go_at_call 92;refine (iS _ _ HS.out).mono ?_;rintro e w' ⟨rfl,hb⟩;rw [gS]))
   go_ret;refine ⟨bN ?_,hb⟩;rw [HA.out,HK.out,if_neg (by omega),Int.toNat_natCast,HN.out];rfl
theorem BX:∀ c:Fin 256,decide (0≤Lib.indexByte [36,96,34,92] ((c.val:Int).toNat.toUInt8))=bF (c.val:Int):=by decide +kernel
theorem cE (c:Nat) (hc:c<256) (w:World):Calls Tryz.prog 181 #[.int .u8 (c:Int)] w fun e w'=>e=.returned (.bool (bF (c:Int)))∧w=w':=by
 have hq:=BX ⟨c,hc⟩;simp only at hq;have HQ:=Ha hq;clear hq;go_enter Tryz.func181,Tryz.ntmps181;go_wp2_with fail;refine (iO _ _ _).mono ?_;rintro e w' ⟨rfl,rfl⟩;rw [show (⟨#[36,96,34,92]⟩:ByteArray).toList=[36,96,34,92] from aI [36,96,34,92]];go_wp2;go_ret;exact ⟨by rw [← HQ.out];rfl,rfl⟩
theorem dS (c:Nat) (hc:c<256) (w:World):Calls Tryz.prog 215 #[.int .u8 (c:Int)] w fun e w'=>e=.returned (.bool (!bH c))∧w=w':=by
 cases h4:((Chr.cls c:Int)==4)
 ·cases h3:((Chr.cls c:Int)==3)
  ·cases hs:Chr.special c
   ·cases h123:((c:Int)==123)
    ·cases h40:((c:Int)==40)
     ·have HF:=Ha (show (!bH c)=false by simp [bH,bne,h4,h3,hs,h123,h40]);go_enter Tryz.func215,Tryz.ntmps215;go_wp2_with (first | (go_at_call 115;refine (cL c hc _).mono ?_;rintro e w' ⟨rfl,rfl⟩) | (go_at_call 241;refine (eE c hc _).mono ?_;rintro e w' ⟨rfl,rfl⟩));go_ret;exact ⟨by rw [HF.out];rfl,rfl⟩
     ·have HF:=Ha (show (!bH c)=true by simp [bH,bne,h4,h3,hs,h123,h40]);go_enter Tryz.func215,Tryz.ntmps215;go_wp2_with (first | (go_at_call 115;refine (cL c hc _).mono ?_;rintro e w' ⟨rfl,rfl⟩) | (go_at_call 241;refine (eE c hc _).mono ?_;rintro e w' ⟨rfl,rfl⟩));go_ret;exact ⟨by rw [HF.out];rfl,rfl⟩
    ·have HF:=Ha (show (!bH c)=true by simp [bH,bne,h4,h3,hs,h123]);go_enter Tryz.func215,Tryz.ntmps215;go_wp2_with (first | (go_at_call 115;refine (cL c hc _).mono ?_;rintro e w' ⟨rfl,rfl⟩) | (go_at_call 241;refine (eE c hc _).mono ?_;rintro e w' ⟨rfl,rfl⟩));go_ret;exact ⟨by rw [HF.out];rfl,rfl⟩
   ·have HF:=Ha (show (!bH c)=true by simp [bH,bne,h4,h3,hs]);go_enter Tryz.func215,Tryz.ntmps215;go_wp2_with (first | (go_at_call 115;refine (cL c hc _).mono ?_;rintro e w' ⟨rfl,rfl⟩) | (go_at_call 241;refine (eE c hc _).mono ?_;rintro e w' ⟨rfl,rfl⟩));go_ret;exact ⟨by rw [HF.out];rfl,rfl⟩
  ·have HF:=Ha (show (!bH c)=true by simp [bH,bne,h4,h3]);go_enter Tryz.func215,Tryz.ntmps215;go_wp2_with (first | (go_at_call 115;refine (cL c hc _).mono ?_;rintro e w' ⟨rfl,rfl⟩) | (go_at_call 241;refine (eE c hc _).mono ?_;rintro e w' ⟨rfl,rfl⟩));go_ret;exact ⟨by rw [HF.out];rfl,rfl⟩
 ·have HF:=Ha (show (!bH c)=true by simp [bH,bne,h4]);go_enter Tryz.func215,Tryz.ntmps215;go_wp2_with (first | (go_at_call 115;refine (cL c hc _).mono ?_;rintro e w' ⟨rfl,rfl⟩) | (go_at_call 241;refine (eE c hc _).mono ?_;rintro e w' ⟨rfl,rfl⟩));go_ret;exact ⟨by rw [HF.out];rfl,rfl⟩
def cA (p:Nat) (c:Nat):Bool:=
 if p=0 then ((Chr.cls c:Int)==3||(Chr.cls c:Int)==4||(Chr.cls c:Int)==8||(Chr.cls c:Int)==7)
 else if p=1 then ((c:Int) != 34)&&((c:Int) != 96)
 else ((c:Int) != 125)&&((Chr.cls c:Int) != 6)
theorem yI (c:Nat) (hc:c<256) (w:World):Calls Tryz.prog 214 #[.int .i64 0,.int .u8 (c:Int)] w fun e w'=>e=.returned (.bool (cA 0 c))∧w=w':=by
 cases k3:((Chr.cls c:Int)==3)
 ·cases k4:((Chr.cls c:Int)==4)
  ·cases k8:((Chr.cls c:Int)==8)
   ·cases k7:((Chr.cls c:Int)==7)
    ·have HF:=Ha (show cA 0 c=false by simp [cA,k3,k4,k8,k7]);go_enter Tryz.func214,Tryz.ntmps214;go_wp2_with (go_at_call 115;refine (cL c hc _).mono ?_;rintro e w' ⟨rfl,rfl⟩);go_ret;exact ⟨by rw [HF.out];rfl,rfl⟩
    ·have HF:=Ha (show cA 0 c=true by simp [cA,k3,k4,k8,k7]);go_enter Tryz.func214,Tryz.ntmps214;go_wp2_with (go_at_call 115;refine (cL c hc _).mono ?_;rintro e w' ⟨rfl,rfl⟩);go_ret;exact ⟨by rw [HF.out];rfl,rfl⟩
   ·have HF:=Ha (show cA 0 c=true by simp [cA,k3,k4,k8]);go_enter Tryz.func214,Tryz.ntmps214;go_wp2_with (go_at_call 115;refine (cL c hc _).mono ?_;rintro e w' ⟨rfl,rfl⟩);go_ret;exact ⟨by rw [HF.out];rfl,rfl⟩
  ·have HF:=Ha (show cA 0 c=true by simp [cA,k3,k4]);go_enter Tryz.func214,Tryz.ntmps214;go_wp2_with (go_at_call 115;refine (cL c hc _).mono ?_;rintro e w' ⟨rfl,rfl⟩);go_ret;exact ⟨by rw [HF.out];rfl,rfl⟩
 ·have HF:=Ha (show cA 0 c=true by simp [cA,k3]);go_enter Tryz.func214,Tryz.ntmps214;go_wp2_with (go_at_call 115;refine (cL c hc _).mono ?_;rintro e w' ⟨rfl,rfl⟩);go_ret;exact ⟨by rw [HF.out];rfl,rfl⟩
theorem yJ (c:Nat) (hc:c<256) (w:World):Calls Tryz.prog 214 #[.int .i64 1,.int .u8 (c:Int)] w fun e w'=>e=.returned (.bool (cA 1 c))∧w=w':=by
 cases c34:((c:Int) != 34)
 ·have HF:=Ha (show cA 1 c=false by simp [cA,c34]);go_enter Tryz.func214,Tryz.ntmps214;go_wp2_with (go_at_call 115;refine (cL c hc _).mono ?_;rintro e w' ⟨rfl,rfl⟩);go_ret;exact ⟨by rw [HF.out];rfl,rfl⟩
 ·cases c96:((c:Int) != 96)
  ·have HF:=Ha (show cA 1 c=false by simp [cA,c34,c96]);go_enter Tryz.func214,Tryz.ntmps214;go_wp2_with (go_at_call 115;refine (cL c hc _).mono ?_;rintro e w' ⟨rfl,rfl⟩);go_ret;exact ⟨by rw [HF.out];rfl,rfl⟩
  ·have HF:=Ha (show cA 1 c=true by simp [cA,c34,c96]);go_enter Tryz.func214,Tryz.ntmps214;go_wp2_with (go_at_call 115;refine (cL c hc _).mono ?_;rintro e w' ⟨rfl,rfl⟩);go_ret;exact ⟨by rw [HF.out];rfl,rfl⟩
theorem yK (c:Nat) (hc:c<256) (w:World):Calls Tryz.prog 214 #[.int .i64 2,.int .u8 (c:Int)] w fun e w'=>e=.returned (.bool (cA 2 c))∧w=w':=by
 cases c125:((c:Int) != 125)
 ·have HF:=Ha (show cA 2 c=false by simp [cA,c125]);go_enter Tryz.func214,Tryz.ntmps214;go_wp2_with (go_at_call 115;refine (cL c hc _).mono ?_;rintro e w' ⟨rfl,rfl⟩);go_ret;exact ⟨by rw [HF.out];rfl,rfl⟩
 ·cases k6:((Chr.cls c:Int) != 6)
  ·have HF:=Ha (show cA 2 c=false by simp [cA,c125,k6]);go_enter Tryz.func214,Tryz.ntmps214;go_wp2_with (go_at_call 115;refine (cL c hc _).mono ?_;rintro e w' ⟨rfl,rfl⟩);go_ret;exact ⟨by rw [HF.out];rfl,rfl⟩
  ·have HF:=Ha (show cA 2 c=true by simp [cA,c125,k6]);go_enter Tryz.func214,Tryz.ntmps214;go_wp2_with (go_at_call 115;refine (cL c hc _).mono ?_;rintro e w' ⟨rfl,rfl⟩);go_ret;exact ⟨by rw [HF.out];rfl,rfl⟩
theorem dR (p:Nat) (hp:p≤2) (c:Nat) (hc:c<256) (w:World):Calls Tryz.prog 214 #[.int .i64 p,.int .u8 (c:Int)] w fun e w'=>e=.returned (.bool (cA p c))∧w=w':=by
 have h:p=0∨p=1∨p=2:=by omega
 rcases h with rfl | rfl | rfl
 ·exact yI c hc w
 ·exact yJ c hc w
 ·exact yK c hc w
def jY (p:Nat) (c:Nat) (nx:Option Nat):Bool:=
 if (c:Int)==0 then false
 else if !cA p c then false
 else if (c:Int)==36&&(match nx with | some d=>!bH d | none=>false) then false
 else !((c:Int)==92&&(match nx with | some d=>bF d||(d:Int)==10 | none=>true))
def D4 (p:Nat) (c:Nat) (b1 b2:Bool):Bool:=
 if (Chr.cls c:Int)==0 then false
 else if (c:Int)==36&&b1 then false
 else if p=0 then ((Chr.cls c:Int)==3||(Chr.cls c:Int)==4||(Chr.cls c:Int)==8||(Chr.cls c:Int)==7)
 else if p=2 then !((c:Int)==125||(Chr.cls c:Int)==6)
 else if (c:Int)==34||(c:Int)==96 then false
 else !((c:Int)==92&&b2)
def D5 (p:Nat) (c:Nat) (b1 b2:Bool):Bool:=
 if (c:Int)==0 then false
 else if !cA p c then false
 else if (c:Int)==36&&b1 then false
 else !((c:Int)==92&&b2)
theorem EL:∀ c:Fin 256,∀ p:Fin 3,∀ b1 b2:Bool,D5 p.val c.val b1 b2=D4 p.val c.val b1 b2:=by decide +kernel
theorem uH (p:Nat) (hp:p≤2) (c:Nat) (hc:c<256) (nx:Option Nat):bO p c nx=jY p c nx:=by
 have:=EL ⟨c,hc⟩ ⟨p,by omega⟩;cases nx with
 | none=>exact (this false true).symm
 | some d=>exact (this (!bH d) (bF d||(d:Int)==10)).symm
theorem vV (p:Nat) (hp2:p≤2) (s:ByteArray) (w:World) (hm:s.size≤1099511627776):Calls Tryz.prog 180 #[.int .i64 p,.string s] w fun e w'=>e=.returned (.bool (bE p s.toList))∧w=w':=by
 go_enter Tryz.func180,Tryz.ntmps180;go_wp2
 go_loop [10,5] (fun i _=>∃ k:Nat,k≤s.size∧i=.int .i64 k∧bD p (s.toList.drop k)=bD p s.toList) (fun i _=>s.size-(intOf i).toNat)
 case atStart=>exact ⟨0,by omega,rfl,rfl⟩
 case round=>
  obtain ⟨k,hk,rfl,hl⟩:=hrel;have HL:=Ha hl;clear hl;by_cases hlt:k<s.size
  ·by_cases hn:k+1<s.size
   ·have hlz:((k:Int)==(s.size:Int)-1)=false:=by rw [gJ];omega
    have hnl:(k:Int)+1<(s.size:Int):=by omega
    have hst:=dM p s.toList k s[k] _ (bA s k hlt);rw [i2 s (k+1) hn,Option.map_some,uH p hp2 _ (aH s k hlt)] at hst;have HST:=Ha hst;clear hst;cases c0:((s[k].toNat:Int)==0)
    ·cases hh:cA p s[k].toNat
     ·have HR:=Ha (show bE p s.toList=false by unfold bE;rw [← HL.out,HST.out];simp [jY,c0,hh]);go_wp2_with (first | (go_at_call 214;refine (dR p hp2 s[k].toNat (aH s k hlt) _).mono ?_;rintro e w' ⟨rfl,rfl⟩) | (go_at_call 215;refine (dS s[k+1].toNat (aH s (k+1) hn) _).mono ?_;rintro e w' ⟨rfl,rfl⟩) | (go_at_call 181;refine (cE s[k+1].toNat (aH s (k+1) hn) _).mono ?_;rintro e w' ⟨rfl,rfl⟩));go_ret;exact ⟨by rw [HR.out];rfl,rfl⟩
     ·cases c36:((s[k].toNat:Int)==36)
      ·cases c92:((s[k].toNat:Int)==92)
       ·have HR:=Ha (show bD p (s.toList.drop (k+1))=bD p s.toList by rw [← HL.out,HST.out];simp [jY,c0,hh,c36,c92]);go_wp2_with (first | (go_at_call 214;refine (dR p hp2 s[k].toNat (aH s k hlt) _).mono ?_;rintro e w' ⟨rfl,rfl⟩) | (go_at_call 215;refine (dS s[k+1].toNat (aH s (k+1) hn) _).mono ?_;rintro e w' ⟨rfl,rfl⟩) | (go_at_call 181;refine (cE s[k+1].toNat (aH s (k+1) hn) _).mono ?_;rintro e w' ⟨rfl,rfl⟩))
        go_round
        case rel=>exact ⟨k+1,by omega,by go_num,HR.out⟩
        case measure=>simp only [intOf];omega
       ·cases e1:bF (s[k+1].toNat:Int)
        ·cases e2:((s[k+1].toNat:Int)==10)
         ·have HR:=Ha (show bD p (s.toList.drop (k+1))=bD p s.toList by rw [← HL.out,HST.out];simp [jY,c0,hh,c36,c92,e1,e2]);go_wp2_with (first | (go_at_call 214;refine (dR p hp2 s[k].toNat (aH s k hlt) _).mono ?_;rintro e w' ⟨rfl,rfl⟩) | (go_at_call 215;refine (dS s[k+1].toNat (aH s (k+1) hn) _).mono ?_;rintro e w' ⟨rfl,rfl⟩) | (go_at_call 181;refine (cE s[k+1].toNat (aH s (k+1) hn) _).mono ?_;rintro e w' ⟨rfl,rfl⟩))
          go_round
          case rel=>exact ⟨k+1,by omega,by go_num,HR.out⟩
          case measure=>simp only [intOf];omega
         ·have HR:=Ha (show bE p s.toList=false by unfold bE;rw [← HL.out,HST.out];simp [jY,c0,hh,c36,c92,e1,e2]);go_wp2_with (first | (go_at_call 214;refine (dR p hp2 s[k].toNat (aH s k hlt) _).mono ?_;rintro e w' ⟨rfl,rfl⟩) | (go_at_call 215;refine (dS s[k+1].toNat (aH s (k+1) hn) _).mono ?_;rintro e w' ⟨rfl,rfl⟩) | (go_at_call 181;refine (cE s[k+1].toNat (aH s (k+1) hn) _).mono ?_;rintro e w' ⟨rfl,rfl⟩));go_ret;exact ⟨by rw [HR.out];rfl,rfl⟩
        ·have HR:=Ha (show bE p s.toList=false by unfold bE;rw [← HL.out,HST.out];simp [jY,c0,hh,c36,c92,e1]);go_wp2_with (first | (go_at_call 214;refine (dR p hp2 s[k].toNat (aH s k hlt) _).mono ?_;rintro e w' ⟨rfl,rfl⟩) | (go_at_call 215;refine (dS s[k+1].toNat (aH s (k+1) hn) _).mono ?_;rintro e w' ⟨rfl,rfl⟩) | (go_at_call 181;refine (cE s[k+1].toNat (aH s (k+1) hn) _).mono ?_;rintro e w' ⟨rfl,rfl⟩));go_ret;exact ⟨by rw [HR.out];rfl,rfl⟩
      ·cases hd:bH s[k+1].toNat
       ·have HR:=Ha (show bE p s.toList=false by unfold bE;rw [← HL.out,HST.out];simp [jY,c0,hh,c36,hd]);go_wp2_with (first | (go_at_call 214;refine (dR p hp2 s[k].toNat (aH s k hlt) _).mono ?_;rintro e w' ⟨rfl,rfl⟩) | (go_at_call 215;refine (dS s[k+1].toNat (aH s (k+1) hn) _).mono ?_;rintro e w' ⟨rfl,rfl⟩) | (go_at_call 181;refine (cE s[k+1].toNat (aH s (k+1) hn) _).mono ?_;rintro e w' ⟨rfl,rfl⟩));go_ret;exact ⟨by rw [HR.out];rfl,rfl⟩
       ·have c92:((s[k].toNat:Int)==92)=false:=by rw [beq_iff_eq] at c36;rw [c36];rfl
        have HR:=Ha (show bD p (s.toList.drop (k+1))=bD p s.toList by rw [← HL.out,HST.out];simp [jY,c0,hh,c36,hd,c92]);go_wp2_with (first | (go_at_call 214;refine (dR p hp2 s[k].toNat (aH s k hlt) _).mono ?_;rintro e w' ⟨rfl,rfl⟩) | (go_at_call 215;refine (dS s[k+1].toNat (aH s (k+1) hn) _).mono ?_;rintro e w' ⟨rfl,rfl⟩) | (go_at_call 181;refine (cE s[k+1].toNat (aH s (k+1) hn) _).mono ?_;rintro e w' ⟨rfl,rfl⟩))
        go_round
        case rel=>exact ⟨k+1,by omega,by go_num,HR.out⟩
        case measure=>simp only [intOf];omega
    ·have HR:=Ha (show bE p s.toList=false by unfold bE;rw [← HL.out,HST.out];simp [jY,c0]);go_wp2_with (first | (go_at_call 214;refine (dR p hp2 s[k].toNat (aH s k hlt) _).mono ?_;rintro e w' ⟨rfl,rfl⟩) | (go_at_call 215;refine (dS s[k+1].toNat (aH s (k+1) hn) _).mono ?_;rintro e w' ⟨rfl,rfl⟩) | (go_at_call 181;refine (cE s[k+1].toNat (aH s (k+1) hn) _).mono ?_;rintro e w' ⟨rfl,rfl⟩));go_ret;exact ⟨by rw [HR.out];rfl,rfl⟩
   ·have hlz:((k:Int)==(s.size:Int)-1)=true:=by rw [beq_iff_eq];omega
    have hst:=dM p s.toList k s[k] _ (bA s k hlt);rw [bJ s (k+1) hn,List.head?_nil,Option.map_none,uH p hp2 _ (aH s k hlt)] at hst;have HST:=Ha hst;clear hst;cases c0:((s[k].toNat:Int)==0)
    ·cases hh:cA p s[k].toNat
     ·have HR:=Ha (show bE p s.toList=false by unfold bE;rw [← HL.out,HST.out];simp [jY,c0,hh]);go_wp2_with (first | (go_at_call 214;refine (dR p hp2 s[k].toNat (aH s k hlt) _).mono ?_;rintro e w' ⟨rfl,rfl⟩) | (go_at_call 215;refine (dS s[k+1].toNat (aH s (k+1) hn) _).mono ?_;rintro e w' ⟨rfl,rfl⟩) | (go_at_call 181;refine (cE s[k+1].toNat (aH s (k+1) hn) _).mono ?_;rintro e w' ⟨rfl,rfl⟩));go_ret;exact ⟨by rw [HR.out];rfl,rfl⟩
     ·cases c36:((s[k].toNat:Int)==36)
      ·cases c92:((s[k].toNat:Int)==92)
       ·have HR:=Ha (show bD p (s.toList.drop (k+1))=bD p s.toList by rw [← HL.out,HST.out];simp [jY,bJ s (k+1) hn,c0,hh,c36,c92]);go_wp2_with (first | (go_at_call 214;refine (dR p hp2 s[k].toNat (aH s k hlt) _).mono ?_;rintro e w' ⟨rfl,rfl⟩) | (go_at_call 215;refine (dS s[k+1].toNat (aH s (k+1) hn) _).mono ?_;rintro e w' ⟨rfl,rfl⟩) | (go_at_call 181;refine (cE s[k+1].toNat (aH s (k+1) hn) _).mono ?_;rintro e w' ⟨rfl,rfl⟩))
        go_round
        case rel=>exact ⟨k+1,by omega,by go_num,HR.out⟩
        case measure=>simp only [intOf];omega
       ·have HR:=Ha (show bE p s.toList=false by unfold bE;rw [← HL.out,HST.out];simp [jY,c0,hh,c36,c92]);go_wp2_with (first | (go_at_call 214;refine (dR p hp2 s[k].toNat (aH s k hlt) _).mono ?_;rintro e w' ⟨rfl,rfl⟩) | (go_at_call 215;refine (dS s[k+1].toNat (aH s (k+1) hn) _).mono ?_;rintro e w' ⟨rfl,rfl⟩) | (go_at_call 181;refine (cE s[k+1].toNat (aH s (k+1) hn) _).mono ?_;rintro e w' ⟨rfl,rfl⟩));go_ret;exact ⟨by rw [HR.out];rfl,rfl⟩
      ·have c92:((s[k].toNat:Int)==92)=false:=by rw [beq_iff_eq] at c36;rw [c36];rfl
       have HR:=Ha (show bD p (s.toList.drop (k+1))=bD p s.toList by rw [← HL.out,HST.out];simp [jY,bJ s (k+1) hn,c0,hh,c36,c92]);go_wp2_with (first | (go_at_call 214;refine (dR p hp2 s[k].toNat (aH s k hlt) _).mono ?_;rintro e w' ⟨rfl,rfl⟩) | (go_at_call 215;refine (dS s[k+1].toNat (aH s (k+1) hn) _).mono ?_;rintro e w' ⟨rfl,rfl⟩) | (go_at_call 181;refine (cE s[k+1].toNat (aH s (k+1) hn) _).mono ?_;rintro e w' ⟨rfl,rfl⟩))
       go_round
       case rel=>exact ⟨k+1,by omega,by go_num,HR.out⟩
       case measure=>simp only [intOf];omega
    ·have HR:=Ha (show bE p s.toList=false by unfold bE;rw [← HL.out,HST.out];simp [jY,c0]);go_wp2_with (first | (go_at_call 214;refine (dR p hp2 s[k].toNat (aH s k hlt) _).mono ?_;rintro e w' ⟨rfl,rfl⟩) | (go_at_call 215;refine (dS s[k+1].toNat (aH s (k+1) hn) _).mono ?_;rintro e w' ⟨rfl,rfl⟩) | (go_at_call 181;refine (cE s[k+1].toNat (aH s (k+1) hn) _).mono ?_;rintro e w' ⟨rfl,rfl⟩));go_ret;exact ⟨by rw [HR.out];rfl,rfl⟩
  ·have hg:bD p s.toList=true:=by rw [← HL.out,bJ s k hlt];rfl
   have HR:=Ha (show bE p s.toList = !s.toList.isEmpty by unfold bE;rw [hg];rfl);clear hg;go_wp2;go_ret;exact ⟨by rw [HR.out];rfl,rfl⟩
end Go.Proofs.YtjpopekmbmcggaaGreatDoor
