/- Towards unparseRight_card: RefOp, CharLaws. Merged from smaller texts by a program of the author's. -/
import Derived.Test.YtjpopekmbmcggaaGreatDoorUc07
import Derived.Deep.RegionWith
import Derived.Laws.BytesArg
set_option maxRecDepth 100000
set_option maxHeartbeats 16000000
namespace Go.Proofs.YtjpopekmbmcggaaGreatDoor
open Go.RowKit
def gO:Array Value:=#[.string ⟨#[58,45]⟩,.string ⟨#[45]⟩,.string ⟨#[58,61]⟩,.string ⟨#[61]⟩,.string ⟨#[58,63]⟩,.string ⟨#[63]⟩,.string ⟨#[58,43]⟩,.string ⟨#[43]⟩,.string ⟨#[37]⟩,.string ⟨#[37,37]⟩,.string ⟨#[35]⟩,.string ⟨#[35,35]⟩]
theorem qO (k:Nat) (h:k<12):∃ x:ByteArray,gO[k]? = some (.string x)∧qP[k]? = some x.toList:=by
 match k,h with
 | 0,_=>exact ⟨⟨#[58,45]⟩,rfl,by rw [show (⟨#[58,45]⟩:ByteArray).toList=[58,45] from aI [58,45]];rfl⟩
 | 1,_=>exact ⟨⟨#[45]⟩,rfl,by rw [show (⟨#[45]⟩:ByteArray).toList=[45] from aI [45]];rfl⟩
 | 2,_=>exact ⟨⟨#[58,61]⟩,rfl,by rw [show (⟨#[58,61]⟩:ByteArray).toList=[58,61] from aI [58,61]];rfl⟩
 | 3,_=>exact ⟨⟨#[61]⟩,rfl,by rw [show (⟨#[61]⟩:ByteArray).toList=[61] from aI [61]];rfl⟩
 | 4,_=>exact ⟨⟨#[58,63]⟩,rfl,by rw [show (⟨#[58,63]⟩:ByteArray).toList=[58,63] from aI [58,63]];rfl⟩
 | 5,_=>exact ⟨⟨#[63]⟩,rfl,by rw [show (⟨#[63]⟩:ByteArray).toList=[63] from aI [63]];rfl⟩
 | 6,_=>exact ⟨⟨#[58,43]⟩,rfl,by rw [show (⟨#[58,43]⟩:ByteArray).toList=[58,43] from aI [58,43]];rfl⟩
 | 7,_=>exact ⟨⟨#[43]⟩,rfl,by rw [show (⟨#[43]⟩:ByteArray).toList=[43] from aI [43]];rfl⟩
 | 8,_=>exact ⟨⟨#[37]⟩,rfl,by rw [show (⟨#[37]⟩:ByteArray).toList=[37] from aI [37]];rfl⟩
 | 9,_=>exact ⟨⟨#[37,37]⟩,rfl,by rw [show (⟨#[37,37]⟩:ByteArray).toList=[37,37] from aI [37,37]];rfl⟩
 | 10,_=>exact ⟨⟨#[35]⟩,rfl,by rw [show (⟨#[35]⟩:ByteArray).toList=[35] from aI [35]];rfl⟩
 | 11,_=>exact ⟨⟨#[35,35]⟩,rfl,by rw [show (⟨#[35,35]⟩:ByteArray).toList=[35,35] from aI [35,35]];rfl⟩
theorem DG (w:World):Calls Tryz.prog 243 #[] w fun e w'=>e=.returned (.slice (some ⟨w.heap.size,0,none⟩) 12 12)∧w'=w.alloc (.cells gO 9):=by
 go_enter Tryz.func243,Tryz.ntmps243;go_wp2;go_ret;exact ⟨rfl,rfl⟩
theorem fD (s:ByteArray) (w:World):Calls Tryz.prog 222 #[.string s] w fun e w'=>e=.returned (.bool (opB s.toList))∧Below w.heap.size w w':=by
 go_enter Tryz.func222,Tryz.ntmps222;go_wp2_with fail;refine (DG _).mono ?_;rintro e w1 ⟨rfl,rfl⟩;have hbk:=heap_alloc_new w (.cells gO 9);have hcell:∀ k,k<12→∃ x:ByteArray,(w.alloc (.cells gO 9)).cell? ⟨w.heap.size,k,none⟩=some (.string x)∧qP[k]? = some x.toList:=fun k hk=>by
  obtain ⟨x,h1,h2⟩:=qO k hk;exact ⟨x,by simp only [World.cell?,hbk];exact h1,h2⟩
 have HC:=Ha hcell;have HBE:=Ha ((Below.refl w.heap.size w).alloc (Nat.le_refl _) (.cells gO 9));clear hcell hbk
 revert HC HBE
 generalize w.alloc (.cells gO 9)=X;intro HC HBE;go_wp2
 go_loop [4] (fun i=>∃ k:Nat,k≤12∧i=.int .i64 k∧(qP.take k).any (· == s.toList)=false) (fun i=>12-(intOf i).toNat)
 case atStart=>exact ⟨0,by omega,rfl,rfl⟩
 case round=>
  obtain ⟨k,hk,rfl,hl⟩:=hrel;have HL:=Ha hl;clear hl;by_cases hlt:k<12
  ·obtain ⟨x,hx,hox⟩:=HC.out k hlt;have hlz:decide ((k:Int)<12)=true:=decide_eq_true (by omega);have hkn:k<qP.length:=hlt;have hge:qP[k]=x.toList:=by
    have:=List.getElem?_eq_getElem hkn;rw [hox] at this;exact (Option.some.inj this).symm
   cases hq:(x.toList==s.toList)
   ·have hn:(qP.take (k+1)).any (· == s.toList)=false:=by
     rw [List.take_succ_eq_append_getElem hkn,List.any_append,HL.out,hge];simp [hq]
    have HNN:=Ha hn;clear hn hge hox;go_wp2
    go_round
    case rel=>exact ⟨k+1,by omega,by go_num,HNN.out⟩
    case measure=>simp only [intOf];omega
   ·have hn:opB s.toList=true:=by
     unfold opB;rw [List.any_eq_true];exact ⟨x.toList,List.mem_of_getElem? hox,hq⟩
    have HNN:=Ha hn;clear hn hge hox;go_wp2;go_ret;exact ⟨by rw [HNN.out];rfl,HBE.out⟩
  ·have hlz:decide ((k:Int)<12)=false:=decide_eq_false (by omega);have hn:opB s.toList=false:=by
    have:=HL.out
    rwa [List.take_of_length_le (by show 12≤k;omega)] at this
   have HNN:=Ha hn;clear hn;go_wp2;go_ret;exact ⟨by rw [HNN.out];rfl,HBE.out⟩
theorem jQ (s:ByteArray) (w:World):Calls Tryz.prog 216 #[.string s,.int .u8 61] w fun e w'=>e=.returned (.int .i64 (Lib.indexByte s.toList 61))∧w=w':=iK s 61 w
theorem p4 (s:ByteArray) (w:World) (hm:s.size≤9223372036854775807):Calls Tryz.prog 211 #[.string s] w fun e w'=>e=.returned (.int .i64 (Chr.assign s.toList))∧Below w.heap.size w w':=by
 have HA:=Ha (Chr.assign_eq s.toList);have hge:=Lib.indexByte_ge s.toList 61;have hlt:=Chr.indexByte_lt 61 s.toList;rw [← aL] at hlt;by_cases hi:Lib.indexByte s.toList 61=-1
 ·have HI:=Ha hi;clear hge hlt;go_enter Tryz.func211,Tryz.ntmps211;go_wp2_with (go_at_call 216;refine (jQ _ _).mono ?_;rintro e w' ⟨rfl,rfl⟩);go_ret;refine ⟨bN ?_,Below.refl _ _⟩;rw [HA.out,if_pos HI.out]
 ·obtain ⟨k,hk⟩:∃ k:Nat,Lib.indexByte s.toList 61=k:=⟨(Lib.indexByte s.toList 61).toNat,by omega⟩;have hks:k≤s.size:=by rcases hlt with h | h <;> omega
  have HK:=Ha hk;clear hi hge hlt;have hsz:(s.extract 0 k).size≤9223372036854775807:=by rw [aL,gQ,List.length_take];omega
  have HS:=Ha hsz;clear hsz;cases hn:Chr.name (s.toList.take k);all_goals
   have HN:=Ha hn;go_enter Tryz.func211,Tryz.ntmps211;go_wp2_with (first
    | (go_at_call 216;refine (jQ _ _).mono ?_;rintro e w' ⟨rfl,rfl⟩)
    | (go_at_call 92;refine (iO _ _ HS.out).mono ?_;rintro e w' ⟨rfl,hb⟩;rw [gQ]))
   go_ret;refine ⟨bN ?_,hb⟩;rw [HA.out,HK.out,if_neg (by omega),Int.toNat_natCast,HN.out];rfl
end Go.Proofs.YtjpopekmbmcggaaGreatDoor
