/- Towards unparseHeres_card. -/
import Derived.Test.YtjpopekmbmcggaaGreatDoorUh13
import Derived.Test.YtjpopekmbmcggaaGreatDoorUh12
import Derived.Laws.OwnMore
set_option maxRecDepth 100000
set_option maxHeartbeats 16000000
namespace Go.Proofs.YtjpopekmbmcggaaGreatDoor
open Go.RowKit
attribute [local go_sem ↓] cN
theorem Chr.assign_range_from (l:List UInt8):∀ (n i:Nat),Chr.assignFrom l i n=-1∨∃ k:Nat,Chr.assignFrom l i n=(k:Int)∧k<i+n:=by
 intro n
 induction n with
 | zero=>intro i;exact .inl rfl
 | succ n ih=>
  intro i;rw [Chr.assignFrom];by_cases h:(l.getD i 0).toNat=61
  ·rw [if_pos h];by_cases h2:Chr.name (l.take i)=true
   ·rw [if_pos h2];exact .inr ⟨i,rfl,by omega⟩
   ·rw [if_neg h2];exact .inl rfl
  ·rw [if_neg h];rcases ih (i+1) with h1 | ⟨k,h1,h2⟩
   ·exact .inl h1
   ·exact .inr ⟨k,h1,by omega⟩
theorem Chr.assign_range (l:List UInt8):Chr.assign l=-1∨∃ k:Nat,Chr.assign l=(k:Int)∧k<l.length:=by
 have:=Chr.assign_range_from l l.length 0;rw [Nat.zero_add] at this;exact this
def Pts.asg:Pts→Option (ByteArray×Pts)
 | .nil=>none
 | .cons k t _ _ _ rest=>if k=1∧0≤Chr.assign t.toList then some (t.extract 0 (Chr.assign t.toList).toNat,fS t (Chr.assign t.toList).toNat rest) else none
def Pts.asgN (l:Pts):ByteArray:=(l.asg.map (·.1)).getD ⟨#[]⟩
def Pts.asgR (l:Pts):Pts:=(l.asg.map (·.2)).getD .nil
theorem oC {G:Nat→Prop} (t:ByteArray) (w:World):
  ∃ v' w',WrA Tryz.prog #[29,29] 29 #[.slice none 0 0,.slice (some ⟨w.heap.size,0,none⟩) 1 1] (w.alloc (.cells (litPs t).toArray 50))=.ok v' w'∧cK G w.heap.size w' v' (Pts.lit t .nil)∧Below w.heap.size w w':=by
 obtain ⟨i0,hi,hz0,hz1,hz2⟩:=info_parts kW;have hb:Below w.heap.size w (w.alloc (.cells (litPs t).toArray 50)):=(Below.refl _ _).alloc (Nat.le_refl _) _;obtain ⟨v',w',h1,r1,r2,_⟩:=run_append_own (P:=Tryz.prog) (w.alloc (.cells (litPs t).toArray 50)) w.heap.size 29 29 50 i0 _ 5 88 Tryz.underlying29 hi hz0 hz1 hz2 rfl (by decide) (.slice none 0 0) 0 [] (World.ownsRow_nil _ _ _ _) ⟨w.heap.size,0,none⟩ 1 1 (litPs t) rfl (jX (heap_alloc w _)) (i5 t) (by unfold maxLen;omega) (by omega) hb.size;exact ⟨v',w',h1,⟨litPs t,r1,i6 G w' t (l:=.nil) (xs:=[]) rfl⟩,hb.grown r2 hb.size (fun j hj=>by simp [Value.ownBlock] at hj)⟩
theorem pV (l:Pts) (h:l.asg=none) (A:Option Addr) (c:Nat) (G:Nat→Prop) (w:World) (hG:∀ j,G j→j<w.heap.size) (hp:aY G w A 0 l) (hwt:l.wt≤1073741823):
  Calls Tryz.prog 176 #[.agg #[.slice A l.len c]] w fun e w'=>e=.returned (.tuple #[.string ⟨#[]⟩,.agg #[.slice none 0 0],.bool false])∧Below w.heap.size w w':=by
 have hlw:=Pts.len_wt l;generalize hW:(w.alloc (.cells #[.slice A l.len c] 31)).alloc (.cells #[.slice none 0 0] 31)=W;have hbW:Below w.heap.size w W:=by rw [← hW];exact ((Below.refl _ _).alloc (Nat.le_refl _) _).alloc (by simp) _
 have q0:W.cell? ⟨w.heap.size,0,none⟩=some (.slice A l.len c):=by rw [← hW];simp
 have q1:W.heap[w.heap.size+1]? = some (.cells #[.slice none 0 0] 31 (0,0)):=by
  rw [← hW];have:=heap_alloc (w.alloc (.cells #[.slice A l.len c] 31)) (.cells #[.slice none 0 0] 31)
  simpa using this
 have hsW:W.heap.size=w.heap.size+2:=by rw [← hW];simp
 obtain ⟨HP,HBW,HQ1,HSW,HBF⟩:=hs5 (hp.old hG hbW) hbW q1 hsW (show Below w.heap.size w (W.setCell ⟨w.heap.size+1,0,none⟩ (.slice none 0 0)) from hbW.setCell (by show w.heap.size≤w.heap.size+1;omega) _);have hh9:=q1;clear hp hG hbW q1 hsW;cases l with
 | nil=>
  rw [show Pts.len .nil=0 from rfl] at *;go_enter Tryz.func176,Tryz.ntmps176;have q9:W.cell? ⟨w.heap.size+1,0,none⟩=some (.slice none 0 0):=by simp [World.cell?,hh9]
  have f9:W.frozen? ⟨w.heap.size+1,0,none⟩=false:=by simp [World.frozen?,hh9]
  have hres:(W.setCell ⟨w.heap.size+1,0,none⟩ (.slice none 0 0)).cell? ⟨w.heap.size+1,0,none⟩=some (.slice none 0 0):=by simp [World.cell?,World.setCell,Array.getElem?_modify,hh9]
  clear hh9;go_wp2_with fail;refine bodyPost_ret (v:=.tuple #[.string ⟨#[]⟩,.agg #[.slice none 0 0],.bool false]) (by simp [results,Tryz.results176,go_sem,hres]) rfl ?_;exact ⟨rfl,HBF.out⟩
 | cons k t o kids cm rest=>
  obtain ⟨b,off,Ak,ck,rfl,hGb,c0,c1,_,_,_,_,_,hrest⟩:=HP.out;simp only [Nat.zero_mul,Nat.add_zero] at c0 c1;rw [show (Pts.cons k t o kids cm rest).len=rest.len+1 from rfl] at *;rw [Pts.wt] at hwt;have hl0:¬((rest.len:Int)+1=0):=by omega
  have hl1:(0:Int)<(rest.len:Int)+1:=by omega
  by_cases hk:k=1
  ·have hk1:(k==1)=true:=by rw [hk];rfl
   subst hk;have hn:Chr.assign t.toList=-1:=by
    rcases Chr.assign_range t.toList with h1 | ⟨q,h1,_⟩
    ·exact h1
    ·have h:(if (1:Int)=1∧0≤Chr.assign t.toList then some (t.extract 0 (Chr.assign t.toList).toNat,fS t (Chr.assign t.toList).toNat rest) else none)=none:=h;rw [if_pos ⟨rfl,by omega⟩] at h;cases h
   have HN:=Ha hn;clear hn h hh9 hrest;go_enter Tryz.func176,Tryz.ntmps176;go_wp2_with fail;refine (qE t _ (by omega)).mono ?_;rintro e w2 ⟨he,hb2⟩;rw [HN.out] at he;subst he;have hh9:=(hb2.block (w.heap.size+1) (by have:=HSW.out;omega)).trans HQ1.out;have hbF:Below w.heap.size w (w2.setCell ⟨w.heap.size+1,0,none⟩ (.slice none 0 0)):=(HBW.out.trans (hb2.mono HBW.out.size)).setCell (by show w.heap.size≤w.heap.size+1;omega) _;have q9:w2.cell? ⟨w.heap.size+1,0,none⟩=some (.slice none 0 0):=by simp [World.cell?,hh9]
   have f9:w2.frozen? ⟨w.heap.size+1,0,none⟩=false:=by simp [World.frozen?,hh9]
   have hres:(w2.setCell ⟨w.heap.size+1,0,none⟩ (.slice none 0 0)).cell? ⟨w.heap.size+1,0,none⟩=some (.slice none 0 0):=by simp [World.cell?,World.setCell,Array.getElem?_modify,hh9]
   clear hh9;go_wp2_with fail;refine bodyPost_ret (v:=.tuple #[.string ⟨#[]⟩,.agg #[.slice none 0 0],.bool false]) (by simp [results,Tryz.results176,go_sem,hres]) rfl ?_;exact ⟨rfl,hbF⟩
  ·have hk1:(k != 1)=true:=by simpa using hk
   clear h hrest;go_enter Tryz.func176,Tryz.ntmps176;have q9:W.cell? ⟨w.heap.size+1,0,none⟩=some (.slice none 0 0):=by simp [World.cell?,hh9]
   have f9:W.frozen? ⟨w.heap.size+1,0,none⟩=false:=by simp [World.frozen?,hh9]
   have hres:(W.setCell ⟨w.heap.size+1,0,none⟩ (.slice none 0 0)).cell? ⟨w.heap.size+1,0,none⟩=some (.slice none 0 0):=by simp [World.cell?,World.setCell,Array.getElem?_modify,hh9]
   clear hh9;go_wp2_with fail;refine bodyPost_ret (v:=.tuple #[.string ⟨#[]⟩,.agg #[.slice none 0 0],.bool false]) (by simp [results,Tryz.results176,go_sem,hres]) rfl ?_;exact ⟨rfl,HBF.out⟩
theorem pP (l:Pts) (h:l.asg=none) (A:Option Addr) (c:Nat) (G:Nat→Prop) (w:World) (hG:∀ j,G j→j<w.heap.size) (hp:aY G w A 0 l) (hwt:l.wt≤1073741823):
  Calls Tryz.prog 147 #[.agg #[.slice A l.len c]] w fun e w'=>e=.returned (.tuple #[.string ⟨#[]⟩,.agg #[.slice none 0 0],.bool false])∧Below w.heap.size w w':=by
 have hlw:=Pts.len_wt l;generalize hW:(w.alloc (.cells #[.slice A l.len c] 31)).alloc (.cells #[.slice none 0 0] 31)=W;have hbW:Below w.heap.size w W:=by rw [← hW];exact ((Below.refl _ _).alloc (Nat.le_refl _) _).alloc (by simp) _
 have q0:W.cell? ⟨w.heap.size,0,none⟩=some (.slice A l.len c):=by rw [← hW];simp
 have q1:W.heap[w.heap.size+1]? = some (.cells #[.slice none 0 0] 31 (0,0)):=by
  rw [← hW];have:=heap_alloc (w.alloc (.cells #[.slice A l.len c] 31)) (.cells #[.slice none 0 0] 31)
  simpa using this
 have hsW:W.heap.size=w.heap.size+2:=by rw [← hW];simp
 obtain ⟨HP,HBW,HQ1,HSW,HBF⟩:=hs5 (hp.old hG hbW) hbW q1 hsW (show Below w.heap.size w (W.setCell ⟨w.heap.size+1,0,none⟩ (.slice none 0 0)) from hbW.setCell (by show w.heap.size≤w.heap.size+1;omega) _);have hh9:=q1;clear hp hG hbW q1 hsW;cases l with
 | nil=>
  rw [show Pts.len .nil=0 from rfl] at *;go_enter Tryz.func147,Tryz.ntmps147;have q9:W.cell? ⟨w.heap.size+1,0,none⟩=some (.slice none 0 0):=by simp [World.cell?,hh9]
  have f9:W.frozen? ⟨w.heap.size+1,0,none⟩=false:=by simp [World.frozen?,hh9]
  have hres:(W.setCell ⟨w.heap.size+1,0,none⟩ (.slice none 0 0)).cell? ⟨w.heap.size+1,0,none⟩=some (.slice none 0 0):=by simp [World.cell?,World.setCell,Array.getElem?_modify,hh9]
  clear hh9;go_wp2_with fail;refine bodyPost_ret (v:=.tuple #[.string ⟨#[]⟩,.agg #[.slice none 0 0],.bool false]) (by simp [results,Tryz.results147,go_sem,hres]) rfl ?_;exact ⟨rfl,HBF.out⟩
 | cons k t o kids cm rest=>
  obtain ⟨b,off,Ak,ck,rfl,hGb,c0,c1,_,_,_,_,_,hrest⟩:=HP.out;simp only [Nat.zero_mul,Nat.add_zero] at c0 c1;rw [show (Pts.cons k t o kids cm rest).len=rest.len+1 from rfl] at *;rw [Pts.wt] at hwt;have hl0:¬((rest.len:Int)+1=0):=by omega
  have hl1:(0:Int)<(rest.len:Int)+1:=by omega
  by_cases hk:k=1
  ·have hk1:(k==1)=true:=by rw [hk];rfl
   subst hk;have hn:Chr.assign t.toList=-1:=by
    rcases Chr.assign_range t.toList with h1 | ⟨q,h1,_⟩
    ·exact h1
    ·have h:(if (1:Int)=1∧0≤Chr.assign t.toList then some (t.extract 0 (Chr.assign t.toList).toNat,fS t (Chr.assign t.toList).toNat rest) else none)=none:=h;rw [if_pos ⟨rfl,by omega⟩] at h;cases h
   have HN:=Ha hn;clear hn h hh9 hrest;go_enter Tryz.func147,Tryz.ntmps147;go_wp2_with fail;refine (qF t _ (by omega)).mono ?_;rintro e w2 ⟨he,rfl⟩;rw [HN.out] at he;subst he;have hh9:=HQ1.out;have hbF:Below w.heap.size w (W.setCell ⟨w.heap.size+1,0,none⟩ (.slice none 0 0)):=HBW.out.setCell (by show w.heap.size≤w.heap.size+1;omega) _;have q9:W.cell? ⟨w.heap.size+1,0,none⟩=some (.slice none 0 0):=by simp [World.cell?,hh9]
   have f9:W.frozen? ⟨w.heap.size+1,0,none⟩=false:=by simp [World.frozen?,hh9]
   have hres:(W.setCell ⟨w.heap.size+1,0,none⟩ (.slice none 0 0)).cell? ⟨w.heap.size+1,0,none⟩=some (.slice none 0 0):=by simp [World.cell?,World.setCell,Array.getElem?_modify,hh9]
   clear hh9;go_wp2_with fail;refine bodyPost_ret (v:=.tuple #[.string ⟨#[]⟩,.agg #[.slice none 0 0],.bool false]) (by simp [results,Tryz.results147,go_sem,hres]) rfl ?_;exact ⟨rfl,hbF⟩
  ·have hk1:(k != 1)=true:=by simpa using hk
   clear h hrest;go_enter Tryz.func147,Tryz.ntmps147;have q9:W.cell? ⟨w.heap.size+1,0,none⟩=some (.slice none 0 0):=by simp [World.cell?,hh9]
   have f9:W.frozen? ⟨w.heap.size+1,0,none⟩=false:=by simp [World.frozen?,hh9]
   have hres:(W.setCell ⟨w.heap.size+1,0,none⟩ (.slice none 0 0)).cell? ⟨w.heap.size+1,0,none⟩=some (.slice none 0 0):=by simp [World.cell?,World.setCell,Array.getElem?_modify,hh9]
   clear hh9;go_wp2_with fail;refine bodyPost_ret (v:=.tuple #[.string ⟨#[]⟩,.agg #[.slice none 0 0],.bool false]) (by simp [results,Tryz.results147,go_sem,hres]) rfl ?_;exact ⟨rfl,HBF.out⟩
theorem pQ (t o:ByteArray) (kids rest:Pts) (cm:Cm) (k:Nat) (hk:Chr.assign t.toList=(k:Int)) (hkt:k<t.size) (A:Option Addr) (c:Nat) (G:Nat→Prop) (w:World) (hG:∀ j,G j→j<w.heap.size) (hp:aY G w A 0 (.cons 1 t o kids cm rest)) (hc:rest.len+1≤c) (hwt:rest.len≤1073741823) (hts:t.size≤1099511627776) (hcm:c≤maxLen):
  Calls Tryz.prog 147 #[.agg #[.slice A (rest.len+1) c]] w fun e w'=>∃ v,e=.returned (.tuple #[.string (t.extract 0 k),.agg #[v],.bool true])∧cK G w.heap.size w' v (fS t k rest)∧Below w.heap.size w w':=by
 obtain ⟨b,off,Ak,ck,rfl,hGb,c0,c1,_,_,_,_,_,hrest⟩:=hp;simp only [Nat.zero_mul,Nat.add_zero] at c0 c1;have hrs:=hrest.shift;generalize hW:(w.alloc (.cells #[.slice (some ⟨b,off,none⟩) (rest.len+1) c] 31)).alloc (.cells #[.slice none 0 0] 31)=W;have hbW:Below w.heap.size w W:=by rw [← hW];exact ((Below.refl _ _).alloc (Nat.le_refl _) _).alloc (by simp) _
 have q0:W.cell? ⟨w.heap.size,0,none⟩=some (.slice (some ⟨b,off,none⟩) (rest.len+1) c):=by rw [← hW];simp
 have q1:W.heap[w.heap.size+1]? = some (.cells #[.slice none 0 0] 31 (0,0)):=by
  rw [← hW];have:=heap_alloc (w.alloc (.cells #[.slice (some ⟨b,off,none⟩) (rest.len+1) c] 31)) (.cells #[.slice none 0 0] 31)
  simpa using this
 have hsW:W.heap.size=w.heap.size+2:=by rw [← hW];simp
 have hbw:b<w.heap.size:=hG b hGb;have z0:=(World.cell?_of_block (hbW.block b hbw)).trans c0;have z1:=(World.cell?_of_block (hbW.block b hbw)).trans c1;obtain ⟨HRS,HBW,HQ1,HSW,HG,HK⟩:=hs6 hrs hbW q1 hsW hG hk;clear hrs hbW q1 hrest hsW hG hk c0 c1;have hl0:¬((rest.len:Int)+1=0):=by omega
 have hl1:(0:Int)<(rest.len:Int)+1:=by omega
 go_enter Tryz.func147,Tryz.ntmps147;go_wp2_with fail;refine (qF t _ (by omega)).mono ?_;rintro e w2 ⟨he,rfl⟩;rw [HK.out] at he;subst he;have hk0:(0:Int)≤(k:Int):=by omega
 have hki:(k:Int)≤(t.size:Int):=by omega
 have hk1:(k:Int)+1≤(t.size:Int):=by omega
 have htsi:(t.size:Int)≤1099511627776:=by omega
 have hwk:IntKind.i64.wrap ((k:Int)+1)=(k:Int)+1:=by rw [IntKind.wrap_i64];omega
 have hci:(1:Int)≤(c:Int):=by omega
 have hcmi:(c:Int)≤9223372036854775807:=by unfold maxLen at hcm;omega
 have hto:((k:Int)+1).toNat=k+1:=by omega
 have hGW:∀ j,G j→j<W.heap.size:=fun j hj=>by have:=HG.out j hj;have:=HSW.out;omega
 have HGW:=Ha hGW;clear hW z0 z1 hGW;by_cases hc1:c=1
 ·subst hc1;by_cases hlt:k+1<t.size
  ·have hlti:(k:Int)+1<(t.size:Int):=by omega
   have HU:=Ha (show fS t k rest=Pts.lit (t.extract (k+1) t.size) rest from if_pos hlt);obtain ⟨v8,w8,hrun8,hP8,hb8⟩:=oC (G:=G) (t.extract (k+1) t.size) W;have g8:=hP8;have hb8d:Below W.heap.size W w8.drew:=hb8.drew;obtain ⟨v9,w9,hrun9,hP,g9,_⟩:=(hP8.keep (w':=w8.drew) (fun _ _=>rfl) (fun _ _=>rfl)).append (l2:=rest) (A:=(some ⟨b,off,none⟩)) (c:=0) (G2:=G) 29 (by rw [show rest=.nil from Pts.nil_of_len (by omega)];trivial) (fun _ h=>h) HGW.out (by show 1+rest.len≤_;omega) hb8d.size (by omega);rw [show (Pts.lit (t.extract (k+1) t.size) .nil).app rest=Pts.lit (t.extract (k+1) t.size) rest from rfl] at hP;have hb9:Below W.heap.size W w9:=hb8d.grown g9 hb8d.size (fun j hj=>(hP8.lt hj).1);have d0:=(World.cell?_of_block (hb8.block w.heap.size (by have:=HSW.out;omega))).trans q0;obtain ⟨A8,c8,rfl,_,_,_⟩:=hP8.at_;rw [show (Pts.lit (t.extract (k+1) t.size) .nil).len=1 from rfl] at hrun9 hrun8;have hr9:=WrA.of hrun9;have hr8:=hrun8;unfold litPs at hr8;clear hrun8 hrun9 hP8 g8 g9 hb8 hb8d;rw [show rest.len=0 by omega] at hr9;have hh9:=(hb9.block (w.heap.size+1) (by have:=HSW.out;omega)).trans HQ1.out;have q9:w9.cell? ⟨w.heap.size+1,0,none⟩=some (.slice none 0 0):=by simp [World.cell?,hh9]
   have f9:w9.frozen? ⟨w.heap.size+1,0,none⟩=false:=by simp [World.frozen?,hh9]
   obtain ⟨A9,c9,rfl,hl9,hm9,_⟩:=hP.at_;have hbF:Below w.heap.size w (w9.setCell ⟨w.heap.size+1,0,none⟩ (.slice A9 (Pts.lit (t.extract (k+1) t.size) rest).len c9)):=(HBW.out.trans (hb9.mono HBW.out.size)).setCell (by show w.heap.size≤w.heap.size+1;omega) _;have hPF:cK G w.heap.size (w9.setCell ⟨w.heap.size+1,0,none⟩ (.slice A9 (Pts.lit (t.extract (k+1) t.size) rest).len c9)) (.slice A9 (Pts.lit (t.extract (k+1) t.size) rest).len c9) (Pts.lit (t.extract (k+1) t.size) rest):=by
    have hP0:cK G w.heap.size w9 (.slice A9 (Pts.lit (t.extract (k+1) t.size) rest).len c9) (Pts.lit (t.extract (k+1) t.size) rest):=by
     obtain ⟨xs,⟨h1,h2⟩,h3⟩:=hP;refine ⟨xs,⟨h1, ?_⟩,h3⟩;rcases h2 with h2 | ⟨g,cap,cur,e,hBg,hr⟩
     ·exact .inl h2
     ·exact .inr ⟨g,cap,cur,e,by have:=HSW.out;omega,hr⟩
    refine hP0.keep (fun p hp=>World.cell?_of_block (Below.heap_setCell _ _ _ _ ?_)) fun g hg=>Below.heap_setCell _ _ _ _ ?_
    ·have:=HG.out _ hp;show p.block≠w.heap.size+1;omega
    ·have:=(hP.lt hg).1;have:=HSW.out;show g≠w.heap.size+1;omega
   have hres:(w9.setCell ⟨w.heap.size+1,0,none⟩ (.slice A9 (Pts.lit (t.extract (k+1) t.size) rest).len c9)).cell? ⟨w.heap.size+1,0,none⟩=some (.slice A9 (Pts.lit (t.extract (k+1) t.size) rest).len c9):=by simp [World.cell?,World.setCell,Array.getElem?_modify,hh9]
   have HPF:=Ha hPF;have HBF:=Ha hbF;clear hPF hbF hP hb9 hh9;go_wp2_with fail
   go_region
   go_wp2_with fail;refine bodyPost_ret (v:=.tuple #[.string (t.extract 0 k),.agg #[.slice A9 (Pts.lit (t.extract (k+1) t.size) rest).len c9],.bool true]) (by simp [results,Tryz.results147,go_sem,hres]) rfl ?_;exact ⟨_,rfl,by rw [HU.out];exact HPF.out,HBF.out⟩
  ·have hlti:¬(k:Int)+1<(t.size:Int):=by omega
   have HU:=Ha (show fS t k rest=rest from if_neg hlt);obtain ⟨v9,w9,hrun9,hP,g9,_⟩:=(cK.nothing (G:=G) (B:=W.heap.size) (w:=W.drew)).append (l2:=rest) (A:=(some ⟨b,off,none⟩)) (c:=0) (G2:=G) 29 (by rw [show rest=.nil from Pts.nil_of_len (by omega)];trivial) (fun _ h=>h) HGW.out (by show 0+rest.len≤_;omega) (by simp) (by omega);rw [show Pts.nil.app rest=rest from rfl] at hP;have hb9:Below W.heap.size W w9:=(Below.refl W.heap.size W).drew.grown g9 (by simp) (fun j hj=>by simp [Value.ownBlock] at hj);have hr9:=WrA.of hrun9;clear hrun9 g9;rw [show rest.len=0 by omega] at hr9;have hh9:=(hb9.block (w.heap.size+1) (by have:=HSW.out;omega)).trans HQ1.out;have q9:w9.cell? ⟨w.heap.size+1,0,none⟩=some (.slice none 0 0):=by simp [World.cell?,hh9]
   have f9:w9.frozen? ⟨w.heap.size+1,0,none⟩=false:=by simp [World.frozen?,hh9]
   obtain ⟨A9,c9,rfl,hl9,hm9,_⟩:=hP.at_;have hbF:Below w.heap.size w (w9.setCell ⟨w.heap.size+1,0,none⟩ (.slice A9 (rest).len c9)):=(HBW.out.trans (hb9.mono HBW.out.size)).setCell (by show w.heap.size≤w.heap.size+1;omega) _;have hPF:cK G w.heap.size (w9.setCell ⟨w.heap.size+1,0,none⟩ (.slice A9 (rest).len c9)) (.slice A9 (rest).len c9) (rest):=by
    have hP0:cK G w.heap.size w9 (.slice A9 (rest).len c9) (rest):=by
     obtain ⟨xs,⟨h1,h2⟩,h3⟩:=hP;refine ⟨xs,⟨h1, ?_⟩,h3⟩;rcases h2 with h2 | ⟨g,cap,cur,e,hBg,hr⟩
     ·exact .inl h2
     ·exact .inr ⟨g,cap,cur,e,by have:=HSW.out;omega,hr⟩
    refine hP0.keep (fun p hp=>World.cell?_of_block (Below.heap_setCell _ _ _ _ ?_)) fun g hg=>Below.heap_setCell _ _ _ _ ?_
    ·have:=HG.out _ hp;show p.block≠w.heap.size+1;omega
    ·have:=(hP.lt hg).1;have:=HSW.out;show g≠w.heap.size+1;omega
   have hres:(w9.setCell ⟨w.heap.size+1,0,none⟩ (.slice A9 (rest).len c9)).cell? ⟨w.heap.size+1,0,none⟩=some (.slice A9 (rest).len c9):=by simp [World.cell?,World.setCell,Array.getElem?_modify,hh9]
   have HPF:=Ha hPF;have HBF:=Ha hbF;clear hPF hbF hP hb9 hh9;go_wp2_with fail
   go_region
   go_wp2_with fail;refine bodyPost_ret (v:=.tuple #[.string (t.extract 0 k),.agg #[.slice A9 (rest).len c9],.bool true]) (by simp [results,Tryz.results147,go_sem,hres]) rfl ?_;exact ⟨_,rfl,by rw [HU.out];exact HPF.out,HBF.out⟩
 ·have hcn:c-1≠0:=by omega
  by_cases hlt:k+1<t.size
  ·have hlti:(k:Int)+1<(t.size:Int):=by omega
   have HU:=Ha (show fS t k rest=Pts.lit (t.extract (k+1) t.size) rest from if_pos hlt);obtain ⟨v8,w8,hrun8,hP8,hb8⟩:=oC (G:=G) (t.extract (k+1) t.size) W;have g8:=hP8;have hb8d:Below W.heap.size W w8.drew:=hb8.drew;obtain ⟨v9,w9,hrun9,hP,g9,_⟩:=(hP8.keep (w':=w8.drew) (fun _ _=>rfl) (fun _ _=>rfl)).append (l2:=rest) (A:=(some ⟨b,off+5,none⟩)) (c:=(c-1)) (G2:=G) 29 (HRS.out.old HG.out (HBW.out.trans ((hb8.drew).mono HBW.out.size))) (fun _ h=>h) HGW.out (by show 1+rest.len≤_;omega) hb8d.size (by omega);rw [show (Pts.lit (t.extract (k+1) t.size) .nil).app rest=Pts.lit (t.extract (k+1) t.size) rest from rfl] at hP;have hb9:Below W.heap.size W w9:=hb8d.grown g9 hb8d.size (fun j hj=>(hP8.lt hj).1);have d0:=(World.cell?_of_block (hb8.block w.heap.size (by have:=HSW.out;omega))).trans q0;obtain ⟨A8,c8,rfl,_,_,_⟩:=hP8.at_;rw [show (Pts.lit (t.extract (k+1) t.size) .nil).len=1 from rfl] at hrun9 hrun8;have hr9:=WrA.of hrun9;have hr8:=hrun8;unfold litPs at hr8;clear hrun8 hrun9 hP8 g8 g9 hb8 hb8d;have hh9:=(hb9.block (w.heap.size+1) (by have:=HSW.out;omega)).trans HQ1.out;have q9:w9.cell? ⟨w.heap.size+1,0,none⟩=some (.slice none 0 0):=by simp [World.cell?,hh9]
   have f9:w9.frozen? ⟨w.heap.size+1,0,none⟩=false:=by simp [World.frozen?,hh9]
   obtain ⟨A9,c9,rfl,hl9,hm9,_⟩:=hP.at_;have hbF:Below w.heap.size w (w9.setCell ⟨w.heap.size+1,0,none⟩ (.slice A9 (Pts.lit (t.extract (k+1) t.size) rest).len c9)):=(HBW.out.trans (hb9.mono HBW.out.size)).setCell (by show w.heap.size≤w.heap.size+1;omega) _;have hPF:cK G w.heap.size (w9.setCell ⟨w.heap.size+1,0,none⟩ (.slice A9 (Pts.lit (t.extract (k+1) t.size) rest).len c9)) (.slice A9 (Pts.lit (t.extract (k+1) t.size) rest).len c9) (Pts.lit (t.extract (k+1) t.size) rest):=by
    have hP0:cK G w.heap.size w9 (.slice A9 (Pts.lit (t.extract (k+1) t.size) rest).len c9) (Pts.lit (t.extract (k+1) t.size) rest):=by
     obtain ⟨xs,⟨h1,h2⟩,h3⟩:=hP;refine ⟨xs,⟨h1, ?_⟩,h3⟩;rcases h2 with h2 | ⟨g,cap,cur,e,hBg,hr⟩
     ·exact .inl h2
     ·exact .inr ⟨g,cap,cur,e,by have:=HSW.out;omega,hr⟩
    refine hP0.keep (fun p hp=>World.cell?_of_block (Below.heap_setCell _ _ _ _ ?_)) fun g hg=>Below.heap_setCell _ _ _ _ ?_
    ·have:=HG.out _ hp;show p.block≠w.heap.size+1;omega
    ·have:=(hP.lt hg).1;have:=HSW.out;show g≠w.heap.size+1;omega
   have hres:(w9.setCell ⟨w.heap.size+1,0,none⟩ (.slice A9 (Pts.lit (t.extract (k+1) t.size) rest).len c9)).cell? ⟨w.heap.size+1,0,none⟩=some (.slice A9 (Pts.lit (t.extract (k+1) t.size) rest).len c9):=by simp [World.cell?,World.setCell,Array.getElem?_modify,hh9]
   have HPF:=Ha hPF;have HBF:=Ha hbF;clear hPF hbF hP hb9 hh9;go_wp2_with fail
   go_region
   go_wp2_with fail;refine bodyPost_ret (v:=.tuple #[.string (t.extract 0 k),.agg #[.slice A9 (Pts.lit (t.extract (k+1) t.size) rest).len c9],.bool true]) (by simp [results,Tryz.results147,go_sem,hres]) rfl ?_;exact ⟨_,rfl,by rw [HU.out];exact HPF.out,HBF.out⟩
  ·have hlti:¬(k:Int)+1<(t.size:Int):=by omega
   have HU:=Ha (show fS t k rest=rest from if_neg hlt);obtain ⟨v9,w9,hrun9,hP,g9,_⟩:=(cK.nothing (G:=G) (B:=W.heap.size) (w:=W.drew)).append (l2:=rest) (A:=(some ⟨b,off+5,none⟩)) (c:=(c-1)) (G2:=G) 29 (HRS.out.old HG.out HBW.out.drew) (fun _ h=>h) HGW.out (by show 0+rest.len≤_;omega) (by simp) (by omega);rw [show Pts.nil.app rest=rest from rfl] at hP;have hb9:Below W.heap.size W w9:=(Below.refl W.heap.size W).drew.grown g9 (by simp) (fun j hj=>by simp [Value.ownBlock] at hj);have hr9:=WrA.of hrun9;clear hrun9 g9;have hh9:=(hb9.block (w.heap.size+1) (by have:=HSW.out;omega)).trans HQ1.out;have q9:w9.cell? ⟨w.heap.size+1,0,none⟩=some (.slice none 0 0):=by simp [World.cell?,hh9]
   have f9:w9.frozen? ⟨w.heap.size+1,0,none⟩=false:=by simp [World.frozen?,hh9]
   obtain ⟨A9,c9,rfl,hl9,hm9,_⟩:=hP.at_;have hbF:Below w.heap.size w (w9.setCell ⟨w.heap.size+1,0,none⟩ (.slice A9 (rest).len c9)):=(HBW.out.trans (hb9.mono HBW.out.size)).setCell (by show w.heap.size≤w.heap.size+1;omega) _;have hPF:cK G w.heap.size (w9.setCell ⟨w.heap.size+1,0,none⟩ (.slice A9 (rest).len c9)) (.slice A9 (rest).len c9) (rest):=by
    have hP0:cK G w.heap.size w9 (.slice A9 (rest).len c9) (rest):=by
     obtain ⟨xs,⟨h1,h2⟩,h3⟩:=hP;refine ⟨xs,⟨h1, ?_⟩,h3⟩;rcases h2 with h2 | ⟨g,cap,cur,e,hBg,hr⟩
     ·exact .inl h2
     ·exact .inr ⟨g,cap,cur,e,by have:=HSW.out;omega,hr⟩
    refine hP0.keep (fun p hp=>World.cell?_of_block (Below.heap_setCell _ _ _ _ ?_)) fun g hg=>Below.heap_setCell _ _ _ _ ?_
    ·have:=HG.out _ hp;show p.block≠w.heap.size+1;omega
    ·have:=(hP.lt hg).1;have:=HSW.out;show g≠w.heap.size+1;omega
   have hres:(w9.setCell ⟨w.heap.size+1,0,none⟩ (.slice A9 (rest).len c9)).cell? ⟨w.heap.size+1,0,none⟩=some (.slice A9 (rest).len c9):=by simp [World.cell?,World.setCell,Array.getElem?_modify,hh9]
   have HPF:=Ha hPF;have HBF:=Ha hbF;clear hPF hbF hP hb9 hh9;go_wp2_with fail
   go_region
   go_wp2_with fail;refine bodyPost_ret (v:=.tuple #[.string (t.extract 0 k),.agg #[.slice A9 (rest).len c9],.bool true]) (by simp [results,Tryz.results147,go_sem,hres]) rfl ?_;exact ⟨_,rfl,by rw [HU.out];exact HPF.out,HBF.out⟩
theorem rK (l:Pts) (A:Option Addr) (c:Nat) (G:Nat→Prop) (w:World) (hG:∀ j,G j→j<w.heap.size) (hp:aY G w A 0 l) (hc:l.len≤c) (hwt:l.wt≤1073741823) (hcm:c≤maxLen):
  Calls Tryz.prog 176 #[.agg #[.slice A l.len c]] w fun e w'=>∃ v,e=.returned (.tuple #[.string l.asgN,.agg #[v],.bool l.asg.isSome])∧cK G w.heap.size w' v l.asgR∧Below w.heap.size w w':=by
 cases h:l.asg with
 | none=>
  refine (pV l h A c G w hG hp hwt).mono ?_;rintro e w' ⟨he,hb⟩;refine ⟨.slice none 0 0, ?_, ?_,hb⟩
  ·rw [he];unfold Pts.asgN;rw [h];rfl
  ·unfold Pts.asgR;rw [h];exact cK.nothing
 | some q=>
  obtain ⟨k,t,o,kids,cm,rest,rfl⟩:∃ k t o kids cm rest,l=.cons k t o kids cm rest:=by
   cases l with
   | nil=>cases h
   | cons k t o kids cm rest=>exact ⟨_,_,_,_,_,_,rfl⟩
  have h0:=h;have hq:(if k=1∧0≤Chr.assign t.toList then some (t.extract 0 (Chr.assign t.toList).toNat,fS t (Chr.assign t.toList).toNat rest) else none)=some q:=h;by_cases hk:k=1∧0≤Chr.assign t.toList
  ·rw [if_pos hk] at hq;obtain ⟨rfl,hk2⟩:=hk;rcases Chr.assign_range t.toList with h1 | ⟨m,h1,h2⟩
   ·omega
   ·have hlw:=Pts.len_wt rest;rw [Pts.wt] at hwt;rw [h1,Int.toNat_natCast] at hq;rw [← aL] at h2;refine (pW t o kids rest cm m h1 h2 A c G w hG hp hc (by omega) (by omega) hcm).mono ?_;rintro e w' ⟨v,he,hP,hb⟩;refine ⟨v, ?_, ?_,hb⟩
    ·rw [he];unfold Pts.asgN;rw [h0,← hq];rfl
    ·unfold Pts.asgR;rw [h0,← hq];exact hP
  ·rw [if_neg hk] at hq;cases hq
theorem lP (l:Pts) (A:Option Addr) (c:Nat) (G:Nat→Prop) (w:World) (hG:∀ j,G j→j<w.heap.size) (hp:aY G w A 0 l) (hc:l.len≤c) (hwt:l.wt≤1073741823) (hcm:c≤maxLen):
  Calls Tryz.prog 147 #[.agg #[.slice A l.len c]] w fun e w'=>∃ v,e=.returned (.tuple #[.string l.asgN,.agg #[v],.bool l.asg.isSome])∧cK G w.heap.size w' v l.asgR∧Below w.heap.size w w':=by
 cases h:l.asg with
 | none=>
  refine (pP l h A c G w hG hp hwt).mono ?_;rintro e w' ⟨he,hb⟩;refine ⟨.slice none 0 0, ?_, ?_,hb⟩
  ·rw [he];unfold Pts.asgN;rw [h];rfl
  ·unfold Pts.asgR;rw [h];exact cK.nothing
 | some q=>
  obtain ⟨k,t,o,kids,cm,rest,rfl⟩:∃ k t o kids cm rest,l=.cons k t o kids cm rest:=by
   cases l with
   | nil=>cases h
   | cons k t o kids cm rest=>exact ⟨_,_,_,_,_,_,rfl⟩
  have h0:=h;have hq:(if k=1∧0≤Chr.assign t.toList then some (t.extract 0 (Chr.assign t.toList).toNat,fS t (Chr.assign t.toList).toNat rest) else none)=some q:=h;by_cases hk:k=1∧0≤Chr.assign t.toList
  ·rw [if_pos hk] at hq;obtain ⟨rfl,hk2⟩:=hk;rcases Chr.assign_range t.toList with h1 | ⟨m,h1,h2⟩
   ·omega
   ·have hlw:=Pts.len_wt rest;rw [Pts.wt] at hwt;rw [h1,Int.toNat_natCast] at hq;rw [← aL] at h2;refine (pQ t o kids rest cm m h1 h2 A c G w hG hp hc (by omega) (by omega) hcm).mono ?_;rintro e w' ⟨v,he,hP,hb⟩;refine ⟨v, ?_, ?_,hb⟩
    ·rw [he];unfold Pts.asgN;rw [h0,← hq];rfl
    ·unfold Pts.asgR;rw [h0,← hq];exact hP
  ·rw [if_neg hk] at hq;cases hq
end Go.Proofs.YtjpopekmbmcggaaGreatDoor
namespace Go.Proofs.YtjpopekmbmcggaaGreatDoor
open Go.RowKit
theorem eY {Y:World} {b:Nat} {T:TypeId} {v0:Value} (h:Y.heap[b]? = some (.cells #[v0] T (0,0))):Y.cell? ⟨b,0,none⟩=some v0:=by simp [World.cell?,h]
end Go.Proofs.YtjpopekmbmcggaaGreatDoor
namespace Go.Proofs.YtjpopekmbmcggaaGreatDoor
open Go.RowKit
attribute [local go_sem ↓] cN
theorem dH.joins {B B2:Nat} {w:World} {v v2:Value} {l m:List Cm} (h:dH B w v l) (h2:dH B2 w v2 m) (hlen:l.length+m.length≤1099511627776) (hB:B≤w.heap.size):
  ∃ v' w',WrA Tryz.prog #[56,56] 56 #[v,v2] w=.ok v' w'∧dH B w' v' (l++m)∧w.grownBy w' v.ownBlock:=by
 rcases h2.2 with ⟨rfl,hm⟩ | ⟨g,cap,cur,rfl,hg,hh,_⟩
 ·obtain rfl:m=[]:=List.eq_nil_of_length_eq_zero hm;exact ⟨v,w,h.append_nil 0,by rw [List.append_nil];exact h,⟨rfl,rfl,rfl,Nat.le_refl _,fun _ _ _=>rfl⟩⟩
 ·obtain ⟨v',w',hrun,hown,hgr,_⟩:=h.append m ⟨g,0,none⟩ cap (fun j u hj=>h2.cells j u hj) hlen hB;exact ⟨v',w',hrun,hown,hgr⟩
theorem xX:∀ (n:Nat) (l:Pts) (G:Nat→Prop) (A:Option Addr) (c:Nat) (w:World),l.deep<n→l.wt≤1073741824→(∀ k,G k→k<w.heap.size)→aY G w A 0 l→
  Calls Tryz.prog 43 #[.slice A l.len c] w fun e w'=>∃ v,e=.returned v∧dH w.heap.size w' v l.cmds∧Below w.heap.size w w':=by
 intro n
 induction n with
 | zero=>intro l _ _ _ _ h;omega
 | succ n ih=>
  intro l G A c w hd hwt hG hp;have hlw:=Pts.len_wt l;have hcw:=Pts.count_wt l;have hcc:=Pts.cmds_count l;have IH:=Ha ih;clear ih;have HG:=Ha hG;have HP:=Ha hp;clear hG hp;go_enter Tryz.func43,Tryz.ntmps43;go_wp2
  go_loopw [3,4] (fun s i wr=>∃ (k:Nat) (done:List Cm),k≤l.len∧i=.int .i64 k∧dH w.heap.size wr s done∧done++(l.drop k).cmds=l.cmds∧Below w.heap.size w wr) (fun _ i _=>l.len-(intOf i).toNat)
  case atStart=>exact ⟨0,[],by omega,rfl,dH.nothing,by rw [Pts.drop_zero];rfl,Below.refl _ _⟩
  case round=>
   obtain ⟨k,done,hk,rfl,hr,hf,hb⟩:=hrel;have hdl:done.length≤1073741824:=by
    have:=congrArg List.length hf;rw [gI] at this;omega
   obtain ⟨HF,HB,HR⟩:=hs3 hf hb hr;clear hf hb hr;by_cases hlt:k<l.len
   ·obtain ⟨pk,t,o,kids,cm,r,hdr⟩:=Pts.drop_cons k l hlt;have hp':=(HP.out.old HG.out HB.out).at_ k;rw [hdr,Nat.zero_add] at hp';obtain ⟨b,off,Ak,ck,rfl,hg,c0,c1,c2,c3,c4,hl,h1,h2⟩:=hp';have hwd:=Pts.wt_drop k l;rw [hdr,Pts.wt] at hwd;have hkw:=Pts.count_wt kids;have hkc:=Pts.cmds_count kids;have hkd:=Pts.deep_drop k l hdr;have hG':∀ g,G g→g<wr.heap.size:=fun g hg=>gK (HG.out g hg) HB.out.size;have HD:=Ha hdr;clear hdr h2;obtain ⟨HK,HGW,HGB⟩:=hs3 h1 hG' (HG.out b hg);clear h1 hG' hg;unfold Cm.val at c4;by_cases h6:pk=6
    ·subst h6;have hx:=HR.out.below ((Below.refl _ _).alloc (Nat.le_refl _) (.cells #[.slice cm.a cm.n cm.c] 26));have hnew:=eY (heap_alloc_new wr (.cells #[.slice cm.a cm.n cm.c] 26));obtain ⟨v1,w1,hrun1,hown1,hgr1,_⟩:=hx.append [cm] ⟨wr.heap.size,0,none⟩ 1 (fun j u hj=>by
      match j,hj with
      | 0,hj=>simp only [List.map_cons,List.map_nil,List.getElem?_cons_zero,Option.some.injEq] at hj;subst hj;exact hnew
      | j+1,hj=>simp at hj) (by simp;omega) (by simp;have:=HB.out.size;omega)
     rw [show [cm].length=1 from rfl] at hrun1;have hb1:Below w.heap.size w w1:=(HB.out.alloc HB.out.size _).grown hgr1 (by simp;have:=HB.out.size;omega) (fun g hg=>(hx.lt hg).1);have q3:w1.cell? ⟨b,off+k*5+3,none⟩=some (.slice Ak kids.len ck):=by
      have e1:=HB.out.cell (p:=⟨b,off+k*5+3,none⟩) HGB.out;have e2:=hb1.cell (p:=⟨b,off+k*5+3,none⟩) HGB.out;rw [e2,← e1];exact c3
     obtain ⟨HK1,HG1,HO1,HB1⟩:=hs4 (show aY G w1 Ak 0 kids from HK.out.keep fun p hp=>(hb1.cell (HG.out _ hp)).trans (HB.out.cell (HG.out _ hp)).symm) (show ∀ g,G g→g<w1.heap.size from fun g hg=>gK (HG.out g hg) hb1.size) hown1 hb1;clear hx hnew hown1 hgr1 hb1;go_wp2_with fail;refine (IH.out kids G Ak ck w1 (by omega) (by omega) HG1.out HK1.out).mono ?_;rintro e w2 ⟨v2,rfl,hr2,hb2⟩;have ho2:=HO1.out.below hb2;obtain ⟨v3,w3,hrun3,hown3,hgr3⟩:=ho2.joins hr2 (by simp;omega) (Nat.le_trans HB1.out.size hb2.size);have HB3:=Ha (((HB1.out.trans (hb2.mono HB1.out.size))).grown hgr3 (Nat.le_trans HB1.out.size hb2.size) (fun g hg=>(ho2.lt hg).1));have HO3:=Ha hown3;clear hr2 hb2 ho2 hown3 hgr3 hrun1 q3 c0 c1 c2 c3 c4;go_wp2
     go_roundw
     case rel=>
      refine ⟨k+1,done++[cm]++kids.cmds,by omega,by go_num,HO3.out, ?_,HB3.out⟩;rw [Pts.drop_succ k l HD.out,← HF.out,HD.out,Pts.cmds,if_pos rfl];simp
     case measure=>simp only [intOf];omega
    ·have hb6:((pk:Int)==6)=false:=by simpa using h6
     have H6:=Ha h6;clear h6;go_wp2_with fail;refine (IH.out kids G Ak ck wr (by omega) (by omega) HGW.out HK.out).mono ?_;rintro e w2 ⟨v2,rfl,hr2,hb2⟩;have ho2:=HR.out.below hb2;obtain ⟨v3,w3,hrun3,hown3,hgr3⟩:=ho2.joins hr2 (by omega) (Nat.le_trans HB.out.size hb2.size);have HB3:=Ha (((HB.out.trans (hb2.mono HB.out.size))).grown hgr3 (Nat.le_trans HB.out.size hb2.size) (fun g hg=>(ho2.lt hg).1));have HO3:=Ha hown3;clear hr2 hb2 ho2 hown3 hgr3 c0 c1 c2 c3 c4;go_wp2
     go_roundw
     case rel=>
      refine ⟨k+1,done++kids.cmds,by omega,by go_num,HO3.out, ?_,HB3.out⟩;rw [Pts.drop_succ k l HD.out,← HF.out,HD.out,Pts.cmds,if_neg H6.out];simp
     case measure=>simp only [intOf];omega
   ·go_wp2;go_ret;refine ⟨_,rfl, ?_,HB.out⟩;have h:=HF.out;rw [Pts.drop_end k l (by omega),Pts.cmds,List.append_nil] at h;rw [← h];exact HR.out
theorem CU (l:Pts) (A:Option Addr) (c:Nat) (G:Nat→Prop) (w:World) (hwt:l.wt≤1073741824) (hG:∀ k,G k→k<w.heap.size) (hp:aY G w A 0 l):
  Calls Tryz.prog 43 #[.slice A l.len c] w fun e w'=>∃ v,e=.returned v∧dH w.heap.size w' v l.cmds∧Below w.heap.size w w':=xX (l.deep+1) l G A c w (by omega) hwt hG hp
end Go.Proofs.YtjpopekmbmcggaaGreatDoor
