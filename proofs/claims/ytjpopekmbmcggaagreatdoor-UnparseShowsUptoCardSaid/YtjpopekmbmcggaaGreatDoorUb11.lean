/- Towards unparseShows_card: OperWalks. Merged from smaller texts by a program of the author's. -/
import Derived.Test.YtjpopekmbmcggaaGreatDoorUb03
import Derived.Test.YtjpopekmbmcggaaGreatDoorUb02
set_option maxRecDepth 100000
set_option maxHeartbeats 16000000
namespace Go.Proofs.YtjpopekmbmcggaaGreatDoor
open Go.RowKit
def gP:Array Value:=(Ope.texts.map bs).toArray
def dF (w:World):Prop:=∃ t fr,w.heap[2]? = some (.cells gP t fr)
theorem dF.below {w w':World} (h:dF w) (hb:Below w.heap.size w w'):dF w':=by
  obtain ⟨t,fr,hg⟩:=h;exact ⟨t,fr,(hb.block 2 (Array.getElem?_eq_some_iff.1 hg).1).trans hg⟩
theorem vC (k:Nat) (h:k<18) {w:World} (ht:dF w):w.cell? ⟨2,k,none⟩=some (bs (Ope.txt k)):=by
  obtain ⟨t,fr,hg⟩:=ht;rw [cell_of_row w 2 k gP t fr hg];have:∀ k:Fin 18,gP[k.val]? = some (bs (Ope.txt k.val)):=fun k=>by
    unfold gP Ope.txt;have hl:k.val<Ope.texts.length:=by simp [Ope.texts]
    simp [List.getD,List.getElem?_eq_getElem hl]
  exact this ⟨k,h⟩
theorem BT (op:Int) (w:World):Calls Tryz.prog 48 #[.int .i64 op] w fun e w'=>e=.returned (.bool (Ope.redir op))∧w=w':=by
  go_enter Tryz.func48,Tryz.ntmps48;go_wp2;all_goals go_ret
  · exact ⟨aC (by have h:9≤op:=(by assumption);simp [Ope.redir,h]),rfl⟩
  · exact ⟨aC (by have h:op<9:=(by assumption);simp [Ope.redir];omega),rfl⟩
theorem DH (op:Int) (w:World) (ht:dF w):Calls Tryz.prog 249 #[.int .i64 op] w fun e w'=>e=.returned (bs (Ope.txtI op))∧w=w':=by
  by_cases h0:op<0
  · go_enter Tryz.func249,Tryz.ntmps249;go_wp2;go_ret;exact ⟨by rw [Ope.txtI,if_pos h0];rfl,rfl⟩
  · by_cases h1:18≤op
    · go_enter Tryz.func249,Tryz.ntmps249;go_wp2;go_ret;refine ⟨?_,rfl⟩;rw [Ope.txtI,if_neg (by omega),Ope.txt,List.getD_eq_getElem?_getD,List.getElem?_eq_none (by simp [Ope.texts];omega)];rfl
    · obtain ⟨k,rfl⟩:∃ k:Nat,op=k:=⟨op.toNat,by omega⟩;have hc:=vC k (by omega) ht;unfold bs at hc;go_enter Tryz.func249,Tryz.ntmps249;go_wp2;go_ret;refine ⟨?_,rfl⟩;rw [Ope.txtI,if_neg (by omega)];rfl
theorem DI (op:Int) (w:World):Calls Tryz.prog 247 #[.int .i64 op] w fun e w'=>e=.returned (bs (Ope.txtI op))∧w=w':=by
  go_enter Tryz.func247,Tryz.ntmps247;go_wp2;all_goals go_ret
  all_goals refine ⟨?_,rfl⟩
  all_goals first
    | (obtain rfl:op=1:=by simpa using ‹(op==1)=true›
       rfl)
    | (obtain rfl:op=2:=by simpa using ‹(op==2)=true›
       rfl)
    | (obtain rfl:op=3:=by simpa using ‹(op==3)=true›
       rfl)
    | (obtain rfl:op=4:=by simpa using ‹(op==4)=true›
       rfl)
    | (obtain rfl:op=5:=by simpa using ‹(op==5)=true›
       rfl)
    | (obtain rfl:op=6:=by simpa using ‹(op==6)=true›
       rfl)
    | (obtain rfl:op=7:=by simpa using ‹(op==7)=true›
       rfl)
    | (obtain rfl:op=8:=by simpa using ‹(op==8)=true›
       rfl)
    | (obtain rfl:op=9:=by simpa using ‹(op==9)=true›
       rfl)
    | (obtain rfl:op=10:=by simpa using ‹(op==10)=true›
       rfl)
    | (obtain rfl:op=11:=by simpa using ‹(op==11)=true›
       rfl)
    | (obtain rfl:op=12:=by simpa using ‹(op==12)=true›
       rfl)
    | (obtain rfl:op=13:=by simpa using ‹(op==13)=true›
       rfl)
    | (obtain rfl:op=14:=by simpa using ‹(op==14)=true›
       rfl)
    | (obtain rfl:op=15:=by simpa using ‹(op==15)=true›
       rfl)
    | (obtain rfl:op=16:=by simpa using ‹(op==16)=true›
       rfl)
    | (obtain rfl:op=17:=by simpa using ‹(op==17)=true›
       rfl)
    | skip
  have h:∀ k:Nat,k<18→k≠0→op≠k:=by
    intro k hk h0 e;subst e;have hc:k=1∨k=2∨k=3∨k=4∨k=5∨k=6∨k=7∨k=8∨k=9∨k=10∨k=11∨k=12∨k=13∨k=14∨k=15∨k=16∨k=17:=by omega
    rcases hc with rfl | rfl | rfl | rfl | rfl | rfl | rfl | rfl | rfl | rfl | rfl | rfl | rfl | rfl | rfl | rfl | rfl <;> simp_all
  have e:Ope.txtI op=[]:=by
    unfold Ope.txtI
    split
    · rfl
    · by_cases h1:op<18
      · obtain ⟨k,rfl⟩:∃ k:Nat,op=k:=⟨op.toNat,by omega⟩;have:k=0:=by
          rcases Nat.eq_zero_or_pos k with h0 | h0
          · exact h0
          · exact absurd rfl (h k (by omega) (by omega))
        subst this;rfl
      · rw [Ope.txt,List.getD_eq_getElem?_getD,List.getElem?_eq_none (by simp [Ope.texts];omega)];rfl
  rw [e];rfl
end Go.Proofs.YtjpopekmbmcggaaGreatDoor
