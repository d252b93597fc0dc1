/- Towards unparseHeres_card. -/
import Derived.Lib.Bytealg
import Derived.Test.YtjpopekmbmcggaaGreatDoorUh01
set_option maxRecDepth 100000
set_option maxHeartbeats 16000000
namespace Go.Proofs.YtjpopekmbmcggaaGreatDoor.Chr
def cls (c:Nat):Nat:=
 if c=0 then 0 else if c=32∨c=9 then 1 else if c=10 then 2 else if 48≤c∧c≤57 then 3
 else if 97≤c∧c≤122∨65≤c∧c≤90∨c=95 then 4
 else if c=38∨c=124∨c=59∨c=60∨c=62∨c=40∨c=41 then 5
 else if c=39∨c=34∨c=92∨c=96 then 6 else if c=36 then 7 else 8
def Sign (c:Nat):Prop:=c=0∨c=32∨c=9∨c=10∨c=95∨c=38∨c=124∨c=59∨c=60∨c=62∨c=40∨c=41∨c=39∨c=34∨c=92∨c=96∨c=36
def xC (c:Nat):Prop:=(¬c=0∧¬c=32∧¬c=9∧¬c=10∧¬c=95∧¬c=38∧¬c=124∧¬c=59∧¬c=60∧¬c=62∧¬c=40∧¬c=41∧¬c=39∧¬c=34∧¬c=92∧¬c=96∧¬c=36)∧¬(48≤c∧c≤57)∧¬(97≤c∧c≤122)∧¬(65≤c∧c≤90)
theorem cls_cases (c:Nat):Sign c∨(48≤c∧c≤57∧cls c=3)∨(97≤c∧c≤122∧cls c=4)∨(65≤c∧c≤90∧cls c=4)∨(xC c∧cls c=8):=by
 by_cases h1:48≤c∧c≤57
 ·have:cls c=3:=by unfold cls;rw [if_neg (by omega),if_neg (by omega),if_neg (by omega),if_pos h1]
  exact .inr (.inl ⟨h1.1,h1.2,this⟩)
 by_cases h2:97≤c∧c≤122
 ·have:cls c=4:=by unfold cls;rw [if_neg (by omega),if_neg (by omega),if_neg (by omega),if_neg (by omega),if_pos (by omega)]
  exact .inr (.inr (.inl ⟨h2.1,h2.2,this⟩))
 by_cases h3:65≤c∧c≤90
 ·have:cls c=4:=by unfold cls;rw [if_neg (by omega),if_neg (by omega),if_neg (by omega),if_neg (by omega),if_pos (by omega)]
  exact .inr (.inr (.inr (.inl ⟨h3.1,h3.2,this⟩)))
 by_cases h4:Sign c
 ·exact .inl h4
 ·have ho:xC c:=by
   unfold xC;refine ⟨?_,h1,h2,h3⟩;unfold Sign at h4;simp only [not_or] at h4;exact h4
  have:cls c=8:=by
   obtain ⟨h,_⟩:=ho;unfold cls;rw [if_neg (by omega),if_neg (by omega),if_neg (by omega),if_neg (by omega),if_neg (by omega),if_neg (by omega),if_neg (by omega),if_neg (by omega)]
  exact .inr (.inr (.inr (.inr ⟨ho,this⟩)))
theorem qH (c:Nat) (h128:128≤c):cls c=8:=by
 rcases cls_cases c with h | h | h | h | h
 ·unfold Sign at h;omega
 all_goals omega
def special (c:Nat):Bool:=c==64||c==42||c==35||c==63||c==45||c==36||c==33
def allFrom (p:Nat→Nat→Bool):Nat→List UInt8→Bool
 | _,[]=>true
 | i,c::r=>p i c.toNat&&allFrom p (i+1) r
def okName (i c:Nat):Bool:=cls c==4||cls c==3&&decide (0<i)
def okDigit (_ c:Nat):Bool:=cls c==3
def okAscii (_ c:Nat):Bool:=decide (c<128)
def name (l:List UInt8):Bool:=allFrom okName 0 l && !l.isEmpty
def digits (l:List UInt8):Bool:=allFrom okDigit 0 l && !l.isEmpty
def ascii (l:List UInt8):Bool:=allFrom okAscii 0 l
theorem gV {p q:Nat→Nat→Bool} (h:∀ i c,p i c=true→q i c=true):∀ (i:Nat) (l:List UInt8),allFrom p i l=true→allFrom q i l=true
 | _,[],_=>rfl
 | i,c::r,hp=>by
  simp only [allFrom,Bool.and_eq_true] at hp ⊢;exact ⟨h _ _ hp.1,gV h _ r hp.2⟩
theorem allFrom_at {p:Nat→Nat→Bool}:∀ (i:Nat) (l:List UInt8),allFrom p i l=true→∀ (k:Nat) (h:k<l.length),p (i+k) (l[k].toNat)=true
 | i,c::r,hp,0,_=>by simp only [allFrom,Bool.and_eq_true] at hp;exact hp.1
 | i,c::r,hp,k+1,h=>by
  simp only [allFrom,Bool.and_eq_true] at hp;have:=allFrom_at (i+1) r hp.2 k (by simpa using h);rw [show i+(k+1)=i+1+k by omega]
  simpa using this
theorem allFrom_drop (p:Nat→Nat→Bool) (l:List UInt8) (k:Nat) (h:k<l.length):allFrom p k (l.drop k)=(p k (l[k].toNat)&&allFrom p (k+1) (l.drop (k+1))):=by
 rw [List.drop_eq_getElem_cons h];rfl
theorem allFrom_end (p:Nat→Nat→Bool) (l:List UInt8) (k:Nat) (h:¬k<l.length):allFrom p k (l.drop k)=true:=by
 rw [List.drop_of_length_le (by omega)];rfl
theorem name_ascii (l:List UInt8) (h:name l=true):ascii l=true:=by
 unfold name at h;rw [Bool.and_eq_true] at h;refine gV ?_ 0 l h.1;intro i c hp;unfold okName at hp;unfold okAscii;rw [decide_eq_true_eq];have:=qH c;rcases Nat.lt_or_ge c 128 with h1 | h1
 ·exact h1
 ·rw [this h1] at hp;simp at hp
theorem digits_ascii (l:List UInt8) (h:digits l=true):ascii l=true:=by
 unfold digits at h;rw [Bool.and_eq_true] at h;refine gV ?_ 0 l h.1;intro i c hp;unfold okDigit at hp;unfold okAscii;rw [decide_eq_true_eq];have:=qH c;rcases Nat.lt_or_ge c 128 with h1 | h1
 ·exact h1
 ·rw [this h1] at hp;simp at hp
def assignFrom (l:List UInt8):Nat→Nat→Int
 | _,0=>-1
 | i,n+1=>if (l.getD i 0).toNat=61 then (if name (l.take i) then (i:Int) else -1) else assignFrom l (i+1) n
def assign (l:List UInt8):Int:=assignFrom l 0 l.length
end Go.Proofs.YtjpopekmbmcggaaGreatDoor.Chr
namespace Go.Proofs.YtjpopekmbmcggaaGreatDoor.Chr
open Go
theorem uE {a c:UInt8} (l:List UInt8) (h:a=c):Lib.indexByte (a::l) c=0:=by simp [Lib.indexByte,h]
theorem qQ {a c:UInt8} (l:List UInt8) (h:a≠c):Lib.indexByte (a::l) c=if Lib.indexByte l c=-1 then -1 else Lib.indexByte l c+1:=by
 have hb:(a==c)=false:=by rw [gJ];exact h
 rw [Lib.indexByte,hb];by_cases hm:Lib.indexByte l c=-1
 ·simp [hm]
 ·simp [hm]
theorem jD (l:List UInt8):∀ (n i:Nat),i+n=l.length→
  assignFrom l i n=if Lib.indexByte (l.drop i) 61=-1 then -1 else if name (l.take (i+(Lib.indexByte (l.drop i) 61).toNat)) then (i:Int)+Lib.indexByte (l.drop i) 61 else -1
 | 0,i,h=>by
  rw [List.drop_of_length_le (by omega)];rfl
 | n+1,i,h=>by
  have hi:i<l.length:=by omega
  rw [List.drop_eq_getElem_cons hi];have e:l.getD i 0=l[i]:=by rw [List.getD_eq_getElem?_getD,List.getElem?_eq_getElem hi];rfl
  rw [assignFrom,e];by_cases h61:l[i].toNat=61
  ·rw [if_pos h61,uE _ (UInt8.toNat_inj.1 h61)];have h0:¬((0:Int)=-1):=by decide
   rw [if_neg h0,show i+(0:Int).toNat=i from rfl,Int.add_zero]
  ·rw [if_neg h61,jD l n (i+1) (by omega),qQ _ (fun e=>h61 (by rw [e];rfl))];have hge:=Lib.indexByte_ge (l.drop (i+1)) 61;by_cases hm:Lib.indexByte (l.drop (i+1)) 61=-1
   ·rw [if_pos hm,if_pos hm,if_pos rfl]
   ·have hx:¬(Lib.indexByte (l.drop (i+1)) 61+1=-1):=by omega
    rw [if_neg hm,if_neg hm,if_neg hx];have e2:i+1+(Lib.indexByte (l.drop (i+1)) 61).toNat=i+(Lib.indexByte (l.drop (i+1)) 61+1).toNat:=by omega
    rw [e2]
    split
    ·omega
    ·rfl
theorem assign_eq (l:List UInt8):assign l=if Lib.indexByte l 61=-1 then -1 else if name (l.take (Lib.indexByte l 61).toNat) then Lib.indexByte l 61 else -1:=by
 unfold assign;rw [jD l l.length 0 (by omega)];simp
theorem indexByte_lt (c:UInt8):∀ s:List UInt8,Lib.indexByte s c<s.length∨Lib.indexByte s c=-1
 | []=>.inr rfl
 | a::s=>by
  have ih:=indexByte_lt c s;by_cases ha:a=c
  ·rw [uE _ ha,gG];left;omega
  ·rw [qQ _ ha,gG];by_cases hm:Lib.indexByte s c=-1
   ·rw [if_pos hm];exact .inr rfl
   ·rw [if_neg hm];left;omega
end Go.Proofs.YtjpopekmbmcggaaGreatDoor.Chr
namespace Go.Proofs.YtjpopekmbmcggaaGreatDoor.Ope
def texts:List (List UInt8):=[[],[38,38],[124,124],[59,59],[59],[38],[124],[40],[41],[60],[62],[62,62],[60,60],[60,60,45],[60,38],[62,38],[60,62],[62,124]]
def txt (k:Nat):List UInt8:=texts.getD k []
def txtI (op:Int):List UInt8:=if op<0 then [] else txt op.toNat
def qM (l:List UInt8):Nat→Nat→Nat
 | _,0=>0
 | k,n+1=>if txt k==l then k else qM l (k+1) n
def EK (l:List UInt8):Nat:=qM l 1 17
def mT (l:List UInt8):Nat→Nat→List Nat
 | _,0=>[]
 | k,n+1=>if l.isPrefixOf (txt k) then k::mT l (k+1) n else mT l (k+1) n
def more (l:List UInt8):List Nat:=mT l 1 17
def whole (l:List UInt8):Bool:=EK l != 0&&(more l).length==1
def redir (op:Int):Bool:=decide (9≤op)&&decide (op≤17)
end Go.Proofs.YtjpopekmbmcggaaGreatDoor.Ope
