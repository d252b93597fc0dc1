/- Towards unparseHeres_card. -/
import Derived.Test.YtjpopekmbmcggaaGreatDoorRows
import Derived.Laws.Strings
import Derived.Test.YtjpopekmbmcggaaGreatDoorUh01
set_option maxRecDepth 100000
set_option maxHeartbeats 16000000
namespace Go.Proofs.YtjpopekmbmcggaaGreatDoor
open Go
structure Cm where
 a:Option Addr
 n:Nat
 c:Nat
def Cm.val (x:Cm):Value:=.slice x.a x.n x.c
inductive Pts where
 | nil
 | cons (k:Int) (t o:ByteArray) (kids:Pts) (cm:Cm) (rest:Pts)
namespace Pts
def len:Pts→Nat
 | nil=>0
 | cons _ _ _ _ _ r=>r.len+1
def drop:Nat→Pts→Pts
 | 0,l=>l
 | _+1,nil=>nil
 | i+1,cons _ _ _ _ _ r=>r.drop i
def app:Pts→Pts→Pts
 | nil,r=>r
 | cons k t o kids cm rest,r=>cons k t o kids cm (rest.app r)
def wt:Pts→Nat
 | nil=>0
 | cons _ t o kids cm rest=>1+t.size+o.size+cm.n+kids.wt+rest.wt
def deep:Pts→Nat
 | nil=>0
 | cons _ _ _ kids _ rest=>max (kids.deep+1) rest.deep
theorem drop_zero (l:Pts):l.drop 0=l:=by cases l <;> rfl
theorem mR:∀ (i:Nat) (l:Pts),(l.drop i).len=l.len-i
 | 0,l=>by rw [drop_zero];omega
 | _+1,nil=>by simp [drop,len]
 | i+1,cons k t o kids cm r=>by rw [drop,mR i r,len];omega
theorem drop_end (i:Nat) (l:Pts) (h:l.len≤i):l.drop i=nil:=by
 have h1:(l.drop i).len=0:=by rw [mR];omega
 cases hl:l.drop i with
 | nil=>rfl
 | cons _ _ _ _ _ r=>rw [hl] at h1;simp [len] at h1
theorem drop_succ:∀ (i:Nat) (l:Pts) {k:Int} {t o:ByteArray} {kids:Pts} {cm:Cm} {r:Pts},l.drop i=cons k t o kids cm r→l.drop (i+1)=r
 | 0,l,_,_,_,_,_,_,h=>by rw [drop_zero] at h;subst h;rw [drop,drop_zero]
 | _+1,nil,_,_,_,_,_,_,h=>by simp [drop] at h
 | i+1,cons _ _ _ _ _ r,_,_,_,_,_,_,h=>by rw [drop] at h;rw [drop];exact drop_succ i r h
theorem drop_cons (i:Nat) (l:Pts) (h:i<l.len):∃ k t o kids cm r,l.drop i=cons k t o kids cm r:=by
 cases hl:l.drop i with
 | nil=>have:=mR i l;rw [hl] at this;simp [len] at this;omega
 | cons k t o kids cm r=>exact ⟨k,t,o,kids,cm,r,rfl⟩
theorem wt_drop:∀ (i:Nat) (l:Pts),(l.drop i).wt≤l.wt
 | 0,l=>by rw [drop_zero];exact Nat.le_refl _
 | _+1,nil=>by simp [drop]
 | i+1,cons k t o kids cm r=>by have:=wt_drop i r;rw [drop,wt];omega
theorem deep_drop:∀ (i:Nat) (l:Pts) {k:Int} {t o:ByteArray} {kids:Pts} {cm:Cm} {r:Pts},l.drop i=cons k t o kids cm r→kids.deep<l.deep
 | 0,l,_,_,_,_,_,_,h=>by rw [drop_zero] at h;subst h;rw [deep];omega
 | _+1,nil,_,_,_,_,_,_,h=>by simp [drop] at h
 | i+1,cons _ _ _ _ _ r,_,_,_,_,_,_,h=>by rw [drop] at h;have:=deep_drop i r h;rw [deep];omega
theorem len_wt:∀ l:Pts,l.len≤l.wt
 | nil=>Nat.le_refl _
 | cons _ _ _ _ _ r=>by have:=len_wt r;rw [len,wt];omega
theorem len_app:∀ l r:Pts,(l.app r).len=l.len+r.len
 | nil,r=>by simp [app,len]
 | cons _ _ _ _ _ l,r=>by rw [app,len,len,len_app l r];omega
theorem app_nil:∀ l:Pts,l.app nil=l
 | nil=>rfl
 | cons _ _ _ _ _ l=>by rw [app,app_nil l]
def muchLoop:Pts→Nat→Nat
 | nil,n=>n
 | cons _ t o kids cm rest,n=>if n≤1000 then muchLoop rest (n+t.size / 10+o.size / 10+cm.n+muchLoop kids kids.len) else n
def much (l:Pts):Nat:=muchLoop l l.len
theorem iR:∀ (l:Pts) (n:Nat),muchLoop l n+l.len≤n+l.wt
 | nil,n=>by simp [muchLoop,len,wt]
 | cons k t o kids cm rest,n=>by
  unfold muchLoop
  split
  ·have h1:=iR kids kids.len;have h2:=iR rest (n+t.size / 10+o.size / 10+cm.n+muchLoop kids kids.len);rw [wt,len];omega
  ·have:=len_wt rest;rw [wt,len];omega
theorem much_le (l:Pts):l.much≤l.wt:=by
 have:=iR l l.len;unfold much;omega
end Pts
end Go.Proofs.YtjpopekmbmcggaaGreatDoor
namespace Go.Proofs.YtjpopekmbmcggaaGreatDoor.Pts
open Go
def paramHead (t o:List UInt8):List UInt8:=if o=[108,101,110] then [35]++t else t++o
def cmdText:List (List UInt8)→List UInt8
 | []=>[36,40,32]++[41]
 | c::_=>[36,40,32]++c++[41]
def shw:Pts→List (List UInt8)→List UInt8×List (List UInt8)
 | nil,cs=>([],cs)
 | cons k t o kids _ rest,cs=>
  let one:List UInt8×List (List UInt8):=
   if k=1 then (t.toList,cs) else if k=2 then ([92]++t.toList,cs) else if k=3 then ([39]++t.toList++[39],cs)
   else if k=4 then ([34]++(kids.shw cs).1++[34],(kids.shw cs).2)
   else if k=5 then ([36,123]++paramHead t.toList o.toList++(kids.shw cs).1++[125],(kids.shw cs).2)
   else if k=6 then (cmdText cs,cs.tail)
   else if k=7 then ([36,40,40]++t.toList++[41,41],cs)
   else ([],cs)
  (one.1++(rest.shw one.2).1,(rest.shw one.2).2)
def total:List (List UInt8)→Nat
 | []=>0
 | c::r=>c.length+total r
theorem paramHead_len (t o:List UInt8):(paramHead t o).length≤t.length+o.length+1:=by
 unfold paramHead;split <;> simp <;> omega
theorem len_list (s:ByteArray):s.toList.length=s.size:=by
 rw [ByteArray.toList_eq,Array.length_toList];rfl
theorem shw_len:∀ (l:Pts) (cs:List (List UInt8)),(l.shw cs).1.length+total (l.shw cs).2≤6*l.wt+total cs
 | nil,cs=>by simp [shw,wt]
 | cons k t o kids cm rest,cs=>by
  have hk:=shw_len kids cs;have ht:=len_list t;have ho:=len_list o;have hp:=paramHead_len t.toList o.toList;simp only [shw,wt];by_cases h1:k=1
  ·simp only [h1,if_pos];have:=shw_len rest cs;rw [gI];omega
  by_cases h2:k=2
  ·simp only [h2,if_pos,if_neg (show ¬(2:Int)=1 by omega)];have:=shw_len rest cs;simp only [gI,gG,gH];omega
  by_cases h3:k=3
  ·simp only [h3,if_pos,if_neg (show ¬(3:Int)=1 by omega),if_neg (show ¬(3:Int)=2 by omega)];have:=shw_len rest cs;simp only [gI,gG,gH];omega
  by_cases h4:k=4
  ·simp only [h4,if_pos,if_neg (show ¬(4:Int)=1 by omega),if_neg (show ¬(4:Int)=2 by omega),if_neg (show ¬(4:Int)=3 by omega)];have:=shw_len rest (kids.shw cs).2;simp only [gI,gG,gH];omega
  by_cases h5:k=5
  ·simp only [h5,if_pos,if_neg (show ¬(5:Int)=1 by omega),if_neg (show ¬(5:Int)=2 by omega),if_neg (show ¬(5:Int)=3 by omega),if_neg (show ¬(5:Int)=4 by omega)];have:=shw_len rest (kids.shw cs).2;simp only [gI,gG,gH];omega
  by_cases h6:k=6
  ·simp only [h6,if_pos,if_neg (show ¬(6:Int)=1 by omega),if_neg (show ¬(6:Int)=2 by omega),if_neg (show ¬(6:Int)=3 by omega),if_neg (show ¬(6:Int)=4 by omega),if_neg (show ¬(6:Int)=5 by omega)];have:=shw_len rest cs.tail;cases cs with
   | nil=>simp only [gI,gG,gH,cmdText,List.tail_nil] at *;omega
   | cons c cs=>simp only [gI,gG,gH,cmdText,List.tail_cons,total] at *;omega
  by_cases h7:k=7
  ·simp only [h7,if_pos,if_neg (show ¬(7:Int)=1 by omega),if_neg (show ¬(7:Int)=2 by omega),if_neg (show ¬(7:Int)=3 by omega),if_neg (show ¬(7:Int)=4 by omega),if_neg (show ¬(7:Int)=5 by omega),if_neg (show ¬(7:Int)=6 by omega)];have:=shw_len rest cs;simp only [gI,gG,gH];omega
  ·simp only [if_neg h1,if_neg h2,if_neg h3,if_neg h4,if_neg h5,if_neg h6,if_neg h7];have:=shw_len rest cs;simp only [gI,gH];omega
end Go.Proofs.YtjpopekmbmcggaaGreatDoor.Pts
