/- Towards unparseRight_card: ProgLit. Merged from smaller texts by a program of the author's. -/
import Derived.Test.YtjpopekmbmcggaaGreatDoorUc07
set_option maxRecDepth 100000
set_option maxHeartbeats 16000000
namespace Go.Proofs.YtjpopekmbmcggaaGreatDoor
open Go.RowKit
theorem BC:∀ c:Fin 256,decide (0≤Lib.indexByte [36,96,34,92] ((c.val:Int).toNat.toUInt8))=bF (c.val:Int):=by decide +kernel
theorem cE (c:Nat) (hc:c<256) (w:World):Calls Tryz.prog 181 #[.int .u8 (c:Int)] w fun e w'=>e=.returned (.bool (bF (c:Int)))∧w=w':=by
 have hq:=BC ⟨c,hc⟩;simp only at hq;have HQ:=Ha hq;clear hq;go_enter Tryz.func181,Tryz.ntmps181;go_wp2_with fail;refine (iK _ _ _).mono ?_;rintro e w' ⟨rfl,rfl⟩;rw [show (⟨#[36,96,34,92]⟩:ByteArray).toList=[36,96,34,92] from aI [36,96,34,92]];go_wp2;go_ret;exact ⟨by rw [← HQ.out];rfl,rfl⟩
theorem dQ (c:Nat) (hc:c<256) (w:World):Calls Tryz.prog 215 #[.int .u8 (c:Int)] w fun e w'=>e=.returned (.bool (!bH c))∧w=w':=by
 cases h4:((Chr.cls c:Int)==4)
 ·cases h3:((Chr.cls c:Int)==3)
  ·cases hs:Chr.special c
   ·cases h123:((c:Int)==123)
    ·cases h40:((c:Int)==40)
     ·have HF:=Ha (show (!bH c)=false by simp [bH,bne,h4,h3,hs,h123,h40]);go_enter Tryz.func215,Tryz.ntmps215;go_wp2_with (first | (go_at_call 115;refine (cL c hc _).mono ?_;rintro e w' ⟨rfl,rfl⟩) | (go_at_call 241;refine (eC c hc _).mono ?_;rintro e w' ⟨rfl,rfl⟩));go_ret;exact ⟨by rw [HF.out];rfl,rfl⟩
     ·have HF:=Ha (show (!bH c)=true by simp [bH,bne,h4,h3,hs,h123,h40]);go_enter Tryz.func215,Tryz.ntmps215;go_wp2_with (first | (go_at_call 115;refine (cL c hc _).mono ?_;rintro e w' ⟨rfl,rfl⟩) | (go_at_call 241;refine (eC c hc _).mono ?_;rintro e w' ⟨rfl,rfl⟩));go_ret;exact ⟨by rw [HF.out];rfl,rfl⟩
    ·have HF:=Ha (show (!bH c)=true by simp [bH,bne,h4,h3,hs,h123]);go_enter Tryz.func215,Tryz.ntmps215;go_wp2_with (first | (go_at_call 115;refine (cL c hc _).mono ?_;rintro e w' ⟨rfl,rfl⟩) | (go_at_call 241;refine (eC c hc _).mono ?_;rintro e w' ⟨rfl,rfl⟩));go_ret;exact ⟨by rw [HF.out];rfl,rfl⟩
   ·have HF:=Ha (show (!bH c)=true by simp [bH,bne,h4,h3,hs]);go_enter Tryz.func215,Tryz.ntmps215;go_wp2_with (first | (go_at_call 115;refine (cL c hc _).mono ?_;rintro e w' ⟨rfl,rfl⟩) | (go_at_call 241;refine (eC c hc _).mono ?_;rintro e w' ⟨rfl,rfl⟩));go_ret;exact ⟨by rw [HF.out];rfl,rfl⟩
  ·have HF:=Ha (show (!bH c)=true by simp [bH,bne,h4,h3]);go_enter Tryz.func215,Tryz.ntmps215;go_wp2_with (first | (go_at_call 115;refine (cL c hc _).mono ?_;rintro e w' ⟨rfl,rfl⟩) | (go_at_call 241;refine (eC c hc _).mono ?_;rintro e w' ⟨rfl,rfl⟩));go_ret;exact ⟨by rw [HF.out];rfl,rfl⟩
 ·have HF:=Ha (show (!bH c)=true by simp [bH,bne,h4]);go_enter Tryz.func215,Tryz.ntmps215;go_wp2_with (first | (go_at_call 115;refine (cL c hc _).mono ?_;rintro e w' ⟨rfl,rfl⟩) | (go_at_call 241;refine (eC c hc _).mono ?_;rintro e w' ⟨rfl,rfl⟩));go_ret;exact ⟨by rw [HF.out];rfl,rfl⟩
def cA (p:Nat) (c:Nat):Bool:=
 if p=0 then ((Chr.cls c:Int)==3||(Chr.cls c:Int)==4||(Chr.cls c:Int)==8||(Chr.cls c:Int)==7)
 else if p=1 then ((c:Int) != 34)&&((c:Int) != 96)
 else ((c:Int) != 125)&&((Chr.cls c:Int) != 6)
theorem xW (c:Nat) (hc:c<256) (w:World):Calls Tryz.prog 214 #[.int .i64 0,.int .u8 (c:Int)] w fun e w'=>e=.returned (.bool (cA 0 c))∧w=w':=by
 cases k3:((Chr.cls c:Int)==3)
 ·cases k4:((Chr.cls c:Int)==4)
  ·cases k8:((Chr.cls c:Int)==8)
   ·cases k7:((Chr.cls c:Int)==7)
    ·have HF:=Ha (show cA 0 c=false by simp [cA,k3,k4,k8,k7]);go_enter Tryz.func214,Tryz.ntmps214;go_wp2_with (go_at_call 115;refine (cL c hc _).mono ?_;rintro e w' ⟨rfl,rfl⟩);go_ret;exact ⟨by rw [HF.out];rfl,rfl⟩
    ·have HF:=Ha (show cA 0 c=true by simp [cA,k3,k4,k8,k7]);go_enter Tryz.func214,Tryz.ntmps214;go_wp2_with (go_at_call 115;refine (cL c hc _).mono ?_;rintro e w' ⟨rfl,rfl⟩);go_ret;exact ⟨by rw [HF.out];rfl,rfl⟩
   ·have HF:=Ha (show cA 0 c=true by simp [cA,k3,k4,k8]);go_enter Tryz.func214,Tryz.ntmps214;go_wp2_with (go_at_call 115;refine (cL c hc _).mono ?_;rintro e w' ⟨rfl,rfl⟩);go_ret;exact ⟨by rw [HF.out];rfl,rfl⟩
  ·have HF:=Ha (show cA 0 c=true by simp [cA,k3,k4]);go_enter Tryz.func214,Tryz.ntmps214;go_wp2_with (go_at_call 115;refine (cL c hc _).mono ?_;rintro e w' ⟨rfl,rfl⟩);go_ret;exact ⟨by rw [HF.out];rfl,rfl⟩
 ·have HF:=Ha (show cA 0 c=true by simp [cA,k3]);go_enter Tryz.func214,Tryz.ntmps214;go_wp2_with (go_at_call 115;refine (cL c hc _).mono ?_;rintro e w' ⟨rfl,rfl⟩);go_ret;exact ⟨by rw [HF.out];rfl,rfl⟩
theorem xX (c:Nat) (hc:c<256) (w:World):Calls Tryz.prog 214 #[.int .i64 1,.int .u8 (c:Int)] w fun e w'=>e=.returned (.bool (cA 1 c))∧w=w':=by
 cases c34:((c:Int) != 34)
 ·have HF:=Ha (show cA 1 c=false by simp [cA,c34]);go_enter Tryz.func214,Tryz.ntmps214;go_wp2_with (go_at_call 115;refine (cL c hc _).mono ?_;rintro e w' ⟨rfl,rfl⟩);go_ret;exact ⟨by rw [HF.out];rfl,rfl⟩
 ·cases c96:((c:Int) != 96)
  ·have HF:=Ha (show cA 1 c=false by simp [cA,c34,c96]);go_enter Tryz.func214,Tryz.ntmps214;go_wp2_with (go_at_call 115;refine (cL c hc _).mono ?_;rintro e w' ⟨rfl,rfl⟩);go_ret;exact ⟨by rw [HF.out];rfl,rfl⟩
  ·have HF:=Ha (show cA 1 c=true by simp [cA,c34,c96]);go_enter Tryz.func214,Tryz.ntmps214;go_wp2_with (go_at_call 115;refine (cL c hc _).mono ?_;rintro e w' ⟨rfl,rfl⟩);go_ret;exact ⟨by rw [HF.out];rfl,rfl⟩
theorem xY (c:Nat) (hc:c<256) (w:World):Calls Tryz.prog 214 #[.int .i64 2,.int .u8 (c:Int)] w fun e w'=>e=.returned (.bool (cA 2 c))∧w=w':=by
 cases c125:((c:Int) != 125)
 ·have HF:=Ha (show cA 2 c=false by simp [cA,c125]);go_enter Tryz.func214,Tryz.ntmps214;go_wp2_with (go_at_call 115;refine (cL c hc _).mono ?_;rintro e w' ⟨rfl,rfl⟩);go_ret;exact ⟨by rw [HF.out];rfl,rfl⟩
 ·cases k6:((Chr.cls c:Int) != 6)
  ·have HF:=Ha (show cA 2 c=false by simp [cA,c125,k6]);go_enter Tryz.func214,Tryz.ntmps214;go_wp2_with (go_at_call 115;refine (cL c hc _).mono ?_;rintro e w' ⟨rfl,rfl⟩);go_ret;exact ⟨by rw [HF.out];rfl,rfl⟩
  ·have HF:=Ha (show cA 2 c=true by simp [cA,c125,k6]);go_enter Tryz.func214,Tryz.ntmps214;go_wp2_with (go_at_call 115;refine (cL c hc _).mono ?_;rintro e w' ⟨rfl,rfl⟩);go_ret;exact ⟨by rw [HF.out];rfl,rfl⟩
theorem dP (p:Nat) (hp:p≤2) (c:Nat) (hc:c<256) (w:World):Calls Tryz.prog 214 #[.int .i64 p,.int .u8 (c:Int)] w fun e w'=>e=.returned (.bool (cA p c))∧w=w':=by
 have h:p=0∨p=1∨p=2:=by omega
 rcases h with rfl | rfl | rfl
 ·exact xW c hc w
 ·exact xX c hc w
 ·exact xY c hc w
def jT (p:Nat) (c:Nat) (nx:Option Nat):Bool:=
 if (c:Int)==0 then false
 else if !cA p c then false
 else if (c:Int)==36&&(match nx with | some d=>!bH d | none=>false) then false
 else !((c:Int)==92&&(match nx with | some d=>bF d||(d:Int)==10 | none=>true))
def DC (p:Nat) (c:Nat) (b1 b2:Bool):Bool:=
 if (Chr.cls c:Int)==0 then false
 else if (c:Int)==36&&b1 then false
 else if p=0 then ((Chr.cls c:Int)==3||(Chr.cls c:Int)==4||(Chr.cls c:Int)==8||(Chr.cls c:Int)==7)
 else if p=2 then !((c:Int)==125||(Chr.cls c:Int)==6)
 else if (c:Int)==34||(c:Int)==96 then false
 else !((c:Int)==92&&b2)
def DD (p:Nat) (c:Nat) (b1 b2:Bool):Bool:=
 if (c:Int)==0 then false
 else if !cA p c then false
 else if (c:Int)==36&&b1 then false
 else !((c:Int)==92&&b2)
theorem DS:∀ c:Fin 256,∀ p:Fin 3,∀ b1 b2:Bool,DD p.val c.val b1 b2=DC p.val c.val b1 b2:=by decide +kernel
theorem tW (p:Nat) (hp:p≤2) (c:Nat) (hc:c<256) (nx:Option Nat):bO p c nx=jT p c nx:=by
 have:=DS ⟨c,hc⟩ ⟨p,by omega⟩;cases nx with
 | none=>exact (this false true).symm
 | some d=>exact (this (!bH d) (bF d||(d:Int)==10)).symm
theorem vJ (p:Nat) (hp2:p≤2) (s:ByteArray) (w:World) (hm:s.size≤1099511627776):Calls Tryz.prog 180 #[.int .i64 p,.string s] w fun e w'=>e=.returned (.bool (bE p s.toList))∧w=w':=by
 go_enter Tryz.func180,Tryz.ntmps180;go_wp2
 go_loop [10,5] (fun i _=>∃ k:Nat,k≤s.size∧i=.int .i64 k∧bC p (s.toList.drop k)=bC p s.toList) (fun i _=>s.size-(intOf i).toNat)
 case atStart=>exact ⟨0,by omega,rfl,rfl⟩
 case round=>
  obtain ⟨k,hk,rfl,hl⟩:=hrel;have HL:=Ha hl;clear hl;by_cases hlt:k<s.size
  ·by_cases hn:k+1<s.size
   ·have hlz:((k:Int)==(s.size:Int)-1)=false:=by rw [gJ];omega
    have hnl:(k:Int)+1<(s.size:Int):=by omega
    have hst:=dL p s.toList k s[k] _ (bA s k hlt);rw [iY s (k+1) hn,Option.map_some,tW p hp2 _ (aH s k hlt)] at hst;have HST:=Ha hst;clear hst;cases c0:((s[k].toNat:Int)==0)
    ·cases hh:cA p s[k].toNat
     ·have HR:=Ha (show bE p s.toList=false by unfold bE;rw [← HL.out,HST.out];simp [jT,c0,hh]);go_wp2_with (first | (go_at_call 214;refine (dP p hp2 s[k].toNat (aH s k hlt) _).mono ?_;rintro e w' ⟨rfl,rfl⟩) | (go_at_call 215;refine (dQ s[k+1].toNat (aH s (k+1) hn) _).mono ?_;rintro e w' ⟨rfl,rfl⟩) | (go_at_call 181;refine (cE s[k+1].toNat (aH s (k+1) hn) _).mono ?_;rintro e w' ⟨rfl,rfl⟩));go_ret;exact ⟨by rw [HR.out];rfl,rfl⟩
     ·cases c36:((s[k].toNat:Int)==36)
      ·cases c92:((s[k].toNat:Int)==92)
       ·have HR:=Ha (show bC p (s.toList.drop (k+1))=bC p s.toList by rw [← HL.out,HST.out];simp [jT,c0,hh,c36,c92]);go_wp2_with (first | (go_at_call 214;refine (dP p hp2 s[k].toNat (aH s k hlt) _).mono ?_;rintro e w' ⟨rfl,rfl⟩) | (go_at_call 215;refine (dQ s[k+1].toNat (aH s (k+1) hn) _).mono ?_;rintro e w' ⟨rfl,rfl⟩) | (go_at_call 181;refine (cE s[k+1].toNat (aH s (k+1) hn) _).mono ?_;rintro e w' ⟨rfl,rfl⟩))
        go_round
        case rel=>exact ⟨k+1,by omega,by go_num,HR.out⟩
        case measure=>simp only [intOf];omega
       ·cases e1:bF (s[k+1].toNat:Int)
        ·cases e2:((s[k+1].toNat:Int)==10)
         ·have HR:=Ha (show bC p (s.toList.drop (k+1))=bC p s.toList by rw [← HL.out,HST.out];simp [jT,c0,hh,c36,c92,e1,e2]);go_wp2_with (first | (go_at_call 214;refine (dP p hp2 s[k].toNat (aH s k hlt) _).mono ?_;rintro e w' ⟨rfl,rfl⟩) | (go_at_call 215;refine (dQ s[k+1].toNat (aH s (k+1) hn) _).mono ?_;rintro e w' ⟨rfl,rfl⟩) | (go_at_call 181;refine (cE s[k+1].toNat (aH s (k+1) hn) _).mono ?_;rintro e w' ⟨rfl,rfl⟩))
          go_round
          case rel=>exact ⟨k+1,by omega,by go_num,HR.out⟩
          case measure=>simp only [intOf];omega
         ·have HR:=Ha (show bE p s.toList=false by unfold bE;rw [← HL.out,HST.out];simp [jT,c0,hh,c36,c92,e1,e2]);go_wp2_with (first | (go_at_call 214;refine (dP p hp2 s[k].toNat (aH s k hlt) _).mono ?_;rintro e w' ⟨rfl,rfl⟩) | (go_at_call 215;refine (dQ s[k+1].toNat (aH s (k+1) hn) _).mono ?_;rintro e w' ⟨rfl,rfl⟩) | (go_at_call 181;refine (cE s[k+1].toNat (aH s (k+1) hn) _).mono ?_;rintro e w' ⟨rfl,rfl⟩));go_ret;exact ⟨by rw [HR.out];rfl,rfl⟩
        ·have HR:=Ha (show bE p s.toList=false by unfold bE;rw [← HL.out,HST.out];simp [jT,c0,hh,c36,c92,e1]);go_wp2_with (first | (go_at_call 214;refine (dP p hp2 s[k].toNat (aH s k hlt) _).mono ?_;rintro e w' ⟨rfl,rfl⟩) | (go_at_call 215;refine (dQ s[k+1].toNat (aH s (k+1) hn) _).mono ?_;rintro e w' ⟨rfl,rfl⟩) | (go_at_call 181;refine (cE s[k+1].toNat (aH s (k+1) hn) _).mono ?_;rintro e w' ⟨rfl,rfl⟩));go_ret;exact ⟨by rw [HR.out];rfl,rfl⟩
      ·cases hd:bH s[k+1].toNat
       ·have HR:=Ha (show bE p s.toList=false by unfold bE;rw [← HL.out,HST.out];simp [jT,c0,hh,c36,hd]);go_wp2_with (first | (go_at_call 214;refine (dP p hp2 s[k].toNat (aH s k hlt) _).mono ?_;rintro e w' ⟨rfl,rfl⟩) | (go_at_call 215;refine (dQ s[k+1].toNat (aH s (k+1) hn) _).mono ?_;rintro e w' ⟨rfl,rfl⟩) | (go_at_call 181;refine (cE s[k+1].toNat (aH s (k+1) hn) _).mono ?_;rintro e w' ⟨rfl,rfl⟩));go_ret;exact ⟨by rw [HR.out];rfl,rfl⟩
       ·have c92:((s[k].toNat:Int)==92)=false:=by rw [beq_iff_eq] at c36;rw [c36];rfl
        have HR:=Ha (show bC p (s.toList.drop (k+1))=bC p s.toList by rw [← HL.out,HST.out];simp [jT,c0,hh,c36,hd,c92]);go_wp2_with (first | (go_at_call 214;refine (dP p hp2 s[k].toNat (aH s k hlt) _).mono ?_;rintro e w' ⟨rfl,rfl⟩) | (go_at_call 215;refine (dQ s[k+1].toNat (aH s (k+1) hn) _).mono ?_;rintro e w' ⟨rfl,rfl⟩) | (go_at_call 181;refine (cE s[k+1].toNat (aH s (k+1) hn) _).mono ?_;rintro e w' ⟨rfl,rfl⟩))
        go_round
        case rel=>exact ⟨k+1,by omega,by go_num,HR.out⟩
        case measure=>simp only [intOf];omega
    ·have HR:=Ha (show bE p s.toList=false by unfold bE;rw [← HL.out,HST.out];simp [jT,c0]);go_wp2_with (first | (go_at_call 214;refine (dP p hp2 s[k].toNat (aH s k hlt) _).mono ?_;rintro e w' ⟨rfl,rfl⟩) | (go_at_call 215;refine (dQ s[k+1].toNat (aH s (k+1) hn) _).mono ?_;rintro e w' ⟨rfl,rfl⟩) | (go_at_call 181;refine (cE s[k+1].toNat (aH s (k+1) hn) _).mono ?_;rintro e w' ⟨rfl,rfl⟩));go_ret;exact ⟨by rw [HR.out];rfl,rfl⟩
   ·have hlz:((k:Int)==(s.size:Int)-1)=true:=by rw [beq_iff_eq];omega
    have hst:=dL p s.toList k s[k] _ (bA s k hlt);rw [bJ s (k+1) hn,List.head?_nil,Option.map_none,tW p hp2 _ (aH s k hlt)] at hst;have HST:=Ha hst;clear hst;cases c0:((s[k].toNat:Int)==0)
    ·cases hh:cA p s[k].toNat
     ·have HR:=Ha (show bE p s.toList=false by unfold bE;rw [← HL.out,HST.out];simp [jT,c0,hh]);go_wp2_with (first | (go_at_call 214;refine (dP p hp2 s[k].toNat (aH s k hlt) _).mono ?_;rintro e w' ⟨rfl,rfl⟩) | (go_at_call 215;refine (dQ s[k+1].toNat (aH s (k+1) hn) _).mono ?_;rintro e w' ⟨rfl,rfl⟩) | (go_at_call 181;refine (cE s[k+1].toNat (aH s (k+1) hn) _).mono ?_;rintro e w' ⟨rfl,rfl⟩));go_ret;exact ⟨by rw [HR.out];rfl,rfl⟩
     ·cases c36:((s[k].toNat:Int)==36)
      ·cases c92:((s[k].toNat:Int)==92)
       ·have HR:=Ha (show bC p (s.toList.drop (k+1))=bC p s.toList by rw [← HL.out,HST.out];simp [jT,bJ s (k+1) hn,c0,hh,c36,c92]);go_wp2_with (first | (go_at_call 214;refine (dP p hp2 s[k].toNat (aH s k hlt) _).mono ?_;rintro e w' ⟨rfl,rfl⟩) | (go_at_call 215;refine (dQ s[k+1].toNat (aH s (k+1) hn) _).mono ?_;rintro e w' ⟨rfl,rfl⟩) | (go_at_call 181;refine (cE s[k+1].toNat (aH s (k+1) hn) _).mono ?_;rintro e w' ⟨rfl,rfl⟩))
        go_round
        case rel=>exact ⟨k+1,by omega,by go_num,HR.out⟩
        case measure=>simp only [intOf];omega
       ·have HR:=Ha (show bE p s.toList=false by unfold bE;rw [← HL.out,HST.out];simp [jT,c0,hh,c36,c92]);go_wp2_with (first | (go_at_call 214;refine (dP p hp2 s[k].toNat (aH s k hlt) _).mono ?_;rintro e w' ⟨rfl,rfl⟩) | (go_at_call 215;refine (dQ s[k+1].toNat (aH s (k+1) hn) _).mono ?_;rintro e w' ⟨rfl,rfl⟩) | (go_at_call 181;refine (cE s[k+1].toNat (aH s (k+1) hn) _).mono ?_;rintro e w' ⟨rfl,rfl⟩));go_ret;exact ⟨by rw [HR.out];rfl,rfl⟩
      ·have c92:((s[k].toNat:Int)==92)=false:=by rw [beq_iff_eq] at c36;rw [c36];rfl
       have HR:=Ha (show bC p (s.toList.drop (k+1))=bC p s.toList by rw [← HL.out,HST.out];simp [jT,bJ s (k+1) hn,c0,hh,c36,c92]);go_wp2_with (first | (go_at_call 214;refine (dP p hp2 s[k].toNat (aH s k hlt) _).mono ?_;rintro e w' ⟨rfl,rfl⟩) | (go_at_call 215;refine (dQ s[k+1].toNat (aH s (k+1) hn) _).mono ?_;rintro e w' ⟨rfl,rfl⟩) | (go_at_call 181;refine (cE s[k+1].toNat (aH s (k+1) hn) _).mono ?_;rintro e w' ⟨rfl,rfl⟩))
       go_round
       case rel=>exact ⟨k+1,by omega,by go_num,HR.out⟩
       case measure=>simp only [intOf];omega
    ·have HR:=Ha (show bE p s.toList=false by unfold bE;rw [← HL.out,HST.out];simp [jT,c0]);go_wp2_with (first | (go_at_call 214;refine (dP p hp2 s[k].toNat (aH s k hlt) _).mono ?_;rintro e w' ⟨rfl,rfl⟩) | (go_at_call 215;refine (dQ s[k+1].toNat (aH s (k+1) hn) _).mono ?_;rintro e w' ⟨rfl,rfl⟩) | (go_at_call 181;refine (cE s[k+1].toNat (aH s (k+1) hn) _).mono ?_;rintro e w' ⟨rfl,rfl⟩));go_ret;exact ⟨by rw [HR.out];rfl,rfl⟩
  ·have hg:bC p s.toList=true:=by rw [← HL.out,bJ s k hlt];rfl
   have HR:=Ha (show bE p s.toList = !s.toList.isEmpty by unfold bE;rw [hg];rfl);clear hg;go_wp2;go_ret;exact ⟨by rw [HR.out];rfl,rfl⟩
end Go.Proofs.YtjpopekmbmcggaaGreatDoor
