/- Towards unparseHeres_card. -/
import Derived.Test.YtjpopekmbmcggaaGreatDoorUh08
import Derived.Deep.DeepCutAuto
set_option maxRecDepth 100000
set_option maxHeartbeats 16000000
namespace Go.Proofs.YtjpopekmbmcggaaGreatDoor
open Go.RowKit
theorem DH {P:Program} {f:FuncId} {args:Array Value} {w:World} {a n:Nat} {v:Value}
  (h:Calls P f args (w.drewN (a+n)) fun e w'=>e=.returned v∧∃ m,w'=(w.drewN (a+n)).drewN m):
  Calls P f args (w.drewN (a+n)) fun e w''=>e=.returned v∧∃ m,w''=w.drewN (a+m):=
 h.mono fun _ _ ⟨he,m,hm⟩=>⟨he,n+m,by rw [hm,World.drewN_drewN,Nat.add_assoc]⟩
theorem yU:∀ (n:Nat) (l:Pts) (G:Nat→Prop) (A:Option Addr) (c:Nat) (w:World),l.deep<n→l.wt≤1099511627776→aY G w A 0 l→
  Calls Tryz.prog 35 #[.slice A l.len c] w fun e w'=>e=.returned (.int .i64 (l.much:Nat))∧∃ m,w'=w.drewN m:=by
 intro n
 induction n with
 | zero=>intro l _ _ _ _ h;omega
 | succ n ih=>
  intro l G A c w hd hwt hp;have hlw:=Pts.len_wt l;have IH:=Ha ih;clear ih;go_enter Tryz.func35,Tryz.ntmps35;go_wp2_with fail
  go_loopw [3,4] (fun s i wr=>∃ (k m q:Nat),k≤l.len∧i=.int .i64 k∧s=.int .i64 m∧wr=w.drewN q∧Pts.muchLoop (l.drop k) m=l.much∧m≤1099511627776*2) (fun _ i _=>l.len-(intOf i).toNat)
  case atStart=>exact ⟨0,l.len,0,by omega,rfl,rfl,rfl,by rw [Pts.drop_zero];rfl,by omega⟩
  case round=>
   obtain ⟨k,m,q,hk,rfl,rfl,rfl,hf,hm⟩:=hrel;have HF:=Ha hf;clear hf;by_cases hlt:k<l.len
   ·obtain ⟨pk,t,o,kids,cm,r,hdr⟩:=Pts.drop_cons k l hlt;have hp':=hp.at_ k;rw [hdr,Nat.zero_add] at hp';obtain ⟨b,off,Ak,ck,rfl,hG,c0,c1,c2,c3,c4,hl,h1,h2⟩:=hp';unfold Cm.val at c4;have hwd:=Pts.wt_drop k l;rw [hdr,Pts.wt] at hwd;have hkw:=Pts.len_wt kids;have hkm:=Pts.much_le kids;have hkd:=Pts.deep_drop k l hdr;have HD:=Ha hdr;clear hdr;by_cases hm1:m≤1000
    ·go_wp2_with fail
     go_quiet ((go_at_call 35;exact DH (IH.out kids G Ak ck _ (by omega) (by omega) (h1.drewN _))))
     go_wp2_with fail
     go_roundw
     case rel=>
      refine ⟨k+1,m+t.size / 10+o.size / 10+cm.n+kids.much,_,by omega,by go_num,by go_num,rfl, ?_,by omega⟩;rw [Pts.drop_succ k l HD.out,← HF.out,HD.out,Pts.muchLoop,if_pos hm1];rfl
     case measure=>simp only [intOf];omega
    ·go_wp2_with fail;go_ret;refine ⟨bN ?_,_,rfl⟩;rw [← HF.out,HD.out,Pts.muchLoop,if_neg hm1]
   ·go_wp2_with fail;go_ret;refine ⟨bN ?_,_,rfl⟩;rw [← HF.out,Pts.drop_end k l (by omega),Pts.muchLoop]
theorem DD (l:Pts) (G:Nat→Prop) (A:Option Addr) (c:Nat) (w:World) (hwt:l.wt≤1099511627776) (hp:aY G w A 0 l):
  Calls Tryz.prog 35 #[.slice A l.len c] w fun e w'=>e=.returned (.int .i64 (l.much:Nat))∧∃ m,w'=w.drewN m:=yU (l.deep+1) l G A c w (by omega) hwt hp
theorem Below.grow {w w':World} (h:Below w.heap.size w w') (o:Obj):Below w.heap.size w (w'.alloc o):=h.alloc h.size o
end Go.Proofs.YtjpopekmbmcggaaGreatDoor
