/- Towards unparseRight_card: WordShow, PartCount, CmdsRow. Merged from smaller texts by a program of the author's. -/
import Derived.Test.YtjpopekmbmcggaaGreatDoorUc08
import Derived.Deep.DeepCutAuto
set_option maxRecDepth 100000
set_option maxHeartbeats 16000000
namespace Go.Proofs.YtjpopekmbmcggaaGreatDoor
open Go.RowKit
theorem AR:Hd 149 0:=⟨by kernel_rfl,by decide⟩
theorem vL (b : Nat) (W : World) : (method 307 147 (.pointer (some ⟨b, 0, none⟩)) "conch/wordfmt.put").run Tryz.prog W = .ok (272, .pointer (some ⟨b, 0, none⟩)) W := by rfl
theorem rW (args:Array Value) (W:World):(callFunc 272 args).run Tryz.prog W=.ok (.enter 272 args) W:=by rfl
theorem IsB.keep2 {T:TypeId} {B b:Nat} {l:List UInt8} {w w':World} (h:IsB T B b [] l w) (hk:∀ k,k<w.heap.size→(k=b∨fB w k)→w'.heap[k]? = w.heap[k]?):IsB T B b [] l w':=by
 have hone:∀ p,Bld T B b [] p l w→Bld T B b [] p l w':=by
  rintro p ⟨hB,v,hh,hown,hn⟩;have hlt:=(Array.getElem?_eq_some_iff.1 hh).1;refine ⟨hB,v,(hk b hlt (.inl rfl)).trans hh,⟨hown.1, ?_⟩,hn⟩;rcases hown.2 with h | ⟨g,cap,cur,hv,hb,hg,h⟩
  ·exact .inl h
  ·exact .inr ⟨g,cap,cur,hv,hb,(hk g (Array.getElem?_eq_some_iff.1 hg).1 (.inr ⟨cur,_,hg⟩)).trans hg,h⟩
 rcases h with h | h
 ·exact .inl (hone _ h)
 ·exact .inr (hone _ h)
theorem zQ (B b:Nat):Snk B b 147 272 (fun l w=>IsB 149 B b [] l w) where
 meth:=vL b
 enter:=rW
 lt _ _ h:=h.lt
 keep _ _ _ h _ hk:=h.keep2 hk
 put l s w h hlen hB:=by
  go_enter Tryz.func272,Tryz.ntmps272;go_wp2_with fail;refine (cV AR l s w h (by omega) hB).mono ?_;rintro e w1 ⟨rfl,h1,kp1⟩;go_wp2_with fail
  go_end0
  exact ⟨rfl,.inr h1,kp1⟩
theorem C8 (B:Nat) (X:Nat→Prop) (w:World) (G:Nat→Prop) (hG:∀ k,G k→k<B) (hB:B≤w.heap.size):Gd B X w G:=fun k hk=>⟨gK (hG k hk) hB,.inl (hG k hk)⟩
theorem DL (w:World) (o1 o2 o3:Obj):(((w.alloc o1).alloc o2).alloc o3).heap[w.heap.size+1]? = some o2∧(((w.alloc o1).alloc o2).alloc o3).heap[w.heap.size+1+1]? = some o3∧(((w.alloc o1).alloc o2).alloc o3).heap.size=w.heap.size+3∧
  Below w.heap.size w (((w.alloc o1).alloc o2).alloc o3):=by
 have e1:=eT w o1;have e2:=eT (w.alloc o1) o2;have e3:=eT ((w.alloc o1).alloc o2) o3;have h2:=heap_alloc (w.alloc o1) o2;have h3:=heap_alloc ((w.alloc o1).alloc o2) o3;have hb:=(Below.refl ((w.alloc o1).alloc o2).heap.size ((w.alloc o1).alloc o2)).alloc (Nat.le_refl _) o3;rw [e2,e1] at h3;rw [e1] at h2;refine ⟨?_,h3,by omega, ?_⟩
 ·rw [← h2];exact hb.block _ (by omega)
 ·exact (((Below.refl w.heap.size w).alloc (Nat.le_refl _) o1).alloc (by omega) o2).alloc (by omega) o3
theorem vT {G:Nat→Prop} {ti:TypeId} {Sk:List UInt8→World→Prop} {w w3:World} {C:Option Addr} {cc:Nat} {cs:List (List UInt8)} (hG:∀ k,G k→k<w.heap.size) (hs:cZ G w C cs) (hc:cs.length≤cc)
  (hb:Below w.heap.size w w3) (hbp:w3.heap[w.heap.size+1+1]? = some (.cells #[.iface ti (.pointer (some ⟨w.heap.size+1,0,none⟩)),.slice C cs.length cc] 154 (0,0)))
  (hk:Sk [] w3):Prn G w.heap.size (w.heap.size+1) (w.heap.size+1+1) ti Sk [] cs w3:=
 ⟨hk,⟨by omega,by omega,C,cc,hbp,hc,hs.keep fun p hp=>World.cell?_of_block (hb.block _ (hG _ hp))⟩,C8 _ _ _ _ hG hb.size,hb.size⟩
theorem zM (G:Nat→Prop) (l:Pts) (A:Option Addr) (c:Nat) (C:Option Addr) (cc:Nat) (cs:List (List UInt8)) (w:World)
  (hG:∀ k,G k→k<w.heap.size) (hp:aY G w A 0 l) (hs:cZ G w C cs) (hc:cs.length≤cc) (hlen:6*l.wt+Pts.total cs+64≤70368744177664):
  Calls Tryz.prog 134 #[.agg #[.slice A l.len c],.slice C cs.length cc] w fun e w'=>e=.returned (bs (l.shw cs).1)∧Below w.heap.size w w':=by
 go_enter Tryz.func134,Tryz.ntmps134;go_wp2_with fail;obtain ⟨hb2,hb3,hsz,hbw⟩:=DL w (.cells #[.slice A l.len c] 31) (.cells #[.pointer none,.slice none 0 0] 149) (.cells #[.iface 147 (.pointer (some ⟨w.heap.size+1,0,none⟩)),.slice C cs.length cc] 154);have hprn:=vT (Sk:=fun l w'=>IsB 149 w.heap.size (w.heap.size+1) [] l w') hG hs hc hbw hb3 (.inl ⟨by omega,.slice none 0 0,hb2,⟨rfl,.inl ⟨rfl,rfl⟩⟩,by simp⟩);have hp3:=hp.keep fun p hp=>World.cell?_of_block (hbw.block _ (hG _ hp));refine (tI (zQ _ _) (l.deep+1) l A c [] cs _ (by omega) hprn hp3 (by simp;omega)).mono ?_;rintro e w4 ⟨rfl,h4,kp4⟩;have hlt:=IsB.lt h4.sk;have hb4:=hbw.trans (kp4.below (by omega));have H4:=Ha h4;have HB:=Ha hb4;clear h4 hb4 hbw hb2 hb3 hprn hp3;go_wp2_with fail;refine (dH _ w4 H4.out.sk).mono ?_;rintro e w5 ⟨rfl,kp5⟩;have hb5:=HB.out.trans (kp5.below (by have:=H4.out.le;omega));have H5:=Ha hb5;clear hb5;unfold bs;go_wp2_with fail;go_ret;exact ⟨by simp [bs],H5.out⟩
namespace Pts
def count:Pts→Nat
 | nil=>0
 | cons _ _ _ kids _ rest=>1+kids.count+rest.count
theorem count_wt:∀ l:Pts,l.count≤l.wt
 | nil=>Nat.le_refl _
 | cons _ _ _ kids _ rest=>by have:=count_wt kids;have:=count_wt rest;rw [count,wt];omega
end Pts
end Go.Proofs.YtjpopekmbmcggaaGreatDoor
namespace Go.Proofs.YtjpopekmbmcggaaGreatDoor
open Go.RowKit
namespace Pts
def cmds:Pts→List Cm
 | nil=>[]
 | cons k _ _ kids cm rest=>(if k=6 then [cm] else [])++kids.cmds++rest.cmds
theorem cmds_count:∀ l:Pts,l.cmds.length≤l.count
 | nil=>Nat.le_refl _
 | cons k _ _ kids cm rest=>by
  have h1:=cmds_count kids;have h2:=cmds_count rest;rw [cmds,count,gI,gI]
  split <;> simp <;> omega
end Pts
def dG (B:Nat) (w:World) (v:Value) (l:List Cm):Prop:=w.ownsRow B 26 1 v l.length (l.map Cm.val)
theorem nT:(Tryz.prog.info? 26).map (fun i=>(i.zero,i.size,i.bytes))=some (some (.slice none 0 0),1,24):=by kernel_rfl
section
variable {B:Nat} {w w':World} {v:Value} {l m:List Cm}
theorem dG.nothing:dG B w (.slice none 0 0) []:=⟨rfl,.inl ⟨rfl,rfl⟩⟩
theorem dG.shape (h:dG B w v l):∃ A c,v=.slice A l.length c∧l.length≤c∧c≤maxLen:=vR h
theorem dG.lt (h:dG B w v l) {g:Nat} (hg:v.ownBlock=some g):B≤g∧g<w.heap.size:=by
 rcases h.2 with ⟨rfl,_⟩ | ⟨g',cap,cur,rfl,hb,hh,_⟩
 ·simp [Value.ownBlock] at hg
 ·simp [Value.ownBlock] at hg;subst hg;exact ⟨hb,(Array.getElem?_eq_some_iff.1 hh).1⟩
theorem dG.keep (h:dG B w v l) (hv:∀ g,v.ownBlock=some g→w'.heap[g]? = w.heap[g]?):dG B w' v l:=by
 refine ⟨h.1, ?_⟩;rcases h.2 with h0 | ⟨g,cap,cur,rfl,hB,hh,hrest⟩
 ·exact .inl h0
 ·exact .inr ⟨g,cap,cur,rfl,hB,(hv g rfl).trans hh,hrest⟩
theorem dG.below (h:dG B w v l) (hb:Below w.heap.size w w'):dG B w' v l:=h.keep fun _ hg=>hb.block _ (h.lt hg).2
theorem dG.cells {a:Addr} {c:Nat} (h:dG B w (.slice (some a) l.length c) l) (j:Nat) (u:Value) (hj:(l.map Cm.val)[j]? = some u):w.cell? (a.add j)=some u:=by
 rcases h.2 with ⟨h0,_⟩ | ⟨g,cap,cur,hv,hB,hh,_⟩
 ·cases h0
 ·have ha:a=⟨g,0,none⟩:=by injection hv with h1;injection h1
  subst ha;exact World.ownsRow.cells h (g:=g) rfl j u hj
theorem dG.append (h:dG B w v l) (m:List Cm) (ad:Addr) (c:Nat) (hx:∀ j u,(m.map Cm.val)[j]? = some u→w.cell? (ad.add j)=some u) (hlen:l.length+m.length≤1099511627776) (hB:B≤w.heap.size):
  ∃ v' w',WrA Tryz.prog #[56,56] 56 #[v,.slice (some ad) m.length c] w=.ok v' w'∧dG B w' v' (l++m)∧w.grownBy w' v.ownBlock∧(v'.ownBlock=v.ownBlock∨v'.ownBlock=some w.heap.size):=by
 obtain ⟨i0,hi,hz0,hz1,hz2⟩:=info_parts nT;obtain ⟨v',w',hrun,hown,hg,_,hat⟩:=run_append_own_at (P:=Tryz.prog) (w:=w) B 56 56 26 i0 (.slice none 0 0) 1 24 Tryz.underlying56 hi hz0 hz1 hz2 rfl (by decide) v l.length (l.map Cm.val) h ad m.length c (m.map Cm.val) (by simp) hx
  (by intro u hu;obtain ⟨x,_,rfl⟩:=List.mem_map.1 hu;rfl) (by unfold maxLen;omega) (by omega) hB
 refine ⟨v',w',WrA.of hrun, ?_,hg,hat⟩;unfold dG;rw [gI,List.map_append];exact hown
theorem dG.append_nil (h:dG B w v l) (c:Nat):WrA Tryz.prog #[56,56] 56 #[v,.slice none 0 c] w=.ok v w:=by
 obtain ⟨i0,hi,hz0,hz1,hz2⟩:=info_parts nT;obtain ⟨A1,c1,rfl,hl1,hm1⟩:=h.shape;exact WrA.of (run_append_nothing w _ _ _ _ i0 Tryz.underlying56 hi A1 l.length c1 hl1 _ (Src.ofNil w Tryz.underlying56 c))
end
end Go.Proofs.YtjpopekmbmcggaaGreatDoor
