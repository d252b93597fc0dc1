/- Towards clashesWhole_upto. -/
import Derived.Test.YtpidmmfjcghmeaaGreatCs13
set_option maxRecDepth 100000
set_option maxHeartbeats 16000000
set_option linter.all false
namespace Go.Proofs.YtpidmmfjcghmeaaGreat
open Go.RowKit
abbrev Itm:=Int×Int
namespace Gm
def rightAt (g:Gm) (k:Nat):List Int:=if h:k<g.rules.length then g.rules[k].2 else if k=g.rules.length then [g.start] else []
def leftAt (g:Gm) (k:Nat):Int:=if h:k<g.rules.length then g.rules[k].1 else 0
theorem rightAt_lt (g:Gm) {k:Nat} (h:k<g.rules.length):g.rightAt k=g.rules[k].2:=dif_pos h
theorem rightAt_own (g:Gm):g.rightAt g.rules.length=[g.start]:=by unfold rightAt;rw [dif_neg (Nat.lt_irrefl _),if_pos rfl]
theorem leftAt_lt (g:Gm) {k:Nat} (h:k<g.rules.length):g.leftAt k=g.rules[k].1:=dif_pos h
def nxt (g:Gm) (x:Itm):Int:=(g.rightAt x.1.toNat).getD x.2.toNat 0
def Ok (g:Gm) (x:Itm):Prop:=0≤x.1∧x.1≤(g.rules.length:Int)∧0≤x.2∧x.2≤((g.rightAt x.1.toNat).length:Int)
end Gm
def ItV (vs:List Value) (x:Itm):Prop:=vs=[.int .i64 x.1,.int .i64 x.2]
def aR (G:Nat→Prop) (w:World) (v:Value) (l:List Itm):Prop:=aH G w 2 ItV v l
theorem ItV.one:∀ vs x,ItV vs x→∀ u∈vs,u.oneCell'=true:=by
 rintro vs x rfl u hu;simp at hu;rcases hu with rfl | rfl <;> rfl
theorem aR.below {G:Nat→Prop} {w w':World} {v:Value} {l:List Itm} (hG:∀ k,G k→k<w.heap.size) (hb:Below w.heap.size w w') (h:aR G w v l):aR G w' v l:=aH.keep h (fun _ h=>h) (cI hG hb) fun _ _ h=>h
theorem aR.at_ {G:Nat→Prop} {w:World} {A:Option Addr} {n c:Nat} {l:List Itm} (h:aR G w (.slice A n c) l) {k:Nat} (hk:k<l.length):
  ∃ bb off,A=some ⟨bb,off,none⟩∧G bb∧w.cell? ⟨bb,off+k*2,none⟩=some (.int .i64 l[k].1)∧w.cell? ⟨bb,off+k*2+1,none⟩=some (.int .i64 l[k].2):=by
 obtain ⟨A',c',e,_,_,h4⟩:=h
 injection e with e1 _ _
 subst e1;obtain ⟨bb,off,rfl,hg,h5⟩:=h4 (by omega);obtain ⟨vs,h6,h7,h8⟩:=h5 k hk;unfold ItV at h7;subst h7;exact ⟨bb,off,rfl,hg,by simpa using h8 0 _ rfl,h8 1 _ rfl⟩
def Its (B:Nat) (w:World) (v:Value) (l:List Itm):Prop:=aG B 250 2 ItV w v l
theorem jC:(Tryz.prog.info? 250).map (fun i=>(i.zero,i.size,i.bytes))=some (some (.agg #[.int .i64 0,.int .i64 0]),2,16):=by kernel_rfl
section
variable {B:Nat} {w w':World} {v v2:Value} {xs ys:List Itm}
theorem Its.add {G:Nat→Prop} (h:Its B w v xs) (hx:aR G w v2 ys) (hl:xs.length+ys.length≤1099511627776) (hB:B≤w.heap.size):∃ v' w',WrA Tryz.prog #[97,97] 97 #[v,v2] w=.ok v' w'∧Its B w' v' (xs++ys)∧Below B w w':=
 aG.add 97 Tryz.underlying97 jC rfl (by decide) ItV.one _ h hx (by omega) (by unfold maxLen;omega) hB
theorem Its.push (x:Itm) (h:Its B w v xs) (hl:xs.length+1≤1099511627776) (hB:B≤w.heap.size):∃ v' w',WrA Tryz.prog #[97,97] 97 #[v,.slice (some ⟨w.heap.size,0,none⟩) 1 1] (w.alloc (.cells #[.int .i64 x.1,.int .i64 x.2] 250))=.ok v' w'∧Its B w' v' (xs++[x])∧Below B w w':=
 aG.push 97 Tryz.underlying97 jC rfl (by decide) ItV.one _ (us:=[.int .i64 x.1,.int .i64 x.2]) rfl rfl h (by omega) (by unfold maxLen;omega) hB
theorem Its.shape (h:Its B w v xs):∃ A c,v=.slice A xs.length c:=by
 obtain ⟨A,c,e,_⟩:=aG.shape h;exact ⟨A,c,e⟩
theorem Its.at_ (h:Its B w v xs):aR (Old w) w v xs:=aG.look h fun _ hg=>(aG.lt h hg).2
theorem Its.below (h:Its B w v xs) (hb:Below w.heap.size w w'):Its B w' v xs:=aG.below h hb
end
end Go.Proofs.YtpidmmfjcghmeaaGreat
