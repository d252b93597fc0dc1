/- Towards clashesWhole_upto. -/
import Derived.Test.YtpidmmfjcghmeaaGreatCz36
import Derived.Test.YtpidmmfjcghmeaaGreatCz37
set_option maxRecDepth 100000
set_option maxHeartbeats 16000000
set_option linter.all false
namespace Go.Proofs.YtpidmmfjcghmeaaGreat
namespace Gm
def base (ks:List (List Itm)) (j:Nat):Nat:=dY (fun i=>(ks.getD i []).length) j
theorem base_succ (ks:List (List Itm)) {j:Nat} (h:j<ks.length):base ks (j+1)=base ks j+ks[j].length:=by
 show base ks j+(ks.getD j []).length=_;rw [List.getD_eq_getElem?_getD,List.getElem?_eq_getElem h];rfl
theorem base_mono (ks:List (List Itm)):∀ {i j:Nat},i≤j→base ks i≤base ks j
 | i,0,h=>by rw [Nat.le_zero.1 h];exact gO _
 | i,j+1,h=>by
  rcases Nat.lt_or_ge i (j+1) with h1 | h1
  ·exact gP (base_mono ks (show i≤j by omega)) (Nat.le_add_right _ _)
  ·rw [show i=j+1 by omega];exact gO _
theorem place_lt {ks:List (List Itm)} {j p:Nat} (h:j<ks.length) (hp:p<ks[j].length):base ks j+p<base ks ks.length:=by
 have h1:=base_succ ks h;have h2:=base_mono ks (show j+1≤ks.length from h);omega
theorem base_le {ks:List (List Itm)} {m:Nat} (h:∀ k∈ks,k.length≤m):∀ j,base ks j≤j*m
 | 0=>by show 0≤_;omega
 | j+1=>by
  have h1:=base_le h j;show base ks j+(ks.getD j []).length≤_;rw [Nat.add_mul];have:(ks.getD j []).length≤m:=by
   rw [List.getD_eq_getElem?_getD];by_cases hj:j<ks.length
   ·rw [List.getElem?_eq_getElem hj];exact h _ (gN hj)
   ·rw [List.getElem?_eq_none (by omega)];exact gX _
  omega
theorem to_ok {g:Gm} (hk:g.Known) {ks:List (List Itm)} (ha:Aut g ks) {i:Nat} (hi:i<ks.length) {x:Itm} (hc:g.Clo (· ∈ ks[i]) x) (hd:x.2.toNat<(g.rightAt x.1.toNat).length):
  1≤g.nxt x∧g.nxt x≤g.top∧g.succK ks[i] (g.nxt x)≠[]∧∃ h:ks.idxOf (g.succK ks[i] (g.nxt x))<ks.length,(x.1,x.2+1)∈ks[ks.idxOf (g.succK ks[i] (g.nxt x))]:=by
 have hs:g.nxt x=(g.rightAt x.1.toNat)[x.2.toNat]:=by
  unfold nxt;rw [List.getD_eq_getElem?_getD,List.getElem?_eq_getElem hd];rfl
 have h1:1≤g.nxt x∧g.nxt x≤g.top:=by
  have:=right_sym hk x.1.toNat _ (gN hd);rw [← hs] at this;unfold T N top at *;omega
 have h2:(x.1,x.2+1)∈g.succK ks[i] (g.nxt x):=((fB (ha.kok _ (gN hi)).ok _).2 _).2 ⟨h1.1,x,hc,rfl,rfl⟩;have h3:g.succK ks[i] (g.nxt x)≠[]:=fun e=>by rw [e] at h2;cases h2
 obtain ⟨h4,h5⟩:=ha.idx (gN hi) (by omega) h1.2 h3;exact ⟨h1.1,h1.2,h3,h4,by rw [h5];exact h2⟩
end Gm
theorem AA {g:Gm} (hk:g.Known) {l:List Itm} {z:Itm} (hz:z∈l) (hN:g.N (g.nxt z)) {s:Int} (hl:g.Lc (g.nxt z) s) {k:Nat} (h:k<g.rules.length) (hs:g.rules[k].1=s):g.Clo (· ∈ l) ((k:Int),0):=
 (Gm.clo_iff hk).2 (.inr ⟨z,hz,hN,k,h,rfl,by rw [hs];exact hl⟩)
end Go.Proofs.YtpidmmfjcghmeaaGreat
