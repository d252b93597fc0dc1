/- Towards clashesWhole_upto. -/
import Derived.Test.YtpidmmfjcghmeaaGreatCs02
set_option maxRecDepth 100000
set_option maxHeartbeats 16000000
set_option linter.all false
namespace Go.Proofs.YtpidmmfjcghmeaaGreat
open Go.RowKit
theorem GH (g:Gm) (s:Int):decide (g.T s)=(decide (1≤s)&&decide (s≤(g.terms.length:Int))):=by
 rw [Bool.eq_iff_iff,decide_eq_true_iff,yF,decide_eq_true_iff,decide_eq_true_iff];exact Iff.rfl
theorem GG (g:Gm) (s:Int):decide (g.N s)=(decide ((g.terms.length:Int)<s)&&decide (s≤(g.top:Int))):=by
 rw [Bool.eq_iff_iff,decide_eq_true_iff,yF,decide_eq_true_iff,decide_eq_true_iff];exact Iff.rfl
theorem vU (G:Nat→Prop) (w:World) (vs:List Value) (g:Gm) (hG:∀ k,G k→k<w.heap.size) (hg:GmV G w vs g) (hl:g.top≤9223372036854775807):
  Calls Tryz.prog 38 #[ag vs] w fun e w'=>e=.returned (.int .i64 g.top)∧Below w.heap.size w w':=by
 obtain ⟨A0,c0,A1,c1,A2,c2,W,ev,hW,⟨x0,x1,x2,x3⟩,HB,HX⟩:=GBox.go hG hg;rw [ev];have HG:=Ha hG;clear hG hg ev;have e1:IntKind.i64.wrap ((g.terms.length:Int)+(g.nons.length:Int))=(g.top:Int):=by
  rw [IntWalk.i64_in _ (by unfold Gm.top at hl;omega)];unfold Gm.top;omega
 clear hl HX;go_enter Tryz.func38,Tryz.ntmps38;go_wp2_with fail;go_ret;exact ⟨rfl,HB.out⟩
theorem DS (G:Nat→Prop) (w:World) (vs:List Value) (g:Gm) (s:Int)(hG:∀ k,G k→k<w.heap.size) (hg:GmV G w vs g):
  Calls Tryz.prog 10 #[ag vs,.int .i64 s] w fun e w'=>e=.returned (.bool (decide (g.T s)))∧Below w.heap.size w w':=by
 obtain ⟨A0,c0,A1,c1,A2,c2,W,ev,hW,⟨x0,x1,x2,x3⟩,HB,HX⟩:=GBox.go hG hg;rw [ev];have HG:=Ha hG;clear hG hg ev;have HT:=Ha (GH g s);clear HX;go_enter Tryz.func10,Tryz.ntmps10;by_cases h1:1≤s
 ·by_cases h2:s≤(g.terms.length:Int)
  ·go_wp2_with fail;go_ret;exact ⟨aJ (by rw [HT.out];simp;omega),HB.out⟩
  ·go_wp2_with fail;go_ret;exact ⟨aJ (by rw [HT.out];simp;omega),HB.out⟩
 ·go_wp2_with fail;go_ret;exact ⟨aJ (by rw [HT.out];simp;omega),HB.out⟩
theorem CM (G:Nat→Prop) (w:World) (vs:List Value) (g:Gm) (s:Int)(hG:∀ k,G k→k<w.heap.size) (hg:GmV G w vs g) (hl:g.top≤9223372036854775807):
  Calls Tryz.prog 42 #[ag vs,.int .i64 s] w fun e w'=>e=.returned (.bool (decide (g.N s)))∧Below w.heap.size w w':=by
 obtain ⟨A0,c0,A1,c1,A2,c2,W,ev,hW,⟨x0,x1,x2,x3⟩,HB,HX⟩:=GBox.go hG hg;rw [ev];have HG:=Ha hG;clear hG hg ev;have HT:=Ha (GG g s);have HL:=Ha hl;clear hl;go_enter Tryz.func42,Tryz.ntmps42;by_cases h1:(g.terms.length:Int)<s
 ·go_wp2_with fail;refine (vU G _ _ g HX.out.old HX.out.gm HL.out).mono ?_;rintro e w1 ⟨rfl,hb1⟩;by_cases h2:s≤(g.top:Int)
  ·go_wp2_with fail;go_ret;exact ⟨aJ (by rw [HT.out];simp;omega),HB.out.trans (hb1.mono HB.out.size)⟩
  ·go_wp2_with fail;go_ret;exact ⟨aJ (by rw [HT.out];simp;omega),HB.out.trans (hb1.mono HB.out.size)⟩
 ·go_wp2_with fail;go_ret;exact ⟨aJ (by rw [HT.out];simp;omega),HB.out⟩
end Go.Proofs.YtpidmmfjcghmeaaGreat
