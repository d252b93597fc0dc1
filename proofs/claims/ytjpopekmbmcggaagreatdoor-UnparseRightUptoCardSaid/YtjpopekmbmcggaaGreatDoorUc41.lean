/- Towards unparseRight_card: UpTable. Merged from smaller texts by a program of the author's. -/
import Derived.Test.YtjpopekmbmcggaaGreatDoorUc29
import Derived.Test.YtjpopekmbmcggaaGreatDoorUc35
set_option maxRecDepth 100000
set_option maxHeartbeats 16000000
namespace Go.Proofs.YtjpopekmbmcggaaGreatDoor
open Go.ChangeShapes Go.WideShapes Go.ChangeAt Go.RowKit
set_option linter.unusedVariables false
theorem C7 : Tryz.prog.globalNamed "conch/oper.texts" = some 2 := by kernel_rfl
theorem DW:(Tryz.prog.globals[2]?).map (·.type)=some 193:=by kernel_rfl
theorem DQ:Tryz.prog.cellsOf 193=18:=by kernel_rfl
abbrev o8:List (String×DataW Unit):=Rows.unparseShowsUptoRow.laid
theorem jP {W:World} (h:laidMetH Tryz.prog o8 W):cW W∧cC W:=by
 rw [MakeChecks.laidMetH_plain _ _ _ (by kernel_rfl)] at h;obtain ⟨ps,hv,_⟩:=h;obtain ⟨g0,t0,cs0,f0,p0,q0,hg0,ht0,hv0,hd0,hrest,_⟩:=hv;obtain ⟨g1,t1,cs1,f1,p1,q1,hg1,ht1,hv1,hd1,_,_⟩:=hrest;obtain rfl:=Option.some.inj (C7.symm.trans hg0);obtain rfl:=Option.some.inj (DW.symm.trans ht0);obtain rfl:=Option.some.inj (C6.symm.trans hg1);obtain rfl:=Option.some.inj (DV.symm.trans ht1);have e0:(Rows.laid_conch_oper_texts:DataW Unit)=.agg (Ope.texts.map fun z=>.lit (.string z)):=rfl;have e1:(Rows.laid_conch_posix_reserved:DataW Unit)=.agg (kB.map fun z=>.lit (.string z)):=rfl;rw [e0] at hd0;rw [e1] at hd1;have hcs0:=jB Tryz.underlying193 Tryz.underlying9 C4 DQ hd0;have hcs1:=jB Tryz.underlying158 Tryz.underlying9 C4 DP hd1;have hc0:cs0=fP:=by
  apply Array.ext';rw [hcs0];simp [fP]
 have hc1:cs1=dI:=by
  apply Array.ext';rw [hcs1];simp [dI]
 unfold World.var? at hv0 hv1; change (Tryz.prog.globalNamed "conch/oper.texts").bind _ = _ at hv0; change (Tryz.prog.globalNamed "conch/posix.reserved").bind _ = _ at hv1; rw [C7] at hv0; rw [C6] at hv1; simp only [Option.bind_some] at hv0 hv1; refine ⟨?_, ?_⟩
 ·unfold cW
  split at hv0
  ·rename_i cs t fr hh;obtain rfl:=Option.some.inj hv0;rw [← hc0];exact ⟨t,fr,hh⟩
  ·cases hv0
 ·unfold cC
  split at hv1
  ·rename_i cs t fr hh;obtain rfl:=Option.some.inj hv1;rw [← hc1];exact ⟨t,fr,hh⟩
  ·cases hv1
theorem qV {W:World} (h:laidMetH Tryz.prog o8 W):cC W:=(jP h).2
noncomputable def laidWorld2 (os:Os):World:=
 { laidWorld os with heap:=(laidWorld os).heap.modify 2 fun
   | .cells _ t frozen=>.cells fP t frozen
   | o=>o }
theorem vF (os:Os) (args:Array Value):laidMetH Tryz.prog o8 ((laidWorld2 os).forCall (fun _ _=>0) ⟨#[],args,[]⟩).memory:=by
 rw [MakeChecks.laidMetH_plain _ _ _ (by kernel_rfl)];exact laidMet_of_run' 8 (by kernel_rfl) (by kernel_rfl)
section
variable {H:Type} {enc:TypeId×Value→H} {w:World} {base:Nat} {spare:Nat→Bool} {held:Bool}
end
end Go.Proofs.YtjpopekmbmcggaaGreatDoor
