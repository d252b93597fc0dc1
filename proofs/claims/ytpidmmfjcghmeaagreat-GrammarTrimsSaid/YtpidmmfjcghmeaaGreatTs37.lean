/- Texts in one: AbLive. -/
import Derived.Test.YtpidmmfjcghmeaaGreatTs32
import Derived.Test.YtpidmmfjcghmeaaGreatTs33
import Derived.Test.YtpidmmfjcghmeaaGreatTs34
import Derived.Test.YtpidmmfjcghmeaaGreatTs35
import Derived.Test.YtpidmmfjcghmeaaGreatTs36
namespace Go.Proofs.YtpidmmfjcghmeaaGreat.Ab
open Go.RowKit
variable {W : World}
noncomputable def isTrue (r : Option (AV × H)) : Bool := match r with | some (.b true, _) => true | _ => false
theorem lives_run : isTrue (callA Tryz.prog cfgF 25 (.fn 5) [] h00) = true := by kernel_rfl
theorem cfgB2_ok : CfgOK Tryz.prog W cfgB2 := addHook_ok cfg_ok (lit_ok cfg_ok build2_run)
theorem cfgM_ok : CfgOK Tryz.prog W cfgM := addHook_ok (addHook_ok cfg_ok (lit_ok cfg_ok build_run)) (lit_ok cfgB2_ok look_run)
theorem cfgF_ok : CfgOK Tryz.prog W cfgF :=
  addHook_ok (addHook_ok (addHook_ok (addHook_ok cfg_ok (lit_ok cfg_ok parse_run)) (lit_ok cfgM_ok make_run)) (lit_ok cfg_ok tree_run)) (lit_ok cfg_ok show_run)
theorem start_ok (w : World) : HR w (fun _ => none) h00 w :=
  ⟨(fun i o hi => by
    have : (T.nil : T AO).get i = some o := hi
    rw [T.get_nil] at this; cases this), (fun i j b k k' h1 h2 h3 => by cases h3), (fun _ _ => rfl), (fun i hi => by cases hi), (fun i hi => by cases hi), (fun i hi => by cases hi), List.nodup_nil, Below.refl _ w⟩
/-- **conchtop.lives is true.** -/
theorem lives_all (w : World) : Calls Tryz.prog 5 #[] w fun e w' => e = .returned (.bool true) ∧ Below w.heap.size w w' := by
  have h := lives_run
  unfold isTrue at h
  split at h
  · rename_i hh hx
    obtain ⟨_, h2⟩ := (call_ok (W := w) cfgF_ok 25).fn _ _ _ _ hx (fun _ => none) w [] (start_ok w) .nil
    refine h2.mono ?_
    rintro e w' ⟨v, rfl, σ', _, h4, h5⟩
    exact ⟨by rw [bool_ok h4], h5.bel⟩
  · cases h
end Go.Proofs.YtpidmmfjcghmeaaGreat.Ab
