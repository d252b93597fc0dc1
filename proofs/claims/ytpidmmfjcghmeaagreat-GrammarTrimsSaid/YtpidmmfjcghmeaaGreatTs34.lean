/- Texts in one: AbRunL. -/
import Derived.Test.YtpidmmfjcghmeaaGreatTs31
namespace Go.Proofs.YtpidmmfjcghmeaaGreat.Ab
theorem look_run : chk (callA Tryz.prog cfgB2 25 (.fn 98) aL sL) vL oLK (mkT oLL) oLN = true := by kernel_rfl
end Go.Proofs.YtpidmmfjcghmeaaGreat.Ab
