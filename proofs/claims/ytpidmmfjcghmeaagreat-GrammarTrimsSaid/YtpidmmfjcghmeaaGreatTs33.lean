/- Texts in one: AbRunB. -/
import Derived.Test.YtpidmmfjcghmeaaGreatTs31
namespace Go.Proofs.YtpidmmfjcghmeaaGreat.Ab
theorem build_run : chk (callA Tryz.prog cfg 25 (.fn 45) aB sB) vB oBK (mkT oBL) oBN = true := by kernel_rfl
theorem build2_run : chk (callA Tryz.prog cfg 25 (.fn 45) aB2 sB2) vB2 oB2K (mkT oB2L) oB2N = true := by kernel_rfl
end Go.Proofs.YtpidmmfjcghmeaaGreat.Ab
