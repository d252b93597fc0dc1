/- Texts in one: AbRunM. -/
import Derived.Test.YtpidmmfjcghmeaaGreatTs31
namespace Go.Proofs.YtpidmmfjcghmeaaGreat.Ab
theorem make_run : chk (callA Tryz.prog cfgM 25 (.fn 20) [.agg gC] hM0) vM hMK (mkT hML) hMN = true := by kernel_rfl
end Go.Proofs.YtpidmmfjcghmeaaGreat.Ab
