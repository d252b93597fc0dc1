/- Texts in one: AbRunP. -/
import Derived.Test.YtpidmmfjcghmeaaGreatTs31
namespace Go.Proofs.YtpidmmfjcghmeaaGreat.Ab
theorem parse_run : chk (callA Tryz.prog cfg 25 (.fn 19) [text] h00) vP hPK (mkT hPL) hPN = true := by kernel_rfl
end Go.Proofs.YtpidmmfjcghmeaaGreat.Ab
