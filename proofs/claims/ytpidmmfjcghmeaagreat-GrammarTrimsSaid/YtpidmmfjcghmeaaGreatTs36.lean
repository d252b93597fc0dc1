/- Texts in one: AbRunT. -/
import Derived.Test.YtpidmmfjcghmeaaGreatTs31
namespace Go.Proofs.YtpidmmfjcghmeaaGreat.Ab
theorem tree_run : chk (callA Tryz.prog cfg 25 (.fn 21) [vTabs, .sl hMN 0 3 3] hT0) vT hTK (mkT hTL) hTN = true := by kernel_rfl
theorem show_run : chk (callA Tryz.prog cfg 25 (.fn 22) [.agg gC] rT.2) vS [] .nil hSN = true := by kernel_rfl
end Go.Proofs.YtpidmmfjcghmeaaGreat.Ab
