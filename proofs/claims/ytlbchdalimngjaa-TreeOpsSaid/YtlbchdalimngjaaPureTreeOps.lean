/- The pure law of TreeOps: a closed sum, run by the kernel. -/
import Derived.Test.YtlbchdalimngjaaPx28
import Derived.KernelRfl
namespace Go.Proofs.Ytlbchdalimngjaa.Pure
open Go.RowKit Go.Proofs.Ytlbchdalimngjaa.P Go.Proofs.YtlbchdalimngjaaW.PrintWords Go.Proofs.YtlbchdalimngjaaW.PrintLast
theorem TreeOps : prompterlaw08_TreeOps.Pure := ⟨600, by kernel_rfl⟩
end Go.Proofs.Ytlbchdalimngjaa.Pure
