import Derived.Test.YtpjecpkkcabnjaaGreatDoorysS
set_option linter.unusedVariables false
set_option linter.unusedSimpArgs false
set_option maxRecDepth 100000
namespace Go.Ev
open Go.Fw Go.Proofs
theorem ysq1 : okC yscf 10000 (nest ysl1) yss1 .r yss2 = true := by kernel_rfl
end Go.Ev
