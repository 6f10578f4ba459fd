import Derived.Test.YtpjecpkkcabnjaaGreatDoorysS
set_option linter.unusedVariables false
set_option linter.unusedSimpArgs false
set_option maxRecDepth 100000
namespace Go.Ev
open Go.Fw Go.Proofs
theorem ysq0 : okC yscf 10000 (nest (ysl0.take 5)) yss0 .n yss1 = true := by kernel_rfl
end Go.Ev
