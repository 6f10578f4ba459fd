import Derived.Test.YtbbddikmjkbglaaGreatDoorysS
set_option linter.unusedVariables false
set_option maxRecDepth 100000
namespace Go.Ev
open Go.Fw Go.Proofs
theorem ysq2 : okC yscf 10000 (nest ysl2) yss2 .r yss3 = true := by kernel_rfl
end Go.Ev
