import Derived.Test.YtfihhmbjpmnopaaGreatDooryn7S
set_option linter.unusedVariables false
set_option linter.unusedSimpArgs false
set_option maxRecDepth 100000
namespace Go.Ev
open Go.Fw Go.Proofs
theorem yn7q3 : okI yn7cf 10000 (bodyOf yn7l1) (ksOf yn7l1) 2 yn7s4 (xtN (.e 0)) yn7s5 = true := by kernel_rfl
end Go.Ev
