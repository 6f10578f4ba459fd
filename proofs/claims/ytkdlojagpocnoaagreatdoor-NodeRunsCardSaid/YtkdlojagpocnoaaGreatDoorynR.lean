import Derived.Test.YtkdlojagpocnoaaGreatDoorynP0
import Derived.Test.YtkdlojagpocnoaaGreatDoorynP1
import Derived.Test.YtkdlojagpocnoaaGreatDoorynP2
import Derived.Test.YtkdlojagpocnoaaGreatDoorynP3
import Derived.Test.YtkdlojagpocnoaaGreatDoorynP4
import Derived.Test.YtkdlojagpocnoaaGreatDoorynP5
import Derived.Test.YtkdlojagpocnoaaGreatDoorynP6
import Derived.Test.YtkdlojagpocnoaaGreatDoorynP7
import Derived.Test.YtkdlojagpocnoaaGreatDoorFxA
/-! yn: a run, piece by piece. -/
set_option linter.unusedVariables false
set_option maxRecDepth 100000
namespace Go.Ev
open Go.Fw Go.Proofs
theorem yn_pc : Pc Tryz.prog e3.code yns0 .r yns9 := by
  have hcf : CfOk Tryz.prog yncf := evF_ok (tab_ok rows_ok) mixed 10000 40
  generalize hP : Tryz.prog = P at hcf ⊢
  exact Pc.flat (PcL.take 5 (Pc.of hcf ynq0) (show PcL P ynl1 yns1 .r yns9 from (PcL.take 4 (Pc.of hcf ynq1) (show PcL P ynl2 yns2 .r yns9 from (PcL.loop (x0 := (.e 2)) hcf (show ynl2 = .block (idOf ynl2) (.loop (ksOf ynl2) (bodyOf ynl2)) :: ynl3 by kernel_rfl) (show okT yns2 (ksOf ynl2) yns3 = true by kernel_rfl) (PL.more 1 ynq2 (PL.more 1 ynq3 (PL.last 9 ynq4))) rfl (PcL.take 1 (Pc.of hcf ynq5) (show PcL P ynl4 yns7 .r yns9 from (PcL.take 1 (Pc.of hcf ynq6) (show PcL P ynl5 yns8 .r yns9 from (PcL.all (Pc.of hcf ynq7)))))))))))
theorem yn_ctr : Ctr Tryz.prog 3 [] .lf 0 (.bool true) .lf 8695 := Ctr.of (tab_ok rows_ok) mixed (show tab rows 3 = some e3 by kernel_rfl) (by kernel_rfl) yn_pc (by kernel_rfl)
theorem yn_Runs (m : Mem) : MC Tryz.prog 3 [] m fun v m' => v = .bool true ∧ Fr m m' [] := (yn_ctr.run m).mono fun _ _ h => ⟨h.1, fun b hb _ => h.2 b hb⟩
end Go.Ev
