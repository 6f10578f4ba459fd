import Derived.Test.YtkdlojagpocnoaaGreatDoorycP0
import Derived.Test.YtkdlojagpocnoaaGreatDoorycP1
import Derived.Test.YtkdlojagpocnoaaGreatDoorycP2
import Derived.Test.YtkdlojagpocnoaaGreatDoorycP3
import Derived.Test.YtkdlojagpocnoaaGreatDoorycP4
import Derived.Test.YtkdlojagpocnoaaGreatDoorycP5
import Derived.Test.YtkdlojagpocnoaaGreatDoorycP6
import Derived.Test.YtkdlojagpocnoaaGreatDoorFxA
/-! yc: a run, piece by piece. -/
set_option linter.unusedVariables false
set_option maxRecDepth 100000
namespace Go.Ev
open Go.Fw Go.Proofs
theorem yc_pc : Pc Tryz.prog e4.code ycs0 .r ycs8 := by
  have hcf : CfOk Tryz.prog yccf := evF_ok (tab_ok rows_ok) mixed 10000 40
  generalize hP : Tryz.prog = P at hcf ⊢
  exact Pc.flat (PcL.take 5 (Pc.of hcf ycq0) (show PcL P ycl1 ycs1 .r ycs8 from (PcL.take 2 (Pc.of hcf ycq1) (show PcL P ycl2 ycs2 .r ycs8 from (PcL.loop (x0 := (.e 0)) hcf (show ycl2 = .block (idOf ycl2) (.loop (ksOf ycl2) (bodyOf ycl2)) :: ycl3 by kernel_rfl) (show okT ycs2 (ksOf ycl2) ycs3 = true by kernel_rfl) (PL.more 2 ycq2 (PL.more 2 ycq3 (PL.more 1 ycq4 (PL.last 2 ycq5)))) rfl (PcL.all (Pc.of hcf ycq6)))))))
theorem yc_ctr : Ctr Tryz.prog 4 [] .lf 0 (.bool true) .lf 7208 := Ctr.of (tab_ok rows_ok) mixed (show tab rows 4 = some e4 by kernel_rfl) (by kernel_rfl) yc_pc (by kernel_rfl)
theorem yc_Runs (m : Mem) : MC Tryz.prog 4 [] m fun v m' => v = .bool true ∧ Fr m m' [] := (yc_ctr.run m).mono fun _ _ h => ⟨h.1, fun b hb _ => h.2 b hb⟩
end Go.Ev
