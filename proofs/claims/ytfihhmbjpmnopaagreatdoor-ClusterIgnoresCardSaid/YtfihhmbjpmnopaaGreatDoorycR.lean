import Derived.Test.YtfihhmbjpmnopaaGreatDoorycP0
import Derived.Test.YtfihhmbjpmnopaaGreatDoorycP1
import Derived.Test.YtfihhmbjpmnopaaGreatDoorycP2
import Derived.Test.YtfihhmbjpmnopaaGreatDoorycP3
import Derived.Test.YtfihhmbjpmnopaaGreatDoorycP4
import Derived.Test.YtfihhmbjpmnopaaGreatDoorFxA
set_option linter.unusedVariables false
set_option linter.unusedSimpArgs false
/-! yc: a run, piece by piece. -/
set_option maxRecDepth 100000
namespace Go.Ev
open Go.Fw Go.Proofs
theorem yc_pc : Pc Tryz.prog e14.code ycs0 .r ycs6 := by
  have hcf : CfOk Tryz.prog yccf := evF_ok (tab_ok rows_ok) mixed 10000 40
  generalize hP : Tryz.prog = P at hcf ⊢
  exact Pc.flat (PcL.take 7 (Pc.of hcf ycq0) (show PcL P ycl1 ycs1 .r ycs6 from (PcL.loop (x0 := (.e 0)) hcf (show ycl1 = .block (idOf ycl1) (.loop (ksOf ycl1) (bodyOf ycl1)) :: ycl2 by kernel_rfl) (show okT ycs1 (ksOf ycl1) ycs2 = true by kernel_rfl) (PL.more 2 ycq1 (PL.more 2 ycq2 (PL.last 3 ycq3))) rfl (PcL.all (Pc.of hcf ycq4)))))
theorem yc_ctr : Ctr Tryz.prog 14 [] .lf 0 (.bool true) .lf 7208 := Ctr.of (tab_ok rows_ok) mixed (show tab rows 14 = some e14 by kernel_rfl) (by kernel_rfl) yc_pc (by kernel_rfl)
theorem yc_Runs (m : Mem) : MC Tryz.prog 14 [] m fun v m' => v = .bool true ∧ Fr m m' [] := (yc_ctr.run m (fun B hB => (hB rfl).elim)).mono fun _ _ h => ⟨h.1, fun b hb _ => h.2 b hb⟩
end Go.Ev
