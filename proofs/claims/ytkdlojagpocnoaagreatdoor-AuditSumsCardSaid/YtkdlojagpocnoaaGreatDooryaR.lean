import Derived.Test.YtkdlojagpocnoaaGreatDooryaP0
import Derived.Test.YtkdlojagpocnoaaGreatDooryaP1
import Derived.Test.YtkdlojagpocnoaaGreatDooryaP2
import Derived.Test.YtkdlojagpocnoaaGreatDooryaP3
import Derived.Test.YtkdlojagpocnoaaGreatDooryaP4
import Derived.Test.YtkdlojagpocnoaaGreatDooryaP5
import Derived.Test.YtkdlojagpocnoaaGreatDoorFxA
/-! ya: a run, piece by piece. -/
set_option linter.unusedVariables false
set_option maxRecDepth 100000
namespace Go.Ev
open Go.Fw Go.Proofs
theorem ya_pc : Pc Tryz.prog e6.code yas0 .r yas7 := by
  have hcf : CfOk Tryz.prog yacf := evF_ok (tab_ok rows_ok) mixed 10000 40
  generalize hP : Tryz.prog = P at hcf ⊢
  exact Pc.flat (PcL.take 5 (Pc.of hcf yaq0) (show PcL P yal1 yas1 .r yas7 from (PcL.take 2 (Pc.of hcf yaq1) (show PcL P yal2 yas2 .r yas7 from (PcL.loop (x0 := (.e 0)) hcf (show yal2 = .block (idOf yal2) (.loop (ksOf yal2) (bodyOf yal2)) :: yal3 by kernel_rfl) (show okT yas2 (ksOf yal2) yas3 = true by kernel_rfl) (PL.more 2 yaq2 (PL.more 2 yaq3 (PL.last 3 yaq4))) rfl (PcL.all (Pc.of hcf yaq5)))))))
theorem ya_ctr : Ctr Tryz.prog 6 [] .lf 0 (.bool true) .lf 8848 := Ctr.of (tab_ok rows_ok) mixed (show tab rows 6 = some e6 by kernel_rfl) (by kernel_rfl) ya_pc (by kernel_rfl)
theorem ya_Runs (m : Mem) : MC Tryz.prog 6 [] m fun v m' => v = .bool true ∧ Fr m m' [] := (ya_ctr.run m).mono fun _ _ h => ⟨h.1, fun b hb _ => h.2 b hb⟩
end Go.Ev
