import Derived.Test.YtkdlojagpocnoaaGreatDoorEvB
/-! Calls that are known, several of one function. -/
namespace Go.Ev
open Go.Fw
variable {P : Program} {cf : Cf}
def memo2 (f0 : Nat) (l0 : List CV) (S0 : St) (v : CV) (cm' : CM) (nx' : Nat) (cf : Cf) : Cf := fun f l cm nx => cond (Nat.beq f f0) (cond (Nat.beq nx S0.nx) (cond (ceqL l l0) (cond (subM S0.cm cm) (some (v, cm', nx')) none) none) (cf f l cm nx)) (cf f l cm nx)
theorem memo2_ok (hcf : CfOk P cf) {f0 : Nat} {l0 : List CV} {S0 : St} {v : CV} {cm' : CM} {nx' : Nat} (hc : Ctr P f0 l0 S0.cm S0.nx v cm' nx') : CfOk P (memo2 f0 l0 S0 v cm' nx' cf) := by
  intro f l cm nx v2 cm2 nx2 h
  cases hn : Nat.beq nx S0.nx with
  | true =>
    refine memo_ok hcf hc f l cm nx v2 cm2 nx2 ?_
    unfold memo2 at h
    unfold memo
    rw [hn] at h ⊢
    exact h
  | false =>
    refine hcf f l cm nx v2 cm2 nx2 ?_
    unfold memo2 at h
    rw [hn] at h
    cases hf : Nat.beq f f0 with
    | true => rw [hf] at h; exact h
    | false => rw [hf] at h; exact h
end Go.Ev
