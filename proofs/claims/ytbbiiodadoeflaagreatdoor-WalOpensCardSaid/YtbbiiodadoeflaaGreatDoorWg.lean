import Derived.Test.YtbbiiodadoeflaaGreatDoorWf
set_option linter.unusedVariables false
set_option linter.unusedSimpArgs false
namespace Go.Fw
open Go.Proofs
variable {m m0 M : Mem} {S : List Nat} {L : List As}
variable {rb wb : Nat} {fv : Value} {rs : List Row} {D : Dk}
/-! the power comes again -/
def ic (n : Int) : List Value := [.int .i64 n]
end Go.Fw
