import Derived.Test.YtpjecpkkcabnjaaGreatDoorXST
set_option linter.unusedVariables false
set_option linter.unusedSimpArgs false
set_option maxRecDepth 100000
namespace Go.Ev
open Go.Fw Go.Proofs
abbrev yscf : Cf := evF (tab rows) 10000 40
def yss0 : St := ⟨[], .lf, 0⟩
def ysl0 : List EC := flat e12.code
def yss1m : CM := .lf
def yss1 : St := ⟨[(1, .str [112, 117, 116, 32, 49, 32, 48, 32, 61, 97, 37, 50, 48, 98, 32, 61, 37, 50, 53]), (2, .str [99, 114, 97, 115, 104, 32, 50, 32, 49, 32, 45, 53]), (4, i6 4), (6, i6 4)], yss1m, 453⟩
def ysl1 : List EC := ysl0.drop 5
def yss2m : CM := .lf
def yss2 : St := ⟨[(0, .bool true)], yss2m, 2809⟩
end Go.Ev
