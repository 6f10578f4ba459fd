import Derived.Test.YtbbddikmjkbglaaGreatDoorXST
set_option linter.unusedVariables false
set_option maxRecDepth 100000
namespace Go.Ev
open Go.Fw Go.Proofs
abbrev yscf : Cf := evF (tab rows) 10000 40
def yss0 : St := ⟨[], .lf, 0⟩
def ysl0 : List EC := flat e3.code
def yss1m : CM := .lf
def yss1 : St := ⟨[(1, .str [112, 117, 116, 32, 49, 32, 48, 32, 61, 97, 37, 50, 48, 98, 32, 61, 37, 50, 53]), (2, .str [99, 114, 97, 115, 104, 32, 50, 32, 49, 32, 45, 53]), (4, i6 4), (6, i6 4)], yss1m, 453⟩
def ysl1 : List EC := ysl0.drop 5
def yss2m : CM := .lf
def yss2 : St := ⟨[(1, .str [112, 117, 116, 32, 49, 32, 48, 32, 61, 97, 37, 50, 48, 98, 32, 61, 37, 50, 53]), (2, .str [99, 114, 97, 115, 104, 32, 50, 32, 49, 32, 45, 53]), (4, i6 4), (6, i6 4), (7, .str [121, 101, 115, 10, 117, 112, 32, 51, 32, 99, 111, 109, 109, 105, 116, 116, 101, 100, 32, 48, 32, 102, 105, 110, 101, 10]), (8, z), (9, z)], yss2m, 2809⟩
def ysl2 : List EC := ysl1.drop 1
def yss3m : CM := .lf
def yss3 : St := ⟨[(0, .bool true)], yss3m, 2809⟩
end Go.Ev
