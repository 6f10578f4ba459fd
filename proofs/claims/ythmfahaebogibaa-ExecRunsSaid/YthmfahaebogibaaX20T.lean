import Derived.Test.YthmfahaebogibaaX200
import Derived.Test.YthmfahaebogibaaX201
namespace Go.Ev
open Go.Fw Go.Proofs
def rows : List (List (Option EFn)) := [[none, none, none, some e3, none, none, none, none, none, some e9, some e10, some e11, some e12, some e13, none, none],
  [none, none, none, none, none, some e21, none, some e23, some e24, none, none, none, none, none, none, some e31],
  [some e32, some e33, some e34, some e35, some e36, some e37, some e38, some e39, none, none, none, some e43, some e44, some e45, some e46, some e47],
  [some e48, some e49, some e50, some e51, none, some e53, some e54, some e55, some e56, some e57, some e58, some e59, some e60, some e61, some e62, some e63],
  [some e64, some e65, some e66, some e67, some e68, some e69, some e70, some e71, some e72, some e73, some e74, some e75, some e76, some e77, some e78, none]]
theorem rows_ok : rowsG Try.prog 0 rows := ⟨⟨g3, g9, g10, g11, g12, g13, trivial⟩, ⟨g21, g23, g24, g31, trivial⟩, ⟨g32, g33, g34, g35, g36, g37, g38, g39, g43, g44, g45, g46, g47, trivial⟩, ⟨g48, g49, g50, g51, g53, g54, g55, g56, g57, g58, g59, g60, g61, g62, g63, trivial⟩, ⟨g64, g65, g66, g67, g68, g69, g70, g71, g72, g73, g74, g75, g76, g77, g78, trivial⟩, trivial⟩
theorem mixed : Try.prog.follows .mixedOrders = true := by kernel_rfl
abbrev start : Nat := 3
end Go.Ev
