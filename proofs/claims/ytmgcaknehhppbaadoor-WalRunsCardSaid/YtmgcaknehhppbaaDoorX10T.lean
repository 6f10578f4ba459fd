import Derived.Test.YtmgcaknehhppbaaDoorX100
import Derived.Test.YtmgcaknehhppbaaDoorX101
import Derived.Test.YtmgcaknehhppbaaDoorX102
namespace Go.Ev
open Go.Fw Go.Proofs
def rows : List (List (Option EFn)) := [[none, none, none, some e3, some e4, some e5, some e6, some e7, some e8, some e9, some e10, some e11, some e12, some e13, some e14, some e15],
  [some e16, some e17, some e18, some e19, some e20, some e21, some e22, some e23, some e24, some e25, some e26, some e27, some e28, some e29, some e30, some e31],
  [some e32, some e33, some e34, some e35, some e36, some e37, some e38, some e39, some e40, some e41, some e42, some e43, some e44, some e45, some e46, some e47],
  [some e48, some e49, some e50, some e51, some e52, some e53, some e54, some e55, some e56, some e57, some e58, none, some e60, some e61, some e62, some e63],
  [some e64, some e65, some e66, some e67, some e68, some e69, some e70, some e71, some e72, some e73, some e74, none, some e76, some e77, some e78, some e79],
  [some e80, some e81, some e82, some e83, some e84, some e85, some e86, none, some e88, some e89, some e90, some e91, some e92, none, none, none]]
theorem rows_ok : rowsG Tryd.prog 0 rows := ⟨⟨g3, g4, g5, g6, g7, g8, g9, g10, g11, g12, g13, g14, g15, trivial⟩, ⟨g16, g17, g18, g19, g20, g21, g22, g23, g24, g25, g26, g27, g28, g29, g30, g31, trivial⟩, ⟨g32, g33, g34, g35, g36, g37, g38, g39, g40, g41, g42, g43, g44, g45, g46, g47, trivial⟩, ⟨g48, g49, g50, g51, g52, g53, g54, g55, g56, g57, g58, g60, g61, g62, g63, trivial⟩, ⟨g64, g65, g66, g67, g68, g69, g70, g71, g72, g73, g74, g76, g77, g78, g79, trivial⟩, ⟨g80, g81, g82, g83, g84, g85, g86, g88, g89, g90, g91, g92, trivial⟩, trivial⟩
theorem mixed : Tryd.prog.follows .mixedOrders = true := by kernel_rfl
abbrev start : Nat := 3
end Go.Ev
