import Derived.Test.YtpjecpkkcabnjaaGreatDoorXS0
import Derived.Test.YtpjecpkkcabnjaaGreatDoorXS1
import Derived.Test.YtpjecpkkcabnjaaGreatDoorXS2
import Derived.Test.YtpjecpkkcabnjaaGreatDoorXS3
set_option linter.unusedVariables false
set_option linter.unusedSimpArgs false
namespace Go.Ev
open Go.Fw Go.Proofs
def rows : List (List (Option EFn)) := [[none, none, none, none, none, none, some e6, none, some e8, none, none, none, some e12, some e13, some e14, some e15],
  [some e16, some e17, some e18, some e19, some e20, none, some e22, some e23, none, some e25, some e26, some e27, some e28, some e29, some e30, some e31],
  [some e32, some e33, some e34, some e35, some e36, some e37, none, some e39, some e40, some e41, some e42, some e43, some e44, none, none, some e47],
  [some e48, some e49, some e50, some e51, some e52, some e53, none, none, none, none, some e58, some e59, none, none, some e62, some e63],
  [some e64, some e65, some e66, none, none, some e69, some e70, some e71, some e72, some e73, some e74, none, none, none, some e78, none],
  [some e80, none, none, none, some e84, some e85, some e86, some e87, some e88, some e89, none, some e91, some e92, some e93, some e94, some e95],
  [some e96, some e97, none, none, none, none, none, none, none, some e105, none, some e107, some e108, none, none, none],
  [none, none, some e114, some e115, some e116, some e117, some e118, some e119, none, none, none, none, none, none, none, none],
  [none, none, none, none, some e132, none, none, some e135, some e136, none, some e138, none, some e140, none, none, none],
  [some e144, some e145, some e146, some e147, none, none, none, some e151, some e152, some e153, some e154, some e155, some e156, some e157, none, none],
  [some e160, none, none, none, none, none, none, none, some e168, none, none, none, some e172, none, none, none],
  [some e176, none, none, none, none, some e181, some e182, none, none, none, none, some e187, none, none, none, none],
  [none, none, none, some e195, none, some e197, none, none, none, none, some e202, some e203, none, some e205, none, none],
  [some e208, none, none, some e211, none, none, none, none, none, some e217, some e218, some e219, some e220, none, some e222, none],
  [some e224, some e225, none, none, none, none, some e230, none, some e232, none, none, none, none, none, none, none],
  [none, none, none, none, none, none, none, none, none, none, none, none, none, some e253, none, none],
  [none, none, none, none, none, none, none, some e263, some e264, some e265, none, none, none, none, some e270, none],
  [none, none, none, none, none, none, none, none, some e280, some e281, some e282, some e283, some e284, some e285, some e286, none],
  [none, none, none, none, none, none, none, none, none, none, none, none, none, none, none, none],
  [some e304, some e305, none, none, none, some e309, some e310, none, none, none, none, none, none, some e317, none, none],
  [some e320, some e321, some e322, none, none, none, none, none, none, none, none, none, none, none, none, none],
  [none, some e337, none, none, none, none, none, none, none, none, none, none, none, none, none, none]]
theorem rows_ok : rowsG Tryz.prog 0 rows := ⟨⟨g6, g8, g12, g13, g14, g15, trivial⟩, ⟨g16, g17, g18, g19, g20, g22, g23, g25, g26, g27, g28, g29, g30, g31, trivial⟩, ⟨g32, g33, g34, g35, g36, g37, g39, g40, g41, g42, g43, g44, g47, trivial⟩, ⟨g48, g49, g50, g51, g52, g53, g58, g59, g62, g63, trivial⟩, ⟨g64, g65, g66, g69, g70, g71, g72, g73, g74, g78, trivial⟩, ⟨g80, g84, g85, g86, g87, g88, g89, g91, g92, g93, g94, g95, trivial⟩, ⟨g96, g97, g105, g107, g108, trivial⟩, ⟨g114, g115, g116, g117, g118, g119, trivial⟩, ⟨g132, g135, g136, g138, g140, trivial⟩, ⟨g144, g145, g146, g147, g151, g152, g153, g154, g155, g156, g157, trivial⟩, ⟨g160, g168, g172, trivial⟩, ⟨g176, g181, g182, g187, trivial⟩, ⟨g195, g197, g202, g203, g205, trivial⟩, ⟨g208, g211, g217, g218, g219, g220, g222, trivial⟩, ⟨g224, g225, g230, g232, trivial⟩, ⟨g253, trivial⟩, ⟨g263, g264, g265, g270, trivial⟩, ⟨g280, g281, g282, g283, g284, g285, g286, trivial⟩, trivial, ⟨g304, g305, g309, g310, g317, trivial⟩, ⟨g320, g321, g322, trivial⟩, ⟨g337, trivial⟩, trivial⟩
theorem mixed : Tryz.prog.follows .mixedOrders = true := by kernel_rfl
abbrev start : Nat := 12
end Go.Ev
