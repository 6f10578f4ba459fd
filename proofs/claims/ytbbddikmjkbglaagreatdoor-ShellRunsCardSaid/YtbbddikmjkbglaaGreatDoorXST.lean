import Derived.Test.YtbbddikmjkbglaaGreatDoorXS0
import Derived.Test.YtbbddikmjkbglaaGreatDoorXS1
import Derived.Test.YtbbddikmjkbglaaGreatDoorXS2
import Derived.Test.YtbbddikmjkbglaaGreatDoorXS3
namespace Go.Ev
open Go.Fw Go.Proofs
def rows : List (List (Option EFn)) := [[none, none, none, some e3, some e4, some e5, some e6, some e7, some e8, some e9, some e10, some e11, some e12, some e13, some e14, some e15],
  [some e16, some e17, some e18, some e19, some e20, some e21, none, some e23, some e24, some e25, some e26, some e27, some e28, some e29, some e30, some e31],
  [some e32, some e33, some e34, some e35, some e36, none, none, none, none, some e41, some e42, none, none, some e45, some e46, some e47],
  [some e48, some e49, some e50, none, none, some e53, some e54, some e55, some e56, some e57, some e58, none, none, some e61, some e62, some e63],
  [some e64, some e65, some e66, some e67, none, some e69, some e70, some e71, some e72, some e73, some e74, some e75, none, none, none, none],
  [none, none, none, some e83, none, none, some e86, some e87, none, none, none, none, none, some e93, some e94, some e95],
  [some e96, some e97, some e98, none, none, some e101, none, some e103, none, none, none, some e107, some e108, none, none, some e111],
  [some e112, none, some e114, none, some e116, none, none, none, some e120, some e121, some e122, some e123, none, none, none, some e127],
  [some e128, some e129, some e130, some e131, some e132, some e133, none, none, some e136, none, none, none, none, none, none, none],
  [some e144, none, none, none, some e148, none, none, none, some e152, none, none, none, none, some e157, some e158, none],
  [none, none, none, some e163, none, some e165, some e166, some e167, none, none, none, none, none, none, none, none],
  [none, none, none, none, some e180, none, some e182, none, none, none, none, some e187, some e188, none, some e190, none],
  [none, some e193, none, none, some e196, none, none, none, none, none, some e202, some e203, some e204, some e205, none, some e207],
  [none, some e209, some e210, none, none, none, none, some e215, none, some e217, none, none, none, none, none, none],
  [none, none, none, none, none, none, none, none, none, none, none, none, none, none, some e238, none],
  [none, none, none, none, none, none, none, none, some e248, some e249, some e250, none, none, none, none, none],
  [none, none, none, some e259, none, none, none, none, none, none, none, none, none, some e269, some e270, some e271],
  [some e272, some e273, some e274, some e275, none, none, none, none, none, none, none, none, none, none, none, none],
  [none, none, none, none, none, some e293, some e294, none, none, none, some e298, some e299, none, none, none, none],
  [none, none, none, none, some e308, none, none, some e311, some e312, some e313, none, none, none, none, none, none],
  [none, none, none, none, none, none, none, none, some e328, none, none, none, none, none, none, none]]
theorem rows_ok : rowsG Tryz.prog 0 rows := ⟨⟨g3, g4, g5, g6, g7, g8, g9, g10, g11, g12, g13, g14, g15, trivial⟩, ⟨g16, g17, g18, g19, g20, g21, g23, g24, g25, g26, g27, g28, g29, g30, g31, trivial⟩, ⟨g32, g33, g34, g35, g36, g41, g42, g45, g46, g47, trivial⟩, ⟨g48, g49, g50, g53, g54, g55, g56, g57, g58, g61, g62, g63, trivial⟩, ⟨g64, g65, g66, g67, g69, g70, g71, g72, g73, g74, g75, trivial⟩, ⟨g83, g86, g87, g93, g94, g95, trivial⟩, ⟨g96, g97, g98, g101, g103, g107, g108, g111, trivial⟩, ⟨g112, g114, g116, g120, g121, g122, g123, g127, trivial⟩, ⟨g128, g129, g130, g131, g132, g133, g136, trivial⟩, ⟨g144, g148, g152, g157, g158, trivial⟩, ⟨g163, g165, g166, g167, trivial⟩, ⟨g180, g182, g187, g188, g190, trivial⟩, ⟨g193, g196, g202, g203, g204, g205, g207, trivial⟩, ⟨g209, g210, g215, g217, trivial⟩, ⟨g238, trivial⟩, ⟨g248, g249, g250, trivial⟩, ⟨g259, g269, g270, g271, trivial⟩, ⟨g272, g273, g274, g275, trivial⟩, ⟨g293, g294, g298, g299, trivial⟩, ⟨g308, g311, g312, g313, trivial⟩, ⟨g328, trivial⟩, trivial⟩
theorem mixed : Tryz.prog.follows .mixedOrders = true := by kernel_rfl
abbrev start : Nat := 3
end Go.Ev
