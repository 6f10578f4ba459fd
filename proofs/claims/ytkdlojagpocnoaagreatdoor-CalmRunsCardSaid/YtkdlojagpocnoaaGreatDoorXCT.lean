import Derived.Test.YtkdlojagpocnoaaGreatDoorXC0
import Derived.Test.YtkdlojagpocnoaaGreatDoorXC1
import Derived.Test.YtkdlojagpocnoaaGreatDoorXC2
import Derived.Test.YtkdlojagpocnoaaGreatDoorXC3
import Derived.Test.YtkdlojagpocnoaaGreatDoorXC4
import Derived.Test.YtkdlojagpocnoaaGreatDoorXC5
import Derived.Test.YtkdlojagpocnoaaGreatDoorXC6
namespace Go.Ev
open Go.Fw Go.Proofs
def rows : List (List (Option EFn)) := [[none, none, none, none, none, some e5, none, none, none, some e9, some e10, some e11, none, some e13, some e14, none],
  [none, none, some e18, some e19, some e20, some e21, some e22, some e23, some e24, none, none, none, none, none, some e30, some e31],
  [some e32, some e33, some e34, some e35, some e36, some e37, some e38, some e39, some e40, some e41, some e42, some e43, some e44, some e45, some e46, none],
  [some e48, none, none, none, none, some e53, some e54, some e55, some e56, some e57, some e58, some e59, some e60, some e61, some e62, some e63],
  [some e64, some e65, some e66, some e67, some e68, none, none, some e71, none, none, none, none, none, none, some e78, none],
  [none, none, none, none, none, none, none, none, some e88, none, none, some e91, some e92, some e93, some e94, none],
  [some e96, some e97, some e98, some e99, some e100, some e101, some e102, some e103, some e104, some e105, some e106, some e107, some e108, some e109, some e110, some e111],
  [some e112, some e113, none, none, some e116, some e117, some e118, some e119, some e120, some e121, some e122, some e123, some e124, some e125, some e126, some e127],
  [some e128, some e129, some e130, some e131, some e132, some e133, some e134, some e135, some e136, some e137, none, some e139, some e140, some e141, some e142, some e143],
  [some e144, some e145, some e146, some e147, some e148, some e149, none, none, none, none, none, none, some e156, none, none, none],
  [none, none, some e162, none, some e164, some e165, some e166, some e167, none, none, none, some e171, some e172, none, some e174, some e175],
  [some e176, some e177, none, some e179, some e180, some e181, some e182, some e183, some e184, some e185, some e186, some e187, some e188, some e189, none, some e191],
  [some e192, none, none, none, some e196, some e197, none, some e199, some e200, some e201, some e202, some e203, some e204, some e205, some e206, some e207],
  [some e208, some e209, some e210, some e211, some e212, some e213, some e214, some e215, some e216, some e217, some e218, some e219, some e220, some e221, some e222, some e223],
  [some e224, none, none, none, none, some e229, none, some e231, none, none, none, none, some e236, none, some e238, none],
  [some e240, some e241, some e242, some e243, some e244, some e245, some e246, none, some e248, some e249, some e250, some e251, some e252, some e253, some e254, none],
  [none, none, some e258, some e259, some e260, some e261, none, none, some e264, some e265, none, none, some e268, some e269, some e270, some e271],
  [some e272, some e273, some e274, none, some e276, some e277, some e278, some e279, some e280, none, none, some e283, some e284, some e285, none, none],
  [none, none, some e290, none, some e292, none, none, none, some e296, some e297, some e298, some e299, none, none, some e302, some e303],
  [some e304, none, some e306, some e307, none, none, none, some e311, some e312, some e313, some e314, some e315, some e316, none, none, none],
  [none, none, some e322, some e323, some e324, none, none, none, some e328, none, none, none, none, none, none, none],
  [none, none, none, none, none, none, some e342, none, some e344, none, some e346, some e347, some e348, none, none, some e351],
  [none, none, none, none, none, none, none, none, none, none, none, none, none, none, none, none],
  [none, none, none, some e371, some e372, some e373, none, none, none, none, none, none, none, none, none, none],
  [none, some e385, some e386, some e387, none, none, none, none, none, none, none, none, none, none, none, none]]
theorem rows_ok : rowsG Tryz.prog 0 rows := ⟨⟨g5, g9, g10, g11, g13, g14, trivial⟩, ⟨g18, g19, g20, g21, g22, g23, g24, g30, g31, trivial⟩, ⟨g32, g33, g34, g35, g36, g37, g38, g39, g40, g41, g42, g43, g44, g45, g46, trivial⟩, ⟨g48, g53, g54, g55, g56, g57, g58, g59, g60, g61, g62, g63, trivial⟩, ⟨g64, g65, g66, g67, g68, g71, g78, trivial⟩, ⟨g88, g91, g92, g93, g94, trivial⟩, ⟨g96, g97, g98, g99, g100, g101, g102, g103, g104, g105, g106, g107, g108, g109, g110, g111, trivial⟩, ⟨g112, g113, g116, g117, g118, g119, g120, g121, g122, g123, g124, g125, g126, g127, trivial⟩, ⟨g128, g129, g130, g131, g132, g133, g134, g135, g136, g137, g139, g140, g141, g142, g143, trivial⟩, ⟨g144, g145, g146, g147, g148, g149, g156, trivial⟩, ⟨g162, g164, g165, g166, g167, g171, g172, g174, g175, trivial⟩, ⟨g176, g177, g179, g180, g181, g182, g183, g184, g185, g186, g187, g188, g189, g191, trivial⟩, ⟨g192, g196, g197, g199, g200, g201, g202, g203, g204, g205, g206, g207, trivial⟩, ⟨g208, g209, g210, g211, g212, g213, g214, g215, g216, g217, g218, g219, g220, g221, g222, g223, trivial⟩, ⟨g224, g229, g231, g236, g238, trivial⟩, ⟨g240, g241, g242, g243, g244, g245, g246, g248, g249, g250, g251, g252, g253, g254, trivial⟩, ⟨g258, g259, g260, g261, g264, g265, g268, g269, g270, g271, trivial⟩, ⟨g272, g273, g274, g276, g277, g278, g279, g280, g283, g284, g285, trivial⟩, ⟨g290, g292, g296, g297, g298, g299, g302, g303, trivial⟩, ⟨g304, g306, g307, g311, g312, g313, g314, g315, g316, trivial⟩, ⟨g322, g323, g324, g328, trivial⟩, ⟨g342, g344, g346, g347, g348, g351, trivial⟩, trivial, ⟨g371, g372, g373, trivial⟩, ⟨g385, g386, g387, trivial⟩, trivial⟩
theorem mixed : Tryz.prog.follows .mixedOrders = true := by kernel_rfl
abbrev start : Nat := 5
end Go.Ev
