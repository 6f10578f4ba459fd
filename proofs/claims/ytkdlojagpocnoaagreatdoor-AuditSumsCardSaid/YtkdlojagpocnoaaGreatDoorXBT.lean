import Derived.Test.YtkdlojagpocnoaaGreatDoorXB0
import Derived.Test.YtkdlojagpocnoaaGreatDoorXB1
import Derived.Test.YtkdlojagpocnoaaGreatDoorXB2
import Derived.Test.YtkdlojagpocnoaaGreatDoorXB3
import Derived.Test.YtkdlojagpocnoaaGreatDoorXB4
import Derived.Test.YtkdlojagpocnoaaGreatDoorXB5
namespace Go.Ev
open Go.Fw Go.Proofs
def rows : List (List (Option EFn)) := [[none, none, none, none, none, none, some e6, none, none, some e9, some e10, some e11, none, some e13, some e14, some e15],
  [some e16, some e17, some e18, some e19, none, none, none, none, none, some e25, some e26, none, none, none, some e30, some e31],
  [some e32, some e33, none, some e35, some e36, some e37, some e38, some e39, some e40, some e41, some e42, some e43, some e44, some e45, none, none],
  [some e48, none, some e50, some e51, some e52, some e53, some e54, some e55, some e56, none, none, some e59, none, none, none, none],
  [some e64, some e65, none, none, none, some e69, some e70, some e71, none, none, none, none, none, none, some e78, none],
  [none, none, none, none, none, none, none, none, some e88, none, none, some e91, some e92, none, some e94, none],
  [some e96, none, none, none, some e100, some e101, some e102, some e103, none, some e105, some e106, some e107, some e108, some e109, some e110, some e111],
  [some e112, some e113, none, none, some e116, some e117, some e118, some e119, some e120, some e121, some e122, some e123, some e124, some e125, some e126, some e127],
  [some e128, some e129, some e130, some e131, none, none, some e134, some e135, some e136, some e137, none, some e139, some e140, some e141, some e142, some e143],
  [some e144, some e145, none, none, some e148, none, some e150, some e151, some e152, none, none, none, some e156, none, none, none],
  [none, none, none, none, some e164, none, some e166, none, none, none, none, some e171, some e172, none, some e174, none],
  [none, some e177, none, none, some e180, none, some e182, some e183, some e184, some e185, some e186, some e187, some e188, some e189, none, some e191],
  [some e192, none, none, none, some e196, some e197, none, some e199, some e200, some e201, some e202, some e203, some e204, some e205, none, some e207],
  [some e208, some e209, some e210, none, some e212, none, some e214, none, some e216, some e217, some e218, none, none, none, none, none],
  [none, some e225, none, none, none, some e229, none, none, none, none, none, none, none, none, some e238, none],
  [none, none, none, none, none, none, none, none, some e248, some e249, some e250, some e251, some e252, some e253, some e254, none],
  [none, none, some e258, some e259, some e260, some e261, none, none, some e264, some e265, none, none, some e268, none, some e270, some e271],
  [some e272, none, none, none, none, some e277, some e278, some e279, some e280, none, none, none, none, some e285, none, none],
  [none, none, none, none, none, none, none, none, none, none, none, some e299, none, none, some e302, some e303],
  [some e304, none, some e306, some e307, none, none, none, some e311, some e312, some e313, some e314, some e315, some e316, none, none, none],
  [none, some e321, none, some e323, some e324, none, none, none, some e328, none, none, none, none, none, none, none],
  [none, none, none, none, none, none, none, none, some e344, none, some e346, some e347, some e348, none, none, some e351],
  [none, none, none, none, none, none, none, none, none, none, none, none, none, none, none, none],
  [none, none, none, some e371, some e372, some e373, none, none, none, none, none, none, none, none, none, none],
  [none, some e385, some e386, some e387, none, none, none, none, none, none, none, none, none, none, none, none]]
theorem rows_ok : rowsG Tryz.prog 0 rows := ⟨⟨g6, g9, g10, g11, g13, g14, g15, trivial⟩, ⟨g16, g17, g18, g19, g25, g26, g30, g31, trivial⟩, ⟨g32, g33, g35, g36, g37, g38, g39, g40, g41, g42, g43, g44, g45, trivial⟩, ⟨g48, g50, g51, g52, g53, g54, g55, g56, g59, trivial⟩, ⟨g64, g65, g69, g70, g71, g78, trivial⟩, ⟨g88, g91, g92, g94, trivial⟩, ⟨g96, g100, g101, g102, g103, g105, g106, g107, g108, g109, g110, g111, trivial⟩, ⟨g112, g113, g116, g117, g118, g119, g120, g121, g122, g123, g124, g125, g126, g127, trivial⟩, ⟨g128, g129, g130, g131, g134, g135, g136, g137, g139, g140, g141, g142, g143, trivial⟩, ⟨g144, g145, g148, g150, g151, g152, g156, trivial⟩, ⟨g164, g166, g171, g172, g174, trivial⟩, ⟨g177, g180, g182, g183, g184, g185, g186, g187, g188, g189, g191, trivial⟩, ⟨g192, g196, g197, g199, g200, g201, g202, g203, g204, g205, g207, trivial⟩, ⟨g208, g209, g210, g212, g214, g216, g217, g218, trivial⟩, ⟨g225, g229, g238, trivial⟩, ⟨g248, g249, g250, g251, g252, g253, g254, trivial⟩, ⟨g258, g259, g260, g261, g264, g265, g268, g270, g271, trivial⟩, ⟨g272, g277, g278, g279, g280, g285, trivial⟩, ⟨g299, g302, g303, trivial⟩, ⟨g304, g306, g307, g311, g312, g313, g314, g315, g316, trivial⟩, ⟨g321, g323, g324, g328, trivial⟩, ⟨g344, g346, g347, g348, g351, trivial⟩, trivial, ⟨g371, g372, g373, trivial⟩, ⟨g385, g386, g387, trivial⟩, trivial⟩
theorem mixed : Tryz.prog.follows .mixedOrders = true := by kernel_rfl
abbrev start : Nat := 6
end Go.Ev
