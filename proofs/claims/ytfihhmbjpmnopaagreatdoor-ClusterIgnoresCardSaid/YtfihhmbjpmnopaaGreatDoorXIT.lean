import Derived.Test.YtfihhmbjpmnopaaGreatDoorXI0
import Derived.Test.YtfihhmbjpmnopaaGreatDoorXI1
import Derived.Test.YtfihhmbjpmnopaaGreatDoorXI2
import Derived.Test.YtfihhmbjpmnopaaGreatDoorXI3
import Derived.Test.YtfihhmbjpmnopaaGreatDoorXI4
set_option linter.unusedVariables false
set_option linter.unusedSimpArgs false
namespace Go.Ev
open Go.Fw Go.Proofs
def rows : List (List (Option EFn)) := [[none, none, none, some e3, some e4, none, none, some e7, some e8, some e9, some e10, some e11, some e12, some e13, some e14, some e15],
  [some e16, some e17, some e18, some e19, some e20, none, none, none, none, none, some e26, some e27, some e28, some e29, some e30, some e31],
  [some e32, some e33, some e34, none, some e36, some e37, some e38, some e39, some e40, some e41, some e42, some e43, some e44, some e45, some e46, some e47],
  [some e48, none, none, some e51, some e52, some e53, some e54, none, none, some e57, some e58, none, some e60, none, some e62, none],
  [none, none, some e66, some e67, some e68, some e69, none, some e71, some e72, some e73, some e74, some e75, some e76, some e77, some e78, some e79],
  [none, none, some e82, some e83, some e84, some e85, none, none, some e88, none, none, some e91, some e92, some e93, some e94, some e95],
  [some e96, none, none, none, none, none, none, some e103, none, some e105, none, none, none, none, some e110, some e111],
  [none, some e113, none, none, some e116, some e117, none, none, some e120, none, some e122, some e123, some e124, some e125, some e126, some e127],
  [some e128, some e129, some e130, some e131, some e132, none, some e134, some e135, some e136, none, none, none, none, some e141, some e142, none],
  [some e144, some e145, some e146, some e147, some e148, some e149, some e150, some e151, some e152, some e153, some e154, some e155, none, some e157, some e158, some e159],
  [none, some e161, some e162, some e163, none, some e165, some e166, none, none, none, none, none, some e172, none, some e174, some e175],
  [some e176, none, none, none, none, none, none, none, some e184, none, none, none, none, some e189, some e190, some e191],
  [some e192, some e193, some e194, some e195, some e196, some e197, some e198, some e199, none, none, none, some e203, some e204, some e205, some e206, none],
  [none, some e209, some e210, some e211, some e212, some e213, none, none, some e216, some e217, some e218, some e219, none, none, some e222, none],
  [none, none, none, none, some e228, some e229, none, none, some e232, some e233, some e234, none, some e236, some e237, none, some e239],
  [some e240, some e241, some e242, none, none, none, none, some e247, some e248, some e249, some e250, none, some e252, none, none, none],
  [some e256, none, none, none, none, none, none, none, none, some e265, none, some e267, none, none, none, none],
  [none, none, none, some e275, none, none, none, none, some e280, none, some e282, some e283, some e284, none, none, some e287],
  [some e288, none, none, none, none, none, none, none, none, none, none, none, none, none, none, none],
  [none, none, none, none, none, none, none, none, none, none, none, some e315, some e316, none, some e318, none],
  [none, none, none, none, none, none, none, none, none, none, none, none, none, some e333, some e334, some e335]]
theorem rows_ok : rowsG Tryz.prog 0 rows := ⟨⟨g3, g4, g7, g8, g9, g10, g11, g12, g13, g14, g15, trivial⟩, ⟨g16, g17, g18, g19, g20, g26, g27, g28, g29, g30, g31, trivial⟩, ⟨g32, g33, g34, g36, g37, g38, g39, g40, g41, g42, g43, g44, g45, g46, g47, trivial⟩, ⟨g48, g51, g52, g53, g54, g57, g58, g60, g62, trivial⟩, ⟨g66, g67, g68, g69, g71, g72, g73, g74, g75, g76, g77, g78, g79, trivial⟩, ⟨g82, g83, g84, g85, g88, g91, g92, g93, g94, g95, trivial⟩, ⟨g96, g103, g105, g110, g111, trivial⟩, ⟨g113, g116, g117, g120, g122, g123, g124, g125, g126, g127, trivial⟩, ⟨g128, g129, g130, g131, g132, g134, g135, g136, g141, g142, trivial⟩, ⟨g144, g145, g146, g147, g148, g149, g150, g151, g152, g153, g154, g155, g157, g158, g159, trivial⟩, ⟨g161, g162, g163, g165, g166, g172, g174, g175, trivial⟩, ⟨g176, g184, g189, g190, g191, trivial⟩, ⟨g192, g193, g194, g195, g196, g197, g198, g199, g203, g204, g205, g206, trivial⟩, ⟨g209, g210, g211, g212, g213, g216, g217, g218, g219, g222, trivial⟩, ⟨g228, g229, g232, g233, g234, g236, g237, g239, trivial⟩, ⟨g240, g241, g242, g247, g248, g249, g250, g252, trivial⟩, ⟨g256, g265, g267, trivial⟩, ⟨g275, g280, g282, g283, g284, g287, trivial⟩, ⟨g288, trivial⟩, ⟨g315, g316, g318, trivial⟩, ⟨g333, g334, g335, trivial⟩, trivial⟩
theorem mixed : Tryz.prog.follows .mixedOrders = true := by kernel_rfl
abbrev start : Nat := 3
end Go.Ev
