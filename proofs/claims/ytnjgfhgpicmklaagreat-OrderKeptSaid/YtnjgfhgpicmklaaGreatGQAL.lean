import Derived.Test.YtnjgfhgpicmklaaGreatGQAK
import Derived.ChangeKeysEq
import Derived.Test.YtnjgfhgpicmklaaGreatProg
import Derived.Test.YtnjgfhgpicmklaaGreatChecked
import Derived.Test.YtnjgfhgpicmklaaGreatGQAA
import Derived.Shelf.Small.Bits
import Derived.Shelf.Strconv.Itoa0
import Derived.Shelf.Bits.Mul64
import Derived.Laws.Externs
import Derived.Shelf.Spec.BitsCarry
set_option linter.all false
namespace Go.Proofs.YtnjgfhgpicmklaaGreat
open Go Go.RowKit
namespace Sx
def Ty : List (Nat × TD) := [(2, .int .i64),
  (3, .int .i64),
  (4, .bool),
  (5, .int .u8),
  (9, .sc (.v (.string "".toUTF8))),
  (12, .int .u64),
  (21, .int .i32),
  (22, .st 2 [.v (.int .i64 0), .v (.int .i64 0)] [(0, 1, false), (1, 1, false)]),
  (23, .st 2 [.v (.int .i64 0), .v (.int .i64 0)] [(0, 1, false), (1, 1, false)]),
  (24, .sl 3 true [.v (.int .i64 0), .v (.int .i64 0), .v (.int .i64 0)]),
  (25, .st 1 [.nil 3] [(0, 1, false)]),
  (26, .st 1 [.nil 3] [(0, 1, false)]),
  (27, .st 3 [.v (.int .i64 0), .v (.int .i64 0), .nil 3] [(0, 2, true), (2, 1, true)]),
  (28, .st 3 [.v (.int .i64 0), .v (.int .i64 0), .nil 3] [(0, 2, true), (2, 1, true)]),
  (29, .sl 7 true [.v (.int .u8 0), .v (.int .i64 0), .v (.int .i64 0), .v (.int .i64 0), .v (.int .i64 0), .v (.int .i64 0), .v (.int .i64 0)]),
  (31, .int .i64),
  (36, .sl 2 true [.v (.int .i64 0), .v (.int .i64 0)]),
  (42, .sl 6 true [.v (.int .i64 0), .v (.int .i64 0), .v (.int .i64 0), .v (.int .i64 0), .v (.int .i64 0), .nil 4]),
  (43, .st 5 [.v (.int .i64 0), .v (.int .i64 0), .nil 3, .nil 7, .nil 6] [(0, 3, true), (3, 1, false), (4, 1, false)]),
  (44, .st 5 [.v (.int .i64 0), .v (.int .i64 0), .nil 3, .nil 7, .nil 6] [(0, 3, true), (3, 1, false), (4, 1, false)]),
  (59, .st 3 [.v (.int .i64 0), .v (.int .i64 0), .v (.int .i64 0)] [(0, 1, false), (1, 1, false), (2, 1, false)]),
  (60, .st 3 [.v (.int .i64 0), .v (.int .i64 0), .v (.int .i64 0)] [(0, 1, false), (1, 1, false), (2, 1, false)]),
  (61, .st 7 [.v (.int .u8 0), .v (.int .i64 0), .v (.int .i64 0), .v (.int .i64 0), .v (.int .i64 0), .v (.int .i64 0), .v (.int .i64 0)] [(0, 1, false), (1, 3, true), (4, 1, false), (5, 2, true)]),
  (62, .st 7 [.v (.int .u8 0), .v (.int .i64 0), .v (.int .i64 0), .v (.int .i64 0), .v (.int .i64 0), .v (.int .i64 0), .v (.int .i64 0)] [(0, 1, false), (1, 3, true), (4, 1, false), (5, 2, true)]),
  (63, .sl 4 true [.v (.int .i64 0), .v (.int .i64 0), .v (.int .i64 0), .v (.int .i64 0)]),
  (64, .st 6 [.v (.int .i64 0), .v (.int .i64 0), .v (.int .i64 0), .v (.int .i64 0), .v (.int .i64 0), .nil 4] [(0, 1, false), (1, 1, false), (2, 1, false), (3, 2, true), (5, 1, false)]),
  (65, .st 6 [.v (.int .i64 0), .v (.int .i64 0), .v (.int .i64 0), .v (.int .i64 0), .v (.int .i64 0), .nil 4] [(0, 1, false), (1, 1, false), (2, 1, false), (3, 2, true), (5, 1, false)]),
  (66, .st 4 [.v (.int .i64 0), .v (.int .i64 0), .v (.int .i64 0), .v (.int .i64 0)] [(0, 2, true), (2, 1, false), (3, 1, false)]),
  (67, .st 4 [.v (.int .i64 0), .v (.int .i64 0), .v (.int .i64 0), .v (.int .i64 0)] [(0, 2, true), (2, 1, false), (3, 1, false)]),
  (78, .sl 1 false [.v (.int .i64 0)]),
  (93, .ar 2 [.v (.int .i64 0), .v (.int .i64 0)] 2 1 false),
  (95, .sl 1 false [.v (.int .i64 0)]),
  (105, .sl 5 true [.v (.int .i64 0), .v (.int .i64 0), .nil 3, .nil 7, .nil 6]),
  (131, .sl 1 false [.nil 7]),
  (152, .int .u64),
  (158, .int .u64),
  (173, .st 3 [.v (.bool false), .v (.int .u64 0), .v (.int .u64 0)] [(0, 1, false), (1, 1, false), (2, 1, false)]),
  (174, .st 3 [.v (.bool false), .v (.int .u64 0), .v (.int .u64 0)] [(0, 1, false), (1, 1, false), (2, 1, false)]),
  (181, .st 2 [.v (.int .i64 0), .v (.int .u64 0)] [(0, 1, false), (1, 1, false)]),
  (182, .st 2 [.v (.int .i64 0), .v (.int .u64 0)] [(0, 1, false), (1, 1, false)]),
  (184, .ar 2 [.v (.int .i64 0), .v (.int .i64 0)] 2 1 false),
  (185, .ar 4 [.v (.int .i64 0), .v (.int .i64 0), .v (.int .i64 0), .v (.int .i64 0)] 2 2 true),
  (189, .sl 2 true [.v (.int .i64 0), .v (.int .i64 0)]),
  (196, .int .i64),
  (204, .int .u32),
  (238, .int .u64),
  (244, .st 3 [.v (.bool false), .v (.int .u64 0), .v (.int .u64 0)] [(0, 1, false), (1, 1, false), (2, 1, false)]),
  (245, .st 3 [.v (.bool false), .v (.int .u64 0), .v (.int .u64 0)] [(0, 1, false), (1, 1, false), (2, 1, false)]),
  (294, .st 4 [.v (.pointer none), .v (.pointer none), .v (.pointer none), .v (.string "".toUTF8)] [(0, 1, false), (1, 1, false), (2, 1, false), (3, 1, false)])]
theorem ty_all : TysOK Tryz.prog Ty := ⟨⟨Tryz.sizeOf2, Tryz.isAgg2, ⟨_, Tryz.zeroValue2, fun _ _ => ⟨.v _ rfl (wfB_iff rfl), trivial⟩⟩, Tryz.underlying2⟩,
  ⟨Tryz.sizeOf3, Tryz.isAgg3, ⟨_, Tryz.zeroValue3, fun _ _ => ⟨.v _ rfl (wfB_iff rfl), trivial⟩⟩, Tryz.underlying3⟩,
  ⟨Tryz.sizeOf4, Tryz.isAgg4, ⟨_, Tryz.zeroValue4, fun _ _ => ⟨.v _ rfl (wfB_iff rfl), trivial⟩⟩, Tryz.underlying4⟩,
  ⟨Tryz.sizeOf5, Tryz.isAgg5, ⟨_, Tryz.zeroValue5, fun _ _ => ⟨.v _ rfl (wfB_iff rfl), trivial⟩⟩, Tryz.underlying5⟩,
  ⟨Tryz.sizeOf9, Tryz.isAgg9, ⟨_, Tryz.zeroValue9, fun _ _ => ⟨.v _ rfl (wfB_iff rfl), trivial⟩⟩, trivial⟩,
  ⟨Tryz.sizeOf12, Tryz.isAgg12, ⟨_, Tryz.zeroValue12, fun _ _ => ⟨.v _ rfl (wfB_iff rfl), trivial⟩⟩, Tryz.underlying12⟩,
  ⟨Tryz.sizeOf21, Tryz.isAgg21, ⟨_, Tryz.zeroValue21, fun _ _ => ⟨.v _ rfl (wfB_iff rfl), trivial⟩⟩, Tryz.underlying21⟩,
  ⟨Tryz.sizeOf22, Tryz.isAgg22, ⟨_, Tryz.zeroValue22, fun _ _ => ⟨.v _ rfl (wfB_iff rfl), .v _ rfl (wfB_iff rfl), trivial⟩⟩, st_ty Tryz.underlying22 rfl ⟨rfl, Tryz.sizeOf2, Tryz.isAgg2, rfl, Tryz.sizeOf2, Tryz.isAgg2, trivial⟩⟩,
  ⟨Tryz.sizeOf23, Tryz.isAgg23, ⟨_, Tryz.zeroValue23, fun _ _ => ⟨.v _ rfl (wfB_iff rfl), .v _ rfl (wfB_iff rfl), trivial⟩⟩, st_ty Tryz.underlying23 rfl ⟨rfl, Tryz.sizeOf2, Tryz.isAgg2, rfl, Tryz.sizeOf2, Tryz.isAgg2, trivial⟩⟩,
  ⟨Tryz.sizeOf24, Tryz.isAgg24, ⟨_, Tryz.zeroValue24, fun _ _ => ⟨.nl _, trivial⟩⟩, sl_ty Tryz.underlying24 Tryz.sizeOf60 Tryz.isAgg60 Tryz.zeroValue60 rfl (show Tryz.prog.info? 60 = some Tryz.t60 by kernel_rfl) rfl rfl rfl (fun _ _ => ⟨.v _ rfl (wfB_iff rfl), .v _ rfl (wfB_iff rfl), .v _ rfl (wfB_iff rfl), trivial⟩) rfl⟩,
  ⟨Tryz.sizeOf25, Tryz.isAgg25, ⟨_, Tryz.zeroValue25, fun _ _ => ⟨.nl _, trivial⟩⟩, st_ty Tryz.underlying25 rfl ⟨rfl, Tryz.sizeOf24, Tryz.isAgg24, trivial⟩⟩,
  ⟨Tryz.sizeOf26, Tryz.isAgg26, ⟨_, Tryz.zeroValue26, fun _ _ => ⟨.nl _, trivial⟩⟩, st_ty Tryz.underlying26 rfl ⟨rfl, Tryz.sizeOf24, Tryz.isAgg24, trivial⟩⟩,
  ⟨Tryz.sizeOf27, Tryz.isAgg27, ⟨_, Tryz.zeroValue27, fun _ _ => ⟨.v _ rfl (wfB_iff rfl), .v _ rfl (wfB_iff rfl), .nl _, trivial⟩⟩, st_ty Tryz.underlying27 rfl ⟨rfl, Tryz.sizeOf23, Tryz.isAgg23, rfl, Tryz.sizeOf26, Tryz.isAgg26, trivial⟩⟩,
  ⟨Tryz.sizeOf28, Tryz.isAgg28, ⟨_, Tryz.zeroValue28, fun _ _ => ⟨.v _ rfl (wfB_iff rfl), .v _ rfl (wfB_iff rfl), .nl _, trivial⟩⟩, st_ty Tryz.underlying28 rfl ⟨rfl, Tryz.sizeOf23, Tryz.isAgg23, rfl, Tryz.sizeOf26, Tryz.isAgg26, trivial⟩⟩,
  ⟨Tryz.sizeOf29, Tryz.isAgg29, ⟨_, Tryz.zeroValue29, fun _ _ => ⟨.nl _, trivial⟩⟩, sl_ty Tryz.underlying29 Tryz.sizeOf62 Tryz.isAgg62 Tryz.zeroValue62 rfl (show Tryz.prog.info? 62 = some Tryz.t62 by kernel_rfl) rfl rfl rfl (fun _ _ => ⟨.v _ rfl (wfB_iff rfl), .v _ rfl (wfB_iff rfl), .v _ rfl (wfB_iff rfl), .v _ rfl (wfB_iff rfl), .v _ rfl (wfB_iff rfl), .v _ rfl (wfB_iff rfl), .v _ rfl (wfB_iff rfl), trivial⟩) rfl⟩,
  ⟨Tryz.sizeOf31, Tryz.isAgg31, ⟨_, Tryz.zeroValue31, fun _ _ => ⟨.v _ rfl (wfB_iff rfl), trivial⟩⟩, Tryz.underlying31⟩,
  ⟨Tryz.sizeOf36, Tryz.isAgg36, ⟨_, Tryz.zeroValue36, fun _ _ => ⟨.nl _, trivial⟩⟩, sl_ty Tryz.underlying36 Tryz.sizeOf93 Tryz.isAgg93 Tryz.zeroValue93 rfl (show Tryz.prog.info? 93 = some Tryz.t93 by kernel_rfl) rfl rfl rfl (fun _ _ => ⟨.v _ rfl (wfB_iff rfl), .v _ rfl (wfB_iff rfl), trivial⟩) rfl⟩,
  ⟨Tryz.sizeOf42, Tryz.isAgg42, ⟨_, Tryz.zeroValue42, fun _ _ => ⟨.nl _, trivial⟩⟩, sl_ty Tryz.underlying42 Tryz.sizeOf65 Tryz.isAgg65 Tryz.zeroValue65 rfl (show Tryz.prog.info? 65 = some Tryz.t65 by kernel_rfl) rfl rfl rfl (fun _ _ => ⟨.v _ rfl (wfB_iff rfl), .v _ rfl (wfB_iff rfl), .v _ rfl (wfB_iff rfl), .v _ rfl (wfB_iff rfl), .v _ rfl (wfB_iff rfl), .nl _, trivial⟩) rfl⟩,
  ⟨Tryz.sizeOf43, Tryz.isAgg43, ⟨_, Tryz.zeroValue43, fun _ _ => ⟨.v _ rfl (wfB_iff rfl), .v _ rfl (wfB_iff rfl), .nl _, .nl _, .nl _, trivial⟩⟩, st_ty Tryz.underlying43 rfl ⟨rfl, Tryz.sizeOf28, Tryz.isAgg28, rfl, Tryz.sizeOf29, Tryz.isAgg29, rfl, Tryz.sizeOf42, Tryz.isAgg42, trivial⟩⟩,
  ⟨Tryz.sizeOf44, Tryz.isAgg44, ⟨_, Tryz.zeroValue44, fun _ _ => ⟨.v _ rfl (wfB_iff rfl), .v _ rfl (wfB_iff rfl), .nl _, .nl _, .nl _, trivial⟩⟩, st_ty Tryz.underlying44 rfl ⟨rfl, Tryz.sizeOf28, Tryz.isAgg28, rfl, Tryz.sizeOf29, Tryz.isAgg29, rfl, Tryz.sizeOf42, Tryz.isAgg42, trivial⟩⟩,
  ⟨Tryz.sizeOf59, Tryz.isAgg59, ⟨_, Tryz.zeroValue59, fun _ _ => ⟨.v _ rfl (wfB_iff rfl), .v _ rfl (wfB_iff rfl), .v _ rfl (wfB_iff rfl), trivial⟩⟩, st_ty Tryz.underlying59 rfl ⟨rfl, Tryz.sizeOf3, Tryz.isAgg3, rfl, Tryz.sizeOf2, Tryz.isAgg2, rfl, Tryz.sizeOf2, Tryz.isAgg2, trivial⟩⟩,
  ⟨Tryz.sizeOf60, Tryz.isAgg60, ⟨_, Tryz.zeroValue60, fun _ _ => ⟨.v _ rfl (wfB_iff rfl), .v _ rfl (wfB_iff rfl), .v _ rfl (wfB_iff rfl), trivial⟩⟩, st_ty Tryz.underlying60 rfl ⟨rfl, Tryz.sizeOf3, Tryz.isAgg3, rfl, Tryz.sizeOf2, Tryz.isAgg2, rfl, Tryz.sizeOf2, Tryz.isAgg2, trivial⟩⟩,
  ⟨Tryz.sizeOf61, Tryz.isAgg61, ⟨_, Tryz.zeroValue61, fun _ _ => ⟨.v _ rfl (wfB_iff rfl), .v _ rfl (wfB_iff rfl), .v _ rfl (wfB_iff rfl), .v _ rfl (wfB_iff rfl), .v _ rfl (wfB_iff rfl), .v _ rfl (wfB_iff rfl), .v _ rfl (wfB_iff rfl), trivial⟩⟩, st_ty Tryz.underlying61 rfl ⟨rfl, Tryz.sizeOf5, Tryz.isAgg5, rfl, Tryz.sizeOf60, Tryz.isAgg60, rfl, Tryz.sizeOf3, Tryz.isAgg3, rfl, Tryz.sizeOf23, Tryz.isAgg23, trivial⟩⟩,
  ⟨Tryz.sizeOf62, Tryz.isAgg62, ⟨_, Tryz.zeroValue62, fun _ _ => ⟨.v _ rfl (wfB_iff rfl), .v _ rfl (wfB_iff rfl), .v _ rfl (wfB_iff rfl), .v _ rfl (wfB_iff rfl), .v _ rfl (wfB_iff rfl), .v _ rfl (wfB_iff rfl), .v _ rfl (wfB_iff rfl), trivial⟩⟩, st_ty Tryz.underlying62 rfl ⟨rfl, Tryz.sizeOf5, Tryz.isAgg5, rfl, Tryz.sizeOf60, Tryz.isAgg60, rfl, Tryz.sizeOf3, Tryz.isAgg3, rfl, Tryz.sizeOf23, Tryz.isAgg23, trivial⟩⟩,
  ⟨Tryz.sizeOf63, Tryz.isAgg63, ⟨_, Tryz.zeroValue63, fun _ _ => ⟨.nl _, trivial⟩⟩, sl_ty Tryz.underlying63 Tryz.sizeOf67 Tryz.isAgg67 Tryz.zeroValue67 rfl (show Tryz.prog.info? 67 = some Tryz.t67 by kernel_rfl) rfl rfl rfl (fun _ _ => ⟨.v _ rfl (wfB_iff rfl), .v _ rfl (wfB_iff rfl), .v _ rfl (wfB_iff rfl), .v _ rfl (wfB_iff rfl), trivial⟩) rfl⟩,
  ⟨Tryz.sizeOf64, Tryz.isAgg64, ⟨_, Tryz.zeroValue64, fun _ _ => ⟨.v _ rfl (wfB_iff rfl), .v _ rfl (wfB_iff rfl), .v _ rfl (wfB_iff rfl), .v _ rfl (wfB_iff rfl), .v _ rfl (wfB_iff rfl), .nl _, trivial⟩⟩, st_ty Tryz.underlying64 rfl ⟨rfl, Tryz.sizeOf31, Tryz.isAgg31, rfl, Tryz.sizeOf3, Tryz.isAgg3, rfl, Tryz.sizeOf3, Tryz.isAgg3, rfl, Tryz.sizeOf23, Tryz.isAgg23, rfl, Tryz.sizeOf63, Tryz.isAgg63, trivial⟩⟩,
  ⟨Tryz.sizeOf65, Tryz.isAgg65, ⟨_, Tryz.zeroValue65, fun _ _ => ⟨.v _ rfl (wfB_iff rfl), .v _ rfl (wfB_iff rfl), .v _ rfl (wfB_iff rfl), .v _ rfl (wfB_iff rfl), .v _ rfl (wfB_iff rfl), .nl _, trivial⟩⟩, st_ty Tryz.underlying65 rfl ⟨rfl, Tryz.sizeOf31, Tryz.isAgg31, rfl, Tryz.sizeOf3, Tryz.isAgg3, rfl, Tryz.sizeOf3, Tryz.isAgg3, rfl, Tryz.sizeOf23, Tryz.isAgg23, rfl, Tryz.sizeOf63, Tryz.isAgg63, trivial⟩⟩,
  ⟨Tryz.sizeOf66, Tryz.isAgg66, ⟨_, Tryz.zeroValue66, fun _ _ => ⟨.v _ rfl (wfB_iff rfl), .v _ rfl (wfB_iff rfl), .v _ rfl (wfB_iff rfl), .v _ rfl (wfB_iff rfl), trivial⟩⟩, st_ty Tryz.underlying66 rfl ⟨rfl, Tryz.sizeOf23, Tryz.isAgg23, rfl, Tryz.sizeOf3, Tryz.isAgg3, rfl, Tryz.sizeOf3, Tryz.isAgg3, trivial⟩⟩,
  ⟨Tryz.sizeOf67, Tryz.isAgg67, ⟨_, Tryz.zeroValue67, fun _ _ => ⟨.v _ rfl (wfB_iff rfl), .v _ rfl (wfB_iff rfl), .v _ rfl (wfB_iff rfl), .v _ rfl (wfB_iff rfl), trivial⟩⟩, st_ty Tryz.underlying67 rfl ⟨rfl, Tryz.sizeOf23, Tryz.isAgg23, rfl, Tryz.sizeOf3, Tryz.isAgg3, rfl, Tryz.sizeOf3, Tryz.isAgg3, trivial⟩⟩,
  ⟨Tryz.sizeOf78, Tryz.isAgg78, ⟨_, Tryz.zeroValue78, fun _ _ => ⟨.nl _, trivial⟩⟩, sl_ty Tryz.underlying78 Tryz.sizeOf31 Tryz.isAgg31 Tryz.zeroValue31 rfl (show Tryz.prog.info? 31 = some Tryz.t31 by kernel_rfl) rfl rfl rfl (fun _ _ => ⟨.v _ rfl (wfB_iff rfl), trivial⟩) rfl⟩,
  ⟨Tryz.sizeOf93, Tryz.isAgg93, ⟨_, Tryz.zeroValue93, fun _ _ => ⟨.v _ rfl (wfB_iff rfl), .v _ rfl (wfB_iff rfl), trivial⟩⟩, ⟨_, Tryz.underlying93, Tryz.sizeOf3, Tryz.isAgg3⟩⟩,
  ⟨Tryz.sizeOf95, Tryz.isAgg95, ⟨_, Tryz.zeroValue95, fun _ _ => ⟨.nl _, trivial⟩⟩, sl_ty Tryz.underlying95 Tryz.sizeOf3 Tryz.isAgg3 Tryz.zeroValue3 rfl (show Tryz.prog.info? 3 = some Tryz.t3 by kernel_rfl) rfl rfl rfl (fun _ _ => ⟨.v _ rfl (wfB_iff rfl), trivial⟩) rfl⟩,
  ⟨Tryz.sizeOf105, Tryz.isAgg105, ⟨_, Tryz.zeroValue105, fun _ _ => ⟨.nl _, trivial⟩⟩, sl_ty Tryz.underlying105 Tryz.sizeOf44 Tryz.isAgg44 Tryz.zeroValue44 rfl (show Tryz.prog.info? 44 = some Tryz.t44 by kernel_rfl) rfl rfl rfl (fun _ _ => ⟨.v _ rfl (wfB_iff rfl), .v _ rfl (wfB_iff rfl), .nl _, .nl _, .nl _, trivial⟩) rfl⟩,
  ⟨Tryz.sizeOf131, Tryz.isAgg131, ⟨_, Tryz.zeroValue131, fun _ _ => ⟨.nl _, trivial⟩⟩, sl_ty Tryz.underlying131 Tryz.sizeOf29 Tryz.isAgg29 Tryz.zeroValue29 rfl (show Tryz.prog.info? 29 = some Tryz.t29 by kernel_rfl) rfl rfl rfl (fun _ _ => ⟨.nl _, trivial⟩) rfl⟩,
  ⟨Tryz.sizeOf152, Tryz.isAgg152, ⟨_, Tryz.zeroValue152, fun _ _ => ⟨.v _ rfl (wfB_iff rfl), trivial⟩⟩, Tryz.underlying152⟩,
  ⟨Tryz.sizeOf158, Tryz.isAgg158, ⟨_, Tryz.zeroValue158, fun _ _ => ⟨.v _ rfl (wfB_iff rfl), trivial⟩⟩, Tryz.underlying158⟩,
  ⟨Tryz.sizeOf173, Tryz.isAgg173, ⟨_, Tryz.zeroValue173, fun _ _ => ⟨.v _ rfl (wfB_iff rfl), .v _ rfl (wfB_iff rfl), .v _ rfl (wfB_iff rfl), trivial⟩⟩, st_ty Tryz.underlying173 rfl ⟨rfl, Tryz.sizeOf4, Tryz.isAgg4, rfl, Tryz.sizeOf152, Tryz.isAgg152, rfl, Tryz.sizeOf152, Tryz.isAgg152, trivial⟩⟩,
  ⟨Tryz.sizeOf174, Tryz.isAgg174, ⟨_, Tryz.zeroValue174, fun _ _ => ⟨.v _ rfl (wfB_iff rfl), .v _ rfl (wfB_iff rfl), .v _ rfl (wfB_iff rfl), trivial⟩⟩, st_ty Tryz.underlying174 rfl ⟨rfl, Tryz.sizeOf4, Tryz.isAgg4, rfl, Tryz.sizeOf152, Tryz.isAgg152, rfl, Tryz.sizeOf152, Tryz.isAgg152, trivial⟩⟩,
  ⟨Tryz.sizeOf181, Tryz.isAgg181, ⟨_, Tryz.zeroValue181, fun _ _ => ⟨.v _ rfl (wfB_iff rfl), .v _ rfl (wfB_iff rfl), trivial⟩⟩, st_ty Tryz.underlying181 rfl ⟨rfl, Tryz.sizeOf2, Tryz.isAgg2, rfl, Tryz.sizeOf152, Tryz.isAgg152, trivial⟩⟩,
  ⟨Tryz.sizeOf182, Tryz.isAgg182, ⟨_, Tryz.zeroValue182, fun _ _ => ⟨.v _ rfl (wfB_iff rfl), .v _ rfl (wfB_iff rfl), trivial⟩⟩, st_ty Tryz.underlying182 rfl ⟨rfl, Tryz.sizeOf2, Tryz.isAgg2, rfl, Tryz.sizeOf152, Tryz.isAgg152, trivial⟩⟩,
  ⟨Tryz.sizeOf184, Tryz.isAgg184, ⟨_, Tryz.zeroValue184, fun _ _ => ⟨.v _ rfl (wfB_iff rfl), .v _ rfl (wfB_iff rfl), trivial⟩⟩, ⟨_, Tryz.underlying184, Tryz.sizeOf2, Tryz.isAgg2⟩⟩,
  ⟨Tryz.sizeOf185, Tryz.isAgg185, ⟨_, Tryz.zeroValue185, fun _ _ => ⟨.v _ rfl (wfB_iff rfl), .v _ rfl (wfB_iff rfl), .v _ rfl (wfB_iff rfl), .v _ rfl (wfB_iff rfl), trivial⟩⟩, ⟨_, Tryz.underlying185, Tryz.sizeOf184, Tryz.isAgg184⟩⟩,
  ⟨Tryz.sizeOf189, Tryz.isAgg189, ⟨_, Tryz.zeroValue189, fun _ _ => ⟨.nl _, trivial⟩⟩, sl_ty Tryz.underlying189 Tryz.sizeOf23 Tryz.isAgg23 Tryz.zeroValue23 rfl (show Tryz.prog.info? 23 = some Tryz.t23 by kernel_rfl) rfl rfl rfl (fun _ _ => ⟨.v _ rfl (wfB_iff rfl), .v _ rfl (wfB_iff rfl), trivial⟩) rfl⟩,
  ⟨Tryz.sizeOf196, Tryz.isAgg196, ⟨_, Tryz.zeroValue196, fun _ _ => ⟨.v _ rfl (wfB_iff rfl), trivial⟩⟩, Tryz.underlying196⟩,
  ⟨Tryz.sizeOf204, Tryz.isAgg204, ⟨_, Tryz.zeroValue204, fun _ _ => ⟨.v _ rfl (wfB_iff rfl), trivial⟩⟩, Tryz.underlying204⟩,
  ⟨Tryz.sizeOf238, Tryz.isAgg238, ⟨_, Tryz.zeroValue238, fun _ _ => ⟨.v _ rfl (wfB_iff rfl), trivial⟩⟩, Tryz.underlying238⟩,
  ⟨Tryz.sizeOf244, Tryz.isAgg244, ⟨_, Tryz.zeroValue244, fun _ _ => ⟨.v _ rfl (wfB_iff rfl), .v _ rfl (wfB_iff rfl), .v _ rfl (wfB_iff rfl), trivial⟩⟩, st_ty Tryz.underlying244 rfl ⟨rfl, Tryz.sizeOf4, Tryz.isAgg4, rfl, Tryz.sizeOf152, Tryz.isAgg152, rfl, Tryz.sizeOf152, Tryz.isAgg152, trivial⟩⟩,
  ⟨Tryz.sizeOf245, Tryz.isAgg245, ⟨_, Tryz.zeroValue245, fun _ _ => ⟨.v _ rfl (wfB_iff rfl), .v _ rfl (wfB_iff rfl), .v _ rfl (wfB_iff rfl), trivial⟩⟩, st_ty Tryz.underlying245 rfl ⟨rfl, Tryz.sizeOf4, Tryz.isAgg4, rfl, Tryz.sizeOf152, Tryz.isAgg152, rfl, Tryz.sizeOf152, Tryz.isAgg152, trivial⟩⟩,
  ⟨Tryz.sizeOf294, Tryz.isAgg294, ⟨_, Tryz.zeroValue294, fun _ _ => ⟨.v _ rfl (wfB_iff rfl), .v _ rfl (wfB_iff rfl), .v _ rfl (wfB_iff rfl), .v _ rfl (wfB_iff rfl), trivial⟩⟩, st_ty Tryz.underlying294 rfl ⟨rfl, Tryz.sizeOf17, Tryz.isAgg17, rfl, Tryz.sizeOf17, Tryz.isAgg17, rfl, Tryz.sizeOf17, Tryz.isAgg17, rfl, Tryz.sizeOf9, Tryz.isAgg9, trivial⟩⟩, trivial⟩
theorem ty_okK (K mu co me : List Nat) : ΓOK Tryz.prog ⟨Ty, K, mu, co, me, false⟩ := tys_ok ty_all
theorem ty_okD : ΓOK Tryz.prog ⟨Ty, [], [], [], [], true⟩ := tys_ok ty_all
theorem ty_ok : ΓOK Tryz.prog ⟨Ty, [], [], [], [], false⟩ := tys_ok ty_all
theorem eqv23 (a0 b0 : Int) (a1 b1 : Int) (x y : Operand) (w : World) : (do eqGuard .eql 23 x y (.agg #[.int .i64 a0, .int .i64 a1]) (.agg #[.int .i64 b0, .int .i64 b1]); binOp .eql 23 (.agg #[.int .i64 a0, .int .i64 a1]) (.agg #[.int .i64 b0, .int .i64 b1]) : Sem Value).run Tryz.prog w = .ok (.bool (decide (a0 = b0 ∧ a1 = b1))) w := by
  by_cases h0 : a0 = b0
  · skip
    by_cases h1 : a1 = b1
    · skip
      simp [go_sem, eqGuard, binOp, Op.equal, Op.maxDepth, h0, h1]
    · simp [go_sem, eqGuard, binOp, Op.equal, Op.maxDepth, h0, h1]
  · simp [go_sem, eqGuard, binOp, Op.equal, Op.maxDepth, h0]
theorem nev23 (a0 b0 : Int) (a1 b1 : Int) (x y : Operand) (w : World) : (do eqGuard .neq 23 x y (.agg #[.int .i64 a0, .int .i64 a1]) (.agg #[.int .i64 b0, .int .i64 b1]); binOp .neq 23 (.agg #[.int .i64 a0, .int .i64 a1]) (.agg #[.int .i64 b0, .int .i64 b1]) : Sem Value).run Tryz.prog w = .ok (.bool (decide (¬ (a0 = b0 ∧ a1 = b1)))) w := by
  by_cases h0 : a0 = b0
  · skip
    by_cases h1 : a1 = b1
    · skip
      simp [go_sem, eqGuard, binOp, Op.equal, Op.maxDepth, h0, h1]
    · simp [go_sem, eqGuard, binOp, Op.equal, Op.maxDepth, h0, h1]
  · simp [go_sem, eqGuard, binOp, Op.equal, Op.maxDepth, h0]
theorem nev60 (a0 b0 : Int) (a1 b1 : Int) (a2 b2 : Int) (x y : Operand) (w : World) : (do eqGuard .neq 60 x y (.agg #[.int .i64 a0, .int .i64 a1, .int .i64 a2]) (.agg #[.int .i64 b0, .int .i64 b1, .int .i64 b2]); binOp .neq 60 (.agg #[.int .i64 a0, .int .i64 a1, .int .i64 a2]) (.agg #[.int .i64 b0, .int .i64 b1, .int .i64 b2]) : Sem Value).run Tryz.prog w = .ok (.bool (decide (¬ (a0 = b0 ∧ a1 = b1 ∧ a2 = b2)))) w := by
  by_cases h0 : a0 = b0
  · skip
    by_cases h1 : a1 = b1
    · skip
      by_cases h2 : a2 = b2
      · skip
        simp [go_sem, eqGuard, binOp, Op.equal, Op.maxDepth, h0, h1, h2]
      · simp [go_sem, eqGuard, binOp, Op.equal, Op.maxDepth, h0, h1, h2]
    · simp [go_sem, eqGuard, binOp, Op.equal, Op.maxDepth, h0, h1]
  · simp [go_sem, eqGuard, binOp, Op.equal, Op.maxDepth, h0]
theorem eqv62 (a0 b0 : Int) (a1 b1 : Int) (a2 b2 : Int) (a3 b3 : Int) (a4 b4 : Int) (a5 b5 : Int) (a6 b6 : Int) (x y : Operand) (w : World) : (do eqGuard .eql 62 x y (.agg #[.int .u8 a0, .int .i64 a1, .int .i64 a2, .int .i64 a3, .int .i64 a4, .int .i64 a5, .int .i64 a6]) (.agg #[.int .u8 b0, .int .i64 b1, .int .i64 b2, .int .i64 b3, .int .i64 b4, .int .i64 b5, .int .i64 b6]); binOp .eql 62 (.agg #[.int .u8 a0, .int .i64 a1, .int .i64 a2, .int .i64 a3, .int .i64 a4, .int .i64 a5, .int .i64 a6]) (.agg #[.int .u8 b0, .int .i64 b1, .int .i64 b2, .int .i64 b3, .int .i64 b4, .int .i64 b5, .int .i64 b6]) : Sem Value).run Tryz.prog w = .ok (.bool (decide (a0 = b0 ∧ a1 = b1 ∧ a2 = b2 ∧ a3 = b3 ∧ a4 = b4 ∧ a5 = b5 ∧ a6 = b6))) w := by
  by_cases h0 : a0 = b0
  · skip
    by_cases h1 : a1 = b1
    · skip
      by_cases h2 : a2 = b2
      · skip
        by_cases h3 : a3 = b3
        · skip
          by_cases h4 : a4 = b4
          · skip
            by_cases h5 : a5 = b5
            · skip
              by_cases h6 : a6 = b6
              · skip
                simp [go_sem, eqGuard, binOp, Op.equal, Op.maxDepth, h0, h1, h2, h3, h4, h5, h6]
              · simp [go_sem, eqGuard, binOp, Op.equal, Op.maxDepth, h0, h1, h2, h3, h4, h5, h6]
            · simp [go_sem, eqGuard, binOp, Op.equal, Op.maxDepth, h0, h1, h2, h3, h4, h5]
          · simp [go_sem, eqGuard, binOp, Op.equal, Op.maxDepth, h0, h1, h2, h3, h4]
        · simp [go_sem, eqGuard, binOp, Op.equal, Op.maxDepth, h0, h1, h2, h3]
      · simp [go_sem, eqGuard, binOp, Op.equal, Op.maxDepth, h0, h1, h2]
    · simp [go_sem, eqGuard, binOp, Op.equal, Op.maxDepth, h0, h1]
  · simp [go_sem, eqGuard, binOp, Op.equal, Op.maxDepth, h0]
theorem nev62 (a0 b0 : Int) (a1 b1 : Int) (a2 b2 : Int) (a3 b3 : Int) (a4 b4 : Int) (a5 b5 : Int) (a6 b6 : Int) (x y : Operand) (w : World) : (do eqGuard .neq 62 x y (.agg #[.int .u8 a0, .int .i64 a1, .int .i64 a2, .int .i64 a3, .int .i64 a4, .int .i64 a5, .int .i64 a6]) (.agg #[.int .u8 b0, .int .i64 b1, .int .i64 b2, .int .i64 b3, .int .i64 b4, .int .i64 b5, .int .i64 b6]); binOp .neq 62 (.agg #[.int .u8 a0, .int .i64 a1, .int .i64 a2, .int .i64 a3, .int .i64 a4, .int .i64 a5, .int .i64 a6]) (.agg #[.int .u8 b0, .int .i64 b1, .int .i64 b2, .int .i64 b3, .int .i64 b4, .int .i64 b5, .int .i64 b6]) : Sem Value).run Tryz.prog w = .ok (.bool (decide (¬ (a0 = b0 ∧ a1 = b1 ∧ a2 = b2 ∧ a3 = b3 ∧ a4 = b4 ∧ a5 = b5 ∧ a6 = b6)))) w := by
  by_cases h0 : a0 = b0
  · skip
    by_cases h1 : a1 = b1
    · skip
      by_cases h2 : a2 = b2
      · skip
        by_cases h3 : a3 = b3
        · skip
          by_cases h4 : a4 = b4
          · skip
            by_cases h5 : a5 = b5
            · skip
              by_cases h6 : a6 = b6
              · skip
                simp [go_sem, eqGuard, binOp, Op.equal, Op.maxDepth, h0, h1, h2, h3, h4, h5, h6]
              · simp [go_sem, eqGuard, binOp, Op.equal, Op.maxDepth, h0, h1, h2, h3, h4, h5, h6]
            · simp [go_sem, eqGuard, binOp, Op.equal, Op.maxDepth, h0, h1, h2, h3, h4, h5]
          · simp [go_sem, eqGuard, binOp, Op.equal, Op.maxDepth, h0, h1, h2, h3, h4]
        · simp [go_sem, eqGuard, binOp, Op.equal, Op.maxDepth, h0, h1, h2, h3]
      · simp [go_sem, eqGuard, binOp, Op.equal, Op.maxDepth, h0, h1, h2]
    · simp [go_sem, eqGuard, binOp, Op.equal, Op.maxDepth, h0, h1]
  · simp [go_sem, eqGuard, binOp, Op.equal, Op.maxDepth, h0]
theorem nev67 (a0 b0 : Int) (a1 b1 : Int) (a2 b2 : Int) (a3 b3 : Int) (x y : Operand) (w : World) : (do eqGuard .neq 67 x y (.agg #[.int .i64 a0, .int .i64 a1, .int .i64 a2, .int .i64 a3]) (.agg #[.int .i64 b0, .int .i64 b1, .int .i64 b2, .int .i64 b3]); binOp .neq 67 (.agg #[.int .i64 a0, .int .i64 a1, .int .i64 a2, .int .i64 a3]) (.agg #[.int .i64 b0, .int .i64 b1, .int .i64 b2, .int .i64 b3]) : Sem Value).run Tryz.prog w = .ok (.bool (decide (¬ (a0 = b0 ∧ a1 = b1 ∧ a2 = b2 ∧ a3 = b3)))) w := by
  by_cases h0 : a0 = b0
  · skip
    by_cases h1 : a1 = b1
    · skip
      by_cases h2 : a2 = b2
      · skip
        by_cases h3 : a3 = b3
        · skip
          simp [go_sem, eqGuard, binOp, Op.equal, Op.maxDepth, h0, h1, h2, h3]
        · simp [go_sem, eqGuard, binOp, Op.equal, Op.maxDepth, h0, h1, h2, h3]
      · simp [go_sem, eqGuard, binOp, Op.equal, Op.maxDepth, h0, h1, h2]
    · simp [go_sem, eqGuard, binOp, Op.equal, Op.maxDepth, h0, h1]
  · simp [go_sem, eqGuard, binOp, Op.equal, Op.maxDepth, h0]
theorem arr93 (a0 b0 : Int) (a1 b1 : Int) (w : World) : (Op.equalIn 10000 93 (.agg #[.int .i64 a0, .int .i64 a1]) (.agg #[.int .i64 b0, .int .i64 b1])).run Tryz.prog w = .ok (decide (a0 = b0 ∧ a1 = b1)) w := by
  have hc : Tryz.prog.cellsOf 3 = 1 := by kernel_rfl
  have ha := fun (xs ys) => run_equalIn_array (P := Tryz.prog) (w := w) 9999 xs ys Tryz.underlying93 (show Tryz.prog.info? 3 = some Tryz.t3 by kernel_rfl)
  rw [show (10000 : Nat) = 9999 + 1 from rfl, ha, hc, show List.range 2 = [0, 1] from rfl]
  by_cases h0 : a0 = b0
  · skip
    by_cases h1 : a1 = b1
    · skip
      simp [go_sem, Op.eqItems, part, h0, h1]
    · simp [go_sem, Op.eqItems, part, h0, h1]
  · simp [go_sem, Op.eqItems, part, h0]
theorem nev93 (a0 b0 : Int) (a1 b1 : Int) (x y : Operand) (w : World) : (do eqGuard .neq 93 x y (.agg #[.int .i64 a0, .int .i64 a1]) (.agg #[.int .i64 b0, .int .i64 b1]); binOp .neq 93 (.agg #[.int .i64 a0, .int .i64 a1]) (.agg #[.int .i64 b0, .int .i64 b1]) : Sem Value).run Tryz.prog w = .ok (.bool (decide (¬ (a0 = b0 ∧ a1 = b1)))) w := by
  have h := fun w => arr93 a0 b0 a1 b1 w
  rw [decide_not]
  generalize decide (a0 = b0 ∧ a1 = b1) = q at *
  simp [go_sem, eqGuard, binOp, Op.equal, Op.maxDepth, h]
theorem nev182 (a0 b0 : Int) (a1 b1 : Int) (x y : Operand) (w : World) : (do eqGuard .neq 182 x y (.agg #[.int .i64 a0, .int .u64 a1]) (.agg #[.int .i64 b0, .int .u64 b1]); binOp .neq 182 (.agg #[.int .i64 a0, .int .u64 a1]) (.agg #[.int .i64 b0, .int .u64 b1]) : Sem Value).run Tryz.prog w = .ok (.bool (decide (¬ (a0 = b0 ∧ a1 = b1)))) w := by
  by_cases h0 : a0 = b0
  · skip
    by_cases h1 : a1 = b1
    · skip
      simp [go_sem, eqGuard, binOp, Op.equal, Op.maxDepth, h0, h1]
    · simp [go_sem, eqGuard, binOp, Op.equal, Op.maxDepth, h0, h1]
  · simp [go_sem, eqGuard, binOp, Op.equal, Op.maxDepth, h0]
end Sx
end Go.Proofs.YtnjgfhgpicmklaaGreat

namespace Go.Proofs.YtnjgfhgpicmklaaGreat
open Go.RowKit Go.Sort
theorem gcd_any (a b : Nat) (w : World) :
    Calls Tryz.prog 128 #[.int .u64 a, .int .u64 b] w fun e w' => e = .returned (.int .u64 (Nat.gcd a b : Nat)) ∧ Below w.heap.size w w' := by
  go_enter Tryz.func128, Tryz.ntmps128
  go_wp2
  go_loopw [0, 1] (fun x y wr => ∃ n m : Nat, x = .int .u64 n ∧ y = .int .u64 m ∧ Hid (Nat.gcd n m = Nat.gcd a b) ∧ Below w.heap.size w wr) (fun _ y _ => (intOf y).toNat)
  case atStart => exact ⟨a, b, rfl, rfl, Lib.hid rfl, Below.refl _ _⟩
  case round =>
    obtain ⟨n, m, rfl, rfl, hg, hb⟩ := hrel
    by_cases h0 : 0 < m
    · go_wp2
      go_quiet (fail)
      go_wp2
      have hlt := Nat.mod_lt n h0
      refine ⟨⟨m, n % m, rfl, by simp, Lib.hid ?_, below_drewN hb _⟩, ?_⟩
      · rw [← hg.out, Nat.gcd_comm n m, Nat.gcd_rec m n, Nat.gcd_comm]
      · show ((n : Int) % (m : Int)).toNat < ((m : Int)).toNat
        omega
    · go_wp2
      go_ret
      refine ⟨ret_int ?_, hb⟩
      rw [← hg.out]
      obtain rfl : m = 0 := by omega
      simp
theorem abs_any (n : Int) (w : World) (h0 : -9223372036854775808 ≤ n) (h1 : n ≤ 9223372036854775807) :
    Calls Tryz.prog 95 #[.int .i64 n] w fun e w' => e = .returned (.int .u64 (n.natAbs : Nat)) ∧ Below w.heap.size w w' := by
  have HW : Hid (n < 0 → IntKind.u64.wrap (-IntKind.u64.wrap n) = (n.natAbs : Nat)) := Lib.hid (by
    intro hn
    rw [IntKind.wrap_u64, IntKind.wrap_u64]
    omega)
  by_cases hn : n < 0
  · go_enter Tryz.func95, Tryz.ntmps95
    go_wp2
    go_ret
    exact ⟨ret_int (HW.out hn), Below.refl _ _⟩
  · go_enter Tryz.func95, Tryz.ntmps95
    go_wp2
    go_ret
    refine ⟨ret_int ?_, Below.refl _ _⟩
    omega
def chk (n d : Int) : Int := if d < 1 ∨ n = -9223372036854775808 ∨ 1 < Nat.gcd d.toNat n.natAbs then 8 else 0
theorem check_any (n d : Int) (w : World) (h0 : -9223372036854775808 ≤ n) (h1 : n ≤ 9223372036854775807) (h2 : -9223372036854775808 ≤ d) (h3 : d ≤ 9223372036854775807) :
    Calls Tryz.prog 94 #[.agg #[.int .i64 n, .int .i64 d]] w fun e w' => e = .returned (.int .i64 (chk n d)) ∧ Below w.heap.size w w' := by
  by_cases hd : d < 1
  · have hch : chk n d = 8 := by unfold chk; rw [if_pos (.inl hd)]
    rw [hch]
    go_enter Tryz.func94, Tryz.ntmps94
    go_wp2
    refine wp_region_quiet_below (by kernel_rfl) (by kernel_rfl) ?_
    repeat (go_big_quiet_step (fail))
    refine wpQuiet_nil ?_
    intro _ hw'
    obtain ⟨⟨dq, osq⟩, hw''⟩ := hw'
    subst hw''
    go_wp2
    go_ret
    exact ⟨rfl, below_reg (below_alloc (Below.refl _ _) _) _ _⟩
  · have hdf : decide (d < 1) = false := by simpa using hd
    by_cases hm : n = -9223372036854775808
    · have hch : chk n d = 8 := by unfold chk; rw [if_pos (.inr (.inl hm))]
      rw [hch]
      have hmb : (n == -9223372036854775808) = true := by simpa using hm
      clear hm
      go_enter Tryz.func94, Tryz.ntmps94
      go_wp2
      refine wp_region_quiet_below (by kernel_rfl) (by kernel_rfl) ?_
      repeat (go_big_quiet_step (fail))
      refine wpQuiet_nil ?_
      intro _ hw'
      obtain ⟨⟨dq, osq⟩, hw''⟩ := hw'
      subst hw''
      go_wp2
      go_ret
      exact ⟨rfl, below_reg (below_alloc (Below.refl _ _) _) _ _⟩
    · have hmb : (n == -9223372036854775808) = false := by simpa using hm
      obtain ⟨e, rfl⟩ := Int.eq_ofNat_of_zero_le (show 0 ≤ d by omega)
      by_cases hg : 1 < Nat.gcd e n.natAbs
      · have hch : chk n e = 8 := by unfold chk; rw [if_pos (.inr (.inr (by simpa using hg)))]
        rw [hch]
        clear hm
        go_enter Tryz.func94, Tryz.ntmps94
        go_wp2
        refine wp_region_quiet_below (by kernel_rfl) (by kernel_rfl) ?_
        repeat (go_big_quiet_step (first | (go_at_call 95; (with_reducible refine Calls.regrown_of (abs_any _ _ ?_ ?_)); omega; omega) | (go_at_call 128; (with_reducible refine Calls.regrown_of (gcd_any _ _ _)))))
        refine wpQuiet_nil ?_
        intro _ hw'
        obtain ⟨⟨dq, osq⟩, hw''⟩ := hw'
        subst hw''
        go_wp2
        go_ret
        exact ⟨rfl, below_reg (below_alloc (Below.refl _ _) _) _ _⟩
      · have hch : chk n e = 0 := by unfold chk; rw [if_neg (by rintro (h | h | h) <;> first | omega | exact hm h | exact hg (by simpa using h))]
        rw [hch]
        clear hm
        go_enter Tryz.func94, Tryz.ntmps94
        go_wp2
        refine wp_region_quiet_below (by kernel_rfl) (by kernel_rfl) ?_
        repeat (go_big_quiet_step (first | (go_at_call 95; (with_reducible refine Calls.regrown_of (abs_any _ _ ?_ ?_)); omega; omega) | (go_at_call 128; (with_reducible refine Calls.regrown_of (gcd_any _ _ _)))))
        refine wpQuiet_nil ?_
        intro _ hw'
        obtain ⟨⟨dq, osq⟩, hw''⟩ := hw'
        subst hw''
        go_wp2
        go_ret
        exact ⟨rfl, below_reg (below_alloc (Below.refl _ _) _) _ _⟩
end Go.Proofs.YtnjgfhgpicmklaaGreat

namespace Go.Proofs
open Go.Shelf
def Tryz.lays134_ren : Go.Shelf.Ren := ⟨fun | 134 => 172 | 129 => 141 | n => n, fun | 53 => 152 | 3 => 3 | 4 => 4 | 46 => 158 | 5 => 5 | 9 => 9 | n => n, fun | n => n⟩
theorem Tryz.lays134 : Go.Proofs.Lays.n134 Tryz.prog Tryz.lays134_ren := {
  mixed := by kernel_rfl
  f129 := Tryz.func141.trans (congrArg some (by kernel_rfl))
  f134 := Tryz.func172.trans (congrArg some (by kernel_rfl))
  t3 := Tryz.underlying3
  a3 := Tryz.isAgg3
  z3 := Tryz.sizeOf3
  v3 := Tryz.zeroValue3
  t4 := Tryz.underlying4
  a4 := Tryz.isAgg4
  z4 := Tryz.sizeOf4
  v4 := Tryz.zeroValue4
  t5 := Tryz.underlying5
  a5 := Tryz.isAgg5
  z5 := Tryz.sizeOf5
  v5 := Tryz.zeroValue5
  t9 := Tryz.underlying9
  a9 := Tryz.isAgg9
  z9 := Tryz.sizeOf9
  v9 := Tryz.zeroValue9
  t46 := Tryz.underlying158
  a46 := Tryz.isAgg158
  z46 := Tryz.sizeOf158
  v46 := Tryz.zeroValue158
  t53 := Tryz.underlying152
  a53 := Tryz.isAgg152
  z53 := Tryz.sizeOf152
  v53 := Tryz.zeroValue152 }
theorem Tryz.bits_LeadingZeros64 (x : Int) (w : World) (h0 : 0 ≤ x) (h1 : x ≤ 18446744073709551615) :
    Calls Tryz.prog 172 #[.int .u64 x] w fun e w' => e = .returned (.int .i64 (64 - (Lib.bitLen x.toNat : Int))) ∧ w' = w := Any.bits_LeadingZeros64 Tryz.lays134 x w h0 h1
def Tryz.lays264_ren : Go.Shelf.Ren := ⟨fun | 264 => 160 | n => n, fun | 53 => 152 | 46 => 158 | n => n, fun | n => n⟩
theorem Tryz.lays264 : Go.Proofs.Lays.n264 Tryz.prog Tryz.lays264_ren := {
  mixed := by kernel_rfl
  f264 := Tryz.func160.trans (congrArg some (by kernel_rfl))
  t46 := Tryz.underlying158
  a46 := Tryz.isAgg158
  z46 := Tryz.sizeOf158
  v46 := Tryz.zeroValue158
  t53 := Tryz.underlying152
  a53 := Tryz.isAgg152
  z53 := Tryz.sizeOf152
  v53 := Tryz.zeroValue152 }
open Go.RowKit Go.Lib in
theorem Tryz.bits_Mul64 (x y : Nat) (hx : x < 18446744073709551616) (hy : y < 18446744073709551616) (w : World) :
    Calls Tryz.prog 160 #[.int .u64 x, .int .u64 y] w fun e w' => e = .returned (.tuple #[.int .u64 ((x * y / 18446744073709551616 : Nat) : Int), .int .u64 ((x * y % 18446744073709551616 : Nat) : Int)]) ∧ w' = w := Any.bits_Mul64 Tryz.lays264 x y hx hy w
end Go.Proofs

namespace Go.Proofs.YtnjgfhgpicmklaaGreat
open Go.RowKit Go.Sort
def askd (n d : Int) : Int := if chk n d ≠ 0 then chk n d else if 1073741824 < n.natAbs ∨ 1024 < d then 2 else 0
theorem chk_08 (n d : Int) : chk n d = 0 ∨ chk n d = 8 := by unfold chk; split <;> simp
theorem asked_any (n d : Int) (w : World) (h0 : -9223372036854775808 ≤ n) (h1 : n ≤ 9223372036854775807) (h2 : -9223372036854775808 ≤ d) (h3 : d ≤ 9223372036854775807) :
    Calls Tryz.prog 63 #[.agg #[.int .i64 n, .int .i64 d]] w fun e w' => e = .returned (.int .i64 (askd n d)) ∧ Below w.heap.size w w' := by
  cases hn : decide ((1073741824 : Int) < (n.natAbs : Nat)) <;> cases hd : decide (1024 < d)
  all_goals
    go_enter Tryz.func63, Tryz.ntmps63
    go_wp2_with (first | (go_at_call 94; (with_reducible refine cmono ?_ (check_any _ _ _ ?_ ?_ ?_ ?_)); rotate_left; omega; omega; omega; omega; rintro e w' ⟨rfl, hbc0⟩; obtain ⟨⟨dc0, osc0⟩, rfl⟩ := regrown_of_below hbc0; clear hbc0) | (go_at_call 95; (with_reducible refine cmono ?_ (abs_any _ _ ?_ ?_)); rotate_left; omega; omega; rintro e w' ⟨rfl, hbc1⟩; obtain ⟨⟨dc1, osc1⟩, rfl⟩ := regrown_of_below hbc1; clear hbc1) | ((with_reducible refine wp_region_quiet_below ?_ ?_ ?_); kernel_rfl; kernel_rfl; (repeat (go_big_quiet_step (first | (go_at_call 94; (with_reducible refine Calls.regrown_of (check_any _ _ _ ?_ ?_ ?_ ?_)); omega; omega; omega; omega) | (go_at_call 95; (with_reducible refine Calls.regrown_of (abs_any _ _ ?_ ?_)); omega; omega)))); refine wpQuiet_nil ?_; intro _ hw'; obtain ⟨⟨dq, osq⟩, hw''⟩ := hw'; subst hw''))
    all_goals (go_ret; refine ⟨ret_int ?_, (by repeat (first | exact Below.refl _ _ | refine below_reg ?_ _ _ | refine below_alloc ?_ _ | exact below_drewN ?_ _ | assumption))⟩)
    all_goals (simp only [bne_iff_ne, bne_eq_false_iff_eq, decide_eq_true_eq, decide_eq_false_iff_not, ne_eq] at *)
    all_goals (unfold askd; (first | rw [if_pos (by omega)] | rw [if_neg (by omega)]))
    all_goals (first | rfl | (rw [if_pos (by omega)]; done) | (rw [if_neg (by omega)]; done))
def bth (n d m e : Int) : Int := if chk n d = 0 then chk m e else 8
theorem both_any (n d m e : Int) (w : World) (h0 : -9223372036854775808 ≤ n) (h1 : n ≤ 9223372036854775807) (h2 : -9223372036854775808 ≤ d) (h3 : d ≤ 9223372036854775807)
    (k0 : -9223372036854775808 ≤ m) (k1 : m ≤ 9223372036854775807) (k2 : -9223372036854775808 ≤ e) (k3 : e ≤ 9223372036854775807) :
    Calls Tryz.prog 112 #[.agg #[.int .i64 n, .int .i64 d], .agg #[.int .i64 m, .int .i64 e]] w fun en w' => en = .returned (.int .i64 (bth n d m e)) ∧ Below w.heap.size w w' := by
  go_enter Tryz.func112, Tryz.ntmps112
  go_wp2_with (first | (go_at_call 94; (with_reducible refine cmono ?_ (check_any _ _ _ ?_ ?_ ?_ ?_)); rotate_left; omega; omega; omega; omega; rintro e w' ⟨rfl, hbc0⟩; obtain ⟨⟨dc0, osc0⟩, rfl⟩ := regrown_of_below hbc0; clear hbc0) | ((with_reducible refine wp_region_quiet_below ?_ ?_ ?_); kernel_rfl; kernel_rfl; (repeat (go_big_quiet_step (first | (go_at_call 94; (with_reducible refine Calls.regrown_of (check_any _ _ _ ?_ ?_ ?_ ?_)); omega; omega; omega; omega)))); refine wpQuiet_nil ?_; intro _ hw'; obtain ⟨⟨dq, osq⟩, hw''⟩ := hw'; subst hw''))
  go_ret
  refine ⟨ret_int ?_, (by repeat (first | exact Below.refl _ _ | refine below_reg ?_ _ _ | refine below_alloc ?_ _ | exact below_drewN ?_ _ | assumption))⟩
  unfold bth
  have c1 := chk_08 n d
  have c2 := chk_08 m e
  rcases c1 with c1 | c1 <;> rcases c2 with c2 | c2 <;> rw [c1, c2] <;> rfl
def cmpN (a b : Int) : Int := if a < b then -1 else if b < a then 1 else 0
theorem cmpi_any (n m : Int) (w : World) :
    Calls Tryz.prog 113 #[.int .i64 n, .int .i64 m] w fun en w' => en = .returned (.int .i64 (cmpN n m)) ∧ Below w.heap.size w w' := by
  go_enter Tryz.func113, Tryz.ntmps113
  go_wp2_with (first | go_in | ((with_reducible refine wp_region_quiet_below ?_ ?_ ?_); kernel_rfl; kernel_rfl; (repeat (go_big_quiet_step (fail))); refine wpQuiet_nil ?_; intro _ hw'; obtain ⟨⟨dq, osq⟩, hw''⟩ := hw'; subst hw''))
  all_goals (go_ret; refine ⟨ret_int ?_, (by repeat (first | exact Below.refl _ _ | refine below_reg ?_ _ _ | refine below_alloc ?_ _ | exact below_drewN ?_ _ | assumption))⟩)
  all_goals (unfold cmpN; (repeat' split) <;> omega)
theorem cmpu_any (n m : Int) (w : World) :
    Calls Tryz.prog 159 #[.int .u64 n, .int .u64 m] w fun en w' => en = .returned (.int .i64 (cmpN n m)) ∧ Below w.heap.size w w' := by
  go_enter Tryz.func159, Tryz.ntmps159
  go_wp2_with (first | go_in | ((with_reducible refine wp_region_quiet_below ?_ ?_ ?_); kernel_rfl; kernel_rfl; (repeat (go_big_quiet_step (fail))); refine wpQuiet_nil ?_; intro _ hw'; obtain ⟨⟨dq, osq⟩, hw''⟩ := hw'; subst hw''))
  all_goals (go_ret; refine ⟨ret_int ?_, (by repeat (first | exact Below.refl _ _ | refine below_reg ?_ _ _ | refine below_alloc ?_ _ | exact below_drewN ?_ _ | assumption))⟩)
  all_goals (unfold cmpN; (repeat' split) <;> omega)
theorem times_any (a b : Int) (w : World)  (h0 : -9223372036854775808 ≤ a) (h1 : a ≤ 9223372036854775807) (h2 : -9223372036854775808 ≤ b) (h3 : b ≤ 9223372036854775807) :
    Calls Tryz.prog 115 #[.int .i64 a, .int .i64 b] w fun en w' => en = .returned (.agg #[.bool (decide (a < 0) != decide (b < 0)), .int .u64 (a.natAbs * b.natAbs / 18446744073709551616 : Nat), .int .u64 (a.natAbs * b.natAbs % 18446744073709551616 : Nat)]) ∧ Below w.heap.size w w' := by
  go_enter Tryz.func115, Tryz.ntmps115
  go_wp2_with (first | (go_at_call 160; refine (Tryz.bits_Mul64 _ _ (by omega) (by omega) _).mono ?_; rintro e w' ⟨rfl, rfl⟩) | (go_at_call 95; (with_reducible refine cmono ?_ (abs_any _ _ ?_ ?_)); rotate_left; omega; omega; rintro e w' ⟨rfl, hbc0⟩; obtain ⟨⟨dc0, osc0⟩, rfl⟩ := regrown_of_below hbc0; clear hbc0) | ((with_reducible refine wp_region_quiet_below ?_ ?_ ?_); kernel_rfl; kernel_rfl; (repeat (go_big_quiet_step (first | (go_at_call 95; (with_reducible refine Calls.regrown_of (abs_any _ _ ?_ ?_)); omega; omega)))); refine wpQuiet_nil ?_; intro _ hw'; obtain ⟨⟨dq, osq⟩, hw''⟩ := hw'; subst hw''))
  refine bodyPost_ret (v := .agg #[.bool (decide (a < 0) != decide (b < 0)), .int .u64 (a.natAbs * b.natAbs / 18446744073709551616 : Nat), .int .u64 (a.natAbs * b.natAbs % 18446744073709551616 : Nat)]) (by simp [results, Tryz.results115, go_sem]; cases decide (a < 0) <;> cases decide (b < 0) <;> rfl) rfl ⟨rfl, (by repeat (first | exact Below.refl _ _ | refine below_reg ?_ _ _ | refine below_alloc ?_ _ | exact below_drewN ?_ _ | assumption))⟩
theorem cmpN_hi (a b c d : Nat) (hb : b < 18446744073709551616) (hd : d < 18446744073709551616) :
    cmpN ((a * 18446744073709551616 + b : Nat) : Int) ((c * 18446744073709551616 + d : Nat) : Int) = if cmpN (a : Int) c != 0 then cmpN (a : Int) c else cmpN (b : Int) d := by
  unfold cmpN
  (repeat' split) <;> first | rfl | omega | (exfalso; simp_all; done) | (exfalso; simp_all; omega)
theorem compare_any (x y : Bool) (a b c d : Nat) (w : World) (hb : b < 18446744073709551616) (hd : d < 18446744073709551616) :
    Calls Tryz.prog 114 #[.agg #[.bool x, .int .u64 a, .int .u64 b], .agg #[.bool y, .int .u64 c, .int .u64 d]] w fun en w' => en = .returned (.int .i64 (cmpN ((a * 18446744073709551616 + b : Nat) : Int) ((c * 18446744073709551616 + d : Nat) : Int))) ∧ Below w.heap.size w w' := by
  go_enter Tryz.func114, Tryz.ntmps114
  go_wp2_with (first | (go_at_call 159; (with_reducible refine cmono ?_ (cmpu_any _ _ _)); rotate_left; rintro e w' ⟨rfl, hbc0⟩; obtain ⟨⟨dc0, osc0⟩, rfl⟩ := regrown_of_below hbc0; clear hbc0) | ((with_reducible refine wp_region_quiet_below ?_ ?_ ?_); kernel_rfl; kernel_rfl; (repeat (go_big_quiet_step (first | (go_at_call 159; (with_reducible refine Calls.regrown_of (cmpu_any _ _ _)))))); refine wpQuiet_nil ?_; intro _ hw'; obtain ⟨⟨dq, osq⟩, hw''⟩ := hw'; subst hw''))
  all_goals (go_ret; refine ⟨ret_int ?_, (by repeat (first | exact Below.refl _ _ | refine below_reg ?_ _ _ | refine below_alloc ?_ _ | exact below_drewN ?_ _ | assumption))⟩)
  all_goals (rw [cmpN_hi a b c d hb hd]; simp [*])
end Go.Proofs.YtnjgfhgpicmklaaGreat

namespace Go.Proofs.YtnjgfhgpicmklaaGreat
open Go.RowKit Go.Sort
theorem run_Add64 (x y c : Nat) (hc : c ≤ 1) (w : World) :
    (callFunc 171 #[.int .u64 x, .int .u64 y, .int .u64 c]).run Tryz.prog w = .ok (.value (.tuple #[.int .u64 ((x + y + c) % 18446744073709551616 : Nat), .int .u64 ((x + y + c) / 18446744073709551616 : Nat)])) w := by
  rw [run_callFunc_extern Tryz.func171 (by kernel_rfl) (by kernel_rfl) (by kernel_rfl) (e := add64Entry) (by kernel_rfl), run_add64 x y c (by omega) (by omega) (by omega) (by omega)]
  simp only [Result.andThen]
  congr 5 <;> omega
theorem run_Sub64 (x y b : Nat) (hb : b ≤ 1) (w : World) :
    (callFunc 121 #[.int .u64 x, .int .u64 y, .int .u64 b]).run Tryz.prog w = .ok (.value (.tuple #[.int .u64 ((x + 18446744073709551616 - y - b) % 18446744073709551616 : Nat), .int .u64 ((if x < y + b then 1 else 0 : Nat) : Int)])) w := by
  rw [run_callFunc_extern Tryz.func121 (by kernel_rfl) (by kernel_rfl) (by kernel_rfl) (e := sub64Entry) (by kernel_rfl), run_sub64 x y b hb]
  rfl
def plusM (x y : Bool) (m n : Nat) : Nat := if x = y then m + n else if m < n then n - m else m - n
def plusS (x y : Bool) (m n : Nat) : Bool := if x = y then x else if m < n then y else x
theorem plus_same (x : Bool) (a b c d : Nat) (w : World) (hb : b < 18446744073709551616) (hd : d < 18446744073709551616) (ha : a + c < 18446744073709551614) :
    Calls Tryz.prog 203 #[.agg #[.bool x, .int .u64 a, .int .u64 b], .agg #[.bool x, .int .u64 c, .int .u64 d]] w fun en w' =>
      en = .returned (.agg #[.bool x, .int .u64 ((a * 18446744073709551616 + b + (c * 18446744073709551616 + d)) / 18446744073709551616 : Nat), .int .u64 ((a * 18446744073709551616 + b + (c * 18446744073709551616 + d)) % 18446744073709551616 : Nat)]) ∧ Below w.heap.size w w' := by
  obtain ⟨lo, hlo⟩ : ∃ lo, lo = (b + d + 0) % 18446744073709551616 := ⟨_, rfl⟩
  obtain ⟨cy, hcy⟩ : ∃ cy, cy = (b + d + 0) / 18446744073709551616 := ⟨_, rfl⟩
  obtain ⟨hi, hhi⟩ : ∃ hi, hi = (a + c + cy) % 18446744073709551616 := ⟨_, rfl⟩
  have E1 : ∀ w, (callFunc 171 #[.int .u64 b, .int .u64 d, .int .u64 0]).run Tryz.prog w = .ok (.value (.tuple #[.int .u64 lo, .int .u64 cy])) w := by
    rw [hlo, hcy]; exact run_Add64 b d 0 (by omega)
  have E2 : ∀ w, (callFunc 171 #[.int .u64 a, .int .u64 c, .int .u64 cy]).run Tryz.prog w = .ok (.value (.tuple #[.int .u64 hi, .int .u64 ((a + c + cy) / 18446744073709551616 : Nat)])) w := by
    rw [hhi]; exact run_Add64 a c cy (by omega)
  have R1 : (a * 18446744073709551616 + b + (c * 18446744073709551616 + d)) / 18446744073709551616 = hi := by omega
  have R2 : (a * 18446744073709551616 + b + (c * 18446744073709551616 + d)) % 18446744073709551616 = lo := by omega
  rw [R1, R2]
  clear R1 R2 hlo hcy hhi
  go_enter Tryz.func203, Tryz.ntmps203
  go_wp2_with (first | ((with_reducible refine wp_region_quiet_below ?_ ?_ ?_); kernel_rfl; kernel_rfl; (repeat (go_big_quiet_step (fail))); refine wpQuiet_nil ?_; intro _ hw'; obtain ⟨⟨dq, osq⟩, hw''⟩ := hw'; subst hw''))
  refine bodyPost_ret (v := .agg #[.bool x, .int .u64 hi, .int .u64 lo]) (by simp [results, Tryz.results203, go_sem]) rfl ⟨rfl, (by repeat (first | exact Below.refl _ _ | refine below_reg ?_ _ _ | refine below_alloc ?_ _ | exact below_drewN ?_ _ | assumption))⟩
theorem plus_other (x : Bool) (a b c d : Nat) (w : World) (hb : b < 18446744073709551616) (hd : d < 18446744073709551616) (ha : a < 18446744073709551616) (hc : c < 18446744073709551616)
    (hlt : a * 18446744073709551616 + b < c * 18446744073709551616 + d) :
    Calls Tryz.prog 203 #[.agg #[.bool x, .int .u64 a, .int .u64 b], .agg #[.bool (!x), .int .u64 c, .int .u64 d]] w fun en w' =>
      en = .returned (.agg #[.bool (!x), .int .u64 ((c * 18446744073709551616 + d - (a * 18446744073709551616 + b)) / 18446744073709551616 : Nat), .int .u64 ((c * 18446744073709551616 + d - (a * 18446744073709551616 + b)) % 18446744073709551616 : Nat)]) ∧ Below w.heap.size w w' := by
  obtain ⟨lo, hlo⟩ : ∃ lo, lo = (d + 18446744073709551616 - b - 0) % 18446744073709551616 := ⟨_, rfl⟩
  obtain ⟨cy, hcy⟩ : ∃ cy : Nat, cy = if d < b + 0 then 1 else 0 := ⟨_, rfl⟩
  obtain ⟨hi, hhi⟩ : ∃ hi, hi = (c + 18446744073709551616 - a - cy) % 18446744073709551616 := ⟨_, rfl⟩
  have hcy1 : cy ≤ 1 := by rw [hcy]; split <;> omega
  have E1 : ∀ w, (callFunc 121 #[.int .u64 d, .int .u64 b, .int .u64 0]).run Tryz.prog w = .ok (.value (.tuple #[.int .u64 lo, .int .u64 cy])) w := by
    rw [hlo, hcy]; exact run_Sub64 d b 0 (by omega)
  have E2 : ∀ w, (callFunc 121 #[.int .u64 c, .int .u64 a, .int .u64 cy]).run Tryz.prog w = .ok (.value (.tuple #[.int .u64 hi, .int .u64 ((if c < a + cy then 1 else 0 : Nat) : Int)])) w := by
    rw [hhi]; exact run_Sub64 c a cy hcy1
  have R1 : (c * 18446744073709551616 + d - (a * 18446744073709551616 + b)) / 18446744073709551616 = hi := by rw [hhi, hcy]; split <;> omega
  have R2 : (c * 18446744073709551616 + d - (a * 18446744073709551616 + b)) % 18446744073709551616 = lo := by omega
  have hC : cmpN ((a * 18446744073709551616 + b : Nat) : Int) ((c * 18446744073709551616 + d : Nat) : Int) = -1 := by unfold cmpN; rw [if_pos (by omega)]
  have HP := compare_any x (!x) a b c d
  rw [hC] at HP
  have HQ := Lib.hid HP
  rw [R1, R2]
  clear R1 R2 hlo hcy hhi hC HP hlt
  go_enter Tryz.func203, Tryz.ntmps203
  go_wp2_with (first | (go_at_call 114; (with_reducible refine cmono ?_ (HQ.out _ hb hd)); rotate_left; rintro e w' ⟨rfl, hb7⟩; obtain ⟨⟨d7, os7⟩, rfl⟩ := regrown_of_below hb7; clear hb7) | ((with_reducible refine wp_region_quiet_below ?_ ?_ ?_); kernel_rfl; kernel_rfl; (repeat (go_big_quiet_step (fail))); refine wpQuiet_nil ?_; intro _ hw'; obtain ⟨⟨dq, osq⟩, hw''⟩ := hw'; subst hw''))
  all_goals refine bodyPost_ret (v := .agg #[.bool (!x), .int .u64 hi, .int .u64 lo]) (by simp [results, Tryz.results203, go_sem]) rfl ⟨rfl, (by repeat (first | exact Below.refl _ _ | refine below_reg ?_ _ _ | refine below_alloc ?_ _ | exact below_drewN ?_ _ | assumption))⟩
theorem plus_more (x : Bool) (a b c d : Nat) (w : World) (hb : b < 18446744073709551616) (hd : d < 18446744073709551616) (ha : a < 18446744073709551616) (hc : c < 18446744073709551616)
    (hlt : ¬ a * 18446744073709551616 + b < c * 18446744073709551616 + d) :
    Calls Tryz.prog 203 #[.agg #[.bool x, .int .u64 a, .int .u64 b], .agg #[.bool (!x), .int .u64 c, .int .u64 d]] w fun en w' =>
      en = .returned (.agg #[.bool x, .int .u64 ((a * 18446744073709551616 + b - (c * 18446744073709551616 + d)) / 18446744073709551616 : Nat), .int .u64 ((a * 18446744073709551616 + b - (c * 18446744073709551616 + d)) % 18446744073709551616 : Nat)]) ∧ Below w.heap.size w w' := by
  obtain ⟨lo, hlo⟩ : ∃ lo, lo = (b + 18446744073709551616 - d - 0) % 18446744073709551616 := ⟨_, rfl⟩
  obtain ⟨cy, hcy⟩ : ∃ cy : Nat, cy = if b < d + 0 then 1 else 0 := ⟨_, rfl⟩
  obtain ⟨hi, hhi⟩ : ∃ hi, hi = (a + 18446744073709551616 - c - cy) % 18446744073709551616 := ⟨_, rfl⟩
  have hcy1 : cy ≤ 1 := by rw [hcy]; split <;> omega
  have E1 : ∀ w, (callFunc 121 #[.int .u64 b, .int .u64 d, .int .u64 0]).run Tryz.prog w = .ok (.value (.tuple #[.int .u64 lo, .int .u64 cy])) w := by
    rw [hlo, hcy]; exact run_Sub64 b d 0 (by omega)
  have E2 : ∀ w, (callFunc 121 #[.int .u64 a, .int .u64 c, .int .u64 cy]).run Tryz.prog w = .ok (.value (.tuple #[.int .u64 hi, .int .u64 ((if a < c + cy then 1 else 0 : Nat) : Int)])) w := by
    rw [hhi]; exact run_Sub64 a c cy hcy1
  have R1 : (a * 18446744073709551616 + b - (c * 18446744073709551616 + d)) / 18446744073709551616 = hi := by rw [hhi, hcy]; split <;> omega
  have R2 : (a * 18446744073709551616 + b - (c * 18446744073709551616 + d)) % 18446744073709551616 = lo := by omega
  obtain ⟨k, hk⟩ : ∃ k, k = cmpN ((a * 18446744073709551616 + b : Nat) : Int) ((c * 18446744073709551616 + d : Nat) : Int) := ⟨_, rfl⟩
  have hk0 : ¬ k < 0 := by rw [hk]; unfold cmpN; (repeat' split) <;> omega
  have HP := compare_any x (!x) a b c d
  rw [← hk] at HP
  have HQ := Lib.hid HP
  rw [R1, R2]
  clear R1 R2 hlo hcy hhi hk HP hlt
  go_enter Tryz.func203, Tryz.ntmps203
  go_wp2_with (first | (go_at_call 114; (with_reducible refine cmono ?_ (HQ.out _ hb hd)); rotate_left; rintro e w' ⟨rfl, hb7⟩; obtain ⟨⟨d7, os7⟩, rfl⟩ := regrown_of_below hb7; clear hb7) | ((with_reducible refine wp_region_quiet_below ?_ ?_ ?_); kernel_rfl; kernel_rfl; (repeat (go_big_quiet_step (fail))); refine wpQuiet_nil ?_; intro _ hw'; obtain ⟨⟨dq, osq⟩, hw''⟩ := hw'; subst hw''))
  all_goals refine bodyPost_ret (v := .agg #[.bool x, .int .u64 hi, .int .u64 lo]) (by simp [results, Tryz.results203, go_sem]) rfl ⟨rfl, (by repeat (first | exact Below.refl _ _ | refine below_reg ?_ _ _ | refine below_alloc ?_ _ | exact below_drewN ?_ _ | assumption))⟩
theorem plus_any (x y : Bool) (a b c d : Nat) (w : World) (hb : b < 18446744073709551616) (hd : d < 18446744073709551616) (ha : a < 9223372036854775807) (hc : c < 9223372036854775807) :
    Calls Tryz.prog 203 #[.agg #[.bool x, .int .u64 a, .int .u64 b], .agg #[.bool y, .int .u64 c, .int .u64 d]] w fun en w' =>
      en = .returned (.agg #[.bool (plusS x y (a * 18446744073709551616 + b) (c * 18446744073709551616 + d)), .int .u64 (plusM x y (a * 18446744073709551616 + b) (c * 18446744073709551616 + d) / 18446744073709551616 : Nat), .int .u64 (plusM x y (a * 18446744073709551616 + b) (c * 18446744073709551616 + d) % 18446744073709551616 : Nat)]) ∧ Below w.heap.size w w' := by
  by_cases hxy : x = y
  · subst hxy
    simp only [plusS, plusM, if_true]
    exact plus_same x a b c d w hb hd (by omega)
  · obtain rfl : y = !x := by cases x <;> cases y <;> simp_all
    by_cases hlt : a * 18446744073709551616 + b < c * 18446744073709551616 + d
    · simp only [plusS, plusM, hxy, if_false, hlt, if_true]
      exact plus_other x a b c d w hb hd (by omega) (by omega) hlt
    · simp only [plusS, plusM, hxy, if_false, hlt]
      exact plus_more x a b c d w hb hd (by omega) (by omega) hlt
end Go.Proofs.YtnjgfhgpicmklaaGreat
