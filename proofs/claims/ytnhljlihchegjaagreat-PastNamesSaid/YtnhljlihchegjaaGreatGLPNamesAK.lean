import Derived.Test.YtnhljlihchegjaaGreatGLPNamesAJ
import Derived.Test.YtnhljlihchegjaaGreatProg
import Derived.Test.YtnhljlihchegjaaGreatChecked
import Derived.Test.YtnhljlihchegjaaGreatGLPNamesAA
import Derived.Shelf.Small.Bits
import Derived.Shelf.Strconv.Itoa0
import Derived.Shelf.Bits.Mul64
import Derived.Laws.Externs
import Derived.Shelf.Spec.BitsCarry
import Derived.WalkKit
set_option linter.all false
/- The table of the types that the symbolic walk knows, printed by a program of this claim's author. No conditions. -/
namespace Go.Proofs.YtnhljlihchegjaaGreat
open Go Go.RowKit
namespace Sx
def Ty : List (Nat × TD) := [(2, .int .i64),
  (3, .int .i64),
  (4, .bool),
  (5, .int .u8),
  (9, .sc (.v (.string "".toUTF8))),
  (12, .int .u64),
  (21, .int .i32),
  (22, .st 2 [.v (.int .i64 0), .v (.int .i64 0)] [(0, 1, false), (1, 1, false)]),
  (23, .st 2 [.v (.int .i64 0), .v (.int .i64 0)] [(0, 1, false), (1, 1, false)]),
  (24, .sl 3 true [.v (.int .i64 0), .v (.int .i64 0), .v (.int .i64 0)]),
  (25, .st 1 [.nil 3] [(0, 1, false)]),
  (26, .st 1 [.nil 3] [(0, 1, false)]),
  (27, .st 3 [.v (.int .i64 0), .v (.int .i64 0), .nil 3] [(0, 2, true), (2, 1, true)]),
  (28, .st 3 [.v (.int .i64 0), .v (.int .i64 0), .nil 3] [(0, 2, true), (2, 1, true)]),
  (29, .st 3 [.v (.int .i64 0), .v (.int .i64 0), .v (.int .i64 0)] [(0, 1, false), (1, 1, false), (2, 1, false)]),
  (30, .st 3 [.v (.int .i64 0), .v (.int .i64 0), .v (.int .i64 0)] [(0, 1, false), (1, 1, false), (2, 1, false)]),
  (31, .st 7 [.v (.int .u8 0), .v (.int .i64 0), .v (.int .i64 0), .v (.int .i64 0), .v (.int .i64 0), .v (.int .i64 0), .v (.int .i64 0)] [(0, 1, false), (1, 3, true), (4, 1, false), (5, 2, true)]),
  (32, .st 7 [.v (.int .u8 0), .v (.int .i64 0), .v (.int .i64 0), .v (.int .i64 0), .v (.int .i64 0), .v (.int .i64 0), .v (.int .i64 0)] [(0, 1, false), (1, 3, true), (4, 1, false), (5, 2, true)]),
  (35, .int .i64),
  (40, .sl 4 true [.v (.int .i64 0), .v (.int .i64 0), .v (.int .i64 0), .v (.int .i64 0)]),
  (41, .st 6 [.v (.int .i64 0), .v (.int .i64 0), .v (.int .i64 0), .v (.int .i64 0), .v (.int .i64 0), .nil 4] [(0, 1, false), (1, 1, false), (2, 1, false), (3, 2, true), (5, 1, false)]),
  (42, .st 6 [.v (.int .i64 0), .v (.int .i64 0), .v (.int .i64 0), .v (.int .i64 0), .v (.int .i64 0), .nil 4] [(0, 1, false), (1, 1, false), (2, 1, false), (3, 2, true), (5, 1, false)]),
  (52, .sl 7 true [.v (.int .u8 0), .v (.int .i64 0), .v (.int .i64 0), .v (.int .i64 0), .v (.int .i64 0), .v (.int .i64 0), .v (.int .i64 0)]),
  (56, .sl 6 true [.v (.int .i64 0), .v (.int .i64 0), .v (.int .i64 0), .v (.int .i64 0), .v (.int .i64 0), .nil 4]),
  (62, .sl 3 true [.v (.int .i64 0), .v (.int .i64 0), .nil 3]),
  (84, .sl 3 true [.v (.int .i64 0), .v (.int .i64 0), .nil 3]),
  (85, .st 3 [.v (.int .i64 0), .v (.int .i64 0), .nil 3] [(0, 2, true), (2, 1, false)]),
  (86, .st 3 [.v (.int .i64 0), .v (.int .i64 0), .nil 3] [(0, 2, true), (2, 1, false)]),
  (95, .st 3 [.v (.int .i64 0), .v (.int .i64 0), .nil 3] [(0, 2, true), (2, 1, true)]),
  (96, .st 3 [.v (.int .i64 0), .v (.int .i64 0), .nil 3] [(0, 2, true), (2, 1, true)]),
  (107, .sl 1 false [.v (.int .i64 0)]),
  (116, .sl 3 true [.v (.int .i64 0), .v (.int .i64 0), .nil 3]),
  (127, .st 4 [.v (.int .i64 0), .v (.int .i64 0), .v (.int .i64 0), .v (.int .i64 0)] [(0, 2, true), (2, 1, false), (3, 1, false)]),
  (128, .st 4 [.v (.int .i64 0), .v (.int .i64 0), .v (.int .i64 0), .v (.int .i64 0)] [(0, 2, true), (2, 1, false), (3, 1, false)]),
  (130, .sl 2 true [.v (.int .i64 0), .v (.int .i64 0)]),
  (133, .int .u64),
  (134, .st 3 [.v (.bool false), .v (.int .u64 0), .v (.int .u64 0)] [(0, 1, false), (1, 1, false), (2, 1, false)]),
  (135, .st 3 [.v (.bool false), .v (.int .u64 0), .v (.int .u64 0)] [(0, 1, false), (1, 1, false), (2, 1, false)]),
  (143, .st 2 [.v (.int .i64 0), .v (.int .u64 0)] [(0, 1, false), (1, 1, false)]),
  (144, .st 2 [.v (.int .i64 0), .v (.int .u64 0)] [(0, 1, false), (1, 1, false)]),
  (146, .ar 2 [.v (.int .i64 0), .v (.int .i64 0)] 2 1 false),
  (147, .ar 4 [.v (.int .i64 0), .v (.int .i64 0), .v (.int .i64 0), .v (.int .i64 0)] 2 2 true),
  (172, .sl 1 false [.v (.int .i64 0)]),
  (176, .st 3 [.v (.bool false), .v (.int .u64 0), .v (.int .u64 0)] [(0, 1, false), (1, 1, false), (2, 1, false)]),
  (177, .st 3 [.v (.bool false), .v (.int .u64 0), .v (.int .u64 0)] [(0, 1, false), (1, 1, false), (2, 1, false)]),
  (189, .int .u64),
  (235, .int .i64),
  (242, .int .u32),
  (250, .int .u64),
  (270, .st 4 [.v (.pointer none), .v (.pointer none), .v (.pointer none), .v (.string "".toUTF8)] [(0, 1, false), (1, 1, false), (2, 1, false), (3, 1, false)])]
theorem ty_all : TysOK Tryz.prog Ty := ⟨⟨Tryz.sizeOf2, Tryz.isAgg2, ⟨_, Tryz.zeroValue2, fun _ _ => ⟨.v _ rfl (wfB_iff rfl), trivial⟩⟩, Tryz.underlying2⟩,
  ⟨Tryz.sizeOf3, Tryz.isAgg3, ⟨_, Tryz.zeroValue3, fun _ _ => ⟨.v _ rfl (wfB_iff rfl), trivial⟩⟩, Tryz.underlying3⟩,
  ⟨Tryz.sizeOf4, Tryz.isAgg4, ⟨_, Tryz.zeroValue4, fun _ _ => ⟨.v _ rfl (wfB_iff rfl), trivial⟩⟩, Tryz.underlying4⟩,
  ⟨Tryz.sizeOf5, Tryz.isAgg5, ⟨_, Tryz.zeroValue5, fun _ _ => ⟨.v _ rfl (wfB_iff rfl), trivial⟩⟩, Tryz.underlying5⟩,
  ⟨Tryz.sizeOf9, Tryz.isAgg9, ⟨_, Tryz.zeroValue9, fun _ _ => ⟨.v _ rfl (wfB_iff rfl), trivial⟩⟩, trivial⟩,
  ⟨Tryz.sizeOf12, Tryz.isAgg12, ⟨_, Tryz.zeroValue12, fun _ _ => ⟨.v _ rfl (wfB_iff rfl), trivial⟩⟩, Tryz.underlying12⟩,
  ⟨Tryz.sizeOf21, Tryz.isAgg21, ⟨_, Tryz.zeroValue21, fun _ _ => ⟨.v _ rfl (wfB_iff rfl), trivial⟩⟩, Tryz.underlying21⟩,
  ⟨Tryz.sizeOf22, Tryz.isAgg22, ⟨_, Tryz.zeroValue22, fun _ _ => ⟨.v _ rfl (wfB_iff rfl), .v _ rfl (wfB_iff rfl), trivial⟩⟩, st_ty Tryz.underlying22 rfl ⟨rfl, Tryz.sizeOf2, Tryz.isAgg2, rfl, Tryz.sizeOf2, Tryz.isAgg2, trivial⟩⟩,
  ⟨Tryz.sizeOf23, Tryz.isAgg23, ⟨_, Tryz.zeroValue23, fun _ _ => ⟨.v _ rfl (wfB_iff rfl), .v _ rfl (wfB_iff rfl), trivial⟩⟩, st_ty Tryz.underlying23 rfl ⟨rfl, Tryz.sizeOf2, Tryz.isAgg2, rfl, Tryz.sizeOf2, Tryz.isAgg2, trivial⟩⟩,
  ⟨Tryz.sizeOf24, Tryz.isAgg24, ⟨_, Tryz.zeroValue24, fun _ _ => ⟨.nl _, trivial⟩⟩, sl_ty Tryz.underlying24 Tryz.sizeOf30 Tryz.isAgg30 Tryz.zeroValue30 rfl (show Tryz.prog.info? 30 = some Tryz.t30 by kernel_rfl) rfl rfl rfl (fun _ _ => ⟨.v _ rfl (wfB_iff rfl), .v _ rfl (wfB_iff rfl), .v _ rfl (wfB_iff rfl), trivial⟩) rfl⟩,
  ⟨Tryz.sizeOf25, Tryz.isAgg25, ⟨_, Tryz.zeroValue25, fun _ _ => ⟨.nl _, trivial⟩⟩, st_ty Tryz.underlying25 rfl ⟨rfl, Tryz.sizeOf24, Tryz.isAgg24, trivial⟩⟩,
  ⟨Tryz.sizeOf26, Tryz.isAgg26, ⟨_, Tryz.zeroValue26, fun _ _ => ⟨.nl _, trivial⟩⟩, st_ty Tryz.underlying26 rfl ⟨rfl, Tryz.sizeOf24, Tryz.isAgg24, trivial⟩⟩,
  ⟨Tryz.sizeOf27, Tryz.isAgg27, ⟨_, Tryz.zeroValue27, fun _ _ => ⟨.v _ rfl (wfB_iff rfl), .v _ rfl (wfB_iff rfl), .nl _, trivial⟩⟩, st_ty Tryz.underlying27 rfl ⟨rfl, Tryz.sizeOf23, Tryz.isAgg23, rfl, Tryz.sizeOf26, Tryz.isAgg26, trivial⟩⟩,
  ⟨Tryz.sizeOf28, Tryz.isAgg28, ⟨_, Tryz.zeroValue28, fun _ _ => ⟨.v _ rfl (wfB_iff rfl), .v _ rfl (wfB_iff rfl), .nl _, trivial⟩⟩, st_ty Tryz.underlying28 rfl ⟨rfl, Tryz.sizeOf23, Tryz.isAgg23, rfl, Tryz.sizeOf26, Tryz.isAgg26, trivial⟩⟩,
  ⟨Tryz.sizeOf29, Tryz.isAgg29, ⟨_, Tryz.zeroValue29, fun _ _ => ⟨.v _ rfl (wfB_iff rfl), .v _ rfl (wfB_iff rfl), .v _ rfl (wfB_iff rfl), trivial⟩⟩, st_ty Tryz.underlying29 rfl ⟨rfl, Tryz.sizeOf3, Tryz.isAgg3, rfl, Tryz.sizeOf2, Tryz.isAgg2, rfl, Tryz.sizeOf2, Tryz.isAgg2, trivial⟩⟩,
  ⟨Tryz.sizeOf30, Tryz.isAgg30, ⟨_, Tryz.zeroValue30, fun _ _ => ⟨.v _ rfl (wfB_iff rfl), .v _ rfl (wfB_iff rfl), .v _ rfl (wfB_iff rfl), trivial⟩⟩, st_ty Tryz.underlying30 rfl ⟨rfl, Tryz.sizeOf3, Tryz.isAgg3, rfl, Tryz.sizeOf2, Tryz.isAgg2, rfl, Tryz.sizeOf2, Tryz.isAgg2, trivial⟩⟩,
  ⟨Tryz.sizeOf31, Tryz.isAgg31, ⟨_, Tryz.zeroValue31, fun _ _ => ⟨.v _ rfl (wfB_iff rfl), .v _ rfl (wfB_iff rfl), .v _ rfl (wfB_iff rfl), .v _ rfl (wfB_iff rfl), .v _ rfl (wfB_iff rfl), .v _ rfl (wfB_iff rfl), .v _ rfl (wfB_iff rfl), trivial⟩⟩, st_ty Tryz.underlying31 rfl ⟨rfl, Tryz.sizeOf5, Tryz.isAgg5, rfl, Tryz.sizeOf30, Tryz.isAgg30, rfl, Tryz.sizeOf3, Tryz.isAgg3, rfl, Tryz.sizeOf23, Tryz.isAgg23, trivial⟩⟩,
  ⟨Tryz.sizeOf32, Tryz.isAgg32, ⟨_, Tryz.zeroValue32, fun _ _ => ⟨.v _ rfl (wfB_iff rfl), .v _ rfl (wfB_iff rfl), .v _ rfl (wfB_iff rfl), .v _ rfl (wfB_iff rfl), .v _ rfl (wfB_iff rfl), .v _ rfl (wfB_iff rfl), .v _ rfl (wfB_iff rfl), trivial⟩⟩, st_ty Tryz.underlying32 rfl ⟨rfl, Tryz.sizeOf5, Tryz.isAgg5, rfl, Tryz.sizeOf30, Tryz.isAgg30, rfl, Tryz.sizeOf3, Tryz.isAgg3, rfl, Tryz.sizeOf23, Tryz.isAgg23, trivial⟩⟩,
  ⟨Tryz.sizeOf35, Tryz.isAgg35, ⟨_, Tryz.zeroValue35, fun _ _ => ⟨.v _ rfl (wfB_iff rfl), trivial⟩⟩, Tryz.underlying35⟩,
  ⟨Tryz.sizeOf40, Tryz.isAgg40, ⟨_, Tryz.zeroValue40, fun _ _ => ⟨.nl _, trivial⟩⟩, sl_ty Tryz.underlying40 Tryz.sizeOf128 Tryz.isAgg128 Tryz.zeroValue128 rfl (show Tryz.prog.info? 128 = some Tryz.t128 by kernel_rfl) rfl rfl rfl (fun _ _ => ⟨.v _ rfl (wfB_iff rfl), .v _ rfl (wfB_iff rfl), .v _ rfl (wfB_iff rfl), .v _ rfl (wfB_iff rfl), trivial⟩) rfl⟩,
  ⟨Tryz.sizeOf41, Tryz.isAgg41, ⟨_, Tryz.zeroValue41, fun _ _ => ⟨.v _ rfl (wfB_iff rfl), .v _ rfl (wfB_iff rfl), .v _ rfl (wfB_iff rfl), .v _ rfl (wfB_iff rfl), .v _ rfl (wfB_iff rfl), .nl _, trivial⟩⟩, st_ty Tryz.underlying41 rfl ⟨rfl, Tryz.sizeOf35, Tryz.isAgg35, rfl, Tryz.sizeOf3, Tryz.isAgg3, rfl, Tryz.sizeOf3, Tryz.isAgg3, rfl, Tryz.sizeOf23, Tryz.isAgg23, rfl, Tryz.sizeOf40, Tryz.isAgg40, trivial⟩⟩,
  ⟨Tryz.sizeOf42, Tryz.isAgg42, ⟨_, Tryz.zeroValue42, fun _ _ => ⟨.v _ rfl (wfB_iff rfl), .v _ rfl (wfB_iff rfl), .v _ rfl (wfB_iff rfl), .v _ rfl (wfB_iff rfl), .v _ rfl (wfB_iff rfl), .nl _, trivial⟩⟩, st_ty Tryz.underlying42 rfl ⟨rfl, Tryz.sizeOf35, Tryz.isAgg35, rfl, Tryz.sizeOf3, Tryz.isAgg3, rfl, Tryz.sizeOf3, Tryz.isAgg3, rfl, Tryz.sizeOf23, Tryz.isAgg23, rfl, Tryz.sizeOf40, Tryz.isAgg40, trivial⟩⟩,
  ⟨Tryz.sizeOf52, Tryz.isAgg52, ⟨_, Tryz.zeroValue52, fun _ _ => ⟨.nl _, trivial⟩⟩, sl_ty Tryz.underlying52 Tryz.sizeOf32 Tryz.isAgg32 Tryz.zeroValue32 rfl (show Tryz.prog.info? 32 = some Tryz.t32 by kernel_rfl) rfl rfl rfl (fun _ _ => ⟨.v _ rfl (wfB_iff rfl), .v _ rfl (wfB_iff rfl), .v _ rfl (wfB_iff rfl), .v _ rfl (wfB_iff rfl), .v _ rfl (wfB_iff rfl), .v _ rfl (wfB_iff rfl), .v _ rfl (wfB_iff rfl), trivial⟩) rfl⟩,
  ⟨Tryz.sizeOf56, Tryz.isAgg56, ⟨_, Tryz.zeroValue56, fun _ _ => ⟨.nl _, trivial⟩⟩, sl_ty Tryz.underlying56 Tryz.sizeOf42 Tryz.isAgg42 Tryz.zeroValue42 rfl (show Tryz.prog.info? 42 = some Tryz.t42 by kernel_rfl) rfl rfl rfl (fun _ _ => ⟨.v _ rfl (wfB_iff rfl), .v _ rfl (wfB_iff rfl), .v _ rfl (wfB_iff rfl), .v _ rfl (wfB_iff rfl), .v _ rfl (wfB_iff rfl), .nl _, trivial⟩) rfl⟩,
  ⟨Tryz.sizeOf62, Tryz.isAgg62, ⟨_, Tryz.zeroValue62, fun _ _ => ⟨.nl _, trivial⟩⟩, sl_ty Tryz.underlying62 Tryz.sizeOf28 Tryz.isAgg28 Tryz.zeroValue28 rfl (show Tryz.prog.info? 28 = some Tryz.t28 by kernel_rfl) rfl rfl rfl (fun _ _ => ⟨.v _ rfl (wfB_iff rfl), .v _ rfl (wfB_iff rfl), .nl _, trivial⟩) rfl⟩,
  ⟨Tryz.sizeOf84, Tryz.isAgg84, ⟨_, Tryz.zeroValue84, fun _ _ => ⟨.nl _, trivial⟩⟩, sl_ty Tryz.underlying84 Tryz.sizeOf96 Tryz.isAgg96 Tryz.zeroValue96 rfl (show Tryz.prog.info? 96 = some Tryz.t96 by kernel_rfl) rfl rfl rfl (fun _ _ => ⟨.v _ rfl (wfB_iff rfl), .v _ rfl (wfB_iff rfl), .nl _, trivial⟩) rfl⟩,
  ⟨Tryz.sizeOf85, Tryz.isAgg85, ⟨_, Tryz.zeroValue85, fun _ _ => ⟨.v _ rfl (wfB_iff rfl), .v _ rfl (wfB_iff rfl), .nl _, trivial⟩⟩, st_ty Tryz.underlying85 rfl ⟨rfl, Tryz.sizeOf23, Tryz.isAgg23, rfl, Tryz.sizeOf84, Tryz.isAgg84, trivial⟩⟩,
  ⟨Tryz.sizeOf86, Tryz.isAgg86, ⟨_, Tryz.zeroValue86, fun _ _ => ⟨.v _ rfl (wfB_iff rfl), .v _ rfl (wfB_iff rfl), .nl _, trivial⟩⟩, st_ty Tryz.underlying86 rfl ⟨rfl, Tryz.sizeOf23, Tryz.isAgg23, rfl, Tryz.sizeOf84, Tryz.isAgg84, trivial⟩⟩,
  ⟨Tryz.sizeOf95, Tryz.isAgg95, ⟨_, Tryz.zeroValue95, fun _ _ => ⟨.v _ rfl (wfB_iff rfl), .v _ rfl (wfB_iff rfl), .nl _, trivial⟩⟩, st_ty Tryz.underlying95 rfl ⟨rfl, Tryz.sizeOf23, Tryz.isAgg23, rfl, Tryz.sizeOf26, Tryz.isAgg26, trivial⟩⟩,
  ⟨Tryz.sizeOf96, Tryz.isAgg96, ⟨_, Tryz.zeroValue96, fun _ _ => ⟨.v _ rfl (wfB_iff rfl), .v _ rfl (wfB_iff rfl), .nl _, trivial⟩⟩, st_ty Tryz.underlying96 rfl ⟨rfl, Tryz.sizeOf23, Tryz.isAgg23, rfl, Tryz.sizeOf26, Tryz.isAgg26, trivial⟩⟩,
  ⟨Tryz.sizeOf107, Tryz.isAgg107, ⟨_, Tryz.zeroValue107, fun _ _ => ⟨.nl _, trivial⟩⟩, sl_ty Tryz.underlying107 Tryz.sizeOf3 Tryz.isAgg3 Tryz.zeroValue3 rfl (show Tryz.prog.info? 3 = some Tryz.t3 by kernel_rfl) rfl rfl rfl (fun _ _ => ⟨.v _ rfl (wfB_iff rfl), trivial⟩) rfl⟩,
  ⟨Tryz.sizeOf116, Tryz.isAgg116, ⟨_, Tryz.zeroValue116, fun _ _ => ⟨.nl _, trivial⟩⟩, sl_ty Tryz.underlying116 Tryz.sizeOf86 Tryz.isAgg86 Tryz.zeroValue86 rfl (show Tryz.prog.info? 86 = some Tryz.t86 by kernel_rfl) rfl rfl rfl (fun _ _ => ⟨.v _ rfl (wfB_iff rfl), .v _ rfl (wfB_iff rfl), .nl _, trivial⟩) rfl⟩,
  ⟨Tryz.sizeOf127, Tryz.isAgg127, ⟨_, Tryz.zeroValue127, fun _ _ => ⟨.v _ rfl (wfB_iff rfl), .v _ rfl (wfB_iff rfl), .v _ rfl (wfB_iff rfl), .v _ rfl (wfB_iff rfl), trivial⟩⟩, st_ty Tryz.underlying127 rfl ⟨rfl, Tryz.sizeOf23, Tryz.isAgg23, rfl, Tryz.sizeOf3, Tryz.isAgg3, rfl, Tryz.sizeOf3, Tryz.isAgg3, trivial⟩⟩,
  ⟨Tryz.sizeOf128, Tryz.isAgg128, ⟨_, Tryz.zeroValue128, fun _ _ => ⟨.v _ rfl (wfB_iff rfl), .v _ rfl (wfB_iff rfl), .v _ rfl (wfB_iff rfl), .v _ rfl (wfB_iff rfl), trivial⟩⟩, st_ty Tryz.underlying128 rfl ⟨rfl, Tryz.sizeOf23, Tryz.isAgg23, rfl, Tryz.sizeOf3, Tryz.isAgg3, rfl, Tryz.sizeOf3, Tryz.isAgg3, trivial⟩⟩,
  ⟨Tryz.sizeOf130, Tryz.isAgg130, ⟨_, Tryz.zeroValue130, fun _ _ => ⟨.nl _, trivial⟩⟩, sl_ty Tryz.underlying130 Tryz.sizeOf23 Tryz.isAgg23 Tryz.zeroValue23 rfl (show Tryz.prog.info? 23 = some Tryz.t23 by kernel_rfl) rfl rfl rfl (fun _ _ => ⟨.v _ rfl (wfB_iff rfl), .v _ rfl (wfB_iff rfl), trivial⟩) rfl⟩,
  ⟨Tryz.sizeOf133, Tryz.isAgg133, ⟨_, Tryz.zeroValue133, fun _ _ => ⟨.v _ rfl (wfB_iff rfl), trivial⟩⟩, Tryz.underlying133⟩,
  ⟨Tryz.sizeOf134, Tryz.isAgg134, ⟨_, Tryz.zeroValue134, fun _ _ => ⟨.v _ rfl (wfB_iff rfl), .v _ rfl (wfB_iff rfl), .v _ rfl (wfB_iff rfl), trivial⟩⟩, st_ty Tryz.underlying134 rfl ⟨rfl, Tryz.sizeOf4, Tryz.isAgg4, rfl, Tryz.sizeOf133, Tryz.isAgg133, rfl, Tryz.sizeOf133, Tryz.isAgg133, trivial⟩⟩,
  ⟨Tryz.sizeOf135, Tryz.isAgg135, ⟨_, Tryz.zeroValue135, fun _ _ => ⟨.v _ rfl (wfB_iff rfl), .v _ rfl (wfB_iff rfl), .v _ rfl (wfB_iff rfl), trivial⟩⟩, st_ty Tryz.underlying135 rfl ⟨rfl, Tryz.sizeOf4, Tryz.isAgg4, rfl, Tryz.sizeOf133, Tryz.isAgg133, rfl, Tryz.sizeOf133, Tryz.isAgg133, trivial⟩⟩,
  ⟨Tryz.sizeOf143, Tryz.isAgg143, ⟨_, Tryz.zeroValue143, fun _ _ => ⟨.v _ rfl (wfB_iff rfl), .v _ rfl (wfB_iff rfl), trivial⟩⟩, st_ty Tryz.underlying143 rfl ⟨rfl, Tryz.sizeOf2, Tryz.isAgg2, rfl, Tryz.sizeOf133, Tryz.isAgg133, trivial⟩⟩,
  ⟨Tryz.sizeOf144, Tryz.isAgg144, ⟨_, Tryz.zeroValue144, fun _ _ => ⟨.v _ rfl (wfB_iff rfl), .v _ rfl (wfB_iff rfl), trivial⟩⟩, st_ty Tryz.underlying144 rfl ⟨rfl, Tryz.sizeOf2, Tryz.isAgg2, rfl, Tryz.sizeOf133, Tryz.isAgg133, trivial⟩⟩,
  ⟨Tryz.sizeOf146, Tryz.isAgg146, ⟨_, Tryz.zeroValue146, fun _ _ => ⟨.v _ rfl (wfB_iff rfl), .v _ rfl (wfB_iff rfl), trivial⟩⟩, ⟨_, Tryz.underlying146, Tryz.sizeOf2, Tryz.isAgg2⟩⟩,
  ⟨Tryz.sizeOf147, Tryz.isAgg147, ⟨_, Tryz.zeroValue147, fun _ _ => ⟨.v _ rfl (wfB_iff rfl), .v _ rfl (wfB_iff rfl), .v _ rfl (wfB_iff rfl), .v _ rfl (wfB_iff rfl), trivial⟩⟩, ⟨_, Tryz.underlying147, Tryz.sizeOf146, Tryz.isAgg146⟩⟩,
  ⟨Tryz.sizeOf172, Tryz.isAgg172, ⟨_, Tryz.zeroValue172, fun _ _ => ⟨.nl _, trivial⟩⟩, sl_ty Tryz.underlying172 Tryz.sizeOf35 Tryz.isAgg35 Tryz.zeroValue35 rfl (show Tryz.prog.info? 35 = some Tryz.t35 by kernel_rfl) rfl rfl rfl (fun _ _ => ⟨.v _ rfl (wfB_iff rfl), trivial⟩) rfl⟩,
  ⟨Tryz.sizeOf176, Tryz.isAgg176, ⟨_, Tryz.zeroValue176, fun _ _ => ⟨.v _ rfl (wfB_iff rfl), .v _ rfl (wfB_iff rfl), .v _ rfl (wfB_iff rfl), trivial⟩⟩, st_ty Tryz.underlying176 rfl ⟨rfl, Tryz.sizeOf4, Tryz.isAgg4, rfl, Tryz.sizeOf133, Tryz.isAgg133, rfl, Tryz.sizeOf133, Tryz.isAgg133, trivial⟩⟩,
  ⟨Tryz.sizeOf177, Tryz.isAgg177, ⟨_, Tryz.zeroValue177, fun _ _ => ⟨.v _ rfl (wfB_iff rfl), .v _ rfl (wfB_iff rfl), .v _ rfl (wfB_iff rfl), trivial⟩⟩, st_ty Tryz.underlying177 rfl ⟨rfl, Tryz.sizeOf4, Tryz.isAgg4, rfl, Tryz.sizeOf133, Tryz.isAgg133, rfl, Tryz.sizeOf133, Tryz.isAgg133, trivial⟩⟩,
  ⟨Tryz.sizeOf189, Tryz.isAgg189, ⟨_, Tryz.zeroValue189, fun _ _ => ⟨.v _ rfl (wfB_iff rfl), trivial⟩⟩, Tryz.underlying189⟩,
  ⟨Tryz.sizeOf235, Tryz.isAgg235, ⟨_, Tryz.zeroValue235, fun _ _ => ⟨.v _ rfl (wfB_iff rfl), trivial⟩⟩, Tryz.underlying235⟩,
  ⟨Tryz.sizeOf242, Tryz.isAgg242, ⟨_, Tryz.zeroValue242, fun _ _ => ⟨.v _ rfl (wfB_iff rfl), trivial⟩⟩, Tryz.underlying242⟩,
  ⟨Tryz.sizeOf250, Tryz.isAgg250, ⟨_, Tryz.zeroValue250, fun _ _ => ⟨.v _ rfl (wfB_iff rfl), trivial⟩⟩, Tryz.underlying250⟩,
  ⟨Tryz.sizeOf270, Tryz.isAgg270, ⟨_, Tryz.zeroValue270, fun _ _ => ⟨.v _ rfl (wfB_iff rfl), .v _ rfl (wfB_iff rfl), .v _ rfl (wfB_iff rfl), .v _ rfl (wfB_iff rfl), trivial⟩⟩, st_ty Tryz.underlying270 rfl ⟨rfl, Tryz.sizeOf17, Tryz.isAgg17, rfl, Tryz.sizeOf17, Tryz.isAgg17, rfl, Tryz.sizeOf17, Tryz.isAgg17, rfl, Tryz.sizeOf9, Tryz.isAgg9, trivial⟩⟩, trivial⟩
theorem ty_okK (K mu co me : List Nat) : ΓOK Tryz.prog ⟨Ty, K, mu, co, me, false⟩ := tys_ok ty_all
theorem ty_okD : ΓOK Tryz.prog ⟨Ty, [], [], [], [], true⟩ := tys_ok ty_all
theorem ty_ok : ΓOK Tryz.prog ⟨Ty, [], [], [], [], false⟩ := tys_ok ty_all
theorem eqv23 (a0 b0 : Int) (a1 b1 : Int) (x y : Operand) (w : World) : (do eqGuard .eql 23 x y (.agg #[.int .i64 a0, .int .i64 a1]) (.agg #[.int .i64 b0, .int .i64 b1]); binOp .eql 23 (.agg #[.int .i64 a0, .int .i64 a1]) (.agg #[.int .i64 b0, .int .i64 b1]) : Sem Value).run Tryz.prog w = .ok (.bool (decide (a0 = b0 ∧ a1 = b1))) w := by
  by_cases h0 : a0 = b0
  · skip
    by_cases h1 : a1 = b1
    · skip
      simp [go_sem, eqGuard, binOp, Op.equal, Op.maxDepth, h0, h1]
    · simp [go_sem, eqGuard, binOp, Op.equal, Op.maxDepth, h0, h1]
  · simp [go_sem, eqGuard, binOp, Op.equal, Op.maxDepth, h0]
theorem nev23 (a0 b0 : Int) (a1 b1 : Int) (x y : Operand) (w : World) : (do eqGuard .neq 23 x y (.agg #[.int .i64 a0, .int .i64 a1]) (.agg #[.int .i64 b0, .int .i64 b1]); binOp .neq 23 (.agg #[.int .i64 a0, .int .i64 a1]) (.agg #[.int .i64 b0, .int .i64 b1]) : Sem Value).run Tryz.prog w = .ok (.bool (decide (¬ (a0 = b0 ∧ a1 = b1)))) w := by
  by_cases h0 : a0 = b0
  · skip
    by_cases h1 : a1 = b1
    · skip
      simp [go_sem, eqGuard, binOp, Op.equal, Op.maxDepth, h0, h1]
    · simp [go_sem, eqGuard, binOp, Op.equal, Op.maxDepth, h0, h1]
  · simp [go_sem, eqGuard, binOp, Op.equal, Op.maxDepth, h0]
theorem nev30 (a0 b0 : Int) (a1 b1 : Int) (a2 b2 : Int) (x y : Operand) (w : World) : (do eqGuard .neq 30 x y (.agg #[.int .i64 a0, .int .i64 a1, .int .i64 a2]) (.agg #[.int .i64 b0, .int .i64 b1, .int .i64 b2]); binOp .neq 30 (.agg #[.int .i64 a0, .int .i64 a1, .int .i64 a2]) (.agg #[.int .i64 b0, .int .i64 b1, .int .i64 b2]) : Sem Value).run Tryz.prog w = .ok (.bool (decide (¬ (a0 = b0 ∧ a1 = b1 ∧ a2 = b2)))) w := by
  by_cases h0 : a0 = b0
  · skip
    by_cases h1 : a1 = b1
    · skip
      by_cases h2 : a2 = b2
      · skip
        simp [go_sem, eqGuard, binOp, Op.equal, Op.maxDepth, h0, h1, h2]
      · simp [go_sem, eqGuard, binOp, Op.equal, Op.maxDepth, h0, h1, h2]
    · simp [go_sem, eqGuard, binOp, Op.equal, Op.maxDepth, h0, h1]
  · simp [go_sem, eqGuard, binOp, Op.equal, Op.maxDepth, h0]
theorem eqv32 (a0 b0 : Int) (a1 b1 : Int) (a2 b2 : Int) (a3 b3 : Int) (a4 b4 : Int) (a5 b5 : Int) (a6 b6 : Int) (x y : Operand) (w : World) : (do eqGuard .eql 32 x y (.agg #[.int .u8 a0, .int .i64 a1, .int .i64 a2, .int .i64 a3, .int .i64 a4, .int .i64 a5, .int .i64 a6]) (.agg #[.int .u8 b0, .int .i64 b1, .int .i64 b2, .int .i64 b3, .int .i64 b4, .int .i64 b5, .int .i64 b6]); binOp .eql 32 (.agg #[.int .u8 a0, .int .i64 a1, .int .i64 a2, .int .i64 a3, .int .i64 a4, .int .i64 a5, .int .i64 a6]) (.agg #[.int .u8 b0, .int .i64 b1, .int .i64 b2, .int .i64 b3, .int .i64 b4, .int .i64 b5, .int .i64 b6]) : Sem Value).run Tryz.prog w = .ok (.bool (decide (a0 = b0 ∧ a1 = b1 ∧ a2 = b2 ∧ a3 = b3 ∧ a4 = b4 ∧ a5 = b5 ∧ a6 = b6))) w := by
  by_cases h0 : a0 = b0
  · skip
    by_cases h1 : a1 = b1
    · skip
      by_cases h2 : a2 = b2
      · skip
        by_cases h3 : a3 = b3
        · skip
          by_cases h4 : a4 = b4
          · skip
            by_cases h5 : a5 = b5
            · skip
              by_cases h6 : a6 = b6
              · skip
                simp [go_sem, eqGuard, binOp, Op.equal, Op.maxDepth, h0, h1, h2, h3, h4, h5, h6]
              · simp [go_sem, eqGuard, binOp, Op.equal, Op.maxDepth, h0, h1, h2, h3, h4, h5, h6]
            · simp [go_sem, eqGuard, binOp, Op.equal, Op.maxDepth, h0, h1, h2, h3, h4, h5]
          · simp [go_sem, eqGuard, binOp, Op.equal, Op.maxDepth, h0, h1, h2, h3, h4]
        · simp [go_sem, eqGuard, binOp, Op.equal, Op.maxDepth, h0, h1, h2, h3]
      · simp [go_sem, eqGuard, binOp, Op.equal, Op.maxDepth, h0, h1, h2]
    · simp [go_sem, eqGuard, binOp, Op.equal, Op.maxDepth, h0, h1]
  · simp [go_sem, eqGuard, binOp, Op.equal, Op.maxDepth, h0]
theorem nev144 (a0 b0 : Int) (a1 b1 : Int) (x y : Operand) (w : World) : (do eqGuard .neq 144 x y (.agg #[.int .i64 a0, .int .u64 a1]) (.agg #[.int .i64 b0, .int .u64 b1]); binOp .neq 144 (.agg #[.int .i64 a0, .int .u64 a1]) (.agg #[.int .i64 b0, .int .u64 b1]) : Sem Value).run Tryz.prog w = .ok (.bool (decide (¬ (a0 = b0 ∧ a1 = b1)))) w := by
  by_cases h0 : a0 = b0
  · skip
    by_cases h1 : a1 = b1
    · skip
      simp [go_sem, eqGuard, binOp, Op.equal, Op.maxDepth, h0, h1]
    · simp [go_sem, eqGuard, binOp, Op.equal, Op.maxDepth, h0, h1]
  · simp [go_sem, eqGuard, binOp, Op.equal, Op.maxDepth, h0]
end Sx
end Go.Proofs.YtnhljlihchegjaaGreat

/- What the small functions of package ratio compute, step by step (walks): gcd, abs, Check, Asked, both, times, compare. For every argument that is a number of its type. -/
namespace Go.Proofs.YtnhljlihchegjaaGreat
open Go.RowKit Go.Sort
theorem gcd_any (a b : Nat) (w : World) :
    Calls Tryz.prog 124 #[.int .u64 a, .int .u64 b] w fun e w' => e = .returned (.int .u64 (Nat.gcd a b : Nat)) ∧ Below w.heap.size w w' := by
  go_enter Tryz.func124, Tryz.ntmps124
  go_wp2
  go_loopw [0, 1] (fun x y wr => ∃ n m : Nat, x = .int .u64 n ∧ y = .int .u64 m ∧ Hid (Nat.gcd n m = Nat.gcd a b) ∧ Below w.heap.size w wr) (fun _ y _ => (intOf y).toNat)
  case atStart => exact ⟨a, b, rfl, rfl, Lib.hid rfl, Below.refl _ _⟩
  case round =>
    obtain ⟨n, m, rfl, rfl, hg, hb⟩ := hrel
    by_cases h0 : 0 < m
    · go_wp2
      go_quiet (fail)
      go_wp2
      have hlt := Nat.mod_lt n h0
      refine ⟨⟨m, n % m, rfl, by simp, Lib.hid ?_, below_drewN hb _⟩, ?_⟩
      · rw [← hg.out, Nat.gcd_comm n m, Nat.gcd_rec m n, Nat.gcd_comm]
      · show ((n : Int) % (m : Int)).toNat < ((m : Int)).toNat
        omega
    · go_wp2
      go_ret
      refine ⟨ret_int ?_, hb⟩
      rw [← hg.out]
      obtain rfl : m = 0 := by omega
      simp
theorem abs_any (n : Int) (w : World) (h0 : -9223372036854775808 ≤ n) (h1 : n ≤ 9223372036854775807) :
    Calls Tryz.prog 99 #[.int .i64 n] w fun e w' => e = .returned (.int .u64 (n.natAbs : Nat)) ∧ Below w.heap.size w w' := by
  have HW : Hid (n < 0 → IntKind.u64.wrap (-IntKind.u64.wrap n) = (n.natAbs : Nat)) := Lib.hid (by
    intro hn
    rw [IntKind.wrap_u64, IntKind.wrap_u64]
    omega)
  by_cases hn : n < 0
  · go_enter Tryz.func99, Tryz.ntmps99
    go_wp2
    go_ret
    exact ⟨ret_int (HW.out hn), Below.refl _ _⟩
  · go_enter Tryz.func99, Tryz.ntmps99
    go_wp2
    go_ret
    refine ⟨ret_int ?_, Below.refl _ _⟩
    omega
def chk (n d : Int) : Int := if d < 1 ∨ n = -9223372036854775808 ∨ 1 < Nat.gcd d.toNat n.natAbs then 8 else 0
theorem check_any (n d : Int) (w : World) (h0 : -9223372036854775808 ≤ n) (h1 : n ≤ 9223372036854775807) (h2 : -9223372036854775808 ≤ d) (h3 : d ≤ 9223372036854775807) :
    Calls Tryz.prog 83 #[.agg #[.int .i64 n, .int .i64 d]] w fun e w' => e = .returned (.int .i64 (chk n d)) ∧ Below w.heap.size w w' := by
  by_cases hd : d < 1
  · have hch : chk n d = 8 := by unfold chk; rw [if_pos (.inl hd)]
    rw [hch]
    go_enter Tryz.func83, Tryz.ntmps83
    go_wp2
    refine wp_region_quiet_below (by kernel_rfl) (by kernel_rfl) ?_
    repeat (go_big_quiet_step (fail))
    refine wpQuiet_nil ?_
    intro _ hw'
    obtain ⟨⟨dq, osq⟩, hw''⟩ := hw'
    subst hw''
    go_wp2
    go_ret
    exact ⟨rfl, below_reg (below_alloc (Below.refl _ _) _) _ _⟩
  · have hdf : decide (d < 1) = false := by simpa using hd
    by_cases hm : n = -9223372036854775808
    · have hch : chk n d = 8 := by unfold chk; rw [if_pos (.inr (.inl hm))]
      rw [hch]
      have hmb : (n == -9223372036854775808) = true := by simpa using hm
      clear hm
      go_enter Tryz.func83, Tryz.ntmps83
      go_wp2
      refine wp_region_quiet_below (by kernel_rfl) (by kernel_rfl) ?_
      repeat (go_big_quiet_step (fail))
      refine wpQuiet_nil ?_
      intro _ hw'
      obtain ⟨⟨dq, osq⟩, hw''⟩ := hw'
      subst hw''
      go_wp2
      go_ret
      exact ⟨rfl, below_reg (below_alloc (Below.refl _ _) _) _ _⟩
    · have hmb : (n == -9223372036854775808) = false := by simpa using hm
      obtain ⟨e, rfl⟩ := Int.eq_ofNat_of_zero_le (show 0 ≤ d by omega)
      by_cases hg : 1 < Nat.gcd e n.natAbs
      · have hch : chk n e = 8 := by unfold chk; rw [if_pos (.inr (.inr (by simpa using hg)))]
        rw [hch]
        clear hm
        go_enter Tryz.func83, Tryz.ntmps83
        go_wp2
        refine wp_region_quiet_below (by kernel_rfl) (by kernel_rfl) ?_
        repeat (go_big_quiet_step (first | (go_at_call 99; (with_reducible refine Calls.regrown_of (abs_any _ _ ?_ ?_)); omega; omega) | (go_at_call 124; (with_reducible refine Calls.regrown_of (gcd_any _ _ _)))))
        refine wpQuiet_nil ?_
        intro _ hw'
        obtain ⟨⟨dq, osq⟩, hw''⟩ := hw'
        subst hw''
        go_wp2
        go_ret
        exact ⟨rfl, below_reg (below_alloc (Below.refl _ _) _) _ _⟩
      · have hch : chk n e = 0 := by unfold chk; rw [if_neg (by rintro (h | h | h) <;> first | omega | exact hm h | exact hg (by simpa using h))]
        rw [hch]
        clear hm
        go_enter Tryz.func83, Tryz.ntmps83
        go_wp2
        refine wp_region_quiet_below (by kernel_rfl) (by kernel_rfl) ?_
        repeat (go_big_quiet_step (first | (go_at_call 99; (with_reducible refine Calls.regrown_of (abs_any _ _ ?_ ?_)); omega; omega) | (go_at_call 124; (with_reducible refine Calls.regrown_of (gcd_any _ _ _)))))
        refine wpQuiet_nil ?_
        intro _ hw'
        obtain ⟨⟨dq, osq⟩, hw''⟩ := hw'
        subst hw''
        go_wp2
        go_ret
        exact ⟨rfl, below_reg (below_alloc (Below.refl _ _) _) _ _⟩
end Go.Proofs.YtnhljlihchegjaaGreat

/-
  DERIVED: THE SHELF's CONTRACTS AT THIS DUMP, IN PLAIN WORDS (tools/lay-plain.mjs out of 'TryzShelf.lean', which tools/lay-shelf.mjs wrote): THE SAME DECLARATIONS UNDER THE SAME NAMES: 'import', 'namespace', 'open', 'def', 'theorem' AND NOTHING ELSE: no command of the shelf's: FOR A HAND-IN. Each laying: the table of numbers ('.._ren') and one theorem, a field a fact of the dump's own or the kernel's comparison; each contract: ONE APPLICATION.
-/
namespace Go.Proofs
open Go.Shelf
def Tryz.lays134_ren : Go.Shelf.Ren := ⟨fun | 134 => 127 | 129 => 157 | n => n, fun | 53 => 133 | 3 => 3 | 4 => 4 | 46 => 189 | 5 => 5 | 9 => 9 | n => n, fun | n => n⟩
theorem Tryz.lays134 : Go.Proofs.Lays.n134 Tryz.prog Tryz.lays134_ren := {
  mixed := by kernel_rfl
  f129 := Tryz.func157.trans (congrArg some (by kernel_rfl))
  f134 := Tryz.func127.trans (congrArg some (by kernel_rfl))
  t3 := Tryz.underlying3
  a3 := Tryz.isAgg3
  z3 := Tryz.sizeOf3
  v3 := Tryz.zeroValue3
  t4 := Tryz.underlying4
  a4 := Tryz.isAgg4
  z4 := Tryz.sizeOf4
  v4 := Tryz.zeroValue4
  t5 := Tryz.underlying5
  a5 := Tryz.isAgg5
  z5 := Tryz.sizeOf5
  v5 := Tryz.zeroValue5
  t9 := Tryz.underlying9
  a9 := Tryz.isAgg9
  z9 := Tryz.sizeOf9
  v9 := Tryz.zeroValue9
  t46 := Tryz.underlying189
  a46 := Tryz.isAgg189
  z46 := Tryz.sizeOf189
  v46 := Tryz.zeroValue189
  t53 := Tryz.underlying133
  a53 := Tryz.isAgg133
  z53 := Tryz.sizeOf133
  v53 := Tryz.zeroValue133 }
/-- bits.LeadingZeros64: "LeadingZeros64 returns the number of leading zero bits in x; the result is 64 for x == 0.": IT RETURNS '64 - Lib.bitLen x'; the world is as it was. ITS CALLEE bits.Len64 IS MET BY ITS OWN CONTRACT OFF THE SHELF (lay that first): entered in place it sends the kernel out of memory. (LAID: no walk: one application.) -/
theorem Tryz.bits_LeadingZeros64 (x : Int) (w : World) (h0 : 0 ≤ x) (h1 : x ≤ 18446744073709551615) :
    Calls Tryz.prog 127 #[.int .u64 x] w fun e w' => e = .returned (.int .i64 (64 - (Lib.bitLen x.toNat : Int))) ∧ w' = w := Any.bits_LeadingZeros64 Tryz.lays134 x w h0 h1
def Tryz.lays264_ren : Go.Shelf.Ren := ⟨fun | 264 => 125 | n => n, fun | 53 => 133 | 46 => 189 | n => n, fun | n => n⟩
theorem Tryz.lays264 : Go.Proofs.Lays.n264 Tryz.prog Tryz.lays264_ren := {
  mixed := by kernel_rfl
  f264 := Tryz.func125.trans (congrArg some (by kernel_rfl))
  t46 := Tryz.underlying189
  a46 := Tryz.isAgg189
  z46 := Tryz.sizeOf189
  v46 := Tryz.zeroValue189
  t53 := Tryz.underlying133
  a53 := Tryz.isAgg133
  z53 := Tryz.sizeOf133
  v53 := Tryz.zeroValue133 }
open Go.RowKit Go.Lib in
theorem Tryz.bits_Mul64 (x y : Nat) (hx : x < 18446744073709551616) (hy : y < 18446744073709551616) (w : World) :
    Calls Tryz.prog 125 #[.int .u64 x, .int .u64 y] w fun e w' => e = .returned (.tuple #[.int .u64 ((x * y / 18446744073709551616 : Nat) : Int), .int .u64 ((x * y % 18446744073709551616 : Nat) : Int)]) ∧ w' = w := Any.bits_Mul64 Tryz.lays264 x y hx hy w
end Go.Proofs

/- What Asked, both, times, compare, cmp.Compare of package ratio compute, step by step (walks). For every argument that is a number of its type. -/
namespace Go.Proofs.YtnhljlihchegjaaGreat
open Go.RowKit Go.Sort
def askd (n d : Int) : Int := if chk n d ≠ 0 then chk n d else if 1073741824 < n.natAbs ∨ 1024 < d then 2 else 0
theorem chk_08 (n d : Int) : chk n d = 0 ∨ chk n d = 8 := by unfold chk; split <;> simp
theorem asked_any (n d : Int) (w : World) (h0 : -9223372036854775808 ≤ n) (h1 : n ≤ 9223372036854775807) (h2 : -9223372036854775808 ≤ d) (h3 : d ≤ 9223372036854775807) :
    Calls Tryz.prog 67 #[.agg #[.int .i64 n, .int .i64 d]] w fun e w' => e = .returned (.int .i64 (askd n d)) ∧ Below w.heap.size w w' := by
  cases hn : decide ((1073741824 : Int) < (n.natAbs : Nat)) <;> cases hd : decide (1024 < d)
  all_goals
    go_enter Tryz.func67, Tryz.ntmps67
    go_wp2_with (first | (go_at_call 83; (with_reducible refine cmono ?_ (check_any _ _ _ ?_ ?_ ?_ ?_)); rotate_left; omega; omega; omega; omega; rintro e w' ⟨rfl, hbc0⟩; obtain ⟨⟨dc0, osc0⟩, rfl⟩ := regrown_of_below hbc0; clear hbc0) | (go_at_call 99; (with_reducible refine cmono ?_ (abs_any _ _ ?_ ?_)); rotate_left; omega; omega; rintro e w' ⟨rfl, hbc1⟩; obtain ⟨⟨dc1, osc1⟩, rfl⟩ := regrown_of_below hbc1; clear hbc1) | ((with_reducible refine wp_region_quiet_below ?_ ?_ ?_); kernel_rfl; kernel_rfl; (repeat (go_big_quiet_step (first | (go_at_call 83; (with_reducible refine Calls.regrown_of (check_any _ _ _ ?_ ?_ ?_ ?_)); omega; omega; omega; omega) | (go_at_call 99; (with_reducible refine Calls.regrown_of (abs_any _ _ ?_ ?_)); omega; omega)))); refine wpQuiet_nil ?_; intro _ hw'; obtain ⟨⟨dq, osq⟩, hw''⟩ := hw'; subst hw''))
    all_goals (go_ret; refine ⟨ret_int ?_, (by repeat (first | exact Below.refl _ _ | refine below_reg ?_ _ _ | refine below_alloc ?_ _ | exact below_drewN ?_ _ | assumption))⟩)
    all_goals (simp only [bne_iff_ne, bne_eq_false_iff_eq, decide_eq_true_eq, decide_eq_false_iff_not, ne_eq] at *)
    all_goals (unfold askd; (first | rw [if_pos (by omega)] | rw [if_neg (by omega)]))
    all_goals (first | rfl | (rw [if_pos (by omega)]; done) | (rw [if_neg (by omega)]; done))
def bth (n d m e : Int) : Int := if chk n d = 0 then chk m e else 8
theorem both_any (n d m e : Int) (w : World) (h0 : -9223372036854775808 ≤ n) (h1 : n ≤ 9223372036854775807) (h2 : -9223372036854775808 ≤ d) (h3 : d ≤ 9223372036854775807)
    (k0 : -9223372036854775808 ≤ m) (k1 : m ≤ 9223372036854775807) (k2 : -9223372036854775808 ≤ e) (k3 : e ≤ 9223372036854775807) :
    Calls Tryz.prog 113 #[.agg #[.int .i64 n, .int .i64 d], .agg #[.int .i64 m, .int .i64 e]] w fun en w' => en = .returned (.int .i64 (bth n d m e)) ∧ Below w.heap.size w w' := by
  go_enter Tryz.func113, Tryz.ntmps113
  go_wp2_with (first | (go_at_call 83; (with_reducible refine cmono ?_ (check_any _ _ _ ?_ ?_ ?_ ?_)); rotate_left; omega; omega; omega; omega; rintro e w' ⟨rfl, hbc0⟩; obtain ⟨⟨dc0, osc0⟩, rfl⟩ := regrown_of_below hbc0; clear hbc0) | ((with_reducible refine wp_region_quiet_below ?_ ?_ ?_); kernel_rfl; kernel_rfl; (repeat (go_big_quiet_step (first | (go_at_call 83; (with_reducible refine Calls.regrown_of (check_any _ _ _ ?_ ?_ ?_ ?_)); omega; omega; omega; omega)))); refine wpQuiet_nil ?_; intro _ hw'; obtain ⟨⟨dq, osq⟩, hw''⟩ := hw'; subst hw''))
  go_ret
  refine ⟨ret_int ?_, (by repeat (first | exact Below.refl _ _ | refine below_reg ?_ _ _ | refine below_alloc ?_ _ | exact below_drewN ?_ _ | assumption))⟩
  unfold bth
  have c1 := chk_08 n d
  have c2 := chk_08 m e
  rcases c1 with c1 | c1 <;> rcases c2 with c2 | c2 <;> rw [c1, c2] <;> rfl
/-- -1, 0 or 1 -/
def cmpN (a b : Int) : Int := if a < b then -1 else if b < a then 1 else 0
theorem cmpi_any (n m : Int) (w : World) :
    Calls Tryz.prog 115 #[.int .i64 n, .int .i64 m] w fun en w' => en = .returned (.int .i64 (cmpN n m)) ∧ Below w.heap.size w w' := by
  go_enter Tryz.func115, Tryz.ntmps115
  go_wp2_with (first | go_in | ((with_reducible refine wp_region_quiet_below ?_ ?_ ?_); kernel_rfl; kernel_rfl; (repeat (go_big_quiet_step (fail))); refine wpQuiet_nil ?_; intro _ hw'; obtain ⟨⟨dq, osq⟩, hw''⟩ := hw'; subst hw''))
  all_goals (go_ret; refine ⟨ret_int ?_, (by repeat (first | exact Below.refl _ _ | refine below_reg ?_ _ _ | refine below_alloc ?_ _ | exact below_drewN ?_ _ | assumption))⟩)
  all_goals (unfold cmpN; (repeat' split) <;> omega)
theorem cmpu_any (n m : Int) (w : World) :
    Calls Tryz.prog 149 #[.int .u64 n, .int .u64 m] w fun en w' => en = .returned (.int .i64 (cmpN n m)) ∧ Below w.heap.size w w' := by
  go_enter Tryz.func149, Tryz.ntmps149
  go_wp2_with (first | go_in | ((with_reducible refine wp_region_quiet_below ?_ ?_ ?_); kernel_rfl; kernel_rfl; (repeat (go_big_quiet_step (fail))); refine wpQuiet_nil ?_; intro _ hw'; obtain ⟨⟨dq, osq⟩, hw''⟩ := hw'; subst hw''))
  all_goals (go_ret; refine ⟨ret_int ?_, (by repeat (first | exact Below.refl _ _ | refine below_reg ?_ _ _ | refine below_alloc ?_ _ | exact below_drewN ?_ _ | assumption))⟩)
  all_goals (unfold cmpN; (repeat' split) <;> omega)
theorem times_any (a b : Int) (w : World)  (h0 : -9223372036854775808 ≤ a) (h1 : a ≤ 9223372036854775807) (h2 : -9223372036854775808 ≤ b) (h3 : b ≤ 9223372036854775807) :
    Calls Tryz.prog 117 #[.int .i64 a, .int .i64 b] w fun en w' => en = .returned (.agg #[.bool (decide (a < 0) != decide (b < 0)), .int .u64 (a.natAbs * b.natAbs / 18446744073709551616 : Nat), .int .u64 (a.natAbs * b.natAbs % 18446744073709551616 : Nat)]) ∧ Below w.heap.size w w' := by
  go_enter Tryz.func117, Tryz.ntmps117
  go_wp2_with (first | (go_at_call 125; refine (Tryz.bits_Mul64 _ _ (by omega) (by omega) _).mono ?_; rintro e w' ⟨rfl, rfl⟩) | (go_at_call 99; (with_reducible refine cmono ?_ (abs_any _ _ ?_ ?_)); rotate_left; omega; omega; rintro e w' ⟨rfl, hbc0⟩; obtain ⟨⟨dc0, osc0⟩, rfl⟩ := regrown_of_below hbc0; clear hbc0) | ((with_reducible refine wp_region_quiet_below ?_ ?_ ?_); kernel_rfl; kernel_rfl; (repeat (go_big_quiet_step (first | (go_at_call 99; (with_reducible refine Calls.regrown_of (abs_any _ _ ?_ ?_)); omega; omega)))); refine wpQuiet_nil ?_; intro _ hw'; obtain ⟨⟨dq, osq⟩, hw''⟩ := hw'; subst hw''))
  refine bodyPost_ret (v := .agg #[.bool (decide (a < 0) != decide (b < 0)), .int .u64 (a.natAbs * b.natAbs / 18446744073709551616 : Nat), .int .u64 (a.natAbs * b.natAbs % 18446744073709551616 : Nat)]) (by simp [results, Tryz.results117, go_sem]; cases decide (a < 0) <;> cases decide (b < 0) <;> rfl) rfl ⟨rfl, (by repeat (first | exact Below.refl _ _ | refine below_reg ?_ _ _ | refine below_alloc ?_ _ | exact below_drewN ?_ _ | assumption))⟩
theorem cmpN_hi (a b c d : Nat) (hb : b < 18446744073709551616) (hd : d < 18446744073709551616) :
    cmpN ((a * 18446744073709551616 + b : Nat) : Int) ((c * 18446744073709551616 + d : Nat) : Int) = if cmpN (a : Int) c != 0 then cmpN (a : Int) c else cmpN (b : Int) d := by
  unfold cmpN
  (repeat' split) <;> first | rfl | omega | (exfalso; simp_all; done) | (exfalso; simp_all; omega)
theorem compare_any (x y : Bool) (a b c d : Nat) (w : World) (hb : b < 18446744073709551616) (hd : d < 18446744073709551616) :
    Calls Tryz.prog 116 #[.agg #[.bool x, .int .u64 a, .int .u64 b], .agg #[.bool y, .int .u64 c, .int .u64 d]] w fun en w' => en = .returned (.int .i64 (cmpN ((a * 18446744073709551616 + b : Nat) : Int) ((c * 18446744073709551616 + d : Nat) : Int))) ∧ Below w.heap.size w w' := by
  go_enter Tryz.func116, Tryz.ntmps116
  go_wp2_with (first | (go_at_call 149; (with_reducible refine cmono ?_ (cmpu_any _ _ _)); rotate_left; rintro e w' ⟨rfl, hbc0⟩; obtain ⟨⟨dc0, osc0⟩, rfl⟩ := regrown_of_below hbc0; clear hbc0) | ((with_reducible refine wp_region_quiet_below ?_ ?_ ?_); kernel_rfl; kernel_rfl; (repeat (go_big_quiet_step (first | (go_at_call 149; (with_reducible refine Calls.regrown_of (cmpu_any _ _ _)))))); refine wpQuiet_nil ?_; intro _ hw'; obtain ⟨⟨dq, osq⟩, hw''⟩ := hw'; subst hw''))
  all_goals (go_ret; refine ⟨ret_int ?_, (by repeat (first | exact Below.refl _ _ | refine below_reg ?_ _ _ | refine below_alloc ?_ _ | exact below_drewN ?_ _ | assumption))⟩)
  all_goals (rw [cmpN_hi a b c d hb hd]; simp [*])
end Go.Proofs.YtnhljlihchegjaaGreat

/- What plus of package ratio computes, step by step (a walk). For absolute values of 128 bits. -/
namespace Go.Proofs.YtnhljlihchegjaaGreat
open Go.RowKit Go.Sort
theorem run_Add64 (x y c : Nat) (hc : c ≤ 1) (w : World) :
    (callFunc 126 #[.int .u64 x, .int .u64 y, .int .u64 c]).run Tryz.prog w = .ok (.value (.tuple #[.int .u64 ((x + y + c) % 18446744073709551616 : Nat), .int .u64 ((x + y + c) / 18446744073709551616 : Nat)])) w := by
  rw [run_callFunc_extern Tryz.func126 (by kernel_rfl) (by kernel_rfl) (by kernel_rfl) (e := add64Entry) (by kernel_rfl), run_add64 x y c (by omega) (by omega) (by omega) (by omega)]
  simp only [Result.andThen]
  congr 5 <;> omega
theorem run_Sub64 (x y b : Nat) (hb : b ≤ 1) (w : World) :
    (callFunc 85 #[.int .u64 x, .int .u64 y, .int .u64 b]).run Tryz.prog w = .ok (.value (.tuple #[.int .u64 ((x + 18446744073709551616 - y - b) % 18446744073709551616 : Nat), .int .u64 ((if x < y + b then 1 else 0 : Nat) : Int)])) w := by
  rw [run_callFunc_extern Tryz.func85 (by kernel_rfl) (by kernel_rfl) (by kernel_rfl) (e := sub64Entry) (by kernel_rfl), run_sub64 x y b hb]
  rfl
/-- the sum of two numbers with signs: its absolute value, and its sign -/
def plusM (x y : Bool) (m n : Nat) : Nat := if x = y then m + n else if m < n then n - m else m - n
def plusS (x y : Bool) (m n : Nat) : Bool := if x = y then x else if m < n then y else x
theorem plus_same (x : Bool) (a b c d : Nat) (w : World) (hb : b < 18446744073709551616) (hd : d < 18446744073709551616) (ha : a + c < 18446744073709551614) :
    Calls Tryz.prog 145 #[.agg #[.bool x, .int .u64 a, .int .u64 b], .agg #[.bool x, .int .u64 c, .int .u64 d]] w fun en w' =>
      en = .returned (.agg #[.bool x, .int .u64 ((a * 18446744073709551616 + b + (c * 18446744073709551616 + d)) / 18446744073709551616 : Nat), .int .u64 ((a * 18446744073709551616 + b + (c * 18446744073709551616 + d)) % 18446744073709551616 : Nat)]) ∧ Below w.heap.size w w' := by
  obtain ⟨lo, hlo⟩ : ∃ lo, lo = (b + d + 0) % 18446744073709551616 := ⟨_, rfl⟩
  obtain ⟨cy, hcy⟩ : ∃ cy, cy = (b + d + 0) / 18446744073709551616 := ⟨_, rfl⟩
  obtain ⟨hi, hhi⟩ : ∃ hi, hi = (a + c + cy) % 18446744073709551616 := ⟨_, rfl⟩
  have E1 : ∀ w, (callFunc 126 #[.int .u64 b, .int .u64 d, .int .u64 0]).run Tryz.prog w = .ok (.value (.tuple #[.int .u64 lo, .int .u64 cy])) w := by
    rw [hlo, hcy]; exact run_Add64 b d 0 (by omega)
  have E2 : ∀ w, (callFunc 126 #[.int .u64 a, .int .u64 c, .int .u64 cy]).run Tryz.prog w = .ok (.value (.tuple #[.int .u64 hi, .int .u64 ((a + c + cy) / 18446744073709551616 : Nat)])) w := by
    rw [hhi]; exact run_Add64 a c cy (by omega)
  have R1 : (a * 18446744073709551616 + b + (c * 18446744073709551616 + d)) / 18446744073709551616 = hi := by omega
  have R2 : (a * 18446744073709551616 + b + (c * 18446744073709551616 + d)) % 18446744073709551616 = lo := by omega
  rw [R1, R2]
  clear R1 R2 hlo hcy hhi
  go_enter Tryz.func145, Tryz.ntmps145
  go_wp2_with (first | ((with_reducible refine wp_region_quiet_below ?_ ?_ ?_); kernel_rfl; kernel_rfl; (repeat (go_big_quiet_step (fail))); refine wpQuiet_nil ?_; intro _ hw'; obtain ⟨⟨dq, osq⟩, hw''⟩ := hw'; subst hw''))
  refine bodyPost_ret (v := .agg #[.bool x, .int .u64 hi, .int .u64 lo]) (by simp [results, Tryz.results145, go_sem]) rfl ⟨rfl, (by repeat (first | exact Below.refl _ _ | refine below_reg ?_ _ _ | refine below_alloc ?_ _ | exact below_drewN ?_ _ | assumption))⟩
theorem plus_other (x : Bool) (a b c d : Nat) (w : World) (hb : b < 18446744073709551616) (hd : d < 18446744073709551616) (ha : a < 18446744073709551616) (hc : c < 18446744073709551616)
    (hlt : a * 18446744073709551616 + b < c * 18446744073709551616 + d) :
    Calls Tryz.prog 145 #[.agg #[.bool x, .int .u64 a, .int .u64 b], .agg #[.bool (!x), .int .u64 c, .int .u64 d]] w fun en w' =>
      en = .returned (.agg #[.bool (!x), .int .u64 ((c * 18446744073709551616 + d - (a * 18446744073709551616 + b)) / 18446744073709551616 : Nat), .int .u64 ((c * 18446744073709551616 + d - (a * 18446744073709551616 + b)) % 18446744073709551616 : Nat)]) ∧ Below w.heap.size w w' := by
  obtain ⟨lo, hlo⟩ : ∃ lo, lo = (d + 18446744073709551616 - b - 0) % 18446744073709551616 := ⟨_, rfl⟩
  obtain ⟨cy, hcy⟩ : ∃ cy : Nat, cy = if d < b + 0 then 1 else 0 := ⟨_, rfl⟩
  obtain ⟨hi, hhi⟩ : ∃ hi, hi = (c + 18446744073709551616 - a - cy) % 18446744073709551616 := ⟨_, rfl⟩
  have hcy1 : cy ≤ 1 := by rw [hcy]; split <;> omega
  have E1 : ∀ w, (callFunc 85 #[.int .u64 d, .int .u64 b, .int .u64 0]).run Tryz.prog w = .ok (.value (.tuple #[.int .u64 lo, .int .u64 cy])) w := by
    rw [hlo, hcy]; exact run_Sub64 d b 0 (by omega)
  have E2 : ∀ w, (callFunc 85 #[.int .u64 c, .int .u64 a, .int .u64 cy]).run Tryz.prog w = .ok (.value (.tuple #[.int .u64 hi, .int .u64 ((if c < a + cy then 1 else 0 : Nat) : Int)])) w := by
    rw [hhi]; exact run_Sub64 c a cy hcy1
  have R1 : (c * 18446744073709551616 + d - (a * 18446744073709551616 + b)) / 18446744073709551616 = hi := by rw [hhi, hcy]; split <;> omega
  have R2 : (c * 18446744073709551616 + d - (a * 18446744073709551616 + b)) % 18446744073709551616 = lo := by omega
  have hC : cmpN ((a * 18446744073709551616 + b : Nat) : Int) ((c * 18446744073709551616 + d : Nat) : Int) = -1 := by unfold cmpN; rw [if_pos (by omega)]
  have HP := compare_any x (!x) a b c d
  rw [hC] at HP
  have HQ := Lib.hid HP
  rw [R1, R2]
  clear R1 R2 hlo hcy hhi hC HP hlt
  go_enter Tryz.func145, Tryz.ntmps145
  go_wp2_with (first | (go_at_call 116; (with_reducible refine cmono ?_ (HQ.out _ hb hd)); rotate_left; rintro e w' ⟨rfl, hb7⟩; obtain ⟨⟨d7, os7⟩, rfl⟩ := regrown_of_below hb7; clear hb7) | ((with_reducible refine wp_region_quiet_below ?_ ?_ ?_); kernel_rfl; kernel_rfl; (repeat (go_big_quiet_step (fail))); refine wpQuiet_nil ?_; intro _ hw'; obtain ⟨⟨dq, osq⟩, hw''⟩ := hw'; subst hw''))
  all_goals refine bodyPost_ret (v := .agg #[.bool (!x), .int .u64 hi, .int .u64 lo]) (by simp [results, Tryz.results145, go_sem]) rfl ⟨rfl, (by repeat (first | exact Below.refl _ _ | refine below_reg ?_ _ _ | refine below_alloc ?_ _ | exact below_drewN ?_ _ | assumption))⟩
theorem plus_more (x : Bool) (a b c d : Nat) (w : World) (hb : b < 18446744073709551616) (hd : d < 18446744073709551616) (ha : a < 18446744073709551616) (hc : c < 18446744073709551616)
    (hlt : ¬ a * 18446744073709551616 + b < c * 18446744073709551616 + d) :
    Calls Tryz.prog 145 #[.agg #[.bool x, .int .u64 a, .int .u64 b], .agg #[.bool (!x), .int .u64 c, .int .u64 d]] w fun en w' =>
      en = .returned (.agg #[.bool x, .int .u64 ((a * 18446744073709551616 + b - (c * 18446744073709551616 + d)) / 18446744073709551616 : Nat), .int .u64 ((a * 18446744073709551616 + b - (c * 18446744073709551616 + d)) % 18446744073709551616 : Nat)]) ∧ Below w.heap.size w w' := by
  obtain ⟨lo, hlo⟩ : ∃ lo, lo = (b + 18446744073709551616 - d - 0) % 18446744073709551616 := ⟨_, rfl⟩
  obtain ⟨cy, hcy⟩ : ∃ cy : Nat, cy = if b < d + 0 then 1 else 0 := ⟨_, rfl⟩
  obtain ⟨hi, hhi⟩ : ∃ hi, hi = (a + 18446744073709551616 - c - cy) % 18446744073709551616 := ⟨_, rfl⟩
  have hcy1 : cy ≤ 1 := by rw [hcy]; split <;> omega
  have E1 : ∀ w, (callFunc 85 #[.int .u64 b, .int .u64 d, .int .u64 0]).run Tryz.prog w = .ok (.value (.tuple #[.int .u64 lo, .int .u64 cy])) w := by
    rw [hlo, hcy]; exact run_Sub64 b d 0 (by omega)
  have E2 : ∀ w, (callFunc 85 #[.int .u64 a, .int .u64 c, .int .u64 cy]).run Tryz.prog w = .ok (.value (.tuple #[.int .u64 hi, .int .u64 ((if a < c + cy then 1 else 0 : Nat) : Int)])) w := by
    rw [hhi]; exact run_Sub64 a c cy hcy1
  have R1 : (a * 18446744073709551616 + b - (c * 18446744073709551616 + d)) / 18446744073709551616 = hi := by rw [hhi, hcy]; split <;> omega
  have R2 : (a * 18446744073709551616 + b - (c * 18446744073709551616 + d)) % 18446744073709551616 = lo := by omega
  obtain ⟨k, hk⟩ : ∃ k, k = cmpN ((a * 18446744073709551616 + b : Nat) : Int) ((c * 18446744073709551616 + d : Nat) : Int) := ⟨_, rfl⟩
  have hk0 : ¬ k < 0 := by rw [hk]; unfold cmpN; (repeat' split) <;> omega
  have HP := compare_any x (!x) a b c d
  rw [← hk] at HP
  have HQ := Lib.hid HP
  rw [R1, R2]
  clear R1 R2 hlo hcy hhi hk HP hlt
  go_enter Tryz.func145, Tryz.ntmps145
  go_wp2_with (first | (go_at_call 116; (with_reducible refine cmono ?_ (HQ.out _ hb hd)); rotate_left; rintro e w' ⟨rfl, hb7⟩; obtain ⟨⟨d7, os7⟩, rfl⟩ := regrown_of_below hb7; clear hb7) | ((with_reducible refine wp_region_quiet_below ?_ ?_ ?_); kernel_rfl; kernel_rfl; (repeat (go_big_quiet_step (fail))); refine wpQuiet_nil ?_; intro _ hw'; obtain ⟨⟨dq, osq⟩, hw''⟩ := hw'; subst hw''))
  all_goals refine bodyPost_ret (v := .agg #[.bool x, .int .u64 hi, .int .u64 lo]) (by simp [results, Tryz.results145, go_sem]) rfl ⟨rfl, (by repeat (first | exact Below.refl _ _ | refine below_reg ?_ _ _ | refine below_alloc ?_ _ | exact below_drewN ?_ _ | assumption))⟩
/-- every case -/
theorem plus_any (x y : Bool) (a b c d : Nat) (w : World) (hb : b < 18446744073709551616) (hd : d < 18446744073709551616) (ha : a < 9223372036854775807) (hc : c < 9223372036854775807) :
    Calls Tryz.prog 145 #[.agg #[.bool x, .int .u64 a, .int .u64 b], .agg #[.bool y, .int .u64 c, .int .u64 d]] w fun en w' =>
      en = .returned (.agg #[.bool (plusS x y (a * 18446744073709551616 + b) (c * 18446744073709551616 + d)), .int .u64 (plusM x y (a * 18446744073709551616 + b) (c * 18446744073709551616 + d) / 18446744073709551616 : Nat), .int .u64 (plusM x y (a * 18446744073709551616 + b) (c * 18446744073709551616 + d) % 18446744073709551616 : Nat)]) ∧ Below w.heap.size w w' := by
  by_cases hxy : x = y
  · subst hxy
    simp only [plusS, plusM, if_true]
    exact plus_same x a b c d w hb hd (by omega)
  · obtain rfl : y = !x := by cases x <;> cases y <;> simp_all
    by_cases hlt : a * 18446744073709551616 + b < c * 18446744073709551616 + d
    · simp only [plusS, plusM, hxy, if_false, hlt, if_true]
      exact plus_other x a b c d w hb hd (by omega) (by omega) hlt
    · simp only [plusS, plusM, hxy, if_false, hlt]
      exact plus_more x a b c d w hb hd (by omega) (by omega) hlt
end Go.Proofs.YtnhljlihchegjaaGreat

/- Plain lemmas on the division of 128 bits by 64, in two steps of 32 bits. No program is named. -/
namespace Go.Proofs.YtnhljlihchegjaaGreat
theorem kn_le (y1 y0 u un q r : Nat) (hu : u = q * y1 + r) : q * y0 ≤ 4294967296 * r + un ↔ q * (y1 * 4294967296 + y0) ≤ u * 4294967296 + un := by
  have e1 : u * 4294967296 = q * y1 * 4294967296 + r * 4294967296 := by rw [hu, Nat.add_mul]
  have e2 : q * (y1 * 4294967296 + y0) = q * y1 * 4294967296 + q * y0 := by rw [Nat.mul_add, Nat.mul_assoc]
  omega
theorem kn_done (y n q : Nat) (hy : 0 < y) (h1 : q * y ≤ n) (h2 : n / y ≤ q) : q = n / y :=
  Nat.le_antisymm ((Nat.le_div_iff_mul_le hy).2 h1) h2
theorem kn_start (y1 y0 u un : Nat) (hy : 0 < y1) (hun : un < 4294967296) : (u * 4294967296 + un) / (y1 * 4294967296 + y0) ≤ u / y1 := by
  have h1 : (u * 4294967296 + un) / (y1 * 4294967296 + y0) ≤ (u * 4294967296 + un) / (4294967296 * y1) :=
    Nat.div_le_div_left (by omega) (by omega)
  rw [← Nat.div_div_eq_div_mul] at h1
  have h2 : (u * 4294967296 + un) / 4294967296 = u := by omega
  rw [h2] at h1
  exact h1
theorem kn_less (y u un : Nat) (hu : u < y) (hun : un < 4294967296) : (u * 4294967296 + un) / y < 4294967296 := by
  rw [Nat.div_lt_iff_lt_mul (by omega)]
  have : (u + 1) * 4294967296 ≤ y * 4294967296 := Nat.mul_le_mul_right _ hu
  have : 4294967296 * y = y * 4294967296 := Nat.mul_comm _ _
  omega
theorem kn_dec (y n q : Nat) (hy : 0 < y) (h : ¬ q * y ≤ n) : n / y < q := by
  rw [Nat.div_lt_iff_lt_mul hy]
  omega
theorem kn_break (y1 y0 u un q r : Nat) (hu : u = q * y1 + r) (hy : u < y1 * 4294967296 + y0) (h0 : y0 < 4294967296) (hr : 4294967296 ≤ r) : q * (y1 * 4294967296 + y0) ≤ u * 4294967296 + un := by
  rw [← kn_le y1 y0 u un q r hu]
  have hq : q < 4294967296 := by
    have h1 : q * y1 < 4294967296 * y1 := by omega
    exact Nat.lt_of_mul_lt_mul_right h1
  have h2 : q * y0 ≤ 4294967296 * 4294967296 := Nat.mul_le_mul (by omega) (by omega)
  omega
theorem kn_rem (u y1 : Nat) (hu : u < 18446744073709551616) : IntKind.u64.wrap ((u : Int) - IntKind.u64.wrap ((u : Int) / (y1 : Int) * (y1 : Int))) = ((u % y1 : Nat) : Int) := by
  have e : (u : Int) / (y1 : Int) * (y1 : Int) = ((u / y1 * y1 : Nat) : Int) := by simp
  have h := Nat.div_add_mod u y1
  rw [Nat.mul_comm] at h
  rw [e, IntKind.wrap_u64, IntKind.wrap_u64]
  generalize u / y1 * y1 = p at *
  omega
/-- the loop's test says no more than that q is too great -/
theorem kn_exit (Y y1 y0 u v1 q r : Nat) (hY : Y = y1 * 4294967296 + y0) (hy : 0 < Y) (hu : u = q * y1 + r) (hq : (u * 4294967296 + v1) / Y ≤ q) (ht : ¬ 4294967296 * r + v1 < q * y0) : q = (u * 4294967296 + v1) / Y :=
  kn_done Y _ q hy (by rw [hY]; exact (kn_le y1 y0 u v1 q r hu).1 (by omega)) hq
theorem kn_next (Y y1 y0 u v1 q r : Nat) (hY : Y = y1 * 4294967296 + y0) (hy : 0 < Y) (huY : u < Y) (hv : v1 < 4294967296) (hu : u = q * y1 + r) (ht : 4294967296 ≤ q ∨ 4294967296 * r + v1 < q * y0) :
    (u * 4294967296 + v1) / Y < q := by
  rcases ht with ht | ht
  · have := kn_less Y u v1 huY hv; omega
  · refine kn_dec Y _ q hy ?_
    rw [hY, ← kn_le y1 y0 u v1 q r hu]
    omega
theorem kn_down (y1 u q r : Nat) (hq : 0 < q) (hu : u = q * y1 + r) : u = (q - 1) * y1 + (r + y1) := by
  obtain ⟨k, rfl⟩ : ∃ k, q = k + 1 := ⟨q - 1, by omega⟩
  rw [Nat.add_mul] at hu
  simp only [Nat.add_sub_cancel]
  omega
/-- the shifted number: its high and its low word -/
theorem kn_shift (hi lo y s : Nat) (hs : s < 64) (hy : hi < y) (hlo : lo < 18446744073709551616) :
    hi * 2 ^ s ||| lo / 2 ^ (64 - s) = hi * 2 ^ s + lo / 2 ^ (64 - s) ∧
    (hi * 2 ^ s + lo / 2 ^ (64 - s)) * 18446744073709551616 + lo * 2 ^ s % 18446744073709551616 = (hi * 18446744073709551616 + lo) * 2 ^ s ∧ hi * 2 ^ s + lo / 2 ^ (64 - s) < y * 2 ^ s := by
  have hp : 2 ^ (64 - s) * 2 ^ s = 18446744073709551616 := by rw [← Nat.pow_add, show 64 - s + s = 64 by omega]
  have hps : 0 < 2 ^ s := Nat.two_pow_pos _
  generalize 2 ^ (64 - s) = B at *
  have hb : lo / B < 2 ^ s := by
    rw [Nat.div_lt_iff_lt_mul (by rcases Nat.eq_zero_or_pos B with h | h; · rw [h] at hp; omega
                                  · exact h)]
    rw [Nat.mul_comm]; omega
  have h1 : hi * 2 ^ s ||| lo / B = hi * 2 ^ s + lo / B := by
    rw [Nat.mul_comm, Nat.two_pow_add_eq_or_of_lt hb]
  have h2 : lo * 2 ^ s / 18446744073709551616 = lo / B := by
    rw [← hp]; exact Nat.mul_div_mul_right _ _ hps
  have h3 : (hi * 2 ^ s + lo / B) * 18446744073709551616 + lo * 2 ^ s % 18446744073709551616 = (hi * 18446744073709551616 + lo) * 2 ^ s := by
    have e1 : (hi * 18446744073709551616 + lo) * 2 ^ s = hi * 18446744073709551616 * 2 ^ s + lo * 2 ^ s := Nat.add_mul _ _ _
    have e2 : hi * 18446744073709551616 * 2 ^ s = hi * 2 ^ s * 18446744073709551616 := by rw [Nat.mul_assoc, Nat.mul_comm 18446744073709551616, ← Nat.mul_assoc]
    omega
  refine ⟨h1, h3, ?_⟩
  have h4 : (hi * 18446744073709551616 + lo) * 2 ^ s < y * 18446744073709551616 * 2 ^ s := Nat.mul_lt_mul_of_pos_right (by omega) hps
  have h5 : y * 18446744073709551616 * 2 ^ s = y * 2 ^ s * 18446744073709551616 := by rw [Nat.mul_assoc, Nat.mul_comm 18446744073709551616, ← Nat.mul_assoc]
  omega
/-- what is left, reckoned with wraps -/
theorem kn_left (u v1 q Y : Nat) (hq : q = (u * 4294967296 + v1) / Y) (hY : 0 < Y) (hYb : Y < 18446744073709551616) :
    IntKind.u64.wrap (IntKind.u64.wrap (IntKind.u64.wrap ((u : Int) * 4294967296) + (v1 : Int)) - IntKind.u64.wrap ((q : Int) * (Y : Int))) = (((u * 4294967296 + v1) % Y : Nat) : Int) := by
  have e : (q : Int) * (Y : Int) = ((q * Y : Nat) : Int) := by simp
  have h := Nat.div_add_mod (u * 4294967296 + v1) Y
  have hl := Nat.mod_lt (u * 4294967296 + v1) hY
  rw [← hq, Nat.mul_comm] at h
  rw [e]
  generalize (u * 4294967296 + v1) % Y = m at *
  generalize q * Y = p at *
  simp only [IntKind.wrap_u64]
  omega
/-- two steps make the whole -/
theorem kn_two (b y n un0 : Nat) (hy : 0 < y) :
    (n * b + un0) / y = n / y * b + (n % y * b + un0) / y ∧ (n * b + un0) % y = (n % y * b + un0) % y := by
  have e : n * b + un0 = (n % y * b + un0) + y * (n / y * b) := by
    have h := Nat.div_add_mod n y
    have h2 : n * b = y * (n / y) * b + n % y * b := by rw [← Nat.add_mul, h]
    rw [Nat.mul_assoc] at h2
    omega
  rw [e, Nat.add_mul_div_left _ _ hy, Nat.add_mul_mod_self_left]
  exact ⟨Nat.add_comm _ _, rfl⟩
theorem kn_join (u v v1 v0 n up : Nat) (hU : u * 18446744073709551616 + v = up) (hV : v = v1 * 4294967296 + v0) (hn : n = u * 4294967296 + v1) : n * 4294967296 + v0 = up := by
  subst hn hV hU
  rw [Nat.add_mul, Nat.mul_assoc]
  omega
/-- both steps, and the shift undone -/
theorem kn_fin (U y Y u v v1 v0 m q1 q2 x s : Nat) (hU : u * 18446744073709551616 + v = U * 2 ^ s) (hV : v = v1 * 4294967296 + v0) (hY : Y = y * 2 ^ s) (hYp : 0 < Y)
    (h1 : q1 = (u * 4294967296 + v1) / Y) (hm : m = (u * 4294967296 + v1) % Y) (h2 : q2 = (m * 4294967296 + v0) / Y) (hx : x = (m * 4294967296 + v0) % Y) :
    q1 * 4294967296 + q2 = U / y ∧ x / 2 ^ s = U % y := by
  have hp : 0 < 2 ^ s := Nat.two_pow_pos _
  generalize 2 ^ s = p at *
  generalize hUp : U * p = up at *
  obtain ⟨n, hn⟩ : ∃ n, n = u * 4294967296 + v1 := ⟨_, rfl⟩
  rw [← hn] at h1 hm
  have e3 : n * 4294967296 + v0 = U * p := kn_join u v v1 v0 n up hU hV hn |>.trans hUp.symm
  obtain ⟨e1, e2⟩ := kn_two 4294967296 Y n v0 hYp
  rw [e3, ← h1, ← hm, ← h2, hY, Nat.mul_div_mul_right _ _ hp] at e1
  rw [e3, ← hm, ← hx, hY, Nat.mul_mod_mul_right] at e2
  exact ⟨e1.symm, by rw [← e2, Nat.mul_div_cancel _ hp]⟩
theorem hi_of (W q l : Nat) (h : l < W) : (q * W + l) / W = q := by
  rw [Nat.mul_comm, Nat.mul_add_div (by omega), Nat.div_eq_of_lt h, Nat.add_zero]
theorem lo_of (W q l : Nat) (h : l < W) : (q * W + l) % W = l := by
  rw [Nat.mul_comm, Nat.mul_add_mod, Nat.mod_eq_of_lt h]
end Go.Proofs.YtnhljlihchegjaaGreat
