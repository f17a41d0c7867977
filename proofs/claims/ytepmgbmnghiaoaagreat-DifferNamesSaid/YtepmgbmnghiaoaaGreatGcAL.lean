import Derived.Test.YtepmgbmnghiaoaaGreatGcAK
import Derived.Test.YtepmgbmnghiaoaaGreatProg
import Derived.Test.YtepmgbmnghiaoaaGreatChecked
import Derived.Test.YtepmgbmnghiaoaaGreatGcAA
import Derived.Shelf.Small.Bits
import Derived.Shelf.Strconv.Itoa0
import Derived.Shelf.Bits.Mul64
import Derived.Ground.Names2Prog
import Derived.Shelf.Slices.SearchI
import Derived.Laws.Externs
import Derived.Shelf.Spec.BitsCarry
set_option linter.all false
namespace Go.Proofs.YtepmgbmnghiaoaaGreat
open Go Go.RowKit
namespace Sx
def Ty : List (Nat × TD) := [(2, .int .i64),
  (3, .int .i64),
  (4, .bool),
  (5, .int .u8),
  (9, .sc (.v (.string "".toUTF8))),
  (12, .int .u64),
  (21, .int .i32),
  (22, .st 2 [.v (.int .i64 0), .v (.int .i64 0)] [(0, 1, false), (1, 1, false)]),
  (23, .st 2 [.v (.int .i64 0), .v (.int .i64 0)] [(0, 1, false), (1, 1, false)]),
  (24, .sl 3 true [.v (.int .i64 0), .v (.int .i64 0), .v (.int .i64 0)]),
  (25, .st 1 [.nil 3] [(0, 1, false)]),
  (26, .st 1 [.nil 3] [(0, 1, false)]),
  (27, .st 3 [.v (.int .i64 0), .v (.int .i64 0), .nil 3] [(0, 2, true), (2, 1, true)]),
  (28, .st 3 [.v (.int .i64 0), .v (.int .i64 0), .nil 3] [(0, 2, true), (2, 1, true)]),
  (29, .st 3 [.v (.int .i64 0), .v (.int .i64 0), .v (.int .i64 0)] [(0, 1, false), (1, 1, false), (2, 1, false)]),
  (30, .st 3 [.v (.int .i64 0), .v (.int .i64 0), .v (.int .i64 0)] [(0, 1, false), (1, 1, false), (2, 1, false)]),
  (31, .st 7 [.v (.int .u8 0), .v (.int .i64 0), .v (.int .i64 0), .v (.int .i64 0), .v (.int .i64 0), .v (.int .i64 0), .v (.int .i64 0)] [(0, 1, false), (1, 3, true), (4, 1, false), (5, 2, true)]),
  (32, .st 7 [.v (.int .u8 0), .v (.int .i64 0), .v (.int .i64 0), .v (.int .i64 0), .v (.int .i64 0), .v (.int .i64 0), .v (.int .i64 0)] [(0, 1, false), (1, 3, true), (4, 1, false), (5, 2, true)]),
  (33, .sl 7 true [.v (.int .u8 0), .v (.int .i64 0), .v (.int .i64 0), .v (.int .i64 0), .v (.int .i64 0), .v (.int .i64 0), .v (.int .i64 0)]),
  (36, .int .i64),
  (41, .sl 1 false [.v (.int .i64 0)]),
  (44, .sl 1 false [.v (.int .i64 0)]),
  (61, .sl 6 true [.v (.int .i64 0), .v (.int .i64 0), .v (.int .i64 0), .v (.int .i64 0), .v (.int .i64 0), .nil 4]),
  (62, .st 5 [.v (.int .i64 0), .v (.int .i64 0), .nil 3, .nil 7, .nil 6] [(0, 3, true), (3, 1, false), (4, 1, false)]),
  (63, .st 5 [.v (.int .i64 0), .v (.int .i64 0), .nil 3, .nil 7, .nil 6] [(0, 3, true), (3, 1, false), (4, 1, false)]),
  (82, .sl 4 true [.v (.int .i64 0), .v (.int .i64 0), .v (.int .i64 0), .v (.int .i64 0)]),
  (83, .st 6 [.v (.int .i64 0), .v (.int .i64 0), .v (.int .i64 0), .v (.int .i64 0), .v (.int .i64 0), .nil 4] [(0, 1, false), (1, 1, false), (2, 1, false), (3, 2, true), (5, 1, false)]),
  (84, .st 6 [.v (.int .i64 0), .v (.int .i64 0), .v (.int .i64 0), .v (.int .i64 0), .v (.int .i64 0), .nil 4] [(0, 1, false), (1, 1, false), (2, 1, false), (3, 2, true), (5, 1, false)]),
  (89, .sl 2 true [.v (.int .u8 0), .v (.int .i64 0)]),
  (103, .st 2 [.v (.int .u8 0), .v (.int .i64 0)] [(0, 1, false), (1, 1, false)]),
  (104, .st 2 [.v (.int .u8 0), .v (.int .i64 0)] [(0, 1, false), (1, 1, false)]),
  (132, .sl 5 true [.v (.int .u8 0), .v (.int .i64 0), .v (.int .i64 0), .v (.int .i64 0), .v (.int .i64 0)]),
  (134, .st 5 [.v (.int .u8 0), .v (.int .i64 0), .v (.int .i64 0), .v (.int .i64 0), .v (.int .i64 0)] [(0, 2, true), (2, 3, true)]),
  (135, .st 5 [.v (.int .u8 0), .v (.int .i64 0), .v (.int .i64 0), .v (.int .i64 0), .v (.int .i64 0)] [(0, 2, true), (2, 3, true)]),
  (139, .int .u64),
  (140, .st 3 [.v (.bool false), .v (.int .u64 0), .v (.int .u64 0)] [(0, 1, false), (1, 1, false), (2, 1, false)]),
  (141, .st 3 [.v (.bool false), .v (.int .u64 0), .v (.int .u64 0)] [(0, 1, false), (1, 1, false), (2, 1, false)]),
  (146, .sl 5 true [.v (.int .i64 0), .v (.int .i64 0), .nil 3, .nil 7, .nil 6]),
  (166, .st 4 [.v (.int .i64 0), .v (.int .i64 0), .v (.int .i64 0), .v (.int .i64 0)] [(0, 2, true), (2, 1, false), (3, 1, false)]),
  (167, .st 4 [.v (.int .i64 0), .v (.int .i64 0), .v (.int .i64 0), .v (.int .i64 0)] [(0, 2, true), (2, 1, false), (3, 1, false)]),
  (180, .st 3 [.v (.bool false), .v (.int .u64 0), .v (.int .u64 0)] [(0, 1, false), (1, 1, false), (2, 1, false)]),
  (181, .st 3 [.v (.bool false), .v (.int .u64 0), .v (.int .u64 0)] [(0, 1, false), (1, 1, false), (2, 1, false)]),
  (183, .sl 1 false [.nil 7]),
  (210, .st 2 [.v (.int .i64 0), .v (.int .u64 0)] [(0, 1, false), (1, 1, false)]),
  (211, .st 2 [.v (.int .i64 0), .v (.int .u64 0)] [(0, 1, false), (1, 1, false)]),
  (213, .ar 2 [.v (.int .i64 0), .v (.int .i64 0)] 2 1 false),
  (214, .ar 4 [.v (.int .i64 0), .v (.int .i64 0), .v (.int .i64 0), .v (.int .i64 0)] 2 2 true),
  (218, .sl 2 true [.v (.int .i64 0), .v (.int .i64 0)]),
  (246, .int .u64),
  (270, .int .i64),
  (277, .int .u32),
  (283, .int .u64),
  (295, .st 4 [.v (.pointer none), .v (.pointer none), .v (.pointer none), .v (.string "".toUTF8)] [(0, 1, false), (1, 1, false), (2, 1, false), (3, 1, false)])]
theorem ty_all : TysOK Tryz.prog Ty := ⟨⟨Tryz.sizeOf2, Tryz.isAgg2, ⟨_, Tryz.zeroValue2, fun _ _ => ⟨.v _ rfl (wfB_iff rfl), trivial⟩⟩, Tryz.underlying2⟩,
  ⟨Tryz.sizeOf3, Tryz.isAgg3, ⟨_, Tryz.zeroValue3, fun _ _ => ⟨.v _ rfl (wfB_iff rfl), trivial⟩⟩, Tryz.underlying3⟩,
  ⟨Tryz.sizeOf4, Tryz.isAgg4, ⟨_, Tryz.zeroValue4, fun _ _ => ⟨.v _ rfl (wfB_iff rfl), trivial⟩⟩, Tryz.underlying4⟩,
  ⟨Tryz.sizeOf5, Tryz.isAgg5, ⟨_, Tryz.zeroValue5, fun _ _ => ⟨.v _ rfl (wfB_iff rfl), trivial⟩⟩, Tryz.underlying5⟩,
  ⟨Tryz.sizeOf9, Tryz.isAgg9, ⟨_, Tryz.zeroValue9, fun _ _ => ⟨.v _ rfl (wfB_iff rfl), trivial⟩⟩, trivial⟩,
  ⟨Tryz.sizeOf12, Tryz.isAgg12, ⟨_, Tryz.zeroValue12, fun _ _ => ⟨.v _ rfl (wfB_iff rfl), trivial⟩⟩, Tryz.underlying12⟩,
  ⟨Tryz.sizeOf21, Tryz.isAgg21, ⟨_, Tryz.zeroValue21, fun _ _ => ⟨.v _ rfl (wfB_iff rfl), trivial⟩⟩, Tryz.underlying21⟩,
  ⟨Tryz.sizeOf22, Tryz.isAgg22, ⟨_, Tryz.zeroValue22, fun _ _ => ⟨.v _ rfl (wfB_iff rfl), .v _ rfl (wfB_iff rfl), trivial⟩⟩, st_ty Tryz.underlying22 rfl ⟨rfl, Tryz.sizeOf2, Tryz.isAgg2, rfl, Tryz.sizeOf2, Tryz.isAgg2, trivial⟩⟩,
  ⟨Tryz.sizeOf23, Tryz.isAgg23, ⟨_, Tryz.zeroValue23, fun _ _ => ⟨.v _ rfl (wfB_iff rfl), .v _ rfl (wfB_iff rfl), trivial⟩⟩, st_ty Tryz.underlying23 rfl ⟨rfl, Tryz.sizeOf2, Tryz.isAgg2, rfl, Tryz.sizeOf2, Tryz.isAgg2, trivial⟩⟩,
  ⟨Tryz.sizeOf24, Tryz.isAgg24, ⟨_, Tryz.zeroValue24, fun _ _ => ⟨.nl _, trivial⟩⟩, sl_ty Tryz.underlying24 Tryz.sizeOf30 Tryz.isAgg30 Tryz.zeroValue30 rfl (show Tryz.prog.info? 30 = some Tryz.t30 by kernel_rfl) rfl rfl rfl (fun _ _ => ⟨.v _ rfl (wfB_iff rfl), .v _ rfl (wfB_iff rfl), .v _ rfl (wfB_iff rfl), trivial⟩) rfl⟩,
  ⟨Tryz.sizeOf25, Tryz.isAgg25, ⟨_, Tryz.zeroValue25, fun _ _ => ⟨.nl _, trivial⟩⟩, st_ty Tryz.underlying25 rfl ⟨rfl, Tryz.sizeOf24, Tryz.isAgg24, trivial⟩⟩,
  ⟨Tryz.sizeOf26, Tryz.isAgg26, ⟨_, Tryz.zeroValue26, fun _ _ => ⟨.nl _, trivial⟩⟩, st_ty Tryz.underlying26 rfl ⟨rfl, Tryz.sizeOf24, Tryz.isAgg24, trivial⟩⟩,
  ⟨Tryz.sizeOf27, Tryz.isAgg27, ⟨_, Tryz.zeroValue27, fun _ _ => ⟨.v _ rfl (wfB_iff rfl), .v _ rfl (wfB_iff rfl), .nl _, trivial⟩⟩, st_ty Tryz.underlying27 rfl ⟨rfl, Tryz.sizeOf23, Tryz.isAgg23, rfl, Tryz.sizeOf26, Tryz.isAgg26, trivial⟩⟩,
  ⟨Tryz.sizeOf28, Tryz.isAgg28, ⟨_, Tryz.zeroValue28, fun _ _ => ⟨.v _ rfl (wfB_iff rfl), .v _ rfl (wfB_iff rfl), .nl _, trivial⟩⟩, st_ty Tryz.underlying28 rfl ⟨rfl, Tryz.sizeOf23, Tryz.isAgg23, rfl, Tryz.sizeOf26, Tryz.isAgg26, trivial⟩⟩,
  ⟨Tryz.sizeOf29, Tryz.isAgg29, ⟨_, Tryz.zeroValue29, fun _ _ => ⟨.v _ rfl (wfB_iff rfl), .v _ rfl (wfB_iff rfl), .v _ rfl (wfB_iff rfl), trivial⟩⟩, st_ty Tryz.underlying29 rfl ⟨rfl, Tryz.sizeOf3, Tryz.isAgg3, rfl, Tryz.sizeOf2, Tryz.isAgg2, rfl, Tryz.sizeOf2, Tryz.isAgg2, trivial⟩⟩,
  ⟨Tryz.sizeOf30, Tryz.isAgg30, ⟨_, Tryz.zeroValue30, fun _ _ => ⟨.v _ rfl (wfB_iff rfl), .v _ rfl (wfB_iff rfl), .v _ rfl (wfB_iff rfl), trivial⟩⟩, st_ty Tryz.underlying30 rfl ⟨rfl, Tryz.sizeOf3, Tryz.isAgg3, rfl, Tryz.sizeOf2, Tryz.isAgg2, rfl, Tryz.sizeOf2, Tryz.isAgg2, trivial⟩⟩,
  ⟨Tryz.sizeOf31, Tryz.isAgg31, ⟨_, Tryz.zeroValue31, fun _ _ => ⟨.v _ rfl (wfB_iff rfl), .v _ rfl (wfB_iff rfl), .v _ rfl (wfB_iff rfl), .v _ rfl (wfB_iff rfl), .v _ rfl (wfB_iff rfl), .v _ rfl (wfB_iff rfl), .v _ rfl (wfB_iff rfl), trivial⟩⟩, st_ty Tryz.underlying31 rfl ⟨rfl, Tryz.sizeOf5, Tryz.isAgg5, rfl, Tryz.sizeOf30, Tryz.isAgg30, rfl, Tryz.sizeOf3, Tryz.isAgg3, rfl, Tryz.sizeOf23, Tryz.isAgg23, trivial⟩⟩,
  ⟨Tryz.sizeOf32, Tryz.isAgg32, ⟨_, Tryz.zeroValue32, fun _ _ => ⟨.v _ rfl (wfB_iff rfl), .v _ rfl (wfB_iff rfl), .v _ rfl (wfB_iff rfl), .v _ rfl (wfB_iff rfl), .v _ rfl (wfB_iff rfl), .v _ rfl (wfB_iff rfl), .v _ rfl (wfB_iff rfl), trivial⟩⟩, st_ty Tryz.underlying32 rfl ⟨rfl, Tryz.sizeOf5, Tryz.isAgg5, rfl, Tryz.sizeOf30, Tryz.isAgg30, rfl, Tryz.sizeOf3, Tryz.isAgg3, rfl, Tryz.sizeOf23, Tryz.isAgg23, trivial⟩⟩,
  ⟨Tryz.sizeOf33, Tryz.isAgg33, ⟨_, Tryz.zeroValue33, fun _ _ => ⟨.nl _, trivial⟩⟩, sl_ty Tryz.underlying33 Tryz.sizeOf32 Tryz.isAgg32 Tryz.zeroValue32 rfl (show Tryz.prog.info? 32 = some Tryz.t32 by kernel_rfl) rfl rfl rfl (fun _ _ => ⟨.v _ rfl (wfB_iff rfl), .v _ rfl (wfB_iff rfl), .v _ rfl (wfB_iff rfl), .v _ rfl (wfB_iff rfl), .v _ rfl (wfB_iff rfl), .v _ rfl (wfB_iff rfl), .v _ rfl (wfB_iff rfl), trivial⟩) rfl⟩,
  ⟨Tryz.sizeOf36, Tryz.isAgg36, ⟨_, Tryz.zeroValue36, fun _ _ => ⟨.v _ rfl (wfB_iff rfl), trivial⟩⟩, Tryz.underlying36⟩,
  ⟨Tryz.sizeOf41, Tryz.isAgg41, ⟨_, Tryz.zeroValue41, fun _ _ => ⟨.nl _, trivial⟩⟩, sl_ty Tryz.underlying41 Tryz.sizeOf36 Tryz.isAgg36 Tryz.zeroValue36 rfl (show Tryz.prog.info? 36 = some Tryz.t36 by kernel_rfl) rfl rfl rfl (fun _ _ => ⟨.v _ rfl (wfB_iff rfl), trivial⟩) rfl⟩,
  ⟨Tryz.sizeOf44, Tryz.isAgg44, ⟨_, Tryz.zeroValue44, fun _ _ => ⟨.nl _, trivial⟩⟩, sl_ty Tryz.underlying44 Tryz.sizeOf3 Tryz.isAgg3 Tryz.zeroValue3 rfl (show Tryz.prog.info? 3 = some Tryz.t3 by kernel_rfl) rfl rfl rfl (fun _ _ => ⟨.v _ rfl (wfB_iff rfl), trivial⟩) rfl⟩,
  ⟨Tryz.sizeOf61, Tryz.isAgg61, ⟨_, Tryz.zeroValue61, fun _ _ => ⟨.nl _, trivial⟩⟩, sl_ty Tryz.underlying61 Tryz.sizeOf84 Tryz.isAgg84 Tryz.zeroValue84 rfl (show Tryz.prog.info? 84 = some Tryz.t84 by kernel_rfl) rfl rfl rfl (fun _ _ => ⟨.v _ rfl (wfB_iff rfl), .v _ rfl (wfB_iff rfl), .v _ rfl (wfB_iff rfl), .v _ rfl (wfB_iff rfl), .v _ rfl (wfB_iff rfl), .nl _, trivial⟩) rfl⟩,
  ⟨Tryz.sizeOf62, Tryz.isAgg62, ⟨_, Tryz.zeroValue62, fun _ _ => ⟨.v _ rfl (wfB_iff rfl), .v _ rfl (wfB_iff rfl), .nl _, .nl _, .nl _, trivial⟩⟩, st_ty Tryz.underlying62 rfl ⟨rfl, Tryz.sizeOf28, Tryz.isAgg28, rfl, Tryz.sizeOf33, Tryz.isAgg33, rfl, Tryz.sizeOf61, Tryz.isAgg61, trivial⟩⟩,
  ⟨Tryz.sizeOf63, Tryz.isAgg63, ⟨_, Tryz.zeroValue63, fun _ _ => ⟨.v _ rfl (wfB_iff rfl), .v _ rfl (wfB_iff rfl), .nl _, .nl _, .nl _, trivial⟩⟩, st_ty Tryz.underlying63 rfl ⟨rfl, Tryz.sizeOf28, Tryz.isAgg28, rfl, Tryz.sizeOf33, Tryz.isAgg33, rfl, Tryz.sizeOf61, Tryz.isAgg61, trivial⟩⟩,
  ⟨Tryz.sizeOf82, Tryz.isAgg82, ⟨_, Tryz.zeroValue82, fun _ _ => ⟨.nl _, trivial⟩⟩, sl_ty Tryz.underlying82 Tryz.sizeOf167 Tryz.isAgg167 Tryz.zeroValue167 rfl (show Tryz.prog.info? 167 = some Tryz.t167 by kernel_rfl) rfl rfl rfl (fun _ _ => ⟨.v _ rfl (wfB_iff rfl), .v _ rfl (wfB_iff rfl), .v _ rfl (wfB_iff rfl), .v _ rfl (wfB_iff rfl), trivial⟩) rfl⟩,
  ⟨Tryz.sizeOf83, Tryz.isAgg83, ⟨_, Tryz.zeroValue83, fun _ _ => ⟨.v _ rfl (wfB_iff rfl), .v _ rfl (wfB_iff rfl), .v _ rfl (wfB_iff rfl), .v _ rfl (wfB_iff rfl), .v _ rfl (wfB_iff rfl), .nl _, trivial⟩⟩, st_ty Tryz.underlying83 rfl ⟨rfl, Tryz.sizeOf36, Tryz.isAgg36, rfl, Tryz.sizeOf3, Tryz.isAgg3, rfl, Tryz.sizeOf3, Tryz.isAgg3, rfl, Tryz.sizeOf23, Tryz.isAgg23, rfl, Tryz.sizeOf82, Tryz.isAgg82, trivial⟩⟩,
  ⟨Tryz.sizeOf84, Tryz.isAgg84, ⟨_, Tryz.zeroValue84, fun _ _ => ⟨.v _ rfl (wfB_iff rfl), .v _ rfl (wfB_iff rfl), .v _ rfl (wfB_iff rfl), .v _ rfl (wfB_iff rfl), .v _ rfl (wfB_iff rfl), .nl _, trivial⟩⟩, st_ty Tryz.underlying84 rfl ⟨rfl, Tryz.sizeOf36, Tryz.isAgg36, rfl, Tryz.sizeOf3, Tryz.isAgg3, rfl, Tryz.sizeOf3, Tryz.isAgg3, rfl, Tryz.sizeOf23, Tryz.isAgg23, rfl, Tryz.sizeOf82, Tryz.isAgg82, trivial⟩⟩,
  ⟨Tryz.sizeOf89, Tryz.isAgg89, ⟨_, Tryz.zeroValue89, fun _ _ => ⟨.nl _, trivial⟩⟩, sl_ty Tryz.underlying89 Tryz.sizeOf104 Tryz.isAgg104 Tryz.zeroValue104 rfl (show Tryz.prog.info? 104 = some Tryz.t104 by kernel_rfl) rfl rfl rfl (fun _ _ => ⟨.v _ rfl (wfB_iff rfl), .v _ rfl (wfB_iff rfl), trivial⟩) rfl⟩,
  ⟨Tryz.sizeOf103, Tryz.isAgg103, ⟨_, Tryz.zeroValue103, fun _ _ => ⟨.v _ rfl (wfB_iff rfl), .v _ rfl (wfB_iff rfl), trivial⟩⟩, st_ty Tryz.underlying103 rfl ⟨rfl, Tryz.sizeOf5, Tryz.isAgg5, rfl, Tryz.sizeOf3, Tryz.isAgg3, trivial⟩⟩,
  ⟨Tryz.sizeOf104, Tryz.isAgg104, ⟨_, Tryz.zeroValue104, fun _ _ => ⟨.v _ rfl (wfB_iff rfl), .v _ rfl (wfB_iff rfl), trivial⟩⟩, st_ty Tryz.underlying104 rfl ⟨rfl, Tryz.sizeOf5, Tryz.isAgg5, rfl, Tryz.sizeOf3, Tryz.isAgg3, trivial⟩⟩,
  ⟨Tryz.sizeOf132, Tryz.isAgg132, ⟨_, Tryz.zeroValue132, fun _ _ => ⟨.nl _, trivial⟩⟩, sl_ty Tryz.underlying132 Tryz.sizeOf135 Tryz.isAgg135 Tryz.zeroValue135 rfl (show Tryz.prog.info? 135 = some Tryz.t135 by kernel_rfl) rfl rfl rfl (fun _ _ => ⟨.v _ rfl (wfB_iff rfl), .v _ rfl (wfB_iff rfl), .v _ rfl (wfB_iff rfl), .v _ rfl (wfB_iff rfl), .v _ rfl (wfB_iff rfl), trivial⟩) rfl⟩,
  ⟨Tryz.sizeOf134, Tryz.isAgg134, ⟨_, Tryz.zeroValue134, fun _ _ => ⟨.v _ rfl (wfB_iff rfl), .v _ rfl (wfB_iff rfl), .v _ rfl (wfB_iff rfl), .v _ rfl (wfB_iff rfl), .v _ rfl (wfB_iff rfl), trivial⟩⟩, st_ty Tryz.underlying134 rfl ⟨rfl, Tryz.sizeOf104, Tryz.isAgg104, rfl, Tryz.sizeOf30, Tryz.isAgg30, trivial⟩⟩,
  ⟨Tryz.sizeOf135, Tryz.isAgg135, ⟨_, Tryz.zeroValue135, fun _ _ => ⟨.v _ rfl (wfB_iff rfl), .v _ rfl (wfB_iff rfl), .v _ rfl (wfB_iff rfl), .v _ rfl (wfB_iff rfl), .v _ rfl (wfB_iff rfl), trivial⟩⟩, st_ty Tryz.underlying135 rfl ⟨rfl, Tryz.sizeOf104, Tryz.isAgg104, rfl, Tryz.sizeOf30, Tryz.isAgg30, trivial⟩⟩,
  ⟨Tryz.sizeOf139, Tryz.isAgg139, ⟨_, Tryz.zeroValue139, fun _ _ => ⟨.v _ rfl (wfB_iff rfl), trivial⟩⟩, Tryz.underlying139⟩,
  ⟨Tryz.sizeOf140, Tryz.isAgg140, ⟨_, Tryz.zeroValue140, fun _ _ => ⟨.v _ rfl (wfB_iff rfl), .v _ rfl (wfB_iff rfl), .v _ rfl (wfB_iff rfl), trivial⟩⟩, st_ty Tryz.underlying140 rfl ⟨rfl, Tryz.sizeOf4, Tryz.isAgg4, rfl, Tryz.sizeOf139, Tryz.isAgg139, rfl, Tryz.sizeOf139, Tryz.isAgg139, trivial⟩⟩,
  ⟨Tryz.sizeOf141, Tryz.isAgg141, ⟨_, Tryz.zeroValue141, fun _ _ => ⟨.v _ rfl (wfB_iff rfl), .v _ rfl (wfB_iff rfl), .v _ rfl (wfB_iff rfl), trivial⟩⟩, st_ty Tryz.underlying141 rfl ⟨rfl, Tryz.sizeOf4, Tryz.isAgg4, rfl, Tryz.sizeOf139, Tryz.isAgg139, rfl, Tryz.sizeOf139, Tryz.isAgg139, trivial⟩⟩,
  ⟨Tryz.sizeOf146, Tryz.isAgg146, ⟨_, Tryz.zeroValue146, fun _ _ => ⟨.nl _, trivial⟩⟩, sl_ty Tryz.underlying146 Tryz.sizeOf63 Tryz.isAgg63 Tryz.zeroValue63 rfl (show Tryz.prog.info? 63 = some Tryz.t63 by kernel_rfl) rfl rfl rfl (fun _ _ => ⟨.v _ rfl (wfB_iff rfl), .v _ rfl (wfB_iff rfl), .nl _, .nl _, .nl _, trivial⟩) rfl⟩,
  ⟨Tryz.sizeOf166, Tryz.isAgg166, ⟨_, Tryz.zeroValue166, fun _ _ => ⟨.v _ rfl (wfB_iff rfl), .v _ rfl (wfB_iff rfl), .v _ rfl (wfB_iff rfl), .v _ rfl (wfB_iff rfl), trivial⟩⟩, st_ty Tryz.underlying166 rfl ⟨rfl, Tryz.sizeOf23, Tryz.isAgg23, rfl, Tryz.sizeOf3, Tryz.isAgg3, rfl, Tryz.sizeOf3, Tryz.isAgg3, trivial⟩⟩,
  ⟨Tryz.sizeOf167, Tryz.isAgg167, ⟨_, Tryz.zeroValue167, fun _ _ => ⟨.v _ rfl (wfB_iff rfl), .v _ rfl (wfB_iff rfl), .v _ rfl (wfB_iff rfl), .v _ rfl (wfB_iff rfl), trivial⟩⟩, st_ty Tryz.underlying167 rfl ⟨rfl, Tryz.sizeOf23, Tryz.isAgg23, rfl, Tryz.sizeOf3, Tryz.isAgg3, rfl, Tryz.sizeOf3, Tryz.isAgg3, trivial⟩⟩,
  ⟨Tryz.sizeOf180, Tryz.isAgg180, ⟨_, Tryz.zeroValue180, fun _ _ => ⟨.v _ rfl (wfB_iff rfl), .v _ rfl (wfB_iff rfl), .v _ rfl (wfB_iff rfl), trivial⟩⟩, st_ty Tryz.underlying180 rfl ⟨rfl, Tryz.sizeOf4, Tryz.isAgg4, rfl, Tryz.sizeOf139, Tryz.isAgg139, rfl, Tryz.sizeOf139, Tryz.isAgg139, trivial⟩⟩,
  ⟨Tryz.sizeOf181, Tryz.isAgg181, ⟨_, Tryz.zeroValue181, fun _ _ => ⟨.v _ rfl (wfB_iff rfl), .v _ rfl (wfB_iff rfl), .v _ rfl (wfB_iff rfl), trivial⟩⟩, st_ty Tryz.underlying181 rfl ⟨rfl, Tryz.sizeOf4, Tryz.isAgg4, rfl, Tryz.sizeOf139, Tryz.isAgg139, rfl, Tryz.sizeOf139, Tryz.isAgg139, trivial⟩⟩,
  ⟨Tryz.sizeOf183, Tryz.isAgg183, ⟨_, Tryz.zeroValue183, fun _ _ => ⟨.nl _, trivial⟩⟩, sl_ty Tryz.underlying183 Tryz.sizeOf33 Tryz.isAgg33 Tryz.zeroValue33 rfl (show Tryz.prog.info? 33 = some Tryz.t33 by kernel_rfl) rfl rfl rfl (fun _ _ => ⟨.nl _, trivial⟩) rfl⟩,
  ⟨Tryz.sizeOf210, Tryz.isAgg210, ⟨_, Tryz.zeroValue210, fun _ _ => ⟨.v _ rfl (wfB_iff rfl), .v _ rfl (wfB_iff rfl), trivial⟩⟩, st_ty Tryz.underlying210 rfl ⟨rfl, Tryz.sizeOf2, Tryz.isAgg2, rfl, Tryz.sizeOf139, Tryz.isAgg139, trivial⟩⟩,
  ⟨Tryz.sizeOf211, Tryz.isAgg211, ⟨_, Tryz.zeroValue211, fun _ _ => ⟨.v _ rfl (wfB_iff rfl), .v _ rfl (wfB_iff rfl), trivial⟩⟩, st_ty Tryz.underlying211 rfl ⟨rfl, Tryz.sizeOf2, Tryz.isAgg2, rfl, Tryz.sizeOf139, Tryz.isAgg139, trivial⟩⟩,
  ⟨Tryz.sizeOf213, Tryz.isAgg213, ⟨_, Tryz.zeroValue213, fun _ _ => ⟨.v _ rfl (wfB_iff rfl), .v _ rfl (wfB_iff rfl), trivial⟩⟩, ⟨_, Tryz.underlying213, Tryz.sizeOf2, Tryz.isAgg2⟩⟩,
  ⟨Tryz.sizeOf214, Tryz.isAgg214, ⟨_, Tryz.zeroValue214, fun _ _ => ⟨.v _ rfl (wfB_iff rfl), .v _ rfl (wfB_iff rfl), .v _ rfl (wfB_iff rfl), .v _ rfl (wfB_iff rfl), trivial⟩⟩, ⟨_, Tryz.underlying214, Tryz.sizeOf213, Tryz.isAgg213⟩⟩,
  ⟨Tryz.sizeOf218, Tryz.isAgg218, ⟨_, Tryz.zeroValue218, fun _ _ => ⟨.nl _, trivial⟩⟩, sl_ty Tryz.underlying218 Tryz.sizeOf23 Tryz.isAgg23 Tryz.zeroValue23 rfl (show Tryz.prog.info? 23 = some Tryz.t23 by kernel_rfl) rfl rfl rfl (fun _ _ => ⟨.v _ rfl (wfB_iff rfl), .v _ rfl (wfB_iff rfl), trivial⟩) rfl⟩,
  ⟨Tryz.sizeOf246, Tryz.isAgg246, ⟨_, Tryz.zeroValue246, fun _ _ => ⟨.v _ rfl (wfB_iff rfl), trivial⟩⟩, Tryz.underlying246⟩,
  ⟨Tryz.sizeOf270, Tryz.isAgg270, ⟨_, Tryz.zeroValue270, fun _ _ => ⟨.v _ rfl (wfB_iff rfl), trivial⟩⟩, Tryz.underlying270⟩,
  ⟨Tryz.sizeOf277, Tryz.isAgg277, ⟨_, Tryz.zeroValue277, fun _ _ => ⟨.v _ rfl (wfB_iff rfl), trivial⟩⟩, Tryz.underlying277⟩,
  ⟨Tryz.sizeOf283, Tryz.isAgg283, ⟨_, Tryz.zeroValue283, fun _ _ => ⟨.v _ rfl (wfB_iff rfl), trivial⟩⟩, Tryz.underlying283⟩,
  ⟨Tryz.sizeOf295, Tryz.isAgg295, ⟨_, Tryz.zeroValue295, fun _ _ => ⟨.v _ rfl (wfB_iff rfl), .v _ rfl (wfB_iff rfl), .v _ rfl (wfB_iff rfl), .v _ rfl (wfB_iff rfl), trivial⟩⟩, st_ty Tryz.underlying295 rfl ⟨rfl, Tryz.sizeOf17, Tryz.isAgg17, rfl, Tryz.sizeOf17, Tryz.isAgg17, rfl, Tryz.sizeOf17, Tryz.isAgg17, rfl, Tryz.sizeOf9, Tryz.isAgg9, trivial⟩⟩, trivial⟩
theorem ty_okK (K mu co me : List Nat) : ΓOK Tryz.prog ⟨Ty, K, mu, co, me, false⟩ := tys_ok ty_all
theorem ty_okD : ΓOK Tryz.prog ⟨Ty, [], [], [], [], true⟩ := tys_ok ty_all
theorem ty_ok : ΓOK Tryz.prog ⟨Ty, [], [], [], [], false⟩ := tys_ok ty_all
theorem eqv23 (a0 b0 : Int) (a1 b1 : Int) (x y : Operand) (w : World) : (do eqGuard .eql 23 x y (.agg #[.int .i64 a0, .int .i64 a1]) (.agg #[.int .i64 b0, .int .i64 b1]); binOp .eql 23 (.agg #[.int .i64 a0, .int .i64 a1]) (.agg #[.int .i64 b0, .int .i64 b1]) : Sem Value).run Tryz.prog w = .ok (.bool (decide (a0 = b0 ∧ a1 = b1))) w := by
  by_cases h0 : a0 = b0
  · skip
    by_cases h1 : a1 = b1
    · skip
      simp [go_sem, eqGuard, binOp, Op.equal, Op.maxDepth, h0, h1]
    · simp [go_sem, eqGuard, binOp, Op.equal, Op.maxDepth, h0, h1]
  · simp [go_sem, eqGuard, binOp, Op.equal, Op.maxDepth, h0]
theorem nev23 (a0 b0 : Int) (a1 b1 : Int) (x y : Operand) (w : World) : (do eqGuard .neq 23 x y (.agg #[.int .i64 a0, .int .i64 a1]) (.agg #[.int .i64 b0, .int .i64 b1]); binOp .neq 23 (.agg #[.int .i64 a0, .int .i64 a1]) (.agg #[.int .i64 b0, .int .i64 b1]) : Sem Value).run Tryz.prog w = .ok (.bool (decide (¬ (a0 = b0 ∧ a1 = b1)))) w := by
  by_cases h0 : a0 = b0
  · skip
    by_cases h1 : a1 = b1
    · skip
      simp [go_sem, eqGuard, binOp, Op.equal, Op.maxDepth, h0, h1]
    · simp [go_sem, eqGuard, binOp, Op.equal, Op.maxDepth, h0, h1]
  · simp [go_sem, eqGuard, binOp, Op.equal, Op.maxDepth, h0]
theorem nev30 (a0 b0 : Int) (a1 b1 : Int) (a2 b2 : Int) (x y : Operand) (w : World) : (do eqGuard .neq 30 x y (.agg #[.int .i64 a0, .int .i64 a1, .int .i64 a2]) (.agg #[.int .i64 b0, .int .i64 b1, .int .i64 b2]); binOp .neq 30 (.agg #[.int .i64 a0, .int .i64 a1, .int .i64 a2]) (.agg #[.int .i64 b0, .int .i64 b1, .int .i64 b2]) : Sem Value).run Tryz.prog w = .ok (.bool (decide (¬ (a0 = b0 ∧ a1 = b1 ∧ a2 = b2)))) w := by
  by_cases h0 : a0 = b0
  · skip
    by_cases h1 : a1 = b1
    · skip
      by_cases h2 : a2 = b2
      · skip
        simp [go_sem, eqGuard, binOp, Op.equal, Op.maxDepth, h0, h1, h2]
      · simp [go_sem, eqGuard, binOp, Op.equal, Op.maxDepth, h0, h1, h2]
    · simp [go_sem, eqGuard, binOp, Op.equal, Op.maxDepth, h0, h1]
  · simp [go_sem, eqGuard, binOp, Op.equal, Op.maxDepth, h0]
theorem eqv32 (a0 b0 : Int) (a1 b1 : Int) (a2 b2 : Int) (a3 b3 : Int) (a4 b4 : Int) (a5 b5 : Int) (a6 b6 : Int) (x y : Operand) (w : World) : (do eqGuard .eql 32 x y (.agg #[.int .u8 a0, .int .i64 a1, .int .i64 a2, .int .i64 a3, .int .i64 a4, .int .i64 a5, .int .i64 a6]) (.agg #[.int .u8 b0, .int .i64 b1, .int .i64 b2, .int .i64 b3, .int .i64 b4, .int .i64 b5, .int .i64 b6]); binOp .eql 32 (.agg #[.int .u8 a0, .int .i64 a1, .int .i64 a2, .int .i64 a3, .int .i64 a4, .int .i64 a5, .int .i64 a6]) (.agg #[.int .u8 b0, .int .i64 b1, .int .i64 b2, .int .i64 b3, .int .i64 b4, .int .i64 b5, .int .i64 b6]) : Sem Value).run Tryz.prog w = .ok (.bool (decide (a0 = b0 ∧ a1 = b1 ∧ a2 = b2 ∧ a3 = b3 ∧ a4 = b4 ∧ a5 = b5 ∧ a6 = b6))) w := by
  by_cases h0 : a0 = b0
  · skip
    by_cases h1 : a1 = b1
    · skip
      by_cases h2 : a2 = b2
      · skip
        by_cases h3 : a3 = b3
        · skip
          by_cases h4 : a4 = b4
          · skip
            by_cases h5 : a5 = b5
            · skip
              by_cases h6 : a6 = b6
              · skip
                simp [go_sem, eqGuard, binOp, Op.equal, Op.maxDepth, h0, h1, h2, h3, h4, h5, h6]
              · simp [go_sem, eqGuard, binOp, Op.equal, Op.maxDepth, h0, h1, h2, h3, h4, h5, h6]
            · simp [go_sem, eqGuard, binOp, Op.equal, Op.maxDepth, h0, h1, h2, h3, h4, h5]
          · simp [go_sem, eqGuard, binOp, Op.equal, Op.maxDepth, h0, h1, h2, h3, h4]
        · simp [go_sem, eqGuard, binOp, Op.equal, Op.maxDepth, h0, h1, h2, h3]
      · simp [go_sem, eqGuard, binOp, Op.equal, Op.maxDepth, h0, h1, h2]
    · simp [go_sem, eqGuard, binOp, Op.equal, Op.maxDepth, h0, h1]
  · simp [go_sem, eqGuard, binOp, Op.equal, Op.maxDepth, h0]
theorem nev32 (a0 b0 : Int) (a1 b1 : Int) (a2 b2 : Int) (a3 b3 : Int) (a4 b4 : Int) (a5 b5 : Int) (a6 b6 : Int) (x y : Operand) (w : World) : (do eqGuard .neq 32 x y (.agg #[.int .u8 a0, .int .i64 a1, .int .i64 a2, .int .i64 a3, .int .i64 a4, .int .i64 a5, .int .i64 a6]) (.agg #[.int .u8 b0, .int .i64 b1, .int .i64 b2, .int .i64 b3, .int .i64 b4, .int .i64 b5, .int .i64 b6]); binOp .neq 32 (.agg #[.int .u8 a0, .int .i64 a1, .int .i64 a2, .int .i64 a3, .int .i64 a4, .int .i64 a5, .int .i64 a6]) (.agg #[.int .u8 b0, .int .i64 b1, .int .i64 b2, .int .i64 b3, .int .i64 b4, .int .i64 b5, .int .i64 b6]) : Sem Value).run Tryz.prog w = .ok (.bool (decide (¬ (a0 = b0 ∧ a1 = b1 ∧ a2 = b2 ∧ a3 = b3 ∧ a4 = b4 ∧ a5 = b5 ∧ a6 = b6)))) w := by
  by_cases h0 : a0 = b0
  · skip
    by_cases h1 : a1 = b1
    · skip
      by_cases h2 : a2 = b2
      · skip
        by_cases h3 : a3 = b3
        · skip
          by_cases h4 : a4 = b4
          · skip
            by_cases h5 : a5 = b5
            · skip
              by_cases h6 : a6 = b6
              · skip
                simp [go_sem, eqGuard, binOp, Op.equal, Op.maxDepth, h0, h1, h2, h3, h4, h5, h6]
              · simp [go_sem, eqGuard, binOp, Op.equal, Op.maxDepth, h0, h1, h2, h3, h4, h5, h6]
            · simp [go_sem, eqGuard, binOp, Op.equal, Op.maxDepth, h0, h1, h2, h3, h4, h5]
          · simp [go_sem, eqGuard, binOp, Op.equal, Op.maxDepth, h0, h1, h2, h3, h4]
        · simp [go_sem, eqGuard, binOp, Op.equal, Op.maxDepth, h0, h1, h2, h3]
      · simp [go_sem, eqGuard, binOp, Op.equal, Op.maxDepth, h0, h1, h2]
    · simp [go_sem, eqGuard, binOp, Op.equal, Op.maxDepth, h0, h1]
  · simp [go_sem, eqGuard, binOp, Op.equal, Op.maxDepth, h0]
theorem nev167 (a0 b0 : Int) (a1 b1 : Int) (a2 b2 : Int) (a3 b3 : Int) (x y : Operand) (w : World) : (do eqGuard .neq 167 x y (.agg #[.int .i64 a0, .int .i64 a1, .int .i64 a2, .int .i64 a3]) (.agg #[.int .i64 b0, .int .i64 b1, .int .i64 b2, .int .i64 b3]); binOp .neq 167 (.agg #[.int .i64 a0, .int .i64 a1, .int .i64 a2, .int .i64 a3]) (.agg #[.int .i64 b0, .int .i64 b1, .int .i64 b2, .int .i64 b3]) : Sem Value).run Tryz.prog w = .ok (.bool (decide (¬ (a0 = b0 ∧ a1 = b1 ∧ a2 = b2 ∧ a3 = b3)))) w := by
  by_cases h0 : a0 = b0
  · skip
    by_cases h1 : a1 = b1
    · skip
      by_cases h2 : a2 = b2
      · skip
        by_cases h3 : a3 = b3
        · skip
          simp [go_sem, eqGuard, binOp, Op.equal, Op.maxDepth, h0, h1, h2, h3]
        · simp [go_sem, eqGuard, binOp, Op.equal, Op.maxDepth, h0, h1, h2, h3]
      · simp [go_sem, eqGuard, binOp, Op.equal, Op.maxDepth, h0, h1, h2]
    · simp [go_sem, eqGuard, binOp, Op.equal, Op.maxDepth, h0, h1]
  · simp [go_sem, eqGuard, binOp, Op.equal, Op.maxDepth, h0]
theorem nev211 (a0 b0 : Int) (a1 b1 : Int) (x y : Operand) (w : World) : (do eqGuard .neq 211 x y (.agg #[.int .i64 a0, .int .u64 a1]) (.agg #[.int .i64 b0, .int .u64 b1]); binOp .neq 211 (.agg #[.int .i64 a0, .int .u64 a1]) (.agg #[.int .i64 b0, .int .u64 b1]) : Sem Value).run Tryz.prog w = .ok (.bool (decide (¬ (a0 = b0 ∧ a1 = b1)))) w := by
  by_cases h0 : a0 = b0
  · skip
    by_cases h1 : a1 = b1
    · skip
      simp [go_sem, eqGuard, binOp, Op.equal, Op.maxDepth, h0, h1]
    · simp [go_sem, eqGuard, binOp, Op.equal, Op.maxDepth, h0, h1]
  · simp [go_sem, eqGuard, binOp, Op.equal, Op.maxDepth, h0]
end Sx
end Go.Proofs.YtepmgbmnghiaoaaGreat

namespace Go.Proofs.YtepmgbmnghiaoaaGreat
open Go.RowKit Go.Sort
theorem gcd_any (a b : Nat) (w : World) :
    Calls Tryz.prog 159 #[.int .u64 a, .int .u64 b] w fun e w' => e = .returned (.int .u64 (Nat.gcd a b : Nat)) ∧ Below w.heap.size w w' := by
  go_enter Tryz.func159, Tryz.ntmps159
  go_wp2
  go_loopw [0, 1] (fun x y wr => ∃ n m : Nat, x = .int .u64 n ∧ y = .int .u64 m ∧ Hid (Nat.gcd n m = Nat.gcd a b) ∧ Below w.heap.size w wr) (fun _ y _ => (intOf y).toNat)
  case atStart => exact ⟨a, b, rfl, rfl, Lib.hid rfl, Below.refl _ _⟩
  case round =>
    obtain ⟨n, m, rfl, rfl, hg, hb⟩ := hrel
    by_cases h0 : 0 < m
    · go_wp2
      go_quiet (fail)
      go_wp2
      have hlt := Nat.mod_lt n h0
      refine ⟨⟨m, n % m, rfl, by simp, Lib.hid ?_, below_drewN hb _⟩, ?_⟩
      · rw [← hg.out, Nat.gcd_comm n m, Nat.gcd_rec m n, Nat.gcd_comm]
      · show ((n : Int) % (m : Int)).toNat < ((m : Int)).toNat
        omega
    · go_wp2
      go_ret
      refine ⟨ret_int ?_, hb⟩
      rw [← hg.out]
      obtain rfl : m = 0 := by omega
      simp
theorem abs_any (n : Int) (w : World) (h0 : -9223372036854775808 ≤ n) (h1 : n ≤ 9223372036854775807) :
    Calls Tryz.prog 130 #[.int .i64 n] w fun e w' => e = .returned (.int .u64 (n.natAbs : Nat)) ∧ Below w.heap.size w w' := by
  have HW : Hid (n < 0 → IntKind.u64.wrap (-IntKind.u64.wrap n) = (n.natAbs : Nat)) := Lib.hid (by
    intro hn
    rw [IntKind.wrap_u64, IntKind.wrap_u64]
    omega)
  by_cases hn : n < 0
  · go_enter Tryz.func130, Tryz.ntmps130
    go_wp2
    go_ret
    exact ⟨ret_int (HW.out hn), Below.refl _ _⟩
  · go_enter Tryz.func130, Tryz.ntmps130
    go_wp2
    go_ret
    refine ⟨ret_int ?_, Below.refl _ _⟩
    omega
def chk (n d : Int) : Int := if d < 1 ∨ n = -9223372036854775808 ∨ 1 < Nat.gcd d.toNat n.natAbs then 8 else 0
theorem check_any (n d : Int) (w : World) (h0 : -9223372036854775808 ≤ n) (h1 : n ≤ 9223372036854775807) (h2 : -9223372036854775808 ≤ d) (h3 : d ≤ 9223372036854775807) :
    Calls Tryz.prog 129 #[.agg #[.int .i64 n, .int .i64 d]] w fun e w' => e = .returned (.int .i64 (chk n d)) ∧ Below w.heap.size w w' := by
  by_cases hd : d < 1
  · have hch : chk n d = 8 := by unfold chk; rw [if_pos (.inl hd)]
    rw [hch]
    go_enter Tryz.func129, Tryz.ntmps129
    go_wp2
    refine wp_region_quiet_below (by kernel_rfl) (by kernel_rfl) ?_
    repeat (go_big_quiet_step (fail))
    refine wpQuiet_nil ?_
    intro _ hw'
    obtain ⟨⟨dq, osq⟩, hw''⟩ := hw'
    subst hw''
    go_wp2
    go_ret
    exact ⟨rfl, below_reg (below_alloc (Below.refl _ _) _) _ _⟩
  · have hdf : decide (d < 1) = false := by simpa using hd
    by_cases hm : n = -9223372036854775808
    · have hch : chk n d = 8 := by unfold chk; rw [if_pos (.inr (.inl hm))]
      rw [hch]
      have hmb : (n == -9223372036854775808) = true := by simpa using hm
      clear hm
      go_enter Tryz.func129, Tryz.ntmps129
      go_wp2
      refine wp_region_quiet_below (by kernel_rfl) (by kernel_rfl) ?_
      repeat (go_big_quiet_step (fail))
      refine wpQuiet_nil ?_
      intro _ hw'
      obtain ⟨⟨dq, osq⟩, hw''⟩ := hw'
      subst hw''
      go_wp2
      go_ret
      exact ⟨rfl, below_reg (below_alloc (Below.refl _ _) _) _ _⟩
    · have hmb : (n == -9223372036854775808) = false := by simpa using hm
      obtain ⟨e, rfl⟩ := Int.eq_ofNat_of_zero_le (show 0 ≤ d by omega)
      by_cases hg : 1 < Nat.gcd e n.natAbs
      · have hch : chk n e = 8 := by unfold chk; rw [if_pos (.inr (.inr (by simpa using hg)))]
        rw [hch]
        clear hm
        go_enter Tryz.func129, Tryz.ntmps129
        go_wp2
        refine wp_region_quiet_below (by kernel_rfl) (by kernel_rfl) ?_
        repeat (go_big_quiet_step (first | (go_at_call 130; (with_reducible refine Calls.regrown_of (abs_any _ _ ?_ ?_)); omega; omega) | (go_at_call 159; (with_reducible refine Calls.regrown_of (gcd_any _ _ _)))))
        refine wpQuiet_nil ?_
        intro _ hw'
        obtain ⟨⟨dq, osq⟩, hw''⟩ := hw'
        subst hw''
        go_wp2
        go_ret
        exact ⟨rfl, below_reg (below_alloc (Below.refl _ _) _) _ _⟩
      · have hch : chk n e = 0 := by unfold chk; rw [if_neg (by rintro (h | h | h) <;> first | omega | exact hm h | exact hg (by simpa using h))]
        rw [hch]
        clear hm
        go_enter Tryz.func129, Tryz.ntmps129
        go_wp2
        refine wp_region_quiet_below (by kernel_rfl) (by kernel_rfl) ?_
        repeat (go_big_quiet_step (first | (go_at_call 130; (with_reducible refine Calls.regrown_of (abs_any _ _ ?_ ?_)); omega; omega) | (go_at_call 159; (with_reducible refine Calls.regrown_of (gcd_any _ _ _)))))
        refine wpQuiet_nil ?_
        intro _ hw'
        obtain ⟨⟨dq, osq⟩, hw''⟩ := hw'
        subst hw''
        go_wp2
        go_ret
        exact ⟨rfl, below_reg (below_alloc (Below.refl _ _) _) _ _⟩
end Go.Proofs.YtepmgbmnghiaoaaGreat

namespace Go.Proofs
open Go.Shelf
def Tryz.lays134_ren : Go.Shelf.Ren := ⟨fun | 134 => 186 | 129 => 206 | n => n, fun | 53 => 139 | 3 => 3 | 4 => 4 | 46 => 246 | 5 => 5 | 9 => 9 | n => n, fun | n => n⟩
theorem Tryz.lays134 : Go.Proofs.Lays.n134 Tryz.prog Tryz.lays134_ren := {
  mixed := by kernel_rfl
  f129 := Tryz.func206.trans (congrArg some (by kernel_rfl))
  f134 := Tryz.func186.trans (congrArg some (by kernel_rfl))
  t3 := Tryz.underlying3
  a3 := Tryz.isAgg3
  z3 := Tryz.sizeOf3
  v3 := Tryz.zeroValue3
  t4 := Tryz.underlying4
  a4 := Tryz.isAgg4
  z4 := Tryz.sizeOf4
  v4 := Tryz.zeroValue4
  t5 := Tryz.underlying5
  a5 := Tryz.isAgg5
  z5 := Tryz.sizeOf5
  v5 := Tryz.zeroValue5
  t9 := Tryz.underlying9
  a9 := Tryz.isAgg9
  z9 := Tryz.sizeOf9
  v9 := Tryz.zeroValue9
  t46 := Tryz.underlying246
  a46 := Tryz.isAgg246
  z46 := Tryz.sizeOf246
  v46 := Tryz.zeroValue246
  t53 := Tryz.underlying139
  a53 := Tryz.isAgg139
  z53 := Tryz.sizeOf139
  v53 := Tryz.zeroValue139 }
theorem Tryz.bits_LeadingZeros64 (x : Int) (w : World) (h0 : 0 ≤ x) (h1 : x ≤ 18446744073709551615) :
    Calls Tryz.prog 186 #[.int .u64 x] w fun e w' => e = .returned (.int .i64 (64 - (Lib.bitLen x.toNat : Int))) ∧ w' = w := Any.bits_LeadingZeros64 Tryz.lays134 x w h0 h1
def Tryz.lays264_ren : Go.Shelf.Ren := ⟨fun | 264 => 158 | n => n, fun | 53 => 139 | 46 => 246 | n => n, fun | n => n⟩
theorem Tryz.lays264 : Go.Proofs.Lays.n264 Tryz.prog Tryz.lays264_ren := {
  mixed := by kernel_rfl
  f264 := Tryz.func158.trans (congrArg some (by kernel_rfl))
  t46 := Tryz.underlying246
  a46 := Tryz.isAgg246
  z46 := Tryz.sizeOf246
  v46 := Tryz.zeroValue246
  t53 := Tryz.underlying139
  a53 := Tryz.isAgg139
  z53 := Tryz.sizeOf139
  v53 := Tryz.zeroValue139 }
open Go.RowKit Go.Lib in
theorem Tryz.bits_Mul64 (x y : Nat) (hx : x < 18446744073709551616) (hy : y < 18446744073709551616) (w : World) :
    Calls Tryz.prog 158 #[.int .u64 x, .int .u64 y] w fun e w' => e = .returned (.tuple #[.int .u64 ((x * y / 18446744073709551616 : Nat) : Int), .int .u64 ((x * y % 18446744073709551616 : Nat) : Int)]) ∧ w' = w := Any.bits_Mul64 Tryz.lays264 x y hx hy w
end Go.Proofs

namespace Go.Proofs.YtepmgbmnghiaoaaGreat
open Go.RowKit Go.Sort
def askd (n d : Int) : Int := if chk n d ≠ 0 then chk n d else if 1073741824 < n.natAbs ∨ 1024 < d then 2 else 0
theorem chk_08 (n d : Int) : chk n d = 0 ∨ chk n d = 8 := by unfold chk; split <;> simp
theorem asked_any (n d : Int) (w : World) (h0 : -9223372036854775808 ≤ n) (h1 : n ≤ 9223372036854775807) (h2 : -9223372036854775808 ≤ d) (h3 : d ≤ 9223372036854775807) :
    Calls Tryz.prog 93 #[.agg #[.int .i64 n, .int .i64 d]] w fun e w' => e = .returned (.int .i64 (askd n d)) ∧ Below w.heap.size w w' := by
  cases hn : decide ((1073741824 : Int) < (n.natAbs : Nat)) <;> cases hd : decide (1024 < d)
  all_goals
    go_enter Tryz.func93, Tryz.ntmps93
    go_wp2_with (first | (go_at_call 129; (with_reducible refine cmono ?_ (check_any _ _ _ ?_ ?_ ?_ ?_)); rotate_left; omega; omega; omega; omega; rintro e w' ⟨rfl, hbc0⟩; obtain ⟨⟨dc0, osc0⟩, rfl⟩ := regrown_of_below hbc0; clear hbc0) | (go_at_call 130; (with_reducible refine cmono ?_ (abs_any _ _ ?_ ?_)); rotate_left; omega; omega; rintro e w' ⟨rfl, hbc1⟩; obtain ⟨⟨dc1, osc1⟩, rfl⟩ := regrown_of_below hbc1; clear hbc1) | ((with_reducible refine wp_region_quiet_below ?_ ?_ ?_); kernel_rfl; kernel_rfl; (repeat (go_big_quiet_step (first | (go_at_call 129; (with_reducible refine Calls.regrown_of (check_any _ _ _ ?_ ?_ ?_ ?_)); omega; omega; omega; omega) | (go_at_call 130; (with_reducible refine Calls.regrown_of (abs_any _ _ ?_ ?_)); omega; omega)))); refine wpQuiet_nil ?_; intro _ hw'; obtain ⟨⟨dq, osq⟩, hw''⟩ := hw'; subst hw''))
    all_goals (go_ret; refine ⟨ret_int ?_, (by repeat (first | exact Below.refl _ _ | refine below_reg ?_ _ _ | refine below_alloc ?_ _ | exact below_drewN ?_ _ | assumption))⟩)
    all_goals (simp only [bne_iff_ne, bne_eq_false_iff_eq, decide_eq_true_eq, decide_eq_false_iff_not, ne_eq] at *)
    all_goals (unfold askd; (first | rw [if_pos (by omega)] | rw [if_neg (by omega)]))
    all_goals (first | rfl | (rw [if_pos (by omega)]; done) | (rw [if_neg (by omega)]; done))
def bth (n d m e : Int) : Int := if chk n d = 0 then chk m e else 8
theorem both_any (n d m e : Int) (w : World) (h0 : -9223372036854775808 ≤ n) (h1 : n ≤ 9223372036854775807) (h2 : -9223372036854775808 ≤ d) (h3 : d ≤ 9223372036854775807)
    (k0 : -9223372036854775808 ≤ m) (k1 : m ≤ 9223372036854775807) (k2 : -9223372036854775808 ≤ e) (k3 : e ≤ 9223372036854775807) :
    Calls Tryz.prog 120 #[.agg #[.int .i64 n, .int .i64 d], .agg #[.int .i64 m, .int .i64 e]] w fun en w' => en = .returned (.int .i64 (bth n d m e)) ∧ Below w.heap.size w w' := by
  go_enter Tryz.func120, Tryz.ntmps120
  go_wp2_with (first | (go_at_call 129; (with_reducible refine cmono ?_ (check_any _ _ _ ?_ ?_ ?_ ?_)); rotate_left; omega; omega; omega; omega; rintro e w' ⟨rfl, hbc0⟩; obtain ⟨⟨dc0, osc0⟩, rfl⟩ := regrown_of_below hbc0; clear hbc0) | ((with_reducible refine wp_region_quiet_below ?_ ?_ ?_); kernel_rfl; kernel_rfl; (repeat (go_big_quiet_step (first | (go_at_call 129; (with_reducible refine Calls.regrown_of (check_any _ _ _ ?_ ?_ ?_ ?_)); omega; omega; omega; omega)))); refine wpQuiet_nil ?_; intro _ hw'; obtain ⟨⟨dq, osq⟩, hw''⟩ := hw'; subst hw''))
  go_ret
  refine ⟨ret_int ?_, (by repeat (first | exact Below.refl _ _ | refine below_reg ?_ _ _ | refine below_alloc ?_ _ | exact below_drewN ?_ _ | assumption))⟩
  unfold bth
  have c1 := chk_08 n d
  have c2 := chk_08 m e
  rcases c1 with c1 | c1 <;> rcases c2 with c2 | c2 <;> rw [c1, c2] <;> rfl
def cmpN (a b : Int) : Int := if a < b then -1 else if b < a then 1 else 0
theorem cmpi_any (n m : Int) (w : World) :
    Calls Tryz.prog 121 #[.int .i64 n, .int .i64 m] w fun en w' => en = .returned (.int .i64 (cmpN n m)) ∧ Below w.heap.size w w' := by
  go_enter Tryz.func121, Tryz.ntmps121
  go_wp2_with (first | go_in | ((with_reducible refine wp_region_quiet_below ?_ ?_ ?_); kernel_rfl; kernel_rfl; (repeat (go_big_quiet_step (fail))); refine wpQuiet_nil ?_; intro _ hw'; obtain ⟨⟨dq, osq⟩, hw''⟩ := hw'; subst hw''))
  all_goals (go_ret; refine ⟨ret_int ?_, (by repeat (first | exact Below.refl _ _ | refine below_reg ?_ _ _ | refine below_alloc ?_ _ | exact below_drewN ?_ _ | assumption))⟩)
  all_goals (unfold cmpN; (repeat' split) <;> omega)
theorem cmpu_any (n m : Int) (w : World) :
    Calls Tryz.prog 157 #[.int .u64 n, .int .u64 m] w fun en w' => en = .returned (.int .i64 (cmpN n m)) ∧ Below w.heap.size w w' := by
  go_enter Tryz.func157, Tryz.ntmps157
  go_wp2_with (first | go_in | ((with_reducible refine wp_region_quiet_below ?_ ?_ ?_); kernel_rfl; kernel_rfl; (repeat (go_big_quiet_step (fail))); refine wpQuiet_nil ?_; intro _ hw'; obtain ⟨⟨dq, osq⟩, hw''⟩ := hw'; subst hw''))
  all_goals (go_ret; refine ⟨ret_int ?_, (by repeat (first | exact Below.refl _ _ | refine below_reg ?_ _ _ | refine below_alloc ?_ _ | exact below_drewN ?_ _ | assumption))⟩)
  all_goals (unfold cmpN; (repeat' split) <;> omega)
theorem times_any (a b : Int) (w : World)  (h0 : -9223372036854775808 ≤ a) (h1 : a ≤ 9223372036854775807) (h2 : -9223372036854775808 ≤ b) (h3 : b ≤ 9223372036854775807) :
    Calls Tryz.prog 123 #[.int .i64 a, .int .i64 b] w fun en w' => en = .returned (.agg #[.bool (decide (a < 0) != decide (b < 0)), .int .u64 (a.natAbs * b.natAbs / 18446744073709551616 : Nat), .int .u64 (a.natAbs * b.natAbs % 18446744073709551616 : Nat)]) ∧ Below w.heap.size w w' := by
  go_enter Tryz.func123, Tryz.ntmps123
  go_wp2_with (first | (go_at_call 158; refine (Tryz.bits_Mul64 _ _ (by omega) (by omega) _).mono ?_; rintro e w' ⟨rfl, rfl⟩) | (go_at_call 130; (with_reducible refine cmono ?_ (abs_any _ _ ?_ ?_)); rotate_left; omega; omega; rintro e w' ⟨rfl, hbc0⟩; obtain ⟨⟨dc0, osc0⟩, rfl⟩ := regrown_of_below hbc0; clear hbc0) | ((with_reducible refine wp_region_quiet_below ?_ ?_ ?_); kernel_rfl; kernel_rfl; (repeat (go_big_quiet_step (first | (go_at_call 130; (with_reducible refine Calls.regrown_of (abs_any _ _ ?_ ?_)); omega; omega)))); refine wpQuiet_nil ?_; intro _ hw'; obtain ⟨⟨dq, osq⟩, hw''⟩ := hw'; subst hw''))
  refine bodyPost_ret (v := .agg #[.bool (decide (a < 0) != decide (b < 0)), .int .u64 (a.natAbs * b.natAbs / 18446744073709551616 : Nat), .int .u64 (a.natAbs * b.natAbs % 18446744073709551616 : Nat)]) (by simp [results, Tryz.results123, go_sem]; cases decide (a < 0) <;> cases decide (b < 0) <;> rfl) rfl ⟨rfl, (by repeat (first | exact Below.refl _ _ | refine below_reg ?_ _ _ | refine below_alloc ?_ _ | exact below_drewN ?_ _ | assumption))⟩
theorem cmpN_hi (a b c d : Nat) (hb : b < 18446744073709551616) (hd : d < 18446744073709551616) :
    cmpN ((a * 18446744073709551616 + b : Nat) : Int) ((c * 18446744073709551616 + d : Nat) : Int) = if cmpN (a : Int) c != 0 then cmpN (a : Int) c else cmpN (b : Int) d := by
  unfold cmpN
  (repeat' split) <;> first | rfl | omega | (exfalso; simp_all; done) | (exfalso; simp_all; omega)
theorem compare_any (x y : Bool) (a b c d : Nat) (w : World) (hb : b < 18446744073709551616) (hd : d < 18446744073709551616) :
    Calls Tryz.prog 122 #[.agg #[.bool x, .int .u64 a, .int .u64 b], .agg #[.bool y, .int .u64 c, .int .u64 d]] w fun en w' => en = .returned (.int .i64 (cmpN ((a * 18446744073709551616 + b : Nat) : Int) ((c * 18446744073709551616 + d : Nat) : Int))) ∧ Below w.heap.size w w' := by
  go_enter Tryz.func122, Tryz.ntmps122
  go_wp2_with (first | (go_at_call 157; (with_reducible refine cmono ?_ (cmpu_any _ _ _)); rotate_left; rintro e w' ⟨rfl, hbc0⟩; obtain ⟨⟨dc0, osc0⟩, rfl⟩ := regrown_of_below hbc0; clear hbc0) | ((with_reducible refine wp_region_quiet_below ?_ ?_ ?_); kernel_rfl; kernel_rfl; (repeat (go_big_quiet_step (first | (go_at_call 157; (with_reducible refine Calls.regrown_of (cmpu_any _ _ _)))))); refine wpQuiet_nil ?_; intro _ hw'; obtain ⟨⟨dq, osq⟩, hw''⟩ := hw'; subst hw''))
  all_goals (go_ret; refine ⟨ret_int ?_, (by repeat (first | exact Below.refl _ _ | refine below_reg ?_ _ _ | refine below_alloc ?_ _ | exact below_drewN ?_ _ | assumption))⟩)
  all_goals (rw [cmpN_hi a b c d hb hd]; simp [*])
end Go.Proofs.YtepmgbmnghiaoaaGreat

namespace Go.Proofs.YtepmgbmnghiaoaaGreat
open Go.RowKit Go.Sort
theorem run_Add64 (x y c : Nat) (hc : c ≤ 1) (w : World) :
    (callFunc 185 #[.int .u64 x, .int .u64 y, .int .u64 c]).run Tryz.prog w = .ok (.value (.tuple #[.int .u64 ((x + y + c) % 18446744073709551616 : Nat), .int .u64 ((x + y + c) / 18446744073709551616 : Nat)])) w := by
  rw [run_callFunc_extern Tryz.func185 (by kernel_rfl) (by kernel_rfl) (by kernel_rfl) (e := add64Entry) (by kernel_rfl), run_add64 x y c (by omega) (by omega) (by omega) (by omega)]
  simp only [Result.andThen]
  congr 5 <;> omega
theorem run_Sub64 (x y b : Nat) (hb : b ≤ 1) (w : World) :
    (callFunc 152 #[.int .u64 x, .int .u64 y, .int .u64 b]).run Tryz.prog w = .ok (.value (.tuple #[.int .u64 ((x + 18446744073709551616 - y - b) % 18446744073709551616 : Nat), .int .u64 ((if x < y + b then 1 else 0 : Nat) : Int)])) w := by
  rw [run_callFunc_extern Tryz.func152 (by kernel_rfl) (by kernel_rfl) (by kernel_rfl) (e := sub64Entry) (by kernel_rfl), run_sub64 x y b hb]
  rfl
def plusM (x y : Bool) (m n : Nat) : Nat := if x = y then m + n else if m < n then n - m else m - n
def plusS (x y : Bool) (m n : Nat) : Bool := if x = y then x else if m < n then y else x
theorem plus_same (x : Bool) (a b c d : Nat) (w : World) (hb : b < 18446744073709551616) (hd : d < 18446744073709551616) (ha : a + c < 18446744073709551614) :
    Calls Tryz.prog 207 #[.agg #[.bool x, .int .u64 a, .int .u64 b], .agg #[.bool x, .int .u64 c, .int .u64 d]] w fun en w' =>
      en = .returned (.agg #[.bool x, .int .u64 ((a * 18446744073709551616 + b + (c * 18446744073709551616 + d)) / 18446744073709551616 : Nat), .int .u64 ((a * 18446744073709551616 + b + (c * 18446744073709551616 + d)) % 18446744073709551616 : Nat)]) ∧ Below w.heap.size w w' := by
  obtain ⟨lo, hlo⟩ : ∃ lo, lo = (b + d + 0) % 18446744073709551616 := ⟨_, rfl⟩
  obtain ⟨cy, hcy⟩ : ∃ cy, cy = (b + d + 0) / 18446744073709551616 := ⟨_, rfl⟩
  obtain ⟨hi, hhi⟩ : ∃ hi, hi = (a + c + cy) % 18446744073709551616 := ⟨_, rfl⟩
  have E1 : ∀ w, (callFunc 185 #[.int .u64 b, .int .u64 d, .int .u64 0]).run Tryz.prog w = .ok (.value (.tuple #[.int .u64 lo, .int .u64 cy])) w := by
    rw [hlo, hcy]; exact run_Add64 b d 0 (by omega)
  have E2 : ∀ w, (callFunc 185 #[.int .u64 a, .int .u64 c, .int .u64 cy]).run Tryz.prog w = .ok (.value (.tuple #[.int .u64 hi, .int .u64 ((a + c + cy) / 18446744073709551616 : Nat)])) w := by
    rw [hhi]; exact run_Add64 a c cy (by omega)
  have R1 : (a * 18446744073709551616 + b + (c * 18446744073709551616 + d)) / 18446744073709551616 = hi := by omega
  have R2 : (a * 18446744073709551616 + b + (c * 18446744073709551616 + d)) % 18446744073709551616 = lo := by omega
  rw [R1, R2]
  clear R1 R2 hlo hcy hhi
  go_enter Tryz.func207, Tryz.ntmps207
  go_wp2_with (first | ((with_reducible refine wp_region_quiet_below ?_ ?_ ?_); kernel_rfl; kernel_rfl; (repeat (go_big_quiet_step (fail))); refine wpQuiet_nil ?_; intro _ hw'; obtain ⟨⟨dq, osq⟩, hw''⟩ := hw'; subst hw''))
  refine bodyPost_ret (v := .agg #[.bool x, .int .u64 hi, .int .u64 lo]) (by simp [results, Tryz.results207, go_sem]) rfl ⟨rfl, (by repeat (first | exact Below.refl _ _ | refine below_reg ?_ _ _ | refine below_alloc ?_ _ | exact below_drewN ?_ _ | assumption))⟩
theorem plus_other (x : Bool) (a b c d : Nat) (w : World) (hb : b < 18446744073709551616) (hd : d < 18446744073709551616) (ha : a < 18446744073709551616) (hc : c < 18446744073709551616)
    (hlt : a * 18446744073709551616 + b < c * 18446744073709551616 + d) :
    Calls Tryz.prog 207 #[.agg #[.bool x, .int .u64 a, .int .u64 b], .agg #[.bool (!x), .int .u64 c, .int .u64 d]] w fun en w' =>
      en = .returned (.agg #[.bool (!x), .int .u64 ((c * 18446744073709551616 + d - (a * 18446744073709551616 + b)) / 18446744073709551616 : Nat), .int .u64 ((c * 18446744073709551616 + d - (a * 18446744073709551616 + b)) % 18446744073709551616 : Nat)]) ∧ Below w.heap.size w w' := by
  obtain ⟨lo, hlo⟩ : ∃ lo, lo = (d + 18446744073709551616 - b - 0) % 18446744073709551616 := ⟨_, rfl⟩
  obtain ⟨cy, hcy⟩ : ∃ cy : Nat, cy = if d < b + 0 then 1 else 0 := ⟨_, rfl⟩
  obtain ⟨hi, hhi⟩ : ∃ hi, hi = (c + 18446744073709551616 - a - cy) % 18446744073709551616 := ⟨_, rfl⟩
  have hcy1 : cy ≤ 1 := by rw [hcy]; split <;> omega
  have E1 : ∀ w, (callFunc 152 #[.int .u64 d, .int .u64 b, .int .u64 0]).run Tryz.prog w = .ok (.value (.tuple #[.int .u64 lo, .int .u64 cy])) w := by
    rw [hlo, hcy]; exact run_Sub64 d b 0 (by omega)
  have E2 : ∀ w, (callFunc 152 #[.int .u64 c, .int .u64 a, .int .u64 cy]).run Tryz.prog w = .ok (.value (.tuple #[.int .u64 hi, .int .u64 ((if c < a + cy then 1 else 0 : Nat) : Int)])) w := by
    rw [hhi]; exact run_Sub64 c a cy hcy1
  have R1 : (c * 18446744073709551616 + d - (a * 18446744073709551616 + b)) / 18446744073709551616 = hi := by rw [hhi, hcy]; split <;> omega
  have R2 : (c * 18446744073709551616 + d - (a * 18446744073709551616 + b)) % 18446744073709551616 = lo := by omega
  have hC : cmpN ((a * 18446744073709551616 + b : Nat) : Int) ((c * 18446744073709551616 + d : Nat) : Int) = -1 := by unfold cmpN; rw [if_pos (by omega)]
  have HP := compare_any x (!x) a b c d
  rw [hC] at HP
  have HQ := Lib.hid HP
  rw [R1, R2]
  clear R1 R2 hlo hcy hhi hC HP hlt
  go_enter Tryz.func207, Tryz.ntmps207
  go_wp2_with (first | (go_at_call 122; (with_reducible refine cmono ?_ (HQ.out _ hb hd)); rotate_left; rintro e w' ⟨rfl, hb7⟩; obtain ⟨⟨d7, os7⟩, rfl⟩ := regrown_of_below hb7; clear hb7) | ((with_reducible refine wp_region_quiet_below ?_ ?_ ?_); kernel_rfl; kernel_rfl; (repeat (go_big_quiet_step (fail))); refine wpQuiet_nil ?_; intro _ hw'; obtain ⟨⟨dq, osq⟩, hw''⟩ := hw'; subst hw''))
  all_goals refine bodyPost_ret (v := .agg #[.bool (!x), .int .u64 hi, .int .u64 lo]) (by simp [results, Tryz.results207, go_sem]) rfl ⟨rfl, (by repeat (first | exact Below.refl _ _ | refine below_reg ?_ _ _ | refine below_alloc ?_ _ | exact below_drewN ?_ _ | assumption))⟩
theorem plus_more (x : Bool) (a b c d : Nat) (w : World) (hb : b < 18446744073709551616) (hd : d < 18446744073709551616) (ha : a < 18446744073709551616) (hc : c < 18446744073709551616)
    (hlt : ¬ a * 18446744073709551616 + b < c * 18446744073709551616 + d) :
    Calls Tryz.prog 207 #[.agg #[.bool x, .int .u64 a, .int .u64 b], .agg #[.bool (!x), .int .u64 c, .int .u64 d]] w fun en w' =>
      en = .returned (.agg #[.bool x, .int .u64 ((a * 18446744073709551616 + b - (c * 18446744073709551616 + d)) / 18446744073709551616 : Nat), .int .u64 ((a * 18446744073709551616 + b - (c * 18446744073709551616 + d)) % 18446744073709551616 : Nat)]) ∧ Below w.heap.size w w' := by
  obtain ⟨lo, hlo⟩ : ∃ lo, lo = (b + 18446744073709551616 - d - 0) % 18446744073709551616 := ⟨_, rfl⟩
  obtain ⟨cy, hcy⟩ : ∃ cy : Nat, cy = if b < d + 0 then 1 else 0 := ⟨_, rfl⟩
  obtain ⟨hi, hhi⟩ : ∃ hi, hi = (a + 18446744073709551616 - c - cy) % 18446744073709551616 := ⟨_, rfl⟩
  have hcy1 : cy ≤ 1 := by rw [hcy]; split <;> omega
  have E1 : ∀ w, (callFunc 152 #[.int .u64 b, .int .u64 d, .int .u64 0]).run Tryz.prog w = .ok (.value (.tuple #[.int .u64 lo, .int .u64 cy])) w := by
    rw [hlo, hcy]; exact run_Sub64 b d 0 (by omega)
  have E2 : ∀ w, (callFunc 152 #[.int .u64 a, .int .u64 c, .int .u64 cy]).run Tryz.prog w = .ok (.value (.tuple #[.int .u64 hi, .int .u64 ((if a < c + cy then 1 else 0 : Nat) : Int)])) w := by
    rw [hhi]; exact run_Sub64 a c cy hcy1
  have R1 : (a * 18446744073709551616 + b - (c * 18446744073709551616 + d)) / 18446744073709551616 = hi := by rw [hhi, hcy]; split <;> omega
  have R2 : (a * 18446744073709551616 + b - (c * 18446744073709551616 + d)) % 18446744073709551616 = lo := by omega
  obtain ⟨k, hk⟩ : ∃ k, k = cmpN ((a * 18446744073709551616 + b : Nat) : Int) ((c * 18446744073709551616 + d : Nat) : Int) := ⟨_, rfl⟩
  have hk0 : ¬ k < 0 := by rw [hk]; unfold cmpN; (repeat' split) <;> omega
  have HP := compare_any x (!x) a b c d
  rw [← hk] at HP
  have HQ := Lib.hid HP
  rw [R1, R2]
  clear R1 R2 hlo hcy hhi hk HP hlt
  go_enter Tryz.func207, Tryz.ntmps207
  go_wp2_with (first | (go_at_call 122; (with_reducible refine cmono ?_ (HQ.out _ hb hd)); rotate_left; rintro e w' ⟨rfl, hb7⟩; obtain ⟨⟨d7, os7⟩, rfl⟩ := regrown_of_below hb7; clear hb7) | ((with_reducible refine wp_region_quiet_below ?_ ?_ ?_); kernel_rfl; kernel_rfl; (repeat (go_big_quiet_step (fail))); refine wpQuiet_nil ?_; intro _ hw'; obtain ⟨⟨dq, osq⟩, hw''⟩ := hw'; subst hw''))
  all_goals refine bodyPost_ret (v := .agg #[.bool x, .int .u64 hi, .int .u64 lo]) (by simp [results, Tryz.results207, go_sem]) rfl ⟨rfl, (by repeat (first | exact Below.refl _ _ | refine below_reg ?_ _ _ | refine below_alloc ?_ _ | exact below_drewN ?_ _ | assumption))⟩
theorem plus_any (x y : Bool) (a b c d : Nat) (w : World) (hb : b < 18446744073709551616) (hd : d < 18446744073709551616) (ha : a < 9223372036854775807) (hc : c < 9223372036854775807) :
    Calls Tryz.prog 207 #[.agg #[.bool x, .int .u64 a, .int .u64 b], .agg #[.bool y, .int .u64 c, .int .u64 d]] w fun en w' =>
      en = .returned (.agg #[.bool (plusS x y (a * 18446744073709551616 + b) (c * 18446744073709551616 + d)), .int .u64 (plusM x y (a * 18446744073709551616 + b) (c * 18446744073709551616 + d) / 18446744073709551616 : Nat), .int .u64 (plusM x y (a * 18446744073709551616 + b) (c * 18446744073709551616 + d) % 18446744073709551616 : Nat)]) ∧ Below w.heap.size w w' := by
  by_cases hxy : x = y
  · subst hxy
    simp only [plusS, plusM, if_true]
    exact plus_same x a b c d w hb hd (by omega)
  · obtain rfl : y = !x := by cases x <;> cases y <;> simp_all
    by_cases hlt : a * 18446744073709551616 + b < c * 18446744073709551616 + d
    · simp only [plusS, plusM, hxy, if_false, hlt, if_true]
      exact plus_other x a b c d w hb hd (by omega) (by omega) hlt
    · simp only [plusS, plusM, hxy, if_false, hlt]
      exact plus_more x a b c d w hb hd (by omega) (by omega) hlt
end Go.Proofs.YtepmgbmnghiaoaaGreat
