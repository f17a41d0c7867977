import Derived.Test.YtgdpogdgpfjnoaaDoorGLCTextsAJ
import Derived.ChangeKeysEq
import Derived.Test.YtgdpogdgpfjnoaaDoorProg
import Derived.Test.YtgdpogdgpfjnoaaDoorChecked
import Derived.Shelf.Strings.Builder1
import Derived.Shelf.Strings.Builder2
import Derived.Shelf.Strings.OnBuilder
import Derived.Shelf.Small.Strs
import Derived.Shelf.Strings.BuilderF
import Derived.Shelf.Strings.BuilderK
import Derived.Shelf.Strings.Builder2Cap
import Derived.Shelf.Strconv.Itoa0
import Derived.Shelf.Strconv.Itoa1
import Derived.Shelf.LaysM
import Derived.Shelf.Strconv.Itoa2
import Derived.Shelf.Strconv.Itoa3
import Derived.Shelf.Strconv.Itoa4
import Derived.Shelf.Strings.Search1
import Derived.Shelf.Strings.Search2
import Derived.Shelf.Strings.Search3
import Derived.Shelf.Strings.Cut
import Derived.Shelf.Strings.Count
import Derived.Shelf.Strings.Shaped
import Derived.Shelf.Strings.Prefix
import Derived.Shelf.Strings.Split
import Derived.Shelf.Strings.SplitShaped
import Derived.Shelf.Unicode.DecodeSlow
import Derived.Shelf.Strings.BuilderCap
import Derived.Laws.Externs
import Derived.Shelf.Spec.BitsCarry
import Derived.WalkKit
import Derived.Lib.ItoaNum
import Derived.Deep.DeepCutAuto
import Derived.Deep.CutBlock
import Derived.Laws.BitsAllLaws
set_option linter.all false
namespace Go.Proofs.YtgdpogdgpfjnoaaDoor
open Go Go.RowKit
namespace Sx
def Ty : List (Nat × TD) := [(2, .int .i64),
  (3, .int .i64),
  (4, .bool),
  (5, .int .u8),
  (9, .sc (.v (.string "".toUTF8))),
  (12, .int .u64),
  (21, .int .i32),
  (22, .st 2 [.v (.int .i64 0), .v (.int .i64 0)] [(0, 1, false), (1, 1, false)]),
  (23, .st 2 [.v (.int .i64 0), .v (.int .i64 0)] [(0, 1, false), (1, 1, false)]),
  (24, .sl 3 true [.v (.int .i64 0), .v (.int .i64 0), .v (.int .i64 0)]),
  (25, .st 1 [.nil 3] [(0, 1, false)]),
  (26, .st 1 [.nil 3] [(0, 1, false)]),
  (27, .st 3 [.v (.int .i64 0), .v (.int .i64 0), .nil 3] [(0, 2, true), (2, 1, true)]),
  (28, .st 3 [.v (.int .i64 0), .v (.int .i64 0), .nil 3] [(0, 2, true), (2, 1, true)]),
  (31, .int .i64),
  (45, .st 3 [.v (.int .i64 0), .v (.int .i64 0), .v (.int .i64 0)] [(0, 1, false), (1, 1, false), (2, 1, false)]),
  (46, .st 3 [.v (.int .i64 0), .v (.int .i64 0), .v (.int .i64 0)] [(0, 1, false), (1, 1, false), (2, 1, false)]),
  (47, .st 7 [.v (.int .u8 0), .v (.int .i64 0), .v (.int .i64 0), .v (.int .i64 0), .v (.int .i64 0), .v (.int .i64 0), .v (.int .i64 0)] [(0, 1, false), (1, 3, true), (4, 1, false), (5, 2, true)]),
  (48, .st 7 [.v (.int .u8 0), .v (.int .i64 0), .v (.int .i64 0), .v (.int .i64 0), .v (.int .i64 0), .v (.int .i64 0), .v (.int .i64 0)] [(0, 1, false), (1, 3, true), (4, 1, false), (5, 2, true)]),
  (49, .sl 1 false [.v (.int .u8 0)]),
  (55, .sl 1 false [.v (.string "".toUTF8)]),
  (68, .st 2 [.v (.pointer none), .nil 1] [(0, 1, false), (1, 1, false)]),
  (69, .st 2 [.v (.pointer none), .nil 1] [(0, 1, false), (1, 1, false)]),
  (89, .ar 7 [.v (.string "".toUTF8), .v (.string "".toUTF8), .v (.string "".toUTF8), .v (.string "".toUTF8), .v (.string "".toUTF8), .v (.string "".toUTF8), .v (.string "".toUTF8)] 7 1 false),
  (100, .int .u64),
  (109, .ar 3 [.v (.int .i64 0), .v (.int .i64 0), .v (.int .i64 0)] 3 1 false),
  (110, .sl 1 false [.v (.int .i64 0)]),
  (119, .ar 24 [.v (.int .u8 0), .v (.int .u8 0), .v (.int .u8 0), .v (.int .u8 0), .v (.int .u8 0), .v (.int .u8 0), .v (.int .u8 0), .v (.int .u8 0), .v (.int .u8 0), .v (.int .u8 0), .v (.int .u8 0), .v (.int .u8 0), .v (.int .u8 0), .v (.int .u8 0), .v (.int .u8 0), .v (.int .u8 0), .v (.int .u8 0), .v (.int .u8 0), .v (.int .u8 0), .v (.int .u8 0), .v (.int .u8 0), .v (.int .u8 0), .v (.int .u8 0), .v (.int .u8 0)] 24 1 false),
  (129, .ar 20 [.v (.int .u64 0), .v (.int .u64 0), .v (.int .u64 0), .v (.int .u64 0), .v (.int .u64 0), .v (.int .u64 0), .v (.int .u64 0), .v (.int .u64 0), .v (.int .u64 0), .v (.int .u64 0), .v (.int .u64 0), .v (.int .u64 0), .v (.int .u64 0), .v (.int .u64 0), .v (.int .u64 0), .v (.int .u64 0), .v (.int .u64 0), .v (.int .u64 0), .v (.int .u64 0), .v (.int .u64 0)] 20 1 false),
  (130, .int .u32),
  (133, .int .u64),
  (140, .st 2 [.v (.int .u8 0), .v (.int .u8 0)] [(0, 1, false), (1, 1, false)]),
  (141, .st 2 [.v (.int .u8 0), .v (.int .u8 0)] [(0, 1, false), (1, 1, false)]),
  (142, .ar 32 [.v (.int .u8 0), .v (.int .u8 0), .v (.int .u8 0), .v (.int .u8 0), .v (.int .u8 0), .v (.int .u8 0), .v (.int .u8 0), .v (.int .u8 0), .v (.int .u8 0), .v (.int .u8 0), .v (.int .u8 0), .v (.int .u8 0), .v (.int .u8 0), .v (.int .u8 0), .v (.int .u8 0), .v (.int .u8 0), .v (.int .u8 0), .v (.int .u8 0), .v (.int .u8 0), .v (.int .u8 0), .v (.int .u8 0), .v (.int .u8 0), .v (.int .u8 0), .v (.int .u8 0), .v (.int .u8 0), .v (.int .u8 0), .v (.int .u8 0), .v (.int .u8 0), .v (.int .u8 0), .v (.int .u8 0), .v (.int .u8 0), .v (.int .u8 0)] 16 2 true),
  (143, .ar 32 [.v (.int .u8 0), .v (.int .u8 0), .v (.int .u8 0), .v (.int .u8 0), .v (.int .u8 0), .v (.int .u8 0), .v (.int .u8 0), .v (.int .u8 0), .v (.int .u8 0), .v (.int .u8 0), .v (.int .u8 0), .v (.int .u8 0), .v (.int .u8 0), .v (.int .u8 0), .v (.int .u8 0), .v (.int .u8 0), .v (.int .u8 0), .v (.int .u8 0), .v (.int .u8 0), .v (.int .u8 0), .v (.int .u8 0), .v (.int .u8 0), .v (.int .u8 0), .v (.int .u8 0), .v (.int .u8 0), .v (.int .u8 0), .v (.int .u8 0), .v (.int .u8 0), .v (.int .u8 0), .v (.int .u8 0), .v (.int .u8 0), .v (.int .u8 0)] 32 1 false),
  (144, .ar 64 [.v (.int .u8 0), .v (.int .u8 0), .v (.int .u8 0), .v (.int .u8 0), .v (.int .u8 0), .v (.int .u8 0), .v (.int .u8 0), .v (.int .u8 0), .v (.int .u8 0), .v (.int .u8 0), .v (.int .u8 0), .v (.int .u8 0), .v (.int .u8 0), .v (.int .u8 0), .v (.int .u8 0), .v (.int .u8 0), .v (.int .u8 0), .v (.int .u8 0), .v (.int .u8 0), .v (.int .u8 0), .v (.int .u8 0), .v (.int .u8 0), .v (.int .u8 0), .v (.int .u8 0), .v (.int .u8 0), .v (.int .u8 0), .v (.int .u8 0), .v (.int .u8 0), .v (.int .u8 0), .v (.int .u8 0), .v (.int .u8 0), .v (.int .u8 0), .v (.int .u8 0), .v (.int .u8 0), .v (.int .u8 0), .v (.int .u8 0), .v (.int .u8 0), .v (.int .u8 0), .v (.int .u8 0), .v (.int .u8 0), .v (.int .u8 0), .v (.int .u8 0), .v (.int .u8 0), .v (.int .u8 0), .v (.int .u8 0), .v (.int .u8 0), .v (.int .u8 0), .v (.int .u8 0), .v (.int .u8 0), .v (.int .u8 0), .v (.int .u8 0), .v (.int .u8 0), .v (.int .u8 0), .v (.int .u8 0), .v (.int .u8 0), .v (.int .u8 0), .v (.int .u8 0), .v (.int .u8 0), .v (.int .u8 0), .v (.int .u8 0), .v (.int .u8 0), .v (.int .u8 0), .v (.int .u8 0), .v (.int .u8 0)] 64 1 false),
  (145, .st 4 [.v (.pointer none), .v (.pointer none), .v (.pointer none), .v (.string "".toUTF8)] [(0, 1, false), (1, 1, false), (2, 1, false), (3, 1, false)])]
theorem ty_all : TysOK Tryd.prog Ty := ⟨⟨Tryd.sizeOf2, Tryd.isAgg2, ⟨_, Tryd.zeroValue2, fun _ _ => ⟨.v _ rfl (wfB_iff rfl), trivial⟩⟩, Tryd.underlying2⟩,
  ⟨Tryd.sizeOf3, Tryd.isAgg3, ⟨_, Tryd.zeroValue3, fun _ _ => ⟨.v _ rfl (wfB_iff rfl), trivial⟩⟩, Tryd.underlying3⟩,
  ⟨Tryd.sizeOf4, Tryd.isAgg4, ⟨_, Tryd.zeroValue4, fun _ _ => ⟨.v _ rfl (wfB_iff rfl), trivial⟩⟩, Tryd.underlying4⟩,
  ⟨Tryd.sizeOf5, Tryd.isAgg5, ⟨_, Tryd.zeroValue5, fun _ _ => ⟨.v _ rfl (wfB_iff rfl), trivial⟩⟩, Tryd.underlying5⟩,
  ⟨Tryd.sizeOf9, Tryd.isAgg9, ⟨_, Tryd.zeroValue9, fun _ _ => ⟨.v _ rfl (wfB_iff rfl), trivial⟩⟩, trivial⟩,
  ⟨Tryd.sizeOf12, Tryd.isAgg12, ⟨_, Tryd.zeroValue12, fun _ _ => ⟨.v _ rfl (wfB_iff rfl), trivial⟩⟩, Tryd.underlying12⟩,
  ⟨Tryd.sizeOf21, Tryd.isAgg21, ⟨_, Tryd.zeroValue21, fun _ _ => ⟨.v _ rfl (wfB_iff rfl), trivial⟩⟩, Tryd.underlying21⟩,
  ⟨Tryd.sizeOf22, Tryd.isAgg22, ⟨_, Tryd.zeroValue22, fun _ _ => ⟨.v _ rfl (wfB_iff rfl), .v _ rfl (wfB_iff rfl), trivial⟩⟩, st_ty Tryd.underlying22 rfl ⟨rfl, Tryd.sizeOf2, Tryd.isAgg2, rfl, Tryd.sizeOf2, Tryd.isAgg2, trivial⟩⟩,
  ⟨Tryd.sizeOf23, Tryd.isAgg23, ⟨_, Tryd.zeroValue23, fun _ _ => ⟨.v _ rfl (wfB_iff rfl), .v _ rfl (wfB_iff rfl), trivial⟩⟩, st_ty Tryd.underlying23 rfl ⟨rfl, Tryd.sizeOf2, Tryd.isAgg2, rfl, Tryd.sizeOf2, Tryd.isAgg2, trivial⟩⟩,
  ⟨Tryd.sizeOf24, Tryd.isAgg24, ⟨_, Tryd.zeroValue24, fun _ _ => ⟨.nl _, trivial⟩⟩, sl_ty Tryd.underlying24 Tryd.sizeOf46 Tryd.isAgg46 Tryd.zeroValue46 rfl (show Tryd.prog.info? 46 = some Tryd.t46 by kernel_rfl) rfl rfl rfl (fun _ _ => ⟨.v _ rfl (wfB_iff rfl), .v _ rfl (wfB_iff rfl), .v _ rfl (wfB_iff rfl), trivial⟩) rfl⟩,
  ⟨Tryd.sizeOf25, Tryd.isAgg25, ⟨_, Tryd.zeroValue25, fun _ _ => ⟨.nl _, trivial⟩⟩, st_ty Tryd.underlying25 rfl ⟨rfl, Tryd.sizeOf24, Tryd.isAgg24, trivial⟩⟩,
  ⟨Tryd.sizeOf26, Tryd.isAgg26, ⟨_, Tryd.zeroValue26, fun _ _ => ⟨.nl _, trivial⟩⟩, st_ty Tryd.underlying26 rfl ⟨rfl, Tryd.sizeOf24, Tryd.isAgg24, trivial⟩⟩,
  ⟨Tryd.sizeOf27, Tryd.isAgg27, ⟨_, Tryd.zeroValue27, fun _ _ => ⟨.v _ rfl (wfB_iff rfl), .v _ rfl (wfB_iff rfl), .nl _, trivial⟩⟩, st_ty Tryd.underlying27 rfl ⟨rfl, Tryd.sizeOf23, Tryd.isAgg23, rfl, Tryd.sizeOf26, Tryd.isAgg26, trivial⟩⟩,
  ⟨Tryd.sizeOf28, Tryd.isAgg28, ⟨_, Tryd.zeroValue28, fun _ _ => ⟨.v _ rfl (wfB_iff rfl), .v _ rfl (wfB_iff rfl), .nl _, trivial⟩⟩, st_ty Tryd.underlying28 rfl ⟨rfl, Tryd.sizeOf23, Tryd.isAgg23, rfl, Tryd.sizeOf26, Tryd.isAgg26, trivial⟩⟩,
  ⟨Tryd.sizeOf31, Tryd.isAgg31, ⟨_, Tryd.zeroValue31, fun _ _ => ⟨.v _ rfl (wfB_iff rfl), trivial⟩⟩, Tryd.underlying31⟩,
  ⟨Tryd.sizeOf45, Tryd.isAgg45, ⟨_, Tryd.zeroValue45, fun _ _ => ⟨.v _ rfl (wfB_iff rfl), .v _ rfl (wfB_iff rfl), .v _ rfl (wfB_iff rfl), trivial⟩⟩, st_ty Tryd.underlying45 rfl ⟨rfl, Tryd.sizeOf3, Tryd.isAgg3, rfl, Tryd.sizeOf2, Tryd.isAgg2, rfl, Tryd.sizeOf2, Tryd.isAgg2, trivial⟩⟩,
  ⟨Tryd.sizeOf46, Tryd.isAgg46, ⟨_, Tryd.zeroValue46, fun _ _ => ⟨.v _ rfl (wfB_iff rfl), .v _ rfl (wfB_iff rfl), .v _ rfl (wfB_iff rfl), trivial⟩⟩, st_ty Tryd.underlying46 rfl ⟨rfl, Tryd.sizeOf3, Tryd.isAgg3, rfl, Tryd.sizeOf2, Tryd.isAgg2, rfl, Tryd.sizeOf2, Tryd.isAgg2, trivial⟩⟩,
  ⟨Tryd.sizeOf47, Tryd.isAgg47, ⟨_, Tryd.zeroValue47, fun _ _ => ⟨.v _ rfl (wfB_iff rfl), .v _ rfl (wfB_iff rfl), .v _ rfl (wfB_iff rfl), .v _ rfl (wfB_iff rfl), .v _ rfl (wfB_iff rfl), .v _ rfl (wfB_iff rfl), .v _ rfl (wfB_iff rfl), trivial⟩⟩, st_ty Tryd.underlying47 rfl ⟨rfl, Tryd.sizeOf5, Tryd.isAgg5, rfl, Tryd.sizeOf46, Tryd.isAgg46, rfl, Tryd.sizeOf3, Tryd.isAgg3, rfl, Tryd.sizeOf23, Tryd.isAgg23, trivial⟩⟩,
  ⟨Tryd.sizeOf48, Tryd.isAgg48, ⟨_, Tryd.zeroValue48, fun _ _ => ⟨.v _ rfl (wfB_iff rfl), .v _ rfl (wfB_iff rfl), .v _ rfl (wfB_iff rfl), .v _ rfl (wfB_iff rfl), .v _ rfl (wfB_iff rfl), .v _ rfl (wfB_iff rfl), .v _ rfl (wfB_iff rfl), trivial⟩⟩, st_ty Tryd.underlying48 rfl ⟨rfl, Tryd.sizeOf5, Tryd.isAgg5, rfl, Tryd.sizeOf46, Tryd.isAgg46, rfl, Tryd.sizeOf3, Tryd.isAgg3, rfl, Tryd.sizeOf23, Tryd.isAgg23, trivial⟩⟩,
  ⟨Tryd.sizeOf49, Tryd.isAgg49, ⟨_, Tryd.zeroValue49, fun _ _ => ⟨.nl _, trivial⟩⟩, sl_ty Tryd.underlying49 Tryd.sizeOf5 Tryd.isAgg5 Tryd.zeroValue5 rfl (show Tryd.prog.info? 5 = some Tryd.t5 by kernel_rfl) rfl rfl rfl (fun _ _ => ⟨.v _ rfl (wfB_iff rfl), trivial⟩) rfl⟩,
  ⟨Tryd.sizeOf55, Tryd.isAgg55, ⟨_, Tryd.zeroValue55, fun _ _ => ⟨.nl _, trivial⟩⟩, sl_ty Tryd.underlying55 Tryd.sizeOf9 Tryd.isAgg9 Tryd.zeroValue9 rfl (show Tryd.prog.info? 9 = some Tryd.t9 by kernel_rfl) rfl rfl rfl (fun _ _ => ⟨.v _ rfl (wfB_iff rfl), trivial⟩) rfl⟩,
  ⟨Tryd.sizeOf68, Tryd.isAgg68, ⟨_, Tryd.zeroValue68, fun _ _ => ⟨.v _ rfl (wfB_iff rfl), .nl _, trivial⟩⟩, st_ty Tryd.underlying68 rfl ⟨rfl, Tryd.sizeOf67, Tryd.isAgg67, rfl, Tryd.sizeOf49, Tryd.isAgg49, trivial⟩⟩,
  ⟨Tryd.sizeOf69, Tryd.isAgg69, ⟨_, Tryd.zeroValue69, fun _ _ => ⟨.v _ rfl (wfB_iff rfl), .nl _, trivial⟩⟩, st_ty Tryd.underlying69 rfl ⟨rfl, Tryd.sizeOf67, Tryd.isAgg67, rfl, Tryd.sizeOf49, Tryd.isAgg49, trivial⟩⟩,
  ⟨Tryd.sizeOf89, Tryd.isAgg89, ⟨_, Tryd.zeroValue89, fun _ _ => ⟨.v _ rfl (wfB_iff rfl), .v _ rfl (wfB_iff rfl), .v _ rfl (wfB_iff rfl), .v _ rfl (wfB_iff rfl), .v _ rfl (wfB_iff rfl), .v _ rfl (wfB_iff rfl), .v _ rfl (wfB_iff rfl), trivial⟩⟩, ⟨_, Tryd.underlying89, Tryd.sizeOf9, Tryd.isAgg9⟩⟩,
  ⟨Tryd.sizeOf100, Tryd.isAgg100, ⟨_, Tryd.zeroValue100, fun _ _ => ⟨.v _ rfl (wfB_iff rfl), trivial⟩⟩, Tryd.underlying100⟩,
  ⟨Tryd.sizeOf109, Tryd.isAgg109, ⟨_, Tryd.zeroValue109, fun _ _ => ⟨.v _ rfl (wfB_iff rfl), .v _ rfl (wfB_iff rfl), .v _ rfl (wfB_iff rfl), trivial⟩⟩, ⟨_, Tryd.underlying109, Tryd.sizeOf2, Tryd.isAgg2⟩⟩,
  ⟨Tryd.sizeOf110, Tryd.isAgg110, ⟨_, Tryd.zeroValue110, fun _ _ => ⟨.nl _, trivial⟩⟩, sl_ty Tryd.underlying110 Tryd.sizeOf31 Tryd.isAgg31 Tryd.zeroValue31 rfl (show Tryd.prog.info? 31 = some Tryd.t31 by kernel_rfl) rfl rfl rfl (fun _ _ => ⟨.v _ rfl (wfB_iff rfl), trivial⟩) rfl⟩,
  ⟨Tryd.sizeOf119, Tryd.isAgg119, ⟨_, Tryd.zeroValue119, fun _ _ => ⟨.v _ rfl (wfB_iff rfl), .v _ rfl (wfB_iff rfl), .v _ rfl (wfB_iff rfl), .v _ rfl (wfB_iff rfl), .v _ rfl (wfB_iff rfl), .v _ rfl (wfB_iff rfl), .v _ rfl (wfB_iff rfl), .v _ rfl (wfB_iff rfl), .v _ rfl (wfB_iff rfl), .v _ rfl (wfB_iff rfl), .v _ rfl (wfB_iff rfl), .v _ rfl (wfB_iff rfl), .v _ rfl (wfB_iff rfl), .v _ rfl (wfB_iff rfl), .v _ rfl (wfB_iff rfl), .v _ rfl (wfB_iff rfl), .v _ rfl (wfB_iff rfl), .v _ rfl (wfB_iff rfl), .v _ rfl (wfB_iff rfl), .v _ rfl (wfB_iff rfl), .v _ rfl (wfB_iff rfl), .v _ rfl (wfB_iff rfl), .v _ rfl (wfB_iff rfl), .v _ rfl (wfB_iff rfl), trivial⟩⟩, ⟨_, Tryd.underlying119, Tryd.sizeOf5, Tryd.isAgg5⟩⟩,
  ⟨Tryd.sizeOf129, Tryd.isAgg129, ⟨_, Tryd.zeroValue129, fun _ _ => ⟨.v _ rfl (wfB_iff rfl), .v _ rfl (wfB_iff rfl), .v _ rfl (wfB_iff rfl), .v _ rfl (wfB_iff rfl), .v _ rfl (wfB_iff rfl), .v _ rfl (wfB_iff rfl), .v _ rfl (wfB_iff rfl), .v _ rfl (wfB_iff rfl), .v _ rfl (wfB_iff rfl), .v _ rfl (wfB_iff rfl), .v _ rfl (wfB_iff rfl), .v _ rfl (wfB_iff rfl), .v _ rfl (wfB_iff rfl), .v _ rfl (wfB_iff rfl), .v _ rfl (wfB_iff rfl), .v _ rfl (wfB_iff rfl), .v _ rfl (wfB_iff rfl), .v _ rfl (wfB_iff rfl), .v _ rfl (wfB_iff rfl), .v _ rfl (wfB_iff rfl), trivial⟩⟩, ⟨_, Tryd.underlying129, Tryd.sizeOf100, Tryd.isAgg100⟩⟩,
  ⟨Tryd.sizeOf130, Tryd.isAgg130, ⟨_, Tryd.zeroValue130, fun _ _ => ⟨.v _ rfl (wfB_iff rfl), trivial⟩⟩, Tryd.underlying130⟩,
  ⟨Tryd.sizeOf133, Tryd.isAgg133, ⟨_, Tryd.zeroValue133, fun _ _ => ⟨.v _ rfl (wfB_iff rfl), trivial⟩⟩, Tryd.underlying133⟩,
  ⟨Tryd.sizeOf140, Tryd.isAgg140, ⟨_, Tryd.zeroValue140, fun _ _ => ⟨.v _ rfl (wfB_iff rfl), .v _ rfl (wfB_iff rfl), trivial⟩⟩, st_ty Tryd.underlying140 rfl ⟨rfl, Tryd.sizeOf5, Tryd.isAgg5, rfl, Tryd.sizeOf5, Tryd.isAgg5, trivial⟩⟩,
  ⟨Tryd.sizeOf141, Tryd.isAgg141, ⟨_, Tryd.zeroValue141, fun _ _ => ⟨.v _ rfl (wfB_iff rfl), .v _ rfl (wfB_iff rfl), trivial⟩⟩, st_ty Tryd.underlying141 rfl ⟨rfl, Tryd.sizeOf5, Tryd.isAgg5, rfl, Tryd.sizeOf5, Tryd.isAgg5, trivial⟩⟩,
  ⟨Tryd.sizeOf142, Tryd.isAgg142, ⟨_, Tryd.zeroValue142, fun _ _ => ⟨.v _ rfl (wfB_iff rfl), .v _ rfl (wfB_iff rfl), .v _ rfl (wfB_iff rfl), .v _ rfl (wfB_iff rfl), .v _ rfl (wfB_iff rfl), .v _ rfl (wfB_iff rfl), .v _ rfl (wfB_iff rfl), .v _ rfl (wfB_iff rfl), .v _ rfl (wfB_iff rfl), .v _ rfl (wfB_iff rfl), .v _ rfl (wfB_iff rfl), .v _ rfl (wfB_iff rfl), .v _ rfl (wfB_iff rfl), .v _ rfl (wfB_iff rfl), .v _ rfl (wfB_iff rfl), .v _ rfl (wfB_iff rfl), .v _ rfl (wfB_iff rfl), .v _ rfl (wfB_iff rfl), .v _ rfl (wfB_iff rfl), .v _ rfl (wfB_iff rfl), .v _ rfl (wfB_iff rfl), .v _ rfl (wfB_iff rfl), .v _ rfl (wfB_iff rfl), .v _ rfl (wfB_iff rfl), .v _ rfl (wfB_iff rfl), .v _ rfl (wfB_iff rfl), .v _ rfl (wfB_iff rfl), .v _ rfl (wfB_iff rfl), .v _ rfl (wfB_iff rfl), .v _ rfl (wfB_iff rfl), .v _ rfl (wfB_iff rfl), .v _ rfl (wfB_iff rfl), trivial⟩⟩, ⟨_, Tryd.underlying142, Tryd.sizeOf141, Tryd.isAgg141⟩⟩,
  ⟨Tryd.sizeOf143, Tryd.isAgg143, ⟨_, Tryd.zeroValue143, fun _ _ => ⟨.v _ rfl (wfB_iff rfl), .v _ rfl (wfB_iff rfl), .v _ rfl (wfB_iff rfl), .v _ rfl (wfB_iff rfl), .v _ rfl (wfB_iff rfl), .v _ rfl (wfB_iff rfl), .v _ rfl (wfB_iff rfl), .v _ rfl (wfB_iff rfl), .v _ rfl (wfB_iff rfl), .v _ rfl (wfB_iff rfl), .v _ rfl (wfB_iff rfl), .v _ rfl (wfB_iff rfl), .v _ rfl (wfB_iff rfl), .v _ rfl (wfB_iff rfl), .v _ rfl (wfB_iff rfl), .v _ rfl (wfB_iff rfl), .v _ rfl (wfB_iff rfl), .v _ rfl (wfB_iff rfl), .v _ rfl (wfB_iff rfl), .v _ rfl (wfB_iff rfl), .v _ rfl (wfB_iff rfl), .v _ rfl (wfB_iff rfl), .v _ rfl (wfB_iff rfl), .v _ rfl (wfB_iff rfl), .v _ rfl (wfB_iff rfl), .v _ rfl (wfB_iff rfl), .v _ rfl (wfB_iff rfl), .v _ rfl (wfB_iff rfl), .v _ rfl (wfB_iff rfl), .v _ rfl (wfB_iff rfl), .v _ rfl (wfB_iff rfl), .v _ rfl (wfB_iff rfl), trivial⟩⟩, ⟨_, Tryd.underlying143, Tryd.sizeOf5, Tryd.isAgg5⟩⟩,
  ⟨Tryd.sizeOf144, Tryd.isAgg144, ⟨_, Tryd.zeroValue144, fun _ _ => ⟨.v _ rfl (wfB_iff rfl), .v _ rfl (wfB_iff rfl), .v _ rfl (wfB_iff rfl), .v _ rfl (wfB_iff rfl), .v _ rfl (wfB_iff rfl), .v _ rfl (wfB_iff rfl), .v _ rfl (wfB_iff rfl), .v _ rfl (wfB_iff rfl), .v _ rfl (wfB_iff rfl), .v _ rfl (wfB_iff rfl), .v _ rfl (wfB_iff rfl), .v _ rfl (wfB_iff rfl), .v _ rfl (wfB_iff rfl), .v _ rfl (wfB_iff rfl), .v _ rfl (wfB_iff rfl), .v _ rfl (wfB_iff rfl), .v _ rfl (wfB_iff rfl), .v _ rfl (wfB_iff rfl), .v _ rfl (wfB_iff rfl), .v _ rfl (wfB_iff rfl), .v _ rfl (wfB_iff rfl), .v _ rfl (wfB_iff rfl), .v _ rfl (wfB_iff rfl), .v _ rfl (wfB_iff rfl), .v _ rfl (wfB_iff rfl), .v _ rfl (wfB_iff rfl), .v _ rfl (wfB_iff rfl), .v _ rfl (wfB_iff rfl), .v _ rfl (wfB_iff rfl), .v _ rfl (wfB_iff rfl), .v _ rfl (wfB_iff rfl), .v _ rfl (wfB_iff rfl), .v _ rfl (wfB_iff rfl), .v _ rfl (wfB_iff rfl), .v _ rfl (wfB_iff rfl), .v _ rfl (wfB_iff rfl), .v _ rfl (wfB_iff rfl), .v _ rfl (wfB_iff rfl), .v _ rfl (wfB_iff rfl), .v _ rfl (wfB_iff rfl), .v _ rfl (wfB_iff rfl), .v _ rfl (wfB_iff rfl), .v _ rfl (wfB_iff rfl), .v _ rfl (wfB_iff rfl), .v _ rfl (wfB_iff rfl), .v _ rfl (wfB_iff rfl), .v _ rfl (wfB_iff rfl), .v _ rfl (wfB_iff rfl), .v _ rfl (wfB_iff rfl), .v _ rfl (wfB_iff rfl), .v _ rfl (wfB_iff rfl), .v _ rfl (wfB_iff rfl), .v _ rfl (wfB_iff rfl), .v _ rfl (wfB_iff rfl), .v _ rfl (wfB_iff rfl), .v _ rfl (wfB_iff rfl), .v _ rfl (wfB_iff rfl), .v _ rfl (wfB_iff rfl), .v _ rfl (wfB_iff rfl), .v _ rfl (wfB_iff rfl), .v _ rfl (wfB_iff rfl), .v _ rfl (wfB_iff rfl), .v _ rfl (wfB_iff rfl), .v _ rfl (wfB_iff rfl), trivial⟩⟩, ⟨_, Tryd.underlying144, Tryd.sizeOf5, Tryd.isAgg5⟩⟩,
  ⟨Tryd.sizeOf145, Tryd.isAgg145, ⟨_, Tryd.zeroValue145, fun _ _ => ⟨.v _ rfl (wfB_iff rfl), .v _ rfl (wfB_iff rfl), .v _ rfl (wfB_iff rfl), .v _ rfl (wfB_iff rfl), trivial⟩⟩, st_ty Tryd.underlying145 rfl ⟨rfl, Tryd.sizeOf17, Tryd.isAgg17, rfl, Tryd.sizeOf17, Tryd.isAgg17, rfl, Tryd.sizeOf17, Tryd.isAgg17, rfl, Tryd.sizeOf9, Tryd.isAgg9, trivial⟩⟩, trivial⟩
theorem ty_okK (K mu co me : List Nat) : ΓOK Tryd.prog ⟨Ty, K, mu, co, me, false⟩ := tys_ok ty_all
theorem ty_okD : ΓOK Tryd.prog ⟨Ty, [], [], [], [], true⟩ := tys_ok ty_all
theorem ty_ok : ΓOK Tryd.prog ⟨Ty, [], [], [], [], false⟩ := tys_ok ty_all
theorem eqv23 (a0 b0 : Int) (a1 b1 : Int) (x y : Operand) (w : World) : (do eqGuard .eql 23 x y (.agg #[.int .i64 a0, .int .i64 a1]) (.agg #[.int .i64 b0, .int .i64 b1]); binOp .eql 23 (.agg #[.int .i64 a0, .int .i64 a1]) (.agg #[.int .i64 b0, .int .i64 b1]) : Sem Value).run Tryd.prog w = .ok (.bool (decide (a0 = b0 ∧ a1 = b1))) w := by
  by_cases h0 : a0 = b0
  · skip
    by_cases h1 : a1 = b1
    · skip
      simp [go_sem, eqGuard, binOp, Op.equal, Op.maxDepth, h0, h1]
    · simp [go_sem, eqGuard, binOp, Op.equal, Op.maxDepth, h0, h1]
  · simp [go_sem, eqGuard, binOp, Op.equal, Op.maxDepth, h0]
theorem nev46 (a0 b0 : Int) (a1 b1 : Int) (a2 b2 : Int) (x y : Operand) (w : World) : (do eqGuard .neq 46 x y (.agg #[.int .i64 a0, .int .i64 a1, .int .i64 a2]) (.agg #[.int .i64 b0, .int .i64 b1, .int .i64 b2]); binOp .neq 46 (.agg #[.int .i64 a0, .int .i64 a1, .int .i64 a2]) (.agg #[.int .i64 b0, .int .i64 b1, .int .i64 b2]) : Sem Value).run Tryd.prog w = .ok (.bool (decide (¬ (a0 = b0 ∧ a1 = b1 ∧ a2 = b2)))) w := by
  by_cases h0 : a0 = b0
  · skip
    by_cases h1 : a1 = b1
    · skip
      by_cases h2 : a2 = b2
      · skip
        simp [go_sem, eqGuard, binOp, Op.equal, Op.maxDepth, h0, h1, h2]
      · simp [go_sem, eqGuard, binOp, Op.equal, Op.maxDepth, h0, h1, h2]
    · simp [go_sem, eqGuard, binOp, Op.equal, Op.maxDepth, h0, h1]
  · simp [go_sem, eqGuard, binOp, Op.equal, Op.maxDepth, h0]
end Sx
end Go.Proofs.YtgdpogdgpfjnoaaDoor

namespace Go.Proofs.YtgdpogdgpfjnoaaDoor
open Go.RowKit Go.Sort
theorem gcd_any (a b : Nat) (w : World) :
    Calls Tryd.prog 67 #[.int .u64 a, .int .u64 b] w fun e w' => e = .returned (.int .u64 (Nat.gcd a b : Nat)) ∧ Below w.heap.size w w' := by
  go_enter Tryd.func67, Tryd.ntmps67
  go_wp2
  go_loopw [0, 1] (fun x y wr => ∃ n m : Nat, x = .int .u64 n ∧ y = .int .u64 m ∧ Hid (Nat.gcd n m = Nat.gcd a b) ∧ Below w.heap.size w wr) (fun _ y _ => (intOf y).toNat)
  case atStart => exact ⟨a, b, rfl, rfl, Lib.hid rfl, Below.refl _ _⟩
  case round =>
    obtain ⟨n, m, rfl, rfl, hg, hb⟩ := hrel
    by_cases h0 : 0 < m
    · go_wp2
      go_quiet (fail)
      go_wp2
      have hlt := Nat.mod_lt n h0
      refine ⟨⟨m, n % m, rfl, by simp, Lib.hid ?_, below_drewN hb _⟩, ?_⟩
      · rw [← hg.out, Nat.gcd_comm n m, Nat.gcd_rec m n, Nat.gcd_comm]
      · show ((n : Int) % (m : Int)).toNat < ((m : Int)).toNat
        omega
    · go_wp2
      go_ret
      refine ⟨ret_int ?_, hb⟩
      rw [← hg.out]
      obtain rfl : m = 0 := by omega
      simp
theorem abs_any (n : Int) (w : World) (h0 : -9223372036854775808 ≤ n) (h1 : n ≤ 9223372036854775807) :
    Calls Tryd.prog 68 #[.int .i64 n] w fun e w' => e = .returned (.int .u64 (n.natAbs : Nat)) ∧ Below w.heap.size w w' := by
  have HW : Hid (n < 0 → IntKind.u64.wrap (-IntKind.u64.wrap n) = (n.natAbs : Nat)) := Lib.hid (by
    intro hn
    rw [IntKind.wrap_u64, IntKind.wrap_u64]
    omega)
  by_cases hn : n < 0
  · go_enter Tryd.func68, Tryd.ntmps68
    go_wp2
    go_ret
    exact ⟨ret_int (HW.out hn), Below.refl _ _⟩
  · go_enter Tryd.func68, Tryd.ntmps68
    go_wp2
    go_ret
    refine ⟨ret_int ?_, Below.refl _ _⟩
    omega
def chk (n d : Int) : Int := if d < 1 ∨ n = -9223372036854775808 ∨ 1 < Nat.gcd d.toNat n.natAbs then 8 else 0
theorem check_any (n d : Int) (w : World) (h0 : -9223372036854775808 ≤ n) (h1 : n ≤ 9223372036854775807) (h2 : -9223372036854775808 ≤ d) (h3 : d ≤ 9223372036854775807) :
    Calls Tryd.prog 43 #[.agg #[.int .i64 n, .int .i64 d]] w fun e w' => e = .returned (.int .i64 (chk n d)) ∧ Below w.heap.size w w' := by
  by_cases hd : d < 1
  · have hch : chk n d = 8 := by unfold chk; rw [if_pos (.inl hd)]
    rw [hch]
    go_enter Tryd.func43, Tryd.ntmps43
    go_wp2
    refine wp_region_quiet_below (by kernel_rfl) (by kernel_rfl) ?_
    repeat (go_big_quiet_step (fail))
    refine wpQuiet_nil ?_
    intro _ hw'
    obtain ⟨⟨dq, osq⟩, hw''⟩ := hw'
    subst hw''
    go_wp2
    go_ret
    exact ⟨rfl, below_reg (below_alloc (Below.refl _ _) _) _ _⟩
  · have hdf : decide (d < 1) = false := by simpa using hd
    by_cases hm : n = -9223372036854775808
    · have hch : chk n d = 8 := by unfold chk; rw [if_pos (.inr (.inl hm))]
      rw [hch]
      have hmb : (n == -9223372036854775808) = true := by simpa using hm
      clear hm
      go_enter Tryd.func43, Tryd.ntmps43
      go_wp2
      refine wp_region_quiet_below (by kernel_rfl) (by kernel_rfl) ?_
      repeat (go_big_quiet_step (fail))
      refine wpQuiet_nil ?_
      intro _ hw'
      obtain ⟨⟨dq, osq⟩, hw''⟩ := hw'
      subst hw''
      go_wp2
      go_ret
      exact ⟨rfl, below_reg (below_alloc (Below.refl _ _) _) _ _⟩
    · have hmb : (n == -9223372036854775808) = false := by simpa using hm
      obtain ⟨e, rfl⟩ := Int.eq_ofNat_of_zero_le (show 0 ≤ d by omega)
      by_cases hg : 1 < Nat.gcd e n.natAbs
      · have hch : chk n e = 8 := by unfold chk; rw [if_pos (.inr (.inr (by simpa using hg)))]
        rw [hch]
        clear hm
        go_enter Tryd.func43, Tryd.ntmps43
        go_wp2
        refine wp_region_quiet_below (by kernel_rfl) (by kernel_rfl) ?_
        repeat (go_big_quiet_step (first | (go_at_call 68; (with_reducible refine Calls.regrown_of (abs_any _ _ ?_ ?_)); omega; omega) | (go_at_call 67; (with_reducible refine Calls.regrown_of (gcd_any _ _ _)))))
        refine wpQuiet_nil ?_
        intro _ hw'
        obtain ⟨⟨dq, osq⟩, hw''⟩ := hw'
        subst hw''
        go_wp2
        go_ret
        exact ⟨rfl, below_reg (below_alloc (Below.refl _ _) _) _ _⟩
      · have hch : chk n e = 0 := by unfold chk; rw [if_neg (by rintro (h | h | h) <;> first | omega | exact hm h | exact hg (by simpa using h))]
        rw [hch]
        clear hm
        go_enter Tryd.func43, Tryd.ntmps43
        go_wp2
        refine wp_region_quiet_below (by kernel_rfl) (by kernel_rfl) ?_
        repeat (go_big_quiet_step (first | (go_at_call 68; (with_reducible refine Calls.regrown_of (abs_any _ _ ?_ ?_)); omega; omega) | (go_at_call 67; (with_reducible refine Calls.regrown_of (gcd_any _ _ _)))))
        refine wpQuiet_nil ?_
        intro _ hw'
        obtain ⟨⟨dq, osq⟩, hw''⟩ := hw'
        subst hw''
        go_wp2
        go_ret
        exact ⟨rfl, below_reg (below_alloc (Below.refl _ _) _) _ _⟩
end Go.Proofs.YtgdpogdgpfjnoaaDoor

namespace Go.Proofs
open Go.Shelf
def Tryd.lays169_ren : Go.Shelf.Ren := ⟨fun | 169 => 34 | n => n, fun | 70 => 67 | 9 => 9 | 0 => 0 | 72 => 69 | 37 => 49 | 127 => 105 | 3 => 3 | 5 => 5 | n => n, fun | n => n⟩
theorem Tryd.lays169 : Go.Proofs.Lays.n169 Tryd.prog Tryd.lays169_ren := {
  mixed := by kernel_rfl
  f169 := Tryd.func34.trans (congrArg some (by kernel_rfl))
  t0 := Tryd.underlying0
  a0 := Tryd.isAgg0
  z0 := Tryd.sizeOf0
  v0 := Tryd.zeroValue0
  t3 := Tryd.underlying3
  a3 := Tryd.isAgg3
  z3 := Tryd.sizeOf3
  v3 := Tryd.zeroValue3
  t9 := Tryd.underlying9
  a9 := Tryd.isAgg9
  z9 := Tryd.sizeOf9
  v9 := Tryd.zeroValue9
  t37 := Tryd.underlying49
  a37 := Tryd.isAgg49
  z37 := Tryd.sizeOf49
  v37 := Tryd.zeroValue49
  t70 := Tryd.underlying67
  a70 := Tryd.isAgg67
  z70 := Tryd.sizeOf67
  v70 := Tryd.zeroValue67
  t72 := Tryd.underlying69
  a72 := Tryd.isAgg69
  z72 := Tryd.sizeOf69
  v72 := Tryd.zeroValue69
  t127 := Tryd.underlying105
  a127 := Tryd.isAgg105
  z127 := Tryd.sizeOf105
  v127 := Tryd.zeroValue105 }
theorem Tryd.Builder_Extra_169 : Builder.Extra Tryd.prog Tryd.lays169_ren := {
  sizeBuilder := by kernel_rfl
  liesBuilder := by kernel_rfl
  t5 := Tryd.underlying5
  a5 := Tryd.isAgg5
  z5 := Tryd.sizeOf5
  v5 := Tryd.zeroValue5
  infoByte := by kernel_rfl
  cellsByte := by kernel_rfl
  sizeByte := by kernel_rfl
  neB5 := by decide }
open Go.RowKit in
theorem Tryd.Builder_String (B b : Nat) (l : List UInt8) (w : World) (h : Lib.IsBuilder 69 5 B b (Lib.byteCells l) w) (h0 : l ≠ []) :
    Calls Tryd.prog 34 #[.pointer (some ⟨b, 0, none⟩)] w fun e w' => e = .returned (.string ⟨l.toArray⟩) ∧ Below B w w' := Any.Builder_String Tryd.lays169 Tryd.Builder_Extra_169 B b l w h h0
def Tryd.lays137_ren : Go.Shelf.Ren := ⟨fun | 137 => 63 | 217 => 77 | 266 => 89 | n => n, fun | 9 => 9 | 5 => 5 | 3 => 3 | n => n, fun | n => n⟩
theorem Tryd.lays137 : Go.Proofs.Lays.n137 Tryd.prog Tryd.lays137_ren := {
  mixed := by kernel_rfl
  f137 := Tryd.func63.trans (congrArg some (by kernel_rfl))
  f217 := Tryd.func77.trans (congrArg some (by kernel_rfl))
  f266 := Tryd.func89.trans (congrArg some (by kernel_rfl))
  t3 := Tryd.underlying3
  a3 := Tryd.isAgg3
  z3 := Tryd.sizeOf3
  v3 := Tryd.zeroValue3
  t5 := Tryd.underlying5
  a5 := Tryd.isAgg5
  z5 := Tryd.sizeOf5
  v5 := Tryd.zeroValue5
  t9 := Tryd.underlying9
  a9 := Tryd.isAgg9
  z9 := Tryd.sizeOf9
  v9 := Tryd.zeroValue9 }
open Go.RowKit in
theorem Tryd.strings_IndexByte (s : ByteArray) (c : Int) (w : World) :
    Calls Tryd.prog 63 #[.string s, .int .u8 c] w fun e w' => e = .returned (.int .i64 (Lib.indexByte s.data.toList c.toNat.toUInt8)) ∧ w' = w := Any.strings_IndexByte Tryd.lays137 s c w
def Tryd.laysM171_ren : Go.Shelf.Ren := ⟨fun | 171 => 46 | 243 => 70 | 246 => 69 | 283 => 82 | 284 => 83 | 285 => 84 | 286 => 85 | 129 => 94 | 317 => 93 | 318 => 95 | 319 => 96 | 320 => 97 | 337 => 103 | 338 => 104 | n => n, fun | 3 => 3 | 9 => 9 | 2 => 2 | 4 => 4 | 171 => 119 | 0 => 0 | 53 => 100 | 37 => 49 | 5 => 5 | 173 => 122 | 212 => 129 | 51 => 130 | 20 => 20 | 213 => 131 | 46 => 133 | 232 => 143 | 233 => 144 | n => n, fun | 17 => 0 | 18 => 4 | 19 => 5 | n => n⟩
theorem Tryd.laysM171 : Go.Proofs.LaysM.n171 Tryd.prog Tryd.laysM171_ren := {
  mixed := by kernel_rfl
  f129 := Tryd.func94.trans (congrArg some (by kernel_rfl))
  f171 := Tryd.func46.trans (congrArg some (by kernel_rfl))
  f243 := Tryd.func70.trans (congrArg some (by kernel_rfl))
  f246 := Tryd.func69.trans (congrArg some (by kernel_rfl))
  f283 := Tryd.func82.trans (congrArg some (by kernel_rfl))
  f284 := Tryd.func83.trans (congrArg some (by kernel_rfl))
  f285 := Tryd.func84.trans (congrArg some (by kernel_rfl))
  f286 := Tryd.func85.trans (congrArg some (by kernel_rfl))
  f317 := Tryd.func93.trans (congrArg some (by kernel_rfl))
  f318 := Tryd.func95.trans (congrArg some (by kernel_rfl))
  f319 := Tryd.func96.trans (congrArg some (by kernel_rfl))
  f320 := Tryd.func97.trans (congrArg some (by kernel_rfl))
  f337 := Tryd.func103.trans (congrArg some (by kernel_rfl))
  f338 := Tryd.func104.trans (congrArg some (by kernel_rfl))
  t0 := Tryd.underlying0
  a0 := Tryd.isAgg0
  z0 := Tryd.sizeOf0
  v0 := Tryd.zeroValue0
  t2 := Tryd.underlying2
  a2 := Tryd.isAgg2
  z2 := Tryd.sizeOf2
  v2 := Tryd.zeroValue2
  t3 := Tryd.underlying3
  a3 := Tryd.isAgg3
  z3 := Tryd.sizeOf3
  v3 := Tryd.zeroValue3
  t4 := Tryd.underlying4
  a4 := Tryd.isAgg4
  z4 := Tryd.sizeOf4
  v4 := Tryd.zeroValue4
  t5 := Tryd.underlying5
  a5 := Tryd.isAgg5
  z5 := Tryd.sizeOf5
  v5 := Tryd.zeroValue5
  t9 := Tryd.underlying9
  a9 := Tryd.isAgg9
  z9 := Tryd.sizeOf9
  v9 := Tryd.zeroValue9
  t20 := Tryd.underlying20
  a20 := Tryd.isAgg20
  z20 := Tryd.sizeOf20
  v20 := Tryd.zeroValue20
  t37 := Tryd.underlying49
  a37 := Tryd.isAgg49
  z37 := Tryd.sizeOf49
  v37 := Tryd.zeroValue49
  t46 := Tryd.underlying133
  a46 := Tryd.isAgg133
  z46 := Tryd.sizeOf133
  v46 := Tryd.zeroValue133
  t51 := Tryd.underlying130
  a51 := Tryd.isAgg130
  z51 := Tryd.sizeOf130
  v51 := Tryd.zeroValue130
  t53 := Tryd.underlying100
  a53 := Tryd.isAgg100
  z53 := Tryd.sizeOf100
  v53 := Tryd.zeroValue100
  t171 := Tryd.underlying119
  a171 := Tryd.isAgg119
  z171 := Tryd.sizeOf119
  v171 := Tryd.zeroValue119
  t173 := Tryd.underlying122
  a173 := Tryd.isAgg122
  z173 := Tryd.sizeOf122
  v173 := Tryd.zeroValue122
  t212 := Tryd.underlying129
  a212 := Tryd.isAgg129
  z212 := Tryd.sizeOf129
  v212 := Tryd.zeroValue129
  t213 := Tryd.underlying131
  a213 := Tryd.isAgg131
  z213 := Tryd.sizeOf131
  t232 := Tryd.underlying143
  a232 := Tryd.isAgg143
  z232 := Tryd.sizeOf143
  v232 := Tryd.zeroValue143
  t233 := Tryd.underlying144
  a233 := Tryd.isAgg144
  z233 := Tryd.sizeOf144
  v233 := Tryd.zeroValue144
  g17 := by kernel_rfl
  g18 := by kernel_rfl
  g19 := by kernel_rfl
  i0 := by kernel_rfl
  i2 := by kernel_rfl
  i3 := by kernel_rfl
  i4 := by kernel_rfl
  i5 := by kernel_rfl
  i9 := by kernel_rfl
  i20 := by kernel_rfl
  i37 := by kernel_rfl
  i46 := by kernel_rfl
  i51 := by kernel_rfl
  i53 := by kernel_rfl
  i171 := by kernel_rfl
  i173 := by kernel_rfl
  i212 := by kernel_rfl
  i232 := by kernel_rfl
  i233 := by kernel_rfl
  m17 := by kernel_rfl
  m18 := by kernel_rfl
  m19 := by kernel_rfl }
open Go.RowKit Go.Sort Go.Lib in
theorem Tryd.strconv_Itoa (n : Int) (h0 : -9223372036854775808 ≤ n) (h1 : n ≤ 9223372036854775807) (w : World) (htab : Lib.TabIs Tryd.prog w "internal/strconv.uint64pow10" .u64 Lib.pow10Tab) :
    Calls Tryd.prog 46 #[.int .i64 n] w fun e w' => e = .returned (.string ⟨(Lib.itoa n).toArray⟩) ∧ ∃ k os, w' = grow (w.drewN k) os := Any.strconv_Itoa Tryd.laysM171 n h0 h1 w htab
def Tryd.laysM173_ren : Go.Shelf.Ren := ⟨fun | 173 => 44 | 246 => 69 | 283 => 82 | 284 => 83 | 285 => 84 | 286 => 85 | 129 => 94 | 317 => 93 | 318 => 95 | 319 => 96 | 320 => 97 | 337 => 103 | 338 => 104 | n => n, fun | 2 => 2 | 3 => 3 | 9 => 9 | 4 => 4 | 171 => 119 | 0 => 0 | 53 => 100 | 37 => 49 | 5 => 5 | 173 => 122 | 212 => 129 | 51 => 130 | 20 => 20 | 213 => 131 | 46 => 133 | 232 => 143 | 233 => 144 | n => n, fun | 17 => 0 | 18 => 4 | 19 => 5 | n => n⟩
theorem Tryd.laysM173 : Go.Proofs.LaysM.n173 Tryd.prog Tryd.laysM173_ren := {
  mixed := by kernel_rfl
  f129 := Tryd.func94.trans (congrArg some (by kernel_rfl))
  f173 := Tryd.func44.trans (congrArg some (by kernel_rfl))
  f246 := Tryd.func69.trans (congrArg some (by kernel_rfl))
  f283 := Tryd.func82.trans (congrArg some (by kernel_rfl))
  f284 := Tryd.func83.trans (congrArg some (by kernel_rfl))
  f285 := Tryd.func84.trans (congrArg some (by kernel_rfl))
  f286 := Tryd.func85.trans (congrArg some (by kernel_rfl))
  f317 := Tryd.func93.trans (congrArg some (by kernel_rfl))
  f318 := Tryd.func95.trans (congrArg some (by kernel_rfl))
  f319 := Tryd.func96.trans (congrArg some (by kernel_rfl))
  f320 := Tryd.func97.trans (congrArg some (by kernel_rfl))
  f337 := Tryd.func103.trans (congrArg some (by kernel_rfl))
  f338 := Tryd.func104.trans (congrArg some (by kernel_rfl))
  t0 := Tryd.underlying0
  a0 := Tryd.isAgg0
  z0 := Tryd.sizeOf0
  v0 := Tryd.zeroValue0
  t2 := Tryd.underlying2
  a2 := Tryd.isAgg2
  z2 := Tryd.sizeOf2
  v2 := Tryd.zeroValue2
  t3 := Tryd.underlying3
  a3 := Tryd.isAgg3
  z3 := Tryd.sizeOf3
  v3 := Tryd.zeroValue3
  t4 := Tryd.underlying4
  a4 := Tryd.isAgg4
  z4 := Tryd.sizeOf4
  v4 := Tryd.zeroValue4
  t5 := Tryd.underlying5
  a5 := Tryd.isAgg5
  z5 := Tryd.sizeOf5
  v5 := Tryd.zeroValue5
  t9 := Tryd.underlying9
  a9 := Tryd.isAgg9
  z9 := Tryd.sizeOf9
  v9 := Tryd.zeroValue9
  t20 := Tryd.underlying20
  a20 := Tryd.isAgg20
  z20 := Tryd.sizeOf20
  v20 := Tryd.zeroValue20
  t37 := Tryd.underlying49
  a37 := Tryd.isAgg49
  z37 := Tryd.sizeOf49
  v37 := Tryd.zeroValue49
  t46 := Tryd.underlying133
  a46 := Tryd.isAgg133
  z46 := Tryd.sizeOf133
  v46 := Tryd.zeroValue133
  t51 := Tryd.underlying130
  a51 := Tryd.isAgg130
  z51 := Tryd.sizeOf130
  v51 := Tryd.zeroValue130
  t53 := Tryd.underlying100
  a53 := Tryd.isAgg100
  z53 := Tryd.sizeOf100
  v53 := Tryd.zeroValue100
  t171 := Tryd.underlying119
  a171 := Tryd.isAgg119
  z171 := Tryd.sizeOf119
  v171 := Tryd.zeroValue119
  t173 := Tryd.underlying122
  a173 := Tryd.isAgg122
  z173 := Tryd.sizeOf122
  v173 := Tryd.zeroValue122
  t212 := Tryd.underlying129
  a212 := Tryd.isAgg129
  z212 := Tryd.sizeOf129
  v212 := Tryd.zeroValue129
  t213 := Tryd.underlying131
  a213 := Tryd.isAgg131
  z213 := Tryd.sizeOf131
  t232 := Tryd.underlying143
  a232 := Tryd.isAgg143
  z232 := Tryd.sizeOf143
  v232 := Tryd.zeroValue143
  t233 := Tryd.underlying144
  a233 := Tryd.isAgg144
  z233 := Tryd.sizeOf144
  v233 := Tryd.zeroValue144
  g17 := by kernel_rfl
  g18 := by kernel_rfl
  g19 := by kernel_rfl
  i0 := by kernel_rfl
  i2 := by kernel_rfl
  i3 := by kernel_rfl
  i4 := by kernel_rfl
  i5 := by kernel_rfl
  i9 := by kernel_rfl
  i20 := by kernel_rfl
  i37 := by kernel_rfl
  i46 := by kernel_rfl
  i51 := by kernel_rfl
  i53 := by kernel_rfl
  i171 := by kernel_rfl
  i173 := by kernel_rfl
  i212 := by kernel_rfl
  i232 := by kernel_rfl
  i233 := by kernel_rfl
  m17 := by kernel_rfl
  m18 := by kernel_rfl
  m19 := by kernel_rfl }
open Go.RowKit Go.Sort Go.Lib in
theorem Tryd.strconv_FormatInt_10 (n : Int) (h0 : -9223372036854775808 ≤ n) (h1 : n ≤ 9223372036854775807) (w : World) (htab : Lib.TabIs Tryd.prog w "internal/strconv.uint64pow10" .u64 Lib.pow10Tab) :
    Calls Tryd.prog 44 #[.int .i64 n, .int .i64 10] w fun e w' => e = .returned (.string ⟨(Lib.itoa n).toArray⟩) ∧ ∃ k os, w' = grow (w.drewN k) os := Any.strconv_FormatInt_10 Tryd.laysM173 n h0 h1 w htab
def Tryd.lays145_ren : Go.Shelf.Ren := ⟨fun | 145 => 58 | 220 => 74 | 219 => 88 | 217 => 77 | 225 => 99 | 224 => 100 | 267 => 101 | 266 => 89 | 314 => 105 | n => n, fun | 9 => 9 | 4 => 4 | 59 => 103 | 3 => 3 | 5 => 5 | 46 => 133 | 146 => 137 | 51 => 130 | n => n, fun | 1 => 1 | n => n⟩
theorem Tryd.lays145 : Go.Proofs.Lays.n145 Tryd.prog Tryd.lays145_ren := {
  mixed := by kernel_rfl
  f145 := Tryd.func58.trans (congrArg some (by kernel_rfl))
  f217 := Tryd.func77.trans (congrArg some (by kernel_rfl))
  f219 := Tryd.func88.trans (congrArg some (by kernel_rfl))
  f220 := Tryd.func74.trans (congrArg some (by kernel_rfl))
  f224 := Tryd.func100.trans (congrArg some (by kernel_rfl))
  f225 := Tryd.func99.trans (congrArg some (by kernel_rfl))
  f266 := Tryd.func89.trans (congrArg some (by kernel_rfl))
  f267 := Tryd.func101.trans (congrArg some (by kernel_rfl))
  f314 := Tryd.func105.trans (congrArg some (by kernel_rfl))
  t3 := Tryd.underlying3
  a3 := Tryd.isAgg3
  z3 := Tryd.sizeOf3
  v3 := Tryd.zeroValue3
  t4 := Tryd.underlying4
  a4 := Tryd.isAgg4
  z4 := Tryd.sizeOf4
  v4 := Tryd.zeroValue4
  t5 := Tryd.underlying5
  a5 := Tryd.isAgg5
  z5 := Tryd.sizeOf5
  v5 := Tryd.zeroValue5
  t9 := Tryd.underlying9
  a9 := Tryd.isAgg9
  z9 := Tryd.sizeOf9
  v9 := Tryd.zeroValue9
  t46 := Tryd.underlying133
  a46 := Tryd.isAgg133
  z46 := Tryd.sizeOf133
  v46 := Tryd.zeroValue133
  t51 := Tryd.underlying130
  a51 := Tryd.isAgg130
  z51 := Tryd.sizeOf130
  v51 := Tryd.zeroValue130
  t59 := Tryd.underlying103
  a59 := Tryd.isAgg103
  z59 := Tryd.sizeOf103
  v59 := Tryd.zeroValue103
  t146 := Tryd.underlying137
  a146 := Tryd.isAgg137
  z146 := Tryd.sizeOf137
  v146 := Tryd.zeroValue137
  g1 := by kernel_rfl }
open Go.RowKit Go.Lib in
theorem Tryd.strings_Cut (s sep : ByteArray) (m : Int) (w : World) (hs : s.size < 4294967281) (hm : w.cell? ⟨1, 0, none⟩ = some (.int .i64 m)) :
    Calls Tryd.prog 58 #[.string s, .string sep] w fun e w' => e = .returned (.tuple #[.string ⟨(Lib.cut s.data.toList sep.data.toList).1.toArray⟩, .string ⟨(Lib.cut s.data.toList sep.data.toList).2.1.toArray⟩, .bool (Lib.cut s.data.toList sep.data.toList).2.2]) ∧ ∃ n, w' = w.drewN n := Any.strings_Cut Tryd.lays145 s sep m w hs hm
def Tryd.laysM145_ren : Go.Shelf.Ren := ⟨fun | 145 => 58 | 220 => 74 | 219 => 88 | 217 => 77 | 225 => 99 | 224 => 100 | 267 => 101 | 266 => 89 | 314 => 105 | n => n, fun | 9 => 9 | 4 => 4 | 59 => 103 | 3 => 3 | 5 => 5 | 46 => 133 | 146 => 137 | 51 => 130 | n => n, fun | 1 => 1 | n => n⟩
theorem Tryd.laysM145 : Go.Proofs.LaysM.n145 Tryd.prog Tryd.laysM145_ren := {
  mixed := by kernel_rfl
  f145 := Tryd.func58.trans (congrArg some (by kernel_rfl))
  f217 := Tryd.func77.trans (congrArg some (by kernel_rfl))
  f219 := Tryd.func88.trans (congrArg some (by kernel_rfl))
  f220 := Tryd.func74.trans (congrArg some (by kernel_rfl))
  f224 := Tryd.func100.trans (congrArg some (by kernel_rfl))
  f225 := Tryd.func99.trans (congrArg some (by kernel_rfl))
  f266 := Tryd.func89.trans (congrArg some (by kernel_rfl))
  f267 := Tryd.func101.trans (congrArg some (by kernel_rfl))
  f314 := Tryd.func105.trans (congrArg some (by kernel_rfl))
  t3 := Tryd.underlying3
  a3 := Tryd.isAgg3
  z3 := Tryd.sizeOf3
  v3 := Tryd.zeroValue3
  t4 := Tryd.underlying4
  a4 := Tryd.isAgg4
  z4 := Tryd.sizeOf4
  v4 := Tryd.zeroValue4
  t5 := Tryd.underlying5
  a5 := Tryd.isAgg5
  z5 := Tryd.sizeOf5
  v5 := Tryd.zeroValue5
  t9 := Tryd.underlying9
  a9 := Tryd.isAgg9
  z9 := Tryd.sizeOf9
  v9 := Tryd.zeroValue9
  t46 := Tryd.underlying133
  a46 := Tryd.isAgg133
  z46 := Tryd.sizeOf133
  v46 := Tryd.zeroValue133
  t51 := Tryd.underlying130
  a51 := Tryd.isAgg130
  z51 := Tryd.sizeOf130
  v51 := Tryd.zeroValue130
  t59 := Tryd.underlying103
  a59 := Tryd.isAgg103
  z59 := Tryd.sizeOf103
  v59 := Tryd.zeroValue103
  t146 := Tryd.underlying137
  a146 := Tryd.isAgg137
  z146 := Tryd.sizeOf137
  v146 := Tryd.zeroValue137
  g1 := by kernel_rfl
  i3 := by kernel_rfl
  i4 := by kernel_rfl
  i5 := by kernel_rfl
  i9 := by kernel_rfl
  i46 := by kernel_rfl
  i51 := by kernel_rfl
  i59 := by kernel_rfl
  i146 := by kernel_rfl
  m1 := by kernel_rfl
  s1_3 := fun w h => Go.Proofs.cell_of_shapedOpen_int (zero := #[.int .i64 0]) (t := 3) h (of_decide_eq_true (by kernel_rfl)) (by kernel_rfl) rfl (by kernel_rfl) (by kernel_rfl) Tryd.underlying3 }
def Tryd.lays99_ren : Go.Shelf.Ren := ⟨fun | 99 => 72 | 206 => 86 | n => n, fun | 9 => 9 | 4 => 4 | 3 => 3 | n => n, fun | n => n⟩
theorem Tryd.lays99 : Go.Proofs.Lays.n99 Tryd.prog Tryd.lays99_ren := {
  mixed := by kernel_rfl
  f99 := Tryd.func72.trans (congrArg some (by kernel_rfl))
  f206 := Tryd.func86.trans (congrArg some (by kernel_rfl))
  t3 := Tryd.underlying3
  a3 := Tryd.isAgg3
  z3 := Tryd.sizeOf3
  v3 := Tryd.zeroValue3
  t4 := Tryd.underlying4
  a4 := Tryd.isAgg4
  z4 := Tryd.sizeOf4
  v4 := Tryd.zeroValue4
  t9 := Tryd.underlying9
  a9 := Tryd.isAgg9
  z9 := Tryd.sizeOf9
  v9 := Tryd.zeroValue9 }
open Go.RowKit Go.Lib in
theorem Tryd.strings_HasPrefix (s p : ByteArray) (w : World) :
    Calls Tryd.prog 72 #[.string s, .string p] w fun e w' => e = .returned (.bool (Lib.hasPrefix s.data.toList p.data.toList)) ∧ w' = w := Any.strings_HasPrefix Tryd.lays99 s p w
def Tryd.lays102_ren : Go.Shelf.Ren := ⟨fun | 102 => 38 | 209 => 65 | 207 => 81 | n => n, fun | 9 => 9 | 4 => 4 | 3 => 3 | n => n, fun | n => n⟩
theorem Tryd.lays102 : Go.Proofs.Lays.n102 Tryd.prog Tryd.lays102_ren := {
  mixed := by kernel_rfl
  f102 := Tryd.func38.trans (congrArg some (by kernel_rfl))
  f207 := Tryd.func81.trans (congrArg some (by kernel_rfl))
  f209 := Tryd.func65.trans (congrArg some (by kernel_rfl))
  t3 := Tryd.underlying3
  a3 := Tryd.isAgg3
  z3 := Tryd.sizeOf3
  v3 := Tryd.zeroValue3
  t4 := Tryd.underlying4
  a4 := Tryd.isAgg4
  z4 := Tryd.sizeOf4
  v4 := Tryd.zeroValue4
  t9 := Tryd.underlying9
  a9 := Tryd.isAgg9
  z9 := Tryd.sizeOf9
  v9 := Tryd.zeroValue9 }
open Go.RowKit Go.Lib in
theorem Tryd.strings_TrimSuffix (s p : ByteArray) (w : World) (hs : s.size ≤ 9223372036854775807) :
    Calls Tryd.prog 38 #[.string s, .string p] w fun e w' => e = .returned (.string ⟨(Lib.trimSuffix s.data.toList p.data.toList).toArray⟩) ∧ w' = w := Any.strings_TrimSuffix Tryd.lays102 s p w hs
def Tryd.lays146_ren : Go.Shelf.Ren := ⟨fun | 146 => 37 | 221 => 64 | 268 => 78 | 138 => 79 | 143 => 80 | 195 => 90 | 197 => 91 | 218 => 92 | 219 => 88 | 260 => 102 | 217 => 77 | 225 => 99 | 224 => 100 | 267 => 101 | 266 => 89 | 314 => 105 | n => n, fun | 9 => 9 | 31 => 55 | 3 => 3 | 4 => 4 | 0 => 0 | 105 => 125 | 21 => 21 | 5 => 5 | 46 => 133 | 119 => 139 | 139 => 142 | 138 => 141 | 146 => 137 | 51 => 130 | n => n, fun | 1 => 1 | 3 => 2 | 4 => 3 | n => n⟩
theorem Tryd.lays146 : Go.Proofs.Lays.n146 Tryd.prog Tryd.lays146_ren := {
  mixed := by kernel_rfl
  f138 := Tryd.func79.trans (congrArg some (by kernel_rfl))
  f143 := Tryd.func80.trans (congrArg some (by kernel_rfl))
  f146 := Tryd.func37.trans (congrArg some (by kernel_rfl))
  f195 := Tryd.func90.trans (congrArg some (by kernel_rfl))
  f197 := Tryd.func91.trans (congrArg some (by kernel_rfl))
  f217 := Tryd.func77.trans (congrArg some (by kernel_rfl))
  f218 := Tryd.func92.trans (congrArg some (by kernel_rfl))
  f219 := Tryd.func88.trans (congrArg some (by kernel_rfl))
  f221 := Tryd.func64.trans (congrArg some (by kernel_rfl))
  f224 := Tryd.func100.trans (congrArg some (by kernel_rfl))
  f225 := Tryd.func99.trans (congrArg some (by kernel_rfl))
  f260 := Tryd.func102.trans (congrArg some (by kernel_rfl))
  f266 := Tryd.func89.trans (congrArg some (by kernel_rfl))
  f267 := Tryd.func101.trans (congrArg some (by kernel_rfl))
  f268 := Tryd.func78.trans (congrArg some (by kernel_rfl))
  f314 := Tryd.func105.trans (congrArg some (by kernel_rfl))
  t0 := Tryd.underlying0
  a0 := Tryd.isAgg0
  z0 := Tryd.sizeOf0
  v0 := Tryd.zeroValue0
  t3 := Tryd.underlying3
  a3 := Tryd.isAgg3
  z3 := Tryd.sizeOf3
  v3 := Tryd.zeroValue3
  t4 := Tryd.underlying4
  a4 := Tryd.isAgg4
  z4 := Tryd.sizeOf4
  v4 := Tryd.zeroValue4
  t5 := Tryd.underlying5
  a5 := Tryd.isAgg5
  z5 := Tryd.sizeOf5
  v5 := Tryd.zeroValue5
  t9 := Tryd.underlying9
  a9 := Tryd.isAgg9
  z9 := Tryd.sizeOf9
  v9 := Tryd.zeroValue9
  t21 := Tryd.underlying21
  a21 := Tryd.isAgg21
  z21 := Tryd.sizeOf21
  v21 := Tryd.zeroValue21
  t31 := Tryd.underlying55
  a31 := Tryd.isAgg55
  z31 := Tryd.sizeOf55
  v31 := Tryd.zeroValue55
  t46 := Tryd.underlying133
  a46 := Tryd.isAgg133
  z46 := Tryd.sizeOf133
  v46 := Tryd.zeroValue133
  t51 := Tryd.underlying130
  a51 := Tryd.isAgg130
  z51 := Tryd.sizeOf130
  v51 := Tryd.zeroValue130
  t105 := Tryd.underlying125
  a105 := Tryd.isAgg125
  z105 := Tryd.sizeOf125
  v105 := Tryd.zeroValue125
  t119 := Tryd.underlying139
  a119 := Tryd.isAgg139
  z119 := Tryd.sizeOf139
  t138 := Tryd.underlying141
  a138 := Tryd.isAgg141
  z138 := Tryd.sizeOf141
  v138 := Tryd.zeroValue141
  t139 := Tryd.underlying142
  a139 := Tryd.isAgg142
  z139 := Tryd.sizeOf142
  v139 := Tryd.zeroValue142
  t146 := Tryd.underlying137
  a146 := Tryd.isAgg137
  z146 := Tryd.sizeOf137
  v146 := Tryd.zeroValue137
  g1 := by kernel_rfl
  g3 := by kernel_rfl
  g4 := by kernel_rfl }
open Go.RowKit Go.Lib in
theorem Tryd.strings_Split (s sep : ByteArray) (m : Int) (w : World) (hs : s.size < 4294967281) (hm : w.cell? ⟨1, 0, none⟩ = some (.int .i64 m)) (h1 : 1 ≤ sep.size) :
    Calls Tryd.prog 37 #[.string s, .string sep] w fun e w' =>
      e = .returned (.slice (some ⟨w.heap.size, 0, none⟩) (Lib.countB s sep + 1) (Lib.countB s sep + 1)) ∧ w' = w.alloc (.cells ((Lib.splitB sep 0 (Lib.countB s sep) s).map Value.string).toArray 9) := Any.strings_Split Tryd.lays146 (by kernel_rfl) s sep m w hs hm h1
end Go.Proofs

namespace Go.Proofs.YtgdpogdgpfjnoaaDoor
open Go.RowKit Go.Sort
def askd (n d : Int) : Int := if chk n d ≠ 0 then chk n d else if 1073741824 < n.natAbs ∨ 1024 < d then 2 else 0
theorem chk_08 (n d : Int) : chk n d = 0 ∨ chk n d = 8 := by unfold chk; split <;> simp
theorem asked_any (n d : Int) (w : World) (h0 : -9223372036854775808 ≤ n) (h1 : n ≤ 9223372036854775807) (h2 : -9223372036854775808 ≤ d) (h3 : d ≤ 9223372036854775807) :
    Calls Tryd.prog 48 #[.agg #[.int .i64 n, .int .i64 d]] w fun e w' => e = .returned (.int .i64 (askd n d)) ∧ Below w.heap.size w w' := by
  cases hn : decide ((1073741824 : Int) < (n.natAbs : Nat)) <;> cases hd : decide (1024 < d)
  all_goals
    go_enter Tryd.func48, Tryd.ntmps48
    go_wp2_with (first | (go_at_call 43; (with_reducible refine cmono ?_ (check_any _ _ _ ?_ ?_ ?_ ?_)); rotate_left; omega; omega; omega; omega; rintro e w' ⟨rfl, hbc0⟩; obtain ⟨⟨dc0, osc0⟩, rfl⟩ := regrown_of_below hbc0; clear hbc0) | (go_at_call 68; (with_reducible refine cmono ?_ (abs_any _ _ ?_ ?_)); rotate_left; omega; omega; rintro e w' ⟨rfl, hbc1⟩; obtain ⟨⟨dc1, osc1⟩, rfl⟩ := regrown_of_below hbc1; clear hbc1) | ((with_reducible refine wp_region_quiet_below ?_ ?_ ?_); kernel_rfl; kernel_rfl; (repeat (go_big_quiet_step (first | (go_at_call 43; (with_reducible refine Calls.regrown_of (check_any _ _ _ ?_ ?_ ?_ ?_)); omega; omega; omega; omega) | (go_at_call 68; (with_reducible refine Calls.regrown_of (abs_any _ _ ?_ ?_)); omega; omega)))); refine wpQuiet_nil ?_; intro _ hw'; obtain ⟨⟨dq, osq⟩, hw''⟩ := hw'; subst hw''))
    all_goals (go_ret; refine ⟨ret_int ?_, (by repeat (first | exact Below.refl _ _ | refine below_reg ?_ _ _ | refine below_alloc ?_ _ | exact below_drewN ?_ _ | assumption))⟩)
    all_goals (simp only [bne_iff_ne, bne_eq_false_iff_eq, decide_eq_true_eq, decide_eq_false_iff_not, ne_eq] at *)
    all_goals (unfold askd; (first | rw [if_pos (by omega)] | rw [if_neg (by omega)]))
    all_goals (first | rfl | (rw [if_pos (by omega)]; done) | (rw [if_neg (by omega)]; done))
end Go.Proofs.YtgdpogdgpfjnoaaDoor

namespace Go.Proofs.YtgdpogdgpfjnoaaDoor
open Go.RowKit Go.Sort
end Go.Proofs.YtgdpogdgpfjnoaaDoor

namespace Go.Proofs.YtgdpogdgpfjnoaaDoor
end Go.Proofs.YtgdpogdgpfjnoaaDoor

namespace Go.Proofs.YtgdpogdgpfjnoaaDoor
open Go.RowKit Go.Sort
end Go.Proofs.YtgdpogdgpfjnoaaDoor

namespace Go.Proofs.YtgdpogdgpfjnoaaDoor
open Go.RowKit Go.Sort
end Go.Proofs.YtgdpogdgpfjnoaaDoor

namespace Go.Proofs.YtgdpogdgpfjnoaaDoor
open Go.RowKit Go.Sort
def Two (hi lo m : Nat) : Prop := hi = m / 18446744073709551616 ∧ lo = m % 18446744073709551616
theorem Two.eq {hi lo m : Nat} (h : Two hi lo m) : hi * 18446744073709551616 + lo = m := by
  obtain ⟨rfl, rfl⟩ := h
  have := Nat.div_add_mod m 18446744073709551616
  rw [Nat.mul_comm] at this
  exact this
theorem Two.lo {hi lo m : Nat} (h : Two hi lo m) : lo < 18446744073709551616 := by
  obtain ⟨rfl, rfl⟩ := h
  exact Nat.mod_lt _ (by decide)
theorem Two.hi {hi lo m : Nat} (h : Two hi lo m) (k : Nat) (hm : m < k * 18446744073709551616) : hi < k := by
  obtain ⟨rfl, rfl⟩ := h
  rw [Nat.div_lt_iff_lt_mul (by decide)]
  exact hm
end Go.Proofs.YtgdpogdgpfjnoaaDoor

namespace Go.Proofs.YtgdpogdgpfjnoaaDoor
open Go.RowKit
end Go.Proofs.YtgdpogdgpfjnoaaDoor

namespace Go.Proofs.YtgdpogdgpfjnoaaDoor
open Go.RowKit Go.Sort
end Go.Proofs.YtgdpogdgpfjnoaaDoor
