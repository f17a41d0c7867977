import Derived.Test.YtnjgfhgpicmklaaGQAJ
import Derived.ChangeKeysEq
import Derived.Test.YtnjgfhgpicmklaaProg
import Derived.Test.YtnjgfhgpicmklaaChecked
import Derived.Test.YtnjgfhgpicmklaaGQAA
import Derived.Shelf.Small.Bits
import Derived.Shelf.Strconv.Itoa0
import Derived.Shelf.Bits.Mul64
import Derived.Laws.Externs
import Derived.Shelf.Spec.BitsCarry
import Derived.WalkKit
import Derived.Lib.ItoaNum
import Derived.Deep.DeepCutAuto
import Derived.Deep.CutBlock
import Derived.Laws.BitsAllLaws
set_option linter.all false
namespace Go.Proofs.Ytnjgfhgpicmklaa
open Go Go.RowKit
namespace Sx
def Ty : List (Nat × TD) := [(2, .int .i64),
  (3, .int .i64),
  (4, .bool),
  (5, .int .u8),
  (9, .sc (.v (.string "".toUTF8))),
  (12, .int .u64),
  (21, .int .i32),
  (22, .st 2 [.v (.int .i64 0), .v (.int .i64 0)] [(0, 1, false), (1, 1, false)]),
  (23, .st 2 [.v (.int .i64 0), .v (.int .i64 0)] [(0, 1, false), (1, 1, false)]),
  (24, .sl 3 true [.v (.int .i64 0), .v (.int .i64 0), .v (.int .i64 0)]),
  (25, .st 1 [.nil 3] [(0, 1, false)]),
  (26, .st 1 [.nil 3] [(0, 1, false)]),
  (27, .st 3 [.v (.int .i64 0), .v (.int .i64 0), .nil 3] [(0, 2, true), (2, 1, true)]),
  (28, .st 3 [.v (.int .i64 0), .v (.int .i64 0), .nil 3] [(0, 2, true), (2, 1, true)]),
  (31, .sl 2 true [.v (.int .u8 0), .v (.int .i64 0)]),
  (32, .int .i64),
  (37, .st 2 [.v (.int .u8 0), .v (.int .i64 0)] [(0, 1, false), (1, 1, false)]),
  (38, .st 2 [.v (.int .u8 0), .v (.int .i64 0)] [(0, 1, false), (1, 1, false)]),
  (47, .sl 7 true [.v (.int .u8 0), .v (.int .i64 0), .v (.int .i64 0), .v (.int .i64 0), .v (.int .i64 0), .v (.int .i64 0), .v (.int .i64 0)]),
  (56, .st 3 [.v (.int .i64 0), .v (.int .i64 0), .v (.int .i64 0)] [(0, 1, false), (1, 1, false), (2, 1, false)]),
  (57, .st 3 [.v (.int .i64 0), .v (.int .i64 0), .v (.int .i64 0)] [(0, 1, false), (1, 1, false), (2, 1, false)]),
  (59, .st 7 [.v (.int .u8 0), .v (.int .i64 0), .v (.int .i64 0), .v (.int .i64 0), .v (.int .i64 0), .v (.int .i64 0), .v (.int .i64 0)] [(0, 1, false), (1, 3, true), (4, 1, false), (5, 2, true)]),
  (60, .st 7 [.v (.int .u8 0), .v (.int .i64 0), .v (.int .i64 0), .v (.int .i64 0), .v (.int .i64 0), .v (.int .i64 0), .v (.int .i64 0)] [(0, 1, false), (1, 3, true), (4, 1, false), (5, 2, true)]),
  (66, .sl 1 false [.v (.int .i64 0)]),
  (71, .sl 2 true [.v (.int .i64 0), .v (.int .i64 0)]),
  (75, .ar 2 [.v (.int .i64 0), .v (.int .i64 0)] 2 1 false),
  (82, .sl 5 true [.v (.int .u8 0), .v (.int .i64 0), .v (.int .i64 0), .v (.int .i64 0), .v (.int .i64 0)]),
  (84, .st 5 [.v (.int .u8 0), .v (.int .i64 0), .v (.int .i64 0), .v (.int .i64 0), .v (.int .i64 0)] [(0, 2, true), (2, 3, true)]),
  (85, .st 5 [.v (.int .u8 0), .v (.int .i64 0), .v (.int .i64 0), .v (.int .i64 0), .v (.int .i64 0)] [(0, 2, true), (2, 3, true)]),
  (106, .sl 1 false [.v (.int .i64 0)]),
  (112, .int .u64),
  (113, .st 3 [.v (.bool false), .v (.int .u64 0), .v (.int .u64 0)] [(0, 1, false), (1, 1, false), (2, 1, false)]),
  (114, .st 3 [.v (.bool false), .v (.int .u64 0), .v (.int .u64 0)] [(0, 1, false), (1, 1, false), (2, 1, false)]),
  (116, .sl 1 false [.nil 7]),
  (118, .st 3 [.v (.bool false), .v (.int .u64 0), .v (.int .u64 0)] [(0, 1, false), (1, 1, false), (2, 1, false)]),
  (119, .st 3 [.v (.bool false), .v (.int .u64 0), .v (.int .u64 0)] [(0, 1, false), (1, 1, false), (2, 1, false)]),
  (152, .int .u64),
  (162, .int .i64),
  (170, .int .u32),
  (173, .int .u64),
  (184, .st 4 [.v (.pointer none), .v (.pointer none), .v (.pointer none), .v (.string "".toUTF8)] [(0, 1, false), (1, 1, false), (2, 1, false), (3, 1, false)])]
theorem ty_all : TysOK Try.prog Ty := ⟨⟨Try.sizeOf2, Try.isAgg2, ⟨_, Try.zeroValue2, fun _ _ => ⟨.v _ rfl (wfB_iff rfl), trivial⟩⟩, Try.underlying2⟩,
  ⟨Try.sizeOf3, Try.isAgg3, ⟨_, Try.zeroValue3, fun _ _ => ⟨.v _ rfl (wfB_iff rfl), trivial⟩⟩, Try.underlying3⟩,
  ⟨Try.sizeOf4, Try.isAgg4, ⟨_, Try.zeroValue4, fun _ _ => ⟨.v _ rfl (wfB_iff rfl), trivial⟩⟩, Try.underlying4⟩,
  ⟨Try.sizeOf5, Try.isAgg5, ⟨_, Try.zeroValue5, fun _ _ => ⟨.v _ rfl (wfB_iff rfl), trivial⟩⟩, Try.underlying5⟩,
  ⟨Try.sizeOf9, Try.isAgg9, ⟨_, Try.zeroValue9, fun _ _ => ⟨.v _ rfl (wfB_iff rfl), trivial⟩⟩, trivial⟩,
  ⟨Try.sizeOf12, Try.isAgg12, ⟨_, Try.zeroValue12, fun _ _ => ⟨.v _ rfl (wfB_iff rfl), trivial⟩⟩, Try.underlying12⟩,
  ⟨Try.sizeOf21, Try.isAgg21, ⟨_, Try.zeroValue21, fun _ _ => ⟨.v _ rfl (wfB_iff rfl), trivial⟩⟩, Try.underlying21⟩,
  ⟨Try.sizeOf22, Try.isAgg22, ⟨_, Try.zeroValue22, fun _ _ => ⟨.v _ rfl (wfB_iff rfl), .v _ rfl (wfB_iff rfl), trivial⟩⟩, st_ty Try.underlying22 rfl ⟨rfl, Try.sizeOf2, Try.isAgg2, rfl, Try.sizeOf2, Try.isAgg2, trivial⟩⟩,
  ⟨Try.sizeOf23, Try.isAgg23, ⟨_, Try.zeroValue23, fun _ _ => ⟨.v _ rfl (wfB_iff rfl), .v _ rfl (wfB_iff rfl), trivial⟩⟩, st_ty Try.underlying23 rfl ⟨rfl, Try.sizeOf2, Try.isAgg2, rfl, Try.sizeOf2, Try.isAgg2, trivial⟩⟩,
  ⟨Try.sizeOf24, Try.isAgg24, ⟨_, Try.zeroValue24, fun _ _ => ⟨.nl _, trivial⟩⟩, sl_ty Try.underlying24 Try.sizeOf57 Try.isAgg57 Try.zeroValue57 rfl (show Try.prog.info? 57 = some Try.t57 by kernel_rfl) rfl rfl rfl (fun _ _ => ⟨.v _ rfl (wfB_iff rfl), .v _ rfl (wfB_iff rfl), .v _ rfl (wfB_iff rfl), trivial⟩) rfl⟩,
  ⟨Try.sizeOf25, Try.isAgg25, ⟨_, Try.zeroValue25, fun _ _ => ⟨.nl _, trivial⟩⟩, st_ty Try.underlying25 rfl ⟨rfl, Try.sizeOf24, Try.isAgg24, trivial⟩⟩,
  ⟨Try.sizeOf26, Try.isAgg26, ⟨_, Try.zeroValue26, fun _ _ => ⟨.nl _, trivial⟩⟩, st_ty Try.underlying26 rfl ⟨rfl, Try.sizeOf24, Try.isAgg24, trivial⟩⟩,
  ⟨Try.sizeOf27, Try.isAgg27, ⟨_, Try.zeroValue27, fun _ _ => ⟨.v _ rfl (wfB_iff rfl), .v _ rfl (wfB_iff rfl), .nl _, trivial⟩⟩, st_ty Try.underlying27 rfl ⟨rfl, Try.sizeOf23, Try.isAgg23, rfl, Try.sizeOf26, Try.isAgg26, trivial⟩⟩,
  ⟨Try.sizeOf28, Try.isAgg28, ⟨_, Try.zeroValue28, fun _ _ => ⟨.v _ rfl (wfB_iff rfl), .v _ rfl (wfB_iff rfl), .nl _, trivial⟩⟩, st_ty Try.underlying28 rfl ⟨rfl, Try.sizeOf23, Try.isAgg23, rfl, Try.sizeOf26, Try.isAgg26, trivial⟩⟩,
  ⟨Try.sizeOf31, Try.isAgg31, ⟨_, Try.zeroValue31, fun _ _ => ⟨.nl _, trivial⟩⟩, sl_ty Try.underlying31 Try.sizeOf38 Try.isAgg38 Try.zeroValue38 rfl (show Try.prog.info? 38 = some Try.t38 by kernel_rfl) rfl rfl rfl (fun _ _ => ⟨.v _ rfl (wfB_iff rfl), .v _ rfl (wfB_iff rfl), trivial⟩) rfl⟩,
  ⟨Try.sizeOf32, Try.isAgg32, ⟨_, Try.zeroValue32, fun _ _ => ⟨.v _ rfl (wfB_iff rfl), trivial⟩⟩, Try.underlying32⟩,
  ⟨Try.sizeOf37, Try.isAgg37, ⟨_, Try.zeroValue37, fun _ _ => ⟨.v _ rfl (wfB_iff rfl), .v _ rfl (wfB_iff rfl), trivial⟩⟩, st_ty Try.underlying37 rfl ⟨rfl, Try.sizeOf5, Try.isAgg5, rfl, Try.sizeOf3, Try.isAgg3, trivial⟩⟩,
  ⟨Try.sizeOf38, Try.isAgg38, ⟨_, Try.zeroValue38, fun _ _ => ⟨.v _ rfl (wfB_iff rfl), .v _ rfl (wfB_iff rfl), trivial⟩⟩, st_ty Try.underlying38 rfl ⟨rfl, Try.sizeOf5, Try.isAgg5, rfl, Try.sizeOf3, Try.isAgg3, trivial⟩⟩,
  ⟨Try.sizeOf47, Try.isAgg47, ⟨_, Try.zeroValue47, fun _ _ => ⟨.nl _, trivial⟩⟩, sl_ty Try.underlying47 Try.sizeOf60 Try.isAgg60 Try.zeroValue60 rfl (show Try.prog.info? 60 = some Try.t60 by kernel_rfl) rfl rfl rfl (fun _ _ => ⟨.v _ rfl (wfB_iff rfl), .v _ rfl (wfB_iff rfl), .v _ rfl (wfB_iff rfl), .v _ rfl (wfB_iff rfl), .v _ rfl (wfB_iff rfl), .v _ rfl (wfB_iff rfl), .v _ rfl (wfB_iff rfl), trivial⟩) rfl⟩,
  ⟨Try.sizeOf56, Try.isAgg56, ⟨_, Try.zeroValue56, fun _ _ => ⟨.v _ rfl (wfB_iff rfl), .v _ rfl (wfB_iff rfl), .v _ rfl (wfB_iff rfl), trivial⟩⟩, st_ty Try.underlying56 rfl ⟨rfl, Try.sizeOf3, Try.isAgg3, rfl, Try.sizeOf2, Try.isAgg2, rfl, Try.sizeOf2, Try.isAgg2, trivial⟩⟩,
  ⟨Try.sizeOf57, Try.isAgg57, ⟨_, Try.zeroValue57, fun _ _ => ⟨.v _ rfl (wfB_iff rfl), .v _ rfl (wfB_iff rfl), .v _ rfl (wfB_iff rfl), trivial⟩⟩, st_ty Try.underlying57 rfl ⟨rfl, Try.sizeOf3, Try.isAgg3, rfl, Try.sizeOf2, Try.isAgg2, rfl, Try.sizeOf2, Try.isAgg2, trivial⟩⟩,
  ⟨Try.sizeOf59, Try.isAgg59, ⟨_, Try.zeroValue59, fun _ _ => ⟨.v _ rfl (wfB_iff rfl), .v _ rfl (wfB_iff rfl), .v _ rfl (wfB_iff rfl), .v _ rfl (wfB_iff rfl), .v _ rfl (wfB_iff rfl), .v _ rfl (wfB_iff rfl), .v _ rfl (wfB_iff rfl), trivial⟩⟩, st_ty Try.underlying59 rfl ⟨rfl, Try.sizeOf5, Try.isAgg5, rfl, Try.sizeOf57, Try.isAgg57, rfl, Try.sizeOf3, Try.isAgg3, rfl, Try.sizeOf23, Try.isAgg23, trivial⟩⟩,
  ⟨Try.sizeOf60, Try.isAgg60, ⟨_, Try.zeroValue60, fun _ _ => ⟨.v _ rfl (wfB_iff rfl), .v _ rfl (wfB_iff rfl), .v _ rfl (wfB_iff rfl), .v _ rfl (wfB_iff rfl), .v _ rfl (wfB_iff rfl), .v _ rfl (wfB_iff rfl), .v _ rfl (wfB_iff rfl), trivial⟩⟩, st_ty Try.underlying60 rfl ⟨rfl, Try.sizeOf5, Try.isAgg5, rfl, Try.sizeOf57, Try.isAgg57, rfl, Try.sizeOf3, Try.isAgg3, rfl, Try.sizeOf23, Try.isAgg23, trivial⟩⟩,
  ⟨Try.sizeOf66, Try.isAgg66, ⟨_, Try.zeroValue66, fun _ _ => ⟨.nl _, trivial⟩⟩, sl_ty Try.underlying66 Try.sizeOf32 Try.isAgg32 Try.zeroValue32 rfl (show Try.prog.info? 32 = some Try.t32 by kernel_rfl) rfl rfl rfl (fun _ _ => ⟨.v _ rfl (wfB_iff rfl), trivial⟩) rfl⟩,
  ⟨Try.sizeOf71, Try.isAgg71, ⟨_, Try.zeroValue71, fun _ _ => ⟨.nl _, trivial⟩⟩, sl_ty Try.underlying71 Try.sizeOf75 Try.isAgg75 Try.zeroValue75 rfl (show Try.prog.info? 75 = some Try.t75 by kernel_rfl) rfl rfl rfl (fun _ _ => ⟨.v _ rfl (wfB_iff rfl), .v _ rfl (wfB_iff rfl), trivial⟩) rfl⟩,
  ⟨Try.sizeOf75, Try.isAgg75, ⟨_, Try.zeroValue75, fun _ _ => ⟨.v _ rfl (wfB_iff rfl), .v _ rfl (wfB_iff rfl), trivial⟩⟩, ⟨_, Try.underlying75, Try.sizeOf3, Try.isAgg3⟩⟩,
  ⟨Try.sizeOf82, Try.isAgg82, ⟨_, Try.zeroValue82, fun _ _ => ⟨.nl _, trivial⟩⟩, sl_ty Try.underlying82 Try.sizeOf85 Try.isAgg85 Try.zeroValue85 rfl (show Try.prog.info? 85 = some Try.t85 by kernel_rfl) rfl rfl rfl (fun _ _ => ⟨.v _ rfl (wfB_iff rfl), .v _ rfl (wfB_iff rfl), .v _ rfl (wfB_iff rfl), .v _ rfl (wfB_iff rfl), .v _ rfl (wfB_iff rfl), trivial⟩) rfl⟩,
  ⟨Try.sizeOf84, Try.isAgg84, ⟨_, Try.zeroValue84, fun _ _ => ⟨.v _ rfl (wfB_iff rfl), .v _ rfl (wfB_iff rfl), .v _ rfl (wfB_iff rfl), .v _ rfl (wfB_iff rfl), .v _ rfl (wfB_iff rfl), trivial⟩⟩, st_ty Try.underlying84 rfl ⟨rfl, Try.sizeOf38, Try.isAgg38, rfl, Try.sizeOf57, Try.isAgg57, trivial⟩⟩,
  ⟨Try.sizeOf85, Try.isAgg85, ⟨_, Try.zeroValue85, fun _ _ => ⟨.v _ rfl (wfB_iff rfl), .v _ rfl (wfB_iff rfl), .v _ rfl (wfB_iff rfl), .v _ rfl (wfB_iff rfl), .v _ rfl (wfB_iff rfl), trivial⟩⟩, st_ty Try.underlying85 rfl ⟨rfl, Try.sizeOf38, Try.isAgg38, rfl, Try.sizeOf57, Try.isAgg57, trivial⟩⟩,
  ⟨Try.sizeOf106, Try.isAgg106, ⟨_, Try.zeroValue106, fun _ _ => ⟨.nl _, trivial⟩⟩, sl_ty Try.underlying106 Try.sizeOf3 Try.isAgg3 Try.zeroValue3 rfl (show Try.prog.info? 3 = some Try.t3 by kernel_rfl) rfl rfl rfl (fun _ _ => ⟨.v _ rfl (wfB_iff rfl), trivial⟩) rfl⟩,
  ⟨Try.sizeOf112, Try.isAgg112, ⟨_, Try.zeroValue112, fun _ _ => ⟨.v _ rfl (wfB_iff rfl), trivial⟩⟩, Try.underlying112⟩,
  ⟨Try.sizeOf113, Try.isAgg113, ⟨_, Try.zeroValue113, fun _ _ => ⟨.v _ rfl (wfB_iff rfl), .v _ rfl (wfB_iff rfl), .v _ rfl (wfB_iff rfl), trivial⟩⟩, st_ty Try.underlying113 rfl ⟨rfl, Try.sizeOf4, Try.isAgg4, rfl, Try.sizeOf112, Try.isAgg112, rfl, Try.sizeOf112, Try.isAgg112, trivial⟩⟩,
  ⟨Try.sizeOf114, Try.isAgg114, ⟨_, Try.zeroValue114, fun _ _ => ⟨.v _ rfl (wfB_iff rfl), .v _ rfl (wfB_iff rfl), .v _ rfl (wfB_iff rfl), trivial⟩⟩, st_ty Try.underlying114 rfl ⟨rfl, Try.sizeOf4, Try.isAgg4, rfl, Try.sizeOf112, Try.isAgg112, rfl, Try.sizeOf112, Try.isAgg112, trivial⟩⟩,
  ⟨Try.sizeOf116, Try.isAgg116, ⟨_, Try.zeroValue116, fun _ _ => ⟨.nl _, trivial⟩⟩, sl_ty Try.underlying116 Try.sizeOf47 Try.isAgg47 Try.zeroValue47 rfl (show Try.prog.info? 47 = some Try.t47 by kernel_rfl) rfl rfl rfl (fun _ _ => ⟨.nl _, trivial⟩) rfl⟩,
  ⟨Try.sizeOf118, Try.isAgg118, ⟨_, Try.zeroValue118, fun _ _ => ⟨.v _ rfl (wfB_iff rfl), .v _ rfl (wfB_iff rfl), .v _ rfl (wfB_iff rfl), trivial⟩⟩, st_ty Try.underlying118 rfl ⟨rfl, Try.sizeOf4, Try.isAgg4, rfl, Try.sizeOf112, Try.isAgg112, rfl, Try.sizeOf112, Try.isAgg112, trivial⟩⟩,
  ⟨Try.sizeOf119, Try.isAgg119, ⟨_, Try.zeroValue119, fun _ _ => ⟨.v _ rfl (wfB_iff rfl), .v _ rfl (wfB_iff rfl), .v _ rfl (wfB_iff rfl), trivial⟩⟩, st_ty Try.underlying119 rfl ⟨rfl, Try.sizeOf4, Try.isAgg4, rfl, Try.sizeOf112, Try.isAgg112, rfl, Try.sizeOf112, Try.isAgg112, trivial⟩⟩,
  ⟨Try.sizeOf152, Try.isAgg152, ⟨_, Try.zeroValue152, fun _ _ => ⟨.v _ rfl (wfB_iff rfl), trivial⟩⟩, Try.underlying152⟩,
  ⟨Try.sizeOf162, Try.isAgg162, ⟨_, Try.zeroValue162, fun _ _ => ⟨.v _ rfl (wfB_iff rfl), trivial⟩⟩, Try.underlying162⟩,
  ⟨Try.sizeOf170, Try.isAgg170, ⟨_, Try.zeroValue170, fun _ _ => ⟨.v _ rfl (wfB_iff rfl), trivial⟩⟩, Try.underlying170⟩,
  ⟨Try.sizeOf173, Try.isAgg173, ⟨_, Try.zeroValue173, fun _ _ => ⟨.v _ rfl (wfB_iff rfl), trivial⟩⟩, Try.underlying173⟩,
  ⟨Try.sizeOf184, Try.isAgg184, ⟨_, Try.zeroValue184, fun _ _ => ⟨.v _ rfl (wfB_iff rfl), .v _ rfl (wfB_iff rfl), .v _ rfl (wfB_iff rfl), .v _ rfl (wfB_iff rfl), trivial⟩⟩, st_ty Try.underlying184 rfl ⟨rfl, Try.sizeOf17, Try.isAgg17, rfl, Try.sizeOf17, Try.isAgg17, rfl, Try.sizeOf17, Try.isAgg17, rfl, Try.sizeOf9, Try.isAgg9, trivial⟩⟩, trivial⟩
theorem ty_okK (K mu co me : List Nat) : ΓOK Try.prog ⟨Ty, K, mu, co, me, false⟩ := tys_ok ty_all
theorem ty_okD : ΓOK Try.prog ⟨Ty, [], [], [], [], true⟩ := tys_ok ty_all
theorem ty_ok : ΓOK Try.prog ⟨Ty, [], [], [], [], false⟩ := tys_ok ty_all
theorem eqv60 (a0 b0 : Int) (a1 b1 : Int) (a2 b2 : Int) (a3 b3 : Int) (a4 b4 : Int) (a5 b5 : Int) (a6 b6 : Int) (x y : Operand) (w : World) : (do eqGuard .eql 60 x y (.agg #[.int .u8 a0, .int .i64 a1, .int .i64 a2, .int .i64 a3, .int .i64 a4, .int .i64 a5, .int .i64 a6]) (.agg #[.int .u8 b0, .int .i64 b1, .int .i64 b2, .int .i64 b3, .int .i64 b4, .int .i64 b5, .int .i64 b6]); binOp .eql 60 (.agg #[.int .u8 a0, .int .i64 a1, .int .i64 a2, .int .i64 a3, .int .i64 a4, .int .i64 a5, .int .i64 a6]) (.agg #[.int .u8 b0, .int .i64 b1, .int .i64 b2, .int .i64 b3, .int .i64 b4, .int .i64 b5, .int .i64 b6]) : Sem Value).run Try.prog w = .ok (.bool (decide (a0 = b0 ∧ a1 = b1 ∧ a2 = b2 ∧ a3 = b3 ∧ a4 = b4 ∧ a5 = b5 ∧ a6 = b6))) w := by
  by_cases h0 : a0 = b0
  · skip
    by_cases h1 : a1 = b1
    · skip
      by_cases h2 : a2 = b2
      · skip
        by_cases h3 : a3 = b3
        · skip
          by_cases h4 : a4 = b4
          · skip
            by_cases h5 : a5 = b5
            · skip
              by_cases h6 : a6 = b6
              · skip
                simp [go_sem, eqGuard, binOp, Op.equal, Op.maxDepth, h0, h1, h2, h3, h4, h5, h6]
              · simp [go_sem, eqGuard, binOp, Op.equal, Op.maxDepth, h0, h1, h2, h3, h4, h5, h6]
            · simp [go_sem, eqGuard, binOp, Op.equal, Op.maxDepth, h0, h1, h2, h3, h4, h5]
          · simp [go_sem, eqGuard, binOp, Op.equal, Op.maxDepth, h0, h1, h2, h3, h4]
        · simp [go_sem, eqGuard, binOp, Op.equal, Op.maxDepth, h0, h1, h2, h3]
      · simp [go_sem, eqGuard, binOp, Op.equal, Op.maxDepth, h0, h1, h2]
    · simp [go_sem, eqGuard, binOp, Op.equal, Op.maxDepth, h0, h1]
  · simp [go_sem, eqGuard, binOp, Op.equal, Op.maxDepth, h0]
theorem nev60 (a0 b0 : Int) (a1 b1 : Int) (a2 b2 : Int) (a3 b3 : Int) (a4 b4 : Int) (a5 b5 : Int) (a6 b6 : Int) (x y : Operand) (w : World) : (do eqGuard .neq 60 x y (.agg #[.int .u8 a0, .int .i64 a1, .int .i64 a2, .int .i64 a3, .int .i64 a4, .int .i64 a5, .int .i64 a6]) (.agg #[.int .u8 b0, .int .i64 b1, .int .i64 b2, .int .i64 b3, .int .i64 b4, .int .i64 b5, .int .i64 b6]); binOp .neq 60 (.agg #[.int .u8 a0, .int .i64 a1, .int .i64 a2, .int .i64 a3, .int .i64 a4, .int .i64 a5, .int .i64 a6]) (.agg #[.int .u8 b0, .int .i64 b1, .int .i64 b2, .int .i64 b3, .int .i64 b4, .int .i64 b5, .int .i64 b6]) : Sem Value).run Try.prog w = .ok (.bool (decide (¬ (a0 = b0 ∧ a1 = b1 ∧ a2 = b2 ∧ a3 = b3 ∧ a4 = b4 ∧ a5 = b5 ∧ a6 = b6)))) w := by
  by_cases h0 : a0 = b0
  · skip
    by_cases h1 : a1 = b1
    · skip
      by_cases h2 : a2 = b2
      · skip
        by_cases h3 : a3 = b3
        · skip
          by_cases h4 : a4 = b4
          · skip
            by_cases h5 : a5 = b5
            · skip
              by_cases h6 : a6 = b6
              · skip
                simp [go_sem, eqGuard, binOp, Op.equal, Op.maxDepth, h0, h1, h2, h3, h4, h5, h6]
              · simp [go_sem, eqGuard, binOp, Op.equal, Op.maxDepth, h0, h1, h2, h3, h4, h5, h6]
            · simp [go_sem, eqGuard, binOp, Op.equal, Op.maxDepth, h0, h1, h2, h3, h4, h5]
          · simp [go_sem, eqGuard, binOp, Op.equal, Op.maxDepth, h0, h1, h2, h3, h4]
        · simp [go_sem, eqGuard, binOp, Op.equal, Op.maxDepth, h0, h1, h2, h3]
      · simp [go_sem, eqGuard, binOp, Op.equal, Op.maxDepth, h0, h1, h2]
    · simp [go_sem, eqGuard, binOp, Op.equal, Op.maxDepth, h0, h1]
  · simp [go_sem, eqGuard, binOp, Op.equal, Op.maxDepth, h0]
theorem arr75 (a0 b0 : Int) (a1 b1 : Int) (w : World) : (Op.equalIn 10000 75 (.agg #[.int .i64 a0, .int .i64 a1]) (.agg #[.int .i64 b0, .int .i64 b1])).run Try.prog w = .ok (decide (a0 = b0 ∧ a1 = b1)) w := by
  have hc : Try.prog.cellsOf 3 = 1 := by kernel_rfl
  have ha := fun (xs ys) => run_equalIn_array (P := Try.prog) (w := w) 9999 xs ys Try.underlying75 (show Try.prog.info? 3 = some Try.t3 by kernel_rfl)
  rw [show (10000 : Nat) = 9999 + 1 from rfl, ha, hc, show List.range 2 = [0, 1] from rfl]
  by_cases h0 : a0 = b0
  · skip
    by_cases h1 : a1 = b1
    · skip
      simp [go_sem, Op.eqItems, part, h0, h1]
    · simp [go_sem, Op.eqItems, part, h0, h1]
  · simp [go_sem, Op.eqItems, part, h0]
theorem nev75 (a0 b0 : Int) (a1 b1 : Int) (x y : Operand) (w : World) : (do eqGuard .neq 75 x y (.agg #[.int .i64 a0, .int .i64 a1]) (.agg #[.int .i64 b0, .int .i64 b1]); binOp .neq 75 (.agg #[.int .i64 a0, .int .i64 a1]) (.agg #[.int .i64 b0, .int .i64 b1]) : Sem Value).run Try.prog w = .ok (.bool (decide (¬ (a0 = b0 ∧ a1 = b1)))) w := by
  have h := fun w => arr75 a0 b0 a1 b1 w
  rw [decide_not]
  generalize decide (a0 = b0 ∧ a1 = b1) = q at *
  simp [go_sem, eqGuard, binOp, Op.equal, Op.maxDepth, h]
end Sx
end Go.Proofs.Ytnjgfhgpicmklaa

namespace Go.Proofs.Ytnjgfhgpicmklaa
open Go.RowKit Go.Sort
theorem gcd_any (a b : Nat) (w : World) :
    Calls Try.prog 98 #[.int .u64 a, .int .u64 b] w fun e w' => e = .returned (.int .u64 (Nat.gcd a b : Nat)) ∧ Below w.heap.size w w' := by
  go_enter Try.func98, Try.ntmps98
  go_wp2
  go_loopw [0, 1] (fun x y wr => ∃ n m : Nat, x = .int .u64 n ∧ y = .int .u64 m ∧ Hid (Nat.gcd n m = Nat.gcd a b) ∧ Below w.heap.size w wr) (fun _ y _ => (intOf y).toNat)
  case atStart => exact ⟨a, b, rfl, rfl, Lib.hid rfl, Below.refl _ _⟩
  case round =>
    obtain ⟨n, m, rfl, rfl, hg, hb⟩ := hrel
    by_cases h0 : 0 < m
    · go_wp2
      go_quiet (fail)
      go_wp2
      have hlt := Nat.mod_lt n h0
      refine ⟨⟨m, n % m, rfl, by simp, Lib.hid ?_, below_drewN hb _⟩, ?_⟩
      · rw [← hg.out, Nat.gcd_comm n m, Nat.gcd_rec m n, Nat.gcd_comm]
      · show ((n : Int) % (m : Int)).toNat < ((m : Int)).toNat
        omega
    · go_wp2
      go_ret
      refine ⟨ret_int ?_, hb⟩
      rw [← hg.out]
      obtain rfl : m = 0 := by omega
      simp
theorem abs_any (n : Int) (w : World) (h0 : -9223372036854775808 ≤ n) (h1 : n ≤ 9223372036854775807) :
    Calls Try.prog 82 #[.int .i64 n] w fun e w' => e = .returned (.int .u64 (n.natAbs : Nat)) ∧ Below w.heap.size w w' := by
  have HW : Hid (n < 0 → IntKind.u64.wrap (-IntKind.u64.wrap n) = (n.natAbs : Nat)) := Lib.hid (by
    intro hn
    rw [IntKind.wrap_u64, IntKind.wrap_u64]
    omega)
  by_cases hn : n < 0
  · go_enter Try.func82, Try.ntmps82
    go_wp2
    go_ret
    exact ⟨ret_int (HW.out hn), Below.refl _ _⟩
  · go_enter Try.func82, Try.ntmps82
    go_wp2
    go_ret
    refine ⟨ret_int ?_, Below.refl _ _⟩
    omega
def chk (n d : Int) : Int := if d < 1 ∨ n = -9223372036854775808 ∨ 1 < Nat.gcd d.toNat n.natAbs then 8 else 0
theorem check_any (n d : Int) (w : World) (h0 : -9223372036854775808 ≤ n) (h1 : n ≤ 9223372036854775807) (h2 : -9223372036854775808 ≤ d) (h3 : d ≤ 9223372036854775807) :
    Calls Try.prog 78 #[.agg #[.int .i64 n, .int .i64 d]] w fun e w' => e = .returned (.int .i64 (chk n d)) ∧ Below w.heap.size w w' := by
  by_cases hd : d < 1
  · have hch : chk n d = 8 := by unfold chk; rw [if_pos (.inl hd)]
    rw [hch]
    go_enter Try.func78, Try.ntmps78
    go_wp2
    refine wp_region_quiet_below (by kernel_rfl) (by kernel_rfl) ?_
    repeat (go_big_quiet_step (fail))
    refine wpQuiet_nil ?_
    intro _ hw'
    obtain ⟨⟨dq, osq⟩, hw''⟩ := hw'
    subst hw''
    go_wp2
    go_ret
    exact ⟨rfl, below_reg (below_alloc (Below.refl _ _) _) _ _⟩
  · have hdf : decide (d < 1) = false := by simpa using hd
    by_cases hm : n = -9223372036854775808
    · have hch : chk n d = 8 := by unfold chk; rw [if_pos (.inr (.inl hm))]
      rw [hch]
      have hmb : (n == -9223372036854775808) = true := by simpa using hm
      clear hm
      go_enter Try.func78, Try.ntmps78
      go_wp2
      refine wp_region_quiet_below (by kernel_rfl) (by kernel_rfl) ?_
      repeat (go_big_quiet_step (fail))
      refine wpQuiet_nil ?_
      intro _ hw'
      obtain ⟨⟨dq, osq⟩, hw''⟩ := hw'
      subst hw''
      go_wp2
      go_ret
      exact ⟨rfl, below_reg (below_alloc (Below.refl _ _) _) _ _⟩
    · have hmb : (n == -9223372036854775808) = false := by simpa using hm
      obtain ⟨e, rfl⟩ := Int.eq_ofNat_of_zero_le (show 0 ≤ d by omega)
      by_cases hg : 1 < Nat.gcd e n.natAbs
      · have hch : chk n e = 8 := by unfold chk; rw [if_pos (.inr (.inr (by simpa using hg)))]
        rw [hch]
        clear hm
        go_enter Try.func78, Try.ntmps78
        go_wp2
        refine wp_region_quiet_below (by kernel_rfl) (by kernel_rfl) ?_
        repeat (go_big_quiet_step (first | (go_at_call 82; (with_reducible refine Calls.regrown_of (abs_any _ _ ?_ ?_)); omega; omega) | (go_at_call 98; (with_reducible refine Calls.regrown_of (gcd_any _ _ _)))))
        refine wpQuiet_nil ?_
        intro _ hw'
        obtain ⟨⟨dq, osq⟩, hw''⟩ := hw'
        subst hw''
        go_wp2
        go_ret
        exact ⟨rfl, below_reg (below_alloc (Below.refl _ _) _) _ _⟩
      · have hch : chk n e = 0 := by unfold chk; rw [if_neg (by rintro (h | h | h) <;> first | omega | exact hm h | exact hg (by simpa using h))]
        rw [hch]
        clear hm
        go_enter Try.func78, Try.ntmps78
        go_wp2
        refine wp_region_quiet_below (by kernel_rfl) (by kernel_rfl) ?_
        repeat (go_big_quiet_step (first | (go_at_call 82; (with_reducible refine Calls.regrown_of (abs_any _ _ ?_ ?_)); omega; omega) | (go_at_call 98; (with_reducible refine Calls.regrown_of (gcd_any _ _ _)))))
        refine wpQuiet_nil ?_
        intro _ hw'
        obtain ⟨⟨dq, osq⟩, hw''⟩ := hw'
        subst hw''
        go_wp2
        go_ret
        exact ⟨rfl, below_reg (below_alloc (Below.refl _ _) _) _ _⟩
end Go.Proofs.Ytnjgfhgpicmklaa

namespace Go.Proofs
open Go.Shelf
def Try.lays264_ren : Go.Shelf.Ren := ⟨fun | 264 => 81 | n => n, fun | 53 => 112 | 46 => 152 | n => n, fun | n => n⟩
theorem Try.lays264 : Go.Proofs.Lays.n264 Try.prog Try.lays264_ren := {
  mixed := by kernel_rfl
  f264 := Try.func81.trans (congrArg some (by kernel_rfl))
  t46 := Try.underlying152
  a46 := Try.isAgg152
  z46 := Try.sizeOf152
  v46 := Try.zeroValue152
  t53 := Try.underlying112
  a53 := Try.isAgg112
  z53 := Try.sizeOf112
  v53 := Try.zeroValue112 }
open Go.RowKit Go.Lib in
theorem Try.bits_Mul64 (x y : Nat) (hx : x < 18446744073709551616) (hy : y < 18446744073709551616) (w : World) :
    Calls Try.prog 81 #[.int .u64 x, .int .u64 y] w fun e w' => e = .returned (.tuple #[.int .u64 ((x * y / 18446744073709551616 : Nat) : Int), .int .u64 ((x * y % 18446744073709551616 : Nat) : Int)]) ∧ w' = w := Any.bits_Mul64 Try.lays264 x y hx hy w
end Go.Proofs

namespace Go.Proofs.Ytnjgfhgpicmklaa
open Go.RowKit Go.Sort
def askd (n d : Int) : Int := if chk n d ≠ 0 then chk n d else if 1073741824 < n.natAbs ∨ 1024 < d then 2 else 0
theorem chk_08 (n d : Int) : chk n d = 0 ∨ chk n d = 8 := by unfold chk; split <;> simp
theorem asked_any (n d : Int) (w : World) (h0 : -9223372036854775808 ≤ n) (h1 : n ≤ 9223372036854775807) (h2 : -9223372036854775808 ≤ d) (h3 : d ≤ 9223372036854775807) :
    Calls Try.prog 64 #[.agg #[.int .i64 n, .int .i64 d]] w fun e w' => e = .returned (.int .i64 (askd n d)) ∧ Below w.heap.size w w' := by
  cases hn : decide ((1073741824 : Int) < (n.natAbs : Nat)) <;> cases hd : decide (1024 < d)
  all_goals
    go_enter Try.func64, Try.ntmps64
    go_wp2_with (first | (go_at_call 78; (with_reducible refine cmono ?_ (check_any _ _ _ ?_ ?_ ?_ ?_)); rotate_left; omega; omega; omega; omega; rintro e w' ⟨rfl, hbc0⟩; obtain ⟨⟨dc0, osc0⟩, rfl⟩ := regrown_of_below hbc0; clear hbc0) | (go_at_call 82; (with_reducible refine cmono ?_ (abs_any _ _ ?_ ?_)); rotate_left; omega; omega; rintro e w' ⟨rfl, hbc1⟩; obtain ⟨⟨dc1, osc1⟩, rfl⟩ := regrown_of_below hbc1; clear hbc1) | ((with_reducible refine wp_region_quiet_below ?_ ?_ ?_); kernel_rfl; kernel_rfl; (repeat (go_big_quiet_step (first | (go_at_call 78; (with_reducible refine Calls.regrown_of (check_any _ _ _ ?_ ?_ ?_ ?_)); omega; omega; omega; omega) | (go_at_call 82; (with_reducible refine Calls.regrown_of (abs_any _ _ ?_ ?_)); omega; omega)))); refine wpQuiet_nil ?_; intro _ hw'; obtain ⟨⟨dq, osq⟩, hw''⟩ := hw'; subst hw''))
    all_goals (go_ret; refine ⟨ret_int ?_, (by repeat (first | exact Below.refl _ _ | refine below_reg ?_ _ _ | refine below_alloc ?_ _ | exact below_drewN ?_ _ | assumption))⟩)
    all_goals (simp only [bne_iff_ne, bne_eq_false_iff_eq, decide_eq_true_eq, decide_eq_false_iff_not, ne_eq] at *)
    all_goals (unfold askd; (first | rw [if_pos (by omega)] | rw [if_neg (by omega)]))
    all_goals (first | rfl | (rw [if_pos (by omega)]; done) | (rw [if_neg (by omega)]; done))
def bth (n d m e : Int) : Int := if chk n d = 0 then chk m e else 8
theorem both_any (n d m e : Int) (w : World) (h0 : -9223372036854775808 ≤ n) (h1 : n ≤ 9223372036854775807) (h2 : -9223372036854775808 ≤ d) (h3 : d ≤ 9223372036854775807)
    (k0 : -9223372036854775808 ≤ m) (k1 : m ≤ 9223372036854775807) (k2 : -9223372036854775808 ≤ e) (k3 : e ≤ 9223372036854775807) :
    Calls Try.prog 55 #[.agg #[.int .i64 n, .int .i64 d], .agg #[.int .i64 m, .int .i64 e]] w fun en w' => en = .returned (.int .i64 (bth n d m e)) ∧ Below w.heap.size w w' := by
  go_enter Try.func55, Try.ntmps55
  go_wp2_with (first | (go_at_call 78; (with_reducible refine cmono ?_ (check_any _ _ _ ?_ ?_ ?_ ?_)); rotate_left; omega; omega; omega; omega; rintro e w' ⟨rfl, hbc0⟩; obtain ⟨⟨dc0, osc0⟩, rfl⟩ := regrown_of_below hbc0; clear hbc0) | ((with_reducible refine wp_region_quiet_below ?_ ?_ ?_); kernel_rfl; kernel_rfl; (repeat (go_big_quiet_step (first | (go_at_call 78; (with_reducible refine Calls.regrown_of (check_any _ _ _ ?_ ?_ ?_ ?_)); omega; omega; omega; omega)))); refine wpQuiet_nil ?_; intro _ hw'; obtain ⟨⟨dq, osq⟩, hw''⟩ := hw'; subst hw''))
  go_ret
  refine ⟨ret_int ?_, (by repeat (first | exact Below.refl _ _ | refine below_reg ?_ _ _ | refine below_alloc ?_ _ | exact below_drewN ?_ _ | assumption))⟩
  unfold bth
  have c1 := chk_08 n d
  have c2 := chk_08 m e
  rcases c1 with c1 | c1 <;> rcases c2 with c2 | c2 <;> rw [c1, c2] <;> rfl
def cmpN (a b : Int) : Int := if a < b then -1 else if b < a then 1 else 0
theorem cmpi_any (n m : Int) (w : World) :
    Calls Try.prog 56 #[.int .i64 n, .int .i64 m] w fun en w' => en = .returned (.int .i64 (cmpN n m)) ∧ Below w.heap.size w w' := by
  go_enter Try.func56, Try.ntmps56
  go_wp2_with (first | go_in | ((with_reducible refine wp_region_quiet_below ?_ ?_ ?_); kernel_rfl; kernel_rfl; (repeat (go_big_quiet_step (fail))); refine wpQuiet_nil ?_; intro _ hw'; obtain ⟨⟨dq, osq⟩, hw''⟩ := hw'; subst hw''))
  all_goals (go_ret; refine ⟨ret_int ?_, (by repeat (first | exact Below.refl _ _ | refine below_reg ?_ _ _ | refine below_alloc ?_ _ | exact below_drewN ?_ _ | assumption))⟩)
  all_goals (unfold cmpN; (repeat' split) <;> omega)
theorem cmpu_any (n m : Int) (w : World) :
    Calls Try.prog 80 #[.int .u64 n, .int .u64 m] w fun en w' => en = .returned (.int .i64 (cmpN n m)) ∧ Below w.heap.size w w' := by
  go_enter Try.func80, Try.ntmps80
  go_wp2_with (first | go_in | ((with_reducible refine wp_region_quiet_below ?_ ?_ ?_); kernel_rfl; kernel_rfl; (repeat (go_big_quiet_step (fail))); refine wpQuiet_nil ?_; intro _ hw'; obtain ⟨⟨dq, osq⟩, hw''⟩ := hw'; subst hw''))
  all_goals (go_ret; refine ⟨ret_int ?_, (by repeat (first | exact Below.refl _ _ | refine below_reg ?_ _ _ | refine below_alloc ?_ _ | exact below_drewN ?_ _ | assumption))⟩)
  all_goals (unfold cmpN; (repeat' split) <;> omega)
theorem times_any (a b : Int) (w : World)  (h0 : -9223372036854775808 ≤ a) (h1 : a ≤ 9223372036854775807) (h2 : -9223372036854775808 ≤ b) (h3 : b ≤ 9223372036854775807) :
    Calls Try.prog 58 #[.int .i64 a, .int .i64 b] w fun en w' => en = .returned (.agg #[.bool (decide (a < 0) != decide (b < 0)), .int .u64 (a.natAbs * b.natAbs / 18446744073709551616 : Nat), .int .u64 (a.natAbs * b.natAbs % 18446744073709551616 : Nat)]) ∧ Below w.heap.size w w' := by
  go_enter Try.func58, Try.ntmps58
  go_wp2_with (first | (go_at_call 81; refine (Try.bits_Mul64 _ _ (by omega) (by omega) _).mono ?_; rintro e w' ⟨rfl, rfl⟩) | (go_at_call 82; (with_reducible refine cmono ?_ (abs_any _ _ ?_ ?_)); rotate_left; omega; omega; rintro e w' ⟨rfl, hbc0⟩; obtain ⟨⟨dc0, osc0⟩, rfl⟩ := regrown_of_below hbc0; clear hbc0) | ((with_reducible refine wp_region_quiet_below ?_ ?_ ?_); kernel_rfl; kernel_rfl; (repeat (go_big_quiet_step (first | (go_at_call 82; (with_reducible refine Calls.regrown_of (abs_any _ _ ?_ ?_)); omega; omega)))); refine wpQuiet_nil ?_; intro _ hw'; obtain ⟨⟨dq, osq⟩, hw''⟩ := hw'; subst hw''))
  refine bodyPost_ret (v := .agg #[.bool (decide (a < 0) != decide (b < 0)), .int .u64 (a.natAbs * b.natAbs / 18446744073709551616 : Nat), .int .u64 (a.natAbs * b.natAbs % 18446744073709551616 : Nat)]) (by simp [results, Try.results58, go_sem]; cases decide (a < 0) <;> cases decide (b < 0) <;> rfl) rfl ⟨rfl, (by repeat (first | exact Below.refl _ _ | refine below_reg ?_ _ _ | refine below_alloc ?_ _ | exact below_drewN ?_ _ | assumption))⟩
theorem cmpN_hi (a b c d : Nat) (hb : b < 18446744073709551616) (hd : d < 18446744073709551616) :
    cmpN ((a * 18446744073709551616 + b : Nat) : Int) ((c * 18446744073709551616 + d : Nat) : Int) = if cmpN (a : Int) c != 0 then cmpN (a : Int) c else cmpN (b : Int) d := by
  unfold cmpN
  (repeat' split) <;> first | rfl | omega | (exfalso; simp_all; done) | (exfalso; simp_all; omega)
theorem compare_any (x y : Bool) (a b c d : Nat) (w : World) (hb : b < 18446744073709551616) (hd : d < 18446744073709551616) :
    Calls Try.prog 57 #[.agg #[.bool x, .int .u64 a, .int .u64 b], .agg #[.bool y, .int .u64 c, .int .u64 d]] w fun en w' => en = .returned (.int .i64 (cmpN ((a * 18446744073709551616 + b : Nat) : Int) ((c * 18446744073709551616 + d : Nat) : Int))) ∧ Below w.heap.size w w' := by
  go_enter Try.func57, Try.ntmps57
  go_wp2_with (first | (go_at_call 80; (with_reducible refine cmono ?_ (cmpu_any _ _ _)); rotate_left; rintro e w' ⟨rfl, hbc0⟩; obtain ⟨⟨dc0, osc0⟩, rfl⟩ := regrown_of_below hbc0; clear hbc0) | ((with_reducible refine wp_region_quiet_below ?_ ?_ ?_); kernel_rfl; kernel_rfl; (repeat (go_big_quiet_step (first | (go_at_call 80; (with_reducible refine Calls.regrown_of (cmpu_any _ _ _)))))); refine wpQuiet_nil ?_; intro _ hw'; obtain ⟨⟨dq, osq⟩, hw''⟩ := hw'; subst hw''))
  all_goals (go_ret; refine ⟨ret_int ?_, (by repeat (first | exact Below.refl _ _ | refine below_reg ?_ _ _ | refine below_alloc ?_ _ | exact below_drewN ?_ _ | assumption))⟩)
  all_goals (rw [cmpN_hi a b c d hb hd]; simp [*])
end Go.Proofs.Ytnjgfhgpicmklaa

namespace Go.Proofs.Ytnjgfhgpicmklaa
open Go.RowKit Go.Sort
end Go.Proofs.Ytnjgfhgpicmklaa

namespace Go.Proofs.Ytnjgfhgpicmklaa
end Go.Proofs.Ytnjgfhgpicmklaa

namespace Go.Proofs.Ytnjgfhgpicmklaa
open Go.RowKit Go.Sort
end Go.Proofs.Ytnjgfhgpicmklaa

namespace Go.Proofs.Ytnjgfhgpicmklaa
open Go.RowKit Go.Sort
def buildN (neg : Bool) (m d : Nat) : Int × Int × Int :=
  if m ≤ 9223372036854775807 ∧ d ≤ 9223372036854775807 then (if neg then -(m : Int) else m, d, 0) else (0, 0, 16)
end Go.Proofs.Ytnjgfhgpicmklaa

namespace Go.Proofs.Ytnjgfhgpicmklaa
open Go.RowKit Go.Sort
def Two (hi lo m : Nat) : Prop := hi = m / 18446744073709551616 ∧ lo = m % 18446744073709551616
theorem two_mk (m : Nat) : ∃ hi lo, Two hi lo m := ⟨_, _, rfl, rfl⟩
theorem Two.eq {hi lo m : Nat} (h : Two hi lo m) : hi * 18446744073709551616 + lo = m := by
  obtain ⟨rfl, rfl⟩ := h
  have := Nat.div_add_mod m 18446744073709551616
  rw [Nat.mul_comm] at this
  exact this
theorem Two.lo {hi lo m : Nat} (h : Two hi lo m) : lo < 18446744073709551616 := by
  obtain ⟨rfl, rfl⟩ := h
  exact Nat.mod_lt _ (by decide)
theorem Two.hi {hi lo m : Nat} (h : Two hi lo m) (k : Nat) (hm : m < k * 18446744073709551616) : hi < k := by
  obtain ⟨rfl, rfl⟩ := h
  rw [Nat.div_lt_iff_lt_mul (by decide)]
  exact hm
theorem times_two (a : Int) (x hi lo : Nat) (h : Two hi lo (a.natAbs * x)) (w : World) (h0 : -9223372036854775808 ≤ a) (h1 : a ≤ 9223372036854775807) (h3 : x ≤ 9223372036854775807) :
    Calls Try.prog 58 #[.int .i64 a, .int .i64 x] w fun en w' => en = .returned (.agg #[.bool (decide (a < 0)), .int .u64 hi, .int .u64 lo]) ∧ Below w.heap.size w w' := by
  refine (times_any a x w h0 h1 (by omega) (by omega)).mono fun e w' ⟨he, hb⟩ => ⟨?_, hb⟩
  obtain ⟨rfl, rfl⟩ := h
  have hx : decide ((x : Int) < 0) = false := by simp
  rw [he, hx]
  simp
theorem bth_08 (n d m e : Int) : bth n d m e = 0 ∨ bth n d m e = 8 := by unfold bth; split <;> simp [chk_08]
theorem chk_ok {n d : Int} (h : chk n d = 0) : 1 ≤ d ∧ n ≠ -9223372036854775808 ∧ Nat.gcd d.toNat n.natAbs ≤ 1 := by
  unfold chk at h
  split at h
  · omega
  · omega
theorem bth_ok {n d m e : Int} (h : bth n d m e = 0) : chk n d = 0 ∧ chk m e = 0 := by
  unfold bth at h
  split at h
  · exact ⟨by assumption, h⟩
  · omega
end Go.Proofs.Ytnjgfhgpicmklaa

namespace Go.Proofs.Ytnjgfhgpicmklaa
open Go.RowKit
end Go.Proofs.Ytnjgfhgpicmklaa

namespace Go.Proofs.Ytnjgfhgpicmklaa
open Go.RowKit Go.Sort
def makeV (n d : Int) : Int × Int × Int :=
  if d = 0 then (0, 0, 26) else buildN (!(decide (n < 0) == decide (d < 0))) (n.natAbs / Nat.gcd n.natAbs d.natAbs) (d.natAbs / Nat.gcd n.natAbs d.natAbs)
def cmpV (p q r t : Int) : Int × Int := if bth p q r t = 0 then (cmpN (p * t) (r * q), 0) else (0, 8)
theorem compare_two (x y : Bool) (a b c d m n : Nat) (h1 : Two a b m) (h2 : Two c d n) (w : World) :
    Calls Try.prog 57 #[.agg #[.bool x, .int .u64 a, .int .u64 b], .agg #[.bool y, .int .u64 c, .int .u64 d]] w fun en w' => en = .returned (.int .i64 (cmpN (m : Int) (n : Int))) ∧ Below w.heap.size w w' := by
  refine (compare_any x y a b c d w h1.lo h2.lo).mono fun e w' ⟨he, hb⟩ => ⟨?_, hb⟩
  rw [he, h1.eq, h2.eq]
theorem cmp_any (p q r t : Int) (w : World) (p0 : -9223372036854775808 ≤ p) (p1 : p ≤ 9223372036854775807) (q0 : -9223372036854775808 ≤ q) (q1 : q ≤ 9223372036854775807)
    (r0 : -9223372036854775808 ≤ r) (r1 : r ≤ 9223372036854775807) (t0 : -9223372036854775808 ≤ t) (t1 : t ≤ 9223372036854775807) :
    Calls Try.prog 39 #[.agg #[.int .i64 p, .int .i64 q], .agg #[.int .i64 r, .int .i64 t]] w fun e w' =>
      e = .returned (.tuple #[.int .i64 (cmpV p q r t).1, .int .i64 (cmpV p q r t).2]) ∧ Below w.heap.size w w' := by
  unfold cmpV
  rcases bth_08 p q r t with hv | hv
  · rw [if_pos hv]
    obtain ⟨h1, h2⟩ := bth_ok hv
    obtain ⟨a1, a2, _⟩ := chk_ok h1
    obtain ⟨b1, b2, _⟩ := chk_ok h2
    obtain ⟨Q, rfl⟩ := Int.eq_ofNat_of_zero_le (show 0 ≤ q by omega)
    obtain ⟨T, rfl⟩ := Int.eq_ofNat_of_zero_le (show 0 ≤ t by omega)
    have HB := both_any p Q r T
    rw [hv] at HB
    have HBB := Lib.hid HB
    clear HB hv h1 h2
    obtain ⟨c1, c2, hc⟩ := two_mk (p.natAbs * T)
    obtain ⟨d1, d2, hd⟩ := two_mk (r.natAbs * Q)
    have T1 := Lib.hid (times_two p T c1 c2 hc)
    have T2 := Lib.hid (times_two r Q d1 d2 hd)
    obtain ⟨k, hk⟩ : ∃ k, k = cmpN ((p.natAbs * T : Nat) : Int) ((r.natAbs * Q : Nat) : Int) := ⟨_, rfl⟩
    have C1 := compare_two (decide (p < 0)) (decide (r < 0)) c1 c2 d1 d2 _ _ hc hd
    rw [← hk] at C1
    have C1H := Lib.hid C1
    have HK := Lib.hid hk
    have hk1 : -1 ≤ k ∧ k ≤ 1 := by rw [hk]; unfold cmpN; (repeat' split) <;> omega
    obtain ⟨hk1, hk2⟩ := hk1
    clear C1 hk hc hd
    cases hp : decide (p < 0) <;> cases hr : decide (r < 0)
    all_goals rw [hp, hr] at C1H
    all_goals rw [hp] at T1
    all_goals rw [hr] at T2
    all_goals
      go_enter Try.func39, Try.ntmps39
      go_wp2_with (first | (go_at_call 55; (with_reducible refine cmono ?_ (HBB.out _ ?_ ?_ ?_ ?_ ?_ ?_ ?_ ?_)); rotate_left; omega; omega; omega; omega; omega; omega; omega; omega; rintro e w' ⟨rfl, hbc0⟩; obtain ⟨⟨dc0, osc0⟩, rfl⟩ := regrown_of_below hbc0; clear hbc0) | (go_at_call 56; (with_reducible refine cmono ?_ (cmpi_any _ _ _)); rotate_left; rintro e w' ⟨rfl, hbc1⟩; obtain ⟨⟨dc1, osc1⟩, rfl⟩ := regrown_of_below hbc1; clear hbc1) | (go_at_call 58; (with_reducible refine cmono ?_ (T1.out _ ?_ ?_ ?_)); rotate_left; omega; omega; omega; rintro e w' ⟨rfl, hbc2⟩; obtain ⟨⟨dc2, osc2⟩, rfl⟩ := regrown_of_below hbc2; clear hbc2) | (go_at_call 58; (with_reducible refine cmono ?_ (T2.out _ ?_ ?_ ?_)); rotate_left; omega; omega; omega; rintro e w' ⟨rfl, hbc3⟩; obtain ⟨⟨dc3, osc3⟩, rfl⟩ := regrown_of_below hbc3; clear hbc3) | (go_at_call 57; (with_reducible refine cmono ?_ (C1H.out _)); rotate_left; rintro e w' ⟨rfl, hbc4⟩; obtain ⟨⟨dc4, osc4⟩, rfl⟩ := regrown_of_below hbc4; clear hbc4) | ((with_reducible refine wp_region_quiet_below ?_ ?_ ?_); kernel_rfl; kernel_rfl; (repeat (go_big_quiet_step (first | (go_at_call 55; (with_reducible refine Calls.regrown_of (HBB.out _ ?_ ?_ ?_ ?_ ?_ ?_ ?_ ?_)); omega; omega; omega; omega; omega; omega; omega; omega) | (go_at_call 56; (with_reducible refine Calls.regrown_of (cmpi_any _ _ _))) | (go_at_call 58; (with_reducible refine Calls.regrown_of (T1.out _ ?_ ?_ ?_)); omega; omega; omega) | (go_at_call 58; (with_reducible refine Calls.regrown_of (T2.out _ ?_ ?_ ?_)); omega; omega; omega) | (go_at_call 57; (with_reducible refine Calls.regrown_of (C1H.out _)))))); refine wpQuiet_nil ?_; intro _ hw'; obtain ⟨⟨dq, osq⟩, hw''⟩ := hw'; subst hw''))
    all_goals go_ret2
    all_goals refine ⟨ret_of ?_, (by repeat (first | exact Below.refl _ _ | refine below_reg ?_ _ _ | refine below_alloc ?_ _ | exact below_drewN ?_ _ | assumption))⟩
    · have hp' : 0 ≤ p := by simpa using hp
      have hr' : 0 ≤ r := by simpa using hr
      obtain ⟨a, rfl⟩ := Int.eq_ofNat_of_zero_le hp'
      obtain ⟨b, rfl⟩ := Int.eq_ofNat_of_zero_le hr'
      show Value.tuple #[.int .i64 k, .int .i64 0] = _
      rw [HK.out]; simp
    · have hp' : 0 ≤ p := by simpa using hp
      have hr' : r < 0 := by simpa using hr
      have e : cmpN p r = cmpN (p * T) (r * Q) := by
        have g1 : 0 ≤ p * (T : Int) := Int.mul_nonneg hp' (by omega)
        have g2 : r * (Q : Int) < 0 := Int.mul_neg_of_neg_of_pos hr' (by omega)
        unfold cmpN; (repeat' split) <;> omega
      rw [← e]; rfl
    · have hp' : p < 0 := by simpa using hp
      have hr' : 0 ≤ r := by simpa using hr
      have e : cmpN p r = cmpN (p * T) (r * Q) := by
        have g1 : 0 ≤ r * (Q : Int) := Int.mul_nonneg hr' (by omega)
        have g2 : p * (T : Int) < 0 := Int.mul_neg_of_neg_of_pos hp' (by omega)
        unfold cmpN; (repeat' split) <;> omega
      rw [← e]; rfl
    · have hp' : p < 0 := by simpa using hp
      have hr' : r < 0 := by simpa using hr
      obtain ⟨a, rfl⟩ : ∃ a : Nat, p = -(a : Int) := ⟨p.natAbs, by omega⟩
      obtain ⟨b, rfl⟩ : ∃ b : Nat, r = -(b : Int) := ⟨r.natAbs, by omega⟩
      show Value.tuple #[.int .i64 (-k), .int .i64 0] = _
      rw [HK.out]
      have e : -cmpN (((-(a : Int)).natAbs * T : Nat) : Int) (((-(b : Int)).natAbs * Q : Nat) : Int) = cmpN (-(a : Int) * T) (-(b : Int) * Q) := by
        have g1 : -(a : Int) * (T : Int) = -((a * T : Nat) : Int) := by simp [Int.neg_mul]
        have g2 : -(b : Int) * (Q : Int) = -((b * Q : Nat) : Int) := by simp [Int.neg_mul]
        rw [g1, g2, Int.natAbs_neg, Int.natAbs_neg, Int.natAbs_natCast, Int.natAbs_natCast]
        generalize a * T = x
        generalize b * Q = y
        unfold cmpN; (repeat' split) <;> omega
      rw [e]
  · rw [if_neg (by omega)]
    have HB := both_any p q r t
    rw [hv] at HB
    have HBB := Lib.hid HB
    clear HB hv
    go_enter Try.func39, Try.ntmps39
    go_wp2_with (first | (go_at_call 55; (with_reducible refine cmono ?_ (HBB.out _ ?_ ?_ ?_ ?_ ?_ ?_ ?_ ?_)); rotate_left; omega; omega; omega; omega; omega; omega; omega; omega; rintro e w' ⟨rfl, hbc0⟩; obtain ⟨⟨dc0, osc0⟩, rfl⟩ := regrown_of_below hbc0; clear hbc0) | ((with_reducible refine wp_region_quiet_below ?_ ?_ ?_); kernel_rfl; kernel_rfl; (repeat (go_big_quiet_step (first | (go_at_call 55; (with_reducible refine Calls.regrown_of (HBB.out _ ?_ ?_ ?_ ?_ ?_ ?_ ?_ ?_)); omega; omega; omega; omega; omega; omega; omega; omega)))); refine wpQuiet_nil ?_; intro _ hw'; obtain ⟨⟨dq, osq⟩, hw''⟩ := hw'; subst hw''))
    go_ret2
    exact ⟨rfl, (by repeat (first | exact Below.refl _ _ | refine below_reg ?_ _ _ | refine below_alloc ?_ _ | exact below_drewN ?_ _ | assumption))⟩
end Go.Proofs.Ytnjgfhgpicmklaa

namespace Go.Proofs.Ytnjgfhgpicmklaa
open Go.RowKit Go.Sort
theorem rcommon_any (a b : Nat) (w : World) :
    Calls Try.prog 117 #[.int .u64 a, .int .u64 b] w fun e w' => e = .returned (.int .u64 (Nat.gcd a b : Nat)) ∧ Below w.heap.size w w' := by
  go_enter Try.func117, Try.ntmps117
  go_wp2
  go_loopw [0, 1] (fun x y wr => ∃ n m : Nat, x = .int .u64 n ∧ y = .int .u64 m ∧ Hid (Nat.gcd n m = Nat.gcd a b) ∧ Below w.heap.size w wr) (fun _ y _ => (intOf y).toNat)
  case atStart => exact ⟨a, b, rfl, rfl, Lib.hid rfl, Below.refl _ _⟩
  case round =>
    obtain ⟨n, m, rfl, rfl, hg, hb⟩ := hrel
    by_cases h0 : 0 < m
    · have hz : ((m : Int) != 0) = true := by simp; omega
      have hz2 : ((m : Int) == 0) = false := by simp; omega
      go_wp2
      go_quiet (fail)
      go_wp2
      have hlt := Nat.mod_lt n h0
      refine ⟨⟨m, n % m, rfl, by simp, Lib.hid ?_, below_drewN hb _⟩, ?_⟩
      · rw [← hg.out, Nat.gcd_comm n m, Nat.gcd_rec m n, Nat.gcd_comm]
      · show ((n : Int) % (m : Int)).toNat < ((m : Int)).toNat
        omega
    · obtain rfl : m = 0 := by omega
      go_wp2
      go_ret
      refine ⟨ret_int ?_, hb⟩
      rw [← hg.out]
      simp
theorem rsize_any (n : Int) (w : World) (h0 : -9223372036854775808 ≤ n) (h1 : n ≤ 9223372036854775807) :
    Calls Try.prog 84 #[.int .i64 n] w fun e w' => e = .returned (.int .u64 (n.natAbs : Nat)) ∧ Below w.heap.size w w' := by
  by_cases hn : n < 0
  · go_enter Try.func84, Try.ntmps84
    go_wp2_with (first | ((with_reducible refine wp_region_quiet_below ?_ ?_ ?_); kernel_rfl; kernel_rfl; (repeat (go_big_quiet_step (fail))); refine wpQuiet_nil ?_; intro _ hw'; obtain ⟨⟨dq, osq⟩, hw''⟩ := hw'; subst hw''))
    go_ret
    refine ⟨ret_int ?_, Below.refl _ _⟩
    show -(n + 1) + 1 = _
    omega
  · go_enter Try.func84, Try.ntmps84
    go_wp2_with (first | ((with_reducible refine wp_region_quiet_below ?_ ?_ ?_); kernel_rfl; kernel_rfl; (repeat (go_big_quiet_step (fail))); refine wpQuiet_nil ?_; intro _ hw'; obtain ⟨⟨dq, osq⟩, hw''⟩ := hw'; subst hw''))
    go_ret
    refine ⟨ret_int ?_, Below.refl _ _⟩
    omega
theorem chk_alt (n d : Int) (hd : 1 ≤ d) (hn : n ≠ -9223372036854775808) : chk n d = if Nat.gcd n.natAbs d.toNat ≤ 1 then 0 else 8 := by
  unfold chk
  rw [Nat.gcd_comm]
  split <;> split <;> first | rfl | omega
theorem rcheck_any (n d : Int) (w : World) (h0 : -9223372036854775808 ≤ n) (h1 : n ≤ 9223372036854775807) (h2 : -9223372036854775808 ≤ d) (h3 : d ≤ 9223372036854775807) :
    Calls Try.prog 96 #[.agg #[.int .i64 n, .int .i64 d]] w fun e w' => e = .returned (.int .i64 (chk n d)) ∧ Below w.heap.size w w' := by
  by_cases hd : d < 1
  · have hch : chk n d = 8 := by unfold chk; rw [if_pos (.inl hd)]
    rw [hch]
    go_enter Try.func96, Try.ntmps96
    go_wp2_with (first | ((with_reducible refine wp_region_quiet_below ?_ ?_ ?_); kernel_rfl; kernel_rfl; (repeat (go_big_quiet_step (fail))); refine wpQuiet_nil ?_; intro _ hw'; obtain ⟨⟨dq, osq⟩, hw''⟩ := hw'; subst hw''))
    go_ret
    exact ⟨rfl, (by repeat (first | exact Below.refl _ _ | refine below_reg ?_ _ _ | refine below_alloc ?_ _ | exact below_drewN ?_ _ | assumption))⟩
  · have hdf : decide (d < 1) = false := by simpa using hd
    by_cases hm : n = -9223372036854775808
    · have hch : chk n d = 8 := by unfold chk; rw [if_pos (.inr (.inl hm))]
      rw [hch]
      have hmb : (n == -9223372036854775808) = true := by simpa using hm
      clear hm
      go_enter Try.func96, Try.ntmps96
      go_wp2_with (first | ((with_reducible refine wp_region_quiet_below ?_ ?_ ?_); kernel_rfl; kernel_rfl; (repeat (go_big_quiet_step (fail))); refine wpQuiet_nil ?_; intro _ hw'; obtain ⟨⟨dq, osq⟩, hw''⟩ := hw'; subst hw''))
      go_ret
      exact ⟨rfl, (by repeat (first | exact Below.refl _ _ | refine below_reg ?_ _ _ | refine below_alloc ?_ _ | exact below_drewN ?_ _ | assumption))⟩
    · have hmb : (n == -9223372036854775808) = false := by simpa using hm
      rw [chk_alt n d (by omega) hm]
      obtain ⟨e, rfl⟩ := Int.eq_ofNat_of_zero_le (show 0 ≤ d by omega)
      rw [Int.toNat_natCast]
      obtain ⟨g, hg⟩ : ∃ g, g = Nat.gcd n.natAbs e := ⟨_, rfl⟩
      have HG := fun w => rcommon_any n.natAbs e w
      have hg0 : 0 < g := by rw [hg]; exact Nat.gcd_pos_of_pos_right _ (by omega)
      rw [← hg] at HG ⊢
      have HGG := Lib.hid HG
      clear hg HG hm
      cases hb : ((g : Int) != 1)
      · rw [if_pos (by simp at hb; omega)]
        go_enter Try.func96, Try.ntmps96
        go_wp2_with (first | (go_at_call 84; (with_reducible refine cmono ?_ (rsize_any _ _ ?_ ?_)); rotate_left; omega; omega; rintro e w' ⟨rfl, hbc0⟩; obtain ⟨⟨dc0, osc0⟩, rfl⟩ := regrown_of_below hbc0; clear hbc0) | (go_at_call 117; (with_reducible refine cmono ?_ (HGG.out _)); rotate_left; rintro e w' ⟨rfl, hbc1⟩; obtain ⟨⟨dc1, osc1⟩, rfl⟩ := regrown_of_below hbc1; clear hbc1) | ((with_reducible refine wp_region_quiet_below ?_ ?_ ?_); kernel_rfl; kernel_rfl; (repeat (go_big_quiet_step (first | (go_at_call 84; (with_reducible refine Calls.regrown_of (rsize_any _ _ ?_ ?_)); omega; omega) | (go_at_call 117; (with_reducible refine Calls.regrown_of (HGG.out _)))))); refine wpQuiet_nil ?_; intro _ hw'; obtain ⟨⟨dq, osq⟩, hw''⟩ := hw'; subst hw''))
        go_ret
        exact ⟨rfl, (by repeat (first | exact Below.refl _ _ | refine below_reg ?_ _ _ | refine below_alloc ?_ _ | exact below_drewN ?_ _ | assumption))⟩
      · rw [if_neg (by simp at hb; omega)]
        go_enter Try.func96, Try.ntmps96
        go_wp2_with (first | (go_at_call 84; (with_reducible refine cmono ?_ (rsize_any _ _ ?_ ?_)); rotate_left; omega; omega; rintro e w' ⟨rfl, hbc0⟩; obtain ⟨⟨dc0, osc0⟩, rfl⟩ := regrown_of_below hbc0; clear hbc0) | (go_at_call 117; (with_reducible refine cmono ?_ (HGG.out _)); rotate_left; rintro e w' ⟨rfl, hbc1⟩; obtain ⟨⟨dc1, osc1⟩, rfl⟩ := regrown_of_below hbc1; clear hbc1) | ((with_reducible refine wp_region_quiet_below ?_ ?_ ?_); kernel_rfl; kernel_rfl; (repeat (go_big_quiet_step (first | (go_at_call 84; (with_reducible refine Calls.regrown_of (rsize_any _ _ ?_ ?_)); omega; omega) | (go_at_call 117; (with_reducible refine Calls.regrown_of (HGG.out _)))))); refine wpQuiet_nil ?_; intro _ hw'; obtain ⟨⟨dq, osq⟩, hw''⟩ := hw'; subst hw''))
        go_ret
        exact ⟨rfl, (by repeat (first | exact Below.refl _ _ | refine below_reg ?_ _ _ | refine below_alloc ?_ _ | exact below_drewN ?_ _ | assumption))⟩
theorem rasked_any (n d : Int) (w : World) (h0 : -9223372036854775808 ≤ n) (h1 : n ≤ 9223372036854775807) (h2 : -9223372036854775808 ≤ d) (h3 : d ≤ 9223372036854775807) :
    Calls Try.prog 76 #[.agg #[.int .i64 n, .int .i64 d]] w fun e w' => e = .returned (.int .i64 (askd n d)) ∧ Below w.heap.size w w' := by
  cases ha : decide ((1073741824 : Int) < n) <;> cases hb : decide (n < -1073741824) <;> cases hc : decide (1024 < d)
  all_goals
    go_enter Try.func76, Try.ntmps76
    go_wp2_with (first | (go_at_call 96; (with_reducible refine cmono ?_ (rcheck_any _ _ _ ?_ ?_ ?_ ?_)); rotate_left; omega; omega; omega; omega; rintro e w' ⟨rfl, hbc0⟩; obtain ⟨⟨dc0, osc0⟩, rfl⟩ := regrown_of_below hbc0; clear hbc0) | ((with_reducible refine wp_region_quiet_below ?_ ?_ ?_); kernel_rfl; kernel_rfl; (repeat (go_big_quiet_step (first | (go_at_call 96; (with_reducible refine Calls.regrown_of (rcheck_any _ _ _ ?_ ?_ ?_ ?_)); omega; omega; omega; omega)))); refine wpQuiet_nil ?_; intro _ hw'; obtain ⟨⟨dq, osq⟩, hw''⟩ := hw'; subst hw''))
    all_goals (go_ret; refine ⟨ret_int ?_, (by repeat (first | exact Below.refl _ _ | refine below_reg ?_ _ _ | refine below_alloc ?_ _ | exact below_drewN ?_ _ | assumption))⟩)
    all_goals (simp only [bne_iff_ne, bne_eq_false_iff_eq, decide_eq_true_eq, decide_eq_false_iff_not, ne_eq] at *)
    all_goals first | (exfalso; omega) | skip
    all_goals (unfold askd; (first | rw [if_pos (by omega)] | rw [if_neg (by omega)]))
    all_goals (first | rfl | (rw [if_pos (by omega)]; done) | (rw [if_neg (by omega)]; done))
end Go.Proofs.Ytnjgfhgpicmklaa

namespace Go.Proofs.Ytnjgfhgpicmklaa
open Go.RowKit
end Go.Proofs.Ytnjgfhgpicmklaa

namespace Go.Proofs.Ytnjgfhgpicmklaa
open Go.RowKit Go.Sort
end Go.Proofs.Ytnjgfhgpicmklaa

namespace Go.Proofs.Ytnjgfhgpicmklaa
open Go.RowKit Go.Sort
end Go.Proofs.Ytnjgfhgpicmklaa

namespace Go.Proofs.Ytnjgfhgpicmklaa
open Go.RowKit
end Go.Proofs.Ytnjgfhgpicmklaa

namespace Go.Proofs.Ytnjgfhgpicmklaa
open Go.RowKit Go.Sort
end Go.Proofs.Ytnjgfhgpicmklaa

namespace Go.Proofs.Ytnjgfhgpicmklaa
open Go.RowKit Go.Sort
end Go.Proofs.Ytnjgfhgpicmklaa

namespace Go.Proofs.Ytnjgfhgpicmklaa
open Go.RowKit
def qv (n d : Int) : Rat := mkRat n d.toNat
theorem chk_iff (n d : Int) : chk n d = 0 ↔ 1 ≤ d ∧ n ≠ -9223372036854775808 ∧ n.natAbs.Coprime d.toNat := by
  unfold chk Nat.Coprime
  rw [Nat.gcd_comm n.natAbs]
  have hg : 1 ≤ d → 0 < Nat.gcd d.toNat n.natAbs := fun h => Nat.gcd_pos_of_pos_left _ (by omega)
  split
  · rename_i h
    constructor
    · intro h'; omega
    · rintro ⟨h1, h2, h3⟩; exfalso; omega
  · rename_i h
    have h1 : 1 ≤ d := by omega
    have := hg h1
    exact ⟨fun _ => ⟨h1, by omega, by omega⟩, fun _ => rfl⟩
theorem qv_num {n d : Int} (h : chk n d = 0) : (qv n d).num = n := by
  obtain ⟨h1, _, h3⟩ := (chk_iff n d).1 h
  unfold qv
  rw [Rat.num_mkRat, if_neg (by omega), Nat.gcd_comm, show Nat.gcd n.natAbs d.toNat = 1 from h3]
  simp
theorem qv_den {n d : Int} (h : chk n d = 0) : ((qv n d).den : Int) = d := by
  obtain ⟨h1, _, h3⟩ := (chk_iff n d).1 h
  unfold qv
  rw [Rat.den_mkRat, if_neg (by omega), Nat.gcd_comm, show Nat.gcd n.natAbs d.toNat = 1 from h3]
  omega
def outQ (q : Rat) : Int × Int × Int := if q.num.natAbs ≤ 9223372036854775807 ∧ q.den ≤ 9223372036854775807 then (q.num, q.den, 0) else (0, 0, 16)
end Go.Proofs.Ytnjgfhgpicmklaa

namespace Go.Proofs.Ytnjgfhgpicmklaa
open Go.RowKit Go.Sort
end Go.Proofs.Ytnjgfhgpicmklaa

namespace Go.Proofs.Ytnjgfhgpicmklaa
open Go.RowKit Go.Sort
end Go.Proofs.Ytnjgfhgpicmklaa

namespace Go.Proofs.Ytnjgfhgpicmklaa
open Go.RowKit
theorem qv_inj {p q r t : Int} (h1 : chk p q = 0) (h2 : chk r t = 0) : qv p q = qv r t ↔ p = r ∧ q = t := by
  constructor
  · intro h
    have e1 := qv_num h1
    have e2 := qv_den h1
    rw [h, qv_num h2] at e1
    rw [h, qv_den h2] at e2
    exact ⟨e1.symm, e2.symm⟩
  · rintro ⟨rfl, rfl⟩; rfl
end Go.Proofs.Ytnjgfhgpicmklaa

namespace Go.Proofs.Ytnjgfhgpicmklaa
open Go.RowKit Go.Sort Sx
abbrev i64 (n : Int) : D := .v (.int .i64 n)
abbrev u64 (n : Int) : D := .v (.int .u64 n)
abbrev bol (b : Bool) : D := .v (.bool b)
theorem wd_i64 {n : Int} : WD (i64 n) ↔ -9223372036854775808 ≤ n ∧ n ≤ 9223372036854775807 := WD_v
theorem wd1 {n d : Int} (h : WDCs [.agg [i64 n, i64 d]]) : -9223372036854775808 ≤ n ∧ n ≤ 9223372036854775807 ∧ -9223372036854775808 ≤ d ∧ d ≤ 9223372036854775807 := by
  simp only [WDCs, WDC, WDs, wd_i64] at h; omega
theorem wd2 {n d m e : Int} (h : WDCs [.agg [i64 n, i64 d], .agg [i64 m, i64 e]]) : (-9223372036854775808 ≤ n ∧ n ≤ 9223372036854775807 ∧ -9223372036854775808 ≤ d ∧ d ≤ 9223372036854775807) ∧ (-9223372036854775808 ≤ m ∧ m ≤ 9223372036854775807 ∧ -9223372036854775808 ≤ e ∧ e ≤ 9223372036854775807) := by
  simp only [WDCs, WDC, WDs, wd_i64] at h; omega
theorem cmpN_rng (a b : Int) : -1 ≤ cmpN a b ∧ cmpN a b ≤ 1 := by unfold cmpN; (repeat' split) <;> omega
theorem askd_rng (n d : Int) : 0 ≤ askd n d ∧ askd n d ≤ 8 := by
  unfold askd
  rcases chk_08 n d with h | h <;> rw [h] <;> simp <;> (try split) <;> omega
abbrev rat2 (p q r t : Int) : List DC := [.agg [i64 p, i64 q], .agg [i64 r, i64 t]]
abbrev ret2 (x : Int × Int) : DV := .tup [.one (i64 x.1), .one (i64 x.2)]
abbrev ret1 (x : Int) : DV := .c (.one (i64 x))
theorem cmp_fn (p q r t : Int) : FnOK Try.prog 39 (rat2 p q r t) (ret2 (cmpV p q r t)) := by
  refine fn_of_calls (fun _ _ => Try.call39 _ _) rfl rfl (fun h => ?_) (fun h w => ?_)
  · simp only [WDV, WDCs, WDC, wd_i64, and_true]
    unfold cmpV
    have := cmpN_rng (p * t) (r * q)
    split <;> simp <;> omega
  · obtain ⟨⟨_, _, _, _⟩, _, _, _, _⟩ := wd2 h
    exact cmp_any p q r t w (by omega) (by omega) (by omega) (by omega) (by omega) (by omega) (by omega) (by omega)
theorem asked_fn (n d : Int) : FnOK Try.prog 64 [.agg [i64 n, i64 d]] (ret1 (askd n d)) := by
  refine fn_of_calls (fun _ _ => Try.call64 _ _) rfl rfl (fun h => ?_) (fun h w => ?_)
  · simp only [WDV, WDCs, WDC, WDs, wd_i64, and_true]
    have := askd_rng n d
    omega
  · obtain ⟨_, _, _, _⟩ := wd1 h
    exact asked_any n d w (by omega) (by omega) (by omega) (by omega)
theorem rasked_fn (n d : Int) : FnOK Try.prog 76 [.agg [i64 n, i64 d]] (ret1 (askd n d)) := by
  refine fn_of_calls (fun _ _ => Try.call76 _ _) rfl rfl (fun h => ?_) (fun h w => ?_)
  · simp only [WDV, WDCs, WDC, WDs, wd_i64, and_true]
    have := askd_rng n d
    omega
  · obtain ⟨_, _, _, _⟩ := wd1 h
    exact rasked_any n d w (by omega) (by omega) (by omega) (by omega)
end Go.Proofs.Ytnjgfhgpicmklaa

namespace Go.Proofs.Ytnjgfhgpicmklaa
open Go.RowKit Go.Sort Sx
end Go.Proofs.Ytnjgfhgpicmklaa
