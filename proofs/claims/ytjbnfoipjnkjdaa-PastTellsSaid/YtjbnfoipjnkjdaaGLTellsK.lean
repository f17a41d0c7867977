import Derived.Test.YtjbnfoipjnkjdaaGLTellsJ
import Derived.Test.YtjbnfoipjnkjdaaProg
import Derived.Test.YtjbnfoipjnkjdaaChecked
import Derived.Test.YtjbnfoipjnkjdaaGLTellsA
import Derived.Shelf.Small.Bits
import Derived.Shelf.Small.Wraps
import Derived.Shelf.Strconv.Itoa0
import Derived.Shelf.Bits.Mul64
import Derived.Ground.Names2Prog
import Derived.Shelf.Slices.SearchI
import Derived.Ground.SlgnProg
import Derived.Shelf.SlicesG.SearchI
import Derived.Laws.Externs
import Derived.Shelf.Spec.BitsCarry
import Derived.WalkKit
import Derived.Lib.ItoaNum
import Derived.Deep.DeepCutAuto
import Derived.Deep.CutBlock
import Derived.Laws.BitsAllLaws
set_option linter.all false
/- The table of the types that the symbolic walk knows, printed by a program of this claim's author. No conditions. -/
namespace Go.Proofs.Ytjbnfoipjnkjdaa
open Go Go.RowKit
namespace Sx
def Ty : List (Nat × TD) := [(2, .int .i64),
  (3, .int .i64),
  (4, .bool),
  (5, .int .u8),
  (9, .sc (.v (.string "".toUTF8))),
  (12, .int .u64),
  (21, .int .i32),
  (22, .st 2 [.v (.int .i64 0), .v (.int .i64 0)] [(0, 1, false), (1, 1, false)]),
  (23, .st 2 [.v (.int .i64 0), .v (.int .i64 0)] [(0, 1, false), (1, 1, false)]),
  (24, .sl 3 true [.v (.int .i64 0), .v (.int .i64 0), .nil 3]),
  (25, .st 3 [.v (.int .i64 0), .v (.int .i64 0), .nil 3] [(0, 2, true), (2, 1, false)]),
  (26, .st 3 [.v (.int .i64 0), .v (.int .i64 0), .nil 3] [(0, 2, true), (2, 1, false)]),
  (27, .sl 3 true [.v (.int .i64 0), .v (.int .i64 0), .v (.int .i64 0)]),
  (28, .st 1 [.nil 3] [(0, 1, false)]),
  (29, .st 1 [.nil 3] [(0, 1, false)]),
  (30, .st 3 [.v (.int .i64 0), .v (.int .i64 0), .nil 3] [(0, 2, true), (2, 1, true)]),
  (31, .st 3 [.v (.int .i64 0), .v (.int .i64 0), .nil 3] [(0, 2, true), (2, 1, true)]),
  (36, .int .i64),
  (56, .sl 1 false [.v (.int .i64 0)]),
  (69, .st 3 [.v (.int .i64 0), .v (.int .i64 0), .nil 3] [(0, 2, true), (2, 1, true)]),
  (70, .st 3 [.v (.int .i64 0), .v (.int .i64 0), .nil 3] [(0, 2, true), (2, 1, true)]),
  (88, .st 3 [.v (.int .i64 0), .v (.int .i64 0), .v (.int .i64 0)] [(0, 1, false), (1, 1, false), (2, 1, false)]),
  (89, .st 3 [.v (.int .i64 0), .v (.int .i64 0), .v (.int .i64 0)] [(0, 1, false), (1, 1, false), (2, 1, false)]),
  (98, .int .u64),
  (99, .st 3 [.v (.bool false), .v (.int .u64 0), .v (.int .u64 0)] [(0, 1, false), (1, 1, false), (2, 1, false)]),
  (100, .st 3 [.v (.bool false), .v (.int .u64 0), .v (.int .u64 0)] [(0, 1, false), (1, 1, false), (2, 1, false)]),
  (103, .st 3 [.v (.bool false), .v (.int .u64 0), .v (.int .u64 0)] [(0, 1, false), (1, 1, false), (2, 1, false)]),
  (104, .st 3 [.v (.bool false), .v (.int .u64 0), .v (.int .u64 0)] [(0, 1, false), (1, 1, false), (2, 1, false)]),
  (111, .int .u64),
  (118, .sl 1 false [.v (.int .i64 0)]),
  (141, .int .i64),
  (148, .int .u32),
  (150, .st 2 [.v (.int .i64 0), .v (.int .u64 0)] [(0, 1, false), (1, 1, false)]),
  (151, .st 2 [.v (.int .i64 0), .v (.int .u64 0)] [(0, 1, false), (1, 1, false)]),
  (153, .ar 2 [.v (.int .i64 0), .v (.int .i64 0)] 2 1 false),
  (154, .ar 4 [.v (.int .i64 0), .v (.int .i64 0), .v (.int .i64 0), .v (.int .i64 0)] 2 2 true),
  (157, .int .u64),
  (168, .st 4 [.v (.pointer none), .v (.pointer none), .v (.pointer none), .v (.string "".toUTF8)] [(0, 1, false), (1, 1, false), (2, 1, false), (3, 1, false)])]
theorem ty_all : TysOK Try.prog Ty := ⟨⟨Try.sizeOf2, Try.isAgg2, ⟨_, Try.zeroValue2, fun _ _ => ⟨.v _ rfl (wfB_iff rfl), trivial⟩⟩, Try.underlying2⟩,
  ⟨Try.sizeOf3, Try.isAgg3, ⟨_, Try.zeroValue3, fun _ _ => ⟨.v _ rfl (wfB_iff rfl), trivial⟩⟩, Try.underlying3⟩,
  ⟨Try.sizeOf4, Try.isAgg4, ⟨_, Try.zeroValue4, fun _ _ => ⟨.v _ rfl (wfB_iff rfl), trivial⟩⟩, Try.underlying4⟩,
  ⟨Try.sizeOf5, Try.isAgg5, ⟨_, Try.zeroValue5, fun _ _ => ⟨.v _ rfl (wfB_iff rfl), trivial⟩⟩, Try.underlying5⟩,
  ⟨Try.sizeOf9, Try.isAgg9, ⟨_, Try.zeroValue9, fun _ _ => ⟨.v _ rfl (wfB_iff rfl), trivial⟩⟩, trivial⟩,
  ⟨Try.sizeOf12, Try.isAgg12, ⟨_, Try.zeroValue12, fun _ _ => ⟨.v _ rfl (wfB_iff rfl), trivial⟩⟩, Try.underlying12⟩,
  ⟨Try.sizeOf21, Try.isAgg21, ⟨_, Try.zeroValue21, fun _ _ => ⟨.v _ rfl (wfB_iff rfl), trivial⟩⟩, Try.underlying21⟩,
  ⟨Try.sizeOf22, Try.isAgg22, ⟨_, Try.zeroValue22, fun _ _ => ⟨.v _ rfl (wfB_iff rfl), .v _ rfl (wfB_iff rfl), trivial⟩⟩, st_ty Try.underlying22 rfl ⟨rfl, Try.sizeOf2, Try.isAgg2, rfl, Try.sizeOf2, Try.isAgg2, trivial⟩⟩,
  ⟨Try.sizeOf23, Try.isAgg23, ⟨_, Try.zeroValue23, fun _ _ => ⟨.v _ rfl (wfB_iff rfl), .v _ rfl (wfB_iff rfl), trivial⟩⟩, st_ty Try.underlying23 rfl ⟨rfl, Try.sizeOf2, Try.isAgg2, rfl, Try.sizeOf2, Try.isAgg2, trivial⟩⟩,
  ⟨Try.sizeOf24, Try.isAgg24, ⟨_, Try.zeroValue24, fun _ _ => ⟨.nl _, trivial⟩⟩, sl_ty Try.underlying24 Try.sizeOf70 Try.isAgg70 Try.zeroValue70 rfl (show Try.prog.info? 70 = some Try.t70 by kernel_rfl) rfl rfl rfl (fun _ _ => ⟨.v _ rfl (wfB_iff rfl), .v _ rfl (wfB_iff rfl), .nl _, trivial⟩) rfl⟩,
  ⟨Try.sizeOf25, Try.isAgg25, ⟨_, Try.zeroValue25, fun _ _ => ⟨.v _ rfl (wfB_iff rfl), .v _ rfl (wfB_iff rfl), .nl _, trivial⟩⟩, st_ty Try.underlying25 rfl ⟨rfl, Try.sizeOf23, Try.isAgg23, rfl, Try.sizeOf24, Try.isAgg24, trivial⟩⟩,
  ⟨Try.sizeOf26, Try.isAgg26, ⟨_, Try.zeroValue26, fun _ _ => ⟨.v _ rfl (wfB_iff rfl), .v _ rfl (wfB_iff rfl), .nl _, trivial⟩⟩, st_ty Try.underlying26 rfl ⟨rfl, Try.sizeOf23, Try.isAgg23, rfl, Try.sizeOf24, Try.isAgg24, trivial⟩⟩,
  ⟨Try.sizeOf27, Try.isAgg27, ⟨_, Try.zeroValue27, fun _ _ => ⟨.nl _, trivial⟩⟩, sl_ty Try.underlying27 Try.sizeOf89 Try.isAgg89 Try.zeroValue89 rfl (show Try.prog.info? 89 = some Try.t89 by kernel_rfl) rfl rfl rfl (fun _ _ => ⟨.v _ rfl (wfB_iff rfl), .v _ rfl (wfB_iff rfl), .v _ rfl (wfB_iff rfl), trivial⟩) rfl⟩,
  ⟨Try.sizeOf28, Try.isAgg28, ⟨_, Try.zeroValue28, fun _ _ => ⟨.nl _, trivial⟩⟩, st_ty Try.underlying28 rfl ⟨rfl, Try.sizeOf27, Try.isAgg27, trivial⟩⟩,
  ⟨Try.sizeOf29, Try.isAgg29, ⟨_, Try.zeroValue29, fun _ _ => ⟨.nl _, trivial⟩⟩, st_ty Try.underlying29 rfl ⟨rfl, Try.sizeOf27, Try.isAgg27, trivial⟩⟩,
  ⟨Try.sizeOf30, Try.isAgg30, ⟨_, Try.zeroValue30, fun _ _ => ⟨.v _ rfl (wfB_iff rfl), .v _ rfl (wfB_iff rfl), .nl _, trivial⟩⟩, st_ty Try.underlying30 rfl ⟨rfl, Try.sizeOf23, Try.isAgg23, rfl, Try.sizeOf29, Try.isAgg29, trivial⟩⟩,
  ⟨Try.sizeOf31, Try.isAgg31, ⟨_, Try.zeroValue31, fun _ _ => ⟨.v _ rfl (wfB_iff rfl), .v _ rfl (wfB_iff rfl), .nl _, trivial⟩⟩, st_ty Try.underlying31 rfl ⟨rfl, Try.sizeOf23, Try.isAgg23, rfl, Try.sizeOf29, Try.isAgg29, trivial⟩⟩,
  ⟨Try.sizeOf36, Try.isAgg36, ⟨_, Try.zeroValue36, fun _ _ => ⟨.v _ rfl (wfB_iff rfl), trivial⟩⟩, Try.underlying36⟩,
  ⟨Try.sizeOf56, Try.isAgg56, ⟨_, Try.zeroValue56, fun _ _ => ⟨.nl _, trivial⟩⟩, sl_ty Try.underlying56 Try.sizeOf3 Try.isAgg3 Try.zeroValue3 rfl (show Try.prog.info? 3 = some Try.t3 by kernel_rfl) rfl rfl rfl (fun _ _ => ⟨.v _ rfl (wfB_iff rfl), trivial⟩) rfl⟩,
  ⟨Try.sizeOf69, Try.isAgg69, ⟨_, Try.zeroValue69, fun _ _ => ⟨.v _ rfl (wfB_iff rfl), .v _ rfl (wfB_iff rfl), .nl _, trivial⟩⟩, st_ty Try.underlying69 rfl ⟨rfl, Try.sizeOf23, Try.isAgg23, rfl, Try.sizeOf29, Try.isAgg29, trivial⟩⟩,
  ⟨Try.sizeOf70, Try.isAgg70, ⟨_, Try.zeroValue70, fun _ _ => ⟨.v _ rfl (wfB_iff rfl), .v _ rfl (wfB_iff rfl), .nl _, trivial⟩⟩, st_ty Try.underlying70 rfl ⟨rfl, Try.sizeOf23, Try.isAgg23, rfl, Try.sizeOf29, Try.isAgg29, trivial⟩⟩,
  ⟨Try.sizeOf88, Try.isAgg88, ⟨_, Try.zeroValue88, fun _ _ => ⟨.v _ rfl (wfB_iff rfl), .v _ rfl (wfB_iff rfl), .v _ rfl (wfB_iff rfl), trivial⟩⟩, st_ty Try.underlying88 rfl ⟨rfl, Try.sizeOf3, Try.isAgg3, rfl, Try.sizeOf2, Try.isAgg2, rfl, Try.sizeOf2, Try.isAgg2, trivial⟩⟩,
  ⟨Try.sizeOf89, Try.isAgg89, ⟨_, Try.zeroValue89, fun _ _ => ⟨.v _ rfl (wfB_iff rfl), .v _ rfl (wfB_iff rfl), .v _ rfl (wfB_iff rfl), trivial⟩⟩, st_ty Try.underlying89 rfl ⟨rfl, Try.sizeOf3, Try.isAgg3, rfl, Try.sizeOf2, Try.isAgg2, rfl, Try.sizeOf2, Try.isAgg2, trivial⟩⟩,
  ⟨Try.sizeOf98, Try.isAgg98, ⟨_, Try.zeroValue98, fun _ _ => ⟨.v _ rfl (wfB_iff rfl), trivial⟩⟩, Try.underlying98⟩,
  ⟨Try.sizeOf99, Try.isAgg99, ⟨_, Try.zeroValue99, fun _ _ => ⟨.v _ rfl (wfB_iff rfl), .v _ rfl (wfB_iff rfl), .v _ rfl (wfB_iff rfl), trivial⟩⟩, st_ty Try.underlying99 rfl ⟨rfl, Try.sizeOf4, Try.isAgg4, rfl, Try.sizeOf98, Try.isAgg98, rfl, Try.sizeOf98, Try.isAgg98, trivial⟩⟩,
  ⟨Try.sizeOf100, Try.isAgg100, ⟨_, Try.zeroValue100, fun _ _ => ⟨.v _ rfl (wfB_iff rfl), .v _ rfl (wfB_iff rfl), .v _ rfl (wfB_iff rfl), trivial⟩⟩, st_ty Try.underlying100 rfl ⟨rfl, Try.sizeOf4, Try.isAgg4, rfl, Try.sizeOf98, Try.isAgg98, rfl, Try.sizeOf98, Try.isAgg98, trivial⟩⟩,
  ⟨Try.sizeOf103, Try.isAgg103, ⟨_, Try.zeroValue103, fun _ _ => ⟨.v _ rfl (wfB_iff rfl), .v _ rfl (wfB_iff rfl), .v _ rfl (wfB_iff rfl), trivial⟩⟩, st_ty Try.underlying103 rfl ⟨rfl, Try.sizeOf4, Try.isAgg4, rfl, Try.sizeOf98, Try.isAgg98, rfl, Try.sizeOf98, Try.isAgg98, trivial⟩⟩,
  ⟨Try.sizeOf104, Try.isAgg104, ⟨_, Try.zeroValue104, fun _ _ => ⟨.v _ rfl (wfB_iff rfl), .v _ rfl (wfB_iff rfl), .v _ rfl (wfB_iff rfl), trivial⟩⟩, st_ty Try.underlying104 rfl ⟨rfl, Try.sizeOf4, Try.isAgg4, rfl, Try.sizeOf98, Try.isAgg98, rfl, Try.sizeOf98, Try.isAgg98, trivial⟩⟩,
  ⟨Try.sizeOf111, Try.isAgg111, ⟨_, Try.zeroValue111, fun _ _ => ⟨.v _ rfl (wfB_iff rfl), trivial⟩⟩, Try.underlying111⟩,
  ⟨Try.sizeOf118, Try.isAgg118, ⟨_, Try.zeroValue118, fun _ _ => ⟨.nl _, trivial⟩⟩, sl_ty Try.underlying118 Try.sizeOf36 Try.isAgg36 Try.zeroValue36 rfl (show Try.prog.info? 36 = some Try.t36 by kernel_rfl) rfl rfl rfl (fun _ _ => ⟨.v _ rfl (wfB_iff rfl), trivial⟩) rfl⟩,
  ⟨Try.sizeOf141, Try.isAgg141, ⟨_, Try.zeroValue141, fun _ _ => ⟨.v _ rfl (wfB_iff rfl), trivial⟩⟩, Try.underlying141⟩,
  ⟨Try.sizeOf148, Try.isAgg148, ⟨_, Try.zeroValue148, fun _ _ => ⟨.v _ rfl (wfB_iff rfl), trivial⟩⟩, Try.underlying148⟩,
  ⟨Try.sizeOf150, Try.isAgg150, ⟨_, Try.zeroValue150, fun _ _ => ⟨.v _ rfl (wfB_iff rfl), .v _ rfl (wfB_iff rfl), trivial⟩⟩, st_ty Try.underlying150 rfl ⟨rfl, Try.sizeOf2, Try.isAgg2, rfl, Try.sizeOf98, Try.isAgg98, trivial⟩⟩,
  ⟨Try.sizeOf151, Try.isAgg151, ⟨_, Try.zeroValue151, fun _ _ => ⟨.v _ rfl (wfB_iff rfl), .v _ rfl (wfB_iff rfl), trivial⟩⟩, st_ty Try.underlying151 rfl ⟨rfl, Try.sizeOf2, Try.isAgg2, rfl, Try.sizeOf98, Try.isAgg98, trivial⟩⟩,
  ⟨Try.sizeOf153, Try.isAgg153, ⟨_, Try.zeroValue153, fun _ _ => ⟨.v _ rfl (wfB_iff rfl), .v _ rfl (wfB_iff rfl), trivial⟩⟩, ⟨_, Try.underlying153, Try.sizeOf2, Try.isAgg2⟩⟩,
  ⟨Try.sizeOf154, Try.isAgg154, ⟨_, Try.zeroValue154, fun _ _ => ⟨.v _ rfl (wfB_iff rfl), .v _ rfl (wfB_iff rfl), .v _ rfl (wfB_iff rfl), .v _ rfl (wfB_iff rfl), trivial⟩⟩, ⟨_, Try.underlying154, Try.sizeOf153, Try.isAgg153⟩⟩,
  ⟨Try.sizeOf157, Try.isAgg157, ⟨_, Try.zeroValue157, fun _ _ => ⟨.v _ rfl (wfB_iff rfl), trivial⟩⟩, Try.underlying157⟩,
  ⟨Try.sizeOf168, Try.isAgg168, ⟨_, Try.zeroValue168, fun _ _ => ⟨.v _ rfl (wfB_iff rfl), .v _ rfl (wfB_iff rfl), .v _ rfl (wfB_iff rfl), .v _ rfl (wfB_iff rfl), trivial⟩⟩, st_ty Try.underlying168 rfl ⟨rfl, Try.sizeOf17, Try.isAgg17, rfl, Try.sizeOf17, Try.isAgg17, rfl, Try.sizeOf17, Try.isAgg17, rfl, Try.sizeOf9, Try.isAgg9, trivial⟩⟩, trivial⟩
theorem ty_okK (K mu co : List Nat) : ΓOK Try.prog ⟨Ty, K, mu, co, false⟩ := tys_ok ty_all
theorem ty_okD : ΓOK Try.prog ⟨Ty, [], [], [], true⟩ := tys_ok ty_all
theorem ty_ok : ΓOK Try.prog ⟨Ty, [], [], [], false⟩ := tys_ok ty_all
theorem eqv23 (a0 b0 : Int) (a1 b1 : Int) (x y : Operand) (w : World) : (do eqGuard .eql 23 x y (.agg #[.int .i64 a0, .int .i64 a1]) (.agg #[.int .i64 b0, .int .i64 b1]); binOp .eql 23 (.agg #[.int .i64 a0, .int .i64 a1]) (.agg #[.int .i64 b0, .int .i64 b1]) : Sem Value).run Try.prog w = .ok (.bool (decide (a0 = b0 ∧ a1 = b1))) w := by
  by_cases h0 : a0 = b0
  · skip
    by_cases h1 : a1 = b1
    · skip
      simp [go_sem, eqGuard, binOp, Op.equal, Op.maxDepth, h0, h1]
    · simp [go_sem, eqGuard, binOp, Op.equal, Op.maxDepth, h0, h1]
  · simp [go_sem, eqGuard, binOp, Op.equal, Op.maxDepth, h0]
theorem nev23 (a0 b0 : Int) (a1 b1 : Int) (x y : Operand) (w : World) : (do eqGuard .neq 23 x y (.agg #[.int .i64 a0, .int .i64 a1]) (.agg #[.int .i64 b0, .int .i64 b1]); binOp .neq 23 (.agg #[.int .i64 a0, .int .i64 a1]) (.agg #[.int .i64 b0, .int .i64 b1]) : Sem Value).run Try.prog w = .ok (.bool (decide (¬ (a0 = b0 ∧ a1 = b1)))) w := by
  by_cases h0 : a0 = b0
  · skip
    by_cases h1 : a1 = b1
    · skip
      simp [go_sem, eqGuard, binOp, Op.equal, Op.maxDepth, h0, h1]
    · simp [go_sem, eqGuard, binOp, Op.equal, Op.maxDepth, h0, h1]
  · simp [go_sem, eqGuard, binOp, Op.equal, Op.maxDepth, h0]
theorem eqv89 (a0 b0 : Int) (a1 b1 : Int) (a2 b2 : Int) (x y : Operand) (w : World) : (do eqGuard .eql 89 x y (.agg #[.int .i64 a0, .int .i64 a1, .int .i64 a2]) (.agg #[.int .i64 b0, .int .i64 b1, .int .i64 b2]); binOp .eql 89 (.agg #[.int .i64 a0, .int .i64 a1, .int .i64 a2]) (.agg #[.int .i64 b0, .int .i64 b1, .int .i64 b2]) : Sem Value).run Try.prog w = .ok (.bool (decide (a0 = b0 ∧ a1 = b1 ∧ a2 = b2))) w := by
  by_cases h0 : a0 = b0
  · skip
    by_cases h1 : a1 = b1
    · skip
      by_cases h2 : a2 = b2
      · skip
        simp [go_sem, eqGuard, binOp, Op.equal, Op.maxDepth, h0, h1, h2]
      · simp [go_sem, eqGuard, binOp, Op.equal, Op.maxDepth, h0, h1, h2]
    · simp [go_sem, eqGuard, binOp, Op.equal, Op.maxDepth, h0, h1]
  · simp [go_sem, eqGuard, binOp, Op.equal, Op.maxDepth, h0]
theorem nev89 (a0 b0 : Int) (a1 b1 : Int) (a2 b2 : Int) (x y : Operand) (w : World) : (do eqGuard .neq 89 x y (.agg #[.int .i64 a0, .int .i64 a1, .int .i64 a2]) (.agg #[.int .i64 b0, .int .i64 b1, .int .i64 b2]); binOp .neq 89 (.agg #[.int .i64 a0, .int .i64 a1, .int .i64 a2]) (.agg #[.int .i64 b0, .int .i64 b1, .int .i64 b2]) : Sem Value).run Try.prog w = .ok (.bool (decide (¬ (a0 = b0 ∧ a1 = b1 ∧ a2 = b2)))) w := by
  by_cases h0 : a0 = b0
  · skip
    by_cases h1 : a1 = b1
    · skip
      by_cases h2 : a2 = b2
      · skip
        simp [go_sem, eqGuard, binOp, Op.equal, Op.maxDepth, h0, h1, h2]
      · simp [go_sem, eqGuard, binOp, Op.equal, Op.maxDepth, h0, h1, h2]
    · simp [go_sem, eqGuard, binOp, Op.equal, Op.maxDepth, h0, h1]
  · simp [go_sem, eqGuard, binOp, Op.equal, Op.maxDepth, h0]
theorem eqv100 (a0 b0 : Bool) (a1 b1 : Int) (a2 b2 : Int) (x y : Operand) (w : World) : (do eqGuard .eql 100 x y (.agg #[.bool a0, .int .u64 a1, .int .u64 a2]) (.agg #[.bool b0, .int .u64 b1, .int .u64 b2]); binOp .eql 100 (.agg #[.bool a0, .int .u64 a1, .int .u64 a2]) (.agg #[.bool b0, .int .u64 b1, .int .u64 b2]) : Sem Value).run Try.prog w = .ok (.bool (decide (a0 = b0 ∧ a1 = b1 ∧ a2 = b2))) w := by
  by_cases h0 : a0 = b0
  · skip
    by_cases h1 : a1 = b1
    · skip
      by_cases h2 : a2 = b2
      · skip
        simp [go_sem, eqGuard, binOp, Op.equal, Op.maxDepth, h0, h1, h2]
      · simp [go_sem, eqGuard, binOp, Op.equal, Op.maxDepth, h0, h1, h2]
    · simp [go_sem, eqGuard, binOp, Op.equal, Op.maxDepth, h0, h1]
  · simp [go_sem, eqGuard, binOp, Op.equal, Op.maxDepth, h0]
theorem nev100 (a0 b0 : Bool) (a1 b1 : Int) (a2 b2 : Int) (x y : Operand) (w : World) : (do eqGuard .neq 100 x y (.agg #[.bool a0, .int .u64 a1, .int .u64 a2]) (.agg #[.bool b0, .int .u64 b1, .int .u64 b2]); binOp .neq 100 (.agg #[.bool a0, .int .u64 a1, .int .u64 a2]) (.agg #[.bool b0, .int .u64 b1, .int .u64 b2]) : Sem Value).run Try.prog w = .ok (.bool (decide (¬ (a0 = b0 ∧ a1 = b1 ∧ a2 = b2)))) w := by
  by_cases h0 : a0 = b0
  · skip
    by_cases h1 : a1 = b1
    · skip
      by_cases h2 : a2 = b2
      · skip
        simp [go_sem, eqGuard, binOp, Op.equal, Op.maxDepth, h0, h1, h2]
      · simp [go_sem, eqGuard, binOp, Op.equal, Op.maxDepth, h0, h1, h2]
    · simp [go_sem, eqGuard, binOp, Op.equal, Op.maxDepth, h0, h1]
  · simp [go_sem, eqGuard, binOp, Op.equal, Op.maxDepth, h0]
theorem eqv104 (a0 b0 : Bool) (a1 b1 : Int) (a2 b2 : Int) (x y : Operand) (w : World) : (do eqGuard .eql 104 x y (.agg #[.bool a0, .int .u64 a1, .int .u64 a2]) (.agg #[.bool b0, .int .u64 b1, .int .u64 b2]); binOp .eql 104 (.agg #[.bool a0, .int .u64 a1, .int .u64 a2]) (.agg #[.bool b0, .int .u64 b1, .int .u64 b2]) : Sem Value).run Try.prog w = .ok (.bool (decide (a0 = b0 ∧ a1 = b1 ∧ a2 = b2))) w := by
  by_cases h0 : a0 = b0
  · skip
    by_cases h1 : a1 = b1
    · skip
      by_cases h2 : a2 = b2
      · skip
        simp [go_sem, eqGuard, binOp, Op.equal, Op.maxDepth, h0, h1, h2]
      · simp [go_sem, eqGuard, binOp, Op.equal, Op.maxDepth, h0, h1, h2]
    · simp [go_sem, eqGuard, binOp, Op.equal, Op.maxDepth, h0, h1]
  · simp [go_sem, eqGuard, binOp, Op.equal, Op.maxDepth, h0]
theorem nev104 (a0 b0 : Bool) (a1 b1 : Int) (a2 b2 : Int) (x y : Operand) (w : World) : (do eqGuard .neq 104 x y (.agg #[.bool a0, .int .u64 a1, .int .u64 a2]) (.agg #[.bool b0, .int .u64 b1, .int .u64 b2]); binOp .neq 104 (.agg #[.bool a0, .int .u64 a1, .int .u64 a2]) (.agg #[.bool b0, .int .u64 b1, .int .u64 b2]) : Sem Value).run Try.prog w = .ok (.bool (decide (¬ (a0 = b0 ∧ a1 = b1 ∧ a2 = b2)))) w := by
  by_cases h0 : a0 = b0
  · skip
    by_cases h1 : a1 = b1
    · skip
      by_cases h2 : a2 = b2
      · skip
        simp [go_sem, eqGuard, binOp, Op.equal, Op.maxDepth, h0, h1, h2]
      · simp [go_sem, eqGuard, binOp, Op.equal, Op.maxDepth, h0, h1, h2]
    · simp [go_sem, eqGuard, binOp, Op.equal, Op.maxDepth, h0, h1]
  · simp [go_sem, eqGuard, binOp, Op.equal, Op.maxDepth, h0]
theorem eqv151 (a0 b0 : Int) (a1 b1 : Int) (x y : Operand) (w : World) : (do eqGuard .eql 151 x y (.agg #[.int .i64 a0, .int .u64 a1]) (.agg #[.int .i64 b0, .int .u64 b1]); binOp .eql 151 (.agg #[.int .i64 a0, .int .u64 a1]) (.agg #[.int .i64 b0, .int .u64 b1]) : Sem Value).run Try.prog w = .ok (.bool (decide (a0 = b0 ∧ a1 = b1))) w := by
  by_cases h0 : a0 = b0
  · skip
    by_cases h1 : a1 = b1
    · skip
      simp [go_sem, eqGuard, binOp, Op.equal, Op.maxDepth, h0, h1]
    · simp [go_sem, eqGuard, binOp, Op.equal, Op.maxDepth, h0, h1]
  · simp [go_sem, eqGuard, binOp, Op.equal, Op.maxDepth, h0]
theorem nev151 (a0 b0 : Int) (a1 b1 : Int) (x y : Operand) (w : World) : (do eqGuard .neq 151 x y (.agg #[.int .i64 a0, .int .u64 a1]) (.agg #[.int .i64 b0, .int .u64 b1]); binOp .neq 151 (.agg #[.int .i64 a0, .int .u64 a1]) (.agg #[.int .i64 b0, .int .u64 b1]) : Sem Value).run Try.prog w = .ok (.bool (decide (¬ (a0 = b0 ∧ a1 = b1)))) w := by
  by_cases h0 : a0 = b0
  · skip
    by_cases h1 : a1 = b1
    · skip
      simp [go_sem, eqGuard, binOp, Op.equal, Op.maxDepth, h0, h1]
    · simp [go_sem, eqGuard, binOp, Op.equal, Op.maxDepth, h0, h1]
  · simp [go_sem, eqGuard, binOp, Op.equal, Op.maxDepth, h0]
end Sx
end Go.Proofs.Ytjbnfoipjnkjdaa


/- What the small functions of package ratio compute, step by step (walks): gcd, abs, Check, Asked, both, times, compare. For every argument that is a number of its type. -/
namespace Go.Proofs.Ytjbnfoipjnkjdaa
open Go.RowKit Go.Sort

/-- a number of 64 bits without a sign -/
def U64 (n : Nat) : Prop := n < 18446744073709551616

theorem gcd_any (a b : Nat) (w : World) :
    Calls Try.prog 72 #[.int .u64 a, .int .u64 b] w fun e w' => e = .returned (.int .u64 (Nat.gcd a b : Nat)) ∧ Below w.heap.size w w' := by
  go_enter Try.func72, Try.ntmps72
  go_wp2
  go_loopw [0, 1] (fun x y wr => ∃ n m : Nat, x = .int .u64 n ∧ y = .int .u64 m ∧ Hid (Nat.gcd n m = Nat.gcd a b) ∧ Below w.heap.size w wr) (fun _ y _ => (intOf y).toNat)
  case atStart => exact ⟨a, b, rfl, rfl, Lib.hid rfl, Below.refl _ _⟩
  case round =>
    obtain ⟨n, m, rfl, rfl, hg, hb⟩ := hrel
    by_cases h0 : 0 < m
    · go_wp2
      go_quiet (fail)
      go_wp2
      have hlt := Nat.mod_lt n h0
      refine ⟨⟨m, n % m, rfl, by simp, Lib.hid ?_, below_drewN hb _⟩, ?_⟩
      · rw [← hg.out, Nat.gcd_comm n m, Nat.gcd_rec m n, Nat.gcd_comm]
      · show ((n : Int) % (m : Int)).toNat < ((m : Int)).toNat
        omega
    · go_wp2
      go_ret
      refine ⟨ret_int ?_, hb⟩
      rw [← hg.out]
      obtain rfl : m = 0 := by omega
      simp

theorem abs_any (n : Int) (w : World) (h0 : -9223372036854775808 ≤ n) (h1 : n ≤ 9223372036854775807) :
    Calls Try.prog 58 #[.int .i64 n] w fun e w' => e = .returned (.int .u64 (n.natAbs : Nat)) ∧ Below w.heap.size w w' := by
  have HW : Hid (n < 0 → IntKind.u64.wrap (-IntKind.u64.wrap n) = (n.natAbs : Nat)) := Lib.hid (by
    intro hn
    rw [IntKind.wrap_u64, IntKind.wrap_u64]
    omega)
  by_cases hn : n < 0
  · go_enter Try.func58, Try.ntmps58
    go_wp2
    go_ret
    exact ⟨ret_int (HW.out hn), Below.refl _ _⟩
  · go_enter Try.func58, Try.ntmps58
    go_wp2
    go_ret
    refine ⟨ret_int ?_, Below.refl _ _⟩
    omega

def chk (n d : Int) : Int := if d < 1 ∨ n = -9223372036854775808 ∨ 1 < Nat.gcd d.toNat n.natAbs then 8 else 0

theorem check_any (n d : Int) (w : World) (h0 : -9223372036854775808 ≤ n) (h1 : n ≤ 9223372036854775807) (h2 : -9223372036854775808 ≤ d) (h3 : d ≤ 9223372036854775807) :
    Calls Try.prog 57 #[.agg #[.int .i64 n, .int .i64 d]] w fun e w' => e = .returned (.int .i64 (chk n d)) ∧ Below w.heap.size w w' := by
  by_cases hd : d < 1
  · have hch : chk n d = 8 := by unfold chk; rw [if_pos (.inl hd)]
    rw [hch]
    go_enter Try.func57, Try.ntmps57
    go_wp2
    refine wp_region_quiet_below (by kernel_rfl) (by kernel_rfl) ?_
    repeat (go_big_quiet_step (fail))
    refine wpQuiet_nil ?_
    intro _ hw'
    obtain ⟨⟨dq, osq⟩, hw''⟩ := hw'
    subst hw''
    go_wp2
    go_ret
    exact ⟨rfl, below_reg (below_alloc (Below.refl _ _) _) _ _⟩
  · have hdf : decide (d < 1) = false := by simpa using hd
    by_cases hm : n = -9223372036854775808
    · have hch : chk n d = 8 := by unfold chk; rw [if_pos (.inr (.inl hm))]
      rw [hch]
      have hmb : (n == -9223372036854775808) = true := by simpa using hm
      clear hm
      go_enter Try.func57, Try.ntmps57
      go_wp2
      refine wp_region_quiet_below (by kernel_rfl) (by kernel_rfl) ?_
      repeat (go_big_quiet_step (fail))
      refine wpQuiet_nil ?_
      intro _ hw'
      obtain ⟨⟨dq, osq⟩, hw''⟩ := hw'
      subst hw''
      go_wp2
      go_ret
      exact ⟨rfl, below_reg (below_alloc (Below.refl _ _) _) _ _⟩
    · have hmb : (n == -9223372036854775808) = false := by simpa using hm
      obtain ⟨e, rfl⟩ := Int.eq_ofNat_of_zero_le (show 0 ≤ d by omega)
      by_cases hg : 1 < Nat.gcd e n.natAbs
      · have hch : chk n e = 8 := by unfold chk; rw [if_pos (.inr (.inr (by simpa using hg)))]
        rw [hch]
        clear hm
        go_enter Try.func57, Try.ntmps57
        go_wp2
        refine wp_region_quiet_below (by kernel_rfl) (by kernel_rfl) ?_
        repeat (go_big_quiet_step (first | (go_at_call 58; (with_reducible refine Calls.regrown_of (abs_any _ _ ?_ ?_)); omega; omega) | (go_at_call 72; (with_reducible refine Calls.regrown_of (gcd_any _ _ _)))))
        refine wpQuiet_nil ?_
        intro _ hw'
        obtain ⟨⟨dq, osq⟩, hw''⟩ := hw'
        subst hw''
        go_wp2
        go_ret
        exact ⟨rfl, below_reg (below_alloc (Below.refl _ _) _) _ _⟩
      · have hch : chk n e = 0 := by unfold chk; rw [if_neg (by rintro (h | h | h) <;> first | omega | exact hm h | exact hg (by simpa using h))]
        rw [hch]
        clear hm
        go_enter Try.func57, Try.ntmps57
        go_wp2
        refine wp_region_quiet_below (by kernel_rfl) (by kernel_rfl) ?_
        repeat (go_big_quiet_step (first | (go_at_call 58; (with_reducible refine Calls.regrown_of (abs_any _ _ ?_ ?_)); omega; omega) | (go_at_call 72; (with_reducible refine Calls.regrown_of (gcd_any _ _ _)))))
        refine wpQuiet_nil ?_
        intro _ hw'
        obtain ⟨⟨dq, osq⟩, hw''⟩ := hw'
        subst hw''
        go_wp2
        go_ret
        exact ⟨rfl, below_reg (below_alloc (Below.refl _ _) _) _ _⟩
end Go.Proofs.Ytjbnfoipjnkjdaa

/-
  DERIVED: THE SHELF's CONTRACTS AT THIS DUMP, IN PLAIN WORDS (tools/lay-plain.mjs out of 'TryShelf.lean', which tools/lay-shelf.mjs wrote): THE SAME DECLARATIONS UNDER THE SAME NAMES: 'import', 'namespace', 'open', 'def', 'theorem' AND NOTHING ELSE: no command of the shelf's: FOR A HAND-IN. Each laying: the table of numbers ('.._ren') and one theorem, a field a fact of the dump's own or the kernel's comparison; each contract: ONE APPLICATION.
-/
namespace Go.Proofs
open Go.Shelf
def Try.lays128_ren : Go.Shelf.Ren := ⟨fun | 128 => 97 | n => n, fun | 51 => 148 | 3 => 3 | 4 => 4 | 46 => 111 | 5 => 5 | 9 => 9 | n => n, fun | n => n⟩
theorem Try.lays128 : Go.Proofs.Lays.n128 Try.prog Try.lays128_ren := {
  mixed := by kernel_rfl
  f128 := Try.func97.trans (congrArg some (by kernel_rfl))
  t3 := Try.underlying3
  a3 := Try.isAgg3
  z3 := Try.sizeOf3
  v3 := Try.zeroValue3
  t4 := Try.underlying4
  a4 := Try.isAgg4
  z4 := Try.sizeOf4
  v4 := Try.zeroValue4
  t5 := Try.underlying5
  a5 := Try.isAgg5
  z5 := Try.sizeOf5
  v5 := Try.zeroValue5
  t9 := Try.underlying9
  a9 := Try.isAgg9
  z9 := Try.sizeOf9
  v9 := Try.zeroValue9
  t46 := Try.underlying111
  a46 := Try.isAgg111
  z46 := Try.sizeOf111
  v46 := Try.zeroValue111
  t51 := Try.underlying148
  a51 := Try.isAgg148
  z51 := Try.sizeOf148
  v51 := Try.zeroValue148 }
/-- bits.Len32: "Len32 returns the minimum number of bits required to represent x; the result is 0 for x == 0.": IT RETURNS 'Lib.bitLen x'; the world is as it was. ('h0', 'h1': x is a uint32.) (LAID: no walk: one application.) -/
theorem Try.bits_Len32 (x : Int) (w : World) (h0 : 0 ≤ x) (h1 : x ≤ 4294967295) :
    Calls Try.prog 97 #[.int .u32 x] w fun e w' => e = .returned (.int .i64 (Lib.bitLen x.toNat)) ∧ w' = w := Any.bits_Len32 Try.lays128 x w h0 h1
def Try.lays125_ren : Go.Shelf.Ren := ⟨fun | 125 => 82 | 128 => 97 | 129 => 98 | n => n, fun | 46 => 111 | 3 => 3 | 51 => 148 | 53 => 98 | 4 => 4 | 5 => 5 | 9 => 9 | n => n, fun | n => n⟩
theorem Try.lays125 : Go.Proofs.Lays.n125 Try.prog Try.lays125_ren := {
  mixed := by kernel_rfl
  f125 := Try.func82.trans (congrArg some (by kernel_rfl))
  f128 := Try.func97.trans (congrArg some (by kernel_rfl))
  f129 := Try.func98.trans (congrArg some (by kernel_rfl))
  t3 := Try.underlying3
  a3 := Try.isAgg3
  z3 := Try.sizeOf3
  v3 := Try.zeroValue3
  t4 := Try.underlying4
  a4 := Try.isAgg4
  z4 := Try.sizeOf4
  v4 := Try.zeroValue4
  t5 := Try.underlying5
  a5 := Try.isAgg5
  z5 := Try.sizeOf5
  v5 := Try.zeroValue5
  t9 := Try.underlying9
  a9 := Try.isAgg9
  z9 := Try.sizeOf9
  v9 := Try.zeroValue9
  t46 := Try.underlying111
  a46 := Try.isAgg111
  z46 := Try.sizeOf111
  v46 := Try.zeroValue111
  t51 := Try.underlying148
  a51 := Try.isAgg148
  z51 := Try.sizeOf148
  v51 := Try.zeroValue148
  t53 := Try.underlying98
  a53 := Try.isAgg98
  z53 := Try.sizeOf98
  v53 := Try.zeroValue98 }
/-- bits.Len: "Len returns the minimum number of bits required to represent x; the result is 0 for x == 0.": IT RETURNS 'Lib.bitLen x'; the world is as it was. (A uint has 64 bits in the model.) ITS CALLEE bits.Len64 IS MET BY ITS OWN CONTRACT OFF THE SHELF (lay that first). (LAID: no walk: one application.) -/
theorem Try.bits_Len (x : Int) (w : World) (h0 : 0 ≤ x) (h1 : x ≤ 18446744073709551615) :
    Calls Try.prog 82 #[.int .u64 x] w fun e w' => e = .returned (.int .i64 (Lib.bitLen x.toNat)) ∧ w' = w := Any.bits_Len Try.lays125 x w h0 h1
def Try.lays215_ren : Go.Shelf.Ren := ⟨fun | 215 => 102 | n => n, fun | 3 => 3 | 4 => 4 | n => n, fun | n => n⟩
theorem Try.lays215 : Go.Proofs.Lays.n215 Try.prog Try.lays215_ren := {
  mixed := by kernel_rfl
  f215 := Try.func102.trans (congrArg some (by kernel_rfl))
  t3 := Try.underlying3
  a3 := Try.isAgg3
  z3 := Try.sizeOf3
  v3 := Try.zeroValue3
  t4 := Try.underlying4
  a4 := Try.isAgg4
  z4 := Try.sizeOf4
  v4 := Try.zeroValue4 }
open Go.RowKit in
/-- cmp.isNaN at int: 'x != x': false. (LAID: no walk: one application.) -/
theorem Try.cmp_isNaN_int (x : Int) (w : World) :
    Calls Try.prog 102 #[.int .i64 x] w fun e w' => e = .returned (.bool false) ∧ w' = w := Any.cmp_isNaN_int Try.lays215 x w
def Try.lays122_ren : Go.Shelf.Ren := ⟨fun | 122 => 88 | 215 => 102 | n => n, fun | 3 => 3 | 4 => 4 | n => n, fun | n => n⟩
theorem Try.lays122 : Go.Proofs.Lays.n122 Try.prog Try.lays122_ren := {
  mixed := by kernel_rfl
  f122 := Try.func88.trans (congrArg some (by kernel_rfl))
  f215 := Try.func102.trans (congrArg some (by kernel_rfl))
  t3 := Try.underlying3
  a3 := Try.isAgg3
  z3 := Try.sizeOf3
  v3 := Try.zeroValue3
  t4 := Try.underlying4
  a4 := Try.isAgg4
  z4 := Try.sizeOf4
  v4 := Try.zeroValue4 }
open Go.RowKit in
/-- cmp.Compare at int: "Compare returns -1 if x is less than y, 0 if x equals y, +1 if x is greater than y.": IT RETURNS 'Lib.compareInt x y'; the world is as it was. (LAID: no walk: one application.) -/
theorem Try.cmp_Compare_int (x y : Int) (w : World) :
    Calls Try.prog 88 #[.int .i64 x, .int .i64 y] w fun e w' => e = .returned (.int .i64 (Lib.compareInt x y)) ∧ w' = w := Any.cmp_Compare_int Try.lays122 x y w
def Try.lays129_ren : Go.Shelf.Ren := ⟨fun | 129 => 98 | n => n, fun | 53 => 98 | 3 => 3 | 4 => 4 | 46 => 111 | 5 => 5 | 9 => 9 | n => n, fun | n => n⟩
theorem Try.lays129 : Go.Proofs.Lays.n129 Try.prog Try.lays129_ren := {
  mixed := by kernel_rfl
  f129 := Try.func98.trans (congrArg some (by kernel_rfl))
  t3 := Try.underlying3
  a3 := Try.isAgg3
  z3 := Try.sizeOf3
  v3 := Try.zeroValue3
  t4 := Try.underlying4
  a4 := Try.isAgg4
  z4 := Try.sizeOf4
  v4 := Try.zeroValue4
  t5 := Try.underlying5
  a5 := Try.isAgg5
  z5 := Try.sizeOf5
  v5 := Try.zeroValue5
  t9 := Try.underlying9
  a9 := Try.isAgg9
  z9 := Try.sizeOf9
  v9 := Try.zeroValue9
  t46 := Try.underlying111
  a46 := Try.isAgg111
  z46 := Try.sizeOf111
  v46 := Try.zeroValue111
  t53 := Try.underlying98
  a53 := Try.isAgg98
  z53 := Try.sizeOf98
  v53 := Try.zeroValue98 }
/-- bits.Len64: "Len64 returns the minimum number of bits required to represent x; the result is 0 for x == 0.": IT RETURNS 'Lib.bitLen x'; the world is as it was. ('h0', 'h1': x is a uint64.) (LAID: no walk: one application.) -/
theorem Try.bits_Len64 (x : Int) (w : World) (h0 : 0 ≤ x) (h1 : x ≤ 18446744073709551615) :
    Calls Try.prog 98 #[.int .u64 x] w fun e w' => e = .returned (.int .i64 (Lib.bitLen x.toNat)) ∧ w' = w := Any.bits_Len64 Try.lays129 x w h0 h1
def Try.lays264_ren : Go.Shelf.Ren := ⟨fun | 264 => 69 | n => n, fun | 53 => 98 | 46 => 111 | n => n, fun | n => n⟩
theorem Try.lays264 : Go.Proofs.Lays.n264 Try.prog Try.lays264_ren := {
  mixed := by kernel_rfl
  f264 := Try.func69.trans (congrArg some (by kernel_rfl))
  t46 := Try.underlying111
  a46 := Try.isAgg111
  z46 := Try.sizeOf111
  v46 := Try.zeroValue111
  t53 := Try.underlying98
  a53 := Try.isAgg98
  z53 := Try.sizeOf98
  v53 := Try.zeroValue98 }
open Go.RowKit Go.Lib in
theorem Try.bits_Mul64 (x y : Nat) (hx : x < 18446744073709551616) (hy : y < 18446744073709551616) (w : World) :
    Calls Try.prog 69 #[.int .u64 x, .int .u64 y] w fun e w' => e = .returned (.tuple #[.int .u64 ((x * y / 18446744073709551616 : Nat) : Int), .int .u64 ((x * y % 18446744073709551616 : Nat) : Int)]) ∧ w' = w := Any.bits_Mul64 Try.lays264 x y hx hy w
def Try.laysNm237_ren : Go.Shelf.Ren := ⟨fun | 37 => 102 | n => n, fun | 3 => 3 | 4 => 4 | n => n, fun | n => n⟩
theorem Try.laysNm237 : Go.Proofs.Lays2.n37 Try.prog Try.laysNm237_ren := {
  mixed := by kernel_rfl
  f37 := Try.func102.trans (congrArg some (by kernel_rfl))
  t3 := Try.underlying3
  a3 := Try.isAgg3
  z3 := Try.sizeOf3
  v3 := Try.zeroValue3
  t4 := Try.underlying4
  a4 := Try.isAgg4
  z4 := Try.sizeOf4
  v4 := Try.zeroValue4 }
open Go.RowKit Go.Lib in
/-- cmp.isNaN[int]: 'x != x': false. (LAID: no walk: one application.) -/
theorem Try.cmp_isNaN_int2 (x : Int) (w : World) :
    Calls Try.prog 102 #[.int .i64 x] w fun e w' => e = .returned (.bool false) ∧ w' = w := Any.cmp_isNaN_int2 Try.laysNm237 x w
def Try.laysSlN68_f67_ren : Go.Shelf.Ren := ⟨fun | 68 => 67 | n => n, fun | 23 => 2 | 4 => 4 | n => n, fun | n => n⟩
theorem Try.laysSlN68_f67 : Go.Proofs.SlLaysN.n68 Try.prog Try.laysSlN68_f67_ren := {
  mixed := by kernel_rfl
  f68 := ⟨Try.f67.name, by decide, Try.func67.trans (congrArg some (by kernel_rfl))⟩
  t4 := Try.underlying4
  a4 := Try.isAgg4
  z4 := Try.sizeOf4
  v4 := Try.zeroValue4
  t23 := Try.underlying2
  a23 := Try.isAgg2
  z23 := Try.sizeOf2
  v23 := Try.zeroValue2 }
open Go.RowKit Go.Lib in
/-- cmp.isNaN[int]: 'x != x': false. (LAID AT THE INSTANCE 'cmp.isNaN[int64]': no walk: one application.) -/
theorem Try.cmp_isNaN_int2_f67 (x : Int) (w : World) :
    Calls Try.prog 67 #[.int .i64 x] w fun e w' => e = .returned (.bool false) ∧ w' = w := AnyG.cmp_isNaN_int2 Try.laysSlN68_f67 x w
end Go.Proofs



/- What Asked, both, times, compare, cmp.Compare of package ratio compute, step by step (walks). For every argument that is a number of its type. -/
namespace Go.Proofs.Ytjbnfoipjnkjdaa
open Go.RowKit Go.Sort

def askd (n d : Int) : Int := if chk n d ≠ 0 then chk n d else if 1073741824 < n.natAbs ∨ 1024 < d then 2 else 0

theorem chk_08 (n d : Int) : chk n d = 0 ∨ chk n d = 8 := by unfold chk; split <;> simp

theorem asked_any (n d : Int) (w : World) (h0 : -9223372036854775808 ≤ n) (h1 : n ≤ 9223372036854775807) (h2 : -9223372036854775808 ≤ d) (h3 : d ≤ 9223372036854775807) :
    Calls Try.prog 35 #[.agg #[.int .i64 n, .int .i64 d]] w fun e w' => e = .returned (.int .i64 (askd n d)) ∧ Below w.heap.size w w' := by
  cases hn : decide ((1073741824 : Int) < (n.natAbs : Nat)) <;> cases hd : decide (1024 < d)
  all_goals
    go_enter Try.func35, Try.ntmps35
    go_wp2_with (first | (go_at_call 57; (with_reducible refine cmono ?_ (check_any _ _ _ ?_ ?_ ?_ ?_)); rotate_left; omega; omega; omega; omega; rintro e w' ⟨rfl, hbc0⟩; obtain ⟨⟨dc0, osc0⟩, rfl⟩ := regrown_of_below hbc0; clear hbc0) | (go_at_call 58; (with_reducible refine cmono ?_ (abs_any _ _ ?_ ?_)); rotate_left; omega; omega; rintro e w' ⟨rfl, hbc1⟩; obtain ⟨⟨dc1, osc1⟩, rfl⟩ := regrown_of_below hbc1; clear hbc1) | ((with_reducible refine wp_region_quiet_below ?_ ?_ ?_); kernel_rfl; kernel_rfl; (repeat (go_big_quiet_step (first | (go_at_call 57; (with_reducible refine Calls.regrown_of (check_any _ _ _ ?_ ?_ ?_ ?_)); omega; omega; omega; omega) | (go_at_call 58; (with_reducible refine Calls.regrown_of (abs_any _ _ ?_ ?_)); omega; omega)))); refine wpQuiet_nil ?_; intro _ hw'; obtain ⟨⟨dq, osq⟩, hw''⟩ := hw'; subst hw''))
    all_goals (go_ret; refine ⟨ret_int ?_, (by repeat (first | exact Below.refl _ _ | refine below_reg ?_ _ _ | refine below_alloc ?_ _ | exact below_drewN ?_ _ | assumption))⟩)
    all_goals (simp only [bne_iff_ne, bne_eq_false_iff_eq, decide_eq_true_eq, decide_eq_false_iff_not, ne_eq] at *)
    all_goals (unfold askd; (first | rw [if_pos (by omega)] | rw [if_neg (by omega)]))
    all_goals (first | rfl | (rw [if_pos (by omega)]; done) | (rw [if_neg (by omega)]; done))

def bth (n d m e : Int) : Int := if chk n d = 0 then chk m e else 8

theorem both_any (n d m e : Int) (w : World) (h0 : -9223372036854775808 ≤ n) (h1 : n ≤ 9223372036854775807) (h2 : -9223372036854775808 ≤ d) (h3 : d ≤ 9223372036854775807)
    (k0 : -9223372036854775808 ≤ m) (k1 : m ≤ 9223372036854775807) (k2 : -9223372036854775808 ≤ e) (k3 : e ≤ 9223372036854775807) :
    Calls Try.prog 49 #[.agg #[.int .i64 n, .int .i64 d], .agg #[.int .i64 m, .int .i64 e]] w fun en w' => en = .returned (.int .i64 (bth n d m e)) ∧ Below w.heap.size w w' := by
  go_enter Try.func49, Try.ntmps49
  go_wp2_with (first | (go_at_call 57; (with_reducible refine cmono ?_ (check_any _ _ _ ?_ ?_ ?_ ?_)); rotate_left; omega; omega; omega; omega; rintro e w' ⟨rfl, hbc0⟩; obtain ⟨⟨dc0, osc0⟩, rfl⟩ := regrown_of_below hbc0; clear hbc0) | ((with_reducible refine wp_region_quiet_below ?_ ?_ ?_); kernel_rfl; kernel_rfl; (repeat (go_big_quiet_step (first | (go_at_call 57; (with_reducible refine Calls.regrown_of (check_any _ _ _ ?_ ?_ ?_ ?_)); omega; omega; omega; omega)))); refine wpQuiet_nil ?_; intro _ hw'; obtain ⟨⟨dq, osq⟩, hw''⟩ := hw'; subst hw''))
  go_ret
  refine ⟨ret_int ?_, (by repeat (first | exact Below.refl _ _ | refine below_reg ?_ _ _ | refine below_alloc ?_ _ | exact below_drewN ?_ _ | assumption))⟩
  unfold bth
  have c1 := chk_08 n d
  have c2 := chk_08 m e
  rcases c1 with c1 | c1 <;> rcases c2 with c2 | c2 <;> rw [c1, c2] <;> rfl

/-- -1, 0 or 1 -/
def cmpN (a b : Int) : Int := if a < b then -1 else if b < a then 1 else 0

theorem cmpi_any (n m : Int) (w : World) :
    Calls Try.prog 50 #[.int .i64 n, .int .i64 m] w fun en w' => en = .returned (.int .i64 (cmpN n m)) ∧ Below w.heap.size w w' := by
  go_enter Try.func50, Try.ntmps50
  go_wp2_with (first | go_in | ((with_reducible refine wp_region_quiet_below ?_ ?_ ?_); kernel_rfl; kernel_rfl; (repeat (go_big_quiet_step (fail))); refine wpQuiet_nil ?_; intro _ hw'; obtain ⟨⟨dq, osq⟩, hw''⟩ := hw'; subst hw''))
  all_goals (go_ret; refine ⟨ret_int ?_, (by repeat (first | exact Below.refl _ _ | refine below_reg ?_ _ _ | refine below_alloc ?_ _ | exact below_drewN ?_ _ | assumption))⟩)
  all_goals (unfold cmpN; (repeat' split) <;> omega)

theorem cmpu_any (n m : Int) (w : World) :
    Calls Try.prog 68 #[.int .u64 n, .int .u64 m] w fun en w' => en = .returned (.int .i64 (cmpN n m)) ∧ Below w.heap.size w w' := by
  go_enter Try.func68, Try.ntmps68
  go_wp2_with (first | go_in | ((with_reducible refine wp_region_quiet_below ?_ ?_ ?_); kernel_rfl; kernel_rfl; (repeat (go_big_quiet_step (fail))); refine wpQuiet_nil ?_; intro _ hw'; obtain ⟨⟨dq, osq⟩, hw''⟩ := hw'; subst hw''))
  all_goals (go_ret; refine ⟨ret_int ?_, (by repeat (first | exact Below.refl _ _ | refine below_reg ?_ _ _ | refine below_alloc ?_ _ | exact below_drewN ?_ _ | assumption))⟩)
  all_goals (unfold cmpN; (repeat' split) <;> omega)

theorem times_any (a b : Int) (w : World)  (h0 : -9223372036854775808 ≤ a) (h1 : a ≤ 9223372036854775807) (h2 : -9223372036854775808 ≤ b) (h3 : b ≤ 9223372036854775807) :
    Calls Try.prog 52 #[.int .i64 a, .int .i64 b] w fun en w' => en = .returned (.agg #[.bool (decide (a < 0) != decide (b < 0)), .int .u64 (a.natAbs * b.natAbs / 18446744073709551616 : Nat), .int .u64 (a.natAbs * b.natAbs % 18446744073709551616 : Nat)]) ∧ Below w.heap.size w w' := by
  go_enter Try.func52, Try.ntmps52
  go_wp2_with (first | (go_at_call 69; refine (Try.bits_Mul64 _ _ (by omega) (by omega) _).mono ?_; rintro e w' ⟨rfl, rfl⟩) | (go_at_call 58; (with_reducible refine cmono ?_ (abs_any _ _ ?_ ?_)); rotate_left; omega; omega; rintro e w' ⟨rfl, hbc0⟩; obtain ⟨⟨dc0, osc0⟩, rfl⟩ := regrown_of_below hbc0; clear hbc0) | ((with_reducible refine wp_region_quiet_below ?_ ?_ ?_); kernel_rfl; kernel_rfl; (repeat (go_big_quiet_step (first | (go_at_call 58; (with_reducible refine Calls.regrown_of (abs_any _ _ ?_ ?_)); omega; omega)))); refine wpQuiet_nil ?_; intro _ hw'; obtain ⟨⟨dq, osq⟩, hw''⟩ := hw'; subst hw''))
  refine bodyPost_ret (v := .agg #[.bool (decide (a < 0) != decide (b < 0)), .int .u64 (a.natAbs * b.natAbs / 18446744073709551616 : Nat), .int .u64 (a.natAbs * b.natAbs % 18446744073709551616 : Nat)]) (by simp [results, Try.results52, go_sem]; cases decide (a < 0) <;> cases decide (b < 0) <;> rfl) rfl ⟨rfl, (by repeat (first | exact Below.refl _ _ | refine below_reg ?_ _ _ | refine below_alloc ?_ _ | exact below_drewN ?_ _ | assumption))⟩

theorem cmpN_hi (a b c d : Nat) (hb : b < 18446744073709551616) (hd : d < 18446744073709551616) :
    cmpN ((a * 18446744073709551616 + b : Nat) : Int) ((c * 18446744073709551616 + d : Nat) : Int) = if cmpN (a : Int) c != 0 then cmpN (a : Int) c else cmpN (b : Int) d := by
  unfold cmpN
  (repeat' split) <;> first | rfl | omega | (exfalso; simp_all; done) | (exfalso; simp_all; omega)

theorem compare_any (x y : Bool) (a b c d : Nat) (w : World) (hb : b < 18446744073709551616) (hd : d < 18446744073709551616) :
    Calls Try.prog 51 #[.agg #[.bool x, .int .u64 a, .int .u64 b], .agg #[.bool y, .int .u64 c, .int .u64 d]] w fun en w' => en = .returned (.int .i64 (cmpN ((a * 18446744073709551616 + b : Nat) : Int) ((c * 18446744073709551616 + d : Nat) : Int))) ∧ Below w.heap.size w w' := by
  go_enter Try.func51, Try.ntmps51
  go_wp2_with (first | (go_at_call 68; (with_reducible refine cmono ?_ (cmpu_any _ _ _)); rotate_left; rintro e w' ⟨rfl, hbc0⟩; obtain ⟨⟨dc0, osc0⟩, rfl⟩ := regrown_of_below hbc0; clear hbc0) | ((with_reducible refine wp_region_quiet_below ?_ ?_ ?_); kernel_rfl; kernel_rfl; (repeat (go_big_quiet_step (first | (go_at_call 68; (with_reducible refine Calls.regrown_of (cmpu_any _ _ _)))))); refine wpQuiet_nil ?_; intro _ hw'; obtain ⟨⟨dq, osq⟩, hw''⟩ := hw'; subst hw''))
  all_goals (go_ret; refine ⟨ret_int ?_, (by repeat (first | exact Below.refl _ _ | refine below_reg ?_ _ _ | refine below_alloc ?_ _ | exact below_drewN ?_ _ | assumption))⟩)
  all_goals (rw [cmpN_hi a b c d hb hd]; simp [*])

end Go.Proofs.Ytjbnfoipjnkjdaa



/- What plus of package ratio computes, step by step (a walk). For absolute values of 128 bits. -/
namespace Go.Proofs.Ytjbnfoipjnkjdaa
open Go.RowKit Go.Sort

theorem run_Add64 (x y c : Nat) (hc : c ≤ 1) (w : World) :
    (callFunc 108 #[.int .u64 x, .int .u64 y, .int .u64 c]).run Try.prog w = .ok (.value (.tuple #[.int .u64 ((x + y + c) % 18446744073709551616 : Nat), .int .u64 ((x + y + c) / 18446744073709551616 : Nat)])) w := by
  rw [run_callFunc_extern Try.func108 (by kernel_rfl) (by kernel_rfl) (by kernel_rfl) (e := add64Entry) (by kernel_rfl), run_add64 x y c (by omega) (by omega) (by omega) (by omega)]
  simp only [Result.andThen]
  congr 5 <;> omega

/-- the sum of two numbers with signs: its absolute value, and its sign -/
def plusM (x y : Bool) (m n : Nat) : Nat := if x = y then m + n else if m < n then n - m else m - n
def plusS (x y : Bool) (m n : Nat) : Bool := if x = y then x else if m < n then y else x

end Go.Proofs.Ytjbnfoipjnkjdaa

/- Plain lemmas on the division of 128 bits by 64, in two steps of 32 bits. No program is named. -/
namespace Go.Proofs.Ytjbnfoipjnkjdaa

theorem kn_le (y1 y0 u un q r : Nat) (hu : u = q * y1 + r) : q * y0 ≤ 4294967296 * r + un ↔ q * (y1 * 4294967296 + y0) ≤ u * 4294967296 + un := by
  have e1 : u * 4294967296 = q * y1 * 4294967296 + r * 4294967296 := by rw [hu, Nat.add_mul]
  have e2 : q * (y1 * 4294967296 + y0) = q * y1 * 4294967296 + q * y0 := by rw [Nat.mul_add, Nat.mul_assoc]
  omega

theorem kn_done (y n q : Nat) (hy : 0 < y) (h1 : q * y ≤ n) (h2 : n / y ≤ q) : q = n / y :=
  Nat.le_antisymm ((Nat.le_div_iff_mul_le hy).2 h1) h2

theorem kn_start (y1 y0 u un : Nat) (hy : 0 < y1) (hun : un < 4294967296) : (u * 4294967296 + un) / (y1 * 4294967296 + y0) ≤ u / y1 := by
  have h1 : (u * 4294967296 + un) / (y1 * 4294967296 + y0) ≤ (u * 4294967296 + un) / (4294967296 * y1) :=
    Nat.div_le_div_left (by omega) (by omega)
  rw [← Nat.div_div_eq_div_mul] at h1
  have h2 : (u * 4294967296 + un) / 4294967296 = u := by omega
  rw [h2] at h1
  exact h1

theorem kn_less (y u un : Nat) (hu : u < y) (hun : un < 4294967296) : (u * 4294967296 + un) / y < 4294967296 := by
  rw [Nat.div_lt_iff_lt_mul (by omega)]
  have : (u + 1) * 4294967296 ≤ y * 4294967296 := Nat.mul_le_mul_right _ hu
  have : 4294967296 * y = y * 4294967296 := Nat.mul_comm _ _
  omega

theorem kn_dec (y n q : Nat) (hy : 0 < y) (h : ¬ q * y ≤ n) : n / y < q := by
  rw [Nat.div_lt_iff_lt_mul hy]
  omega

theorem kn_break (y1 y0 u un q r : Nat) (hu : u = q * y1 + r) (hy : u < y1 * 4294967296 + y0) (h0 : y0 < 4294967296) (hr : 4294967296 ≤ r) : q * (y1 * 4294967296 + y0) ≤ u * 4294967296 + un := by
  rw [← kn_le y1 y0 u un q r hu]
  have hq : q < 4294967296 := by
    have h1 : q * y1 < 4294967296 * y1 := by omega
    exact Nat.lt_of_mul_lt_mul_right h1
  have h2 : q * y0 ≤ 4294967296 * 4294967296 := Nat.mul_le_mul (by omega) (by omega)
  omega

theorem kn_rem (u y1 : Nat) (hu : u < 18446744073709551616) : IntKind.u64.wrap ((u : Int) - IntKind.u64.wrap ((u : Int) / (y1 : Int) * (y1 : Int))) = ((u % y1 : Nat) : Int) := by
  have e : (u : Int) / (y1 : Int) * (y1 : Int) = ((u / y1 * y1 : Nat) : Int) := by simp
  have h := Nat.div_add_mod u y1
  rw [Nat.mul_comm] at h
  rw [e, IntKind.wrap_u64, IntKind.wrap_u64]
  generalize u / y1 * y1 = p at *
  omega

/-- the loop's test says no more than that q is too great -/
theorem kn_exit (Y y1 y0 u v1 q r : Nat) (hY : Y = y1 * 4294967296 + y0) (hy : 0 < Y) (hu : u = q * y1 + r) (hq : (u * 4294967296 + v1) / Y ≤ q) (ht : ¬ 4294967296 * r + v1 < q * y0) : q = (u * 4294967296 + v1) / Y :=
  kn_done Y _ q hy (by rw [hY]; exact (kn_le y1 y0 u v1 q r hu).1 (by omega)) hq
theorem kn_next (Y y1 y0 u v1 q r : Nat) (hY : Y = y1 * 4294967296 + y0) (hy : 0 < Y) (huY : u < Y) (hv : v1 < 4294967296) (hu : u = q * y1 + r) (ht : 4294967296 ≤ q ∨ 4294967296 * r + v1 < q * y0) :
    (u * 4294967296 + v1) / Y < q := by
  rcases ht with ht | ht
  · have := kn_less Y u v1 huY hv; omega
  · refine kn_dec Y _ q hy ?_
    rw [hY, ← kn_le y1 y0 u v1 q r hu]
    omega
theorem kn_down (y1 u q r : Nat) (hq : 0 < q) (hu : u = q * y1 + r) : u = (q - 1) * y1 + (r + y1) := by
  obtain ⟨k, rfl⟩ : ∃ k, q = k + 1 := ⟨q - 1, by omega⟩
  rw [Nat.add_mul] at hu
  simp only [Nat.add_sub_cancel]
  omega

/-- the shifted number: its high and its low word -/
theorem kn_shift (hi lo y s : Nat) (hs : s < 64) (hy : hi < y) (hlo : lo < 18446744073709551616) :
    hi * 2 ^ s ||| lo / 2 ^ (64 - s) = hi * 2 ^ s + lo / 2 ^ (64 - s) ∧
    (hi * 2 ^ s + lo / 2 ^ (64 - s)) * 18446744073709551616 + lo * 2 ^ s % 18446744073709551616 = (hi * 18446744073709551616 + lo) * 2 ^ s ∧ hi * 2 ^ s + lo / 2 ^ (64 - s) < y * 2 ^ s := by
  have hp : 2 ^ (64 - s) * 2 ^ s = 18446744073709551616 := by rw [← Nat.pow_add, show 64 - s + s = 64 by omega]
  have hps : 0 < 2 ^ s := Nat.two_pow_pos _
  generalize 2 ^ (64 - s) = B at *
  have hb : lo / B < 2 ^ s := by
    rw [Nat.div_lt_iff_lt_mul (by rcases Nat.eq_zero_or_pos B with h | h; · rw [h] at hp; omega
                                  · exact h)]
    rw [Nat.mul_comm]; omega
  have h1 : hi * 2 ^ s ||| lo / B = hi * 2 ^ s + lo / B := by
    rw [Nat.mul_comm, Nat.two_pow_add_eq_or_of_lt hb]
  have h2 : lo * 2 ^ s / 18446744073709551616 = lo / B := by
    rw [← hp]; exact Nat.mul_div_mul_right _ _ hps
  have h3 : (hi * 2 ^ s + lo / B) * 18446744073709551616 + lo * 2 ^ s % 18446744073709551616 = (hi * 18446744073709551616 + lo) * 2 ^ s := by
    have e1 : (hi * 18446744073709551616 + lo) * 2 ^ s = hi * 18446744073709551616 * 2 ^ s + lo * 2 ^ s := Nat.add_mul _ _ _
    have e2 : hi * 18446744073709551616 * 2 ^ s = hi * 2 ^ s * 18446744073709551616 := by rw [Nat.mul_assoc, Nat.mul_comm 18446744073709551616, ← Nat.mul_assoc]
    omega
  refine ⟨h1, h3, ?_⟩
  have h4 : (hi * 18446744073709551616 + lo) * 2 ^ s < y * 18446744073709551616 * 2 ^ s := Nat.mul_lt_mul_of_pos_right (by omega) hps
  have h5 : y * 18446744073709551616 * 2 ^ s = y * 2 ^ s * 18446744073709551616 := by rw [Nat.mul_assoc, Nat.mul_comm 18446744073709551616, ← Nat.mul_assoc]
  omega

/-- what is left, reckoned with wraps -/
theorem kn_left (u v1 q Y : Nat) (hq : q = (u * 4294967296 + v1) / Y) (hY : 0 < Y) (hYb : Y < 18446744073709551616) :
    IntKind.u64.wrap (IntKind.u64.wrap (IntKind.u64.wrap ((u : Int) * 4294967296) + (v1 : Int)) - IntKind.u64.wrap ((q : Int) * (Y : Int))) = (((u * 4294967296 + v1) % Y : Nat) : Int) := by
  have e : (q : Int) * (Y : Int) = ((q * Y : Nat) : Int) := by simp
  have h := Nat.div_add_mod (u * 4294967296 + v1) Y
  have hl := Nat.mod_lt (u * 4294967296 + v1) hY
  rw [← hq, Nat.mul_comm] at h
  rw [e]
  generalize (u * 4294967296 + v1) % Y = m at *
  generalize q * Y = p at *
  simp only [IntKind.wrap_u64]
  omega

/-- two steps make the whole -/
theorem kn_two (b y n un0 : Nat) (hy : 0 < y) :
    (n * b + un0) / y = n / y * b + (n % y * b + un0) / y ∧ (n * b + un0) % y = (n % y * b + un0) % y := by
  have e : n * b + un0 = (n % y * b + un0) + y * (n / y * b) := by
    have h := Nat.div_add_mod n y
    have h2 : n * b = y * (n / y) * b + n % y * b := by rw [← Nat.add_mul, h]
    rw [Nat.mul_assoc] at h2
    omega
  rw [e, Nat.add_mul_div_left _ _ hy, Nat.add_mul_mod_self_left]
  exact ⟨Nat.add_comm _ _, rfl⟩

theorem kn_join (u v v1 v0 n up : Nat) (hU : u * 18446744073709551616 + v = up) (hV : v = v1 * 4294967296 + v0) (hn : n = u * 4294967296 + v1) : n * 4294967296 + v0 = up := by
  subst hn hV hU
  rw [Nat.add_mul, Nat.mul_assoc]
  omega

/-- both steps, and the shift undone -/
theorem kn_fin (U y Y u v v1 v0 m q1 q2 x s : Nat) (hU : u * 18446744073709551616 + v = U * 2 ^ s) (hV : v = v1 * 4294967296 + v0) (hY : Y = y * 2 ^ s) (hYp : 0 < Y)
    (h1 : q1 = (u * 4294967296 + v1) / Y) (hm : m = (u * 4294967296 + v1) % Y) (h2 : q2 = (m * 4294967296 + v0) / Y) (hx : x = (m * 4294967296 + v0) % Y) :
    q1 * 4294967296 + q2 = U / y ∧ x / 2 ^ s = U % y := by
  have hp : 0 < 2 ^ s := Nat.two_pow_pos _
  generalize 2 ^ s = p at *
  generalize hUp : U * p = up at *
  obtain ⟨n, hn⟩ : ∃ n, n = u * 4294967296 + v1 := ⟨_, rfl⟩
  rw [← hn] at h1 hm
  have e3 : n * 4294967296 + v0 = U * p := kn_join u v v1 v0 n up hU hV hn |>.trans hUp.symm
  obtain ⟨e1, e2⟩ := kn_two 4294967296 Y n v0 hYp
  rw [e3, ← h1, ← hm, ← h2, hY, Nat.mul_div_mul_right _ _ hp] at e1
  rw [e3, ← hm, ← hx, hY, Nat.mul_mod_mul_right] at e2
  exact ⟨e1.symm, by rw [← e2, Nat.mul_div_cancel _ hp]⟩

theorem hi_of (W q l : Nat) (h : l < W) : (q * W + l) / W = q := by
  rw [Nat.mul_comm, Nat.mul_add_div (by omega), Nat.div_eq_of_lt h, Nat.add_zero]
theorem lo_of (W q l : Nat) (h : l < W) : (q * W + l) % W = l := by
  rw [Nat.mul_comm, Nat.mul_add_mod, Nat.mod_eq_of_lt h]

end Go.Proofs.Ytjbnfoipjnkjdaa



/- What math/bits.Div64 computes, step by step (a walk), where the high part is less than the divisor. -/
namespace Go.Proofs.Ytjbnfoipjnkjdaa
open Go.RowKit Go.Sort

theorem lz_norm (y : Nat) (h0 : 0 < y) (h1 : y < 18446744073709551616) : Lib.bitLen y ≤ 64 ∧ 1 ≤ Lib.bitLen y ∧ 9223372036854775808 ≤ y * 2 ^ (64 - Lib.bitLen y) ∧ y * 2 ^ (64 - Lib.bitLen y) < 18446744073709551616 := by
  have hl : Lib.bitLen y ≤ 64 := Lib.bitLen_le y 64 (by omega) (by omega)
  obtain ⟨a, b, c⟩ := Lib.bitLenAux_bounds 64 y (by omega) (by omega)
  change 1 ≤ Lib.bitLen y at a
  change 2 ^ (Lib.bitLen y - 1) ≤ y at b
  change y < 2 ^ Lib.bitLen y at c
  refine ⟨hl, a, ?_, ?_⟩
  · have h : 2 ^ (Lib.bitLen y - 1) * 2 ^ (64 - Lib.bitLen y) ≤ y * 2 ^ (64 - Lib.bitLen y) := Nat.mul_le_mul_right _ b
    rw [← Nat.pow_add, show Lib.bitLen y - 1 + (64 - Lib.bitLen y) = 63 by omega] at h
    exact h
  · have h : y * 2 ^ (64 - Lib.bitLen y) < 2 ^ Lib.bitLen y * 2 ^ (64 - Lib.bitLen y) := Nat.mul_lt_mul_of_pos_right c (Nat.two_pow_pos _)
    rw [← Nat.pow_add, show Lib.bitLen y + (64 - Lib.bitLen y) = 64 by omega] at h
    exact h

theorem u64_mask32 (a : Nat) (ha : a < 18446744073709551616) : bits .and .u64 (a : Int) 4294967295 = ((a % 4294967296 : Nat) : Int) := by
  have h := u64_and_nat a 4294967295 ha (by omega)
  have h2 : a &&& 4294967295 = a % 4294967296 := Nat.and_two_pow_sub_one_eq_mod a 32
  rw [h2] at h
  exact h

end Go.Proofs.Ytjbnfoipjnkjdaa



/- What over, build, Make, Of of package ratio compute, step by step (walks). -/
namespace Go.Proofs.Ytjbnfoipjnkjdaa
open Go.RowKit Go.Sort

theorem mul64_any (x y : Nat) (w : World) (hx : x < 18446744073709551616) (hy : y < 18446744073709551616) :
    Calls Try.prog 69 #[.int .u64 x, .int .u64 y] w fun e w' => e = .returned (.tuple #[.int .u64 (x * y / 18446744073709551616 : Nat), .int .u64 (x * y % 18446744073709551616 : Nat)]) ∧ Below w.heap.size w w' :=
  (Try.bits_Mul64 x y hx hy w).mono fun e w' ⟨he, hw⟩ => ⟨he, by rw [hw]; exact Below.refl _ _⟩

/-- a fraction with a sign, if it has a place -/
def buildN (neg : Bool) (m d : Nat) : Int × Int × Int :=
  if m ≤ 9223372036854775807 ∧ d ≤ 9223372036854775807 then (if neg then -(m : Int) else m, d, 0) else (0, 0, 16)

end Go.Proofs.Ytjbnfoipjnkjdaa



/- What Add of package ratio computes, step by step (a walk), for valid fractions. -/
namespace Go.Proofs.Ytjbnfoipjnkjdaa
open Go.RowKit Go.Sort

/-- the high and the low word of a number -/
def Two (hi lo m : Nat) : Prop := hi = m / 18446744073709551616 ∧ lo = m % 18446744073709551616
theorem two_mk (m : Nat) : ∃ hi lo, Two hi lo m := ⟨_, _, rfl, rfl⟩
theorem Two.eq {hi lo m : Nat} (h : Two hi lo m) : hi * 18446744073709551616 + lo = m := by
  obtain ⟨rfl, rfl⟩ := h
  have := Nat.div_add_mod m 18446744073709551616
  rw [Nat.mul_comm] at this
  exact this
theorem Two.lo {hi lo m : Nat} (h : Two hi lo m) : lo < 18446744073709551616 := by
  obtain ⟨rfl, rfl⟩ := h
  exact Nat.mod_lt _ (by decide)
theorem Two.hi {hi lo m : Nat} (h : Two hi lo m) (k : Nat) (hm : m < k * 18446744073709551616) : hi < k := by
  obtain ⟨rfl, rfl⟩ := h
  rw [Nat.div_lt_iff_lt_mul (by decide)]
  exact hm

theorem times_two (a : Int) (x hi lo : Nat) (h : Two hi lo (a.natAbs * x)) (w : World) (h0 : -9223372036854775808 ≤ a) (h1 : a ≤ 9223372036854775807) (h3 : x ≤ 9223372036854775807) :
    Calls Try.prog 52 #[.int .i64 a, .int .i64 x] w fun en w' => en = .returned (.agg #[.bool (decide (a < 0)), .int .u64 hi, .int .u64 lo]) ∧ Below w.heap.size w w' := by
  refine (times_any a x w h0 h1 (by omega) (by omega)).mono fun e w' ⟨he, hb⟩ => ⟨?_, hb⟩
  obtain ⟨rfl, rfl⟩ := h
  have hx : decide ((x : Int) < 0) = false := by simp
  rw [he, hx]
  simp

theorem mul64_two (x y hi lo : Nat) (h : Two hi lo (x * y)) (w : World) (hx : x < 18446744073709551616) (hy : y < 18446744073709551616) :
    Calls Try.prog 69 #[.int .u64 x, .int .u64 y] w fun e w' => e = .returned (.tuple #[.int .u64 hi, .int .u64 lo]) ∧ Below w.heap.size w w' := by
  obtain ⟨rfl, rfl⟩ := h
  exact mul64_any x y w hx hy

/-- the sum of p/q and r/t, before it is looked at whether it has a place -/
def addR (p : Int) (q : Nat) (r : Int) (t : Nat) : Int × Int × Int :=
  buildN (plusS (decide (p < 0)) (decide (r < 0)) (p.natAbs * (t / Nat.gcd q t)) (r.natAbs * (q / Nat.gcd q t)))
    (plusM (decide (p < 0)) (decide (r < 0)) (p.natAbs * (t / Nat.gcd q t)) (r.natAbs * (q / Nat.gcd q t)) / Nat.gcd (Nat.gcd q t) (plusM (decide (p < 0)) (decide (r < 0)) (p.natAbs * (t / Nat.gcd q t)) (r.natAbs * (q / Nat.gcd q t)) % Nat.gcd q t))
    (q / Nat.gcd q t * (t / Nat.gcd (Nat.gcd q t) (plusM (decide (p < 0)) (decide (r < 0)) (p.natAbs * (t / Nat.gcd q t)) (r.natAbs * (q / Nat.gcd q t)) % Nat.gcd q t)))

theorem plusM_le (x y : Bool) (m n : Nat) : plusM x y m n ≤ m + n := by unfold plusM; (repeat' split) <;> omega

theorem wrap_small (k : Nat) (h : k ≤ 9223372036854775807) : IntKind.i64.wrap (k : Int) = (k : Int) := by rw [IntKind.wrap_i64]; omega

theorem bth_08 (n d m e : Int) : bth n d m e = 0 ∨ bth n d m e = 8 := by unfold bth; split <;> simp [chk_08]

theorem chk_ok {n d : Int} (h : chk n d = 0) : 1 ≤ d ∧ n ≠ -9223372036854775808 ∧ Nat.gcd d.toNat n.natAbs ≤ 1 := by
  unfold chk at h
  split at h
  · omega
  · omega
theorem bth_ok {n d m e : Int} (h : bth n d m e = 0) : chk n d = 0 ∧ chk m e = 0 := by
  unfold bth at h
  split at h
  · exact ⟨by assumption, h⟩
  · omega

/-- what Add gives: the sum, or an error -/
def addV (p q r t : Int) : Int × Int × Int := if bth p q r t = 0 then addR p q.toNat r t.toNat else (0, 0, 8)

end Go.Proofs.Ytjbnfoipjnkjdaa

/- Plain lemmas on fractions: floors, lowest terms, and the rational numbers that fractions stand for. No program is named. -/
namespace Go.Proofs.Ytjbnfoipjnkjdaa
open Go.RowKit

theorem tdiv_floor (n d : Int) (hd : 1 ≤ d) (h0 : -9223372036854775808 ≤ n) (h1 : n ≤ 9223372036854775807) :
    wrap64 (n.tdiv d * d) = n.tdiv d * d ∧ (n < n.tdiv d * d → n / d = n.tdiv d - 1) ∧ (¬ n < n.tdiv d * d → n / d = n.tdiv d) := by
  have he := Int.tdiv_eq_ediv (a := n) (b := d)
  have hm := Int.emod_add_mul_ediv n d
  have hm0 := Int.emod_nonneg n (show d ≠ 0 by omega)
  have hm1 := Int.emod_lt_of_pos n (show 0 < d by omega)
  rw [Int.mul_comm] at hm
  split at he
  · rename_i hc
    rw [Int.add_zero] at he
    rw [he]
    refine ⟨?_, fun h => by omega, fun _ => rfl⟩
    refine IntWalk.wrap64_in _ ?_
    all_goals
      rcases hc with hc | hc
      · have : 0 ≤ n / d * d := Int.mul_nonneg (Int.ediv_nonneg hc (by omega)) (by omega)
        omega
      · have := Int.ediv_mul_cancel hc
        omega
  · rename_i hc
    have hs : d.sign = 1 := Int.sign_eq_one_of_pos (by omega)
    rw [hs] at he
    rw [he, Int.add_mul, Int.one_mul]
    have hn : n < 0 := by omega
    have hq : n / d ≤ -1 := by
      have := Int.ediv_neg_of_neg_of_pos hn (show 0 < d by omega)
      omega
    have hle : (n / d + 1) * d ≤ 0 * d := Int.mul_le_mul_of_nonneg_right (by omega) (by omega)
    rw [Int.add_mul, Int.one_mul, Int.zero_mul] at hle
    refine ⟨?_, fun h => by omega, fun h => by omega⟩
    exact IntWalk.wrap64_in _ (by omega)

theorem tdiv_small (n d : Int) (h0 : -9223372036854775807 ≤ n) (h1 : n ≤ 9223372036854775807) : -9223372036854775807 ≤ n.tdiv d ∧ n.tdiv d ≤ 9223372036854775807 := by
  have h : (n.tdiv d).natAbs ≤ n.natAbs := by rw [Int.natAbs_tdiv]; exact Nat.div_le_self _ _
  omega

end Go.Proofs.Ytjbnfoipjnkjdaa
