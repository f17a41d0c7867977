/- The table of the types that the symbolic walk knows, printed by a program of this claim's author. No conditions. -/
import Derived.Test.YtkobebnijkanhaaSxK
import Derived.Test.YtkobebnijkanhaaProg
namespace Go.Proofs.Ytkobebnijkanhaa
open Go Go.RowKit
set_option linter.unusedVariables false
namespace Sx
def Ty : List (Nat × TD) := [(2, .int .i64),
  (3, .int .i64),
  (4, .bool),
  (5, .int .u8),
  (9, .sc (.v (.string "".toUTF8))),
  (12, .int .u64),
  (21, .int .i32),
  (22, .st 2 [.v (.int .i64 0), .v (.int .i64 0)] [(0, 1, false), (1, 1, false)]),
  (23, .st 2 [.v (.int .i64 0), .v (.int .i64 0)] [(0, 1, false), (1, 1, false)]),
  (24, .int .i64),
  (50, .sl 2 true),
  (52, .int .u64),
  (56, .st 3 [.v (.bool false), .v (.int .u64 0), .v (.int .u64 0)] [(0, 1, false), (1, 1, false), (2, 1, false)]),
  (57, .st 3 [.v (.bool false), .v (.int .u64 0), .v (.int .u64 0)] [(0, 1, false), (1, 1, false), (2, 1, false)]),
  (59, .st 3 [.v (.bool false), .v (.int .u64 0), .v (.int .u64 0)] [(0, 1, false), (1, 1, false), (2, 1, false)]),
  (60, .st 3 [.v (.bool false), .v (.int .u64 0), .v (.int .u64 0)] [(0, 1, false), (1, 1, false), (2, 1, false)]),
  (80, .int .u64),
  (86, .st 4 [.v (.pointer none), .v (.pointer none), .v (.pointer none), .v (.string "".toUTF8)] [(0, 1, false), (1, 1, false), (2, 1, false), (3, 1, false)]),
  (92, .int .u32)]
theorem ty_all : TysOK Try.prog Ty := ⟨⟨Try.sizeOf2, Try.isAgg2, ⟨_, Try.zeroValue2, fun _ _ => ⟨.v _ rfl (wfB_iff rfl), trivial⟩⟩, Try.underlying2⟩,
  ⟨Try.sizeOf3, Try.isAgg3, ⟨_, Try.zeroValue3, fun _ _ => ⟨.v _ rfl (wfB_iff rfl), trivial⟩⟩, Try.underlying3⟩,
  ⟨Try.sizeOf4, Try.isAgg4, ⟨_, Try.zeroValue4, fun _ _ => ⟨.v _ rfl (wfB_iff rfl), trivial⟩⟩, Try.underlying4⟩,
  ⟨Try.sizeOf5, Try.isAgg5, ⟨_, Try.zeroValue5, fun _ _ => ⟨.v _ rfl (wfB_iff rfl), trivial⟩⟩, Try.underlying5⟩,
  ⟨Try.sizeOf9, Try.isAgg9, ⟨_, Try.zeroValue9, fun _ _ => ⟨.v _ rfl (wfB_iff rfl), trivial⟩⟩, trivial⟩,
  ⟨Try.sizeOf12, Try.isAgg12, ⟨_, Try.zeroValue12, fun _ _ => ⟨.v _ rfl (wfB_iff rfl), trivial⟩⟩, Try.underlying12⟩,
  ⟨Try.sizeOf21, Try.isAgg21, ⟨_, Try.zeroValue21, fun _ _ => ⟨.v _ rfl (wfB_iff rfl), trivial⟩⟩, Try.underlying21⟩,
  ⟨Try.sizeOf22, Try.isAgg22, ⟨_, Try.zeroValue22, fun _ _ => ⟨.v _ rfl (wfB_iff rfl), .v _ rfl (wfB_iff rfl), trivial⟩⟩, st_ty Try.underlying22 rfl ⟨rfl, Try.sizeOf2, Try.isAgg2, rfl, Try.sizeOf2, Try.isAgg2, trivial⟩⟩,
  ⟨Try.sizeOf23, Try.isAgg23, ⟨_, Try.zeroValue23, fun _ _ => ⟨.v _ rfl (wfB_iff rfl), .v _ rfl (wfB_iff rfl), trivial⟩⟩, st_ty Try.underlying23 rfl ⟨rfl, Try.sizeOf2, Try.isAgg2, rfl, Try.sizeOf2, Try.isAgg2, trivial⟩⟩,
  ⟨Try.sizeOf24, Try.isAgg24, ⟨_, Try.zeroValue24, fun _ _ => ⟨.v _ rfl (wfB_iff rfl), trivial⟩⟩, Try.underlying24⟩,
  ⟨Try.sizeOf50, Try.isAgg50, ⟨_, Try.zeroValue50, fun _ _ => ⟨.nil _, trivial⟩⟩, ⟨_, Try.underlying50, Try.sizeOf23, Try.isAgg23, ⟨_, Try.zeroValue23, rfl⟩⟩⟩,
  ⟨Try.sizeOf52, Try.isAgg52, ⟨_, Try.zeroValue52, fun _ _ => ⟨.v _ rfl (wfB_iff rfl), trivial⟩⟩, Try.underlying52⟩,
  ⟨Try.sizeOf56, Try.isAgg56, ⟨_, Try.zeroValue56, fun _ _ => ⟨.v _ rfl (wfB_iff rfl), .v _ rfl (wfB_iff rfl), .v _ rfl (wfB_iff rfl), trivial⟩⟩, st_ty Try.underlying56 rfl ⟨rfl, Try.sizeOf4, Try.isAgg4, rfl, Try.sizeOf52, Try.isAgg52, rfl, Try.sizeOf52, Try.isAgg52, trivial⟩⟩,
  ⟨Try.sizeOf57, Try.isAgg57, ⟨_, Try.zeroValue57, fun _ _ => ⟨.v _ rfl (wfB_iff rfl), .v _ rfl (wfB_iff rfl), .v _ rfl (wfB_iff rfl), trivial⟩⟩, st_ty Try.underlying57 rfl ⟨rfl, Try.sizeOf4, Try.isAgg4, rfl, Try.sizeOf52, Try.isAgg52, rfl, Try.sizeOf52, Try.isAgg52, trivial⟩⟩,
  ⟨Try.sizeOf59, Try.isAgg59, ⟨_, Try.zeroValue59, fun _ _ => ⟨.v _ rfl (wfB_iff rfl), .v _ rfl (wfB_iff rfl), .v _ rfl (wfB_iff rfl), trivial⟩⟩, st_ty Try.underlying59 rfl ⟨rfl, Try.sizeOf4, Try.isAgg4, rfl, Try.sizeOf52, Try.isAgg52, rfl, Try.sizeOf52, Try.isAgg52, trivial⟩⟩,
  ⟨Try.sizeOf60, Try.isAgg60, ⟨_, Try.zeroValue60, fun _ _ => ⟨.v _ rfl (wfB_iff rfl), .v _ rfl (wfB_iff rfl), .v _ rfl (wfB_iff rfl), trivial⟩⟩, st_ty Try.underlying60 rfl ⟨rfl, Try.sizeOf4, Try.isAgg4, rfl, Try.sizeOf52, Try.isAgg52, rfl, Try.sizeOf52, Try.isAgg52, trivial⟩⟩,
  ⟨Try.sizeOf80, Try.isAgg80, ⟨_, Try.zeroValue80, fun _ _ => ⟨.v _ rfl (wfB_iff rfl), trivial⟩⟩, Try.underlying80⟩,
  ⟨Try.sizeOf86, Try.isAgg86, ⟨_, Try.zeroValue86, fun _ _ => ⟨.v _ rfl (wfB_iff rfl), .v _ rfl (wfB_iff rfl), .v _ rfl (wfB_iff rfl), .v _ rfl (wfB_iff rfl), trivial⟩⟩, st_ty Try.underlying86 rfl ⟨rfl, Try.sizeOf17, Try.isAgg17, rfl, Try.sizeOf17, Try.isAgg17, rfl, Try.sizeOf17, Try.isAgg17, rfl, Try.sizeOf9, Try.isAgg9, trivial⟩⟩,
  ⟨Try.sizeOf92, Try.isAgg92, ⟨_, Try.zeroValue92, fun _ _ => ⟨.v _ rfl (wfB_iff rfl), trivial⟩⟩, Try.underlying92⟩, trivial⟩
theorem ty_ok : ∀ t td, look Ty t = some td → TyOK Try.prog t td := tys_ok ty_all
theorem eqv23 (a0 b0 : Int) (a1 b1 : Int) (x y : Operand) (w : World) : (do eqGuard .eql 23 x y (.agg #[.int .i64 a0, .int .i64 a1]) (.agg #[.int .i64 b0, .int .i64 b1]); binOp .eql 23 (.agg #[.int .i64 a0, .int .i64 a1]) (.agg #[.int .i64 b0, .int .i64 b1]) : Sem Value).run Try.prog w = .ok (.bool (decide (a0 = b0 ∧ a1 = b1))) w := by
  by_cases h0 : a0 = b0
  · skip
    by_cases h1 : a1 = b1
    · skip
      simp [go_sem, eqGuard, binOp, Op.equal, Op.maxDepth, h0, h1]
    · simp [go_sem, eqGuard, binOp, Op.equal, Op.maxDepth, h0, h1]
  · simp [go_sem, eqGuard, binOp, Op.equal, Op.maxDepth, h0]
theorem nev23 (a0 b0 : Int) (a1 b1 : Int) (x y : Operand) (w : World) : (do eqGuard .neq 23 x y (.agg #[.int .i64 a0, .int .i64 a1]) (.agg #[.int .i64 b0, .int .i64 b1]); binOp .neq 23 (.agg #[.int .i64 a0, .int .i64 a1]) (.agg #[.int .i64 b0, .int .i64 b1]) : Sem Value).run Try.prog w = .ok (.bool (decide (¬ (a0 = b0 ∧ a1 = b1)))) w := by
  by_cases h0 : a0 = b0
  · skip
    by_cases h1 : a1 = b1
    · skip
      simp [go_sem, eqGuard, binOp, Op.equal, Op.maxDepth, h0, h1]
    · simp [go_sem, eqGuard, binOp, Op.equal, Op.maxDepth, h0, h1]
  · simp [go_sem, eqGuard, binOp, Op.equal, Op.maxDepth, h0]
theorem eqv57 (a0 b0 : Bool) (a1 b1 : Int) (a2 b2 : Int) (x y : Operand) (w : World) : (do eqGuard .eql 57 x y (.agg #[.bool a0, .int .u64 a1, .int .u64 a2]) (.agg #[.bool b0, .int .u64 b1, .int .u64 b2]); binOp .eql 57 (.agg #[.bool a0, .int .u64 a1, .int .u64 a2]) (.agg #[.bool b0, .int .u64 b1, .int .u64 b2]) : Sem Value).run Try.prog w = .ok (.bool (decide (a0 = b0 ∧ a1 = b1 ∧ a2 = b2))) w := by
  by_cases h0 : a0 = b0
  · skip
    by_cases h1 : a1 = b1
    · skip
      by_cases h2 : a2 = b2
      · skip
        simp [go_sem, eqGuard, binOp, Op.equal, Op.maxDepth, h0, h1, h2]
      · simp [go_sem, eqGuard, binOp, Op.equal, Op.maxDepth, h0, h1, h2]
    · simp [go_sem, eqGuard, binOp, Op.equal, Op.maxDepth, h0, h1]
  · simp [go_sem, eqGuard, binOp, Op.equal, Op.maxDepth, h0]
theorem nev57 (a0 b0 : Bool) (a1 b1 : Int) (a2 b2 : Int) (x y : Operand) (w : World) : (do eqGuard .neq 57 x y (.agg #[.bool a0, .int .u64 a1, .int .u64 a2]) (.agg #[.bool b0, .int .u64 b1, .int .u64 b2]); binOp .neq 57 (.agg #[.bool a0, .int .u64 a1, .int .u64 a2]) (.agg #[.bool b0, .int .u64 b1, .int .u64 b2]) : Sem Value).run Try.prog w = .ok (.bool (decide (¬ (a0 = b0 ∧ a1 = b1 ∧ a2 = b2)))) w := by
  by_cases h0 : a0 = b0
  · skip
    by_cases h1 : a1 = b1
    · skip
      by_cases h2 : a2 = b2
      · skip
        simp [go_sem, eqGuard, binOp, Op.equal, Op.maxDepth, h0, h1, h2]
      · simp [go_sem, eqGuard, binOp, Op.equal, Op.maxDepth, h0, h1, h2]
    · simp [go_sem, eqGuard, binOp, Op.equal, Op.maxDepth, h0, h1]
  · simp [go_sem, eqGuard, binOp, Op.equal, Op.maxDepth, h0]
theorem eqv60 (a0 b0 : Bool) (a1 b1 : Int) (a2 b2 : Int) (x y : Operand) (w : World) : (do eqGuard .eql 60 x y (.agg #[.bool a0, .int .u64 a1, .int .u64 a2]) (.agg #[.bool b0, .int .u64 b1, .int .u64 b2]); binOp .eql 60 (.agg #[.bool a0, .int .u64 a1, .int .u64 a2]) (.agg #[.bool b0, .int .u64 b1, .int .u64 b2]) : Sem Value).run Try.prog w = .ok (.bool (decide (a0 = b0 ∧ a1 = b1 ∧ a2 = b2))) w := by
  by_cases h0 : a0 = b0
  · skip
    by_cases h1 : a1 = b1
    · skip
      by_cases h2 : a2 = b2
      · skip
        simp [go_sem, eqGuard, binOp, Op.equal, Op.maxDepth, h0, h1, h2]
      · simp [go_sem, eqGuard, binOp, Op.equal, Op.maxDepth, h0, h1, h2]
    · simp [go_sem, eqGuard, binOp, Op.equal, Op.maxDepth, h0, h1]
  · simp [go_sem, eqGuard, binOp, Op.equal, Op.maxDepth, h0]
theorem nev60 (a0 b0 : Bool) (a1 b1 : Int) (a2 b2 : Int) (x y : Operand) (w : World) : (do eqGuard .neq 60 x y (.agg #[.bool a0, .int .u64 a1, .int .u64 a2]) (.agg #[.bool b0, .int .u64 b1, .int .u64 b2]); binOp .neq 60 (.agg #[.bool a0, .int .u64 a1, .int .u64 a2]) (.agg #[.bool b0, .int .u64 b1, .int .u64 b2]) : Sem Value).run Try.prog w = .ok (.bool (decide (¬ (a0 = b0 ∧ a1 = b1 ∧ a2 = b2)))) w := by
  by_cases h0 : a0 = b0
  · skip
    by_cases h1 : a1 = b1
    · skip
      by_cases h2 : a2 = b2
      · skip
        simp [go_sem, eqGuard, binOp, Op.equal, Op.maxDepth, h0, h1, h2]
      · simp [go_sem, eqGuard, binOp, Op.equal, Op.maxDepth, h0, h1, h2]
    · simp [go_sem, eqGuard, binOp, Op.equal, Op.maxDepth, h0, h1]
  · simp [go_sem, eqGuard, binOp, Op.equal, Op.maxDepth, h0]
end Sx
end Go.Proofs.Ytkobebnijkanhaa
