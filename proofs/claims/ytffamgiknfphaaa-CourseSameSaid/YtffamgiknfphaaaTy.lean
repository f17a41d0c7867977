/- The table of the types that the symbolic walk knows, printed by a program of this claim's author. No conditions. -/
import Derived.Test.YtffamgiknfphaaaSxK
import Derived.Test.YtffamgiknfphaaaProg
namespace Go.Proofs.Ytffamgiknfphaaa
open Go Go.RowKit
set_option linter.unusedVariables false
namespace Sx
def Ty : List (Nat × TD) := [(2, .int .i64),
  (3, .int .i64),
  (4, .bool),
  (5, .int .u8),
  (9, .sc (.v (.string "".toUTF8))),
  (12, .int .u64),
  (21, .int .i32),
  (22, .st 3 [.v (.int .i64 0), .v (.int .i64 0), .v (.int .i64 0)] [(0, 1, false), (1, 1, false), (2, 1, false)]),
  (23, .st 3 [.v (.int .i64 0), .v (.int .i64 0), .v (.int .i64 0)] [(0, 1, false), (1, 1, false), (2, 1, false)]),
  (24, .st 2 [.v (.int .i64 0), .v (.int .i64 0)] [(0, 1, false), (1, 1, false)]),
  (25, .st 2 [.v (.int .i64 0), .v (.int .i64 0)] [(0, 1, false), (1, 1, false)]),
  (26, .int .i64),
  (46, .sl 3 true),
  (59, .int .u64),
  (60, .st 2 [.v (.int .i64 0), .v (.int .u64 0)] [(0, 1, false), (1, 1, false)]),
  (61, .st 2 [.v (.int .i64 0), .v (.int .u64 0)] [(0, 1, false), (1, 1, false)]),
  (63, .ar 2 [.v (.int .i64 0), .v (.int .i64 0)] 2 1 false),
  (64, .ar 4 [.v (.int .i64 0), .v (.int .i64 0), .v (.int .i64 0), .v (.int .i64 0)] 2 2 true),
  (69, .st 3 [.v (.bool false), .v (.int .u64 0), .v (.int .u64 0)] [(0, 1, false), (1, 1, false), (2, 1, false)]),
  (70, .st 3 [.v (.bool false), .v (.int .u64 0), .v (.int .u64 0)] [(0, 1, false), (1, 1, false), (2, 1, false)]),
  (84, .st 3 [.v (.bool false), .v (.int .u64 0), .v (.int .u64 0)] [(0, 1, false), (1, 1, false), (2, 1, false)]),
  (85, .st 3 [.v (.bool false), .v (.int .u64 0), .v (.int .u64 0)] [(0, 1, false), (1, 1, false), (2, 1, false)]),
  (90, .int .u64),
  (96, .sl 1 false),
  (99, .st 4 [.v (.pointer none), .v (.pointer none), .v (.pointer none), .v (.string "".toUTF8)] [(0, 1, false), (1, 1, false), (2, 1, false), (3, 1, false)]),
  (105, .int .u32)]
theorem ty_all : TysOK Try.prog Ty := ⟨⟨Try.sizeOf2, Try.isAgg2, ⟨_, Try.zeroValue2, fun _ _ => ⟨.v _ rfl (wfB_iff rfl), trivial⟩⟩, Try.underlying2⟩,
  ⟨Try.sizeOf3, Try.isAgg3, ⟨_, Try.zeroValue3, fun _ _ => ⟨.v _ rfl (wfB_iff rfl), trivial⟩⟩, Try.underlying3⟩,
  ⟨Try.sizeOf4, Try.isAgg4, ⟨_, Try.zeroValue4, fun _ _ => ⟨.v _ rfl (wfB_iff rfl), trivial⟩⟩, Try.underlying4⟩,
  ⟨Try.sizeOf5, Try.isAgg5, ⟨_, Try.zeroValue5, fun _ _ => ⟨.v _ rfl (wfB_iff rfl), trivial⟩⟩, Try.underlying5⟩,
  ⟨Try.sizeOf9, Try.isAgg9, ⟨_, Try.zeroValue9, fun _ _ => ⟨.v _ rfl (wfB_iff rfl), trivial⟩⟩, trivial⟩,
  ⟨Try.sizeOf12, Try.isAgg12, ⟨_, Try.zeroValue12, fun _ _ => ⟨.v _ rfl (wfB_iff rfl), trivial⟩⟩, Try.underlying12⟩,
  ⟨Try.sizeOf21, Try.isAgg21, ⟨_, Try.zeroValue21, fun _ _ => ⟨.v _ rfl (wfB_iff rfl), trivial⟩⟩, Try.underlying21⟩,
  ⟨Try.sizeOf22, Try.isAgg22, ⟨_, Try.zeroValue22, fun _ _ => ⟨.v _ rfl (wfB_iff rfl), .v _ rfl (wfB_iff rfl), .v _ rfl (wfB_iff rfl), trivial⟩⟩, st_ty Try.underlying22 rfl ⟨rfl, Try.sizeOf3, Try.isAgg3, rfl, Try.sizeOf2, Try.isAgg2, rfl, Try.sizeOf2, Try.isAgg2, trivial⟩⟩,
  ⟨Try.sizeOf23, Try.isAgg23, ⟨_, Try.zeroValue23, fun _ _ => ⟨.v _ rfl (wfB_iff rfl), .v _ rfl (wfB_iff rfl), .v _ rfl (wfB_iff rfl), trivial⟩⟩, st_ty Try.underlying23 rfl ⟨rfl, Try.sizeOf3, Try.isAgg3, rfl, Try.sizeOf2, Try.isAgg2, rfl, Try.sizeOf2, Try.isAgg2, trivial⟩⟩,
  ⟨Try.sizeOf24, Try.isAgg24, ⟨_, Try.zeroValue24, fun _ _ => ⟨.v _ rfl (wfB_iff rfl), .v _ rfl (wfB_iff rfl), trivial⟩⟩, st_ty Try.underlying24 rfl ⟨rfl, Try.sizeOf2, Try.isAgg2, rfl, Try.sizeOf2, Try.isAgg2, trivial⟩⟩,
  ⟨Try.sizeOf25, Try.isAgg25, ⟨_, Try.zeroValue25, fun _ _ => ⟨.v _ rfl (wfB_iff rfl), .v _ rfl (wfB_iff rfl), trivial⟩⟩, st_ty Try.underlying25 rfl ⟨rfl, Try.sizeOf2, Try.isAgg2, rfl, Try.sizeOf2, Try.isAgg2, trivial⟩⟩,
  ⟨Try.sizeOf26, Try.isAgg26, ⟨_, Try.zeroValue26, fun _ _ => ⟨.v _ rfl (wfB_iff rfl), trivial⟩⟩, Try.underlying26⟩,
  ⟨Try.sizeOf46, Try.isAgg46, ⟨_, Try.zeroValue46, fun _ _ => ⟨.nil _, trivial⟩⟩, ⟨_, Try.underlying46, Try.sizeOf23, Try.isAgg23, ⟨_, Try.zeroValue23, rfl⟩⟩⟩,
  ⟨Try.sizeOf59, Try.isAgg59, ⟨_, Try.zeroValue59, fun _ _ => ⟨.v _ rfl (wfB_iff rfl), trivial⟩⟩, Try.underlying59⟩,
  ⟨Try.sizeOf60, Try.isAgg60, ⟨_, Try.zeroValue60, fun _ _ => ⟨.v _ rfl (wfB_iff rfl), .v _ rfl (wfB_iff rfl), trivial⟩⟩, st_ty Try.underlying60 rfl ⟨rfl, Try.sizeOf2, Try.isAgg2, rfl, Try.sizeOf59, Try.isAgg59, trivial⟩⟩,
  ⟨Try.sizeOf61, Try.isAgg61, ⟨_, Try.zeroValue61, fun _ _ => ⟨.v _ rfl (wfB_iff rfl), .v _ rfl (wfB_iff rfl), trivial⟩⟩, st_ty Try.underlying61 rfl ⟨rfl, Try.sizeOf2, Try.isAgg2, rfl, Try.sizeOf59, Try.isAgg59, trivial⟩⟩,
  ⟨Try.sizeOf63, Try.isAgg63, ⟨_, Try.zeroValue63, fun _ _ => ⟨.v _ rfl (wfB_iff rfl), .v _ rfl (wfB_iff rfl), trivial⟩⟩, ⟨_, Try.underlying63, Try.sizeOf2, Try.isAgg2⟩⟩,
  ⟨Try.sizeOf64, Try.isAgg64, ⟨_, Try.zeroValue64, fun _ _ => ⟨.v _ rfl (wfB_iff rfl), .v _ rfl (wfB_iff rfl), .v _ rfl (wfB_iff rfl), .v _ rfl (wfB_iff rfl), trivial⟩⟩, ⟨_, Try.underlying64, Try.sizeOf63, Try.isAgg63⟩⟩,
  ⟨Try.sizeOf69, Try.isAgg69, ⟨_, Try.zeroValue69, fun _ _ => ⟨.v _ rfl (wfB_iff rfl), .v _ rfl (wfB_iff rfl), .v _ rfl (wfB_iff rfl), trivial⟩⟩, st_ty Try.underlying69 rfl ⟨rfl, Try.sizeOf4, Try.isAgg4, rfl, Try.sizeOf59, Try.isAgg59, rfl, Try.sizeOf59, Try.isAgg59, trivial⟩⟩,
  ⟨Try.sizeOf70, Try.isAgg70, ⟨_, Try.zeroValue70, fun _ _ => ⟨.v _ rfl (wfB_iff rfl), .v _ rfl (wfB_iff rfl), .v _ rfl (wfB_iff rfl), trivial⟩⟩, st_ty Try.underlying70 rfl ⟨rfl, Try.sizeOf4, Try.isAgg4, rfl, Try.sizeOf59, Try.isAgg59, rfl, Try.sizeOf59, Try.isAgg59, trivial⟩⟩,
  ⟨Try.sizeOf84, Try.isAgg84, ⟨_, Try.zeroValue84, fun _ _ => ⟨.v _ rfl (wfB_iff rfl), .v _ rfl (wfB_iff rfl), .v _ rfl (wfB_iff rfl), trivial⟩⟩, st_ty Try.underlying84 rfl ⟨rfl, Try.sizeOf4, Try.isAgg4, rfl, Try.sizeOf59, Try.isAgg59, rfl, Try.sizeOf59, Try.isAgg59, trivial⟩⟩,
  ⟨Try.sizeOf85, Try.isAgg85, ⟨_, Try.zeroValue85, fun _ _ => ⟨.v _ rfl (wfB_iff rfl), .v _ rfl (wfB_iff rfl), .v _ rfl (wfB_iff rfl), trivial⟩⟩, st_ty Try.underlying85 rfl ⟨rfl, Try.sizeOf4, Try.isAgg4, rfl, Try.sizeOf59, Try.isAgg59, rfl, Try.sizeOf59, Try.isAgg59, trivial⟩⟩,
  ⟨Try.sizeOf90, Try.isAgg90, ⟨_, Try.zeroValue90, fun _ _ => ⟨.v _ rfl (wfB_iff rfl), trivial⟩⟩, Try.underlying90⟩,
  ⟨Try.sizeOf96, Try.isAgg96, ⟨_, Try.zeroValue96, fun _ _ => ⟨.nil _, trivial⟩⟩, ⟨_, Try.underlying96, Try.sizeOf3, Try.isAgg3, ⟨_, Try.zeroValue3, rfl⟩⟩⟩,
  ⟨Try.sizeOf99, Try.isAgg99, ⟨_, Try.zeroValue99, fun _ _ => ⟨.v _ rfl (wfB_iff rfl), .v _ rfl (wfB_iff rfl), .v _ rfl (wfB_iff rfl), .v _ rfl (wfB_iff rfl), trivial⟩⟩, st_ty Try.underlying99 rfl ⟨rfl, Try.sizeOf17, Try.isAgg17, rfl, Try.sizeOf17, Try.isAgg17, rfl, Try.sizeOf17, Try.isAgg17, rfl, Try.sizeOf9, Try.isAgg9, trivial⟩⟩,
  ⟨Try.sizeOf105, Try.isAgg105, ⟨_, Try.zeroValue105, fun _ _ => ⟨.v _ rfl (wfB_iff rfl), trivial⟩⟩, Try.underlying105⟩, trivial⟩
theorem ty_ok : ∀ t td, look Ty t = some td → TyOK Try.prog t td := tys_ok ty_all
theorem eqv23 (a0 b0 : Int) (a1 b1 : Int) (a2 b2 : Int) (x y : Operand) (w : World) : (do eqGuard .eql 23 x y (.agg #[.int .i64 a0, .int .i64 a1, .int .i64 a2]) (.agg #[.int .i64 b0, .int .i64 b1, .int .i64 b2]); binOp .eql 23 (.agg #[.int .i64 a0, .int .i64 a1, .int .i64 a2]) (.agg #[.int .i64 b0, .int .i64 b1, .int .i64 b2]) : Sem Value).run Try.prog w = .ok (.bool (decide (a0 = b0 ∧ a1 = b1 ∧ a2 = b2))) w := by
  by_cases h0 : a0 = b0
  · skip
    by_cases h1 : a1 = b1
    · skip
      by_cases h2 : a2 = b2
      · skip
        simp [go_sem, eqGuard, binOp, Op.equal, Op.maxDepth, h0, h1, h2]
      · simp [go_sem, eqGuard, binOp, Op.equal, Op.maxDepth, h0, h1, h2]
    · simp [go_sem, eqGuard, binOp, Op.equal, Op.maxDepth, h0, h1]
  · simp [go_sem, eqGuard, binOp, Op.equal, Op.maxDepth, h0]
theorem nev23 (a0 b0 : Int) (a1 b1 : Int) (a2 b2 : Int) (x y : Operand) (w : World) : (do eqGuard .neq 23 x y (.agg #[.int .i64 a0, .int .i64 a1, .int .i64 a2]) (.agg #[.int .i64 b0, .int .i64 b1, .int .i64 b2]); binOp .neq 23 (.agg #[.int .i64 a0, .int .i64 a1, .int .i64 a2]) (.agg #[.int .i64 b0, .int .i64 b1, .int .i64 b2]) : Sem Value).run Try.prog w = .ok (.bool (decide (¬ (a0 = b0 ∧ a1 = b1 ∧ a2 = b2)))) w := by
  by_cases h0 : a0 = b0
  · skip
    by_cases h1 : a1 = b1
    · skip
      by_cases h2 : a2 = b2
      · skip
        simp [go_sem, eqGuard, binOp, Op.equal, Op.maxDepth, h0, h1, h2]
      · simp [go_sem, eqGuard, binOp, Op.equal, Op.maxDepth, h0, h1, h2]
    · simp [go_sem, eqGuard, binOp, Op.equal, Op.maxDepth, h0, h1]
  · simp [go_sem, eqGuard, binOp, Op.equal, Op.maxDepth, h0]
theorem eqv25 (a0 b0 : Int) (a1 b1 : Int) (x y : Operand) (w : World) : (do eqGuard .eql 25 x y (.agg #[.int .i64 a0, .int .i64 a1]) (.agg #[.int .i64 b0, .int .i64 b1]); binOp .eql 25 (.agg #[.int .i64 a0, .int .i64 a1]) (.agg #[.int .i64 b0, .int .i64 b1]) : Sem Value).run Try.prog w = .ok (.bool (decide (a0 = b0 ∧ a1 = b1))) w := by
  by_cases h0 : a0 = b0
  · skip
    by_cases h1 : a1 = b1
    · skip
      simp [go_sem, eqGuard, binOp, Op.equal, Op.maxDepth, h0, h1]
    · simp [go_sem, eqGuard, binOp, Op.equal, Op.maxDepth, h0, h1]
  · simp [go_sem, eqGuard, binOp, Op.equal, Op.maxDepth, h0]
theorem nev25 (a0 b0 : Int) (a1 b1 : Int) (x y : Operand) (w : World) : (do eqGuard .neq 25 x y (.agg #[.int .i64 a0, .int .i64 a1]) (.agg #[.int .i64 b0, .int .i64 b1]); binOp .neq 25 (.agg #[.int .i64 a0, .int .i64 a1]) (.agg #[.int .i64 b0, .int .i64 b1]) : Sem Value).run Try.prog w = .ok (.bool (decide (¬ (a0 = b0 ∧ a1 = b1)))) w := by
  by_cases h0 : a0 = b0
  · skip
    by_cases h1 : a1 = b1
    · skip
      simp [go_sem, eqGuard, binOp, Op.equal, Op.maxDepth, h0, h1]
    · simp [go_sem, eqGuard, binOp, Op.equal, Op.maxDepth, h0, h1]
  · simp [go_sem, eqGuard, binOp, Op.equal, Op.maxDepth, h0]
theorem eqv61 (a0 b0 : Int) (a1 b1 : Int) (x y : Operand) (w : World) : (do eqGuard .eql 61 x y (.agg #[.int .i64 a0, .int .u64 a1]) (.agg #[.int .i64 b0, .int .u64 b1]); binOp .eql 61 (.agg #[.int .i64 a0, .int .u64 a1]) (.agg #[.int .i64 b0, .int .u64 b1]) : Sem Value).run Try.prog w = .ok (.bool (decide (a0 = b0 ∧ a1 = b1))) w := by
  by_cases h0 : a0 = b0
  · skip
    by_cases h1 : a1 = b1
    · skip
      simp [go_sem, eqGuard, binOp, Op.equal, Op.maxDepth, h0, h1]
    · simp [go_sem, eqGuard, binOp, Op.equal, Op.maxDepth, h0, h1]
  · simp [go_sem, eqGuard, binOp, Op.equal, Op.maxDepth, h0]
theorem nev61 (a0 b0 : Int) (a1 b1 : Int) (x y : Operand) (w : World) : (do eqGuard .neq 61 x y (.agg #[.int .i64 a0, .int .u64 a1]) (.agg #[.int .i64 b0, .int .u64 b1]); binOp .neq 61 (.agg #[.int .i64 a0, .int .u64 a1]) (.agg #[.int .i64 b0, .int .u64 b1]) : Sem Value).run Try.prog w = .ok (.bool (decide (¬ (a0 = b0 ∧ a1 = b1)))) w := by
  by_cases h0 : a0 = b0
  · skip
    by_cases h1 : a1 = b1
    · skip
      simp [go_sem, eqGuard, binOp, Op.equal, Op.maxDepth, h0, h1]
    · simp [go_sem, eqGuard, binOp, Op.equal, Op.maxDepth, h0, h1]
  · simp [go_sem, eqGuard, binOp, Op.equal, Op.maxDepth, h0]
theorem eqv70 (a0 b0 : Bool) (a1 b1 : Int) (a2 b2 : Int) (x y : Operand) (w : World) : (do eqGuard .eql 70 x y (.agg #[.bool a0, .int .u64 a1, .int .u64 a2]) (.agg #[.bool b0, .int .u64 b1, .int .u64 b2]); binOp .eql 70 (.agg #[.bool a0, .int .u64 a1, .int .u64 a2]) (.agg #[.bool b0, .int .u64 b1, .int .u64 b2]) : Sem Value).run Try.prog w = .ok (.bool (decide (a0 = b0 ∧ a1 = b1 ∧ a2 = b2))) w := by
  by_cases h0 : a0 = b0
  · skip
    by_cases h1 : a1 = b1
    · skip
      by_cases h2 : a2 = b2
      · skip
        simp [go_sem, eqGuard, binOp, Op.equal, Op.maxDepth, h0, h1, h2]
      · simp [go_sem, eqGuard, binOp, Op.equal, Op.maxDepth, h0, h1, h2]
    · simp [go_sem, eqGuard, binOp, Op.equal, Op.maxDepth, h0, h1]
  · simp [go_sem, eqGuard, binOp, Op.equal, Op.maxDepth, h0]
theorem nev70 (a0 b0 : Bool) (a1 b1 : Int) (a2 b2 : Int) (x y : Operand) (w : World) : (do eqGuard .neq 70 x y (.agg #[.bool a0, .int .u64 a1, .int .u64 a2]) (.agg #[.bool b0, .int .u64 b1, .int .u64 b2]); binOp .neq 70 (.agg #[.bool a0, .int .u64 a1, .int .u64 a2]) (.agg #[.bool b0, .int .u64 b1, .int .u64 b2]) : Sem Value).run Try.prog w = .ok (.bool (decide (¬ (a0 = b0 ∧ a1 = b1 ∧ a2 = b2)))) w := by
  by_cases h0 : a0 = b0
  · skip
    by_cases h1 : a1 = b1
    · skip
      by_cases h2 : a2 = b2
      · skip
        simp [go_sem, eqGuard, binOp, Op.equal, Op.maxDepth, h0, h1, h2]
      · simp [go_sem, eqGuard, binOp, Op.equal, Op.maxDepth, h0, h1, h2]
    · simp [go_sem, eqGuard, binOp, Op.equal, Op.maxDepth, h0, h1]
  · simp [go_sem, eqGuard, binOp, Op.equal, Op.maxDepth, h0]
theorem eqv85 (a0 b0 : Bool) (a1 b1 : Int) (a2 b2 : Int) (x y : Operand) (w : World) : (do eqGuard .eql 85 x y (.agg #[.bool a0, .int .u64 a1, .int .u64 a2]) (.agg #[.bool b0, .int .u64 b1, .int .u64 b2]); binOp .eql 85 (.agg #[.bool a0, .int .u64 a1, .int .u64 a2]) (.agg #[.bool b0, .int .u64 b1, .int .u64 b2]) : Sem Value).run Try.prog w = .ok (.bool (decide (a0 = b0 ∧ a1 = b1 ∧ a2 = b2))) w := by
  by_cases h0 : a0 = b0
  · skip
    by_cases h1 : a1 = b1
    · skip
      by_cases h2 : a2 = b2
      · skip
        simp [go_sem, eqGuard, binOp, Op.equal, Op.maxDepth, h0, h1, h2]
      · simp [go_sem, eqGuard, binOp, Op.equal, Op.maxDepth, h0, h1, h2]
    · simp [go_sem, eqGuard, binOp, Op.equal, Op.maxDepth, h0, h1]
  · simp [go_sem, eqGuard, binOp, Op.equal, Op.maxDepth, h0]
theorem nev85 (a0 b0 : Bool) (a1 b1 : Int) (a2 b2 : Int) (x y : Operand) (w : World) : (do eqGuard .neq 85 x y (.agg #[.bool a0, .int .u64 a1, .int .u64 a2]) (.agg #[.bool b0, .int .u64 b1, .int .u64 b2]); binOp .neq 85 (.agg #[.bool a0, .int .u64 a1, .int .u64 a2]) (.agg #[.bool b0, .int .u64 b1, .int .u64 b2]) : Sem Value).run Try.prog w = .ok (.bool (decide (¬ (a0 = b0 ∧ a1 = b1 ∧ a2 = b2)))) w := by
  by_cases h0 : a0 = b0
  · skip
    by_cases h1 : a1 = b1
    · skip
      by_cases h2 : a2 = b2
      · skip
        simp [go_sem, eqGuard, binOp, Op.equal, Op.maxDepth, h0, h1, h2]
      · simp [go_sem, eqGuard, binOp, Op.equal, Op.maxDepth, h0, h1, h2]
    · simp [go_sem, eqGuard, binOp, Op.equal, Op.maxDepth, h0, h1]
  · simp [go_sem, eqGuard, binOp, Op.equal, Op.maxDepth, h0]
end Sx
end Go.Proofs.Ytffamgiknfphaaa
