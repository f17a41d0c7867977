

/- What Add of package ratio computes, step by step (a walk), for valid fractions. -/
import Derived.Test.YtffamgiknfphaaaRatD
namespace Go.Proofs.Ytffamgiknfphaaa
open Go.RowKit Go.Sort
set_option linter.unusedVariables false

/-- the high and the low word of a number -/
def Two (hi lo m : Nat) : Prop := hi = m / 18446744073709551616 ∧ lo = m % 18446744073709551616
theorem two_mk (m : Nat) : ∃ hi lo, Two hi lo m := ⟨_, _, rfl, rfl⟩
theorem Two.eq {hi lo m : Nat} (h : Two hi lo m) : hi * 18446744073709551616 + lo = m := by
  obtain ⟨rfl, rfl⟩ := h
  have := Nat.div_add_mod m 18446744073709551616
  rw [Nat.mul_comm] at this
  exact this
theorem Two.lo {hi lo m : Nat} (h : Two hi lo m) : lo < 18446744073709551616 := by
  obtain ⟨rfl, rfl⟩ := h
  exact Nat.mod_lt _ (by decide)
theorem Two.hi {hi lo m : Nat} (h : Two hi lo m) (k : Nat) (hm : m < k * 18446744073709551616) : hi < k := by
  obtain ⟨rfl, rfl⟩ := h
  rw [Nat.div_lt_iff_lt_mul (by decide)]
  exact hm

theorem build_two (x : Bool) (a b c d m n : Nat) (h1 : Two a b m) (h2 : Two c d n) (w : World) :
    Calls Try.prog 54 #[.agg #[.bool x, .int .u64 a, .int .u64 b], .int .u64 c, .int .u64 d] w fun e w' =>
      e = .returned (.tuple #[.agg #[.int .i64 (buildN x m n).1, .int .i64 (buildN x m n).2.1], .int .i64 (buildN x m n).2.2]) ∧ Below w.heap.size w w' := by
  refine (build_any x a b c d w h1.lo h2.lo).mono fun e w' ⟨he, hb⟩ => ⟨?_, hb⟩
  rw [he, h1.eq, h2.eq]

theorem mul64_two (x y hi lo : Nat) (h : Two hi lo (x * y)) (w : World) (hx : x < 18446744073709551616) (hy : y < 18446744073709551616) :
    Calls Try.prog 56 #[.int .u64 x, .int .u64 y] w fun e w' => e = .returned (.tuple #[.int .u64 hi, .int .u64 lo]) ∧ Below w.heap.size w w' := by
  obtain ⟨rfl, rfl⟩ := h
  exact mul64_any x y w hx hy

/-- the sum of p/q and r/t, before it is looked at whether it has a place -/
def addR (p : Int) (q : Nat) (r : Int) (t : Nat) : Int × Int × Int :=
  buildN (plusS (decide (p < 0)) (decide (r < 0)) (p.natAbs * (t / Nat.gcd q t)) (r.natAbs * (q / Nat.gcd q t)))
    (plusM (decide (p < 0)) (decide (r < 0)) (p.natAbs * (t / Nat.gcd q t)) (r.natAbs * (q / Nat.gcd q t)) / Nat.gcd (Nat.gcd q t) (plusM (decide (p < 0)) (decide (r < 0)) (p.natAbs * (t / Nat.gcd q t)) (r.natAbs * (q / Nat.gcd q t)) % Nat.gcd q t))
    (q / Nat.gcd q t * (t / Nat.gcd (Nat.gcd q t) (plusM (decide (p < 0)) (decide (r < 0)) (p.natAbs * (t / Nat.gcd q t)) (r.natAbs * (q / Nat.gcd q t)) % Nat.gcd q t)))

theorem plusM_le (x y : Bool) (m n : Nat) : plusM x y m n ≤ m + n := by unfold plusM; (repeat' split) <;> omega

theorem wrap_small (k : Nat) (h : k ≤ 9223372036854775807) : IntKind.i64.wrap (k : Int) = (k : Int) := by rw [IntKind.wrap_i64]; omega

theorem bth_08 (n d m e : Int) : bth n d m e = 0 ∨ bth n d m e = 8 := by unfold bth; split <;> simp [chk_08]

theorem chk_ok {n d : Int} (h : chk n d = 0) : 1 ≤ d ∧ n ≠ -9223372036854775808 ∧ Nat.gcd d.toNat n.natAbs ≤ 1 := by
  unfold chk at h
  split at h
  · omega
  · omega
theorem bth_ok {n d m e : Int} (h : bth n d m e = 0) : chk n d = 0 ∧ chk m e = 0 := by
  unfold bth at h
  split at h
  · exact ⟨by assumption, h⟩
  · omega

/-- what Add gives: the sum, or an error -/
def addV (p q r t : Int) : Int × Int × Int := if bth p q r t = 0 then addR p q.toNat r t.toNat else (0, 0, 8)

end Go.Proofs.Ytffamgiknfphaaa
