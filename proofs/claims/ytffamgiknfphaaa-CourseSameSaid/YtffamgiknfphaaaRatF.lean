

/- What Sub, Floor, Make, Of of package ratio compute, step by step (walks). -/
import Derived.Test.YtffamgiknfphaaaRatE
import Derived.Test.YtffamgiknfphaaaRatP
namespace Go.Proofs.Ytffamgiknfphaaa
open Go.RowKit Go.Sort
set_option linter.unusedVariables false

def subV (p q r t : Int) : Int × Int × Int := if bth p q r t = 0 then addV p q (-r) t else (0, 0, 8)

def makeV (n d : Int) : Int × Int × Int :=
  if d = 0 then (0, 0, 26) else buildN (!(decide (n < 0) == decide (d < 0))) (n.natAbs / Nat.gcd n.natAbs d.natAbs) (d.natAbs / Nat.gcd n.natAbs d.natAbs)

theorem makeV_any (n d : Int) (w : World) (h0 : -9223372036854775808 ≤ n) (h1 : n ≤ 9223372036854775807) (h2 : -9223372036854775808 ≤ d) (h3 : d ≤ 9223372036854775807) :
    Calls Try.prog 29 #[.int .i64 n, .int .i64 d] w fun e w' =>
      e = .returned (.tuple #[.agg #[.int .i64 (makeV n d).1, .int .i64 (makeV n d).2.1], .int .i64 (makeV n d).2.2]) ∧ Below w.heap.size w w' := by
  unfold makeV
  by_cases hd : d = 0
  · subst hd
    rw [if_pos rfl]
    go_enter Try.func29, Try.ntmps29
    go_wp2_with (first | ((with_reducible refine wp_region_quiet_below ?_ ?_ ?_); kernel_rfl; kernel_rfl; (repeat (go_big_quiet_step (fail))); refine wpQuiet_nil ?_; intro _ hw'; obtain ⟨⟨dq, osq⟩, hw''⟩ := hw'; subst hw''))
    refine bodyPost_ret (v := .tuple #[.agg #[.int .i64 0, .int .i64 0], .int .i64 26]) (by simp [results, Try.results29, go_sem]) rfl ⟨rfl, (by repeat (first | exact Below.refl _ _ | refine below_reg ?_ _ _ | refine below_alloc ?_ _ | exact below_drewN ?_ _ | assumption))⟩
  · rw [if_neg hd]
    exact make_any n d w h0 h1 h2 h3 hd

/-- what Floor gives -/
def floorV (n d : Int) : Int × Int := if chk n d = 0 then (n / d, 0) else (0, 8)

/-- what Cmp gives -/
def cmpV (p q r t : Int) : Int × Int := if bth p q r t = 0 then (cmpN (p * t) (r * q), 0) else (0, 8)

/-- the product of p/q and r/t, before it is looked at whether it has a place -/
def mulR (p : Int) (q : Nat) (r : Int) (t : Nat) : Int × Int × Int :=
  buildN (!(decide (p.tdiv (Nat.gcd t p.natAbs) < 0) == decide (r.tdiv (Nat.gcd q r.natAbs) < 0))) ((p.tdiv (Nat.gcd t p.natAbs)).natAbs * (r.tdiv (Nat.gcd q r.natAbs)).natAbs)
    (q / Nat.gcd q r.natAbs * (t / Nat.gcd t p.natAbs))

/-- what Mul gives: the product, or an error -/
def mulV (p q r t : Int) : Int × Int × Int := if bth p q r t = 0 then mulR p q.toNat r t.toNat else (0, 0, 8)

end Go.Proofs.Ytffamgiknfphaaa
