

/- What over, build, Make, Of of package ratio compute, step by step (walks). -/
import Derived.Test.YtffamgiknfphaaaRatC
import Derived.Test.YtffamgiknfphaaaDivW
namespace Go.Proofs.Ytffamgiknfphaaa
open Go.RowKit Go.Sort
set_option linter.unusedVariables false

theorem mul64_any (x y : Nat) (w : World) (hx : x < 18446744073709551616) (hy : y < 18446744073709551616) :
    Calls Try.prog 56 #[.int .u64 x, .int .u64 y] w fun e w' => e = .returned (.tuple #[.int .u64 (x * y / 18446744073709551616 : Nat), .int .u64 (x * y % 18446744073709551616 : Nat)]) ∧ Below w.heap.size w w' :=
  (Try.bits_Mul64 x y hx hy w).mono fun e w' ⟨he, hw⟩ => ⟨he, by rw [hw]; exact Below.refl _ _⟩

/-- a fraction with a sign, if it has a place -/
def buildN (neg : Bool) (m d : Nat) : Int × Int × Int :=
  if m ≤ 9223372036854775807 ∧ d ≤ 9223372036854775807 then (if neg then -(m : Int) else m, d, 0) else (0, 0, 16)

theorem build_any (x : Bool) (a b c d : Nat) (w : World) (hb : b < 18446744073709551616) (hd : d < 18446744073709551616) :
    Calls Try.prog 54 #[.agg #[.bool x, .int .u64 a, .int .u64 b], .int .u64 c, .int .u64 d] w fun e w' =>
      e = .returned (.tuple #[.agg #[.int .i64 (buildN x (a * 18446744073709551616 + b) (c * 18446744073709551616 + d)).1, .int .i64 (buildN x (a * 18446744073709551616 + b) (c * 18446744073709551616 + d)).2.1],
        .int .i64 (buildN x (a * 18446744073709551616 + b) (c * 18446744073709551616 + d)).2.2]) ∧ Below w.heap.size w w' := by
  by_cases hfit : a = 0 ∧ c = 0 ∧ b ≤ 9223372036854775807 ∧ d ≤ 9223372036854775807
  · obtain ⟨rfl, rfl, h1, h2⟩ := hfit
    have hB : buildN x (0 * 18446744073709551616 + b) (0 * 18446744073709551616 + d) = (if x then -(b : Int) else b, (d : Int), 0) := by
      unfold buildN; rw [if_pos ⟨by omega, by omega⟩]; simp
    rw [hB]
    clear hB
    cases x
    · go_enter Try.func54, Try.ntmps54
      go_wp2_with (first | ((with_reducible refine wp_region_quiet_below ?_ ?_ ?_); kernel_rfl; kernel_rfl; (repeat (go_big_quiet_step (fail))); refine wpQuiet_nil ?_; intro _ hw'; obtain ⟨⟨dq, osq⟩, hw''⟩ := hw'; subst hw''))
      refine bodyPost_ret (v := .tuple #[.agg #[.int .i64 (b : Int), .int .i64 (d : Int)], .int .i64 0]) (by simp [results, Try.results54, go_sem]) rfl ⟨rfl, (by repeat (first | exact Below.refl _ _ | refine below_reg ?_ _ _ | refine below_alloc ?_ _ | exact below_drewN ?_ _ | assumption))⟩
    · go_enter Try.func54, Try.ntmps54
      go_wp2_with (first | ((with_reducible refine wp_region_quiet_below ?_ ?_ ?_); kernel_rfl; kernel_rfl; (repeat (go_big_quiet_step (fail))); refine wpQuiet_nil ?_; intro _ hw'; obtain ⟨⟨dq, osq⟩, hw''⟩ := hw'; subst hw''))
      refine bodyPost_ret (v := .tuple #[.agg #[.int .i64 (-(b : Int)), .int .i64 (d : Int)], .int .i64 0]) (by simp [results, Try.results54, go_sem]) rfl ⟨rfl, (by repeat (first | exact Below.refl _ _ | refine below_reg ?_ _ _ | refine below_alloc ?_ _ | exact below_drewN ?_ _ | assumption))⟩
  · have hB : buildN x (a * 18446744073709551616 + b) (c * 18446744073709551616 + d) = (0, 0, 16) := by
      unfold buildN; rw [if_neg (by omega)]
    rw [hB]
    clear hB
    go_enter Try.func54, Try.ntmps54
    go_wp2_with (first | ((with_reducible refine wp_region_quiet_below ?_ ?_ ?_); kernel_rfl; kernel_rfl; (repeat (go_big_quiet_step (fail))); refine wpQuiet_nil ?_; intro _ hw'; obtain ⟨⟨dq, osq⟩, hw''⟩ := hw'; subst hw''))
    all_goals first
      | (exfalso; omega)
      | refine bodyPost_ret (v := .tuple #[.agg #[.int .i64 0, .int .i64 0], .int .i64 16]) (by simp [results, Try.results54, go_sem]) rfl ⟨rfl, (by repeat (first | exact Below.refl _ _ | refine below_reg ?_ _ _ | refine below_alloc ?_ _ | exact below_drewN ?_ _ | assumption))⟩

theorem make_any (n d : Int) (w : World) (h0 : -9223372036854775808 ≤ n) (h1 : n ≤ 9223372036854775807) (h2 : -9223372036854775808 ≤ d) (h3 : d ≤ 9223372036854775807) (hd : d ≠ 0) :
    Calls Try.prog 29 #[.int .i64 n, .int .i64 d] w fun e w' =>
      e = .returned (.tuple #[.agg #[.int .i64 (buildN (!(decide (n < 0) == decide (d < 0))) (n.natAbs / Nat.gcd n.natAbs d.natAbs) (d.natAbs / Nat.gcd n.natAbs d.natAbs)).1, .int .i64 (buildN (!(decide (n < 0) == decide (d < 0))) (n.natAbs / Nat.gcd n.natAbs d.natAbs) (d.natAbs / Nat.gcd n.natAbs d.natAbs)).2.1],
        .int .i64 (buildN (!(decide (n < 0) == decide (d < 0))) (n.natAbs / Nat.gcd n.natAbs d.natAbs) (d.natAbs / Nat.gcd n.natAbs d.natAbs)).2.2]) ∧ Below w.heap.size w w' := by
  have hz : (d == 0) = false := by simpa using hd
  have HB := fun w => build_any (!(decide (n < 0) == decide (d < 0))) 0 (n.natAbs / Nat.gcd n.natAbs d.natAbs) 0 (d.natAbs / Nat.gcd n.natAbs d.natAbs) w
  simp only [Nat.zero_mul, Nat.zero_add, cast0] at HB
  have HBB := Lib.hid HB
  have hg1 : 0 < Nat.gcd n.natAbs d.natAbs := Nat.gcd_pos_of_pos_right _ (by omega)
  have hna := Nat.div_le_self n.natAbs (Nat.gcd n.natAbs d.natAbs)
  have hda := Nat.div_le_self d.natAbs (Nat.gcd n.natAbs d.natAbs)
  clear HB
  obtain ⟨g, hgd⟩ : ∃ g, g = Nat.gcd n.natAbs d.natAbs := ⟨_, rfl⟩
  rw [← hgd] at hg1 HBB hna hda
  rw [← hgd]
  have HG := fun w => gcd_any n.natAbs d.natAbs w
  rw [← hgd] at HG
  have HGG := Lib.hid HG
  clear HG hgd
  have hgz : ((g : Int) == 0) = false := by simp; omega
  have W1 : IntKind.u64.wrap ((n.natAbs : Int) / (g : Int)) = ((n.natAbs / g : Nat) : Int) := by
    rw [IntKind.wrap_u64, ← Int.natCast_ediv]; exact Int.emod_eq_of_lt (Int.natCast_nonneg _) (by omega)
  have W2 : IntKind.u64.wrap ((d.natAbs : Int) / (g : Int)) = ((d.natAbs / g : Nat) : Int) := by
    rw [IntKind.wrap_u64, ← Int.natCast_ediv]; exact Int.emod_eq_of_lt (Int.natCast_nonneg _) (by omega)
  obtain ⟨x, hx⟩ : ∃ x, x = n.natAbs / g := ⟨_, rfl⟩
  obtain ⟨y, hy⟩ : ∃ y, y = d.natAbs / g := ⟨_, rfl⟩
  rw [← hx] at hna W1 HBB ⊢
  rw [← hy] at hda W2 HBB ⊢
  clear hx hy
  go_enter Try.func29, Try.ntmps29
  go_wp2_with (first | (go_at_call 53; (with_reducible refine cmono ?_ (abs_any _ _ ?_ ?_)); rotate_left; omega; omega; rintro e w' ⟨rfl, hbc0⟩; obtain ⟨⟨dc0, osc0⟩, rfl⟩ := regrown_of_below hbc0; clear hbc0) | (go_at_call 52; (with_reducible refine cmono ?_ (HGG.out _)); rotate_left; rintro e w' ⟨rfl, hbc1⟩; obtain ⟨⟨dc1, osc1⟩, rfl⟩ := regrown_of_below hbc1; clear hbc1) | (go_at_call 54; (with_reducible refine cmono ?_ (HBB.out _ ?_ ?_)); rotate_left; omega; omega; rintro e w' ⟨rfl, hbc2⟩; obtain ⟨⟨dc2, osc2⟩, rfl⟩ := regrown_of_below hbc2; clear hbc2) | ((with_reducible refine wp_region_quiet_below ?_ ?_ ?_); kernel_rfl; kernel_rfl; (repeat (go_big_quiet_step (first | (go_at_call 53; (with_reducible refine Calls.regrown_of (abs_any _ _ ?_ ?_)); omega; omega) | (go_at_call 52; (with_reducible refine Calls.regrown_of (HGG.out _))) | (go_at_call 54; (with_reducible refine Calls.regrown_of (HBB.out _ ?_ ?_)); omega; omega)))); refine wpQuiet_nil ?_; intro _ hw'; obtain ⟨⟨dq, osq⟩, hw''⟩ := hw'; subst hw'') | ((with_reducible refine wp_region_tail_below 17 ?_ ?_ ?_); kernel_rfl; kernel_rfl; simp only [List.take_succ_cons, List.take_zero, List.drop_succ_cons, List.drop_zero]; (repeat (go_big_quiet_step (first | (go_at_call 53; (with_reducible refine Calls.regrown_of (abs_any _ _ ?_ ?_)); omega; omega) | (go_at_call 52; (with_reducible refine Calls.regrown_of (HGG.out _))) | (go_at_call 54; (with_reducible refine Calls.regrown_of (HBB.out _ ?_ ?_)); omega; omega)))); refine wpQuiet_nil ?_; intro _ hw'; obtain ⟨⟨dq, osq⟩, hw''⟩ := hw'; subst hw''))
  refine bodyPost_ret (v := .tuple #[.agg #[.int .i64 (buildN (!(decide (n < 0) == decide (d < 0))) x y).1, .int .i64 (buildN (!(decide (n < 0) == decide (d < 0))) x y).2.1],
        .int .i64 (buildN (!(decide (n < 0) == decide (d < 0))) x y).2.2]) (by simp [results, Try.results29, go_sem]) rfl ⟨rfl, (by repeat (first | exact Below.refl _ _ | refine below_reg ?_ _ _ | refine below_alloc ?_ _ | exact below_drewN ?_ _ | assumption))⟩

end Go.Proofs.Ytffamgiknfphaaa
