

/- What over, build, Make, Of of package ratio compute, step by step (walks). -/
import Derived.Test.YtkobebnijkanhaaRatC
import Derived.Test.YtkobebnijkanhaaDivW
namespace Go.Proofs.Ytkobebnijkanhaa
open Go.RowKit Go.Sort
set_option linter.unusedVariables false

theorem mul64_any (x y : Nat) (w : World) (hx : x < 18446744073709551616) (hy : y < 18446744073709551616) :
    Calls Try.prog 45 #[.int .u64 x, .int .u64 y] w fun e w' => e = .returned (.tuple #[.int .u64 (x * y / 18446744073709551616 : Nat), .int .u64 (x * y % 18446744073709551616 : Nat)]) ∧ Below w.heap.size w w' :=
  (Try.bits_Mul64 x y hx hy w).mono fun e w' ⟨he, hw⟩ => ⟨he, by rw [hw]; exact Below.refl _ _⟩

theorem over_any (x : Bool) (a b y : Nat) (w : World) (ha : a < 18446744073709551616) (hb : b < 18446744073709551616) (hy : 0 < y) (hY : y < 18446744073709551616) :
    Calls Try.prog 44 #[.agg #[.bool x, .int .u64 a, .int .u64 b], .int .u64 y] w fun e w' =>
      e = .returned (.tuple #[.agg #[.bool x, .int .u64 ((a * 18446744073709551616 + b) / y / 18446744073709551616 : Nat), .int .u64 ((a * 18446744073709551616 + b) / y % 18446744073709551616 : Nat)], .int .u64 ((a * 18446744073709551616 + b) % y : Nat)]) ∧ Below w.heap.size w w' := by
  have h0 : ((y : Int) == 0) = false := by simp; omega
  have hlt := Nat.mod_lt a hy
  have hq : a / y ≤ a := Nat.div_le_self _ _
  obtain ⟨e1, e2⟩ := kn_two 18446744073709551616 y a b hy
  have HW : IntKind.u64.wrap ((a : Int) / (y : Int)) = ((a / y : Nat) : Int) := by
    rw [IntKind.wrap_u64, ← Int.natCast_ediv]; exact Int.emod_eq_of_lt (Int.natCast_nonneg _) (by omega)
  have HR : (a : Int) % (y : Int) = ((a % y : Nat) : Int) := (Int.natCast_emod _ _).symm
  generalize a / y = q at *
  generalize a % y = r at *
  have hl : (r * 18446744073709551616 + b) / y < 18446744073709551616 := by
    rw [Nat.div_lt_iff_lt_mul hy]
    have : (r + 1) * 18446744073709551616 ≤ y * 18446744073709551616 := Nat.mul_le_mul_right _ hlt
    rw [Nat.mul_comm 18446744073709551616 y]; omega
  have HD := Lib.hid (div64_any r b y)
  obtain ⟨l, hld⟩ : ∃ l, l = (r * 18446744073709551616 + b) / y := ⟨_, rfl⟩
  obtain ⟨z, hzd⟩ : ∃ z, z = (r * 18446744073709551616 + b) % y := ⟨_, rfl⟩
  have HE := HD.out
  rw [← hld, ← hzd] at HE
  have HF := Lib.hid HE
  rw [← hld] at hl e1
  rw [← hzd] at e2
  rw [e1, e2]
  have f1 : (q * 18446744073709551616 + l) / 18446744073709551616 = q := hi_of _ q l hl
  have f2 : (q * 18446744073709551616 + l) % 18446744073709551616 = l := lo_of _ q l hl
  rw [f1, f2]
  clear HD HE hld hzd
  clear f1 f2 e1 e2 hq
  go_enter Try.func44, Try.ntmps44
  go_wp2_with (first | (go_at_call 56; (with_reducible refine cmono ?_ (HF.out _ hlt hY hb)); rotate_left; rintro e w' ⟨rfl, hb5⟩; obtain ⟨⟨d5, os5⟩, rfl⟩ := regrown_of_below hb5; clear hb5) | ((with_reducible refine wp_region_quiet_below ?_ ?_ ?_); kernel_rfl; kernel_rfl; (repeat (go_big_quiet_step (fail))); refine wpQuiet_nil ?_; intro _ hw'; obtain ⟨⟨dq, osq⟩, hw''⟩ := hw'; subst hw''))
  refine bodyPost_ret (v := .tuple #[.agg #[.bool x, .int .u64 (q : Nat), .int .u64 (l : Nat)], .int .u64 (z : Nat)]) (by simp [results, Try.results44, go_sem]) rfl ⟨rfl, (by repeat (first | exact Below.refl _ _ | refine below_reg ?_ _ _ | refine below_alloc ?_ _ | exact below_drewN ?_ _ | assumption))⟩

/-- a fraction with a sign, if it has a place -/
def buildN (neg : Bool) (m d : Nat) : Int × Int × Int :=
  if m ≤ 9223372036854775807 ∧ d ≤ 9223372036854775807 then (if neg then -(m : Int) else m, d, 0) else (0, 0, 16)

theorem build_any (x : Bool) (a b c d : Nat) (w : World) (hb : b < 18446744073709551616) (hd : d < 18446744073709551616) :
    Calls Try.prog 34 #[.agg #[.bool x, .int .u64 a, .int .u64 b], .int .u64 c, .int .u64 d] w fun e w' =>
      e = .returned (.tuple #[.agg #[.int .i64 (buildN x (a * 18446744073709551616 + b) (c * 18446744073709551616 + d)).1, .int .i64 (buildN x (a * 18446744073709551616 + b) (c * 18446744073709551616 + d)).2.1],
        .int .i64 (buildN x (a * 18446744073709551616 + b) (c * 18446744073709551616 + d)).2.2]) ∧ Below w.heap.size w w' := by
  by_cases hfit : a = 0 ∧ c = 0 ∧ b ≤ 9223372036854775807 ∧ d ≤ 9223372036854775807
  · obtain ⟨rfl, rfl, h1, h2⟩ := hfit
    have hB : buildN x (0 * 18446744073709551616 + b) (0 * 18446744073709551616 + d) = (if x then -(b : Int) else b, (d : Int), 0) := by
      unfold buildN; rw [if_pos ⟨by omega, by omega⟩]; simp
    rw [hB]
    clear hB
    cases x
    · go_enter Try.func34, Try.ntmps34
      go_wp2_with (first | ((with_reducible refine wp_region_quiet_below ?_ ?_ ?_); kernel_rfl; kernel_rfl; (repeat (go_big_quiet_step (fail))); refine wpQuiet_nil ?_; intro _ hw'; obtain ⟨⟨dq, osq⟩, hw''⟩ := hw'; subst hw''))
      refine bodyPost_ret (v := .tuple #[.agg #[.int .i64 (b : Int), .int .i64 (d : Int)], .int .i64 0]) (by simp [results, Try.results34, go_sem]) rfl ⟨rfl, (by repeat (first | exact Below.refl _ _ | refine below_reg ?_ _ _ | refine below_alloc ?_ _ | exact below_drewN ?_ _ | assumption))⟩
    · go_enter Try.func34, Try.ntmps34
      go_wp2_with (first | ((with_reducible refine wp_region_quiet_below ?_ ?_ ?_); kernel_rfl; kernel_rfl; (repeat (go_big_quiet_step (fail))); refine wpQuiet_nil ?_; intro _ hw'; obtain ⟨⟨dq, osq⟩, hw''⟩ := hw'; subst hw''))
      refine bodyPost_ret (v := .tuple #[.agg #[.int .i64 (-(b : Int)), .int .i64 (d : Int)], .int .i64 0]) (by simp [results, Try.results34, go_sem]) rfl ⟨rfl, (by repeat (first | exact Below.refl _ _ | refine below_reg ?_ _ _ | refine below_alloc ?_ _ | exact below_drewN ?_ _ | assumption))⟩
  · have hB : buildN x (a * 18446744073709551616 + b) (c * 18446744073709551616 + d) = (0, 0, 16) := by
      unfold buildN; rw [if_neg (by omega)]
    rw [hB]
    clear hB
    go_enter Try.func34, Try.ntmps34
    go_wp2_with (first | ((with_reducible refine wp_region_quiet_below ?_ ?_ ?_); kernel_rfl; kernel_rfl; (repeat (go_big_quiet_step (fail))); refine wpQuiet_nil ?_; intro _ hw'; obtain ⟨⟨dq, osq⟩, hw''⟩ := hw'; subst hw''))
    all_goals first
      | (exfalso; omega)
      | refine bodyPost_ret (v := .tuple #[.agg #[.int .i64 0, .int .i64 0], .int .i64 16]) (by simp [results, Try.results34, go_sem]) rfl ⟨rfl, (by repeat (first | exact Below.refl _ _ | refine below_reg ?_ _ _ | refine below_alloc ?_ _ | exact below_drewN ?_ _ | assumption))⟩

theorem make_any (n d : Int) (w : World) (h0 : -9223372036854775808 ≤ n) (h1 : n ≤ 9223372036854775807) (h2 : -9223372036854775808 ≤ d) (h3 : d ≤ 9223372036854775807) (hd : d ≠ 0) :
    Calls Try.prog 10 #[.int .i64 n, .int .i64 d] w fun e w' =>
      e = .returned (.tuple #[.agg #[.int .i64 (buildN (!(decide (n < 0) == decide (d < 0))) (n.natAbs / Nat.gcd n.natAbs d.natAbs) (d.natAbs / Nat.gcd n.natAbs d.natAbs)).1, .int .i64 (buildN (!(decide (n < 0) == decide (d < 0))) (n.natAbs / Nat.gcd n.natAbs d.natAbs) (d.natAbs / Nat.gcd n.natAbs d.natAbs)).2.1],
        .int .i64 (buildN (!(decide (n < 0) == decide (d < 0))) (n.natAbs / Nat.gcd n.natAbs d.natAbs) (d.natAbs / Nat.gcd n.natAbs d.natAbs)).2.2]) ∧ Below w.heap.size w w' := by
  have hz : (d == 0) = false := by simpa using hd
  have HB := fun w => build_any (!(decide (n < 0) == decide (d < 0))) 0 (n.natAbs / Nat.gcd n.natAbs d.natAbs) 0 (d.natAbs / Nat.gcd n.natAbs d.natAbs) w
  simp only [Nat.zero_mul, Nat.zero_add, cast0] at HB
  have HBB := Lib.hid HB
  have hg1 : 0 < Nat.gcd n.natAbs d.natAbs := Nat.gcd_pos_of_pos_right _ (by omega)
  have hna := Nat.div_le_self n.natAbs (Nat.gcd n.natAbs d.natAbs)
  have hda := Nat.div_le_self d.natAbs (Nat.gcd n.natAbs d.natAbs)
  clear HB
  obtain ⟨g, hgd⟩ : ∃ g, g = Nat.gcd n.natAbs d.natAbs := ⟨_, rfl⟩
  rw [← hgd] at hg1 HBB hna hda
  rw [← hgd]
  have HG := fun w => gcd_any n.natAbs d.natAbs w
  rw [← hgd] at HG
  have HGG := Lib.hid HG
  clear HG hgd
  have hgz : ((g : Int) == 0) = false := by simp; omega
  have W1 : IntKind.u64.wrap ((n.natAbs : Int) / (g : Int)) = ((n.natAbs / g : Nat) : Int) := by
    rw [IntKind.wrap_u64, ← Int.natCast_ediv]; exact Int.emod_eq_of_lt (Int.natCast_nonneg _) (by omega)
  have W2 : IntKind.u64.wrap ((d.natAbs : Int) / (g : Int)) = ((d.natAbs / g : Nat) : Int) := by
    rw [IntKind.wrap_u64, ← Int.natCast_ediv]; exact Int.emod_eq_of_lt (Int.natCast_nonneg _) (by omega)
  obtain ⟨x, hx⟩ : ∃ x, x = n.natAbs / g := ⟨_, rfl⟩
  obtain ⟨y, hy⟩ : ∃ y, y = d.natAbs / g := ⟨_, rfl⟩
  rw [← hx] at hna W1 HBB ⊢
  rw [← hy] at hda W2 HBB ⊢
  clear hx hy
  go_enter Try.func10, Try.ntmps10
  go_wp2_with (first | (go_at_call 33; (with_reducible refine cmono ?_ (abs_any _ _ ?_ ?_)); rotate_left; omega; omega; rintro e w' ⟨rfl, hbc0⟩; obtain ⟨⟨dc0, osc0⟩, rfl⟩ := regrown_of_below hbc0; clear hbc0) | (go_at_call 32; (with_reducible refine cmono ?_ (HGG.out _)); rotate_left; rintro e w' ⟨rfl, hbc1⟩; obtain ⟨⟨dc1, osc1⟩, rfl⟩ := regrown_of_below hbc1; clear hbc1) | (go_at_call 34; (with_reducible refine cmono ?_ (HBB.out _ ?_ ?_)); rotate_left; omega; omega; rintro e w' ⟨rfl, hbc2⟩; obtain ⟨⟨dc2, osc2⟩, rfl⟩ := regrown_of_below hbc2; clear hbc2) | ((with_reducible refine wp_region_quiet_below ?_ ?_ ?_); kernel_rfl; kernel_rfl; (repeat (go_big_quiet_step (first | (go_at_call 33; (with_reducible refine Calls.regrown_of (abs_any _ _ ?_ ?_)); omega; omega) | (go_at_call 32; (with_reducible refine Calls.regrown_of (HGG.out _))) | (go_at_call 34; (with_reducible refine Calls.regrown_of (HBB.out _ ?_ ?_)); omega; omega)))); refine wpQuiet_nil ?_; intro _ hw'; obtain ⟨⟨dq, osq⟩, hw''⟩ := hw'; subst hw'') | ((with_reducible refine wp_region_tail_below 17 ?_ ?_ ?_); kernel_rfl; kernel_rfl; simp only [List.take_succ_cons, List.take_zero, List.drop_succ_cons, List.drop_zero]; (repeat (go_big_quiet_step (first | (go_at_call 33; (with_reducible refine Calls.regrown_of (abs_any _ _ ?_ ?_)); omega; omega) | (go_at_call 32; (with_reducible refine Calls.regrown_of (HGG.out _))) | (go_at_call 34; (with_reducible refine Calls.regrown_of (HBB.out _ ?_ ?_)); omega; omega)))); refine wpQuiet_nil ?_; intro _ hw'; obtain ⟨⟨dq, osq⟩, hw''⟩ := hw'; subst hw''))
  refine bodyPost_ret (v := .tuple #[.agg #[.int .i64 (buildN (!(decide (n < 0) == decide (d < 0))) x y).1, .int .i64 (buildN (!(decide (n < 0) == decide (d < 0))) x y).2.1],
        .int .i64 (buildN (!(decide (n < 0) == decide (d < 0))) x y).2.2]) (by simp [results, Try.results10, go_sem]) rfl ⟨rfl, (by repeat (first | exact Below.refl _ _ | refine below_reg ?_ _ _ | refine below_alloc ?_ _ | exact below_drewN ?_ _ | assumption))⟩

end Go.Proofs.Ytkobebnijkanhaa
