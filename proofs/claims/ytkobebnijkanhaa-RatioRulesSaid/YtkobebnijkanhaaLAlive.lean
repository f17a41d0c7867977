


/- The chapter's examples hold: 'alive' answers true (walks at fixed numbers). -/
import Derived.Test.YtkobebnijkanhaaRatG
namespace Go.Proofs.Ytkobebnijkanhaa
open Go.RowKit Go.Sort
set_option linter.unusedVariables false

theorem v_m1 : makeV 6 (-4) = (-3, 2, 0) := by decide +kernel
theorem v_f1 : floorV (-3) 2 = (-2, 0) := by decide +kernel
theorem v_a1 : addV 1 3 1 6 = (1, 2, 0) := by decide +kernel
theorem v_u1 : mulV 1 3 1 6 = (1, 18, 0) := by decide +kernel
theorem v_c1 : cmpV 1 9223372036854775807 1 9223372036854775806 = (-1, 0) := by decide +kernel
theorem v_a2 : addV 1 9223372036854775807 1 9223372036854775806 = (0, 0, 16) := by decide +kernel
theorem v_m2 : makeV (-9223372036854775808) (-9223372036854775808) = (1, 1, 0) := by decide +kernel
theorem v_m3 : makeV (-9223372036854775808) 1 = (0, 0, 16) := by decide +kernel

theorem is_true (n d : Int) (w : World) : Calls Try.prog 31 #[.agg #[.int .i64 n, .int .i64 d], .int .i64 0, .int .i64 n, .int .i64 d] w fun e w' => e = .returned (.bool true) ∧ Below w.heap.size w w' := by
  go_enter Try.func31, Try.ntmps31
  go_wp2_with (first | ((with_reducible refine wp_region_quiet_below ?_ ?_ ?_); kernel_rfl; kernel_rfl; (repeat (go_big_quiet_step (fail))); refine wpQuiet_nil ?_; intro _ hw'; obtain ⟨⟨dq, osq⟩, hw''⟩ := hw'; subst hw''))
  go_ret
  exact ⟨rfl, (by repeat (first | exact Below.refl _ _ | refine below_reg ?_ _ _ | refine below_alloc ?_ _ | exact below_drewN ?_ _ | assumption))⟩

attribute [local go_sem] v_m1 v_f1 v_a1 v_u1 v_c1 v_a2 v_m2 v_m3
set_option maxHeartbeats 4000000 in
theorem alive_true (w : World) : Calls Try.prog 28 #[] w fun e w' => e = .returned (.bool true) ∧ Below w.heap.size w w' := by
  go_enter Try.func28, Try.ntmps28
  go_wp2_with (first | (go_at_call 10; (with_reducible refine cmono ?_ (makeV_any _ _ _ ?_ ?_ ?_ ?_)); rotate_left; omega; omega; omega; omega; rintro e w' ⟨rfl, hbc0⟩; obtain ⟨⟨dc0, osc0⟩, rfl⟩ := regrown_of_below hbc0; clear hbc0) | (go_at_call 14; (with_reducible refine cmono ?_ (floor_any _ _ _ ?_ ?_ ?_ ?_)); rotate_left; omega; omega; omega; omega; rintro e w' ⟨rfl, hbc1⟩; obtain ⟨⟨dc1, osc1⟩, rfl⟩ := regrown_of_below hbc1; clear hbc1) | (go_at_call 22; (with_reducible refine cmono ?_ (add_any _ _ _ _ _ ?_ ?_ ?_ ?_ ?_ ?_ ?_ ?_)); rotate_left; omega; omega; omega; omega; omega; omega; omega; omega; rintro e w' ⟨rfl, hbc2⟩; obtain ⟨⟨dc2, osc2⟩, rfl⟩ := regrown_of_below hbc2; clear hbc2) | (go_at_call 26; (with_reducible refine cmono ?_ (mul_any _ _ _ _ _ ?_ ?_ ?_ ?_ ?_ ?_ ?_ ?_)); rotate_left; omega; omega; omega; omega; omega; omega; omega; omega; rintro e w' ⟨rfl, hbc3⟩; obtain ⟨⟨dc3, osc3⟩, rfl⟩ := regrown_of_below hbc3; clear hbc3) | (go_at_call 20; (with_reducible refine cmono ?_ (cmp_any _ _ _ _ _ ?_ ?_ ?_ ?_ ?_ ?_ ?_ ?_)); rotate_left; omega; omega; omega; omega; omega; omega; omega; omega; rintro e w' ⟨rfl, hbc4⟩; obtain ⟨⟨dc4, osc4⟩, rfl⟩ := regrown_of_below hbc4; clear hbc4) | (go_at_call 31; (with_reducible refine cmono ?_ (is_true _ _ _)); rotate_left; rintro e w' ⟨rfl, hbc5⟩; obtain ⟨⟨dc5, osc5⟩, rfl⟩ := regrown_of_below hbc5; clear hbc5) | ((with_reducible refine wp_region_quiet_below ?_ ?_ ?_); kernel_rfl; kernel_rfl; (repeat (go_big_quiet_step (first | (go_at_call 10; (with_reducible refine Calls.regrown_of (makeV_any _ _ _ ?_ ?_ ?_ ?_)); omega; omega; omega; omega) | (go_at_call 14; (with_reducible refine Calls.regrown_of (floor_any _ _ _ ?_ ?_ ?_ ?_)); omega; omega; omega; omega) | (go_at_call 22; (with_reducible refine Calls.regrown_of (add_any _ _ _ _ _ ?_ ?_ ?_ ?_ ?_ ?_ ?_ ?_)); omega; omega; omega; omega; omega; omega; omega; omega) | (go_at_call 26; (with_reducible refine Calls.regrown_of (mul_any _ _ _ _ _ ?_ ?_ ?_ ?_ ?_ ?_ ?_ ?_)); omega; omega; omega; omega; omega; omega; omega; omega) | (go_at_call 20; (with_reducible refine Calls.regrown_of (cmp_any _ _ _ _ _ ?_ ?_ ?_ ?_ ?_ ?_ ?_ ?_)); omega; omega; omega; omega; omega; omega; omega; omega) | (go_at_call 31; (with_reducible refine Calls.regrown_of (is_true _ _ _)))))); refine wpQuiet_nil ?_; intro _ hw'; obtain ⟨⟨dq, osq⟩, hw''⟩ := hw'; subst hw''))
  go_ret
  exact ⟨rfl, (by repeat (first | exact Below.refl _ _ | refine below_reg ?_ _ _ | refine below_alloc ?_ _ | exact below_drewN ?_ _ | assumption))⟩

end Go.Proofs.Ytkobebnijkanhaa
