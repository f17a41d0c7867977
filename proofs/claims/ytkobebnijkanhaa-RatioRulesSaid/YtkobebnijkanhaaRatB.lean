

/- What Asked, both, times, compare, cmp.Compare of package ratio compute, step by step (walks). For every argument that is a number of its type. -/
import Derived.Test.YtkobebnijkanhaaRatA
import Derived.Test.YtkobebnijkanhaaShelf
namespace Go.Proofs.Ytkobebnijkanhaa
open Go.RowKit Go.Sort
set_option linter.unusedVariables false

def askd (n d : Int) : Int := if chk n d ≠ 0 then chk n d else if 1073741824 < n.natAbs ∨ 1024 < d then 2 else 0

theorem chk_08 (n d : Int) : chk n d = 0 ∨ chk n d = 8 := by unfold chk; split <;> simp

theorem asked_any (n d : Int) (w : World) (h0 : -9223372036854775808 ≤ n) (h1 : n ≤ 9223372036854775807) (h2 : -9223372036854775808 ≤ d) (h3 : d ≤ 9223372036854775807) :
    Calls Try.prog 18 #[.agg #[.int .i64 n, .int .i64 d]] w fun e w' => e = .returned (.int .i64 (askd n d)) ∧ Below w.heap.size w w' := by
  cases hn : decide ((1073741824 : Int) < (n.natAbs : Nat)) <;> cases hd : decide (1024 < d)
  all_goals
    go_enter Try.func18, Try.ntmps18
    go_wp2_with (first | (go_at_call 16; (with_reducible refine cmono ?_ (check_any _ _ _ ?_ ?_ ?_ ?_)); rotate_left; omega; omega; omega; omega; rintro e w' ⟨rfl, hbc0⟩; obtain ⟨⟨dc0, osc0⟩, rfl⟩ := regrown_of_below hbc0; clear hbc0) | (go_at_call 33; (with_reducible refine cmono ?_ (abs_any _ _ ?_ ?_)); rotate_left; omega; omega; rintro e w' ⟨rfl, hbc1⟩; obtain ⟨⟨dc1, osc1⟩, rfl⟩ := regrown_of_below hbc1; clear hbc1) | ((with_reducible refine wp_region_quiet_below ?_ ?_ ?_); kernel_rfl; kernel_rfl; (repeat (go_big_quiet_step (first | (go_at_call 16; (with_reducible refine Calls.regrown_of (check_any _ _ _ ?_ ?_ ?_ ?_)); omega; omega; omega; omega) | (go_at_call 33; (with_reducible refine Calls.regrown_of (abs_any _ _ ?_ ?_)); omega; omega)))); refine wpQuiet_nil ?_; intro _ hw'; obtain ⟨⟨dq, osq⟩, hw''⟩ := hw'; subst hw''))
    all_goals (go_ret; refine ⟨ret_int ?_, (by repeat (first | exact Below.refl _ _ | refine below_reg ?_ _ _ | refine below_alloc ?_ _ | exact below_drewN ?_ _ | assumption))⟩)
    all_goals (simp only [bne_iff_ne, bne_eq_false_iff_eq, decide_eq_true_eq, decide_eq_false_iff_not, ne_eq] at *)
    all_goals (unfold askd; (first | rw [if_pos (by omega)] | rw [if_neg (by omega)]))
    all_goals (first | rfl | (rw [if_pos (by omega)]; done) | (rw [if_neg (by omega)]; done))

def bth (n d m e : Int) : Int := if chk n d = 0 then chk m e else 8

theorem both_any (n d m e : Int) (w : World) (h0 : -9223372036854775808 ≤ n) (h1 : n ≤ 9223372036854775807) (h2 : -9223372036854775808 ≤ d) (h3 : d ≤ 9223372036854775807)
    (k0 : -9223372036854775808 ≤ m) (k1 : m ≤ 9223372036854775807) (k2 : -9223372036854775808 ≤ e) (k3 : e ≤ 9223372036854775807) :
    Calls Try.prog 38 #[.agg #[.int .i64 n, .int .i64 d], .agg #[.int .i64 m, .int .i64 e]] w fun en w' => en = .returned (.int .i64 (bth n d m e)) ∧ Below w.heap.size w w' := by
  go_enter Try.func38, Try.ntmps38
  go_wp2_with (first | (go_at_call 16; (with_reducible refine cmono ?_ (check_any _ _ _ ?_ ?_ ?_ ?_)); rotate_left; omega; omega; omega; omega; rintro e w' ⟨rfl, hbc0⟩; obtain ⟨⟨dc0, osc0⟩, rfl⟩ := regrown_of_below hbc0; clear hbc0) | ((with_reducible refine wp_region_quiet_below ?_ ?_ ?_); kernel_rfl; kernel_rfl; (repeat (go_big_quiet_step (first | (go_at_call 16; (with_reducible refine Calls.regrown_of (check_any _ _ _ ?_ ?_ ?_ ?_)); omega; omega; omega; omega)))); refine wpQuiet_nil ?_; intro _ hw'; obtain ⟨⟨dq, osq⟩, hw''⟩ := hw'; subst hw''))
  go_ret
  refine ⟨ret_int ?_, (by repeat (first | exact Below.refl _ _ | refine below_reg ?_ _ _ | refine below_alloc ?_ _ | exact below_drewN ?_ _ | assumption))⟩
  unfold bth
  have c1 := chk_08 n d
  have c2 := chk_08 m e
  rcases c1 with c1 | c1 <;> rcases c2 with c2 | c2 <;> rw [c1, c2] <;> rfl

/-- -1, 0 or 1 -/
def cmpN (a b : Int) : Int := if a < b then -1 else if b < a then 1 else 0

theorem cmpi_any (n m : Int) (w : World) :
    Calls Try.prog 39 #[.int .i64 n, .int .i64 m] w fun en w' => en = .returned (.int .i64 (cmpN n m)) ∧ Below w.heap.size w w' := by
  go_enter Try.func39, Try.ntmps39
  go_wp2_with (first | go_in | ((with_reducible refine wp_region_quiet_below ?_ ?_ ?_); kernel_rfl; kernel_rfl; (repeat (go_big_quiet_step (fail))); refine wpQuiet_nil ?_; intro _ hw'; obtain ⟨⟨dq, osq⟩, hw''⟩ := hw'; subst hw''))
  all_goals (go_ret; refine ⟨ret_int ?_, (by repeat (first | exact Below.refl _ _ | refine below_reg ?_ _ _ | refine below_alloc ?_ _ | exact below_drewN ?_ _ | assumption))⟩)
  all_goals (unfold cmpN; (repeat' split) <;> omega)

theorem cmpu_any (n m : Int) (w : World) :
    Calls Try.prog 51 #[.int .u64 n, .int .u64 m] w fun en w' => en = .returned (.int .i64 (cmpN n m)) ∧ Below w.heap.size w w' := by
  go_enter Try.func51, Try.ntmps51
  go_wp2_with (first | go_in | ((with_reducible refine wp_region_quiet_below ?_ ?_ ?_); kernel_rfl; kernel_rfl; (repeat (go_big_quiet_step (fail))); refine wpQuiet_nil ?_; intro _ hw'; obtain ⟨⟨dq, osq⟩, hw''⟩ := hw'; subst hw''))
  all_goals (go_ret; refine ⟨ret_int ?_, (by repeat (first | exact Below.refl _ _ | refine below_reg ?_ _ _ | refine below_alloc ?_ _ | exact below_drewN ?_ _ | assumption))⟩)
  all_goals (unfold cmpN; (repeat' split) <;> omega)

theorem times_any (a b : Int) (w : World)  (h0 : -9223372036854775808 ≤ a) (h1 : a ≤ 9223372036854775807) (h2 : -9223372036854775808 ≤ b) (h3 : b ≤ 9223372036854775807) :
    Calls Try.prog 41 #[.int .i64 a, .int .i64 b] w fun en w' => en = .returned (.agg #[.bool (decide (a < 0) != decide (b < 0)), .int .u64 (a.natAbs * b.natAbs / 18446744073709551616 : Nat), .int .u64 (a.natAbs * b.natAbs % 18446744073709551616 : Nat)]) ∧ Below w.heap.size w w' := by
  go_enter Try.func41, Try.ntmps41
  go_wp2_with (first | (go_at_call 45; refine (Try.bits_Mul64 _ _ (by omega) (by omega) _).mono ?_; rintro e w' ⟨rfl, rfl⟩) | (go_at_call 33; (with_reducible refine cmono ?_ (abs_any _ _ ?_ ?_)); rotate_left; omega; omega; rintro e w' ⟨rfl, hbc0⟩; obtain ⟨⟨dc0, osc0⟩, rfl⟩ := regrown_of_below hbc0; clear hbc0) | ((with_reducible refine wp_region_quiet_below ?_ ?_ ?_); kernel_rfl; kernel_rfl; (repeat (go_big_quiet_step (first | (go_at_call 33; (with_reducible refine Calls.regrown_of (abs_any _ _ ?_ ?_)); omega; omega)))); refine wpQuiet_nil ?_; intro _ hw'; obtain ⟨⟨dq, osq⟩, hw''⟩ := hw'; subst hw''))
  refine bodyPost_ret (v := .agg #[.bool (decide (a < 0) != decide (b < 0)), .int .u64 (a.natAbs * b.natAbs / 18446744073709551616 : Nat), .int .u64 (a.natAbs * b.natAbs % 18446744073709551616 : Nat)]) (by simp [results, Try.results41, go_sem]; cases decide (a < 0) <;> cases decide (b < 0) <;> rfl) rfl ⟨rfl, (by repeat (first | exact Below.refl _ _ | refine below_reg ?_ _ _ | refine below_alloc ?_ _ | exact below_drewN ?_ _ | assumption))⟩

theorem cmpN_hi (a b c d : Nat) (hb : b < 18446744073709551616) (hd : d < 18446744073709551616) :
    cmpN ((a * 18446744073709551616 + b : Nat) : Int) ((c * 18446744073709551616 + d : Nat) : Int) = if cmpN (a : Int) c != 0 then cmpN (a : Int) c else cmpN (b : Int) d := by
  unfold cmpN
  (repeat' split) <;> first | rfl | omega | (exfalso; simp_all; done) | (exfalso; simp_all; omega)

theorem compare_any (x y : Bool) (a b c d : Nat) (w : World) (hb : b < 18446744073709551616) (hd : d < 18446744073709551616) :
    Calls Try.prog 40 #[.agg #[.bool x, .int .u64 a, .int .u64 b], .agg #[.bool y, .int .u64 c, .int .u64 d]] w fun en w' => en = .returned (.int .i64 (cmpN ((a * 18446744073709551616 + b : Nat) : Int) ((c * 18446744073709551616 + d : Nat) : Int))) ∧ Below w.heap.size w w' := by
  go_enter Try.func40, Try.ntmps40
  go_wp2_with (first | (go_at_call 51; (with_reducible refine cmono ?_ (cmpu_any _ _ _)); rotate_left; rintro e w' ⟨rfl, hbc0⟩; obtain ⟨⟨dc0, osc0⟩, rfl⟩ := regrown_of_below hbc0; clear hbc0) | ((with_reducible refine wp_region_quiet_below ?_ ?_ ?_); kernel_rfl; kernel_rfl; (repeat (go_big_quiet_step (first | (go_at_call 51; (with_reducible refine Calls.regrown_of (cmpu_any _ _ _)))))); refine wpQuiet_nil ?_; intro _ hw'; obtain ⟨⟨dq, osq⟩, hw''⟩ := hw'; subst hw''))
  all_goals (go_ret; refine ⟨ret_int ?_, (by repeat (first | exact Below.refl _ _ | refine below_reg ?_ _ _ | refine below_alloc ?_ _ | exact below_drewN ?_ _ | assumption))⟩)
  all_goals (rw [cmpN_hi a b c d hb hd]; simp [*])

end Go.Proofs.Ytkobebnijkanhaa
