

/- What plus of package ratio computes, step by step (a walk). For absolute values of 128 bits. -/
import Derived.Test.YtkobebnijkanhaaRatB
import Derived.Laws.Externs
import Derived.Shelf.Spec.BitsCarry
namespace Go.Proofs.Ytkobebnijkanhaa
open Go.RowKit Go.Sort
set_option linter.unusedVariables false

theorem run_Add64 (x y c : Nat) (hc : c ≤ 1) (w : World) :
    (callFunc 54 #[.int .u64 x, .int .u64 y, .int .u64 c]).run Try.prog w = .ok (.value (.tuple #[.int .u64 ((x + y + c) % 18446744073709551616 : Nat), .int .u64 ((x + y + c) / 18446744073709551616 : Nat)])) w := by
  rw [run_callFunc_extern Try.func54 (by kernel_rfl) (by kernel_rfl) (by kernel_rfl) (e := add64Entry) (by kernel_rfl), run_add64 x y c (by omega) (by omega) (by omega) (by omega)]
  simp only [Result.andThen]
  congr 5 <;> omega

theorem run_Sub64 (x y b : Nat) (hb : b ≤ 1) (w : World) :
    (callFunc 55 #[.int .u64 x, .int .u64 y, .int .u64 b]).run Try.prog w = .ok (.value (.tuple #[.int .u64 ((x + 18446744073709551616 - y - b) % 18446744073709551616 : Nat), .int .u64 ((if x < y + b then 1 else 0 : Nat) : Int)])) w := by
  rw [run_callFunc_extern Try.func55 (by kernel_rfl) (by kernel_rfl) (by kernel_rfl) (e := sub64Entry) (by kernel_rfl), run_sub64 x y b hb]
  rfl

/-- the sum of two numbers with signs: its absolute value, and its sign -/
def plusM (x y : Bool) (m n : Nat) : Nat := if x = y then m + n else if m < n then n - m else m - n
def plusS (x y : Bool) (m n : Nat) : Bool := if x = y then x else if m < n then y else x

theorem plus_same (x : Bool) (a b c d : Nat) (w : World) (hb : b < 18446744073709551616) (hd : d < 18446744073709551616) (ha : a + c < 18446744073709551614) :
    Calls Try.prog 43 #[.agg #[.bool x, .int .u64 a, .int .u64 b], .agg #[.bool x, .int .u64 c, .int .u64 d]] w fun en w' =>
      en = .returned (.agg #[.bool x, .int .u64 ((a * 18446744073709551616 + b + (c * 18446744073709551616 + d)) / 18446744073709551616 : Nat), .int .u64 ((a * 18446744073709551616 + b + (c * 18446744073709551616 + d)) % 18446744073709551616 : Nat)]) ∧ Below w.heap.size w w' := by
  obtain ⟨lo, hlo⟩ : ∃ lo, lo = (b + d + 0) % 18446744073709551616 := ⟨_, rfl⟩
  obtain ⟨cy, hcy⟩ : ∃ cy, cy = (b + d + 0) / 18446744073709551616 := ⟨_, rfl⟩
  obtain ⟨hi, hhi⟩ : ∃ hi, hi = (a + c + cy) % 18446744073709551616 := ⟨_, rfl⟩
  have E1 : ∀ w, (callFunc 54 #[.int .u64 b, .int .u64 d, .int .u64 0]).run Try.prog w = .ok (.value (.tuple #[.int .u64 lo, .int .u64 cy])) w := by
    rw [hlo, hcy]; exact run_Add64 b d 0 (by omega)
  have E2 : ∀ w, (callFunc 54 #[.int .u64 a, .int .u64 c, .int .u64 cy]).run Try.prog w = .ok (.value (.tuple #[.int .u64 hi, .int .u64 ((a + c + cy) / 18446744073709551616 : Nat)])) w := by
    rw [hhi]; exact run_Add64 a c cy (by omega)
  have R1 : (a * 18446744073709551616 + b + (c * 18446744073709551616 + d)) / 18446744073709551616 = hi := by omega
  have R2 : (a * 18446744073709551616 + b + (c * 18446744073709551616 + d)) % 18446744073709551616 = lo := by omega
  rw [R1, R2]
  clear R1 R2 hlo hcy hhi
  go_enter Try.func43, Try.ntmps43
  go_wp2_with (first | ((with_reducible refine wp_region_quiet_below ?_ ?_ ?_); kernel_rfl; kernel_rfl; (repeat (go_big_quiet_step (fail))); refine wpQuiet_nil ?_; intro _ hw'; obtain ⟨⟨dq, osq⟩, hw''⟩ := hw'; subst hw''))
  refine bodyPost_ret (v := .agg #[.bool x, .int .u64 hi, .int .u64 lo]) (by simp [results, Try.results43, go_sem]) rfl ⟨rfl, (by repeat (first | exact Below.refl _ _ | refine below_reg ?_ _ _ | refine below_alloc ?_ _ | exact below_drewN ?_ _ | assumption))⟩

theorem plus_other (x : Bool) (a b c d : Nat) (w : World) (hb : b < 18446744073709551616) (hd : d < 18446744073709551616) (ha : a < 18446744073709551616) (hc : c < 18446744073709551616)
    (hlt : a * 18446744073709551616 + b < c * 18446744073709551616 + d) :
    Calls Try.prog 43 #[.agg #[.bool x, .int .u64 a, .int .u64 b], .agg #[.bool (!x), .int .u64 c, .int .u64 d]] w fun en w' =>
      en = .returned (.agg #[.bool (!x), .int .u64 ((c * 18446744073709551616 + d - (a * 18446744073709551616 + b)) / 18446744073709551616 : Nat), .int .u64 ((c * 18446744073709551616 + d - (a * 18446744073709551616 + b)) % 18446744073709551616 : Nat)]) ∧ Below w.heap.size w w' := by
  obtain ⟨lo, hlo⟩ : ∃ lo, lo = (d + 18446744073709551616 - b - 0) % 18446744073709551616 := ⟨_, rfl⟩
  obtain ⟨cy, hcy⟩ : ∃ cy : Nat, cy = if d < b + 0 then 1 else 0 := ⟨_, rfl⟩
  obtain ⟨hi, hhi⟩ : ∃ hi, hi = (c + 18446744073709551616 - a - cy) % 18446744073709551616 := ⟨_, rfl⟩
  have hcy1 : cy ≤ 1 := by rw [hcy]; split <;> omega
  have E1 : ∀ w, (callFunc 55 #[.int .u64 d, .int .u64 b, .int .u64 0]).run Try.prog w = .ok (.value (.tuple #[.int .u64 lo, .int .u64 cy])) w := by
    rw [hlo, hcy]; exact run_Sub64 d b 0 (by omega)
  have E2 : ∀ w, (callFunc 55 #[.int .u64 c, .int .u64 a, .int .u64 cy]).run Try.prog w = .ok (.value (.tuple #[.int .u64 hi, .int .u64 ((if c < a + cy then 1 else 0 : Nat) : Int)])) w := by
    rw [hhi]; exact run_Sub64 c a cy hcy1
  have R1 : (c * 18446744073709551616 + d - (a * 18446744073709551616 + b)) / 18446744073709551616 = hi := by rw [hhi, hcy]; split <;> omega
  have R2 : (c * 18446744073709551616 + d - (a * 18446744073709551616 + b)) % 18446744073709551616 = lo := by omega
  have hC : cmpN ((a * 18446744073709551616 + b : Nat) : Int) ((c * 18446744073709551616 + d : Nat) : Int) = -1 := by unfold cmpN; rw [if_pos (by omega)]
  have HP := compare_any x (!x) a b c d
  rw [hC] at HP
  have HQ := Lib.hid HP
  rw [R1, R2]
  clear R1 R2 hlo hcy hhi hC HP hlt
  go_enter Try.func43, Try.ntmps43
  go_wp2_with (first | (go_at_call 40; (with_reducible refine cmono ?_ (HQ.out _ hb hd)); rotate_left; rintro e w' ⟨rfl, hb7⟩; obtain ⟨⟨d7, os7⟩, rfl⟩ := regrown_of_below hb7; clear hb7) | ((with_reducible refine wp_region_quiet_below ?_ ?_ ?_); kernel_rfl; kernel_rfl; (repeat (go_big_quiet_step (fail))); refine wpQuiet_nil ?_; intro _ hw'; obtain ⟨⟨dq, osq⟩, hw''⟩ := hw'; subst hw''))
  all_goals refine bodyPost_ret (v := .agg #[.bool (!x), .int .u64 hi, .int .u64 lo]) (by simp [results, Try.results43, go_sem]) rfl ⟨rfl, (by repeat (first | exact Below.refl _ _ | refine below_reg ?_ _ _ | refine below_alloc ?_ _ | exact below_drewN ?_ _ | assumption))⟩

theorem plus_more (x : Bool) (a b c d : Nat) (w : World) (hb : b < 18446744073709551616) (hd : d < 18446744073709551616) (ha : a < 18446744073709551616) (hc : c < 18446744073709551616)
    (hlt : ¬ a * 18446744073709551616 + b < c * 18446744073709551616 + d) :
    Calls Try.prog 43 #[.agg #[.bool x, .int .u64 a, .int .u64 b], .agg #[.bool (!x), .int .u64 c, .int .u64 d]] w fun en w' =>
      en = .returned (.agg #[.bool x, .int .u64 ((a * 18446744073709551616 + b - (c * 18446744073709551616 + d)) / 18446744073709551616 : Nat), .int .u64 ((a * 18446744073709551616 + b - (c * 18446744073709551616 + d)) % 18446744073709551616 : Nat)]) ∧ Below w.heap.size w w' := by
  obtain ⟨lo, hlo⟩ : ∃ lo, lo = (b + 18446744073709551616 - d - 0) % 18446744073709551616 := ⟨_, rfl⟩
  obtain ⟨cy, hcy⟩ : ∃ cy : Nat, cy = if b < d + 0 then 1 else 0 := ⟨_, rfl⟩
  obtain ⟨hi, hhi⟩ : ∃ hi, hi = (a + 18446744073709551616 - c - cy) % 18446744073709551616 := ⟨_, rfl⟩
  have hcy1 : cy ≤ 1 := by rw [hcy]; split <;> omega
  have E1 : ∀ w, (callFunc 55 #[.int .u64 b, .int .u64 d, .int .u64 0]).run Try.prog w = .ok (.value (.tuple #[.int .u64 lo, .int .u64 cy])) w := by
    rw [hlo, hcy]; exact run_Sub64 b d 0 (by omega)
  have E2 : ∀ w, (callFunc 55 #[.int .u64 a, .int .u64 c, .int .u64 cy]).run Try.prog w = .ok (.value (.tuple #[.int .u64 hi, .int .u64 ((if a < c + cy then 1 else 0 : Nat) : Int)])) w := by
    rw [hhi]; exact run_Sub64 a c cy hcy1
  have R1 : (a * 18446744073709551616 + b - (c * 18446744073709551616 + d)) / 18446744073709551616 = hi := by rw [hhi, hcy]; split <;> omega
  have R2 : (a * 18446744073709551616 + b - (c * 18446744073709551616 + d)) % 18446744073709551616 = lo := by omega
  obtain ⟨k, hk⟩ : ∃ k, k = cmpN ((a * 18446744073709551616 + b : Nat) : Int) ((c * 18446744073709551616 + d : Nat) : Int) := ⟨_, rfl⟩
  have hk0 : ¬ k < 0 := by rw [hk]; unfold cmpN; (repeat' split) <;> omega
  have HP := compare_any x (!x) a b c d
  rw [← hk] at HP
  have HQ := Lib.hid HP
  rw [R1, R2]
  clear R1 R2 hlo hcy hhi hk HP hlt
  go_enter Try.func43, Try.ntmps43
  go_wp2_with (first | (go_at_call 40; (with_reducible refine cmono ?_ (HQ.out _ hb hd)); rotate_left; rintro e w' ⟨rfl, hb7⟩; obtain ⟨⟨d7, os7⟩, rfl⟩ := regrown_of_below hb7; clear hb7) | ((with_reducible refine wp_region_quiet_below ?_ ?_ ?_); kernel_rfl; kernel_rfl; (repeat (go_big_quiet_step (fail))); refine wpQuiet_nil ?_; intro _ hw'; obtain ⟨⟨dq, osq⟩, hw''⟩ := hw'; subst hw''))
  all_goals refine bodyPost_ret (v := .agg #[.bool x, .int .u64 hi, .int .u64 lo]) (by simp [results, Try.results43, go_sem]) rfl ⟨rfl, (by repeat (first | exact Below.refl _ _ | refine below_reg ?_ _ _ | refine below_alloc ?_ _ | exact below_drewN ?_ _ | assumption))⟩

/-- every case -/
theorem plus_any (x y : Bool) (a b c d : Nat) (w : World) (hb : b < 18446744073709551616) (hd : d < 18446744073709551616) (ha : a < 9223372036854775807) (hc : c < 9223372036854775807) :
    Calls Try.prog 43 #[.agg #[.bool x, .int .u64 a, .int .u64 b], .agg #[.bool y, .int .u64 c, .int .u64 d]] w fun en w' =>
      en = .returned (.agg #[.bool (plusS x y (a * 18446744073709551616 + b) (c * 18446744073709551616 + d)), .int .u64 (plusM x y (a * 18446744073709551616 + b) (c * 18446744073709551616 + d) / 18446744073709551616 : Nat), .int .u64 (plusM x y (a * 18446744073709551616 + b) (c * 18446744073709551616 + d) % 18446744073709551616 : Nat)]) ∧ Below w.heap.size w w' := by
  by_cases hxy : x = y
  · subst hxy
    simp only [plusS, plusM, if_true]
    exact plus_same x a b c d w hb hd (by omega)
  · obtain rfl : y = !x := by cases x <;> cases y <;> simp_all
    by_cases hlt : a * 18446744073709551616 + b < c * 18446744073709551616 + d
    · simp only [plusS, plusM, hxy, if_false, hlt, if_true]
      exact plus_other x a b c d w hb hd (by omega) (by omega) hlt
    · simp only [plusS, plusM, hxy, if_false, hlt]
      exact plus_more x a b c d w hb hd (by omega) (by omega) hlt

end Go.Proofs.Ytkobebnijkanhaa
