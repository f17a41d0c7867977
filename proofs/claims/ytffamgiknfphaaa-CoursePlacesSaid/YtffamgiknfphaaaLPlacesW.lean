

/- The law CoursePlaces answers true, for every point and time. No condition. -/
import Derived.Test.YtffamgiknfphaaaCrsF
namespace Go.Proofs.Ytffamgiknfphaaa
open Go.RowKit Go.Sort Sx
set_option linter.unusedVariables false
theorem LPlaces_fn (i a b n m : Int) : FnOK Try.prog 4 [pt i a b, rat n m] (.c (.one (bol true))) := by
  refine fn_ok (by kernel_rfl) ty_ok Try.func4 rfl (fun _ _ => Try.call4 _ _) rfl ?_
  intro hw
  clear hw
  have A1 := kAt_fn i a b n m
  have A2 := kkAt_fn i a b n m
  have C1 := kCheck_fn i a b
  have C2 := kkCheck_fn i a b
  generalize atV i a b n m = o at *
  generalize cpt i a b = c at *
  simp only [ret1, ret3] at *
  repeat' ((conv => whnf); first | (with_reducible refine br_t ?_) | (with_reducible refine br_f ?_) | ((with_reducible refine brd_t ?_ ?_); (first | omega | decide)) | ((with_reducible refine brd_f ?_ ?_); (first | omega | decide)) | (with_reducible refine brd (fun h => ?_) (fun h => ?_)) | ((with_reducible refine bre_t ?_ ?_); (first | omega | decide)) | ((with_reducible refine bre_f ?_ ?_); (first | omega | decide)) | (with_reducible refine bre (fun h => ?_) (fun h => ?_)) | ((with_reducible refine brn_t ?_ ?_); (first | omega | decide)) | ((with_reducible refine brn_f ?_ ?_); (first | omega | decide)) | (with_reducible refine brn (fun h => ?_) (fun h => ?_)) | (with_reducible refine brb_tt ?_) | (with_reducible refine brb_ff ?_) | (with_reducible refine brb_tf ?_) | (with_reducible refine brb_ft ?_) | (with_reducible refine bnb_tt ?_) | (with_reducible refine bnb_ff ?_) | (with_reducible refine bnb_tf ?_) | (with_reducible refine bnb_ft ?_) | (with_reducible refine brnot ?_) | (refine br_t' (by assumption) ?_) | (refine br_f' (by assumption) ?_) | (with_reducible refine br_i (fun h => ?_) (fun h => ?_)) | (with_reducible refine Exists.intro _ (And.intro (A1) ?_)) | (with_reducible refine Exists.intro _ (And.intro (A2) ?_)) | (with_reducible refine Exists.intro _ (And.intro (C1) ?_)) | (with_reducible refine Exists.intro _ (And.intro (C2) ?_)) | (with_reducible refine Exists.intro _ (And.intro (pv_bool fun _ => eqv23 _ _ _ _ _ _ _ _ _) ?_)) | (with_reducible refine Exists.intro _ (And.intro (pv_bool fun _ => nev23 _ _ _ _ _ _ _ _ _) ?_)) | (with_reducible refine Exists.intro _ (And.intro (pv_bool fun _ => eqv25 _ _ _ _ _ _ _) ?_)) | (with_reducible refine Exists.intro _ (And.intro (pv_bool fun _ => nev25 _ _ _ _ _ _ _) ?_)) | (with_reducible refine Exists.intro _ (And.intro (pv_bool fun _ => eqv61 _ _ _ _ _ _ _) ?_)) | (with_reducible refine Exists.intro _ (And.intro (pv_bool fun _ => nev61 _ _ _ _ _ _ _) ?_)) | (with_reducible refine Exists.intro _ (And.intro (pv_bool fun _ => eqv70 _ _ _ _ _ _ _ _ _) ?_)) | (with_reducible refine Exists.intro _ (And.intro (pv_bool fun _ => nev70 _ _ _ _ _ _ _ _ _) ?_)) | (with_reducible refine Exists.intro _ (And.intro (pv_bool fun _ => eqv85 _ _ _ _ _ _ _ _ _) ?_)) | (with_reducible refine Exists.intro _ (And.intro (pv_bool fun _ => nev85 _ _ _ _ _ _ _ _ _) ?_)) | refine And.intro (by kernel_rfl) ?_ | refine And.intro (by omega) ?_ | refine And.intro (by decide) ?_)
  all_goals conv => whnf
  all_goals exact r_bool (by simp)
theorem LPlaces_true (i a b n m : Int) (w : World)
    (i0 : -9223372036854775808 ≤ i) (i1 : i ≤ 9223372036854775807) (a0 : -9223372036854775808 ≤ a) (a1 : a ≤ 9223372036854775807) (b0 : -9223372036854775808 ≤ b) (b1 : b ≤ 9223372036854775807)
    (n0 : -9223372036854775808 ≤ n) (n1 : n ≤ 9223372036854775807) (m0 : -9223372036854775808 ≤ m) (m1 : m ≤ 9223372036854775807) :
    Calls Try.prog 4 #[.agg #[.int .i64 i, .int .i64 a, .int .i64 b], .agg #[.int .i64 n, .int .i64 m]] w fun e w' => e = .returned (.bool true) ∧ Below w.heap.size w w' :=
  calls_of_fn (fun _ _ => Try.call4 _ _) rfl rfl (by simp only [WDCs, WDC, WDs, wd_i64, and_true]; omega) (LPlaces_fn i a b n m) w
end Go.Proofs.Ytffamgiknfphaaa
