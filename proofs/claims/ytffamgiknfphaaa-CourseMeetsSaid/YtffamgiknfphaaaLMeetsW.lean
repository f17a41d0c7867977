

/- The law CourseMeets answers true, for every two points and time. No condition. -/
import Derived.Test.YtffamgiknfphaaaCrsD
namespace Go.Proofs.Ytffamgiknfphaaa
open Go.RowKit Go.Sort Sx
set_option linter.unusedVariables false
abbrev retT : DV := .c (.one (bol true))
theorem LMeets_fn (i a b j c d n m : Int) : FnOK Try.prog 3 [pt i a b, pt j c d, rat n m] retT := by
  refine fn_ok (by kernel_rfl) ty_ok Try.func3 rfl (fun _ _ => Try.call3 _ _) rfl ?_
  intro hw
  clear hw
  have A1 := kAhead_fn i a b j c d n m
  have A2 := kkAhead_fn i a b j c d n m
  have M1 := kMeet_fn i a b j c d
  have M2 := kkMeet_fn i a b j c d
  have F1 := kFails_fn i a b j c d n m
  have F2 := kkFails_fn i a b j c d n m
  obtain ⟨x, e, h1⟩ : ∃ x e, aheadV i a b j c d n m = (x, e) := ⟨_, _, rfl⟩
  obtain ⟨y, z, f, h2⟩ : ∃ y z f, meetV i a b j c d = (y, z, f) := ⟨_, _, _, rfl⟩
  obtain ⟨u, v, k, g, h3⟩ : ∃ u v k g, failsV i a b j c d n m = (u, v, k, g) := ⟨_, _, _, _, rfl⟩
  rw [h1] at A1 A2
  rw [h2] at M1 M2
  rw [h3] at F1 F2
  clear h1 h2 h3
  simp only [retBI, ret3, retF] at *
  cases x <;> cases k
  all_goals
    repeat' ((conv => whnf); first | (with_reducible refine br_t ?_) | (with_reducible refine br_f ?_) | ((with_reducible refine brd_t ?_ ?_); (first | omega | decide)) | ((with_reducible refine brd_f ?_ ?_); (first | omega | decide)) | (with_reducible refine brd (fun h => ?_) (fun h => ?_)) | ((with_reducible refine bre_t ?_ ?_); (first | omega | decide)) | ((with_reducible refine bre_f ?_ ?_); (first | omega | decide)) | (with_reducible refine bre (fun h => ?_) (fun h => ?_)) | ((with_reducible refine brn_t ?_ ?_); (first | omega | decide)) | ((with_reducible refine brn_f ?_ ?_); (first | omega | decide)) | (with_reducible refine brn (fun h => ?_) (fun h => ?_)) | (with_reducible refine brb_tt ?_) | (with_reducible refine brb_ff ?_) | (with_reducible refine brb_tf ?_) | (with_reducible refine brb_ft ?_) | (with_reducible refine bnb_tt ?_) | (with_reducible refine bnb_ff ?_) | (with_reducible refine bnb_tf ?_) | (with_reducible refine bnb_ft ?_) | (with_reducible refine brnot ?_) | (refine br_t' (by assumption) ?_) | (refine br_f' (by assumption) ?_) | (with_reducible refine br_i (fun h => ?_) (fun h => ?_)) | (with_reducible refine Exists.intro _ (And.intro (A1) ?_)) | (with_reducible refine Exists.intro _ (And.intro (A2) ?_)) | (with_reducible refine Exists.intro _ (And.intro (M1) ?_)) | (with_reducible refine Exists.intro _ (And.intro (M2) ?_)) | (with_reducible refine Exists.intro _ (And.intro (F1) ?_)) | (with_reducible refine Exists.intro _ (And.intro (F2) ?_)) | (with_reducible refine Exists.intro _ (And.intro (pv_bool fun _ => eqv23 _ _ _ _ _ _ _ _ _) ?_)) | (with_reducible refine Exists.intro _ (And.intro (pv_bool fun _ => nev23 _ _ _ _ _ _ _ _ _) ?_)) | (with_reducible refine Exists.intro _ (And.intro (pv_bool fun _ => eqv25 _ _ _ _ _ _ _) ?_)) | (with_reducible refine Exists.intro _ (And.intro (pv_bool fun _ => nev25 _ _ _ _ _ _ _) ?_)) | (with_reducible refine Exists.intro _ (And.intro (pv_bool fun _ => eqv61 _ _ _ _ _ _ _) ?_)) | (with_reducible refine Exists.intro _ (And.intro (pv_bool fun _ => nev61 _ _ _ _ _ _ _) ?_)) | (with_reducible refine Exists.intro _ (And.intro (pv_bool fun _ => eqv70 _ _ _ _ _ _ _ _ _) ?_)) | (with_reducible refine Exists.intro _ (And.intro (pv_bool fun _ => nev70 _ _ _ _ _ _ _ _ _) ?_)) | (with_reducible refine Exists.intro _ (And.intro (pv_bool fun _ => eqv85 _ _ _ _ _ _ _ _ _) ?_)) | (with_reducible refine Exists.intro _ (And.intro (pv_bool fun _ => nev85 _ _ _ _ _ _ _ _ _) ?_)) | refine And.intro (by kernel_rfl) ?_ | refine And.intro (by omega) ?_ | refine And.intro (by decide) ?_)
    all_goals conv => whnf
    all_goals exact r_bool (by simp)
theorem LMeets_true (i a b j c d n m : Int) (w : World)
    (i0 : -9223372036854775808 ≤ i) (i1 : i ≤ 9223372036854775807) (a0 : -9223372036854775808 ≤ a) (a1 : a ≤ 9223372036854775807) (b0 : -9223372036854775808 ≤ b) (b1 : b ≤ 9223372036854775807)
    (j0 : -9223372036854775808 ≤ j) (j1 : j ≤ 9223372036854775807) (c0 : -9223372036854775808 ≤ c) (c1 : c ≤ 9223372036854775807) (d0 : -9223372036854775808 ≤ d) (d1 : d ≤ 9223372036854775807)
    (n0 : -9223372036854775808 ≤ n) (n1 : n ≤ 9223372036854775807) (m0 : -9223372036854775808 ≤ m) (m1 : m ≤ 9223372036854775807) :
    Calls Try.prog 3 #[.agg #[.int .i64 i, .int .i64 a, .int .i64 b], .agg #[.int .i64 j, .int .i64 c, .int .i64 d], .agg #[.int .i64 n, .int .i64 m]] w fun e w' => e = .returned (.bool true) ∧ Below w.heap.size w w' :=
  calls_of_fn (fun _ _ => Try.call3 _ _) rfl rfl (by simp only [WDCs, WDC, WDs, wd_i64, and_true]; omega) (LMeets_fn i a b j c d n m) w
end Go.Proofs.Ytffamgiknfphaaa
