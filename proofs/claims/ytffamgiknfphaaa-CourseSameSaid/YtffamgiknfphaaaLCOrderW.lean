

/- The laws CourseOrder, CourseChanges, CourseSame answer true. No condition. -/
import Derived.Test.YtffamgiknfphaaaLCAlive
import Derived.Test.YtffamgiknfphaaaRatS
namespace Go.Proofs.Ytffamgiknfphaaa
open Go.RowKit Go.Sort Sx
set_option linter.unusedVariables false
abbrev retT2 : DV := .c (.one (bol true))
theorem lead_pos (i b j d s : Int) : leadN i b j d s > 0 ↔ 0 < s ∨ s = 0 ∧ (d < b ∨ b = d ∧ i < j) := by
  unfold leadN cmpN
  (repeat' split) <;> omega
/-- ahead, as a proposition on a Bool -/
theorem lead_b {i b j d s : Int} {A : Bool} (h : decide (leadN i b j d s > 0) = A) : (A = true ∧ (0 < s ∨ s = 0 ∧ (d < b ∨ b = d ∧ i < j))) ∨ (A = false ∧ ¬ (0 < s ∨ s = 0 ∧ (d < b ∨ b = d ∧ i < j))) := by
  rw [← lead_pos]
  subst h
  by_cases h : leadN i b j d s > 0
  · exact .inl ⟨decide_eq_true h, h⟩
  · exact .inr ⟨decide_eq_false h, h⟩
theorem lfit_fn (i a b j c d k e f n m : Int) : FnOK Try.prog 22 [pt i a b, pt j c d, pt k e f, rat n m] (.c (.one (bol (decide (two02 i a b j c d n m = 0 ∧ two02 j c d k e f n m = 0 ∧ i ≠ k))))) := by
  refine fn_ok (by kernel_rfl) ty_ok Try.func22 rfl (fun _ _ => Try.call22 _ _) rfl ?_
  intro hw
  have T1 := kkTwo_fn i a b j c d n m
  have T2 := kkTwo_fn j c d k e f n m
  simp only [ret1] at T1 T2
  generalize two02 i a b j c d n m = x at *
  generalize two02 j c d k e f n m = y at *
  repeat' ((conv => whnf); first | (with_reducible refine br_t ?_) | (with_reducible refine br_f ?_) | ((with_reducible refine brd_t ?_ ?_); (first | omega | decide)) | ((with_reducible refine brd_f ?_ ?_); (first | omega | decide)) | (with_reducible refine brd (fun h => ?_) (fun h => ?_)) | ((with_reducible refine bre_t ?_ ?_); (first | omega | decide)) | ((with_reducible refine bre_f ?_ ?_); (first | omega | decide)) | (with_reducible refine bre (fun h => ?_) (fun h => ?_)) | ((with_reducible refine brn_t ?_ ?_); (first | omega | decide)) | ((with_reducible refine brn_f ?_ ?_); (first | omega | decide)) | (with_reducible refine brn (fun h => ?_) (fun h => ?_)) | (with_reducible refine brb_tt ?_) | (with_reducible refine brb_ff ?_) | (with_reducible refine brb_tf ?_) | (with_reducible refine brb_ft ?_) | (with_reducible refine bnb_tt ?_) | (with_reducible refine bnb_ff ?_) | (with_reducible refine bnb_tf ?_) | (with_reducible refine bnb_ft ?_) | (with_reducible refine brnot ?_) | (refine br_t' (by assumption) ?_) | (refine br_f' (by assumption) ?_) | (with_reducible refine br_i (fun h => ?_) (fun h => ?_)) | (with_reducible refine Exists.intro _ (And.intro (T1) ?_)) | (with_reducible refine Exists.intro _ (And.intro (T2) ?_)) | (with_reducible refine Exists.intro _ (And.intro (pv_bool fun _ => eqv23 _ _ _ _ _ _ _ _ _) ?_)) | (with_reducible refine Exists.intro _ (And.intro (pv_bool fun _ => nev23 _ _ _ _ _ _ _ _ _) ?_)) | (with_reducible refine Exists.intro _ (And.intro (pv_bool fun _ => eqv25 _ _ _ _ _ _ _) ?_)) | (with_reducible refine Exists.intro _ (And.intro (pv_bool fun _ => nev25 _ _ _ _ _ _ _) ?_)) | (with_reducible refine Exists.intro _ (And.intro (pv_bool fun _ => eqv61 _ _ _ _ _ _ _) ?_)) | (with_reducible refine Exists.intro _ (And.intro (pv_bool fun _ => nev61 _ _ _ _ _ _ _) ?_)) | (with_reducible refine Exists.intro _ (And.intro (pv_bool fun _ => eqv70 _ _ _ _ _ _ _ _ _) ?_)) | (with_reducible refine Exists.intro _ (And.intro (pv_bool fun _ => nev70 _ _ _ _ _ _ _ _ _) ?_)) | (with_reducible refine Exists.intro _ (And.intro (pv_bool fun _ => eqv85 _ _ _ _ _ _ _ _ _) ?_)) | (with_reducible refine Exists.intro _ (And.intro (pv_bool fun _ => nev85 _ _ _ _ _ _ _ _ _) ?_)) | refine And.intro (by kernel_rfl) ?_ | refine And.intro (by omega) ?_ | refine And.intro (by decide) ?_)
  all_goals conv => whnf
  all_goals
    refine r_bool ?_
    first
    | (symm; rw [decide_eq_true_eq]; omega)
    | (symm; rw [decide_eq_false_iff_not]; omega)
    | (symm; by_cases hik : i = k <;> simp [*])
theorem aheadV_ok {i a b j c d n m : Int} (h : two02 i a b j c d n m = 0) : aheadV i a b j c d n m = (decide (leadN i b j d ((a - c) * m + (b - d) * n) > 0), 0) := by
  unfold aheadV; rw [if_pos h]
theorem two_sym {i a b j c d n m : Int} (h : two02 i a b j c d n m = 0) : two02 j c d i a b n m = 0 := by
  obtain ⟨h1, h2, h3, h4⟩ := two02_ok h
  unfold two02; rw [if_pos ⟨h2, h1, h3⟩, if_neg (fun h => h4 h.symm)]
set_option maxRecDepth 100000 in
set_option maxHeartbeats 4000000 in
theorem LCOrder_fn (i a b j c d k e f n m : Int) : FnOK Try.prog 6 [pt i a b, pt j c d, pt k e f, rat n m] retT2 := by
  refine fn_ok (by kernel_rfl) ty_ok Try.func6 rfl (fun _ _ => Try.call6 _ _) rfl ?_
  intro hw
  clear hw
  have HF := lfit_fn i a b j c d k e f n m
  by_cases hf : two02 i a b j c d n m = 0 ∧ two02 j c d k e f n m = 0 ∧ i ≠ k
  · rw [decide_eq_true hf] at HF
    obtain ⟨h1, h2, h3⟩ := hf
    have h4 := two_sym h1
    have h5 : two02 i a b k e f n m = 0 := by
      obtain ⟨k1, k2, k3, k4⟩ := two02_ok h1
      obtain ⟨l1, l2, l3, l4⟩ := two02_ok h2
      unfold two02; rw [if_pos ⟨k1, l2, k3⟩, if_neg h3]
    obtain ⟨_, _, _, hij⟩ := two02_ok h1
    obtain ⟨_, _, _, hjk⟩ := two02_ok h2
    have A1 := kAhead_fn i a b j c d n m
    have A2 := kAhead_fn j c d i a b n m
    have A3 := kAhead_fn j c d k e f n m
    have A4 := kAhead_fn i a b k e f n m
    rw [aheadV_ok h1] at A1
    rw [aheadV_ok h4] at A2
    rw [aheadV_ok h2] at A3
    rw [aheadV_ok h5] at A4
    have s1 : (c - a) * m + (d - b) * n = -((a - c) * m + (b - d) * n) := by
      rw [Int.sub_mul, Int.sub_mul, Int.sub_mul, Int.sub_mul]; omega
    have s2 : (a - e) * m + (b - f) * n = ((a - c) * m + (b - d) * n) + ((c - e) * m + (d - f) * n) := by
      rw [Int.sub_mul, Int.sub_mul, Int.sub_mul, Int.sub_mul, Int.sub_mul, Int.sub_mul]; omega
    rw [s1] at A2
    rw [s2] at A4
    generalize (a - c) * m + (b - d) * n = s at *
    generalize (c - e) * m + (d - f) * n = t at *
    generalize g1 : decide (leadN i b j d s > 0) = A at *
    generalize g2 : decide (leadN j d i b (-s) > 0) = B at *
    generalize g3 : decide (leadN j d k f t > 0) = C at *
    generalize g4 : decide (leadN i b k f (s + t) > 0) = D at *
    have q1 := lead_b g1
    have q2 := lead_b g2
    have q3 := lead_b g3
    have q4 := lead_b g4
    have f1 : A = !B := by
      rcases q1 with ⟨rfl, q1⟩ | ⟨rfl, q1⟩ <;> rcases q2 with ⟨rfl, q2⟩ | ⟨rfl, q2⟩ <;> first | rfl | (exfalso; clear q3 q4; omega)
    have f2 : A = true → C = true → D = true := by
      rcases q1 with ⟨rfl, q1⟩ | ⟨rfl, q1⟩ <;> rcases q3 with ⟨rfl, q3⟩ | ⟨rfl, q3⟩ <;> rcases q4 with ⟨rfl, q4⟩ | ⟨rfl, q4⟩ <;> first | (intros; first | rfl | contradiction) | (exfalso; clear q2; omega)
    have f3 : A = false → C = false → D = false := by
      rcases q1 with ⟨rfl, q1⟩ | ⟨rfl, q1⟩ <;> rcases q3 with ⟨rfl, q3⟩ | ⟨rfl, q3⟩ <;> rcases q4 with ⟨rfl, q4⟩ | ⟨rfl, q4⟩ <;> first | (intros; first | rfl | contradiction) | (exfalso; clear q2; omega)
    clear q1 q2 q3 q4 g1 g2 g3 g4 s1 s2 h1 h2 h3 h4 h5
    simp only [retBI] at *
    subst f1
    cases B <;> cases C <;> cases D <;> first | (exfalso; revert f2 f3; decide) | skip
    all_goals
      simp only [Bool.not_true, Bool.not_false] at *
      repeat' ((conv => whnf); first | (with_reducible refine br_t ?_) | (with_reducible refine br_f ?_) | ((with_reducible refine brd_t ?_ ?_); (first | omega | decide)) | ((with_reducible refine brd_f ?_ ?_); (first | omega | decide)) | (with_reducible refine brd (fun h => ?_) (fun h => ?_)) | ((with_reducible refine bre_t ?_ ?_); (first | omega | decide)) | ((with_reducible refine bre_f ?_ ?_); (first | omega | decide)) | (with_reducible refine bre (fun h => ?_) (fun h => ?_)) | ((with_reducible refine brn_t ?_ ?_); (first | omega | decide)) | ((with_reducible refine brn_f ?_ ?_); (first | omega | decide)) | (with_reducible refine brn (fun h => ?_) (fun h => ?_)) | (with_reducible refine brb_tt ?_) | (with_reducible refine brb_ff ?_) | (with_reducible refine brb_tf ?_) | (with_reducible refine brb_ft ?_) | (with_reducible refine bnb_tt ?_) | (with_reducible refine bnb_ff ?_) | (with_reducible refine bnb_tf ?_) | (with_reducible refine bnb_ft ?_) | (with_reducible refine brnot ?_) | (refine br_t' (by assumption) ?_) | (refine br_f' (by assumption) ?_) | (with_reducible refine br_i (fun h => ?_) (fun h => ?_)) | (with_reducible refine Exists.intro _ (And.intro (HF) ?_)) | (with_reducible refine Exists.intro _ (And.intro (A1) ?_)) | (with_reducible refine Exists.intro _ (And.intro (A2) ?_)) | (with_reducible refine Exists.intro _ (And.intro (A3) ?_)) | (with_reducible refine Exists.intro _ (And.intro (A4) ?_)) | (with_reducible refine Exists.intro _ (And.intro (lalive2_fn) ?_)) | (with_reducible refine Exists.intro _ (And.intro (pv_bool fun _ => eqv23 _ _ _ _ _ _ _ _ _) ?_)) | (with_reducible refine Exists.intro _ (And.intro (pv_bool fun _ => nev23 _ _ _ _ _ _ _ _ _) ?_)) | (with_reducible refine Exists.intro _ (And.intro (pv_bool fun _ => eqv25 _ _ _ _ _ _ _) ?_)) | (with_reducible refine Exists.intro _ (And.intro (pv_bool fun _ => nev25 _ _ _ _ _ _ _) ?_)) | (with_reducible refine Exists.intro _ (And.intro (pv_bool fun _ => eqv61 _ _ _ _ _ _ _) ?_)) | (with_reducible refine Exists.intro _ (And.intro (pv_bool fun _ => nev61 _ _ _ _ _ _ _) ?_)) | (with_reducible refine Exists.intro _ (And.intro (pv_bool fun _ => eqv70 _ _ _ _ _ _ _ _ _) ?_)) | (with_reducible refine Exists.intro _ (And.intro (pv_bool fun _ => nev70 _ _ _ _ _ _ _ _ _) ?_)) | (with_reducible refine Exists.intro _ (And.intro (pv_bool fun _ => eqv85 _ _ _ _ _ _ _ _ _) ?_)) | (with_reducible refine Exists.intro _ (And.intro (pv_bool fun _ => nev85 _ _ _ _ _ _ _ _ _) ?_)) | refine And.intro (by kernel_rfl) ?_ | refine And.intro (by omega) ?_ | refine And.intro (by decide) ?_)
      all_goals conv => whnf
      all_goals exact r_bool (by simp)
  · rw [decide_eq_false hf] at HF
    repeat' ((conv => whnf); first | (with_reducible refine br_t ?_) | (with_reducible refine br_f ?_) | ((with_reducible refine brd_t ?_ ?_); (first | omega | decide)) | ((with_reducible refine brd_f ?_ ?_); (first | omega | decide)) | (with_reducible refine brd (fun h => ?_) (fun h => ?_)) | ((with_reducible refine bre_t ?_ ?_); (first | omega | decide)) | ((with_reducible refine bre_f ?_ ?_); (first | omega | decide)) | (with_reducible refine bre (fun h => ?_) (fun h => ?_)) | ((with_reducible refine brn_t ?_ ?_); (first | omega | decide)) | ((with_reducible refine brn_f ?_ ?_); (first | omega | decide)) | (with_reducible refine brn (fun h => ?_) (fun h => ?_)) | (with_reducible refine brb_tt ?_) | (with_reducible refine brb_ff ?_) | (with_reducible refine brb_tf ?_) | (with_reducible refine brb_ft ?_) | (with_reducible refine bnb_tt ?_) | (with_reducible refine bnb_ff ?_) | (with_reducible refine bnb_tf ?_) | (with_reducible refine bnb_ft ?_) | (with_reducible refine brnot ?_) | (refine br_t' (by assumption) ?_) | (refine br_f' (by assumption) ?_) | (with_reducible refine br_i (fun h => ?_) (fun h => ?_)) | (with_reducible refine Exists.intro _ (And.intro (HF) ?_)) | (with_reducible refine Exists.intro _ (And.intro (lalive2_fn) ?_)) | (with_reducible refine Exists.intro _ (And.intro (pv_bool fun _ => eqv23 _ _ _ _ _ _ _ _ _) ?_)) | (with_reducible refine Exists.intro _ (And.intro (pv_bool fun _ => nev23 _ _ _ _ _ _ _ _ _) ?_)) | (with_reducible refine Exists.intro _ (And.intro (pv_bool fun _ => eqv25 _ _ _ _ _ _ _) ?_)) | (with_reducible refine Exists.intro _ (And.intro (pv_bool fun _ => nev25 _ _ _ _ _ _ _) ?_)) | (with_reducible refine Exists.intro _ (And.intro (pv_bool fun _ => eqv61 _ _ _ _ _ _ _) ?_)) | (with_reducible refine Exists.intro _ (And.intro (pv_bool fun _ => nev61 _ _ _ _ _ _ _) ?_)) | (with_reducible refine Exists.intro _ (And.intro (pv_bool fun _ => eqv70 _ _ _ _ _ _ _ _ _) ?_)) | (with_reducible refine Exists.intro _ (And.intro (pv_bool fun _ => nev70 _ _ _ _ _ _ _ _ _) ?_)) | (with_reducible refine Exists.intro _ (And.intro (pv_bool fun _ => eqv85 _ _ _ _ _ _ _ _ _) ?_)) | (with_reducible refine Exists.intro _ (And.intro (pv_bool fun _ => nev85 _ _ _ _ _ _ _ _ _) ?_)) | refine And.intro (by kernel_rfl) ?_ | refine And.intro (by omega) ?_ | refine And.intro (by decide) ?_)
    all_goals conv => whnf
    all_goals exact r_bool (by simp)
theorem LCOrder_true (i a b j c d k e f n m : Int) (w : World)
    (i0 : -9223372036854775808 ≤ i) (i1 : i ≤ 9223372036854775807) (a0 : -9223372036854775808 ≤ a) (a1 : a ≤ 9223372036854775807) (b0 : -9223372036854775808 ≤ b) (b1 : b ≤ 9223372036854775807)
    (j0 : -9223372036854775808 ≤ j) (j1 : j ≤ 9223372036854775807) (c0 : -9223372036854775808 ≤ c) (c1 : c ≤ 9223372036854775807) (d0 : -9223372036854775808 ≤ d) (d1 : d ≤ 9223372036854775807)
    (k0 : -9223372036854775808 ≤ k) (k1 : k ≤ 9223372036854775807) (e0 : -9223372036854775808 ≤ e) (e1 : e ≤ 9223372036854775807) (f0 : -9223372036854775808 ≤ f) (f1 : f ≤ 9223372036854775807)
    (n0 : -9223372036854775808 ≤ n) (n1 : n ≤ 9223372036854775807) (m0 : -9223372036854775808 ≤ m) (m1 : m ≤ 9223372036854775807) :
    Calls Try.prog 6 #[.agg #[.int .i64 i, .int .i64 a, .int .i64 b], .agg #[.int .i64 j, .int .i64 c, .int .i64 d], .agg #[.int .i64 k, .int .i64 e, .int .i64 f], .agg #[.int .i64 n, .int .i64 m]] w fun e w' => e = .returned (.bool true) ∧ Below w.heap.size w w' :=
  calls_of_fn (fun _ _ => Try.call6 _ _) rfl rfl (by simp only [WDCs, WDC, WDs, wd_i64, and_true]; omega) (LCOrder_fn i a b j c d k e f n m) w
end Go.Proofs.Ytffamgiknfphaaa
