

/- The law RatioOrder answers true, for every three fractions. No condition. -/
import Derived.Test.YtkobebnijkanhaaFnA
import Derived.Test.YtkobebnijkanhaaLAlive
namespace Go.Proofs.Ytkobebnijkanhaa
open Go.RowKit Go.Sort Sx
set_option linter.unusedVariables false
abbrev retT : DV := .c (.one (bol true))
theorem lalive_fn : FnOK Try.prog 28 [] retT := by
  refine fn_of_calls (vals := []) (fun _ _ => Try.call28 _ _) rfl rfl (fun h => ?_) (fun h w => alive_true w)
  simp only [WDV, WDC, wd_bol]
theorem sign_fn (n d : Int) : FnOK Try.prog 30 [.agg [i64 n, i64 d]] (ret1 (cmpN n 0)) := by
  refine fn_ok (by kernel_rfl) ty_ok Try.func30 rfl (fun _ _ => Try.call30 _ _) rfl ?_
  intro hw
  repeat' ((conv => whnf); first | (with_reducible refine br_t ?_) | (with_reducible refine br_f ?_) | ((with_reducible refine brd_t ?_ ?_); (first | assumption | decide)) | ((with_reducible refine brd_f ?_ ?_); (first | assumption | decide)) | (with_reducible refine brd (fun h => ?_) (fun h => ?_)) | ((with_reducible refine bre_t ?_ ?_); (first | assumption | decide)) | ((with_reducible refine bre_f ?_ ?_); (first | assumption | decide)) | (with_reducible refine bre (fun h => ?_) (fun h => ?_)) | ((with_reducible refine brn_t ?_ ?_); (first | assumption | decide)) | ((with_reducible refine brn_f ?_ ?_); (first | assumption | decide)) | (with_reducible refine brn (fun h => ?_) (fun h => ?_)) | (with_reducible refine brnot ?_) | (refine br_t' (by assumption) ?_) | (refine br_f' (by assumption) ?_) | (with_reducible refine br_i (fun h => ?_) (fun h => ?_)) | (with_reducible refine Exists.intro _ (And.intro (pv_bool fun _ => eqv23 _ _ _ _ _ _ _) ?_)) | (with_reducible refine Exists.intro _ (And.intro (pv_bool fun _ => nev23 _ _ _ _ _ _ _) ?_)) | (with_reducible refine Exists.intro _ (And.intro (pv_bool fun _ => eqv57 _ _ _ _ _ _ _ _ _) ?_)) | (with_reducible refine Exists.intro _ (And.intro (pv_bool fun _ => nev57 _ _ _ _ _ _ _ _ _) ?_)) | (with_reducible refine Exists.intro _ (And.intro (pv_bool fun _ => eqv60 _ _ _ _ _ _ _ _ _) ?_)) | (with_reducible refine Exists.intro _ (And.intro (pv_bool fun _ => nev60 _ _ _ _ _ _ _ _ _) ?_)) | refine And.intro (by kernel_rfl) ?_ | refine And.intro (by omega) ?_ | refine And.intro (by decide) ?_)
  all_goals conv => whnf
  all_goals
    refine r_int ?_
    have e : cmpN n 0 = if n < 0 then -1 else if 0 < n then 1 else 0 := rfl
    rw [e]
    (repeat' split) <;> omega
set_option maxHeartbeats 4000000 in
theorem LOrder_fn (p q r t u v : Int) : FnOK Try.prog 6 [.agg [i64 p, i64 q], .agg [i64 r, i64 t], .agg [i64 u, i64 v]] retT := by
  refine fn_ok (by kernel_rfl) ty_ok Try.func6 rfl (fun _ _ => Try.call6 _ _) rfl ?_
  intro hw
  have hp1 : p ≤ 9223372036854775807 := by simp only [WDCs, WDC, WDs, wd_i64] at hw; omega
  have hp2 : r ≤ 9223372036854775807 := by simp only [WDCs, WDC, WDs, wd_i64] at hw; omega
  have HB := rboth_fn p q r t
  have HK := rcheck_fn u v
  have HX := cmp_fn p q r t
  have HY := cmp_fn r t p q
  have HZ := cmp_fn r t u v
  have HW := cmp_fn p q u v
  have HS := sub_fn p q r t
  have HA := add_fn p q u v
  have HD := add_fn r t u v
  rcases bth_08 p q r t with hb | hb
  · obtain ⟨h1, h2⟩ := bth_ok hb
    rcases chk_08 u v with h3 | h3
    · rw [hb] at HB
      rw [h3] at HK
      rw [cmpV_c h1 h2] at HX
      rw [cmpV_c h2 h1, cmpQ_swap] at HY
      rw [cmpV_c h2 h3] at HZ
      rw [cmpV_c h1 h3] at HW
      rw [subV_q h1 h2 hp2] at HS
      rw [addV_q h1 h3] at HA
      rw [addV_q h2 h3] at HD
      have x0 := cmpQ_range (qv p q) (qv r t)
      have x1 := cmpQ_zero (qv p q) (qv r t)
      rw [qv_inj h1 h2] at x1
      have x2 : ¬ (cmpQ (qv p q) (qv r t) ≤ 0 ∧ cmpQ (qv r t) (qv u v) ≤ 0 ∧ 0 < cmpQ (qv p q) (qv u v)) := fun ⟨a, b, c⟩ => by
        rw [cmpQ_le] at a b
        have := (cmpQ_le _ _).2 (Rat.le_trans a b)
        omega
      have x3 := cmpQ_sub (qv p q) (qv r t)
      have x4 := cmpQ_add (qv p q) (qv r t) (qv u v)
      generalize cmpQ (qv p q) (qv r t) = x at *
      generalize cmpQ (qv r t) (qv u v) = z at *
      generalize cmpQ (qv p q) (qv u v) = o at *
      have w0 : IntKind.i64.wrap (0 - -x) = x := by rw [show (0 - -x) = x by omega]; exact IntWalk.i64_in x (by omega)
      have w1 : ((x == 0) == decide (p = r ∧ q = t)) = true := by
        by_cases h : x = 0
        · have := x1.1 h; simp [h, this]
        · have : ¬ (p = r ∧ q = t) := fun h' => h (x1.2 h')
          rw [decide_eq_false this, beq_eq_false_iff_ne.2 h]; rfl
      clear x1
      rcases outQ_cases (qv p q - qv r t) with ⟨n, d, s1, s2, s3, s4, _⟩ | s1 <;> rw [s1] at HS <;>
      rcases outQ_cases (qv p q + qv u v) with ⟨n1, d1, a1, a2, a3, a4, _⟩ | a1 <;> rw [a1] at HA <;>
      rcases outQ_cases (qv r t + qv u v) with ⟨n2, d2, e1, e2, e3, e4, _⟩ | e1 <;> rw [e1] at HD
      all_goals
        first
        | (have HC := cmp_fn n1 d1 n2 d2
           rw [cmpV_c a2 e2, a3, e3, x4] at HC
           simp only [ret2] at HC)
        | (have HC := trivial)
      all_goals
        first
        | rw [← s4] at x3
        | skip
        clear x4
        simp only [ret2, ret3] at HX HY HZ HW HS HA HD
        repeat' ((conv => whnf); first | (with_reducible refine br_t ?_) | (with_reducible refine br_f ?_) | ((with_reducible refine brd_t ?_ ?_); (omega)) | ((with_reducible refine brd_f ?_ ?_); (omega)) | (with_reducible refine brd (fun h => ?_) (fun h => ?_)) | ((with_reducible refine bre_t ?_ ?_); (omega)) | ((with_reducible refine bre_f ?_ ?_); (omega)) | (with_reducible refine bre (fun h => ?_) (fun h => ?_)) | ((with_reducible refine brn_t ?_ ?_); (omega)) | ((with_reducible refine brn_f ?_ ?_); (omega)) | (with_reducible refine brn (fun h => ?_) (fun h => ?_)) | (with_reducible refine brnot ?_) | (refine br_t' (by assumption) ?_) | (refine br_f' (by assumption) ?_) | (with_reducible refine br_i (fun h => ?_) (fun h => ?_)) | (with_reducible refine Exists.intro _ (And.intro (HB) ?_)) | (with_reducible refine Exists.intro _ (And.intro (HK) ?_)) | (with_reducible refine Exists.intro _ (And.intro (HX) ?_)) | (with_reducible refine Exists.intro _ (And.intro (HY) ?_)) | (with_reducible refine Exists.intro _ (And.intro (HZ) ?_)) | (with_reducible refine Exists.intro _ (And.intro (HW) ?_)) | (with_reducible refine Exists.intro _ (And.intro (HS) ?_)) | (with_reducible refine Exists.intro _ (And.intro (HA) ?_)) | (with_reducible refine Exists.intro _ (And.intro (HD) ?_)) | (with_reducible refine Exists.intro _ (And.intro (sign_fn _ _) ?_)) | (with_reducible refine Exists.intro _ (And.intro (HC) ?_)) | (with_reducible refine Exists.intro _ (And.intro (lalive_fn) ?_)) | (with_reducible refine Exists.intro _ (And.intro (pv_bool fun _ => eqv23 _ _ _ _ _ _ _) ?_)) | (with_reducible refine Exists.intro _ (And.intro (pv_bool fun _ => nev23 _ _ _ _ _ _ _) ?_)) | (with_reducible refine Exists.intro _ (And.intro (pv_bool fun _ => eqv57 _ _ _ _ _ _ _ _ _) ?_)) | (with_reducible refine Exists.intro _ (And.intro (pv_bool fun _ => nev57 _ _ _ _ _ _ _ _ _) ?_)) | (with_reducible refine Exists.intro _ (And.intro (pv_bool fun _ => eqv60 _ _ _ _ _ _ _ _ _) ?_)) | (with_reducible refine Exists.intro _ (And.intro (pv_bool fun _ => nev60 _ _ _ _ _ _ _ _ _) ?_)) | refine And.intro (by kernel_rfl) ?_ | refine And.intro (by omega) ?_ | refine And.intro (by decide) ?_)
      all_goals conv => whnf
      all_goals rfl
    · rw [hb] at HB
      rw [h3] at HK
      repeat' ((conv => whnf); first | (with_reducible refine br_t ?_) | (with_reducible refine br_f ?_) | ((with_reducible refine brd_t ?_ ?_); (omega)) | ((with_reducible refine brd_f ?_ ?_); (omega)) | (with_reducible refine brd (fun h => ?_) (fun h => ?_)) | ((with_reducible refine bre_t ?_ ?_); (omega)) | ((with_reducible refine bre_f ?_ ?_); (omega)) | (with_reducible refine bre (fun h => ?_) (fun h => ?_)) | ((with_reducible refine brn_t ?_ ?_); (omega)) | ((with_reducible refine brn_f ?_ ?_); (omega)) | (with_reducible refine brn (fun h => ?_) (fun h => ?_)) | (with_reducible refine brnot ?_) | (refine br_t' (by assumption) ?_) | (refine br_f' (by assumption) ?_) | (with_reducible refine br_i (fun h => ?_) (fun h => ?_)) | (with_reducible refine Exists.intro _ (And.intro (HB) ?_)) | (with_reducible refine Exists.intro _ (And.intro (HK) ?_)) | (with_reducible refine Exists.intro _ (And.intro (lalive_fn) ?_)) | (with_reducible refine Exists.intro _ (And.intro (pv_bool fun _ => eqv23 _ _ _ _ _ _ _) ?_)) | (with_reducible refine Exists.intro _ (And.intro (pv_bool fun _ => nev23 _ _ _ _ _ _ _) ?_)) | (with_reducible refine Exists.intro _ (And.intro (pv_bool fun _ => eqv57 _ _ _ _ _ _ _ _ _) ?_)) | (with_reducible refine Exists.intro _ (And.intro (pv_bool fun _ => nev57 _ _ _ _ _ _ _ _ _) ?_)) | (with_reducible refine Exists.intro _ (And.intro (pv_bool fun _ => eqv60 _ _ _ _ _ _ _ _ _) ?_)) | (with_reducible refine Exists.intro _ (And.intro (pv_bool fun _ => nev60 _ _ _ _ _ _ _ _ _) ?_)) | refine And.intro (by kernel_rfl) ?_ | refine And.intro (by omega) ?_ | refine And.intro (by decide) ?_)
      all_goals conv => whnf
      all_goals rfl
  · rw [hb] at HB
    repeat' ((conv => whnf); first | (with_reducible refine br_t ?_) | (with_reducible refine br_f ?_) | ((with_reducible refine brd_t ?_ ?_); (omega)) | ((with_reducible refine brd_f ?_ ?_); (omega)) | (with_reducible refine brd (fun h => ?_) (fun h => ?_)) | ((with_reducible refine bre_t ?_ ?_); (omega)) | ((with_reducible refine bre_f ?_ ?_); (omega)) | (with_reducible refine bre (fun h => ?_) (fun h => ?_)) | ((with_reducible refine brn_t ?_ ?_); (omega)) | ((with_reducible refine brn_f ?_ ?_); (omega)) | (with_reducible refine brn (fun h => ?_) (fun h => ?_)) | (with_reducible refine brnot ?_) | (refine br_t' (by assumption) ?_) | (refine br_f' (by assumption) ?_) | (with_reducible refine br_i (fun h => ?_) (fun h => ?_)) | (with_reducible refine Exists.intro _ (And.intro (HB) ?_)) | (with_reducible refine Exists.intro _ (And.intro (HK) ?_)) | (with_reducible refine Exists.intro _ (And.intro (lalive_fn) ?_)) | (with_reducible refine Exists.intro _ (And.intro (pv_bool fun _ => eqv23 _ _ _ _ _ _ _) ?_)) | (with_reducible refine Exists.intro _ (And.intro (pv_bool fun _ => nev23 _ _ _ _ _ _ _) ?_)) | (with_reducible refine Exists.intro _ (And.intro (pv_bool fun _ => eqv57 _ _ _ _ _ _ _ _ _) ?_)) | (with_reducible refine Exists.intro _ (And.intro (pv_bool fun _ => nev57 _ _ _ _ _ _ _ _ _) ?_)) | (with_reducible refine Exists.intro _ (And.intro (pv_bool fun _ => eqv60 _ _ _ _ _ _ _ _ _) ?_)) | (with_reducible refine Exists.intro _ (And.intro (pv_bool fun _ => nev60 _ _ _ _ _ _ _ _ _) ?_)) | refine And.intro (by kernel_rfl) ?_ | refine And.intro (by omega) ?_ | refine And.intro (by decide) ?_)
    all_goals conv => whnf
    all_goals rfl
theorem LOrder_true (p q r t u v : Int) (w : World) (p0 : -9223372036854775808 ≤ p) (p1 : p ≤ 9223372036854775807) (q0 : -9223372036854775808 ≤ q) (q1 : q ≤ 9223372036854775807)
    (r0 : -9223372036854775808 ≤ r) (r1 : r ≤ 9223372036854775807) (t0 : -9223372036854775808 ≤ t) (t1 : t ≤ 9223372036854775807)
    (u0 : -9223372036854775808 ≤ u) (u1 : u ≤ 9223372036854775807) (v0 : -9223372036854775808 ≤ v) (v1 : v ≤ 9223372036854775807) :
    Calls Try.prog 6 #[.agg #[.int .i64 p, .int .i64 q], .agg #[.int .i64 r, .int .i64 t], .agg #[.int .i64 u, .int .i64 v]] w fun e w' => e = .returned (.bool true) ∧ Below w.heap.size w w' :=
  calls_of_fn (fun _ _ => Try.call6 _ _) rfl rfl (by simp only [WDCs, WDC, WDs, wd_i64, and_true]; omega) (LOrder_fn p q r t u v) w
end Go.Proofs.Ytkobebnijkanhaa
