

/- The law RatioSmall answers true, for every two times and two numbers. No condition. -/
import Derived.Test.YtkobebnijkanhaaLOrderW
import Derived.Test.YtkobebnijkanhaaRatS
namespace Go.Proofs.Ytkobebnijkanhaa
open Go.RowKit Go.Sort Sx
set_option linter.unusedVariables false

theorem mk1 (n : Int) (h0 : -9223372036854775808 < n) (h1 : n ≤ 9223372036854775807) : makeV n 1 = (n, 1, 0) := by
  unfold makeV buildN
  simp only [show ¬ (1 : Int) = 0 by decide, if_false, Int.natAbs_one, Nat.gcd_one_right, Nat.div_one]
  rw [if_pos (by omega)]
  by_cases hn : n < 0
  · rw [decide_eq_true hn]; simp; omega
  · rw [decide_eq_false hn]; simp; omega
theorem chk1 (n : Int) (h : n ≠ -9223372036854775808) : chk n 1 = 0 := (chk_iff n 1).2 ⟨by omega, h, by simp [Nat.Coprime]⟩
theorem askd_ok {n d : Int} (h : askd n d = 0) : chk n d = 0 ∧ -1073741824 ≤ n ∧ n ≤ 1073741824 ∧ 1 ≤ d ∧ d ≤ 1024 := by
  unfold askd at h
  rcases chk_08 n d with hc | hc
  · rw [hc] at h
    have := (chk_iff n d).1 hc
    simp only [ne_eq, not_true, if_false] at h
    split at h
    · omega
    · omega
  · rw [hc] at h; simp at h

set_option maxHeartbeats 4000000 in
theorem LSmall_fn (sn sd tn td a b : Int) : FnOK Try.prog 8 [.agg [i64 sn, i64 sd], .agg [i64 tn, i64 td], .one (i64 a), .one (i64 b)] retT := by
  refine fn_ok (by kernel_rfl) ty_ok Try.func8 rfl (fun _ _ => Try.call8 _ _) rfl ?_
  intro hw
  have R1 := rasked_fn sn sd
  have R2 := rasked_fn tn td
  by_cases h : askd sn sd = 0 ∧ askd tn td = 0 ∧ -4194304 ≤ a ∧ a ≤ 4194304 ∧ -4194304 ≤ b ∧ b ≤ 4194304
  · obtain ⟨h1, h2, h3, h4, h5, h6⟩ := h
    rw [h1] at R1
    rw [h2] at R2
    obtain ⟨s0, s1, s2, s3, s4⟩ := askd_ok h1
    obtain ⟨t0, t1, t2, t3, t4⟩ := askd_ok h2
    have X := of_fn a
    have Y := of_fn b
    rw [mk1 a (by omega) (by omega)] at X
    rw [mk1 b (by omega) (by omega)] at Y
    have a0 := chk1 a (by omega)
    have b0 := chk1 b (by omega)
    have g1 := prod_in2 b tn 4194304 1073741824 (by omega) (by omega) (by omega) (by omega)
    have g2 := prod_in2 a td 4194304 1024 (by omega) (by omega) (by omega) (by omega)
    have g3 := prod_in2 sn td 1073741824 1024 (by omega) (by omega) (by omega) (by omega)
    have g4 := prod_in2 tn sd 1073741824 1024 (by omega) (by omega) (by omega) (by omega)
    have g5 := prod_in2 td sd 1024 1024 (by omega) (by omega) (by omega) (by omega)
    have g6 := prod_in2 (a * td + b * tn - tn) sd (4194304 * 1024 + 4194304 * 1073741824 + 1073741824) 1024 (by omega) (by omega) (by omega) (by omega)
    have g7 : 1 ≤ td * sd := by have := Int.mul_pos (show 0 < td by omega) (show 0 < sd by omega); omega
    -- the product
    have M := mul_fn b 1 tn td
    rw [mulV_q b0 t0, qv_mul (by omega) (by omega), Int.one_mul] at M
    obtain ⟨pn, pd, p1, p2, p3, p4, p5, p6⟩ := outQ_sm (n := b * tn) (d := td) (by omega) (by omega) (by omega) (by omega)
    rw [p1] at M
    -- the sum
    have Q := add_fn a 1 pn pd
    have qe : qv a 1 + qv (b * tn) td = qv (a * td + b * tn) td := by
      rw [qv_add (by omega) (by omega), Int.one_mul, Int.mul_one]
    rw [addV_q a0 p2, p3, qe] at Q
    obtain ⟨qn, qd, q1, q2, q3, q4, q5, q6⟩ := outQ_sm (n := a * td + b * tn) (d := td) (by omega) (by omega) (by omega) (by omega)
    rw [q1] at Q
    -- the difference
    have D := sub_fn sn sd tn td
    rw [subV_q s0 t0 (by omega), qv_sub (by omega) (by omega)] at D
    obtain ⟨dn, dd, d1, d2, d3, d4, d5, d6⟩ := outQ_sm (n := sn * td - tn * sd) (d := sd * td) (by rw [Int.mul_comm]; omega) (by rw [Int.mul_comm]; omega) (by omega) (by omega)
    rw [d1] at D
    -- all
    have R := add_fn qn qd dn dd
    have re : qv (a * td + b * tn) td + qv (sn * td - tn * sd) (sd * td) = qv ((a * td + b * tn - tn) * sd + sn * td) (td * sd) := by
      have h8 : 1 ≤ sd * td := by rw [Int.mul_comm]; omega
      rw [qv_add (by omega) h8, qv_eq (by have := Int.mul_pos (show 0 < td by omega) (show 0 < sd * td by omega); omega) g7]
      grind
    rw [addV_q q2 d2, q3, d3, re] at R
    obtain ⟨rn, rd, r1, r2, r3, r4, r5, r6⟩ := outQ_sm (n := (a * td + b * tn - tn) * sd + sn * td) (d := td * sd) (by omega) (by omega) (by omega) (by omega)
    rw [r1] at R
    have C := rcheck_fn rn rd
    rw [r2] at C
    have z1 : qn ≤ 4503603922337792 := by omega
    have z2 : -4503603922337792 ≤ qn := by omega
    have z3 : qd ≤ 1024 := by omega
    clear g1 g2 g3 g4 g5 g6 g7 p3 p6 q3 q6 d3 d6 r3 r6 re qe r5 d5 p1 q1 d1 r1
    simp only [ret3, ret2, ret1] at *
    repeat' ((conv => whnf); first | (with_reducible refine br_t ?_) | (with_reducible refine br_f ?_) | ((with_reducible refine brd_t ?_ ?_); (omega)) | ((with_reducible refine brd_f ?_ ?_); (omega)) | (with_reducible refine brd (fun h => ?_) (fun h => ?_)) | ((with_reducible refine bre_t ?_ ?_); (omega)) | ((with_reducible refine bre_f ?_ ?_); (omega)) | (with_reducible refine bre (fun h => ?_) (fun h => ?_)) | ((with_reducible refine brn_t ?_ ?_); (omega)) | ((with_reducible refine brn_f ?_ ?_); (omega)) | (with_reducible refine brn (fun h => ?_) (fun h => ?_)) | (with_reducible refine brnot ?_) | (refine br_t' (by assumption) ?_) | (refine br_f' (by assumption) ?_) | (with_reducible refine br_i (fun h => ?_) (fun h => ?_)) | (with_reducible refine Exists.intro _ (And.intro (R1) ?_)) | (with_reducible refine Exists.intro _ (And.intro (R2) ?_)) | (with_reducible refine Exists.intro _ (And.intro (X) ?_)) | (with_reducible refine Exists.intro _ (And.intro (Y) ?_)) | (with_reducible refine Exists.intro _ (And.intro (M) ?_)) | (with_reducible refine Exists.intro _ (And.intro (Q) ?_)) | (with_reducible refine Exists.intro _ (And.intro (D) ?_)) | (with_reducible refine Exists.intro _ (And.intro (R) ?_)) | (with_reducible refine Exists.intro _ (And.intro (C) ?_)) | (with_reducible refine Exists.intro _ (And.intro (lalive_fn) ?_)) | (with_reducible refine Exists.intro _ (And.intro (pv_bool fun _ => eqv23 _ _ _ _ _ _ _) ?_)) | (with_reducible refine Exists.intro _ (And.intro (pv_bool fun _ => nev23 _ _ _ _ _ _ _) ?_)) | (with_reducible refine Exists.intro _ (And.intro (pv_bool fun _ => eqv57 _ _ _ _ _ _ _ _ _) ?_)) | (with_reducible refine Exists.intro _ (And.intro (pv_bool fun _ => nev57 _ _ _ _ _ _ _ _ _) ?_)) | (with_reducible refine Exists.intro _ (And.intro (pv_bool fun _ => eqv60 _ _ _ _ _ _ _ _ _) ?_)) | (with_reducible refine Exists.intro _ (And.intro (pv_bool fun _ => nev60 _ _ _ _ _ _ _ _ _) ?_)) | refine And.intro (by kernel_rfl) ?_ | refine And.intro (by omega) ?_ | refine And.intro (by decide) ?_)
    all_goals conv => whnf
    all_goals rfl
  · have h' : askd sn sd ≠ 0 ∨ askd tn td ≠ 0 ∨ a < -4194304 ∨ 4194304 < a ∨ b < -4194304 ∨ 4194304 < b := by omega
    clear h
    repeat' ((conv => whnf); first | (with_reducible refine br_t ?_) | (with_reducible refine br_f ?_) | ((with_reducible refine brd_t ?_ ?_); (omega)) | ((with_reducible refine brd_f ?_ ?_); (omega)) | (with_reducible refine brd (fun h => ?_) (fun h => ?_)) | ((with_reducible refine bre_t ?_ ?_); (omega)) | ((with_reducible refine bre_f ?_ ?_); (omega)) | (with_reducible refine bre (fun h => ?_) (fun h => ?_)) | ((with_reducible refine brn_t ?_ ?_); (omega)) | ((with_reducible refine brn_f ?_ ?_); (omega)) | (with_reducible refine brn (fun h => ?_) (fun h => ?_)) | (with_reducible refine brnot ?_) | (refine br_t' (by assumption) ?_) | (refine br_f' (by assumption) ?_) | (with_reducible refine br_i (fun h => ?_) (fun h => ?_)) | (with_reducible refine Exists.intro _ (And.intro (R1) ?_)) | (with_reducible refine Exists.intro _ (And.intro (R2) ?_)) | (with_reducible refine Exists.intro _ (And.intro (lalive_fn) ?_)) | (with_reducible refine Exists.intro _ (And.intro (pv_bool fun _ => eqv23 _ _ _ _ _ _ _) ?_)) | (with_reducible refine Exists.intro _ (And.intro (pv_bool fun _ => nev23 _ _ _ _ _ _ _) ?_)) | (with_reducible refine Exists.intro _ (And.intro (pv_bool fun _ => eqv57 _ _ _ _ _ _ _ _ _) ?_)) | (with_reducible refine Exists.intro _ (And.intro (pv_bool fun _ => nev57 _ _ _ _ _ _ _ _ _) ?_)) | (with_reducible refine Exists.intro _ (And.intro (pv_bool fun _ => eqv60 _ _ _ _ _ _ _ _ _) ?_)) | (with_reducible refine Exists.intro _ (And.intro (pv_bool fun _ => nev60 _ _ _ _ _ _ _ _ _) ?_)) | refine And.intro (by kernel_rfl) ?_ | refine And.intro (by omega) ?_ | refine And.intro (by decide) ?_)
    all_goals conv => whnf
    all_goals rfl
theorem LSmall_true (p q r t u v : Int) (w : World) (p0 : -9223372036854775808 ≤ p) (p1 : p ≤ 9223372036854775807) (q0 : -9223372036854775808 ≤ q) (q1 : q ≤ 9223372036854775807)
    (r0 : -9223372036854775808 ≤ r) (r1 : r ≤ 9223372036854775807) (t0 : -9223372036854775808 ≤ t) (t1 : t ≤ 9223372036854775807)
    (u0 : -9223372036854775808 ≤ u) (u1 : u ≤ 9223372036854775807) (v0 : -9223372036854775808 ≤ v) (v1 : v ≤ 9223372036854775807) :
    Calls Try.prog 8 #[.agg #[.int .i64 p, .int .i64 q], .agg #[.int .i64 r, .int .i64 t], .int .i64 u, .int .i64 v] w fun e w' => e = .returned (.bool true) ∧ Below w.heap.size w w' :=
  calls_of_fn (fun _ _ => Try.call8 _ _) rfl rfl (by simp only [WDCs, WDC, WDs, wd_i64, and_true]; omega) (LSmall_fn p q r t u v) w
end Go.Proofs.Ytkobebnijkanhaa
