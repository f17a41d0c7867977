

/- The law CourseChanges answers true. No condition. -/
import Derived.Test.YtffamgiknfphaaaLCOrderW
namespace Go.Proofs.Ytffamgiknfphaaa
open Go.RowKit Go.Sort Sx
set_option linter.unusedVariables false
theorem meetV_ok {i a b j c d : Int} (h : two02 i a b j c d 0 1 = 0) : meetV i a b j c d = if b = d then (0, 0, 6) else makeV (a - c) (d - b) := by
  unfold meetV; rw [if_pos h]
theorem makeV_swap {a b c d : Int} (h : b ≠ d) : makeV (c - a) (b - d) = makeV (a - c) (d - b) := by
  rw [← makeV_neg (a - c) (d - b) (by omega), Int.neg_sub, Int.neg_sub]
/-- the sign of a sum, by the meeting -/
theorem sum_sign {s v x y : Int} (hv : 1 ≤ v) (h : s * v = x * y) : (0 < s ↔ 0 < x * y) ∧ (s = 0 ↔ x * y = 0) := by
  rw [← h]
  constructor
  · constructor
    · intro h; exact Int.mul_pos h (by omega)
    · intro h
      rcases (show s ≤ 0 ∨ 0 < s by omega) with h' | h'
      · have := Int.mul_nonpos_of_nonpos_of_nonneg h' (show 0 ≤ v by omega); omega
      · exact h'
  · constructor
    · rintro rfl; simp
    · intro h
      rcases Int.mul_eq_zero.1 h with h | h <;> omega
theorem late_iff {a b c d n m u v s : Int} (hs : s = (a - c) * m + (b - d) * n) (hm : u * (d - b) = (a - c) * v) : s * v = (b - d) * (n * v - u * m) := by
  subst hs
  have : (a - c) * m * v = u * (d - b) * m := by rw [hm, Int.mul_assoc, Int.mul_comm m, Int.mul_assoc]
  rw [Int.add_mul, this]
  grind
theorem cmpN_ge (x y : Int) : cmpN x y ≥ 0 ↔ y ≤ x := by unfold cmpN; (repeat' split) <;> omega
set_option maxRecDepth 100000 in
set_option maxHeartbeats 4000000 in
theorem LChanges_fn (i a b j c d n m : Int) : FnOK Try.prog 7 [pt i a b, pt j c d, rat n m] retT2 := by
  refine fn_ok (by kernel_rfl) ty_ok Try.func7 rfl (fun _ _ => Try.call7 _ _) rfl ?_
  intro hw
  clear hw
  have HT := kkTwo_fn i a b j c d n m
  by_cases h1 : two02 i a b j c d n m = 0
  · rw [h1] at HT
    have h2 := two02_01 h1
    have h3 := two02_01 (two_sym h1)
    obtain ⟨k1, k2, k3, k4⟩ := two02_ok h1
    have g3 := ((chk_iff n m).1 k3).1
    have A1 := kAhead_fn i a b j c d n m
    have A2 := kAhead_fn i a b j c d 0 1
    have M1 := kMeet_fn i a b j c d
    have M2 := kMeet_fn j c d i a b
    rw [aheadV_ok h1] at A1
    rw [aheadV_ok h2] at A2
    rw [meetV_ok h2] at M1
    rw [meetV_ok h3] at M2
    by_cases hb : b = d
    · rw [if_pos hb] at M1
      rw [if_pos hb.symm] at M2
      have e : decide (leadN i b j d ((a - c) * 1 + (b - d) * 0) > 0) = decide (leadN i b j d ((a - c) * m + (b - d) * n) > 0) := by
        have q1 := sum_sign (s := a - c) (v := m) (x := (a - c) * m + (b - d) * n) (y := 1) g3 (by rw [hb]; simp)
        rw [Int.mul_one] at q1
        rw [decide_eq_decide, lead_pos, lead_pos]
        rw [Int.mul_one, Int.mul_zero, Int.add_zero, q1.1, q1.2]
      rw [e] at A2
      generalize decide (leadN i b j d ((a - c) * m + (b - d) * n) > 0) = A at *
      simp only [retBI, ret3, ret1] at *
      cases A
      all_goals
        repeat' ((conv => whnf); first | (with_reducible refine br_t ?_) | (with_reducible refine br_f ?_) | ((with_reducible refine brd_t ?_ ?_); (first | omega | decide)) | ((with_reducible refine brd_f ?_ ?_); (first | omega | decide)) | (with_reducible refine brd (fun h => ?_) (fun h => ?_)) | ((with_reducible refine bre_t ?_ ?_); (first | omega | decide)) | ((with_reducible refine bre_f ?_ ?_); (first | omega | decide)) | (with_reducible refine bre (fun h => ?_) (fun h => ?_)) | ((with_reducible refine brn_t ?_ ?_); (first | omega | decide)) | ((with_reducible refine brn_f ?_ ?_); (first | omega | decide)) | (with_reducible refine brn (fun h => ?_) (fun h => ?_)) | (with_reducible refine brb_tt ?_) | (with_reducible refine brb_ff ?_) | (with_reducible refine brb_tf ?_) | (with_reducible refine brb_ft ?_) | (with_reducible refine bnb_tt ?_) | (with_reducible refine bnb_ff ?_) | (with_reducible refine bnb_tf ?_) | (with_reducible refine bnb_ft ?_) | (with_reducible refine brnot ?_) | (refine br_t' (by assumption) ?_) | (refine br_f' (by assumption) ?_) | (with_reducible refine br_i (fun h => ?_) (fun h => ?_)) | (with_reducible refine Exists.intro _ (And.intro (HT) ?_)) | (with_reducible refine Exists.intro _ (And.intro (A1) ?_)) | (with_reducible refine Exists.intro _ (And.intro (A2) ?_)) | (with_reducible refine Exists.intro _ (And.intro (M1) ?_)) | (with_reducible refine Exists.intro _ (And.intro (M2) ?_)) | (with_reducible refine Exists.intro _ (And.intro (lat_fn _) ?_)) | (with_reducible refine Exists.intro _ (And.intro (lalive2_fn) ?_)) | (with_reducible refine Exists.intro _ (And.intro (pv_bool fun _ => eqv23 _ _ _ _ _ _ _ _ _) ?_)) | (with_reducible refine Exists.intro _ (And.intro (pv_bool fun _ => nev23 _ _ _ _ _ _ _ _ _) ?_)) | (with_reducible refine Exists.intro _ (And.intro (pv_bool fun _ => eqv25 _ _ _ _ _ _ _) ?_)) | (with_reducible refine Exists.intro _ (And.intro (pv_bool fun _ => nev25 _ _ _ _ _ _ _) ?_)) | (with_reducible refine Exists.intro _ (And.intro (pv_bool fun _ => eqv61 _ _ _ _ _ _ _) ?_)) | (with_reducible refine Exists.intro _ (And.intro (pv_bool fun _ => nev61 _ _ _ _ _ _ _) ?_)) | (with_reducible refine Exists.intro _ (And.intro (pv_bool fun _ => eqv70 _ _ _ _ _ _ _ _ _) ?_)) | (with_reducible refine Exists.intro _ (And.intro (pv_bool fun _ => nev70 _ _ _ _ _ _ _ _ _) ?_)) | (with_reducible refine Exists.intro _ (And.intro (pv_bool fun _ => eqv85 _ _ _ _ _ _ _ _ _) ?_)) | (with_reducible refine Exists.intro _ (And.intro (pv_bool fun _ => nev85 _ _ _ _ _ _ _ _ _) ?_)) | refine And.intro (by kernel_rfl) ?_ | refine And.intro (by omega) ?_ | refine And.intro (by decide) ?_)
        all_goals conv => whnf
        all_goals exact r_bool (by simp)
    · rw [if_neg hb] at M1
      rw [if_neg (fun h => hb h.symm), makeV_swap hb] at M2
      obtain ⟨u, v, e1, e2, e3, _, _, _, e4⟩ := meet_e k1 k2 hb
      rw [e1] at M1 M2
      have CH := rcheck_fn u v
      rw [e2] at CH
      have CC := rcompare_fn n m u v
      have q0 := late_iff (n := n) (m := m) rfl e4
      generalize hs : (a - c) * m + (b - d) * n = s at *
      have q1 := sum_sign e3 q0
      have q2 := cmpN_ge (n * v) (u * m)
      generalize hz : cmpN (n * v) (u * m) = z at *
      generalize g1 : decide (leadN i b j d s > 0) = A at *
      have q3 := lead_b g1
      have q4 : A = (decide (b > d) == decide (z ≥ 0)) := by
        clear HT A1 A2 M1 M2 CH CC g1 hz hs e1 e2 e4 h1 h2 h3 k1 k2 k3
        generalize hw : n * v - u * m = w at *
        have hq2 : z ≥ 0 ↔ 0 ≤ w := by rw [q2]; omega
        clear q2 q0
        have t1 : b > d → (0 < (b - d) * w ↔ 0 < w) ∧ ((b - d) * w = 0 ↔ w = 0) := fun h => by
          have := sum_sign (s := w) (v := b - d) (x := (b - d) * w) (y := 1) (by omega) (by rw [Int.mul_one, Int.mul_comm])
          rw [Int.mul_one] at this
          exact ⟨this.1.symm, this.2.symm⟩
        have t2 : b < d → (0 < (b - d) * w ↔ w < 0) := fun h => by
          have := sum_sign (s := -w) (v := d - b) (x := (b - d) * w) (y := 1) (by omega) (by grind)
          rw [Int.mul_one] at this
          rw [← this.1]; omega
        rcases (show b > d ∨ b < d by omega) with h | h
        · have t := t1 h
          rw [decide_eq_true h]
          rcases q3 with ⟨rfl, q3⟩ | ⟨rfl, q3⟩
          · rw [q1.1, q1.2, t.1, t.2] at q3
            rw [decide_eq_true (show z ≥ 0 by rw [hq2]; omega)]; rfl
          · rw [q1.1, q1.2, t.1, t.2] at q3
            rw [decide_eq_false (show ¬ z ≥ 0 by rw [hq2]; omega)]; rfl
        · have t := t2 h
          rw [decide_eq_false (show ¬ b > d by omega)]
          rcases q3 with ⟨rfl, q3⟩ | ⟨rfl, q3⟩
          · rw [q1.1, t] at q3
            rw [decide_eq_false (show ¬ z ≥ 0 by rw [hq2]; omega)]; rfl
          · rw [q1.1, t] at q3
            rw [decide_eq_true (show z ≥ 0 by rw [hq2]; omega)]; rfl
      clear q3 q2 q1 q0 g1 hz hs e1 e2 e3 e4 h1 h2 h3 k1 k2 k3 g3
      simp only [retBI, ret3, ret1] at *
      have E : (A == (decide (b > d) == decide (z ≥ 0))) = true := by rw [q4]; simp
      clear q4
      repeat' ((conv => whnf); first | (with_reducible refine br_t ?_) | (with_reducible refine br_f ?_) | ((with_reducible refine brd_t ?_ ?_); (first | omega | decide)) | ((with_reducible refine brd_f ?_ ?_); (first | omega | decide)) | (with_reducible refine brd (fun h => ?_) (fun h => ?_)) | ((with_reducible refine bre_t ?_ ?_); (first | omega | decide)) | ((with_reducible refine bre_f ?_ ?_); (first | omega | decide)) | (with_reducible refine bre (fun h => ?_) (fun h => ?_)) | ((with_reducible refine brn_t ?_ ?_); (first | omega | decide)) | ((with_reducible refine brn_f ?_ ?_); (first | omega | decide)) | (with_reducible refine brn (fun h => ?_) (fun h => ?_)) | (with_reducible refine brb_tt ?_) | (with_reducible refine brb_ff ?_) | (with_reducible refine brb_tf ?_) | (with_reducible refine brb_ft ?_) | (with_reducible refine bnb_tt ?_) | (with_reducible refine bnb_ff ?_) | (with_reducible refine bnb_tf ?_) | (with_reducible refine bnb_ft ?_) | (with_reducible refine brnot ?_) | (refine br_t' (by assumption) ?_) | (refine br_f' (by assumption) ?_) | (with_reducible refine br_i (fun h => ?_) (fun h => ?_)) | (with_reducible refine Exists.intro _ (And.intro (HT) ?_)) | (with_reducible refine Exists.intro _ (And.intro (A1) ?_)) | (with_reducible refine Exists.intro _ (And.intro (M1) ?_)) | (with_reducible refine Exists.intro _ (And.intro (M2) ?_)) | (with_reducible refine Exists.intro _ (And.intro (CH) ?_)) | (with_reducible refine Exists.intro _ (And.intro (CC) ?_)) | (with_reducible refine Exists.intro _ (And.intro (lalive2_fn) ?_)) | (with_reducible refine Exists.intro _ (And.intro (pv_bool fun _ => eqv23 _ _ _ _ _ _ _ _ _) ?_)) | (with_reducible refine Exists.intro _ (And.intro (pv_bool fun _ => nev23 _ _ _ _ _ _ _ _ _) ?_)) | (with_reducible refine Exists.intro _ (And.intro (pv_bool fun _ => eqv25 _ _ _ _ _ _ _) ?_)) | (with_reducible refine Exists.intro _ (And.intro (pv_bool fun _ => nev25 _ _ _ _ _ _ _) ?_)) | (with_reducible refine Exists.intro _ (And.intro (pv_bool fun _ => eqv61 _ _ _ _ _ _ _) ?_)) | (with_reducible refine Exists.intro _ (And.intro (pv_bool fun _ => nev61 _ _ _ _ _ _ _) ?_)) | (with_reducible refine Exists.intro _ (And.intro (pv_bool fun _ => eqv70 _ _ _ _ _ _ _ _ _) ?_)) | (with_reducible refine Exists.intro _ (And.intro (pv_bool fun _ => nev70 _ _ _ _ _ _ _ _ _) ?_)) | (with_reducible refine Exists.intro _ (And.intro (pv_bool fun _ => eqv85 _ _ _ _ _ _ _ _ _) ?_)) | (with_reducible refine Exists.intro _ (And.intro (pv_bool fun _ => nev85 _ _ _ _ _ _ _ _ _) ?_)) | refine And.intro (by kernel_rfl) ?_ | refine And.intro (by omega) ?_ | refine And.intro (by decide) ?_)
      all_goals conv => whnf
      all_goals exact r_bool (by simp)
  · simp only [ret1] at HT
    generalize two02 i a b j c d n m = e at *
    repeat' ((conv => whnf); first | (with_reducible refine br_t ?_) | (with_reducible refine br_f ?_) | ((with_reducible refine brd_t ?_ ?_); (first | omega | decide)) | ((with_reducible refine brd_f ?_ ?_); (first | omega | decide)) | (with_reducible refine brd (fun h => ?_) (fun h => ?_)) | ((with_reducible refine bre_t ?_ ?_); (first | omega | decide)) | ((with_reducible refine bre_f ?_ ?_); (first | omega | decide)) | (with_reducible refine bre (fun h => ?_) (fun h => ?_)) | ((with_reducible refine brn_t ?_ ?_); (first | omega | decide)) | ((with_reducible refine brn_f ?_ ?_); (first | omega | decide)) | (with_reducible refine brn (fun h => ?_) (fun h => ?_)) | (with_reducible refine brb_tt ?_) | (with_reducible refine brb_ff ?_) | (with_reducible refine brb_tf ?_) | (with_reducible refine brb_ft ?_) | (with_reducible refine bnb_tt ?_) | (with_reducible refine bnb_ff ?_) | (with_reducible refine bnb_tf ?_) | (with_reducible refine bnb_ft ?_) | (with_reducible refine brnot ?_) | (refine br_t' (by assumption) ?_) | (refine br_f' (by assumption) ?_) | (with_reducible refine br_i (fun h => ?_) (fun h => ?_)) | (with_reducible refine Exists.intro _ (And.intro (HT) ?_)) | (with_reducible refine Exists.intro _ (And.intro (lalive2_fn) ?_)) | (with_reducible refine Exists.intro _ (And.intro (pv_bool fun _ => eqv23 _ _ _ _ _ _ _ _ _) ?_)) | (with_reducible refine Exists.intro _ (And.intro (pv_bool fun _ => nev23 _ _ _ _ _ _ _ _ _) ?_)) | (with_reducible refine Exists.intro _ (And.intro (pv_bool fun _ => eqv25 _ _ _ _ _ _ _) ?_)) | (with_reducible refine Exists.intro _ (And.intro (pv_bool fun _ => nev25 _ _ _ _ _ _ _) ?_)) | (with_reducible refine Exists.intro _ (And.intro (pv_bool fun _ => eqv61 _ _ _ _ _ _ _) ?_)) | (with_reducible refine Exists.intro _ (And.intro (pv_bool fun _ => nev61 _ _ _ _ _ _ _) ?_)) | (with_reducible refine Exists.intro _ (And.intro (pv_bool fun _ => eqv70 _ _ _ _ _ _ _ _ _) ?_)) | (with_reducible refine Exists.intro _ (And.intro (pv_bool fun _ => nev70 _ _ _ _ _ _ _ _ _) ?_)) | (with_reducible refine Exists.intro _ (And.intro (pv_bool fun _ => eqv85 _ _ _ _ _ _ _ _ _) ?_)) | (with_reducible refine Exists.intro _ (And.intro (pv_bool fun _ => nev85 _ _ _ _ _ _ _ _ _) ?_)) | refine And.intro (by kernel_rfl) ?_ | refine And.intro (by omega) ?_ | refine And.intro (by decide) ?_)
    all_goals conv => whnf
    all_goals exact r_bool (by simp)
theorem LChanges_true (i a b j c d n m : Int) (w : World)
    (i0 : -9223372036854775808 ≤ i) (i1 : i ≤ 9223372036854775807) (a0 : -9223372036854775808 ≤ a) (a1 : a ≤ 9223372036854775807) (b0 : -9223372036854775808 ≤ b) (b1 : b ≤ 9223372036854775807)
    (j0 : -9223372036854775808 ≤ j) (j1 : j ≤ 9223372036854775807) (c0 : -9223372036854775808 ≤ c) (c1 : c ≤ 9223372036854775807) (d0 : -9223372036854775808 ≤ d) (d1 : d ≤ 9223372036854775807)
    (n0 : -9223372036854775808 ≤ n) (n1 : n ≤ 9223372036854775807) (m0 : -9223372036854775808 ≤ m) (m1 : m ≤ 9223372036854775807) :
    Calls Try.prog 7 #[.agg #[.int .i64 i, .int .i64 a, .int .i64 b], .agg #[.int .i64 j, .int .i64 c, .int .i64 d], .agg #[.int .i64 n, .int .i64 m]] w fun e w' => e = .returned (.bool true) ∧ Below w.heap.size w w' :=
  calls_of_fn (fun _ _ => Try.call7 _ _) rfl rfl (by simp only [WDCs, WDC, WDs, wd_i64, and_true]; omega) (LChanges_fn i a b j c d n m) w
end Go.Proofs.Ytffamgiknfphaaa
