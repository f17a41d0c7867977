

/- The law CourseSame answers true. No condition. -/
import Derived.Test.YtffamgiknfphaaaLChangesW
namespace Go.Proofs.Ytffamgiknfphaaa
open Go.RowKit Go.Sort Sx
set_option linter.unusedVariables false
theorem atV_ok {i a b n m : Int} (h : cpt i a b = 0) (h' : chk n m = 0) : atV i a b n m = outQ (qv (a * m + b * n) m) := by
  unfold atV; rw [if_pos ⟨h, h'⟩]
/-- a place, as it comes out -/
theorem at_cases (S m : Int) (hm : 1 ≤ m) : ∃ x y e, outQ (qv S m) = (x, y, e) ∧ (e = 0 ∨ e = 16) ∧ (e = 0 → chk x y = 0 ∧ 1 ≤ y ∧ x * m = S * y) := by
  rcases outQ_cases (qv S m) with ⟨n, d, s1, s2, s3, _⟩ | s1 <;> rw [s1]
  · have g := ((chk_iff n d).1 s2).1
    exact ⟨_, _, _, rfl, .inl rfl, fun _ => ⟨s2, g, (qv_eq g hm).1 s3⟩⟩
  · exact ⟨_, _, _, rfl, .inr rfl, fun h => by cases h⟩
theorem cmp_places {x y u v S T m : Int} (hm : 1 ≤ m) (hy : 1 ≤ y) (hv : 1 ≤ v) (h1 : x * m = S * y) (h2 : u * m = T * v) : (cmpN (x * v) (u * y) > 0 ↔ 0 < S - T) ∧ (cmpN (x * v) (u * y) = 0 ↔ S - T = 0) := by
  have hyv := Int.mul_pos (show 0 < y by omega) (show 0 < v by omega)
  have e : (x * v - u * y) * m = (S - T) * (y * v) := by
    rw [Int.sub_mul, Int.sub_mul, Int.mul_right_comm x v m, h1, Int.mul_right_comm u y m, h2, Int.mul_right_comm T v y, Int.mul_assoc, Int.mul_assoc]
  have q := sum_sign hm e
  have q' := sum_sign (s := S - T) (v := y * v) (x := (S - T) * (y * v)) (y := 1) (by omega) (by rw [Int.mul_one])
  rw [Int.mul_one] at q'
  rw [q'.1, q'.2, ← q.1, ← q.2]
  unfold cmpN
  constructor <;> (repeat' split) <;> omega
set_option maxRecDepth 100000 in
set_option maxHeartbeats 4000000 in
theorem LSame_fn (i a b j c d n m : Int) : FnOK Try.prog 8 [pt i a b, pt j c d, rat n m] retT2 := by
  refine fn_ok (by kernel_rfl) ty_ok Try.func8 rfl (fun _ _ => Try.call8 _ _) rfl ?_
  intro hw
  clear hw
  have HT := kkTwo_fn i a b j c d n m
  by_cases h1 : two02 i a b j c d n m = 0
  · rw [h1] at HT
    have h2 := two02_01 h1
    obtain ⟨k1, k2, k3, k4⟩ := two02_ok h1
    have g3 := ((chk_iff n m).1 k3).1
    have A1 := kAhead_fn i a b j c d n m
    have P1 := kAt_fn i a b n m
    have P2 := kAt_fn j c d n m
    rw [aheadV_ok h1] at A1
    rw [atV_ok k1 k3] at P1
    rw [atV_ok k2 k3] at P2
    have hs : (a - c) * m + (b - d) * n = (a * m + b * n) - (c * m + d * n) := by
      rw [Int.sub_mul, Int.sub_mul]; omega
    rw [hs] at A1
    obtain ⟨x, y, e, r1, r2, r3⟩ := at_cases (a * m + b * n) m g3
    obtain ⟨u, v, f, r4, r5, r6⟩ := at_cases (c * m + d * n) m g3
    rw [r1] at P1
    rw [r4] at P2
    have CX := rcheck_fn x y
    have CU := rcheck_fn u v
    have CC := rcompare_fn x y u v
    obtain ⟨z, hz⟩ : ∃ z, z = cmpN (x * v) (u * y) := ⟨_, rfl⟩
    rw [← hz] at CC
    have hcz : e = 0 → f = 0 → (z > 0 ↔ 0 < (a * m + b * n) - (c * m + d * n)) ∧ (z = 0 ↔ (a * m + b * n) - (c * m + d * n) = 0) := fun h h' => by
      obtain ⟨_, t1, t2⟩ := r3 h
      obtain ⟨_, t3, t4⟩ := r6 h'
      rw [hz]
      exact cmp_places g3 t1 t3 t2 t4
    generalize hS : (a * m + b * n) - (c * m + d * n) = s at *
    generalize g1 : decide (leadN i b j d s > 0) = A at *
    have q3 := lead_b g1
    have hA : e = 0 → f = 0 → z ≠ 0 → (A == decide (z > 0)) = true := fun h h' h'' => by
      obtain ⟨t1, t2⟩ := hcz h h'
      rcases q3 with ⟨rfl, q3⟩ | ⟨rfl, q3⟩
      · rw [decide_eq_true (by omega)]; rfl
      · rw [decide_eq_false (by omega)]; rfl
    have hx : e = 0 → chk x y = 0 := fun h => (r3 h).1
    have hu : f = 0 → chk u v = 0 := fun h => (r6 h).1
    clear q3 hcz r3 r6 g1 hS r1 r4 hs hz
    generalize chk x y = cx at *
    generalize chk u v = cu at *
    by_cases hb : b = d
    · clear k1 k2 k3 h1 h2 g3
      simp only [ret1, ret3, retBI] at *
      rcases r2 with rfl | rfl <;> rcases r5 with rfl | rfl
      all_goals
        try (have hx := hx rfl; subst hx)
        try (have hu := hu rfl; subst hu)
        try have hA := hA rfl rfl
        rcases (show z = 0 ∨ z ≠ 0 by omega) with hz | hz
      all_goals
        try have hA := hA hz
        repeat' ((conv => whnf); first | (with_reducible refine br_t ?_) | (with_reducible refine br_f ?_) | ((with_reducible refine brd_t ?_ ?_); (first | omega | decide)) | ((with_reducible refine brd_f ?_ ?_); (first | omega | decide)) | (with_reducible refine brd (fun h => ?_) (fun h => ?_)) | ((with_reducible refine bre_t ?_ ?_); (first | omega | decide)) | ((with_reducible refine bre_f ?_ ?_); (first | omega | decide)) | (with_reducible refine bre (fun h => ?_) (fun h => ?_)) | ((with_reducible refine brn_t ?_ ?_); (first | omega | decide)) | ((with_reducible refine brn_f ?_ ?_); (first | omega | decide)) | (with_reducible refine brn (fun h => ?_) (fun h => ?_)) | (with_reducible refine brb_tt ?_) | (with_reducible refine brb_ff ?_) | (with_reducible refine brb_tf ?_) | (with_reducible refine brb_ft ?_) | (with_reducible refine bnb_tt ?_) | (with_reducible refine bnb_ff ?_) | (with_reducible refine bnb_tf ?_) | (with_reducible refine bnb_ft ?_) | (with_reducible refine brnot ?_) | (refine br_t' (by assumption) ?_) | (refine br_f' (by assumption) ?_) | (with_reducible refine br_i (fun h => ?_) (fun h => ?_)) | (with_reducible refine Exists.intro _ (And.intro (HT) ?_)) | (with_reducible refine Exists.intro _ (And.intro (P1) ?_)) | (with_reducible refine Exists.intro _ (And.intro (P2) ?_)) | (with_reducible refine Exists.intro _ (And.intro (A1) ?_)) | (with_reducible refine Exists.intro _ (And.intro (CX) ?_)) | (with_reducible refine Exists.intro _ (And.intro (CU) ?_)) | (with_reducible refine Exists.intro _ (And.intro (CC) ?_)) | (with_reducible refine Exists.intro _ (And.intro (lalive2_fn) ?_)) | (with_reducible refine Exists.intro _ (And.intro (pv_bool fun _ => eqv23 _ _ _ _ _ _ _ _ _) ?_)) | (with_reducible refine Exists.intro _ (And.intro (pv_bool fun _ => nev23 _ _ _ _ _ _ _ _ _) ?_)) | (with_reducible refine Exists.intro _ (And.intro (pv_bool fun _ => eqv25 _ _ _ _ _ _ _) ?_)) | (with_reducible refine Exists.intro _ (And.intro (pv_bool fun _ => nev25 _ _ _ _ _ _ _) ?_)) | (with_reducible refine Exists.intro _ (And.intro (pv_bool fun _ => eqv61 _ _ _ _ _ _ _) ?_)) | (with_reducible refine Exists.intro _ (And.intro (pv_bool fun _ => nev61 _ _ _ _ _ _ _) ?_)) | (with_reducible refine Exists.intro _ (And.intro (pv_bool fun _ => eqv70 _ _ _ _ _ _ _ _ _) ?_)) | (with_reducible refine Exists.intro _ (And.intro (pv_bool fun _ => nev70 _ _ _ _ _ _ _ _ _) ?_)) | (with_reducible refine Exists.intro _ (And.intro (pv_bool fun _ => eqv85 _ _ _ _ _ _ _ _ _) ?_)) | (with_reducible refine Exists.intro _ (And.intro (pv_bool fun _ => nev85 _ _ _ _ _ _ _ _ _) ?_)) | refine And.intro (by kernel_rfl) ?_ | refine And.intro (by omega) ?_ | refine And.intro (by decide) ?_)
        all_goals conv => whnf
        all_goals exact r_bool (by simp)
    · have M1 := kMeet_fn i a b j c d
      rw [meetV_ok h2, if_neg hb] at M1
      obtain ⟨p, q, e1, e2, e3, e3', e5, e6, e4⟩ := meet_e k1 k2 hb
      rw [e1] at M1
      have P3 := kAt_fn i a b p q
      have P4 := kAt_fn j c d p q
      have A2 := kAhead_fn i a b j c d p q
      have h5 : two02 i a b j c d p q = 0 := by unfold two02; rw [if_pos ⟨k1, k2, e2⟩, if_neg k4]
      rw [aheadV_ok h5] at A2
      rw [atV_ok k1 e2] at P3
      rw [atV_ok k2 e2] at P4
      have w1 : c * q + d * p = a * q + b * p := by
        rw [Int.mul_sub, Int.sub_mul, Int.mul_comm p, Int.mul_comm p] at e4; omega
      have w2 : (a - c) * q + (b - d) * p = 0 := by
        rw [Int.sub_mul, Int.sub_mul]; omega
      rw [w1] at P4
      rw [w2] at A2
      have w3 : decide (leadN i b j d 0 > 0) = decide (b > d) := by
        rw [decide_eq_decide, lead_pos]; omega
      rw [w3] at A2
      have g1 := cpt_ok k1
      obtain ⟨o, t, o1, o2, _⟩ := outQ_sm (n := a * q + b * p) (d := q) e3 (by omega) (by
        have := prod_in2 a q 1048576 2097152 (by omega) (by omega) (by omega) (by omega)
        have := prod_in2 b p 1048576 2097152 (by omega) (by omega) (by omega) (by omega)
        omega) (by
        have := prod_in2 a q 1048576 2097152 (by omega) (by omega) (by omega) (by omega)
        have := prod_in2 b p 1048576 2097152 (by omega) (by omega) (by omega) (by omega)
        omega)
      rw [o1] at P3 P4
      have E : (decide (b > d) == decide (b > d)) = true := by simp
      clear k1 k2 k3 h1 h2 g3 w1 w2 w3 h5 e1 e2 e4 o1 o2 g1 e3 e3' e5 e6
      simp only [ret1, ret3, retBI] at *
      rcases r2 with rfl | rfl <;> rcases r5 with rfl | rfl
      all_goals
        try (have hx := hx rfl; subst hx)
        try (have hu := hu rfl; subst hu)
        try have hA := hA rfl rfl
        rcases (show z = 0 ∨ z ≠ 0 by omega) with hz | hz
      all_goals
        try have hA := hA hz
        repeat' ((conv => whnf); first | (with_reducible refine br_t ?_) | (with_reducible refine br_f ?_) | ((with_reducible refine brd_t ?_ ?_); (first | omega | decide)) | ((with_reducible refine brd_f ?_ ?_); (first | omega | decide)) | (with_reducible refine brd (fun h => ?_) (fun h => ?_)) | ((with_reducible refine bre_t ?_ ?_); (first | omega | decide)) | ((with_reducible refine bre_f ?_ ?_); (first | omega | decide)) | (with_reducible refine bre (fun h => ?_) (fun h => ?_)) | ((with_reducible refine brn_t ?_ ?_); (first | omega | decide)) | ((with_reducible refine brn_f ?_ ?_); (first | omega | decide)) | (with_reducible refine brn (fun h => ?_) (fun h => ?_)) | (with_reducible refine brb_tt ?_) | (with_reducible refine brb_ff ?_) | (with_reducible refine brb_tf ?_) | (with_reducible refine brb_ft ?_) | (with_reducible refine bnb_tt ?_) | (with_reducible refine bnb_ff ?_) | (with_reducible refine bnb_tf ?_) | (with_reducible refine bnb_ft ?_) | (with_reducible refine brnot ?_) | (refine br_t' (by assumption) ?_) | (refine br_f' (by assumption) ?_) | (with_reducible refine br_i (fun h => ?_) (fun h => ?_)) | (with_reducible refine Exists.intro _ (And.intro (HT) ?_)) | (with_reducible refine Exists.intro _ (And.intro (P1) ?_)) | (with_reducible refine Exists.intro _ (And.intro (P2) ?_)) | (with_reducible refine Exists.intro _ (And.intro (A1) ?_)) | (with_reducible refine Exists.intro _ (And.intro (CX) ?_)) | (with_reducible refine Exists.intro _ (And.intro (CU) ?_)) | (with_reducible refine Exists.intro _ (And.intro (CC) ?_)) | (with_reducible refine Exists.intro _ (And.intro (M1) ?_)) | (with_reducible refine Exists.intro _ (And.intro (P3) ?_)) | (with_reducible refine Exists.intro _ (And.intro (P4) ?_)) | (with_reducible refine Exists.intro _ (And.intro (A2) ?_)) | (with_reducible refine Exists.intro _ (And.intro (lalive2_fn) ?_)) | (with_reducible refine Exists.intro _ (And.intro (pv_bool fun _ => eqv23 _ _ _ _ _ _ _ _ _) ?_)) | (with_reducible refine Exists.intro _ (And.intro (pv_bool fun _ => nev23 _ _ _ _ _ _ _ _ _) ?_)) | (with_reducible refine Exists.intro _ (And.intro (pv_bool fun _ => eqv25 _ _ _ _ _ _ _) ?_)) | (with_reducible refine Exists.intro _ (And.intro (pv_bool fun _ => nev25 _ _ _ _ _ _ _) ?_)) | (with_reducible refine Exists.intro _ (And.intro (pv_bool fun _ => eqv61 _ _ _ _ _ _ _) ?_)) | (with_reducible refine Exists.intro _ (And.intro (pv_bool fun _ => nev61 _ _ _ _ _ _ _) ?_)) | (with_reducible refine Exists.intro _ (And.intro (pv_bool fun _ => eqv70 _ _ _ _ _ _ _ _ _) ?_)) | (with_reducible refine Exists.intro _ (And.intro (pv_bool fun _ => nev70 _ _ _ _ _ _ _ _ _) ?_)) | (with_reducible refine Exists.intro _ (And.intro (pv_bool fun _ => eqv85 _ _ _ _ _ _ _ _ _) ?_)) | (with_reducible refine Exists.intro _ (And.intro (pv_bool fun _ => nev85 _ _ _ _ _ _ _ _ _) ?_)) | refine And.intro (by kernel_rfl) ?_ | refine And.intro (by omega) ?_ | refine And.intro (by decide) ?_)
        all_goals conv => whnf
        all_goals exact r_bool (by simp)
  · simp only [ret1] at HT
    generalize two02 i a b j c d n m = e at *
    repeat' ((conv => whnf); first | (with_reducible refine br_t ?_) | (with_reducible refine br_f ?_) | ((with_reducible refine brd_t ?_ ?_); (first | omega | decide)) | ((with_reducible refine brd_f ?_ ?_); (first | omega | decide)) | (with_reducible refine brd (fun h => ?_) (fun h => ?_)) | ((with_reducible refine bre_t ?_ ?_); (first | omega | decide)) | ((with_reducible refine bre_f ?_ ?_); (first | omega | decide)) | (with_reducible refine bre (fun h => ?_) (fun h => ?_)) | ((with_reducible refine brn_t ?_ ?_); (first | omega | decide)) | ((with_reducible refine brn_f ?_ ?_); (first | omega | decide)) | (with_reducible refine brn (fun h => ?_) (fun h => ?_)) | (with_reducible refine brb_tt ?_) | (with_reducible refine brb_ff ?_) | (with_reducible refine brb_tf ?_) | (with_reducible refine brb_ft ?_) | (with_reducible refine bnb_tt ?_) | (with_reducible refine bnb_ff ?_) | (with_reducible refine bnb_tf ?_) | (with_reducible refine bnb_ft ?_) | (with_reducible refine brnot ?_) | (refine br_t' (by assumption) ?_) | (refine br_f' (by assumption) ?_) | (with_reducible refine br_i (fun h => ?_) (fun h => ?_)) | (with_reducible refine Exists.intro _ (And.intro (HT) ?_)) | (with_reducible refine Exists.intro _ (And.intro (lalive2_fn) ?_)) | (with_reducible refine Exists.intro _ (And.intro (pv_bool fun _ => eqv23 _ _ _ _ _ _ _ _ _) ?_)) | (with_reducible refine Exists.intro _ (And.intro (pv_bool fun _ => nev23 _ _ _ _ _ _ _ _ _) ?_)) | (with_reducible refine Exists.intro _ (And.intro (pv_bool fun _ => eqv25 _ _ _ _ _ _ _) ?_)) | (with_reducible refine Exists.intro _ (And.intro (pv_bool fun _ => nev25 _ _ _ _ _ _ _) ?_)) | (with_reducible refine Exists.intro _ (And.intro (pv_bool fun _ => eqv61 _ _ _ _ _ _ _) ?_)) | (with_reducible refine Exists.intro _ (And.intro (pv_bool fun _ => nev61 _ _ _ _ _ _ _) ?_)) | (with_reducible refine Exists.intro _ (And.intro (pv_bool fun _ => eqv70 _ _ _ _ _ _ _ _ _) ?_)) | (with_reducible refine Exists.intro _ (And.intro (pv_bool fun _ => nev70 _ _ _ _ _ _ _ _ _) ?_)) | (with_reducible refine Exists.intro _ (And.intro (pv_bool fun _ => eqv85 _ _ _ _ _ _ _ _ _) ?_)) | (with_reducible refine Exists.intro _ (And.intro (pv_bool fun _ => nev85 _ _ _ _ _ _ _ _ _) ?_)) | refine And.intro (by kernel_rfl) ?_ | refine And.intro (by omega) ?_ | refine And.intro (by decide) ?_)
    all_goals conv => whnf
    all_goals exact r_bool (by simp)
theorem LSame_true (i a b j c d n m : Int) (w : World)
    (i0 : -9223372036854775808 ≤ i) (i1 : i ≤ 9223372036854775807) (a0 : -9223372036854775808 ≤ a) (a1 : a ≤ 9223372036854775807) (b0 : -9223372036854775808 ≤ b) (b1 : b ≤ 9223372036854775807)
    (j0 : -9223372036854775808 ≤ j) (j1 : j ≤ 9223372036854775807) (c0 : -9223372036854775808 ≤ c) (c1 : c ≤ 9223372036854775807) (d0 : -9223372036854775808 ≤ d) (d1 : d ≤ 9223372036854775807)
    (n0 : -9223372036854775808 ≤ n) (n1 : n ≤ 9223372036854775807) (m0 : -9223372036854775808 ≤ m) (m1 : m ≤ 9223372036854775807) :
    Calls Try.prog 8 #[.agg #[.int .i64 i, .int .i64 a, .int .i64 b], .agg #[.int .i64 j, .int .i64 c, .int .i64 d], .agg #[.int .i64 n, .int .i64 m]] w fun e w' => e = .returned (.bool true) ∧ Below w.heap.size w w' :=
  calls_of_fn (fun _ _ => Try.call8 _ _) rfl rfl (by simp only [WDCs, WDC, WDs, wd_i64, and_true]; omega) (LSame_fn i a b j c d n m) w
end Go.Proofs.Ytffamgiknfphaaa
