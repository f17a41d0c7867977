


/- The law RatioFloor answers true, for every fraction and number (a walk). -/
import Derived.Test.YtkobebnijkanhaaLAlive
import Derived.Test.YtkobebnijkanhaaRatQ
namespace Go.Proofs.Ytkobebnijkanhaa
open Go.RowKit Go.Sort
set_option linter.unusedVariables false

theorem chk_one (n : Int) (h : n ≠ -9223372036854775808) : chk n 1 = 0 := (chk_iff n 1).2 ⟨by omega, h, by simp [Nat.Coprime]⟩
theorem makeV_one (n : Int) (h0 : -9223372036854775808 < n) (h1 : n ≤ 9223372036854775807) : makeV n 1 = (n, 1, 0) := by
  unfold makeV buildN
  simp only [show ¬ (1 : Int) = 0 by decide, if_false, Int.natAbs_one, Nat.gcd_one_right, Nat.div_one]
  rw [if_pos (by omega)]
  by_cases hn : n < 0
  · rw [decide_eq_true hn]; simp; omega
  · rw [decide_eq_false hn]; simp; omega
theorem floor_facts {p q : Int} (h : chk p q = 0) (h0 : -9223372036854775808 ≤ p) (h1 : p ≤ 9223372036854775807) :
    p / q * q ≤ p ∧ p < (p / q + 1) * q ∧ -9223372036854775808 < p / q ∧ p / q ≤ 9223372036854775807 ∧ (p / q * q = p → q = 1) ∧ (q = 1 → p / q * q = p) := by
  obtain ⟨a1, a2, a3⟩ := (chk_iff p q).1 h
  have e := Int.mul_ediv_add_emod p q
  have m0 := Int.emod_nonneg p (show q ≠ 0 by omega)
  have m1 := Int.emod_lt_of_pos p (show 0 < q by omega)
  rw [Int.mul_comm] at e
  refine ⟨by omega, by rw [Int.add_mul]; omega, ?_, ?_, fun hh => ?_, fun hh => by subst hh; simp⟩
  · have : -9223372036854775807 ≤ p / q := by
      rw [Int.le_ediv_iff_mul_le (by omega)]
      have : (-9223372036854775807) * q ≤ -9223372036854775807 := by omega
      omega
    omega
  · rcases (show p < 0 ∨ 0 ≤ p by omega) with hp | hp
    · have := Int.ediv_neg_of_neg_of_pos hp (show 0 < q by omega); omega
    · have := Int.ediv_le_self q hp; omega
  · have hd : q ∣ p := ⟨p / q, by rw [Int.mul_comm]; exact hh.symm⟩
    have hd2 : q.toNat ∣ p.natAbs := by
      rw [← Int.natCast_dvd_natCast, Int.dvd_natAbs]
      rwa [Int.toNat_of_nonneg (by omega)]
    have := Nat.Coprime.eq_one_of_dvd a3.symm hd2
    omega
theorem cmpV_ok {p q r t : Int} (h1 : chk p q = 0) (h2 : chk r t = 0) : cmpV p q r t = (cmpN (p * t) (r * q), 0) := by
  unfold cmpV bth; rw [if_pos h1, if_pos h2]
/-- the same fraction, whatever both numbers are multiplied by -/
theorem makeV_mul {p q k : Int} (h : chk p q = 0) (hk : k ≠ 0) (hp0 : -9223372036854775807 ≤ p) (hp1 : p ≤ 9223372036854775807) (hq : q ≤ 9223372036854775807) : makeV (p * k) (q * k) = (p, q, 0) := by
  obtain ⟨a1, a2, a3⟩ := (chk_iff p q).1 h
  unfold makeV
  have hqk : q * k ≠ 0 := by
    intro h0
    rcases Int.mul_eq_zero.1 h0 with h0 | h0 <;> omega
  have hk0 : 0 < k.natAbs := by omega
  have e1 : q.natAbs = q.toNat := by omega
  rw [if_neg hqk, Int.natAbs_mul, Int.natAbs_mul, Nat.gcd_mul_right, e1, show Nat.gcd p.natAbs q.toNat = 1 from a3, Nat.one_mul, Nat.mul_div_cancel _ hk0, Nat.mul_div_cancel _ hk0]
  unfold buildN
  rw [if_pos (by omega)]
  have hs : p ≠ 0 → (!(decide (p * k < 0) == decide (q * k < 0))) = decide (p < 0) := by
    intro hp
    rcases (show k < 0 ∨ 0 < k by omega) with hk' | hk'
    · have h2 : q * k < 0 := Int.mul_neg_of_pos_of_neg (by omega) hk'
      rw [decide_eq_true h2]
      rcases (show p < 0 ∨ 0 < p by omega) with hp' | hp'
      · have := Int.mul_pos_of_neg_of_neg hp' hk'
        rw [decide_eq_true hp', decide_eq_false (by omega)]; rfl
      · have := Int.mul_neg_of_pos_of_neg hp' hk'
        rw [decide_eq_true this, decide_eq_false (by omega)]; rfl
    · have h2 : 0 < q * k := Int.mul_pos (by omega) hk'
      rw [decide_eq_false (show ¬ q * k < 0 by omega)]
      rcases (show p < 0 ∨ 0 < p by omega) with hp' | hp'
      · have := Int.mul_neg_of_neg_of_pos hp' hk'
        rw [decide_eq_true hp', decide_eq_true this]; rfl
      · have := Int.mul_pos hp' hk'
        rw [decide_eq_false (show ¬ p * k < 0 by omega), decide_eq_false (show ¬ p < 0 by omega)]; rfl
  by_cases hp : p = 0
  · subst hp; simp; omega
  · rw [hs hp]
    by_cases hp' : p < 0
    · rw [decide_eq_true hp', if_pos rfl]; congr 1 <;> (try congr 1) <;> omega
    · rw [decide_eq_false hp', if_neg (by simp)]; congr 1 <;> (try congr 1) <;> omega

theorem prod_in (p k a b : Int) (h0 : -a ≤ p) (h1 : p ≤ a) (k0 : -b ≤ k) (k1 : k ≤ b) : -(a * b) ≤ p * k ∧ p * k ≤ a * b := by
  have : (p * k).natAbs ≤ a.natAbs * b.natAbs := by rw [Int.natAbs_mul]; exact Nat.mul_le_mul (by omega) (by omega)
  have e : a * b = ((a.natAbs * b.natAbs : Nat) : Int) := by rw [Int.natCast_mul, Int.natAbs_of_nonneg (by omega), Int.natAbs_of_nonneg (by omega)]
  omega

set_option maxHeartbeats 4000000 in
theorem LFloor_true (p q k : Int) (w : World) (p0 : -9223372036854775808 ≤ p) (p1 : p ≤ 9223372036854775807) (q0 : -9223372036854775808 ≤ q) (q1 : q ≤ 9223372036854775807)
    (k0 : -9223372036854775808 ≤ k) (k1 : k ≤ 9223372036854775807) :
    Calls Try.prog 5 #[.agg #[.int .i64 p, .int .i64 q], .int .i64 k] w fun e w' => e = .returned (.bool true) ∧ Below w.heap.size w w' := by
  have HR := rcheck_any p q
  rcases chk_08 p q with hv | hv
  all_goals
    rw [hv] at HR
    have HRH := Lib.hid HR
    clear HR
  · obtain ⟨f1, f2, f3, f4, f5, f6⟩ := floor_facts hv p0 p1
    obtain ⟨a1, a2, a3⟩ := (chk_iff p q).1 hv
    have HF := fun w => floor_any p q w p0 p1 q0 q1
    rw [show floorV p q = (p / q, 0) by unfold floorV; rw [if_pos hv]] at HF
    obtain ⟨n, hn⟩ : ∃ n, n = p / q := ⟨_, rfl⟩
    rw [← hn] at f1 f2 f3 f4 f5 f6 HF
    have HO := fun w => of_any n w (by omega) (by omega)
    rw [makeV_one n (by omega) (by omega)] at HO
    have HC := fun w => cmp_any n 1 p q w (by omega) (by omega) (by omega) (by omega) p0 p1 q0 q1
    rw [cmpV_ok (chk_one n (by omega)) hv] at HC
    have hc1 : q = 1 → cmpN (n * q) (p * 1) = 0 := fun h => by have := f6 h; unfold cmpN; (repeat' split) <;> omega
    have hc2 : q ≠ 1 → cmpN (n * q) (p * 1) = -1 := fun h => by
      have : n * q ≠ p := fun h' => h (f5 h')
      unfold cmpN; (repeat' split) <;> omega
    have HO2 := fun (w : World) (h : n < 9223372036854775807) => of_any (n + 1) w (by omega) (by omega)
    have HO3 : ∀ (w : World) (h : n < 9223372036854775807), Calls Try.prog 12 #[.int .i64 (n + 1)] w fun e w' => e = .returned (.tuple #[.agg #[.int .i64 (n + 1), .int .i64 1], .int .i64 0]) ∧ Below w.heap.size w w' := fun w h => by
      have := of_any (n + 1) w (by omega) (by omega)
      rw [makeV_one (n + 1) (by omega) (by omega)] at this
      exact this
    have HC2 : ∀ (w : World) (h : n < 9223372036854775807), Calls Try.prog 20 #[.agg #[.int .i64 p, .int .i64 q], .agg #[.int .i64 (n + 1), .int .i64 1]] w fun e w' => e = .returned (.tuple #[.int .i64 (-1), .int .i64 0]) ∧ Below w.heap.size w w' := fun w h => by
      have := cmp_any p q (n + 1) 1 w p0 p1 q0 q1 (by omega) (by omega) (by omega) (by omega)
      rw [cmpV_ok hv (chk_one (n + 1) (by omega))] at this
      have e : cmpN (p * 1) ((n + 1) * q) = -1 := by unfold cmpN; (repeat' split) <;> omega
      rw [e] at this
      exact this
    have HM : ∀ (w : World), k ≠ 0 → -1000000 ≤ k → k ≤ 1000000 → -1000000000000 ≤ p → p ≤ 1000000000000 → q ≤ 1000000000000 → Calls Try.prog 10 #[.int .i64 (wrap64 (p * k)), .int .i64 (wrap64 (q * k))] w fun e w' => e = .returned (.tuple #[.agg #[.int .i64 p, .int .i64 q], .int .i64 0]) ∧ Below w.heap.size w w' := fun w g0 g1 g2 g3 g4 g5 => by
      have b1 := prod_in p k 1000000000000 1000000 (by omega) (by omega) (by omega) (by omega)
      have b2 := prod_in q k 1000000000000 1000000 (by omega) (by omega) (by omega) (by omega)
      rw [IntWalk.wrap64_in _ (by omega), IntWalk.wrap64_in _ (by omega)]
      have := makeV_any (p * k) (q * k) w (by omega) (by omega) (by omega) (by omega)
      rw [makeV_mul hv g0 (by omega) (by omega) (by omega)] at this
      exact this
    have HFH := Lib.hid HF
    have HOH := Lib.hid HO
    have HO3H := Lib.hid HO3
    have HC2H := Lib.hid HC2
    have HMH := Lib.hid HM
    obtain ⟨c, hc⟩ : ∃ c, c = cmpN (n * q) (p * 1) := ⟨_, rfl⟩
    rw [← hc] at HC hc1 hc2
    have HCH := Lib.hid HC
    have hcl : c ≤ 0 := by
      rcases Int.decEq q 1 with h | h
      · rw [hc2 h]; decide
      · rw [hc1 h]; decide
    obtain ⟨b, e2⟩ : ∃ b, (q == 1) = b := ⟨_, rfl⟩
    have e1 : (c == 0) = b := by
      rw [← e2]
      rcases Int.decEq q 1 with h | h
      · rw [hc2 h]; simp [h]
      · rw [hc1 h]; simp [h]
    clear HC HF HO HO2 HO3 HC2 HM hc1 hc2 f1 f2 f5 f6 hn hv hc
    have split : (k == 0) = true ∨ ((k == 0) = false ∧ decide (1000000 < k) = true) ∨ ((k == 0) = false ∧ decide (1000000 < k) = false ∧ decide (k < -1000000) = true) ∨
        ((k == 0) = false ∧ decide (1000000 < k) = false ∧ decide (k < -1000000) = false ∧ decide (1000000000000 < p) = true) ∨
        ((k == 0) = false ∧ decide (1000000 < k) = false ∧ decide (k < -1000000) = false ∧ decide (1000000000000 < p) = false ∧ decide (p < -1000000000000) = true) ∨
        ((k == 0) = false ∧ decide (1000000 < k) = false ∧ decide (k < -1000000) = false ∧ decide (1000000000000 < p) = false ∧ decide (p < -1000000000000) = false ∧ decide (1000000000000 < q) = true) ∨
        ((k == 0) = false ∧ decide (1000000 < k) = false ∧ decide (k < -1000000) = false ∧ decide (1000000000000 < p) = false ∧ decide (p < -1000000000000) = false ∧ decide (1000000000000 < q) = false) := by
      cases (k == 0) <;> cases decide (1000000 < k) <;> cases decide (k < -1000000) <;> cases decide (1000000000000 < p) <;> cases decide (p < -1000000000000) <;> cases decide (1000000000000 < q) <;> simp
    rcases split with c0 | ⟨c0, c1⟩ | ⟨c0, c1, c2⟩ | ⟨c0, c1, c2, c3⟩ | ⟨c0, c1, c2, c3, c4⟩ | ⟨c0, c1, c2, c3, c4, c5⟩ | ⟨c0, c1, c2, c3, c4, c5⟩
    rotate_left 6
    · have m0 : k ≠ 0 := by simpa using c0
      have m1 : k ≤ 1000000 := by simpa using c1
      have m2 : -1000000 ≤ k := by simpa using c2
      have m3 : p ≤ 1000000000000 := by simpa using c3
      have m4 : -1000000000000 ≤ p := by simpa using c4
      have m5 : q ≤ 1000000000000 := by simpa using c5
      have HMX := Lib.hid (fun w => HMH.out w m0 m2 m1 m4 m3 m5)
      clear HMH
      go_enter Try.func5, Try.ntmps5
      go_wp2_with (first | (go_at_call 17; (with_reducible refine cmono ?_ (HRH.out _ ?_ ?_ ?_ ?_)); rotate_left; omega; omega; omega; omega; rintro e w' ⟨rfl, hbc0⟩; obtain ⟨⟨dc0, osc0⟩, rfl⟩ := regrown_of_below hbc0; clear hbc0) | (go_at_call 28; (with_reducible refine cmono ?_ (alive_true _)); rotate_left; rintro e w' ⟨rfl, hbc1⟩; obtain ⟨⟨dc1, osc1⟩, rfl⟩ := regrown_of_below hbc1; clear hbc1) | (go_at_call 14; (with_reducible refine cmono ?_ (HFH.out _)); rotate_left; rintro e w' ⟨rfl, hbc2⟩; obtain ⟨⟨dc2, osc2⟩, rfl⟩ := regrown_of_below hbc2; clear hbc2) | (go_at_call 12; (with_reducible refine cmono ?_ (HOH.out _)); rotate_left; rintro e w' ⟨rfl, hbc3⟩; obtain ⟨⟨dc3, osc3⟩, rfl⟩ := regrown_of_below hbc3; clear hbc3) | (go_at_call 12; (with_reducible refine cmono ?_ (HO3H.out _ ?_)); rotate_left; omega; rintro e w' ⟨rfl, hbc4⟩; obtain ⟨⟨dc4, osc4⟩, rfl⟩ := regrown_of_below hbc4; clear hbc4) | (go_at_call 20; (with_reducible refine cmono ?_ (HCH.out _)); rotate_left; rintro e w' ⟨rfl, hbc5⟩; obtain ⟨⟨dc5, osc5⟩, rfl⟩ := regrown_of_below hbc5; clear hbc5) | (go_at_call 20; (with_reducible refine cmono ?_ (HC2H.out _ ?_)); rotate_left; omega; rintro e w' ⟨rfl, hbc6⟩; obtain ⟨⟨dc6, osc6⟩, rfl⟩ := regrown_of_below hbc6; clear hbc6) | (go_at_call 10; (with_reducible refine cmono ?_ (HMX.out _)); rotate_left; rintro e w' ⟨rfl, hbc7⟩; obtain ⟨⟨dc7, osc7⟩, rfl⟩ := regrown_of_below hbc7; clear hbc7) | ((with_reducible refine wp_region_quiet_below ?_ ?_ ?_); kernel_rfl; kernel_rfl; (repeat (go_big_quiet_step (first | (go_at_call 17; (with_reducible refine Calls.regrown_of (HRH.out _ ?_ ?_ ?_ ?_)); omega; omega; omega; omega) | (go_at_call 28; (with_reducible refine Calls.regrown_of (alive_true _))) | (go_at_call 14; (with_reducible refine Calls.regrown_of (HFH.out _))) | (go_at_call 12; (with_reducible refine Calls.regrown_of (HOH.out _))) | (go_at_call 12; (with_reducible refine Calls.regrown_of (HO3H.out _ ?_)); omega) | (go_at_call 20; (with_reducible refine Calls.regrown_of (HCH.out _))) | (go_at_call 20; (with_reducible refine Calls.regrown_of (HC2H.out _ ?_)); omega) | (go_at_call 10; (with_reducible refine Calls.regrown_of (HMX.out _)))))); refine wpQuiet_nil ?_; intro _ hw'; obtain ⟨⟨dq, osq⟩, hw''⟩ := hw'; subst hw''))
      all_goals go_ret
      all_goals exact ⟨rfl, (by repeat (first | exact Below.refl _ _ | refine below_reg ?_ _ _ | refine below_alloc ?_ _ | exact below_drewN ?_ _ | assumption))⟩
    all_goals
      clear HMH
      go_enter Try.func5, Try.ntmps5
      go_wp2_with (first | (go_at_call 17; (with_reducible refine cmono ?_ (HRH.out _ ?_ ?_ ?_ ?_)); rotate_left; omega; omega; omega; omega; rintro e w' ⟨rfl, hbc0⟩; obtain ⟨⟨dc0, osc0⟩, rfl⟩ := regrown_of_below hbc0; clear hbc0) | (go_at_call 28; (with_reducible refine cmono ?_ (alive_true _)); rotate_left; rintro e w' ⟨rfl, hbc1⟩; obtain ⟨⟨dc1, osc1⟩, rfl⟩ := regrown_of_below hbc1; clear hbc1) | (go_at_call 14; (with_reducible refine cmono ?_ (HFH.out _)); rotate_left; rintro e w' ⟨rfl, hbc2⟩; obtain ⟨⟨dc2, osc2⟩, rfl⟩ := regrown_of_below hbc2; clear hbc2) | (go_at_call 12; (with_reducible refine cmono ?_ (HOH.out _)); rotate_left; rintro e w' ⟨rfl, hbc3⟩; obtain ⟨⟨dc3, osc3⟩, rfl⟩ := regrown_of_below hbc3; clear hbc3) | (go_at_call 12; (with_reducible refine cmono ?_ (HO3H.out _ ?_)); rotate_left; omega; rintro e w' ⟨rfl, hbc4⟩; obtain ⟨⟨dc4, osc4⟩, rfl⟩ := regrown_of_below hbc4; clear hbc4) | (go_at_call 20; (with_reducible refine cmono ?_ (HCH.out _)); rotate_left; rintro e w' ⟨rfl, hbc5⟩; obtain ⟨⟨dc5, osc5⟩, rfl⟩ := regrown_of_below hbc5; clear hbc5) | (go_at_call 20; (with_reducible refine cmono ?_ (HC2H.out _ ?_)); rotate_left; omega; rintro e w' ⟨rfl, hbc6⟩; obtain ⟨⟨dc6, osc6⟩, rfl⟩ := regrown_of_below hbc6; clear hbc6) | ((with_reducible refine wp_region_quiet_below ?_ ?_ ?_); kernel_rfl; kernel_rfl; (repeat (go_big_quiet_step (first | (go_at_call 17; (with_reducible refine Calls.regrown_of (HRH.out _ ?_ ?_ ?_ ?_)); omega; omega; omega; omega) | (go_at_call 28; (with_reducible refine Calls.regrown_of (alive_true _))) | (go_at_call 14; (with_reducible refine Calls.regrown_of (HFH.out _))) | (go_at_call 12; (with_reducible refine Calls.regrown_of (HOH.out _))) | (go_at_call 12; (with_reducible refine Calls.regrown_of (HO3H.out _ ?_)); omega) | (go_at_call 20; (with_reducible refine Calls.regrown_of (HCH.out _))) | (go_at_call 20; (with_reducible refine Calls.regrown_of (HC2H.out _ ?_)); omega)))); refine wpQuiet_nil ?_; intro _ hw'; obtain ⟨⟨dq, osq⟩, hw''⟩ := hw'; subst hw''))
      all_goals go_ret
      all_goals exact ⟨rfl, (by repeat (first | exact Below.refl _ _ | refine below_reg ?_ _ _ | refine below_alloc ?_ _ | exact below_drewN ?_ _ | assumption))⟩
  · clear hv
    go_enter Try.func5, Try.ntmps5
    go_wp2_with (first | (go_at_call 17; (with_reducible refine cmono ?_ (HRH.out _ ?_ ?_ ?_ ?_)); rotate_left; omega; omega; omega; omega; rintro e w' ⟨rfl, hbc0⟩; obtain ⟨⟨dc0, osc0⟩, rfl⟩ := regrown_of_below hbc0; clear hbc0) | (go_at_call 28; (with_reducible refine cmono ?_ (alive_true _)); rotate_left; rintro e w' ⟨rfl, hbc1⟩; obtain ⟨⟨dc1, osc1⟩, rfl⟩ := regrown_of_below hbc1; clear hbc1) | ((with_reducible refine wp_region_quiet_below ?_ ?_ ?_); kernel_rfl; kernel_rfl; (repeat (go_big_quiet_step (first | (go_at_call 17; (with_reducible refine Calls.regrown_of (HRH.out _ ?_ ?_ ?_ ?_)); omega; omega; omega; omega) | (go_at_call 28; (with_reducible refine Calls.regrown_of (alive_true _)))))); refine wpQuiet_nil ?_; intro _ hw'; obtain ⟨⟨dq, osq⟩, hw''⟩ := hw'; subst hw''))
    go_ret
    exact ⟨rfl, (by repeat (first | exact Below.refl _ _ | refine below_reg ?_ _ _ | refine below_alloc ?_ _ | exact below_drewN ?_ _ | assumption))⟩

end Go.Proofs.Ytkobebnijkanhaa
