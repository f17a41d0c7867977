import Derived.Test.YtnjgfhgpicmklaaGreatGQAN
set_option linter.all false
namespace Go.Proofs.YtnjgfhgpicmklaaGreat
open Go.RowKit Go.Sort
theorem rSign_any (x : Int) (hi lo : Nat) (h : Two hi lo x.natAbs) (w : World) :
    Calls Tryz.prog 182 #[.agg #[.bool (decide (x < 0)), .int .u64 hi, .int .u64 lo]] w fun en w' => en = .returned (.int .i64 (cmpN x 0)) ∧ Below w.heap.size w w' := by
  have e := h.eq
  have hz : (hi = 0 ∧ lo = 0) ↔ x = 0 := by
    constructor
    · rintro ⟨rfl, rfl⟩; simp at e; omega
    · rintro rfl
      obtain ⟨e1, e2⟩ := h
      simp at e1 e2; exact ⟨e1, e2⟩
  obtain ⟨k, hk⟩ : ∃ k, k = cmpN x 0 := ⟨_, rfl⟩
  rw [← hk]
  have HK := Lib.hid hk
  have HZ := Lib.hid hz
  clear e h hk hz
  cases hs : decide (x < 0) <;> cases h1 : ((hi : Int) == 0) <;> cases h2 : ((lo : Int) == 0)
  all_goals
    go_enter Tryz.func182, Tryz.ntmps182
    go_wp2_with (first | ((with_reducible refine wp_region_quiet_below ?_ ?_ ?_); kernel_rfl; kernel_rfl; (repeat (go_big_quiet_step (fail))); refine wpQuiet_nil ?_; intro _ hw'; obtain ⟨⟨dq, osq⟩, hw''⟩ := hw'; subst hw''))
    go_ret
    refine ⟨ret_int ?_, (by repeat (first | exact Below.refl _ _ | refine below_reg ?_ _ _ | refine below_alloc ?_ _ | exact below_drewN ?_ _ | assumption))⟩
    rw [HK.out]
    have hz := HZ.out
    simp only [beq_iff_eq, beq_eq_false_iff_ne, decide_eq_true_eq, decide_eq_false_iff_not, ne_eq] at h1 h2 hs
    unfold cmpN
    (repeat' split) <;> first | rfl | omega | (exfalso; omega)
set_option maxHeartbeats 8000000 in
theorem rPlus_any (x y : Int) (a b c d hi lo : Nat) (h1 : Two a b x.natAbs) (h2 : Two c d y.natAbs) (h : Two hi lo (x + y).natAbs) (hx : x.natAbs < 9223372036854775807 * 18446744073709551616) (hy : y.natAbs < 9223372036854775807 * 18446744073709551616) (w : World) :
    Calls Tryz.prog 188 #[.agg #[.bool (decide (x < 0)), .int .u64 a, .int .u64 b], .agg #[.bool (decide (y < 0)), .int .u64 c, .int .u64 d]] w fun en w' => en = .returned (.agg #[.bool (decide (x + y < 0)), .int .u64 hi, .int .u64 lo]) ∧ Below w.heap.size w w' := by
  by_cases hs : decide (x < 0) = decide (y < 0)
  · have l1 := h1.lo
    have l2 := h2.lo
    have u1 := h1.hi _ hx
    have u2 := h2.hi _ hy
    have hsum : (x + y).natAbs = x.natAbs + y.natAbs := by
      rcases Bool.eq_false_or_eq_true (decide (x < 0)) with hb | hb <;> rw [hb] at hs <;> simp at hb hs <;> omega
    have hsg : decide (x + y < 0) = decide (x < 0) := by
      rcases Bool.eq_false_or_eq_true (decide (x < 0)) with hb | hb <;> rw [hb] at hs ⊢ <;> simp at hb hs ⊢ <;> omega
    have e1 := h1.eq
    have e2 := h2.eq
    obtain ⟨r1, r2⟩ := h
    rw [hsum, ← e1, ← e2] at r1 r2
    rw [hsg, ← hs]
    obtain ⟨s, hsd⟩ : ∃ s, s = decide (x < 0) := ⟨_, rfl⟩
    rw [← hsd]
    by_cases hc : b + d < 18446744073709551616
    · obtain ⟨v1, v2⟩ := radd_plain 18446744073709551616 a b c d hc
      rw [v1] at r1
      rw [v2] at r2
      have R1 : (a : Int) + (c : Int) = (hi : Int) := by omega
      have R2 : (b : Int) + (d : Int) = (lo : Int) := by omega
      have hlt : ¬ (lo : Int) < (b : Int) := by omega
      have hlo : lo < 18446744073709551616 := by omega
      have hhi : hi < 18446744073709551616 := by omega
      clear e1 e2 h1 h2 hx hy r1 r2 v1 v2 hsum hsg hs hsd
      go_enter Tryz.func188, Tryz.ntmps188
      go_wp2_with (first | ((with_reducible refine wp_region_quiet_below ?_ ?_ ?_); kernel_rfl; kernel_rfl; (repeat (go_big_quiet_step (fail))); refine wpQuiet_nil ?_; intro _ hw'; obtain ⟨⟨dq, osq⟩, hw''⟩ := hw'; subst hw''))
      refine bodyPost_ret (v := .agg #[.bool s, .int .u64 (hi : Nat), .int .u64 (lo : Nat)]) (by simp [results, Tryz.results188, go_sem]) rfl ⟨rfl, (by repeat (first | exact Below.refl _ _ | refine below_reg ?_ _ _ | refine below_alloc ?_ _ | exact below_drewN ?_ _ | assumption))⟩
    · obtain ⟨v1, v2⟩ := add_carry 18446744073709551616 a b c d l1 l2 (by omega)
      rw [v1] at r1
      rw [v2] at r2
      have R1 : (a : Int) + (c : Int) + 1 = (hi : Int) := by omega
      have R2 : IntKind.u64.wrap ((b : Int) + (d : Int)) = (lo : Int) := by rw [IntKind.wrap_u64]; omega
      have hlt : (lo : Int) < (b : Int) := by omega
      have hlo : lo < 18446744073709551616 := by omega
      have hhi : hi < 18446744073709551616 := by omega
      clear e1 e2 h1 h2 hx hy r1 r2 v1 v2 hsum hsg hs hsd
      go_enter Tryz.func188, Tryz.ntmps188
      go_wp2_with (first | ((with_reducible refine wp_region_quiet_below ?_ ?_ ?_); kernel_rfl; kernel_rfl; (repeat (go_big_quiet_step (fail))); refine wpQuiet_nil ?_; intro _ hw'; obtain ⟨⟨dq, osq⟩, hw''⟩ := hw'; subst hw''))
      refine bodyPost_ret (v := .agg #[.bool s, .int .u64 (hi : Nat), .int .u64 (lo : Nat)]) (by simp [results, Tryz.results188, go_sem]) rfl ⟨rfl, (by repeat (first | exact Below.refl _ _ | refine below_reg ?_ _ _ | refine below_alloc ?_ _ | exact below_drewN ?_ _ | assumption))⟩
  · have hsb : (decide (x < 0) == decide (y < 0)) = false := by simpa using hs
    have hlim : (x + y).natAbs < 9223372036854775807 * 18446744073709551616 := by
      rcases Bool.eq_false_or_eq_true (decide (x < 0)) with hb | hb <;> rcases Bool.eq_false_or_eq_true (decide (y < 0)) with hb2 | hb2 <;> rw [hb, hb2] at hs <;> simp at hb hb2 hs <;> omega
    by_cases hge : y.natAbs ≤ x.natAbs
    · have hsum : (x + y).natAbs = x.natAbs - y.natAbs := by
        rcases Bool.eq_false_or_eq_true (decide (x < 0)) with hb | hb <;> rcases Bool.eq_false_or_eq_true (decide (y < 0)) with hb2 | hb2 <;> rw [hb, hb2] at hs <;> simp at hb hb2 hs <;> omega
      have HC := rless_any (decide (x < 0)) (decide (y < 0)) a b c d _ _ h1 h2
      obtain ⟨k, hk⟩ : ∃ k, k = cmpN ((x.natAbs : Nat) : Int) ((y.natAbs : Nat) : Int) := ⟨_, rfl⟩
      rw [← hk] at HC
      have hk0 : 0 ≤ k := by rw [hk]; unfold cmpN; (repeat' split) <;> omega
      have HCH := Lib.hid HC
      rw [hsum] at h
      have HM := Lib.hid (rminus_any (decide (x < 0)) (decide (y < 0)) a b c d hi lo _ _ h1 h2 h hge hx)
      have e := h.eq
      have hz : (hi = 0 ∧ lo = 0) ↔ x + y = 0 := by
        rw [← hsum] at e
        constructor
        · rintro ⟨rfl, rfl⟩; simp at e; omega
        · intro h0
          obtain ⟨e1, e2⟩ := h
          rw [← hsum, h0] at e1 e2
          simp at e1 e2; exact ⟨e1, e2⟩
      have hsg : decide (x + y < 0) = (decide (x < 0) && (decide (0 < (hi : Int)) || decide (0 < (lo : Int)))) := by
        rcases Bool.eq_false_or_eq_true (decide (x < 0)) with hb | hb <;> rcases Bool.eq_false_or_eq_true (decide (y < 0)) with hb2 | hb2 <;> rw [hb, hb2] at hs <;> simp at hb hb2 hs
        · rw [decide_eq_true hb, Bool.true_and, ← Bool.decide_or, decide_eq_decide]
          omega
        · rw [decide_eq_false (show ¬ x < 0 by omega), Bool.false_and, decide_eq_false_iff_not]
          omega
      rw [hsg]
      clear HC hk h1 h2 h hx hy hlim hge e hz hsg hsum
      obtain ⟨s, hsd⟩ : ∃ s, s = decide (x < 0) := ⟨_, rfl⟩
      obtain ⟨s', hsd'⟩ : ∃ s', s' = decide (y < 0) := ⟨_, rfl⟩
      rw [← hsd] at hsb HCH HM ⊢
      rw [← hsd'] at hsb HCH HM ⊢
      clear hsd hsd' hs
      cases s <;> cases s' <;> first | (exfalso; simp at hsb; done) | skip
      all_goals cases hh : decide (0 < (hi : Int)) <;> cases hl : decide (0 < (lo : Int))
      all_goals
        have hh' : decide (0 < hi) = decide (0 < (hi : Int)) := by simp
        have hl' : decide (0 < lo) = decide (0 < (lo : Int)) := by simp
        rw [hh] at hh'
        rw [hl] at hl'
        go_enter Tryz.func188, Tryz.ntmps188
        go_wp2_with (first | (go_at_call 183; (with_reducible refine cmono ?_ (HCH.out _)); rotate_left; rintro e w' ⟨rfl, hbc0⟩; obtain ⟨⟨dc0, osc0⟩, rfl⟩ := regrown_of_below hbc0; clear hbc0) | (go_at_call 214; (with_reducible refine cmono ?_ (HM.out _)); rotate_left; rintro e w' ⟨rfl, hbc1⟩; obtain ⟨⟨dc1, osc1⟩, rfl⟩ := regrown_of_below hbc1; clear hbc1) | ((with_reducible refine wp_region_quiet_below ?_ ?_ ?_); kernel_rfl; kernel_rfl; (repeat (go_big_quiet_step (first | (go_at_call 183; (with_reducible refine Calls.regrown_of (HCH.out _))) | (go_at_call 214; (with_reducible refine Calls.regrown_of (HM.out _)))))); refine wpQuiet_nil ?_; intro _ hw'; obtain ⟨⟨dq, osq⟩, hw''⟩ := hw'; subst hw''))
        first
          | refine bodyPost_ret (v := .agg #[.bool true, .int .u64 (hi : Nat), .int .u64 (lo : Nat)]) (by simp [results, Tryz.results188, go_sem]) rfl ⟨rfl, (by repeat (first | exact Below.refl _ _ | refine below_reg ?_ _ _ | refine below_alloc ?_ _ | exact below_drewN ?_ _ | assumption))⟩
          | refine bodyPost_ret (v := .agg #[.bool false, .int .u64 (hi : Nat), .int .u64 (lo : Nat)]) (by simp [results, Tryz.results188, go_sem]) rfl ⟨rfl, (by repeat (first | exact Below.refl _ _ | refine below_reg ?_ _ _ | refine below_alloc ?_ _ | exact below_drewN ?_ _ | assumption))⟩
    · have hsum : (x + y).natAbs = y.natAbs - x.natAbs := by
        rcases Bool.eq_false_or_eq_true (decide (x < 0)) with hb | hb <;> rcases Bool.eq_false_or_eq_true (decide (y < 0)) with hb2 | hb2 <;> rw [hb, hb2] at hs <;> simp at hb hb2 hs <;> omega
      have HC := rless_any (decide (x < 0)) (decide (y < 0)) a b c d _ _ h1 h2
      obtain ⟨k, hk⟩ : ∃ k, k = cmpN ((x.natAbs : Nat) : Int) ((y.natAbs : Nat) : Int) := ⟨_, rfl⟩
      rw [← hk] at HC
      have hk0 : k < 0 := by rw [hk]; unfold cmpN; (repeat' split) <;> omega
      have HCH := Lib.hid HC
      rw [hsum] at h
      have HM := Lib.hid (rminus_any (decide (y < 0)) (decide (x < 0)) c d a b hi lo _ _ h2 h1 h (by omega) hy)
      have hsg : decide (x + y < 0) = decide (y < 0) := by
        rcases Bool.eq_false_or_eq_true (decide (x < 0)) with hb | hb <;> rcases Bool.eq_false_or_eq_true (decide (y < 0)) with hb2 | hb2 <;> rw [hb, hb2] at hs <;> simp at hb hb2 hs <;> rw [decide_eq_decide] <;> omega
      rw [hsg]
      clear HC hk h1 h2 h hx hy hlim hge hsg hsum
      obtain ⟨s, hsd⟩ : ∃ s, s = decide (x < 0) := ⟨_, rfl⟩
      obtain ⟨s', hsd'⟩ : ∃ s', s' = decide (y < 0) := ⟨_, rfl⟩
      rw [← hsd] at hsb HCH HM ⊢
      rw [← hsd'] at hsb HCH HM ⊢
      clear hsd hsd' hs
      cases s <;> cases s' <;> first | (exfalso; simp at hsb; done) | skip
      all_goals
        go_enter Tryz.func188, Tryz.ntmps188
        go_wp2_with (first | (go_at_call 183; (with_reducible refine cmono ?_ (HCH.out _)); rotate_left; rintro e w' ⟨rfl, hbc0⟩; obtain ⟨⟨dc0, osc0⟩, rfl⟩ := regrown_of_below hbc0; clear hbc0) | (go_at_call 214; (with_reducible refine cmono ?_ (HM.out _)); rotate_left; rintro e w' ⟨rfl, hbc1⟩; obtain ⟨⟨dc1, osc1⟩, rfl⟩ := regrown_of_below hbc1; clear hbc1) | ((with_reducible refine wp_region_quiet_below ?_ ?_ ?_); kernel_rfl; kernel_rfl; (repeat (go_big_quiet_step (first | (go_at_call 183; (with_reducible refine Calls.regrown_of (HCH.out _))) | (go_at_call 214; (with_reducible refine Calls.regrown_of (HM.out _)))))); refine wpQuiet_nil ?_; intro _ hw'; obtain ⟨⟨dq, osq⟩, hw''⟩ := hw'; subst hw''))
        first
          | refine bodyPost_ret (v := .agg #[.bool true, .int .u64 (hi : Nat), .int .u64 (lo : Nat)]) (by simp [results, Tryz.results188, go_sem]) rfl ⟨rfl, (by repeat (first | exact Below.refl _ _ | refine below_reg ?_ _ _ | refine below_alloc ?_ _ | exact below_drewN ?_ _ | assumption))⟩
          | refine bodyPost_ret (v := .agg #[.bool false, .int .u64 (hi : Nat), .int .u64 (lo : Nat)]) (by simp [results, Tryz.results188, go_sem]) rfl ⟨rfl, (by repeat (first | exact Below.refl _ _ | refine below_reg ?_ _ _ | refine below_alloc ?_ _ | exact below_drewN ?_ _ | assumption))⟩
end Go.Proofs.YtnjgfhgpicmklaaGreat

namespace Go.Proofs.YtnjgfhgpicmklaaGreat
open Go.RowKit
theorem dig_step (v b by_ : Nat) (hb : b ≤ 1) (hy : 0 < by_) :
    (by_ ≤ 2 * (v % by_) + b → (2 * v + b) / by_ = 2 * (v / by_) + 1 ∧ (2 * v + b) % by_ = 2 * (v % by_) + b - by_) ∧
    (¬ by_ ≤ 2 * (v % by_) + b → (2 * v + b) / by_ = 2 * (v / by_) ∧ (2 * v + b) % by_ = 2 * (v % by_) + b) := by
  have hd := Nat.div_add_mod v by_
  have hl := Nat.mod_lt v hy
  generalize v / by_ = q at *
  generalize v % by_ = r at *
  have e : 2 * v + b = by_ * (2 * q) + (2 * r + b) := by
    rw [← hd, Nat.mul_left_comm]; omega
  constructor
  · intro h
    have e2 : 2 * v + b = by_ * (2 * q + 1) + (2 * r + b - by_) := by
      rw [e, Nat.mul_add, Nat.mul_one]; omega
    rw [e2]
    exact ⟨by rw [Nat.mul_add_div hy, Nat.div_eq_of_lt (by omega), Nat.add_zero], by rw [Nat.mul_add_mod, Nat.mod_eq_of_lt (by omega)]⟩
  · intro h
    rw [e]
    exact ⟨by rw [Nat.mul_add_div hy, Nat.div_eq_of_lt (by omega), Nat.add_zero], by rw [Nat.mul_add_mod, Nat.mod_eq_of_lt (by omega)]⟩
theorem dig_next (m i : Nat) : m / 2 ^ i = 2 * (m / 2 ^ (i + 1)) + m / 2 ^ i % 2 := by
  rw [Nat.pow_succ, ← Nat.div_div_eq_div_mul]
  omega
open Go.Sort in
theorem regrown_regrown (W : World) (d d' : Nat) (os os' : Array Obj) : grow (redrawn (grow (redrawn W d) os) d') os' = grow (redrawn W d') (os ++ os') := by
  simp [grow, redrawn, Array.append_assoc]
theorem or_digit (V j : Nat) : (V * 2 ^ (j + 1)) ||| 2 ^ j = V * 2 ^ (j + 1) + 2 ^ j := by
  have h := Nat.two_pow_add_eq_or_of_lt (i := j + 1) (b := 2 ^ j) (by rw [Nat.pow_succ]; have := Nat.two_pow_pos j; omega) V
  rw [Nat.mul_comm V]; exact h.symm
theorem digit_hi (p q V k : Nat) (hk : 64 ≤ k) (hk2 : k ≤ 127) (hp : p < 18446744073709551616) (h : Two p q (V * 2 ^ (k + 1))) :
    p + 2 ^ (k - 64) < 18446744073709551616 ∧ bits .or .u64 (p : Int) (IntKind.u64.wrap (2 ^ (k - 64))) = ((p + 2 ^ (k - 64) : Nat) : Int) ∧ Two (p + 2 ^ (k - 64)) q ((2 * V + 1) * 2 ^ k) := by
  obtain ⟨j, rfl⟩ : ∃ j, k = j + 64 := ⟨k - 64, by omega⟩
  have hj : j + 64 - 64 = j := by omega
  rw [hj]
  have e1 : V * 2 ^ (j + 64 + 1) = V * 2 ^ (j + 1) * 18446744073709551616 := by
    rw [Nat.mul_assoc, show (18446744073709551616 : Nat) = 2 ^ 64 from rfl, ← Nat.pow_add, show j + 64 + 1 = j + 1 + 64 by omega]
  obtain ⟨hp1, hq1⟩ := h
  rw [e1] at hp1 hq1
  rw [Nat.mul_div_cancel _ (by decide)] at hp1
  rw [Nat.mul_mod_left] at hq1
  have hlt : 2 ^ j < 18446744073709551616 := by
    have := Nat.pow_lt_pow_right (a := 2) (by decide) (show j < 64 by omega)
    exact this
  have e2 : (2 * V + 1) * 2 ^ (j + 64) = (p + 2 ^ j) * 18446744073709551616 := by
    rw [hp1, Nat.pow_add, show (2 : Nat) ^ 64 = 18446744073709551616 from rfl]
    generalize 18446744073709551616 = W
    rw [← Nat.mul_assoc, Nat.pow_succ, Nat.mul_comm (2 ^ j) 2, ← Nat.mul_assoc, Nat.mul_comm V 2, Nat.add_mul (2 * V), Nat.one_mul]
  have hor : p ||| 2 ^ j = p + 2 ^ j := by rw [hp1]; exact or_digit V j
  have hb : p + 2 ^ j < 18446744073709551616 := by
    rw [← hor]; exact Nat.or_lt_two_pow (n := 64) hp hlt
  refine ⟨hb, ?_, ?_⟩
  · have hw : IntKind.u64.wrap (2 ^ j) = ((2 ^ j : Nat) : Int) := by
      rw [show ((2 : Int) ^ j) = ((2 ^ j : Nat) : Int) by simp]
      exact IntWalk.u64_in _ ⟨Int.natCast_nonneg _, by omega⟩
    rw [hw, u64_or_nat _ _ hp hlt, hor]
  · rw [e2]
    refine ⟨?_, ?_⟩
    · rw [Nat.mul_div_cancel _ (by decide)]
    · rw [Nat.mul_mod_left]; exact hq1
theorem digit_lo (p q V k : Nat) (hk : k < 64) (hq : q < 18446744073709551616) (h : Two p q (V * 2 ^ (k + 1))) :
    q + 2 ^ k < 18446744073709551616 ∧ bits .or .u64 (q : Int) (IntKind.u64.wrap (2 ^ k)) = ((q + 2 ^ k : Nat) : Int) ∧ Two p (q + 2 ^ k) ((2 * V + 1) * 2 ^ k) := by
  obtain ⟨hp1, hq1⟩ := h
  have e1 : 2 ^ (63 - k) * 2 ^ (k + 1) = 18446744073709551616 := by
    rw [← Nat.pow_add, show 63 - k + (k + 1) = 64 by omega]
  have hlt : 2 ^ k < 18446744073709551616 := Nat.pow_lt_pow_right (a := 2) (by decide) hk
  have hq2 : q = V % 2 ^ (63 - k) * 2 ^ (k + 1) := by
    rw [hq1, ← e1, Nat.mul_mod_mul_right]
  have hor : q ||| 2 ^ k = q + 2 ^ k := by rw [hq2]; exact or_digit _ k
  have hb : q + 2 ^ k < 18446744073709551616 := by
    rw [← hor]; exact Nat.or_lt_two_pow (n := 64) hq hlt
  refine ⟨hb, ?_, ?_⟩
  · have hw : IntKind.u64.wrap (2 ^ k) = ((2 ^ k : Nat) : Int) := by
      rw [show ((2 : Int) ^ k) = ((2 ^ k : Nat) : Int) by simp]
      exact IntWalk.u64_in _ ⟨Int.natCast_nonneg _, by omega⟩
    rw [hw, u64_or_nat _ _ hq hlt, hor]
  · have e2 : (2 * V + 1) * 2 ^ k = p * 18446744073709551616 + (q + 2 ^ k) := by
      have hd := Nat.div_add_mod (V * 2 ^ (k + 1)) 18446744073709551616
      rw [← hp1, ← hq1] at hd
      have e3 : (2 * V + 1) * 2 ^ k = V * 2 ^ (k + 1) + 2 ^ k := by
        rw [Nat.add_mul, Nat.one_mul, Nat.pow_succ, Nat.mul_comm (2 ^ k) 2, ← Nat.mul_assoc, Nat.mul_comm V 2]
      rw [e3, ← hd, Nat.mul_comm]; omega
    rw [e2]
    exact ⟨(hi_of _ _ _ hb).symm, (lo_of _ _ _ hb).symm⟩
theorem digit_none (V k : Nat) : 2 * V * 2 ^ k = V * 2 ^ (k + 1) := by
  rw [Nat.pow_succ, Nat.mul_comm (2 ^ k) 2, ← Nat.mul_assoc, Nat.mul_comm V 2]
end Go.Proofs.YtnjgfhgpicmklaaGreat

namespace Go.Proofs.YtnjgfhgpicmklaaGreat
open Go.RowKit Go.Sort
def DivRel (x : Bool) (a b m y : Nat) (w : World) (u i : Value) (wr : World) : Prop :=
  ∃ (j t p q d : Nat) (os : Array Obj), j ≤ 128 ∧ t < y ∧ u = .int .u64 t ∧ i = .int .i64 ((j : Int) - 1) ∧ Hid (t = m / 2 ^ j % y) ∧ Two p q (m / 2 ^ j / y * 2 ^ j) ∧
      wr = grow (redrawn (((w.alloc (.cells #[.bool x, .int .u64 a, .int .u64 b] 245)).alloc (.cells #[.bool false, .int .u64 0, .int .u64 0] 245)).alloc (.cells #[.bool false, .int .u64 p, .int .u64 q] 245)) d) os
theorem bit_of (z k : Nat) (hz : z < 18446744073709551616) : bits .and .u64 ((z : Int) / 2 ^ k) 1 = ((z / 2 ^ k % 2 : Nat) : Int) := by
  have e : ((z : Int) / 2 ^ k) = ((z / 2 ^ k : Nat) : Int) := by simp
  have hl : z / 2 ^ k ≤ z := Nat.div_le_self _ _
  have h := u64_and_nat (z / 2 ^ k) 1 (by omega) (by omega)
  rw [Nat.and_one_is_mod] at h
  rw [e]
  exact h
theorem bit_hi (m a k : Nat) (ha : a = m / 18446744073709551616) (hk : 64 ≤ k) : a / 2 ^ (k - 64) % 2 = m / 2 ^ k % 2 := by
  rw [ha, Nat.div_div_eq_div_mul, show (18446744073709551616 : Nat) = 2 ^ 64 from rfl, ← Nat.pow_add, show 64 + (k - 64) = k by omega]
theorem bit_lo (m b k : Nat) (hb : b = m % 18446744073709551616) (hk : k < 64) : b / 2 ^ k % 2 = m / 2 ^ k % 2 := by
  have h1 : m = 2 ^ k * (2 * 2 ^ (63 - k)) * (m / 18446744073709551616) + b := by
    have e : 2 ^ k * (2 * 2 ^ (63 - k)) = 18446744073709551616 := by
      rw [show 2 * 2 ^ (63 - k) = 2 ^ (63 - k + 1) by rw [Nat.pow_succ, Nat.mul_comm], ← Nat.pow_add, show k + (63 - k + 1) = 64 by omega]
    rw [e, hb]; exact (Nat.div_add_mod _ _).symm
  generalize m / 18446744073709551616 = z at h1
  subst h1
  rw [Nat.mul_assoc (2 ^ k), Nat.mul_add_div (Nat.two_pow_pos _), Nat.mul_assoc 2, Nat.mul_add_mod]
theorem ret_u {k : IntKind} {a b : Int} (h : a = b) : Value.int k a = .int k b := by rw [h]
theorem regrown_none (w : World) : grow (redrawn w w.drawn) #[] = w := by simp [grow, redrawn]
theorem quot_le (m k y : Nat) : m / 2 ^ k / y * 2 ^ k ≤ m :=
  Nat.le_trans (Nat.mul_le_mul_right _ (Nat.div_le_self _ _)) (Nat.div_mul_le_self _ _)
theorem div_small (m : Nat) (hm : m < 9223372036854775807 * 18446744073709551616) : m / 2 ^ 128 = 0 := Nat.div_eq_of_lt (by omega)
set_option maxHeartbeats 8000000 in
theorem rdivided_any (x : Bool) (a b m y hi lo r : Nat) (h1 : Two a b m) (h : Two hi lo (m / y)) (hr : r = m % y) (hm : m < 9223372036854775807 * 18446744073709551616) (hy : 0 < y) (hY : y ≤ 9223372036854775808) (w : World) :
    Calls Tryz.prog 213 #[.agg #[.bool x, .int .u64 a, .int .u64 b], .int .u64 y] w fun e w' =>
      e = .returned (.tuple #[.agg #[.bool false, .int .u64 hi, .int .u64 lo], .int .u64 r]) ∧ Below w.heap.size w w' := by
  go_enter Tryz.func213, Tryz.ntmps213
  go_wp2_with (first | ((with_reducible refine wp_region_quiet_below ?_ ?_ ?_); kernel_rfl; kernel_rfl; (repeat (go_big_quiet_step (fail))); refine wpQuiet_nil ?_; intro _ hw'; obtain ⟨⟨dq, osq⟩, hw''⟩ := hw'; subst hw''))
  go_loopw [7, 8] (DivRel x a b m y w) (fun _ i _ => (intOf i + 1).toNat)
  case atStart =>
    refine ⟨128, 0, 0, 0, w.drawn, #[], by omega, hy, rfl, rfl, Lib.hid ?_, ?_, ?_⟩
    · rw [div_small m hm]; exact (Nat.zero_mod _).symm
    · rw [div_small m hm]; exact ⟨by simp, by simp⟩
    · exact (regrown_none _).symm
  case round =>
    obtain ⟨j, t, p, q, d, os, hj, ht, rfl, rfl, htd, hpq, rfl⟩ := hrel
    rcases j with _ | k
    · simp only [Nat.pow_zero, Nat.div_one, Nat.mul_one] at htd hpq
      have e1 := h.1.trans hpq.1.symm
      have e2 := h.2.trans hpq.2.symm
      have e3 := hr.trans htd.out.symm
      subst e1 e2 e3
      go_wp2_with (first | ((with_reducible refine wp_region_quiet_below ?_ ?_ ?_); kernel_rfl; kernel_rfl; (repeat (go_big_quiet_step (fail))); refine wpQuiet_nil ?_; intro _ hw'; obtain ⟨⟨dq, osq⟩, hw''⟩ := hw'; subst hw''))
      refine bodyPost_ret (v := .tuple #[.agg #[.bool false, .int .u64 hi, .int .u64 lo], .int .u64 r]) (by simp [results, Tryz.results213, go_sem]) rfl ⟨rfl, (by repeat (first | exact Below.refl _ _ | refine below_reg ?_ _ _ | refine below_alloc ?_ _ | exact below_drewN ?_ _ | assumption))⟩
    · have e : ((k + 1 : Nat) : Int) - 1 = (k : Int) := by omega
      rw [e]
      have hkb : (k : Int) ≤ 127 := by omega
      obtain ⟨β, hβ⟩ : ∃ β, β = m / 2 ^ k % 2 := ⟨_, rfl⟩
      have hβ1 : β ≤ 1 := by omega
      obtain ⟨T, hT⟩ : ∃ T, T = 2 * t + β := ⟨_, rfl⟩
      have RT : 2 * (t : Int) + (β : Int) = (T : Int) := by omega
      have hTb : T < 18446744073709551616 := by omega
      obtain ⟨s1, s2⟩ := dig_step (m / 2 ^ (k + 1)) β y hβ1 hy
      rw [hβ, ← dig_next m k, ← htd.out, ← hβ, ← hT] at s1 s2
      by_cases hk : (64 : Int) ≤ (k : Int)
      · have RB : bits .and .u64 ((a : Int) / 2 ^ (k - 64)) 1 = (β : Int) := by
          rw [bit_of a _ (by have := h1.hi _ hm; omega), bit_hi m a k h1.1 (by omega), ← hβ]
        by_cases hle : y ≤ T
        · obtain ⟨u1, u2⟩ := s1 hle
          have hle2 : (y : Int) ≤ (T : Int) := by omega
          have U1 := Lib.hid u1
          have U2 := Lib.hid u2
          clear s1 s2 u1 u2 hβ hT
          have V1 := U1.out
          obtain ⟨g1, g2, g3⟩ := digit_hi p q _ k (by omega) (by omega) (by have := hpq.hi _ (Nat.lt_of_le_of_lt (quot_le m (k + 1) y) hm); omega) hpq
          rw [← V1] at g3
          clear V1
          go_wp2_with (first | ((with_reducible refine wp_region_quiet_below ?_ ?_ ?_); kernel_rfl; kernel_rfl; (repeat (go_big_quiet_step (fail))); refine wpQuiet_nil ?_; intro _ hw'; obtain ⟨⟨dq, osq⟩, hw''⟩ := hw'; subst hw'') | ((with_reducible refine wp_region_tail_below 7 ?_ ?_ ?_); kernel_rfl; kernel_rfl; simp only [List.take_succ_cons, List.take_zero, List.drop_succ_cons, List.drop_zero]; (repeat (go_big_quiet_step (fail))); refine wpQuiet_nil ?_; intro _ hw'; obtain ⟨⟨dq, osq⟩, hw''⟩ := hw'; subst hw''))
          rw [show ((p : Int) + 2 ^ (k - 64)) = ((p + 2 ^ (k - 64) : Nat) : Int) by simp]
          refine ⟨⟨k, T - y, p + 2 ^ (k - 64), q, _, _, by omega, by omega, ret_u (by omega), rfl, Lib.hid U2.out.symm, g3, regrown_regrown _ _ _ _ _⟩, by show (((k : Int) - 1) + 1).toNat < ((k : Int) + 1).toNat; omega⟩
        · obtain ⟨u1, u2⟩ := s2 hle
          have U1 := Lib.hid u1
          have U2 := Lib.hid u2
          clear s1 s2 u1 u2 hβ hT
          have V1 := U1.out
          rw [← digit_none, ← V1] at hpq
          clear V1
          go_wp2_with (first | ((with_reducible refine wp_region_quiet_below ?_ ?_ ?_); kernel_rfl; kernel_rfl; (repeat (go_big_quiet_step (fail))); refine wpQuiet_nil ?_; intro _ hw'; obtain ⟨⟨dq, osq⟩, hw''⟩ := hw'; subst hw'') | ((with_reducible refine wp_region_tail_below 7 ?_ ?_ ?_); kernel_rfl; kernel_rfl; simp only [List.take_succ_cons, List.take_zero, List.drop_succ_cons, List.drop_zero]; (repeat (go_big_quiet_step (fail))); refine wpQuiet_nil ?_; intro _ hw'; obtain ⟨⟨dq, osq⟩, hw''⟩ := hw'; subst hw''))
          refine ⟨⟨k, T, p, q, _, _, by omega, by omega, rfl, rfl, Lib.hid U2.out.symm, hpq, rfl⟩, by show (((k : Int) - 1) + 1).toNat < ((k : Int) + 1).toNat; omega⟩
      · have RB : bits .and .u64 ((b : Int) / 2 ^ k) 1 = (β : Int) := by
          rw [bit_of b _ h1.lo, bit_lo m b k h1.2 (by omega), ← hβ]
        by_cases hle : y ≤ T
        · obtain ⟨u1, u2⟩ := s1 hle
          have hle2 : (y : Int) ≤ (T : Int) := by omega
          have U1 := Lib.hid u1
          have U2 := Lib.hid u2
          clear s1 s2 u1 u2 hβ hT
          have V1 := U1.out
          obtain ⟨g1, g2, g3⟩ := digit_lo p q _ k (by omega) hpq.lo hpq
          rw [← V1] at g3
          clear V1
          go_wp2_with (first | ((with_reducible refine wp_region_quiet_below ?_ ?_ ?_); kernel_rfl; kernel_rfl; (repeat (go_big_quiet_step (fail))); refine wpQuiet_nil ?_; intro _ hw'; obtain ⟨⟨dq, osq⟩, hw''⟩ := hw'; subst hw'') | ((with_reducible refine wp_region_tail_below 6 ?_ ?_ ?_); kernel_rfl; kernel_rfl; simp only [List.take_succ_cons, List.take_zero, List.drop_succ_cons, List.drop_zero]; (repeat (go_big_quiet_step (fail))); refine wpQuiet_nil ?_; intro _ hw'; obtain ⟨⟨dq, osq⟩, hw''⟩ := hw'; subst hw''))
          rw [show ((q : Int) + 2 ^ k) = ((q + 2 ^ k : Nat) : Int) by simp]
          refine ⟨⟨k, T - y, p, q + 2 ^ k, _, _, by omega, by omega, ret_u (by omega), rfl, Lib.hid U2.out.symm, g3, regrown_regrown _ _ _ _ _⟩, by show (((k : Int) - 1) + 1).toNat < ((k : Int) + 1).toNat; omega⟩
        · obtain ⟨u1, u2⟩ := s2 hle
          have U1 := Lib.hid u1
          have U2 := Lib.hid u2
          clear s1 s2 u1 u2 hβ hT
          have V1 := U1.out
          rw [← digit_none, ← V1] at hpq
          clear V1
          go_wp2_with (first | ((with_reducible refine wp_region_quiet_below ?_ ?_ ?_); kernel_rfl; kernel_rfl; (repeat (go_big_quiet_step (fail))); refine wpQuiet_nil ?_; intro _ hw'; obtain ⟨⟨dq, osq⟩, hw''⟩ := hw'; subst hw'') | ((with_reducible refine wp_region_tail_below 6 ?_ ?_ ?_); kernel_rfl; kernel_rfl; simp only [List.take_succ_cons, List.take_zero, List.drop_succ_cons, List.drop_zero]; (repeat (go_big_quiet_step (fail))); refine wpQuiet_nil ?_; intro _ hw'; obtain ⟨⟨dq, osq⟩, hw''⟩ := hw'; subst hw''))
          refine ⟨⟨k, T, p, q, _, _, by omega, by omega, rfl, rfl, Lib.hid U2.out.symm, hpq, rfl⟩, by show (((k : Int) - 1) + 1).toNat < ((k : Int) + 1).toNat; omega⟩
end Go.Proofs.YtnjgfhgpicmklaaGreat

namespace Go.Proofs.YtnjgfhgpicmklaaGreat
open Go.RowKit Go.Sort
theorem cmpN_abs (x y : Int) : (cmpN x 0 ≠ cmpN y 0 → (cmpN x 0 < cmpN y 0 → cmpN x y = -1) ∧ (¬ cmpN x 0 < cmpN y 0 → cmpN x y = 1)) ∧
    (cmpN x 0 = cmpN y 0 → (cmpN x 0 < 0 → cmpN x y = cmpN (y.natAbs : Int) (x.natAbs : Int)) ∧ (¬ cmpN x 0 < 0 → cmpN x y = cmpN (x.natAbs : Int) (y.natAbs : Int))) := by
  have h1 : cmpN x 0 = if x < 0 then -1 else if 0 < x then 1 else 0 := rfl
  have h2 : cmpN y 0 = if y < 0 then -1 else if 0 < y then 1 else 0 := rfl
  rw [h1, h2]
  unfold cmpN
  refine ⟨fun h => ⟨fun h => ?_, fun h => ?_⟩, fun h => ⟨fun h => ?_, fun h => ?_⟩⟩
  all_goals
    revert h
    (repeat' split) <;> intros <;> omega
set_option maxHeartbeats 4000000 in
theorem rcompare_any (p q r t : Int) (w : World) (p0 : -9223372036854775808 ≤ p) (p1 : p ≤ 9223372036854775807) (q0 : -9223372036854775808 ≤ q) (q1 : q ≤ 9223372036854775807)
    (r0 : -9223372036854775808 ≤ r) (r1 : r ≤ 9223372036854775807) (t0 : -9223372036854775808 ≤ t) (t1 : t ≤ 9223372036854775807) :
    Calls Tryz.prog 142 #[.agg #[.int .i64 p, .int .i64 q], .agg #[.int .i64 r, .int .i64 t]] w fun e w' => e = .returned (.int .i64 (cmpN (p * t) (r * q))) ∧ Below w.heap.size w w' := by
  obtain ⟨a, b, ha⟩ := two_mk (p.natAbs * t.natAbs)
  obtain ⟨c, d, hc⟩ := two_mk (r.natAbs * q.natAbs)
  have P1 := rProduct_any p t a b ha
  have P2 := rProduct_any r q c d hc
  rw [← Int.natAbs_mul] at ha hc
  obtain ⟨x, hx⟩ : ∃ x, x = p * t := ⟨_, rfl⟩
  obtain ⟨y, hy⟩ : ∃ y, y = r * q := ⟨_, rfl⟩
  rw [← hx] at ha P1 ⊢
  rw [← hy] at hc P2 ⊢
  have S1 := rSign_any x a b ha
  have S2 := rSign_any y c d hc
  have L1 := rless_any (decide (x < 0)) (decide (y < 0)) a b c d _ _ ha hc
  have L2 := rless_any (decide (y < 0)) (decide (x < 0)) c d a b _ _ hc ha
  have HC := Lib.hid (cmpN_abs x y)
  obtain ⟨s, hs⟩ : ∃ s, s = cmpN x 0 := ⟨_, rfl⟩
  obtain ⟨u, hu⟩ : ∃ u, u = cmpN y 0 := ⟨_, rfl⟩
  obtain ⟨k, hk⟩ : ∃ k, k = cmpN (x.natAbs : Int) (y.natAbs : Int) := ⟨_, rfl⟩
  obtain ⟨l, hl⟩ : ∃ l, l = cmpN (y.natAbs : Int) (x.natAbs : Int) := ⟨_, rfl⟩
  rw [← hs, ← hu, ← hk, ← hl] at HC
  rw [← hs] at S1
  rw [← hu] at S2
  rw [← hk] at L1
  rw [← hl] at L2
  have P1H := Lib.hid P1
  have P2H := Lib.hid P2
  have S1H := Lib.hid S1
  have S2H := Lib.hid S2
  have L1H := Lib.hid L1
  have L2H := Lib.hid L2
  clear P1 P2 S1 S2 L1 L2 hs hu hk hl ha hc
  obtain ⟨X, hX⟩ : ∃ X, X = decide (x < 0) := ⟨_, rfl⟩
  obtain ⟨Y, hY⟩ : ∃ Y, Y = decide (y < 0) := ⟨_, rfl⟩
  rw [← hX] at P1H S1H L1H L2H
  rw [← hY] at P2H S2H L1H L2H
  clear hX hY hx hy
  cases e1 : (s != u) <;> cases e2 : decide (s < u) <;> cases e3 : decide (s < 0)
  all_goals
    go_enter Tryz.func142, Tryz.ntmps142
    go_wp2_with (first | (go_at_call 181; (with_reducible refine cmono ?_ (P1H.out _ ?_ ?_ ?_ ?_)); rotate_left; omega; omega; omega; omega; rintro e w' ⟨rfl, hbc0⟩; obtain ⟨⟨dc0, osc0⟩, rfl⟩ := regrown_of_below hbc0; clear hbc0) | (go_at_call 181; (with_reducible refine cmono ?_ (P2H.out _ ?_ ?_ ?_ ?_)); rotate_left; omega; omega; omega; omega; rintro e w' ⟨rfl, hbc1⟩; obtain ⟨⟨dc1, osc1⟩, rfl⟩ := regrown_of_below hbc1; clear hbc1) | (go_at_call 182; (with_reducible refine cmono ?_ (S1H.out _)); rotate_left; rintro e w' ⟨rfl, hbc2⟩; obtain ⟨⟨dc2, osc2⟩, rfl⟩ := regrown_of_below hbc2; clear hbc2) | (go_at_call 182; (with_reducible refine cmono ?_ (S2H.out _)); rotate_left; rintro e w' ⟨rfl, hbc3⟩; obtain ⟨⟨dc3, osc3⟩, rfl⟩ := regrown_of_below hbc3; clear hbc3) | (go_at_call 183; (with_reducible refine cmono ?_ (L1H.out _)); rotate_left; rintro e w' ⟨rfl, hbc4⟩; obtain ⟨⟨dc4, osc4⟩, rfl⟩ := regrown_of_below hbc4; clear hbc4) | (go_at_call 183; (with_reducible refine cmono ?_ (L2H.out _)); rotate_left; rintro e w' ⟨rfl, hbc5⟩; obtain ⟨⟨dc5, osc5⟩, rfl⟩ := regrown_of_below hbc5; clear hbc5) | ((with_reducible refine wp_region_quiet_below ?_ ?_ ?_); kernel_rfl; kernel_rfl; (repeat (go_big_quiet_step (first | (go_at_call 181; (with_reducible refine Calls.regrown_of (P1H.out _ ?_ ?_ ?_ ?_)); omega; omega; omega; omega) | (go_at_call 181; (with_reducible refine Calls.regrown_of (P2H.out _ ?_ ?_ ?_ ?_)); omega; omega; omega; omega) | (go_at_call 182; (with_reducible refine Calls.regrown_of (S1H.out _))) | (go_at_call 182; (with_reducible refine Calls.regrown_of (S2H.out _))) | (go_at_call 183; (with_reducible refine Calls.regrown_of (L1H.out _))) | (go_at_call 183; (with_reducible refine Calls.regrown_of (L2H.out _)))))); refine wpQuiet_nil ?_; intro _ hw'; obtain ⟨⟨dq, osq⟩, hw''⟩ := hw'; subst hw'') | ((with_reducible refine wp_region_two 10 5 6 #[.bool false, .int .u64 0, .int .u64 0] #[.bool false, .int .u64 0, .int .u64 0] 245 245 ?_ ?_ ?_ ?_ ?_); kernel_rfl; kernel_rfl; (intro _ _; simp [go_sem]); (intro _ _; simp [go_sem]); simp only [List.take_succ_cons, List.take_zero, List.drop_succ_cons, List.drop_zero]; (repeat (refine wpS_step (fun K hK => ?_); go_simp; first | (refine hK _ ?_; clear hK K) | (apply Exists.intro; refine ⟨fun _ => ?_, hK _ ?_⟩; (first | (go_at_call 181; (with_reducible refine kept_of (P1H.out _ ?_ ?_ ?_ ?_)); omega; omega; omega; omega) | (go_at_call 181; (with_reducible refine kept_of (P2H.out _ ?_ ?_ ?_ ?_)); omega; omega; omega; omega) | (go_at_call 182; (with_reducible refine kept_of (S1H.out _))) | (go_at_call 182; (with_reducible refine kept_of (S2H.out _))) | (go_at_call 183; (with_reducible refine kept_of (L1H.out _))) | (go_at_call 183; (with_reducible refine kept_of (L2H.out _)))); clear hK K))); refine wpS_nil ?_; refine ⟨?_, ?_⟩ <;> rintro ⟨dp, op⟩ ⟨dq, oq⟩ ⟨dr, og⟩))
    all_goals go_ret
    all_goals refine ⟨ret_int ?_, (by repeat (first | exact Below.refl _ _ | refine below_reg ?_ _ _ | refine below_alloc ?_ _ | exact below_drewN ?_ _ | assumption))⟩
    all_goals have hh := HC.out
    all_goals simp only [bne_iff_ne, bne_eq_false_iff_eq, decide_eq_true_eq, decide_eq_false_iff_not, ne_eq] at e1 e2 e3
    all_goals first
    | exact ((hh.1 (by omega)).1 (by omega)).symm
    | exact ((hh.1 (by omega)).2 (by omega)).symm
    | exact ((hh.2 (by omega)).1 (by omega)).symm
    | exact ((hh.2 (by omega)).2 (by omega)).symm
end Go.Proofs.YtnjgfhgpicmklaaGreat

namespace Go.Proofs.YtnjgfhgpicmklaaGreat
open Go.RowKit
def qv (n d : Int) : Rat := mkRat n d.toNat
theorem chk_iff (n d : Int) : chk n d = 0 ↔ 1 ≤ d ∧ n ≠ -9223372036854775808 ∧ n.natAbs.Coprime d.toNat := by
  unfold chk Nat.Coprime
  rw [Nat.gcd_comm n.natAbs]
  have hg : 1 ≤ d → 0 < Nat.gcd d.toNat n.natAbs := fun h => Nat.gcd_pos_of_pos_left _ (by omega)
  split
  · rename_i h
    constructor
    · intro h'; omega
    · rintro ⟨h1, h2, h3⟩; exfalso; omega
  · rename_i h
    have h1 : 1 ≤ d := by omega
    have := hg h1
    exact ⟨fun _ => ⟨h1, by omega, by omega⟩, fun _ => rfl⟩
theorem qv_num {n d : Int} (h : chk n d = 0) : (qv n d).num = n := by
  obtain ⟨h1, _, h3⟩ := (chk_iff n d).1 h
  unfold qv
  rw [Rat.num_mkRat, if_neg (by omega), Nat.gcd_comm, show Nat.gcd n.natAbs d.toNat = 1 from h3]
  simp
theorem qv_den {n d : Int} (h : chk n d = 0) : ((qv n d).den : Int) = d := by
  obtain ⟨h1, _, h3⟩ := (chk_iff n d).1 h
  unfold qv
  rw [Rat.den_mkRat, if_neg (by omega), Nat.gcd_comm, show Nat.gcd n.natAbs d.toNat = 1 from h3]
  omega
theorem qv_den' {n d : Int} (h : chk n d = 0) : (qv n d).den = d.toNat := by have := qv_den h; omega
def outQ (q : Rat) : Int × Int × Int := if q.num.natAbs ≤ 9223372036854775807 ∧ q.den ≤ 9223372036854775807 then (q.num, q.den, 0) else (0, 0, 16)
theorem build_q (neg : Bool) (m d : Nat) (q : Rat) (hd : d = q.den) (hm : m = q.num.natAbs) (hs : q.num ≠ 0 → neg = decide (q.num < 0)) : buildN neg m d = outQ q := by
  unfold buildN outQ
  subst hd hm
  split
  · have : (if neg = true then -(q.num.natAbs : Int) else (q.num.natAbs : Int)) = q.num := by
      by_cases h0 : q.num = 0
      · rw [h0]; simp
      · rw [hs h0]
        by_cases hn : q.num < 0
        · rw [decide_eq_true hn, if_pos rfl]; omega
        · rw [decide_eq_false hn, if_neg (by simp)]; omega
    rw [this]
  · rfl
theorem plus_rep (p r : Int) (x y : Nat) : plusM (decide (p < 0)) (decide (r < 0)) (p.natAbs * x) (r.natAbs * y) = (p * x + r * y).natAbs ∧
    (p * x + r * y ≠ 0 → plusS (decide (p < 0)) (decide (r < 0)) (p.natAbs * x) (r.natAbs * y) = decide (p * x + r * y < 0)) := by
  have e1 : p.natAbs * x = (p * x).natAbs := by rw [Int.natAbs_mul, Int.natAbs_natCast]
  have e2 : r.natAbs * y = (r * y).natAbs := by rw [Int.natAbs_mul, Int.natAbs_natCast]
  have s1 : p * x < 0 → p < 0 := fun h => by
    rcases (show p < 0 ∨ 0 ≤ p by omega) with h' | h'
    · exact h'
    · have := Int.mul_nonneg h' (show (0 : Int) ≤ x by omega); omega
  have s2 : r * y < 0 → r < 0 := fun h => by
    rcases (show r < 0 ∨ 0 ≤ r by omega) with h' | h'
    · exact h'
    · have := Int.mul_nonneg h' (show (0 : Int) ≤ y by omega); omega
  have t1 : 0 < p * x → ¬ p < 0 := fun h h' => by
    have := Int.mul_nonpos_of_nonpos_of_nonneg (show p ≤ 0 by omega) (show (0 : Int) ≤ x by omega); omega
  have t2 : 0 < r * y → ¬ r < 0 := fun h h' => by
    have := Int.mul_nonpos_of_nonpos_of_nonneg (show r ≤ 0 by omega) (show (0 : Int) ≤ y by omega); omega
  rw [e1, e2]
  generalize p * (x : Int) = X at *
  generalize r * (y : Int) = Y at *
  unfold plusM plusS
  by_cases hp : p < 0 <;> by_cases hr : r < 0
  all_goals
    simp only [hp, hr, decide_true, decide_false, if_true, reduceIte, Bool.false_eq_true, Bool.true_eq_false]
    simp only [hp, hr, imp_false, not_true_eq_false, not_false_eq_true, implies_true] at s1 s2 t1 t2
    refine ⟨?_, fun hne => ?_⟩
  all_goals (repeat' split)
  all_goals first | omega | (symm; rw [decide_eq_true_eq]; omega) | (symm; rw [decide_eq_false_iff_not]; omega)
theorem addR_q {p q r t : Int} (h1 : chk p q = 0) (h2 : chk r t = 0) : addR p q.toNat r t.toNat = outQ (qv p q + qv r t) := by
  obtain ⟨a1, a2, a3⟩ := (chk_iff p q).1 h1
  obtain ⟨b1, b2, b3⟩ := (chk_iff r t).1 h2
  have haux := Rat.add.aux (qv p q) (qv r t) rfl rfl rfl
  have hsum := Rat.add_def' (qv p q) (qv r t)
  rw [qv_num h1, qv_num h2, qv_den' h1, qv_den' h2] at haux hsum
  obtain ⟨Q, hQ⟩ : ∃ Q, Q = q.toNat := ⟨_, rfl⟩
  obtain ⟨T, hT⟩ : ∃ T, T = t.toNat := ⟨_, rfl⟩
  rw [← hQ, ← hT] at haux hsum ⊢
  have q0 : 0 < Q := by omega
  have t0 : 0 < T := by omega
  unfold addR
  obtain ⟨c1, c2⟩ := plus_rep p r (T / Nat.gcd Q T) (Q / Nat.gcd Q T)
  rw [c1]
  have g0 : 0 < Nat.gcd Q T := Nat.gcd_pos_of_pos_left _ q0
  have gq : Nat.gcd Q T ∣ Q := Nat.gcd_dvd_left _ _
  have gt : Nat.gcd Q T ∣ T := Nat.gcd_dvd_right _ _
  generalize Nat.gcd Q T = g at *
  obtain ⟨y, rfl⟩ := gq
  obtain ⟨x, rfl⟩ := gt
  rw [Nat.mul_div_cancel_left _ g0, Nat.mul_div_cancel_left _ g0] at *
  have e : qv p q + qv r t = mkRat (p * x + r * y) (y * (g * x)) := by
    rw [hsum]
    have n1 : p * ((g * x : Nat) : Int) + r * ((g * y : Nat) : Int) = (p * x + r * y) * (g : Int) := by
      rw [Int.natCast_mul, Int.natCast_mul, Int.add_mul, Int.mul_left_comm, Int.mul_comm (g : Int), Int.mul_left_comm r, Int.mul_comm (g : Int)]
    have n2 : g * y * (g * x) = y * (g * x) * g := by
      rw [Nat.mul_comm g y, Nat.mul_assoc, Nat.mul_assoc, Nat.mul_comm g (g * x)]
    rw [n1, n2]
    exact Rat.mkRat_mul_right (by omega)
  generalize hN : p * (x : Int) + r * (y : Int) = N at *
  have hh : Nat.gcd g (N.natAbs % g) = Nat.gcd (y * (g * x)) N.natAbs := by
    rw [Nat.gcd_comm (y * (g * x)), ← haux, Nat.gcd_comm N.natAbs g, Nat.gcd_rec g N.natAbs, Nat.gcd_comm]
  have hd0 : y * (g * x) ≠ 0 := by
    intro h0
    rcases Nat.mul_eq_zero.1 h0 with h0 | h0
    · subst h0; simp at q0
    · omega
  have dg : Nat.gcd g (N.natAbs % g) ∣ g := Nat.gcd_dvd_left _ _
  refine build_q _ _ _ _ ?_ ?_ ?_
  · rw [e, Rat.den_mkRat, if_neg hd0, ← hh]
    exact (Nat.mul_div_assoc _ (Nat.dvd_trans dg (Nat.dvd_mul_right _ _))).symm
  · rw [e, Rat.num_mkRat, if_neg hd0, ← hh]
    rw [Int.natAbs_ediv_of_dvd]
    · simp
    · rw [hh, ← Int.dvd_natAbs, Int.ofNat_dvd]
      exact Nat.gcd_dvd_right _ _
  · rw [e, Rat.num_mkRat, if_neg hd0, ← hh]
    have hdv : ((Nat.gcd g (N.natAbs % g) : Nat) : Int) ∣ N := by
      rw [hh, ← Int.dvd_natAbs, Int.ofNat_dvd]
      exact Nat.gcd_dvd_right _ _
    have hpos : (0 : Int) < (Nat.gcd g (N.natAbs % g) : Nat) := by
      have := Nat.gcd_pos_of_pos_left (N.natAbs % g) g0
      omega
    intro hne
    obtain ⟨k, hk⟩ := hdv
    generalize ((Nat.gcd g (N.natAbs % g) : Nat) : Int) = G at *
    subst hk
    rw [Int.mul_ediv_cancel_left _ (by omega)] at hne ⊢
    rw [c2 (by intro h0; rcases Int.mul_eq_zero.1 h0 with h0 | h0 <;> omega)]
    have : G * k < 0 ↔ k < 0 := by
      constructor
      · intro h
        rcases (show k < 0 ∨ 0 ≤ k by omega) with h' | h'
        · exact h'
        · have := Int.mul_nonneg (Int.le_of_lt hpos) h'; omega
      · intro h
        exact Int.mul_neg_of_pos_of_neg hpos h
    rw [decide_eq_decide]
    exact this
theorem tdiv_gcd (n : Int) (k : Nat) : n.tdiv (Nat.gcd n.natAbs k : Nat) = n / (Nat.gcd n.natAbs k : Nat) := by
  refine Int.tdiv_eq_ediv_of_dvd ?_
  rw [← Int.dvd_natAbs, Int.ofNat_dvd]
  exact Nat.gcd_dvd_left _ _
theorem rat_mul_parts (a b : Rat) : (a * b).num = a.num.tdiv (Nat.gcd a.num.natAbs b.den) * b.num.tdiv (Nat.gcd b.num.natAbs a.den) ∧ (a * b).den = a.den / Nat.gcd b.num.natAbs a.den * (b.den / Nat.gcd a.num.natAbs b.den) := by
  have h : a * b = Rat.mul a b := rfl
  rw [h]
  unfold Rat.mul
  rw [tdiv_gcd, tdiv_gcd]
  constructor <;> simp
theorem mulR_q {p q r t : Int} (h1 : chk p q = 0) (h2 : chk r t = 0) : mulR p q.toNat r t.toNat = outQ (qv p q * qv r t) := by
  obtain ⟨m1, m2⟩ := rat_mul_parts (qv p q) (qv r t)
  rw [qv_num h1, qv_num h2, qv_den' h1, qv_den' h2] at m1 m2
  obtain ⟨a1, a2, a3⟩ := (chk_iff p q).1 h1
  obtain ⟨b1, b2, b3⟩ := (chk_iff r t).1 h2
  unfold mulR
  rw [Nat.gcd_comm t.toNat, Nat.gcd_comm q.toNat]
  refine build_q _ _ _ _ ?_ ?_ ?_
  · rw [m2]
  · rw [m1, Int.natAbs_mul]
  · rw [m1]
    generalize p.tdiv (Nat.gcd p.natAbs t.toNat : Nat) = X
    generalize r.tdiv (Nat.gcd r.natAbs q.toNat : Nat) = Y
    intro hne
    rcases Int.lt_trichotomy X 0 with hx | hx | hx <;> rcases Int.lt_trichotomy Y 0 with hy | hy | hy
    · have := Int.mul_pos_of_neg_of_neg hx hy
      rw [decide_eq_true hx, decide_eq_true hy, decide_eq_false (by omega)]; rfl
    · subst hy; simp at hne
    · have := Int.mul_neg_of_neg_of_pos hx hy
      rw [decide_eq_true hx, decide_eq_false (show ¬ Y < 0 by omega), decide_eq_true this]; rfl
    · subst hx; simp at hne
    · subst hx; simp at hne
    · subst hx; simp at hne
    · have := Int.mul_neg_of_pos_of_neg hx hy
      rw [decide_eq_false (show ¬ X < 0 by omega), decide_eq_true hy, decide_eq_true this]; rfl
    · subst hy; simp at hne
    · have := Int.mul_pos hx hy
      rw [decide_eq_false (show ¬ X < 0 by omega), decide_eq_false (show ¬ Y < 0 by omega), decide_eq_false (by omega)]; rfl
theorem addV_q {p q r t : Int} (h1 : chk p q = 0) (h2 : chk r t = 0) : addV p q r t = outQ (qv p q + qv r t) := by
  unfold addV
  rw [if_pos (by unfold bth; rw [if_pos h1, h2]), addR_q h1 h2]
theorem mulV_q {p q r t : Int} (h1 : chk p q = 0) (h2 : chk r t = 0) : mulV p q r t = outQ (qv p q * qv r t) := by
  unfold mulV
  rw [if_pos (by unfold bth; rw [if_pos h1, h2]), mulR_q h1 h2]
theorem chk_neg {r t : Int} (h : chk r t = 0) (hr : r ≤ 9223372036854775807) : chk (-r) t = 0 := by
  obtain ⟨b1, b2, b3⟩ := (chk_iff r t).1 h
  exact (chk_iff _ _).2 ⟨b1, by omega, by rw [Int.natAbs_neg]; exact b3⟩
theorem qv_neg (r t : Int) : qv (-r) t = -qv r t := by unfold qv; rw [Rat.neg_mkRat]
theorem subV_q {p q r t : Int} (h1 : chk p q = 0) (h2 : chk r t = 0) (hr : r ≤ 9223372036854775807) : subV p q r t = outQ (qv p q - qv r t) := by
  unfold subV
  rw [if_pos (by unfold bth; rw [if_pos h1, h2]), addV_q h1 (chk_neg h2 hr), qv_neg, Rat.sub_eq_add_neg]
theorem outQ_ok {q : Rat} (h : (outQ q).2.2 = 0) : outQ q = (q.num, (q.den : Int), 0) ∧ q.num.natAbs ≤ 9223372036854775807 ∧ q.den ≤ 9223372036854775807 := by
  unfold outQ at *
  split at h
  · rename_i hc
    rw [if_pos hc]
    exact ⟨rfl, hc⟩
  · exact absurd h (by decide)
theorem outQ_err (q : Rat) : (outQ q).2.2 = 0 ∨ outQ q = (0, 0, 16) := by
  unfold outQ
  split
  · exact .inl rfl
  · exact .inr rfl
theorem chk_rat (q : Rat) (h : q.num.natAbs ≤ 9223372036854775807) : chk q.num q.den = 0 :=
  (chk_iff _ _).2 ⟨by have := q.den_pos; omega, by omega, by rw [Int.toNat_natCast]; exact q.reduced⟩
theorem qv_rat (q : Rat) : qv q.num q.den = q := by unfold qv; rw [Int.toNat_natCast, Rat.mkRat_self]
end Go.Proofs.YtnjgfhgpicmklaaGreat
