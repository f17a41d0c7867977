

/- What the reference of layer 1 computes with numbers of 128 bits, second part, step by step (walks): Sign, Plus. -/
import Derived.Test.YtffamgiknfphaaaRatH
namespace Go.Proofs.Ytffamgiknfphaaa
open Go.RowKit Go.Sort
set_option linter.unusedVariables false

theorem rSign_any (x : Int) (hi lo : Nat) (h : Two hi lo x.natAbs) (w : World) :
    Calls Try.prog 46 #[.agg #[.bool (decide (x < 0)), .int .u64 hi, .int .u64 lo]] w fun en w' => en = .returned (.int .i64 (cmpN x 0)) ∧ Below w.heap.size w w' := by
  have e := h.eq
  have hz : (hi = 0 ∧ lo = 0) ↔ x = 0 := by
    constructor
    · rintro ⟨rfl, rfl⟩; simp at e; omega
    · rintro rfl
      obtain ⟨e1, e2⟩ := h
      simp at e1 e2; exact ⟨e1, e2⟩
  obtain ⟨k, hk⟩ : ∃ k, k = cmpN x 0 := ⟨_, rfl⟩
  rw [← hk]
  have HK := Lib.hid hk
  have HZ := Lib.hid hz
  clear e h hk hz
  cases hs : decide (x < 0) <;> cases h1 : ((hi : Int) == 0) <;> cases h2 : ((lo : Int) == 0)
  all_goals
    go_enter Try.func46, Try.ntmps46
    go_wp2_with (first | ((with_reducible refine wp_region_quiet_below ?_ ?_ ?_); kernel_rfl; kernel_rfl; (repeat (go_big_quiet_step (fail))); refine wpQuiet_nil ?_; intro _ hw'; obtain ⟨⟨dq, osq⟩, hw''⟩ := hw'; subst hw''))
    go_ret
    refine ⟨ret_int ?_, (by repeat (first | exact Below.refl _ _ | refine below_reg ?_ _ _ | refine below_alloc ?_ _ | exact below_drewN ?_ _ | assumption))⟩
    rw [HK.out]
    have hz := HZ.out
    simp only [beq_iff_eq, beq_eq_false_iff_ne, decide_eq_true_eq, decide_eq_false_iff_not, ne_eq] at h1 h2 hs
    unfold cmpN
    (repeat' split) <;> first | rfl | omega | (exfalso; omega)

set_option maxHeartbeats 8000000 in
theorem rPlus_any (x y : Int) (a b c d hi lo : Nat) (h1 : Two a b x.natAbs) (h2 : Two c d y.natAbs) (h : Two hi lo (x + y).natAbs) (hx : x.natAbs < 9223372036854775807 * 18446744073709551616) (hy : y.natAbs < 9223372036854775807 * 18446744073709551616) (w : World) :
    Calls Try.prog 39 #[.agg #[.bool (decide (x < 0)), .int .u64 a, .int .u64 b], .agg #[.bool (decide (y < 0)), .int .u64 c, .int .u64 d]] w fun en w' => en = .returned (.agg #[.bool (decide (x + y < 0)), .int .u64 hi, .int .u64 lo]) ∧ Below w.heap.size w w' := by
  by_cases hs : decide (x < 0) = decide (y < 0)
  · have l1 := h1.lo
    have l2 := h2.lo
    have u1 := h1.hi _ hx
    have u2 := h2.hi _ hy
    have hsum : (x + y).natAbs = x.natAbs + y.natAbs := by
      rcases Bool.eq_false_or_eq_true (decide (x < 0)) with hb | hb <;> rw [hb] at hs <;> simp at hb hs <;> omega
    have hsg : decide (x + y < 0) = decide (x < 0) := by
      rcases Bool.eq_false_or_eq_true (decide (x < 0)) with hb | hb <;> rw [hb] at hs ⊢ <;> simp at hb hs ⊢ <;> omega
    have e1 := h1.eq
    have e2 := h2.eq
    obtain ⟨r1, r2⟩ := h
    rw [hsum, ← e1, ← e2] at r1 r2
    rw [hsg, ← hs]
    obtain ⟨s, hsd⟩ : ∃ s, s = decide (x < 0) := ⟨_, rfl⟩
    rw [← hsd]
    by_cases hc : b + d < 18446744073709551616
    · obtain ⟨v1, v2⟩ := add_plain 18446744073709551616 a b c d hc
      rw [v1] at r1
      rw [v2] at r2
      have R1 : (a : Int) + (c : Int) = (hi : Int) := by omega
      have R2 : (b : Int) + (d : Int) = (lo : Int) := by omega
      have hlt : ¬ (lo : Int) < (b : Int) := by omega
      have hlo : lo < 18446744073709551616 := by omega
      have hhi : hi < 18446744073709551616 := by omega
      clear e1 e2 h1 h2 hx hy r1 r2 v1 v2 hsum hsg hs hsd
      go_enter Try.func39, Try.ntmps39
      go_wp2_with (first | ((with_reducible refine wp_region_quiet_below ?_ ?_ ?_); kernel_rfl; kernel_rfl; (repeat (go_big_quiet_step (fail))); refine wpQuiet_nil ?_; intro _ hw'; obtain ⟨⟨dq, osq⟩, hw''⟩ := hw'; subst hw''))
      refine bodyPost_ret (v := .agg #[.bool s, .int .u64 (hi : Nat), .int .u64 (lo : Nat)]) (by simp [results, Try.results39, go_sem]) rfl ⟨rfl, (by repeat (first | exact Below.refl _ _ | refine below_reg ?_ _ _ | refine below_alloc ?_ _ | exact below_drewN ?_ _ | assumption))⟩
    · obtain ⟨v1, v2⟩ := add_carry 18446744073709551616 a b c d l1 l2 (by omega)
      rw [v1] at r1
      rw [v2] at r2
      have R1 : (a : Int) + (c : Int) + 1 = (hi : Int) := by omega
      have R2 : IntKind.u64.wrap ((b : Int) + (d : Int)) = (lo : Int) := by rw [IntKind.wrap_u64]; omega
      have hlt : (lo : Int) < (b : Int) := by omega
      have hlo : lo < 18446744073709551616 := by omega
      have hhi : hi < 18446744073709551616 := by omega
      clear e1 e2 h1 h2 hx hy r1 r2 v1 v2 hsum hsg hs hsd
      go_enter Try.func39, Try.ntmps39
      go_wp2_with (first | ((with_reducible refine wp_region_quiet_below ?_ ?_ ?_); kernel_rfl; kernel_rfl; (repeat (go_big_quiet_step (fail))); refine wpQuiet_nil ?_; intro _ hw'; obtain ⟨⟨dq, osq⟩, hw''⟩ := hw'; subst hw''))
      refine bodyPost_ret (v := .agg #[.bool s, .int .u64 (hi : Nat), .int .u64 (lo : Nat)]) (by simp [results, Try.results39, go_sem]) rfl ⟨rfl, (by repeat (first | exact Below.refl _ _ | refine below_reg ?_ _ _ | refine below_alloc ?_ _ | exact below_drewN ?_ _ | assumption))⟩
  · have hsb : (decide (x < 0) == decide (y < 0)) = false := by simpa using hs
    have hlim : (x + y).natAbs < 9223372036854775807 * 18446744073709551616 := by
      rcases Bool.eq_false_or_eq_true (decide (x < 0)) with hb | hb <;> rcases Bool.eq_false_or_eq_true (decide (y < 0)) with hb2 | hb2 <;> rw [hb, hb2] at hs <;> simp at hb hb2 hs <;> omega
    by_cases hge : y.natAbs ≤ x.natAbs
    · have hsum : (x + y).natAbs = x.natAbs - y.natAbs := by
        rcases Bool.eq_false_or_eq_true (decide (x < 0)) with hb | hb <;> rcases Bool.eq_false_or_eq_true (decide (y < 0)) with hb2 | hb2 <;> rw [hb, hb2] at hs <;> simp at hb hb2 hs <;> omega
      have HC := rless_any (decide (x < 0)) (decide (y < 0)) a b c d _ _ h1 h2
      obtain ⟨k, hk⟩ : ∃ k, k = cmpN ((x.natAbs : Nat) : Int) ((y.natAbs : Nat) : Int) := ⟨_, rfl⟩
      rw [← hk] at HC
      have hk0 : 0 ≤ k := by rw [hk]; unfold cmpN; (repeat' split) <;> omega
      have HCH := Lib.hid HC
      rw [hsum] at h
      have HM := Lib.hid (rminus_any (decide (x < 0)) (decide (y < 0)) a b c d hi lo _ _ h1 h2 h hge hx)
      have e := h.eq
      have hz : (hi = 0 ∧ lo = 0) ↔ x + y = 0 := by
        rw [← hsum] at e
        constructor
        · rintro ⟨rfl, rfl⟩; simp at e; omega
        · intro h0
          obtain ⟨e1, e2⟩ := h
          rw [← hsum, h0] at e1 e2
          simp at e1 e2; exact ⟨e1, e2⟩
      have hsg : decide (x + y < 0) = (decide (x < 0) && (decide (0 < (hi : Int)) || decide (0 < (lo : Int)))) := by
        rcases Bool.eq_false_or_eq_true (decide (x < 0)) with hb | hb <;> rcases Bool.eq_false_or_eq_true (decide (y < 0)) with hb2 | hb2 <;> rw [hb, hb2] at hs <;> simp at hb hb2 hs
        · rw [decide_eq_true hb, Bool.true_and, ← Bool.decide_or, decide_eq_decide]
          omega
        · rw [decide_eq_false (show ¬ x < 0 by omega), Bool.false_and, decide_eq_false_iff_not]
          omega
      rw [hsg]
      clear HC hk h1 h2 h hx hy hlim hge e hz hsg hsum
      obtain ⟨s, hsd⟩ : ∃ s, s = decide (x < 0) := ⟨_, rfl⟩
      obtain ⟨s', hsd'⟩ : ∃ s', s' = decide (y < 0) := ⟨_, rfl⟩
      rw [← hsd] at hsb HCH HM ⊢
      rw [← hsd'] at hsb HCH HM ⊢
      clear hsd hsd' hs
      cases s <;> cases s' <;> first | (exfalso; simp at hsb; done) | skip
      all_goals cases hh : decide (0 < (hi : Int)) <;> cases hl : decide (0 < (lo : Int))
      all_goals
        have hh' : decide (0 < hi) = decide (0 < (hi : Int)) := by simp
        have hl' : decide (0 < lo) = decide (0 < (lo : Int)) := by simp
        rw [hh] at hh'
        rw [hl] at hl'
        go_enter Try.func39, Try.ntmps39
        go_wp2_with (first | (go_at_call 47; (with_reducible refine cmono ?_ (HCH.out _)); rotate_left; rintro e w' ⟨rfl, hbc0⟩; obtain ⟨⟨dc0, osc0⟩, rfl⟩ := regrown_of_below hbc0; clear hbc0) | (go_at_call 63; (with_reducible refine cmono ?_ (HM.out _)); rotate_left; rintro e w' ⟨rfl, hbc1⟩; obtain ⟨⟨dc1, osc1⟩, rfl⟩ := regrown_of_below hbc1; clear hbc1) | ((with_reducible refine wp_region_quiet_below ?_ ?_ ?_); kernel_rfl; kernel_rfl; (repeat (go_big_quiet_step (first | (go_at_call 47; (with_reducible refine Calls.regrown_of (HCH.out _))) | (go_at_call 63; (with_reducible refine Calls.regrown_of (HM.out _)))))); refine wpQuiet_nil ?_; intro _ hw'; obtain ⟨⟨dq, osq⟩, hw''⟩ := hw'; subst hw''))
        first
          | refine bodyPost_ret (v := .agg #[.bool true, .int .u64 (hi : Nat), .int .u64 (lo : Nat)]) (by simp [results, Try.results39, go_sem]) rfl ⟨rfl, (by repeat (first | exact Below.refl _ _ | refine below_reg ?_ _ _ | refine below_alloc ?_ _ | exact below_drewN ?_ _ | assumption))⟩
          | refine bodyPost_ret (v := .agg #[.bool false, .int .u64 (hi : Nat), .int .u64 (lo : Nat)]) (by simp [results, Try.results39, go_sem]) rfl ⟨rfl, (by repeat (first | exact Below.refl _ _ | refine below_reg ?_ _ _ | refine below_alloc ?_ _ | exact below_drewN ?_ _ | assumption))⟩
    · have hsum : (x + y).natAbs = y.natAbs - x.natAbs := by
        rcases Bool.eq_false_or_eq_true (decide (x < 0)) with hb | hb <;> rcases Bool.eq_false_or_eq_true (decide (y < 0)) with hb2 | hb2 <;> rw [hb, hb2] at hs <;> simp at hb hb2 hs <;> omega
      have HC := rless_any (decide (x < 0)) (decide (y < 0)) a b c d _ _ h1 h2
      obtain ⟨k, hk⟩ : ∃ k, k = cmpN ((x.natAbs : Nat) : Int) ((y.natAbs : Nat) : Int) := ⟨_, rfl⟩
      rw [← hk] at HC
      have hk0 : k < 0 := by rw [hk]; unfold cmpN; (repeat' split) <;> omega
      have HCH := Lib.hid HC
      rw [hsum] at h
      have HM := Lib.hid (rminus_any (decide (y < 0)) (decide (x < 0)) c d a b hi lo _ _ h2 h1 h (by omega) hy)
      have hsg : decide (x + y < 0) = decide (y < 0) := by
        rcases Bool.eq_false_or_eq_true (decide (x < 0)) with hb | hb <;> rcases Bool.eq_false_or_eq_true (decide (y < 0)) with hb2 | hb2 <;> rw [hb, hb2] at hs <;> simp at hb hb2 hs <;> rw [decide_eq_decide] <;> omega
      rw [hsg]
      clear HC hk h1 h2 h hx hy hlim hge hsg hsum
      obtain ⟨s, hsd⟩ : ∃ s, s = decide (x < 0) := ⟨_, rfl⟩
      obtain ⟨s', hsd'⟩ : ∃ s', s' = decide (y < 0) := ⟨_, rfl⟩
      rw [← hsd] at hsb HCH HM ⊢
      rw [← hsd'] at hsb HCH HM ⊢
      clear hsd hsd' hs
      cases s <;> cases s' <;> first | (exfalso; simp at hsb; done) | skip
      all_goals
        go_enter Try.func39, Try.ntmps39
        go_wp2_with (first | (go_at_call 47; (with_reducible refine cmono ?_ (HCH.out _)); rotate_left; rintro e w' ⟨rfl, hbc0⟩; obtain ⟨⟨dc0, osc0⟩, rfl⟩ := regrown_of_below hbc0; clear hbc0) | (go_at_call 63; (with_reducible refine cmono ?_ (HM.out _)); rotate_left; rintro e w' ⟨rfl, hbc1⟩; obtain ⟨⟨dc1, osc1⟩, rfl⟩ := regrown_of_below hbc1; clear hbc1) | ((with_reducible refine wp_region_quiet_below ?_ ?_ ?_); kernel_rfl; kernel_rfl; (repeat (go_big_quiet_step (first | (go_at_call 47; (with_reducible refine Calls.regrown_of (HCH.out _))) | (go_at_call 63; (with_reducible refine Calls.regrown_of (HM.out _)))))); refine wpQuiet_nil ?_; intro _ hw'; obtain ⟨⟨dq, osq⟩, hw''⟩ := hw'; subst hw''))
        first
          | refine bodyPost_ret (v := .agg #[.bool true, .int .u64 (hi : Nat), .int .u64 (lo : Nat)]) (by simp [results, Try.results39, go_sem]) rfl ⟨rfl, (by repeat (first | exact Below.refl _ _ | refine below_reg ?_ _ _ | refine below_alloc ?_ _ | exact below_drewN ?_ _ | assumption))⟩
          | refine bodyPost_ret (v := .agg #[.bool false, .int .u64 (hi : Nat), .int .u64 (lo : Nat)]) (by simp [results, Try.results39, go_sem]) rfl ⟨rfl, (by repeat (first | exact Below.refl _ _ | refine below_reg ?_ _ _ | refine below_alloc ?_ _ | exact below_drewN ?_ _ | assumption))⟩

end Go.Proofs.Ytffamgiknfphaaa
