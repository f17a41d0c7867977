

/- What Compare, Cmp of the reference of layer 1 compute, step by step (walks). -/
import Derived.Test.YtffamgiknfphaaaRatJ
import Derived.Test.YtffamgiknfphaaaRatG
import Derived.Test.YtffamgiknfphaaaRatF
namespace Go.Proofs.Ytffamgiknfphaaa
open Go.RowKit Go.Sort
set_option linter.unusedVariables false

theorem cmpN_abs (x y : Int) : (cmpN x 0 ≠ cmpN y 0 → (cmpN x 0 < cmpN y 0 → cmpN x y = -1) ∧ (¬ cmpN x 0 < cmpN y 0 → cmpN x y = 1)) ∧
    (cmpN x 0 = cmpN y 0 → (cmpN x 0 < 0 → cmpN x y = cmpN (y.natAbs : Int) (x.natAbs : Int)) ∧ (¬ cmpN x 0 < 0 → cmpN x y = cmpN (x.natAbs : Int) (y.natAbs : Int))) := by
  have h1 : cmpN x 0 = if x < 0 then -1 else if 0 < x then 1 else 0 := rfl
  have h2 : cmpN y 0 = if y < 0 then -1 else if 0 < y then 1 else 0 := rfl
  rw [h1, h2]
  unfold cmpN
  refine ⟨fun h => ⟨fun h => ?_, fun h => ?_⟩, fun h => ⟨fun h => ?_, fun h => ?_⟩⟩
  all_goals
    revert h
    (repeat' split) <;> intros <;> omega

set_option maxHeartbeats 4000000 in
theorem rcompare_any (p q r t : Int) (w : World) (p0 : -9223372036854775808 ≤ p) (p1 : p ≤ 9223372036854775807) (q0 : -9223372036854775808 ≤ q) (q1 : q ≤ 9223372036854775807)
    (r0 : -9223372036854775808 ≤ r) (r1 : r ≤ 9223372036854775807) (t0 : -9223372036854775808 ≤ t) (t1 : t ≤ 9223372036854775807) :
    Calls Try.prog 25 #[.agg #[.int .i64 p, .int .i64 q], .agg #[.int .i64 r, .int .i64 t]] w fun e w' => e = .returned (.int .i64 (cmpN (p * t) (r * q))) ∧ Below w.heap.size w w' := by
  obtain ⟨a, b, ha⟩ := two_mk (p.natAbs * t.natAbs)
  obtain ⟨c, d, hc⟩ := two_mk (r.natAbs * q.natAbs)
  have P1 := rProduct_any p t a b ha
  have P2 := rProduct_any r q c d hc
  rw [← Int.natAbs_mul] at ha hc
  obtain ⟨x, hx⟩ : ∃ x, x = p * t := ⟨_, rfl⟩
  obtain ⟨y, hy⟩ : ∃ y, y = r * q := ⟨_, rfl⟩
  rw [← hx] at ha P1 ⊢
  rw [← hy] at hc P2 ⊢
  have S1 := rSign_any x a b ha
  have S2 := rSign_any y c d hc
  have L1 := rless_any (decide (x < 0)) (decide (y < 0)) a b c d _ _ ha hc
  have L2 := rless_any (decide (y < 0)) (decide (x < 0)) c d a b _ _ hc ha
  have HC := Lib.hid (cmpN_abs x y)
  obtain ⟨s, hs⟩ : ∃ s, s = cmpN x 0 := ⟨_, rfl⟩
  obtain ⟨u, hu⟩ : ∃ u, u = cmpN y 0 := ⟨_, rfl⟩
  obtain ⟨k, hk⟩ : ∃ k, k = cmpN (x.natAbs : Int) (y.natAbs : Int) := ⟨_, rfl⟩
  obtain ⟨l, hl⟩ : ∃ l, l = cmpN (y.natAbs : Int) (x.natAbs : Int) := ⟨_, rfl⟩
  rw [← hs, ← hu, ← hk, ← hl] at HC
  rw [← hs] at S1
  rw [← hu] at S2
  rw [← hk] at L1
  rw [← hl] at L2
  have P1H := Lib.hid P1
  have P2H := Lib.hid P2
  have S1H := Lib.hid S1
  have S2H := Lib.hid S2
  have L1H := Lib.hid L1
  have L2H := Lib.hid L2
  clear P1 P2 S1 S2 L1 L2 hs hu hk hl ha hc
  obtain ⟨X, hX⟩ : ∃ X, X = decide (x < 0) := ⟨_, rfl⟩
  obtain ⟨Y, hY⟩ : ∃ Y, Y = decide (y < 0) := ⟨_, rfl⟩
  rw [← hX] at P1H S1H L1H L2H
  rw [← hY] at P2H S2H L1H L2H
  clear hX hY hx hy
  cases e1 : (s != u) <;> cases e2 : decide (s < u) <;> cases e3 : decide (s < 0)
  all_goals
    go_enter Try.func25, Try.ntmps25
    go_wp2_with (first | (go_at_call 40; (with_reducible refine cmono ?_ (P1H.out _ ?_ ?_ ?_ ?_)); rotate_left; omega; omega; omega; omega; rintro e w' ⟨rfl, hbc0⟩; obtain ⟨⟨dc0, osc0⟩, rfl⟩ := regrown_of_below hbc0; clear hbc0) | (go_at_call 40; (with_reducible refine cmono ?_ (P2H.out _ ?_ ?_ ?_ ?_)); rotate_left; omega; omega; omega; omega; rintro e w' ⟨rfl, hbc1⟩; obtain ⟨⟨dc1, osc1⟩, rfl⟩ := regrown_of_below hbc1; clear hbc1) | (go_at_call 46; (with_reducible refine cmono ?_ (S1H.out _)); rotate_left; rintro e w' ⟨rfl, hbc2⟩; obtain ⟨⟨dc2, osc2⟩, rfl⟩ := regrown_of_below hbc2; clear hbc2) | (go_at_call 46; (with_reducible refine cmono ?_ (S2H.out _)); rotate_left; rintro e w' ⟨rfl, hbc3⟩; obtain ⟨⟨dc3, osc3⟩, rfl⟩ := regrown_of_below hbc3; clear hbc3) | (go_at_call 47; (with_reducible refine cmono ?_ (L1H.out _)); rotate_left; rintro e w' ⟨rfl, hbc4⟩; obtain ⟨⟨dc4, osc4⟩, rfl⟩ := regrown_of_below hbc4; clear hbc4) | (go_at_call 47; (with_reducible refine cmono ?_ (L2H.out _)); rotate_left; rintro e w' ⟨rfl, hbc5⟩; obtain ⟨⟨dc5, osc5⟩, rfl⟩ := regrown_of_below hbc5; clear hbc5) | ((with_reducible refine wp_region_quiet_below ?_ ?_ ?_); kernel_rfl; kernel_rfl; (repeat (go_big_quiet_step (first | (go_at_call 40; (with_reducible refine Calls.regrown_of (P1H.out _ ?_ ?_ ?_ ?_)); omega; omega; omega; omega) | (go_at_call 40; (with_reducible refine Calls.regrown_of (P2H.out _ ?_ ?_ ?_ ?_)); omega; omega; omega; omega) | (go_at_call 46; (with_reducible refine Calls.regrown_of (S1H.out _))) | (go_at_call 46; (with_reducible refine Calls.regrown_of (S2H.out _))) | (go_at_call 47; (with_reducible refine Calls.regrown_of (L1H.out _))) | (go_at_call 47; (with_reducible refine Calls.regrown_of (L2H.out _)))))); refine wpQuiet_nil ?_; intro _ hw'; obtain ⟨⟨dq, osq⟩, hw''⟩ := hw'; subst hw'') | ((with_reducible refine wp_region_two 10 5 6 #[.bool false, .int .u64 0, .int .u64 0] #[.bool false, .int .u64 0, .int .u64 0] 70 70 ?_ ?_ ?_ ?_ ?_); kernel_rfl; kernel_rfl; (intro _ _; simp [go_sem]); (intro _ _; simp [go_sem]); simp only [List.take_succ_cons, List.take_zero, List.drop_succ_cons, List.drop_zero]; (repeat (refine wpS_step (fun K hK => ?_); go_simp; first | (refine hK _ ?_; clear hK K) | (apply Exists.intro; refine ⟨fun _ => ?_, hK _ ?_⟩; (first | (go_at_call 40; (with_reducible refine kept_of (P1H.out _ ?_ ?_ ?_ ?_)); omega; omega; omega; omega) | (go_at_call 40; (with_reducible refine kept_of (P2H.out _ ?_ ?_ ?_ ?_)); omega; omega; omega; omega) | (go_at_call 46; (with_reducible refine kept_of (S1H.out _))) | (go_at_call 46; (with_reducible refine kept_of (S2H.out _))) | (go_at_call 47; (with_reducible refine kept_of (L1H.out _))) | (go_at_call 47; (with_reducible refine kept_of (L2H.out _)))); clear hK K))); refine wpS_nil ?_; refine ⟨?_, ?_⟩ <;> rintro ⟨dp, op⟩ ⟨dq, oq⟩ ⟨dr, og⟩))
    all_goals go_ret
    all_goals refine ⟨ret_int ?_, (by repeat (first | exact Below.refl _ _ | refine below_reg ?_ _ _ | refine below_alloc ?_ _ | exact below_drewN ?_ _ | assumption))⟩
    all_goals have hh := HC.out
    all_goals simp only [bne_iff_ne, bne_eq_false_iff_eq, decide_eq_true_eq, decide_eq_false_iff_not, ne_eq] at e1 e2 e3
    all_goals first
    | exact ((hh.1 (by omega)).1 (by omega)).symm
    | exact ((hh.1 (by omega)).2 (by omega)).symm
    | exact ((hh.2 (by omega)).1 (by omega)).symm
    | exact ((hh.2 (by omega)).2 (by omega)).symm

end Go.Proofs.Ytffamgiknfphaaa
