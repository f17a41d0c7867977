

/- What Sub, Floor, Make, Of of package ratio compute, step by step (walks). -/
import Derived.Test.YtkobebnijkanhaaRatE
import Derived.Test.YtkobebnijkanhaaRatP
namespace Go.Proofs.Ytkobebnijkanhaa
open Go.RowKit Go.Sort
set_option linter.unusedVariables false

def subV (p q r t : Int) : Int × Int × Int := if bth p q r t = 0 then addV p q (-r) t else (0, 0, 8)

theorem sub_any (p q r t : Int) (w : World) (p0 : -9223372036854775808 ≤ p) (p1 : p ≤ 9223372036854775807) (q0 : -9223372036854775808 ≤ q) (q1 : q ≤ 9223372036854775807)
    (r0 : -9223372036854775808 ≤ r) (r1 : r ≤ 9223372036854775807) (t0 : -9223372036854775808 ≤ t) (t1 : t ≤ 9223372036854775807) :
    Calls Try.prog 24 #[.agg #[.int .i64 p, .int .i64 q], .agg #[.int .i64 r, .int .i64 t]] w fun e w' =>
      e = .returned (.tuple #[.agg #[.int .i64 (subV p q r t).1, .int .i64 (subV p q r t).2.1], .int .i64 (subV p q r t).2.2]) ∧ Below w.heap.size w w' := by
  unfold subV
  rcases bth_08 p q r t with hv | hv
  · rw [if_pos hv]
    obtain ⟨h1, h2⟩ := bth_ok hv
    obtain ⟨a1, a2, _⟩ := chk_ok h1
    obtain ⟨b1, b2, _⟩ := chk_ok h2
    have HB := both_any p q r t
    rw [hv] at HB
    have HBB := Lib.hid HB
    clear HB hv h1 h2
    have r2 : -9223372036854775807 ≤ r := by omega
    go_enter Try.func24, Try.ntmps24
    go_wp2_with (first | (go_at_call 38; (with_reducible refine cmono ?_ (HBB.out _ ?_ ?_ ?_ ?_ ?_ ?_ ?_ ?_)); rotate_left; omega; omega; omega; omega; omega; omega; omega; omega; rintro e w' ⟨rfl, hbc0⟩; obtain ⟨⟨dc0, osc0⟩, rfl⟩ := regrown_of_below hbc0; clear hbc0) | (go_at_call 22; (with_reducible refine cmono ?_ (add_any _ _ _ _ _ ?_ ?_ ?_ ?_ ?_ ?_ ?_ ?_)); rotate_left; omega; omega; omega; omega; omega; omega; omega; omega; rintro e w' ⟨rfl, hbc1⟩; obtain ⟨⟨dc1, osc1⟩, rfl⟩ := regrown_of_below hbc1; clear hbc1) | ((with_reducible refine wp_region_quiet_below ?_ ?_ ?_); kernel_rfl; kernel_rfl; (repeat (go_big_quiet_step (first | (go_at_call 38; (with_reducible refine Calls.regrown_of (HBB.out _ ?_ ?_ ?_ ?_ ?_ ?_ ?_ ?_)); omega; omega; omega; omega; omega; omega; omega; omega) | (go_at_call 22; (with_reducible refine Calls.regrown_of (add_any _ _ _ _ _ ?_ ?_ ?_ ?_ ?_ ?_ ?_ ?_)); omega; omega; omega; omega; omega; omega; omega; omega)))); refine wpQuiet_nil ?_; intro _ hw'; obtain ⟨⟨dq, osq⟩, hw''⟩ := hw'; subst hw''))
    refine bodyPost_ret (v := .tuple #[.agg #[.int .i64 (addV p q (-r) t).1, .int .i64 (addV p q (-r) t).2.1], .int .i64 (addV p q (-r) t).2.2]) (by simp [results, Try.results24, go_sem]) rfl ⟨rfl, (by repeat (first | exact Below.refl _ _ | refine below_reg ?_ _ _ | refine below_alloc ?_ _ | exact below_drewN ?_ _ | assumption))⟩
  · rw [if_neg (by omega)]
    have HB := both_any p q r t
    rw [hv] at HB
    have HBB := Lib.hid HB
    clear HB hv
    go_enter Try.func24, Try.ntmps24
    go_wp2_with (first | (go_at_call 38; (with_reducible refine cmono ?_ (HBB.out _ ?_ ?_ ?_ ?_ ?_ ?_ ?_ ?_)); rotate_left; omega; omega; omega; omega; omega; omega; omega; omega; rintro e w' ⟨rfl, hbc0⟩; obtain ⟨⟨dc0, osc0⟩, rfl⟩ := regrown_of_below hbc0; clear hbc0) | ((with_reducible refine wp_region_quiet_below ?_ ?_ ?_); kernel_rfl; kernel_rfl; (repeat (go_big_quiet_step (first | (go_at_call 38; (with_reducible refine Calls.regrown_of (HBB.out _ ?_ ?_ ?_ ?_ ?_ ?_ ?_ ?_)); omega; omega; omega; omega; omega; omega; omega; omega)))); refine wpQuiet_nil ?_; intro _ hw'; obtain ⟨⟨dq, osq⟩, hw''⟩ := hw'; subst hw''))
    refine bodyPost_ret (v := .tuple #[.agg #[.int .i64 0, .int .i64 0], .int .i64 8]) (by simp [results, Try.results24, go_sem]) rfl ⟨rfl, (by repeat (first | exact Below.refl _ _ | refine below_reg ?_ _ _ | refine below_alloc ?_ _ | exact below_drewN ?_ _ | assumption))⟩

def makeV (n d : Int) : Int × Int × Int :=
  if d = 0 then (0, 0, 26) else buildN (!(decide (n < 0) == decide (d < 0))) (n.natAbs / Nat.gcd n.natAbs d.natAbs) (d.natAbs / Nat.gcd n.natAbs d.natAbs)

theorem makeV_any (n d : Int) (w : World) (h0 : -9223372036854775808 ≤ n) (h1 : n ≤ 9223372036854775807) (h2 : -9223372036854775808 ≤ d) (h3 : d ≤ 9223372036854775807) :
    Calls Try.prog 10 #[.int .i64 n, .int .i64 d] w fun e w' =>
      e = .returned (.tuple #[.agg #[.int .i64 (makeV n d).1, .int .i64 (makeV n d).2.1], .int .i64 (makeV n d).2.2]) ∧ Below w.heap.size w w' := by
  unfold makeV
  by_cases hd : d = 0
  · subst hd
    rw [if_pos rfl]
    go_enter Try.func10, Try.ntmps10
    go_wp2_with (first | ((with_reducible refine wp_region_quiet_below ?_ ?_ ?_); kernel_rfl; kernel_rfl; (repeat (go_big_quiet_step (fail))); refine wpQuiet_nil ?_; intro _ hw'; obtain ⟨⟨dq, osq⟩, hw''⟩ := hw'; subst hw''))
    refine bodyPost_ret (v := .tuple #[.agg #[.int .i64 0, .int .i64 0], .int .i64 26]) (by simp [results, Try.results10, go_sem]) rfl ⟨rfl, (by repeat (first | exact Below.refl _ _ | refine below_reg ?_ _ _ | refine below_alloc ?_ _ | exact below_drewN ?_ _ | assumption))⟩
  · rw [if_neg hd]
    exact make_any n d w h0 h1 h2 h3 hd

theorem of_any (n : Int) (w : World) (h0 : -9223372036854775808 ≤ n) (h1 : n ≤ 9223372036854775807) :
    Calls Try.prog 12 #[.int .i64 n] w fun e w' =>
      e = .returned (.tuple #[.agg #[.int .i64 (makeV n 1).1, .int .i64 (makeV n 1).2.1], .int .i64 (makeV n 1).2.2]) ∧ Below w.heap.size w w' := by
  go_enter Try.func12, Try.ntmps12
  go_wp2_with (first | (go_at_call 10; (with_reducible refine cmono ?_ (makeV_any _ _ _ ?_ ?_ ?_ ?_)); rotate_left; omega; omega; omega; omega; rintro e w' ⟨rfl, hbc0⟩; obtain ⟨⟨dc0, osc0⟩, rfl⟩ := regrown_of_below hbc0; clear hbc0) | ((with_reducible refine wp_region_quiet_below ?_ ?_ ?_); kernel_rfl; kernel_rfl; (repeat (go_big_quiet_step (first | (go_at_call 10; (with_reducible refine Calls.regrown_of (makeV_any _ _ _ ?_ ?_ ?_ ?_)); omega; omega; omega; omega)))); refine wpQuiet_nil ?_; intro _ hw'; obtain ⟨⟨dq, osq⟩, hw''⟩ := hw'; subst hw''))
  refine bodyPost_ret (v := .tuple #[.agg #[.int .i64 (makeV n 1).1, .int .i64 (makeV n 1).2.1], .int .i64 (makeV n 1).2.2]) (by simp [results, Try.results12, go_sem]) rfl ⟨rfl, (by repeat (first | exact Below.refl _ _ | refine below_reg ?_ _ _ | refine below_alloc ?_ _ | exact below_drewN ?_ _ | assumption))⟩

/-- what Floor gives -/
def floorV (n d : Int) : Int × Int := if chk n d = 0 then (n / d, 0) else (0, 8)

theorem floor_any (n d : Int) (w : World) (h0 : -9223372036854775808 ≤ n) (h1 : n ≤ 9223372036854775807) (h2 : -9223372036854775808 ≤ d) (h3 : d ≤ 9223372036854775807) :
    Calls Try.prog 14 #[.agg #[.int .i64 n, .int .i64 d]] w fun e w' => e = .returned (.tuple #[.int .i64 (floorV n d).1, .int .i64 (floorV n d).2]) ∧ Below w.heap.size w w' := by
  unfold floorV
  rcases chk_08 n d with hv | hv
  · rw [if_pos hv]
    obtain ⟨a1, a2, _⟩ := chk_ok hv
    have HB := check_any n d
    rw [hv] at HB
    have HBB := Lib.hid HB
    clear HB hv
    have dz : (d == 0) = false := by simp; omega
    go_enter Try.func14, Try.ntmps14
    go_wp2_with (first | (go_at_call 16; (with_reducible refine cmono ?_ (HBB.out _ ?_ ?_ ?_ ?_)); rotate_left; omega; omega; omega; omega; rintro e w' ⟨rfl, hbc0⟩; obtain ⟨⟨dc0, osc0⟩, rfl⟩ := regrown_of_below hbc0; clear hbc0) | ((with_reducible refine wp_region_quiet_below ?_ ?_ ?_); kernel_rfl; kernel_rfl; (repeat (go_big_quiet_step (first | (go_at_call 16; (with_reducible refine Calls.regrown_of (HBB.out _ ?_ ?_ ?_ ?_)); omega; omega; omega; omega)))); refine wpQuiet_nil ?_; intro _ hw'; obtain ⟨⟨dq, osq⟩, hw''⟩ := hw'; subst hw''))
    all_goals
      obtain ⟨e1, e2, e3⟩ := tdiv_floor n d a1 h0 h1
      rename_i hlt
      rw [e1] at hlt
      go_ret2
      refine ⟨?_, (by repeat (first | exact Below.refl _ _ | refine below_reg ?_ _ _ | refine below_alloc ?_ _ | exact below_drewN ?_ _ | assumption))⟩
    · have hs := tdiv_small n d (by omega) h1
      show Ending.returned (.tuple #[.int .i64 (wrap64 (n.tdiv d - 1)), .int .i64 0]) = _
      rw [e2 hlt, IntWalk.wrap64_in _ (by omega)]
    · rw [e3 (by omega)]
      rfl
  · rw [if_neg (by omega)]
    have HB := check_any n d
    rw [hv] at HB
    have HBB := Lib.hid HB
    clear HB hv
    go_enter Try.func14, Try.ntmps14
    go_wp2_with (first | (go_at_call 16; (with_reducible refine cmono ?_ (HBB.out _ ?_ ?_ ?_ ?_)); rotate_left; omega; omega; omega; omega; rintro e w' ⟨rfl, hbc0⟩; obtain ⟨⟨dc0, osc0⟩, rfl⟩ := regrown_of_below hbc0; clear hbc0) | ((with_reducible refine wp_region_quiet_below ?_ ?_ ?_); kernel_rfl; kernel_rfl; (repeat (go_big_quiet_step (first | (go_at_call 16; (with_reducible refine Calls.regrown_of (HBB.out _ ?_ ?_ ?_ ?_)); omega; omega; omega; omega)))); refine wpQuiet_nil ?_; intro _ hw'; obtain ⟨⟨dq, osq⟩, hw''⟩ := hw'; subst hw''))
    go_ret2
    exact ⟨rfl, (by repeat (first | exact Below.refl _ _ | refine below_reg ?_ _ _ | refine below_alloc ?_ _ | exact below_drewN ?_ _ | assumption))⟩

/-- what Cmp gives -/
def cmpV (p q r t : Int) : Int × Int := if bth p q r t = 0 then (cmpN (p * t) (r * q), 0) else (0, 8)

theorem compare_two (x y : Bool) (a b c d m n : Nat) (h1 : Two a b m) (h2 : Two c d n) (w : World) :
    Calls Try.prog 40 #[.agg #[.bool x, .int .u64 a, .int .u64 b], .agg #[.bool y, .int .u64 c, .int .u64 d]] w fun en w' => en = .returned (.int .i64 (cmpN (m : Int) (n : Int))) ∧ Below w.heap.size w w' := by
  refine (compare_any x y a b c d w h1.lo h2.lo).mono fun e w' ⟨he, hb⟩ => ⟨?_, hb⟩
  rw [he, h1.eq, h2.eq]

theorem cmp_any (p q r t : Int) (w : World) (p0 : -9223372036854775808 ≤ p) (p1 : p ≤ 9223372036854775807) (q0 : -9223372036854775808 ≤ q) (q1 : q ≤ 9223372036854775807)
    (r0 : -9223372036854775808 ≤ r) (r1 : r ≤ 9223372036854775807) (t0 : -9223372036854775808 ≤ t) (t1 : t ≤ 9223372036854775807) :
    Calls Try.prog 20 #[.agg #[.int .i64 p, .int .i64 q], .agg #[.int .i64 r, .int .i64 t]] w fun e w' =>
      e = .returned (.tuple #[.int .i64 (cmpV p q r t).1, .int .i64 (cmpV p q r t).2]) ∧ Below w.heap.size w w' := by
  unfold cmpV
  rcases bth_08 p q r t with hv | hv
  · rw [if_pos hv]
    obtain ⟨h1, h2⟩ := bth_ok hv
    obtain ⟨a1, a2, _⟩ := chk_ok h1
    obtain ⟨b1, b2, _⟩ := chk_ok h2
    obtain ⟨Q, rfl⟩ := Int.eq_ofNat_of_zero_le (show 0 ≤ q by omega)
    obtain ⟨T, rfl⟩ := Int.eq_ofNat_of_zero_le (show 0 ≤ t by omega)
    have HB := both_any p Q r T
    rw [hv] at HB
    have HBB := Lib.hid HB
    clear HB hv h1 h2
    obtain ⟨c1, c2, hc⟩ := two_mk (p.natAbs * T)
    obtain ⟨d1, d2, hd⟩ := two_mk (r.natAbs * Q)
    have T1 := Lib.hid (times_two p T c1 c2 hc)
    have T2 := Lib.hid (times_two r Q d1 d2 hd)
    obtain ⟨k, hk⟩ : ∃ k, k = cmpN ((p.natAbs * T : Nat) : Int) ((r.natAbs * Q : Nat) : Int) := ⟨_, rfl⟩
    have C1 := compare_two (decide (p < 0)) (decide (r < 0)) c1 c2 d1 d2 _ _ hc hd
    rw [← hk] at C1
    have C1H := Lib.hid C1
    have HK := Lib.hid hk
    have hk1 : -1 ≤ k ∧ k ≤ 1 := by rw [hk]; unfold cmpN; (repeat' split) <;> omega
    obtain ⟨hk1, hk2⟩ := hk1
    clear C1 hk hc hd
    cases hp : decide (p < 0) <;> cases hr : decide (r < 0)
    all_goals rw [hp, hr] at C1H
    all_goals rw [hp] at T1
    all_goals rw [hr] at T2
    all_goals
      go_enter Try.func20, Try.ntmps20
      go_wp2_with (first | (go_at_call 38; (with_reducible refine cmono ?_ (HBB.out _ ?_ ?_ ?_ ?_ ?_ ?_ ?_ ?_)); rotate_left; omega; omega; omega; omega; omega; omega; omega; omega; rintro e w' ⟨rfl, hbc0⟩; obtain ⟨⟨dc0, osc0⟩, rfl⟩ := regrown_of_below hbc0; clear hbc0) | (go_at_call 39; (with_reducible refine cmono ?_ (cmpi_any _ _ _)); rotate_left; rintro e w' ⟨rfl, hbc1⟩; obtain ⟨⟨dc1, osc1⟩, rfl⟩ := regrown_of_below hbc1; clear hbc1) | (go_at_call 41; (with_reducible refine cmono ?_ (T1.out _ ?_ ?_ ?_)); rotate_left; omega; omega; omega; rintro e w' ⟨rfl, hbc2⟩; obtain ⟨⟨dc2, osc2⟩, rfl⟩ := regrown_of_below hbc2; clear hbc2) | (go_at_call 41; (with_reducible refine cmono ?_ (T2.out _ ?_ ?_ ?_)); rotate_left; omega; omega; omega; rintro e w' ⟨rfl, hbc3⟩; obtain ⟨⟨dc3, osc3⟩, rfl⟩ := regrown_of_below hbc3; clear hbc3) | (go_at_call 40; (with_reducible refine cmono ?_ (C1H.out _)); rotate_left; rintro e w' ⟨rfl, hbc4⟩; obtain ⟨⟨dc4, osc4⟩, rfl⟩ := regrown_of_below hbc4; clear hbc4) | ((with_reducible refine wp_region_quiet_below ?_ ?_ ?_); kernel_rfl; kernel_rfl; (repeat (go_big_quiet_step (first | (go_at_call 38; (with_reducible refine Calls.regrown_of (HBB.out _ ?_ ?_ ?_ ?_ ?_ ?_ ?_ ?_)); omega; omega; omega; omega; omega; omega; omega; omega) | (go_at_call 39; (with_reducible refine Calls.regrown_of (cmpi_any _ _ _))) | (go_at_call 41; (with_reducible refine Calls.regrown_of (T1.out _ ?_ ?_ ?_)); omega; omega; omega) | (go_at_call 41; (with_reducible refine Calls.regrown_of (T2.out _ ?_ ?_ ?_)); omega; omega; omega) | (go_at_call 40; (with_reducible refine Calls.regrown_of (C1H.out _)))))); refine wpQuiet_nil ?_; intro _ hw'; obtain ⟨⟨dq, osq⟩, hw''⟩ := hw'; subst hw''))
    all_goals go_ret2
    all_goals refine ⟨ret_of ?_, (by repeat (first | exact Below.refl _ _ | refine below_reg ?_ _ _ | refine below_alloc ?_ _ | exact below_drewN ?_ _ | assumption))⟩
    · have hp' : 0 ≤ p := by simpa using hp
      have hr' : 0 ≤ r := by simpa using hr
      obtain ⟨a, rfl⟩ := Int.eq_ofNat_of_zero_le hp'
      obtain ⟨b, rfl⟩ := Int.eq_ofNat_of_zero_le hr'
      show Value.tuple #[.int .i64 k, .int .i64 0] = _
      rw [HK.out]; simp
    · have hp' : 0 ≤ p := by simpa using hp
      have hr' : r < 0 := by simpa using hr
      have e : cmpN p r = cmpN (p * T) (r * Q) := by
        have g1 : 0 ≤ p * (T : Int) := Int.mul_nonneg hp' (by omega)
        have g2 : r * (Q : Int) < 0 := Int.mul_neg_of_neg_of_pos hr' (by omega)
        unfold cmpN; (repeat' split) <;> omega
      rw [← e]; rfl
    · have hp' : p < 0 := by simpa using hp
      have hr' : 0 ≤ r := by simpa using hr
      have e : cmpN p r = cmpN (p * T) (r * Q) := by
        have g1 : 0 ≤ r * (Q : Int) := Int.mul_nonneg hr' (by omega)
        have g2 : p * (T : Int) < 0 := Int.mul_neg_of_neg_of_pos hp' (by omega)
        unfold cmpN; (repeat' split) <;> omega
      rw [← e]; rfl
    · have hp' : p < 0 := by simpa using hp
      have hr' : r < 0 := by simpa using hr
      obtain ⟨a, rfl⟩ : ∃ a : Nat, p = -(a : Int) := ⟨p.natAbs, by omega⟩
      obtain ⟨b, rfl⟩ : ∃ b : Nat, r = -(b : Int) := ⟨r.natAbs, by omega⟩
      show Value.tuple #[.int .i64 (-k), .int .i64 0] = _
      rw [HK.out]
      have e : -cmpN (((-(a : Int)).natAbs * T : Nat) : Int) (((-(b : Int)).natAbs * Q : Nat) : Int) = cmpN (-(a : Int) * T) (-(b : Int) * Q) := by
        have g1 : -(a : Int) * (T : Int) = -((a * T : Nat) : Int) := by simp [Int.neg_mul]
        have g2 : -(b : Int) * (Q : Int) = -((b * Q : Nat) : Int) := by simp [Int.neg_mul]
        rw [g1, g2, Int.natAbs_neg, Int.natAbs_neg, Int.natAbs_natCast, Int.natAbs_natCast]
        generalize a * T = x
        generalize b * Q = y
        unfold cmpN; (repeat' split) <;> omega
      rw [e]
  · rw [if_neg (by omega)]
    have HB := both_any p q r t
    rw [hv] at HB
    have HBB := Lib.hid HB
    clear HB hv
    go_enter Try.func20, Try.ntmps20
    go_wp2_with (first | (go_at_call 38; (with_reducible refine cmono ?_ (HBB.out _ ?_ ?_ ?_ ?_ ?_ ?_ ?_ ?_)); rotate_left; omega; omega; omega; omega; omega; omega; omega; omega; rintro e w' ⟨rfl, hbc0⟩; obtain ⟨⟨dc0, osc0⟩, rfl⟩ := regrown_of_below hbc0; clear hbc0) | ((with_reducible refine wp_region_quiet_below ?_ ?_ ?_); kernel_rfl; kernel_rfl; (repeat (go_big_quiet_step (first | (go_at_call 38; (with_reducible refine Calls.regrown_of (HBB.out _ ?_ ?_ ?_ ?_ ?_ ?_ ?_ ?_)); omega; omega; omega; omega; omega; omega; omega; omega)))); refine wpQuiet_nil ?_; intro _ hw'; obtain ⟨⟨dq, osq⟩, hw''⟩ := hw'; subst hw''))
    go_ret2
    exact ⟨rfl, (by repeat (first | exact Below.refl _ _ | refine below_reg ?_ _ _ | refine below_alloc ?_ _ | exact below_drewN ?_ _ | assumption))⟩

/-- the product of p/q and r/t, before it is looked at whether it has a place -/
def mulR (p : Int) (q : Nat) (r : Int) (t : Nat) : Int × Int × Int :=
  buildN (!(decide (p.tdiv (Nat.gcd t p.natAbs) < 0) == decide (r.tdiv (Nat.gcd q r.natAbs) < 0))) ((p.tdiv (Nat.gcd t p.natAbs)).natAbs * (r.tdiv (Nat.gcd q r.natAbs)).natAbs)
    (q / Nat.gcd q r.natAbs * (t / Nat.gcd t p.natAbs))

theorem times_both (a b : Int) (hi lo : Nat) (h : Two hi lo (a.natAbs * b.natAbs)) (w : World) (h0 : -9223372036854775808 ≤ a) (h1 : a ≤ 9223372036854775807) (h2 : -9223372036854775808 ≤ b) (h3 : b ≤ 9223372036854775807) :
    Calls Try.prog 41 #[.int .i64 a, .int .i64 b] w fun en w' => en = .returned (.agg #[.bool (!(decide (a < 0) == decide (b < 0))), .int .u64 hi, .int .u64 lo]) ∧ Below w.heap.size w w' := by
  refine (times_any a b w h0 h1 h2 h3).mono fun e w' ⟨he, hb⟩ => ⟨?_, hb⟩
  obtain ⟨rfl, rfl⟩ := h
  rw [he]
  cases decide (a < 0) <;> cases decide (b < 0) <;> rfl

theorem mul_valid (p r : Int) (q t : Nat) (w : World) (p0 : -9223372036854775807 ≤ p) (p1 : p ≤ 9223372036854775807) (r0 : -9223372036854775807 ≤ r) (r1 : r ≤ 9223372036854775807)
    (q0 : 0 < q) (q1 : q ≤ 9223372036854775807) (t0 : 0 < t) (t1 : t ≤ 9223372036854775807) (hv : bth p q r t = 0) :
    Calls Try.prog 26 #[.agg #[.int .i64 p, .int .i64 q], .agg #[.int .i64 r, .int .i64 t]] w fun e w' =>
      e = .returned (.tuple #[.agg #[.int .i64 (mulR p q r t).1, .int .i64 (mulR p q r t).2.1], .int .i64 (mulR p q r t).2.2]) ∧ Below w.heap.size w w' := by
  have HB := both_any p q r t
  rw [hv] at HB
  have HBB := Lib.hid HB
  clear HB hv
  unfold mulR
  have g0 : 0 < Nat.gcd t p.natAbs := Nat.gcd_pos_of_pos_left _ t0
  have h0 : 0 < Nat.gcd q r.natAbs := Nat.gcd_pos_of_pos_left _ q0
  have gt : Nat.gcd t p.natAbs ≤ t := Nat.le_of_dvd t0 (Nat.gcd_dvd_left _ _)
  have hq : Nat.gcd q r.natAbs ≤ q := Nat.le_of_dvd q0 (Nat.gcd_dvd_left _ _)
  obtain ⟨g, hg⟩ : ∃ g, g = Nat.gcd t p.natAbs := ⟨_, rfl⟩
  obtain ⟨h, hh⟩ : ∃ h, h = Nat.gcd q r.natAbs := ⟨_, rfl⟩
  have HG := fun w => gcd_any t p.natAbs w
  have HH := fun w => gcd_any q r.natAbs w
  rw [← hg] at g0 gt HG ⊢
  rw [← hh] at h0 hq HH ⊢
  have HGG := Lib.hid HG
  have HHH := Lib.hid HH
  have hx := tdiv_small p g p0 p1
  have hy := tdiv_small r h r0 r1
  obtain ⟨x, hxd⟩ : ∃ x, x = p.tdiv (g : Int) := ⟨_, rfl⟩
  obtain ⟨y, hyd⟩ : ∃ y, y = r.tdiv (h : Int) := ⟨_, rfl⟩
  have X : p.tdiv (g : Int) = x := hxd.symm
  have Y : r.tdiv (h : Int) = y := hyd.symm
  rw [X] at hx ⊢
  rw [Y] at hy ⊢
  obtain ⟨x0, x1⟩ := hx
  obtain ⟨y0, y1⟩ := hy
  have uq := Nat.div_le_self q h
  have vt := Nat.div_le_self t g
  obtain ⟨u, hud⟩ : ∃ u, u = q / h := ⟨_, rfl⟩
  obtain ⟨v, hvd⟩ : ∃ v, v = t / g := ⟨_, rfl⟩
  have U : (q : Int).tdiv (h : Int) = (u : Int) := by rw [hud]; rfl
  have V : (t : Int).tdiv (g : Int) = (v : Int) := by rw [hvd]; rfl
  have U2 : (q : Int) / (h : Int) = (u : Int) := by rw [hud]; rfl
  have V2 : (t : Int) / (g : Int) = (v : Int) := by rw [hvd]; rfl
  rw [← hud] at uq ⊢
  rw [← hvd] at vt ⊢
  obtain ⟨f1, f2, hf⟩ := two_mk (u * v)
  obtain ⟨c1, c2, hc⟩ := two_mk (x.natAbs * y.natAbs)
  have M1 := Lib.hid (mul64_two u v f1 f2 hf)
  have T1 := Lib.hid (times_both x y c1 c2 hc)
  obtain ⟨m, hm⟩ : ∃ m, m = x.natAbs * y.natAbs := ⟨_, rfl⟩
  rw [← hm] at hc ⊢
  have B1 := Lib.hid (build_two (!(decide (x < 0) == decide (y < 0))) c1 c2 f1 f2 m (u * v) hc hf)
  have gz : ((g : Int) == 0) = false := by simp; omega
  have hz : ((h : Int) == 0) = false := by simp; omega
  clear HG HH hg hh hxd hyd hud hvd hf hc hm
  go_enter Try.func26, Try.ntmps26
  go_wp2_with (first | (go_at_call 38; (with_reducible refine cmono ?_ (HBB.out _ ?_ ?_ ?_ ?_ ?_ ?_ ?_ ?_)); rotate_left; omega; omega; omega; omega; omega; omega; omega; omega; rintro e w' ⟨rfl, hbc0⟩; obtain ⟨⟨dc0, osc0⟩, rfl⟩ := regrown_of_below hbc0; clear hbc0) | (go_at_call 33; (with_reducible refine cmono ?_ (abs_any _ _ ?_ ?_)); rotate_left; omega; omega; rintro e w' ⟨rfl, hbc1⟩; obtain ⟨⟨dc1, osc1⟩, rfl⟩ := regrown_of_below hbc1; clear hbc1) | (go_at_call 32; (with_reducible refine cmono ?_ (HGG.out _)); rotate_left; rintro e w' ⟨rfl, hbc2⟩; obtain ⟨⟨dc2, osc2⟩, rfl⟩ := regrown_of_below hbc2; clear hbc2) | (go_at_call 32; (with_reducible refine cmono ?_ (HHH.out _)); rotate_left; rintro e w' ⟨rfl, hbc3⟩; obtain ⟨⟨dc3, osc3⟩, rfl⟩ := regrown_of_below hbc3; clear hbc3) | (go_at_call 45; (with_reducible refine cmono ?_ (M1.out _ ?_ ?_)); rotate_left; omega; omega; rintro e w' ⟨rfl, hbc4⟩; obtain ⟨⟨dc4, osc4⟩, rfl⟩ := regrown_of_below hbc4; clear hbc4) | (go_at_call 41; (with_reducible refine cmono ?_ (T1.out _ ?_ ?_ ?_ ?_)); rotate_left; omega; omega; omega; omega; rintro e w' ⟨rfl, hbc5⟩; obtain ⟨⟨dc5, osc5⟩, rfl⟩ := regrown_of_below hbc5; clear hbc5) | (go_at_call 34; (with_reducible refine cmono ?_ (B1.out _)); rotate_left; rintro e w' ⟨rfl, hbc6⟩; obtain ⟨⟨dc6, osc6⟩, rfl⟩ := regrown_of_below hbc6; clear hbc6) | ((with_reducible refine wp_region_quiet_below ?_ ?_ ?_); kernel_rfl; kernel_rfl; (repeat (go_big_quiet_step (first | (go_at_call 38; (with_reducible refine Calls.regrown_of (HBB.out _ ?_ ?_ ?_ ?_ ?_ ?_ ?_ ?_)); omega; omega; omega; omega; omega; omega; omega; omega) | (go_at_call 33; (with_reducible refine Calls.regrown_of (abs_any _ _ ?_ ?_)); omega; omega) | (go_at_call 32; (with_reducible refine Calls.regrown_of (HGG.out _))) | (go_at_call 32; (with_reducible refine Calls.regrown_of (HHH.out _))) | (go_at_call 45; (with_reducible refine Calls.regrown_of (M1.out _ ?_ ?_)); omega; omega) | (go_at_call 41; (with_reducible refine Calls.regrown_of (T1.out _ ?_ ?_ ?_ ?_)); omega; omega; omega; omega) | (go_at_call 34; (with_reducible refine Calls.regrown_of (B1.out _)))))); refine wpQuiet_nil ?_; intro _ hw'; obtain ⟨⟨dq, osq⟩, hw''⟩ := hw'; subst hw'') | ((with_reducible refine wp_region_tail_below 14 ?_ ?_ ?_); kernel_rfl; kernel_rfl; simp only [List.take_succ_cons, List.take_zero, List.drop_succ_cons, List.drop_zero]; (repeat (go_big_quiet_step (first | (go_at_call 38; (with_reducible refine Calls.regrown_of (HBB.out _ ?_ ?_ ?_ ?_ ?_ ?_ ?_ ?_)); omega; omega; omega; omega; omega; omega; omega; omega) | (go_at_call 33; (with_reducible refine Calls.regrown_of (abs_any _ _ ?_ ?_)); omega; omega) | (go_at_call 32; (with_reducible refine Calls.regrown_of (HGG.out _))) | (go_at_call 32; (with_reducible refine Calls.regrown_of (HHH.out _))) | (go_at_call 45; (with_reducible refine Calls.regrown_of (M1.out _ ?_ ?_)); omega; omega) | (go_at_call 41; (with_reducible refine Calls.regrown_of (T1.out _ ?_ ?_ ?_ ?_)); omega; omega; omega; omega) | (go_at_call 34; (with_reducible refine Calls.regrown_of (B1.out _)))))); refine wpQuiet_nil ?_; intro _ hw'; obtain ⟨⟨dq, osq⟩, hw''⟩ := hw'; subst hw''))
  refine bodyPost_ret (v := .tuple #[.agg #[.int .i64 (buildN (!(decide (x < 0) == decide (y < 0))) m (u * v)).1, .int .i64 (buildN (!(decide (x < 0) == decide (y < 0))) m (u * v)).2.1], .int .i64 (buildN (!(decide (x < 0) == decide (y < 0))) m (u * v)).2.2]) (by simp [results, Try.results26, go_sem]) rfl ⟨rfl, (by repeat (first | exact Below.refl _ _ | refine below_reg ?_ _ _ | refine below_alloc ?_ _ | exact below_drewN ?_ _ | assumption))⟩

/-- what Mul gives: the product, or an error -/
def mulV (p q r t : Int) : Int × Int × Int := if bth p q r t = 0 then mulR p q.toNat r t.toNat else (0, 0, 8)

theorem mul_any (p q r t : Int) (w : World) (p0 : -9223372036854775808 ≤ p) (p1 : p ≤ 9223372036854775807) (q0 : -9223372036854775808 ≤ q) (q1 : q ≤ 9223372036854775807)
    (r0 : -9223372036854775808 ≤ r) (r1 : r ≤ 9223372036854775807) (t0 : -9223372036854775808 ≤ t) (t1 : t ≤ 9223372036854775807) :
    Calls Try.prog 26 #[.agg #[.int .i64 p, .int .i64 q], .agg #[.int .i64 r, .int .i64 t]] w fun e w' =>
      e = .returned (.tuple #[.agg #[.int .i64 (mulV p q r t).1, .int .i64 (mulV p q r t).2.1], .int .i64 (mulV p q r t).2.2]) ∧ Below w.heap.size w w' := by
  unfold mulV
  rcases bth_08 p q r t with hv | hv
  · rw [if_pos hv]
    obtain ⟨h1, h2⟩ := bth_ok hv
    obtain ⟨a1, a2, _⟩ := chk_ok h1
    obtain ⟨b1, b2, _⟩ := chk_ok h2
    obtain ⟨Q, rfl⟩ := Int.eq_ofNat_of_zero_le (show 0 ≤ q by omega)
    obtain ⟨T, rfl⟩ := Int.eq_ofNat_of_zero_le (show 0 ≤ t by omega)
    exact mul_valid p r Q T w (by omega) p1 (by omega) r1 (by omega) (by omega) (by omega) (by omega) hv
  · rw [if_neg (by omega)]
    have HB := both_any p q r t
    rw [hv] at HB
    have HBB := Lib.hid HB
    clear HB hv
    go_enter Try.func26, Try.ntmps26
    go_wp2_with (first | (go_at_call 38; (with_reducible refine cmono ?_ (HBB.out _ ?_ ?_ ?_ ?_ ?_ ?_ ?_ ?_)); rotate_left; omega; omega; omega; omega; omega; omega; omega; omega; rintro e w' ⟨rfl, hbc0⟩; obtain ⟨⟨dc0, osc0⟩, rfl⟩ := regrown_of_below hbc0; clear hbc0) | ((with_reducible refine wp_region_quiet_below ?_ ?_ ?_); kernel_rfl; kernel_rfl; (repeat (go_big_quiet_step (first | (go_at_call 38; (with_reducible refine Calls.regrown_of (HBB.out _ ?_ ?_ ?_ ?_ ?_ ?_ ?_ ?_)); omega; omega; omega; omega; omega; omega; omega; omega)))); refine wpQuiet_nil ?_; intro _ hw'; obtain ⟨⟨dq, osq⟩, hw''⟩ := hw'; subst hw''))
    refine bodyPost_ret (v := .tuple #[.agg #[.int .i64 0, .int .i64 0], .int .i64 8]) (by simp [results, Try.results26, go_sem]) rfl ⟨rfl, (by repeat (first | exact Below.refl _ _ | refine below_reg ?_ _ _ | refine below_alloc ?_ _ | exact below_drewN ?_ _ | assumption))⟩

end Go.Proofs.Ytkobebnijkanhaa
