

/- What Add of package ratio computes, step by step (a walk), for valid fractions. -/
import Derived.Test.YtkobebnijkanhaaRatD
namespace Go.Proofs.Ytkobebnijkanhaa
open Go.RowKit Go.Sort
set_option linter.unusedVariables false

/-- the high and the low word of a number -/
def Two (hi lo m : Nat) : Prop := hi = m / 18446744073709551616 ∧ lo = m % 18446744073709551616
theorem two_mk (m : Nat) : ∃ hi lo, Two hi lo m := ⟨_, _, rfl, rfl⟩
theorem Two.eq {hi lo m : Nat} (h : Two hi lo m) : hi * 18446744073709551616 + lo = m := by
  obtain ⟨rfl, rfl⟩ := h
  have := Nat.div_add_mod m 18446744073709551616
  rw [Nat.mul_comm] at this
  exact this
theorem Two.lo {hi lo m : Nat} (h : Two hi lo m) : lo < 18446744073709551616 := by
  obtain ⟨rfl, rfl⟩ := h
  exact Nat.mod_lt _ (by decide)
theorem Two.hi {hi lo m : Nat} (h : Two hi lo m) (k : Nat) (hm : m < k * 18446744073709551616) : hi < k := by
  obtain ⟨rfl, rfl⟩ := h
  rw [Nat.div_lt_iff_lt_mul (by decide)]
  exact hm

theorem times_two (a : Int) (x hi lo : Nat) (h : Two hi lo (a.natAbs * x)) (w : World) (h0 : -9223372036854775808 ≤ a) (h1 : a ≤ 9223372036854775807) (h3 : x ≤ 9223372036854775807) :
    Calls Try.prog 41 #[.int .i64 a, .int .i64 x] w fun en w' => en = .returned (.agg #[.bool (decide (a < 0)), .int .u64 hi, .int .u64 lo]) ∧ Below w.heap.size w w' := by
  refine (times_any a x w h0 h1 (by omega) (by omega)).mono fun e w' ⟨he, hb⟩ => ⟨?_, hb⟩
  obtain ⟨rfl, rfl⟩ := h
  have hx : decide ((x : Int) < 0) = false := by simp
  rw [he, hx]
  simp

theorem plus_two (x y : Bool) (a b c d hi lo m n : Nat) (h1 : Two a b m) (h2 : Two c d n) (h : Two hi lo (plusM x y m n)) (w : World) (hm : m < 9223372036854775807 * 18446744073709551616) (hn : n < 9223372036854775807 * 18446744073709551616) :
    Calls Try.prog 43 #[.agg #[.bool x, .int .u64 a, .int .u64 b], .agg #[.bool y, .int .u64 c, .int .u64 d]] w fun en w' =>
      en = .returned (.agg #[.bool (plusS x y m n), .int .u64 hi, .int .u64 lo]) ∧ Below w.heap.size w w' := by
  refine (plus_any x y a b c d w h1.lo h2.lo (h1.hi _ hm) (h2.hi _ hn)).mono fun e w' ⟨he, hb⟩ => ⟨?_, hb⟩
  rw [he, h1.eq, h2.eq]
  obtain ⟨rfl, rfl⟩ := h
  rfl

theorem over_two (x : Bool) (a b m y hi lo r : Nat) (h1 : Two a b m) (h : Two hi lo (m / y)) (hr : r = m % y) (w : World) (hm : m < 9223372036854775807 * 18446744073709551616) (hy : 0 < y) (hY : y < 18446744073709551616) :
    Calls Try.prog 44 #[.agg #[.bool x, .int .u64 a, .int .u64 b], .int .u64 y] w fun e w' =>
      e = .returned (.tuple #[.agg #[.bool x, .int .u64 hi, .int .u64 lo], .int .u64 r]) ∧ Below w.heap.size w w' := by
  have ha := h1.hi 9223372036854775807 hm
  refine (over_any x a b y w (by omega) h1.lo hy hY).mono fun e w' ⟨he, hb⟩ => ⟨?_, hb⟩
  rw [he, h1.eq, hr]
  obtain ⟨rfl, rfl⟩ := h
  rfl

theorem build_two (x : Bool) (a b c d m n : Nat) (h1 : Two a b m) (h2 : Two c d n) (w : World) :
    Calls Try.prog 34 #[.agg #[.bool x, .int .u64 a, .int .u64 b], .int .u64 c, .int .u64 d] w fun e w' =>
      e = .returned (.tuple #[.agg #[.int .i64 (buildN x m n).1, .int .i64 (buildN x m n).2.1], .int .i64 (buildN x m n).2.2]) ∧ Below w.heap.size w w' := by
  refine (build_any x a b c d w h1.lo h2.lo).mono fun e w' ⟨he, hb⟩ => ⟨?_, hb⟩
  rw [he, h1.eq, h2.eq]

theorem mul64_two (x y hi lo : Nat) (h : Two hi lo (x * y)) (w : World) (hx : x < 18446744073709551616) (hy : y < 18446744073709551616) :
    Calls Try.prog 45 #[.int .u64 x, .int .u64 y] w fun e w' => e = .returned (.tuple #[.int .u64 hi, .int .u64 lo]) ∧ Below w.heap.size w w' := by
  obtain ⟨rfl, rfl⟩ := h
  exact mul64_any x y w hx hy

/-- the sum of p/q and r/t, before it is looked at whether it has a place -/
def addR (p : Int) (q : Nat) (r : Int) (t : Nat) : Int × Int × Int :=
  buildN (plusS (decide (p < 0)) (decide (r < 0)) (p.natAbs * (t / Nat.gcd q t)) (r.natAbs * (q / Nat.gcd q t)))
    (plusM (decide (p < 0)) (decide (r < 0)) (p.natAbs * (t / Nat.gcd q t)) (r.natAbs * (q / Nat.gcd q t)) / Nat.gcd (Nat.gcd q t) (plusM (decide (p < 0)) (decide (r < 0)) (p.natAbs * (t / Nat.gcd q t)) (r.natAbs * (q / Nat.gcd q t)) % Nat.gcd q t))
    (q / Nat.gcd q t * (t / Nat.gcd (Nat.gcd q t) (plusM (decide (p < 0)) (decide (r < 0)) (p.natAbs * (t / Nat.gcd q t)) (r.natAbs * (q / Nat.gcd q t)) % Nat.gcd q t)))

theorem plusM_le (x y : Bool) (m n : Nat) : plusM x y m n ≤ m + n := by unfold plusM; (repeat' split) <;> omega

theorem wrap_small (k : Nat) (h : k ≤ 9223372036854775807) : IntKind.i64.wrap (k : Int) = (k : Int) := by rw [IntKind.wrap_i64]; omega

set_option maxHeartbeats 4000000 in
theorem add_valid (p r : Int) (q t : Nat) (w : World) (p0 : -9223372036854775807 ≤ p) (p1 : p ≤ 9223372036854775807) (r0 : -9223372036854775807 ≤ r) (r1 : r ≤ 9223372036854775807)
    (q0 : 0 < q) (q1 : q ≤ 9223372036854775807) (t0 : 0 < t) (t1 : t ≤ 9223372036854775807) (hv : bth p q r t = 0) :
    Calls Try.prog 22 #[.agg #[.int .i64 p, .int .i64 q], .agg #[.int .i64 r, .int .i64 t]] w fun e w' =>
      e = .returned (.tuple #[.agg #[.int .i64 (addR p q r t).1, .int .i64 (addR p q r t).2.1], .int .i64 (addR p q r t).2.2]) ∧ Below w.heap.size w w' := by
  have HB := both_any p q r t
  rw [hv] at HB
  have HBB := Lib.hid HB
  clear HB hv
  unfold addR
  have g0 : 0 < Nat.gcd q t := Nat.gcd_pos_of_pos_left _ q0
  have gq : Nat.gcd q t ≤ q := Nat.le_of_dvd q0 (Nat.gcd_dvd_left _ _)
  have gt : Nat.gcd q t ≤ t := Nat.le_of_dvd t0 (Nat.gcd_dvd_right _ _)
  obtain ⟨g, hg⟩ : ∃ g, g = Nat.gcd q t := ⟨_, rfl⟩
  have HG := fun w => gcd_any q t w
  rw [← hg] at g0 gq gt HG ⊢
  have HGG := Lib.hid HG
  have hx := Nat.div_le_self t g
  have hy := Nat.div_le_self q g
  have X : (t : Int).tdiv (g : Int) = ((t / g : Nat) : Int) := rfl
  have Y : (q : Int).tdiv (g : Int) = ((q / g : Nat) : Int) := rfl
  clear HG hg
  have gz : ((g : Int) == 0) = false := by simp; omega
  have gn : ¬ g = 0 := by omega
  obtain ⟨a1, b1, h1⟩ := two_mk (p.natAbs * (t / g))
  obtain ⟨a2, b2, h2⟩ := two_mk (r.natAbs * (q / g))
  have m1 : p.natAbs * (t / g) ≤ 9223372036854775807 * 9223372036854775807 := Nat.mul_le_mul (by omega) (by omega)
  have m2 : r.natAbs * (q / g) ≤ 9223372036854775807 * 9223372036854775807 := Nat.mul_le_mul (by omega) (by omega)
  have T1 := Lib.hid (times_two p (t / g) a1 b1 h1)
  have T2 := Lib.hid (times_two r (q / g) a2 b2 h2)
  obtain ⟨x, hxd⟩ : ∃ x, x = t / g := ⟨_, rfl⟩
  obtain ⟨y, hyd⟩ : ∃ y, y = q / g := ⟨_, rfl⟩
  rw [← hxd] at hx X h1 m1 T1 ⊢
  rw [← hyd] at hy Y h2 m2 T2 ⊢
  obtain ⟨m, hm⟩ : ∃ m, m = p.natAbs * x := ⟨_, rfl⟩
  obtain ⟨n, hn⟩ : ∃ n, n = r.natAbs * y := ⟨_, rfl⟩
  rw [← hm] at h1 m1 ⊢
  rw [← hn] at h2 m2 ⊢
  have hS := plusM_le (decide (p < 0)) (decide (r < 0)) m n
  obtain ⟨s, hs⟩ : ∃ s, s = plusS (decide (p < 0)) (decide (r < 0)) m n := ⟨_, rfl⟩
  obtain ⟨k, hk⟩ : ∃ k, k = plusM (decide (p < 0)) (decide (r < 0)) m n := ⟨_, rfl⟩
  rw [← hs, ← hk]
  rw [← hk] at hS
  have hkb : k < 9223372036854775807 * 18446744073709551616 := Nat.lt_of_le_of_lt hS (by omega)
  obtain ⟨a3, b3, h3⟩ := two_mk k
  have P1 := plus_two (decide (p < 0)) (decide (r < 0)) a1 b1 a2 b2 a3 b3 m n h1 h2 (by rw [← hk]; exact h3)
  rw [← hs] at P1
  have P1H := Lib.hid P1
  have hm2 : m < 9223372036854775807 * 18446744073709551616 := Nat.lt_of_le_of_lt m1 (by decide)
  have hn2 : n < 9223372036854775807 * 18446744073709551616 := Nat.lt_of_le_of_lt m2 (by decide)
  obtain ⟨c1, c2, hc⟩ := two_mk (k / g)
  obtain ⟨e, he⟩ : ∃ e, e = k % g := ⟨_, rfl⟩
  have O1 := Lib.hid (over_two s a3 b3 k g c1 c2 e h3 hc he)
  rw [← he]
  have heg := Nat.mod_lt k g0
  rw [← he] at heg
  obtain ⟨h, hh⟩ : ∃ h, h = Nat.gcd g e := ⟨_, rfl⟩
  have h0 : 0 < h := by rw [hh]; exact Nat.gcd_pos_of_pos_left _ g0
  have hle : h ≤ g := by rw [hh]; exact Nat.le_of_dvd g0 (Nat.gcd_dvd_left _ _)
  rw [← hh]
  have HH := fun w => gcd_any g e w
  rw [← hh] at HH
  have HHH := Lib.hid HH
  obtain ⟨d1, d2, hd⟩ := two_mk (k / h)
  have O2 := Lib.hid (over_two s a3 b3 k h d1 d2 (k % h) h3 hd rfl)
  have tz := Nat.div_le_self t h
  have hz : ((h : Int) == 0) = false := by simp; omega
  have Xw := wrap_small x (by omega)
  have Yw := wrap_small y (by omega)
  have Z : IntKind.u64.wrap ((t : Int) / (h : Int)) = ((t / h : Nat) : Int) := by
    rw [IntKind.wrap_u64, ← Int.natCast_ediv]; exact Int.emod_eq_of_lt (Int.natCast_nonneg _) (by omega)
  obtain ⟨z, hzd⟩ : ∃ z, z = t / h := ⟨_, rfl⟩
  rw [← hzd] at tz Z ⊢
  obtain ⟨f1, f2, hf⟩ := two_mk (y * z)
  have M1 := Lib.hid (mul64_two y z f1 f2 hf)
  have B1 := Lib.hid (build_two s d1 d2 f1 f2 (k / h) (y * z) hd hf)
  obtain ⟨kr, hkr⟩ : ∃ kr, kr = k % h := ⟨_, rfl⟩
  rw [← hkr] at O2
  clear hxd hyd hm hn hs hk he hh hzd hf hd hc h1 h2 h3 P1 HH hS m1 m2 hkr
  go_enter Try.func22, Try.ntmps22
  go_wp2_with (first | (go_at_call 38; (with_reducible refine cmono ?_ (HBB.out _ ?_ ?_ ?_ ?_ ?_ ?_ ?_ ?_)); rotate_left; omega; omega; omega; omega; omega; omega; omega; omega; rintro e w' ⟨rfl, hbc0⟩; obtain ⟨⟨dc0, osc0⟩, rfl⟩ := regrown_of_below hbc0; clear hbc0) | (go_at_call 32; (with_reducible refine cmono ?_ (HGG.out _)); rotate_left; rintro e w' ⟨rfl, hbc1⟩; obtain ⟨⟨dc1, osc1⟩, rfl⟩ := regrown_of_below hbc1; clear hbc1) | (go_at_call 32; (with_reducible refine cmono ?_ (HHH.out _)); rotate_left; rintro e w' ⟨rfl, hbc2⟩; obtain ⟨⟨dc2, osc2⟩, rfl⟩ := regrown_of_below hbc2; clear hbc2) | (go_at_call 41; (with_reducible refine cmono ?_ (T1.out _ ?_ ?_ ?_)); rotate_left; omega; omega; omega; rintro e w' ⟨rfl, hbc3⟩; obtain ⟨⟨dc3, osc3⟩, rfl⟩ := regrown_of_below hbc3; clear hbc3) | (go_at_call 41; (with_reducible refine cmono ?_ (T2.out _ ?_ ?_ ?_)); rotate_left; omega; omega; omega; rintro e w' ⟨rfl, hbc4⟩; obtain ⟨⟨dc4, osc4⟩, rfl⟩ := regrown_of_below hbc4; clear hbc4) | (go_at_call 43; (with_reducible refine cmono ?_ (P1H.out _ hm2 hn2)); rotate_left; rintro e w' ⟨rfl, hbc5⟩; obtain ⟨⟨dc5, osc5⟩, rfl⟩ := regrown_of_below hbc5; clear hbc5) | (go_at_call 44; (with_reducible refine cmono ?_ (O1.out _ hkb g0 ?_)); rotate_left; omega; rintro e w' ⟨rfl, hbc6⟩; obtain ⟨⟨dc6, osc6⟩, rfl⟩ := regrown_of_below hbc6; clear hbc6) | (go_at_call 44; (with_reducible refine cmono ?_ (O2.out _ hkb h0 ?_)); rotate_left; omega; rintro e w' ⟨rfl, hbc7⟩; obtain ⟨⟨dc7, osc7⟩, rfl⟩ := regrown_of_below hbc7; clear hbc7) | (go_at_call 45; (with_reducible refine cmono ?_ (M1.out _ ?_ ?_)); rotate_left; omega; omega; rintro e w' ⟨rfl, hbc8⟩; obtain ⟨⟨dc8, osc8⟩, rfl⟩ := regrown_of_below hbc8; clear hbc8) | (go_at_call 34; (with_reducible refine cmono ?_ (B1.out _)); rotate_left; rintro e w' ⟨rfl, hbc9⟩; obtain ⟨⟨dc9, osc9⟩, rfl⟩ := regrown_of_below hbc9; clear hbc9) | ((with_reducible refine wp_region_quiet_below ?_ ?_ ?_); kernel_rfl; kernel_rfl; (repeat (go_big_quiet_step (first | (go_at_call 38; (with_reducible refine Calls.regrown_of (HBB.out _ ?_ ?_ ?_ ?_ ?_ ?_ ?_ ?_)); omega; omega; omega; omega; omega; omega; omega; omega) | (go_at_call 32; (with_reducible refine Calls.regrown_of (HGG.out _))) | (go_at_call 32; (with_reducible refine Calls.regrown_of (HHH.out _))) | (go_at_call 41; (with_reducible refine Calls.regrown_of (T1.out _ ?_ ?_ ?_)); omega; omega; omega) | (go_at_call 41; (with_reducible refine Calls.regrown_of (T2.out _ ?_ ?_ ?_)); omega; omega; omega) | (go_at_call 43; (with_reducible refine Calls.regrown_of (P1H.out _ hm2 hn2))) | (go_at_call 44; (with_reducible refine Calls.regrown_of (O1.out _ hkb g0 ?_)); omega) | (go_at_call 44; (with_reducible refine Calls.regrown_of (O2.out _ hkb h0 ?_)); omega) | (go_at_call 45; (with_reducible refine Calls.regrown_of (M1.out _ ?_ ?_)); omega; omega) | (go_at_call 34; (with_reducible refine Calls.regrown_of (B1.out _)))))); refine wpQuiet_nil ?_; intro _ hw'; obtain ⟨⟨dq, osq⟩, hw''⟩ := hw'; subst hw'') | ((with_reducible refine wp_region_alloc_at 15 8 #[.bool false, .int .u64 0, .int .u64 0] 57 ?_ ?_ ?_ ?_); kernel_rfl; kernel_rfl; (intro _ _; simp [go_sem]); simp only [List.take_succ_cons, List.take_zero, List.drop_succ_cons, List.drop_zero]; (repeat (refine wpS_step (fun K hK => ?_); go_simp; first | (refine hK _ ?_; clear hK K) | (apply Exists.intro; refine ⟨fun _ => ?_, hK _ ?_⟩; (first | (go_at_call 38; (with_reducible refine kept_of (HBB.out _ ?_ ?_ ?_ ?_ ?_ ?_ ?_ ?_)); omega; omega; omega; omega; omega; omega; omega; omega) | (go_at_call 32; (with_reducible refine kept_of (HGG.out _))) | (go_at_call 32; (with_reducible refine kept_of (HHH.out _))) | (go_at_call 41; (with_reducible refine kept_of (T1.out _ ?_ ?_ ?_)); omega; omega; omega) | (go_at_call 41; (with_reducible refine kept_of (T2.out _ ?_ ?_ ?_)); omega; omega; omega) | (go_at_call 43; (with_reducible refine kept_of (P1H.out _ hm2 hn2))) | (go_at_call 44; (with_reducible refine kept_of (O1.out _ hkb g0 ?_)); omega) | (go_at_call 44; (with_reducible refine kept_of (O2.out _ hkb h0 ?_)); omega) | (go_at_call 45; (with_reducible refine kept_of (M1.out _ ?_ ?_)); omega; omega) | (go_at_call 34; (with_reducible refine kept_of (B1.out _)))); clear hK K))); refine wpS_nil ?_; rintro ⟨dp, op⟩ ⟨dq, oq⟩))
  refine bodyPost_ret (v := .tuple #[.agg #[.int .i64 (buildN s (k / h) (y * z)).1, .int .i64 (buildN s (k / h) (y * z)).2.1], .int .i64 (buildN s (k / h) (y * z)).2.2]) (by simp [results, Try.results22, go_sem]) rfl ⟨rfl, (by repeat (first | exact Below.refl _ _ | refine below_reg ?_ _ _ | refine below_alloc ?_ _ | exact below_drewN ?_ _ | assumption))⟩

theorem add_bad (p q r t : Int) (w : World) (p0 : -9223372036854775808 ≤ p) (p1 : p ≤ 9223372036854775807) (r0 : -9223372036854775808 ≤ r) (r1 : r ≤ 9223372036854775807)
    (q0 : -9223372036854775808 ≤ q) (q1 : q ≤ 9223372036854775807) (t0 : -9223372036854775808 ≤ t) (t1 : t ≤ 9223372036854775807) (hv : bth p q r t = 8) :
    Calls Try.prog 22 #[.agg #[.int .i64 p, .int .i64 q], .agg #[.int .i64 r, .int .i64 t]] w fun e w' =>
      e = .returned (.tuple #[.agg #[.int .i64 0, .int .i64 0], .int .i64 8]) ∧ Below w.heap.size w w' := by
  have HB := both_any p q r t
  rw [hv] at HB
  have HBB := Lib.hid HB
  clear HB hv
  go_enter Try.func22, Try.ntmps22
  go_wp2_with (first | (go_at_call 38; (with_reducible refine cmono ?_ (HBB.out _ ?_ ?_ ?_ ?_ ?_ ?_ ?_ ?_)); rotate_left; omega; omega; omega; omega; omega; omega; omega; omega; rintro e w' ⟨rfl, hbc0⟩; obtain ⟨⟨dc0, osc0⟩, rfl⟩ := regrown_of_below hbc0; clear hbc0) | ((with_reducible refine wp_region_quiet_below ?_ ?_ ?_); kernel_rfl; kernel_rfl; (repeat (go_big_quiet_step (first | (go_at_call 38; (with_reducible refine Calls.regrown_of (HBB.out _ ?_ ?_ ?_ ?_ ?_ ?_ ?_ ?_)); omega; omega; omega; omega; omega; omega; omega; omega)))); refine wpQuiet_nil ?_; intro _ hw'; obtain ⟨⟨dq, osq⟩, hw''⟩ := hw'; subst hw''))
  refine bodyPost_ret (v := .tuple #[.agg #[.int .i64 0, .int .i64 0], .int .i64 8]) (by simp [results, Try.results22, go_sem]) rfl ⟨rfl, (by repeat (first | exact Below.refl _ _ | refine below_reg ?_ _ _ | refine below_alloc ?_ _ | exact below_drewN ?_ _ | assumption))⟩

theorem bth_08 (n d m e : Int) : bth n d m e = 0 ∨ bth n d m e = 8 := by unfold bth; split <;> simp [chk_08]

theorem chk_ok {n d : Int} (h : chk n d = 0) : 1 ≤ d ∧ n ≠ -9223372036854775808 ∧ Nat.gcd d.toNat n.natAbs ≤ 1 := by
  unfold chk at h
  split at h
  · omega
  · omega
theorem bth_ok {n d m e : Int} (h : bth n d m e = 0) : chk n d = 0 ∧ chk m e = 0 := by
  unfold bth at h
  split at h
  · exact ⟨by assumption, h⟩
  · omega

/-- what Add gives: the sum, or an error -/
def addV (p q r t : Int) : Int × Int × Int := if bth p q r t = 0 then addR p q.toNat r t.toNat else (0, 0, 8)

theorem add_any (p q r t : Int) (w : World) (p0 : -9223372036854775808 ≤ p) (p1 : p ≤ 9223372036854775807) (q0 : -9223372036854775808 ≤ q) (q1 : q ≤ 9223372036854775807)
    (r0 : -9223372036854775808 ≤ r) (r1 : r ≤ 9223372036854775807) (t0 : -9223372036854775808 ≤ t) (t1 : t ≤ 9223372036854775807) :
    Calls Try.prog 22 #[.agg #[.int .i64 p, .int .i64 q], .agg #[.int .i64 r, .int .i64 t]] w fun e w' =>
      e = .returned (.tuple #[.agg #[.int .i64 (addV p q r t).1, .int .i64 (addV p q r t).2.1], .int .i64 (addV p q r t).2.2]) ∧ Below w.heap.size w w' := by
  unfold addV
  rcases bth_08 p q r t with hv | hv
  · rw [if_pos hv]
    obtain ⟨h1, h2⟩ := bth_ok hv
    obtain ⟨a1, a2, _⟩ := chk_ok h1
    obtain ⟨b1, b2, _⟩ := chk_ok h2
    obtain ⟨Q, rfl⟩ := Int.eq_ofNat_of_zero_le (show 0 ≤ q by omega)
    obtain ⟨T, rfl⟩ := Int.eq_ofNat_of_zero_le (show 0 ≤ t by omega)
    exact add_valid p r Q T w (by omega) p1 (by omega) r1 (by omega) (by omega) (by omega) (by omega) hv
  · rw [if_neg (by omega)]
    exact add_bad p q r t w p0 p1 r0 r1 q0 q1 t0 t1 hv

end Go.Proofs.Ytkobebnijkanhaa
