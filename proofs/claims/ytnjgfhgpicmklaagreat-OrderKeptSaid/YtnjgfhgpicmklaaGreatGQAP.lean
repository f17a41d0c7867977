import Derived.Test.YtnjgfhgpicmklaaGreatGQAO
set_option linter.all false
namespace Go.Proofs.YtnjgfhgpicmklaaGreat
open Go.RowKit Go.Sort
theorem rmade_two (x y z : Bool) (a b c d m n : Nat) (h1 : Two a b m) (h2 : Two c d n) (w : World) :
    Calls Tryz.prog 212 #[.bool x, .agg #[.bool y, .int .u64 a, .int .u64 b], .agg #[.bool z, .int .u64 c, .int .u64 d]] w fun e w' =>
      e = .returned (.tuple #[.agg #[.int .i64 (buildN x m n).1, .int .i64 (buildN x m n).2.1], .int .i64 (buildN x m n).2.2]) ∧ Below w.heap.size w w' := by
  refine (rmade_any x y z a b c d w h1.lo h2.lo).mono fun e w' ⟨he, hb⟩ => ⟨?_, hb⟩
  rw [he, h1.eq, h2.eq]
theorem buildN_zero (x y : Bool) (d : Nat) : buildN x 0 d = buildN y 0 d := by unfold buildN; cases x <;> cases y <;> simp
theorem addR_alt (p : Int) (q : Nat) (r : Int) (t : Nat) (g x y k h z : Nat) (hg : g = Nat.gcd q t) (hx : x = t / g) (hy : y = q / g) (hk : k = (p * x + r * y).natAbs) (hh : h = Nat.gcd g (k % g)) (hz : z = t / h) :
    addR p q r t = buildN (decide (p * x + r * y < 0)) (k / h) (y * z) := by
  unfold addR
  rw [← hg, ← hx, ← hy]
  obtain ⟨e1, e2⟩ := plus_rep p r x y
  rw [e1, ← hk, ← hh, ← hz]
  by_cases h0 : p * x + r * y = 0
  · have : k = 0 := by rw [hk, h0]; rfl
    rw [this, Nat.zero_div]
    exact buildN_zero _ _ _
  · rw [e2 h0]
set_option maxHeartbeats 4000000 in
theorem radd_valid (p r : Int) (q t : Nat) (w : World) (p0 : -9223372036854775807 ≤ p) (p1 : p ≤ 9223372036854775807) (r0 : -9223372036854775807 ≤ r) (r1 : r ≤ 9223372036854775807)
    (q0 : 0 < q) (q1 : q ≤ 9223372036854775807) (t0 : 0 < t) (t1 : t ≤ 9223372036854775807) (hv : bth p q r t = 0) :
    Calls Tryz.prog 187 #[.agg #[.int .i64 p, .int .i64 q], .agg #[.int .i64 r, .int .i64 t]] w fun e w' =>
      e = .returned (.tuple #[.agg #[.int .i64 (addR p q r t).1, .int .i64 (addR p q r t).2.1], .int .i64 (addR p q r t).2.2]) ∧ Below w.heap.size w w' := by
  have HB := rboth_any p q r t
  rw [hv] at HB
  have HBB := Lib.hid HB
  clear HB hv
  have g0 : 0 < Nat.gcd q t := Nat.gcd_pos_of_pos_left _ q0
  have gq : Nat.gcd q t ≤ q := Nat.le_of_dvd q0 (Nat.gcd_dvd_left _ _)
  have gt : Nat.gcd q t ≤ t := Nat.le_of_dvd t0 (Nat.gcd_dvd_right _ _)
  obtain ⟨g, hg⟩ : ∃ g, g = Nat.gcd q t := ⟨_, rfl⟩
  have HG := fun w => rcommon_any q t w
  rw [← hg] at g0 gq gt HG
  have HGG := Lib.hid HG
  have hx := Nat.div_le_self t g
  have hy := Nat.div_le_self q g
  have X : (t : Int).tdiv (g : Int) = ((t / g : Nat) : Int) := rfl
  have Y : (q : Int).tdiv (g : Int) = ((q / g : Nat) : Int) := rfl
  have X2 : (t : Int) / (g : Int) = ((t / g : Nat) : Int) := rfl
  have Y2 : (q : Int) / (g : Int) = ((q / g : Nat) : Int) := rfl
  clear HG
  have gz : ((g : Int) == 0) = false := by simp; omega
  have gn : ¬ g = 0 := by omega
  obtain ⟨x, hxd⟩ : ∃ x, x = t / g := ⟨_, rfl⟩
  obtain ⟨y, hyd⟩ : ∃ y, y = q / g := ⟨_, rfl⟩
  rw [← hxd] at hx X X2
  rw [← hyd] at hy Y Y2
  obtain ⟨a1, b1, h1⟩ := two_mk (p * x).natAbs
  obtain ⟨a2, b2, h2⟩ := two_mk (r * y).natAbs
  have m1 : (p * x).natAbs ≤ 9223372036854775807 * 9223372036854775807 := by
    rw [Int.natAbs_mul, Int.natAbs_natCast]; exact Nat.mul_le_mul (by omega) (by omega)
  have m2 : (r * y).natAbs ≤ 9223372036854775807 * 9223372036854775807 := by
    rw [Int.natAbs_mul, Int.natAbs_natCast]; exact Nat.mul_le_mul (by omega) (by omega)
  have T1 := Lib.hid (rProduct_any p x a1 b1 (by rw [← Int.natAbs_mul]; exact h1))
  have T2 := Lib.hid (rProduct_any r y a2 b2 (by rw [← Int.natAbs_mul]; exact h2))
  obtain ⟨k, hk⟩ : ∃ k, k = (p * x + r * y).natAbs := ⟨_, rfl⟩
  have hS : k ≤ (p * x).natAbs + (r * y).natAbs := by rw [hk]; exact Int.natAbs_add_le _ _
  have hkb : k < 9223372036854775807 * 18446744073709551616 := Nat.lt_of_le_of_lt hS (by omega)
  obtain ⟨a3, b3, h3⟩ := two_mk k
  have hm2 : (p * x).natAbs < 9223372036854775807 * 18446744073709551616 := Nat.lt_of_le_of_lt m1 (by decide)
  have hn2 : (r * y).natAbs < 9223372036854775807 * 18446744073709551616 := Nat.lt_of_le_of_lt m2 (by decide)
  have P1H := Lib.hid (fun w => rPlus_any (p * x) (r * y) a1 b1 a2 b2 a3 b3 h1 h2 (by rw [← hk]; exact h3) hm2 hn2 w)
  obtain ⟨h, hh⟩ : ∃ h, h = Nat.gcd g (k % g) := ⟨_, rfl⟩
  obtain ⟨z, hzd⟩ : ∃ z, z = t / h := ⟨_, rfl⟩
  rw [addR_alt p q r t g x y k h z hg hxd hyd hk hh hzd]
  obtain ⟨s1, hs1⟩ : ∃ s, s = decide (p * x < 0) := ⟨_, rfl⟩
  obtain ⟨s2, hs2⟩ : ∃ s, s = decide (r * y < 0) := ⟨_, rfl⟩
  obtain ⟨s, hs⟩ : ∃ s, s = decide (p * x + r * y < 0) := ⟨_, rfl⟩
  rw [← hs1] at T1 P1H
  rw [← hs2] at T2 P1H
  rw [← hs] at P1H ⊢
  obtain ⟨c1, c2, hc⟩ := two_mk (k / g)
  obtain ⟨e, he⟩ : ∃ e, e = k % g := ⟨_, rfl⟩
  have O1 := Lib.hid (fun w => rdivided_any s a3 b3 k g c1 c2 e h3 hc he hkb g0 (by omega) w)
  have heg := Nat.mod_lt k g0
  rw [← he] at heg hh
  have h0 : 0 < h := by rw [hh]; exact Nat.gcd_pos_of_pos_left _ g0
  have hle : h ≤ g := by rw [hh]; exact Nat.le_of_dvd g0 (Nat.gcd_dvd_left _ _)
  have HH := fun w => rcommon_any g e w
  rw [← hh] at HH
  have HHH := Lib.hid HH
  obtain ⟨d1, d2, hd⟩ := two_mk (k / h)
  have O2 := Lib.hid (fun w => rdivided_any s a3 b3 k h d1 d2 (k % h) h3 hd rfl hkb h0 (by omega) w)
  have tz := Nat.div_le_self t h
  have hz : ((h : Int) == 0) = false := by simp; omega
  have Xw := wrap_small x (by omega)
  have Yw := wrap_small y (by omega)
  have Z : IntKind.u64.wrap ((t : Int) / (h : Int)) = ((t / h : Nat) : Int) := by
    rw [IntKind.wrap_u64, ← Int.natCast_ediv]; exact Int.emod_eq_of_lt (Int.natCast_nonneg _) (by omega)
  have Z2 : (t : Int) / (h : Int) = ((t / h : Nat) : Int) := rfl
  rw [← hzd] at tz Z Z2
  obtain ⟨f1, f2, hf⟩ := two_mk (y * z)
  have M1 := Lib.hid (rproduct_any y z f1 f2 hf)
  have B1 := Lib.hid (rmade_two s false false d1 d2 f1 f2 (k / h) (y * z) hd hf)
  obtain ⟨kr, hkr⟩ : ∃ kr, kr = k % h := ⟨_, rfl⟩
  rw [← hkr] at O2
  clear hxd hyd hs hk he hh hzd hf hd hc h1 h2 h3 HH hS m1 m2 hkr hs1 hs2 hg hm2 hn2 hkb
  go_enter Tryz.func187, Tryz.ntmps187
  go_wp2_with (first | (go_at_call 211; (with_reducible refine cmono ?_ (HBB.out _ ?_ ?_ ?_ ?_ ?_ ?_ ?_ ?_)); rotate_left; omega; omega; omega; omega; omega; omega; omega; omega; rintro e w' ⟨rfl, hbc0⟩; obtain ⟨⟨dc0, osc0⟩, rfl⟩ := regrown_of_below hbc0; clear hbc0) | (go_at_call 129; (with_reducible refine cmono ?_ (HGG.out _)); rotate_left; rintro e w' ⟨rfl, hbc1⟩; obtain ⟨⟨dc1, osc1⟩, rfl⟩ := regrown_of_below hbc1; clear hbc1) | (go_at_call 129; (with_reducible refine cmono ?_ (HHH.out _)); rotate_left; rintro e w' ⟨rfl, hbc2⟩; obtain ⟨⟨dc2, osc2⟩, rfl⟩ := regrown_of_below hbc2; clear hbc2) | (go_at_call 181; (with_reducible refine cmono ?_ (T1.out _ ?_ ?_ ?_ ?_)); rotate_left; omega; omega; omega; omega; rintro e w' ⟨rfl, hbc3⟩; obtain ⟨⟨dc3, osc3⟩, rfl⟩ := regrown_of_below hbc3; clear hbc3) | (go_at_call 181; (with_reducible refine cmono ?_ (T2.out _ ?_ ?_ ?_ ?_)); rotate_left; omega; omega; omega; omega; rintro e w' ⟨rfl, hbc4⟩; obtain ⟨⟨dc4, osc4⟩, rfl⟩ := regrown_of_below hbc4; clear hbc4) | (go_at_call 188; (with_reducible refine cmono ?_ (P1H.out _)); rotate_left; rintro e w' ⟨rfl, hbc5⟩; obtain ⟨⟨dc5, osc5⟩, rfl⟩ := regrown_of_below hbc5; clear hbc5) | (go_at_call 213; (with_reducible refine cmono ?_ (O1.out _)); rotate_left; rintro e w' ⟨rfl, hbc6⟩; obtain ⟨⟨dc6, osc6⟩, rfl⟩ := regrown_of_below hbc6; clear hbc6) | (go_at_call 213; (with_reducible refine cmono ?_ (O2.out _)); rotate_left; rintro e w' ⟨rfl, hbc7⟩; obtain ⟨⟨dc7, osc7⟩, rfl⟩ := regrown_of_below hbc7; clear hbc7) | (go_at_call 207; (with_reducible refine cmono ?_ (M1.out _ ?_ ?_)); rotate_left; omega; omega; rintro e w' ⟨rfl, hbc8⟩; obtain ⟨⟨dc8, osc8⟩, rfl⟩ := regrown_of_below hbc8; clear hbc8) | (go_at_call 212; (with_reducible refine cmono ?_ (B1.out _)); rotate_left; rintro e w' ⟨rfl, hbc9⟩; obtain ⟨⟨dc9, osc9⟩, rfl⟩ := regrown_of_below hbc9; clear hbc9) | ((with_reducible refine wp_region_quiet_below ?_ ?_ ?_); kernel_rfl; kernel_rfl; (repeat (go_big_quiet_step (first | (go_at_call 211; (with_reducible refine Calls.regrown_of (HBB.out _ ?_ ?_ ?_ ?_ ?_ ?_ ?_ ?_)); omega; omega; omega; omega; omega; omega; omega; omega) | (go_at_call 129; (with_reducible refine Calls.regrown_of (HGG.out _))) | (go_at_call 129; (with_reducible refine Calls.regrown_of (HHH.out _))) | (go_at_call 181; (with_reducible refine Calls.regrown_of (T1.out _ ?_ ?_ ?_ ?_)); omega; omega; omega; omega) | (go_at_call 181; (with_reducible refine Calls.regrown_of (T2.out _ ?_ ?_ ?_ ?_)); omega; omega; omega; omega) | (go_at_call 188; (with_reducible refine Calls.regrown_of (P1H.out _))) | (go_at_call 213; (with_reducible refine Calls.regrown_of (O1.out _))) | (go_at_call 213; (with_reducible refine Calls.regrown_of (O2.out _))) | (go_at_call 207; (with_reducible refine Calls.regrown_of (M1.out _ ?_ ?_)); omega; omega) | (go_at_call 212; (with_reducible refine Calls.regrown_of (B1.out _)))))); refine wpQuiet_nil ?_; intro _ hw'; obtain ⟨⟨dq, osq⟩, hw''⟩ := hw'; subst hw'') | ((with_reducible refine wp_region_tail_below 17 ?_ ?_ ?_); kernel_rfl; kernel_rfl; simp only [List.take_succ_cons, List.take_zero, List.drop_succ_cons, List.drop_zero]; (repeat (go_big_quiet_step (first | (go_at_call 211; (with_reducible refine Calls.regrown_of (HBB.out _ ?_ ?_ ?_ ?_ ?_ ?_ ?_ ?_)); omega; omega; omega; omega; omega; omega; omega; omega) | (go_at_call 129; (with_reducible refine Calls.regrown_of (HGG.out _))) | (go_at_call 129; (with_reducible refine Calls.regrown_of (HHH.out _))) | (go_at_call 181; (with_reducible refine Calls.regrown_of (T1.out _ ?_ ?_ ?_ ?_)); omega; omega; omega; omega) | (go_at_call 181; (with_reducible refine Calls.regrown_of (T2.out _ ?_ ?_ ?_ ?_)); omega; omega; omega; omega) | (go_at_call 188; (with_reducible refine Calls.regrown_of (P1H.out _))) | (go_at_call 213; (with_reducible refine Calls.regrown_of (O1.out _))) | (go_at_call 213; (with_reducible refine Calls.regrown_of (O2.out _))) | (go_at_call 207; (with_reducible refine Calls.regrown_of (M1.out _ ?_ ?_)); omega; omega) | (go_at_call 212; (with_reducible refine Calls.regrown_of (B1.out _)))))); refine wpQuiet_nil ?_; intro _ hw'; obtain ⟨⟨dq, osq⟩, hw''⟩ := hw'; subst hw'') | ((with_reducible refine wp_region_alloc_at 15 7 #[.bool false, .int .u64 0, .int .u64 0] 245 ?_ ?_ ?_ ?_); kernel_rfl; kernel_rfl; (intro _ _; simp [go_sem]); simp only [List.take_succ_cons, List.take_zero, List.drop_succ_cons, List.drop_zero]; (repeat (refine wpS_step (fun K hK => ?_); go_simp; first | (refine hK _ ?_; clear hK K) | (apply Exists.intro; refine ⟨fun _ => ?_, hK _ ?_⟩; (first | (go_at_call 211; (with_reducible refine kept_of (HBB.out _ ?_ ?_ ?_ ?_ ?_ ?_ ?_ ?_)); omega; omega; omega; omega; omega; omega; omega; omega) | (go_at_call 129; (with_reducible refine kept_of (HGG.out _))) | (go_at_call 129; (with_reducible refine kept_of (HHH.out _))) | (go_at_call 181; (with_reducible refine kept_of (T1.out _ ?_ ?_ ?_ ?_)); omega; omega; omega; omega) | (go_at_call 181; (with_reducible refine kept_of (T2.out _ ?_ ?_ ?_ ?_)); omega; omega; omega; omega) | (go_at_call 188; (with_reducible refine kept_of (P1H.out _))) | (go_at_call 213; (with_reducible refine kept_of (O1.out _))) | (go_at_call 213; (with_reducible refine kept_of (O2.out _))) | (go_at_call 207; (with_reducible refine kept_of (M1.out _ ?_ ?_)); omega; omega) | (go_at_call 212; (with_reducible refine kept_of (B1.out _)))); clear hK K))); refine wpS_nil ?_; rintro ⟨dp, op⟩ ⟨dq, oq⟩))
  refine bodyPost_ret (v := .tuple #[.agg #[.int .i64 (buildN s (k / h) (y * z)).1, .int .i64 (buildN s (k / h) (y * z)).2.1], .int .i64 (buildN s (k / h) (y * z)).2.2]) (by simp [results, Tryz.results187, go_sem]) rfl ⟨rfl, (by repeat (first | exact Below.refl _ _ | refine below_reg ?_ _ _ | refine below_alloc ?_ _ | exact below_drewN ?_ _ | assumption))⟩
theorem radd_any (p q r t : Int) (w : World) (p0 : -9223372036854775808 ≤ p) (p1 : p ≤ 9223372036854775807) (q0 : -9223372036854775808 ≤ q) (q1 : q ≤ 9223372036854775807)
    (r0 : -9223372036854775808 ≤ r) (r1 : r ≤ 9223372036854775807) (t0 : -9223372036854775808 ≤ t) (t1 : t ≤ 9223372036854775807) :
    Calls Tryz.prog 187 #[.agg #[.int .i64 p, .int .i64 q], .agg #[.int .i64 r, .int .i64 t]] w fun e w' =>
      e = .returned (.tuple #[.agg #[.int .i64 (addV p q r t).1, .int .i64 (addV p q r t).2.1], .int .i64 (addV p q r t).2.2]) ∧ Below w.heap.size w w' := by
  unfold addV
  rcases bth_08 p q r t with hv | hv
  · rw [if_pos hv]
    obtain ⟨h1, h2⟩ := bth_ok hv
    obtain ⟨a1, a2, _⟩ := chk_ok h1
    obtain ⟨b1, b2, _⟩ := chk_ok h2
    obtain ⟨Q, rfl⟩ := Int.eq_ofNat_of_zero_le (show 0 ≤ q by omega)
    obtain ⟨T, rfl⟩ := Int.eq_ofNat_of_zero_le (show 0 ≤ t by omega)
    exact radd_valid p r Q T w (by omega) p1 (by omega) r1 (by omega) (by omega) (by omega) (by omega) hv
  · rw [if_neg (by omega)]
    have HB := rboth_any p q r t
    rw [hv] at HB
    have HBB := Lib.hid HB
    clear HB hv
    go_enter Tryz.func187, Tryz.ntmps187
    go_wp2_with (first | (go_at_call 211; (with_reducible refine cmono ?_ (HBB.out _ ?_ ?_ ?_ ?_ ?_ ?_ ?_ ?_)); rotate_left; omega; omega; omega; omega; omega; omega; omega; omega; rintro e w' ⟨rfl, hbc0⟩; obtain ⟨⟨dc0, osc0⟩, rfl⟩ := regrown_of_below hbc0; clear hbc0) | ((with_reducible refine wp_region_quiet_below ?_ ?_ ?_); kernel_rfl; kernel_rfl; (repeat (go_big_quiet_step (first | (go_at_call 211; (with_reducible refine Calls.regrown_of (HBB.out _ ?_ ?_ ?_ ?_ ?_ ?_ ?_ ?_)); omega; omega; omega; omega; omega; omega; omega; omega)))); refine wpQuiet_nil ?_; intro _ hw'; obtain ⟨⟨dq, osq⟩, hw''⟩ := hw'; subst hw''))
    refine bodyPost_ret (v := .tuple #[.agg #[.int .i64 0, .int .i64 0], .int .i64 8]) (by simp [results, Tryz.results187, go_sem]) rfl ⟨rfl, (by repeat (first | exact Below.refl _ _ | refine below_reg ?_ _ _ | refine below_alloc ?_ _ | exact below_drewN ?_ _ | assumption))⟩
theorem rsub_any (p q r t : Int) (w : World) (p0 : -9223372036854775808 ≤ p) (p1 : p ≤ 9223372036854775807) (q0 : -9223372036854775808 ≤ q) (q1 : q ≤ 9223372036854775807)
    (r0 : -9223372036854775808 ≤ r) (r1 : r ≤ 9223372036854775807) (t0 : -9223372036854775808 ≤ t) (t1 : t ≤ 9223372036854775807) :
    Calls Tryz.prog 190 #[.agg #[.int .i64 p, .int .i64 q], .agg #[.int .i64 r, .int .i64 t]] w fun e w' =>
      e = .returned (.tuple #[.agg #[.int .i64 (subV p q r t).1, .int .i64 (subV p q r t).2.1], .int .i64 (subV p q r t).2.2]) ∧ Below w.heap.size w w' := by
  unfold subV
  have HB := rboth_any p q r t
  rcases bth_08 p q r t with hv | hv
  all_goals
    rw [hv] at HB
    have HBB := Lib.hid HB
    clear HB
  · rw [if_pos hv]
    obtain ⟨h1, h2⟩ := bth_ok hv
    obtain ⟨b1, b2, _⟩ := chk_ok h2
    clear hv h1 h2
    have r2 : -9223372036854775807 ≤ r := by omega
    go_enter Tryz.func190, Tryz.ntmps190
    go_wp2_with (first | (go_at_call 211; (with_reducible refine cmono ?_ (HBB.out _ ?_ ?_ ?_ ?_ ?_ ?_ ?_ ?_)); rotate_left; omega; omega; omega; omega; omega; omega; omega; omega; rintro e w' ⟨rfl, hbc0⟩; obtain ⟨⟨dc0, osc0⟩, rfl⟩ := regrown_of_below hbc0; clear hbc0) | (go_at_call 187; (with_reducible refine cmono ?_ (radd_any _ _ _ _ _ ?_ ?_ ?_ ?_ ?_ ?_ ?_ ?_)); rotate_left; omega; omega; omega; omega; omega; omega; omega; omega; rintro e w' ⟨rfl, hbc1⟩; obtain ⟨⟨dc1, osc1⟩, rfl⟩ := regrown_of_below hbc1; clear hbc1) | ((with_reducible refine wp_region_quiet_below ?_ ?_ ?_); kernel_rfl; kernel_rfl; (repeat (go_big_quiet_step (first | (go_at_call 211; (with_reducible refine Calls.regrown_of (HBB.out _ ?_ ?_ ?_ ?_ ?_ ?_ ?_ ?_)); omega; omega; omega; omega; omega; omega; omega; omega) | (go_at_call 187; (with_reducible refine Calls.regrown_of (radd_any _ _ _ _ _ ?_ ?_ ?_ ?_ ?_ ?_ ?_ ?_)); omega; omega; omega; omega; omega; omega; omega; omega)))); refine wpQuiet_nil ?_; intro _ hw'; obtain ⟨⟨dq, osq⟩, hw''⟩ := hw'; subst hw''))
    refine bodyPost_ret (v := .tuple #[.agg #[.int .i64 (addV p q (-r) t).1, .int .i64 (addV p q (-r) t).2.1], .int .i64 (addV p q (-r) t).2.2]) (by simp [results, Tryz.results190, go_sem]) rfl ⟨rfl, (by repeat (first | exact Below.refl _ _ | refine below_reg ?_ _ _ | refine below_alloc ?_ _ | exact below_drewN ?_ _ | assumption))⟩
  · rw [if_neg (by omega)]
    clear hv
    go_enter Tryz.func190, Tryz.ntmps190
    go_wp2_with (first | (go_at_call 211; (with_reducible refine cmono ?_ (HBB.out _ ?_ ?_ ?_ ?_ ?_ ?_ ?_ ?_)); rotate_left; omega; omega; omega; omega; omega; omega; omega; omega; rintro e w' ⟨rfl, hbc0⟩; obtain ⟨⟨dc0, osc0⟩, rfl⟩ := regrown_of_below hbc0; clear hbc0) | ((with_reducible refine wp_region_quiet_below ?_ ?_ ?_); kernel_rfl; kernel_rfl; (repeat (go_big_quiet_step (first | (go_at_call 211; (with_reducible refine Calls.regrown_of (HBB.out _ ?_ ?_ ?_ ?_ ?_ ?_ ?_ ?_)); omega; omega; omega; omega; omega; omega; omega; omega)))); refine wpQuiet_nil ?_; intro _ hw'; obtain ⟨⟨dq, osq⟩, hw''⟩ := hw'; subst hw''))
    refine bodyPost_ret (v := .tuple #[.agg #[.int .i64 0, .int .i64 0], .int .i64 8]) (by simp [results, Tryz.results190, go_sem]) rfl ⟨rfl, (by repeat (first | exact Below.refl _ _ | refine below_reg ?_ _ _ | refine below_alloc ?_ _ | exact below_drewN ?_ _ | assumption))⟩
end Go.Proofs.YtnjgfhgpicmklaaGreat
