

/- What the reference of layer 1 computes, first part, step by step (walks): size, common, Check, Asked, made, Make, Of, Floor. The same numbers as package ratio. -/
import Derived.Test.YtffamgiknfphaaaRatF
namespace Go.Proofs.Ytffamgiknfphaaa
open Go.RowKit Go.Sort
set_option linter.unusedVariables false

theorem rcommon_any (a b : Nat) (w : World) :
    Calls Try.prog 44 #[.int .u64 a, .int .u64 b] w fun e w' => e = .returned (.int .u64 (Nat.gcd a b : Nat)) ∧ Below w.heap.size w w' := by
  go_enter Try.func44, Try.ntmps44
  go_wp2
  go_loopw [0, 1] (fun x y wr => ∃ n m : Nat, x = .int .u64 n ∧ y = .int .u64 m ∧ Hid (Nat.gcd n m = Nat.gcd a b) ∧ Below w.heap.size w wr) (fun _ y _ => (intOf y).toNat)
  case atStart => exact ⟨a, b, rfl, rfl, Lib.hid rfl, Below.refl _ _⟩
  case round =>
    obtain ⟨n, m, rfl, rfl, hg, hb⟩ := hrel
    by_cases h0 : 0 < m
    · have hz : ((m : Int) != 0) = true := by simp; omega
      have hz2 : ((m : Int) == 0) = false := by simp; omega
      go_wp2
      go_quiet (fail)
      go_wp2
      have hlt := Nat.mod_lt n h0
      refine ⟨⟨m, n % m, rfl, by simp, Lib.hid ?_, below_drewN hb _⟩, ?_⟩
      · rw [← hg.out, Nat.gcd_comm n m, Nat.gcd_rec m n, Nat.gcd_comm]
      · show ((n : Int) % (m : Int)).toNat < ((m : Int)).toNat
        omega
    · obtain rfl : m = 0 := by omega
      go_wp2
      go_ret
      refine ⟨ret_int ?_, hb⟩
      rw [← hg.out]
      simp

theorem rsize_any (n : Int) (w : World) (h0 : -9223372036854775808 ≤ n) (h1 : n ≤ 9223372036854775807) :
    Calls Try.prog 45 #[.int .i64 n] w fun e w' => e = .returned (.int .u64 (n.natAbs : Nat)) ∧ Below w.heap.size w w' := by
  by_cases hn : n < 0
  · go_enter Try.func45, Try.ntmps45
    go_wp2_with (first | ((with_reducible refine wp_region_quiet_below ?_ ?_ ?_); kernel_rfl; kernel_rfl; (repeat (go_big_quiet_step (fail))); refine wpQuiet_nil ?_; intro _ hw'; obtain ⟨⟨dq, osq⟩, hw''⟩ := hw'; subst hw''))
    go_ret
    refine ⟨ret_int ?_, Below.refl _ _⟩
    show -(n + 1) + 1 = _
    omega
  · go_enter Try.func45, Try.ntmps45
    go_wp2_with (first | ((with_reducible refine wp_region_quiet_below ?_ ?_ ?_); kernel_rfl; kernel_rfl; (repeat (go_big_quiet_step (fail))); refine wpQuiet_nil ?_; intro _ hw'; obtain ⟨⟨dq, osq⟩, hw''⟩ := hw'; subst hw''))
    go_ret
    refine ⟨ret_int ?_, Below.refl _ _⟩
    omega

theorem chk_alt (n d : Int) (hd : 1 ≤ d) (hn : n ≠ -9223372036854775808) : chk n d = if Nat.gcd n.natAbs d.toNat ≤ 1 then 0 else 8 := by
  unfold chk
  rw [Nat.gcd_comm]
  split <;> split <;> first | rfl | omega

theorem rcheck_any (n d : Int) (w : World) (h0 : -9223372036854775808 ≤ n) (h1 : n ≤ 9223372036854775807) (h2 : -9223372036854775808 ≤ d) (h3 : d ≤ 9223372036854775807) :
    Calls Try.prog 24 #[.agg #[.int .i64 n, .int .i64 d]] w fun e w' => e = .returned (.int .i64 (chk n d)) ∧ Below w.heap.size w w' := by
  by_cases hd : d < 1
  · have hch : chk n d = 8 := by unfold chk; rw [if_pos (.inl hd)]
    rw [hch]
    go_enter Try.func24, Try.ntmps24
    go_wp2_with (first | ((with_reducible refine wp_region_quiet_below ?_ ?_ ?_); kernel_rfl; kernel_rfl; (repeat (go_big_quiet_step (fail))); refine wpQuiet_nil ?_; intro _ hw'; obtain ⟨⟨dq, osq⟩, hw''⟩ := hw'; subst hw''))
    go_ret
    exact ⟨rfl, (by repeat (first | exact Below.refl _ _ | refine below_reg ?_ _ _ | refine below_alloc ?_ _ | exact below_drewN ?_ _ | assumption))⟩
  · have hdf : decide (d < 1) = false := by simpa using hd
    by_cases hm : n = -9223372036854775808
    · have hch : chk n d = 8 := by unfold chk; rw [if_pos (.inr (.inl hm))]
      rw [hch]
      have hmb : (n == -9223372036854775808) = true := by simpa using hm
      clear hm
      go_enter Try.func24, Try.ntmps24
      go_wp2_with (first | ((with_reducible refine wp_region_quiet_below ?_ ?_ ?_); kernel_rfl; kernel_rfl; (repeat (go_big_quiet_step (fail))); refine wpQuiet_nil ?_; intro _ hw'; obtain ⟨⟨dq, osq⟩, hw''⟩ := hw'; subst hw''))
      go_ret
      exact ⟨rfl, (by repeat (first | exact Below.refl _ _ | refine below_reg ?_ _ _ | refine below_alloc ?_ _ | exact below_drewN ?_ _ | assumption))⟩
    · have hmb : (n == -9223372036854775808) = false := by simpa using hm
      rw [chk_alt n d (by omega) hm]
      obtain ⟨e, rfl⟩ := Int.eq_ofNat_of_zero_le (show 0 ≤ d by omega)
      rw [Int.toNat_natCast]
      obtain ⟨g, hg⟩ : ∃ g, g = Nat.gcd n.natAbs e := ⟨_, rfl⟩
      have HG := fun w => rcommon_any n.natAbs e w
      have hg0 : 0 < g := by rw [hg]; exact Nat.gcd_pos_of_pos_right _ (by omega)
      rw [← hg] at HG ⊢
      have HGG := Lib.hid HG
      clear hg HG hm
      cases hb : ((g : Int) != 1)
      · rw [if_pos (by simp at hb; omega)]
        go_enter Try.func24, Try.ntmps24
        go_wp2_with (first | (go_at_call 45; (with_reducible refine cmono ?_ (rsize_any _ _ ?_ ?_)); rotate_left; omega; omega; rintro e w' ⟨rfl, hbc0⟩; obtain ⟨⟨dc0, osc0⟩, rfl⟩ := regrown_of_below hbc0; clear hbc0) | (go_at_call 44; (with_reducible refine cmono ?_ (HGG.out _)); rotate_left; rintro e w' ⟨rfl, hbc1⟩; obtain ⟨⟨dc1, osc1⟩, rfl⟩ := regrown_of_below hbc1; clear hbc1) | ((with_reducible refine wp_region_quiet_below ?_ ?_ ?_); kernel_rfl; kernel_rfl; (repeat (go_big_quiet_step (first | (go_at_call 45; (with_reducible refine Calls.regrown_of (rsize_any _ _ ?_ ?_)); omega; omega) | (go_at_call 44; (with_reducible refine Calls.regrown_of (HGG.out _)))))); refine wpQuiet_nil ?_; intro _ hw'; obtain ⟨⟨dq, osq⟩, hw''⟩ := hw'; subst hw''))
        go_ret
        exact ⟨rfl, (by repeat (first | exact Below.refl _ _ | refine below_reg ?_ _ _ | refine below_alloc ?_ _ | exact below_drewN ?_ _ | assumption))⟩
      · rw [if_neg (by simp at hb; omega)]
        go_enter Try.func24, Try.ntmps24
        go_wp2_with (first | (go_at_call 45; (with_reducible refine cmono ?_ (rsize_any _ _ ?_ ?_)); rotate_left; omega; omega; rintro e w' ⟨rfl, hbc0⟩; obtain ⟨⟨dc0, osc0⟩, rfl⟩ := regrown_of_below hbc0; clear hbc0) | (go_at_call 44; (with_reducible refine cmono ?_ (HGG.out _)); rotate_left; rintro e w' ⟨rfl, hbc1⟩; obtain ⟨⟨dc1, osc1⟩, rfl⟩ := regrown_of_below hbc1; clear hbc1) | ((with_reducible refine wp_region_quiet_below ?_ ?_ ?_); kernel_rfl; kernel_rfl; (repeat (go_big_quiet_step (first | (go_at_call 45; (with_reducible refine Calls.regrown_of (rsize_any _ _ ?_ ?_)); omega; omega) | (go_at_call 44; (with_reducible refine Calls.regrown_of (HGG.out _)))))); refine wpQuiet_nil ?_; intro _ hw'; obtain ⟨⟨dq, osq⟩, hw''⟩ := hw'; subst hw''))
        go_ret
        exact ⟨rfl, (by repeat (first | exact Below.refl _ _ | refine below_reg ?_ _ _ | refine below_alloc ?_ _ | exact below_drewN ?_ _ | assumption))⟩

theorem floor_ref (n d : Int) (h : chk n d = 0) : n / d = if (decide (0 ≤ n) || (d == 1)) then n.tdiv d else n.tdiv d - 1 := by
  obtain ⟨h1, h2, h3⟩ := chk_ok h
  have he := Int.tdiv_eq_ediv (a := n) (b := d)
  rw [he]
  by_cases hn : 0 ≤ n
  · simp [hn]
  · by_cases hd : d = 1
    · subst hd; simp
    · have hdv : ¬ d ∣ n := by
        intro hdv
        have : d.toNat ∣ Nat.gcd d.toNat n.natAbs := Nat.dvd_gcd (Nat.dvd_refl _) (by
          have := Int.natAbs_dvd_natAbs.2 hdv
          rwa [show d.natAbs = d.toNat by omega] at this)
        have := Nat.le_of_dvd (Nat.gcd_pos_of_pos_left _ (by omega)) this
        omega
      have hs : d.sign = 1 := Int.sign_eq_one_of_pos (by omega)
      simp [hn, hd, hdv, hs]

theorem rboth_any (n d m e : Int) (w : World) (h0 : -9223372036854775808 ≤ n) (h1 : n ≤ 9223372036854775807) (h2 : -9223372036854775808 ≤ d) (h3 : d ≤ 9223372036854775807)
    (k0 : -9223372036854775808 ≤ m) (k1 : m ≤ 9223372036854775807) (k2 : -9223372036854775808 ≤ e) (k3 : e ≤ 9223372036854775807) :
    Calls Try.prog 59 #[.agg #[.int .i64 n, .int .i64 d], .agg #[.int .i64 m, .int .i64 e]] w fun en w' => en = .returned (.int .i64 (bth n d m e)) ∧ Below w.heap.size w w' := by
  have c1 := chk_08 n d
  go_enter Try.func59, Try.ntmps59
  go_wp2_with (first | (go_at_call 24; (with_reducible refine cmono ?_ (rcheck_any _ _ _ ?_ ?_ ?_ ?_)); rotate_left; omega; omega; omega; omega; rintro e w' ⟨rfl, hbc0⟩; obtain ⟨⟨dc0, osc0⟩, rfl⟩ := regrown_of_below hbc0; clear hbc0) | ((with_reducible refine wp_region_quiet_below ?_ ?_ ?_); kernel_rfl; kernel_rfl; (repeat (go_big_quiet_step (first | (go_at_call 24; (with_reducible refine Calls.regrown_of (rcheck_any _ _ _ ?_ ?_ ?_ ?_)); omega; omega; omega; omega)))); refine wpQuiet_nil ?_; intro _ hw'; obtain ⟨⟨dq, osq⟩, hw''⟩ := hw'; subst hw''))
  all_goals (go_ret; refine ⟨ret_int ?_, (by repeat (first | exact Below.refl _ _ | refine below_reg ?_ _ _ | refine below_alloc ?_ _ | exact below_drewN ?_ _ | assumption))⟩)
  all_goals (simp only [bne_iff_ne, bne_eq_false_iff_eq, ne_eq] at *)
  all_goals (unfold bth; first | rw [if_pos (by omega)] | (rw [if_neg (by omega)]; omega))

theorem rmade_any (x y z : Bool) (a b c d : Nat) (w : World) (hb : b < 18446744073709551616) (hd : d < 18446744073709551616) :
    Calls Try.prog 60 #[.bool x, .agg #[.bool y, .int .u64 a, .int .u64 b], .agg #[.bool z, .int .u64 c, .int .u64 d]] w fun e w' =>
      e = .returned (.tuple #[.agg #[.int .i64 (buildN x (a * 18446744073709551616 + b) (c * 18446744073709551616 + d)).1, .int .i64 (buildN x (a * 18446744073709551616 + b) (c * 18446744073709551616 + d)).2.1],
        .int .i64 (buildN x (a * 18446744073709551616 + b) (c * 18446744073709551616 + d)).2.2]) ∧ Below w.heap.size w w' := by
  by_cases hfit : a = 0 ∧ c = 0 ∧ b ≤ 9223372036854775807 ∧ d ≤ 9223372036854775807
  · obtain ⟨rfl, rfl, h1, h2⟩ := hfit
    have hB : buildN x (0 * 18446744073709551616 + b) (0 * 18446744073709551616 + d) = (if x then -(b : Int) else b, (d : Int), 0) := by
      unfold buildN; rw [if_pos ⟨by omega, by omega⟩]; simp
    rw [hB]
    clear hB
    cases x
    · go_enter Try.func60, Try.ntmps60
      go_wp2_with (first | ((with_reducible refine wp_region_quiet_below ?_ ?_ ?_); kernel_rfl; kernel_rfl; (repeat (go_big_quiet_step (fail))); refine wpQuiet_nil ?_; intro _ hw'; obtain ⟨⟨dq, osq⟩, hw''⟩ := hw'; subst hw''))
      refine bodyPost_ret (v := .tuple #[.agg #[.int .i64 (b : Int), .int .i64 (d : Int)], .int .i64 0]) (by simp [results, Try.results60, go_sem]) rfl ⟨rfl, (by repeat (first | exact Below.refl _ _ | refine below_reg ?_ _ _ | refine below_alloc ?_ _ | exact below_drewN ?_ _ | assumption))⟩
    · go_enter Try.func60, Try.ntmps60
      go_wp2_with (first | ((with_reducible refine wp_region_quiet_below ?_ ?_ ?_); kernel_rfl; kernel_rfl; (repeat (go_big_quiet_step (fail))); refine wpQuiet_nil ?_; intro _ hw'; obtain ⟨⟨dq, osq⟩, hw''⟩ := hw'; subst hw''))
      refine bodyPost_ret (v := .tuple #[.agg #[.int .i64 (-(b : Int)), .int .i64 (d : Int)], .int .i64 0]) (by simp [results, Try.results60, go_sem]) rfl ⟨rfl, (by repeat (first | exact Below.refl _ _ | refine below_reg ?_ _ _ | refine below_alloc ?_ _ | exact below_drewN ?_ _ | assumption))⟩
  · have hB : buildN x (a * 18446744073709551616 + b) (c * 18446744073709551616 + d) = (0, 0, 16) := by
      unfold buildN; rw [if_neg (by omega)]
    rw [hB]
    clear hB
    go_enter Try.func60, Try.ntmps60
    go_wp2_with (first | ((with_reducible refine wp_region_quiet_below ?_ ?_ ?_); kernel_rfl; kernel_rfl; (repeat (go_big_quiet_step (fail))); refine wpQuiet_nil ?_; intro _ hw'; obtain ⟨⟨dq, osq⟩, hw''⟩ := hw'; subst hw''))
    all_goals first
      | (exfalso; omega)
      | refine bodyPost_ret (v := .tuple #[.agg #[.int .i64 0, .int .i64 0], .int .i64 16]) (by simp [results, Try.results60, go_sem]) rfl ⟨rfl, (by repeat (first | exact Below.refl _ _ | refine below_reg ?_ _ _ | refine below_alloc ?_ _ | exact below_drewN ?_ _ | assumption))⟩

set_option maxHeartbeats 4000000 in
theorem rmakeV_any (n d : Int) (w : World) (h0 : -9223372036854775808 ≤ n) (h1 : n ≤ 9223372036854775807) (h2 : -9223372036854775808 ≤ d) (h3 : d ≤ 9223372036854775807) :
    Calls Try.prog 55 #[.int .i64 n, .int .i64 d] w fun e w' =>
      e = .returned (.tuple #[.agg #[.int .i64 (makeV n d).1, .int .i64 (makeV n d).2.1], .int .i64 (makeV n d).2.2]) ∧ Below w.heap.size w w' := by
  unfold makeV
  by_cases hd : d = 0
  · subst hd
    rw [if_pos rfl]
    go_enter Try.func55, Try.ntmps55
    go_wp2_with (first | ((with_reducible refine wp_region_quiet_below ?_ ?_ ?_); kernel_rfl; kernel_rfl; (repeat (go_big_quiet_step (fail))); refine wpQuiet_nil ?_; intro _ hw'; obtain ⟨⟨dq, osq⟩, hw''⟩ := hw'; subst hw''))
    refine bodyPost_ret (v := .tuple #[.agg #[.int .i64 0, .int .i64 0], .int .i64 26]) (by simp [results, Try.results55, go_sem]) rfl ⟨rfl, (by repeat (first | exact Below.refl _ _ | refine below_reg ?_ _ _ | refine below_alloc ?_ _ | exact below_drewN ?_ _ | assumption))⟩
  · rw [if_neg hd]
    have hz : (d == 0) = false := by simpa using hd
    have hg1 : 0 < Nat.gcd n.natAbs d.natAbs := Nat.gcd_pos_of_pos_right _ (by omega)
    have hna := Nat.div_le_self n.natAbs (Nat.gcd n.natAbs d.natAbs)
    have hda := Nat.div_le_self d.natAbs (Nat.gcd n.natAbs d.natAbs)
    obtain ⟨g, hgd⟩ : ∃ g, g = Nat.gcd n.natAbs d.natAbs := ⟨_, rfl⟩
    have HG := fun w => rcommon_any n.natAbs d.natAbs w
    rw [← hgd] at hg1 hna hda HG ⊢
    have HGG := Lib.hid HG
    clear HG hgd
    have hgz : ((g : Int) == 0) = false := by simp; omega
    have W1 : IntKind.u64.wrap ((n.natAbs : Int) / (g : Int)) = ((n.natAbs / g : Nat) : Int) := by
      rw [IntKind.wrap_u64, ← Int.natCast_ediv]; exact Int.emod_eq_of_lt (Int.natCast_nonneg _) (by omega)
    have W2 : IntKind.u64.wrap ((d.natAbs : Int) / (g : Int)) = ((d.natAbs / g : Nat) : Int) := by
      rw [IntKind.wrap_u64, ← Int.natCast_ediv]; exact Int.emod_eq_of_lt (Int.natCast_nonneg _) (by omega)
    obtain ⟨x, hx⟩ : ∃ x, x = n.natAbs / g := ⟨_, rfl⟩
    obtain ⟨y, hy⟩ : ∃ y, y = d.natAbs / g := ⟨_, rfl⟩
    have hx0 : n = 0 → x = 0 := by intro h; rw [hx, h]; simp
    rw [← hx] at hna W1 ⊢
    rw [← hy] at hda W2 ⊢
    have HB : ∀ (s : Bool), (s = (!(decide (n < 0) == decide (d < 0))) ∨ x = 0) → ∀ w, Calls Try.prog 60 #[.bool s, .agg #[.bool false, .int .u64 0, .int .u64 x], .agg #[.bool false, .int .u64 0, .int .u64 y]] w fun e w' =>
        e = .returned (.tuple #[.agg #[.int .i64 (buildN (!(decide (n < 0) == decide (d < 0))) x y).1, .int .i64 (buildN (!(decide (n < 0) == decide (d < 0))) x y).2.1], .int .i64 (buildN (!(decide (n < 0) == decide (d < 0))) x y).2.2]) ∧ Below w.heap.size w w' := by
      intro s hs w
      have h := rmade_any s false false 0 x 0 y w (by omega) (by omega)
      simp only [Nat.zero_mul, Nat.zero_add, cast0] at h
      have e : buildN s x y = buildN (!(decide (n < 0) == decide (d < 0))) x y := by
        rcases hs with hs | hs
        · rw [hs]
        · subst hs; unfold buildN; split <;> cases s <;> cases (!(decide (n < 0) == decide (d < 0))) <;> simp
      rw [e] at h
      exact h
    have HBB := Lib.hid HB
    clear HB hx hy
    obtain ⟨V, hV⟩ : ∃ V, V = buildN (!(decide (n < 0) == decide (d < 0))) x y := ⟨_, rfl⟩
    rw [← hV] at HBB ⊢
    clear hV
    obtain ⟨s, hs, hs2⟩ : ∃ s : Bool, s = ((!(decide (n < 0) == decide (d < 0))) && !(n == 0)) ∧ (s = (!(decide (n < 0) == decide (d < 0))) ∨ x = 0) := by
      refine ⟨_, rfl, ?_⟩
      by_cases h : n = 0
      · right; exact hx0 h
      · left; simp [h]
    have HS := Lib.hid (HBB.out s hs2)
    clear hs2
    cases hn : decide (n < 0) <;> cases hdd : decide (d < 0) <;> cases hn0 : (n == 0)
    all_goals first | (exfalso; simp at hn hn0; omega) | skip
    all_goals
      rw [hn, hdd, hn0] at hs
      simp at hs
      subst hs
      have hn1 : (n != 0) = !(n == 0) := rfl
      rw [hn0] at hn1
      simp only [Bool.not_true, Bool.not_false] at hn1
      go_enter Try.func55, Try.ntmps55
      go_wp2_with (first | (go_at_call 45; (with_reducible refine cmono ?_ (rsize_any _ _ ?_ ?_)); rotate_left; omega; omega; rintro e w' ⟨rfl, hbc0⟩; obtain ⟨⟨dc0, osc0⟩, rfl⟩ := regrown_of_below hbc0; clear hbc0) | (go_at_call 44; (with_reducible refine cmono ?_ (HGG.out _)); rotate_left; rintro e w' ⟨rfl, hbc1⟩; obtain ⟨⟨dc1, osc1⟩, rfl⟩ := regrown_of_below hbc1; clear hbc1) | (go_at_call 60; (with_reducible refine cmono ?_ (HS.out _)); rotate_left; rintro e w' ⟨rfl, hbc2⟩; obtain ⟨⟨dc2, osc2⟩, rfl⟩ := regrown_of_below hbc2; clear hbc2) | ((with_reducible refine wp_region_quiet_below ?_ ?_ ?_); kernel_rfl; kernel_rfl; (repeat (go_big_quiet_step (first | (go_at_call 45; (with_reducible refine Calls.regrown_of (rsize_any _ _ ?_ ?_)); omega; omega) | (go_at_call 44; (with_reducible refine Calls.regrown_of (HGG.out _))) | (go_at_call 60; (with_reducible refine Calls.regrown_of (HS.out _)))))); refine wpQuiet_nil ?_; intro _ hw'; obtain ⟨⟨dq, osq⟩, hw''⟩ := hw'; subst hw'') | ((with_reducible refine wp_region_tail_below 22 ?_ ?_ ?_); kernel_rfl; kernel_rfl; simp only [List.take_succ_cons, List.take_zero, List.drop_succ_cons, List.drop_zero]; (repeat (go_big_quiet_step (first | (go_at_call 45; (with_reducible refine Calls.regrown_of (rsize_any _ _ ?_ ?_)); omega; omega) | (go_at_call 44; (with_reducible refine Calls.regrown_of (HGG.out _))) | (go_at_call 60; (with_reducible refine Calls.regrown_of (HS.out _)))))); refine wpQuiet_nil ?_; intro _ hw'; obtain ⟨⟨dq, osq⟩, hw''⟩ := hw'; subst hw''))
      refine bodyPost_ret (v := .tuple #[.agg #[.int .i64 V.1, .int .i64 V.2.1], .int .i64 V.2.2]) (by simp [results, Try.results55, go_sem]) rfl ⟨rfl, (by repeat (first | exact Below.refl _ _ | refine below_reg ?_ _ _ | refine below_alloc ?_ _ | exact below_drewN ?_ _ | assumption))⟩

end Go.Proofs.Ytffamgiknfphaaa
