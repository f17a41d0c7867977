import Derived.Test.YtnjgfhgpicmklaaGreatGQAM
set_option linter.all false
namespace Go.Proofs.YtnjgfhgpicmklaaGreat
open Go.RowKit Go.Sort
def subV (p q r t : Int) : Int × Int × Int := if bth p q r t = 0 then addV p q (-r) t else (0, 0, 8)
theorem sub_any (p q r t : Int) (w : World) (p0 : -9223372036854775808 ≤ p) (p1 : p ≤ 9223372036854775807) (q0 : -9223372036854775808 ≤ q) (q1 : q ≤ 9223372036854775807)
    (r0 : -9223372036854775808 ≤ r) (r1 : r ≤ 9223372036854775807) (t0 : -9223372036854775808 ≤ t) (t1 : t ≤ 9223372036854775807) :
    Calls Tryz.prog 124 #[.agg #[.int .i64 p, .int .i64 q], .agg #[.int .i64 r, .int .i64 t]] w fun e w' =>
      e = .returned (.tuple #[.agg #[.int .i64 (subV p q r t).1, .int .i64 (subV p q r t).2.1], .int .i64 (subV p q r t).2.2]) ∧ Below w.heap.size w w' := by
  unfold subV
  rcases bth_08 p q r t with hv | hv
  · rw [if_pos hv]
    obtain ⟨h1, h2⟩ := bth_ok hv
    obtain ⟨a1, a2, _⟩ := chk_ok h1
    obtain ⟨b1, b2, _⟩ := chk_ok h2
    have HB := both_any p q r t
    rw [hv] at HB
    have HBB := Lib.hid HB
    clear HB hv h1 h2
    have r2 : -9223372036854775807 ≤ r := by omega
    go_enter Tryz.func124, Tryz.ntmps124
    go_wp2_with (first | (go_at_call 112; (with_reducible refine cmono ?_ (HBB.out _ ?_ ?_ ?_ ?_ ?_ ?_ ?_ ?_)); rotate_left; omega; omega; omega; omega; omega; omega; omega; omega; rintro e w' ⟨rfl, hbc0⟩; obtain ⟨⟨dc0, osc0⟩, rfl⟩ := regrown_of_below hbc0; clear hbc0) | (go_at_call 173; (with_reducible refine cmono ?_ (add_any _ _ _ _ _ ?_ ?_ ?_ ?_ ?_ ?_ ?_ ?_)); rotate_left; omega; omega; omega; omega; omega; omega; omega; omega; rintro e w' ⟨rfl, hbc1⟩; obtain ⟨⟨dc1, osc1⟩, rfl⟩ := regrown_of_below hbc1; clear hbc1) | ((with_reducible refine wp_region_quiet_below ?_ ?_ ?_); kernel_rfl; kernel_rfl; (repeat (go_big_quiet_step (first | (go_at_call 112; (with_reducible refine Calls.regrown_of (HBB.out _ ?_ ?_ ?_ ?_ ?_ ?_ ?_ ?_)); omega; omega; omega; omega; omega; omega; omega; omega) | (go_at_call 173; (with_reducible refine Calls.regrown_of (add_any _ _ _ _ _ ?_ ?_ ?_ ?_ ?_ ?_ ?_ ?_)); omega; omega; omega; omega; omega; omega; omega; omega)))); refine wpQuiet_nil ?_; intro _ hw'; obtain ⟨⟨dq, osq⟩, hw''⟩ := hw'; subst hw''))
    refine bodyPost_ret (v := .tuple #[.agg #[.int .i64 (addV p q (-r) t).1, .int .i64 (addV p q (-r) t).2.1], .int .i64 (addV p q (-r) t).2.2]) (by simp [results, Tryz.results124, go_sem]) rfl ⟨rfl, (by repeat (first | exact Below.refl _ _ | refine below_reg ?_ _ _ | refine below_alloc ?_ _ | exact below_drewN ?_ _ | assumption))⟩
  · rw [if_neg (by omega)]
    have HB := both_any p q r t
    rw [hv] at HB
    have HBB := Lib.hid HB
    clear HB hv
    go_enter Tryz.func124, Tryz.ntmps124
    go_wp2_with (first | (go_at_call 112; (with_reducible refine cmono ?_ (HBB.out _ ?_ ?_ ?_ ?_ ?_ ?_ ?_ ?_)); rotate_left; omega; omega; omega; omega; omega; omega; omega; omega; rintro e w' ⟨rfl, hbc0⟩; obtain ⟨⟨dc0, osc0⟩, rfl⟩ := regrown_of_below hbc0; clear hbc0) | ((with_reducible refine wp_region_quiet_below ?_ ?_ ?_); kernel_rfl; kernel_rfl; (repeat (go_big_quiet_step (first | (go_at_call 112; (with_reducible refine Calls.regrown_of (HBB.out _ ?_ ?_ ?_ ?_ ?_ ?_ ?_ ?_)); omega; omega; omega; omega; omega; omega; omega; omega)))); refine wpQuiet_nil ?_; intro _ hw'; obtain ⟨⟨dq, osq⟩, hw''⟩ := hw'; subst hw''))
    refine bodyPost_ret (v := .tuple #[.agg #[.int .i64 0, .int .i64 0], .int .i64 8]) (by simp [results, Tryz.results124, go_sem]) rfl ⟨rfl, (by repeat (first | exact Below.refl _ _ | refine below_reg ?_ _ _ | refine below_alloc ?_ _ | exact below_drewN ?_ _ | assumption))⟩
def makeV (n d : Int) : Int × Int × Int :=
  if d = 0 then (0, 0, 26) else buildN (!(decide (n < 0) == decide (d < 0))) (n.natAbs / Nat.gcd n.natAbs d.natAbs) (d.natAbs / Nat.gcd n.natAbs d.natAbs)
theorem makeV_any (n d : Int) (w : World) (h0 : -9223372036854775808 ≤ n) (h1 : n ≤ 9223372036854775807) (h2 : -9223372036854775808 ≤ d) (h3 : d ≤ 9223372036854775807) :
    Calls Tryz.prog 198 #[.int .i64 n, .int .i64 d] w fun e w' =>
      e = .returned (.tuple #[.agg #[.int .i64 (makeV n d).1, .int .i64 (makeV n d).2.1], .int .i64 (makeV n d).2.2]) ∧ Below w.heap.size w w' := by
  unfold makeV
  by_cases hd : d = 0
  · subst hd
    rw [if_pos rfl]
    go_enter Tryz.func198, Tryz.ntmps198
    go_wp2_with (first | ((with_reducible refine wp_region_quiet_below ?_ ?_ ?_); kernel_rfl; kernel_rfl; (repeat (go_big_quiet_step (fail))); refine wpQuiet_nil ?_; intro _ hw'; obtain ⟨⟨dq, osq⟩, hw''⟩ := hw'; subst hw''))
    refine bodyPost_ret (v := .tuple #[.agg #[.int .i64 0, .int .i64 0], .int .i64 26]) (by simp [results, Tryz.results198, go_sem]) rfl ⟨rfl, (by repeat (first | exact Below.refl _ _ | refine below_reg ?_ _ _ | refine below_alloc ?_ _ | exact below_drewN ?_ _ | assumption))⟩
  · rw [if_neg hd]
    exact make_any n d w h0 h1 h2 h3 hd
def cmpV (p q r t : Int) : Int × Int := if bth p q r t = 0 then (cmpN (p * t) (r * q), 0) else (0, 8)
theorem compare_two (x y : Bool) (a b c d m n : Nat) (h1 : Two a b m) (h2 : Two c d n) (w : World) :
    Calls Tryz.prog 114 #[.agg #[.bool x, .int .u64 a, .int .u64 b], .agg #[.bool y, .int .u64 c, .int .u64 d]] w fun en w' => en = .returned (.int .i64 (cmpN (m : Int) (n : Int))) ∧ Below w.heap.size w w' := by
  refine (compare_any x y a b c d w h1.lo h2.lo).mono fun e w' ⟨he, hb⟩ => ⟨?_, hb⟩
  rw [he, h1.eq, h2.eq]
theorem cmp_any (p q r t : Int) (w : World) (p0 : -9223372036854775808 ≤ p) (p1 : p ≤ 9223372036854775807) (q0 : -9223372036854775808 ≤ q) (q1 : q ≤ 9223372036854775807)
    (r0 : -9223372036854775808 ≤ r) (r1 : r ≤ 9223372036854775807) (t0 : -9223372036854775808 ≤ t) (t1 : t ≤ 9223372036854775807) :
    Calls Tryz.prog 84 #[.agg #[.int .i64 p, .int .i64 q], .agg #[.int .i64 r, .int .i64 t]] w fun e w' =>
      e = .returned (.tuple #[.int .i64 (cmpV p q r t).1, .int .i64 (cmpV p q r t).2]) ∧ Below w.heap.size w w' := by
  unfold cmpV
  rcases bth_08 p q r t with hv | hv
  · rw [if_pos hv]
    obtain ⟨h1, h2⟩ := bth_ok hv
    obtain ⟨a1, a2, _⟩ := chk_ok h1
    obtain ⟨b1, b2, _⟩ := chk_ok h2
    obtain ⟨Q, rfl⟩ := Int.eq_ofNat_of_zero_le (show 0 ≤ q by omega)
    obtain ⟨T, rfl⟩ := Int.eq_ofNat_of_zero_le (show 0 ≤ t by omega)
    have HB := both_any p Q r T
    rw [hv] at HB
    have HBB := Lib.hid HB
    clear HB hv h1 h2
    obtain ⟨c1, c2, hc⟩ := two_mk (p.natAbs * T)
    obtain ⟨d1, d2, hd⟩ := two_mk (r.natAbs * Q)
    have T1 := Lib.hid (times_two p T c1 c2 hc)
    have T2 := Lib.hid (times_two r Q d1 d2 hd)
    obtain ⟨k, hk⟩ : ∃ k, k = cmpN ((p.natAbs * T : Nat) : Int) ((r.natAbs * Q : Nat) : Int) := ⟨_, rfl⟩
    have C1 := compare_two (decide (p < 0)) (decide (r < 0)) c1 c2 d1 d2 _ _ hc hd
    rw [← hk] at C1
    have C1H := Lib.hid C1
    have HK := Lib.hid hk
    have hk1 : -1 ≤ k ∧ k ≤ 1 := by rw [hk]; unfold cmpN; (repeat' split) <;> omega
    obtain ⟨hk1, hk2⟩ := hk1
    clear C1 hk hc hd
    cases hp : decide (p < 0) <;> cases hr : decide (r < 0)
    all_goals rw [hp, hr] at C1H
    all_goals rw [hp] at T1
    all_goals rw [hr] at T2
    all_goals
      go_enter Tryz.func84, Tryz.ntmps84
      go_wp2_with (first | (go_at_call 112; (with_reducible refine cmono ?_ (HBB.out _ ?_ ?_ ?_ ?_ ?_ ?_ ?_ ?_)); rotate_left; omega; omega; omega; omega; omega; omega; omega; omega; rintro e w' ⟨rfl, hbc0⟩; obtain ⟨⟨dc0, osc0⟩, rfl⟩ := regrown_of_below hbc0; clear hbc0) | (go_at_call 113; (with_reducible refine cmono ?_ (cmpi_any _ _ _)); rotate_left; rintro e w' ⟨rfl, hbc1⟩; obtain ⟨⟨dc1, osc1⟩, rfl⟩ := regrown_of_below hbc1; clear hbc1) | (go_at_call 115; (with_reducible refine cmono ?_ (T1.out _ ?_ ?_ ?_)); rotate_left; omega; omega; omega; rintro e w' ⟨rfl, hbc2⟩; obtain ⟨⟨dc2, osc2⟩, rfl⟩ := regrown_of_below hbc2; clear hbc2) | (go_at_call 115; (with_reducible refine cmono ?_ (T2.out _ ?_ ?_ ?_)); rotate_left; omega; omega; omega; rintro e w' ⟨rfl, hbc3⟩; obtain ⟨⟨dc3, osc3⟩, rfl⟩ := regrown_of_below hbc3; clear hbc3) | (go_at_call 114; (with_reducible refine cmono ?_ (C1H.out _)); rotate_left; rintro e w' ⟨rfl, hbc4⟩; obtain ⟨⟨dc4, osc4⟩, rfl⟩ := regrown_of_below hbc4; clear hbc4) | ((with_reducible refine wp_region_quiet_below ?_ ?_ ?_); kernel_rfl; kernel_rfl; (repeat (go_big_quiet_step (first | (go_at_call 112; (with_reducible refine Calls.regrown_of (HBB.out _ ?_ ?_ ?_ ?_ ?_ ?_ ?_ ?_)); omega; omega; omega; omega; omega; omega; omega; omega) | (go_at_call 113; (with_reducible refine Calls.regrown_of (cmpi_any _ _ _))) | (go_at_call 115; (with_reducible refine Calls.regrown_of (T1.out _ ?_ ?_ ?_)); omega; omega; omega) | (go_at_call 115; (with_reducible refine Calls.regrown_of (T2.out _ ?_ ?_ ?_)); omega; omega; omega) | (go_at_call 114; (with_reducible refine Calls.regrown_of (C1H.out _)))))); refine wpQuiet_nil ?_; intro _ hw'; obtain ⟨⟨dq, osq⟩, hw''⟩ := hw'; subst hw''))
    all_goals go_ret2
    all_goals refine ⟨ret_of ?_, (by repeat (first | exact Below.refl _ _ | refine below_reg ?_ _ _ | refine below_alloc ?_ _ | exact below_drewN ?_ _ | assumption))⟩
    · have hp' : 0 ≤ p := by simpa using hp
      have hr' : 0 ≤ r := by simpa using hr
      obtain ⟨a, rfl⟩ := Int.eq_ofNat_of_zero_le hp'
      obtain ⟨b, rfl⟩ := Int.eq_ofNat_of_zero_le hr'
      show Value.tuple #[.int .i64 k, .int .i64 0] = _
      rw [HK.out]; simp
    · have hp' : 0 ≤ p := by simpa using hp
      have hr' : r < 0 := by simpa using hr
      have e : cmpN p r = cmpN (p * T) (r * Q) := by
        have g1 : 0 ≤ p * (T : Int) := Int.mul_nonneg hp' (by omega)
        have g2 : r * (Q : Int) < 0 := Int.mul_neg_of_neg_of_pos hr' (by omega)
        unfold cmpN; (repeat' split) <;> omega
      rw [← e]; rfl
    · have hp' : p < 0 := by simpa using hp
      have hr' : 0 ≤ r := by simpa using hr
      have e : cmpN p r = cmpN (p * T) (r * Q) := by
        have g1 : 0 ≤ r * (Q : Int) := Int.mul_nonneg hr' (by omega)
        have g2 : p * (T : Int) < 0 := Int.mul_neg_of_neg_of_pos hp' (by omega)
        unfold cmpN; (repeat' split) <;> omega
      rw [← e]; rfl
    · have hp' : p < 0 := by simpa using hp
      have hr' : r < 0 := by simpa using hr
      obtain ⟨a, rfl⟩ : ∃ a : Nat, p = -(a : Int) := ⟨p.natAbs, by omega⟩
      obtain ⟨b, rfl⟩ : ∃ b : Nat, r = -(b : Int) := ⟨r.natAbs, by omega⟩
      show Value.tuple #[.int .i64 (-k), .int .i64 0] = _
      rw [HK.out]
      have e : -cmpN (((-(a : Int)).natAbs * T : Nat) : Int) (((-(b : Int)).natAbs * Q : Nat) : Int) = cmpN (-(a : Int) * T) (-(b : Int) * Q) := by
        have g1 : -(a : Int) * (T : Int) = -((a * T : Nat) : Int) := by simp [Int.neg_mul]
        have g2 : -(b : Int) * (Q : Int) = -((b * Q : Nat) : Int) := by simp [Int.neg_mul]
        rw [g1, g2, Int.natAbs_neg, Int.natAbs_neg, Int.natAbs_natCast, Int.natAbs_natCast]
        generalize a * T = x
        generalize b * Q = y
        unfold cmpN; (repeat' split) <;> omega
      rw [e]
  · rw [if_neg (by omega)]
    have HB := both_any p q r t
    rw [hv] at HB
    have HBB := Lib.hid HB
    clear HB hv
    go_enter Tryz.func84, Tryz.ntmps84
    go_wp2_with (first | (go_at_call 112; (with_reducible refine cmono ?_ (HBB.out _ ?_ ?_ ?_ ?_ ?_ ?_ ?_ ?_)); rotate_left; omega; omega; omega; omega; omega; omega; omega; omega; rintro e w' ⟨rfl, hbc0⟩; obtain ⟨⟨dc0, osc0⟩, rfl⟩ := regrown_of_below hbc0; clear hbc0) | ((with_reducible refine wp_region_quiet_below ?_ ?_ ?_); kernel_rfl; kernel_rfl; (repeat (go_big_quiet_step (first | (go_at_call 112; (with_reducible refine Calls.regrown_of (HBB.out _ ?_ ?_ ?_ ?_ ?_ ?_ ?_ ?_)); omega; omega; omega; omega; omega; omega; omega; omega)))); refine wpQuiet_nil ?_; intro _ hw'; obtain ⟨⟨dq, osq⟩, hw''⟩ := hw'; subst hw''))
    go_ret2
    exact ⟨rfl, (by repeat (first | exact Below.refl _ _ | refine below_reg ?_ _ _ | refine below_alloc ?_ _ | exact below_drewN ?_ _ | assumption))⟩
def mulR (p : Int) (q : Nat) (r : Int) (t : Nat) : Int × Int × Int :=
  buildN (!(decide (p.tdiv (Nat.gcd t p.natAbs) < 0) == decide (r.tdiv (Nat.gcd q r.natAbs) < 0))) ((p.tdiv (Nat.gcd t p.natAbs)).natAbs * (r.tdiv (Nat.gcd q r.natAbs)).natAbs)
    (q / Nat.gcd q r.natAbs * (t / Nat.gcd t p.natAbs))
def mulV (p q r t : Int) : Int × Int × Int := if bth p q r t = 0 then mulR p q.toNat r t.toNat else (0, 0, 8)
end Go.Proofs.YtnjgfhgpicmklaaGreat

namespace Go.Proofs.YtnjgfhgpicmklaaGreat
open Go.RowKit Go.Sort
theorem rcommon_any (a b : Nat) (w : World) :
    Calls Tryz.prog 129 #[.int .u64 a, .int .u64 b] w fun e w' => e = .returned (.int .u64 (Nat.gcd a b : Nat)) ∧ Below w.heap.size w w' := by
  go_enter Tryz.func129, Tryz.ntmps129
  go_wp2
  go_loopw [0, 1] (fun x y wr => ∃ n m : Nat, x = .int .u64 n ∧ y = .int .u64 m ∧ Hid (Nat.gcd n m = Nat.gcd a b) ∧ Below w.heap.size w wr) (fun _ y _ => (intOf y).toNat)
  case atStart => exact ⟨a, b, rfl, rfl, Lib.hid rfl, Below.refl _ _⟩
  case round =>
    obtain ⟨n, m, rfl, rfl, hg, hb⟩ := hrel
    by_cases h0 : 0 < m
    · have hz : ((m : Int) != 0) = true := by simp; omega
      have hz2 : ((m : Int) == 0) = false := by simp; omega
      go_wp2
      go_quiet (fail)
      go_wp2
      have hlt := Nat.mod_lt n h0
      refine ⟨⟨m, n % m, rfl, by simp, Lib.hid ?_, below_drewN hb _⟩, ?_⟩
      · rw [← hg.out, Nat.gcd_comm n m, Nat.gcd_rec m n, Nat.gcd_comm]
      · show ((n : Int) % (m : Int)).toNat < ((m : Int)).toNat
        omega
    · obtain rfl : m = 0 := by omega
      go_wp2
      go_ret
      refine ⟨ret_int ?_, hb⟩
      rw [← hg.out]
      simp
theorem rsize_any (n : Int) (w : World) (h0 : -9223372036854775808 ≤ n) (h1 : n ≤ 9223372036854775807) :
    Calls Tryz.prog 130 #[.int .i64 n] w fun e w' => e = .returned (.int .u64 (n.natAbs : Nat)) ∧ Below w.heap.size w w' := by
  by_cases hn : n < 0
  · go_enter Tryz.func130, Tryz.ntmps130
    go_wp2_with (first | ((with_reducible refine wp_region_quiet_below ?_ ?_ ?_); kernel_rfl; kernel_rfl; (repeat (go_big_quiet_step (fail))); refine wpQuiet_nil ?_; intro _ hw'; obtain ⟨⟨dq, osq⟩, hw''⟩ := hw'; subst hw''))
    go_ret
    refine ⟨ret_int ?_, Below.refl _ _⟩
    show -(n + 1) + 1 = _
    omega
  · go_enter Tryz.func130, Tryz.ntmps130
    go_wp2_with (first | ((with_reducible refine wp_region_quiet_below ?_ ?_ ?_); kernel_rfl; kernel_rfl; (repeat (go_big_quiet_step (fail))); refine wpQuiet_nil ?_; intro _ hw'; obtain ⟨⟨dq, osq⟩, hw''⟩ := hw'; subst hw''))
    go_ret
    refine ⟨ret_int ?_, Below.refl _ _⟩
    omega
theorem chk_alt (n d : Int) (hd : 1 ≤ d) (hn : n ≠ -9223372036854775808) : chk n d = if Nat.gcd n.natAbs d.toNat ≤ 1 then 0 else 8 := by
  unfold chk
  rw [Nat.gcd_comm]
  split <;> split <;> first | rfl | omega
theorem rcheck_any (n d : Int) (w : World) (h0 : -9223372036854775808 ≤ n) (h1 : n ≤ 9223372036854775807) (h2 : -9223372036854775808 ≤ d) (h3 : d ≤ 9223372036854775807) :
    Calls Tryz.prog 96 #[.agg #[.int .i64 n, .int .i64 d]] w fun e w' => e = .returned (.int .i64 (chk n d)) ∧ Below w.heap.size w w' := by
  by_cases hd : d < 1
  · have hch : chk n d = 8 := by unfold chk; rw [if_pos (.inl hd)]
    rw [hch]
    go_enter Tryz.func96, Tryz.ntmps96
    go_wp2_with (first | ((with_reducible refine wp_region_quiet_below ?_ ?_ ?_); kernel_rfl; kernel_rfl; (repeat (go_big_quiet_step (fail))); refine wpQuiet_nil ?_; intro _ hw'; obtain ⟨⟨dq, osq⟩, hw''⟩ := hw'; subst hw''))
    go_ret
    exact ⟨rfl, (by repeat (first | exact Below.refl _ _ | refine below_reg ?_ _ _ | refine below_alloc ?_ _ | exact below_drewN ?_ _ | assumption))⟩
  · have hdf : decide (d < 1) = false := by simpa using hd
    by_cases hm : n = -9223372036854775808
    · have hch : chk n d = 8 := by unfold chk; rw [if_pos (.inr (.inl hm))]
      rw [hch]
      have hmb : (n == -9223372036854775808) = true := by simpa using hm
      clear hm
      go_enter Tryz.func96, Tryz.ntmps96
      go_wp2_with (first | ((with_reducible refine wp_region_quiet_below ?_ ?_ ?_); kernel_rfl; kernel_rfl; (repeat (go_big_quiet_step (fail))); refine wpQuiet_nil ?_; intro _ hw'; obtain ⟨⟨dq, osq⟩, hw''⟩ := hw'; subst hw''))
      go_ret
      exact ⟨rfl, (by repeat (first | exact Below.refl _ _ | refine below_reg ?_ _ _ | refine below_alloc ?_ _ | exact below_drewN ?_ _ | assumption))⟩
    · have hmb : (n == -9223372036854775808) = false := by simpa using hm
      rw [chk_alt n d (by omega) hm]
      obtain ⟨e, rfl⟩ := Int.eq_ofNat_of_zero_le (show 0 ≤ d by omega)
      rw [Int.toNat_natCast]
      obtain ⟨g, hg⟩ : ∃ g, g = Nat.gcd n.natAbs e := ⟨_, rfl⟩
      have HG := fun w => rcommon_any n.natAbs e w
      have hg0 : 0 < g := by rw [hg]; exact Nat.gcd_pos_of_pos_right _ (by omega)
      rw [← hg] at HG ⊢
      have HGG := Lib.hid HG
      clear hg HG hm
      cases hb : ((g : Int) != 1)
      · rw [if_pos (by simp at hb; omega)]
        go_enter Tryz.func96, Tryz.ntmps96
        go_wp2_with (first | (go_at_call 130; (with_reducible refine cmono ?_ (rsize_any _ _ ?_ ?_)); rotate_left; omega; omega; rintro e w' ⟨rfl, hbc0⟩; obtain ⟨⟨dc0, osc0⟩, rfl⟩ := regrown_of_below hbc0; clear hbc0) | (go_at_call 129; (with_reducible refine cmono ?_ (HGG.out _)); rotate_left; rintro e w' ⟨rfl, hbc1⟩; obtain ⟨⟨dc1, osc1⟩, rfl⟩ := regrown_of_below hbc1; clear hbc1) | ((with_reducible refine wp_region_quiet_below ?_ ?_ ?_); kernel_rfl; kernel_rfl; (repeat (go_big_quiet_step (first | (go_at_call 130; (with_reducible refine Calls.regrown_of (rsize_any _ _ ?_ ?_)); omega; omega) | (go_at_call 129; (with_reducible refine Calls.regrown_of (HGG.out _)))))); refine wpQuiet_nil ?_; intro _ hw'; obtain ⟨⟨dq, osq⟩, hw''⟩ := hw'; subst hw''))
        go_ret
        exact ⟨rfl, (by repeat (first | exact Below.refl _ _ | refine below_reg ?_ _ _ | refine below_alloc ?_ _ | exact below_drewN ?_ _ | assumption))⟩
      · rw [if_neg (by simp at hb; omega)]
        go_enter Tryz.func96, Tryz.ntmps96
        go_wp2_with (first | (go_at_call 130; (with_reducible refine cmono ?_ (rsize_any _ _ ?_ ?_)); rotate_left; omega; omega; rintro e w' ⟨rfl, hbc0⟩; obtain ⟨⟨dc0, osc0⟩, rfl⟩ := regrown_of_below hbc0; clear hbc0) | (go_at_call 129; (with_reducible refine cmono ?_ (HGG.out _)); rotate_left; rintro e w' ⟨rfl, hbc1⟩; obtain ⟨⟨dc1, osc1⟩, rfl⟩ := regrown_of_below hbc1; clear hbc1) | ((with_reducible refine wp_region_quiet_below ?_ ?_ ?_); kernel_rfl; kernel_rfl; (repeat (go_big_quiet_step (first | (go_at_call 130; (with_reducible refine Calls.regrown_of (rsize_any _ _ ?_ ?_)); omega; omega) | (go_at_call 129; (with_reducible refine Calls.regrown_of (HGG.out _)))))); refine wpQuiet_nil ?_; intro _ hw'; obtain ⟨⟨dq, osq⟩, hw''⟩ := hw'; subst hw''))
        go_ret
        exact ⟨rfl, (by repeat (first | exact Below.refl _ _ | refine below_reg ?_ _ _ | refine below_alloc ?_ _ | exact below_drewN ?_ _ | assumption))⟩
theorem rasked_any (n d : Int) (w : World) (h0 : -9223372036854775808 ≤ n) (h1 : n ≤ 9223372036854775807) (h2 : -9223372036854775808 ≤ d) (h3 : d ≤ 9223372036854775807) :
    Calls Tryz.prog 65 #[.agg #[.int .i64 n, .int .i64 d]] w fun e w' => e = .returned (.int .i64 (askd n d)) ∧ Below w.heap.size w w' := by
  cases ha : decide ((1073741824 : Int) < n) <;> cases hb : decide (n < -1073741824) <;> cases hc : decide (1024 < d)
  all_goals
    go_enter Tryz.func65, Tryz.ntmps65
    go_wp2_with (first | (go_at_call 96; (with_reducible refine cmono ?_ (rcheck_any _ _ _ ?_ ?_ ?_ ?_)); rotate_left; omega; omega; omega; omega; rintro e w' ⟨rfl, hbc0⟩; obtain ⟨⟨dc0, osc0⟩, rfl⟩ := regrown_of_below hbc0; clear hbc0) | ((with_reducible refine wp_region_quiet_below ?_ ?_ ?_); kernel_rfl; kernel_rfl; (repeat (go_big_quiet_step (first | (go_at_call 96; (with_reducible refine Calls.regrown_of (rcheck_any _ _ _ ?_ ?_ ?_ ?_)); omega; omega; omega; omega)))); refine wpQuiet_nil ?_; intro _ hw'; obtain ⟨⟨dq, osq⟩, hw''⟩ := hw'; subst hw''))
    all_goals (go_ret; refine ⟨ret_int ?_, (by repeat (first | exact Below.refl _ _ | refine below_reg ?_ _ _ | refine below_alloc ?_ _ | exact below_drewN ?_ _ | assumption))⟩)
    all_goals (simp only [bne_iff_ne, bne_eq_false_iff_eq, decide_eq_true_eq, decide_eq_false_iff_not, ne_eq] at *)
    all_goals first | (exfalso; omega) | skip
    all_goals (unfold askd; (first | rw [if_pos (by omega)] | rw [if_neg (by omega)]))
    all_goals (first | rfl | (rw [if_pos (by omega)]; done) | (rw [if_neg (by omega)]; done))
theorem rboth_any (n d m e : Int) (w : World) (h0 : -9223372036854775808 ≤ n) (h1 : n ≤ 9223372036854775807) (h2 : -9223372036854775808 ≤ d) (h3 : d ≤ 9223372036854775807)
    (k0 : -9223372036854775808 ≤ m) (k1 : m ≤ 9223372036854775807) (k2 : -9223372036854775808 ≤ e) (k3 : e ≤ 9223372036854775807) :
    Calls Tryz.prog 211 #[.agg #[.int .i64 n, .int .i64 d], .agg #[.int .i64 m, .int .i64 e]] w fun en w' => en = .returned (.int .i64 (bth n d m e)) ∧ Below w.heap.size w w' := by
  have c1 := chk_08 n d
  go_enter Tryz.func211, Tryz.ntmps211
  go_wp2_with (first | (go_at_call 96; (with_reducible refine cmono ?_ (rcheck_any _ _ _ ?_ ?_ ?_ ?_)); rotate_left; omega; omega; omega; omega; rintro e w' ⟨rfl, hbc0⟩; obtain ⟨⟨dc0, osc0⟩, rfl⟩ := regrown_of_below hbc0; clear hbc0) | ((with_reducible refine wp_region_quiet_below ?_ ?_ ?_); kernel_rfl; kernel_rfl; (repeat (go_big_quiet_step (first | (go_at_call 96; (with_reducible refine Calls.regrown_of (rcheck_any _ _ _ ?_ ?_ ?_ ?_)); omega; omega; omega; omega)))); refine wpQuiet_nil ?_; intro _ hw'; obtain ⟨⟨dq, osq⟩, hw''⟩ := hw'; subst hw''))
  all_goals (go_ret; refine ⟨ret_int ?_, (by repeat (first | exact Below.refl _ _ | refine below_reg ?_ _ _ | refine below_alloc ?_ _ | exact below_drewN ?_ _ | assumption))⟩)
  all_goals (simp only [bne_iff_ne, bne_eq_false_iff_eq, ne_eq] at *)
  all_goals (unfold bth; first | rw [if_pos (by omega)] | (rw [if_neg (by omega)]; omega))
theorem rmade_any (x y z : Bool) (a b c d : Nat) (w : World) (hb : b < 18446744073709551616) (hd : d < 18446744073709551616) :
    Calls Tryz.prog 212 #[.bool x, .agg #[.bool y, .int .u64 a, .int .u64 b], .agg #[.bool z, .int .u64 c, .int .u64 d]] w fun e w' =>
      e = .returned (.tuple #[.agg #[.int .i64 (buildN x (a * 18446744073709551616 + b) (c * 18446744073709551616 + d)).1, .int .i64 (buildN x (a * 18446744073709551616 + b) (c * 18446744073709551616 + d)).2.1],
        .int .i64 (buildN x (a * 18446744073709551616 + b) (c * 18446744073709551616 + d)).2.2]) ∧ Below w.heap.size w w' := by
  by_cases hfit : a = 0 ∧ c = 0 ∧ b ≤ 9223372036854775807 ∧ d ≤ 9223372036854775807
  · obtain ⟨rfl, rfl, h1, h2⟩ := hfit
    have hB : buildN x (0 * 18446744073709551616 + b) (0 * 18446744073709551616 + d) = (if x then -(b : Int) else b, (d : Int), 0) := by
      unfold buildN; rw [if_pos ⟨by omega, by omega⟩]; simp
    rw [hB]
    clear hB
    cases x
    · go_enter Tryz.func212, Tryz.ntmps212
      go_wp2_with (first | ((with_reducible refine wp_region_quiet_below ?_ ?_ ?_); kernel_rfl; kernel_rfl; (repeat (go_big_quiet_step (fail))); refine wpQuiet_nil ?_; intro _ hw'; obtain ⟨⟨dq, osq⟩, hw''⟩ := hw'; subst hw''))
      refine bodyPost_ret (v := .tuple #[.agg #[.int .i64 (b : Int), .int .i64 (d : Int)], .int .i64 0]) (by simp [results, Tryz.results212, go_sem]) rfl ⟨rfl, (by repeat (first | exact Below.refl _ _ | refine below_reg ?_ _ _ | refine below_alloc ?_ _ | exact below_drewN ?_ _ | assumption))⟩
    · go_enter Tryz.func212, Tryz.ntmps212
      go_wp2_with (first | ((with_reducible refine wp_region_quiet_below ?_ ?_ ?_); kernel_rfl; kernel_rfl; (repeat (go_big_quiet_step (fail))); refine wpQuiet_nil ?_; intro _ hw'; obtain ⟨⟨dq, osq⟩, hw''⟩ := hw'; subst hw''))
      refine bodyPost_ret (v := .tuple #[.agg #[.int .i64 (-(b : Int)), .int .i64 (d : Int)], .int .i64 0]) (by simp [results, Tryz.results212, go_sem]) rfl ⟨rfl, (by repeat (first | exact Below.refl _ _ | refine below_reg ?_ _ _ | refine below_alloc ?_ _ | exact below_drewN ?_ _ | assumption))⟩
  · have hB : buildN x (a * 18446744073709551616 + b) (c * 18446744073709551616 + d) = (0, 0, 16) := by
      unfold buildN; rw [if_neg (by omega)]
    rw [hB]
    clear hB
    go_enter Tryz.func212, Tryz.ntmps212
    go_wp2_with (first | ((with_reducible refine wp_region_quiet_below ?_ ?_ ?_); kernel_rfl; kernel_rfl; (repeat (go_big_quiet_step (fail))); refine wpQuiet_nil ?_; intro _ hw'; obtain ⟨⟨dq, osq⟩, hw''⟩ := hw'; subst hw''))
    all_goals first
      | (exfalso; omega)
      | refine bodyPost_ret (v := .tuple #[.agg #[.int .i64 0, .int .i64 0], .int .i64 16]) (by simp [results, Tryz.results212, go_sem]) rfl ⟨rfl, (by repeat (first | exact Below.refl _ _ | refine below_reg ?_ _ _ | refine below_alloc ?_ _ | exact below_drewN ?_ _ | assumption))⟩
set_option maxHeartbeats 4000000 in
theorem rmakeV_any (n d : Int) (w : World) (h0 : -9223372036854775808 ≤ n) (h1 : n ≤ 9223372036854775807) (h2 : -9223372036854775808 ≤ d) (h3 : d ≤ 9223372036854775807) :
    Calls Tryz.prog 232 #[.int .i64 n, .int .i64 d] w fun e w' =>
      e = .returned (.tuple #[.agg #[.int .i64 (makeV n d).1, .int .i64 (makeV n d).2.1], .int .i64 (makeV n d).2.2]) ∧ Below w.heap.size w w' := by
  unfold makeV
  by_cases hd : d = 0
  · subst hd
    rw [if_pos rfl]
    go_enter Tryz.func232, Tryz.ntmps232
    go_wp2_with (first | ((with_reducible refine wp_region_quiet_below ?_ ?_ ?_); kernel_rfl; kernel_rfl; (repeat (go_big_quiet_step (fail))); refine wpQuiet_nil ?_; intro _ hw'; obtain ⟨⟨dq, osq⟩, hw''⟩ := hw'; subst hw''))
    refine bodyPost_ret (v := .tuple #[.agg #[.int .i64 0, .int .i64 0], .int .i64 26]) (by simp [results, Tryz.results232, go_sem]) rfl ⟨rfl, (by repeat (first | exact Below.refl _ _ | refine below_reg ?_ _ _ | refine below_alloc ?_ _ | exact below_drewN ?_ _ | assumption))⟩
  · rw [if_neg hd]
    have hz : (d == 0) = false := by simpa using hd
    have hg1 : 0 < Nat.gcd n.natAbs d.natAbs := Nat.gcd_pos_of_pos_right _ (by omega)
    have hna := Nat.div_le_self n.natAbs (Nat.gcd n.natAbs d.natAbs)
    have hda := Nat.div_le_self d.natAbs (Nat.gcd n.natAbs d.natAbs)
    obtain ⟨g, hgd⟩ : ∃ g, g = Nat.gcd n.natAbs d.natAbs := ⟨_, rfl⟩
    have HG := fun w => rcommon_any n.natAbs d.natAbs w
    rw [← hgd] at hg1 hna hda HG ⊢
    have HGG := Lib.hid HG
    clear HG hgd
    have hgz : ((g : Int) == 0) = false := by simp; omega
    have W1 : IntKind.u64.wrap ((n.natAbs : Int) / (g : Int)) = ((n.natAbs / g : Nat) : Int) := by
      rw [IntKind.wrap_u64, ← Int.natCast_ediv]; exact Int.emod_eq_of_lt (Int.natCast_nonneg _) (by omega)
    have W2 : IntKind.u64.wrap ((d.natAbs : Int) / (g : Int)) = ((d.natAbs / g : Nat) : Int) := by
      rw [IntKind.wrap_u64, ← Int.natCast_ediv]; exact Int.emod_eq_of_lt (Int.natCast_nonneg _) (by omega)
    obtain ⟨x, hx⟩ : ∃ x, x = n.natAbs / g := ⟨_, rfl⟩
    obtain ⟨y, hy⟩ : ∃ y, y = d.natAbs / g := ⟨_, rfl⟩
    have hx0 : n = 0 → x = 0 := by intro h; rw [hx, h]; simp
    rw [← hx] at hna W1 ⊢
    rw [← hy] at hda W2 ⊢
    have HB : ∀ (s : Bool), (s = (!(decide (n < 0) == decide (d < 0))) ∨ x = 0) → ∀ w, Calls Tryz.prog 212 #[.bool s, .agg #[.bool false, .int .u64 0, .int .u64 x], .agg #[.bool false, .int .u64 0, .int .u64 y]] w fun e w' =>
        e = .returned (.tuple #[.agg #[.int .i64 (buildN (!(decide (n < 0) == decide (d < 0))) x y).1, .int .i64 (buildN (!(decide (n < 0) == decide (d < 0))) x y).2.1], .int .i64 (buildN (!(decide (n < 0) == decide (d < 0))) x y).2.2]) ∧ Below w.heap.size w w' := by
      intro s hs w
      have h := rmade_any s false false 0 x 0 y w (by omega) (by omega)
      simp only [Nat.zero_mul, Nat.zero_add, cast0] at h
      have e : buildN s x y = buildN (!(decide (n < 0) == decide (d < 0))) x y := by
        rcases hs with hs | hs
        · rw [hs]
        · subst hs; unfold buildN; split <;> cases s <;> cases (!(decide (n < 0) == decide (d < 0))) <;> simp
      rw [e] at h
      exact h
    have HBB := Lib.hid HB
    clear HB hx hy
    obtain ⟨V, hV⟩ : ∃ V, V = buildN (!(decide (n < 0) == decide (d < 0))) x y := ⟨_, rfl⟩
    rw [← hV] at HBB ⊢
    clear hV
    obtain ⟨s, hs, hs2⟩ : ∃ s : Bool, s = ((!(decide (n < 0) == decide (d < 0))) && !(n == 0)) ∧ (s = (!(decide (n < 0) == decide (d < 0))) ∨ x = 0) := by
      refine ⟨_, rfl, ?_⟩
      by_cases h : n = 0
      · right; exact hx0 h
      · left; simp [h]
    have HS := Lib.hid (HBB.out s hs2)
    clear hs2
    cases hn : decide (n < 0) <;> cases hdd : decide (d < 0) <;> cases hn0 : (n == 0)
    all_goals first | (exfalso; simp at hn hn0; omega) | skip
    all_goals
      rw [hn, hdd, hn0] at hs
      simp at hs
      subst hs
      have hn1 : (n != 0) = !(n == 0) := rfl
      rw [hn0] at hn1
      simp only [Bool.not_true, Bool.not_false] at hn1
      go_enter Tryz.func232, Tryz.ntmps232
      go_wp2_with (first | (go_at_call 130; (with_reducible refine cmono ?_ (rsize_any _ _ ?_ ?_)); rotate_left; omega; omega; rintro e w' ⟨rfl, hbc0⟩; obtain ⟨⟨dc0, osc0⟩, rfl⟩ := regrown_of_below hbc0; clear hbc0) | (go_at_call 129; (with_reducible refine cmono ?_ (HGG.out _)); rotate_left; rintro e w' ⟨rfl, hbc1⟩; obtain ⟨⟨dc1, osc1⟩, rfl⟩ := regrown_of_below hbc1; clear hbc1) | (go_at_call 212; (with_reducible refine cmono ?_ (HS.out _)); rotate_left; rintro e w' ⟨rfl, hbc2⟩; obtain ⟨⟨dc2, osc2⟩, rfl⟩ := regrown_of_below hbc2; clear hbc2) | ((with_reducible refine wp_region_quiet_below ?_ ?_ ?_); kernel_rfl; kernel_rfl; (repeat (go_big_quiet_step (first | (go_at_call 130; (with_reducible refine Calls.regrown_of (rsize_any _ _ ?_ ?_)); omega; omega) | (go_at_call 129; (with_reducible refine Calls.regrown_of (HGG.out _))) | (go_at_call 212; (with_reducible refine Calls.regrown_of (HS.out _)))))); refine wpQuiet_nil ?_; intro _ hw'; obtain ⟨⟨dq, osq⟩, hw''⟩ := hw'; subst hw'') | ((with_reducible refine wp_region_tail_below 22 ?_ ?_ ?_); kernel_rfl; kernel_rfl; simp only [List.take_succ_cons, List.take_zero, List.drop_succ_cons, List.drop_zero]; (repeat (go_big_quiet_step (first | (go_at_call 130; (with_reducible refine Calls.regrown_of (rsize_any _ _ ?_ ?_)); omega; omega) | (go_at_call 129; (with_reducible refine Calls.regrown_of (HGG.out _))) | (go_at_call 212; (with_reducible refine Calls.regrown_of (HS.out _)))))); refine wpQuiet_nil ?_; intro _ hw'; obtain ⟨⟨dq, osq⟩, hw''⟩ := hw'; subst hw''))
      refine bodyPost_ret (v := .tuple #[.agg #[.int .i64 V.1, .int .i64 V.2.1], .int .i64 V.2.2]) (by simp [results, Tryz.results232, go_sem]) rfl ⟨rfl, (by repeat (first | exact Below.refl _ _ | refine below_reg ?_ _ _ | refine below_alloc ?_ _ | exact below_drewN ?_ _ | assumption))⟩
end Go.Proofs.YtnjgfhgpicmklaaGreat

namespace Go.Proofs.YtnjgfhgpicmklaaGreat
open Go.RowKit
theorem half_mul (H ah al bh bl : Nat) (hal : al < H) (hbl : bl < H) (hH : 0 < H) :
    (ah * bh + (ah * bl + al * bl / H) / H + (al * bh + (ah * bl + al * bl / H) % H) / H) * (H * H) + ((al * bh + (ah * bl + al * bl / H) % H) % H * H + al * bl % H) = (ah * H + al) * (bh * H + bl) ∧
    (al * bh + (ah * bl + al * bl / H) % H) % H * H + al * bl % H < H * H := by
  have d1 := Nat.div_add_mod (al * bl) H
  have d2 := Nat.div_add_mod (ah * bl + al * bl / H) H
  have d3 := Nat.div_add_mod (al * bh + (ah * bl + al * bl / H) % H) H
  have l1 := Nat.mod_lt (al * bl) hH
  have l3 := Nat.mod_lt (al * bh + (ah * bl + al * bl / H) % H) hH
  have e : (ah * H + al) * (bh * H + bl) = ah * bh * (H * H) + (ah * bl + al * bh) * H + al * bl := by
    rw [Nat.add_mul, Nat.mul_add, Nat.mul_add, Nat.add_mul (ah * bl)]
    have e1 : ah * H * (bh * H) = ah * bh * (H * H) := by rw [Nat.mul_assoc, Nat.mul_assoc, ← Nat.mul_assoc H bh H, Nat.mul_comm H bh, Nat.mul_assoc bh H H]
    have e2 : ah * H * bl = ah * bl * H := by rw [Nat.mul_assoc, Nat.mul_comm H bl, ← Nat.mul_assoc]
    have e3 : al * (bh * H) = al * bh * H := by rw [Nat.mul_assoc]
    omega
  rw [e]
  generalize al * bl / H = x1 at *
  generalize al * bl % H = y1 at *
  generalize (ah * bl + x1) / H = x2 at *
  generalize (ah * bl + x1) % H = y2 at *
  generalize (al * bh + y2) / H = x3 at *
  generalize (al * bh + y2) % H = y3 at *
  generalize hp1 : al * bl = p1 at *
  generalize hp2 : ah * bl = p2 at *
  generalize hp3 : al * bh = p3 at *
  generalize hp4 : ah * bh = p4 at *
  constructor
  · have f2 : (p2 + x1) * H = (H * x2 + y2) * H := by rw [d2]
    have f3 : (p3 + y2) * H = (H * x3 + y3) * H := by rw [d3]
    rw [Nat.add_mul, Nat.add_mul] at f2 f3
    have g2 : H * x2 * H = x2 * (H * H) := by rw [Nat.mul_comm H x2, Nat.mul_assoc]
    have g3 : H * x3 * H = x3 * (H * H) := by rw [Nat.mul_comm H x3, Nat.mul_assoc]
    have g1 : H * x1 = x1 * H := Nat.mul_comm _ _
    rw [Nat.add_mul, Nat.add_mul, Nat.add_mul]
    omega
  · have : (y3 + 1) * H ≤ H * H := Nat.mul_le_mul_right _ l3
    rw [Nat.add_mul] at this
    omega
theorem sub_borrow (W a b c d : Nat) (hb : b < W) (hd : d < W) (hlt : b < d) (hle : c * W + d ≤ a * W + b) :
    c + 1 ≤ a ∧ (a * W + b - (c * W + d)) / W = a - c - 1 ∧ (a * W + b - (c * W + d)) % W = W + b - d := by
  have hca : c + 1 ≤ a := by
    rcases Nat.lt_or_ge c a with h | h
    · exact h
    · have := Nat.mul_le_mul_right W h; omega
  obtain ⟨k, rfl⟩ : ∃ k, a = c + 1 + k := ⟨a - c - 1, by omega⟩
  have e : (c + 1 + k) * W + b - (c * W + d) = k * W + (W + b - d) := by
    rw [Nat.add_mul, Nat.add_mul, Nat.one_mul]; omega
  rw [e]
  exact ⟨hca, by rw [hi_of W k _ (by omega)]; omega, lo_of W k _ (by omega)⟩
theorem sub_plain (W a b c d : Nat) (hb : b < W) (hlt : ¬ b < d) (hle : c * W + d ≤ a * W + b) :
    c ≤ a ∧ (a * W + b - (c * W + d)) / W = a - c ∧ (a * W + b - (c * W + d)) % W = b - d := by
  have hca : c ≤ a := by
    rcases Nat.lt_or_ge a c with h | h
    · have := Nat.mul_le_mul_right W (show a + 1 ≤ c from h)
      rw [Nat.add_mul] at this; omega
    · exact h
  obtain ⟨k, rfl⟩ : ∃ k, a = c + k := ⟨a - c, by omega⟩
  have e : (c + k) * W + b - (c * W + d) = k * W + (b - d) := by
    rw [Nat.add_mul]; omega
  rw [e]
  exact ⟨hca, by rw [hi_of W k _ (by omega)]; omega, lo_of W k _ (by omega)⟩
theorem add_carry (W a b c d : Nat) (hb : b < W) (hd : d < W) (h : W ≤ b + d) :
    (a * W + b + (c * W + d)) / W = a + c + 1 ∧ (a * W + b + (c * W + d)) % W = b + d - W := by
  have e : a * W + b + (c * W + d) = (a + c + 1) * W + (b + d - W) := by
    rw [Nat.add_mul, Nat.add_mul, Nat.one_mul]; omega
  rw [e]
  exact ⟨hi_of W _ _ (by omega), lo_of W _ _ (by omega)⟩
theorem radd_plain (W a b c d : Nat) (h : b + d < W) :
    (a * W + b + (c * W + d)) / W = a + c ∧ (a * W + b + (c * W + d)) % W = b + d := by
  have e : a * W + b + (c * W + d) = (a + c) * W + (b + d) := by
    rw [Nat.add_mul]; omega
  rw [e]
  exact ⟨hi_of W _ _ h, lo_of W _ _ h⟩
end Go.Proofs.YtnjgfhgpicmklaaGreat

namespace Go.Proofs.YtnjgfhgpicmklaaGreat
open Go.RowKit Go.Sort
theorem rproduct_any (a b hi lo : Nat) (h : Two hi lo (a * b)) (w : World) (ha : a < 18446744073709551616) (hb : b < 18446744073709551616) :
    Calls Tryz.prog 207 #[.int .u64 a, .int .u64 b] w fun e w' => e = .returned (.agg #[.bool false, .int .u64 hi, .int .u64 lo]) ∧ Below w.heap.size w w' := by
  obtain ⟨ah, hah⟩ : ∃ ah, ah = a / 4294967296 := ⟨_, rfl⟩
  obtain ⟨al, hal⟩ : ∃ al, al = a % 4294967296 := ⟨_, rfl⟩
  obtain ⟨bh, hbh⟩ : ∃ bh, bh = b / 4294967296 := ⟨_, rfl⟩
  obtain ⟨bl, hbl⟩ : ∃ bl, bl = b % 4294967296 := ⟨_, rfl⟩
  have A1 : (a : Int) / 4294967296 = (ah : Int) := by omega
  have A2 : (a : Int) % 4294967296 = (al : Int) := by omega
  have B1 : (b : Int) / 4294967296 = (bh : Int) := by omega
  have B2 : (b : Int) % 4294967296 = (bl : Int) := by omega
  have ah1 : ah ≤ 4294967295 := by omega
  have al1 : al ≤ 4294967295 := by omega
  have bh1 : bh ≤ 4294967295 := by omega
  have bl1 : bl ≤ 4294967295 := by omega
  obtain ⟨q1, q2⟩ := half_mul 4294967296 ah al bh bl (by omega) (by omega) (by decide)
  have hab : (ah * 4294967296 + al) * (bh * 4294967296 + bl) = a * b := by
    have e1 : ah * 4294967296 + al = a := by rw [hah, hal, Nat.mul_comm]; exact Nat.div_add_mod _ _
    have e2 : bh * 4294967296 + bl = b := by rw [hbh, hbl, Nat.mul_comm]; exact Nat.div_add_mod _ _
    rw [e1, e2]
  obtain ⟨p1, hp1⟩ : ∃ p, p = al * bl := ⟨_, rfl⟩
  obtain ⟨p2, hp2⟩ : ∃ p, p = ah * bl := ⟨_, rfl⟩
  obtain ⟨p3, hp3⟩ : ∃ p, p = al * bh := ⟨_, rfl⟩
  obtain ⟨p4, hp4⟩ : ∃ p, p = ah * bh := ⟨_, rfl⟩
  have c1 : p1 ≤ 18446744065119617025 := by rw [hp1]; exact Nat.mul_le_mul al1 bl1
  have c2 : p2 ≤ 18446744065119617025 := by rw [hp2]; exact Nat.mul_le_mul ah1 bl1
  have c3 : p3 ≤ 18446744065119617025 := by rw [hp3]; exact Nat.mul_le_mul al1 bh1
  have c4 : p4 ≤ 18446744065119617025 := by rw [hp4]; exact Nat.mul_le_mul ah1 bh1
  have W1 : IntKind.u64.wrap ((al : Int) * (bl : Int)) = (p1 : Int) := by rw [IntKind.wrap_u64, ← Int.natCast_mul, ← hp1]; omega
  have W2 : IntKind.u64.wrap ((ah : Int) * (bl : Int)) = (p2 : Int) := by rw [IntKind.wrap_u64, ← Int.natCast_mul, ← hp2]; omega
  have W3 : IntKind.u64.wrap ((al : Int) * (bh : Int)) = (p3 : Int) := by rw [IntKind.wrap_u64, ← Int.natCast_mul, ← hp3]; omega
  have W4 : IntKind.u64.wrap ((ah : Int) * (bh : Int)) = (p4 : Int) := by rw [IntKind.wrap_u64, ← Int.natCast_mul, ← hp4]; omega
  rw [← hp1, ← hp2, ← hp3, ← hp4] at q1
  rw [← hp1, ← hp2, ← hp3] at q2
  rw [hab] at q1
  clear hp1 hp2 hp3 hp4 hab hah hal hbh hbl
  obtain ⟨x1, hx1⟩ : ∃ x, x = p1 / 4294967296 := ⟨_, rfl⟩
  obtain ⟨y1, hy1⟩ : ∃ y, y = p1 % 4294967296 := ⟨_, rfl⟩
  rw [← hx1, ← hy1] at q1 q2
  obtain ⟨m, hm⟩ : ∃ m, m = p2 + x1 := ⟨_, rfl⟩
  rw [← hm] at q1 q2
  obtain ⟨x2, hx2⟩ : ∃ x, x = m / 4294967296 := ⟨_, rfl⟩
  obtain ⟨y2, hy2⟩ : ∃ y, y = m % 4294967296 := ⟨_, rfl⟩
  rw [← hy2] at q1 q2
  rw [← hx2] at q1
  obtain ⟨n, hn⟩ : ∃ n, n = p3 + y2 := ⟨_, rfl⟩
  rw [← hn] at q1 q2
  obtain ⟨x3, hx3⟩ : ∃ x, x = n / 4294967296 := ⟨_, rfl⟩
  obtain ⟨y3, hy3⟩ : ∃ y, y = n % 4294967296 := ⟨_, rfl⟩
  rw [← hy3] at q1 q2
  rw [← hx3] at q1
  obtain ⟨k, hk⟩ : ∃ k, k = y3 * 4294967296 + y1 := ⟨_, rfl⟩
  obtain ⟨j, hj⟩ : ∃ j, j = p4 + x2 + x3 := ⟨_, rfl⟩
  rw [← hk] at q1 q2
  rw [← hj] at q1
  have X1 : (p1 : Int) / 4294967296 = (x1 : Int) := by omega
  have Y1 : (p1 : Int) % 4294967296 = (y1 : Int) := by omega
  have M1 : (p2 : Int) + (x1 : Int) = (m : Int) := by omega
  have X2 : (m : Int) / 4294967296 = (x2 : Int) := by omega
  have Y2 : (m : Int) % 4294967296 = (y2 : Int) := by omega
  have N1 : (p3 : Int) + (y2 : Int) = (n : Int) := by omega
  have X3 : (n : Int) / 4294967296 = (x3 : Int) := by omega
  have Y3 : (n : Int) % 4294967296 = (y3 : Int) := by omega
  have y1b : y1 < 4294967296 := by omega
  have y3b : y3 < 4294967296 := by omega
  have x1b : x1 < 4294967296 := by omega
  have x2b : x2 < 4294967296 := by omega
  have x3b : x3 < 4294967296 := by omega
  have y2b : y2 < 4294967296 := by omega
  obtain ⟨e1, e2⟩ := h
  have f1 : hi = j := by rw [e1, ← q1]; exact hi_of _ j k q2
  have f2 : lo = k := by rw [e2, ← q1]; exact lo_of _ j k q2
  have g1 : IntKind.u64.wrap ((p4 : Int) + (x2 : Int) + (x3 : Int)) = (j : Int) := by rw [IntKind.wrap_u64]; omega
  subst f1 f2
  have H1 := Lib.hid hj
  have H2 := Lib.hid hk
  clear hj hk hx1 hy1 hm hx2 hy2 hn hx3 hy3 e1 e2 q1 q2 g1
  go_enter Tryz.func207, Tryz.ntmps207
  go_wp2_with (first | ((with_reducible refine wp_region_quiet_below ?_ ?_ ?_); kernel_rfl; kernel_rfl; (repeat (go_big_quiet_step (fail))); refine wpQuiet_nil ?_; intro _ hw'; obtain ⟨⟨dq, osq⟩, hw''⟩ := hw'; subst hw''))
  refine bodyPost_ret (v := .agg #[.bool false, .int .u64 (hi : Nat), .int .u64 (lo : Nat)]) (by simp [results, Tryz.results207, go_sem]; exact ⟨by have := H1.out; omega, by have := H2.out; omega⟩) rfl ⟨rfl, (by repeat (first | exact Below.refl _ _ | refine below_reg ?_ _ _ | refine below_alloc ?_ _ | exact below_drewN ?_ _ | assumption))⟩
theorem sgn_mul (a b : Int) : ((!(decide (a < 0) == decide (b < 0))) && (!(a == 0) && !(b == 0))) = decide (a * b < 0) := by
  rcases Int.lt_trichotomy a 0 with h | h | h <;> rcases Int.lt_trichotomy b 0 with h' | h' | h'
  all_goals first
    | (subst h; simp)
    | (subst h'; simp)
    | (have := Int.mul_pos_of_neg_of_neg h h'; rw [decide_eq_true h, decide_eq_true h', decide_eq_false (show ¬ a * b < 0 by omega)]; simp)
    | (have := Int.mul_neg_of_neg_of_pos h h'; rw [decide_eq_true h, decide_eq_false (show ¬ b < 0 by omega), decide_eq_true this, beq_eq_false_iff_ne.2 (show a ≠ 0 by omega), beq_eq_false_iff_ne.2 (show b ≠ 0 by omega)]; rfl)
    | (have := Int.mul_neg_of_pos_of_neg h h'; rw [decide_eq_false (show ¬ a < 0 by omega), decide_eq_true h', decide_eq_true this, beq_eq_false_iff_ne.2 (show a ≠ 0 by omega), beq_eq_false_iff_ne.2 (show b ≠ 0 by omega)]; rfl)
    | (have := Int.mul_pos h h'; rw [decide_eq_false (show ¬ a < 0 by omega), decide_eq_false (show ¬ b < 0 by omega), decide_eq_false (show ¬ a * b < 0 by omega)]; simp)
theorem rProduct_any (a b : Int) (hi lo : Nat) (h : Two hi lo (a.natAbs * b.natAbs)) (w : World) (h0 : -9223372036854775808 ≤ a) (h1 : a ≤ 9223372036854775807) (h2 : -9223372036854775808 ≤ b) (h3 : b ≤ 9223372036854775807) :
    Calls Tryz.prog 181 #[.int .i64 a, .int .i64 b] w fun e w' => e = .returned (.agg #[.bool (decide (a * b < 0)), .int .u64 hi, .int .u64 lo]) ∧ Below w.heap.size w w' := by
  have HS := sgn_mul a b
  rw [← HS]
  have HP := Lib.hid (rproduct_any a.natAbs b.natAbs hi lo h)
  clear HS
  cases ha : decide (a < 0) <;> cases hb : decide (b < 0) <;> cases ha0 : (a == 0) <;> cases hb0 : (b == 0)
  all_goals first | (exfalso; simp at ha hb ha0 hb0; omega) | skip
  all_goals
    have ha1 : (a != 0) = !(a == 0) := rfl
    have hb1 : (b != 0) = !(b == 0) := rfl
    rw [ha0] at ha1
    rw [hb0] at hb1
    simp only [Bool.not_true, Bool.not_false] at ha1 hb1
    go_enter Tryz.func181, Tryz.ntmps181
    go_wp2_with (first | (go_at_call 130; (with_reducible refine cmono ?_ (rsize_any _ _ ?_ ?_)); rotate_left; omega; omega; rintro e w' ⟨rfl, hbc0⟩; obtain ⟨⟨dc0, osc0⟩, rfl⟩ := regrown_of_below hbc0; clear hbc0) | (go_at_call 207; (with_reducible refine cmono ?_ (HP.out _ ?_ ?_)); rotate_left; omega; omega; rintro e w' ⟨rfl, hbc1⟩; obtain ⟨⟨dc1, osc1⟩, rfl⟩ := regrown_of_below hbc1; clear hbc1) | ((with_reducible refine wp_region_quiet_below ?_ ?_ ?_); kernel_rfl; kernel_rfl; (repeat (go_big_quiet_step (first | (go_at_call 130; (with_reducible refine Calls.regrown_of (rsize_any _ _ ?_ ?_)); omega; omega) | (go_at_call 207; (with_reducible refine Calls.regrown_of (HP.out _ ?_ ?_)); omega; omega)))); refine wpQuiet_nil ?_; intro _ hw'; obtain ⟨⟨dq, osq⟩, hw''⟩ := hw'; subst hw''))
    first
      | refine bodyPost_ret (v := .agg #[.bool true, .int .u64 (hi : Nat), .int .u64 (lo : Nat)]) (by simp [results, Tryz.results181, go_sem]) rfl ⟨rfl, (by repeat (first | exact Below.refl _ _ | refine below_reg ?_ _ _ | refine below_alloc ?_ _ | exact below_drewN ?_ _ | assumption))⟩
      | refine bodyPost_ret (v := .agg #[.bool false, .int .u64 (hi : Nat), .int .u64 (lo : Nat)]) (by simp [results, Tryz.results181, go_sem]) rfl ⟨rfl, (by repeat (first | exact Below.refl _ _ | refine below_reg ?_ _ _ | refine below_alloc ?_ _ | exact below_drewN ?_ _ | assumption))⟩
theorem rless_any (x y : Bool) (a b c d m n : Nat) (h1 : Two a b m) (h2 : Two c d n) (w : World) :
    Calls Tryz.prog 183 #[.agg #[.bool x, .int .u64 a, .int .u64 b], .agg #[.bool y, .int .u64 c, .int .u64 d]] w fun en w' => en = .returned (.int .i64 (cmpN (m : Int) (n : Int))) ∧ Below w.heap.size w w' := by
  have HC := cmpN_hi a b c d h1.lo h2.lo
  rw [h1.eq, h2.eq] at HC
  obtain ⟨k, hk⟩ : ∃ k, k = cmpN (m : Int) (n : Int) := ⟨_, rfl⟩
  rw [← hk] at HC ⊢
  have HH := Lib.hid HC
  clear HC h1 h2 hk
  go_enter Tryz.func183, Tryz.ntmps183
  go_wp2_with (first | ((with_reducible refine wp_region_quiet_below ?_ ?_ ?_); kernel_rfl; kernel_rfl; (repeat (go_big_quiet_step (fail))); refine wpQuiet_nil ?_; intro _ hw'; obtain ⟨⟨dq, osq⟩, hw''⟩ := hw'; subst hw''))
  all_goals (go_ret; refine ⟨ret_int ?_, (by repeat (first | exact Below.refl _ _ | refine below_reg ?_ _ _ | refine below_alloc ?_ _ | exact below_drewN ?_ _ | assumption))⟩)
  all_goals (rw [HH.out]; unfold cmpN; simp only [bne_iff_ne, ne_eq, bne_eq_false_iff_eq] at *)
  all_goals ((repeat' split) <;> omega)
theorem rminus_any (x y : Bool) (a b c d hi lo m n : Nat) (h1 : Two a b m) (h2 : Two c d n) (h : Two hi lo (m - n)) (hle : n ≤ m) (hm : m < 9223372036854775807 * 18446744073709551616) (w : World) :
    Calls Tryz.prog 214 #[.agg #[.bool x, .int .u64 a, .int .u64 b], .agg #[.bool y, .int .u64 c, .int .u64 d]] w fun en w' => en = .returned (.agg #[.bool false, .int .u64 hi, .int .u64 lo]) ∧ Below w.heap.size w w' := by
  have e1 := h1.eq
  have e2 := h2.eq
  have l1 := h1.lo
  have l2 := h2.lo
  have u1 := h1.hi _ hm
  have u2 := h2.hi 9223372036854775807 (Nat.lt_of_le_of_lt hle hm)
  obtain ⟨r1, r2⟩ := h
  rw [← e1, ← e2] at r1 r2 hle
  by_cases hb : b < d
  · obtain ⟨v1, v2, v3⟩ := sub_borrow 18446744073709551616 a b c d l1 l2 hb hle
    rw [v2] at r1
    rw [v3] at r2
    have R1 : IntKind.u64.wrap ((a : Int) - (c : Int) - 1) = (hi : Int) := by rw [IntKind.wrap_u64]; omega
    have R2 : IntKind.u64.wrap ((b : Int) - (d : Int)) = (lo : Int) := by rw [IntKind.wrap_u64]; omega
    have R3 : (a : Int) - (c : Int) - 1 = (hi : Int) := by omega
    have hbd : (b : Int) < (d : Int) := by omega
    clear e1 e2 h1 h2 hm hle r1 r2 v2 v3
    go_enter Tryz.func214, Tryz.ntmps214
    go_wp2_with (first | ((with_reducible refine wp_region_quiet_below ?_ ?_ ?_); kernel_rfl; kernel_rfl; (repeat (go_big_quiet_step (fail))); refine wpQuiet_nil ?_; intro _ hw'; obtain ⟨⟨dq, osq⟩, hw''⟩ := hw'; subst hw''))
    refine bodyPost_ret (v := .agg #[.bool false, .int .u64 (hi : Nat), .int .u64 (lo : Nat)]) (by simp [results, Tryz.results214, go_sem]) rfl ⟨rfl, (by repeat (first | exact Below.refl _ _ | refine below_reg ?_ _ _ | refine below_alloc ?_ _ | exact below_drewN ?_ _ | assumption))⟩
  · obtain ⟨v1, v2, v3⟩ := sub_plain 18446744073709551616 a b c d l1 hb hle
    rw [v2] at r1
    rw [v3] at r2
    have R1 : (a : Int) - (c : Int) = (hi : Int) := by omega
    have R2 : (b : Int) - (d : Int) = (lo : Int) := by omega
    have hbd : ¬ (b : Int) < (d : Int) := by omega
    have hbe : (d : Int) ≤ (b : Int) := by omega
    have hca : (c : Int) ≤ (a : Int) := by omega
    clear e1 e2 h1 h2 hm hle r1 r2 v2 v3
    go_enter Tryz.func214, Tryz.ntmps214
    go_wp2_with (first | ((with_reducible refine wp_region_quiet_below ?_ ?_ ?_); kernel_rfl; kernel_rfl; (repeat (go_big_quiet_step (fail))); refine wpQuiet_nil ?_; intro _ hw'; obtain ⟨⟨dq, osq⟩, hw''⟩ := hw'; subst hw''))
    refine bodyPost_ret (v := .agg #[.bool false, .int .u64 (hi : Nat), .int .u64 (lo : Nat)]) (by simp [results, Tryz.results214, go_sem]) rfl ⟨rfl, (by repeat (first | exact Below.refl _ _ | refine below_reg ?_ _ _ | refine below_alloc ?_ _ | exact below_drewN ?_ _ | assumption))⟩
end Go.Proofs.YtnjgfhgpicmklaaGreat
