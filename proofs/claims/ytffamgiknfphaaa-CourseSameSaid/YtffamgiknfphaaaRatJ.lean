

/- What the reference of layer 1 computes when it divides numbers of 128 bits digit by digit (a walk). -/
import Derived.Test.YtffamgiknfphaaaRatI
import Derived.Test.YtffamgiknfphaaaRatJP
namespace Go.Proofs.Ytffamgiknfphaaa
open Go.RowKit Go.Sort
set_option linter.unusedVariables false

/-- what holds at the head of each round: j digits are still to come -/
def DivRel (x : Bool) (a b m y : Nat) (w : World) (u i : Value) (wr : World) : Prop :=
  ∃ (j t p q d : Nat) (os : Array Obj), j ≤ 128 ∧ t < y ∧ u = .int .u64 t ∧ i = .int .i64 ((j : Int) - 1) ∧ Hid (t = m / 2 ^ j % y) ∧ Two p q (m / 2 ^ j / y * 2 ^ j) ∧
      wr = grow (redrawn (((w.alloc (.cells #[.bool x, .int .u64 a, .int .u64 b] 70)).alloc (.cells #[.bool false, .int .u64 0, .int .u64 0] 70)).alloc (.cells #[.bool false, .int .u64 p, .int .u64 q] 70)) d) os

theorem bit_of (z k : Nat) (hz : z < 18446744073709551616) : bits .and .u64 ((z : Int) / 2 ^ k) 1 = ((z / 2 ^ k % 2 : Nat) : Int) := by
  have e : ((z : Int) / 2 ^ k) = ((z / 2 ^ k : Nat) : Int) := by simp
  have hl : z / 2 ^ k ≤ z := Nat.div_le_self _ _
  have h := u64_and_nat (z / 2 ^ k) 1 (by omega) (by omega)
  rw [Nat.and_one_is_mod] at h
  rw [e]
  exact h

theorem bit_hi (m a k : Nat) (ha : a = m / 18446744073709551616) (hk : 64 ≤ k) : a / 2 ^ (k - 64) % 2 = m / 2 ^ k % 2 := by
  rw [ha, Nat.div_div_eq_div_mul, show (18446744073709551616 : Nat) = 2 ^ 64 from rfl, ← Nat.pow_add, show 64 + (k - 64) = k by omega]
theorem bit_lo (m b k : Nat) (hb : b = m % 18446744073709551616) (hk : k < 64) : b / 2 ^ k % 2 = m / 2 ^ k % 2 := by
  have h1 : m = 2 ^ k * (2 * 2 ^ (63 - k)) * (m / 18446744073709551616) + b := by
    have e : 2 ^ k * (2 * 2 ^ (63 - k)) = 18446744073709551616 := by
      rw [show 2 * 2 ^ (63 - k) = 2 ^ (63 - k + 1) by rw [Nat.pow_succ, Nat.mul_comm], ← Nat.pow_add, show k + (63 - k + 1) = 64 by omega]
    rw [e, hb]; exact (Nat.div_add_mod _ _).symm
  generalize m / 18446744073709551616 = z at h1
  subst h1
  rw [Nat.mul_assoc (2 ^ k), Nat.mul_add_div (Nat.two_pow_pos _), Nat.mul_assoc 2, Nat.mul_add_mod]

theorem ret_u {k : IntKind} {a b : Int} (h : a = b) : Value.int k a = .int k b := by rw [h]
theorem regrown_none (w : World) : grow (redrawn w w.drawn) #[] = w := by simp [grow, redrawn]
theorem quot_le (m k y : Nat) : m / 2 ^ k / y * 2 ^ k ≤ m :=
  Nat.le_trans (Nat.mul_le_mul_right _ (Nat.div_le_self _ _)) (Nat.div_mul_le_self _ _)
theorem div_small (m : Nat) (hm : m < 9223372036854775807 * 18446744073709551616) : m / 2 ^ 128 = 0 := Nat.div_eq_of_lt (by omega)

set_option maxHeartbeats 8000000 in
theorem rdivided_any (x : Bool) (a b m y hi lo r : Nat) (h1 : Two a b m) (h : Two hi lo (m / y)) (hr : r = m % y) (hm : m < 9223372036854775807 * 18446744073709551616) (hy : 0 < y) (hY : y ≤ 9223372036854775808) (w : World) :
    Calls Try.prog 62 #[.agg #[.bool x, .int .u64 a, .int .u64 b], .int .u64 y] w fun e w' =>
      e = .returned (.tuple #[.agg #[.bool false, .int .u64 hi, .int .u64 lo], .int .u64 r]) ∧ Below w.heap.size w w' := by
  go_enter Try.func62, Try.ntmps62
  go_wp2_with (first | ((with_reducible refine wp_region_quiet_below ?_ ?_ ?_); kernel_rfl; kernel_rfl; (repeat (go_big_quiet_step (fail))); refine wpQuiet_nil ?_; intro _ hw'; obtain ⟨⟨dq, osq⟩, hw''⟩ := hw'; subst hw''))
  go_loopw [7, 8] (DivRel x a b m y w) (fun _ i _ => (intOf i + 1).toNat)
  case atStart =>
    refine ⟨128, 0, 0, 0, w.drawn, #[], by omega, hy, rfl, rfl, Lib.hid ?_, ?_, ?_⟩
    · rw [div_small m hm]; exact (Nat.zero_mod _).symm
    · rw [div_small m hm]; exact ⟨by simp, by simp⟩
    · exact (regrown_none _).symm
  case round =>
    obtain ⟨j, t, p, q, d, os, hj, ht, rfl, rfl, htd, hpq, rfl⟩ := hrel
    rcases j with _ | k
    · simp only [Nat.pow_zero, Nat.div_one, Nat.mul_one] at htd hpq
      have e1 := h.1.trans hpq.1.symm
      have e2 := h.2.trans hpq.2.symm
      have e3 := hr.trans htd.out.symm
      subst e1 e2 e3
      go_wp2_with (first | ((with_reducible refine wp_region_quiet_below ?_ ?_ ?_); kernel_rfl; kernel_rfl; (repeat (go_big_quiet_step (fail))); refine wpQuiet_nil ?_; intro _ hw'; obtain ⟨⟨dq, osq⟩, hw''⟩ := hw'; subst hw''))
      refine bodyPost_ret (v := .tuple #[.agg #[.bool false, .int .u64 hi, .int .u64 lo], .int .u64 r]) (by simp [results, Try.results62, go_sem]) rfl ⟨rfl, (by repeat (first | exact Below.refl _ _ | refine below_reg ?_ _ _ | refine below_alloc ?_ _ | exact below_drewN ?_ _ | assumption))⟩
    · have e : ((k + 1 : Nat) : Int) - 1 = (k : Int) := by omega
      rw [e]
      have hkb : (k : Int) ≤ 127 := by omega
      obtain ⟨β, hβ⟩ : ∃ β, β = m / 2 ^ k % 2 := ⟨_, rfl⟩
      have hβ1 : β ≤ 1 := by omega
      obtain ⟨T, hT⟩ : ∃ T, T = 2 * t + β := ⟨_, rfl⟩
      have RT : 2 * (t : Int) + (β : Int) = (T : Int) := by omega
      have hTb : T < 18446744073709551616 := by omega
      obtain ⟨s1, s2⟩ := dig_step (m / 2 ^ (k + 1)) β y hβ1 hy
      rw [hβ, ← dig_next m k, ← htd.out, ← hβ, ← hT] at s1 s2
      by_cases hk : (64 : Int) ≤ (k : Int)
      · have RB : bits .and .u64 ((a : Int) / 2 ^ (k - 64)) 1 = (β : Int) := by
          rw [bit_of a _ (by have := h1.hi _ hm; omega), bit_hi m a k h1.1 (by omega), ← hβ]
        by_cases hle : y ≤ T
        · obtain ⟨u1, u2⟩ := s1 hle
          have hle2 : (y : Int) ≤ (T : Int) := by omega
          have U1 := Lib.hid u1
          have U2 := Lib.hid u2
          clear s1 s2 u1 u2 hβ hT
          have V1 := U1.out
          obtain ⟨g1, g2, g3⟩ := digit_hi p q _ k (by omega) (by omega) (by have := hpq.hi _ (Nat.lt_of_le_of_lt (quot_le m (k + 1) y) hm); omega) hpq
          rw [← V1] at g3
          clear V1
          go_wp2_with (first | ((with_reducible refine wp_region_quiet_below ?_ ?_ ?_); kernel_rfl; kernel_rfl; (repeat (go_big_quiet_step (fail))); refine wpQuiet_nil ?_; intro _ hw'; obtain ⟨⟨dq, osq⟩, hw''⟩ := hw'; subst hw'') | ((with_reducible refine wp_region_tail_below 7 ?_ ?_ ?_); kernel_rfl; kernel_rfl; simp only [List.take_succ_cons, List.take_zero, List.drop_succ_cons, List.drop_zero]; (repeat (go_big_quiet_step (fail))); refine wpQuiet_nil ?_; intro _ hw'; obtain ⟨⟨dq, osq⟩, hw''⟩ := hw'; subst hw''))
          rw [show ((p : Int) + 2 ^ (k - 64)) = ((p + 2 ^ (k - 64) : Nat) : Int) by simp]
          refine ⟨⟨k, T - y, p + 2 ^ (k - 64), q, _, _, by omega, by omega, ret_u (by omega), rfl, Lib.hid U2.out.symm, g3, regrown_regrown _ _ _ _ _⟩, by show (((k : Int) - 1) + 1).toNat < ((k : Int) + 1).toNat; omega⟩
        · obtain ⟨u1, u2⟩ := s2 hle
          have U1 := Lib.hid u1
          have U2 := Lib.hid u2
          clear s1 s2 u1 u2 hβ hT
          have V1 := U1.out
          rw [← digit_none, ← V1] at hpq
          clear V1
          go_wp2_with (first | ((with_reducible refine wp_region_quiet_below ?_ ?_ ?_); kernel_rfl; kernel_rfl; (repeat (go_big_quiet_step (fail))); refine wpQuiet_nil ?_; intro _ hw'; obtain ⟨⟨dq, osq⟩, hw''⟩ := hw'; subst hw'') | ((with_reducible refine wp_region_tail_below 7 ?_ ?_ ?_); kernel_rfl; kernel_rfl; simp only [List.take_succ_cons, List.take_zero, List.drop_succ_cons, List.drop_zero]; (repeat (go_big_quiet_step (fail))); refine wpQuiet_nil ?_; intro _ hw'; obtain ⟨⟨dq, osq⟩, hw''⟩ := hw'; subst hw''))
          refine ⟨⟨k, T, p, q, _, _, by omega, by omega, rfl, rfl, Lib.hid U2.out.symm, hpq, rfl⟩, by show (((k : Int) - 1) + 1).toNat < ((k : Int) + 1).toNat; omega⟩
      · have RB : bits .and .u64 ((b : Int) / 2 ^ k) 1 = (β : Int) := by
          rw [bit_of b _ h1.lo, bit_lo m b k h1.2 (by omega), ← hβ]
        by_cases hle : y ≤ T
        · obtain ⟨u1, u2⟩ := s1 hle
          have hle2 : (y : Int) ≤ (T : Int) := by omega
          have U1 := Lib.hid u1
          have U2 := Lib.hid u2
          clear s1 s2 u1 u2 hβ hT
          have V1 := U1.out
          obtain ⟨g1, g2, g3⟩ := digit_lo p q _ k (by omega) hpq.lo hpq
          rw [← V1] at g3
          clear V1
          go_wp2_with (first | ((with_reducible refine wp_region_quiet_below ?_ ?_ ?_); kernel_rfl; kernel_rfl; (repeat (go_big_quiet_step (fail))); refine wpQuiet_nil ?_; intro _ hw'; obtain ⟨⟨dq, osq⟩, hw''⟩ := hw'; subst hw'') | ((with_reducible refine wp_region_tail_below 6 ?_ ?_ ?_); kernel_rfl; kernel_rfl; simp only [List.take_succ_cons, List.take_zero, List.drop_succ_cons, List.drop_zero]; (repeat (go_big_quiet_step (fail))); refine wpQuiet_nil ?_; intro _ hw'; obtain ⟨⟨dq, osq⟩, hw''⟩ := hw'; subst hw''))
          rw [show ((q : Int) + 2 ^ k) = ((q + 2 ^ k : Nat) : Int) by simp]
          refine ⟨⟨k, T - y, p, q + 2 ^ k, _, _, by omega, by omega, ret_u (by omega), rfl, Lib.hid U2.out.symm, g3, regrown_regrown _ _ _ _ _⟩, by show (((k : Int) - 1) + 1).toNat < ((k : Int) + 1).toNat; omega⟩
        · obtain ⟨u1, u2⟩ := s2 hle
          have U1 := Lib.hid u1
          have U2 := Lib.hid u2
          clear s1 s2 u1 u2 hβ hT
          have V1 := U1.out
          rw [← digit_none, ← V1] at hpq
          clear V1
          go_wp2_with (first | ((with_reducible refine wp_region_quiet_below ?_ ?_ ?_); kernel_rfl; kernel_rfl; (repeat (go_big_quiet_step (fail))); refine wpQuiet_nil ?_; intro _ hw'; obtain ⟨⟨dq, osq⟩, hw''⟩ := hw'; subst hw'') | ((with_reducible refine wp_region_tail_below 6 ?_ ?_ ?_); kernel_rfl; kernel_rfl; simp only [List.take_succ_cons, List.take_zero, List.drop_succ_cons, List.drop_zero]; (repeat (go_big_quiet_step (fail))); refine wpQuiet_nil ?_; intro _ hw'; obtain ⟨⟨dq, osq⟩, hw''⟩ := hw'; subst hw''))
          refine ⟨⟨k, T, p, q, _, _, by omega, by omega, rfl, rfl, Lib.hid U2.out.symm, hpq, rfl⟩, by show (((k : Int) - 1) + 1).toNat < ((k : Int) + 1).toNat; omega⟩

end Go.Proofs.Ytffamgiknfphaaa
