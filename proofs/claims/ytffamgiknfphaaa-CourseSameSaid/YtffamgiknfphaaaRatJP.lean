/- Plain lemmas on division digit by digit to the base 2. No program is named. -/
import Derived.Test.YtffamgiknfphaaaRatHP
namespace Go.Proofs.Ytffamgiknfphaaa
open Go.RowKit
set_option linter.unusedVariables false

/-- one digit further: the number's first digits v, the next one b -/
theorem dig_step (v b by_ : Nat) (hb : b ≤ 1) (hy : 0 < by_) :
    (by_ ≤ 2 * (v % by_) + b → (2 * v + b) / by_ = 2 * (v / by_) + 1 ∧ (2 * v + b) % by_ = 2 * (v % by_) + b - by_) ∧
    (¬ by_ ≤ 2 * (v % by_) + b → (2 * v + b) / by_ = 2 * (v / by_) ∧ (2 * v + b) % by_ = 2 * (v % by_) + b) := by
  have hd := Nat.div_add_mod v by_
  have hl := Nat.mod_lt v hy
  generalize v / by_ = q at *
  generalize v % by_ = r at *
  have e : 2 * v + b = by_ * (2 * q) + (2 * r + b) := by
    rw [← hd, Nat.mul_left_comm]; omega
  constructor
  · intro h
    have e2 : 2 * v + b = by_ * (2 * q + 1) + (2 * r + b - by_) := by
      rw [e, Nat.mul_add, Nat.mul_one]; omega
    rw [e2]
    exact ⟨by rw [Nat.mul_add_div hy, Nat.div_eq_of_lt (by omega), Nat.add_zero], by rw [Nat.mul_add_mod, Nat.mod_eq_of_lt (by omega)]⟩
  · intro h
    rw [e]
    exact ⟨by rw [Nat.mul_add_div hy, Nat.div_eq_of_lt (by omega), Nat.add_zero], by rw [Nat.mul_add_mod, Nat.mod_eq_of_lt (by omega)]⟩

/-- the next digit -/
theorem dig_next (m i : Nat) : m / 2 ^ i = 2 * (m / 2 ^ (i + 1)) + m / 2 ^ i % 2 := by
  rw [Nat.pow_succ, ← Nat.div_div_eq_div_mul]
  omega

open Go.Sort in
theorem regrown_regrown (W : World) (d d' : Nat) (os os' : Array Obj) : grow (redrawn (grow (redrawn W d) os) d') os' = grow (redrawn W d') (os ++ os') := by
  simp [grow, redrawn, Array.append_assoc]

theorem or_digit (V j : Nat) : (V * 2 ^ (j + 1)) ||| 2 ^ j = V * 2 ^ (j + 1) + 2 ^ j := by
  have h := Nat.two_pow_add_eq_or_of_lt (i := j + 1) (b := 2 ^ j) (by rw [Nat.pow_succ]; have := Nat.two_pow_pos j; omega) V
  rw [Nat.mul_comm V]; exact h.symm

/-- the quotient so far, and its next digit 1: upper half -/
theorem digit_hi (p q V k : Nat) (hk : 64 ≤ k) (hk2 : k ≤ 127) (hp : p < 18446744073709551616) (h : Two p q (V * 2 ^ (k + 1))) :
    p + 2 ^ (k - 64) < 18446744073709551616 ∧ bits .or .u64 (p : Int) (IntKind.u64.wrap (2 ^ (k - 64))) = ((p + 2 ^ (k - 64) : Nat) : Int) ∧ Two (p + 2 ^ (k - 64)) q ((2 * V + 1) * 2 ^ k) := by
  obtain ⟨j, rfl⟩ : ∃ j, k = j + 64 := ⟨k - 64, by omega⟩
  have hj : j + 64 - 64 = j := by omega
  rw [hj]
  have e1 : V * 2 ^ (j + 64 + 1) = V * 2 ^ (j + 1) * 18446744073709551616 := by
    rw [Nat.mul_assoc, show (18446744073709551616 : Nat) = 2 ^ 64 from rfl, ← Nat.pow_add, show j + 64 + 1 = j + 1 + 64 by omega]
  obtain ⟨hp1, hq1⟩ := h
  rw [e1] at hp1 hq1
  rw [Nat.mul_div_cancel _ (by decide)] at hp1
  rw [Nat.mul_mod_left] at hq1
  have hlt : 2 ^ j < 18446744073709551616 := by
    have := Nat.pow_lt_pow_right (a := 2) (by decide) (show j < 64 by omega)
    exact this
  have e2 : (2 * V + 1) * 2 ^ (j + 64) = (p + 2 ^ j) * 18446744073709551616 := by
    rw [hp1, Nat.pow_add, show (2 : Nat) ^ 64 = 18446744073709551616 from rfl]
    generalize 18446744073709551616 = W
    rw [← Nat.mul_assoc, Nat.pow_succ, Nat.mul_comm (2 ^ j) 2, ← Nat.mul_assoc, Nat.mul_comm V 2, Nat.add_mul (2 * V), Nat.one_mul]
  have hor : p ||| 2 ^ j = p + 2 ^ j := by rw [hp1]; exact or_digit V j
  have hb : p + 2 ^ j < 18446744073709551616 := by
    rw [← hor]; exact Nat.or_lt_two_pow (n := 64) hp hlt
  refine ⟨hb, ?_, ?_⟩
  · have hw : IntKind.u64.wrap (2 ^ j) = ((2 ^ j : Nat) : Int) := by
      rw [show ((2 : Int) ^ j) = ((2 ^ j : Nat) : Int) by simp]
      exact IntWalk.u64_in _ ⟨Int.natCast_nonneg _, by omega⟩
    rw [hw, u64_or_nat _ _ hp hlt, hor]
  · rw [e2]
    refine ⟨?_, ?_⟩
    · rw [Nat.mul_div_cancel _ (by decide)]
    · rw [Nat.mul_mod_left]; exact hq1

/-- the quotient so far, and its next digit 1: lower half -/
theorem digit_lo (p q V k : Nat) (hk : k < 64) (hq : q < 18446744073709551616) (h : Two p q (V * 2 ^ (k + 1))) :
    q + 2 ^ k < 18446744073709551616 ∧ bits .or .u64 (q : Int) (IntKind.u64.wrap (2 ^ k)) = ((q + 2 ^ k : Nat) : Int) ∧ Two p (q + 2 ^ k) ((2 * V + 1) * 2 ^ k) := by
  obtain ⟨hp1, hq1⟩ := h
  have e1 : 2 ^ (63 - k) * 2 ^ (k + 1) = 18446744073709551616 := by
    rw [← Nat.pow_add, show 63 - k + (k + 1) = 64 by omega]
  have hlt : 2 ^ k < 18446744073709551616 := Nat.pow_lt_pow_right (a := 2) (by decide) hk
  have hq2 : q = V % 2 ^ (63 - k) * 2 ^ (k + 1) := by
    rw [hq1, ← e1, Nat.mul_mod_mul_right]
  have hor : q ||| 2 ^ k = q + 2 ^ k := by rw [hq2]; exact or_digit _ k
  have hb : q + 2 ^ k < 18446744073709551616 := by
    rw [← hor]; exact Nat.or_lt_two_pow (n := 64) hq hlt
  refine ⟨hb, ?_, ?_⟩
  · have hw : IntKind.u64.wrap (2 ^ k) = ((2 ^ k : Nat) : Int) := by
      rw [show ((2 : Int) ^ k) = ((2 ^ k : Nat) : Int) by simp]
      exact IntWalk.u64_in _ ⟨Int.natCast_nonneg _, by omega⟩
    rw [hw, u64_or_nat _ _ hq hlt, hor]
  · have e2 : (2 * V + 1) * 2 ^ k = p * 18446744073709551616 + (q + 2 ^ k) := by
      have hd := Nat.div_add_mod (V * 2 ^ (k + 1)) 18446744073709551616
      rw [← hp1, ← hq1] at hd
      have e3 : (2 * V + 1) * 2 ^ k = V * 2 ^ (k + 1) + 2 ^ k := by
        rw [Nat.add_mul, Nat.one_mul, Nat.pow_succ, Nat.mul_comm (2 ^ k) 2, ← Nat.mul_assoc, Nat.mul_comm V 2]
      rw [e3, ← hd, Nat.mul_comm]; omega
    rw [e2]
    exact ⟨(hi_of _ _ _ hb).symm, (lo_of _ _ _ hb).symm⟩

theorem digit_none (V k : Nat) : 2 * V * 2 ^ k = V * 2 ^ (k + 1) := by
  rw [Nat.pow_succ, Nat.mul_comm (2 ^ k) 2, ← Nat.mul_assoc, Nat.mul_comm V 2]

end Go.Proofs.Ytffamgiknfphaaa
