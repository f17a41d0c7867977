/- Plain lemmas: fractions that are small have a place. No program is named. -/
import Derived.Test.YtffamgiknfphaaaRatR
namespace Go.Proofs.Ytffamgiknfphaaa
open Go.RowKit
set_option linter.unusedVariables false

theorem num_mkRat_le (n : Int) (d : Nat) : (mkRat n d).num.natAbs ≤ n.natAbs := by
  rw [Rat.num_mkRat]
  split
  · simp
  · rw [Int.natAbs_ediv_of_dvd]
    · exact Nat.div_le_self _ _
    · exact Int.ofNat_dvd_left.2 (Nat.gcd_dvd_right _ _)
theorem den_mkRat_le (n : Int) (d : Nat) (h : d ≠ 0) : (mkRat n d).den ≤ d := by
  rw [Rat.den_mkRat, if_neg h]; exact Nat.div_le_self _ _
theorem qv_add {n d m e : Int} (h : 1 ≤ d) (k : 1 ≤ e) : qv n d + qv m e = qv (n * e + m * d) (d * e) := by
  unfold qv
  rw [Rat.mkRat_add_mkRat _ _ (by omega) (by omega), Int.toNat_mul (by omega) (by omega), Int.toNat_of_nonneg (by omega), Int.toNat_of_nonneg (by omega)]
theorem qv_mul {n d m e : Int} (h : 1 ≤ d) (k : 1 ≤ e) : qv n d * qv m e = qv (n * m) (d * e) := by
  unfold qv
  rw [Rat.mkRat_mul_mkRat, Int.toNat_mul (by omega) (by omega)]
theorem qv_sub {n d m e : Int} (h : 1 ≤ d) (k : 1 ≤ e) : qv n d - qv m e = qv (n * e - m * d) (d * e) := by
  rw [Rat.sub_eq_add_neg, ← qv_neg, qv_add h k]
  congr 1
  rw [Int.neg_mul, Int.sub_eq_add_neg]
theorem qv_eq {n d m e : Int} (h : 1 ≤ d) (k : 1 ≤ e) : qv n d = qv m e ↔ n * e = m * d := by
  unfold qv
  rw [Rat.mkRat_eq_iff (by omega) (by omega), Int.toNat_of_nonneg (by omega), Int.toNat_of_nonneg (by omega)]
/-- a fraction with small numbers has a place -/
theorem outQ_sm {n d : Int} (h0 : 1 ≤ d) (h1 : d ≤ 9223372036854775807) (h2 : -9223372036854775807 ≤ n) (h3 : n ≤ 9223372036854775807) :
    ∃ m e : Int, outQ (qv n d) = (m, e, 0) ∧ chk m e = 0 ∧ qv m e = qv n d ∧ 1 ≤ e ∧ e ≤ d ∧ m.natAbs ≤ n.natAbs := by
  have a := num_mkRat_le n d.toNat
  have b := den_mkRat_le n d.toNat (by omega)
  have c := (qv n d).den_pos
  refine ⟨(qv n d).num, (qv n d).den, ?_, chk_rat _ ?_, qv_rat _, ?_, ?_, a⟩
  · unfold outQ
    rw [if_pos]
    show (mkRat n d.toNat).num.natAbs ≤ _ ∧ (mkRat n d.toNat).den ≤ _
    omega
  · show (mkRat n d.toNat).num.natAbs ≤ _
    omega
  · omega
  · show ((mkRat n d.toNat).den : Int) ≤ d
    omega
theorem prod_in2 (p k a b : Int) (h0 : -a ≤ p) (h1 : p ≤ a) (k0 : -b ≤ k) (k1 : k ≤ b) : -(a * b) ≤ p * k ∧ p * k ≤ a * b := by
  have : (p * k).natAbs ≤ a.natAbs * b.natAbs := by rw [Int.natAbs_mul]; exact Nat.mul_le_mul (by omega) (by omega)
  have e : a * b = ((a.natAbs * b.natAbs : Nat) : Int) := by rw [Int.natCast_mul, Int.natAbs_of_nonneg (by omega), Int.natAbs_of_nonneg (by omega)]
  omega
end Go.Proofs.Ytffamgiknfphaaa
