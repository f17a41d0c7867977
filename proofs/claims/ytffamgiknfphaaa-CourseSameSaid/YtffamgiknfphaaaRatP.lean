/- Plain lemmas on fractions: floors, lowest terms, and the rational numbers that fractions stand for. No program is named. -/
import Derived.WalkKit
namespace Go.Proofs.Ytffamgiknfphaaa
open Go.RowKit

theorem tdiv_floor (n d : Int) (hd : 1 ≤ d) (h0 : -9223372036854775808 ≤ n) (h1 : n ≤ 9223372036854775807) :
    wrap64 (n.tdiv d * d) = n.tdiv d * d ∧ (n < n.tdiv d * d → n / d = n.tdiv d - 1) ∧ (¬ n < n.tdiv d * d → n / d = n.tdiv d) := by
  have he := Int.tdiv_eq_ediv (a := n) (b := d)
  have hm := Int.emod_add_mul_ediv n d
  have hm0 := Int.emod_nonneg n (show d ≠ 0 by omega)
  have hm1 := Int.emod_lt_of_pos n (show 0 < d by omega)
  rw [Int.mul_comm] at hm
  split at he
  · rename_i hc
    rw [Int.add_zero] at he
    rw [he]
    refine ⟨?_, fun h => by omega, fun _ => rfl⟩
    refine IntWalk.wrap64_in _ ?_
    all_goals
      rcases hc with hc | hc
      · have : 0 ≤ n / d * d := Int.mul_nonneg (Int.ediv_nonneg hc (by omega)) (by omega)
        omega
      · have := Int.ediv_mul_cancel hc
        omega
  · rename_i hc
    have hs : d.sign = 1 := Int.sign_eq_one_of_pos (by omega)
    rw [hs] at he
    rw [he, Int.add_mul, Int.one_mul]
    have hn : n < 0 := by omega
    have hq : n / d ≤ -1 := by
      have := Int.ediv_neg_of_neg_of_pos hn (show 0 < d by omega)
      omega
    have hle : (n / d + 1) * d ≤ 0 * d := Int.mul_le_mul_of_nonneg_right (by omega) (by omega)
    rw [Int.add_mul, Int.one_mul, Int.zero_mul] at hle
    refine ⟨?_, fun h => by omega, fun h => by omega⟩
    exact IntWalk.wrap64_in _ (by omega)

theorem tdiv_small (n d : Int) (h0 : -9223372036854775807 ≤ n) (h1 : n ≤ 9223372036854775807) : -9223372036854775807 ≤ n.tdiv d ∧ n.tdiv d ≤ 9223372036854775807 := by
  have h : (n.tdiv d).natAbs ≤ n.natAbs := by rw [Int.natAbs_tdiv]; exact Nat.div_le_self _ _
  omega

end Go.Proofs.Ytffamgiknfphaaa
