

/- The contracts of layer 1 and its reference as the symbolic walk takes them. No conditions. -/
import Derived.Test.YtffamgiknfphaaaTy
import Derived.Test.YtffamgiknfphaaaRatM
import Derived.Test.YtffamgiknfphaaaRatR
namespace Go.Proofs.Ytffamgiknfphaaa
open Go.RowKit Go.Sort Sx
set_option linter.unusedVariables false
abbrev i64 (n : Int) : D := .v (.int .i64 n)
abbrev u64 (n : Int) : D := .v (.int .u64 n)
abbrev bol (b : Bool) : D := .v (.bool b)
theorem wd_i64 {n : Int} : WD (i64 n) ↔ -9223372036854775808 ≤ n ∧ n ≤ 9223372036854775807 := WD_v
theorem wd_u64 {n : Int} : WD (u64 n) ↔ 0 ≤ n ∧ n ≤ 18446744073709551615 := WD_v
theorem wd_bol {b : Bool} : WD (bol b) ↔ True := WD_v
theorem wd1 {n d : Int} (h : WDCs [.agg [i64 n, i64 d]]) : -9223372036854775808 ≤ n ∧ n ≤ 9223372036854775807 ∧ -9223372036854775808 ≤ d ∧ d ≤ 9223372036854775807 := by
  simp only [WDCs, WDC, WDs, wd_i64] at h; omega
theorem wd2 {n d m e : Int} (h : WDCs [.agg [i64 n, i64 d], .agg [i64 m, i64 e]]) : (-9223372036854775808 ≤ n ∧ n ≤ 9223372036854775807 ∧ -9223372036854775808 ≤ d ∧ d ≤ 9223372036854775807) ∧ (-9223372036854775808 ≤ m ∧ m ≤ 9223372036854775807 ∧ -9223372036854775808 ≤ e ∧ e ≤ 9223372036854775807) := by
  simp only [WDCs, WDC, WDs, wd_i64] at h; omega
theorem wdi {n : Int} (h : WDCs [.one (i64 n)]) : -9223372036854775808 ≤ n ∧ n ≤ 9223372036854775807 := by
  simp only [WDCs, WDC, WDs, wd_i64] at h; omega
theorem wdii {n m : Int} (h : WDCs [.one (i64 n), .one (i64 m)]) : -9223372036854775808 ≤ n ∧ n ≤ 9223372036854775807 ∧ -9223372036854775808 ≤ m ∧ m ≤ 9223372036854775807 := by
  simp only [WDCs, WDC, WDs, wd_i64] at h; omega

theorem cmpN_rng (a b : Int) : -1 ≤ cmpN a b ∧ cmpN a b ≤ 1 := by unfold cmpN; (repeat' split) <;> omega
theorem buildN_rng (x : Bool) (m n : Nat) : (-9223372036854775807 ≤ (buildN x m n).1 ∧ (buildN x m n).1 ≤ 9223372036854775807) ∧ (0 ≤ (buildN x m n).2.1 ∧ (buildN x m n).2.1 ≤ 9223372036854775807) ∧ (0 ≤ (buildN x m n).2.2 ∧ (buildN x m n).2.2 ≤ 16) := by
  unfold buildN; split
  · cases x <;> simp <;> omega
  · simp
theorem askd_rng (n d : Int) : 0 ≤ askd n d ∧ askd n d ≤ 8 := by
  unfold askd
  rcases chk_08 n d with h | h <;> rw [h] <;> simp <;> (try split) <;> omega
theorem addV_rng (p q r t : Int) : (-9223372036854775807 ≤ (addV p q r t).1 ∧ (addV p q r t).1 ≤ 9223372036854775807) ∧ (0 ≤ (addV p q r t).2.1 ∧ (addV p q r t).2.1 ≤ 9223372036854775807) ∧ (0 ≤ (addV p q r t).2.2 ∧ (addV p q r t).2.2 ≤ 16) := by
  unfold addV; split
  · unfold addR; exact buildN_rng _ _ _
  · simp
theorem mulV_rng (p q r t : Int) : (-9223372036854775807 ≤ (mulV p q r t).1 ∧ (mulV p q r t).1 ≤ 9223372036854775807) ∧ (0 ≤ (mulV p q r t).2.1 ∧ (mulV p q r t).2.1 ≤ 9223372036854775807) ∧ (0 ≤ (mulV p q r t).2.2 ∧ (mulV p q r t).2.2 ≤ 16) := by
  unfold mulV; split
  · unfold mulR; exact buildN_rng _ _ _
  · simp
theorem subV_rng (p q r t : Int) : (-9223372036854775807 ≤ (subV p q r t).1 ∧ (subV p q r t).1 ≤ 9223372036854775807) ∧ (0 ≤ (subV p q r t).2.1 ∧ (subV p q r t).2.1 ≤ 9223372036854775807) ∧ (0 ≤ (subV p q r t).2.2 ∧ (subV p q r t).2.2 ≤ 16) := by
  unfold subV; split
  · exact addV_rng _ _ _ _
  · simp
theorem makeV_rng (n d : Int) : (-9223372036854775807 ≤ (makeV n d).1 ∧ (makeV n d).1 ≤ 9223372036854775807) ∧ (0 ≤ (makeV n d).2.1 ∧ (makeV n d).2.1 ≤ 9223372036854775807) ∧ (0 ≤ (makeV n d).2.2 ∧ (makeV n d).2.2 ≤ 26) := by
  unfold makeV; split
  · simp
  · have := buildN_rng (!(decide (n < 0) == decide (d < 0))) (n.natAbs / Nat.gcd n.natAbs d.natAbs) (d.natAbs / Nat.gcd n.natAbs d.natAbs)
    omega

abbrev rat2 (p q r t : Int) : List DC := [.agg [i64 p, i64 q], .agg [i64 r, i64 t]]
abbrev ret3 (x : Int × Int × Int) : DV := .tup [.agg [i64 x.1, i64 x.2.1], .one (i64 x.2.2)]
abbrev ret2 (x : Int × Int) : DV := .tup [.one (i64 x.1), .one (i64 x.2)]
abbrev ret1 (x : Int) : DV := .c (.one (i64 x))

theorem make_fn (n d : Int) : FnOK Try.prog 29 [.one (i64 n), .one (i64 d)] (ret3 (makeV n d)) := by
  refine fn_of_calls (fun _ _ => Try.call29 _ _) rfl rfl (fun h => ?_) (fun h w => ?_)
  · simp only [WDV, WDCs, WDC, WDs, wd_i64, and_true]
    have := makeV_rng n d
    omega
  · obtain ⟨_, _, _, _⟩ := wdii h
    exact makeV_any n d w (by omega) (by omega) (by omega) (by omega)
theorem check_fn (n d : Int) : FnOK Try.prog 32 [.agg [i64 n, i64 d]] (ret1 (chk n d)) := by
  refine fn_of_calls (fun _ _ => Try.call32 _ _) rfl rfl (fun h => ?_) (fun h w => ?_)
  · simp only [WDV, WDCs, WDC, WDs, wd_i64, and_true]
    rcases chk_08 n d with h | h <;> omega
  · obtain ⟨_, _, _, _⟩ := wd1 h
    exact check_any n d w (by omega) (by omega) (by omega) (by omega)
theorem rcheck_fn (n d : Int) : FnOK Try.prog 24 [.agg [i64 n, i64 d]] (ret1 (chk n d)) := by
  refine fn_of_calls (fun _ _ => Try.call24 _ _) rfl rfl (fun h => ?_) (fun h w => ?_)
  · simp only [WDV, WDCs, WDC, WDs, wd_i64, and_true]
    rcases chk_08 n d with h | h <;> omega
  · obtain ⟨_, _, _, _⟩ := wd1 h
    exact rcheck_any n d w (by omega) (by omega) (by omega) (by omega)
theorem rboth_fn (p q r t : Int) : FnOK Try.prog 59 (rat2 p q r t) (ret1 (bth p q r t)) := by
  refine fn_of_calls (fun _ _ => Try.call59 _ _) rfl rfl (fun h => ?_) (fun h w => ?_)
  · simp only [WDV, WDCs, WDC, WDs, wd_i64, and_true]
    rcases bth_08 p q r t with h | h <;> omega
  · obtain ⟨⟨_, _, _, _⟩, _, _, _, _⟩ := wd2 h
    exact rboth_any p q r t w (by omega) (by omega) (by omega) (by omega) (by omega) (by omega) (by omega) (by omega)
theorem rcompare_fn (p q r t : Int) : FnOK Try.prog 25 (rat2 p q r t) (ret1 (cmpN (p * t) (r * q))) := by
  refine fn_of_calls (fun _ _ => Try.call25 _ _) rfl rfl (fun h => ?_) (fun h w => ?_)
  · simp only [WDV, WDCs, WDC, WDs, wd_i64, and_true]
    have := cmpN_rng (p * t) (r * q)
    omega
  · obtain ⟨⟨_, _, _, _⟩, _, _, _, _⟩ := wd2 h
    exact rcompare_any p q r t w (by omega) (by omega) (by omega) (by omega) (by omega) (by omega) (by omega) (by omega)
end Go.Proofs.Ytffamgiknfphaaa
