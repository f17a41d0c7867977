

/- The contracts of layer 1 and its reference as the symbolic walk takes them. No conditions. -/
import Derived.Test.YtkobebnijkanhaaTy
import Derived.Test.YtkobebnijkanhaaRatM
import Derived.Test.YtkobebnijkanhaaRatR
namespace Go.Proofs.Ytkobebnijkanhaa
open Go.RowKit Go.Sort Sx
set_option linter.unusedVariables false
abbrev i64 (n : Int) : D := .v (.int .i64 n)
abbrev u64 (n : Int) : D := .v (.int .u64 n)
abbrev bol (b : Bool) : D := .v (.bool b)
theorem wd_i64 {n : Int} : WD (i64 n) ↔ -9223372036854775808 ≤ n ∧ n ≤ 9223372036854775807 := WD_v
theorem wd_u64 {n : Int} : WD (u64 n) ↔ 0 ≤ n ∧ n ≤ 18446744073709551615 := WD_v
theorem wd_bol {b : Bool} : WD (bol b) ↔ True := WD_v
theorem wd1 {n d : Int} (h : WDCs [.agg [i64 n, i64 d]]) : -9223372036854775808 ≤ n ∧ n ≤ 9223372036854775807 ∧ -9223372036854775808 ≤ d ∧ d ≤ 9223372036854775807 := by
  simp only [WDCs, WDC, WDs, wd_i64] at h; omega
theorem wd2 {n d m e : Int} (h : WDCs [.agg [i64 n, i64 d], .agg [i64 m, i64 e]]) : (-9223372036854775808 ≤ n ∧ n ≤ 9223372036854775807 ∧ -9223372036854775808 ≤ d ∧ d ≤ 9223372036854775807) ∧ (-9223372036854775808 ≤ m ∧ m ≤ 9223372036854775807 ∧ -9223372036854775808 ≤ e ∧ e ≤ 9223372036854775807) := by
  simp only [WDCs, WDC, WDs, wd_i64] at h; omega
theorem wdi {n : Int} (h : WDCs [.one (i64 n)]) : -9223372036854775808 ≤ n ∧ n ≤ 9223372036854775807 := by
  simp only [WDCs, WDC, WDs, wd_i64] at h; omega
theorem wdii {n m : Int} (h : WDCs [.one (i64 n), .one (i64 m)]) : -9223372036854775808 ≤ n ∧ n ≤ 9223372036854775807 ∧ -9223372036854775808 ≤ m ∧ m ≤ 9223372036854775807 := by
  simp only [WDCs, WDC, WDs, wd_i64] at h; omega

theorem cmpN_rng (a b : Int) : -1 ≤ cmpN a b ∧ cmpN a b ≤ 1 := by unfold cmpN; (repeat' split) <;> omega
theorem buildN_rng (x : Bool) (m n : Nat) : (-9223372036854775807 ≤ (buildN x m n).1 ∧ (buildN x m n).1 ≤ 9223372036854775807) ∧ (0 ≤ (buildN x m n).2.1 ∧ (buildN x m n).2.1 ≤ 9223372036854775807) ∧ (0 ≤ (buildN x m n).2.2 ∧ (buildN x m n).2.2 ≤ 16) := by
  unfold buildN; split
  · cases x <;> simp <;> omega
  · simp
theorem askd_rng (n d : Int) : 0 ≤ askd n d ∧ askd n d ≤ 8 := by
  unfold askd
  rcases chk_08 n d with h | h <;> rw [h] <;> simp <;> (try split) <;> omega
theorem addV_rng (p q r t : Int) : (-9223372036854775807 ≤ (addV p q r t).1 ∧ (addV p q r t).1 ≤ 9223372036854775807) ∧ (0 ≤ (addV p q r t).2.1 ∧ (addV p q r t).2.1 ≤ 9223372036854775807) ∧ (0 ≤ (addV p q r t).2.2 ∧ (addV p q r t).2.2 ≤ 16) := by
  unfold addV; split
  · unfold addR; exact buildN_rng _ _ _
  · simp
theorem mulV_rng (p q r t : Int) : (-9223372036854775807 ≤ (mulV p q r t).1 ∧ (mulV p q r t).1 ≤ 9223372036854775807) ∧ (0 ≤ (mulV p q r t).2.1 ∧ (mulV p q r t).2.1 ≤ 9223372036854775807) ∧ (0 ≤ (mulV p q r t).2.2 ∧ (mulV p q r t).2.2 ≤ 16) := by
  unfold mulV; split
  · unfold mulR; exact buildN_rng _ _ _
  · simp
theorem subV_rng (p q r t : Int) : (-9223372036854775807 ≤ (subV p q r t).1 ∧ (subV p q r t).1 ≤ 9223372036854775807) ∧ (0 ≤ (subV p q r t).2.1 ∧ (subV p q r t).2.1 ≤ 9223372036854775807) ∧ (0 ≤ (subV p q r t).2.2 ∧ (subV p q r t).2.2 ≤ 16) := by
  unfold subV; split
  · exact addV_rng _ _ _ _
  · simp
theorem makeV_rng (n d : Int) : (-9223372036854775807 ≤ (makeV n d).1 ∧ (makeV n d).1 ≤ 9223372036854775807) ∧ (0 ≤ (makeV n d).2.1 ∧ (makeV n d).2.1 ≤ 9223372036854775807) ∧ (0 ≤ (makeV n d).2.2 ∧ (makeV n d).2.2 ≤ 26) := by
  unfold makeV; split
  · simp
  · have := buildN_rng (!(decide (n < 0) == decide (d < 0))) (n.natAbs / Nat.gcd n.natAbs d.natAbs) (d.natAbs / Nat.gcd n.natAbs d.natAbs)
    omega

abbrev rat2 (p q r t : Int) : List DC := [.agg [i64 p, i64 q], .agg [i64 r, i64 t]]
abbrev ret3 (x : Int × Int × Int) : DV := .tup [.agg [i64 x.1, i64 x.2.1], .one (i64 x.2.2)]
abbrev ret2 (x : Int × Int) : DV := .tup [.one (i64 x.1), .one (i64 x.2)]
abbrev ret1 (x : Int) : DV := .c (.one (i64 x))

theorem cmp_fn (p q r t : Int) : FnOK Try.prog 20 (rat2 p q r t) (ret2 (cmpV p q r t)) := by
  refine fn_of_calls (fun _ _ => Try.call20 _ _) rfl rfl (fun h => ?_) (fun h w => ?_)
  · simp only [WDV, WDCs, WDC, wd_i64, and_true]
    unfold cmpV
    have := cmpN_rng (p * t) (r * q)
    split <;> simp <;> omega
  · obtain ⟨⟨_, _, _, _⟩, _, _, _, _⟩ := wd2 h
    exact cmp_any p q r t w (by omega) (by omega) (by omega) (by omega) (by omega) (by omega) (by omega) (by omega)
theorem add_fn (p q r t : Int) : FnOK Try.prog 22 (rat2 p q r t) (ret3 (addV p q r t)) := by
  refine fn_of_calls (fun _ _ => Try.call22 _ _) rfl rfl (fun h => ?_) (fun h w => ?_)
  · simp only [WDV, WDCs, WDC, WDs, wd_i64, and_true]
    have := addV_rng p q r t
    omega
  · obtain ⟨⟨_, _, _, _⟩, _, _, _, _⟩ := wd2 h
    exact add_any p q r t w (by omega) (by omega) (by omega) (by omega) (by omega) (by omega) (by omega) (by omega)
theorem sub_fn (p q r t : Int) : FnOK Try.prog 24 (rat2 p q r t) (ret3 (subV p q r t)) := by
  refine fn_of_calls (fun _ _ => Try.call24 _ _) rfl rfl (fun h => ?_) (fun h w => ?_)
  · simp only [WDV, WDCs, WDC, WDs, wd_i64, and_true]
    have := subV_rng p q r t
    omega
  · obtain ⟨⟨_, _, _, _⟩, _, _, _, _⟩ := wd2 h
    exact sub_any p q r t w (by omega) (by omega) (by omega) (by omega) (by omega) (by omega) (by omega) (by omega)
theorem mul_fn (p q r t : Int) : FnOK Try.prog 26 (rat2 p q r t) (ret3 (mulV p q r t)) := by
  refine fn_of_calls (fun _ _ => Try.call26 _ _) rfl rfl (fun h => ?_) (fun h w => ?_)
  · simp only [WDV, WDCs, WDC, WDs, wd_i64, and_true]
    have := mulV_rng p q r t
    omega
  · obtain ⟨⟨_, _, _, _⟩, _, _, _, _⟩ := wd2 h
    exact mul_any p q r t w (by omega) (by omega) (by omega) (by omega) (by omega) (by omega) (by omega) (by omega)
theorem make_fn (n d : Int) : FnOK Try.prog 10 [.one (i64 n), .one (i64 d)] (ret3 (makeV n d)) := by
  refine fn_of_calls (fun _ _ => Try.call10 _ _) rfl rfl (fun h => ?_) (fun h w => ?_)
  · simp only [WDV, WDCs, WDC, WDs, wd_i64, and_true]
    have := makeV_rng n d
    omega
  · obtain ⟨_, _, _, _⟩ := wdii h
    exact makeV_any n d w (by omega) (by omega) (by omega) (by omega)
theorem of_fn (n : Int) : FnOK Try.prog 12 [.one (i64 n)] (ret3 (makeV n 1)) := by
  refine fn_of_calls (fun _ _ => Try.call12 _ _) rfl rfl (fun h => ?_) (fun h w => ?_)
  · simp only [WDV, WDCs, WDC, WDs, wd_i64, and_true]
    have := makeV_rng n 1
    omega
  · obtain ⟨_, _⟩ := wdi h
    exact of_any n w (by omega) (by omega)
theorem check_fn (n d : Int) : FnOK Try.prog 16 [.agg [i64 n, i64 d]] (ret1 (chk n d)) := by
  refine fn_of_calls (fun _ _ => Try.call16 _ _) rfl rfl (fun h => ?_) (fun h w => ?_)
  · simp only [WDV, WDCs, WDC, WDs, wd_i64, and_true]
    rcases chk_08 n d with h | h <;> omega
  · obtain ⟨_, _, _, _⟩ := wd1 h
    exact check_any n d w (by omega) (by omega) (by omega) (by omega)
theorem asked_fn (n d : Int) : FnOK Try.prog 18 [.agg [i64 n, i64 d]] (ret1 (askd n d)) := by
  refine fn_of_calls (fun _ _ => Try.call18 _ _) rfl rfl (fun h => ?_) (fun h w => ?_)
  · simp only [WDV, WDCs, WDC, WDs, wd_i64, and_true]
    have := askd_rng n d
    omega
  · obtain ⟨_, _, _, _⟩ := wd1 h
    exact asked_any n d w (by omega) (by omega) (by omega) (by omega)
theorem rcheck_fn (n d : Int) : FnOK Try.prog 17 [.agg [i64 n, i64 d]] (ret1 (chk n d)) := by
  refine fn_of_calls (fun _ _ => Try.call17 _ _) rfl rfl (fun h => ?_) (fun h w => ?_)
  · simp only [WDV, WDCs, WDC, WDs, wd_i64, and_true]
    rcases chk_08 n d with h | h <;> omega
  · obtain ⟨_, _, _, _⟩ := wd1 h
    exact rcheck_any n d w (by omega) (by omega) (by omega) (by omega)
theorem rasked_fn (n d : Int) : FnOK Try.prog 19 [.agg [i64 n, i64 d]] (ret1 (askd n d)) := by
  refine fn_of_calls (fun _ _ => Try.call19 _ _) rfl rfl (fun h => ?_) (fun h w => ?_)
  · simp only [WDV, WDCs, WDC, WDs, wd_i64, and_true]
    have := askd_rng n d
    omega
  · obtain ⟨_, _, _, _⟩ := wd1 h
    exact rasked_any n d w (by omega) (by omega) (by omega) (by omega)
theorem rboth_fn (p q r t : Int) : FnOK Try.prog 29 (rat2 p q r t) (ret1 (bth p q r t)) := by
  refine fn_of_calls (fun _ _ => Try.call29 _ _) rfl rfl (fun h => ?_) (fun h w => ?_)
  · simp only [WDV, WDCs, WDC, WDs, wd_i64, and_true]
    rcases bth_08 p q r t with h | h <;> omega
  · obtain ⟨⟨_, _, _, _⟩, _, _, _, _⟩ := wd2 h
    exact rboth_any p q r t w (by omega) (by omega) (by omega) (by omega) (by omega) (by omega) (by omega) (by omega)
theorem rcompare_fn (p q r t : Int) : FnOK Try.prog 42 (rat2 p q r t) (ret1 (cmpN (p * t) (r * q))) := by
  refine fn_of_calls (fun _ _ => Try.call42 _ _) rfl rfl (fun h => ?_) (fun h w => ?_)
  · simp only [WDV, WDCs, WDC, WDs, wd_i64, and_true]
    have := cmpN_rng (p * t) (r * q)
    omega
  · obtain ⟨⟨_, _, _, _⟩, _, _, _, _⟩ := wd2 h
    exact rcompare_any p q r t w (by omega) (by omega) (by omega) (by omega) (by omega) (by omega) (by omega) (by omega)
theorem floor_fn (n d : Int) : FnOK Try.prog 14 [.agg [i64 n, i64 d]] (ret2 (floorV n d)) := by
  refine fn_of_calls (fun _ _ => Try.call14 _ _) rfl rfl (fun h => ?_) (fun h w => ?_)
  · simp only [WDV, WDCs, WDC, WDs, wd_i64, and_true]
    obtain ⟨_, _, _, _⟩ := wd1 h
    unfold floorV
    split
    · rename_i hc
      obtain ⟨a1, a2, a3⟩ := (chk_iff n d).1 hc
      have h1 : n.natAbs / d.natAbs ≤ n.natAbs := Nat.div_le_self _ _
      have : -9223372036854775808 ≤ n / d ∧ n / d ≤ 9223372036854775807 := by
        constructor
        · rw [Int.le_ediv_iff_mul_le (by omega)]; omega
        · rcases (show n < 0 ∨ 0 ≤ n by omega) with hp | hp
          · have := Int.ediv_neg_of_neg_of_pos hp (show 0 < d by omega); omega
          · have := Int.ediv_le_self d hp; omega
      simp; omega
    · simp
  · obtain ⟨_, _, _, _⟩ := wd1 h
    exact floor_any n d w (by omega) (by omega) (by omega) (by omega)
end Go.Proofs.Ytkobebnijkanhaa
