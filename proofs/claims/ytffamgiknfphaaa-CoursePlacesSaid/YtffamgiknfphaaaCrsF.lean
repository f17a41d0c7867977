

/- What the reference of layer 2 computes: places. No conditions. -/
import Derived.Test.YtffamgiknfphaaaCrsE
namespace Go.Proofs.Ytffamgiknfphaaa
open Go.RowKit Go.Sort Sx
set_option linter.unusedVariables false

theorem rmul_fn (p q r t : Int) : FnOK Try.prog 37 (rat2 p q r t) (ret3 (mulV p q r t)) := by
  refine fn_of_calls (fun _ _ => Try.call37 _ _) rfl rfl (fun h => ?_) (fun h w => ?_)
  · simp only [WDV, WDCs, WDC, WDs, wd_i64, and_true]
    have := mulV_rng p q r t
    omega
  · obtain ⟨⟨_, _, _, _⟩, _, _, _, _⟩ := wd2 h
    exact rmul_any p q r t w (by omega) (by omega) (by omega) (by omega) (by omega) (by omega) (by omega) (by omega)
theorem radd_fn (p q r t : Int) : FnOK Try.prog 38 (rat2 p q r t) (ret3 (addV p q r t)) := by
  refine fn_of_calls (fun _ _ => Try.call38 _ _) rfl rfl (fun h => ?_) (fun h w => ?_)
  · simp only [WDV, WDCs, WDC, WDs, wd_i64, and_true]
    have := addV_rng p q r t
    omega
  · obtain ⟨⟨_, _, _, _⟩, _, _, _, _⟩ := wd2 h
    exact radd_any p q r t w (by omega) (by omega) (by omega) (by omega) (by omega) (by omega) (by omega) (by omega)
theorem rcommon_fn (a b : Nat) : FnOK Try.prog 44 [.one (u64 a), .one (u64 b)] (.c (.one (u64 (Nat.gcd a b : Nat)))) := by
  refine fn_of_calls (fun _ _ => Try.call44 _ _) rfl rfl (fun h => ?_) (fun h w => ?_)
  all_goals simp only [WDCs, WDC, wd_u64] at h
  · simp only [WDV, WDCs, WDC, wd_u64, and_true]
    rcases Nat.eq_zero_or_pos a with h0 | h0
    · subst h0; rw [Nat.gcd_zero_left]; omega
    · have := Nat.gcd_le_left b h0; omega
  · exact rcommon_any a b w
abbrev bigN (m : Nat) : DC := .agg [bol false, u64 ((m / 18446744073709551616 : Nat) : Int), u64 ((m % 18446744073709551616 : Nat) : Int)]
theorem rdivided_fn (x : Bool) (m y : Nat) (hm : m < 9223372036854775807 * 18446744073709551616) (hy : 0 < y) (hY : y ≤ 9223372036854775808) :
    FnOK Try.prog 62 [.agg [bol x, u64 ((m / 18446744073709551616 : Nat) : Int), u64 ((m % 18446744073709551616 : Nat) : Int)], .one (u64 y)] (.tup [bigN (m / y), .one (u64 (m % y : Nat))]) := by
  refine fn_of_calls (fun _ _ => Try.call62 _ _) rfl rfl (fun h => ?_) (fun h w => ?_)
  all_goals simp only [WDCs, WDC, WDs, wd_u64, wd_bol] at h
  · simp only [WDV, WDCs, WDC, WDs, wd_u64, wd_bol, and_true, true_and]
    have h1 : m / y ≤ m := Nat.div_le_self _ _
    have h2 : m % y < y := Nat.mod_lt _ hy
    generalize m / y = q at *
    generalize m % y = r at *
    omega
  · exact rdivided_any x _ _ m y _ _ _ (big_two _) (big_two _) rfl hm hy hY w
theorem rmade_fn (x : Bool) (m n : Nat) (hm : m < 18446744073709551616 * 18446744073709551616) (hn : n < 18446744073709551616) : FnOK Try.prog 60 [.one (bol x), bigN m, .agg [bol false, u64 0, u64 n]] (ret3 (buildN x m n)) := by
  refine fn_of_calls (fun _ _ => Try.call60 _ _) rfl rfl (fun h => ?_) (fun h w => ?_)
  · simp only [WDV, WDCs, WDC, WDs, wd_i64, and_true]
    have := buildN_rng x m n
    omega
  · have := rmade_two x false false _ _ 0 n m n (big_two _) (show Two 0 n n from ⟨by omega, by omega⟩) w
    exact this
theorem rover_fn (S : Int) (d : Nat) (hS : S.natAbs < 9223372036854775807 * 18446744073709551616) (hd : 0 < d) (hd2 : d ≤ 9223372036854775807) : FnOK Try.prog 41 [bigC S, .one (i64 d)] (ret3 (outQ (qv S d))) := by
  refine fn_ok (by kernel_rfl) ty_ok Try.func41 rfl (fun _ _ => Try.call41 _ _) rfl ?_
  intro hw
  clear hw
  have W2 : IntKind.u64.wrap (d : Int) = d := by rw [IntKind.wrap_u64]; omega
  obtain ⟨M, hM⟩ : ∃ M, M = S.natAbs := ⟨_, rfl⟩
  rw [over_q S d hd, ← hM]
  rw [← hM] at hS
  obtain ⟨g, hg⟩ : ∃ g, g = Nat.gcd M d := ⟨_, rfl⟩
  have g0 : 0 < g := by rw [hg]; exact Nat.gcd_pos_of_pos_right _ (by omega)
  have g1 : g ≤ d := by rw [hg]; exact Nat.gcd_le_right _ (by omega)
  have D1 := rdivided_fn (decide (S < 0)) M d hS hd (by omega)
  have D2 := rdivided_fn (decide (S < 0)) M g hS g0 (by omega)
  have C1 := rcommon_fn d (M % d)
  rw [gcd_of_mod, ← hg] at C1
  have k1 : M / g ≤ M := Nat.div_le_self _ _
  have k2 : d / g ≤ d := Nat.div_le_self _ _
  have M1 := rmade_fn (decide (S < 0)) (M / g) (d / g) (by omega) (by omega)
  rw [← hg]
  have e1 : IntKind.u64.wrap ((d : Int).tdiv (g : Int)) = ((d / g : Nat) : Int) := by
    rw [← Int.ofNat_tdiv, IntKind.wrap_u64]
    generalize d / g = k at *
    omega
  have e2 : IntKind.u64.wrap ((IntKind.u64.wrap (d : Int)).tdiv (g : Int)) = ((d / g : Nat) : Int) := by rw [W2, e1]
  rw [← e2] at M1
  have e0 : (g : Int) ≠ 0 := by omega
  have D1' : FnOK Try.prog 62 [bigC S, .one (u64 (IntKind.u64.wrap (d : Int)))] (.tup [bigN (M / d), .one (u64 (M % d : Nat))]) := by rw [W2, bigC, ← hM]; exact D1
  have D2' : FnOK Try.prog 62 [bigC S, .one (u64 g)] (.tup [bigN (M / g), .one (u64 (M % g : Nat))]) := by rw [bigC, ← hM]; exact D2
  have C1' : FnOK Try.prog 44 [.one (u64 (IntKind.u64.wrap (d : Int))), .one (u64 (M % d : Nat))] (.c (.one (u64 g))) := by rw [W2]; exact C1
  clear D1 D2 C1 k1 k2
  obtain ⟨o, ho⟩ : ∃ o, o = buildN (decide (S < 0)) (M / g) (d / g) := ⟨_, rfl⟩
  rw [← ho] at M1 ⊢
  clear ho hM hg
  simp only [ret3] at *
  generalize M / g = mg at *
  generalize M % g = mg2 at *
  generalize M / d = md at *
  generalize M % d = md2 at *

  repeat' ((conv => whnf); first | (with_reducible refine br_t ?_) | (with_reducible refine br_f ?_) | (with_reducible refine And.intro e0 ?_) | ((with_reducible refine brd_t ?_ ?_); (first | omega | decide)) | ((with_reducible refine brd_f ?_ ?_); (first | omega | decide)) | (with_reducible refine brd (fun h => ?_) (fun h => ?_)) | ((with_reducible refine bre_t ?_ ?_); (first | omega | decide)) | ((with_reducible refine bre_f ?_ ?_); (first | omega | decide)) | (with_reducible refine bre (fun h => ?_) (fun h => ?_)) | ((with_reducible refine brn_t ?_ ?_); (first | omega | decide)) | ((with_reducible refine brn_f ?_ ?_); (first | omega | decide)) | (with_reducible refine brn (fun h => ?_) (fun h => ?_)) | (with_reducible refine brb_tt ?_) | (with_reducible refine brb_ff ?_) | (with_reducible refine brb_tf ?_) | (with_reducible refine brb_ft ?_) | (with_reducible refine bnb_tt ?_) | (with_reducible refine bnb_ff ?_) | (with_reducible refine bnb_tf ?_) | (with_reducible refine bnb_ft ?_) | (with_reducible refine brnot ?_) | (refine br_t' (by assumption) ?_) | (refine br_f' (by assumption) ?_) | (with_reducible refine br_i (fun h => ?_) (fun h => ?_)) | (with_reducible refine Exists.intro _ (And.intro (D1') ?_)) | (with_reducible refine Exists.intro _ (And.intro (D2') ?_)) | (with_reducible refine Exists.intro _ (And.intro (C1') ?_)) | (with_reducible refine Exists.intro _ (And.intro (M1) ?_)) | (with_reducible refine Exists.intro _ (And.intro (pv_bool fun _ => eqv23 _ _ _ _ _ _ _ _ _) ?_)) | (with_reducible refine Exists.intro _ (And.intro (pv_bool fun _ => nev23 _ _ _ _ _ _ _ _ _) ?_)) | (with_reducible refine Exists.intro _ (And.intro (pv_bool fun _ => eqv25 _ _ _ _ _ _ _) ?_)) | (with_reducible refine Exists.intro _ (And.intro (pv_bool fun _ => nev25 _ _ _ _ _ _ _) ?_)) | (with_reducible refine Exists.intro _ (And.intro (pv_bool fun _ => eqv61 _ _ _ _ _ _ _) ?_)) | (with_reducible refine Exists.intro _ (And.intro (pv_bool fun _ => nev61 _ _ _ _ _ _ _) ?_)) | (with_reducible refine Exists.intro _ (And.intro (pv_bool fun _ => eqv70 _ _ _ _ _ _ _ _ _) ?_)) | (with_reducible refine Exists.intro _ (And.intro (pv_bool fun _ => nev70 _ _ _ _ _ _ _ _ _) ?_)) | (with_reducible refine Exists.intro _ (And.intro (pv_bool fun _ => eqv85 _ _ _ _ _ _ _ _ _) ?_)) | (with_reducible refine Exists.intro _ (And.intro (pv_bool fun _ => nev85 _ _ _ _ _ _ _ _ _) ?_)) | refine And.intro (by kernel_rfl) ?_ | refine And.intro (by omega) ?_ | refine And.intro (by decide) ?_)
  all_goals conv => whnf
  all_goals rfl
theorem chk_one {a : Int} (h : a ≠ -9223372036854775808) : chk a 1 = 0 := (chk_iff a 1).2 ⟨by omega, h, by show Nat.gcd _ 1 = 1; exact Nat.gcd_one_right _⟩
theorem place_q (a b n d : Int) (hd : 1 ≤ d) : qv a 1 + qv b 1 * qv n d = qv (a * d + b * n) d := by
  rw [qv_mul (by omega) hd, Int.one_mul, qv_add (by omega) hd, Int.one_mul, Int.mul_one]
theorem kkAt_fn (i a b n m : Int) : FnOK Try.prog 16 [pt i a b, rat n m] (ret3 (atV i a b n m)) := by
  refine fn_ok (by kernel_rfl) ty_ok Try.func16 rfl (fun _ _ => Try.call16 _ _) rfl ?_
  intro hw
  have H1 := kkCheck_fn i a b
  have H2 := rcheck_fn n m
  unfold atV
  split
  · rename_i h
    obtain ⟨h1, h2⟩ := h
    rw [h1] at H1
    rw [h2] at H2
    have g1 := cpt_ok h1
    obtain ⟨g2, _, _⟩ := (chk_iff n m).1 h2
    simp only [WDCs, WDC, WDs, wd_i64] at hw
    have p1 := prod_in3 (p := a) (k := m) (by omega) (by omega) (by omega) (by omega)
    have p2 := prod_in3 (p := b) (k := n) (by omega) (by omega) (by omega) (by omega)
    have M1 := rmul_fn b 1 n m
    rw [mulV_q (chk_one (by omega)) h2] at M1
    have P1 := rProduct_fn a m
    have P2 := rProduct_fn b n
    have hq := place_q a b n m g2
    obtain ⟨d, rfl⟩ := Int.eq_ofNat_of_zero_le (show 0 ≤ m by omega)
    obtain ⟨o, ho⟩ : ∃ o, o = outQ (qv (a * d + b * n) d) := ⟨_, rfl⟩
    have O1 := rover_fn (a * d + b * n) d (by omega) (by omega) (by omega)
    rw [← ho] at O1 ⊢
    generalize a * (d : Int) = s at *
    generalize b * n = t at *
    have P3 := rPlus_fn s t (by omega) (by omega)
    rcases outQ_cases (qv b 1 * qv n d) with ⟨u, v, e, c, q, _⟩ | e
    · rw [e] at M1
      have A1 := radd_fn a 1 u v
      rw [addV_q (chk_one (by omega)) c, q, hq, ← ho] at A1
      simp only [ret1, ret3] at *
      repeat' ((conv => whnf); first | (with_reducible refine br_t ?_) | (with_reducible refine br_f ?_) | ((with_reducible refine brd_t ?_ ?_); (first | omega | decide)) | ((with_reducible refine brd_f ?_ ?_); (first | omega | decide)) | (with_reducible refine brd (fun h => ?_) (fun h => ?_)) | ((with_reducible refine bre_t ?_ ?_); (first | omega | decide)) | ((with_reducible refine bre_f ?_ ?_); (first | omega | decide)) | (with_reducible refine bre (fun h => ?_) (fun h => ?_)) | ((with_reducible refine brn_t ?_ ?_); (first | omega | decide)) | ((with_reducible refine brn_f ?_ ?_); (first | omega | decide)) | (with_reducible refine brn (fun h => ?_) (fun h => ?_)) | (with_reducible refine brb_tt ?_) | (with_reducible refine brb_ff ?_) | (with_reducible refine brb_tf ?_) | (with_reducible refine brb_ft ?_) | (with_reducible refine bnb_tt ?_) | (with_reducible refine bnb_ff ?_) | (with_reducible refine bnb_tf ?_) | (with_reducible refine bnb_ft ?_) | (with_reducible refine brnot ?_) | (refine br_t' (by assumption) ?_) | (refine br_f' (by assumption) ?_) | (with_reducible refine br_i (fun h => ?_) (fun h => ?_)) | (with_reducible refine Exists.intro _ (And.intro (H1) ?_)) | (with_reducible refine Exists.intro _ (And.intro (H2) ?_)) | (with_reducible refine Exists.intro _ (And.intro (M1) ?_)) | (with_reducible refine Exists.intro _ (And.intro (A1) ?_)) | (with_reducible refine Exists.intro _ (And.intro (pv_bool fun _ => eqv23 _ _ _ _ _ _ _ _ _) ?_)) | (with_reducible refine Exists.intro _ (And.intro (pv_bool fun _ => nev23 _ _ _ _ _ _ _ _ _) ?_)) | (with_reducible refine Exists.intro _ (And.intro (pv_bool fun _ => eqv25 _ _ _ _ _ _ _) ?_)) | (with_reducible refine Exists.intro _ (And.intro (pv_bool fun _ => nev25 _ _ _ _ _ _ _) ?_)) | (with_reducible refine Exists.intro _ (And.intro (pv_bool fun _ => eqv61 _ _ _ _ _ _ _) ?_)) | (with_reducible refine Exists.intro _ (And.intro (pv_bool fun _ => nev61 _ _ _ _ _ _ _) ?_)) | (with_reducible refine Exists.intro _ (And.intro (pv_bool fun _ => eqv70 _ _ _ _ _ _ _ _ _) ?_)) | (with_reducible refine Exists.intro _ (And.intro (pv_bool fun _ => nev70 _ _ _ _ _ _ _ _ _) ?_)) | (with_reducible refine Exists.intro _ (And.intro (pv_bool fun _ => eqv85 _ _ _ _ _ _ _ _ _) ?_)) | (with_reducible refine Exists.intro _ (And.intro (pv_bool fun _ => nev85 _ _ _ _ _ _ _ _ _) ?_)) | refine And.intro (by kernel_rfl) ?_ | refine And.intro (by omega) ?_ | refine And.intro (by decide) ?_)
      all_goals conv => whnf
      all_goals rfl
    · rw [e] at M1
      simp only [ret1, ret3] at *
      repeat' ((conv => whnf); first | (with_reducible refine br_t ?_) | (with_reducible refine br_f ?_) | ((with_reducible refine brd_t ?_ ?_); (first | omega | decide)) | ((with_reducible refine brd_f ?_ ?_); (first | omega | decide)) | (with_reducible refine brd (fun h => ?_) (fun h => ?_)) | ((with_reducible refine bre_t ?_ ?_); (first | omega | decide)) | ((with_reducible refine bre_f ?_ ?_); (first | omega | decide)) | (with_reducible refine bre (fun h => ?_) (fun h => ?_)) | ((with_reducible refine brn_t ?_ ?_); (first | omega | decide)) | ((with_reducible refine brn_f ?_ ?_); (first | omega | decide)) | (with_reducible refine brn (fun h => ?_) (fun h => ?_)) | (with_reducible refine brb_tt ?_) | (with_reducible refine brb_ff ?_) | (with_reducible refine brb_tf ?_) | (with_reducible refine brb_ft ?_) | (with_reducible refine bnb_tt ?_) | (with_reducible refine bnb_ff ?_) | (with_reducible refine bnb_tf ?_) | (with_reducible refine bnb_ft ?_) | (with_reducible refine brnot ?_) | (refine br_t' (by assumption) ?_) | (refine br_f' (by assumption) ?_) | (with_reducible refine br_i (fun h => ?_) (fun h => ?_)) | (with_reducible refine Exists.intro _ (And.intro (H1) ?_)) | (with_reducible refine Exists.intro _ (And.intro (H2) ?_)) | (with_reducible refine Exists.intro _ (And.intro (M1) ?_)) | (with_reducible refine Exists.intro _ (And.intro (P1) ?_)) | (with_reducible refine Exists.intro _ (And.intro (P2) ?_)) | (with_reducible refine Exists.intro _ (And.intro (P3) ?_)) | (with_reducible refine Exists.intro _ (And.intro (O1) ?_)) | (with_reducible refine Exists.intro _ (And.intro (pv_bool fun _ => eqv23 _ _ _ _ _ _ _ _ _) ?_)) | (with_reducible refine Exists.intro _ (And.intro (pv_bool fun _ => nev23 _ _ _ _ _ _ _ _ _) ?_)) | (with_reducible refine Exists.intro _ (And.intro (pv_bool fun _ => eqv25 _ _ _ _ _ _ _) ?_)) | (with_reducible refine Exists.intro _ (And.intro (pv_bool fun _ => nev25 _ _ _ _ _ _ _) ?_)) | (with_reducible refine Exists.intro _ (And.intro (pv_bool fun _ => eqv61 _ _ _ _ _ _ _) ?_)) | (with_reducible refine Exists.intro _ (And.intro (pv_bool fun _ => nev61 _ _ _ _ _ _ _) ?_)) | (with_reducible refine Exists.intro _ (And.intro (pv_bool fun _ => eqv70 _ _ _ _ _ _ _ _ _) ?_)) | (with_reducible refine Exists.intro _ (And.intro (pv_bool fun _ => nev70 _ _ _ _ _ _ _ _ _) ?_)) | (with_reducible refine Exists.intro _ (And.intro (pv_bool fun _ => eqv85 _ _ _ _ _ _ _ _ _) ?_)) | (with_reducible refine Exists.intro _ (And.intro (pv_bool fun _ => nev85 _ _ _ _ _ _ _ _ _) ?_)) | refine And.intro (by kernel_rfl) ?_ | refine And.intro (by omega) ?_ | refine And.intro (by decide) ?_)
      all_goals conv => whnf
      all_goals rfl
  · rename_i h
    rcases cpt_08 i a b with h1 | h1 <;> rcases chk_08 n m with h2 | h2
    · exact absurd ⟨h1, h2⟩ h
    all_goals
      rw [h1] at H1
      rw [h2] at H2
      simp only [ret1, ret3] at *
      repeat' ((conv => whnf); first | (with_reducible refine br_t ?_) | (with_reducible refine br_f ?_) | ((with_reducible refine brd_t ?_ ?_); (first | omega | decide)) | ((with_reducible refine brd_f ?_ ?_); (first | omega | decide)) | (with_reducible refine brd (fun h => ?_) (fun h => ?_)) | ((with_reducible refine bre_t ?_ ?_); (first | omega | decide)) | ((with_reducible refine bre_f ?_ ?_); (first | omega | decide)) | (with_reducible refine bre (fun h => ?_) (fun h => ?_)) | ((with_reducible refine brn_t ?_ ?_); (first | omega | decide)) | ((with_reducible refine brn_f ?_ ?_); (first | omega | decide)) | (with_reducible refine brn (fun h => ?_) (fun h => ?_)) | (with_reducible refine brb_tt ?_) | (with_reducible refine brb_ff ?_) | (with_reducible refine brb_tf ?_) | (with_reducible refine brb_ft ?_) | (with_reducible refine bnb_tt ?_) | (with_reducible refine bnb_ff ?_) | (with_reducible refine bnb_tf ?_) | (with_reducible refine bnb_ft ?_) | (with_reducible refine brnot ?_) | (refine br_t' (by assumption) ?_) | (refine br_f' (by assumption) ?_) | (with_reducible refine br_i (fun h => ?_) (fun h => ?_)) | (with_reducible refine Exists.intro _ (And.intro (H1) ?_)) | (with_reducible refine Exists.intro _ (And.intro (H2) ?_)) | (with_reducible refine Exists.intro _ (And.intro (pv_bool fun _ => eqv23 _ _ _ _ _ _ _ _ _) ?_)) | (with_reducible refine Exists.intro _ (And.intro (pv_bool fun _ => nev23 _ _ _ _ _ _ _ _ _) ?_)) | (with_reducible refine Exists.intro _ (And.intro (pv_bool fun _ => eqv25 _ _ _ _ _ _ _) ?_)) | (with_reducible refine Exists.intro _ (And.intro (pv_bool fun _ => nev25 _ _ _ _ _ _ _) ?_)) | (with_reducible refine Exists.intro _ (And.intro (pv_bool fun _ => eqv61 _ _ _ _ _ _ _) ?_)) | (with_reducible refine Exists.intro _ (And.intro (pv_bool fun _ => nev61 _ _ _ _ _ _ _) ?_)) | (with_reducible refine Exists.intro _ (And.intro (pv_bool fun _ => eqv70 _ _ _ _ _ _ _ _ _) ?_)) | (with_reducible refine Exists.intro _ (And.intro (pv_bool fun _ => nev70 _ _ _ _ _ _ _ _ _) ?_)) | (with_reducible refine Exists.intro _ (And.intro (pv_bool fun _ => eqv85 _ _ _ _ _ _ _ _ _) ?_)) | (with_reducible refine Exists.intro _ (And.intro (pv_bool fun _ => nev85 _ _ _ _ _ _ _ _ _) ?_)) | refine And.intro (by kernel_rfl) ?_ | refine And.intro (by omega) ?_ | refine And.intro (by decide) ?_)
      all_goals conv => whnf
      all_goals rfl
end Go.Proofs.Ytffamgiknfphaaa
