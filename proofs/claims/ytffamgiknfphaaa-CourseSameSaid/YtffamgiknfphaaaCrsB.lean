

/- What layer 2 computes: the sum of two products of 128 bits. No conditions but on the sum's size. -/
import Derived.Test.YtffamgiknfphaaaCrsA
namespace Go.Proofs.Ytffamgiknfphaaa
open Go.RowKit Go.Sort Sx
set_option linter.unusedVariables false

theorem mul64_fn (x y : Int) : FnOK Try.prog 56 [.one (u64 x), .one (u64 y)] (.tup [.one (u64 (x * y / 18446744073709551616)), .one (u64 (x * y % 18446744073709551616))]) := by
  refine fn_of_calls (fun _ _ => Try.call56 _ _) rfl rfl (fun h => ?_) (fun h w => ?_)
  all_goals
    simp only [WDCs, WDC, wd_u64] at h
    obtain ⟨X, rfl⟩ := Int.eq_ofNat_of_zero_le (show 0 ≤ x by omega)
    obtain ⟨Y, rfl⟩ := Int.eq_ofNat_of_zero_le (show 0 ≤ y by omega)
  · simp only [WDV, WDCs, WDC, wd_u64, and_true]
    have h1 : X * Y ≤ 18446744073709551615 * 18446744073709551615 := Nat.mul_le_mul (by omega) (by omega)
    rw [← Int.natCast_mul]
    omega
  · have := mul64_any X Y w (by omega) (by omega)
    exact this
theorem add64_fn (x y c : Int) (h0 : 0 ≤ c) (h1 : c ≤ 1) : FnOK Try.prog 57 [.one (u64 x), .one (u64 y), .one (u64 c)] (.tup [.one (u64 ((x + y + c) % 18446744073709551616)), .one (u64 ((x + y + c) / 18446744073709551616))]) := by
  refine fn_of_run rfl rfl (fun h => ?_) (fun h w => ?_)
  all_goals
    simp only [WDCs, WDC, wd_u64] at h
    obtain ⟨X, rfl⟩ := Int.eq_ofNat_of_zero_le (show 0 ≤ x by omega)
    obtain ⟨Y, rfl⟩ := Int.eq_ofNat_of_zero_le (show 0 ≤ y by omega)
    obtain ⟨C, rfl⟩ := Int.eq_ofNat_of_zero_le h0
  · simp only [WDV, WDCs, WDC, wd_u64, and_true]
    omega
  · exact run_Add64 X Y C (by omega) w
theorem sub64_fn (x y c : Int) (h0 : 0 ≤ c) (h1 : c ≤ 1) : FnOK Try.prog 34 [.one (u64 x), .one (u64 y), .one (u64 c)] (.tup [.one (u64 ((x + 18446744073709551616 - y - c) % 18446744073709551616)), .one (u64 (if x < y + c then 1 else 0))]) := by
  refine fn_of_run rfl rfl (fun h => ?_) (fun h w => ?_)
  all_goals
    simp only [WDCs, WDC, wd_u64] at h
    obtain ⟨X, rfl⟩ := Int.eq_ofNat_of_zero_le (show 0 ≤ x by omega)
    obtain ⟨Y, rfl⟩ := Int.eq_ofNat_of_zero_le (show 0 ≤ y by omega)
    obtain ⟨C, rfl⟩ := Int.eq_ofNat_of_zero_le h0
  · simp only [WDV, WDCs, WDC, wd_u64, and_true]
    split <;> omega
  · have := run_Sub64 X Y C (by omega) w
    rw [show ((X : Int) + 18446744073709551616 - Y - C) % 18446744073709551616 = (((X + 18446744073709551616 - Y - C) % 18446744073709551616 : Nat) : Int) by omega,
      show (if (X : Int) < Y + C then (1 : Int) else 0) = ((if X < Y + C then 1 else 0 : Nat) : Int) by split <;> split <;> omega]
    exact this

theorem wrap_ex (x : Int) : ∃ j, IntKind.i64.wrap x = x + j * 18446744073709551616 := by
  rw [IntKind.wrap_i64]
  exact ⟨-((x + 9223372036854775808) / 18446744073709551616), by have := Int.emod_add_mul_ediv (x + 9223372036854775808) 18446744073709551616; omega⟩
theorem rd_lem (W H L T u v x y hi lo high c L' H' a b j1 j2 k : Int) (hx : x = u + a * W) (hy : y = v + b * W) (hm : x * y = hi * W + lo) (hhigh : high = hi - a * v - b * u + j1 * W) (hc : L + lo = c * W + L') (hH : H' = H + high + c + j2 * W)
    (hk : H * W + L = T + k * (W * W)) : H' * W + L' = T + u * v + (k + j1 + j2 + a * b) * (W * W) := by
  have e1 : lo = x * y - hi * W := by omega
  have e2 : L' = L + lo - c * W := by omega
  have e3 : T = H * W + L - k * (W * W) := by omega
  clear hm hc hk
  subst e3 e2 e1 hH hhigh hx hy
  grind
/-- a sum so far, of 128 bits -/
def Acc (H L T : Int) : Prop := (-9223372036854775808 ≤ H ∧ H ≤ 9223372036854775807) ∧ (0 ≤ L ∧ L < 18446744073709551616) ∧ ∃ k, H * 18446744073709551616 + L = T + k * (18446744073709551616 * 18446744073709551616)
/-- a number as one without a sign -/
theorem u64_of (u : Int) (h0 : -9223372036854775808 ≤ u) (h1 : u ≤ 9223372036854775807) : IntKind.u64.wrap u = u + (if u < 0 then 1 else 0) * 18446744073709551616 := by
  rw [IntKind.wrap_u64]; split <;> omega
def HighOK (u v high : Int) : Prop := ∃ j, high = IntKind.u64.wrap u * IntKind.u64.wrap v / 18446744073709551616 - (if u < 0 then 1 else 0) * v - (if v < 0 then 1 else 0) * u + j * 18446744073709551616
theorem rdA {H L T u v high : Int} (hu : -9223372036854775808 ≤ u ∧ u ≤ 9223372036854775807) (hv : -9223372036854775808 ≤ v ∧ v ≤ 9223372036854775807) (h : Acc H L T) (hh : HighOK u v high) :
    Acc (IntKind.i64.wrap (IntKind.i64.wrap (H + high) + IntKind.i64.wrap ((L + IntKind.u64.wrap u * IntKind.u64.wrap v % 18446744073709551616 + 0) / 18446744073709551616)))
      ((L + IntKind.u64.wrap u * IntKind.u64.wrap v % 18446744073709551616 + 0) % 18446744073709551616) (T + u * v) := by
  obtain ⟨h1, h2, k, hk⟩ := h
  obtain ⟨j1, hj1⟩ := hh
  obtain ⟨j2, hj2⟩ := wrap_ex (H + high)
  have ex := u64_of u hu.1 hu.2
  have ey := u64_of v hv.1 hv.2
  generalize IntKind.u64.wrap u = x at *
  generalize IntKind.u64.wrap v = y at *
  generalize (if u < 0 then (1 : Int) else 0) = a at *
  generalize (if v < 0 then (1 : Int) else 0) = b at *
  have d1 := Int.emod_add_mul_ediv (x * y) 18446744073709551616
  have d2 := Int.emod_nonneg (x * y) (show (18446744073709551616 : Int) ≠ 0 by decide)
  have d3 := Int.emod_lt_of_pos (x * y) (show (0 : Int) < 18446744073709551616 by decide)
  generalize hlo : x * y % 18446744073709551616 = lo at *
  generalize hhi : x * y / 18446744073709551616 = hi at *
  rw [Int.add_zero]
  have hc : (0 : Int) ≤ (L + lo) / 18446744073709551616 ∧ (L + lo) / 18446744073709551616 ≤ 1 := by omega
  have hc2 := Int.emod_add_mul_ediv (L + lo) 18446744073709551616
  have hc3 : 0 ≤ (L + lo) % 18446744073709551616 ∧ (L + lo) % 18446744073709551616 < 18446744073709551616 := by omega
  generalize (L + lo) / 18446744073709551616 = c at *
  generalize (L + lo) % 18446744073709551616 = L' at *
  have ec : IntKind.i64.wrap c = c := IntWalk.i64_in c (by omega)
  rw [ec]
  obtain ⟨j3, hj3⟩ := wrap_ex (IntKind.i64.wrap (H + high) + c)
  have hr := inK_wrap .i64 (IntKind.i64.wrap (H + high) + c)
  refine ⟨hr, hc3, k + j1 + (j2 + j3) + a * b, ?_⟩
  refine rd_lem 18446744073709551616 H L T u v x y hi lo high c L' _ a b j1 (j2 + j3) k ex ey (by omega) hj1 (by omega) ?_ hk
  rw [hj3, hj2, Int.add_mul]; omega
theorem high0 {u v : Int} (h1 : ¬ u < 0) (h2 : ¬ v < 0) : HighOK u v (IntKind.i64.wrap (IntKind.u64.wrap u * IntKind.u64.wrap v / 18446744073709551616)) := by
  obtain ⟨j, hj⟩ := wrap_ex (IntKind.u64.wrap u * IntKind.u64.wrap v / 18446744073709551616)
  exact ⟨j, by rw [if_neg h1, if_neg h2, hj]; omega⟩
theorem high1 {u v : Int} (h1 : u < 0) (h2 : ¬ v < 0) : HighOK u v (IntKind.i64.wrap (IntKind.i64.wrap (IntKind.u64.wrap u * IntKind.u64.wrap v / 18446744073709551616) - v)) := by
  obtain ⟨j, hj⟩ := wrap_ex (IntKind.u64.wrap u * IntKind.u64.wrap v / 18446744073709551616)
  obtain ⟨j2, hj2⟩ := wrap_ex (IntKind.i64.wrap (IntKind.u64.wrap u * IntKind.u64.wrap v / 18446744073709551616) - v)
  exact ⟨j + j2, by rw [if_pos h1, if_neg h2, hj2, hj, Int.add_mul]; omega⟩
theorem high2 {u v : Int} (h1 : ¬ u < 0) (h2 : v < 0) : HighOK u v (IntKind.i64.wrap (IntKind.i64.wrap (IntKind.u64.wrap u * IntKind.u64.wrap v / 18446744073709551616) - u)) := by
  obtain ⟨j, hj⟩ := wrap_ex (IntKind.u64.wrap u * IntKind.u64.wrap v / 18446744073709551616)
  obtain ⟨j2, hj2⟩ := wrap_ex (IntKind.i64.wrap (IntKind.u64.wrap u * IntKind.u64.wrap v / 18446744073709551616) - u)
  exact ⟨j + j2, by rw [if_neg h1, if_pos h2, hj2, hj, Int.add_mul]; omega⟩
theorem high3 {u v : Int} (h1 : u < 0) (h2 : v < 0) : HighOK u v (IntKind.i64.wrap (IntKind.i64.wrap (IntKind.i64.wrap (IntKind.u64.wrap u * IntKind.u64.wrap v / 18446744073709551616) - v) - u)) := by
  obtain ⟨j, hj⟩ := wrap_ex (IntKind.u64.wrap u * IntKind.u64.wrap v / 18446744073709551616)
  obtain ⟨j2, hj2⟩ := wrap_ex (IntKind.i64.wrap (IntKind.u64.wrap u * IntKind.u64.wrap v / 18446744073709551616) - v)
  obtain ⟨j3, hj3⟩ := wrap_ex (IntKind.i64.wrap (IntKind.i64.wrap (IntKind.u64.wrap u * IntKind.u64.wrap v / 18446744073709551616) - v) - u)
  exact ⟨j + j2 + j3, by rw [if_pos h1, if_pos h2, hj3, hj2, hj, Int.add_mul, Int.add_mul]; omega⟩
theorem sum_end {H L S : Int} (h : Acc H L (0 + S)) (hS : -85070591730234615865843651857942052864 ≤ S ∧ S ≤ 85070591730234615865843651857942052864) :
    (DV.c (.agg [i64 H, u64 L])) = .c (.agg [i64 (S / 18446744073709551616), u64 (S % 18446744073709551616)]) := by
  obtain ⟨h1, h2, k, hk⟩ := h
  have : k = 0 := by omega
  subst this
  have e1 : S / 18446744073709551616 = H := by omega
  have e2 : S % 18446744073709551616 = L := by omega
  rw [e1, e2]
theorem acc0 : Acc 0 0 0 := ⟨by decide, by decide, 0, by decide⟩

set_option maxHeartbeats 4000000 in
theorem sum_fn (a d b n : Int) (hS : -85070591730234615865843651857942052864 ≤ a * d + b * n ∧ a * d + b * n ≤ 85070591730234615865843651857942052864) :
    FnOK Try.prog 33 [.agg [i64 a, i64 d, i64 b, i64 n]] (.c (.agg [i64 ((a * d + b * n) / 18446744073709551616), u64 ((a * d + b * n) % 18446744073709551616)])) := by
  refine fn_ok (by kernel_rfl) ty_ok Try.func33 rfl (fun _ _ => Try.call33 _ _) rfl ?_
  intro hw
  simp only [WDCs, WDC, WDs, wd_i64] at hw
  have e1 : IntKind.i64.wrap (((0 : Nat) : Int) + 1) = ((1 : Nat) : Int) := rfl
  have e2 : IntKind.i64.wrap (((1 : Nat) : Int) + 1) = ((2 : Nat) : Int) := rfl
  repeat' ((conv => whnf); first | (with_reducible refine br_t ?_) | (with_reducible refine br_f ?_) | ((with_reducible refine brd_t ?_ ?_); (first | omega | decide)) | ((with_reducible refine brd_f ?_ ?_); (first | omega | decide)) | (with_reducible refine brd (fun h => ?_) (fun h => ?_)) | ((with_reducible refine bre_t ?_ ?_); (first | omega | decide)) | ((with_reducible refine bre_f ?_ ?_); (first | omega | decide)) | (with_reducible refine bre (fun h => ?_) (fun h => ?_)) | ((with_reducible refine brn_t ?_ ?_); (first | omega | decide)) | ((with_reducible refine brn_f ?_ ?_); (first | omega | decide)) | (with_reducible refine brn (fun h => ?_) (fun h => ?_)) | (with_reducible refine brb_tt ?_) | (with_reducible refine brb_ff ?_) | (with_reducible refine brb_tf ?_) | (with_reducible refine brb_ft ?_) | (with_reducible refine bnb_tt ?_) | (with_reducible refine bnb_ff ?_) | (with_reducible refine bnb_tf ?_) | (with_reducible refine bnb_ft ?_) | (with_reducible refine brnot ?_) | (refine br_t' (by assumption) ?_) | (refine br_f' (by assumption) ?_) | (with_reducible refine br_i (fun h => ?_) (fun h => ?_)) | (with_reducible refine Exists.intro _ (And.intro (mul64_fn _ _) ?_)) | (with_reducible refine Exists.intro _ (And.intro (add64_fn _ _ _ (by omega) (by omega)) ?_)) | (with_reducible refine Exists.intro _ (And.intro (pv_bool fun _ => eqv23 _ _ _ _ _ _ _ _ _) ?_)) | (with_reducible refine Exists.intro _ (And.intro (pv_bool fun _ => nev23 _ _ _ _ _ _ _ _ _) ?_)) | (with_reducible refine Exists.intro _ (And.intro (pv_bool fun _ => eqv25 _ _ _ _ _ _ _) ?_)) | (with_reducible refine Exists.intro _ (And.intro (pv_bool fun _ => nev25 _ _ _ _ _ _ _) ?_)) | (with_reducible refine Exists.intro _ (And.intro (pv_bool fun _ => eqv61 _ _ _ _ _ _ _) ?_)) | (with_reducible refine Exists.intro _ (And.intro (pv_bool fun _ => nev61 _ _ _ _ _ _ _) ?_)) | (with_reducible refine Exists.intro _ (And.intro (pv_bool fun _ => eqv70 _ _ _ _ _ _ _ _ _) ?_)) | (with_reducible refine Exists.intro _ (And.intro (pv_bool fun _ => nev70 _ _ _ _ _ _ _ _ _) ?_)) | (with_reducible refine Exists.intro _ (And.intro (pv_bool fun _ => eqv85 _ _ _ _ _ _ _ _ _) ?_)) | (with_reducible refine Exists.intro _ (And.intro (pv_bool fun _ => nev85 _ _ _ _ _ _ _ _ _) ?_)) | refine And.intro (by kernel_rfl) ?_ | refine And.intro (by omega) ?_ | refine And.intro (by decide) ?_)
  refine loop_I (by kernel_rfl) ty_ok (σ := Nat × Int × Int)
    (fun s => ([(1, .c (.at (.ptr 1 0))), (2, .c (.at (.ptr 2 0))), (3, .c (.at (.ptr 3 0))), (11, .c (.agg [.d (i64 a), .d (i64 d), .d (i64 b), .d (i64 n)])), (12, sV (.int .i64 (s.1 : Int)))],
      [(3, .own [.d (i64 s.2.1), .d (u64 s.2.2)]), (2, .own [.d (i64 0), .d (u64 0)]), (1, .own [.d (i64 a), .d (i64 d), .d (i64 b), .d (i64 n)])]))
    (fun s => (s.1 = 0 ∧ Acc s.2.1 s.2.2 0) ∨ (s.1 = 1 ∧ Acc s.2.1 s.2.2 (0 + a * d)) ∨ (s.1 = 2 ∧ Acc s.2.1 s.2.2 (0 + a * d + b * n))) (fun s => 2 - s.1) (0, 0, 0) (.inl ⟨rfl, acc0⟩) ⟨⟨rfl, rfl, rfl, rfl, rfl, trivial⟩, ⟨rfl, rfl, rfl, trivial⟩, rfl⟩ ?_
  rintro ⟨i, Hh, Ll⟩ hI
  simp only at hI
  rcases hI with ⟨rfl, hA⟩ | ⟨rfl, hA⟩ | ⟨rfl, hA⟩
  · have hA' := Lib.hid hA
    clear hA
    repeat' ((conv => whnf); first | (with_reducible refine br_t ?_) | (with_reducible refine br_f ?_) | ((with_reducible refine brd_t ?_ ?_); (first | omega | decide)) | ((with_reducible refine brd_f ?_ ?_); (first | omega | decide)) | (with_reducible refine brd (fun h => ?_) (fun h => ?_)) | ((with_reducible refine bre_t ?_ ?_); (first | omega | decide)) | ((with_reducible refine bre_f ?_ ?_); (first | omega | decide)) | (with_reducible refine bre (fun h => ?_) (fun h => ?_)) | ((with_reducible refine brn_t ?_ ?_); (first | omega | decide)) | ((with_reducible refine brn_f ?_ ?_); (first | omega | decide)) | (with_reducible refine brn (fun h => ?_) (fun h => ?_)) | (with_reducible refine brb_tt ?_) | (with_reducible refine brb_ff ?_) | (with_reducible refine brb_tf ?_) | (with_reducible refine brb_ft ?_) | (with_reducible refine bnb_tt ?_) | (with_reducible refine bnb_ff ?_) | (with_reducible refine bnb_tf ?_) | (with_reducible refine bnb_ft ?_) | (with_reducible refine brnot ?_) | (refine br_t' (by assumption) ?_) | (refine br_f' (by assumption) ?_) | (with_reducible refine br_i (fun h => ?_) (fun h => ?_)) | (with_reducible refine Exists.intro _ (And.intro (mul64_fn _ _) ?_)) | (with_reducible refine Exists.intro _ (And.intro (add64_fn _ _ _ (by omega) (by omega)) ?_)) | (with_reducible refine Exists.intro _ (And.intro (pv_bool fun _ => eqv23 _ _ _ _ _ _ _ _ _) ?_)) | (with_reducible refine Exists.intro _ (And.intro (pv_bool fun _ => nev23 _ _ _ _ _ _ _ _ _) ?_)) | (with_reducible refine Exists.intro _ (And.intro (pv_bool fun _ => eqv25 _ _ _ _ _ _ _) ?_)) | (with_reducible refine Exists.intro _ (And.intro (pv_bool fun _ => nev25 _ _ _ _ _ _ _) ?_)) | (with_reducible refine Exists.intro _ (And.intro (pv_bool fun _ => eqv61 _ _ _ _ _ _ _) ?_)) | (with_reducible refine Exists.intro _ (And.intro (pv_bool fun _ => nev61 _ _ _ _ _ _ _) ?_)) | (with_reducible refine Exists.intro _ (And.intro (pv_bool fun _ => eqv70 _ _ _ _ _ _ _ _ _) ?_)) | (with_reducible refine Exists.intro _ (And.intro (pv_bool fun _ => nev70 _ _ _ _ _ _ _ _ _) ?_)) | (with_reducible refine Exists.intro _ (And.intro (pv_bool fun _ => eqv85 _ _ _ _ _ _ _ _ _) ?_)) | (with_reducible refine Exists.intro _ (And.intro (pv_bool fun _ => nev85 _ _ _ _ _ _ _ _ _) ?_)) | refine And.intro (by kernel_rfl) ?_ | refine And.intro (by omega) ?_ | refine And.intro (by decide) ?_)
    all_goals conv => whnf
    all_goals
      refine ⟨(1, _, _), ?_, ⟨⟨rfl, rfl, rfl, rfl, rfl, trivial⟩, ⟨rfl, rfl, rfl, trivial⟩, rfl⟩, by show 2 - 1 < 2 - 0; decide⟩
      refine .inr (.inl ⟨rfl, ?_⟩)
      refine rdA (H := Hh) (L := Ll) (u := a) (v := d) (by omega) (by omega) hA'.out ?_
      with_reducible first
      | (exact high0 (by assumption) (by assumption))
      | (exact high1 (by assumption) (by assumption))
      | (exact high2 (by assumption) (by assumption))
      | (exact high3 (by assumption) (by assumption))
  · have hA' := Lib.hid hA
    clear hA
    repeat' ((conv => whnf); first | (with_reducible refine br_t ?_) | (with_reducible refine br_f ?_) | ((with_reducible refine brd_t ?_ ?_); (first | omega | decide)) | ((with_reducible refine brd_f ?_ ?_); (first | omega | decide)) | (with_reducible refine brd (fun h => ?_) (fun h => ?_)) | ((with_reducible refine bre_t ?_ ?_); (first | omega | decide)) | ((with_reducible refine bre_f ?_ ?_); (first | omega | decide)) | (with_reducible refine bre (fun h => ?_) (fun h => ?_)) | ((with_reducible refine brn_t ?_ ?_); (first | omega | decide)) | ((with_reducible refine brn_f ?_ ?_); (first | omega | decide)) | (with_reducible refine brn (fun h => ?_) (fun h => ?_)) | (with_reducible refine brb_tt ?_) | (with_reducible refine brb_ff ?_) | (with_reducible refine brb_tf ?_) | (with_reducible refine brb_ft ?_) | (with_reducible refine bnb_tt ?_) | (with_reducible refine bnb_ff ?_) | (with_reducible refine bnb_tf ?_) | (with_reducible refine bnb_ft ?_) | (with_reducible refine brnot ?_) | (refine br_t' (by assumption) ?_) | (refine br_f' (by assumption) ?_) | (with_reducible refine br_i (fun h => ?_) (fun h => ?_)) | (with_reducible refine Exists.intro _ (And.intro (mul64_fn _ _) ?_)) | (with_reducible refine Exists.intro _ (And.intro (add64_fn _ _ _ (by omega) (by omega)) ?_)) | (with_reducible refine Exists.intro _ (And.intro (pv_bool fun _ => eqv23 _ _ _ _ _ _ _ _ _) ?_)) | (with_reducible refine Exists.intro _ (And.intro (pv_bool fun _ => nev23 _ _ _ _ _ _ _ _ _) ?_)) | (with_reducible refine Exists.intro _ (And.intro (pv_bool fun _ => eqv25 _ _ _ _ _ _ _) ?_)) | (with_reducible refine Exists.intro _ (And.intro (pv_bool fun _ => nev25 _ _ _ _ _ _ _) ?_)) | (with_reducible refine Exists.intro _ (And.intro (pv_bool fun _ => eqv61 _ _ _ _ _ _ _) ?_)) | (with_reducible refine Exists.intro _ (And.intro (pv_bool fun _ => nev61 _ _ _ _ _ _ _) ?_)) | (with_reducible refine Exists.intro _ (And.intro (pv_bool fun _ => eqv70 _ _ _ _ _ _ _ _ _) ?_)) | (with_reducible refine Exists.intro _ (And.intro (pv_bool fun _ => nev70 _ _ _ _ _ _ _ _ _) ?_)) | (with_reducible refine Exists.intro _ (And.intro (pv_bool fun _ => eqv85 _ _ _ _ _ _ _ _ _) ?_)) | (with_reducible refine Exists.intro _ (And.intro (pv_bool fun _ => nev85 _ _ _ _ _ _ _ _ _) ?_)) | refine And.intro (by kernel_rfl) ?_ | refine And.intro (by omega) ?_ | refine And.intro (by decide) ?_)
    all_goals conv => whnf
    all_goals
      refine ⟨(2, _, _), ?_, ⟨⟨rfl, rfl, rfl, rfl, rfl, trivial⟩, ⟨rfl, rfl, rfl, trivial⟩, rfl⟩, by show 2 - 2 < 2 - 1; decide⟩
      refine .inr (.inr ⟨rfl, ?_⟩)
      refine rdA (H := Hh) (L := Ll) (u := b) (v := n) (by omega) (by omega) hA'.out ?_
      with_reducible first
      | (exact high0 (by assumption) (by assumption))
      | (exact high1 (by assumption) (by assumption))
      | (exact high2 (by assumption) (by assumption))
      | (exact high3 (by assumption) (by assumption))
  · have hA' := Lib.hid hA
    clear hA
    repeat' ((conv => whnf); first | (with_reducible refine br_t ?_) | (with_reducible refine br_f ?_) | ((with_reducible refine brd_t ?_ ?_); (first | omega | decide)) | ((with_reducible refine brd_f ?_ ?_); (first | omega | decide)) | (with_reducible refine brd (fun h => ?_) (fun h => ?_)) | ((with_reducible refine bre_t ?_ ?_); (first | omega | decide)) | ((with_reducible refine bre_f ?_ ?_); (first | omega | decide)) | (with_reducible refine bre (fun h => ?_) (fun h => ?_)) | ((with_reducible refine brn_t ?_ ?_); (first | omega | decide)) | ((with_reducible refine brn_f ?_ ?_); (first | omega | decide)) | (with_reducible refine brn (fun h => ?_) (fun h => ?_)) | (with_reducible refine brb_tt ?_) | (with_reducible refine brb_ff ?_) | (with_reducible refine brb_tf ?_) | (with_reducible refine brb_ft ?_) | (with_reducible refine bnb_tt ?_) | (with_reducible refine bnb_ff ?_) | (with_reducible refine bnb_tf ?_) | (with_reducible refine bnb_ft ?_) | (with_reducible refine brnot ?_) | (refine br_t' (by assumption) ?_) | (refine br_f' (by assumption) ?_) | (with_reducible refine br_i (fun h => ?_) (fun h => ?_)) | (with_reducible refine Exists.intro _ (And.intro (mul64_fn _ _) ?_)) | (with_reducible refine Exists.intro _ (And.intro (add64_fn _ _ _ (by omega) (by omega)) ?_)) | (with_reducible refine Exists.intro _ (And.intro (pv_bool fun _ => eqv23 _ _ _ _ _ _ _ _ _) ?_)) | (with_reducible refine Exists.intro _ (And.intro (pv_bool fun _ => nev23 _ _ _ _ _ _ _ _ _) ?_)) | (with_reducible refine Exists.intro _ (And.intro (pv_bool fun _ => eqv25 _ _ _ _ _ _ _) ?_)) | (with_reducible refine Exists.intro _ (And.intro (pv_bool fun _ => nev25 _ _ _ _ _ _ _) ?_)) | (with_reducible refine Exists.intro _ (And.intro (pv_bool fun _ => eqv61 _ _ _ _ _ _ _) ?_)) | (with_reducible refine Exists.intro _ (And.intro (pv_bool fun _ => nev61 _ _ _ _ _ _ _) ?_)) | (with_reducible refine Exists.intro _ (And.intro (pv_bool fun _ => eqv70 _ _ _ _ _ _ _ _ _) ?_)) | (with_reducible refine Exists.intro _ (And.intro (pv_bool fun _ => nev70 _ _ _ _ _ _ _ _ _) ?_)) | (with_reducible refine Exists.intro _ (And.intro (pv_bool fun _ => eqv85 _ _ _ _ _ _ _ _ _) ?_)) | (with_reducible refine Exists.intro _ (And.intro (pv_bool fun _ => nev85 _ _ _ _ _ _ _ _ _) ?_)) | refine And.intro (by kernel_rfl) ?_ | refine And.intro (by omega) ?_ | refine And.intro (by decide) ?_)
    all_goals conv => whnf
    rw [Int.add_assoc] at hA'
    exact sum_end hA'.out hS
end Go.Proofs.Ytffamgiknfphaaa
