import Derived.Test.YtmdnpklbdamfpaaGLClosestN
import Derived.Test.YtmdnpklbdamfpaaGLClosestI
set_option linter.all false


/- What layer 2 computes: checks, and the sum of two products of 128 bits. No conditions. -/
namespace Go.Proofs.Ytmdnpklbdamfpaa
open Go.RowKit Go.Sort Sx

abbrev pt (i a b : Int) : DC := .agg [i64 i, i64 a, i64 b]
abbrev rat (n d : Int) : DC := .agg [i64 n, i64 d]
def far (n : Int) : Bool := decide (n < -1048576 ∨ n > 1048576)
theorem far_t {n : Int} {A B : Prop} (h1 : n < -1048576 ∨ 1048576 < n → A) (h2 : -1048576 ≤ n ∧ n ≤ 1048576 → B) : br (far n) A B := brd h1 fun h => h2 (by omega)
theorem far_y {n : Int} {A B : Prop} (e : n < -1048576 ∨ 1048576 < n) (h : A) : br (far n) A B := brd_t e h
theorem far_n {n : Int} {A B : Prop} (e : -1048576 ≤ n ∧ n ≤ 1048576) (h : B) : br (far n) A B := brd_f (by omega) h
def cpt (i a b : Int) : Int := if 0 ≤ i ∧ i ≤ 65535 ∧ -1048576 ≤ a ∧ a ≤ 1048576 ∧ -1048576 ≤ b ∧ b ≤ 1048576 then 0 else 8
theorem cpt_08 (i a b : Int) : cpt i a b = 0 ∨ cpt i a b = 8 := by unfold cpt; split <;> simp
theorem cpt_ok {i a b : Int} (h : cpt i a b = 0) : 0 ≤ i ∧ i ≤ 65535 ∧ -1048576 ≤ a ∧ a ≤ 1048576 ∧ -1048576 ≤ b ∧ b ≤ 1048576 := by
  unfold cpt at h; split at h
  · assumption
  · cases h
theorem kfar_fn (n : Int) : FnOK Try.prog 32 [.one (i64 n)] (.c (.one (bol (far n)))) := by
  refine fn_ok (by kernel_rfl) ty_ok Try.func32 rfl (fun _ _ => Try.call32 _ _) rfl ?_
  intro hw
  repeat' ((conv => whnf); first | (with_reducible first | refine br_t ?_ | refine br_f ?_ | refine xa (by assumption) ?_ | refine xg (by assumption) rfl ?_ | refine xo (by assumption) ?_ | refine xb (by assumption) rfl ?_ | refine xm (by assumption) ?_ | refine xc (by assumption) ?_) | ((with_reducible refine bc_t ?_ ?_); (first | omega | decide)) | ((with_reducible refine bc_f ?_ ?_); (first | omega | decide)) | (with_reducible first | refine bc (fun h => ?_) (fun h => ?_) | refine br_t' (by assumption) ?_ | refine br_f' (by assumption) ?_ | refine br_i (fun h => ?_) (fun h => ?_)) | refine xg (by assumption) rfl ?_ | refine And.intro (by first | kernel_rfl | omega | (simp only [List.length_append, List.length_cons, List.length_nil, List.length_map]; omega) | decide) ?_)
  all_goals conv => whnf
  all_goals
    refine r_bool ?_
    unfold far
    first
    | exact (decide_eq_true (by omega)).symm
    | (have e : (n > 1048576) = (n < -1048576 ∨ n > 1048576) := propext ⟨.inr, fun h => by omega⟩
       exact decide_eq_decide.2 (by omega))
theorem kCheck_fn (i a b : Int) : FnOK Try.prog 16 [pt i a b] (ret1 (cpt i a b)) := by
  refine fn_ok (by kernel_rfl) ty_ok Try.func16 rfl (fun _ _ => Try.call16 _ _) rfl ?_
  intro hw
  repeat' ((conv => whnf); first | (with_reducible first | refine br_t ?_ | refine br_f ?_ | refine xa (by assumption) ?_ | refine xg (by assumption) rfl ?_ | refine xo (by assumption) ?_ | refine xb (by assumption) rfl ?_ | refine xm (by assumption) ?_ | refine xc (by assumption) ?_ | refine xi (kfar_fn _) ?_) | first | ((with_reducible refine far_y ?_ ?_); omega) | ((with_reducible refine far_n ?_ ?_); omega) | (with_reducible refine far_t (fun h => ?_) (fun h => ?_)) | ((with_reducible refine bc_t ?_ ?_); (first | omega | decide)) | ((with_reducible refine bc_f ?_ ?_); (first | omega | decide)) | (with_reducible first | refine bc (fun h => ?_) (fun h => ?_) | refine br_t' (by assumption) ?_ | refine br_f' (by assumption) ?_ | refine br_i (fun h => ?_) (fun h => ?_)) | refine xg (by assumption) rfl ?_ | refine And.intro (by first | kernel_rfl | omega | (simp only [List.length_append, List.length_cons, List.length_nil, List.length_map]; omega) | decide) ?_)
  all_goals conv => whnf
  all_goals
    refine r_int ?_
    unfold cpt
    first
    | rw [if_pos (by omega)]
    | rw [if_neg (by omega)]
theorem kkCheck_fn (i a b : Int) : FnOK Try.prog 28 [pt i a b] (ret1 (cpt i a b)) := by
  refine fn_ok (by kernel_rfl) ty_ok Try.func28 rfl (fun _ _ => Try.call28 _ _) rfl ?_
  intro hw
  repeat' ((conv => whnf); first | (with_reducible first | refine br_t ?_ | refine br_f ?_ | refine xa (by assumption) ?_ | refine xg (by assumption) rfl ?_ | refine xo (by assumption) ?_ | refine xb (by assumption) rfl ?_ | refine xm (by assumption) ?_ | refine xc (by assumption) ?_) | ((with_reducible refine bc_t ?_ ?_); (first | omega | decide)) | ((with_reducible refine bc_f ?_ ?_); (first | omega | decide)) | (with_reducible first | refine bc (fun h => ?_) (fun h => ?_) | refine br_t' (by assumption) ?_ | refine br_f' (by assumption) ?_ | refine br_i (fun h => ?_) (fun h => ?_)) | refine xg (by assumption) rfl ?_ | refine And.intro (by first | kernel_rfl | omega | (simp only [List.length_append, List.length_cons, List.length_nil, List.length_map]; omega) | decide) ?_)
  all_goals conv => whnf
  all_goals
    refine r_int ?_
    unfold cpt
    first
    | rw [if_pos (by omega)]
    | rw [if_neg (by omega)]
end Go.Proofs.Ytmdnpklbdamfpaa



/- What layer 2 computes: the sum of two products of 128 bits. No conditions but on the sum's size. -/
namespace Go.Proofs.Ytmdnpklbdamfpaa
open Go.RowKit Go.Sort Sx

theorem mul64_fn (x y : Int) : FnOK Try.prog 34 [.one (u64 x), .one (u64 y)] (.tup [.one (u64 (x * y / 18446744073709551616)), .one (u64 (x * y % 18446744073709551616))]) := by
  refine fn_of_calls (fun _ _ => Try.call34 _ _) rfl rfl (fun h => ?_) (fun h w => ?_)
  all_goals
    simp only [WDCs, WDC, wd_u64] at h
    obtain ⟨X, rfl⟩ := Int.eq_ofNat_of_zero_le (show 0 ≤ x by omega)
    obtain ⟨Y, rfl⟩ := Int.eq_ofNat_of_zero_le (show 0 ≤ y by omega)
  · simp only [WDV, WDCs, WDC, wd_u64, and_true]
    have h1 : X * Y ≤ 18446744073709551615 * 18446744073709551615 := Nat.mul_le_mul (by omega) (by omega)
    rw [← Int.natCast_mul]
    omega
  · have := mul64_any X Y w (by omega) (by omega)
    exact this
theorem add64_fn (x y c : Int) (h0 : 0 ≤ c) (h1 : c ≤ 1) : FnOK Try.prog 35 [.one (u64 x), .one (u64 y), .one (u64 c)] (.tup [.one (u64 ((x + y + c) % 18446744073709551616)), .one (u64 ((x + y + c) / 18446744073709551616))]) := by
  refine fn_of_run rfl rfl (fun h => ?_) (fun h w => ?_)
  all_goals
    simp only [WDCs, WDC, wd_u64] at h
    obtain ⟨X, rfl⟩ := Int.eq_ofNat_of_zero_le (show 0 ≤ x by omega)
    obtain ⟨Y, rfl⟩ := Int.eq_ofNat_of_zero_le (show 0 ≤ y by omega)
    obtain ⟨C, rfl⟩ := Int.eq_ofNat_of_zero_le h0
  · simp only [WDV, WDCs, WDC, wd_u64, and_true]
    omega
  · exact run_Add64 X Y C (by omega) w
theorem sub64_fn (x y c : Int) (h0 : 0 ≤ c) (h1 : c ≤ 1) : FnOK Try.prog 20 [.one (u64 x), .one (u64 y), .one (u64 c)] (.tup [.one (u64 ((x + 18446744073709551616 - y - c) % 18446744073709551616)), .one (u64 (if x < y + c then 1 else 0))]) := by
  refine fn_of_run rfl rfl (fun h => ?_) (fun h w => ?_)
  all_goals
    simp only [WDCs, WDC, wd_u64] at h
    obtain ⟨X, rfl⟩ := Int.eq_ofNat_of_zero_le (show 0 ≤ x by omega)
    obtain ⟨Y, rfl⟩ := Int.eq_ofNat_of_zero_le (show 0 ≤ y by omega)
    obtain ⟨C, rfl⟩ := Int.eq_ofNat_of_zero_le h0
  · simp only [WDV, WDCs, WDC, wd_u64, and_true]
    split <;> omega
  · have := run_Sub64 X Y C (by omega) w
    rw [show ((X : Int) + 18446744073709551616 - Y - C) % 18446744073709551616 = (((X + 18446744073709551616 - Y - C) % 18446744073709551616 : Nat) : Int) by omega,
      show (if (X : Int) < Y + C then (1 : Int) else 0) = ((if X < Y + C then 1 else 0 : Nat) : Int) by split <;> split <;> omega]
    exact this

theorem wrap_ex (x : Int) : ∃ j, IntKind.i64.wrap x = x + j * 18446744073709551616 := by
  rw [IntKind.wrap_i64]
  exact ⟨-((x + 9223372036854775808) / 18446744073709551616), by have := Int.emod_add_mul_ediv (x + 9223372036854775808) 18446744073709551616; omega⟩
theorem rd_lem (W H L T u v x y hi lo high c L' H' a b j1 j2 k : Int) (hx : x = u + a * W) (hy : y = v + b * W) (hm : x * y = hi * W + lo) (hhigh : high = hi - a * v - b * u + j1 * W) (hc : L + lo = c * W + L') (hH : H' = H + high + c + j2 * W)
    (hk : H * W + L = T + k * (W * W)) : H' * W + L' = T + u * v + (k + j1 + j2 + a * b) * (W * W) := by
  have e1 : lo = x * y - hi * W := by omega
  have e2 : L' = L + lo - c * W := by omega
  have e3 : T = H * W + L - k * (W * W) := by omega
  clear hm hc hk
  subst e3 e2 e1 hH hhigh hx hy
  grind
/-- a sum so far, of 128 bits -/
def Acc (H L T : Int) : Prop := (-9223372036854775808 ≤ H ∧ H ≤ 9223372036854775807) ∧ (0 ≤ L ∧ L < 18446744073709551616) ∧ ∃ k, H * 18446744073709551616 + L = T + k * (18446744073709551616 * 18446744073709551616)
/-- a number as one without a sign -/
theorem u64_of (u : Int) (h0 : -9223372036854775808 ≤ u) (h1 : u ≤ 9223372036854775807) : IntKind.u64.wrap u = u + (if u < 0 then 1 else 0) * 18446744073709551616 := by
  rw [IntKind.wrap_u64]; split <;> omega
def HighOK (u v high : Int) : Prop := ∃ j, high = IntKind.u64.wrap u * IntKind.u64.wrap v / 18446744073709551616 - (if u < 0 then 1 else 0) * v - (if v < 0 then 1 else 0) * u + j * 18446744073709551616
theorem rdA {H L T u v high : Int} (hu : -9223372036854775808 ≤ u ∧ u ≤ 9223372036854775807) (hv : -9223372036854775808 ≤ v ∧ v ≤ 9223372036854775807) (h : Acc H L T) (hh : HighOK u v high) :
    Acc (IntKind.i64.wrap (IntKind.i64.wrap (H + high) + IntKind.i64.wrap ((L + IntKind.u64.wrap u * IntKind.u64.wrap v % 18446744073709551616 + 0) / 18446744073709551616)))
      ((L + IntKind.u64.wrap u * IntKind.u64.wrap v % 18446744073709551616 + 0) % 18446744073709551616) (T + u * v) := by
  obtain ⟨h1, h2, k, hk⟩ := h
  obtain ⟨j1, hj1⟩ := hh
  obtain ⟨j2, hj2⟩ := wrap_ex (H + high)
  have ex := u64_of u hu.1 hu.2
  have ey := u64_of v hv.1 hv.2
  generalize IntKind.u64.wrap u = x at *
  generalize IntKind.u64.wrap v = y at *
  generalize (if u < 0 then (1 : Int) else 0) = a at *
  generalize (if v < 0 then (1 : Int) else 0) = b at *
  have d1 := Int.emod_add_mul_ediv (x * y) 18446744073709551616
  have d2 := Int.emod_nonneg (x * y) (show (18446744073709551616 : Int) ≠ 0 by decide)
  have d3 := Int.emod_lt_of_pos (x * y) (show (0 : Int) < 18446744073709551616 by decide)
  generalize hlo : x * y % 18446744073709551616 = lo at *
  generalize hhi : x * y / 18446744073709551616 = hi at *
  rw [Int.add_zero]
  have hc : (0 : Int) ≤ (L + lo) / 18446744073709551616 ∧ (L + lo) / 18446744073709551616 ≤ 1 := by omega
  have hc2 := Int.emod_add_mul_ediv (L + lo) 18446744073709551616
  have hc3 : 0 ≤ (L + lo) % 18446744073709551616 ∧ (L + lo) % 18446744073709551616 < 18446744073709551616 := by omega
  generalize (L + lo) / 18446744073709551616 = c at *
  generalize (L + lo) % 18446744073709551616 = L' at *
  have ec : IntKind.i64.wrap c = c := IntWalk.i64_in c (by omega)
  rw [ec]
  obtain ⟨j3, hj3⟩ := wrap_ex (IntKind.i64.wrap (H + high) + c)
  have hr := inK_wrap .i64 (IntKind.i64.wrap (H + high) + c)
  refine ⟨hr, hc3, k + j1 + (j2 + j3) + a * b, ?_⟩
  refine rd_lem 18446744073709551616 H L T u v x y hi lo high c L' _ a b j1 (j2 + j3) k ex ey (by omega) hj1 (by omega) ?_ hk
  rw [hj3, hj2, Int.add_mul]; omega
theorem high0 {u v : Int} (h1 : ¬ u < 0) (h2 : ¬ v < 0) : HighOK u v (IntKind.i64.wrap (IntKind.u64.wrap u * IntKind.u64.wrap v / 18446744073709551616)) := by
  obtain ⟨j, hj⟩ := wrap_ex (IntKind.u64.wrap u * IntKind.u64.wrap v / 18446744073709551616)
  exact ⟨j, by rw [if_neg h1, if_neg h2, hj]; omega⟩
theorem high1 {u v : Int} (h1 : u < 0) (h2 : ¬ v < 0) : HighOK u v (IntKind.i64.wrap (IntKind.i64.wrap (IntKind.u64.wrap u * IntKind.u64.wrap v / 18446744073709551616) - v)) := by
  obtain ⟨j, hj⟩ := wrap_ex (IntKind.u64.wrap u * IntKind.u64.wrap v / 18446744073709551616)
  obtain ⟨j2, hj2⟩ := wrap_ex (IntKind.i64.wrap (IntKind.u64.wrap u * IntKind.u64.wrap v / 18446744073709551616) - v)
  exact ⟨j + j2, by rw [if_pos h1, if_neg h2, hj2, hj, Int.add_mul]; omega⟩
theorem high2 {u v : Int} (h1 : ¬ u < 0) (h2 : v < 0) : HighOK u v (IntKind.i64.wrap (IntKind.i64.wrap (IntKind.u64.wrap u * IntKind.u64.wrap v / 18446744073709551616) - u)) := by
  obtain ⟨j, hj⟩ := wrap_ex (IntKind.u64.wrap u * IntKind.u64.wrap v / 18446744073709551616)
  obtain ⟨j2, hj2⟩ := wrap_ex (IntKind.i64.wrap (IntKind.u64.wrap u * IntKind.u64.wrap v / 18446744073709551616) - u)
  exact ⟨j + j2, by rw [if_neg h1, if_pos h2, hj2, hj, Int.add_mul]; omega⟩
theorem high3 {u v : Int} (h1 : u < 0) (h2 : v < 0) : HighOK u v (IntKind.i64.wrap (IntKind.i64.wrap (IntKind.i64.wrap (IntKind.u64.wrap u * IntKind.u64.wrap v / 18446744073709551616) - v) - u)) := by
  obtain ⟨j, hj⟩ := wrap_ex (IntKind.u64.wrap u * IntKind.u64.wrap v / 18446744073709551616)
  obtain ⟨j2, hj2⟩ := wrap_ex (IntKind.i64.wrap (IntKind.u64.wrap u * IntKind.u64.wrap v / 18446744073709551616) - v)
  obtain ⟨j3, hj3⟩ := wrap_ex (IntKind.i64.wrap (IntKind.i64.wrap (IntKind.u64.wrap u * IntKind.u64.wrap v / 18446744073709551616) - v) - u)
  exact ⟨j + j2 + j3, by rw [if_pos h1, if_pos h2, hj3, hj2, hj, Int.add_mul, Int.add_mul]; omega⟩
theorem sum_end {H L S : Int} (h : Acc H L (0 + S)) (hS : -85070591730234615865843651857942052864 ≤ S ∧ S ≤ 85070591730234615865843651857942052864) :
    (DV.c (.agg [i64 H, u64 L])) = .c (.agg [i64 (S / 18446744073709551616), u64 (S % 18446744073709551616)]) := by
  obtain ⟨h1, h2, k, hk⟩ := h
  have : k = 0 := by omega
  subst this
  have e1 : S / 18446744073709551616 = H := by omega
  have e2 : S % 18446744073709551616 = L := by omega
  rw [e1, e2]
theorem acc0 : Acc 0 0 0 := ⟨by decide, by decide, 0, by decide⟩

set_option maxHeartbeats 4000000 in
theorem sum_fn (a d b n : Int) (hS : -85070591730234615865843651857942052864 ≤ a * d + b * n ∧ a * d + b * n ≤ 85070591730234615865843651857942052864) :
    FnOK Try.prog 19 [.agg [i64 a, i64 d, i64 b, i64 n]] (.c (.agg [i64 ((a * d + b * n) / 18446744073709551616), u64 ((a * d + b * n) % 18446744073709551616)])) := by
  refine fn_ok (by kernel_rfl) ty_ok Try.func19 rfl (fun _ _ => Try.call19 _ _) rfl ?_
  intro hw
  simp only [WDCs, WDC, WDs, wd_i64] at hw
  have e1 : IntKind.i64.wrap (((0 : Nat) : Int) + 1) = ((1 : Nat) : Int) := rfl
  have e2 : IntKind.i64.wrap (((1 : Nat) : Int) + 1) = ((2 : Nat) : Int) := rfl
  repeat' ((conv => whnf); first | (with_reducible first | refine br_t ?_ | refine br_f ?_ | refine xa (by assumption) ?_ | refine xg (by assumption) rfl ?_ | refine xo (by assumption) ?_ | refine xb (by assumption) rfl ?_ | refine xm (by assumption) ?_ | refine xc (by assumption) ?_ | refine xi (mul64_fn _ _) ?_ | refine xi (add64_fn _ _ _ (by omega) (by omega)) ?_) | ((with_reducible refine bc_t ?_ ?_); (first | omega | decide)) | ((with_reducible refine bc_f ?_ ?_); (first | omega | decide)) | (with_reducible first | refine bc (fun h => ?_) (fun h => ?_) | refine br_t' (by assumption) ?_ | refine br_f' (by assumption) ?_ | refine br_i (fun h => ?_) (fun h => ?_)) | refine xg (by assumption) rfl ?_ | refine And.intro (by first | kernel_rfl | omega | (simp only [List.length_append, List.length_cons, List.length_nil, List.length_map]; omega) | decide) ?_)
  refine loop_I (by kernel_rfl) ty_ok (σ := Nat × Int × Int)
    (fun s => ([(1, .c (.at (.ptr 1 0))), (2, .c (.at (.ptr 2 0))), (3, .c (.at (.ptr 3 0))), (11, .c (.agg [.d (i64 a), .d (i64 d), .d (i64 b), .d (i64 n)])), (12, sV (.int .i64 (s.1 : Int)))],
      [(3, .own [.d (i64 s.2.1), .d (u64 s.2.2)]), (2, .own [.d (i64 0), .d (u64 0)]), (1, .own [.d (i64 a), .d (i64 d), .d (i64 b), .d (i64 n)])]))
    (fun s => (s.1 = 0 ∧ Acc s.2.1 s.2.2 0) ∨ (s.1 = 1 ∧ Acc s.2.1 s.2.2 (0 + a * d)) ∨ (s.1 = 2 ∧ Acc s.2.1 s.2.2 (0 + a * d + b * n))) (fun s => 2 - s.1) (0, 0, 0) (.inl ⟨rfl, acc0⟩) ⟨⟨rfl, rfl, rfl, rfl, rfl, trivial⟩, ⟨rfl, rfl, rfl, trivial⟩, rfl⟩ ?_
  rintro ⟨i, Hh, Ll⟩ hI
  simp only at hI
  rcases hI with ⟨rfl, hA⟩ | ⟨rfl, hA⟩ | ⟨rfl, hA⟩
  · have hA' := Lib.hid hA
    clear hA
    repeat' ((conv => whnf); first | (with_reducible first | refine br_t ?_ | refine br_f ?_ | refine xa (by assumption) ?_ | refine xg (by assumption) rfl ?_ | refine xo (by assumption) ?_ | refine xb (by assumption) rfl ?_ | refine xm (by assumption) ?_ | refine xc (by assumption) ?_ | refine xi (mul64_fn _ _) ?_ | refine xi (add64_fn _ _ _ (by omega) (by omega)) ?_) | ((with_reducible refine bc_t ?_ ?_); (first | omega | decide)) | ((with_reducible refine bc_f ?_ ?_); (first | omega | decide)) | (with_reducible first | refine bc (fun h => ?_) (fun h => ?_) | refine br_t' (by assumption) ?_ | refine br_f' (by assumption) ?_ | refine br_i (fun h => ?_) (fun h => ?_)) | refine xg (by assumption) rfl ?_ | refine And.intro (by first | kernel_rfl | omega | (simp only [List.length_append, List.length_cons, List.length_nil, List.length_map]; omega) | decide) ?_)
    all_goals conv => whnf
    all_goals
      refine ⟨(1, _, _), ?_, ⟨⟨rfl, rfl, rfl, rfl, rfl, trivial⟩, ⟨rfl, rfl, rfl, trivial⟩, rfl⟩, by show 2 - 1 < 2 - 0; decide⟩
      refine .inr (.inl ⟨rfl, ?_⟩)
      refine rdA (H := Hh) (L := Ll) (u := a) (v := d) (by omega) (by omega) hA'.out ?_
      with_reducible first
      | (exact high0 (by assumption) (by assumption))
      | (exact high1 (by assumption) (by assumption))
      | (exact high2 (by assumption) (by assumption))
      | (exact high3 (by assumption) (by assumption))
  · have hA' := Lib.hid hA
    clear hA
    repeat' ((conv => whnf); first | (with_reducible first | refine br_t ?_ | refine br_f ?_ | refine xa (by assumption) ?_ | refine xg (by assumption) rfl ?_ | refine xo (by assumption) ?_ | refine xb (by assumption) rfl ?_ | refine xm (by assumption) ?_ | refine xc (by assumption) ?_ | refine xi (mul64_fn _ _) ?_ | refine xi (add64_fn _ _ _ (by omega) (by omega)) ?_) | ((with_reducible refine bc_t ?_ ?_); (first | omega | decide)) | ((with_reducible refine bc_f ?_ ?_); (first | omega | decide)) | (with_reducible first | refine bc (fun h => ?_) (fun h => ?_) | refine br_t' (by assumption) ?_ | refine br_f' (by assumption) ?_ | refine br_i (fun h => ?_) (fun h => ?_)) | refine xg (by assumption) rfl ?_ | refine And.intro (by first | kernel_rfl | omega | (simp only [List.length_append, List.length_cons, List.length_nil, List.length_map]; omega) | decide) ?_)
    all_goals conv => whnf
    all_goals
      refine ⟨(2, _, _), ?_, ⟨⟨rfl, rfl, rfl, rfl, rfl, trivial⟩, ⟨rfl, rfl, rfl, trivial⟩, rfl⟩, by show 2 - 2 < 2 - 1; decide⟩
      refine .inr (.inr ⟨rfl, ?_⟩)
      refine rdA (H := Hh) (L := Ll) (u := b) (v := n) (by omega) (by omega) hA'.out ?_
      with_reducible first
      | (exact high0 (by assumption) (by assumption))
      | (exact high1 (by assumption) (by assumption))
      | (exact high2 (by assumption) (by assumption))
      | (exact high3 (by assumption) (by assumption))
  · have hA' := Lib.hid hA
    clear hA
    repeat' ((conv => whnf); first | (with_reducible first | refine br_t ?_ | refine br_f ?_ | refine xa (by assumption) ?_ | refine xg (by assumption) rfl ?_ | refine xo (by assumption) ?_ | refine xb (by assumption) rfl ?_ | refine xm (by assumption) ?_ | refine xc (by assumption) ?_ | refine xi (mul64_fn _ _) ?_ | refine xi (add64_fn _ _ _ (by omega) (by omega)) ?_) | ((with_reducible refine bc_t ?_ ?_); (first | omega | decide)) | ((with_reducible refine bc_f ?_ ?_); (first | omega | decide)) | (with_reducible first | refine bc (fun h => ?_) (fun h => ?_) | refine br_t' (by assumption) ?_ | refine br_f' (by assumption) ?_ | refine br_i (fun h => ?_) (fun h => ?_)) | refine xg (by assumption) rfl ?_ | refine And.intro (by first | kernel_rfl | omega | (simp only [List.length_append, List.length_cons, List.length_nil, List.length_map]; omega) | decide) ?_)
    all_goals conv => whnf
    rw [Int.add_assoc] at hA'
    exact sum_end hA'.out hS
end Go.Proofs.Ytmdnpklbdamfpaa



/- What layer 2 computes: the order of two points. No conditions but on sizes. -/
namespace Go.Proofs.Ytmdnpklbdamfpaa
open Go.RowKit Go.Sort Sx

theorem cmpi_fn (a b : Int) : FnOK Try.prog 25 [.one (i64 a), .one (i64 b)] (ret1 (cmpN a b)) := by
  refine fn_of_calls (fun _ _ => Try.call25 _ _) rfl rfl (fun h => ?_) (fun h w => ?_)
  · simp only [WDV, WDCs, WDC, WDs, wd_i64, and_true]
    have := cmpN_rng a b
    omega
  · exact cmpi_any a b w
def orN (a b : Int) : Int := if a = 0 then b else a
def two02 (i a b j c d n m : Int) : Int := if cpt i a b = 0 ∧ cpt j c d = 0 ∧ chk n m = 0 then (if i = j then 2 else 0) else 8
theorem two02_in (i a b j c d n m : Int) : two02 i a b j c d n m = 0 ∨ two02 i a b j c d n m = 2 ∨ two02 i a b j c d n m = 8 := by
  unfold two02; (repeat' split) <;> simp
theorem two02_ok {i a b j c d n m : Int} (h : two02 i a b j c d n m = 0) : cpt i a b = 0 ∧ cpt j c d = 0 ∧ chk n m = 0 ∧ i ≠ j := by
  unfold two02 at h
  split at h
  · rename_i hc
    split at h
    · cases h
    · exact ⟨hc.1, hc.2.1, hc.2.2, by assumption⟩
  · cases h
/-- which of two points is ahead, where the places differ by a sum -/
def leadN (i b j d s : Int) : Int := if s = 0 then (if b = d then cmpN j i else cmpN b d) else if s < 0 then -1 else 1
theorem prod_in3 {p k : Int} (h0 : -2097152 ≤ p) (h1 : p ≤ 2097152) (k0 : -9223372036854775808 ≤ k) (k1 : k ≤ 9223372036854775808) : -19342813113834066795298816 ≤ p * k ∧ p * k ≤ 19342813113834066795298816 := by
  have : (p * k).natAbs ≤ 2097152 * 9223372036854775808 := by rw [Int.natAbs_mul]; exact Nat.mul_le_mul (by omega) (by omega)
  omega
theorem leadN_rng (i b j d s : Int) : -1 ≤ leadN i b j d s ∧ leadN i b j d s ≤ 1 := by
  unfold leadN cmpN; (repeat' split) <;> omega
/-- Product and Plus of the reference, as one number -/
theorem big_two (n : Nat) : Two (n / 18446744073709551616) (n % 18446744073709551616) n := ⟨rfl, rfl⟩
abbrev bigC (x : Int) : DC := .agg [bol (decide (x < 0)), u64 ((x.natAbs / 18446744073709551616 : Nat) : Int), u64 ((x.natAbs % 18446744073709551616 : Nat) : Int)]
theorem rProduct_fn (a b : Int) : FnOK Try.prog 46 [.one (i64 a), .one (i64 b)] (.c (bigC (a * b))) := by
  refine fn_of_calls (fun _ _ => Try.call46 _ _) rfl rfl (fun h => ?_) (fun h w => ?_)
  · obtain ⟨_, _, _, _⟩ := wdii h
    have : (a * b).natAbs ≤ 9223372036854775808 * 9223372036854775808 := by rw [Int.natAbs_mul]; exact Nat.mul_le_mul (by omega) (by omega)
    simp only [WDV, WDCs, WDC, WDs, wd_i64, wd_u64, wd_bol, and_true, true_and]
    omega
  · obtain ⟨_, _, _, _⟩ := wdii h
    exact rProduct_any a b _ _ (by rw [← Int.natAbs_mul]; exact big_two _) w (by omega) (by omega) (by omega) (by omega)
theorem rPlus_fn (x y : Int) (hx : x.natAbs < 9223372036854775807 * 18446744073709551616) (hy : y.natAbs < 9223372036854775807 * 18446744073709551616) : FnOK Try.prog 55 [bigC x, bigC y] (.c (bigC (x + y))) := by
  refine fn_of_calls (fun _ _ => Try.call55 _ _) rfl rfl (fun h => ?_) (fun h w => ?_)
  · simp only [WDV, WDCs, WDC, WDs, wd_i64, wd_u64, wd_bol, and_true, true_and]
    omega
  · exact rPlus_any x y _ _ _ _ _ _ (big_two _) (big_two _) (big_two _) hx hy w
theorem rsign_fn (x : Int) : FnOK Try.prog 47 [bigC x] (ret1 (cmpN x 0)) := by
  refine fn_of_calls (fun _ _ => Try.call47 _ _) rfl rfl (fun h => ?_) (fun h w => ?_)
  · have := cmpN_rng x 0
    simp only [WDV, WDCs, WDC, WDs, wd_i64, wd_u64, wd_bol, and_true, true_and]
    omega
  · exact rSign_any x _ _ (big_two _) w
/-- who is ahead, at any arguments -/
def aheadV (i a b j c d n m : Int) : Bool × Int := if two02 i a b j c d n m = 0 then (decide (leadN i b j d ((a - c) * m + (b - d) * n) > 0), 0) else (false, two02 i a b j c d n m)
abbrev retBI (x : Bool × Int) : DV := .tup [.one (bol x.1), .one (i64 x.2)]
end Go.Proofs.Ytmdnpklbdamfpaa

/- Plain lemmas: fractions that are small have a place. No program is named. -/
namespace Go.Proofs.Ytmdnpklbdamfpaa
open Go.RowKit

theorem num_mkRat_le (n : Int) (d : Nat) : (mkRat n d).num.natAbs ≤ n.natAbs := by
  rw [Rat.num_mkRat]
  split
  · simp
  · rw [Int.natAbs_ediv_of_dvd]
    · exact Nat.div_le_self _ _
    · exact Int.ofNat_dvd_left.2 (Nat.gcd_dvd_right _ _)
theorem den_mkRat_le (n : Int) (d : Nat) (h : d ≠ 0) : (mkRat n d).den ≤ d := by
  rw [Rat.den_mkRat, if_neg h]; exact Nat.div_le_self _ _
theorem qv_add {n d m e : Int} (h : 1 ≤ d) (k : 1 ≤ e) : qv n d + qv m e = qv (n * e + m * d) (d * e) := by
  unfold qv
  rw [Rat.mkRat_add_mkRat _ _ (by omega) (by omega), Int.toNat_mul (by omega) (by omega), Int.toNat_of_nonneg (by omega), Int.toNat_of_nonneg (by omega)]
theorem qv_mul {n d m e : Int} (h : 1 ≤ d) (k : 1 ≤ e) : qv n d * qv m e = qv (n * m) (d * e) := by
  unfold qv
  rw [Rat.mkRat_mul_mkRat, Int.toNat_mul (by omega) (by omega)]
theorem qv_sub {n d m e : Int} (h : 1 ≤ d) (k : 1 ≤ e) : qv n d - qv m e = qv (n * e - m * d) (d * e) := by
  rw [Rat.sub_eq_add_neg, ← qv_neg, qv_add h k]
  congr 1
  rw [Int.neg_mul, Int.sub_eq_add_neg]
theorem qv_eq {n d m e : Int} (h : 1 ≤ d) (k : 1 ≤ e) : qv n d = qv m e ↔ n * e = m * d := by
  unfold qv
  rw [Rat.mkRat_eq_iff (by omega) (by omega), Int.toNat_of_nonneg (by omega), Int.toNat_of_nonneg (by omega)]
/-- a fraction with small numbers has a place -/
theorem outQ_sm {n d : Int} (h0 : 1 ≤ d) (h1 : d ≤ 9223372036854775807) (h2 : -9223372036854775807 ≤ n) (h3 : n ≤ 9223372036854775807) :
    ∃ m e : Int, outQ (qv n d) = (m, e, 0) ∧ chk m e = 0 ∧ qv m e = qv n d ∧ 1 ≤ e ∧ e ≤ d ∧ m.natAbs ≤ n.natAbs := by
  have a := num_mkRat_le n d.toNat
  have b := den_mkRat_le n d.toNat (by omega)
  have c := (qv n d).den_pos
  refine ⟨(qv n d).num, (qv n d).den, ?_, chk_rat _ ?_, qv_rat _, ?_, ?_, a⟩
  · unfold outQ
    rw [if_pos]
    show (mkRat n d.toNat).num.natAbs ≤ _ ∧ (mkRat n d.toNat).den ≤ _
    omega
  · show (mkRat n d.toNat).num.natAbs ≤ _
    omega
  · omega
  · show ((mkRat n d.toNat).den : Int) ≤ d
    omega
theorem prod_in2 (p k a b : Int) (h0 : -a ≤ p) (h1 : p ≤ a) (k0 : -b ≤ k) (k1 : k ≤ b) : -(a * b) ≤ p * k ∧ p * k ≤ a * b := by
  have : (p * k).natAbs ≤ a.natAbs * b.natAbs := by rw [Int.natAbs_mul]; exact Nat.mul_le_mul (by omega) (by omega)
  have e : a * b = ((a.natAbs * b.natAbs : Nat) : Int) := by rw [Int.natCast_mul, Int.natAbs_of_nonneg (by omega), Int.natAbs_of_nonneg (by omega)]
  omega
end Go.Proofs.Ytmdnpklbdamfpaa



/- What layer 2 computes: meetings and failure times. No conditions. -/
namespace Go.Proofs.Ytmdnpklbdamfpaa
open Go.RowKit Go.Sort Sx

theorem makeV_neg (n d : Int) (hd : d ≠ 0) : makeV (-n) (-d) = makeV n d := by
  unfold makeV
  rw [if_neg (by omega), if_neg hd, Int.natAbs_neg, Int.natAbs_neg]
  by_cases hn : n = 0
  · subst hn
    exact (by simpa using buildN_zero _ _ _)
  · congr 1
    by_cases h1 : n < 0 <;> by_cases h2 : d < 0
    all_goals
      first | rw [decide_eq_true h1] | rw [decide_eq_false h1]
      first | rw [decide_eq_true h2] | rw [decide_eq_false h2]
      first | rw [decide_eq_true (show -n < 0 by omega)] | rw [decide_eq_false (show ¬ -n < 0 by omega)]
      first | rw [decide_eq_true (show -d < 0 by omega)] | rw [decide_eq_false (show ¬ -d < 0 by omega)]
      rfl
theorem makeV_q (n d : Int) (hd : 0 < d) : makeV n d = outQ (qv n d) := by
  unfold makeV
  rw [if_neg (by omega)]
  have e1 : (qv n d).num = n / (Nat.gcd n.natAbs d.natAbs : Nat) := by
    unfold qv
    rw [Rat.num_mkRat, if_neg (by omega), show d.toNat = d.natAbs by omega, Nat.gcd_comm]
  have e2 : (qv n d).den = d.natAbs / Nat.gcd n.natAbs d.natAbs := by
    unfold qv
    rw [Rat.den_mkRat, if_neg (by omega), show d.toNat = d.natAbs by omega, Nat.gcd_comm]
  have hg : 0 < Nat.gcd n.natAbs d.natAbs := Nat.gcd_pos_of_pos_right _ (by omega)
  have hdv : ((Nat.gcd n.natAbs d.natAbs : Nat) : Int) ∣ n := by
    rw [← Int.dvd_natAbs, Int.ofNat_dvd]; exact Nat.gcd_dvd_left _ _
  refine build_q _ _ _ _ e2.symm ?_ ?_
  · rw [e1, Int.natAbs_ediv_of_dvd hdv]; simp
  · intro hne
    rw [e1] at hne ⊢
    have hG : (0 : Int) < ((Nat.gcd n.natAbs d.natAbs : Nat) : Int) := by omega
    clear hg e1 e2
    generalize ((Nat.gcd n.natAbs d.natAbs : Nat) : Int) = G at *
    obtain ⟨k, rfl⟩ := hdv
    rw [Int.mul_ediv_cancel_left _ (by omega)] at hne ⊢
    rw [decide_eq_false (show ¬ d < 0 by omega)]
    rcases (show k < 0 ∨ 0 < k by omega) with hk | hk
    · have := Int.mul_neg_of_pos_of_neg hG hk
      rw [decide_eq_true hk, decide_eq_true this]; rfl
    · have := Int.mul_pos hG hk
      rw [decide_eq_false (show ¬ k < 0 by omega), decide_eq_false (show ¬ G * k < 0 by omega)]; rfl
theorem qv_neg2 (n d : Int) (h : d < 0) : makeV n d = outQ (qv (-n) (-d)) := by
  rw [← makeV_neg n d (by omega), makeV_q _ _ (by omega)]
/-- the meeting of two points with small differences has a place -/
theorem met_ok {x y : Int} (hy : y ≠ 0) (x0 : -2097152 ≤ x) (x1 : x ≤ 2097152) (y0 : -2097152 ≤ y) (y1 : y ≤ 2097152) :
    ∃ n d, makeV x y = (n, d, 0) ∧ chk n d = 0 ∧ 1 ≤ d ∧ d ≤ 2097152 ∧ -2097152 ≤ n ∧ n ≤ 2097152 ∧ n * y = x * d := by
  rcases (show 0 < y ∨ y < 0 by omega) with h | h
  · obtain ⟨n, d, e, c, q, d1, d2, n1⟩ := outQ_sm (n := x) (d := y) (by omega) (by omega) (by omega) (by omega)
    refine ⟨n, d, by rw [makeV_q _ _ h, e], c, by omega, by omega, by omega, by omega, ?_⟩
    exact (qv_eq (by omega) (by omega)).1 q
  · obtain ⟨n, d, e, c, q, d1, d2, n1⟩ := outQ_sm (n := -x) (d := -y) (by omega) (by omega) (by omega) (by omega)
    refine ⟨n, d, by rw [qv_neg2 _ _ h, e], c, by omega, by omega, by omega, by omega, ?_⟩
    have := (qv_eq (by omega) (by omega)).1 q
    rw [Int.mul_neg, Int.neg_mul] at this
    omega
/-- the meeting, at any arguments -/
def meetV (i a b j c d : Int) : Int × Int × Int := if two02 i a b j c d 0 1 = 0 then (if b = d then (0, 0, 6) else makeV (a - c) (d - b)) else (0, 0, two02 i a b j c d 0 1)
theorem meet_e {i a b j c d : Int} (h1 : cpt i a b = 0) (h2 : cpt j c d = 0) (h : b ≠ d) : ∃ n m, makeV (a - c) (d - b) = (n, m, 0) ∧ chk n m = 0 ∧ 1 ≤ m ∧ m ≤ 2097152 ∧ -2097152 ≤ n ∧ n ≤ 2097152 ∧ n * (d - b) = (a - c) * m := by
  have g1 := cpt_ok h1
  have g2 := cpt_ok h2
  exact met_ok (by omega) (by omega) (by omega) (by omega) (by omega)
theorem two02_01 {i a b j c d n m : Int} (h : two02 i a b j c d n m = 0) : two02 i a b j c d 0 1 = 0 := by
  obtain ⟨h1, h2, h3, h4⟩ := two02_ok h
  unfold two02
  rw [if_pos ⟨h1, h2, rfl⟩, if_neg h4]
/-- the failure time, at any arguments -/
def failsV (i a b j c d n m : Int) : Int × Int × Bool × Int :=
  if two02 i a b j c d n m = 0 then
    (if leadN j d i b ((c - a) * m + (d - b) * n) > 0 then (n, m, true, 0) else if d ≤ b then (0, 0, false, 0) else ((makeV (a - c) (d - b)).1, (makeV (a - c) (d - b)).2.1, true, 0))
  else (0, 0, false, two02 i a b j c d n m)
abbrev retF (x : Int × Int × Bool × Int) : DV := .tup [.agg [i64 x.1, i64 x.2.1], .one (bol x.2.2.1), .one (i64 x.2.2.2)]
end Go.Proofs.Ytmdnpklbdamfpaa



/- What layer 2 computes: places. No conditions. -/
namespace Go.Proofs.Ytmdnpklbdamfpaa
open Go.RowKit Go.Sort Sx

theorem div64_fn (hi lo y : Nat) (h : hi < y) : FnOK Try.prog 22 [.one (u64 hi), .one (u64 lo), .one (u64 y)] (.tup [.one (u64 ((hi * 18446744073709551616 + lo) / y : Nat)), .one (u64 ((hi * 18446744073709551616 + lo) % y : Nat))]) := by
  refine fn_of_calls (fun _ _ => Try.call22 _ _) rfl rfl (fun h => ?_) (fun h w => ?_)
  all_goals simp only [WDCs, WDC, wd_u64] at h
  · simp only [WDV, WDCs, WDC, wd_u64, and_true]
    have h1 : (hi * 18446744073709551616 + lo) / y < 18446744073709551616 := Nat.div_lt_of_lt_mul (by rw [Nat.mul_comm]; have : (hi + 1) * 18446744073709551616 ≤ y * 18446744073709551616 := Nat.mul_le_mul_right _ (by omega); omega)
    have h2 : (hi * 18446744073709551616 + lo) % y < y := Nat.mod_lt _ (by omega)
    generalize (hi * 18446744073709551616 + lo) % y = r at *
    generalize (hi * 18446744073709551616 + lo) / y = q at *
    omega
  · exact div64_any hi lo y w (by omega) (by omega) (by omega)
theorem mod_hi (m y : Nat) (hy : 0 < y) : (m / 18446744073709551616 % y * 18446744073709551616 + m % 18446744073709551616) % y = m % y := by
  conv => rhs; rw [← Nat.div_add_mod m 18446744073709551616]
  rw [Nat.mul_comm 18446744073709551616, Nat.add_mod, Nat.mul_mod, Nat.mod_mod, ← Nat.mul_mod, ← Nat.add_mod]
theorem rem64_fn (m y : Nat) (hy : 0 < y) : FnOK Try.prog 21 [.one (u64 (m / 18446744073709551616 : Nat)), .one (u64 (m % 18446744073709551616 : Nat)), .one (u64 y)] (.c (.one (u64 (m % y : Nat)))) := by
  refine fn_ok (by kernel_rfl) ty_ok Try.func21 rfl (fun _ _ => Try.call21 _ _) rfl ?_
  intro hw
  simp only [WDCs, WDC, wd_u64] at hw
  have HD := div64_fn (m / 18446744073709551616 % y) (m % 18446744073709551616) y (Nat.mod_lt _ hy)
  rw [mod_hi m y hy] at HD
  have e : ((m / 18446744073709551616 % y : Nat) : Int) = ((m / 18446744073709551616 : Nat) : Int).tmod (y : Int) := rfl
  rw [e] at HD
  generalize m / 18446744073709551616 % y * 18446744073709551616 + m % 18446744073709551616 = z at *
  clear e
  repeat' ((conv => whnf); first | (with_reducible first | refine br_t ?_ | refine br_f ?_ | refine xa (by assumption) ?_ | refine xg (by assumption) rfl ?_ | refine xo (by assumption) ?_ | refine xb (by assumption) rfl ?_ | refine xm (by assumption) ?_ | refine xc (by assumption) ?_ | refine xi (HD) ?_) | ((with_reducible refine bc_t ?_ ?_); (first | omega | decide)) | ((with_reducible refine bc_f ?_ ?_); (first | omega | decide)) | (with_reducible first | refine bc (fun h => ?_) (fun h => ?_) | refine br_t' (by assumption) ?_ | refine br_f' (by assumption) ?_ | refine br_i (fun h => ?_) (fun h => ?_)) | refine xg (by assumption) rfl ?_ | refine And.intro (by first | kernel_rfl | omega | (simp only [List.length_append, List.length_cons, List.length_nil, List.length_map]; omega) | decide) ?_)
  all_goals conv => whnf
  all_goals rfl
theorem gcd_of_mod (M d : Nat) : Nat.gcd d (M % d) = Nat.gcd M d := by rw [Nat.gcd_comm M, Nat.gcd_rec d M, Nat.gcd_comm]
theorem over_q (S : Int) (d : Nat) (hd : 0 < d) : outQ (qv S d) = buildN (decide (S < 0)) (S.natAbs / Nat.gcd S.natAbs d) (d / Nat.gcd S.natAbs d) := by
  have h := makeV_q S d (by omega)
  rw [← h]
  unfold makeV
  rw [if_neg (by omega), decide_eq_false (show ¬ (d : Int) < 0 by omega), Int.natAbs_natCast]
  cases decide (S < 0) <;> rfl
theorem div_parts (m g : Nat) (h : 0 < g) : m / g = m / 18446744073709551616 / g * 18446744073709551616 + (m / 18446744073709551616 % g * 18446744073709551616 + m % 18446744073709551616) / g ∧ (m / 18446744073709551616 % g * 18446744073709551616 + m % 18446744073709551616) / g < 18446744073709551616 := by
  constructor
  · have e1 := Nat.div_add_mod m 18446744073709551616
    have e2 := Nat.div_add_mod (m / 18446744073709551616) g
    generalize m / 18446744073709551616 = a at *
    generalize m % 18446744073709551616 = b at *
    have : m = g * (a / g * 18446744073709551616) + (a % g * 18446744073709551616 + b) := by
      rw [← Nat.mul_assoc]
      generalize g * (a / g) = x at *
      omega
    rw [this, Nat.mul_add_div h]
  · refine Nat.div_lt_of_lt_mul ?_
    have h1 : m / 18446744073709551616 % g < g := Nat.mod_lt _ h
    have : (m / 18446744073709551616 % g + 1) * 18446744073709551616 ≤ g * 18446744073709551616 := Nat.mul_le_mul_right _ h1
    omega
theorem tup_eq {a b c a' b' c' : Int} (h1 : a = a') (h2 : b = b') (h3 : c = c') : DV.tup [.agg [i64 a, i64 b], .one (i64 c)] = .tup [.agg [i64 a', i64 b'], .one (i64 c')] := by rw [h1, h2, h3]
/-- a place, at any arguments -/
def atV (i a b n m : Int) : Int × Int × Int := if cpt i a b = 0 ∧ chk n m = 0 then outQ (qv (a * m + b * n) m) else (0, 0, 8)
theorem kAt_fn (i a b n m : Int) : FnOK Try.prog 10 [pt i a b, rat n m] (ret3 (atV i a b n m)) := by
  refine fn_ok (by kernel_rfl) ty_ok Try.func10 rfl (fun _ _ => Try.call10 _ _) rfl ?_
  intro hw
  have H1 := kCheck_fn i a b
  have H2 := check_fn n m
  unfold atV
  split
  · rename_i h
    obtain ⟨h1, h2⟩ := h
    rw [h1] at H1
    rw [h2] at H2
    simp only [ret1, ret3] at *
    have g1 := cpt_ok h1
    obtain ⟨g2, _, _⟩ := (chk_iff n m).1 h2
    simp only [WDCs, WDC, WDs, wd_i64] at hw
    have p1 := prod_in3 (p := a) (k := m) (by omega) (by omega) (by omega) (by omega)
    have p2 := prod_in3 (p := b) (k := n) (by omega) (by omega) (by omega) (by omega)
    have HS := sum_fn a m b n (by omega)
    generalize hs : a * m + b * n = S at *
    obtain ⟨d, rfl⟩ := Int.eq_ofNat_of_zero_le (show 0 ≤ m by omega)
    obtain ⟨M, hM⟩ : ∃ M, M = S.natAbs := ⟨_, rfl⟩
    obtain ⟨o, ho⟩ : ∃ o, o = outQ (qv S d) := ⟨_, rfl⟩
    rw [← ho]
    have HR := rem64_fn M d (by omega)
    have hS2 : -38685626227668133590597632 ≤ S ∧ S ≤ 38685626227668133590597632 := by omega
    have W2 : IntKind.u64.wrap (d : Int) = d := by rw [IntKind.wrap_u64]; omega
    obtain ⟨h, l, hh, hl, U, L, CC⟩ : ∃ h l : Int, h = (if S < 0 then IntKind.i64.wrap (IntKind.i64.wrap (0 - S / 18446744073709551616) - IntKind.i64.wrap (if 0 < S % 18446744073709551616 + 0 then 1 else 0)) else S / 18446744073709551616) ∧
        l = (if S < 0 then (0 + 18446744073709551616 - S % 18446744073709551616 - 0) % 18446744073709551616 else S % 18446744073709551616) ∧ IntKind.u64.wrap h = ((M / 18446744073709551616 : Nat) : Int) ∧ l = ((M % 18446744073709551616 : Nat) : Int) ∧ True := by
      refine ⟨_, _, rfl, rfl, ?_, ?_, trivial⟩
      · split
        · rw [IntWalk.i64_in (0 - S / 18446744073709551616) (by omega)]
          split
          · rw [IntWalk.i64_in 1 (by omega), IntWalk.i64_in _ (by omega), IntKind.wrap_u64]; omega
          · rw [IntWalk.i64_in 0 (by omega), IntWalk.i64_in _ (by omega), IntKind.wrap_u64]; omega
        · rw [IntKind.wrap_u64]; omega
      · split <;> omega
    rw [← U, ← L, ← W2] at HR
    have SB := sub64_fn 0 (S % 18446744073709551616) 0 (by omega) (by omega)
    clear p1 p2 hs
    rcases (show S < 0 ∨ 0 ≤ S by omega) with hneg | hneg
    all_goals
      first | rw [if_pos hneg] at hh hl | rw [if_neg (by omega)] at hh hl
      rw [hh, hl] at HR
      repeat' ((conv => whnf); first | (with_reducible first | refine br_t ?_ | refine br_f ?_ | refine xa (by assumption) ?_ | refine xg (by assumption) rfl ?_ | refine xo (by assumption) ?_ | refine xb (by assumption) rfl ?_ | refine xm (by assumption) ?_ | refine xc (by assumption) ?_ | refine xi (H1) ?_ | refine xi (H2) ?_ | refine xi (HS) ?_ | refine xi (HR) ?_ | refine xi (SB) ?_) | ((with_reducible refine bc_t ?_ ?_); (first | omega | decide)) | ((with_reducible refine bc_f ?_ ?_); (first | omega | decide)) | (with_reducible first | refine bc (fun h => ?_) (fun h => ?_) | refine br_t' (by assumption) ?_ | refine br_f' (by assumption) ?_ | refine br_i (fun h => ?_) (fun h => ?_)) | refine xg (by assumption) rfl ?_ | refine And.intro (by first | kernel_rfl | omega | (simp only [List.length_append, List.length_cons, List.length_nil, List.length_map]; omega) | decide) ?_)
      refine loop_I (by kernel_rfl) ty_ok (σ := Nat × Nat)
        (fun s => ([(4, .c (.at (.ptr 4 0))), (5, sV (.int .i64 0)), (7, .c (.at (.ptr 7 0))), (8, sV (.bool (decide (S / 18446744073709551616 < 0)))), (11, sV (.int .u64 (IntKind.u64.wrap (d : Int)))), (12, sV (.int .u64 (s.2 : Int))), (13, sV (.int .u64 (s.1 : Int)))],
          [(7, .own [.d (i64 h), .d (u64 l)]), (4, .own [.d (i64 0), .d (i64 0)])]))
        (fun s => Nat.gcd s.1 s.2 = Nat.gcd d (M % d)) (fun s => s.2) (d, M % d) rfl ⟨⟨rfl, rfl, rfl, rfl, rfl, rfl, ?_, trivial⟩, ⟨by rw [hh, hl]; rfl, rfl, trivial⟩, rfl⟩ ?_
      · exact congrArg (fun x => some (sV (.int .u64 x))) W2
      rintro ⟨g, r⟩ hI
      simp only at hI
      rcases Nat.eq_zero_or_pos r with h0 | h0
      · subst h0
        rw [Nat.gcd_zero_right, gcd_of_mod] at hI
        have g0 : 0 < g := by rw [hI]; exact Nat.gcd_pos_of_pos_right _ (by omega)
        have g1 : g ≤ d := by rw [hI]; exact Nat.gcd_le_right _ (by omega)
        rw [over_q S d (by omega), ← hM, ← hI] at ho
        have HD := div64_fn (M / 18446744073709551616 % g) (M % 18446744073709551616) g (Nat.mod_lt _ g0)
        rw [← L, show ((M / 18446744073709551616 % g : Nat) : Int) = (IntKind.u64.wrap h).tmod (g : Int) by rw [U]; rfl] at HD
        have Q := div_parts M g g0
        have Q2 := Q.2
        have hz : IntKind.u64.wrap ((IntKind.u64.wrap h).tdiv (g : Int)) = ((M / 18446744073709551616 / g : Nat) : Int) := by
          have : M / 18446744073709551616 / g ≤ M / 18446744073709551616 := Nat.div_le_self _ _
          rw [U, ← Int.ofNat_tdiv, IntKind.wrap_u64]
          generalize M / 18446744073709551616 / g = z at *
          omega
        have hdg : IntKind.i64.wrap (IntKind.u64.wrap ((IntKind.u64.wrap (d : Int)).tdiv (g : Int))) = ((d / g : Nat) : Int) := by
          have : d / g ≤ d := Nat.div_le_self _ _
          rw [W2, ← Int.ofNat_tdiv, IntKind.wrap_u64]
          generalize d / g = k at *
          rw [IntWalk.i64_in _ (by omega)]
          omega
        have hdl : d / g ≤ 9223372036854775807 := by
          have : d / g ≤ d := Nat.div_le_self _ _
          omega
        have Q1 := Q.1
        clear Q
        generalize (M / 18446744073709551616 % g * 18446744073709551616 + M % 18446744073709551616) / g = q at *
        generalize (M / 18446744073709551616 % g * 18446744073709551616 + M % 18446744073709551616) % g = q' at *
        generalize M / 18446744073709551616 / g = z at *
        have e0 : (g : Int) ≠ 0 := by omega
        rw [Q1] at ho
        clear HS HR SB hh hl L CC hw H1 H2 Q1 hI h1 h2 g1
        dsimp only
        repeat' ((conv => whnf); first | (with_reducible first | refine br_t ?_ | refine br_f ?_ | refine xa (by assumption) ?_ | refine xg (by assumption) rfl ?_ | refine xo (by assumption) ?_ | refine xb (by assumption) rfl ?_ | refine xm (by assumption) ?_ | refine xc (by assumption) ?_ | refine xi (HD) ?_) | (with_reducible refine And.intro e0 ?_) | ((with_reducible refine bc_t ?_ ?_); (first | omega | decide)) | ((with_reducible refine bc_f ?_ ?_); (first | omega | decide)) | (with_reducible first | refine bc (fun h => ?_) (fun h => ?_) | refine br_t' (by assumption) ?_ | refine br_f' (by assumption) ?_ | refine br_i (fun h => ?_) (fun h => ?_)) | refine xg (by assumption) rfl ?_ | refine And.intro (by first | kernel_rfl | omega | (simp only [List.length_append, List.length_cons, List.length_nil, List.length_map]; omega) | decide) ?_)
        all_goals conv => whnf
        all_goals
          unfold buildN at ho
          first
          | (rw [if_neg (by omega)] at ho
             subst ho
             rfl)
          | (rw [if_pos (by omega)] at ho
             subst ho
             refine tup_eq ?_ hdg rfl
             first
             | (rw [decide_eq_true hneg, if_pos rfl, IntWalk.i64_in q (by omega), IntWalk.i64_in _ (by omega)]; omega)
             | (rw [decide_eq_false (by omega), if_neg (by simp), IntWalk.i64_in q (by omega)]; omega))
      · have E1 : (r : Int) ≠ 0 := by omega
        dsimp only
        repeat' ((conv => whnf); first | (with_reducible first | refine br_t ?_ | refine br_f ?_ | refine xa (by assumption) ?_ | refine xg (by assumption) rfl ?_ | refine xo (by assumption) ?_ | refine xb (by assumption) rfl ?_ | refine xm (by assumption) ?_ | refine xc (by assumption) ?_) | (with_reducible refine And.intro E1 ?_) | ((with_reducible refine bc_t ?_ ?_); (first | omega | decide)) | ((with_reducible refine bc_f ?_ ?_); (first | omega | decide)) | (with_reducible first | refine bc (fun h => ?_) (fun h => ?_) | refine br_t' (by assumption) ?_ | refine br_f' (by assumption) ?_ | refine br_i (fun h => ?_) (fun h => ?_)) | refine xg (by assumption) rfl ?_ | refine And.intro (by first | kernel_rfl | omega | (simp only [List.length_append, List.length_cons, List.length_nil, List.length_map]; omega) | decide) ?_)
        all_goals conv => whnf
        refine ⟨(r, g % r), ?_, ⟨⟨rfl, rfl, rfl, rfl, rfl, rfl, rfl, trivial⟩, ⟨rfl, rfl, trivial⟩, rfl⟩, Nat.mod_lt _ h0⟩
        show Nat.gcd r (g % r) = _
        rw [← hI, Nat.gcd_comm r, ← Nat.gcd_rec, Nat.gcd_comm]
  · rename_i h
    rcases cpt_08 i a b with h1 | h1 <;> rcases chk_08 n m with h2 | h2
    · exact absurd ⟨h1, h2⟩ h
    all_goals
      rw [h1] at H1
      rw [h2] at H2
      simp only [ret1, ret3] at *
      repeat' ((conv => whnf); first | (with_reducible first | refine br_t ?_ | refine br_f ?_ | refine xa (by assumption) ?_ | refine xg (by assumption) rfl ?_ | refine xo (by assumption) ?_ | refine xb (by assumption) rfl ?_ | refine xm (by assumption) ?_ | refine xc (by assumption) ?_ | refine xi (H1) ?_ | refine xi (H2) ?_) | ((with_reducible refine bc_t ?_ ?_); (first | omega | decide)) | ((with_reducible refine bc_f ?_ ?_); (first | omega | decide)) | (with_reducible first | refine bc (fun h => ?_) (fun h => ?_) | refine br_t' (by assumption) ?_ | refine br_f' (by assumption) ?_ | refine br_i (fun h => ?_) (fun h => ?_)) | refine xg (by assumption) rfl ?_ | refine And.intro (by first | kernel_rfl | omega | (simp only [List.length_append, List.length_cons, List.length_nil, List.length_map]; omega) | decide) ?_)
      all_goals conv => whnf
      all_goals rfl
end Go.Proofs.Ytmdnpklbdamfpaa



/- What the reference of layer 2 computes: places. No conditions. -/
namespace Go.Proofs.Ytmdnpklbdamfpaa
open Go.RowKit Go.Sort Sx

theorem rmul_fn (p q r t : Int) : FnOK Try.prog 58 (rat2 p q r t) (ret3 (mulV p q r t)) := by
  refine fn_of_calls (fun _ _ => Try.call58 _ _) rfl rfl (fun h => ?_) (fun h w => ?_)
  · simp only [WDV, WDCs, WDC, WDs, wd_i64, and_true]
    have := mulV_rng p q r t
    omega
  · obtain ⟨⟨_, _, _, _⟩, _, _, _, _⟩ := wd2 h
    exact rmul_any p q r t w (by omega) (by omega) (by omega) (by omega) (by omega) (by omega) (by omega) (by omega)
theorem radd_fn (p q r t : Int) : FnOK Try.prog 52 (rat2 p q r t) (ret3 (addV p q r t)) := by
  refine fn_of_calls (fun _ _ => Try.call52 _ _) rfl rfl (fun h => ?_) (fun h w => ?_)
  · simp only [WDV, WDCs, WDC, WDs, wd_i64, and_true]
    have := addV_rng p q r t
    omega
  · obtain ⟨⟨_, _, _, _⟩, _, _, _, _⟩ := wd2 h
    exact radd_any p q r t w (by omega) (by omega) (by omega) (by omega) (by omega) (by omega) (by omega) (by omega)
theorem rcommon_fn (a b : Nat) : FnOK Try.prog 42 [.one (u64 a), .one (u64 b)] (.c (.one (u64 (Nat.gcd a b : Nat)))) := by
  refine fn_of_calls (fun _ _ => Try.call42 _ _) rfl rfl (fun h => ?_) (fun h w => ?_)
  all_goals simp only [WDCs, WDC, wd_u64] at h
  · simp only [WDV, WDCs, WDC, wd_u64, and_true]
    rcases Nat.eq_zero_or_pos a with h0 | h0
    · subst h0; rw [Nat.gcd_zero_left]; omega
    · have := Nat.gcd_le_left b h0; omega
  · exact rcommon_any a b w
abbrev bigN (m : Nat) : DC := .agg [bol false, u64 ((m / 18446744073709551616 : Nat) : Int), u64 ((m % 18446744073709551616 : Nat) : Int)]
theorem rdivided_fn (x : Bool) (m y : Nat) (hm : m < 9223372036854775807 * 18446744073709551616) (hy : 0 < y) (hY : y ≤ 9223372036854775808) :
    FnOK Try.prog 56 [.agg [bol x, u64 ((m / 18446744073709551616 : Nat) : Int), u64 ((m % 18446744073709551616 : Nat) : Int)], .one (u64 y)] (.tup [bigN (m / y), .one (u64 (m % y : Nat))]) := by
  refine fn_of_calls (fun _ _ => Try.call56 _ _) rfl rfl (fun h => ?_) (fun h w => ?_)
  all_goals simp only [WDCs, WDC, WDs, wd_u64, wd_bol] at h
  · simp only [WDV, WDCs, WDC, WDs, wd_u64, wd_bol, and_true, true_and]
    have h1 : m / y ≤ m := Nat.div_le_self _ _
    have h2 : m % y < y := Nat.mod_lt _ hy
    generalize m / y = q at *
    generalize m % y = r at *
    omega
  · exact rdivided_any x _ _ m y _ _ _ (big_two _) (big_two _) rfl hm hy hY w
theorem rmade_fn (x : Bool) (m n : Nat) (hm : m < 18446744073709551616 * 18446744073709551616) (hn : n < 18446744073709551616) : FnOK Try.prog 57 [.one (bol x), bigN m, .agg [bol false, u64 0, u64 n]] (ret3 (buildN x m n)) := by
  refine fn_of_calls (fun _ _ => Try.call57 _ _) rfl rfl (fun h => ?_) (fun h w => ?_)
  · simp only [WDV, WDCs, WDC, WDs, wd_i64, and_true]
    have := buildN_rng x m n
    omega
  · have := rmade_two x false false _ _ 0 n m n (big_two _) (show Two 0 n n from ⟨by omega, by omega⟩) w
    exact this
theorem rover_fn (S : Int) (d : Nat) (hS : S.natAbs < 9223372036854775807 * 18446744073709551616) (hd : 0 < d) (hd2 : d ≤ 9223372036854775807) : FnOK Try.prog 59 [bigC S, .one (i64 d)] (ret3 (outQ (qv S d))) := by
  refine fn_ok (by kernel_rfl) ty_ok Try.func59 rfl (fun _ _ => Try.call59 _ _) rfl ?_
  intro hw
  clear hw
  have W2 : IntKind.u64.wrap (d : Int) = d := by rw [IntKind.wrap_u64]; omega
  obtain ⟨M, hM⟩ : ∃ M, M = S.natAbs := ⟨_, rfl⟩
  rw [over_q S d hd, ← hM]
  rw [← hM] at hS
  obtain ⟨g, hg⟩ : ∃ g, g = Nat.gcd M d := ⟨_, rfl⟩
  have g0 : 0 < g := by rw [hg]; exact Nat.gcd_pos_of_pos_right _ (by omega)
  have g1 : g ≤ d := by rw [hg]; exact Nat.gcd_le_right _ (by omega)
  have D1 := rdivided_fn (decide (S < 0)) M d hS hd (by omega)
  have D2 := rdivided_fn (decide (S < 0)) M g hS g0 (by omega)
  have C1 := rcommon_fn d (M % d)
  rw [gcd_of_mod, ← hg] at C1
  have k1 : M / g ≤ M := Nat.div_le_self _ _
  have k2 : d / g ≤ d := Nat.div_le_self _ _
  have M1 := rmade_fn (decide (S < 0)) (M / g) (d / g) (by omega) (by omega)
  rw [← hg]
  have e1 : IntKind.u64.wrap ((d : Int).tdiv (g : Int)) = ((d / g : Nat) : Int) := by
    rw [← Int.ofNat_tdiv, IntKind.wrap_u64]
    generalize d / g = k at *
    omega
  have e2 : IntKind.u64.wrap ((IntKind.u64.wrap (d : Int)).tdiv (g : Int)) = ((d / g : Nat) : Int) := by rw [W2, e1]
  rw [← e2] at M1
  have e0 : (g : Int) ≠ 0 := by omega
  have D1' : FnOK Try.prog 56 [bigC S, .one (u64 (IntKind.u64.wrap (d : Int)))] (.tup [bigN (M / d), .one (u64 (M % d : Nat))]) := by rw [W2, bigC, ← hM]; exact D1
  have D2' : FnOK Try.prog 56 [bigC S, .one (u64 g)] (.tup [bigN (M / g), .one (u64 (M % g : Nat))]) := by rw [bigC, ← hM]; exact D2
  have C1' : FnOK Try.prog 42 [.one (u64 (IntKind.u64.wrap (d : Int))), .one (u64 (M % d : Nat))] (.c (.one (u64 g))) := by rw [W2]; exact C1
  clear D1 D2 C1 k1 k2
  obtain ⟨o, ho⟩ : ∃ o, o = buildN (decide (S < 0)) (M / g) (d / g) := ⟨_, rfl⟩
  rw [← ho] at M1 ⊢
  clear ho hM hg
  simp only [ret3] at *
  generalize M / g = mg at *
  generalize M % g = mg2 at *
  generalize M / d = md at *
  generalize M % d = md2 at *

  repeat' ((conv => whnf); first | (with_reducible first | refine br_t ?_ | refine br_f ?_ | refine xa (by assumption) ?_ | refine xg (by assumption) rfl ?_ | refine xo (by assumption) ?_ | refine xb (by assumption) rfl ?_ | refine xm (by assumption) ?_ | refine xc (by assumption) ?_ | refine xi (D1') ?_ | refine xi (D2') ?_ | refine xi (C1') ?_ | refine xi (M1) ?_) | (with_reducible refine And.intro e0 ?_) | ((with_reducible refine bc_t ?_ ?_); (first | omega | decide)) | ((with_reducible refine bc_f ?_ ?_); (first | omega | decide)) | (with_reducible first | refine bc (fun h => ?_) (fun h => ?_) | refine br_t' (by assumption) ?_ | refine br_f' (by assumption) ?_ | refine br_i (fun h => ?_) (fun h => ?_)) | refine xg (by assumption) rfl ?_ | refine And.intro (by first | kernel_rfl | omega | (simp only [List.length_append, List.length_cons, List.length_nil, List.length_map]; omega) | decide) ?_)
  all_goals conv => whnf
  all_goals rfl
theorem chk_one {a : Int} (h : a ≠ -9223372036854775808) : chk a 1 = 0 := (chk_iff a 1).2 ⟨by omega, h, by show Nat.gcd _ 1 = 1; exact Nat.gcd_one_right _⟩
theorem place_q (a b n d : Int) (hd : 1 ≤ d) : qv a 1 + qv b 1 * qv n d = qv (a * d + b * n) d := by
  rw [qv_mul (by omega) hd, Int.one_mul, qv_add (by omega) hd, Int.one_mul, Int.mul_one]
theorem kkAt_fn (i a b n m : Int) : FnOK Try.prog 53 [pt i a b, rat n m] (ret3 (atV i a b n m)) := by
  refine fn_ok (by kernel_rfl) ty_ok Try.func53 rfl (fun _ _ => Try.call53 _ _) rfl ?_
  intro hw
  have H1 := kkCheck_fn i a b
  have H2 := rcheck_fn n m
  unfold atV
  split
  · rename_i h
    obtain ⟨h1, h2⟩ := h
    rw [h1] at H1
    rw [h2] at H2
    have g1 := cpt_ok h1
    obtain ⟨g2, _, _⟩ := (chk_iff n m).1 h2
    simp only [WDCs, WDC, WDs, wd_i64] at hw
    have p1 := prod_in3 (p := a) (k := m) (by omega) (by omega) (by omega) (by omega)
    have p2 := prod_in3 (p := b) (k := n) (by omega) (by omega) (by omega) (by omega)
    have M1 := rmul_fn b 1 n m
    rw [mulV_q (chk_one (by omega)) h2] at M1
    have P1 := rProduct_fn a m
    have P2 := rProduct_fn b n
    have hq := place_q a b n m g2
    obtain ⟨d, rfl⟩ := Int.eq_ofNat_of_zero_le (show 0 ≤ m by omega)
    obtain ⟨o, ho⟩ : ∃ o, o = outQ (qv (a * d + b * n) d) := ⟨_, rfl⟩
    have O1 := rover_fn (a * d + b * n) d (by omega) (by omega) (by omega)
    rw [← ho] at O1 ⊢
    generalize a * (d : Int) = s at *
    generalize b * n = t at *
    have P3 := rPlus_fn s t (by omega) (by omega)
    rcases outQ_cases (qv b 1 * qv n d) with ⟨u, v, e, c, q, _⟩ | e
    · rw [e] at M1
      have A1 := radd_fn a 1 u v
      rw [addV_q (chk_one (by omega)) c, q, hq, ← ho] at A1
      simp only [ret1, ret3] at *
      repeat' ((conv => whnf); first | (with_reducible first | refine br_t ?_ | refine br_f ?_ | refine xa (by assumption) ?_ | refine xg (by assumption) rfl ?_ | refine xo (by assumption) ?_ | refine xb (by assumption) rfl ?_ | refine xm (by assumption) ?_ | refine xc (by assumption) ?_ | refine xi (H1) ?_ | refine xi (H2) ?_ | refine xi (M1) ?_ | refine xi (A1) ?_) | ((with_reducible refine bc_t ?_ ?_); (first | omega | decide)) | ((with_reducible refine bc_f ?_ ?_); (first | omega | decide)) | (with_reducible first | refine bc (fun h => ?_) (fun h => ?_) | refine br_t' (by assumption) ?_ | refine br_f' (by assumption) ?_ | refine br_i (fun h => ?_) (fun h => ?_)) | refine xg (by assumption) rfl ?_ | refine And.intro (by first | kernel_rfl | omega | (simp only [List.length_append, List.length_cons, List.length_nil, List.length_map]; omega) | decide) ?_)
      all_goals conv => whnf
      all_goals rfl
    · rw [e] at M1
      simp only [ret1, ret3] at *
      repeat' ((conv => whnf); first | (with_reducible first | refine br_t ?_ | refine br_f ?_ | refine xa (by assumption) ?_ | refine xg (by assumption) rfl ?_ | refine xo (by assumption) ?_ | refine xb (by assumption) rfl ?_ | refine xm (by assumption) ?_ | refine xc (by assumption) ?_ | refine xi (H1) ?_ | refine xi (H2) ?_ | refine xi (M1) ?_ | refine xi (P1) ?_ | refine xi (P2) ?_ | refine xi (P3) ?_ | refine xi (O1) ?_) | ((with_reducible refine bc_t ?_ ?_); (first | omega | decide)) | ((with_reducible refine bc_f ?_ ?_); (first | omega | decide)) | (with_reducible first | refine bc (fun h => ?_) (fun h => ?_) | refine br_t' (by assumption) ?_ | refine br_f' (by assumption) ?_ | refine br_i (fun h => ?_) (fun h => ?_)) | refine xg (by assumption) rfl ?_ | refine And.intro (by first | kernel_rfl | omega | (simp only [List.length_append, List.length_cons, List.length_nil, List.length_map]; omega) | decide) ?_)
      all_goals conv => whnf
      all_goals rfl
  · rename_i h
    rcases cpt_08 i a b with h1 | h1 <;> rcases chk_08 n m with h2 | h2
    · exact absurd ⟨h1, h2⟩ h
    all_goals
      rw [h1] at H1
      rw [h2] at H2
      simp only [ret1, ret3] at *
      repeat' ((conv => whnf); first | (with_reducible first | refine br_t ?_ | refine br_f ?_ | refine xa (by assumption) ?_ | refine xg (by assumption) rfl ?_ | refine xo (by assumption) ?_ | refine xb (by assumption) rfl ?_ | refine xm (by assumption) ?_ | refine xc (by assumption) ?_ | refine xi (H1) ?_ | refine xi (H2) ?_) | ((with_reducible refine bc_t ?_ ?_); (first | omega | decide)) | ((with_reducible refine bc_f ?_ ?_); (first | omega | decide)) | (with_reducible first | refine bc (fun h => ?_) (fun h => ?_) | refine br_t' (by assumption) ?_ | refine br_f' (by assumption) ?_ | refine br_i (fun h => ?_) (fun h => ?_)) | refine xg (by assumption) rfl ?_ | refine And.intro (by first | kernel_rfl | omega | (simp only [List.length_append, List.length_cons, List.length_nil, List.length_map]; omega) | decide) ?_)
      all_goals conv => whnf
      all_goals rfl
end Go.Proofs.Ytmdnpklbdamfpaa
