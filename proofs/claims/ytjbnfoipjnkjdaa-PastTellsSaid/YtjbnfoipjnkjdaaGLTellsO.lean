import Derived.Test.YtjbnfoipjnkjdaaGLTellsN
import Derived.Test.YtjbnfoipjnkjdaaGLTellsM
import Derived.Test.YtjbnfoipjnkjdaaGLTellsJ
set_option linter.all false


/- What layer 2 computes: the order of two points. No conditions but on sizes. -/
namespace Go.Proofs.Ytjbnfoipjnkjdaa
open Go.RowKit Go.Sort Sx

theorem nanint_fnd (n : Int) : FnD Try.prog 102 [.one (i64 n)] (.c (.one (bol false))) := by
  refine fn_okD (by kernel_rfl) ty_okD rfl Try.func102 rfl (fun _ _ => Try.call102 _ _) rfl ?_
  intro hw
  repeat' ((conv => whnf); first | (with_reducible first | refine br_t ?_ | refine br_f ?_ | refine xd (by assumption) ?_ | refine xa (by assumption) ?_ | refine xg (by assumption) rfl ?_ | refine xo (by assumption) ?_ | refine xb (by assumption) rfl ?_ | refine xm (by assumption) ?_ | refine xc (by assumption) ?_) | ((with_reducible refine bc_t ?_ ?_); (first | omega | decide)) | ((with_reducible refine bc_f ?_ ?_); (first | omega | decide)) | (with_reducible first | refine bc (fun h => ?_) (fun h => ?_) | refine br_t' (by assumption) ?_ | refine br_f' (by assumption) ?_ | refine br_i (fun h => ?_) (fun h => ?_)) | refine xg (by assumption) rfl ?_ | refine And.intro (by first | kernel_rfl | omega | (simp only [List.length_append, List.length_cons, List.length_nil, List.length_map, List.length_take, List.length_replicate]; omega) | decide) ?_)
  all_goals conv => whnf
  all_goals exact r_bool (by simp)
theorem nanint_fn (n : Int) : FnOK Try.prog 102 [.one (i64 n)] (.c (.one (bol false))) := (nanint_fnd n).ok
theorem cmpint_fnd (a b : Int) : FnD Try.prog 88 [.one (i64 a), .one (i64 b)] (ret1 (cmpN a b)) := by
  refine fn_okD (by kernel_rfl) ty_okD rfl Try.func88 rfl (fun _ _ => Try.call88 _ _) rfl ?_
  intro hw
  repeat' ((conv => whnf); first | (with_reducible first | refine br_t ?_ | refine br_f ?_ | refine xd (by assumption) ?_ | refine xa (by assumption) ?_ | refine xg (by assumption) rfl ?_ | refine xo (by assumption) ?_ | refine xb (by assumption) rfl ?_ | refine xm (by assumption) ?_ | refine xc (by assumption) ?_ | refine xi (nanint_fnd _) ?_) | ((with_reducible refine bc_t ?_ ?_); (first | omega | decide)) | ((with_reducible refine bc_f ?_ ?_); (first | omega | decide)) | (with_reducible first | refine bc (fun h => ?_) (fun h => ?_) | refine br_t' (by assumption) ?_ | refine br_f' (by assumption) ?_ | refine br_i (fun h => ?_) (fun h => ?_)) | refine xg (by assumption) rfl ?_ | refine And.intro (by first | kernel_rfl | omega | (simp only [List.length_append, List.length_cons, List.length_nil, List.length_map, List.length_take, List.length_replicate]; omega) | decide) ?_)
  all_goals conv => whnf
  all_goals
    refine r_int ?_
    unfold cmpN
    (repeat' split) <;> omega
theorem cmpint_fn (a b : Int) : FnOK Try.prog 88 [.one (i64 a), .one (i64 b)] (ret1 (cmpN a b)) := (cmpint_fnd a b).ok
theorem cmpi_fn (a b : Int) : FnOK Try.prog 50 [.one (i64 a), .one (i64 b)] (ret1 (cmpN a b)) := (cmpi_fnd a b).ok
def orN (a b : Int) : Int := if a = 0 then b else a
theorem cmpor_fnd (a b : Int) : FnD Try.prog 100 [.one (.list 1 [[i64 a], [i64 b]])] (ret1 (orN a b)) := by
  refine fn_okD (by kernel_rfl) ty_okD rfl Try.func100 rfl (fun _ _ => Try.call100 _ _) rfl ?_
  intro hw
  repeat' ((conv => whnf); first | (with_reducible first | refine br_t ?_ | refine br_f ?_ | refine xd (by assumption) ?_ | refine xa (by assumption) ?_ | refine xg (by assumption) rfl ?_ | refine xo (by assumption) ?_ | refine xb (by assumption) rfl ?_ | refine xm (by assumption) ?_ | refine xc (by assumption) ?_) | ((with_reducible refine bc_t ?_ ?_); (first | omega | decide)) | ((with_reducible refine bc_f ?_ ?_); (first | omega | decide)) | (with_reducible first | refine bc (fun h => ?_) (fun h => ?_) | refine br_t' (by assumption) ?_ | refine br_f' (by assumption) ?_ | refine br_i (fun h => ?_) (fun h => ?_)) | refine xg (by assumption) rfl ?_ | refine And.intro (by first | kernel_rfl | omega | (simp only [List.length_append, List.length_cons, List.length_nil, List.length_map, List.length_take, List.length_replicate]; omega) | decide) ?_)
  refine loop_I (by kernel_rfl) ty_okD (σ := Nat) (fun i => ([(2, sV (.int .i64 0)), (3, sV (.int .i64 0)), (6, sD (.list 1 [[i64 a], [i64 b]])), (7, sV (.int .i64 2)), (8, sV (.int .i64 (i : Int)))], []))
    (fun i => i = 0 ∨ (i = 1 ∧ a = 0) ∨ (i = 2 ∧ a = 0 ∧ b = 0)) (fun i => 2 - i) 0 (.inl rfl) ⟨⟨rfl, rfl, rfl, rfl, rfl, trivial⟩, trivial, rfl⟩ ?_
  intro i hi
  have hel0 : ([[i64 a], [i64 b]] : List (List D))[((0 : Nat) : Int).toNat]? = some [i64 a] := rfl
  have hel1 : ([[i64 a], [i64 b]] : List (List D))[((1 : Nat) : Int).toNat]? = some [i64 b] := rfl
  have q0 : 0 ≤ ((0 : Nat) : Int) ∧ ((0 : Nat) : Int) < (([[i64 a], [i64 b]] : List (List D)).length : Int) := ⟨by omega, by simp⟩
  have q1 : 0 ≤ ((1 : Nat) : Int) ∧ ((1 : Nat) : Int) < (([[i64 a], [i64 b]] : List (List D)).length : Int) := ⟨by omega, by simp⟩
  rcases hi with rfl | ⟨rfl, h1⟩ | ⟨rfl, h1, h2⟩
  · repeat' ((conv => whnf); first | (with_reducible first | refine br_t ?_ | refine br_f ?_ | refine xd (by assumption) ?_ | refine xa (by assumption) ?_ | refine xg (by assumption) rfl ?_ | refine xo (by assumption) ?_ | refine xb (by assumption) rfl ?_ | refine xm (by assumption) ?_ | refine xc (by assumption) ?_) | first | (refine (Exists.intro _ (And.intro (And.intro hel0 (Nat.le_of_ble_eq_true rfl)) ?_))) | (refine And.intro q0 ?_) | ((with_reducible refine bc_t ?_ ?_); (first | omega | decide)) | ((with_reducible refine bc_f ?_ ?_); (first | omega | decide)) | (with_reducible first | refine bc (fun h => ?_) (fun h => ?_) | refine br_t' (by assumption) ?_ | refine br_f' (by assumption) ?_ | refine br_i (fun h => ?_) (fun h => ?_)) | refine xg (by assumption) rfl ?_ | refine And.intro (by first | kernel_rfl | omega | (simp only [List.length_append, List.length_cons, List.length_nil, List.length_map, List.length_take, List.length_replicate]; omega) | decide) ?_)
    all_goals conv => whnf
    · refine r_int ?_
      unfold orN; rw [if_neg (by assumption)]
    · refine ⟨1, .inr (.inl ⟨rfl, by omega⟩), ⟨⟨rfl, rfl, rfl, rfl, rfl, trivial⟩, trivial, rfl⟩, by show 2 - 1 < 2 - 0; decide⟩
  · repeat' ((conv => whnf); first | (with_reducible first | refine br_t ?_ | refine br_f ?_ | refine xd (by assumption) ?_ | refine xa (by assumption) ?_ | refine xg (by assumption) rfl ?_ | refine xo (by assumption) ?_ | refine xb (by assumption) rfl ?_ | refine xm (by assumption) ?_ | refine xc (by assumption) ?_) | first | (refine (Exists.intro _ (And.intro (And.intro hel1 (Nat.le_of_ble_eq_true rfl)) ?_))) | (refine And.intro q1 ?_) | ((with_reducible refine bc_t ?_ ?_); (first | omega | decide)) | ((with_reducible refine bc_f ?_ ?_); (first | omega | decide)) | (with_reducible first | refine bc (fun h => ?_) (fun h => ?_) | refine br_t' (by assumption) ?_ | refine br_f' (by assumption) ?_ | refine br_i (fun h => ?_) (fun h => ?_)) | refine xg (by assumption) rfl ?_ | refine And.intro (by first | kernel_rfl | omega | (simp only [List.length_append, List.length_cons, List.length_nil, List.length_map, List.length_take, List.length_replicate]; omega) | decide) ?_)
    all_goals conv => whnf
    · refine r_int ?_
      unfold orN; rw [if_pos h1]
    · refine ⟨2, .inr (.inr ⟨rfl, h1, by omega⟩), ⟨⟨rfl, rfl, rfl, rfl, rfl, trivial⟩, trivial, rfl⟩, by show 2 - 2 < 2 - 1; decide⟩
  · repeat' ((conv => whnf); first | (with_reducible first | refine br_t ?_ | refine br_f ?_ | refine xd (by assumption) ?_ | refine xa (by assumption) ?_ | refine xg (by assumption) rfl ?_ | refine xo (by assumption) ?_ | refine xb (by assumption) rfl ?_ | refine xm (by assumption) ?_ | refine xc (by assumption) ?_) | ((with_reducible refine bc_t ?_ ?_); (first | omega | decide)) | ((with_reducible refine bc_f ?_ ?_); (first | omega | decide)) | (with_reducible first | refine bc (fun h => ?_) (fun h => ?_) | refine br_t' (by assumption) ?_ | refine br_f' (by assumption) ?_ | refine br_i (fun h => ?_) (fun h => ?_)) | refine xg (by assumption) rfl ?_ | refine And.intro (by first | kernel_rfl | omega | (simp only [List.length_append, List.length_cons, List.length_nil, List.length_map, List.length_take, List.length_replicate]; omega) | decide) ?_)
    all_goals conv => whnf
    refine r_int ?_
    unfold orN; rw [if_pos h1]; exact h2.symm
theorem cmpor_fn (a b : Int) : FnOK Try.prog 100 [.one (.list 1 [[i64 a], [i64 b]])] (ret1 (orN a b)) := (cmpor_fnd a b).ok
def two02 (i a b j c d n m : Int) : Int := if cpt i a b = 0 ∧ cpt j c d = 0 ∧ chk n m = 0 then (if i = j then 2 else 0) else 8
theorem two02_in (i a b j c d n m : Int) : two02 i a b j c d n m = 0 ∨ two02 i a b j c d n m = 2 ∨ two02 i a b j c d n m = 8 := by
  unfold two02; (repeat' split) <;> simp
theorem two02_ok {i a b j c d n m : Int} (h : two02 i a b j c d n m = 0) : cpt i a b = 0 ∧ cpt j c d = 0 ∧ chk n m = 0 ∧ i ≠ j := by
  unfold two02 at h
  split at h
  · rename_i hc
    split at h
    · cases h
    · exact ⟨hc.1, hc.2.1, hc.2.2, by assumption⟩
  · cases h
theorem ktwo_fnd (i a b j c d n m : Int) : FnD Try.prog 83 [pt i a b, pt j c d, rat n m] (ret1 (two02 i a b j c d n m)) := by
  refine fn_okD (by kernel_rfl) ty_okD rfl Try.func83 rfl (fun _ _ => Try.call83 _ _) rfl ?_
  intro hw
  have H1 := kCheck_fnd i a b
  have H2 := kCheck_fnd j c d
  have H3 := check_fnd n m
  unfold two02
  rcases cpt_08 i a b with h1 | h1 <;> rcases cpt_08 j c d with h2 | h2 <;> rcases chk_08 n m with h3 | h3
  all_goals
    rw [h1] at H1
    rw [h2] at H2
    rw [h3] at H3
    simp only [h1, h2, h3]
    repeat' ((conv => whnf); first | (with_reducible first | refine br_t ?_ | refine br_f ?_ | refine xd (by assumption) ?_ | refine xa (by assumption) ?_ | refine xg (by assumption) rfl ?_ | refine xo (by assumption) ?_ | refine xb (by assumption) rfl ?_ | refine xm (by assumption) ?_ | refine xc (by assumption) ?_ | refine xi (H1) ?_ | refine xi (H2) ?_ | refine xi (H3) ?_) | ((with_reducible refine bc_t ?_ ?_); (first | omega | decide)) | ((with_reducible refine bc_f ?_ ?_); (first | omega | decide)) | (with_reducible first | refine bc (fun h => ?_) (fun h => ?_) | refine br_t' (by assumption) ?_ | refine br_f' (by assumption) ?_ | refine br_i (fun h => ?_) (fun h => ?_)) | refine xg (by assumption) rfl ?_ | refine And.intro (by first | kernel_rfl | omega | (simp only [List.length_append, List.length_cons, List.length_nil, List.length_map, List.length_take, List.length_replicate]; omega) | decide) ?_)
    all_goals conv => whnf
    all_goals
      refine r_int ?_
      first
      | rfl
      | (simp; done)
      | (simp; omega)
theorem ktwo_fn (i a b j c d n m : Int) : FnOK Try.prog 83 [pt i a b, pt j c d, rat n m] (ret1 (two02 i a b j c d n m)) := (ktwo_fnd i a b j c d n m).ok
/-- which of two points is ahead, where the places differ by a sum -/
def leadN (i b j d s : Int) : Int := if s = 0 then (if b = d then cmpN j i else cmpN b d) else if s < 0 then -1 else 1
theorem prod_in3 {p k : Int} (h0 : -2097152 ≤ p) (h1 : p ≤ 2097152) (k0 : -9223372036854775808 ≤ k) (k1 : k ≤ 9223372036854775808) : -19342813113834066795298816 ≤ p * k ∧ p * k ≤ 19342813113834066795298816 := by
  have : (p * k).natAbs ≤ 2097152 * 9223372036854775808 := by rw [Int.natAbs_mul]; exact Nat.mul_le_mul (by omega) (by omega)
  omega
theorem kcompare_fnd (i a b j c d n m : Int) (h1 : cpt i a b = 0) (h2 : cpt j c d = 0) : FnD Try.prog 84 [pt i a b, pt j c d, rat n m] (ret1 (leadN i b j d ((a - c) * m + (b - d) * n))) := by
  refine fn_okD (by kernel_rfl) ty_okD rfl Try.func84 rfl (fun _ _ => Try.call84 _ _) rfl ?_
  intro hw
  simp only [WDCs, WDC, WDs, wd_i64] at hw
  have g1 := cpt_ok h1
  have g2 := cpt_ok h2
  have p1 := prod_in3 (p := a - c) (k := m) (by omega) (by omega) (by omega) (by omega)
  have p2 := prod_in3 (p := b - d) (k := n) (by omega) (by omega) (by omega) (by omega)
  have HS := sum_fnd (a - c) m (b - d) n (by omega)
  generalize hs : (a - c) * m + (b - d) * n = s at *
  have e1 : IntKind.i64.wrap (a - c) = a - c := IntWalk.i64_in _ (by omega)
  have e2 : IntKind.i64.wrap (b - d) = b - d := IntWalk.i64_in _ (by omega)
  rw [← e1, ← e2] at HS
  repeat' ((conv => whnf); first | (with_reducible first | refine br_t ?_ | refine br_f ?_ | refine xd (by assumption) ?_ | refine xa (by assumption) ?_ | refine xg (by assumption) rfl ?_ | refine xo (by assumption) ?_ | refine xb (by assumption) rfl ?_ | refine xm (by assumption) ?_ | refine xc (by assumption) ?_ | refine xi (HS) ?_ | refine xi (cmpor_fnd _ _) ?_ | refine xi (cmpint_fnd _ _) ?_ | refine xi (cmpi_fnd _ _) ?_) | ((with_reducible refine bc_t ?_ ?_); (first | omega | decide)) | ((with_reducible refine bc_f ?_ ?_); (first | omega | decide)) | (with_reducible first | refine bc (fun h => ?_) (fun h => ?_) | refine br_t' (by assumption) ?_ | refine br_f' (by assumption) ?_ | refine br_i (fun h => ?_) (fun h => ?_) | refine xi (pv_bool fun _ => nev151 _ _ _ _ _ _ _) ?_) | refine xg (by assumption) rfl ?_ | refine And.intro (by first | kernel_rfl | omega | (simp only [List.length_append, List.length_cons, List.length_nil, List.length_map, List.length_take, List.length_replicate]; omega) | decide) ?_)
  all_goals conv => whnf
  all_goals
    refine r_int ?_
    clear HS hs p1 p2 e1 e2 hw h1 h2 g1 g2
    unfold leadN
    first
    | (rw [if_neg (by omega), if_pos (by omega)]; done)
    | (rw [if_neg (by omega), if_neg (by omega)]; done)
    | (rw [if_pos (by omega)]
       unfold orN cmpN
       (repeat' split) <;> omega)
theorem kcompare_fn (i a b j c d n m : Int) (h1 : cpt i a b = 0) (h2 : cpt j c d = 0) : FnOK Try.prog 84 [pt i a b, pt j c d, rat n m] (ret1 (leadN i b j d ((a - c) * m + (b - d) * n))) := (kcompare_fnd i a b j c d n m h1 h2).ok
theorem leadN_rng (i b j d s : Int) : -1 ≤ leadN i b j d s ∧ leadN i b j d s ≤ 1 := by
  unfold leadN cmpN; (repeat' split) <;> omega
/-- Product and Plus of the reference, as one number -/
theorem big_two (n : Nat) : Two (n / 18446744073709551616) (n % 18446744073709551616) n := ⟨rfl, rfl⟩
abbrev bigC (x : Int) : DC := .agg [bol (decide (x < 0)), u64 ((x.natAbs / 18446744073709551616 : Nat) : Int), u64 ((x.natAbs % 18446744073709551616 : Nat) : Int)]
theorem rProduct_fn (a b : Int) : FnOK Try.prog 54 [.one (i64 a), .one (i64 b)] (.c (bigC (a * b))) := by
  refine fn_of_calls (fun _ _ => Try.call54 _ _) rfl rfl (fun h => ?_) (fun h w => ?_)
  · obtain ⟨_, _, _, _⟩ := wdii h
    have : (a * b).natAbs ≤ 9223372036854775808 * 9223372036854775808 := by rw [Int.natAbs_mul]; exact Nat.mul_le_mul (by omega) (by omega)
    simp only [WDV, WDCs, WDC, WDs, wd_i64, wd_u64, wd_bol, and_true, true_and]
    omega
  · obtain ⟨_, _, _, _⟩ := wdii h
    exact rProduct_any a b _ _ (by rw [← Int.natAbs_mul]; exact big_two _) w (by omega) (by omega) (by omega) (by omega)
theorem rPlus_fn (x y : Int) (hx : x.natAbs < 9223372036854775807 * 18446744073709551616) (hy : y.natAbs < 9223372036854775807 * 18446744073709551616) : FnOK Try.prog 109 [bigC x, bigC y] (.c (bigC (x + y))) := by
  refine fn_of_calls (fun _ _ => Try.call109 _ _) rfl rfl (fun h => ?_) (fun h w => ?_)
  · simp only [WDV, WDCs, WDC, WDs, wd_i64, wd_u64, wd_bol, and_true, true_and]
    omega
  · exact rPlus_any x y _ _ _ _ _ _ (big_two _) (big_two _) (big_two _) hx hy w
theorem rsign_fn (x : Int) : FnOK Try.prog 55 [bigC x] (ret1 (cmpN x 0)) := by
  refine fn_of_calls (fun _ _ => Try.call55 _ _) rfl rfl (fun h => ?_) (fun h w => ?_)
  · have := cmpN_rng x 0
    simp only [WDV, WDCs, WDC, WDs, wd_i64, wd_u64, wd_bol, and_true, true_and]
    omega
  · exact rSign_any x _ _ (big_two _) w
theorem kkFar_fn (i a b j c d n m : Int) (h1 : cpt i a b = 0) (h2 : cpt j c d = 0) : FnOK Try.prog 101 [pt i a b, pt j c d, rat n m] (ret1 (cmpN ((a - c) * m + (b - d) * n) 0)) := by
  refine fn_ok (by kernel_rfl) ty_ok Try.func101 rfl (fun _ _ => Try.call101 _ _) rfl ?_
  intro hw
  simp only [WDCs, WDC, WDs, wd_i64] at hw
  have g1 := cpt_ok h1
  have g2 := cpt_ok h2
  have p1 := prod_in3 (p := a - c) (k := m) (by omega) (by omega) (by omega) (by omega)
  have p2 := prod_in3 (p := b - d) (k := n) (by omega) (by omega) (by omega) (by omega)
  have e1 : IntKind.i64.wrap (a - c) = a - c := IntWalk.i64_in _ (by omega)
  have e2 : IntKind.i64.wrap (b - d) = b - d := IntWalk.i64_in _ (by omega)
  have H1 := rProduct_fn (a - c) m
  have H2 := rProduct_fn (b - d) n
  generalize (a - c) * m = s at *
  generalize (b - d) * n = t at *
  have H3 := rPlus_fn s t (by omega) (by omega)
  have H4 := rsign_fn (s + t)
  rw [← e1] at H1
  rw [← e2] at H2
  repeat' ((conv => whnf); first | (with_reducible first | refine br_t ?_ | refine br_f ?_ | refine xa (by assumption) ?_ | refine xg (by assumption) rfl ?_ | refine xo (by assumption) ?_ | refine xb (by assumption) rfl ?_ | refine xm (by assumption) ?_ | refine xc (by assumption) ?_ | refine xi (H1) ?_ | refine xi (H2) ?_ | refine xi (H3) ?_ | refine xi (H4) ?_) | ((with_reducible refine bc_t ?_ ?_); (first | omega | decide)) | ((with_reducible refine bc_f ?_ ?_); (first | omega | decide)) | (with_reducible first | refine bc (fun h => ?_) (fun h => ?_) | refine br_t' (by assumption) ?_ | refine br_f' (by assumption) ?_ | refine br_i (fun h => ?_) (fun h => ?_)) | refine xg (by assumption) rfl ?_ | refine And.intro (by first | kernel_rfl | omega | (simp only [List.length_append, List.length_cons, List.length_nil, List.length_map, List.length_take, List.length_replicate]; omega) | decide) ?_)
  all_goals conv => whnf
  all_goals rfl
theorem kkLeads_fn (i a b j c d n m : Int) (h1 : cpt i a b = 0) (h2 : cpt j c d = 0) : FnOK Try.prog 85 [pt i a b, pt j c d, rat n m] (.c (.one (bol (decide (leadN i b j d ((a - c) * m + (b - d) * n) > 0))))) := by
  refine fn_ok (by kernel_rfl) ty_ok Try.func85 rfl (fun _ _ => Try.call85 _ _) rfl ?_
  intro hw
  simp only [WDCs, WDC, WDs, wd_i64] at hw
  have HF := kkFar_fn i a b j c d n m h1 h2
  generalize (a - c) * m + (b - d) * n = s at *
  obtain ⟨f, hf⟩ : ∃ f, f = cmpN s 0 := ⟨_, rfl⟩
  rw [← hf] at HF
  repeat' ((conv => whnf); first | (with_reducible first | refine br_t ?_ | refine br_f ?_ | refine xa (by assumption) ?_ | refine xg (by assumption) rfl ?_ | refine xo (by assumption) ?_ | refine xb (by assumption) rfl ?_ | refine xm (by assumption) ?_ | refine xc (by assumption) ?_ | refine xi (HF) ?_) | ((with_reducible refine bc_t ?_ ?_); (first | omega | decide)) | ((with_reducible refine bc_f ?_ ?_); (first | omega | decide)) | (with_reducible first | refine bc (fun h => ?_) (fun h => ?_) | refine br_t' (by assumption) ?_ | refine br_f' (by assumption) ?_ | refine br_i (fun h => ?_) (fun h => ?_)) | refine xg (by assumption) rfl ?_ | refine And.intro (by first | kernel_rfl | omega | (simp only [List.length_append, List.length_cons, List.length_nil, List.length_map, List.length_take, List.length_replicate]; omega) | decide) ?_)
  all_goals conv => whnf
  all_goals
    refine r_bool ?_
    clear HF hw h1 h2
    unfold cmpN at hf
    unfold leadN cmpN
    (repeat' split at hf) <;> (repeat' split) <;> first | rfl | omega | (rw [decide_eq_decide]; omega) | (symm; rw [decide_eq_true_eq]; omega) | (symm; rw [decide_eq_false_iff_not]; omega)
/-- who is ahead, at any arguments -/
def aheadV (i a b j c d n m : Int) : Bool × Int := if two02 i a b j c d n m = 0 then (decide (leadN i b j d ((a - c) * m + (b - d) * n) > 0), 0) else (false, two02 i a b j c d n m)
abbrev retBI (x : Bool × Int) : DV := .tup [.one (bol x.1), .one (i64 x.2)]
theorem kAhead_fnd (i a b j c d n m : Int) : FnD Try.prog 77 [pt i a b, pt j c d, rat n m] (retBI (aheadV i a b j c d n m)) := by
  refine fn_okD (by kernel_rfl) ty_okD rfl Try.func77 rfl (fun _ _ => Try.call77 _ _) rfl ?_
  intro hw
  have HT := ktwo_fnd i a b j c d n m
  unfold aheadV
  split
  · rename_i h
    obtain ⟨h1, h2, h3, h4⟩ := two02_ok h
    rw [h] at HT
    have HC := kcompare_fnd i a b j c d n m h1 h2
    simp only [ret1, retBI] at *
    generalize leadN i b j d ((a - c) * m + (b - d) * n) = l at *
    repeat' ((conv => whnf); first | (with_reducible first | refine br_t ?_ | refine br_f ?_ | refine xd (by assumption) ?_ | refine xa (by assumption) ?_ | refine xg (by assumption) rfl ?_ | refine xo (by assumption) ?_ | refine xb (by assumption) rfl ?_ | refine xm (by assumption) ?_ | refine xc (by assumption) ?_ | refine xi (HT) ?_ | refine xi (HC) ?_) | ((with_reducible refine bc_t ?_ ?_); (first | omega | decide)) | ((with_reducible refine bc_f ?_ ?_); (first | omega | decide)) | (with_reducible first | refine bc (fun h => ?_) (fun h => ?_) | refine br_t' (by assumption) ?_ | refine br_f' (by assumption) ?_ | refine br_i (fun h => ?_) (fun h => ?_)) | refine xg (by assumption) rfl ?_ | refine And.intro (by first | kernel_rfl | omega | (simp only [List.length_append, List.length_cons, List.length_nil, List.length_map, List.length_take, List.length_replicate]; omega) | decide) ?_)
    all_goals conv => whnf
    all_goals rfl
  · rename_i h
    simp only [ret1, retBI] at *
    generalize two02 i a b j c d n m = e at *
    repeat' ((conv => whnf); first | (with_reducible first | refine br_t ?_ | refine br_f ?_ | refine xd (by assumption) ?_ | refine xa (by assumption) ?_ | refine xg (by assumption) rfl ?_ | refine xo (by assumption) ?_ | refine xb (by assumption) rfl ?_ | refine xm (by assumption) ?_ | refine xc (by assumption) ?_ | refine xi (HT) ?_) | ((with_reducible refine bc_t ?_ ?_); (first | omega | decide)) | ((with_reducible refine bc_f ?_ ?_); (first | omega | decide)) | (with_reducible first | refine bc (fun h => ?_) (fun h => ?_) | refine br_t' (by assumption) ?_ | refine br_f' (by assumption) ?_ | refine br_i (fun h => ?_) (fun h => ?_)) | refine xg (by assumption) rfl ?_ | refine And.intro (by first | kernel_rfl | omega | (simp only [List.length_append, List.length_cons, List.length_nil, List.length_map, List.length_take, List.length_replicate]; omega) | decide) ?_)
    all_goals conv => whnf
    all_goals rfl
theorem kAhead_fn (i a b j c d n m : Int) : FnOK Try.prog 77 [pt i a b, pt j c d, rat n m] (retBI (aheadV i a b j c d n m)) := (kAhead_fnd i a b j c d n m).ok
end Go.Proofs.Ytjbnfoipjnkjdaa

/- Plain lemmas: fractions that are small have a place. No program is named. -/
namespace Go.Proofs.Ytjbnfoipjnkjdaa
open Go.RowKit

theorem num_mkRat_le (n : Int) (d : Nat) : (mkRat n d).num.natAbs ≤ n.natAbs := by
  rw [Rat.num_mkRat]
  split
  · simp
  · rw [Int.natAbs_ediv_of_dvd]
    · exact Nat.div_le_self _ _
    · exact Int.ofNat_dvd_left.2 (Nat.gcd_dvd_right _ _)
theorem den_mkRat_le (n : Int) (d : Nat) (h : d ≠ 0) : (mkRat n d).den ≤ d := by
  rw [Rat.den_mkRat, if_neg h]; exact Nat.div_le_self _ _
theorem qv_add {n d m e : Int} (h : 1 ≤ d) (k : 1 ≤ e) : qv n d + qv m e = qv (n * e + m * d) (d * e) := by
  unfold qv
  rw [Rat.mkRat_add_mkRat _ _ (by omega) (by omega), Int.toNat_mul (by omega) (by omega), Int.toNat_of_nonneg (by omega), Int.toNat_of_nonneg (by omega)]
theorem qv_mul {n d m e : Int} (h : 1 ≤ d) (k : 1 ≤ e) : qv n d * qv m e = qv (n * m) (d * e) := by
  unfold qv
  rw [Rat.mkRat_mul_mkRat, Int.toNat_mul (by omega) (by omega)]
theorem qv_sub {n d m e : Int} (h : 1 ≤ d) (k : 1 ≤ e) : qv n d - qv m e = qv (n * e - m * d) (d * e) := by
  rw [Rat.sub_eq_add_neg, ← qv_neg, qv_add h k]
  congr 1
  rw [Int.neg_mul, Int.sub_eq_add_neg]
theorem qv_eq {n d m e : Int} (h : 1 ≤ d) (k : 1 ≤ e) : qv n d = qv m e ↔ n * e = m * d := by
  unfold qv
  rw [Rat.mkRat_eq_iff (by omega) (by omega), Int.toNat_of_nonneg (by omega), Int.toNat_of_nonneg (by omega)]
/-- a fraction with small numbers has a place -/
theorem outQ_sm {n d : Int} (h0 : 1 ≤ d) (h1 : d ≤ 9223372036854775807) (h2 : -9223372036854775807 ≤ n) (h3 : n ≤ 9223372036854775807) :
    ∃ m e : Int, outQ (qv n d) = (m, e, 0) ∧ chk m e = 0 ∧ qv m e = qv n d ∧ 1 ≤ e ∧ e ≤ d ∧ m.natAbs ≤ n.natAbs := by
  have a := num_mkRat_le n d.toNat
  have b := den_mkRat_le n d.toNat (by omega)
  have c := (qv n d).den_pos
  refine ⟨(qv n d).num, (qv n d).den, ?_, chk_rat _ ?_, qv_rat _, ?_, ?_, a⟩
  · unfold outQ
    rw [if_pos]
    show (mkRat n d.toNat).num.natAbs ≤ _ ∧ (mkRat n d.toNat).den ≤ _
    omega
  · show (mkRat n d.toNat).num.natAbs ≤ _
    omega
  · omega
  · show ((mkRat n d.toNat).den : Int) ≤ d
    omega
theorem prod_in2 (p k a b : Int) (h0 : -a ≤ p) (h1 : p ≤ a) (k0 : -b ≤ k) (k1 : k ≤ b) : -(a * b) ≤ p * k ∧ p * k ≤ a * b := by
  have : (p * k).natAbs ≤ a.natAbs * b.natAbs := by rw [Int.natAbs_mul]; exact Nat.mul_le_mul (by omega) (by omega)
  have e : a * b = ((a.natAbs * b.natAbs : Nat) : Int) := by rw [Int.natCast_mul, Int.natAbs_of_nonneg (by omega), Int.natAbs_of_nonneg (by omega)]
  omega
end Go.Proofs.Ytjbnfoipjnkjdaa



/- What layer 2 computes: meetings and failure times. No conditions. -/
namespace Go.Proofs.Ytjbnfoipjnkjdaa
open Go.RowKit Go.Sort Sx

theorem makeV_neg (n d : Int) (hd : d ≠ 0) : makeV (-n) (-d) = makeV n d := by
  unfold makeV
  rw [if_neg (by omega), if_neg hd, Int.natAbs_neg, Int.natAbs_neg]
  by_cases hn : n = 0
  · subst hn
    exact (by simpa using buildN_zero _ _ _)
  · congr 1
    by_cases h1 : n < 0 <;> by_cases h2 : d < 0
    all_goals
      first | rw [decide_eq_true h1] | rw [decide_eq_false h1]
      first | rw [decide_eq_true h2] | rw [decide_eq_false h2]
      first | rw [decide_eq_true (show -n < 0 by omega)] | rw [decide_eq_false (show ¬ -n < 0 by omega)]
      first | rw [decide_eq_true (show -d < 0 by omega)] | rw [decide_eq_false (show ¬ -d < 0 by omega)]
      rfl
theorem makeV_q (n d : Int) (hd : 0 < d) : makeV n d = outQ (qv n d) := by
  unfold makeV
  rw [if_neg (by omega)]
  have e1 : (qv n d).num = n / (Nat.gcd n.natAbs d.natAbs : Nat) := by
    unfold qv
    rw [Rat.num_mkRat, if_neg (by omega), show d.toNat = d.natAbs by omega, Nat.gcd_comm]
  have e2 : (qv n d).den = d.natAbs / Nat.gcd n.natAbs d.natAbs := by
    unfold qv
    rw [Rat.den_mkRat, if_neg (by omega), show d.toNat = d.natAbs by omega, Nat.gcd_comm]
  have hg : 0 < Nat.gcd n.natAbs d.natAbs := Nat.gcd_pos_of_pos_right _ (by omega)
  have hdv : ((Nat.gcd n.natAbs d.natAbs : Nat) : Int) ∣ n := by
    rw [← Int.dvd_natAbs, Int.ofNat_dvd]; exact Nat.gcd_dvd_left _ _
  refine build_q _ _ _ _ e2.symm ?_ ?_
  · rw [e1, Int.natAbs_ediv_of_dvd hdv]; simp
  · intro hne
    rw [e1] at hne ⊢
    have hG : (0 : Int) < ((Nat.gcd n.natAbs d.natAbs : Nat) : Int) := by omega
    clear hg e1 e2
    generalize ((Nat.gcd n.natAbs d.natAbs : Nat) : Int) = G at *
    obtain ⟨k, rfl⟩ := hdv
    rw [Int.mul_ediv_cancel_left _ (by omega)] at hne ⊢
    rw [decide_eq_false (show ¬ d < 0 by omega)]
    rcases (show k < 0 ∨ 0 < k by omega) with hk | hk
    · have := Int.mul_neg_of_pos_of_neg hG hk
      rw [decide_eq_true hk, decide_eq_true this]; rfl
    · have := Int.mul_pos hG hk
      rw [decide_eq_false (show ¬ k < 0 by omega), decide_eq_false (show ¬ G * k < 0 by omega)]; rfl
theorem qv_neg2 (n d : Int) (h : d < 0) : makeV n d = outQ (qv (-n) (-d)) := by
  rw [← makeV_neg n d (by omega), makeV_q _ _ (by omega)]
/-- the meeting of two points with small differences has a place -/
theorem met_ok {x y : Int} (hy : y ≠ 0) (x0 : -2097152 ≤ x) (x1 : x ≤ 2097152) (y0 : -2097152 ≤ y) (y1 : y ≤ 2097152) :
    ∃ n d, makeV x y = (n, d, 0) ∧ chk n d = 0 ∧ 1 ≤ d ∧ d ≤ 2097152 ∧ -2097152 ≤ n ∧ n ≤ 2097152 ∧ n * y = x * d := by
  rcases (show 0 < y ∨ y < 0 by omega) with h | h
  · obtain ⟨n, d, e, c, q, d1, d2, n1⟩ := outQ_sm (n := x) (d := y) (by omega) (by omega) (by omega) (by omega)
    refine ⟨n, d, by rw [makeV_q _ _ h, e], c, by omega, by omega, by omega, by omega, ?_⟩
    exact (qv_eq (by omega) (by omega)).1 q
  · obtain ⟨n, d, e, c, q, d1, d2, n1⟩ := outQ_sm (n := -x) (d := -y) (by omega) (by omega) (by omega) (by omega)
    refine ⟨n, d, by rw [qv_neg2 _ _ h, e], c, by omega, by omega, by omega, by omega, ?_⟩
    have := (qv_eq (by omega) (by omega)).1 q
    rw [Int.mul_neg, Int.neg_mul] at this
    omega
/-- the meeting, at any arguments -/
def meetV (i a b j c d : Int) : Int × Int × Int := if two02 i a b j c d 0 1 = 0 then (if b = d then (0, 0, 6) else makeV (a - c) (d - b)) else (0, 0, two02 i a b j c d 0 1)
theorem meet_e {i a b j c d : Int} (h1 : cpt i a b = 0) (h2 : cpt j c d = 0) (h : b ≠ d) : ∃ n m, makeV (a - c) (d - b) = (n, m, 0) ∧ chk n m = 0 ∧ 1 ≤ m ∧ m ≤ 2097152 ∧ -2097152 ≤ n ∧ n ≤ 2097152 ∧ n * (d - b) = (a - c) * m := by
  have g1 := cpt_ok h1
  have g2 := cpt_ok h2
  exact met_ok (by omega) (by omega) (by omega) (by omega) (by omega)
theorem two02_01 {i a b j c d n m : Int} (h : two02 i a b j c d n m = 0) : two02 i a b j c d 0 1 = 0 := by
  obtain ⟨h1, h2, h3, h4⟩ := two02_ok h
  unfold two02
  rw [if_pos ⟨h1, h2, rfl⟩, if_neg h4]
/-- the failure time, at any arguments -/
def failsV (i a b j c d n m : Int) : Int × Int × Bool × Int :=
  if two02 i a b j c d n m = 0 then
    (if leadN j d i b ((c - a) * m + (d - b) * n) > 0 then (n, m, true, 0) else if d ≤ b then (0, 0, false, 0) else ((makeV (a - c) (d - b)).1, (makeV (a - c) (d - b)).2.1, true, 0))
  else (0, 0, false, two02 i a b j c d n m)
abbrev retF (x : Int × Int × Bool × Int) : DV := .tup [.agg [i64 x.1, i64 x.2.1], .one (bol x.2.2.1), .one (i64 x.2.2.2)]
end Go.Proofs.Ytjbnfoipjnkjdaa



/- What layer 2 computes: places. No conditions. -/
namespace Go.Proofs.Ytjbnfoipjnkjdaa
open Go.RowKit Go.Sort Sx

theorem mod_hi (m y : Nat) (hy : 0 < y) : (m / 18446744073709551616 % y * 18446744073709551616 + m % 18446744073709551616) % y = m % y := by
  conv => rhs; rw [← Nat.div_add_mod m 18446744073709551616]
  rw [Nat.mul_comm 18446744073709551616, Nat.add_mod, Nat.mul_mod, Nat.mod_mod, ← Nat.mul_mod, ← Nat.add_mod]
theorem gcd_of_mod (M d : Nat) : Nat.gcd d (M % d) = Nat.gcd M d := by rw [Nat.gcd_comm M, Nat.gcd_rec d M, Nat.gcd_comm]
theorem over_q (S : Int) (d : Nat) (hd : 0 < d) : outQ (qv S d) = buildN (decide (S < 0)) (S.natAbs / Nat.gcd S.natAbs d) (d / Nat.gcd S.natAbs d) := by
  have h := makeV_q S d (by omega)
  rw [← h]
  unfold makeV
  rw [if_neg (by omega), decide_eq_false (show ¬ (d : Int) < 0 by omega), Int.natAbs_natCast]
  cases decide (S < 0) <;> rfl
theorem div_parts (m g : Nat) (h : 0 < g) : m / g = m / 18446744073709551616 / g * 18446744073709551616 + (m / 18446744073709551616 % g * 18446744073709551616 + m % 18446744073709551616) / g ∧ (m / 18446744073709551616 % g * 18446744073709551616 + m % 18446744073709551616) / g < 18446744073709551616 := by
  constructor
  · have e1 := Nat.div_add_mod m 18446744073709551616
    have e2 := Nat.div_add_mod (m / 18446744073709551616) g
    generalize m / 18446744073709551616 = a at *
    generalize m % 18446744073709551616 = b at *
    have : m = g * (a / g * 18446744073709551616) + (a % g * 18446744073709551616 + b) := by
      rw [← Nat.mul_assoc]
      generalize g * (a / g) = x at *
      omega
    rw [this, Nat.mul_add_div h]
  · refine Nat.div_lt_of_lt_mul ?_
    have h1 : m / 18446744073709551616 % g < g := Nat.mod_lt _ h
    have : (m / 18446744073709551616 % g + 1) * 18446744073709551616 ≤ g * 18446744073709551616 := Nat.mul_le_mul_right _ h1
    omega
theorem tup_eq {a b c a' b' c' : Int} (h1 : a = a') (h2 : b = b') (h3 : c = c') : DV.tup [.agg [i64 a, i64 b], .one (i64 c)] = .tup [.agg [i64 a', i64 b'], .one (i64 c')] := by rw [h1, h2, h3]
/-- a place, at any arguments -/
def atV (i a b n m : Int) : Int × Int × Int := if cpt i a b = 0 ∧ chk n m = 0 then outQ (qv (a * m + b * n) m) else (0, 0, 8)
end Go.Proofs.Ytjbnfoipjnkjdaa



/- What the reference of layer 2 computes: places. No conditions. -/
namespace Go.Proofs.Ytjbnfoipjnkjdaa
open Go.RowKit Go.Sort Sx

theorem rcommon_fn (a b : Nat) : FnOK Try.prog 74 [.one (u64 a), .one (u64 b)] (.c (.one (u64 (Nat.gcd a b : Nat)))) := by
  refine fn_of_calls (fun _ _ => Try.call74 _ _) rfl rfl (fun h => ?_) (fun h w => ?_)
  all_goals simp only [WDCs, WDC, wd_u64] at h
  · simp only [WDV, WDCs, WDC, wd_u64, and_true]
    rcases Nat.eq_zero_or_pos a with h0 | h0
    · subst h0; rw [Nat.gcd_zero_left]; omega
    · have := Nat.gcd_le_left b h0; omega
  · exact rcommon_any a b w
abbrev bigN (m : Nat) : DC := .agg [bol false, u64 ((m / 18446744073709551616 : Nat) : Int), u64 ((m % 18446744073709551616 : Nat) : Int)]
theorem chk_one {a : Int} (h : a ≠ -9223372036854775808) : chk a 1 = 0 := (chk_iff a 1).2 ⟨by omega, h, by show Nat.gcd _ 1 = 1; exact Nat.gcd_one_right _⟩
theorem place_q (a b n d : Int) (hd : 1 ≤ d) : qv a 1 + qv b 1 * qv n d = qv (a * d + b * n) d := by
  rw [qv_mul (by omega) hd, Int.one_mul, qv_add (by omega) hd, Int.one_mul, Int.mul_one]
end Go.Proofs.Ytjbnfoipjnkjdaa




/- Fields, layer 3: data, checks, comparing. No conditions. -/
namespace Go.Proofs.Ytjbnfoipjnkjdaa
open Go.RowKit Go.Sort Sx

/-- a point -/
structure Pt where
  id : Int
  a : Int
  b : Int
  deriving DecidableEq, Inhabited
def Pt.c (p : Pt) : List D := [i64 p.id, i64 p.a, i64 p.b]
abbrev Pt.dc (p : Pt) : DC := pt p.id p.a p.b
abbrev pts (l : List Pt) : D := .list 3 (l.map Pt.c)
abbrev fld (l : List Pt) : DC := .agg [pts l]
def Pt.chk (p : Pt) : Int := cpt p.id p.a p.b
/-- IDs in increasing order -/
def incr : List Pt → Bool
  | p :: q :: l => decide (p.id < q.id) && incr (q :: l)
  | _ => true
def fchk (l : List Pt) : Int := if 64 < l.length then 4 else if l.all (fun p => p.chk == 0) then (if incr l then 0 else 32) else 8

theorem Pt.chk_08 (p : Pt) : p.chk = 0 ∨ p.chk = 8 := cpt_08 p.id p.a p.b
theorem pts_get {l : List Pt} {i : Nat} (h : i < l.length) : (l.map Pt.c)[((i : Nat) : Int).toNat]? = some [i64 l[i].id, i64 l[i].a, i64 l[i].b] := by
  rw [Int.toNat_natCast, List.getElem?_map, List.getElem?_eq_getElem h]; rfl
theorem pts_get' {l : List Pt} {i : Nat} {j : Int} (h : i < l.length) (e : j.toNat = i) : (l.map Pt.c)[j.toNat]? = some [i64 l[i].id, i64 l[i].a, i64 l[i].b] := by
  rw [e, List.getElem?_map, List.getElem?_eq_getElem h]; rfl
theorem wd_pts {l : List Pt} (h : WD (pts l)) : l.length ≤ 9223372036854775807 ∧ ∀ p ∈ l, (-9223372036854775808 ≤ p.id ∧ p.id ≤ 9223372036854775807) ∧ (-9223372036854775808 ≤ p.a ∧ p.a ≤ 9223372036854775807) ∧ (-9223372036854775808 ≤ p.b ∧ p.b ≤ 9223372036854775807) := by
  obtain ⟨h1, _, h3⟩ := WD_list.1 h
  refine ⟨by simpa using h1, fun p hp => ?_⟩
  have h4 := h3 p.c (List.mem_map_of_mem hp)
  exact ⟨wd_i64.1 (h4 _ (by simp [Pt.c])), wd_i64.1 (h4 _ (by simp [Pt.c])), wd_i64.1 (h4 _ (by simp [Pt.c]))⟩
theorem all_take_succ {l : List Pt} {f : Pt → Bool} {i : Nat} (h : i < l.length) : (l.take (i + 1)).all f = ((l.take i).all f && f l[i]) := by
  rw [List.take_succ_eq_append_getElem h, List.all_append]; simp
theorem incr_iff : ∀ {l : List Pt}, incr l = true ↔ ∀ i (h : i + 1 < l.length), l[i].id < l[i + 1].id
  | [] => by simp [incr]
  | [p] => by simp [incr]
  | p :: q :: l => by
    rw [incr, Bool.and_eq_true, decide_eq_true_eq, incr_iff]
    constructor
    · rintro ⟨h1, h2⟩ i h
      cases i with
      | zero => exact h1
      | succ i => exact h2 i (by simpa using h)
    · exact fun h => ⟨h 0 (by simp), fun i hi => h (i + 1) (by simpa using hi)⟩

theorem fCheck_fn (l : List Pt) : FnOK Try.prog 36 [fld l] (ret1 (fchk l)) := by
  refine fn_ok (by kernel_rfl) ty_ok Try.func36 rfl (fun _ _ => Try.call36 _ _) rfl ?_
  intro hw
  simp only [WDCs, WDC, WDs] at hw
  obtain ⟨w1, w2⟩ := wd_pts hw.1.1
  repeat' ((conv => whnf); first | (with_reducible first | refine br_t ?_ | refine br_f ?_ | refine xa (by assumption) ?_ | refine xg (by assumption) rfl ?_ | refine xo (by assumption) ?_ | refine xb (by assumption) rfl ?_ | refine xm (by assumption) ?_ | refine xc (by assumption) ?_) | rw [List.length_map] | ((with_reducible refine bc_t ?_ ?_); (first | omega | decide)) | ((with_reducible refine bc_f ?_ ?_); (first | omega | decide)) | (with_reducible first | refine bc (fun h => ?_) (fun h => ?_) | refine br_t' (by assumption) ?_ | refine br_f' (by assumption) ?_ | refine br_i (fun h => ?_) (fun h => ?_)) | refine xg (by assumption) rfl ?_ | refine And.intro (by first | kernel_rfl | omega | (simp only [List.length_append, List.length_cons, List.length_nil, List.length_map, List.length_take, List.length_replicate]; omega) | decide) ?_)
  · conv => whnf
    unfold fchk
    rw [if_pos (by omega)]
  unfold fchk
  rw [if_neg (by omega)]
  refine loop_J (by kernel_rfl) ty_ok (σ := Nat) (fun i => [(15, sV (.int .i64 i))]) (fun _ => []) (fun i => i ≤ l.length ∧ (l.take i).all (fun p => p.chk == 0) = true) (fun i => l.length - i) 0 ⟨by omega, by simp⟩ ?_ ?_
  · (conv => whnf); refine ⟨by repeat' (first | with_reducible exact zE0 | with_reducible refine zE1 ?_ ?_ | rfl | assumption | (refine ent_i ?_; (first | omega | (rw [IntWalk.i64_in _ (by omega)]; omega) | (simp; done))) | (refine ent_b ?_; (first | omega | (rw [IntWalk.i64_in _ (by omega)]; omega) | (simp; done)))), by repeat' (first | with_reducible exact zH0 | with_reducible refine zH1 ?_ ?_ | rfl | assumption), rfl⟩
  rintro i ⟨hi, hI⟩
  rcases Nat.lt_or_ge i l.length with hlt | hge
  · have hel := pts_get hlt
    have HC := kCheck_fn l[i].id l[i].a l[i].b
    rcases Pt.chk_08 l[i] with hc | hc
    · unfold Pt.chk at hc
      rw [hc] at HC
      repeat' ((conv => whnf); first | (with_reducible first | refine br_t ?_ | refine br_f ?_ | refine xa (by assumption) ?_ | refine xg (by assumption) rfl ?_ | refine xo (by assumption) ?_ | refine xb (by assumption) rfl ?_ | refine xm (by assumption) ?_ | refine xc (by assumption) ?_ | refine xi (HC) ?_) | rw [List.length_map] | ((with_reducible refine bc_t ?_ ?_); (first | omega | decide)) | ((with_reducible refine bc_f ?_ ?_); (first | omega | decide)) | (with_reducible first | refine bc (fun h => ?_) (fun h => ?_) | refine br_t' (by assumption) ?_ | refine br_f' (by assumption) ?_ | refine br_i (fun h => ?_) (fun h => ?_)) | refine xg (by assumption) rfl ?_ | refine And.intro (by first | kernel_rfl | omega | (simp only [List.length_append, List.length_cons, List.length_nil, List.length_map, List.length_take, List.length_replicate]; omega) | decide) ?_)
      all_goals conv => whnf
      refine ⟨i + 1, ⟨by omega, ?_⟩, ?_, by omega⟩
      · rw [all_take_succ hlt, hI]; simp [Pt.chk, hc]
      · (conv => whnf); refine ⟨by repeat' (first | with_reducible exact zE0 | with_reducible refine zE1 ?_ ?_ | rfl | assumption | (refine ent_i ?_; (first | omega | (rw [IntWalk.i64_in _ (by omega)]; omega) | (simp; done))) | (refine ent_b ?_; (first | omega | (rw [IntWalk.i64_in _ (by omega)]; omega) | (simp; done)))), by repeat' (first | with_reducible exact zH0 | with_reducible refine zH1 ?_ ?_ | rfl | assumption), rfl⟩
    · have hn : l.all (fun p => p.chk == 0) = false := by
        rw [Bool.eq_false_iff]
        intro h
        have := List.all_eq_true.1 h l[i] (List.getElem_mem hlt)
        rw [hc] at this; simp at this
      unfold Pt.chk at hc
      rw [hc] at HC
      repeat' ((conv => whnf); first | (with_reducible first | refine br_t ?_ | refine br_f ?_ | refine xa (by assumption) ?_ | refine xg (by assumption) rfl ?_ | refine xo (by assumption) ?_ | refine xb (by assumption) rfl ?_ | refine xm (by assumption) ?_ | refine xc (by assumption) ?_ | refine xi (HC) ?_) | rw [List.length_map] | ((with_reducible refine bc_t ?_ ?_); (first | omega | decide)) | ((with_reducible refine bc_f ?_ ?_); (first | omega | decide)) | (with_reducible first | refine bc (fun h => ?_) (fun h => ?_) | refine br_t' (by assumption) ?_ | refine br_f' (by assumption) ?_ | refine br_i (fun h => ?_) (fun h => ?_)) | refine xg (by assumption) rfl ?_ | refine And.intro (by first | kernel_rfl | omega | (simp only [List.length_append, List.length_cons, List.length_nil, List.length_map, List.length_take, List.length_replicate]; omega) | decide) ?_)
      all_goals conv => whnf
      rw [hn]; rfl
  · have hall : l.all (fun p => p.chk == 0) = true := by rw [List.take_of_length_le hge] at hI; exact hI
    rw [hall, if_pos rfl]
    repeat' ((conv => whnf); first | (with_reducible first | refine br_t ?_ | refine br_f ?_ | refine xa (by assumption) ?_ | refine xg (by assumption) rfl ?_ | refine xo (by assumption) ?_ | refine xb (by assumption) rfl ?_ | refine xm (by assumption) ?_ | refine xc (by assumption) ?_) | rw [List.length_map] | ((with_reducible refine bc_t ?_ ?_); (first | omega | decide)) | ((with_reducible refine bc_f ?_ ?_); (first | omega | decide)) | (with_reducible first | refine bc (fun h => ?_) (fun h => ?_) | refine br_t' (by assumption) ?_ | refine br_f' (by assumption) ?_ | refine br_i (fun h => ?_) (fun h => ?_)) | refine xg (by assumption) rfl ?_ | refine And.intro (by first | kernel_rfl | omega | (simp only [List.length_append, List.length_cons, List.length_nil, List.length_map, List.length_take, List.length_replicate]; omega) | decide) ?_)
    refine loop_J (by kernel_rfl) ty_ok (σ := Nat) (fun i => [(28, sV (.int .i64 i))]) (fun _ => []) (fun i => i ≤ l.length ∧ ∀ j (h : j + 1 < l.length), j + 1 < i → l[j].id < l[j + 1].id) (fun i => l.length - i) 0 ⟨by omega, fun j _ h => by omega⟩ ?_ ?_
    · (conv => whnf); refine ⟨by repeat' (first | with_reducible exact zE0 | with_reducible refine zE1 ?_ ?_ | rfl | assumption | (refine ent_i ?_; (first | omega | (rw [IntWalk.i64_in _ (by omega)]; omega) | (simp; done))) | (refine ent_b ?_; (first | omega | (rw [IntWalk.i64_in _ (by omega)]; omega) | (simp; done)))), by repeat' (first | with_reducible exact zH0 | with_reducible refine zH1 ?_ ?_ | rfl | assumption), rfl⟩
    rintro j ⟨hj, hJ⟩
    rcases Nat.lt_or_ge j l.length with hjlt | hjge
    · have hel := pts_get hjlt
      rcases Nat.eq_zero_or_pos j with h0 | h0
      · subst h0
        repeat' ((conv => whnf); first | (with_reducible first | refine br_t ?_ | refine br_f ?_ | refine xa (by assumption) ?_ | refine xg (by assumption) rfl ?_ | refine xo (by assumption) ?_ | refine xb (by assumption) rfl ?_ | refine xm (by assumption) ?_ | refine xc (by assumption) ?_) | rw [List.length_map] | ((with_reducible refine bc_t ?_ ?_); (first | omega | decide)) | ((with_reducible refine bc_f ?_ ?_); (first | omega | decide)) | (with_reducible first | refine bc (fun h => ?_) (fun h => ?_) | refine br_t' (by assumption) ?_ | refine br_f' (by assumption) ?_ | refine br_i (fun h => ?_) (fun h => ?_)) | refine xg (by assumption) rfl ?_ | refine And.intro (by first | kernel_rfl | omega | (simp only [List.length_append, List.length_cons, List.length_nil, List.length_map, List.length_take, List.length_replicate]; omega) | decide) ?_)
        all_goals conv => whnf
        refine ⟨1, ⟨by omega, fun k _ h => by omega⟩, ?_, by omega⟩
        (conv => whnf); refine ⟨by repeat' (first | with_reducible exact zE0 | with_reducible refine zE1 ?_ ?_ | rfl | assumption | (refine ent_i ?_; (first | omega | (rw [IntWalk.i64_in _ (by omega)]; omega) | (simp; done))) | (refine ent_b ?_; (first | omega | (rw [IntWalk.i64_in _ (by omega)]; omega) | (simp; done)))), by repeat' (first | with_reducible exact zH0 | with_reducible refine zH1 ?_ ?_ | rfl | assumption), rfl⟩
      · have hel2 := pts_get' (l := l) (i := j - 1) (j := IntKind.i64.wrap ((j : Int) - 1)) (by omega) (by rw [IntWalk.i64_in _ (by omega)]; omega)
        have hw1 : IntKind.i64.wrap ((j : Int) - 1) = ((j - 1 : Nat) : Int) := by rw [IntWalk.i64_in _ (by omega)]; omega
        repeat' ((conv => whnf); first | (with_reducible first | refine br_t ?_ | refine br_f ?_ | refine xa (by assumption) ?_ | refine xg (by assumption) rfl ?_ | refine xo (by assumption) ?_ | refine xb (by assumption) rfl ?_ | refine xm (by assumption) ?_ | refine xc (by assumption) ?_) | rw [List.length_map] | refine And.intro (by rw [hw1]; omega) ?_ | ((with_reducible refine bc_t ?_ ?_); (first | omega | decide)) | ((with_reducible refine bc_f ?_ ?_); (first | omega | decide)) | (with_reducible first | refine bc (fun h => ?_) (fun h => ?_) | refine br_t' (by assumption) ?_ | refine br_f' (by assumption) ?_ | refine br_i (fun h => ?_) (fun h => ?_)) | refine xg (by assumption) rfl ?_ | refine And.intro (by first | kernel_rfl | omega | (simp only [List.length_append, List.length_cons, List.length_nil, List.length_map, List.length_take, List.length_replicate]; omega) | decide) ?_)
        all_goals conv => whnf
        · rename_i h
          have hf : incr l = false := by
            rw [Bool.eq_false_iff, ne_eq, incr_iff]
            intro hh
            have := hh (j - 1) (by omega)
            rw [show l[j - 1 + 1]'(by omega) = l[j] from getElem_congr rfl (by omega) _] at this
            omega
          rw [hf]; rfl
        · rename_i h
          refine ⟨j + 1, ⟨by omega, fun k hk hk2 => ?_⟩, ?_, by omega⟩
          · rcases Nat.lt_or_ge (k + 1) j with h1 | h1
            · exact hJ k hk h1
            · have e : k = j - 1 := by omega
              subst e
              rw [show l[j - 1 + 1]'hk = l[j] from getElem_congr rfl (by omega) _]
              omega
          · (conv => whnf); refine ⟨by repeat' (first | with_reducible exact zE0 | with_reducible refine zE1 ?_ ?_ | rfl | assumption | (refine ent_i ?_; (first | omega | (rw [IntWalk.i64_in _ (by omega)]; omega) | (simp; done))) | (refine ent_b ?_; (first | omega | (rw [IntWalk.i64_in _ (by omega)]; omega) | (simp; done)))), by repeat' (first | with_reducible exact zH0 | with_reducible refine zH1 ?_ ?_ | rfl | assumption), rfl⟩
    · have ht : incr l = true := incr_iff.2 fun k hk => hJ k hk (by omega)
      repeat' ((conv => whnf); first | (with_reducible first | refine br_t ?_ | refine br_f ?_ | refine xa (by assumption) ?_ | refine xg (by assumption) rfl ?_ | refine xo (by assumption) ?_ | refine xb (by assumption) rfl ?_ | refine xm (by assumption) ?_ | refine xc (by assumption) ?_) | rw [List.length_map] | ((with_reducible refine bc_t ?_ ?_); (first | omega | decide)) | ((with_reducible refine bc_f ?_ ?_); (first | omega | decide)) | (with_reducible first | refine bc (fun h => ?_) (fun h => ?_) | refine br_t' (by assumption) ?_ | refine br_f' (by assumption) ?_ | refine br_i (fun h => ?_) (fun h => ?_)) | refine xg (by assumption) rfl ?_ | refine And.intro (by first | kernel_rfl | omega | (simp only [List.length_append, List.length_cons, List.length_nil, List.length_map, List.length_take, List.length_replicate]; omega) | decide) ?_)
      all_goals conv => whnf
      all_goals
        rw [ht]; rfl

theorem rfCheck_fn (l : List Pt) : FnOK Try.prog 38 [fld l] (ret1 (fchk l)) := by
  refine fn_ok (by kernel_rfl) ty_ok Try.func38 rfl (fun _ _ => Try.call38 _ _) rfl ?_
  intro hw
  simp only [WDCs, WDC, WDs] at hw
  obtain ⟨w1, w2⟩ := wd_pts hw.1.1
  repeat' ((conv => whnf); first | (with_reducible first | refine br_t ?_ | refine br_f ?_ | refine xa (by assumption) ?_ | refine xg (by assumption) rfl ?_ | refine xo (by assumption) ?_ | refine xb (by assumption) rfl ?_ | refine xm (by assumption) ?_ | refine xc (by assumption) ?_) | rw [List.length_map] | ((with_reducible refine bc_t ?_ ?_); (first | omega | decide)) | ((with_reducible refine bc_f ?_ ?_); (first | omega | decide)) | (with_reducible first | refine bc (fun h => ?_) (fun h => ?_) | refine br_t' (by assumption) ?_ | refine br_f' (by assumption) ?_ | refine br_i (fun h => ?_) (fun h => ?_)) | refine xg (by assumption) rfl ?_ | refine And.intro (by first | kernel_rfl | omega | (simp only [List.length_append, List.length_cons, List.length_nil, List.length_map, List.length_take, List.length_replicate]; omega) | decide) ?_)
  · conv => whnf
    unfold fchk
    rw [if_pos (by omega)]
  unfold fchk
  rw [if_neg (by omega)]
  refine loop_J (by kernel_rfl) ty_ok (σ := Nat) (fun i => [(3, sV (.int .i64 i))]) (fun _ => []) (fun i => i ≤ l.length ∧ (l.take i).all (fun p => p.chk == 0) = true) (fun i => l.length - i) 0 ⟨by omega, by simp⟩ ?_ ?_
  · (conv => whnf); refine ⟨by repeat' (first | with_reducible exact zE0 | with_reducible refine zE1 ?_ ?_ | rfl | assumption | (refine ent_i ?_; (first | omega | (rw [IntWalk.i64_in _ (by omega)]; omega) | (simp; done))) | (refine ent_b ?_; (first | omega | (rw [IntWalk.i64_in _ (by omega)]; omega) | (simp; done)))), by repeat' (first | with_reducible exact zH0 | with_reducible refine zH1 ?_ ?_ | rfl | assumption), rfl⟩
  rintro i ⟨hi, hI⟩
  rcases Nat.lt_or_ge i l.length with hlt | hge
  · have hel := pts_get hlt
    have HC := kkCheck_fn l[i].id l[i].a l[i].b
    rcases Pt.chk_08 l[i] with hc | hc
    · unfold Pt.chk at hc
      rw [hc] at HC
      repeat' ((conv => whnf); first | (with_reducible first | refine br_t ?_ | refine br_f ?_ | refine xa (by assumption) ?_ | refine xg (by assumption) rfl ?_ | refine xo (by assumption) ?_ | refine xb (by assumption) rfl ?_ | refine xm (by assumption) ?_ | refine xc (by assumption) ?_ | refine xi (HC) ?_) | rw [List.length_map] | ((with_reducible refine bc_t ?_ ?_); (first | omega | decide)) | ((with_reducible refine bc_f ?_ ?_); (first | omega | decide)) | (with_reducible first | refine bc (fun h => ?_) (fun h => ?_) | refine br_t' (by assumption) ?_ | refine br_f' (by assumption) ?_ | refine br_i (fun h => ?_) (fun h => ?_)) | refine xg (by assumption) rfl ?_ | refine And.intro (by first | kernel_rfl | omega | (simp only [List.length_append, List.length_cons, List.length_nil, List.length_map, List.length_take, List.length_replicate]; omega) | decide) ?_)
      all_goals conv => whnf
      refine ⟨i + 1, ⟨by omega, ?_⟩, ?_, by omega⟩
      · rw [all_take_succ hlt, hI]; simp [Pt.chk, hc]
      · (conv => whnf); refine ⟨by repeat' (first | with_reducible exact zE0 | with_reducible refine zE1 ?_ ?_ | rfl | assumption | (refine ent_i ?_; (first | omega | (rw [IntWalk.i64_in _ (by omega)]; omega) | (simp; done))) | (refine ent_b ?_; (first | omega | (rw [IntWalk.i64_in _ (by omega)]; omega) | (simp; done)))), by repeat' (first | with_reducible exact zH0 | with_reducible refine zH1 ?_ ?_ | rfl | assumption), rfl⟩
    · have hn : l.all (fun p => p.chk == 0) = false := by
        rw [Bool.eq_false_iff]
        intro h
        have := List.all_eq_true.1 h l[i] (List.getElem_mem hlt)
        rw [hc] at this; simp at this
      unfold Pt.chk at hc
      rw [hc] at HC
      repeat' ((conv => whnf); first | (with_reducible first | refine br_t ?_ | refine br_f ?_ | refine xa (by assumption) ?_ | refine xg (by assumption) rfl ?_ | refine xo (by assumption) ?_ | refine xb (by assumption) rfl ?_ | refine xm (by assumption) ?_ | refine xc (by assumption) ?_ | refine xi (HC) ?_) | rw [List.length_map] | ((with_reducible refine bc_t ?_ ?_); (first | omega | decide)) | ((with_reducible refine bc_f ?_ ?_); (first | omega | decide)) | (with_reducible first | refine bc (fun h => ?_) (fun h => ?_) | refine br_t' (by assumption) ?_ | refine br_f' (by assumption) ?_ | refine br_i (fun h => ?_) (fun h => ?_)) | refine xg (by assumption) rfl ?_ | refine And.intro (by first | kernel_rfl | omega | (simp only [List.length_append, List.length_cons, List.length_nil, List.length_map, List.length_take, List.length_replicate]; omega) | decide) ?_)
      all_goals conv => whnf
      rw [hn]; rfl
  · have hall : l.all (fun p => p.chk == 0) = true := by rw [List.take_of_length_le hge] at hI; exact hI
    rw [hall, if_pos rfl]
    repeat' ((conv => whnf); first | (with_reducible first | refine br_t ?_ | refine br_f ?_ | refine xa (by assumption) ?_ | refine xg (by assumption) rfl ?_ | refine xo (by assumption) ?_ | refine xb (by assumption) rfl ?_ | refine xm (by assumption) ?_ | refine xc (by assumption) ?_) | rw [List.length_map] | ((with_reducible refine bc_t ?_ ?_); (first | omega | decide)) | ((with_reducible refine bc_f ?_ ?_); (first | omega | decide)) | (with_reducible first | refine bc (fun h => ?_) (fun h => ?_) | refine br_t' (by assumption) ?_ | refine br_f' (by assumption) ?_ | refine br_i (fun h => ?_) (fun h => ?_)) | refine xg (by assumption) rfl ?_ | refine And.intro (by first | kernel_rfl | omega | (simp only [List.length_append, List.length_cons, List.length_nil, List.length_map, List.length_take, List.length_replicate]; omega) | decide) ?_)
    refine loop_J (by kernel_rfl) ty_ok (σ := Nat) (fun i => [(4, sV (.int .i64 ((i + 1 : Nat) : Int)))]) (fun _ => []) (fun i => i ≤ l.length ∧ ∀ j (h : j + 1 < l.length), j < i → l[j].id < l[j + 1].id) (fun i => l.length - i) 0 ⟨by omega, fun j _ h => by omega⟩ ?_ ?_
    · (conv => whnf); refine ⟨by repeat' (first | with_reducible exact zE0 | with_reducible refine zE1 ?_ ?_ | rfl | assumption | (refine ent_i ?_; (first | omega | (rw [IntWalk.i64_in _ (by omega)]; omega) | (simp; done))) | (refine ent_b ?_; (first | omega | (rw [IntWalk.i64_in _ (by omega)]; omega) | (simp; done)))), by repeat' (first | with_reducible exact zH0 | with_reducible refine zH1 ?_ ?_ | rfl | assumption), rfl⟩
    rintro j ⟨hj, hJ⟩
    rcases Nat.lt_or_ge (j + 1) l.length with hjlt | hjge
    · have hel := pts_get hjlt
      have hel2 := pts_get' (l := l) (i := j) (j := IntKind.i64.wrap (((j + 1 : Nat) : Int) - 1)) (by omega) (by rw [IntWalk.i64_in _ (by omega)]; omega)
      have hw1 : IntKind.i64.wrap (((j + 1 : Nat) : Int) - 1) = (j : Int) := by rw [IntWalk.i64_in _ (by omega)]; omega
      repeat' ((conv => whnf); first | (with_reducible first | refine br_t ?_ | refine br_f ?_ | refine xa (by assumption) ?_ | refine xg (by assumption) rfl ?_ | refine xo (by assumption) ?_ | refine xb (by assumption) rfl ?_ | refine xm (by assumption) ?_ | refine xc (by assumption) ?_) | rw [List.length_map] | refine And.intro (by rw [hw1]; omega) ?_ | ((with_reducible refine bc_t ?_ ?_); (first | omega | decide)) | ((with_reducible refine bc_f ?_ ?_); (first | omega | decide)) | (with_reducible first | refine bc (fun h => ?_) (fun h => ?_) | refine br_t' (by assumption) ?_ | refine br_f' (by assumption) ?_ | refine br_i (fun h => ?_) (fun h => ?_)) | refine xg (by assumption) rfl ?_ | refine And.intro (by first | kernel_rfl | omega | (simp only [List.length_append, List.length_cons, List.length_nil, List.length_map, List.length_take, List.length_replicate]; omega) | decide) ?_)
      all_goals conv => whnf
      · rename_i h
        have hf : incr l = false := by
          rw [Bool.eq_false_iff, ne_eq, incr_iff]
          intro hh
          have := hh j (by omega)
          omega
        rw [hf]; rfl
      · rename_i h
        refine ⟨j + 1, ⟨by omega, fun k hk hk2 => ?_⟩, ?_, by omega⟩
        · rcases Nat.lt_or_ge k j with h1 | h1
          · exact hJ k hk h1
          · have e : k = j := by omega
            subst e
            omega
        · (conv => whnf); refine ⟨by repeat' (first | with_reducible exact zE0 | with_reducible refine zE1 ?_ ?_ | rfl | assumption | (refine ent_i ?_; (first | omega | (rw [IntWalk.i64_in _ (by omega)]; omega) | (simp; done))) | (refine ent_b ?_; (first | omega | (rw [IntWalk.i64_in _ (by omega)]; omega) | (simp; done)))), by repeat' (first | with_reducible exact zH0 | with_reducible refine zH1 ?_ ?_ | rfl | assumption), rfl⟩
    · have ht : incr l = true := incr_iff.2 fun k hk => hJ k hk (by omega)
      repeat' ((conv => whnf); first | (with_reducible first | refine br_t ?_ | refine br_f ?_ | refine xa (by assumption) ?_ | refine xg (by assumption) rfl ?_ | refine xo (by assumption) ?_ | refine xb (by assumption) rfl ?_ | refine xm (by assumption) ?_ | refine xc (by assumption) ?_) | rw [List.length_map] | ((with_reducible refine bc_t ?_ ?_); (first | omega | decide)) | ((with_reducible refine bc_f ?_ ?_); (first | omega | decide)) | (with_reducible first | refine bc (fun h => ?_) (fun h => ?_) | refine br_t' (by assumption) ?_ | refine br_f' (by assumption) ?_ | refine br_i (fun h => ?_) (fun h => ?_)) | refine xg (by assumption) rfl ?_ | refine And.intro (by first | kernel_rfl | omega | (simp only [List.length_append, List.length_cons, List.length_nil, List.length_map, List.length_take, List.length_replicate]; omega) | decide) ?_)
      all_goals conv => whnf
      all_goals
        rw [ht]; rfl
end Go.Proofs.Ytjbnfoipjnkjdaa

/- A law's arguments of this project's types. No conditions of its own. -/
namespace Go.Proofs.Ytjbnfoipjnkjdaa
open Go Go.RowKit Sx
theorem fits_point {ds : List D} (h : Fits shPoint ds) : ∃ p : Pt, ds = p.c := by
  obtain ⟨_, _, rfl, ⟨n, rfl⟩, _, _, rfl, ⟨m, rfl⟩, _, _, rfl, ⟨k, rfl⟩, rfl⟩ := h
  exact ⟨⟨n, m, k⟩, rfl⟩
theorem fit_point {c : DC} (h : FitC shPoint c) : ∃ p : Pt, c = p.dc := by
  obtain ⟨ds, rfl, h⟩ := h
  obtain ⟨p, rfl⟩ := fits_point h
  exact ⟨p, rfl⟩
theorem fits_pts {ds : List D} (h : Fits (.sl 3 shPoint) ds) : ∃ l : List Pt, ds = [pts l] := by
  obtain ⟨l, rfl, h⟩ := h
  obtain ⟨l', rfl⟩ := exists_map (f := Pt.c) fun x hx => fits_point (h x hx)
  exact ⟨l', rfl⟩
theorem fits_field {ds : List D} (h : Fits shField ds) : ∃ l : List Pt, ds = [pts l] := by
  obtain ⟨_, _, rfl, h, rfl⟩ := h
  obtain ⟨l, rfl⟩ := fits_pts h
  exact ⟨l, rfl⟩
theorem fit_field {c : DC} (h : FitC shField c) : ∃ l : List Pt, c = fld l := by
  obtain ⟨ds, rfl, h⟩ := h
  obtain ⟨l, rfl⟩ := fits_field h
  exact ⟨l, rfl⟩
end Go.Proofs.Ytjbnfoipjnkjdaa
