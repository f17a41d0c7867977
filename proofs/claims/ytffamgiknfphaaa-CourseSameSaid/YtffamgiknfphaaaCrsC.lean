

/- What layer 2 computes: the order of two points. No conditions but on sizes. -/
import Derived.Test.YtffamgiknfphaaaCrsB
namespace Go.Proofs.Ytffamgiknfphaaa
open Go.RowKit Go.Sort Sx
set_option linter.unusedVariables false

theorem nanint_fn (n : Int) : FnOK Try.prog 65 [.one (i64 n)] (.c (.one (bol false))) := by
  refine fn_ok (by kernel_rfl) ty_ok Try.func65 rfl (fun _ _ => Try.call65 _ _) rfl ?_
  intro hw
  repeat' ((conv => whnf); first | (with_reducible refine br_t ?_) | (with_reducible refine br_f ?_) | ((with_reducible refine brd_t ?_ ?_); (first | omega | decide)) | ((with_reducible refine brd_f ?_ ?_); (first | omega | decide)) | (with_reducible refine brd (fun h => ?_) (fun h => ?_)) | ((with_reducible refine bre_t ?_ ?_); (first | omega | decide)) | ((with_reducible refine bre_f ?_ ?_); (first | omega | decide)) | (with_reducible refine bre (fun h => ?_) (fun h => ?_)) | ((with_reducible refine brn_t ?_ ?_); (first | omega | decide)) | ((with_reducible refine brn_f ?_ ?_); (first | omega | decide)) | (with_reducible refine brn (fun h => ?_) (fun h => ?_)) | (with_reducible refine brb_tt ?_) | (with_reducible refine brb_ff ?_) | (with_reducible refine brb_tf ?_) | (with_reducible refine brb_ft ?_) | (with_reducible refine bnb_tt ?_) | (with_reducible refine bnb_ff ?_) | (with_reducible refine bnb_tf ?_) | (with_reducible refine bnb_ft ?_) | (with_reducible refine brnot ?_) | (refine br_t' (by assumption) ?_) | (refine br_f' (by assumption) ?_) | (with_reducible refine br_i (fun h => ?_) (fun h => ?_)) | (with_reducible refine Exists.intro _ (And.intro (pv_bool fun _ => eqv23 _ _ _ _ _ _ _ _ _) ?_)) | (with_reducible refine Exists.intro _ (And.intro (pv_bool fun _ => nev23 _ _ _ _ _ _ _ _ _) ?_)) | (with_reducible refine Exists.intro _ (And.intro (pv_bool fun _ => eqv25 _ _ _ _ _ _ _) ?_)) | (with_reducible refine Exists.intro _ (And.intro (pv_bool fun _ => nev25 _ _ _ _ _ _ _) ?_)) | (with_reducible refine Exists.intro _ (And.intro (pv_bool fun _ => eqv61 _ _ _ _ _ _ _) ?_)) | (with_reducible refine Exists.intro _ (And.intro (pv_bool fun _ => nev61 _ _ _ _ _ _ _) ?_)) | (with_reducible refine Exists.intro _ (And.intro (pv_bool fun _ => eqv70 _ _ _ _ _ _ _ _ _) ?_)) | (with_reducible refine Exists.intro _ (And.intro (pv_bool fun _ => nev70 _ _ _ _ _ _ _ _ _) ?_)) | (with_reducible refine Exists.intro _ (And.intro (pv_bool fun _ => eqv85 _ _ _ _ _ _ _ _ _) ?_)) | (with_reducible refine Exists.intro _ (And.intro (pv_bool fun _ => nev85 _ _ _ _ _ _ _ _ _) ?_)) | refine And.intro (by kernel_rfl) ?_ | refine And.intro (by omega) ?_ | refine And.intro (by decide) ?_)
  all_goals conv => whnf
  all_goals exact r_bool (by simp)
theorem cmpint_fn (a b : Int) : FnOK Try.prog 50 [.one (i64 a), .one (i64 b)] (ret1 (cmpN a b)) := by
  refine fn_ok (by kernel_rfl) ty_ok Try.func50 rfl (fun _ _ => Try.call50 _ _) rfl ?_
  intro hw
  repeat' ((conv => whnf); first | (with_reducible refine br_t ?_) | (with_reducible refine br_f ?_) | ((with_reducible refine brd_t ?_ ?_); (first | omega | decide)) | ((with_reducible refine brd_f ?_ ?_); (first | omega | decide)) | (with_reducible refine brd (fun h => ?_) (fun h => ?_)) | ((with_reducible refine bre_t ?_ ?_); (first | omega | decide)) | ((with_reducible refine bre_f ?_ ?_); (first | omega | decide)) | (with_reducible refine bre (fun h => ?_) (fun h => ?_)) | ((with_reducible refine brn_t ?_ ?_); (first | omega | decide)) | ((with_reducible refine brn_f ?_ ?_); (first | omega | decide)) | (with_reducible refine brn (fun h => ?_) (fun h => ?_)) | (with_reducible refine brb_tt ?_) | (with_reducible refine brb_ff ?_) | (with_reducible refine brb_tf ?_) | (with_reducible refine brb_ft ?_) | (with_reducible refine bnb_tt ?_) | (with_reducible refine bnb_ff ?_) | (with_reducible refine bnb_tf ?_) | (with_reducible refine bnb_ft ?_) | (with_reducible refine brnot ?_) | (refine br_t' (by assumption) ?_) | (refine br_f' (by assumption) ?_) | (with_reducible refine br_i (fun h => ?_) (fun h => ?_)) | (with_reducible refine Exists.intro _ (And.intro (nanint_fn _) ?_)) | (with_reducible refine Exists.intro _ (And.intro (pv_bool fun _ => eqv23 _ _ _ _ _ _ _ _ _) ?_)) | (with_reducible refine Exists.intro _ (And.intro (pv_bool fun _ => nev23 _ _ _ _ _ _ _ _ _) ?_)) | (with_reducible refine Exists.intro _ (And.intro (pv_bool fun _ => eqv25 _ _ _ _ _ _ _) ?_)) | (with_reducible refine Exists.intro _ (And.intro (pv_bool fun _ => nev25 _ _ _ _ _ _ _) ?_)) | (with_reducible refine Exists.intro _ (And.intro (pv_bool fun _ => eqv61 _ _ _ _ _ _ _) ?_)) | (with_reducible refine Exists.intro _ (And.intro (pv_bool fun _ => nev61 _ _ _ _ _ _ _) ?_)) | (with_reducible refine Exists.intro _ (And.intro (pv_bool fun _ => eqv70 _ _ _ _ _ _ _ _ _) ?_)) | (with_reducible refine Exists.intro _ (And.intro (pv_bool fun _ => nev70 _ _ _ _ _ _ _ _ _) ?_)) | (with_reducible refine Exists.intro _ (And.intro (pv_bool fun _ => eqv85 _ _ _ _ _ _ _ _ _) ?_)) | (with_reducible refine Exists.intro _ (And.intro (pv_bool fun _ => nev85 _ _ _ _ _ _ _ _ _) ?_)) | refine And.intro (by kernel_rfl) ?_ | refine And.intro (by omega) ?_ | refine And.intro (by decide) ?_)
  all_goals conv => whnf
  all_goals
    refine r_int ?_
    unfold cmpN
    (repeat' split) <;> omega
theorem cmpi_fn (a b : Int) : FnOK Try.prog 49 [.one (i64 a), .one (i64 b)] (ret1 (cmpN a b)) := by
  refine fn_of_calls (fun _ _ => Try.call49 _ _) rfl rfl (fun h => ?_) (fun h w => ?_)
  · simp only [WDV, WDCs, WDC, WDs, wd_i64, and_true]
    have := cmpN_rng a b
    omega
  · exact cmpi_any a b w
def orN (a b : Int) : Int := if a = 0 then b else a
theorem cmpor_fn (a b : Int) : FnOK Try.prog 48 [.one (.list 1 [[i64 a], [i64 b]])] (ret1 (orN a b)) := by
  refine fn_ok (by kernel_rfl) ty_ok Try.func48 rfl (fun _ _ => Try.call48 _ _) rfl ?_
  intro hw
  repeat' ((conv => whnf); first | (with_reducible refine br_t ?_) | (with_reducible refine br_f ?_) | ((with_reducible refine brd_t ?_ ?_); (first | omega | decide)) | ((with_reducible refine brd_f ?_ ?_); (first | omega | decide)) | (with_reducible refine brd (fun h => ?_) (fun h => ?_)) | ((with_reducible refine bre_t ?_ ?_); (first | omega | decide)) | ((with_reducible refine bre_f ?_ ?_); (first | omega | decide)) | (with_reducible refine bre (fun h => ?_) (fun h => ?_)) | ((with_reducible refine brn_t ?_ ?_); (first | omega | decide)) | ((with_reducible refine brn_f ?_ ?_); (first | omega | decide)) | (with_reducible refine brn (fun h => ?_) (fun h => ?_)) | (with_reducible refine brb_tt ?_) | (with_reducible refine brb_ff ?_) | (with_reducible refine brb_tf ?_) | (with_reducible refine brb_ft ?_) | (with_reducible refine bnb_tt ?_) | (with_reducible refine bnb_ff ?_) | (with_reducible refine bnb_tf ?_) | (with_reducible refine bnb_ft ?_) | (with_reducible refine brnot ?_) | (refine br_t' (by assumption) ?_) | (refine br_f' (by assumption) ?_) | (with_reducible refine br_i (fun h => ?_) (fun h => ?_)) | (with_reducible refine Exists.intro _ (And.intro (pv_bool fun _ => eqv23 _ _ _ _ _ _ _ _ _) ?_)) | (with_reducible refine Exists.intro _ (And.intro (pv_bool fun _ => nev23 _ _ _ _ _ _ _ _ _) ?_)) | (with_reducible refine Exists.intro _ (And.intro (pv_bool fun _ => eqv25 _ _ _ _ _ _ _) ?_)) | (with_reducible refine Exists.intro _ (And.intro (pv_bool fun _ => nev25 _ _ _ _ _ _ _) ?_)) | (with_reducible refine Exists.intro _ (And.intro (pv_bool fun _ => eqv61 _ _ _ _ _ _ _) ?_)) | (with_reducible refine Exists.intro _ (And.intro (pv_bool fun _ => nev61 _ _ _ _ _ _ _) ?_)) | (with_reducible refine Exists.intro _ (And.intro (pv_bool fun _ => eqv70 _ _ _ _ _ _ _ _ _) ?_)) | (with_reducible refine Exists.intro _ (And.intro (pv_bool fun _ => nev70 _ _ _ _ _ _ _ _ _) ?_)) | (with_reducible refine Exists.intro _ (And.intro (pv_bool fun _ => eqv85 _ _ _ _ _ _ _ _ _) ?_)) | (with_reducible refine Exists.intro _ (And.intro (pv_bool fun _ => nev85 _ _ _ _ _ _ _ _ _) ?_)) | refine And.intro (by kernel_rfl) ?_ | refine And.intro (by omega) ?_ | refine And.intro (by decide) ?_)
  refine loop_I (by kernel_rfl) ty_ok (σ := Nat) (fun i => ([(2, sV (.int .i64 0)), (3, sV (.int .i64 0)), (6, sD (.list 1 [[i64 a], [i64 b]])), (7, sV (.int .i64 2)), (8, sV (.int .i64 (i : Int)))], []))
    (fun i => i = 0 ∨ (i = 1 ∧ a = 0) ∨ (i = 2 ∧ a = 0 ∧ b = 0)) (fun i => 2 - i) 0 (.inl rfl) ⟨⟨rfl, rfl, rfl, rfl, rfl, trivial⟩, trivial, rfl⟩ ?_
  intro i hi
  have hel0 : ([[i64 a], [i64 b]] : List (List D))[((0 : Nat) : Int).toNat]? = some [i64 a] := rfl
  have hel1 : ([[i64 a], [i64 b]] : List (List D))[((1 : Nat) : Int).toNat]? = some [i64 b] := rfl
  have q0 : 0 ≤ ((0 : Nat) : Int) ∧ ((0 : Nat) : Int) < (([[i64 a], [i64 b]] : List (List D)).length : Int) := ⟨by omega, by simp⟩
  have q1 : 0 ≤ ((1 : Nat) : Int) ∧ ((1 : Nat) : Int) < (([[i64 a], [i64 b]] : List (List D)).length : Int) := ⟨by omega, by simp⟩
  rcases hi with rfl | ⟨rfl, h1⟩ | ⟨rfl, h1, h2⟩
  · repeat' ((conv => whnf); first | (with_reducible refine br_t ?_) | (with_reducible refine br_f ?_) | first | (refine (Exists.intro _ (And.intro (And.intro hel0 (Nat.le_of_ble_eq_true rfl)) ?_))) | (refine And.intro q0 ?_) | ((with_reducible refine brd_t ?_ ?_); (first | omega | decide)) | ((with_reducible refine brd_f ?_ ?_); (first | omega | decide)) | (with_reducible refine brd (fun h => ?_) (fun h => ?_)) | ((with_reducible refine bre_t ?_ ?_); (first | omega | decide)) | ((with_reducible refine bre_f ?_ ?_); (first | omega | decide)) | (with_reducible refine bre (fun h => ?_) (fun h => ?_)) | ((with_reducible refine brn_t ?_ ?_); (first | omega | decide)) | ((with_reducible refine brn_f ?_ ?_); (first | omega | decide)) | (with_reducible refine brn (fun h => ?_) (fun h => ?_)) | (with_reducible refine brb_tt ?_) | (with_reducible refine brb_ff ?_) | (with_reducible refine brb_tf ?_) | (with_reducible refine brb_ft ?_) | (with_reducible refine bnb_tt ?_) | (with_reducible refine bnb_ff ?_) | (with_reducible refine bnb_tf ?_) | (with_reducible refine bnb_ft ?_) | (with_reducible refine brnot ?_) | (refine br_t' (by assumption) ?_) | (refine br_f' (by assumption) ?_) | (with_reducible refine br_i (fun h => ?_) (fun h => ?_)) | (with_reducible refine Exists.intro _ (And.intro (pv_bool fun _ => eqv23 _ _ _ _ _ _ _ _ _) ?_)) | (with_reducible refine Exists.intro _ (And.intro (pv_bool fun _ => nev23 _ _ _ _ _ _ _ _ _) ?_)) | (with_reducible refine Exists.intro _ (And.intro (pv_bool fun _ => eqv25 _ _ _ _ _ _ _) ?_)) | (with_reducible refine Exists.intro _ (And.intro (pv_bool fun _ => nev25 _ _ _ _ _ _ _) ?_)) | (with_reducible refine Exists.intro _ (And.intro (pv_bool fun _ => eqv61 _ _ _ _ _ _ _) ?_)) | (with_reducible refine Exists.intro _ (And.intro (pv_bool fun _ => nev61 _ _ _ _ _ _ _) ?_)) | (with_reducible refine Exists.intro _ (And.intro (pv_bool fun _ => eqv70 _ _ _ _ _ _ _ _ _) ?_)) | (with_reducible refine Exists.intro _ (And.intro (pv_bool fun _ => nev70 _ _ _ _ _ _ _ _ _) ?_)) | (with_reducible refine Exists.intro _ (And.intro (pv_bool fun _ => eqv85 _ _ _ _ _ _ _ _ _) ?_)) | (with_reducible refine Exists.intro _ (And.intro (pv_bool fun _ => nev85 _ _ _ _ _ _ _ _ _) ?_)) | refine And.intro (by kernel_rfl) ?_ | refine And.intro (by omega) ?_ | refine And.intro (by decide) ?_)
    all_goals conv => whnf
    · refine r_int ?_
      unfold orN; rw [if_neg (by assumption)]
    · refine ⟨1, .inr (.inl ⟨rfl, by omega⟩), ⟨⟨rfl, rfl, rfl, rfl, rfl, trivial⟩, trivial, rfl⟩, by show 2 - 1 < 2 - 0; decide⟩
  · repeat' ((conv => whnf); first | (with_reducible refine br_t ?_) | (with_reducible refine br_f ?_) | first | (refine (Exists.intro _ (And.intro (And.intro hel1 (Nat.le_of_ble_eq_true rfl)) ?_))) | (refine And.intro q1 ?_) | ((with_reducible refine brd_t ?_ ?_); (first | omega | decide)) | ((with_reducible refine brd_f ?_ ?_); (first | omega | decide)) | (with_reducible refine brd (fun h => ?_) (fun h => ?_)) | ((with_reducible refine bre_t ?_ ?_); (first | omega | decide)) | ((with_reducible refine bre_f ?_ ?_); (first | omega | decide)) | (with_reducible refine bre (fun h => ?_) (fun h => ?_)) | ((with_reducible refine brn_t ?_ ?_); (first | omega | decide)) | ((with_reducible refine brn_f ?_ ?_); (first | omega | decide)) | (with_reducible refine brn (fun h => ?_) (fun h => ?_)) | (with_reducible refine brb_tt ?_) | (with_reducible refine brb_ff ?_) | (with_reducible refine brb_tf ?_) | (with_reducible refine brb_ft ?_) | (with_reducible refine bnb_tt ?_) | (with_reducible refine bnb_ff ?_) | (with_reducible refine bnb_tf ?_) | (with_reducible refine bnb_ft ?_) | (with_reducible refine brnot ?_) | (refine br_t' (by assumption) ?_) | (refine br_f' (by assumption) ?_) | (with_reducible refine br_i (fun h => ?_) (fun h => ?_)) | (with_reducible refine Exists.intro _ (And.intro (pv_bool fun _ => eqv23 _ _ _ _ _ _ _ _ _) ?_)) | (with_reducible refine Exists.intro _ (And.intro (pv_bool fun _ => nev23 _ _ _ _ _ _ _ _ _) ?_)) | (with_reducible refine Exists.intro _ (And.intro (pv_bool fun _ => eqv25 _ _ _ _ _ _ _) ?_)) | (with_reducible refine Exists.intro _ (And.intro (pv_bool fun _ => nev25 _ _ _ _ _ _ _) ?_)) | (with_reducible refine Exists.intro _ (And.intro (pv_bool fun _ => eqv61 _ _ _ _ _ _ _) ?_)) | (with_reducible refine Exists.intro _ (And.intro (pv_bool fun _ => nev61 _ _ _ _ _ _ _) ?_)) | (with_reducible refine Exists.intro _ (And.intro (pv_bool fun _ => eqv70 _ _ _ _ _ _ _ _ _) ?_)) | (with_reducible refine Exists.intro _ (And.intro (pv_bool fun _ => nev70 _ _ _ _ _ _ _ _ _) ?_)) | (with_reducible refine Exists.intro _ (And.intro (pv_bool fun _ => eqv85 _ _ _ _ _ _ _ _ _) ?_)) | (with_reducible refine Exists.intro _ (And.intro (pv_bool fun _ => nev85 _ _ _ _ _ _ _ _ _) ?_)) | refine And.intro (by kernel_rfl) ?_ | refine And.intro (by omega) ?_ | refine And.intro (by decide) ?_)
    all_goals conv => whnf
    · refine r_int ?_
      unfold orN; rw [if_pos h1]
    · refine ⟨2, .inr (.inr ⟨rfl, h1, by omega⟩), ⟨⟨rfl, rfl, rfl, rfl, rfl, trivial⟩, trivial, rfl⟩, by show 2 - 2 < 2 - 1; decide⟩
  · repeat' ((conv => whnf); first | (with_reducible refine br_t ?_) | (with_reducible refine br_f ?_) | ((with_reducible refine brd_t ?_ ?_); (first | omega | decide)) | ((with_reducible refine brd_f ?_ ?_); (first | omega | decide)) | (with_reducible refine brd (fun h => ?_) (fun h => ?_)) | ((with_reducible refine bre_t ?_ ?_); (first | omega | decide)) | ((with_reducible refine bre_f ?_ ?_); (first | omega | decide)) | (with_reducible refine bre (fun h => ?_) (fun h => ?_)) | ((with_reducible refine brn_t ?_ ?_); (first | omega | decide)) | ((with_reducible refine brn_f ?_ ?_); (first | omega | decide)) | (with_reducible refine brn (fun h => ?_) (fun h => ?_)) | (with_reducible refine brb_tt ?_) | (with_reducible refine brb_ff ?_) | (with_reducible refine brb_tf ?_) | (with_reducible refine brb_ft ?_) | (with_reducible refine bnb_tt ?_) | (with_reducible refine bnb_ff ?_) | (with_reducible refine bnb_tf ?_) | (with_reducible refine bnb_ft ?_) | (with_reducible refine brnot ?_) | (refine br_t' (by assumption) ?_) | (refine br_f' (by assumption) ?_) | (with_reducible refine br_i (fun h => ?_) (fun h => ?_)) | (with_reducible refine Exists.intro _ (And.intro (pv_bool fun _ => eqv23 _ _ _ _ _ _ _ _ _) ?_)) | (with_reducible refine Exists.intro _ (And.intro (pv_bool fun _ => nev23 _ _ _ _ _ _ _ _ _) ?_)) | (with_reducible refine Exists.intro _ (And.intro (pv_bool fun _ => eqv25 _ _ _ _ _ _ _) ?_)) | (with_reducible refine Exists.intro _ (And.intro (pv_bool fun _ => nev25 _ _ _ _ _ _ _) ?_)) | (with_reducible refine Exists.intro _ (And.intro (pv_bool fun _ => eqv61 _ _ _ _ _ _ _) ?_)) | (with_reducible refine Exists.intro _ (And.intro (pv_bool fun _ => nev61 _ _ _ _ _ _ _) ?_)) | (with_reducible refine Exists.intro _ (And.intro (pv_bool fun _ => eqv70 _ _ _ _ _ _ _ _ _) ?_)) | (with_reducible refine Exists.intro _ (And.intro (pv_bool fun _ => nev70 _ _ _ _ _ _ _ _ _) ?_)) | (with_reducible refine Exists.intro _ (And.intro (pv_bool fun _ => eqv85 _ _ _ _ _ _ _ _ _) ?_)) | (with_reducible refine Exists.intro _ (And.intro (pv_bool fun _ => nev85 _ _ _ _ _ _ _ _ _) ?_)) | refine And.intro (by kernel_rfl) ?_ | refine And.intro (by omega) ?_ | refine And.intro (by decide) ?_)
    all_goals conv => whnf
    refine r_int ?_
    unfold orN; rw [if_pos h1]; exact h2.symm
def two02 (i a b j c d n m : Int) : Int := if cpt i a b = 0 ∧ cpt j c d = 0 ∧ chk n m = 0 then (if i = j then 2 else 0) else 8
theorem two02_in (i a b j c d n m : Int) : two02 i a b j c d n m = 0 ∨ two02 i a b j c d n m = 2 ∨ two02 i a b j c d n m = 8 := by
  unfold two02; (repeat' split) <;> simp
theorem two02_ok {i a b j c d n m : Int} (h : two02 i a b j c d n m = 0) : cpt i a b = 0 ∧ cpt j c d = 0 ∧ chk n m = 0 ∧ i ≠ j := by
  unfold two02 at h
  split at h
  · rename_i hc
    split at h
    · cases h
    · exact ⟨hc.1, hc.2.1, hc.2.2, by assumption⟩
  · cases h
theorem ktwo_fn (i a b j c d n m : Int) : FnOK Try.prog 26 [pt i a b, pt j c d, rat n m] (ret1 (two02 i a b j c d n m)) := by
  refine fn_ok (by kernel_rfl) ty_ok Try.func26 rfl (fun _ _ => Try.call26 _ _) rfl ?_
  intro hw
  have H1 := kCheck_fn i a b
  have H2 := kCheck_fn j c d
  have H3 := check_fn n m
  unfold two02
  rcases cpt_08 i a b with h1 | h1 <;> rcases cpt_08 j c d with h2 | h2 <;> rcases chk_08 n m with h3 | h3
  all_goals
    rw [h1] at H1
    rw [h2] at H2
    rw [h3] at H3
    simp only [h1, h2, h3]
    repeat' ((conv => whnf); first | (with_reducible refine br_t ?_) | (with_reducible refine br_f ?_) | ((with_reducible refine brd_t ?_ ?_); (first | omega | decide)) | ((with_reducible refine brd_f ?_ ?_); (first | omega | decide)) | (with_reducible refine brd (fun h => ?_) (fun h => ?_)) | ((with_reducible refine bre_t ?_ ?_); (first | omega | decide)) | ((with_reducible refine bre_f ?_ ?_); (first | omega | decide)) | (with_reducible refine bre (fun h => ?_) (fun h => ?_)) | ((with_reducible refine brn_t ?_ ?_); (first | omega | decide)) | ((with_reducible refine brn_f ?_ ?_); (first | omega | decide)) | (with_reducible refine brn (fun h => ?_) (fun h => ?_)) | (with_reducible refine brb_tt ?_) | (with_reducible refine brb_ff ?_) | (with_reducible refine brb_tf ?_) | (with_reducible refine brb_ft ?_) | (with_reducible refine bnb_tt ?_) | (with_reducible refine bnb_ff ?_) | (with_reducible refine bnb_tf ?_) | (with_reducible refine bnb_ft ?_) | (with_reducible refine brnot ?_) | (refine br_t' (by assumption) ?_) | (refine br_f' (by assumption) ?_) | (with_reducible refine br_i (fun h => ?_) (fun h => ?_)) | (with_reducible refine Exists.intro _ (And.intro (H1) ?_)) | (with_reducible refine Exists.intro _ (And.intro (H2) ?_)) | (with_reducible refine Exists.intro _ (And.intro (H3) ?_)) | (with_reducible refine Exists.intro _ (And.intro (pv_bool fun _ => eqv23 _ _ _ _ _ _ _ _ _) ?_)) | (with_reducible refine Exists.intro _ (And.intro (pv_bool fun _ => nev23 _ _ _ _ _ _ _ _ _) ?_)) | (with_reducible refine Exists.intro _ (And.intro (pv_bool fun _ => eqv25 _ _ _ _ _ _ _) ?_)) | (with_reducible refine Exists.intro _ (And.intro (pv_bool fun _ => nev25 _ _ _ _ _ _ _) ?_)) | (with_reducible refine Exists.intro _ (And.intro (pv_bool fun _ => eqv61 _ _ _ _ _ _ _) ?_)) | (with_reducible refine Exists.intro _ (And.intro (pv_bool fun _ => nev61 _ _ _ _ _ _ _) ?_)) | (with_reducible refine Exists.intro _ (And.intro (pv_bool fun _ => eqv70 _ _ _ _ _ _ _ _ _) ?_)) | (with_reducible refine Exists.intro _ (And.intro (pv_bool fun _ => nev70 _ _ _ _ _ _ _ _ _) ?_)) | (with_reducible refine Exists.intro _ (And.intro (pv_bool fun _ => eqv85 _ _ _ _ _ _ _ _ _) ?_)) | (with_reducible refine Exists.intro _ (And.intro (pv_bool fun _ => nev85 _ _ _ _ _ _ _ _ _) ?_)) | refine And.intro (by kernel_rfl) ?_ | refine And.intro (by omega) ?_ | refine And.intro (by decide) ?_)
    all_goals conv => whnf
    all_goals
      refine r_int ?_
      first
      | rfl
      | (simp; done)
      | (simp; omega)
theorem kkTwo_fn (i a b j c d n m : Int) : FnOK Try.prog 23 [pt i a b, pt j c d, rat n m] (ret1 (two02 i a b j c d n m)) := by
  refine fn_ok (by kernel_rfl) ty_ok Try.func23 rfl (fun _ _ => Try.call23 _ _) rfl ?_
  intro hw
  have H1 := kkCheck_fn i a b
  have H2 := kkCheck_fn j c d
  have H3 := rcheck_fn n m
  unfold two02
  rcases cpt_08 i a b with h1 | h1 <;> rcases cpt_08 j c d with h2 | h2 <;> rcases chk_08 n m with h3 | h3
  all_goals
    rw [h1] at H1
    rw [h2] at H2
    rw [h3] at H3
    simp only [h1, h2, h3]
    repeat' ((conv => whnf); first | (with_reducible refine br_t ?_) | (with_reducible refine br_f ?_) | ((with_reducible refine brd_t ?_ ?_); (first | omega | decide)) | ((with_reducible refine brd_f ?_ ?_); (first | omega | decide)) | (with_reducible refine brd (fun h => ?_) (fun h => ?_)) | ((with_reducible refine bre_t ?_ ?_); (first | omega | decide)) | ((with_reducible refine bre_f ?_ ?_); (first | omega | decide)) | (with_reducible refine bre (fun h => ?_) (fun h => ?_)) | ((with_reducible refine brn_t ?_ ?_); (first | omega | decide)) | ((with_reducible refine brn_f ?_ ?_); (first | omega | decide)) | (with_reducible refine brn (fun h => ?_) (fun h => ?_)) | (with_reducible refine brb_tt ?_) | (with_reducible refine brb_ff ?_) | (with_reducible refine brb_tf ?_) | (with_reducible refine brb_ft ?_) | (with_reducible refine bnb_tt ?_) | (with_reducible refine bnb_ff ?_) | (with_reducible refine bnb_tf ?_) | (with_reducible refine bnb_ft ?_) | (with_reducible refine brnot ?_) | (refine br_t' (by assumption) ?_) | (refine br_f' (by assumption) ?_) | (with_reducible refine br_i (fun h => ?_) (fun h => ?_)) | (with_reducible refine Exists.intro _ (And.intro (H1) ?_)) | (with_reducible refine Exists.intro _ (And.intro (H2) ?_)) | (with_reducible refine Exists.intro _ (And.intro (H3) ?_)) | (with_reducible refine Exists.intro _ (And.intro (pv_bool fun _ => eqv23 _ _ _ _ _ _ _ _ _) ?_)) | (with_reducible refine Exists.intro _ (And.intro (pv_bool fun _ => nev23 _ _ _ _ _ _ _ _ _) ?_)) | (with_reducible refine Exists.intro _ (And.intro (pv_bool fun _ => eqv25 _ _ _ _ _ _ _) ?_)) | (with_reducible refine Exists.intro _ (And.intro (pv_bool fun _ => nev25 _ _ _ _ _ _ _) ?_)) | (with_reducible refine Exists.intro _ (And.intro (pv_bool fun _ => eqv61 _ _ _ _ _ _ _) ?_)) | (with_reducible refine Exists.intro _ (And.intro (pv_bool fun _ => nev61 _ _ _ _ _ _ _) ?_)) | (with_reducible refine Exists.intro _ (And.intro (pv_bool fun _ => eqv70 _ _ _ _ _ _ _ _ _) ?_)) | (with_reducible refine Exists.intro _ (And.intro (pv_bool fun _ => nev70 _ _ _ _ _ _ _ _ _) ?_)) | (with_reducible refine Exists.intro _ (And.intro (pv_bool fun _ => eqv85 _ _ _ _ _ _ _ _ _) ?_)) | (with_reducible refine Exists.intro _ (And.intro (pv_bool fun _ => nev85 _ _ _ _ _ _ _ _ _) ?_)) | refine And.intro (by kernel_rfl) ?_ | refine And.intro (by omega) ?_ | refine And.intro (by decide) ?_)
    all_goals conv => whnf
    all_goals
      refine r_int ?_
      first
      | rfl
      | (simp; done)
      | (simp; omega)
/-- which of two points is ahead, where the places differ by a sum -/
def leadN (i b j d s : Int) : Int := if s = 0 then (if b = d then cmpN j i else cmpN b d) else if s < 0 then -1 else 1
theorem prod_in3 {p k : Int} (h0 : -2097152 ≤ p) (h1 : p ≤ 2097152) (k0 : -9223372036854775808 ≤ k) (k1 : k ≤ 9223372036854775808) : -19342813113834066795298816 ≤ p * k ∧ p * k ≤ 19342813113834066795298816 := by
  have : (p * k).natAbs ≤ 2097152 * 9223372036854775808 := by rw [Int.natAbs_mul]; exact Nat.mul_le_mul (by omega) (by omega)
  omega
theorem kcompare_fn (i a b j c d n m : Int) (h1 : cpt i a b = 0) (h2 : cpt j c d = 0) : FnOK Try.prog 27 [pt i a b, pt j c d, rat n m] (ret1 (leadN i b j d ((a - c) * m + (b - d) * n))) := by
  refine fn_ok (by kernel_rfl) ty_ok Try.func27 rfl (fun _ _ => Try.call27 _ _) rfl ?_
  intro hw
  simp only [WDCs, WDC, WDs, wd_i64] at hw
  have g1 := cpt_ok h1
  have g2 := cpt_ok h2
  have p1 := prod_in3 (p := a - c) (k := m) (by omega) (by omega) (by omega) (by omega)
  have p2 := prod_in3 (p := b - d) (k := n) (by omega) (by omega) (by omega) (by omega)
  have HS := sum_fn (a - c) m (b - d) n (by omega)
  generalize hs : (a - c) * m + (b - d) * n = s at *
  have e1 : IntKind.i64.wrap (a - c) = a - c := IntWalk.i64_in _ (by omega)
  have e2 : IntKind.i64.wrap (b - d) = b - d := IntWalk.i64_in _ (by omega)
  rw [← e1, ← e2] at HS
  repeat' ((conv => whnf); first | (with_reducible refine br_t ?_) | (with_reducible refine br_f ?_) | ((with_reducible refine brd_t ?_ ?_); (first | omega | decide)) | ((with_reducible refine brd_f ?_ ?_); (first | omega | decide)) | (with_reducible refine brd (fun h => ?_) (fun h => ?_)) | ((with_reducible refine bre_t ?_ ?_); (first | omega | decide)) | ((with_reducible refine bre_f ?_ ?_); (first | omega | decide)) | (with_reducible refine bre (fun h => ?_) (fun h => ?_)) | ((with_reducible refine brn_t ?_ ?_); (first | omega | decide)) | ((with_reducible refine brn_f ?_ ?_); (first | omega | decide)) | (with_reducible refine brn (fun h => ?_) (fun h => ?_)) | (with_reducible refine brb_tt ?_) | (with_reducible refine brb_ff ?_) | (with_reducible refine brb_tf ?_) | (with_reducible refine brb_ft ?_) | (with_reducible refine bnb_tt ?_) | (with_reducible refine bnb_ff ?_) | (with_reducible refine bnb_tf ?_) | (with_reducible refine bnb_ft ?_) | (with_reducible refine brnot ?_) | (refine br_t' (by assumption) ?_) | (refine br_f' (by assumption) ?_) | (with_reducible refine br_i (fun h => ?_) (fun h => ?_)) | (with_reducible refine Exists.intro _ (And.intro (HS) ?_)) | (with_reducible refine Exists.intro _ (And.intro (cmpor_fn _ _) ?_)) | (with_reducible refine Exists.intro _ (And.intro (cmpint_fn _ _) ?_)) | (with_reducible refine Exists.intro _ (And.intro (cmpi_fn _ _) ?_)) | (with_reducible refine Exists.intro _ (And.intro (pv_bool fun _ => eqv23 _ _ _ _ _ _ _ _ _) ?_)) | (with_reducible refine Exists.intro _ (And.intro (pv_bool fun _ => nev23 _ _ _ _ _ _ _ _ _) ?_)) | (with_reducible refine Exists.intro _ (And.intro (pv_bool fun _ => eqv25 _ _ _ _ _ _ _) ?_)) | (with_reducible refine Exists.intro _ (And.intro (pv_bool fun _ => nev25 _ _ _ _ _ _ _) ?_)) | (with_reducible refine Exists.intro _ (And.intro (pv_bool fun _ => eqv61 _ _ _ _ _ _ _) ?_)) | (with_reducible refine Exists.intro _ (And.intro (pv_bool fun _ => nev61 _ _ _ _ _ _ _) ?_)) | (with_reducible refine Exists.intro _ (And.intro (pv_bool fun _ => eqv70 _ _ _ _ _ _ _ _ _) ?_)) | (with_reducible refine Exists.intro _ (And.intro (pv_bool fun _ => nev70 _ _ _ _ _ _ _ _ _) ?_)) | (with_reducible refine Exists.intro _ (And.intro (pv_bool fun _ => eqv85 _ _ _ _ _ _ _ _ _) ?_)) | (with_reducible refine Exists.intro _ (And.intro (pv_bool fun _ => nev85 _ _ _ _ _ _ _ _ _) ?_)) | refine And.intro (by kernel_rfl) ?_ | refine And.intro (by omega) ?_ | refine And.intro (by decide) ?_)
  all_goals conv => whnf
  all_goals
    refine r_int ?_
    clear HS hs p1 p2 e1 e2 hw h1 h2 g1 g2
    unfold leadN
    first
    | (rw [if_neg (by omega), if_pos (by omega)]; done)
    | (rw [if_neg (by omega), if_neg (by omega)]; done)
    | (rw [if_pos (by omega)]
       unfold orN cmpN
       (repeat' split) <;> omega)
theorem leadN_rng (i b j d s : Int) : -1 ≤ leadN i b j d s ∧ leadN i b j d s ≤ 1 := by
  unfold leadN cmpN; (repeat' split) <;> omega
/-- Product and Plus of the reference, as one number -/
theorem big_two (n : Nat) : Two (n / 18446744073709551616) (n % 18446744073709551616) n := ⟨rfl, rfl⟩
abbrev bigC (x : Int) : DC := .agg [bol (decide (x < 0)), u64 ((x.natAbs / 18446744073709551616 : Nat) : Int), u64 ((x.natAbs % 18446744073709551616 : Nat) : Int)]
theorem rProduct_fn (a b : Int) : FnOK Try.prog 40 [.one (i64 a), .one (i64 b)] (.c (bigC (a * b))) := by
  refine fn_of_calls (fun _ _ => Try.call40 _ _) rfl rfl (fun h => ?_) (fun h w => ?_)
  · obtain ⟨_, _, _, _⟩ := wdii h
    have : (a * b).natAbs ≤ 9223372036854775808 * 9223372036854775808 := by rw [Int.natAbs_mul]; exact Nat.mul_le_mul (by omega) (by omega)
    simp only [WDV, WDCs, WDC, WDs, wd_i64, wd_u64, wd_bol, and_true, true_and]
    omega
  · obtain ⟨_, _, _, _⟩ := wdii h
    exact rProduct_any a b _ _ (by rw [← Int.natAbs_mul]; exact big_two _) w (by omega) (by omega) (by omega) (by omega)
theorem rPlus_fn (x y : Int) (hx : x.natAbs < 9223372036854775807 * 18446744073709551616) (hy : y.natAbs < 9223372036854775807 * 18446744073709551616) : FnOK Try.prog 39 [bigC x, bigC y] (.c (bigC (x + y))) := by
  refine fn_of_calls (fun _ _ => Try.call39 _ _) rfl rfl (fun h => ?_) (fun h w => ?_)
  · simp only [WDV, WDCs, WDC, WDs, wd_i64, wd_u64, wd_bol, and_true, true_and]
    omega
  · exact rPlus_any x y _ _ _ _ _ _ (big_two _) (big_two _) (big_two _) hx hy w
theorem rsign_fn (x : Int) : FnOK Try.prog 46 [bigC x] (ret1 (cmpN x 0)) := by
  refine fn_of_calls (fun _ _ => Try.call46 _ _) rfl rfl (fun h => ?_) (fun h w => ?_)
  · have := cmpN_rng x 0
    simp only [WDV, WDCs, WDC, WDs, wd_i64, wd_u64, wd_bol, and_true, true_and]
    omega
  · exact rSign_any x _ _ (big_two _) w
theorem kkFar_fn (i a b j c d n m : Int) (h1 : cpt i a b = 0) (h2 : cpt j c d = 0) : FnOK Try.prog 51 [pt i a b, pt j c d, rat n m] (ret1 (cmpN ((a - c) * m + (b - d) * n) 0)) := by
  refine fn_ok (by kernel_rfl) ty_ok Try.func51 rfl (fun _ _ => Try.call51 _ _) rfl ?_
  intro hw
  simp only [WDCs, WDC, WDs, wd_i64] at hw
  have g1 := cpt_ok h1
  have g2 := cpt_ok h2
  have p1 := prod_in3 (p := a - c) (k := m) (by omega) (by omega) (by omega) (by omega)
  have p2 := prod_in3 (p := b - d) (k := n) (by omega) (by omega) (by omega) (by omega)
  have e1 : IntKind.i64.wrap (a - c) = a - c := IntWalk.i64_in _ (by omega)
  have e2 : IntKind.i64.wrap (b - d) = b - d := IntWalk.i64_in _ (by omega)
  have H1 := rProduct_fn (a - c) m
  have H2 := rProduct_fn (b - d) n
  generalize (a - c) * m = s at *
  generalize (b - d) * n = t at *
  have H3 := rPlus_fn s t (by omega) (by omega)
  have H4 := rsign_fn (s + t)
  rw [← e1] at H1
  rw [← e2] at H2
  repeat' ((conv => whnf); first | (with_reducible refine br_t ?_) | (with_reducible refine br_f ?_) | ((with_reducible refine brd_t ?_ ?_); (first | omega | decide)) | ((with_reducible refine brd_f ?_ ?_); (first | omega | decide)) | (with_reducible refine brd (fun h => ?_) (fun h => ?_)) | ((with_reducible refine bre_t ?_ ?_); (first | omega | decide)) | ((with_reducible refine bre_f ?_ ?_); (first | omega | decide)) | (with_reducible refine bre (fun h => ?_) (fun h => ?_)) | ((with_reducible refine brn_t ?_ ?_); (first | omega | decide)) | ((with_reducible refine brn_f ?_ ?_); (first | omega | decide)) | (with_reducible refine brn (fun h => ?_) (fun h => ?_)) | (with_reducible refine brb_tt ?_) | (with_reducible refine brb_ff ?_) | (with_reducible refine brb_tf ?_) | (with_reducible refine brb_ft ?_) | (with_reducible refine bnb_tt ?_) | (with_reducible refine bnb_ff ?_) | (with_reducible refine bnb_tf ?_) | (with_reducible refine bnb_ft ?_) | (with_reducible refine brnot ?_) | (refine br_t' (by assumption) ?_) | (refine br_f' (by assumption) ?_) | (with_reducible refine br_i (fun h => ?_) (fun h => ?_)) | (with_reducible refine Exists.intro _ (And.intro (H1) ?_)) | (with_reducible refine Exists.intro _ (And.intro (H2) ?_)) | (with_reducible refine Exists.intro _ (And.intro (H3) ?_)) | (with_reducible refine Exists.intro _ (And.intro (H4) ?_)) | (with_reducible refine Exists.intro _ (And.intro (pv_bool fun _ => eqv23 _ _ _ _ _ _ _ _ _) ?_)) | (with_reducible refine Exists.intro _ (And.intro (pv_bool fun _ => nev23 _ _ _ _ _ _ _ _ _) ?_)) | (with_reducible refine Exists.intro _ (And.intro (pv_bool fun _ => eqv25 _ _ _ _ _ _ _) ?_)) | (with_reducible refine Exists.intro _ (And.intro (pv_bool fun _ => nev25 _ _ _ _ _ _ _) ?_)) | (with_reducible refine Exists.intro _ (And.intro (pv_bool fun _ => eqv61 _ _ _ _ _ _ _) ?_)) | (with_reducible refine Exists.intro _ (And.intro (pv_bool fun _ => nev61 _ _ _ _ _ _ _) ?_)) | (with_reducible refine Exists.intro _ (And.intro (pv_bool fun _ => eqv70 _ _ _ _ _ _ _ _ _) ?_)) | (with_reducible refine Exists.intro _ (And.intro (pv_bool fun _ => nev70 _ _ _ _ _ _ _ _ _) ?_)) | (with_reducible refine Exists.intro _ (And.intro (pv_bool fun _ => eqv85 _ _ _ _ _ _ _ _ _) ?_)) | (with_reducible refine Exists.intro _ (And.intro (pv_bool fun _ => nev85 _ _ _ _ _ _ _ _ _) ?_)) | refine And.intro (by kernel_rfl) ?_ | refine And.intro (by omega) ?_ | refine And.intro (by decide) ?_)
  all_goals conv => whnf
  all_goals rfl
theorem kkLeads_fn (i a b j c d n m : Int) (h1 : cpt i a b = 0) (h2 : cpt j c d = 0) : FnOK Try.prog 28 [pt i a b, pt j c d, rat n m] (.c (.one (bol (decide (leadN i b j d ((a - c) * m + (b - d) * n) > 0))))) := by
  refine fn_ok (by kernel_rfl) ty_ok Try.func28 rfl (fun _ _ => Try.call28 _ _) rfl ?_
  intro hw
  simp only [WDCs, WDC, WDs, wd_i64] at hw
  have HF := kkFar_fn i a b j c d n m h1 h2
  generalize (a - c) * m + (b - d) * n = s at *
  obtain ⟨f, hf⟩ : ∃ f, f = cmpN s 0 := ⟨_, rfl⟩
  rw [← hf] at HF
  repeat' ((conv => whnf); first | (with_reducible refine br_t ?_) | (with_reducible refine br_f ?_) | ((with_reducible refine brd_t ?_ ?_); (first | omega | decide)) | ((with_reducible refine brd_f ?_ ?_); (first | omega | decide)) | (with_reducible refine brd (fun h => ?_) (fun h => ?_)) | ((with_reducible refine bre_t ?_ ?_); (first | omega | decide)) | ((with_reducible refine bre_f ?_ ?_); (first | omega | decide)) | (with_reducible refine bre (fun h => ?_) (fun h => ?_)) | ((with_reducible refine brn_t ?_ ?_); (first | omega | decide)) | ((with_reducible refine brn_f ?_ ?_); (first | omega | decide)) | (with_reducible refine brn (fun h => ?_) (fun h => ?_)) | (with_reducible refine brb_tt ?_) | (with_reducible refine brb_ff ?_) | (with_reducible refine brb_tf ?_) | (with_reducible refine brb_ft ?_) | (with_reducible refine bnb_tt ?_) | (with_reducible refine bnb_ff ?_) | (with_reducible refine bnb_tf ?_) | (with_reducible refine bnb_ft ?_) | (with_reducible refine brnot ?_) | (refine br_t' (by assumption) ?_) | (refine br_f' (by assumption) ?_) | (with_reducible refine br_i (fun h => ?_) (fun h => ?_)) | (with_reducible refine Exists.intro _ (And.intro (HF) ?_)) | (with_reducible refine Exists.intro _ (And.intro (pv_bool fun _ => eqv23 _ _ _ _ _ _ _ _ _) ?_)) | (with_reducible refine Exists.intro _ (And.intro (pv_bool fun _ => nev23 _ _ _ _ _ _ _ _ _) ?_)) | (with_reducible refine Exists.intro _ (And.intro (pv_bool fun _ => eqv25 _ _ _ _ _ _ _) ?_)) | (with_reducible refine Exists.intro _ (And.intro (pv_bool fun _ => nev25 _ _ _ _ _ _ _) ?_)) | (with_reducible refine Exists.intro _ (And.intro (pv_bool fun _ => eqv61 _ _ _ _ _ _ _) ?_)) | (with_reducible refine Exists.intro _ (And.intro (pv_bool fun _ => nev61 _ _ _ _ _ _ _) ?_)) | (with_reducible refine Exists.intro _ (And.intro (pv_bool fun _ => eqv70 _ _ _ _ _ _ _ _ _) ?_)) | (with_reducible refine Exists.intro _ (And.intro (pv_bool fun _ => nev70 _ _ _ _ _ _ _ _ _) ?_)) | (with_reducible refine Exists.intro _ (And.intro (pv_bool fun _ => eqv85 _ _ _ _ _ _ _ _ _) ?_)) | (with_reducible refine Exists.intro _ (And.intro (pv_bool fun _ => nev85 _ _ _ _ _ _ _ _ _) ?_)) | refine And.intro (by kernel_rfl) ?_ | refine And.intro (by omega) ?_ | refine And.intro (by decide) ?_)
  all_goals conv => whnf
  all_goals
    refine r_bool ?_
    clear HF hw h1 h2
    unfold cmpN at hf
    unfold leadN cmpN
    (repeat' split at hf) <;> (repeat' split) <;> first | rfl | omega | (rw [decide_eq_decide]; omega) | (symm; rw [decide_eq_true_eq]; omega) | (symm; rw [decide_eq_false_iff_not]; omega)
/-- who is ahead, at any arguments -/
def aheadV (i a b j c d n m : Int) : Bool × Int := if two02 i a b j c d n m = 0 then (decide (leadN i b j d ((a - c) * m + (b - d) * n) > 0), 0) else (false, two02 i a b j c d n m)
abbrev retBI (x : Bool × Int) : DV := .tup [.one (bol x.1), .one (i64 x.2)]
theorem kAhead_fn (i a b j c d n m : Int) : FnOK Try.prog 9 [pt i a b, pt j c d, rat n m] (retBI (aheadV i a b j c d n m)) := by
  refine fn_ok (by kernel_rfl) ty_ok Try.func9 rfl (fun _ _ => Try.call9 _ _) rfl ?_
  intro hw
  have HT := ktwo_fn i a b j c d n m
  unfold aheadV
  split
  · rename_i h
    obtain ⟨h1, h2, h3, h4⟩ := two02_ok h
    rw [h] at HT
    have HC := kcompare_fn i a b j c d n m h1 h2
    simp only [ret1, retBI] at *
    generalize leadN i b j d ((a - c) * m + (b - d) * n) = l at *
    repeat' ((conv => whnf); first | (with_reducible refine br_t ?_) | (with_reducible refine br_f ?_) | ((with_reducible refine brd_t ?_ ?_); (first | omega | decide)) | ((with_reducible refine brd_f ?_ ?_); (first | omega | decide)) | (with_reducible refine brd (fun h => ?_) (fun h => ?_)) | ((with_reducible refine bre_t ?_ ?_); (first | omega | decide)) | ((with_reducible refine bre_f ?_ ?_); (first | omega | decide)) | (with_reducible refine bre (fun h => ?_) (fun h => ?_)) | ((with_reducible refine brn_t ?_ ?_); (first | omega | decide)) | ((with_reducible refine brn_f ?_ ?_); (first | omega | decide)) | (with_reducible refine brn (fun h => ?_) (fun h => ?_)) | (with_reducible refine brb_tt ?_) | (with_reducible refine brb_ff ?_) | (with_reducible refine brb_tf ?_) | (with_reducible refine brb_ft ?_) | (with_reducible refine bnb_tt ?_) | (with_reducible refine bnb_ff ?_) | (with_reducible refine bnb_tf ?_) | (with_reducible refine bnb_ft ?_) | (with_reducible refine brnot ?_) | (refine br_t' (by assumption) ?_) | (refine br_f' (by assumption) ?_) | (with_reducible refine br_i (fun h => ?_) (fun h => ?_)) | (with_reducible refine Exists.intro _ (And.intro (HT) ?_)) | (with_reducible refine Exists.intro _ (And.intro (HC) ?_)) | (with_reducible refine Exists.intro _ (And.intro (pv_bool fun _ => eqv23 _ _ _ _ _ _ _ _ _) ?_)) | (with_reducible refine Exists.intro _ (And.intro (pv_bool fun _ => nev23 _ _ _ _ _ _ _ _ _) ?_)) | (with_reducible refine Exists.intro _ (And.intro (pv_bool fun _ => eqv25 _ _ _ _ _ _ _) ?_)) | (with_reducible refine Exists.intro _ (And.intro (pv_bool fun _ => nev25 _ _ _ _ _ _ _) ?_)) | (with_reducible refine Exists.intro _ (And.intro (pv_bool fun _ => eqv61 _ _ _ _ _ _ _) ?_)) | (with_reducible refine Exists.intro _ (And.intro (pv_bool fun _ => nev61 _ _ _ _ _ _ _) ?_)) | (with_reducible refine Exists.intro _ (And.intro (pv_bool fun _ => eqv70 _ _ _ _ _ _ _ _ _) ?_)) | (with_reducible refine Exists.intro _ (And.intro (pv_bool fun _ => nev70 _ _ _ _ _ _ _ _ _) ?_)) | (with_reducible refine Exists.intro _ (And.intro (pv_bool fun _ => eqv85 _ _ _ _ _ _ _ _ _) ?_)) | (with_reducible refine Exists.intro _ (And.intro (pv_bool fun _ => nev85 _ _ _ _ _ _ _ _ _) ?_)) | refine And.intro (by kernel_rfl) ?_ | refine And.intro (by omega) ?_ | refine And.intro (by decide) ?_)
    all_goals conv => whnf
    all_goals rfl
  · rename_i h
    simp only [ret1, retBI] at *
    generalize two02 i a b j c d n m = e at *
    repeat' ((conv => whnf); first | (with_reducible refine br_t ?_) | (with_reducible refine br_f ?_) | ((with_reducible refine brd_t ?_ ?_); (first | omega | decide)) | ((with_reducible refine brd_f ?_ ?_); (first | omega | decide)) | (with_reducible refine brd (fun h => ?_) (fun h => ?_)) | ((with_reducible refine bre_t ?_ ?_); (first | omega | decide)) | ((with_reducible refine bre_f ?_ ?_); (first | omega | decide)) | (with_reducible refine bre (fun h => ?_) (fun h => ?_)) | ((with_reducible refine brn_t ?_ ?_); (first | omega | decide)) | ((with_reducible refine brn_f ?_ ?_); (first | omega | decide)) | (with_reducible refine brn (fun h => ?_) (fun h => ?_)) | (with_reducible refine brb_tt ?_) | (with_reducible refine brb_ff ?_) | (with_reducible refine brb_tf ?_) | (with_reducible refine brb_ft ?_) | (with_reducible refine bnb_tt ?_) | (with_reducible refine bnb_ff ?_) | (with_reducible refine bnb_tf ?_) | (with_reducible refine bnb_ft ?_) | (with_reducible refine brnot ?_) | (refine br_t' (by assumption) ?_) | (refine br_f' (by assumption) ?_) | (with_reducible refine br_i (fun h => ?_) (fun h => ?_)) | (with_reducible refine Exists.intro _ (And.intro (HT) ?_)) | (with_reducible refine Exists.intro _ (And.intro (pv_bool fun _ => eqv23 _ _ _ _ _ _ _ _ _) ?_)) | (with_reducible refine Exists.intro _ (And.intro (pv_bool fun _ => nev23 _ _ _ _ _ _ _ _ _) ?_)) | (with_reducible refine Exists.intro _ (And.intro (pv_bool fun _ => eqv25 _ _ _ _ _ _ _) ?_)) | (with_reducible refine Exists.intro _ (And.intro (pv_bool fun _ => nev25 _ _ _ _ _ _ _) ?_)) | (with_reducible refine Exists.intro _ (And.intro (pv_bool fun _ => eqv61 _ _ _ _ _ _ _) ?_)) | (with_reducible refine Exists.intro _ (And.intro (pv_bool fun _ => nev61 _ _ _ _ _ _ _) ?_)) | (with_reducible refine Exists.intro _ (And.intro (pv_bool fun _ => eqv70 _ _ _ _ _ _ _ _ _) ?_)) | (with_reducible refine Exists.intro _ (And.intro (pv_bool fun _ => nev70 _ _ _ _ _ _ _ _ _) ?_)) | (with_reducible refine Exists.intro _ (And.intro (pv_bool fun _ => eqv85 _ _ _ _ _ _ _ _ _) ?_)) | (with_reducible refine Exists.intro _ (And.intro (pv_bool fun _ => nev85 _ _ _ _ _ _ _ _ _) ?_)) | refine And.intro (by kernel_rfl) ?_ | refine And.intro (by omega) ?_ | refine And.intro (by decide) ?_)
    all_goals conv => whnf
    all_goals rfl
theorem kkAhead_fn (i a b j c d n m : Int) : FnOK Try.prog 10 [pt i a b, pt j c d, rat n m] (retBI (aheadV i a b j c d n m)) := by
  refine fn_ok (by kernel_rfl) ty_ok Try.func10 rfl (fun _ _ => Try.call10 _ _) rfl ?_
  intro hw
  have HT := kkTwo_fn i a b j c d n m
  unfold aheadV
  split
  · rename_i h
    obtain ⟨h1, h2, h3, h4⟩ := two02_ok h
    rw [h] at HT
    have HC := kkLeads_fn i a b j c d n m h1 h2
    simp only [ret1, retBI] at *
    generalize leadN i b j d ((a - c) * m + (b - d) * n) = l at *
    repeat' ((conv => whnf); first | (with_reducible refine br_t ?_) | (with_reducible refine br_f ?_) | ((with_reducible refine brd_t ?_ ?_); (first | omega | decide)) | ((with_reducible refine brd_f ?_ ?_); (first | omega | decide)) | (with_reducible refine brd (fun h => ?_) (fun h => ?_)) | ((with_reducible refine bre_t ?_ ?_); (first | omega | decide)) | ((with_reducible refine bre_f ?_ ?_); (first | omega | decide)) | (with_reducible refine bre (fun h => ?_) (fun h => ?_)) | ((with_reducible refine brn_t ?_ ?_); (first | omega | decide)) | ((with_reducible refine brn_f ?_ ?_); (first | omega | decide)) | (with_reducible refine brn (fun h => ?_) (fun h => ?_)) | (with_reducible refine brb_tt ?_) | (with_reducible refine brb_ff ?_) | (with_reducible refine brb_tf ?_) | (with_reducible refine brb_ft ?_) | (with_reducible refine bnb_tt ?_) | (with_reducible refine bnb_ff ?_) | (with_reducible refine bnb_tf ?_) | (with_reducible refine bnb_ft ?_) | (with_reducible refine brnot ?_) | (refine br_t' (by assumption) ?_) | (refine br_f' (by assumption) ?_) | (with_reducible refine br_i (fun h => ?_) (fun h => ?_)) | (with_reducible refine Exists.intro _ (And.intro (HT) ?_)) | (with_reducible refine Exists.intro _ (And.intro (HC) ?_)) | (with_reducible refine Exists.intro _ (And.intro (pv_bool fun _ => eqv23 _ _ _ _ _ _ _ _ _) ?_)) | (with_reducible refine Exists.intro _ (And.intro (pv_bool fun _ => nev23 _ _ _ _ _ _ _ _ _) ?_)) | (with_reducible refine Exists.intro _ (And.intro (pv_bool fun _ => eqv25 _ _ _ _ _ _ _) ?_)) | (with_reducible refine Exists.intro _ (And.intro (pv_bool fun _ => nev25 _ _ _ _ _ _ _) ?_)) | (with_reducible refine Exists.intro _ (And.intro (pv_bool fun _ => eqv61 _ _ _ _ _ _ _) ?_)) | (with_reducible refine Exists.intro _ (And.intro (pv_bool fun _ => nev61 _ _ _ _ _ _ _) ?_)) | (with_reducible refine Exists.intro _ (And.intro (pv_bool fun _ => eqv70 _ _ _ _ _ _ _ _ _) ?_)) | (with_reducible refine Exists.intro _ (And.intro (pv_bool fun _ => nev70 _ _ _ _ _ _ _ _ _) ?_)) | (with_reducible refine Exists.intro _ (And.intro (pv_bool fun _ => eqv85 _ _ _ _ _ _ _ _ _) ?_)) | (with_reducible refine Exists.intro _ (And.intro (pv_bool fun _ => nev85 _ _ _ _ _ _ _ _ _) ?_)) | refine And.intro (by kernel_rfl) ?_ | refine And.intro (by omega) ?_ | refine And.intro (by decide) ?_)
    all_goals conv => whnf
    all_goals rfl
  · rename_i h
    simp only [ret1, retBI] at *
    generalize two02 i a b j c d n m = e at *
    repeat' ((conv => whnf); first | (with_reducible refine br_t ?_) | (with_reducible refine br_f ?_) | ((with_reducible refine brd_t ?_ ?_); (first | omega | decide)) | ((with_reducible refine brd_f ?_ ?_); (first | omega | decide)) | (with_reducible refine brd (fun h => ?_) (fun h => ?_)) | ((with_reducible refine bre_t ?_ ?_); (first | omega | decide)) | ((with_reducible refine bre_f ?_ ?_); (first | omega | decide)) | (with_reducible refine bre (fun h => ?_) (fun h => ?_)) | ((with_reducible refine brn_t ?_ ?_); (first | omega | decide)) | ((with_reducible refine brn_f ?_ ?_); (first | omega | decide)) | (with_reducible refine brn (fun h => ?_) (fun h => ?_)) | (with_reducible refine brb_tt ?_) | (with_reducible refine brb_ff ?_) | (with_reducible refine brb_tf ?_) | (with_reducible refine brb_ft ?_) | (with_reducible refine bnb_tt ?_) | (with_reducible refine bnb_ff ?_) | (with_reducible refine bnb_tf ?_) | (with_reducible refine bnb_ft ?_) | (with_reducible refine brnot ?_) | (refine br_t' (by assumption) ?_) | (refine br_f' (by assumption) ?_) | (with_reducible refine br_i (fun h => ?_) (fun h => ?_)) | (with_reducible refine Exists.intro _ (And.intro (HT) ?_)) | (with_reducible refine Exists.intro _ (And.intro (pv_bool fun _ => eqv23 _ _ _ _ _ _ _ _ _) ?_)) | (with_reducible refine Exists.intro _ (And.intro (pv_bool fun _ => nev23 _ _ _ _ _ _ _ _ _) ?_)) | (with_reducible refine Exists.intro _ (And.intro (pv_bool fun _ => eqv25 _ _ _ _ _ _ _) ?_)) | (with_reducible refine Exists.intro _ (And.intro (pv_bool fun _ => nev25 _ _ _ _ _ _ _) ?_)) | (with_reducible refine Exists.intro _ (And.intro (pv_bool fun _ => eqv61 _ _ _ _ _ _ _) ?_)) | (with_reducible refine Exists.intro _ (And.intro (pv_bool fun _ => nev61 _ _ _ _ _ _ _) ?_)) | (with_reducible refine Exists.intro _ (And.intro (pv_bool fun _ => eqv70 _ _ _ _ _ _ _ _ _) ?_)) | (with_reducible refine Exists.intro _ (And.intro (pv_bool fun _ => nev70 _ _ _ _ _ _ _ _ _) ?_)) | (with_reducible refine Exists.intro _ (And.intro (pv_bool fun _ => eqv85 _ _ _ _ _ _ _ _ _) ?_)) | (with_reducible refine Exists.intro _ (And.intro (pv_bool fun _ => nev85 _ _ _ _ _ _ _ _ _) ?_)) | refine And.intro (by kernel_rfl) ?_ | refine And.intro (by omega) ?_ | refine And.intro (by decide) ?_)
    all_goals conv => whnf
    all_goals rfl
end Go.Proofs.Ytffamgiknfphaaa
