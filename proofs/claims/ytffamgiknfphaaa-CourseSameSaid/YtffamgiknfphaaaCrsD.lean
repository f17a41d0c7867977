

/- What layer 2 computes: meetings and failure times. No conditions. -/
import Derived.Test.YtffamgiknfphaaaCrsC
import Derived.Test.YtffamgiknfphaaaRatS
namespace Go.Proofs.Ytffamgiknfphaaa
open Go.RowKit Go.Sort Sx
set_option linter.unusedVariables false

theorem makeV_neg (n d : Int) (hd : d ≠ 0) : makeV (-n) (-d) = makeV n d := by
  unfold makeV
  rw [if_neg (by omega), if_neg hd, Int.natAbs_neg, Int.natAbs_neg]
  by_cases hn : n = 0
  · subst hn
    exact (by simpa using buildN_zero _ _ _)
  · congr 1
    by_cases h1 : n < 0 <;> by_cases h2 : d < 0
    all_goals
      first | rw [decide_eq_true h1] | rw [decide_eq_false h1]
      first | rw [decide_eq_true h2] | rw [decide_eq_false h2]
      first | rw [decide_eq_true (show -n < 0 by omega)] | rw [decide_eq_false (show ¬ -n < 0 by omega)]
      first | rw [decide_eq_true (show -d < 0 by omega)] | rw [decide_eq_false (show ¬ -d < 0 by omega)]
      rfl
theorem makeV_q (n d : Int) (hd : 0 < d) : makeV n d = outQ (qv n d) := by
  unfold makeV
  rw [if_neg (by omega)]
  have e1 : (qv n d).num = n / (Nat.gcd n.natAbs d.natAbs : Nat) := by
    unfold qv
    rw [Rat.num_mkRat, if_neg (by omega), show d.toNat = d.natAbs by omega, Nat.gcd_comm]
  have e2 : (qv n d).den = d.natAbs / Nat.gcd n.natAbs d.natAbs := by
    unfold qv
    rw [Rat.den_mkRat, if_neg (by omega), show d.toNat = d.natAbs by omega, Nat.gcd_comm]
  have hg : 0 < Nat.gcd n.natAbs d.natAbs := Nat.gcd_pos_of_pos_right _ (by omega)
  have hdv : ((Nat.gcd n.natAbs d.natAbs : Nat) : Int) ∣ n := by
    rw [← Int.dvd_natAbs, Int.ofNat_dvd]; exact Nat.gcd_dvd_left _ _
  refine build_q _ _ _ _ e2.symm ?_ ?_
  · rw [e1, Int.natAbs_ediv_of_dvd hdv]; simp
  · intro hne
    rw [e1] at hne ⊢
    have hG : (0 : Int) < ((Nat.gcd n.natAbs d.natAbs : Nat) : Int) := by omega
    clear hg e1 e2
    generalize ((Nat.gcd n.natAbs d.natAbs : Nat) : Int) = G at *
    obtain ⟨k, rfl⟩ := hdv
    rw [Int.mul_ediv_cancel_left _ (by omega)] at hne ⊢
    rw [decide_eq_false (show ¬ d < 0 by omega)]
    rcases (show k < 0 ∨ 0 < k by omega) with hk | hk
    · have := Int.mul_neg_of_pos_of_neg hG hk
      rw [decide_eq_true hk, decide_eq_true this]; rfl
    · have := Int.mul_pos hG hk
      rw [decide_eq_false (show ¬ k < 0 by omega), decide_eq_false (show ¬ G * k < 0 by omega)]; rfl
theorem qv_neg2 (n d : Int) (h : d < 0) : makeV n d = outQ (qv (-n) (-d)) := by
  rw [← makeV_neg n d (by omega), makeV_q _ _ (by omega)]
/-- the meeting of two points with small differences has a place -/
theorem met_ok {x y : Int} (hy : y ≠ 0) (x0 : -2097152 ≤ x) (x1 : x ≤ 2097152) (y0 : -2097152 ≤ y) (y1 : y ≤ 2097152) :
    ∃ n d, makeV x y = (n, d, 0) ∧ chk n d = 0 ∧ 1 ≤ d ∧ d ≤ 2097152 ∧ -2097152 ≤ n ∧ n ≤ 2097152 ∧ n * y = x * d := by
  rcases (show 0 < y ∨ y < 0 by omega) with h | h
  · obtain ⟨n, d, e, c, q, d1, d2, n1⟩ := outQ_sm (n := x) (d := y) (by omega) (by omega) (by omega) (by omega)
    refine ⟨n, d, by rw [makeV_q _ _ h, e], c, by omega, by omega, by omega, by omega, ?_⟩
    exact (qv_eq (by omega) (by omega)).1 q
  · obtain ⟨n, d, e, c, q, d1, d2, n1⟩ := outQ_sm (n := -x) (d := -y) (by omega) (by omega) (by omega) (by omega)
    refine ⟨n, d, by rw [qv_neg2 _ _ h, e], c, by omega, by omega, by omega, by omega, ?_⟩
    have := (qv_eq (by omega) (by omega)).1 q
    rw [Int.mul_neg, Int.neg_mul] at this
    omega
theorem rmake_fn (n d : Int) : FnOK Try.prog 55 [.one (i64 n), .one (i64 d)] (ret3 (makeV n d)) := by
  refine fn_of_calls (fun _ _ => Try.call55 _ _) rfl rfl (fun h => ?_) (fun h w => ?_)
  · simp only [WDV, WDCs, WDC, WDs, wd_i64, and_true]
    have := makeV_rng n d
    omega
  · obtain ⟨_, _, _, _⟩ := wdii h
    exact rmakeV_any n d w (by omega) (by omega) (by omega) (by omega)
/-- the meeting, at any arguments -/
def meetV (i a b j c d : Int) : Int × Int × Int := if two02 i a b j c d 0 1 = 0 then (if b = d then (0, 0, 6) else makeV (a - c) (d - b)) else (0, 0, two02 i a b j c d 0 1)
theorem kMeet_fn (i a b j c d : Int) : FnOK Try.prog 11 [pt i a b, pt j c d] (ret3 (meetV i a b j c d)) := by
  refine fn_ok (by kernel_rfl) ty_ok Try.func11 rfl (fun _ _ => Try.call11 _ _) rfl ?_
  intro hw
  have HT := ktwo_fn i a b j c d 0 1
  unfold meetV
  split
  · rename_i h
    obtain ⟨h1, h2, h3, h4⟩ := two02_ok h
    have g1 := cpt_ok h1
    have g2 := cpt_ok h2
    rw [h] at HT
    have HM := make_fn (a - c) (d - b)
    rw [show a - c = IntKind.i64.wrap (a - c) from (IntWalk.i64_in _ (by omega)).symm, show d - b = IntKind.i64.wrap (d - b) from (IntWalk.i64_in _ (by omega)).symm] at HM
    rw [show makeV (a - c) (d - b) = makeV (IntKind.i64.wrap (a - c)) (IntKind.i64.wrap (d - b)) by rw [IntWalk.i64_in (a - c) (by omega), IntWalk.i64_in (d - b) (by omega)]]
    simp only [ret1, ret3] at *
    generalize makeV (IntKind.i64.wrap (a - c)) (IntKind.i64.wrap (d - b)) = mk at *
    repeat' ((conv => whnf); first | (with_reducible refine br_t ?_) | (with_reducible refine br_f ?_) | ((with_reducible refine brd_t ?_ ?_); (first | omega | decide)) | ((with_reducible refine brd_f ?_ ?_); (first | omega | decide)) | (with_reducible refine brd (fun h => ?_) (fun h => ?_)) | ((with_reducible refine bre_t ?_ ?_); (first | omega | decide)) | ((with_reducible refine bre_f ?_ ?_); (first | omega | decide)) | (with_reducible refine bre (fun h => ?_) (fun h => ?_)) | ((with_reducible refine brn_t ?_ ?_); (first | omega | decide)) | ((with_reducible refine brn_f ?_ ?_); (first | omega | decide)) | (with_reducible refine brn (fun h => ?_) (fun h => ?_)) | (with_reducible refine brb_tt ?_) | (with_reducible refine brb_ff ?_) | (with_reducible refine brb_tf ?_) | (with_reducible refine brb_ft ?_) | (with_reducible refine bnb_tt ?_) | (with_reducible refine bnb_ff ?_) | (with_reducible refine bnb_tf ?_) | (with_reducible refine bnb_ft ?_) | (with_reducible refine brnot ?_) | (refine br_t' (by assumption) ?_) | (refine br_f' (by assumption) ?_) | (with_reducible refine br_i (fun h => ?_) (fun h => ?_)) | (with_reducible refine Exists.intro _ (And.intro (HT) ?_)) | (with_reducible refine Exists.intro _ (And.intro (HM) ?_)) | (with_reducible refine Exists.intro _ (And.intro (pv_bool fun _ => eqv23 _ _ _ _ _ _ _ _ _) ?_)) | (with_reducible refine Exists.intro _ (And.intro (pv_bool fun _ => nev23 _ _ _ _ _ _ _ _ _) ?_)) | (with_reducible refine Exists.intro _ (And.intro (pv_bool fun _ => eqv25 _ _ _ _ _ _ _) ?_)) | (with_reducible refine Exists.intro _ (And.intro (pv_bool fun _ => nev25 _ _ _ _ _ _ _) ?_)) | (with_reducible refine Exists.intro _ (And.intro (pv_bool fun _ => eqv61 _ _ _ _ _ _ _) ?_)) | (with_reducible refine Exists.intro _ (And.intro (pv_bool fun _ => nev61 _ _ _ _ _ _ _) ?_)) | (with_reducible refine Exists.intro _ (And.intro (pv_bool fun _ => eqv70 _ _ _ _ _ _ _ _ _) ?_)) | (with_reducible refine Exists.intro _ (And.intro (pv_bool fun _ => nev70 _ _ _ _ _ _ _ _ _) ?_)) | (with_reducible refine Exists.intro _ (And.intro (pv_bool fun _ => eqv85 _ _ _ _ _ _ _ _ _) ?_)) | (with_reducible refine Exists.intro _ (And.intro (pv_bool fun _ => nev85 _ _ _ _ _ _ _ _ _) ?_)) | refine And.intro (by kernel_rfl) ?_ | refine And.intro (by omega) ?_ | refine And.intro (by decide) ?_)
    all_goals conv => whnf
    all_goals
      (repeat' split) <;> first | rfl | (exfalso; omega)
  · rename_i h
    simp only [ret1, ret3] at *
    generalize two02 i a b j c d 0 1 = e at *
    repeat' ((conv => whnf); first | (with_reducible refine br_t ?_) | (with_reducible refine br_f ?_) | ((with_reducible refine brd_t ?_ ?_); (first | omega | decide)) | ((with_reducible refine brd_f ?_ ?_); (first | omega | decide)) | (with_reducible refine brd (fun h => ?_) (fun h => ?_)) | ((with_reducible refine bre_t ?_ ?_); (first | omega | decide)) | ((with_reducible refine bre_f ?_ ?_); (first | omega | decide)) | (with_reducible refine bre (fun h => ?_) (fun h => ?_)) | ((with_reducible refine brn_t ?_ ?_); (first | omega | decide)) | ((with_reducible refine brn_f ?_ ?_); (first | omega | decide)) | (with_reducible refine brn (fun h => ?_) (fun h => ?_)) | (with_reducible refine brb_tt ?_) | (with_reducible refine brb_ff ?_) | (with_reducible refine brb_tf ?_) | (with_reducible refine brb_ft ?_) | (with_reducible refine bnb_tt ?_) | (with_reducible refine bnb_ff ?_) | (with_reducible refine bnb_tf ?_) | (with_reducible refine bnb_ft ?_) | (with_reducible refine brnot ?_) | (refine br_t' (by assumption) ?_) | (refine br_f' (by assumption) ?_) | (with_reducible refine br_i (fun h => ?_) (fun h => ?_)) | (with_reducible refine Exists.intro _ (And.intro (HT) ?_)) | (with_reducible refine Exists.intro _ (And.intro (pv_bool fun _ => eqv23 _ _ _ _ _ _ _ _ _) ?_)) | (with_reducible refine Exists.intro _ (And.intro (pv_bool fun _ => nev23 _ _ _ _ _ _ _ _ _) ?_)) | (with_reducible refine Exists.intro _ (And.intro (pv_bool fun _ => eqv25 _ _ _ _ _ _ _) ?_)) | (with_reducible refine Exists.intro _ (And.intro (pv_bool fun _ => nev25 _ _ _ _ _ _ _) ?_)) | (with_reducible refine Exists.intro _ (And.intro (pv_bool fun _ => eqv61 _ _ _ _ _ _ _) ?_)) | (with_reducible refine Exists.intro _ (And.intro (pv_bool fun _ => nev61 _ _ _ _ _ _ _) ?_)) | (with_reducible refine Exists.intro _ (And.intro (pv_bool fun _ => eqv70 _ _ _ _ _ _ _ _ _) ?_)) | (with_reducible refine Exists.intro _ (And.intro (pv_bool fun _ => nev70 _ _ _ _ _ _ _ _ _) ?_)) | (with_reducible refine Exists.intro _ (And.intro (pv_bool fun _ => eqv85 _ _ _ _ _ _ _ _ _) ?_)) | (with_reducible refine Exists.intro _ (And.intro (pv_bool fun _ => nev85 _ _ _ _ _ _ _ _ _) ?_)) | refine And.intro (by kernel_rfl) ?_ | refine And.intro (by omega) ?_ | refine And.intro (by decide) ?_)
    all_goals conv => whnf
    all_goals rfl
theorem kkMet_fn (i a b j c d : Int) (h1 : cpt i a b = 0) (h2 : cpt j c d = 0) : FnOK Try.prog 30 [pt i a b, pt j c d] (.c (rat (makeV (a - c) (d - b)).1 (makeV (a - c) (d - b)).2.1)) := by
  refine fn_ok (by kernel_rfl) ty_ok Try.func30 rfl (fun _ _ => Try.call30 _ _) rfl ?_
  intro hw
  have g1 := cpt_ok h1
  have g2 := cpt_ok h2
  have HM := rmake_fn (a - c) (d - b)
  rw [show a - c = IntKind.i64.wrap (a - c) from (IntWalk.i64_in _ (by omega)).symm, show d - b = IntKind.i64.wrap (d - b) from (IntWalk.i64_in _ (by omega)).symm] at HM
  rw [show makeV (a - c) (d - b) = makeV (IntKind.i64.wrap (a - c)) (IntKind.i64.wrap (d - b)) by rw [IntWalk.i64_in (a - c) (by omega), IntWalk.i64_in (d - b) (by omega)]]
  simp only [ret1, ret3] at *
  generalize makeV (IntKind.i64.wrap (a - c)) (IntKind.i64.wrap (d - b)) = mk at *
  repeat' ((conv => whnf); first | (with_reducible refine br_t ?_) | (with_reducible refine br_f ?_) | ((with_reducible refine brd_t ?_ ?_); (first | omega | decide)) | ((with_reducible refine brd_f ?_ ?_); (first | omega | decide)) | (with_reducible refine brd (fun h => ?_) (fun h => ?_)) | ((with_reducible refine bre_t ?_ ?_); (first | omega | decide)) | ((with_reducible refine bre_f ?_ ?_); (first | omega | decide)) | (with_reducible refine bre (fun h => ?_) (fun h => ?_)) | ((with_reducible refine brn_t ?_ ?_); (first | omega | decide)) | ((with_reducible refine brn_f ?_ ?_); (first | omega | decide)) | (with_reducible refine brn (fun h => ?_) (fun h => ?_)) | (with_reducible refine brb_tt ?_) | (with_reducible refine brb_ff ?_) | (with_reducible refine brb_tf ?_) | (with_reducible refine brb_ft ?_) | (with_reducible refine bnb_tt ?_) | (with_reducible refine bnb_ff ?_) | (with_reducible refine bnb_tf ?_) | (with_reducible refine bnb_ft ?_) | (with_reducible refine brnot ?_) | (refine br_t' (by assumption) ?_) | (refine br_f' (by assumption) ?_) | (with_reducible refine br_i (fun h => ?_) (fun h => ?_)) | (with_reducible refine Exists.intro _ (And.intro (HM) ?_)) | (with_reducible refine Exists.intro _ (And.intro (pv_bool fun _ => eqv23 _ _ _ _ _ _ _ _ _) ?_)) | (with_reducible refine Exists.intro _ (And.intro (pv_bool fun _ => nev23 _ _ _ _ _ _ _ _ _) ?_)) | (with_reducible refine Exists.intro _ (And.intro (pv_bool fun _ => eqv25 _ _ _ _ _ _ _) ?_)) | (with_reducible refine Exists.intro _ (And.intro (pv_bool fun _ => nev25 _ _ _ _ _ _ _) ?_)) | (with_reducible refine Exists.intro _ (And.intro (pv_bool fun _ => eqv61 _ _ _ _ _ _ _) ?_)) | (with_reducible refine Exists.intro _ (And.intro (pv_bool fun _ => nev61 _ _ _ _ _ _ _) ?_)) | (with_reducible refine Exists.intro _ (And.intro (pv_bool fun _ => eqv70 _ _ _ _ _ _ _ _ _) ?_)) | (with_reducible refine Exists.intro _ (And.intro (pv_bool fun _ => nev70 _ _ _ _ _ _ _ _ _) ?_)) | (with_reducible refine Exists.intro _ (And.intro (pv_bool fun _ => eqv85 _ _ _ _ _ _ _ _ _) ?_)) | (with_reducible refine Exists.intro _ (And.intro (pv_bool fun _ => nev85 _ _ _ _ _ _ _ _ _) ?_)) | refine And.intro (by kernel_rfl) ?_ | refine And.intro (by omega) ?_ | refine And.intro (by decide) ?_)
  all_goals conv => whnf
  all_goals rfl
theorem meet_e {i a b j c d : Int} (h1 : cpt i a b = 0) (h2 : cpt j c d = 0) (h : b ≠ d) : ∃ n m, makeV (a - c) (d - b) = (n, m, 0) ∧ chk n m = 0 ∧ 1 ≤ m ∧ m ≤ 2097152 ∧ -2097152 ≤ n ∧ n ≤ 2097152 ∧ n * (d - b) = (a - c) * m := by
  have g1 := cpt_ok h1
  have g2 := cpt_ok h2
  exact met_ok (by omega) (by omega) (by omega) (by omega) (by omega)
theorem kkMeet_fn (i a b j c d : Int) : FnOK Try.prog 12 [pt i a b, pt j c d] (ret3 (meetV i a b j c d)) := by
  refine fn_ok (by kernel_rfl) ty_ok Try.func12 rfl (fun _ _ => Try.call12 _ _) rfl ?_
  intro hw
  have HT := kkTwo_fn i a b j c d 0 1
  unfold meetV
  split
  · rename_i h
    obtain ⟨h1, h2, h3, h4⟩ := two02_ok h
    rw [h] at HT
    have HM := kkMet_fn i a b j c d h1 h2
    split
    · rename_i hb
      simp only [ret1, ret3] at *
      repeat' ((conv => whnf); first | (with_reducible refine br_t ?_) | (with_reducible refine br_f ?_) | ((with_reducible refine brd_t ?_ ?_); (first | omega | decide)) | ((with_reducible refine brd_f ?_ ?_); (first | omega | decide)) | (with_reducible refine brd (fun h => ?_) (fun h => ?_)) | ((with_reducible refine bre_t ?_ ?_); (first | omega | decide)) | ((with_reducible refine bre_f ?_ ?_); (first | omega | decide)) | (with_reducible refine bre (fun h => ?_) (fun h => ?_)) | ((with_reducible refine brn_t ?_ ?_); (first | omega | decide)) | ((with_reducible refine brn_f ?_ ?_); (first | omega | decide)) | (with_reducible refine brn (fun h => ?_) (fun h => ?_)) | (with_reducible refine brb_tt ?_) | (with_reducible refine brb_ff ?_) | (with_reducible refine brb_tf ?_) | (with_reducible refine brb_ft ?_) | (with_reducible refine bnb_tt ?_) | (with_reducible refine bnb_ff ?_) | (with_reducible refine bnb_tf ?_) | (with_reducible refine bnb_ft ?_) | (with_reducible refine brnot ?_) | (refine br_t' (by assumption) ?_) | (refine br_f' (by assumption) ?_) | (with_reducible refine br_i (fun h => ?_) (fun h => ?_)) | (with_reducible refine Exists.intro _ (And.intro (HT) ?_)) | (with_reducible refine Exists.intro _ (And.intro (pv_bool fun _ => eqv23 _ _ _ _ _ _ _ _ _) ?_)) | (with_reducible refine Exists.intro _ (And.intro (pv_bool fun _ => nev23 _ _ _ _ _ _ _ _ _) ?_)) | (with_reducible refine Exists.intro _ (And.intro (pv_bool fun _ => eqv25 _ _ _ _ _ _ _) ?_)) | (with_reducible refine Exists.intro _ (And.intro (pv_bool fun _ => nev25 _ _ _ _ _ _ _) ?_)) | (with_reducible refine Exists.intro _ (And.intro (pv_bool fun _ => eqv61 _ _ _ _ _ _ _) ?_)) | (with_reducible refine Exists.intro _ (And.intro (pv_bool fun _ => nev61 _ _ _ _ _ _ _) ?_)) | (with_reducible refine Exists.intro _ (And.intro (pv_bool fun _ => eqv70 _ _ _ _ _ _ _ _ _) ?_)) | (with_reducible refine Exists.intro _ (And.intro (pv_bool fun _ => nev70 _ _ _ _ _ _ _ _ _) ?_)) | (with_reducible refine Exists.intro _ (And.intro (pv_bool fun _ => eqv85 _ _ _ _ _ _ _ _ _) ?_)) | (with_reducible refine Exists.intro _ (And.intro (pv_bool fun _ => nev85 _ _ _ _ _ _ _ _ _) ?_)) | refine And.intro (by kernel_rfl) ?_ | refine And.intro (by omega) ?_ | refine And.intro (by decide) ?_)
      all_goals conv => whnf
      all_goals rfl
    · rename_i hb
      obtain ⟨n, m, e, _⟩ := meet_e h1 h2 hb
      rw [e] at HM ⊢
      simp only [ret1, ret3] at *
      repeat' ((conv => whnf); first | (with_reducible refine br_t ?_) | (with_reducible refine br_f ?_) | ((with_reducible refine brd_t ?_ ?_); (first | omega | decide)) | ((with_reducible refine brd_f ?_ ?_); (first | omega | decide)) | (with_reducible refine brd (fun h => ?_) (fun h => ?_)) | ((with_reducible refine bre_t ?_ ?_); (first | omega | decide)) | ((with_reducible refine bre_f ?_ ?_); (first | omega | decide)) | (with_reducible refine bre (fun h => ?_) (fun h => ?_)) | ((with_reducible refine brn_t ?_ ?_); (first | omega | decide)) | ((with_reducible refine brn_f ?_ ?_); (first | omega | decide)) | (with_reducible refine brn (fun h => ?_) (fun h => ?_)) | (with_reducible refine brb_tt ?_) | (with_reducible refine brb_ff ?_) | (with_reducible refine brb_tf ?_) | (with_reducible refine brb_ft ?_) | (with_reducible refine bnb_tt ?_) | (with_reducible refine bnb_ff ?_) | (with_reducible refine bnb_tf ?_) | (with_reducible refine bnb_ft ?_) | (with_reducible refine brnot ?_) | (refine br_t' (by assumption) ?_) | (refine br_f' (by assumption) ?_) | (with_reducible refine br_i (fun h => ?_) (fun h => ?_)) | (with_reducible refine Exists.intro _ (And.intro (HT) ?_)) | (with_reducible refine Exists.intro _ (And.intro (HM) ?_)) | (with_reducible refine Exists.intro _ (And.intro (pv_bool fun _ => eqv23 _ _ _ _ _ _ _ _ _) ?_)) | (with_reducible refine Exists.intro _ (And.intro (pv_bool fun _ => nev23 _ _ _ _ _ _ _ _ _) ?_)) | (with_reducible refine Exists.intro _ (And.intro (pv_bool fun _ => eqv25 _ _ _ _ _ _ _) ?_)) | (with_reducible refine Exists.intro _ (And.intro (pv_bool fun _ => nev25 _ _ _ _ _ _ _) ?_)) | (with_reducible refine Exists.intro _ (And.intro (pv_bool fun _ => eqv61 _ _ _ _ _ _ _) ?_)) | (with_reducible refine Exists.intro _ (And.intro (pv_bool fun _ => nev61 _ _ _ _ _ _ _) ?_)) | (with_reducible refine Exists.intro _ (And.intro (pv_bool fun _ => eqv70 _ _ _ _ _ _ _ _ _) ?_)) | (with_reducible refine Exists.intro _ (And.intro (pv_bool fun _ => nev70 _ _ _ _ _ _ _ _ _) ?_)) | (with_reducible refine Exists.intro _ (And.intro (pv_bool fun _ => eqv85 _ _ _ _ _ _ _ _ _) ?_)) | (with_reducible refine Exists.intro _ (And.intro (pv_bool fun _ => nev85 _ _ _ _ _ _ _ _ _) ?_)) | refine And.intro (by kernel_rfl) ?_ | refine And.intro (by omega) ?_ | refine And.intro (by decide) ?_)
      all_goals conv => whnf
      all_goals rfl
  · rename_i h
    simp only [ret1, ret3] at *
    generalize two02 i a b j c d 0 1 = e at *
    repeat' ((conv => whnf); first | (with_reducible refine br_t ?_) | (with_reducible refine br_f ?_) | ((with_reducible refine brd_t ?_ ?_); (first | omega | decide)) | ((with_reducible refine brd_f ?_ ?_); (first | omega | decide)) | (with_reducible refine brd (fun h => ?_) (fun h => ?_)) | ((with_reducible refine bre_t ?_ ?_); (first | omega | decide)) | ((with_reducible refine bre_f ?_ ?_); (first | omega | decide)) | (with_reducible refine bre (fun h => ?_) (fun h => ?_)) | ((with_reducible refine brn_t ?_ ?_); (first | omega | decide)) | ((with_reducible refine brn_f ?_ ?_); (first | omega | decide)) | (with_reducible refine brn (fun h => ?_) (fun h => ?_)) | (with_reducible refine brb_tt ?_) | (with_reducible refine brb_ff ?_) | (with_reducible refine brb_tf ?_) | (with_reducible refine brb_ft ?_) | (with_reducible refine bnb_tt ?_) | (with_reducible refine bnb_ff ?_) | (with_reducible refine bnb_tf ?_) | (with_reducible refine bnb_ft ?_) | (with_reducible refine brnot ?_) | (refine br_t' (by assumption) ?_) | (refine br_f' (by assumption) ?_) | (with_reducible refine br_i (fun h => ?_) (fun h => ?_)) | (with_reducible refine Exists.intro _ (And.intro (HT) ?_)) | (with_reducible refine Exists.intro _ (And.intro (pv_bool fun _ => eqv23 _ _ _ _ _ _ _ _ _) ?_)) | (with_reducible refine Exists.intro _ (And.intro (pv_bool fun _ => nev23 _ _ _ _ _ _ _ _ _) ?_)) | (with_reducible refine Exists.intro _ (And.intro (pv_bool fun _ => eqv25 _ _ _ _ _ _ _) ?_)) | (with_reducible refine Exists.intro _ (And.intro (pv_bool fun _ => nev25 _ _ _ _ _ _ _) ?_)) | (with_reducible refine Exists.intro _ (And.intro (pv_bool fun _ => eqv61 _ _ _ _ _ _ _) ?_)) | (with_reducible refine Exists.intro _ (And.intro (pv_bool fun _ => nev61 _ _ _ _ _ _ _) ?_)) | (with_reducible refine Exists.intro _ (And.intro (pv_bool fun _ => eqv70 _ _ _ _ _ _ _ _ _) ?_)) | (with_reducible refine Exists.intro _ (And.intro (pv_bool fun _ => nev70 _ _ _ _ _ _ _ _ _) ?_)) | (with_reducible refine Exists.intro _ (And.intro (pv_bool fun _ => eqv85 _ _ _ _ _ _ _ _ _) ?_)) | (with_reducible refine Exists.intro _ (And.intro (pv_bool fun _ => nev85 _ _ _ _ _ _ _ _ _) ?_)) | refine And.intro (by kernel_rfl) ?_ | refine And.intro (by omega) ?_ | refine And.intro (by decide) ?_)
    all_goals conv => whnf
    all_goals rfl
theorem two02_01 {i a b j c d n m : Int} (h : two02 i a b j c d n m = 0) : two02 i a b j c d 0 1 = 0 := by
  obtain ⟨h1, h2, h3, h4⟩ := two02_ok h
  unfold two02
  rw [if_pos ⟨h1, h2, rfl⟩, if_neg h4]
/-- the failure time, at any arguments -/
def failsV (i a b j c d n m : Int) : Int × Int × Bool × Int :=
  if two02 i a b j c d n m = 0 then
    (if leadN j d i b ((c - a) * m + (d - b) * n) > 0 then (n, m, true, 0) else if d ≤ b then (0, 0, false, 0) else ((makeV (a - c) (d - b)).1, (makeV (a - c) (d - b)).2.1, true, 0))
  else (0, 0, false, two02 i a b j c d n m)
abbrev retF (x : Int × Int × Bool × Int) : DV := .tup [.agg [i64 x.1, i64 x.2.1], .one (bol x.2.2.1), .one (i64 x.2.2.2)]
theorem kFails_fn (i a b j c d n m : Int) : FnOK Try.prog 13 [pt i a b, pt j c d, rat n m] (retF (failsV i a b j c d n m)) := by
  refine fn_ok (by kernel_rfl) ty_ok Try.func13 rfl (fun _ _ => Try.call13 _ _) rfl ?_
  intro hw
  have HT := ktwo_fn i a b j c d n m
  unfold failsV
  split
  · rename_i h
    obtain ⟨h1, h2, h3, h4⟩ := two02_ok h
    have HM := kMeet_fn i a b j c d
    unfold meetV at HM
    rw [if_pos (two02_01 h)] at HM
    rw [h] at HT
    have HC := kcompare_fn j c d i a b n m h2 h1
    simp only [ret1, ret3] at *
    generalize leadN j d i b ((c - a) * m + (d - b) * n) = l at *
    by_cases hb : b = d
    · rw [if_pos hb] at HM
      repeat' ((conv => whnf); first | (with_reducible refine br_t ?_) | (with_reducible refine br_f ?_) | ((with_reducible refine brd_t ?_ ?_); (first | omega | decide)) | ((with_reducible refine brd_f ?_ ?_); (first | omega | decide)) | (with_reducible refine brd (fun h => ?_) (fun h => ?_)) | ((with_reducible refine bre_t ?_ ?_); (first | omega | decide)) | ((with_reducible refine bre_f ?_ ?_); (first | omega | decide)) | (with_reducible refine bre (fun h => ?_) (fun h => ?_)) | ((with_reducible refine brn_t ?_ ?_); (first | omega | decide)) | ((with_reducible refine brn_f ?_ ?_); (first | omega | decide)) | (with_reducible refine brn (fun h => ?_) (fun h => ?_)) | (with_reducible refine brb_tt ?_) | (with_reducible refine brb_ff ?_) | (with_reducible refine brb_tf ?_) | (with_reducible refine brb_ft ?_) | (with_reducible refine bnb_tt ?_) | (with_reducible refine bnb_ff ?_) | (with_reducible refine bnb_tf ?_) | (with_reducible refine bnb_ft ?_) | (with_reducible refine brnot ?_) | (refine br_t' (by assumption) ?_) | (refine br_f' (by assumption) ?_) | (with_reducible refine br_i (fun h => ?_) (fun h => ?_)) | (with_reducible refine Exists.intro _ (And.intro (HT) ?_)) | (with_reducible refine Exists.intro _ (And.intro (HC) ?_)) | (with_reducible refine Exists.intro _ (And.intro (HM) ?_)) | (with_reducible refine Exists.intro _ (And.intro (pv_bool fun _ => eqv23 _ _ _ _ _ _ _ _ _) ?_)) | (with_reducible refine Exists.intro _ (And.intro (pv_bool fun _ => nev23 _ _ _ _ _ _ _ _ _) ?_)) | (with_reducible refine Exists.intro _ (And.intro (pv_bool fun _ => eqv25 _ _ _ _ _ _ _) ?_)) | (with_reducible refine Exists.intro _ (And.intro (pv_bool fun _ => nev25 _ _ _ _ _ _ _) ?_)) | (with_reducible refine Exists.intro _ (And.intro (pv_bool fun _ => eqv61 _ _ _ _ _ _ _) ?_)) | (with_reducible refine Exists.intro _ (And.intro (pv_bool fun _ => nev61 _ _ _ _ _ _ _) ?_)) | (with_reducible refine Exists.intro _ (And.intro (pv_bool fun _ => eqv70 _ _ _ _ _ _ _ _ _) ?_)) | (with_reducible refine Exists.intro _ (And.intro (pv_bool fun _ => nev70 _ _ _ _ _ _ _ _ _) ?_)) | (with_reducible refine Exists.intro _ (And.intro (pv_bool fun _ => eqv85 _ _ _ _ _ _ _ _ _) ?_)) | (with_reducible refine Exists.intro _ (And.intro (pv_bool fun _ => nev85 _ _ _ _ _ _ _ _ _) ?_)) | refine And.intro (by kernel_rfl) ?_ | refine And.intro (by omega) ?_ | refine And.intro (by decide) ?_)
      all_goals conv => whnf
      all_goals
        (repeat' split) <;> first | rfl | (exfalso; omega)
    · rw [if_neg hb] at HM
      obtain ⟨u, v, e, _⟩ := meet_e h1 h2 hb
      rw [e] at HM ⊢
      simp only at HM
      repeat' ((conv => whnf); first | (with_reducible refine br_t ?_) | (with_reducible refine br_f ?_) | ((with_reducible refine brd_t ?_ ?_); (first | omega | decide)) | ((with_reducible refine brd_f ?_ ?_); (first | omega | decide)) | (with_reducible refine brd (fun h => ?_) (fun h => ?_)) | ((with_reducible refine bre_t ?_ ?_); (first | omega | decide)) | ((with_reducible refine bre_f ?_ ?_); (first | omega | decide)) | (with_reducible refine bre (fun h => ?_) (fun h => ?_)) | ((with_reducible refine brn_t ?_ ?_); (first | omega | decide)) | ((with_reducible refine brn_f ?_ ?_); (first | omega | decide)) | (with_reducible refine brn (fun h => ?_) (fun h => ?_)) | (with_reducible refine brb_tt ?_) | (with_reducible refine brb_ff ?_) | (with_reducible refine brb_tf ?_) | (with_reducible refine brb_ft ?_) | (with_reducible refine bnb_tt ?_) | (with_reducible refine bnb_ff ?_) | (with_reducible refine bnb_tf ?_) | (with_reducible refine bnb_ft ?_) | (with_reducible refine brnot ?_) | (refine br_t' (by assumption) ?_) | (refine br_f' (by assumption) ?_) | (with_reducible refine br_i (fun h => ?_) (fun h => ?_)) | (with_reducible refine Exists.intro _ (And.intro (HT) ?_)) | (with_reducible refine Exists.intro _ (And.intro (HC) ?_)) | (with_reducible refine Exists.intro _ (And.intro (HM) ?_)) | (with_reducible refine Exists.intro _ (And.intro (pv_bool fun _ => eqv23 _ _ _ _ _ _ _ _ _) ?_)) | (with_reducible refine Exists.intro _ (And.intro (pv_bool fun _ => nev23 _ _ _ _ _ _ _ _ _) ?_)) | (with_reducible refine Exists.intro _ (And.intro (pv_bool fun _ => eqv25 _ _ _ _ _ _ _) ?_)) | (with_reducible refine Exists.intro _ (And.intro (pv_bool fun _ => nev25 _ _ _ _ _ _ _) ?_)) | (with_reducible refine Exists.intro _ (And.intro (pv_bool fun _ => eqv61 _ _ _ _ _ _ _) ?_)) | (with_reducible refine Exists.intro _ (And.intro (pv_bool fun _ => nev61 _ _ _ _ _ _ _) ?_)) | (with_reducible refine Exists.intro _ (And.intro (pv_bool fun _ => eqv70 _ _ _ _ _ _ _ _ _) ?_)) | (with_reducible refine Exists.intro _ (And.intro (pv_bool fun _ => nev70 _ _ _ _ _ _ _ _ _) ?_)) | (with_reducible refine Exists.intro _ (And.intro (pv_bool fun _ => eqv85 _ _ _ _ _ _ _ _ _) ?_)) | (with_reducible refine Exists.intro _ (And.intro (pv_bool fun _ => nev85 _ _ _ _ _ _ _ _ _) ?_)) | refine And.intro (by kernel_rfl) ?_ | refine And.intro (by omega) ?_ | refine And.intro (by decide) ?_)
      all_goals conv => whnf
      all_goals
        (repeat' split) <;> first | rfl | (exfalso; omega)
  · rename_i h
    simp only [ret1, ret3] at *
    generalize two02 i a b j c d n m = e at *
    repeat' ((conv => whnf); first | (with_reducible refine br_t ?_) | (with_reducible refine br_f ?_) | ((with_reducible refine brd_t ?_ ?_); (first | omega | decide)) | ((with_reducible refine brd_f ?_ ?_); (first | omega | decide)) | (with_reducible refine brd (fun h => ?_) (fun h => ?_)) | ((with_reducible refine bre_t ?_ ?_); (first | omega | decide)) | ((with_reducible refine bre_f ?_ ?_); (first | omega | decide)) | (with_reducible refine bre (fun h => ?_) (fun h => ?_)) | ((with_reducible refine brn_t ?_ ?_); (first | omega | decide)) | ((with_reducible refine brn_f ?_ ?_); (first | omega | decide)) | (with_reducible refine brn (fun h => ?_) (fun h => ?_)) | (with_reducible refine brb_tt ?_) | (with_reducible refine brb_ff ?_) | (with_reducible refine brb_tf ?_) | (with_reducible refine brb_ft ?_) | (with_reducible refine bnb_tt ?_) | (with_reducible refine bnb_ff ?_) | (with_reducible refine bnb_tf ?_) | (with_reducible refine bnb_ft ?_) | (with_reducible refine brnot ?_) | (refine br_t' (by assumption) ?_) | (refine br_f' (by assumption) ?_) | (with_reducible refine br_i (fun h => ?_) (fun h => ?_)) | (with_reducible refine Exists.intro _ (And.intro (HT) ?_)) | (with_reducible refine Exists.intro _ (And.intro (pv_bool fun _ => eqv23 _ _ _ _ _ _ _ _ _) ?_)) | (with_reducible refine Exists.intro _ (And.intro (pv_bool fun _ => nev23 _ _ _ _ _ _ _ _ _) ?_)) | (with_reducible refine Exists.intro _ (And.intro (pv_bool fun _ => eqv25 _ _ _ _ _ _ _) ?_)) | (with_reducible refine Exists.intro _ (And.intro (pv_bool fun _ => nev25 _ _ _ _ _ _ _) ?_)) | (with_reducible refine Exists.intro _ (And.intro (pv_bool fun _ => eqv61 _ _ _ _ _ _ _) ?_)) | (with_reducible refine Exists.intro _ (And.intro (pv_bool fun _ => nev61 _ _ _ _ _ _ _) ?_)) | (with_reducible refine Exists.intro _ (And.intro (pv_bool fun _ => eqv70 _ _ _ _ _ _ _ _ _) ?_)) | (with_reducible refine Exists.intro _ (And.intro (pv_bool fun _ => nev70 _ _ _ _ _ _ _ _ _) ?_)) | (with_reducible refine Exists.intro _ (And.intro (pv_bool fun _ => eqv85 _ _ _ _ _ _ _ _ _) ?_)) | (with_reducible refine Exists.intro _ (And.intro (pv_bool fun _ => nev85 _ _ _ _ _ _ _ _ _) ?_)) | refine And.intro (by kernel_rfl) ?_ | refine And.intro (by omega) ?_ | refine And.intro (by decide) ?_)
    all_goals conv => whnf
    all_goals rfl
theorem kkFailure_fn (i a b j c d n m : Int) (h1 : cpt i a b = 0) (h2 : cpt j c d = 0) : FnOK Try.prog 31 [pt i a b, pt j c d, rat n m]
    (.tup [.agg [i64 (if leadN j d i b ((c - a) * m + (d - b) * n) > 0 then n else if d ≤ b then 0 else (makeV (a - c) (d - b)).1), i64 (if leadN j d i b ((c - a) * m + (d - b) * n) > 0 then m else if d ≤ b then 0 else (makeV (a - c) (d - b)).2.1)],
      .one (bol (if leadN j d i b ((c - a) * m + (d - b) * n) > 0 then true else if d ≤ b then false else true))]) := by
  refine fn_ok (by kernel_rfl) ty_ok Try.func31 rfl (fun _ _ => Try.call31 _ _) rfl ?_
  intro hw
  have HC := kkLeads_fn j c d i a b n m h2 h1
  have HM := kkMet_fn i a b j c d h1 h2
  generalize leadN j d i b ((c - a) * m + (d - b) * n) = l at *
  generalize makeV (a - c) (d - b) = mk at *
  repeat' ((conv => whnf); first | (with_reducible refine br_t ?_) | (with_reducible refine br_f ?_) | ((with_reducible refine brd_t ?_ ?_); (first | omega | decide)) | ((with_reducible refine brd_f ?_ ?_); (first | omega | decide)) | (with_reducible refine brd (fun h => ?_) (fun h => ?_)) | ((with_reducible refine bre_t ?_ ?_); (first | omega | decide)) | ((with_reducible refine bre_f ?_ ?_); (first | omega | decide)) | (with_reducible refine bre (fun h => ?_) (fun h => ?_)) | ((with_reducible refine brn_t ?_ ?_); (first | omega | decide)) | ((with_reducible refine brn_f ?_ ?_); (first | omega | decide)) | (with_reducible refine brn (fun h => ?_) (fun h => ?_)) | (with_reducible refine brb_tt ?_) | (with_reducible refine brb_ff ?_) | (with_reducible refine brb_tf ?_) | (with_reducible refine brb_ft ?_) | (with_reducible refine bnb_tt ?_) | (with_reducible refine bnb_ff ?_) | (with_reducible refine bnb_tf ?_) | (with_reducible refine bnb_ft ?_) | (with_reducible refine brnot ?_) | (refine br_t' (by assumption) ?_) | (refine br_f' (by assumption) ?_) | (with_reducible refine br_i (fun h => ?_) (fun h => ?_)) | (with_reducible refine Exists.intro _ (And.intro (HC) ?_)) | (with_reducible refine Exists.intro _ (And.intro (HM) ?_)) | (with_reducible refine Exists.intro _ (And.intro (pv_bool fun _ => eqv23 _ _ _ _ _ _ _ _ _) ?_)) | (with_reducible refine Exists.intro _ (And.intro (pv_bool fun _ => nev23 _ _ _ _ _ _ _ _ _) ?_)) | (with_reducible refine Exists.intro _ (And.intro (pv_bool fun _ => eqv25 _ _ _ _ _ _ _) ?_)) | (with_reducible refine Exists.intro _ (And.intro (pv_bool fun _ => nev25 _ _ _ _ _ _ _) ?_)) | (with_reducible refine Exists.intro _ (And.intro (pv_bool fun _ => eqv61 _ _ _ _ _ _ _) ?_)) | (with_reducible refine Exists.intro _ (And.intro (pv_bool fun _ => nev61 _ _ _ _ _ _ _) ?_)) | (with_reducible refine Exists.intro _ (And.intro (pv_bool fun _ => eqv70 _ _ _ _ _ _ _ _ _) ?_)) | (with_reducible refine Exists.intro _ (And.intro (pv_bool fun _ => nev70 _ _ _ _ _ _ _ _ _) ?_)) | (with_reducible refine Exists.intro _ (And.intro (pv_bool fun _ => eqv85 _ _ _ _ _ _ _ _ _) ?_)) | (with_reducible refine Exists.intro _ (And.intro (pv_bool fun _ => nev85 _ _ _ _ _ _ _ _ _) ?_)) | refine And.intro (by kernel_rfl) ?_ | refine And.intro (by omega) ?_ | refine And.intro (by decide) ?_)
  all_goals conv => whnf
  all_goals
    (repeat' split) <;> first | rfl | (exfalso; omega)
theorem kkFails_fn (i a b j c d n m : Int) : FnOK Try.prog 14 [pt i a b, pt j c d, rat n m] (retF (failsV i a b j c d n m)) := by
  refine fn_ok (by kernel_rfl) ty_ok Try.func14 rfl (fun _ _ => Try.call14 _ _) rfl ?_
  intro hw
  have HT := kkTwo_fn i a b j c d n m
  unfold failsV
  split
  · rename_i h
    obtain ⟨h1, h2, h3, h4⟩ := two02_ok h
    rw [h] at HT
    have HM := kkFailure_fn i a b j c d n m h1 h2
    generalize leadN j d i b ((c - a) * m + (d - b) * n) = l at *
    generalize makeV (a - c) (d - b) = mk at *
    simp only [ret1] at *
    repeat' ((conv => whnf); first | (with_reducible refine br_t ?_) | (with_reducible refine br_f ?_) | ((with_reducible refine brd_t ?_ ?_); (first | omega | decide)) | ((with_reducible refine brd_f ?_ ?_); (first | omega | decide)) | (with_reducible refine brd (fun h => ?_) (fun h => ?_)) | ((with_reducible refine bre_t ?_ ?_); (first | omega | decide)) | ((with_reducible refine bre_f ?_ ?_); (first | omega | decide)) | (with_reducible refine bre (fun h => ?_) (fun h => ?_)) | ((with_reducible refine brn_t ?_ ?_); (first | omega | decide)) | ((with_reducible refine brn_f ?_ ?_); (first | omega | decide)) | (with_reducible refine brn (fun h => ?_) (fun h => ?_)) | (with_reducible refine brb_tt ?_) | (with_reducible refine brb_ff ?_) | (with_reducible refine brb_tf ?_) | (with_reducible refine brb_ft ?_) | (with_reducible refine bnb_tt ?_) | (with_reducible refine bnb_ff ?_) | (with_reducible refine bnb_tf ?_) | (with_reducible refine bnb_ft ?_) | (with_reducible refine brnot ?_) | (refine br_t' (by assumption) ?_) | (refine br_f' (by assumption) ?_) | (with_reducible refine br_i (fun h => ?_) (fun h => ?_)) | (with_reducible refine Exists.intro _ (And.intro (HT) ?_)) | (with_reducible refine Exists.intro _ (And.intro (HM) ?_)) | (with_reducible refine Exists.intro _ (And.intro (pv_bool fun _ => eqv23 _ _ _ _ _ _ _ _ _) ?_)) | (with_reducible refine Exists.intro _ (And.intro (pv_bool fun _ => nev23 _ _ _ _ _ _ _ _ _) ?_)) | (with_reducible refine Exists.intro _ (And.intro (pv_bool fun _ => eqv25 _ _ _ _ _ _ _) ?_)) | (with_reducible refine Exists.intro _ (And.intro (pv_bool fun _ => nev25 _ _ _ _ _ _ _) ?_)) | (with_reducible refine Exists.intro _ (And.intro (pv_bool fun _ => eqv61 _ _ _ _ _ _ _) ?_)) | (with_reducible refine Exists.intro _ (And.intro (pv_bool fun _ => nev61 _ _ _ _ _ _ _) ?_)) | (with_reducible refine Exists.intro _ (And.intro (pv_bool fun _ => eqv70 _ _ _ _ _ _ _ _ _) ?_)) | (with_reducible refine Exists.intro _ (And.intro (pv_bool fun _ => nev70 _ _ _ _ _ _ _ _ _) ?_)) | (with_reducible refine Exists.intro _ (And.intro (pv_bool fun _ => eqv85 _ _ _ _ _ _ _ _ _) ?_)) | (with_reducible refine Exists.intro _ (And.intro (pv_bool fun _ => nev85 _ _ _ _ _ _ _ _ _) ?_)) | refine And.intro (by kernel_rfl) ?_ | refine And.intro (by omega) ?_ | refine And.intro (by decide) ?_)
    all_goals conv => whnf
    all_goals
      (repeat' split) <;> rfl
  · rename_i h
    simp only [ret1, ret3] at *
    generalize two02 i a b j c d n m = e at *
    repeat' ((conv => whnf); first | (with_reducible refine br_t ?_) | (with_reducible refine br_f ?_) | ((with_reducible refine brd_t ?_ ?_); (first | omega | decide)) | ((with_reducible refine brd_f ?_ ?_); (first | omega | decide)) | (with_reducible refine brd (fun h => ?_) (fun h => ?_)) | ((with_reducible refine bre_t ?_ ?_); (first | omega | decide)) | ((with_reducible refine bre_f ?_ ?_); (first | omega | decide)) | (with_reducible refine bre (fun h => ?_) (fun h => ?_)) | ((with_reducible refine brn_t ?_ ?_); (first | omega | decide)) | ((with_reducible refine brn_f ?_ ?_); (first | omega | decide)) | (with_reducible refine brn (fun h => ?_) (fun h => ?_)) | (with_reducible refine brb_tt ?_) | (with_reducible refine brb_ff ?_) | (with_reducible refine brb_tf ?_) | (with_reducible refine brb_ft ?_) | (with_reducible refine bnb_tt ?_) | (with_reducible refine bnb_ff ?_) | (with_reducible refine bnb_tf ?_) | (with_reducible refine bnb_ft ?_) | (with_reducible refine brnot ?_) | (refine br_t' (by assumption) ?_) | (refine br_f' (by assumption) ?_) | (with_reducible refine br_i (fun h => ?_) (fun h => ?_)) | (with_reducible refine Exists.intro _ (And.intro (HT) ?_)) | (with_reducible refine Exists.intro _ (And.intro (pv_bool fun _ => eqv23 _ _ _ _ _ _ _ _ _) ?_)) | (with_reducible refine Exists.intro _ (And.intro (pv_bool fun _ => nev23 _ _ _ _ _ _ _ _ _) ?_)) | (with_reducible refine Exists.intro _ (And.intro (pv_bool fun _ => eqv25 _ _ _ _ _ _ _) ?_)) | (with_reducible refine Exists.intro _ (And.intro (pv_bool fun _ => nev25 _ _ _ _ _ _ _) ?_)) | (with_reducible refine Exists.intro _ (And.intro (pv_bool fun _ => eqv61 _ _ _ _ _ _ _) ?_)) | (with_reducible refine Exists.intro _ (And.intro (pv_bool fun _ => nev61 _ _ _ _ _ _ _) ?_)) | (with_reducible refine Exists.intro _ (And.intro (pv_bool fun _ => eqv70 _ _ _ _ _ _ _ _ _) ?_)) | (with_reducible refine Exists.intro _ (And.intro (pv_bool fun _ => nev70 _ _ _ _ _ _ _ _ _) ?_)) | (with_reducible refine Exists.intro _ (And.intro (pv_bool fun _ => eqv85 _ _ _ _ _ _ _ _ _) ?_)) | (with_reducible refine Exists.intro _ (And.intro (pv_bool fun _ => nev85 _ _ _ _ _ _ _ _ _) ?_)) | refine And.intro (by kernel_rfl) ?_ | refine And.intro (by omega) ?_ | refine And.intro (by decide) ?_)
    all_goals conv => whnf
    all_goals rfl
end Go.Proofs.Ytffamgiknfphaaa
