

/- What layer 2 computes: places. No conditions. -/
import Derived.Test.YtffamgiknfphaaaCrsD
namespace Go.Proofs.Ytffamgiknfphaaa
open Go.RowKit Go.Sort Sx
set_option linter.unusedVariables false

theorem div64_fn (hi lo y : Nat) (h : hi < y) : FnOK Try.prog 36 [.one (u64 hi), .one (u64 lo), .one (u64 y)] (.tup [.one (u64 ((hi * 18446744073709551616 + lo) / y : Nat)), .one (u64 ((hi * 18446744073709551616 + lo) % y : Nat))]) := by
  refine fn_of_calls (fun _ _ => Try.call36 _ _) rfl rfl (fun h => ?_) (fun h w => ?_)
  all_goals simp only [WDCs, WDC, wd_u64] at h
  · simp only [WDV, WDCs, WDC, wd_u64, and_true]
    have h1 : (hi * 18446744073709551616 + lo) / y < 18446744073709551616 := Nat.div_lt_of_lt_mul (by rw [Nat.mul_comm]; have : (hi + 1) * 18446744073709551616 ≤ y * 18446744073709551616 := Nat.mul_le_mul_right _ (by omega); omega)
    have h2 : (hi * 18446744073709551616 + lo) % y < y := Nat.mod_lt _ (by omega)
    generalize (hi * 18446744073709551616 + lo) % y = r at *
    generalize (hi * 18446744073709551616 + lo) / y = q at *
    omega
  · exact div64_any hi lo y w (by omega) (by omega) (by omega)
theorem mod_hi (m y : Nat) (hy : 0 < y) : (m / 18446744073709551616 % y * 18446744073709551616 + m % 18446744073709551616) % y = m % y := by
  conv => rhs; rw [← Nat.div_add_mod m 18446744073709551616]
  rw [Nat.mul_comm 18446744073709551616, Nat.add_mod, Nat.mul_mod, Nat.mod_mod, ← Nat.mul_mod, ← Nat.add_mod]
theorem rem64_fn (m y : Nat) (hy : 0 < y) : FnOK Try.prog 35 [.one (u64 (m / 18446744073709551616 : Nat)), .one (u64 (m % 18446744073709551616 : Nat)), .one (u64 y)] (.c (.one (u64 (m % y : Nat)))) := by
  refine fn_ok (by kernel_rfl) ty_ok Try.func35 rfl (fun _ _ => Try.call35 _ _) rfl ?_
  intro hw
  simp only [WDCs, WDC, wd_u64] at hw
  have HD := div64_fn (m / 18446744073709551616 % y) (m % 18446744073709551616) y (Nat.mod_lt _ hy)
  rw [mod_hi m y hy] at HD
  have e : ((m / 18446744073709551616 % y : Nat) : Int) = ((m / 18446744073709551616 : Nat) : Int).tmod (y : Int) := rfl
  rw [e] at HD
  generalize m / 18446744073709551616 % y * 18446744073709551616 + m % 18446744073709551616 = z at *
  clear e
  repeat' ((conv => whnf); first | (with_reducible refine br_t ?_) | (with_reducible refine br_f ?_) | ((with_reducible refine brd_t ?_ ?_); (first | omega | decide)) | ((with_reducible refine brd_f ?_ ?_); (first | omega | decide)) | (with_reducible refine brd (fun h => ?_) (fun h => ?_)) | ((with_reducible refine bre_t ?_ ?_); (first | omega | decide)) | ((with_reducible refine bre_f ?_ ?_); (first | omega | decide)) | (with_reducible refine bre (fun h => ?_) (fun h => ?_)) | ((with_reducible refine brn_t ?_ ?_); (first | omega | decide)) | ((with_reducible refine brn_f ?_ ?_); (first | omega | decide)) | (with_reducible refine brn (fun h => ?_) (fun h => ?_)) | (with_reducible refine brb_tt ?_) | (with_reducible refine brb_ff ?_) | (with_reducible refine brb_tf ?_) | (with_reducible refine brb_ft ?_) | (with_reducible refine bnb_tt ?_) | (with_reducible refine bnb_ff ?_) | (with_reducible refine bnb_tf ?_) | (with_reducible refine bnb_ft ?_) | (with_reducible refine brnot ?_) | (refine br_t' (by assumption) ?_) | (refine br_f' (by assumption) ?_) | (with_reducible refine br_i (fun h => ?_) (fun h => ?_)) | (with_reducible refine Exists.intro _ (And.intro (HD) ?_)) | (with_reducible refine Exists.intro _ (And.intro (pv_bool fun _ => eqv23 _ _ _ _ _ _ _ _ _) ?_)) | (with_reducible refine Exists.intro _ (And.intro (pv_bool fun _ => nev23 _ _ _ _ _ _ _ _ _) ?_)) | (with_reducible refine Exists.intro _ (And.intro (pv_bool fun _ => eqv25 _ _ _ _ _ _ _) ?_)) | (with_reducible refine Exists.intro _ (And.intro (pv_bool fun _ => nev25 _ _ _ _ _ _ _) ?_)) | (with_reducible refine Exists.intro _ (And.intro (pv_bool fun _ => eqv61 _ _ _ _ _ _ _) ?_)) | (with_reducible refine Exists.intro _ (And.intro (pv_bool fun _ => nev61 _ _ _ _ _ _ _) ?_)) | (with_reducible refine Exists.intro _ (And.intro (pv_bool fun _ => eqv70 _ _ _ _ _ _ _ _ _) ?_)) | (with_reducible refine Exists.intro _ (And.intro (pv_bool fun _ => nev70 _ _ _ _ _ _ _ _ _) ?_)) | (with_reducible refine Exists.intro _ (And.intro (pv_bool fun _ => eqv85 _ _ _ _ _ _ _ _ _) ?_)) | (with_reducible refine Exists.intro _ (And.intro (pv_bool fun _ => nev85 _ _ _ _ _ _ _ _ _) ?_)) | refine And.intro (by kernel_rfl) ?_ | refine And.intro (by omega) ?_ | refine And.intro (by decide) ?_)
  all_goals conv => whnf
  all_goals rfl
theorem gcd_of_mod (M d : Nat) : Nat.gcd d (M % d) = Nat.gcd M d := by rw [Nat.gcd_comm M, Nat.gcd_rec d M, Nat.gcd_comm]
theorem over_q (S : Int) (d : Nat) (hd : 0 < d) : outQ (qv S d) = buildN (decide (S < 0)) (S.natAbs / Nat.gcd S.natAbs d) (d / Nat.gcd S.natAbs d) := by
  have h := makeV_q S d (by omega)
  rw [← h]
  unfold makeV
  rw [if_neg (by omega), decide_eq_false (show ¬ (d : Int) < 0 by omega), Int.natAbs_natCast]
  cases decide (S < 0) <;> rfl
theorem div_parts (m g : Nat) (h : 0 < g) : m / g = m / 18446744073709551616 / g * 18446744073709551616 + (m / 18446744073709551616 % g * 18446744073709551616 + m % 18446744073709551616) / g ∧ (m / 18446744073709551616 % g * 18446744073709551616 + m % 18446744073709551616) / g < 18446744073709551616 := by
  constructor
  · have e1 := Nat.div_add_mod m 18446744073709551616
    have e2 := Nat.div_add_mod (m / 18446744073709551616) g
    generalize m / 18446744073709551616 = a at *
    generalize m % 18446744073709551616 = b at *
    have : m = g * (a / g * 18446744073709551616) + (a % g * 18446744073709551616 + b) := by
      rw [← Nat.mul_assoc]
      generalize g * (a / g) = x at *
      omega
    rw [this, Nat.mul_add_div h]
  · refine Nat.div_lt_of_lt_mul ?_
    have h1 : m / 18446744073709551616 % g < g := Nat.mod_lt _ h
    have : (m / 18446744073709551616 % g + 1) * 18446744073709551616 ≤ g * 18446744073709551616 := Nat.mul_le_mul_right _ h1
    omega
theorem tup_eq {a b c a' b' c' : Int} (h1 : a = a') (h2 : b = b') (h3 : c = c') : DV.tup [.agg [i64 a, i64 b], .one (i64 c)] = .tup [.agg [i64 a', i64 b'], .one (i64 c')] := by rw [h1, h2, h3]
/-- a place, at any arguments -/
def atV (i a b n m : Int) : Int × Int × Int := if cpt i a b = 0 ∧ chk n m = 0 then outQ (qv (a * m + b * n) m) else (0, 0, 8)
theorem kAt_fn (i a b n m : Int) : FnOK Try.prog 15 [pt i a b, rat n m] (ret3 (atV i a b n m)) := by
  refine fn_ok (by kernel_rfl) ty_ok Try.func15 rfl (fun _ _ => Try.call15 _ _) rfl ?_
  intro hw
  have H1 := kCheck_fn i a b
  have H2 := check_fn n m
  unfold atV
  split
  · rename_i h
    obtain ⟨h1, h2⟩ := h
    rw [h1] at H1
    rw [h2] at H2
    simp only [ret1, ret3] at *
    have g1 := cpt_ok h1
    obtain ⟨g2, _, _⟩ := (chk_iff n m).1 h2
    simp only [WDCs, WDC, WDs, wd_i64] at hw
    have p1 := prod_in3 (p := a) (k := m) (by omega) (by omega) (by omega) (by omega)
    have p2 := prod_in3 (p := b) (k := n) (by omega) (by omega) (by omega) (by omega)
    have HS := sum_fn a m b n (by omega)
    generalize hs : a * m + b * n = S at *
    obtain ⟨d, rfl⟩ := Int.eq_ofNat_of_zero_le (show 0 ≤ m by omega)
    obtain ⟨M, hM⟩ : ∃ M, M = S.natAbs := ⟨_, rfl⟩
    obtain ⟨o, ho⟩ : ∃ o, o = outQ (qv S d) := ⟨_, rfl⟩
    rw [← ho]
    have HR := rem64_fn M d (by omega)
    have hS2 : -38685626227668133590597632 ≤ S ∧ S ≤ 38685626227668133590597632 := by omega
    have W2 : IntKind.u64.wrap (d : Int) = d := by rw [IntKind.wrap_u64]; omega
    obtain ⟨h, l, hh, hl, U, L, CC⟩ : ∃ h l : Int, h = (if S < 0 then IntKind.i64.wrap (IntKind.i64.wrap (0 - S / 18446744073709551616) - IntKind.i64.wrap (if 0 < S % 18446744073709551616 + 0 then 1 else 0)) else S / 18446744073709551616) ∧
        l = (if S < 0 then (0 + 18446744073709551616 - S % 18446744073709551616 - 0) % 18446744073709551616 else S % 18446744073709551616) ∧ IntKind.u64.wrap h = ((M / 18446744073709551616 : Nat) : Int) ∧ l = ((M % 18446744073709551616 : Nat) : Int) ∧ True := by
      refine ⟨_, _, rfl, rfl, ?_, ?_, trivial⟩
      · split
        · rw [IntWalk.i64_in (0 - S / 18446744073709551616) (by omega)]
          split
          · rw [IntWalk.i64_in 1 (by omega), IntWalk.i64_in _ (by omega), IntKind.wrap_u64]; omega
          · rw [IntWalk.i64_in 0 (by omega), IntWalk.i64_in _ (by omega), IntKind.wrap_u64]; omega
        · rw [IntKind.wrap_u64]; omega
      · split <;> omega
    rw [← U, ← L, ← W2] at HR
    have SB := sub64_fn 0 (S % 18446744073709551616) 0 (by omega) (by omega)
    clear p1 p2 hs
    rcases (show S < 0 ∨ 0 ≤ S by omega) with hneg | hneg
    all_goals
      first | rw [if_pos hneg] at hh hl | rw [if_neg (by omega)] at hh hl
      rw [hh, hl] at HR
      repeat' ((conv => whnf); first | (with_reducible refine br_t ?_) | (with_reducible refine br_f ?_) | ((with_reducible refine brd_t ?_ ?_); (first | omega | decide)) | ((with_reducible refine brd_f ?_ ?_); (first | omega | decide)) | (with_reducible refine brd (fun h => ?_) (fun h => ?_)) | ((with_reducible refine bre_t ?_ ?_); (first | omega | decide)) | ((with_reducible refine bre_f ?_ ?_); (first | omega | decide)) | (with_reducible refine bre (fun h => ?_) (fun h => ?_)) | ((with_reducible refine brn_t ?_ ?_); (first | omega | decide)) | ((with_reducible refine brn_f ?_ ?_); (first | omega | decide)) | (with_reducible refine brn (fun h => ?_) (fun h => ?_)) | (with_reducible refine brb_tt ?_) | (with_reducible refine brb_ff ?_) | (with_reducible refine brb_tf ?_) | (with_reducible refine brb_ft ?_) | (with_reducible refine bnb_tt ?_) | (with_reducible refine bnb_ff ?_) | (with_reducible refine bnb_tf ?_) | (with_reducible refine bnb_ft ?_) | (with_reducible refine brnot ?_) | (refine br_t' (by assumption) ?_) | (refine br_f' (by assumption) ?_) | (with_reducible refine br_i (fun h => ?_) (fun h => ?_)) | (with_reducible refine Exists.intro _ (And.intro (H1) ?_)) | (with_reducible refine Exists.intro _ (And.intro (H2) ?_)) | (with_reducible refine Exists.intro _ (And.intro (HS) ?_)) | (with_reducible refine Exists.intro _ (And.intro (HR) ?_)) | (with_reducible refine Exists.intro _ (And.intro (SB) ?_)) | (with_reducible refine Exists.intro _ (And.intro (pv_bool fun _ => eqv23 _ _ _ _ _ _ _ _ _) ?_)) | (with_reducible refine Exists.intro _ (And.intro (pv_bool fun _ => nev23 _ _ _ _ _ _ _ _ _) ?_)) | (with_reducible refine Exists.intro _ (And.intro (pv_bool fun _ => eqv25 _ _ _ _ _ _ _) ?_)) | (with_reducible refine Exists.intro _ (And.intro (pv_bool fun _ => nev25 _ _ _ _ _ _ _) ?_)) | (with_reducible refine Exists.intro _ (And.intro (pv_bool fun _ => eqv61 _ _ _ _ _ _ _) ?_)) | (with_reducible refine Exists.intro _ (And.intro (pv_bool fun _ => nev61 _ _ _ _ _ _ _) ?_)) | (with_reducible refine Exists.intro _ (And.intro (pv_bool fun _ => eqv70 _ _ _ _ _ _ _ _ _) ?_)) | (with_reducible refine Exists.intro _ (And.intro (pv_bool fun _ => nev70 _ _ _ _ _ _ _ _ _) ?_)) | (with_reducible refine Exists.intro _ (And.intro (pv_bool fun _ => eqv85 _ _ _ _ _ _ _ _ _) ?_)) | (with_reducible refine Exists.intro _ (And.intro (pv_bool fun _ => nev85 _ _ _ _ _ _ _ _ _) ?_)) | refine And.intro (by kernel_rfl) ?_ | refine And.intro (by omega) ?_ | refine And.intro (by decide) ?_)
      refine loop_I (by kernel_rfl) ty_ok (σ := Nat × Nat)
        (fun s => ([(4, .c (.at (.ptr 4 0))), (5, sV (.int .i64 0)), (7, .c (.at (.ptr 7 0))), (8, sV (.bool (decide (S / 18446744073709551616 < 0)))), (11, sV (.int .u64 (IntKind.u64.wrap (d : Int)))), (12, sV (.int .u64 (s.2 : Int))), (13, sV (.int .u64 (s.1 : Int)))],
          [(7, .own [.d (i64 h), .d (u64 l)]), (4, .own [.d (i64 0), .d (i64 0)])]))
        (fun s => Nat.gcd s.1 s.2 = Nat.gcd d (M % d)) (fun s => s.2) (d, M % d) rfl ⟨⟨rfl, rfl, rfl, rfl, rfl, rfl, ?_, trivial⟩, ⟨by rw [hh, hl]; rfl, rfl, trivial⟩, rfl⟩ ?_
      · exact congrArg (fun x => some (sV (.int .u64 x))) W2
      rintro ⟨g, r⟩ hI
      simp only at hI
      rcases Nat.eq_zero_or_pos r with h0 | h0
      · subst h0
        rw [Nat.gcd_zero_right, gcd_of_mod] at hI
        have g0 : 0 < g := by rw [hI]; exact Nat.gcd_pos_of_pos_right _ (by omega)
        have g1 : g ≤ d := by rw [hI]; exact Nat.gcd_le_right _ (by omega)
        rw [over_q S d (by omega), ← hM, ← hI] at ho
        have HD := div64_fn (M / 18446744073709551616 % g) (M % 18446744073709551616) g (Nat.mod_lt _ g0)
        rw [← L, show ((M / 18446744073709551616 % g : Nat) : Int) = (IntKind.u64.wrap h).tmod (g : Int) by rw [U]; rfl] at HD
        have Q := div_parts M g g0
        have Q2 := Q.2
        have hz : IntKind.u64.wrap ((IntKind.u64.wrap h).tdiv (g : Int)) = ((M / 18446744073709551616 / g : Nat) : Int) := by
          have : M / 18446744073709551616 / g ≤ M / 18446744073709551616 := Nat.div_le_self _ _
          rw [U, ← Int.ofNat_tdiv, IntKind.wrap_u64]
          generalize M / 18446744073709551616 / g = z at *
          omega
        have hdg : IntKind.i64.wrap (IntKind.u64.wrap ((IntKind.u64.wrap (d : Int)).tdiv (g : Int))) = ((d / g : Nat) : Int) := by
          have : d / g ≤ d := Nat.div_le_self _ _
          rw [W2, ← Int.ofNat_tdiv, IntKind.wrap_u64]
          generalize d / g = k at *
          rw [IntWalk.i64_in _ (by omega)]
          omega
        have hdl : d / g ≤ 9223372036854775807 := by
          have : d / g ≤ d := Nat.div_le_self _ _
          omega
        have Q1 := Q.1
        clear Q
        generalize (M / 18446744073709551616 % g * 18446744073709551616 + M % 18446744073709551616) / g = q at *
        generalize (M / 18446744073709551616 % g * 18446744073709551616 + M % 18446744073709551616) % g = q' at *
        generalize M / 18446744073709551616 / g = z at *
        have e0 : (g : Int) ≠ 0 := by omega
        rw [Q1] at ho
        clear HS HR SB hh hl L CC hw H1 H2 Q1 hI h1 h2 g1
        dsimp only
        repeat' ((conv => whnf); first | (with_reducible refine br_t ?_) | (with_reducible refine br_f ?_) | (with_reducible refine And.intro e0 ?_) | ((with_reducible refine brd_t ?_ ?_); (first | omega | decide)) | ((with_reducible refine brd_f ?_ ?_); (first | omega | decide)) | (with_reducible refine brd (fun h => ?_) (fun h => ?_)) | ((with_reducible refine bre_t ?_ ?_); (first | omega | decide)) | ((with_reducible refine bre_f ?_ ?_); (first | omega | decide)) | (with_reducible refine bre (fun h => ?_) (fun h => ?_)) | ((with_reducible refine brn_t ?_ ?_); (first | omega | decide)) | ((with_reducible refine brn_f ?_ ?_); (first | omega | decide)) | (with_reducible refine brn (fun h => ?_) (fun h => ?_)) | (with_reducible refine brb_tt ?_) | (with_reducible refine brb_ff ?_) | (with_reducible refine brb_tf ?_) | (with_reducible refine brb_ft ?_) | (with_reducible refine bnb_tt ?_) | (with_reducible refine bnb_ff ?_) | (with_reducible refine bnb_tf ?_) | (with_reducible refine bnb_ft ?_) | (with_reducible refine brnot ?_) | (refine br_t' (by assumption) ?_) | (refine br_f' (by assumption) ?_) | (with_reducible refine br_i (fun h => ?_) (fun h => ?_)) | (with_reducible refine Exists.intro _ (And.intro (HD) ?_)) | (with_reducible refine Exists.intro _ (And.intro (pv_bool fun _ => eqv23 _ _ _ _ _ _ _ _ _) ?_)) | (with_reducible refine Exists.intro _ (And.intro (pv_bool fun _ => nev23 _ _ _ _ _ _ _ _ _) ?_)) | (with_reducible refine Exists.intro _ (And.intro (pv_bool fun _ => eqv25 _ _ _ _ _ _ _) ?_)) | (with_reducible refine Exists.intro _ (And.intro (pv_bool fun _ => nev25 _ _ _ _ _ _ _) ?_)) | (with_reducible refine Exists.intro _ (And.intro (pv_bool fun _ => eqv61 _ _ _ _ _ _ _) ?_)) | (with_reducible refine Exists.intro _ (And.intro (pv_bool fun _ => nev61 _ _ _ _ _ _ _) ?_)) | (with_reducible refine Exists.intro _ (And.intro (pv_bool fun _ => eqv70 _ _ _ _ _ _ _ _ _) ?_)) | (with_reducible refine Exists.intro _ (And.intro (pv_bool fun _ => nev70 _ _ _ _ _ _ _ _ _) ?_)) | (with_reducible refine Exists.intro _ (And.intro (pv_bool fun _ => eqv85 _ _ _ _ _ _ _ _ _) ?_)) | (with_reducible refine Exists.intro _ (And.intro (pv_bool fun _ => nev85 _ _ _ _ _ _ _ _ _) ?_)) | refine And.intro (by kernel_rfl) ?_ | refine And.intro (by omega) ?_ | refine And.intro (by decide) ?_)
        all_goals conv => whnf
        all_goals
          unfold buildN at ho
          first
          | (rw [if_neg (by omega)] at ho
             subst ho
             rfl)
          | (rw [if_pos (by omega)] at ho
             subst ho
             refine tup_eq ?_ hdg rfl
             first
             | (rw [decide_eq_true hneg, if_pos rfl, IntWalk.i64_in q (by omega), IntWalk.i64_in _ (by omega)]; omega)
             | (rw [decide_eq_false (by omega), if_neg (by simp), IntWalk.i64_in q (by omega)]; omega))
      · have E1 : (r : Int) ≠ 0 := by omega
        dsimp only
        repeat' ((conv => whnf); first | (with_reducible refine br_t ?_) | (with_reducible refine br_f ?_) | (with_reducible refine And.intro E1 ?_) | ((with_reducible refine brd_t ?_ ?_); (first | omega | decide)) | ((with_reducible refine brd_f ?_ ?_); (first | omega | decide)) | (with_reducible refine brd (fun h => ?_) (fun h => ?_)) | ((with_reducible refine bre_t ?_ ?_); (first | omega | decide)) | ((with_reducible refine bre_f ?_ ?_); (first | omega | decide)) | (with_reducible refine bre (fun h => ?_) (fun h => ?_)) | ((with_reducible refine brn_t ?_ ?_); (first | omega | decide)) | ((with_reducible refine brn_f ?_ ?_); (first | omega | decide)) | (with_reducible refine brn (fun h => ?_) (fun h => ?_)) | (with_reducible refine brb_tt ?_) | (with_reducible refine brb_ff ?_) | (with_reducible refine brb_tf ?_) | (with_reducible refine brb_ft ?_) | (with_reducible refine bnb_tt ?_) | (with_reducible refine bnb_ff ?_) | (with_reducible refine bnb_tf ?_) | (with_reducible refine bnb_ft ?_) | (with_reducible refine brnot ?_) | (refine br_t' (by assumption) ?_) | (refine br_f' (by assumption) ?_) | (with_reducible refine br_i (fun h => ?_) (fun h => ?_)) | (with_reducible refine Exists.intro _ (And.intro (pv_bool fun _ => eqv23 _ _ _ _ _ _ _ _ _) ?_)) | (with_reducible refine Exists.intro _ (And.intro (pv_bool fun _ => nev23 _ _ _ _ _ _ _ _ _) ?_)) | (with_reducible refine Exists.intro _ (And.intro (pv_bool fun _ => eqv25 _ _ _ _ _ _ _) ?_)) | (with_reducible refine Exists.intro _ (And.intro (pv_bool fun _ => nev25 _ _ _ _ _ _ _) ?_)) | (with_reducible refine Exists.intro _ (And.intro (pv_bool fun _ => eqv61 _ _ _ _ _ _ _) ?_)) | (with_reducible refine Exists.intro _ (And.intro (pv_bool fun _ => nev61 _ _ _ _ _ _ _) ?_)) | (with_reducible refine Exists.intro _ (And.intro (pv_bool fun _ => eqv70 _ _ _ _ _ _ _ _ _) ?_)) | (with_reducible refine Exists.intro _ (And.intro (pv_bool fun _ => nev70 _ _ _ _ _ _ _ _ _) ?_)) | (with_reducible refine Exists.intro _ (And.intro (pv_bool fun _ => eqv85 _ _ _ _ _ _ _ _ _) ?_)) | (with_reducible refine Exists.intro _ (And.intro (pv_bool fun _ => nev85 _ _ _ _ _ _ _ _ _) ?_)) | refine And.intro (by kernel_rfl) ?_ | refine And.intro (by omega) ?_ | refine And.intro (by decide) ?_)
        all_goals conv => whnf
        refine ⟨(r, g % r), ?_, ⟨⟨rfl, rfl, rfl, rfl, rfl, rfl, rfl, trivial⟩, ⟨rfl, rfl, trivial⟩, rfl⟩, Nat.mod_lt _ h0⟩
        show Nat.gcd r (g % r) = _
        rw [← hI, Nat.gcd_comm r, ← Nat.gcd_rec, Nat.gcd_comm]
  · rename_i h
    rcases cpt_08 i a b with h1 | h1 <;> rcases chk_08 n m with h2 | h2
    · exact absurd ⟨h1, h2⟩ h
    all_goals
      rw [h1] at H1
      rw [h2] at H2
      simp only [ret1, ret3] at *
      repeat' ((conv => whnf); first | (with_reducible refine br_t ?_) | (with_reducible refine br_f ?_) | ((with_reducible refine brd_t ?_ ?_); (first | omega | decide)) | ((with_reducible refine brd_f ?_ ?_); (first | omega | decide)) | (with_reducible refine brd (fun h => ?_) (fun h => ?_)) | ((with_reducible refine bre_t ?_ ?_); (first | omega | decide)) | ((with_reducible refine bre_f ?_ ?_); (first | omega | decide)) | (with_reducible refine bre (fun h => ?_) (fun h => ?_)) | ((with_reducible refine brn_t ?_ ?_); (first | omega | decide)) | ((with_reducible refine brn_f ?_ ?_); (first | omega | decide)) | (with_reducible refine brn (fun h => ?_) (fun h => ?_)) | (with_reducible refine brb_tt ?_) | (with_reducible refine brb_ff ?_) | (with_reducible refine brb_tf ?_) | (with_reducible refine brb_ft ?_) | (with_reducible refine bnb_tt ?_) | (with_reducible refine bnb_ff ?_) | (with_reducible refine bnb_tf ?_) | (with_reducible refine bnb_ft ?_) | (with_reducible refine brnot ?_) | (refine br_t' (by assumption) ?_) | (refine br_f' (by assumption) ?_) | (with_reducible refine br_i (fun h => ?_) (fun h => ?_)) | (with_reducible refine Exists.intro _ (And.intro (H1) ?_)) | (with_reducible refine Exists.intro _ (And.intro (H2) ?_)) | (with_reducible refine Exists.intro _ (And.intro (pv_bool fun _ => eqv23 _ _ _ _ _ _ _ _ _) ?_)) | (with_reducible refine Exists.intro _ (And.intro (pv_bool fun _ => nev23 _ _ _ _ _ _ _ _ _) ?_)) | (with_reducible refine Exists.intro _ (And.intro (pv_bool fun _ => eqv25 _ _ _ _ _ _ _) ?_)) | (with_reducible refine Exists.intro _ (And.intro (pv_bool fun _ => nev25 _ _ _ _ _ _ _) ?_)) | (with_reducible refine Exists.intro _ (And.intro (pv_bool fun _ => eqv61 _ _ _ _ _ _ _) ?_)) | (with_reducible refine Exists.intro _ (And.intro (pv_bool fun _ => nev61 _ _ _ _ _ _ _) ?_)) | (with_reducible refine Exists.intro _ (And.intro (pv_bool fun _ => eqv70 _ _ _ _ _ _ _ _ _) ?_)) | (with_reducible refine Exists.intro _ (And.intro (pv_bool fun _ => nev70 _ _ _ _ _ _ _ _ _) ?_)) | (with_reducible refine Exists.intro _ (And.intro (pv_bool fun _ => eqv85 _ _ _ _ _ _ _ _ _) ?_)) | (with_reducible refine Exists.intro _ (And.intro (pv_bool fun _ => nev85 _ _ _ _ _ _ _ _ _) ?_)) | refine And.intro (by kernel_rfl) ?_ | refine And.intro (by omega) ?_ | refine And.intro (by decide) ?_)
      all_goals conv => whnf
      all_goals rfl
end Go.Proofs.Ytffamgiknfphaaa
