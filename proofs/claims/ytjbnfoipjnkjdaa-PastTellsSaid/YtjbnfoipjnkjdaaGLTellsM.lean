import Derived.Test.YtjbnfoipjnkjdaaGLTellsL
import Derived.Test.YtjbnfoipjnkjdaaGLTellsK
set_option linter.all false


/- What Compare, Cmp of the reference of layer 1 compute, step by step (walks). -/
namespace Go.Proofs.Ytjbnfoipjnkjdaa
open Go.RowKit Go.Sort

theorem cmpN_abs (x y : Int) : (cmpN x 0 ≠ cmpN y 0 → (cmpN x 0 < cmpN y 0 → cmpN x y = -1) ∧ (¬ cmpN x 0 < cmpN y 0 → cmpN x y = 1)) ∧
    (cmpN x 0 = cmpN y 0 → (cmpN x 0 < 0 → cmpN x y = cmpN (y.natAbs : Int) (x.natAbs : Int)) ∧ (¬ cmpN x 0 < 0 → cmpN x y = cmpN (x.natAbs : Int) (y.natAbs : Int))) := by
  have h1 : cmpN x 0 = if x < 0 then -1 else if 0 < x then 1 else 0 := rfl
  have h2 : cmpN y 0 = if y < 0 then -1 else if 0 < y then 1 else 0 := rfl
  rw [h1, h2]
  unfold cmpN
  refine ⟨fun h => ⟨fun h => ?_, fun h => ?_⟩, fun h => ⟨fun h => ?_, fun h => ?_⟩⟩
  all_goals
    revert h
    (repeat' split) <;> intros <;> omega

set_option maxHeartbeats 4000000 in
theorem rcompare_any (p q r t : Int) (w : World) (p0 : -9223372036854775808 ≤ p) (p1 : p ≤ 9223372036854775807) (q0 : -9223372036854775808 ≤ q) (q1 : q ≤ 9223372036854775807)
    (r0 : -9223372036854775808 ≤ r) (r1 : r ≤ 9223372036854775807) (t0 : -9223372036854775808 ≤ t) (t1 : t ≤ 9223372036854775807) :
    Calls Try.prog 34 #[.agg #[.int .i64 p, .int .i64 q], .agg #[.int .i64 r, .int .i64 t]] w fun e w' => e = .returned (.int .i64 (cmpN (p * t) (r * q))) ∧ Below w.heap.size w w' := by
  obtain ⟨a, b, ha⟩ := two_mk (p.natAbs * t.natAbs)
  obtain ⟨c, d, hc⟩ := two_mk (r.natAbs * q.natAbs)
  have P1 := rProduct_any p t a b ha
  have P2 := rProduct_any r q c d hc
  rw [← Int.natAbs_mul] at ha hc
  obtain ⟨x, hx⟩ : ∃ x, x = p * t := ⟨_, rfl⟩
  obtain ⟨y, hy⟩ : ∃ y, y = r * q := ⟨_, rfl⟩
  rw [← hx] at ha P1 ⊢
  rw [← hy] at hc P2 ⊢
  have S1 := rSign_any x a b ha
  have S2 := rSign_any y c d hc
  have L1 := rless_any (decide (x < 0)) (decide (y < 0)) a b c d _ _ ha hc
  have L2 := rless_any (decide (y < 0)) (decide (x < 0)) c d a b _ _ hc ha
  have HC := Lib.hid (cmpN_abs x y)
  obtain ⟨s, hs⟩ : ∃ s, s = cmpN x 0 := ⟨_, rfl⟩
  obtain ⟨u, hu⟩ : ∃ u, u = cmpN y 0 := ⟨_, rfl⟩
  obtain ⟨k, hk⟩ : ∃ k, k = cmpN (x.natAbs : Int) (y.natAbs : Int) := ⟨_, rfl⟩
  obtain ⟨l, hl⟩ : ∃ l, l = cmpN (y.natAbs : Int) (x.natAbs : Int) := ⟨_, rfl⟩
  rw [← hs, ← hu, ← hk, ← hl] at HC
  rw [← hs] at S1
  rw [← hu] at S2
  rw [← hk] at L1
  rw [← hl] at L2
  have P1H := Lib.hid P1
  have P2H := Lib.hid P2
  have S1H := Lib.hid S1
  have S2H := Lib.hid S2
  have L1H := Lib.hid L1
  have L2H := Lib.hid L2
  clear P1 P2 S1 S2 L1 L2 hs hu hk hl ha hc
  obtain ⟨X, hX⟩ : ∃ X, X = decide (x < 0) := ⟨_, rfl⟩
  obtain ⟨Y, hY⟩ : ∃ Y, Y = decide (y < 0) := ⟨_, rfl⟩
  rw [← hX] at P1H S1H L1H L2H
  rw [← hY] at P2H S2H L1H L2H
  clear hX hY hx hy
  cases e1 : (s != u) <;> cases e2 : decide (s < u) <;> cases e3 : decide (s < 0)
  all_goals
    go_enter Try.func34, Try.ntmps34
    go_wp2_with (first | (go_at_call 54; (with_reducible refine cmono ?_ (P1H.out _ ?_ ?_ ?_ ?_)); rotate_left; omega; omega; omega; omega; rintro e w' ⟨rfl, hbc0⟩; obtain ⟨⟨dc0, osc0⟩, rfl⟩ := regrown_of_below hbc0; clear hbc0) | (go_at_call 54; (with_reducible refine cmono ?_ (P2H.out _ ?_ ?_ ?_ ?_)); rotate_left; omega; omega; omega; omega; rintro e w' ⟨rfl, hbc1⟩; obtain ⟨⟨dc1, osc1⟩, rfl⟩ := regrown_of_below hbc1; clear hbc1) | (go_at_call 55; (with_reducible refine cmono ?_ (S1H.out _)); rotate_left; rintro e w' ⟨rfl, hbc2⟩; obtain ⟨⟨dc2, osc2⟩, rfl⟩ := regrown_of_below hbc2; clear hbc2) | (go_at_call 55; (with_reducible refine cmono ?_ (S2H.out _)); rotate_left; rintro e w' ⟨rfl, hbc3⟩; obtain ⟨⟨dc3, osc3⟩, rfl⟩ := regrown_of_below hbc3; clear hbc3) | (go_at_call 56; (with_reducible refine cmono ?_ (L1H.out _)); rotate_left; rintro e w' ⟨rfl, hbc4⟩; obtain ⟨⟨dc4, osc4⟩, rfl⟩ := regrown_of_below hbc4; clear hbc4) | (go_at_call 56; (with_reducible refine cmono ?_ (L2H.out _)); rotate_left; rintro e w' ⟨rfl, hbc5⟩; obtain ⟨⟨dc5, osc5⟩, rfl⟩ := regrown_of_below hbc5; clear hbc5) | ((with_reducible refine wp_region_quiet_below ?_ ?_ ?_); kernel_rfl; kernel_rfl; (repeat (go_big_quiet_step (first | (go_at_call 54; (with_reducible refine Calls.regrown_of (P1H.out _ ?_ ?_ ?_ ?_)); omega; omega; omega; omega) | (go_at_call 54; (with_reducible refine Calls.regrown_of (P2H.out _ ?_ ?_ ?_ ?_)); omega; omega; omega; omega) | (go_at_call 55; (with_reducible refine Calls.regrown_of (S1H.out _))) | (go_at_call 55; (with_reducible refine Calls.regrown_of (S2H.out _))) | (go_at_call 56; (with_reducible refine Calls.regrown_of (L1H.out _))) | (go_at_call 56; (with_reducible refine Calls.regrown_of (L2H.out _)))))); refine wpQuiet_nil ?_; intro _ hw'; obtain ⟨⟨dq, osq⟩, hw''⟩ := hw'; subst hw'') | ((with_reducible refine wp_region_two 10 5 6 #[.bool false, .int .u64 0, .int .u64 0] #[.bool false, .int .u64 0, .int .u64 0] 104 104 ?_ ?_ ?_ ?_ ?_); kernel_rfl; kernel_rfl; (intro _ _; simp [go_sem]); (intro _ _; simp [go_sem]); simp only [List.take_succ_cons, List.take_zero, List.drop_succ_cons, List.drop_zero]; (repeat (refine wpS_step (fun K hK => ?_); go_simp; first | (refine hK _ ?_; clear hK K) | (apply Exists.intro; refine ⟨fun _ => ?_, hK _ ?_⟩; (first | (go_at_call 54; (with_reducible refine kept_of (P1H.out _ ?_ ?_ ?_ ?_)); omega; omega; omega; omega) | (go_at_call 54; (with_reducible refine kept_of (P2H.out _ ?_ ?_ ?_ ?_)); omega; omega; omega; omega) | (go_at_call 55; (with_reducible refine kept_of (S1H.out _))) | (go_at_call 55; (with_reducible refine kept_of (S2H.out _))) | (go_at_call 56; (with_reducible refine kept_of (L1H.out _))) | (go_at_call 56; (with_reducible refine kept_of (L2H.out _)))); clear hK K))); refine wpS_nil ?_; refine ⟨?_, ?_⟩ <;> rintro ⟨dp, op⟩ ⟨dq, oq⟩ ⟨dr, og⟩))
    all_goals go_ret
    all_goals refine ⟨ret_int ?_, (by repeat (first | exact Below.refl _ _ | refine below_reg ?_ _ _ | refine below_alloc ?_ _ | exact below_drewN ?_ _ | assumption))⟩
    all_goals have hh := HC.out
    all_goals simp only [bne_iff_ne, bne_eq_false_iff_eq, decide_eq_true_eq, decide_eq_false_iff_not, ne_eq] at e1 e2 e3
    all_goals first
    | exact ((hh.1 (by omega)).1 (by omega)).symm
    | exact ((hh.1 (by omega)).2 (by omega)).symm
    | exact ((hh.2 (by omega)).1 (by omega)).symm
    | exact ((hh.2 (by omega)).2 (by omega)).symm

end Go.Proofs.Ytjbnfoipjnkjdaa

/- Plain lemmas: what the fractions' functions give, as rational numbers. No program is named. -/
namespace Go.Proofs.Ytjbnfoipjnkjdaa
open Go.RowKit

/-- the rational number of a fraction -/
def qv (n d : Int) : Rat := mkRat n d.toNat

theorem chk_iff (n d : Int) : chk n d = 0 ↔ 1 ≤ d ∧ n ≠ -9223372036854775808 ∧ n.natAbs.Coprime d.toNat := by
  unfold chk Nat.Coprime
  rw [Nat.gcd_comm n.natAbs]
  have hg : 1 ≤ d → 0 < Nat.gcd d.toNat n.natAbs := fun h => Nat.gcd_pos_of_pos_left _ (by omega)
  split
  · rename_i h
    constructor
    · intro h'; omega
    · rintro ⟨h1, h2, h3⟩; exfalso; omega
  · rename_i h
    have h1 : 1 ≤ d := by omega
    have := hg h1
    exact ⟨fun _ => ⟨h1, by omega, by omega⟩, fun _ => rfl⟩

theorem qv_num {n d : Int} (h : chk n d = 0) : (qv n d).num = n := by
  obtain ⟨h1, _, h3⟩ := (chk_iff n d).1 h
  unfold qv
  rw [Rat.num_mkRat, if_neg (by omega), Nat.gcd_comm, show Nat.gcd n.natAbs d.toNat = 1 from h3]
  simp
theorem qv_den {n d : Int} (h : chk n d = 0) : ((qv n d).den : Int) = d := by
  obtain ⟨h1, _, h3⟩ := (chk_iff n d).1 h
  unfold qv
  rw [Rat.den_mkRat, if_neg (by omega), Nat.gcd_comm, show Nat.gcd n.natAbs d.toNat = 1 from h3]
  omega
theorem qv_den' {n d : Int} (h : chk n d = 0) : (qv n d).den = d.toNat := by have := qv_den h; omega

/-- a rational number as a fraction, if it has a place -/
def outQ (q : Rat) : Int × Int × Int := if q.num.natAbs ≤ 9223372036854775807 ∧ q.den ≤ 9223372036854775807 then (q.num, q.den, 0) else (0, 0, 16)

theorem build_q (neg : Bool) (m d : Nat) (q : Rat) (hd : d = q.den) (hm : m = q.num.natAbs) (hs : q.num ≠ 0 → neg = decide (q.num < 0)) : buildN neg m d = outQ q := by
  unfold buildN outQ
  subst hd hm
  split
  · have : (if neg = true then -(q.num.natAbs : Int) else (q.num.natAbs : Int)) = q.num := by
      by_cases h0 : q.num = 0
      · rw [h0]; simp
      · rw [hs h0]
        by_cases hn : q.num < 0
        · rw [decide_eq_true hn, if_pos rfl]; omega
        · rw [decide_eq_false hn, if_neg (by simp)]; omega
    rw [this]
  · rfl

theorem plus_rep (p r : Int) (x y : Nat) : plusM (decide (p < 0)) (decide (r < 0)) (p.natAbs * x) (r.natAbs * y) = (p * x + r * y).natAbs ∧
    (p * x + r * y ≠ 0 → plusS (decide (p < 0)) (decide (r < 0)) (p.natAbs * x) (r.natAbs * y) = decide (p * x + r * y < 0)) := by
  have e1 : p.natAbs * x = (p * x).natAbs := by rw [Int.natAbs_mul, Int.natAbs_natCast]
  have e2 : r.natAbs * y = (r * y).natAbs := by rw [Int.natAbs_mul, Int.natAbs_natCast]
  have s1 : p * x < 0 → p < 0 := fun h => by
    rcases (show p < 0 ∨ 0 ≤ p by omega) with h' | h'
    · exact h'
    · have := Int.mul_nonneg h' (show (0 : Int) ≤ x by omega); omega
  have s2 : r * y < 0 → r < 0 := fun h => by
    rcases (show r < 0 ∨ 0 ≤ r by omega) with h' | h'
    · exact h'
    · have := Int.mul_nonneg h' (show (0 : Int) ≤ y by omega); omega
  have t1 : 0 < p * x → ¬ p < 0 := fun h h' => by
    have := Int.mul_nonpos_of_nonpos_of_nonneg (show p ≤ 0 by omega) (show (0 : Int) ≤ x by omega); omega
  have t2 : 0 < r * y → ¬ r < 0 := fun h h' => by
    have := Int.mul_nonpos_of_nonpos_of_nonneg (show r ≤ 0 by omega) (show (0 : Int) ≤ y by omega); omega
  rw [e1, e2]
  generalize p * (x : Int) = X at *
  generalize r * (y : Int) = Y at *
  unfold plusM plusS
  by_cases hp : p < 0 <;> by_cases hr : r < 0
  all_goals
    simp only [hp, hr, decide_true, decide_false, if_true, reduceIte, Bool.false_eq_true, Bool.true_eq_false]
    simp only [hp, hr, imp_false, not_true_eq_false, not_false_eq_true, implies_true] at s1 s2 t1 t2
    refine ⟨?_, fun hne => ?_⟩
  all_goals (repeat' split)
  all_goals first | omega | (symm; rw [decide_eq_true_eq]; omega) | (symm; rw [decide_eq_false_iff_not]; omega)

theorem addR_q {p q r t : Int} (h1 : chk p q = 0) (h2 : chk r t = 0) : addR p q.toNat r t.toNat = outQ (qv p q + qv r t) := by
  obtain ⟨a1, a2, a3⟩ := (chk_iff p q).1 h1
  obtain ⟨b1, b2, b3⟩ := (chk_iff r t).1 h2
  have haux := Rat.add.aux (qv p q) (qv r t) rfl rfl rfl
  have hsum := Rat.add_def' (qv p q) (qv r t)
  rw [qv_num h1, qv_num h2, qv_den' h1, qv_den' h2] at haux hsum
  obtain ⟨Q, hQ⟩ : ∃ Q, Q = q.toNat := ⟨_, rfl⟩
  obtain ⟨T, hT⟩ : ∃ T, T = t.toNat := ⟨_, rfl⟩
  rw [← hQ, ← hT] at haux hsum ⊢
  have q0 : 0 < Q := by omega
  have t0 : 0 < T := by omega
  unfold addR
  obtain ⟨c1, c2⟩ := plus_rep p r (T / Nat.gcd Q T) (Q / Nat.gcd Q T)
  rw [c1]
  have g0 : 0 < Nat.gcd Q T := Nat.gcd_pos_of_pos_left _ q0
  have gq : Nat.gcd Q T ∣ Q := Nat.gcd_dvd_left _ _
  have gt : Nat.gcd Q T ∣ T := Nat.gcd_dvd_right _ _
  generalize Nat.gcd Q T = g at *
  obtain ⟨y, rfl⟩ := gq
  obtain ⟨x, rfl⟩ := gt
  rw [Nat.mul_div_cancel_left _ g0, Nat.mul_div_cancel_left _ g0] at *
  have e : qv p q + qv r t = mkRat (p * x + r * y) (y * (g * x)) := by
    rw [hsum]
    have n1 : p * ((g * x : Nat) : Int) + r * ((g * y : Nat) : Int) = (p * x + r * y) * (g : Int) := by
      rw [Int.natCast_mul, Int.natCast_mul, Int.add_mul, Int.mul_left_comm, Int.mul_comm (g : Int), Int.mul_left_comm r, Int.mul_comm (g : Int)]
    have n2 : g * y * (g * x) = y * (g * x) * g := by
      rw [Nat.mul_comm g y, Nat.mul_assoc, Nat.mul_assoc, Nat.mul_comm g (g * x)]
    rw [n1, n2]
    exact Rat.mkRat_mul_right (by omega)
  generalize hN : p * (x : Int) + r * (y : Int) = N at *
  have hh : Nat.gcd g (N.natAbs % g) = Nat.gcd (y * (g * x)) N.natAbs := by
    rw [Nat.gcd_comm (y * (g * x)), ← haux, Nat.gcd_comm N.natAbs g, Nat.gcd_rec g N.natAbs, Nat.gcd_comm]
  have hd0 : y * (g * x) ≠ 0 := by
    intro h0
    rcases Nat.mul_eq_zero.1 h0 with h0 | h0
    · subst h0; simp at q0
    · omega
  have dg : Nat.gcd g (N.natAbs % g) ∣ g := Nat.gcd_dvd_left _ _
  refine build_q _ _ _ _ ?_ ?_ ?_
  · rw [e, Rat.den_mkRat, if_neg hd0, ← hh]
    exact (Nat.mul_div_assoc _ (Nat.dvd_trans dg (Nat.dvd_mul_right _ _))).symm
  · rw [e, Rat.num_mkRat, if_neg hd0, ← hh]
    rw [Int.natAbs_ediv_of_dvd]
    · simp
    · rw [hh, ← Int.dvd_natAbs, Int.ofNat_dvd]
      exact Nat.gcd_dvd_right _ _
  · rw [e, Rat.num_mkRat, if_neg hd0, ← hh]
    have hdv : ((Nat.gcd g (N.natAbs % g) : Nat) : Int) ∣ N := by
      rw [hh, ← Int.dvd_natAbs, Int.ofNat_dvd]
      exact Nat.gcd_dvd_right _ _
    have hpos : (0 : Int) < (Nat.gcd g (N.natAbs % g) : Nat) := by
      have := Nat.gcd_pos_of_pos_left (N.natAbs % g) g0
      omega
    intro hne
    obtain ⟨k, hk⟩ := hdv
    generalize ((Nat.gcd g (N.natAbs % g) : Nat) : Int) = G at *
    subst hk
    rw [Int.mul_ediv_cancel_left _ (by omega)] at hne ⊢
    rw [c2 (by intro h0; rcases Int.mul_eq_zero.1 h0 with h0 | h0 <;> omega)]
    have : G * k < 0 ↔ k < 0 := by
      constructor
      · intro h
        rcases (show k < 0 ∨ 0 ≤ k by omega) with h' | h'
        · exact h'
        · have := Int.mul_nonneg (Int.le_of_lt hpos) h'; omega
      · intro h
        exact Int.mul_neg_of_pos_of_neg hpos h
    rw [decide_eq_decide]
    exact this

theorem tdiv_gcd (n : Int) (k : Nat) : n.tdiv (Nat.gcd n.natAbs k : Nat) = n / (Nat.gcd n.natAbs k : Nat) := by
  refine Int.tdiv_eq_ediv_of_dvd ?_
  rw [← Int.dvd_natAbs, Int.ofNat_dvd]
  exact Nat.gcd_dvd_left _ _

theorem rat_mul_parts (a b : Rat) : (a * b).num = a.num.tdiv (Nat.gcd a.num.natAbs b.den) * b.num.tdiv (Nat.gcd b.num.natAbs a.den) ∧ (a * b).den = a.den / Nat.gcd b.num.natAbs a.den * (b.den / Nat.gcd a.num.natAbs b.den) := by
  have h : a * b = Rat.mul a b := rfl
  rw [h]
  unfold Rat.mul
  rw [tdiv_gcd, tdiv_gcd]
  constructor <;> simp

theorem mulR_q {p q r t : Int} (h1 : chk p q = 0) (h2 : chk r t = 0) : mulR p q.toNat r t.toNat = outQ (qv p q * qv r t) := by
  obtain ⟨m1, m2⟩ := rat_mul_parts (qv p q) (qv r t)
  rw [qv_num h1, qv_num h2, qv_den' h1, qv_den' h2] at m1 m2
  obtain ⟨a1, a2, a3⟩ := (chk_iff p q).1 h1
  obtain ⟨b1, b2, b3⟩ := (chk_iff r t).1 h2
  unfold mulR
  rw [Nat.gcd_comm t.toNat, Nat.gcd_comm q.toNat]
  refine build_q _ _ _ _ ?_ ?_ ?_
  · rw [m2]
  · rw [m1, Int.natAbs_mul]
  · rw [m1]
    generalize p.tdiv (Nat.gcd p.natAbs t.toNat : Nat) = X
    generalize r.tdiv (Nat.gcd r.natAbs q.toNat : Nat) = Y
    intro hne
    rcases Int.lt_trichotomy X 0 with hx | hx | hx <;> rcases Int.lt_trichotomy Y 0 with hy | hy | hy
    · have := Int.mul_pos_of_neg_of_neg hx hy
      rw [decide_eq_true hx, decide_eq_true hy, decide_eq_false (by omega)]; rfl
    · subst hy; simp at hne
    · have := Int.mul_neg_of_neg_of_pos hx hy
      rw [decide_eq_true hx, decide_eq_false (show ¬ Y < 0 by omega), decide_eq_true this]; rfl
    · subst hx; simp at hne
    · subst hx; simp at hne
    · subst hx; simp at hne
    · have := Int.mul_neg_of_pos_of_neg hx hy
      rw [decide_eq_false (show ¬ X < 0 by omega), decide_eq_true hy, decide_eq_true this]; rfl
    · subst hy; simp at hne
    · have := Int.mul_pos hx hy
      rw [decide_eq_false (show ¬ X < 0 by omega), decide_eq_false (show ¬ Y < 0 by omega), decide_eq_false (by omega)]; rfl

/-- the three functions, for valid fractions -/
theorem addV_q {p q r t : Int} (h1 : chk p q = 0) (h2 : chk r t = 0) : addV p q r t = outQ (qv p q + qv r t) := by
  unfold addV
  rw [if_pos (by unfold bth; rw [if_pos h1, h2]), addR_q h1 h2]
theorem mulV_q {p q r t : Int} (h1 : chk p q = 0) (h2 : chk r t = 0) : mulV p q r t = outQ (qv p q * qv r t) := by
  unfold mulV
  rw [if_pos (by unfold bth; rw [if_pos h1, h2]), mulR_q h1 h2]
theorem chk_neg {r t : Int} (h : chk r t = 0) (hr : r ≤ 9223372036854775807) : chk (-r) t = 0 := by
  obtain ⟨b1, b2, b3⟩ := (chk_iff r t).1 h
  exact (chk_iff _ _).2 ⟨b1, by omega, by rw [Int.natAbs_neg]; exact b3⟩
theorem qv_neg (r t : Int) : qv (-r) t = -qv r t := by unfold qv; rw [Rat.neg_mkRat]
theorem subV_q {p q r t : Int} (h1 : chk p q = 0) (h2 : chk r t = 0) (hr : r ≤ 9223372036854775807) : subV p q r t = outQ (qv p q - qv r t) := by
  unfold subV
  rw [if_pos (by unfold bth; rw [if_pos h1, h2]), addV_q h1 (chk_neg h2 hr), qv_neg, Rat.sub_eq_add_neg]

theorem cmpV_q {p q r t : Int} (h1 : chk p q = 0) (h2 : chk r t = 0) : cmpV p q r t = ((if qv p q < qv r t then -1 else if qv r t < qv p q then 1 else 0), 0) := by
  unfold cmpV
  rw [if_pos (by unfold bth; rw [if_pos h1, h2])]
  have e1 := Rat.lt_iff (qv p q) (qv r t)
  have e2 := Rat.lt_iff (qv r t) (qv p q)
  rw [qv_num h1, qv_num h2, qv_den h1, qv_den h2] at e1 e2
  unfold cmpN
  simp only [e1, e2]

/-- what comes out without an error is valid, and stands for the number -/
theorem outQ_ok {q : Rat} (h : (outQ q).2.2 = 0) : outQ q = (q.num, (q.den : Int), 0) ∧ q.num.natAbs ≤ 9223372036854775807 ∧ q.den ≤ 9223372036854775807 := by
  unfold outQ at *
  split at h
  · rename_i hc
    rw [if_pos hc]
    exact ⟨rfl, hc⟩
  · exact absurd h (by decide)
theorem outQ_err (q : Rat) : (outQ q).2.2 = 0 ∨ outQ q = (0, 0, 16) := by
  unfold outQ
  split
  · exact .inl rfl
  · exact .inr rfl
theorem chk_rat (q : Rat) (h : q.num.natAbs ≤ 9223372036854775807) : chk q.num q.den = 0 :=
  (chk_iff _ _).2 ⟨by have := q.den_pos; omega, by omega, by rw [Int.toNat_natCast]; exact q.reduced⟩
theorem qv_rat (q : Rat) : qv q.num q.den = q := by unfold qv; rw [Int.toNat_natCast, Rat.mkRat_self]

end Go.Proofs.Ytjbnfoipjnkjdaa



/- What Add, Sub, Mul of the reference of layer 1 compute, step by step (walks). -/
namespace Go.Proofs.Ytjbnfoipjnkjdaa
open Go.RowKit Go.Sort

theorem buildN_zero (x y : Bool) (d : Nat) : buildN x 0 d = buildN y 0 d := by unfold buildN; cases x <;> cases y <;> simp

/-- the sum as the reference builds it -/
theorem addR_alt (p : Int) (q : Nat) (r : Int) (t : Nat) (g x y k h z : Nat) (hg : g = Nat.gcd q t) (hx : x = t / g) (hy : y = q / g) (hk : k = (p * x + r * y).natAbs) (hh : h = Nat.gcd g (k % g)) (hz : z = t / h) :
    addR p q r t = buildN (decide (p * x + r * y < 0)) (k / h) (y * z) := by
  unfold addR
  rw [← hg, ← hx, ← hy]
  obtain ⟨e1, e2⟩ := plus_rep p r x y
  rw [e1, ← hk, ← hh, ← hz]
  by_cases h0 : p * x + r * y = 0
  · have : k = 0 := by rw [hk, h0]; rfl
    rw [this, Nat.zero_div]
    exact buildN_zero _ _ _
  · rw [e2 h0]

end Go.Proofs.Ytjbnfoipjnkjdaa



/- What Mul of the reference of layer 1 computes, step by step (a walk). -/
namespace Go.Proofs.Ytjbnfoipjnkjdaa
open Go.RowKit Go.Sort

theorem tdiv_sign (n : Int) (g : Nat) (h : (g : Int) ∣ n) : decide (n.tdiv g < 0) = decide (n < 0) ∨ g = 0 := by
  rcases Nat.eq_zero_or_pos g with hg | hg
  · exact .inr hg
  · left
    obtain ⟨c, rfl⟩ := h
    rw [Int.mul_tdiv_cancel_left _ (by omega)]
    have hpos : (0 : Int) < g := by omega
    rw [decide_eq_decide]
    constructor
    · intro h'; exact Int.mul_neg_of_pos_of_neg hpos h'
    · intro h'
      rcases (show c < 0 ∨ 0 ≤ c by omega) with h2 | h2
      · exact h2
      · have := Int.mul_nonneg (Int.le_of_lt hpos) h2; omega

/-- the product as the reference builds it -/
theorem mulR_alt (p : Int) (q : Nat) (r : Int) (t : Nat) (g h P R : Nat) (hg : g = Nat.gcd p.natAbs t) (hh : h = Nat.gcd r.natAbs q) (g0 : 0 < g) (h0 : 0 < h) (hP : P = p.natAbs / g) (hR : R = r.natAbs / h) (s : Bool)
    (hs : p ≠ 0 → r ≠ 0 → s = (!(decide (p < 0) == decide (r < 0)))) :
    mulR p q r t = buildN s (P * R) (q / h * (t / g)) := by
  unfold mulR
  have d1 : (g : Int) ∣ p := by rw [hg, ← Int.dvd_natAbs, Int.ofNat_dvd]; exact Nat.gcd_dvd_left _ _
  have d2 : (h : Int) ∣ r := by rw [hh, ← Int.dvd_natAbs, Int.ofNat_dvd]; exact Nat.gcd_dvd_left _ _
  have n1 : (p.tdiv g).natAbs = p.natAbs / g := Int.natAbs_tdiv p g
  have n2 : (r.tdiv h).natAbs = r.natAbs / h := Int.natAbs_tdiv r h
  rw [Nat.gcd_comm t, Nat.gcd_comm q, ← hg, ← hh, n1, n2, ← hP, ← hR]
  rcases tdiv_sign p g d1 with e1 | e1
  · rcases tdiv_sign r h d2 with e2 | e2
    · rw [e1, e2]
      by_cases hp : p = 0
      · subst hp
        have : P = 0 := by rw [hP]; simp
        rw [this, Nat.zero_mul]
        exact buildN_zero _ _ _
      · by_cases hr : r = 0
        · subst hr
          have : R = 0 := by rw [hR]; simp
          rw [this, Nat.mul_zero]
          exact buildN_zero _ _ _
        · rw [hs hp hr]
    · omega
  · omega

end Go.Proofs.Ytjbnfoipjnkjdaa

/- Plain lemmas: the order of fractions as an order of rational numbers. No program is named. -/
namespace Go.Proofs.Ytjbnfoipjnkjdaa
open Go.RowKit

/-- which of two rational numbers is greater -/
def cmpQ (a b : Rat) : Int := if a < b then -1 else if b < a then 1 else 0

theorem lt_asymm' {a b : Rat} (h : a < b) : ¬ b < a := fun h' => by
  have := Rat.le_of_lt h'
  exact absurd h (Rat.not_lt.2 this)
theorem cmpQ_lt {a b : Rat} (h : a < b) : cmpQ a b = -1 := if_pos h
theorem cmpQ_gt {a b : Rat} (h : b < a) : cmpQ a b = 1 := by unfold cmpQ; rw [if_neg (lt_asymm' h), if_pos h]
theorem cmpQ_self (a : Rat) : cmpQ a a = 0 := by unfold cmpQ; rw [if_neg (Rat.lt_irrefl), if_neg (Rat.lt_irrefl)]
theorem tri (a b : Rat) : a < b ∨ a = b ∨ b < a := by
  rcases Rat.le_total (a := a) (b := b) with h | h
  · rcases Rat.le_iff_lt_or_eq.1 h with h | h
    · exact .inl h
    · exact .inr (.inl h)
  · rcases Rat.le_iff_lt_or_eq.1 h with h | h
    · exact .inr (.inr h)
    · exact .inr (.inl h.symm)
theorem cmpQ_swap (a b : Rat) : cmpQ b a = -cmpQ a b := by
  rcases tri a b with h | h | h
  · rw [cmpQ_lt h, cmpQ_gt h]; rfl
  · subst h; rw [cmpQ_self]; rfl
  · rw [cmpQ_lt h, cmpQ_gt h]
theorem cmpQ_range (a b : Rat) : -1 ≤ cmpQ a b ∧ cmpQ a b ≤ 1 := by
  unfold cmpQ; (repeat' split) <;> decide
theorem cmpQ_zero (a b : Rat) : cmpQ a b = 0 ↔ a = b := by
  rcases tri a b with h | h | h
  · rw [cmpQ_lt h]; exact ⟨fun h' => absurd h' (by decide), fun h' => by subst h'; exact absurd h Rat.lt_irrefl⟩
  · exact ⟨fun _ => h, fun _ => by subst h; exact cmpQ_self _⟩
  · rw [cmpQ_gt h]; exact ⟨fun h' => absurd h' (by decide), fun h' => by subst h'; exact absurd h Rat.lt_irrefl⟩
theorem cmpQ_le (a b : Rat) : cmpQ a b ≤ 0 ↔ a ≤ b := by
  rcases tri a b with h | h | h
  · rw [cmpQ_lt h]; exact ⟨fun _ => Rat.le_of_lt h, fun _ => by decide⟩
  · subst h; rw [cmpQ_self]; exact ⟨fun _ => Rat.le_refl, fun _ => by decide⟩
  · rw [cmpQ_gt h]; exact ⟨fun h' => absurd h' (by decide), fun h' => absurd h (Rat.not_lt.2 h')⟩
theorem cmpQ_add (a b c : Rat) : cmpQ (a + c) (b + c) = cmpQ a b := by
  rcases tri a b with h | h | h
  · rw [cmpQ_lt h, cmpQ_lt (Rat.add_lt_add_right.2 h)]
  · subst h; rw [cmpQ_self, cmpQ_self]
  · rw [cmpQ_gt h, cmpQ_gt (Rat.add_lt_add_right.2 h)]
theorem cmpQ_sub (a b : Rat) : cmpN (a - b).num 0 = cmpQ a b := by
  have e : cmpN (a - b).num 0 = if (a - b).num < 0 then -1 else if 0 < (a - b).num then 1 else 0 := rfl
  rw [e]
  have hn := Rat.num_nonneg (q := a - b)
  have hz := Rat.num_eq_zero (q := a - b)
  rcases tri a b with h | h | h
  · have h1 : ¬ 0 ≤ a - b := fun h' => by
      have := (Rat.le_iff_sub_nonneg b a).2 h'
      exact absurd h (Rat.not_lt.2 this)
    rw [if_pos (by have := mt hn.1 h1; omega), cmpQ_lt h]
  · subst h
    rw [Rat.sub_self, cmpQ_self]; rfl
  · have h1 := (Rat.lt_iff_sub_pos b a).1 h
    have h2 : 0 ≤ (a - b).num := hn.2 (Rat.le_of_lt h1)
    have h3 : (a - b).num ≠ 0 := fun h' => by rw [hz.1 h'] at h1; exact absurd h1 Rat.lt_irrefl
    rw [if_neg (by omega), if_pos (by omega), cmpQ_gt h]

theorem qv_inj {p q r t : Int} (h1 : chk p q = 0) (h2 : chk r t = 0) : qv p q = qv r t ↔ p = r ∧ q = t := by
  constructor
  · intro h
    have e1 := qv_num h1
    have e2 := qv_den h1
    rw [h, qv_num h2] at e1
    rw [h, qv_den h2] at e2
    exact ⟨e1.symm, e2.symm⟩
  · rintro ⟨rfl, rfl⟩; rfl

theorem cmpV_c {p q r t : Int} (h1 : chk p q = 0) (h2 : chk r t = 0) : cmpV p q r t = (cmpQ (qv p q) (qv r t), 0) := cmpV_q h1 h2

/-- a result of a sum: valid, or out of range -/
theorem outQ_cases (a : Rat) : (∃ n d : Int, outQ a = (n, d, 0) ∧ chk n d = 0 ∧ qv n d = a ∧ n = a.num ∧ d = a.den ∧ -9223372036854775807 ≤ n ∧ n ≤ 9223372036854775807 ∧ 1 ≤ d ∧ d ≤ 9223372036854775807) ∨ outQ a = (0, 0, 16) := by
  rcases outQ_err a with h | h
  · obtain ⟨h1, h2, h3⟩ := outQ_ok h
    have := a.den_pos
    exact .inl ⟨a.num, a.den, h1, chk_rat a h2, qv_rat a, rfl, rfl, by omega, by omega, by omega, by omega⟩
  · exact .inr h

end Go.Proofs.Ytjbnfoipjnkjdaa



/- The contracts of layer 1 and its reference as the symbolic walk takes them. No conditions. -/
namespace Go.Proofs.Ytjbnfoipjnkjdaa
open Go.RowKit Go.Sort Sx
abbrev i64 (n : Int) : D := .v (.int .i64 n)
abbrev u64 (n : Int) : D := .v (.int .u64 n)
abbrev bol (b : Bool) : D := .v (.bool b)
theorem wd_i64 {n : Int} : WD (i64 n) ↔ -9223372036854775808 ≤ n ∧ n ≤ 9223372036854775807 := WD_v
theorem wd_u64 {n : Int} : WD (u64 n) ↔ 0 ≤ n ∧ n ≤ 18446744073709551615 := WD_v
theorem wd_bol {b : Bool} : WD (bol b) ↔ True := WD_v
theorem wd1 {n d : Int} (h : WDCs [.agg [i64 n, i64 d]]) : -9223372036854775808 ≤ n ∧ n ≤ 9223372036854775807 ∧ -9223372036854775808 ≤ d ∧ d ≤ 9223372036854775807 := by
  simp only [WDCs, WDC, WDs, wd_i64] at h; omega
theorem wd2 {n d m e : Int} (h : WDCs [.agg [i64 n, i64 d], .agg [i64 m, i64 e]]) : (-9223372036854775808 ≤ n ∧ n ≤ 9223372036854775807 ∧ -9223372036854775808 ≤ d ∧ d ≤ 9223372036854775807) ∧ (-9223372036854775808 ≤ m ∧ m ≤ 9223372036854775807 ∧ -9223372036854775808 ≤ e ∧ e ≤ 9223372036854775807) := by
  simp only [WDCs, WDC, WDs, wd_i64] at h; omega
theorem wdi {n : Int} (h : WDCs [.one (i64 n)]) : -9223372036854775808 ≤ n ∧ n ≤ 9223372036854775807 := by
  simp only [WDCs, WDC, WDs, wd_i64] at h; omega
theorem wdii {n m : Int} (h : WDCs [.one (i64 n), .one (i64 m)]) : -9223372036854775808 ≤ n ∧ n ≤ 9223372036854775807 ∧ -9223372036854775808 ≤ m ∧ m ≤ 9223372036854775807 := by
  simp only [WDCs, WDC, WDs, wd_i64] at h; omega

theorem cmpN_rng (a b : Int) : -1 ≤ cmpN a b ∧ cmpN a b ≤ 1 := by unfold cmpN; (repeat' split) <;> omega
theorem buildN_rng (x : Bool) (m n : Nat) : (-9223372036854775807 ≤ (buildN x m n).1 ∧ (buildN x m n).1 ≤ 9223372036854775807) ∧ (0 ≤ (buildN x m n).2.1 ∧ (buildN x m n).2.1 ≤ 9223372036854775807) ∧ (0 ≤ (buildN x m n).2.2 ∧ (buildN x m n).2.2 ≤ 16) := by
  unfold buildN; split
  · cases x <;> simp <;> omega
  · simp
theorem askd_rng (n d : Int) : 0 ≤ askd n d ∧ askd n d ≤ 8 := by
  unfold askd
  rcases chk_08 n d with h | h <;> rw [h] <;> simp <;> (try split) <;> omega
theorem addV_rng (p q r t : Int) : (-9223372036854775807 ≤ (addV p q r t).1 ∧ (addV p q r t).1 ≤ 9223372036854775807) ∧ (0 ≤ (addV p q r t).2.1 ∧ (addV p q r t).2.1 ≤ 9223372036854775807) ∧ (0 ≤ (addV p q r t).2.2 ∧ (addV p q r t).2.2 ≤ 16) := by
  unfold addV; split
  · unfold addR; exact buildN_rng _ _ _
  · simp
theorem mulV_rng (p q r t : Int) : (-9223372036854775807 ≤ (mulV p q r t).1 ∧ (mulV p q r t).1 ≤ 9223372036854775807) ∧ (0 ≤ (mulV p q r t).2.1 ∧ (mulV p q r t).2.1 ≤ 9223372036854775807) ∧ (0 ≤ (mulV p q r t).2.2 ∧ (mulV p q r t).2.2 ≤ 16) := by
  unfold mulV; split
  · unfold mulR; exact buildN_rng _ _ _
  · simp
theorem subV_rng (p q r t : Int) : (-9223372036854775807 ≤ (subV p q r t).1 ∧ (subV p q r t).1 ≤ 9223372036854775807) ∧ (0 ≤ (subV p q r t).2.1 ∧ (subV p q r t).2.1 ≤ 9223372036854775807) ∧ (0 ≤ (subV p q r t).2.2 ∧ (subV p q r t).2.2 ≤ 16) := by
  unfold subV; split
  · exact addV_rng _ _ _ _
  · simp
theorem makeV_rng (n d : Int) : (-9223372036854775807 ≤ (makeV n d).1 ∧ (makeV n d).1 ≤ 9223372036854775807) ∧ (0 ≤ (makeV n d).2.1 ∧ (makeV n d).2.1 ≤ 9223372036854775807) ∧ (0 ≤ (makeV n d).2.2 ∧ (makeV n d).2.2 ≤ 26) := by
  unfold makeV; split
  · simp
  · have := buildN_rng (!(decide (n < 0) == decide (d < 0))) (n.natAbs / Nat.gcd n.natAbs d.natAbs) (d.natAbs / Nat.gcd n.natAbs d.natAbs)
    omega

abbrev rat2 (p q r t : Int) : List DC := [.agg [i64 p, i64 q], .agg [i64 r, i64 t]]
abbrev ret3 (x : Int × Int × Int) : DV := .tup [.agg [i64 x.1, i64 x.2.1], .one (i64 x.2.2)]
abbrev ret2 (x : Int × Int) : DV := .tup [.one (i64 x.1), .one (i64 x.2)]
abbrev ret1 (x : Int) : DV := .c (.one (i64 x))

theorem cmp_fn (p q r t : Int) : FnOK Try.prog 32 (rat2 p q r t) (ret2 (cmpV p q r t)) := by
  refine fn_of_calls (fun _ _ => Try.call32 _ _) rfl rfl (fun h => ?_) (fun h w => ?_)
  · simp only [WDV, WDCs, WDC, wd_i64, and_true]
    unfold cmpV
    have := cmpN_rng (p * t) (r * q)
    split <;> simp <;> omega
  · obtain ⟨⟨_, _, _, _⟩, _, _, _, _⟩ := wd2 h
    exact cmp_any p q r t w (by omega) (by omega) (by omega) (by omega) (by omega) (by omega) (by omega) (by omega)
theorem check_fn (n d : Int) : FnOK Try.prog 57 [.agg [i64 n, i64 d]] (ret1 (chk n d)) := by
  refine fn_of_calls (fun _ _ => Try.call57 _ _) rfl rfl (fun h => ?_) (fun h w => ?_)
  · simp only [WDV, WDCs, WDC, WDs, wd_i64, and_true]
    rcases chk_08 n d with h | h <;> omega
  · obtain ⟨_, _, _, _⟩ := wd1 h
    exact check_any n d w (by omega) (by omega) (by omega) (by omega)
theorem asked_fn (n d : Int) : FnOK Try.prog 35 [.agg [i64 n, i64 d]] (ret1 (askd n d)) := by
  refine fn_of_calls (fun _ _ => Try.call35 _ _) rfl rfl (fun h => ?_) (fun h w => ?_)
  · simp only [WDV, WDCs, WDC, WDs, wd_i64, and_true]
    have := askd_rng n d
    omega
  · obtain ⟨_, _, _, _⟩ := wd1 h
    exact asked_any n d w (by omega) (by omega) (by omega) (by omega)
theorem rcheck_fn (n d : Int) : FnOK Try.prog 60 [.agg [i64 n, i64 d]] (ret1 (chk n d)) := by
  refine fn_of_calls (fun _ _ => Try.call60 _ _) rfl rfl (fun h => ?_) (fun h w => ?_)
  · simp only [WDV, WDCs, WDC, WDs, wd_i64, and_true]
    rcases chk_08 n d with h | h <;> omega
  · obtain ⟨_, _, _, _⟩ := wd1 h
    exact rcheck_any n d w (by omega) (by omega) (by omega) (by omega)
theorem rasked_fn (n d : Int) : FnOK Try.prog 37 [.agg [i64 n, i64 d]] (ret1 (askd n d)) := by
  refine fn_of_calls (fun _ _ => Try.call37 _ _) rfl rfl (fun h => ?_) (fun h w => ?_)
  · simp only [WDV, WDCs, WDC, WDs, wd_i64, and_true]
    have := askd_rng n d
    omega
  · obtain ⟨_, _, _, _⟩ := wd1 h
    exact rasked_any n d w (by omega) (by omega) (by omega) (by omega)
theorem rcompare_fn (p q r t : Int) : FnOK Try.prog 34 (rat2 p q r t) (ret1 (cmpN (p * t) (r * q))) := by
  refine fn_of_calls (fun _ _ => Try.call34 _ _) rfl rfl (fun h => ?_) (fun h w => ?_)
  · simp only [WDV, WDCs, WDC, WDs, wd_i64, and_true]
    have := cmpN_rng (p * t) (r * q)
    omega
  · obtain ⟨⟨_, _, _, _⟩, _, _, _, _⟩ := wd2 h
    exact rcompare_any p q r t w (by omega) (by omega) (by omega) (by omega) (by omega) (by omega) (by omega) (by omega)
end Go.Proofs.Ytjbnfoipjnkjdaa
