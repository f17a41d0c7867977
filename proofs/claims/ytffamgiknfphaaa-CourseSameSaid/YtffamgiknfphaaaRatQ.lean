/- Plain lemmas: what the fractions' functions give, as rational numbers. No program is named. -/
import Derived.Test.YtffamgiknfphaaaRatF
namespace Go.Proofs.Ytffamgiknfphaaa
open Go.RowKit
set_option linter.unusedVariables false

/-- the rational number of a fraction -/
def qv (n d : Int) : Rat := mkRat n d.toNat

theorem chk_iff (n d : Int) : chk n d = 0 ↔ 1 ≤ d ∧ n ≠ -9223372036854775808 ∧ n.natAbs.Coprime d.toNat := by
  unfold chk Nat.Coprime
  rw [Nat.gcd_comm n.natAbs]
  have hg : 1 ≤ d → 0 < Nat.gcd d.toNat n.natAbs := fun h => Nat.gcd_pos_of_pos_left _ (by omega)
  split
  · rename_i h
    constructor
    · intro h'; omega
    · rintro ⟨h1, h2, h3⟩; exfalso; omega
  · rename_i h
    have h1 : 1 ≤ d := by omega
    have := hg h1
    exact ⟨fun _ => ⟨h1, by omega, by omega⟩, fun _ => rfl⟩

theorem qv_num {n d : Int} (h : chk n d = 0) : (qv n d).num = n := by
  obtain ⟨h1, _, h3⟩ := (chk_iff n d).1 h
  unfold qv
  rw [Rat.num_mkRat, if_neg (by omega), Nat.gcd_comm, show Nat.gcd n.natAbs d.toNat = 1 from h3]
  simp
theorem qv_den {n d : Int} (h : chk n d = 0) : ((qv n d).den : Int) = d := by
  obtain ⟨h1, _, h3⟩ := (chk_iff n d).1 h
  unfold qv
  rw [Rat.den_mkRat, if_neg (by omega), Nat.gcd_comm, show Nat.gcd n.natAbs d.toNat = 1 from h3]
  omega
theorem qv_den' {n d : Int} (h : chk n d = 0) : (qv n d).den = d.toNat := by have := qv_den h; omega

/-- a rational number as a fraction, if it has a place -/
def outQ (q : Rat) : Int × Int × Int := if q.num.natAbs ≤ 9223372036854775807 ∧ q.den ≤ 9223372036854775807 then (q.num, q.den, 0) else (0, 0, 16)

theorem build_q (neg : Bool) (m d : Nat) (q : Rat) (hd : d = q.den) (hm : m = q.num.natAbs) (hs : q.num ≠ 0 → neg = decide (q.num < 0)) : buildN neg m d = outQ q := by
  unfold buildN outQ
  subst hd hm
  split
  · have : (if neg = true then -(q.num.natAbs : Int) else (q.num.natAbs : Int)) = q.num := by
      by_cases h0 : q.num = 0
      · rw [h0]; simp
      · rw [hs h0]
        by_cases hn : q.num < 0
        · rw [decide_eq_true hn, if_pos rfl]; omega
        · rw [decide_eq_false hn, if_neg (by simp)]; omega
    rw [this]
  · rfl

theorem plus_rep (p r : Int) (x y : Nat) : plusM (decide (p < 0)) (decide (r < 0)) (p.natAbs * x) (r.natAbs * y) = (p * x + r * y).natAbs ∧
    (p * x + r * y ≠ 0 → plusS (decide (p < 0)) (decide (r < 0)) (p.natAbs * x) (r.natAbs * y) = decide (p * x + r * y < 0)) := by
  have e1 : p.natAbs * x = (p * x).natAbs := by rw [Int.natAbs_mul, Int.natAbs_natCast]
  have e2 : r.natAbs * y = (r * y).natAbs := by rw [Int.natAbs_mul, Int.natAbs_natCast]
  have s1 : p * x < 0 → p < 0 := fun h => by
    rcases (show p < 0 ∨ 0 ≤ p by omega) with h' | h'
    · exact h'
    · have := Int.mul_nonneg h' (show (0 : Int) ≤ x by omega); omega
  have s2 : r * y < 0 → r < 0 := fun h => by
    rcases (show r < 0 ∨ 0 ≤ r by omega) with h' | h'
    · exact h'
    · have := Int.mul_nonneg h' (show (0 : Int) ≤ y by omega); omega
  have t1 : 0 < p * x → ¬ p < 0 := fun h h' => by
    have := Int.mul_nonpos_of_nonpos_of_nonneg (show p ≤ 0 by omega) (show (0 : Int) ≤ x by omega); omega
  have t2 : 0 < r * y → ¬ r < 0 := fun h h' => by
    have := Int.mul_nonpos_of_nonpos_of_nonneg (show r ≤ 0 by omega) (show (0 : Int) ≤ y by omega); omega
  rw [e1, e2]
  generalize p * (x : Int) = X at *
  generalize r * (y : Int) = Y at *
  unfold plusM plusS
  by_cases hp : p < 0 <;> by_cases hr : r < 0
  all_goals
    simp only [hp, hr, decide_true, decide_false, if_true, reduceIte, Bool.false_eq_true, Bool.true_eq_false]
    simp only [hp, hr, imp_false, not_true_eq_false, not_false_eq_true, implies_true] at s1 s2 t1 t2
    refine ⟨?_, fun hne => ?_⟩
  all_goals (repeat' split)
  all_goals first | omega | (symm; rw [decide_eq_true_eq]; omega) | (symm; rw [decide_eq_false_iff_not]; omega)

theorem addR_q {p q r t : Int} (h1 : chk p q = 0) (h2 : chk r t = 0) : addR p q.toNat r t.toNat = outQ (qv p q + qv r t) := by
  obtain ⟨a1, a2, a3⟩ := (chk_iff p q).1 h1
  obtain ⟨b1, b2, b3⟩ := (chk_iff r t).1 h2
  have haux := Rat.add.aux (qv p q) (qv r t) rfl rfl rfl
  have hsum := Rat.add_def' (qv p q) (qv r t)
  rw [qv_num h1, qv_num h2, qv_den' h1, qv_den' h2] at haux hsum
  obtain ⟨Q, hQ⟩ : ∃ Q, Q = q.toNat := ⟨_, rfl⟩
  obtain ⟨T, hT⟩ : ∃ T, T = t.toNat := ⟨_, rfl⟩
  rw [← hQ, ← hT] at haux hsum ⊢
  have q0 : 0 < Q := by omega
  have t0 : 0 < T := by omega
  unfold addR
  obtain ⟨c1, c2⟩ := plus_rep p r (T / Nat.gcd Q T) (Q / Nat.gcd Q T)
  rw [c1]
  have g0 : 0 < Nat.gcd Q T := Nat.gcd_pos_of_pos_left _ q0
  have gq : Nat.gcd Q T ∣ Q := Nat.gcd_dvd_left _ _
  have gt : Nat.gcd Q T ∣ T := Nat.gcd_dvd_right _ _
  generalize Nat.gcd Q T = g at *
  obtain ⟨y, rfl⟩ := gq
  obtain ⟨x, rfl⟩ := gt
  rw [Nat.mul_div_cancel_left _ g0, Nat.mul_div_cancel_left _ g0] at *
  have e : qv p q + qv r t = mkRat (p * x + r * y) (y * (g * x)) := by
    rw [hsum]
    have n1 : p * ((g * x : Nat) : Int) + r * ((g * y : Nat) : Int) = (p * x + r * y) * (g : Int) := by
      rw [Int.natCast_mul, Int.natCast_mul, Int.add_mul, Int.mul_left_comm, Int.mul_comm (g : Int), Int.mul_left_comm r, Int.mul_comm (g : Int)]
    have n2 : g * y * (g * x) = y * (g * x) * g := by
      rw [Nat.mul_comm g y, Nat.mul_assoc, Nat.mul_assoc, Nat.mul_comm g (g * x)]
    rw [n1, n2]
    exact Rat.mkRat_mul_right (by omega)
  generalize hN : p * (x : Int) + r * (y : Int) = N at *
  have hh : Nat.gcd g (N.natAbs % g) = Nat.gcd (y * (g * x)) N.natAbs := by
    rw [Nat.gcd_comm (y * (g * x)), ← haux, Nat.gcd_comm N.natAbs g, Nat.gcd_rec g N.natAbs, Nat.gcd_comm]
  have hd0 : y * (g * x) ≠ 0 := by
    intro h0
    rcases Nat.mul_eq_zero.1 h0 with h0 | h0
    · subst h0; simp at q0
    · omega
  have dg : Nat.gcd g (N.natAbs % g) ∣ g := Nat.gcd_dvd_left _ _
  refine build_q _ _ _ _ ?_ ?_ ?_
  · rw [e, Rat.den_mkRat, if_neg hd0, ← hh]
    exact (Nat.mul_div_assoc _ (Nat.dvd_trans dg (Nat.dvd_mul_right _ _))).symm
  · rw [e, Rat.num_mkRat, if_neg hd0, ← hh]
    rw [Int.natAbs_ediv_of_dvd]
    · simp
    · rw [hh, ← Int.dvd_natAbs, Int.ofNat_dvd]
      exact Nat.gcd_dvd_right _ _
  · rw [e, Rat.num_mkRat, if_neg hd0, ← hh]
    have hdv : ((Nat.gcd g (N.natAbs % g) : Nat) : Int) ∣ N := by
      rw [hh, ← Int.dvd_natAbs, Int.ofNat_dvd]
      exact Nat.gcd_dvd_right _ _
    have hpos : (0 : Int) < (Nat.gcd g (N.natAbs % g) : Nat) := by
      have := Nat.gcd_pos_of_pos_left (N.natAbs % g) g0
      omega
    intro hne
    obtain ⟨k, hk⟩ := hdv
    generalize ((Nat.gcd g (N.natAbs % g) : Nat) : Int) = G at *
    subst hk
    rw [Int.mul_ediv_cancel_left _ (by omega)] at hne ⊢
    rw [c2 (by intro h0; rcases Int.mul_eq_zero.1 h0 with h0 | h0 <;> omega)]
    have : G * k < 0 ↔ k < 0 := by
      constructor
      · intro h
        rcases (show k < 0 ∨ 0 ≤ k by omega) with h' | h'
        · exact h'
        · have := Int.mul_nonneg (Int.le_of_lt hpos) h'; omega
      · intro h
        exact Int.mul_neg_of_pos_of_neg hpos h
    rw [decide_eq_decide]
    exact this

theorem tdiv_gcd (n : Int) (k : Nat) : n.tdiv (Nat.gcd n.natAbs k : Nat) = n / (Nat.gcd n.natAbs k : Nat) := by
  refine Int.tdiv_eq_ediv_of_dvd ?_
  rw [← Int.dvd_natAbs, Int.ofNat_dvd]
  exact Nat.gcd_dvd_left _ _

theorem rat_mul_parts (a b : Rat) : (a * b).num = a.num.tdiv (Nat.gcd a.num.natAbs b.den) * b.num.tdiv (Nat.gcd b.num.natAbs a.den) ∧ (a * b).den = a.den / Nat.gcd b.num.natAbs a.den * (b.den / Nat.gcd a.num.natAbs b.den) := by
  have h : a * b = Rat.mul a b := rfl
  rw [h]
  unfold Rat.mul
  rw [tdiv_gcd, tdiv_gcd]
  constructor <;> simp

theorem mulR_q {p q r t : Int} (h1 : chk p q = 0) (h2 : chk r t = 0) : mulR p q.toNat r t.toNat = outQ (qv p q * qv r t) := by
  obtain ⟨m1, m2⟩ := rat_mul_parts (qv p q) (qv r t)
  rw [qv_num h1, qv_num h2, qv_den' h1, qv_den' h2] at m1 m2
  obtain ⟨a1, a2, a3⟩ := (chk_iff p q).1 h1
  obtain ⟨b1, b2, b3⟩ := (chk_iff r t).1 h2
  unfold mulR
  rw [Nat.gcd_comm t.toNat, Nat.gcd_comm q.toNat]
  refine build_q _ _ _ _ ?_ ?_ ?_
  · rw [m2]
  · rw [m1, Int.natAbs_mul]
  · rw [m1]
    generalize p.tdiv (Nat.gcd p.natAbs t.toNat : Nat) = X
    generalize r.tdiv (Nat.gcd r.natAbs q.toNat : Nat) = Y
    intro hne
    rcases Int.lt_trichotomy X 0 with hx | hx | hx <;> rcases Int.lt_trichotomy Y 0 with hy | hy | hy
    · have := Int.mul_pos_of_neg_of_neg hx hy
      rw [decide_eq_true hx, decide_eq_true hy, decide_eq_false (by omega)]; rfl
    · subst hy; simp at hne
    · have := Int.mul_neg_of_neg_of_pos hx hy
      rw [decide_eq_true hx, decide_eq_false (show ¬ Y < 0 by omega), decide_eq_true this]; rfl
    · subst hx; simp at hne
    · subst hx; simp at hne
    · subst hx; simp at hne
    · have := Int.mul_neg_of_pos_of_neg hx hy
      rw [decide_eq_false (show ¬ X < 0 by omega), decide_eq_true hy, decide_eq_true this]; rfl
    · subst hy; simp at hne
    · have := Int.mul_pos hx hy
      rw [decide_eq_false (show ¬ X < 0 by omega), decide_eq_false (show ¬ Y < 0 by omega), decide_eq_false (by omega)]; rfl

/-- the three functions, for valid fractions -/
theorem addV_q {p q r t : Int} (h1 : chk p q = 0) (h2 : chk r t = 0) : addV p q r t = outQ (qv p q + qv r t) := by
  unfold addV
  rw [if_pos (by unfold bth; rw [if_pos h1, h2]), addR_q h1 h2]
theorem mulV_q {p q r t : Int} (h1 : chk p q = 0) (h2 : chk r t = 0) : mulV p q r t = outQ (qv p q * qv r t) := by
  unfold mulV
  rw [if_pos (by unfold bth; rw [if_pos h1, h2]), mulR_q h1 h2]
theorem chk_neg {r t : Int} (h : chk r t = 0) (hr : r ≤ 9223372036854775807) : chk (-r) t = 0 := by
  obtain ⟨b1, b2, b3⟩ := (chk_iff r t).1 h
  exact (chk_iff _ _).2 ⟨b1, by omega, by rw [Int.natAbs_neg]; exact b3⟩
theorem qv_neg (r t : Int) : qv (-r) t = -qv r t := by unfold qv; rw [Rat.neg_mkRat]
theorem subV_q {p q r t : Int} (h1 : chk p q = 0) (h2 : chk r t = 0) (hr : r ≤ 9223372036854775807) : subV p q r t = outQ (qv p q - qv r t) := by
  unfold subV
  rw [if_pos (by unfold bth; rw [if_pos h1, h2]), addV_q h1 (chk_neg h2 hr), qv_neg, Rat.sub_eq_add_neg]

theorem cmpV_q {p q r t : Int} (h1 : chk p q = 0) (h2 : chk r t = 0) : cmpV p q r t = ((if qv p q < qv r t then -1 else if qv r t < qv p q then 1 else 0), 0) := by
  unfold cmpV
  rw [if_pos (by unfold bth; rw [if_pos h1, h2])]
  have e1 := Rat.lt_iff (qv p q) (qv r t)
  have e2 := Rat.lt_iff (qv r t) (qv p q)
  rw [qv_num h1, qv_num h2, qv_den h1, qv_den h2] at e1 e2
  unfold cmpN
  simp only [e1, e2]

/-- what comes out without an error is valid, and stands for the number -/
theorem outQ_ok {q : Rat} (h : (outQ q).2.2 = 0) : outQ q = (q.num, (q.den : Int), 0) ∧ q.num.natAbs ≤ 9223372036854775807 ∧ q.den ≤ 9223372036854775807 := by
  unfold outQ at *
  split at h
  · rename_i hc
    rw [if_pos hc]
    exact ⟨rfl, hc⟩
  · exact absurd h (by decide)
theorem outQ_err (q : Rat) : (outQ q).2.2 = 0 ∨ outQ q = (0, 0, 16) := by
  unfold outQ
  split
  · exact .inl rfl
  · exact .inr rfl
theorem chk_rat (q : Rat) (h : q.num.natAbs ≤ 9223372036854775807) : chk q.num q.den = 0 :=
  (chk_iff _ _).2 ⟨by have := q.den_pos; omega, by omega, by rw [Int.toNat_natCast]; exact q.reduced⟩
theorem qv_rat (q : Rat) : qv q.num q.den = q := by unfold qv; rw [Int.toNat_natCast, Rat.mkRat_self]

end Go.Proofs.Ytffamgiknfphaaa
