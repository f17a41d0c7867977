/- Plain lemmas: the order of fractions as an order of rational numbers. No program is named. -/
import Derived.Test.YtffamgiknfphaaaRatQ
namespace Go.Proofs.Ytffamgiknfphaaa
open Go.RowKit
set_option linter.unusedVariables false

/-- which of two rational numbers is greater -/
def cmpQ (a b : Rat) : Int := if a < b then -1 else if b < a then 1 else 0

theorem lt_asymm' {a b : Rat} (h : a < b) : ¬ b < a := fun h' => by
  have := Rat.le_of_lt h'
  exact absurd h (Rat.not_lt.2 this)
theorem cmpQ_lt {a b : Rat} (h : a < b) : cmpQ a b = -1 := if_pos h
theorem cmpQ_gt {a b : Rat} (h : b < a) : cmpQ a b = 1 := by unfold cmpQ; rw [if_neg (lt_asymm' h), if_pos h]
theorem cmpQ_self (a : Rat) : cmpQ a a = 0 := by unfold cmpQ; rw [if_neg (Rat.lt_irrefl), if_neg (Rat.lt_irrefl)]
theorem tri (a b : Rat) : a < b ∨ a = b ∨ b < a := by
  rcases Rat.le_total (a := a) (b := b) with h | h
  · rcases Rat.le_iff_lt_or_eq.1 h with h | h
    · exact .inl h
    · exact .inr (.inl h)
  · rcases Rat.le_iff_lt_or_eq.1 h with h | h
    · exact .inr (.inr h)
    · exact .inr (.inl h.symm)
theorem cmpQ_swap (a b : Rat) : cmpQ b a = -cmpQ a b := by
  rcases tri a b with h | h | h
  · rw [cmpQ_lt h, cmpQ_gt h]; rfl
  · subst h; rw [cmpQ_self]; rfl
  · rw [cmpQ_lt h, cmpQ_gt h]
theorem cmpQ_range (a b : Rat) : -1 ≤ cmpQ a b ∧ cmpQ a b ≤ 1 := by
  unfold cmpQ; (repeat' split) <;> decide
theorem cmpQ_zero (a b : Rat) : cmpQ a b = 0 ↔ a = b := by
  rcases tri a b with h | h | h
  · rw [cmpQ_lt h]; exact ⟨fun h' => absurd h' (by decide), fun h' => by subst h'; exact absurd h Rat.lt_irrefl⟩
  · exact ⟨fun _ => h, fun _ => by subst h; exact cmpQ_self _⟩
  · rw [cmpQ_gt h]; exact ⟨fun h' => absurd h' (by decide), fun h' => by subst h'; exact absurd h Rat.lt_irrefl⟩
theorem cmpQ_le (a b : Rat) : cmpQ a b ≤ 0 ↔ a ≤ b := by
  rcases tri a b with h | h | h
  · rw [cmpQ_lt h]; exact ⟨fun _ => Rat.le_of_lt h, fun _ => by decide⟩
  · subst h; rw [cmpQ_self]; exact ⟨fun _ => Rat.le_refl, fun _ => by decide⟩
  · rw [cmpQ_gt h]; exact ⟨fun h' => absurd h' (by decide), fun h' => absurd h (Rat.not_lt.2 h')⟩
theorem cmpQ_add (a b c : Rat) : cmpQ (a + c) (b + c) = cmpQ a b := by
  rcases tri a b with h | h | h
  · rw [cmpQ_lt h, cmpQ_lt (Rat.add_lt_add_right.2 h)]
  · subst h; rw [cmpQ_self, cmpQ_self]
  · rw [cmpQ_gt h, cmpQ_gt (Rat.add_lt_add_right.2 h)]
theorem cmpQ_sub (a b : Rat) : cmpN (a - b).num 0 = cmpQ a b := by
  have e : cmpN (a - b).num 0 = if (a - b).num < 0 then -1 else if 0 < (a - b).num then 1 else 0 := rfl
  rw [e]
  have hn := Rat.num_nonneg (q := a - b)
  have hz := Rat.num_eq_zero (q := a - b)
  rcases tri a b with h | h | h
  · have h1 : ¬ 0 ≤ a - b := fun h' => by
      have := (Rat.le_iff_sub_nonneg b a).2 h'
      exact absurd h (Rat.not_lt.2 this)
    rw [if_pos (by have := mt hn.1 h1; omega), cmpQ_lt h]
  · subst h
    rw [Rat.sub_self, cmpQ_self]; rfl
  · have h1 := (Rat.lt_iff_sub_pos b a).1 h
    have h2 : 0 ≤ (a - b).num := hn.2 (Rat.le_of_lt h1)
    have h3 : (a - b).num ≠ 0 := fun h' => by rw [hz.1 h'] at h1; exact absurd h1 Rat.lt_irrefl
    rw [if_neg (by omega), if_pos (by omega), cmpQ_gt h]

theorem qv_inj {p q r t : Int} (h1 : chk p q = 0) (h2 : chk r t = 0) : qv p q = qv r t ↔ p = r ∧ q = t := by
  constructor
  · intro h
    have e1 := qv_num h1
    have e2 := qv_den h1
    rw [h, qv_num h2] at e1
    rw [h, qv_den h2] at e2
    exact ⟨e1.symm, e2.symm⟩
  · rintro ⟨rfl, rfl⟩; rfl

theorem cmpV_c {p q r t : Int} (h1 : chk p q = 0) (h2 : chk r t = 0) : cmpV p q r t = (cmpQ (qv p q) (qv r t), 0) := cmpV_q h1 h2

/-- a result of a sum: valid, or out of range -/
theorem outQ_cases (a : Rat) : (∃ n d : Int, outQ a = (n, d, 0) ∧ chk n d = 0 ∧ qv n d = a ∧ n = a.num ∧ d = a.den ∧ -9223372036854775807 ≤ n ∧ n ≤ 9223372036854775807 ∧ 1 ≤ d ∧ d ≤ 9223372036854775807) ∨ outQ a = (0, 0, 16) := by
  rcases outQ_err a with h | h
  · obtain ⟨h1, h2, h3⟩ := outQ_ok h
    have := a.den_pos
    exact .inl ⟨a.num, a.den, h1, chk_rat a h2, qv_rat a, rfl, rfl, by omega, by omega, by omega, by omega⟩
  · exact .inr h

end Go.Proofs.Ytffamgiknfphaaa
