/- Plain lemmas on products of 64 bits by halves, and on numbers of 128 bits with a sign. No program is named. -/
import Derived.Test.YtffamgiknfphaaaRatE
namespace Go.Proofs.Ytffamgiknfphaaa
open Go.RowKit
set_option linter.unusedVariables false

theorem half_mul (H ah al bh bl : Nat) (hal : al < H) (hbl : bl < H) (hH : 0 < H) :
    (ah * bh + (ah * bl + al * bl / H) / H + (al * bh + (ah * bl + al * bl / H) % H) / H) * (H * H) + ((al * bh + (ah * bl + al * bl / H) % H) % H * H + al * bl % H) = (ah * H + al) * (bh * H + bl) ∧
    (al * bh + (ah * bl + al * bl / H) % H) % H * H + al * bl % H < H * H := by
  have d1 := Nat.div_add_mod (al * bl) H
  have d2 := Nat.div_add_mod (ah * bl + al * bl / H) H
  have d3 := Nat.div_add_mod (al * bh + (ah * bl + al * bl / H) % H) H
  have l1 := Nat.mod_lt (al * bl) hH
  have l3 := Nat.mod_lt (al * bh + (ah * bl + al * bl / H) % H) hH
  have e : (ah * H + al) * (bh * H + bl) = ah * bh * (H * H) + (ah * bl + al * bh) * H + al * bl := by
    rw [Nat.add_mul, Nat.mul_add, Nat.mul_add, Nat.add_mul (ah * bl)]
    have e1 : ah * H * (bh * H) = ah * bh * (H * H) := by rw [Nat.mul_assoc, Nat.mul_assoc, ← Nat.mul_assoc H bh H, Nat.mul_comm H bh, Nat.mul_assoc bh H H]
    have e2 : ah * H * bl = ah * bl * H := by rw [Nat.mul_assoc, Nat.mul_comm H bl, ← Nat.mul_assoc]
    have e3 : al * (bh * H) = al * bh * H := by rw [Nat.mul_assoc]
    omega
  rw [e]
  generalize al * bl / H = x1 at *
  generalize al * bl % H = y1 at *
  generalize (ah * bl + x1) / H = x2 at *
  generalize (ah * bl + x1) % H = y2 at *
  generalize (al * bh + y2) / H = x3 at *
  generalize (al * bh + y2) % H = y3 at *
  generalize hp1 : al * bl = p1 at *
  generalize hp2 : ah * bl = p2 at *
  generalize hp3 : al * bh = p3 at *
  generalize hp4 : ah * bh = p4 at *
  constructor
  · have f2 : (p2 + x1) * H = (H * x2 + y2) * H := by rw [d2]
    have f3 : (p3 + y2) * H = (H * x3 + y3) * H := by rw [d3]
    rw [Nat.add_mul, Nat.add_mul] at f2 f3
    have g2 : H * x2 * H = x2 * (H * H) := by rw [Nat.mul_comm H x2, Nat.mul_assoc]
    have g3 : H * x3 * H = x3 * (H * H) := by rw [Nat.mul_comm H x3, Nat.mul_assoc]
    have g1 : H * x1 = x1 * H := Nat.mul_comm _ _
    rw [Nat.add_mul, Nat.add_mul, Nat.add_mul]
    omega
  · have : (y3 + 1) * H ≤ H * H := Nat.mul_le_mul_right _ l3
    rw [Nat.add_mul] at this
    omega

theorem sub_borrow (W a b c d : Nat) (hb : b < W) (hd : d < W) (hlt : b < d) (hle : c * W + d ≤ a * W + b) :
    c + 1 ≤ a ∧ (a * W + b - (c * W + d)) / W = a - c - 1 ∧ (a * W + b - (c * W + d)) % W = W + b - d := by
  have hca : c + 1 ≤ a := by
    rcases Nat.lt_or_ge c a with h | h
    · exact h
    · have := Nat.mul_le_mul_right W h; omega
  obtain ⟨k, rfl⟩ : ∃ k, a = c + 1 + k := ⟨a - c - 1, by omega⟩
  have e : (c + 1 + k) * W + b - (c * W + d) = k * W + (W + b - d) := by
    rw [Nat.add_mul, Nat.add_mul, Nat.one_mul]; omega
  rw [e]
  exact ⟨hca, by rw [hi_of W k _ (by omega)]; omega, lo_of W k _ (by omega)⟩

theorem sub_plain (W a b c d : Nat) (hb : b < W) (hlt : ¬ b < d) (hle : c * W + d ≤ a * W + b) :
    c ≤ a ∧ (a * W + b - (c * W + d)) / W = a - c ∧ (a * W + b - (c * W + d)) % W = b - d := by
  have hca : c ≤ a := by
    rcases Nat.lt_or_ge a c with h | h
    · have := Nat.mul_le_mul_right W (show a + 1 ≤ c from h)
      rw [Nat.add_mul] at this; omega
    · exact h
  obtain ⟨k, rfl⟩ : ∃ k, a = c + k := ⟨a - c, by omega⟩
  have e : (c + k) * W + b - (c * W + d) = k * W + (b - d) := by
    rw [Nat.add_mul]; omega
  rw [e]
  exact ⟨hca, by rw [hi_of W k _ (by omega)]; omega, lo_of W k _ (by omega)⟩

theorem add_carry (W a b c d : Nat) (hb : b < W) (hd : d < W) (h : W ≤ b + d) :
    (a * W + b + (c * W + d)) / W = a + c + 1 ∧ (a * W + b + (c * W + d)) % W = b + d - W := by
  have e : a * W + b + (c * W + d) = (a + c + 1) * W + (b + d - W) := by
    rw [Nat.add_mul, Nat.add_mul, Nat.one_mul]; omega
  rw [e]
  exact ⟨hi_of W _ _ (by omega), lo_of W _ _ (by omega)⟩

theorem add_plain (W a b c d : Nat) (h : b + d < W) :
    (a * W + b + (c * W + d)) / W = a + c ∧ (a * W + b + (c * W + d)) % W = b + d := by
  have e : a * W + b + (c * W + d) = (a + c) * W + (b + d) := by
    rw [Nat.add_mul]; omega
  rw [e]
  exact ⟨hi_of W _ _ h, lo_of W _ _ h⟩

end Go.Proofs.Ytffamgiknfphaaa
