/- Plain lemmas on the division of 128 bits by 64, in two steps of 32 bits. No program is named. -/
import Derived.WalkKit
namespace Go.Proofs.Ytffamgiknfphaaa

theorem kn_le (y1 y0 u un q r : Nat) (hu : u = q * y1 + r) : q * y0 ≤ 4294967296 * r + un ↔ q * (y1 * 4294967296 + y0) ≤ u * 4294967296 + un := by
  have e1 : u * 4294967296 = q * y1 * 4294967296 + r * 4294967296 := by rw [hu, Nat.add_mul]
  have e2 : q * (y1 * 4294967296 + y0) = q * y1 * 4294967296 + q * y0 := by rw [Nat.mul_add, Nat.mul_assoc]
  omega

theorem kn_done (y n q : Nat) (hy : 0 < y) (h1 : q * y ≤ n) (h2 : n / y ≤ q) : q = n / y :=
  Nat.le_antisymm ((Nat.le_div_iff_mul_le hy).2 h1) h2

theorem kn_start (y1 y0 u un : Nat) (hy : 0 < y1) (hun : un < 4294967296) : (u * 4294967296 + un) / (y1 * 4294967296 + y0) ≤ u / y1 := by
  have h1 : (u * 4294967296 + un) / (y1 * 4294967296 + y0) ≤ (u * 4294967296 + un) / (4294967296 * y1) :=
    Nat.div_le_div_left (by omega) (by omega)
  rw [← Nat.div_div_eq_div_mul] at h1
  have h2 : (u * 4294967296 + un) / 4294967296 = u := by omega
  rw [h2] at h1
  exact h1

theorem kn_less (y u un : Nat) (hu : u < y) (hun : un < 4294967296) : (u * 4294967296 + un) / y < 4294967296 := by
  rw [Nat.div_lt_iff_lt_mul (by omega)]
  have : (u + 1) * 4294967296 ≤ y * 4294967296 := Nat.mul_le_mul_right _ hu
  have : 4294967296 * y = y * 4294967296 := Nat.mul_comm _ _
  omega

theorem kn_dec (y n q : Nat) (hy : 0 < y) (h : ¬ q * y ≤ n) : n / y < q := by
  rw [Nat.div_lt_iff_lt_mul hy]
  omega

theorem kn_break (y1 y0 u un q r : Nat) (hu : u = q * y1 + r) (hy : u < y1 * 4294967296 + y0) (h0 : y0 < 4294967296) (hr : 4294967296 ≤ r) : q * (y1 * 4294967296 + y0) ≤ u * 4294967296 + un := by
  rw [← kn_le y1 y0 u un q r hu]
  have hq : q < 4294967296 := by
    have h1 : q * y1 < 4294967296 * y1 := by omega
    exact Nat.lt_of_mul_lt_mul_right h1
  have h2 : q * y0 ≤ 4294967296 * 4294967296 := Nat.mul_le_mul (by omega) (by omega)
  omega

theorem kn_rem (u y1 : Nat) (hu : u < 18446744073709551616) : IntKind.u64.wrap ((u : Int) - IntKind.u64.wrap ((u : Int) / (y1 : Int) * (y1 : Int))) = ((u % y1 : Nat) : Int) := by
  have e : (u : Int) / (y1 : Int) * (y1 : Int) = ((u / y1 * y1 : Nat) : Int) := by simp
  have h := Nat.div_add_mod u y1
  rw [Nat.mul_comm] at h
  rw [e, IntKind.wrap_u64, IntKind.wrap_u64]
  generalize u / y1 * y1 = p at *
  omega

/-- the loop's test says no more than that q is too great -/
theorem kn_exit (Y y1 y0 u v1 q r : Nat) (hY : Y = y1 * 4294967296 + y0) (hy : 0 < Y) (hu : u = q * y1 + r) (hq : (u * 4294967296 + v1) / Y ≤ q) (ht : ¬ 4294967296 * r + v1 < q * y0) : q = (u * 4294967296 + v1) / Y :=
  kn_done Y _ q hy (by rw [hY]; exact (kn_le y1 y0 u v1 q r hu).1 (by omega)) hq
theorem kn_next (Y y1 y0 u v1 q r : Nat) (hY : Y = y1 * 4294967296 + y0) (hy : 0 < Y) (huY : u < Y) (hv : v1 < 4294967296) (hu : u = q * y1 + r) (ht : 4294967296 ≤ q ∨ 4294967296 * r + v1 < q * y0) :
    (u * 4294967296 + v1) / Y < q := by
  rcases ht with ht | ht
  · have := kn_less Y u v1 huY hv; omega
  · refine kn_dec Y _ q hy ?_
    rw [hY, ← kn_le y1 y0 u v1 q r hu]
    omega
theorem kn_down (y1 u q r : Nat) (hq : 0 < q) (hu : u = q * y1 + r) : u = (q - 1) * y1 + (r + y1) := by
  obtain ⟨k, rfl⟩ : ∃ k, q = k + 1 := ⟨q - 1, by omega⟩
  rw [Nat.add_mul] at hu
  simp only [Nat.add_sub_cancel]
  omega

/-- the shifted number: its high and its low word -/
theorem kn_shift (hi lo y s : Nat) (hs : s < 64) (hy : hi < y) (hlo : lo < 18446744073709551616) :
    hi * 2 ^ s ||| lo / 2 ^ (64 - s) = hi * 2 ^ s + lo / 2 ^ (64 - s) ∧
    (hi * 2 ^ s + lo / 2 ^ (64 - s)) * 18446744073709551616 + lo * 2 ^ s % 18446744073709551616 = (hi * 18446744073709551616 + lo) * 2 ^ s ∧ hi * 2 ^ s + lo / 2 ^ (64 - s) < y * 2 ^ s := by
  have hp : 2 ^ (64 - s) * 2 ^ s = 18446744073709551616 := by rw [← Nat.pow_add, show 64 - s + s = 64 by omega]
  have hps : 0 < 2 ^ s := Nat.two_pow_pos _
  generalize 2 ^ (64 - s) = B at *
  have hb : lo / B < 2 ^ s := by
    rw [Nat.div_lt_iff_lt_mul (by rcases Nat.eq_zero_or_pos B with h | h; · rw [h] at hp; omega
                                  · exact h)]
    rw [Nat.mul_comm]; omega
  have h1 : hi * 2 ^ s ||| lo / B = hi * 2 ^ s + lo / B := by
    rw [Nat.mul_comm, Nat.two_pow_add_eq_or_of_lt hb]
  have h2 : lo * 2 ^ s / 18446744073709551616 = lo / B := by
    rw [← hp]; exact Nat.mul_div_mul_right _ _ hps
  have h3 : (hi * 2 ^ s + lo / B) * 18446744073709551616 + lo * 2 ^ s % 18446744073709551616 = (hi * 18446744073709551616 + lo) * 2 ^ s := by
    have e1 : (hi * 18446744073709551616 + lo) * 2 ^ s = hi * 18446744073709551616 * 2 ^ s + lo * 2 ^ s := Nat.add_mul _ _ _
    have e2 : hi * 18446744073709551616 * 2 ^ s = hi * 2 ^ s * 18446744073709551616 := by rw [Nat.mul_assoc, Nat.mul_comm 18446744073709551616, ← Nat.mul_assoc]
    omega
  refine ⟨h1, h3, ?_⟩
  have h4 : (hi * 18446744073709551616 + lo) * 2 ^ s < y * 18446744073709551616 * 2 ^ s := Nat.mul_lt_mul_of_pos_right (by omega) hps
  have h5 : y * 18446744073709551616 * 2 ^ s = y * 2 ^ s * 18446744073709551616 := by rw [Nat.mul_assoc, Nat.mul_comm 18446744073709551616, ← Nat.mul_assoc]
  omega

/-- what is left, reckoned with wraps -/
theorem kn_left (u v1 q Y : Nat) (hq : q = (u * 4294967296 + v1) / Y) (hY : 0 < Y) (hYb : Y < 18446744073709551616) :
    IntKind.u64.wrap (IntKind.u64.wrap (IntKind.u64.wrap ((u : Int) * 4294967296) + (v1 : Int)) - IntKind.u64.wrap ((q : Int) * (Y : Int))) = (((u * 4294967296 + v1) % Y : Nat) : Int) := by
  have e : (q : Int) * (Y : Int) = ((q * Y : Nat) : Int) := by simp
  have h := Nat.div_add_mod (u * 4294967296 + v1) Y
  have hl := Nat.mod_lt (u * 4294967296 + v1) hY
  rw [← hq, Nat.mul_comm] at h
  rw [e]
  generalize (u * 4294967296 + v1) % Y = m at *
  generalize q * Y = p at *
  simp only [IntKind.wrap_u64]
  omega

/-- two steps make the whole -/
theorem kn_two (b y n un0 : Nat) (hy : 0 < y) :
    (n * b + un0) / y = n / y * b + (n % y * b + un0) / y ∧ (n * b + un0) % y = (n % y * b + un0) % y := by
  have e : n * b + un0 = (n % y * b + un0) + y * (n / y * b) := by
    have h := Nat.div_add_mod n y
    have h2 : n * b = y * (n / y) * b + n % y * b := by rw [← Nat.add_mul, h]
    rw [Nat.mul_assoc] at h2
    omega
  rw [e, Nat.add_mul_div_left _ _ hy, Nat.add_mul_mod_self_left]
  exact ⟨Nat.add_comm _ _, rfl⟩

theorem kn_join (u v v1 v0 n up : Nat) (hU : u * 18446744073709551616 + v = up) (hV : v = v1 * 4294967296 + v0) (hn : n = u * 4294967296 + v1) : n * 4294967296 + v0 = up := by
  subst hn hV hU
  rw [Nat.add_mul, Nat.mul_assoc]
  omega

/-- both steps, and the shift undone -/
theorem kn_fin (U y Y u v v1 v0 m q1 q2 x s : Nat) (hU : u * 18446744073709551616 + v = U * 2 ^ s) (hV : v = v1 * 4294967296 + v0) (hY : Y = y * 2 ^ s) (hYp : 0 < Y)
    (h1 : q1 = (u * 4294967296 + v1) / Y) (hm : m = (u * 4294967296 + v1) % Y) (h2 : q2 = (m * 4294967296 + v0) / Y) (hx : x = (m * 4294967296 + v0) % Y) :
    q1 * 4294967296 + q2 = U / y ∧ x / 2 ^ s = U % y := by
  have hp : 0 < 2 ^ s := Nat.two_pow_pos _
  generalize 2 ^ s = p at *
  generalize hUp : U * p = up at *
  obtain ⟨n, hn⟩ : ∃ n, n = u * 4294967296 + v1 := ⟨_, rfl⟩
  rw [← hn] at h1 hm
  have e3 : n * 4294967296 + v0 = U * p := kn_join u v v1 v0 n up hU hV hn |>.trans hUp.symm
  obtain ⟨e1, e2⟩ := kn_two 4294967296 Y n v0 hYp
  rw [e3, ← h1, ← hm, ← h2, hY, Nat.mul_div_mul_right _ _ hp] at e1
  rw [e3, ← hm, ← hx, hY, Nat.mul_mod_mul_right] at e2
  exact ⟨e1.symm, by rw [← e2, Nat.mul_div_cancel _ hp]⟩

theorem hi_of (W q l : Nat) (h : l < W) : (q * W + l) / W = q := by
  rw [Nat.mul_comm, Nat.mul_add_div (by omega), Nat.div_eq_of_lt h, Nat.add_zero]
theorem lo_of (W q l : Nat) (h : l < W) : (q * W + l) % W = l := by
  rw [Nat.mul_comm, Nat.mul_add_mod, Nat.mod_eq_of_lt h]

end Go.Proofs.Ytffamgiknfphaaa
