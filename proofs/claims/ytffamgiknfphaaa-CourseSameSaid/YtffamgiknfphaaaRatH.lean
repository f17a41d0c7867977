

/- What the reference of layer 1 computes with numbers of 128 bits, step by step (walks): product, Product, less, minus, Plus, Sign. -/
import Derived.Test.YtffamgiknfphaaaRatG
import Derived.Test.YtffamgiknfphaaaRatHP
namespace Go.Proofs.Ytffamgiknfphaaa
open Go.RowKit Go.Sort
set_option linter.unusedVariables false

theorem rproduct_any (a b hi lo : Nat) (h : Two hi lo (a * b)) (w : World) (ha : a < 18446744073709551616) (hb : b < 18446744073709551616) :
    Calls Try.prog 61 #[.int .u64 a, .int .u64 b] w fun e w' => e = .returned (.agg #[.bool false, .int .u64 hi, .int .u64 lo]) ∧ Below w.heap.size w w' := by
  obtain ⟨ah, hah⟩ : ∃ ah, ah = a / 4294967296 := ⟨_, rfl⟩
  obtain ⟨al, hal⟩ : ∃ al, al = a % 4294967296 := ⟨_, rfl⟩
  obtain ⟨bh, hbh⟩ : ∃ bh, bh = b / 4294967296 := ⟨_, rfl⟩
  obtain ⟨bl, hbl⟩ : ∃ bl, bl = b % 4294967296 := ⟨_, rfl⟩
  have A1 : (a : Int) / 4294967296 = (ah : Int) := by omega
  have A2 : (a : Int) % 4294967296 = (al : Int) := by omega
  have B1 : (b : Int) / 4294967296 = (bh : Int) := by omega
  have B2 : (b : Int) % 4294967296 = (bl : Int) := by omega
  have ah1 : ah ≤ 4294967295 := by omega
  have al1 : al ≤ 4294967295 := by omega
  have bh1 : bh ≤ 4294967295 := by omega
  have bl1 : bl ≤ 4294967295 := by omega
  obtain ⟨q1, q2⟩ := half_mul 4294967296 ah al bh bl (by omega) (by omega) (by decide)
  have hab : (ah * 4294967296 + al) * (bh * 4294967296 + bl) = a * b := by
    have e1 : ah * 4294967296 + al = a := by rw [hah, hal, Nat.mul_comm]; exact Nat.div_add_mod _ _
    have e2 : bh * 4294967296 + bl = b := by rw [hbh, hbl, Nat.mul_comm]; exact Nat.div_add_mod _ _
    rw [e1, e2]
  obtain ⟨p1, hp1⟩ : ∃ p, p = al * bl := ⟨_, rfl⟩
  obtain ⟨p2, hp2⟩ : ∃ p, p = ah * bl := ⟨_, rfl⟩
  obtain ⟨p3, hp3⟩ : ∃ p, p = al * bh := ⟨_, rfl⟩
  obtain ⟨p4, hp4⟩ : ∃ p, p = ah * bh := ⟨_, rfl⟩
  have c1 : p1 ≤ 18446744065119617025 := by rw [hp1]; exact Nat.mul_le_mul al1 bl1
  have c2 : p2 ≤ 18446744065119617025 := by rw [hp2]; exact Nat.mul_le_mul ah1 bl1
  have c3 : p3 ≤ 18446744065119617025 := by rw [hp3]; exact Nat.mul_le_mul al1 bh1
  have c4 : p4 ≤ 18446744065119617025 := by rw [hp4]; exact Nat.mul_le_mul ah1 bh1
  have W1 : IntKind.u64.wrap ((al : Int) * (bl : Int)) = (p1 : Int) := by rw [IntKind.wrap_u64, ← Int.natCast_mul, ← hp1]; omega
  have W2 : IntKind.u64.wrap ((ah : Int) * (bl : Int)) = (p2 : Int) := by rw [IntKind.wrap_u64, ← Int.natCast_mul, ← hp2]; omega
  have W3 : IntKind.u64.wrap ((al : Int) * (bh : Int)) = (p3 : Int) := by rw [IntKind.wrap_u64, ← Int.natCast_mul, ← hp3]; omega
  have W4 : IntKind.u64.wrap ((ah : Int) * (bh : Int)) = (p4 : Int) := by rw [IntKind.wrap_u64, ← Int.natCast_mul, ← hp4]; omega
  rw [← hp1, ← hp2, ← hp3, ← hp4] at q1
  rw [← hp1, ← hp2, ← hp3] at q2
  rw [hab] at q1
  clear hp1 hp2 hp3 hp4 hab hah hal hbh hbl
  obtain ⟨x1, hx1⟩ : ∃ x, x = p1 / 4294967296 := ⟨_, rfl⟩
  obtain ⟨y1, hy1⟩ : ∃ y, y = p1 % 4294967296 := ⟨_, rfl⟩
  rw [← hx1, ← hy1] at q1 q2
  obtain ⟨m, hm⟩ : ∃ m, m = p2 + x1 := ⟨_, rfl⟩
  rw [← hm] at q1 q2
  obtain ⟨x2, hx2⟩ : ∃ x, x = m / 4294967296 := ⟨_, rfl⟩
  obtain ⟨y2, hy2⟩ : ∃ y, y = m % 4294967296 := ⟨_, rfl⟩
  rw [← hy2] at q1 q2
  rw [← hx2] at q1
  obtain ⟨n, hn⟩ : ∃ n, n = p3 + y2 := ⟨_, rfl⟩
  rw [← hn] at q1 q2
  obtain ⟨x3, hx3⟩ : ∃ x, x = n / 4294967296 := ⟨_, rfl⟩
  obtain ⟨y3, hy3⟩ : ∃ y, y = n % 4294967296 := ⟨_, rfl⟩
  rw [← hy3] at q1 q2
  rw [← hx3] at q1
  obtain ⟨k, hk⟩ : ∃ k, k = y3 * 4294967296 + y1 := ⟨_, rfl⟩
  obtain ⟨j, hj⟩ : ∃ j, j = p4 + x2 + x3 := ⟨_, rfl⟩
  rw [← hk] at q1 q2
  rw [← hj] at q1
  have X1 : (p1 : Int) / 4294967296 = (x1 : Int) := by omega
  have Y1 : (p1 : Int) % 4294967296 = (y1 : Int) := by omega
  have M1 : (p2 : Int) + (x1 : Int) = (m : Int) := by omega
  have X2 : (m : Int) / 4294967296 = (x2 : Int) := by omega
  have Y2 : (m : Int) % 4294967296 = (y2 : Int) := by omega
  have N1 : (p3 : Int) + (y2 : Int) = (n : Int) := by omega
  have X3 : (n : Int) / 4294967296 = (x3 : Int) := by omega
  have Y3 : (n : Int) % 4294967296 = (y3 : Int) := by omega
  have y1b : y1 < 4294967296 := by omega
  have y3b : y3 < 4294967296 := by omega
  have x1b : x1 < 4294967296 := by omega
  have x2b : x2 < 4294967296 := by omega
  have x3b : x3 < 4294967296 := by omega
  have y2b : y2 < 4294967296 := by omega
  obtain ⟨e1, e2⟩ := h
  have f1 : hi = j := by rw [e1, ← q1]; exact hi_of _ j k q2
  have f2 : lo = k := by rw [e2, ← q1]; exact lo_of _ j k q2
  have g1 : IntKind.u64.wrap ((p4 : Int) + (x2 : Int) + (x3 : Int)) = (j : Int) := by rw [IntKind.wrap_u64]; omega
  subst f1 f2
  have H1 := Lib.hid hj
  have H2 := Lib.hid hk
  clear hj hk hx1 hy1 hm hx2 hy2 hn hx3 hy3 e1 e2 q1 q2 g1
  go_enter Try.func61, Try.ntmps61
  go_wp2_with (first | ((with_reducible refine wp_region_quiet_below ?_ ?_ ?_); kernel_rfl; kernel_rfl; (repeat (go_big_quiet_step (fail))); refine wpQuiet_nil ?_; intro _ hw'; obtain ⟨⟨dq, osq⟩, hw''⟩ := hw'; subst hw''))
  refine bodyPost_ret (v := .agg #[.bool false, .int .u64 (hi : Nat), .int .u64 (lo : Nat)]) (by simp [results, Try.results61, go_sem]; exact ⟨by have := H1.out; omega, by have := H2.out; omega⟩) rfl ⟨rfl, (by repeat (first | exact Below.refl _ _ | refine below_reg ?_ _ _ | refine below_alloc ?_ _ | exact below_drewN ?_ _ | assumption))⟩

/-- a whole number of 128 bits with a sign, as the reference has it -/
def bigV (x : Int) (hi lo : Nat) : Value := .agg #[.bool (decide (x < 0)), .int .u64 hi, .int .u64 lo]

theorem sgn_mul (a b : Int) : ((!(decide (a < 0) == decide (b < 0))) && (!(a == 0) && !(b == 0))) = decide (a * b < 0) := by
  rcases Int.lt_trichotomy a 0 with h | h | h <;> rcases Int.lt_trichotomy b 0 with h' | h' | h'
  all_goals first
    | (subst h; simp)
    | (subst h'; simp)
    | (have := Int.mul_pos_of_neg_of_neg h h'; rw [decide_eq_true h, decide_eq_true h', decide_eq_false (show ¬ a * b < 0 by omega)]; simp)
    | (have := Int.mul_neg_of_neg_of_pos h h'; rw [decide_eq_true h, decide_eq_false (show ¬ b < 0 by omega), decide_eq_true this, beq_eq_false_iff_ne.2 (show a ≠ 0 by omega), beq_eq_false_iff_ne.2 (show b ≠ 0 by omega)]; rfl)
    | (have := Int.mul_neg_of_pos_of_neg h h'; rw [decide_eq_false (show ¬ a < 0 by omega), decide_eq_true h', decide_eq_true this, beq_eq_false_iff_ne.2 (show a ≠ 0 by omega), beq_eq_false_iff_ne.2 (show b ≠ 0 by omega)]; rfl)
    | (have := Int.mul_pos h h'; rw [decide_eq_false (show ¬ a < 0 by omega), decide_eq_false (show ¬ b < 0 by omega), decide_eq_false (show ¬ a * b < 0 by omega)]; simp)

theorem rProduct_any (a b : Int) (hi lo : Nat) (h : Two hi lo (a.natAbs * b.natAbs)) (w : World) (h0 : -9223372036854775808 ≤ a) (h1 : a ≤ 9223372036854775807) (h2 : -9223372036854775808 ≤ b) (h3 : b ≤ 9223372036854775807) :
    Calls Try.prog 40 #[.int .i64 a, .int .i64 b] w fun e w' => e = .returned (.agg #[.bool (decide (a * b < 0)), .int .u64 hi, .int .u64 lo]) ∧ Below w.heap.size w w' := by
  have HS := sgn_mul a b
  rw [← HS]
  have HP := Lib.hid (rproduct_any a.natAbs b.natAbs hi lo h)
  clear HS
  cases ha : decide (a < 0) <;> cases hb : decide (b < 0) <;> cases ha0 : (a == 0) <;> cases hb0 : (b == 0)
  all_goals first | (exfalso; simp at ha hb ha0 hb0; omega) | skip
  all_goals
    have ha1 : (a != 0) = !(a == 0) := rfl
    have hb1 : (b != 0) = !(b == 0) := rfl
    rw [ha0] at ha1
    rw [hb0] at hb1
    simp only [Bool.not_true, Bool.not_false] at ha1 hb1
    go_enter Try.func40, Try.ntmps40
    go_wp2_with (first | (go_at_call 45; (with_reducible refine cmono ?_ (rsize_any _ _ ?_ ?_)); rotate_left; omega; omega; rintro e w' ⟨rfl, hbc0⟩; obtain ⟨⟨dc0, osc0⟩, rfl⟩ := regrown_of_below hbc0; clear hbc0) | (go_at_call 61; (with_reducible refine cmono ?_ (HP.out _ ?_ ?_)); rotate_left; omega; omega; rintro e w' ⟨rfl, hbc1⟩; obtain ⟨⟨dc1, osc1⟩, rfl⟩ := regrown_of_below hbc1; clear hbc1) | ((with_reducible refine wp_region_quiet_below ?_ ?_ ?_); kernel_rfl; kernel_rfl; (repeat (go_big_quiet_step (first | (go_at_call 45; (with_reducible refine Calls.regrown_of (rsize_any _ _ ?_ ?_)); omega; omega) | (go_at_call 61; (with_reducible refine Calls.regrown_of (HP.out _ ?_ ?_)); omega; omega)))); refine wpQuiet_nil ?_; intro _ hw'; obtain ⟨⟨dq, osq⟩, hw''⟩ := hw'; subst hw''))
    first
      | refine bodyPost_ret (v := .agg #[.bool true, .int .u64 (hi : Nat), .int .u64 (lo : Nat)]) (by simp [results, Try.results40, go_sem]) rfl ⟨rfl, (by repeat (first | exact Below.refl _ _ | refine below_reg ?_ _ _ | refine below_alloc ?_ _ | exact below_drewN ?_ _ | assumption))⟩
      | refine bodyPost_ret (v := .agg #[.bool false, .int .u64 (hi : Nat), .int .u64 (lo : Nat)]) (by simp [results, Try.results40, go_sem]) rfl ⟨rfl, (by repeat (first | exact Below.refl _ _ | refine below_reg ?_ _ _ | refine below_alloc ?_ _ | exact below_drewN ?_ _ | assumption))⟩

theorem rless_any (x y : Bool) (a b c d m n : Nat) (h1 : Two a b m) (h2 : Two c d n) (w : World) :
    Calls Try.prog 47 #[.agg #[.bool x, .int .u64 a, .int .u64 b], .agg #[.bool y, .int .u64 c, .int .u64 d]] w fun en w' => en = .returned (.int .i64 (cmpN (m : Int) (n : Int))) ∧ Below w.heap.size w w' := by
  have HC := cmpN_hi a b c d h1.lo h2.lo
  rw [h1.eq, h2.eq] at HC
  obtain ⟨k, hk⟩ : ∃ k, k = cmpN (m : Int) (n : Int) := ⟨_, rfl⟩
  rw [← hk] at HC ⊢
  have HH := Lib.hid HC
  clear HC h1 h2 hk
  go_enter Try.func47, Try.ntmps47
  go_wp2_with (first | ((with_reducible refine wp_region_quiet_below ?_ ?_ ?_); kernel_rfl; kernel_rfl; (repeat (go_big_quiet_step (fail))); refine wpQuiet_nil ?_; intro _ hw'; obtain ⟨⟨dq, osq⟩, hw''⟩ := hw'; subst hw''))
  all_goals (go_ret; refine ⟨ret_int ?_, (by repeat (first | exact Below.refl _ _ | refine below_reg ?_ _ _ | refine below_alloc ?_ _ | exact below_drewN ?_ _ | assumption))⟩)
  all_goals (rw [HH.out]; unfold cmpN; simp only [bne_iff_ne, ne_eq, bne_eq_false_iff_eq] at *)
  all_goals ((repeat' split) <;> omega)

theorem rminus_any (x y : Bool) (a b c d hi lo m n : Nat) (h1 : Two a b m) (h2 : Two c d n) (h : Two hi lo (m - n)) (hle : n ≤ m) (hm : m < 9223372036854775807 * 18446744073709551616) (w : World) :
    Calls Try.prog 63 #[.agg #[.bool x, .int .u64 a, .int .u64 b], .agg #[.bool y, .int .u64 c, .int .u64 d]] w fun en w' => en = .returned (.agg #[.bool false, .int .u64 hi, .int .u64 lo]) ∧ Below w.heap.size w w' := by
  have e1 := h1.eq
  have e2 := h2.eq
  have l1 := h1.lo
  have l2 := h2.lo
  have u1 := h1.hi _ hm
  have u2 := h2.hi 9223372036854775807 (Nat.lt_of_le_of_lt hle hm)
  obtain ⟨r1, r2⟩ := h
  rw [← e1, ← e2] at r1 r2 hle
  by_cases hb : b < d
  · obtain ⟨v1, v2, v3⟩ := sub_borrow 18446744073709551616 a b c d l1 l2 hb hle
    rw [v2] at r1
    rw [v3] at r2
    have R1 : IntKind.u64.wrap ((a : Int) - (c : Int) - 1) = (hi : Int) := by rw [IntKind.wrap_u64]; omega
    have R2 : IntKind.u64.wrap ((b : Int) - (d : Int)) = (lo : Int) := by rw [IntKind.wrap_u64]; omega
    have R3 : (a : Int) - (c : Int) - 1 = (hi : Int) := by omega
    have hbd : (b : Int) < (d : Int) := by omega
    clear e1 e2 h1 h2 hm hle r1 r2 v2 v3
    go_enter Try.func63, Try.ntmps63
    go_wp2_with (first | ((with_reducible refine wp_region_quiet_below ?_ ?_ ?_); kernel_rfl; kernel_rfl; (repeat (go_big_quiet_step (fail))); refine wpQuiet_nil ?_; intro _ hw'; obtain ⟨⟨dq, osq⟩, hw''⟩ := hw'; subst hw''))
    refine bodyPost_ret (v := .agg #[.bool false, .int .u64 (hi : Nat), .int .u64 (lo : Nat)]) (by simp [results, Try.results63, go_sem]) rfl ⟨rfl, (by repeat (first | exact Below.refl _ _ | refine below_reg ?_ _ _ | refine below_alloc ?_ _ | exact below_drewN ?_ _ | assumption))⟩
  · obtain ⟨v1, v2, v3⟩ := sub_plain 18446744073709551616 a b c d l1 hb hle
    rw [v2] at r1
    rw [v3] at r2
    have R1 : (a : Int) - (c : Int) = (hi : Int) := by omega
    have R2 : (b : Int) - (d : Int) = (lo : Int) := by omega
    have hbd : ¬ (b : Int) < (d : Int) := by omega
    have hbe : (d : Int) ≤ (b : Int) := by omega
    have hca : (c : Int) ≤ (a : Int) := by omega
    clear e1 e2 h1 h2 hm hle r1 r2 v2 v3
    go_enter Try.func63, Try.ntmps63
    go_wp2_with (first | ((with_reducible refine wp_region_quiet_below ?_ ?_ ?_); kernel_rfl; kernel_rfl; (repeat (go_big_quiet_step (fail))); refine wpQuiet_nil ?_; intro _ hw'; obtain ⟨⟨dq, osq⟩, hw''⟩ := hw'; subst hw''))
    refine bodyPost_ret (v := .agg #[.bool false, .int .u64 (hi : Nat), .int .u64 (lo : Nat)]) (by simp [results, Try.results63, go_sem]) rfl ⟨rfl, (by repeat (first | exact Below.refl _ _ | refine below_reg ?_ _ _ | refine below_alloc ?_ _ | exact below_drewN ?_ _ | assumption))⟩

end Go.Proofs.Ytffamgiknfphaaa
