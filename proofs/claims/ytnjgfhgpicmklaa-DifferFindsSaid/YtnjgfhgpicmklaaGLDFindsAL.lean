import Derived.Test.YtnjgfhgpicmklaaGLDFindsAK
import Derived.Test.YtnjgfhgpicmklaaGLDFindsAJ
set_option linter.all false
namespace Go.Proofs.Ytnjgfhgpicmklaa
open Go.RowKit Go.Sort
theorem rproduct_any (a b hi lo : Nat) (h : Two hi lo (a * b)) (w : World) (ha : a < 18446744073709551616) (hb : b < 18446744073709551616) :
    Calls Try.prog 83 #[.int .u64 a, .int .u64 b] w fun e w' => e = .returned (.agg #[.bool false, .int .u64 hi, .int .u64 lo]) ∧ Below w.heap.size w w' := by
  obtain ⟨ah, hah⟩ : ∃ ah, ah = a / 4294967296 := ⟨_, rfl⟩
  obtain ⟨al, hal⟩ : ∃ al, al = a % 4294967296 := ⟨_, rfl⟩
  obtain ⟨bh, hbh⟩ : ∃ bh, bh = b / 4294967296 := ⟨_, rfl⟩
  obtain ⟨bl, hbl⟩ : ∃ bl, bl = b % 4294967296 := ⟨_, rfl⟩
  have A1 : (a : Int) / 4294967296 = (ah : Int) := by omega
  have A2 : (a : Int) % 4294967296 = (al : Int) := by omega
  have B1 : (b : Int) / 4294967296 = (bh : Int) := by omega
  have B2 : (b : Int) % 4294967296 = (bl : Int) := by omega
  have ah1 : ah ≤ 4294967295 := by omega
  have al1 : al ≤ 4294967295 := by omega
  have bh1 : bh ≤ 4294967295 := by omega
  have bl1 : bl ≤ 4294967295 := by omega
  obtain ⟨q1, q2⟩ := half_mul 4294967296 ah al bh bl (by omega) (by omega) (by decide)
  have hab : (ah * 4294967296 + al) * (bh * 4294967296 + bl) = a * b := by
    have e1 : ah * 4294967296 + al = a := by rw [hah, hal, Nat.mul_comm]; exact Nat.div_add_mod _ _
    have e2 : bh * 4294967296 + bl = b := by rw [hbh, hbl, Nat.mul_comm]; exact Nat.div_add_mod _ _
    rw [e1, e2]
  obtain ⟨p1, hp1⟩ : ∃ p, p = al * bl := ⟨_, rfl⟩
  obtain ⟨p2, hp2⟩ : ∃ p, p = ah * bl := ⟨_, rfl⟩
  obtain ⟨p3, hp3⟩ : ∃ p, p = al * bh := ⟨_, rfl⟩
  obtain ⟨p4, hp4⟩ : ∃ p, p = ah * bh := ⟨_, rfl⟩
  have c1 : p1 ≤ 18446744065119617025 := by rw [hp1]; exact Nat.mul_le_mul al1 bl1
  have c2 : p2 ≤ 18446744065119617025 := by rw [hp2]; exact Nat.mul_le_mul ah1 bl1
  have c3 : p3 ≤ 18446744065119617025 := by rw [hp3]; exact Nat.mul_le_mul al1 bh1
  have c4 : p4 ≤ 18446744065119617025 := by rw [hp4]; exact Nat.mul_le_mul ah1 bh1
  have W1 : IntKind.u64.wrap ((al : Int) * (bl : Int)) = (p1 : Int) := by rw [IntKind.wrap_u64, ← Int.natCast_mul, ← hp1]; omega
  have W2 : IntKind.u64.wrap ((ah : Int) * (bl : Int)) = (p2 : Int) := by rw [IntKind.wrap_u64, ← Int.natCast_mul, ← hp2]; omega
  have W3 : IntKind.u64.wrap ((al : Int) * (bh : Int)) = (p3 : Int) := by rw [IntKind.wrap_u64, ← Int.natCast_mul, ← hp3]; omega
  have W4 : IntKind.u64.wrap ((ah : Int) * (bh : Int)) = (p4 : Int) := by rw [IntKind.wrap_u64, ← Int.natCast_mul, ← hp4]; omega
  rw [← hp1, ← hp2, ← hp3, ← hp4] at q1
  rw [← hp1, ← hp2, ← hp3] at q2
  rw [hab] at q1
  clear hp1 hp2 hp3 hp4 hab hah hal hbh hbl
  obtain ⟨x1, hx1⟩ : ∃ x, x = p1 / 4294967296 := ⟨_, rfl⟩
  obtain ⟨y1, hy1⟩ : ∃ y, y = p1 % 4294967296 := ⟨_, rfl⟩
  rw [← hx1, ← hy1] at q1 q2
  obtain ⟨m, hm⟩ : ∃ m, m = p2 + x1 := ⟨_, rfl⟩
  rw [← hm] at q1 q2
  obtain ⟨x2, hx2⟩ : ∃ x, x = m / 4294967296 := ⟨_, rfl⟩
  obtain ⟨y2, hy2⟩ : ∃ y, y = m % 4294967296 := ⟨_, rfl⟩
  rw [← hy2] at q1 q2
  rw [← hx2] at q1
  obtain ⟨n, hn⟩ : ∃ n, n = p3 + y2 := ⟨_, rfl⟩
  rw [← hn] at q1 q2
  obtain ⟨x3, hx3⟩ : ∃ x, x = n / 4294967296 := ⟨_, rfl⟩
  obtain ⟨y3, hy3⟩ : ∃ y, y = n % 4294967296 := ⟨_, rfl⟩
  rw [← hy3] at q1 q2
  rw [← hx3] at q1
  obtain ⟨k, hk⟩ : ∃ k, k = y3 * 4294967296 + y1 := ⟨_, rfl⟩
  obtain ⟨j, hj⟩ : ∃ j, j = p4 + x2 + x3 := ⟨_, rfl⟩
  rw [← hk] at q1 q2
  rw [← hj] at q1
  have X1 : (p1 : Int) / 4294967296 = (x1 : Int) := by omega
  have Y1 : (p1 : Int) % 4294967296 = (y1 : Int) := by omega
  have M1 : (p2 : Int) + (x1 : Int) = (m : Int) := by omega
  have X2 : (m : Int) / 4294967296 = (x2 : Int) := by omega
  have Y2 : (m : Int) % 4294967296 = (y2 : Int) := by omega
  have N1 : (p3 : Int) + (y2 : Int) = (n : Int) := by omega
  have X3 : (n : Int) / 4294967296 = (x3 : Int) := by omega
  have Y3 : (n : Int) % 4294967296 = (y3 : Int) := by omega
  have y1b : y1 < 4294967296 := by omega
  have y3b : y3 < 4294967296 := by omega
  have x1b : x1 < 4294967296 := by omega
  have x2b : x2 < 4294967296 := by omega
  have x3b : x3 < 4294967296 := by omega
  have y2b : y2 < 4294967296 := by omega
  obtain ⟨e1, e2⟩ := h
  have f1 : hi = j := by rw [e1, ← q1]; exact hi_of _ j k q2
  have f2 : lo = k := by rw [e2, ← q1]; exact lo_of _ j k q2
  have g1 : IntKind.u64.wrap ((p4 : Int) + (x2 : Int) + (x3 : Int)) = (j : Int) := by rw [IntKind.wrap_u64]; omega
  subst f1 f2
  have H1 := Lib.hid hj
  have H2 := Lib.hid hk
  clear hj hk hx1 hy1 hm hx2 hy2 hn hx3 hy3 e1 e2 q1 q2 g1
  go_enter Try.func83, Try.ntmps83
  go_wp2_with (first | ((with_reducible refine wp_region_quiet_below ?_ ?_ ?_); kernel_rfl; kernel_rfl; (repeat (go_big_quiet_step (fail))); refine wpQuiet_nil ?_; intro _ hw'; obtain ⟨⟨dq, osq⟩, hw''⟩ := hw'; subst hw''))
  refine bodyPost_ret (v := .agg #[.bool false, .int .u64 (hi : Nat), .int .u64 (lo : Nat)]) (by simp [results, Try.results83, go_sem]; exact ⟨by have := H1.out; omega, by have := H2.out; omega⟩) rfl ⟨rfl, (by repeat (first | exact Below.refl _ _ | refine below_reg ?_ _ _ | refine below_alloc ?_ _ | exact below_drewN ?_ _ | assumption))⟩
theorem sgn_mul (a b : Int) : ((!(decide (a < 0) == decide (b < 0))) && (!(a == 0) && !(b == 0))) = decide (a * b < 0) := by
  rcases Int.lt_trichotomy a 0 with h | h | h <;> rcases Int.lt_trichotomy b 0 with h' | h' | h'
  all_goals first
    | (subst h; simp)
    | (subst h'; simp)
    | (have := Int.mul_pos_of_neg_of_neg h h'; rw [decide_eq_true h, decide_eq_true h', decide_eq_false (show ¬ a * b < 0 by omega)]; simp)
    | (have := Int.mul_neg_of_neg_of_pos h h'; rw [decide_eq_true h, decide_eq_false (show ¬ b < 0 by omega), decide_eq_true this, beq_eq_false_iff_ne.2 (show a ≠ 0 by omega), beq_eq_false_iff_ne.2 (show b ≠ 0 by omega)]; rfl)
    | (have := Int.mul_neg_of_pos_of_neg h h'; rw [decide_eq_false (show ¬ a < 0 by omega), decide_eq_true h', decide_eq_true this, beq_eq_false_iff_ne.2 (show a ≠ 0 by omega), beq_eq_false_iff_ne.2 (show b ≠ 0 by omega)]; rfl)
    | (have := Int.mul_pos h h'; rw [decide_eq_false (show ¬ a < 0 by omega), decide_eq_false (show ¬ b < 0 by omega), decide_eq_false (show ¬ a * b < 0 by omega)]; simp)
theorem rProduct_any (a b : Int) (hi lo : Nat) (h : Two hi lo (a.natAbs * b.natAbs)) (w : World) (h0 : -9223372036854775808 ≤ a) (h1 : a ≤ 9223372036854775807) (h2 : -9223372036854775808 ≤ b) (h3 : b ≤ 9223372036854775807) :
    Calls Try.prog 60 #[.int .i64 a, .int .i64 b] w fun e w' => e = .returned (.agg #[.bool (decide (a * b < 0)), .int .u64 hi, .int .u64 lo]) ∧ Below w.heap.size w w' := by
  have HS := sgn_mul a b
  rw [← HS]
  have HP := Lib.hid (rproduct_any a.natAbs b.natAbs hi lo h)
  clear HS
  cases ha : decide (a < 0) <;> cases hb : decide (b < 0) <;> cases ha0 : (a == 0) <;> cases hb0 : (b == 0)
  all_goals first | (exfalso; simp at ha hb ha0 hb0; omega) | skip
  all_goals
    have ha1 : (a != 0) = !(a == 0) := rfl
    have hb1 : (b != 0) = !(b == 0) := rfl
    rw [ha0] at ha1
    rw [hb0] at hb1
    simp only [Bool.not_true, Bool.not_false] at ha1 hb1
    go_enter Try.func60, Try.ntmps60
    go_wp2_with (first | (go_at_call 84; (with_reducible refine cmono ?_ (rsize_any _ _ ?_ ?_)); rotate_left; omega; omega; rintro e w' ⟨rfl, hbc0⟩; obtain ⟨⟨dc0, osc0⟩, rfl⟩ := regrown_of_below hbc0; clear hbc0) | (go_at_call 83; (with_reducible refine cmono ?_ (HP.out _ ?_ ?_)); rotate_left; omega; omega; rintro e w' ⟨rfl, hbc1⟩; obtain ⟨⟨dc1, osc1⟩, rfl⟩ := regrown_of_below hbc1; clear hbc1) | ((with_reducible refine wp_region_quiet_below ?_ ?_ ?_); kernel_rfl; kernel_rfl; (repeat (go_big_quiet_step (first | (go_at_call 84; (with_reducible refine Calls.regrown_of (rsize_any _ _ ?_ ?_)); omega; omega) | (go_at_call 83; (with_reducible refine Calls.regrown_of (HP.out _ ?_ ?_)); omega; omega)))); refine wpQuiet_nil ?_; intro _ hw'; obtain ⟨⟨dq, osq⟩, hw''⟩ := hw'; subst hw''))
    first
      | refine bodyPost_ret (v := .agg #[.bool true, .int .u64 (hi : Nat), .int .u64 (lo : Nat)]) (by simp [results, Try.results60, go_sem]) rfl ⟨rfl, (by repeat (first | exact Below.refl _ _ | refine below_reg ?_ _ _ | refine below_alloc ?_ _ | exact below_drewN ?_ _ | assumption))⟩
      | refine bodyPost_ret (v := .agg #[.bool false, .int .u64 (hi : Nat), .int .u64 (lo : Nat)]) (by simp [results, Try.results60, go_sem]) rfl ⟨rfl, (by repeat (first | exact Below.refl _ _ | refine below_reg ?_ _ _ | refine below_alloc ?_ _ | exact below_drewN ?_ _ | assumption))⟩
theorem rless_any (x y : Bool) (a b c d m n : Nat) (h1 : Two a b m) (h2 : Two c d n) (w : World) :
    Calls Try.prog 62 #[.agg #[.bool x, .int .u64 a, .int .u64 b], .agg #[.bool y, .int .u64 c, .int .u64 d]] w fun en w' => en = .returned (.int .i64 (cmpN (m : Int) (n : Int))) ∧ Below w.heap.size w w' := by
  have HC := cmpN_hi a b c d h1.lo h2.lo
  rw [h1.eq, h2.eq] at HC
  obtain ⟨k, hk⟩ : ∃ k, k = cmpN (m : Int) (n : Int) := ⟨_, rfl⟩
  rw [← hk] at HC ⊢
  have HH := Lib.hid HC
  clear HC h1 h2 hk
  go_enter Try.func62, Try.ntmps62
  go_wp2_with (first | ((with_reducible refine wp_region_quiet_below ?_ ?_ ?_); kernel_rfl; kernel_rfl; (repeat (go_big_quiet_step (fail))); refine wpQuiet_nil ?_; intro _ hw'; obtain ⟨⟨dq, osq⟩, hw''⟩ := hw'; subst hw''))
  all_goals (go_ret; refine ⟨ret_int ?_, (by repeat (first | exact Below.refl _ _ | refine below_reg ?_ _ _ | refine below_alloc ?_ _ | exact below_drewN ?_ _ | assumption))⟩)
  all_goals (rw [HH.out]; unfold cmpN; simp only [bne_iff_ne, ne_eq, bne_eq_false_iff_eq] at *)
  all_goals ((repeat' split) <;> omega)
end Go.Proofs.Ytnjgfhgpicmklaa

namespace Go.Proofs.Ytnjgfhgpicmklaa
open Go.RowKit Go.Sort
theorem rSign_any (x : Int) (hi lo : Nat) (h : Two hi lo x.natAbs) (w : World) :
    Calls Try.prog 61 #[.agg #[.bool (decide (x < 0)), .int .u64 hi, .int .u64 lo]] w fun en w' => en = .returned (.int .i64 (cmpN x 0)) ∧ Below w.heap.size w w' := by
  have e := h.eq
  have hz : (hi = 0 ∧ lo = 0) ↔ x = 0 := by
    constructor
    · rintro ⟨rfl, rfl⟩; simp at e; omega
    · rintro rfl
      obtain ⟨e1, e2⟩ := h
      simp at e1 e2; exact ⟨e1, e2⟩
  obtain ⟨k, hk⟩ : ∃ k, k = cmpN x 0 := ⟨_, rfl⟩
  rw [← hk]
  have HK := Lib.hid hk
  have HZ := Lib.hid hz
  clear e h hk hz
  cases hs : decide (x < 0) <;> cases h1 : ((hi : Int) == 0) <;> cases h2 : ((lo : Int) == 0)
  all_goals
    go_enter Try.func61, Try.ntmps61
    go_wp2_with (first | ((with_reducible refine wp_region_quiet_below ?_ ?_ ?_); kernel_rfl; kernel_rfl; (repeat (go_big_quiet_step (fail))); refine wpQuiet_nil ?_; intro _ hw'; obtain ⟨⟨dq, osq⟩, hw''⟩ := hw'; subst hw''))
    go_ret
    refine ⟨ret_int ?_, (by repeat (first | exact Below.refl _ _ | refine below_reg ?_ _ _ | refine below_alloc ?_ _ | exact below_drewN ?_ _ | assumption))⟩
    rw [HK.out]
    have hz := HZ.out
    simp only [beq_iff_eq, beq_eq_false_iff_ne, decide_eq_true_eq, decide_eq_false_iff_not, ne_eq] at h1 h2 hs
    unfold cmpN
    (repeat' split) <;> first | rfl | omega | (exfalso; omega)
end Go.Proofs.Ytnjgfhgpicmklaa

namespace Go.Proofs.Ytnjgfhgpicmklaa
open Go.RowKit
end Go.Proofs.Ytnjgfhgpicmklaa

namespace Go.Proofs.Ytnjgfhgpicmklaa
open Go.RowKit Go.Sort
end Go.Proofs.Ytnjgfhgpicmklaa

namespace Go.Proofs.Ytnjgfhgpicmklaa
open Go.RowKit Go.Sort
theorem cmpN_abs (x y : Int) : (cmpN x 0 ≠ cmpN y 0 → (cmpN x 0 < cmpN y 0 → cmpN x y = -1) ∧ (¬ cmpN x 0 < cmpN y 0 → cmpN x y = 1)) ∧
    (cmpN x 0 = cmpN y 0 → (cmpN x 0 < 0 → cmpN x y = cmpN (y.natAbs : Int) (x.natAbs : Int)) ∧ (¬ cmpN x 0 < 0 → cmpN x y = cmpN (x.natAbs : Int) (y.natAbs : Int))) := by
  have h1 : cmpN x 0 = if x < 0 then -1 else if 0 < x then 1 else 0 := rfl
  have h2 : cmpN y 0 = if y < 0 then -1 else if 0 < y then 1 else 0 := rfl
  rw [h1, h2]
  unfold cmpN
  refine ⟨fun h => ⟨fun h => ?_, fun h => ?_⟩, fun h => ⟨fun h => ?_, fun h => ?_⟩⟩
  all_goals
    revert h
    (repeat' split) <;> intros <;> omega
set_option maxHeartbeats 4000000 in
theorem rcompare_any (p q r t : Int) (w : World) (p0 : -9223372036854775808 ≤ p) (p1 : p ≤ 9223372036854775807) (q0 : -9223372036854775808 ≤ q) (q1 : q ≤ 9223372036854775807)
    (r0 : -9223372036854775808 ≤ r) (r1 : r ≤ 9223372036854775807) (t0 : -9223372036854775808 ≤ t) (t1 : t ≤ 9223372036854775807) :
    Calls Try.prog 41 #[.agg #[.int .i64 p, .int .i64 q], .agg #[.int .i64 r, .int .i64 t]] w fun e w' => e = .returned (.int .i64 (cmpN (p * t) (r * q))) ∧ Below w.heap.size w w' := by
  obtain ⟨a, b, ha⟩ := two_mk (p.natAbs * t.natAbs)
  obtain ⟨c, d, hc⟩ := two_mk (r.natAbs * q.natAbs)
  have P1 := rProduct_any p t a b ha
  have P2 := rProduct_any r q c d hc
  rw [← Int.natAbs_mul] at ha hc
  obtain ⟨x, hx⟩ : ∃ x, x = p * t := ⟨_, rfl⟩
  obtain ⟨y, hy⟩ : ∃ y, y = r * q := ⟨_, rfl⟩
  rw [← hx] at ha P1 ⊢
  rw [← hy] at hc P2 ⊢
  have S1 := rSign_any x a b ha
  have S2 := rSign_any y c d hc
  have L1 := rless_any (decide (x < 0)) (decide (y < 0)) a b c d _ _ ha hc
  have L2 := rless_any (decide (y < 0)) (decide (x < 0)) c d a b _ _ hc ha
  have HC := Lib.hid (cmpN_abs x y)
  obtain ⟨s, hs⟩ : ∃ s, s = cmpN x 0 := ⟨_, rfl⟩
  obtain ⟨u, hu⟩ : ∃ u, u = cmpN y 0 := ⟨_, rfl⟩
  obtain ⟨k, hk⟩ : ∃ k, k = cmpN (x.natAbs : Int) (y.natAbs : Int) := ⟨_, rfl⟩
  obtain ⟨l, hl⟩ : ∃ l, l = cmpN (y.natAbs : Int) (x.natAbs : Int) := ⟨_, rfl⟩
  rw [← hs, ← hu, ← hk, ← hl] at HC
  rw [← hs] at S1
  rw [← hu] at S2
  rw [← hk] at L1
  rw [← hl] at L2
  have P1H := Lib.hid P1
  have P2H := Lib.hid P2
  have S1H := Lib.hid S1
  have S2H := Lib.hid S2
  have L1H := Lib.hid L1
  have L2H := Lib.hid L2
  clear P1 P2 S1 S2 L1 L2 hs hu hk hl ha hc
  obtain ⟨X, hX⟩ : ∃ X, X = decide (x < 0) := ⟨_, rfl⟩
  obtain ⟨Y, hY⟩ : ∃ Y, Y = decide (y < 0) := ⟨_, rfl⟩
  rw [← hX] at P1H S1H L1H L2H
  rw [← hY] at P2H S2H L1H L2H
  clear hX hY hx hy
  cases e1 : (s != u) <;> cases e2 : decide (s < u) <;> cases e3 : decide (s < 0)
  all_goals
    go_enter Try.func41, Try.ntmps41
    go_wp2_with (first | (go_at_call 60; (with_reducible refine cmono ?_ (P1H.out _ ?_ ?_ ?_ ?_)); rotate_left; omega; omega; omega; omega; rintro e w' ⟨rfl, hbc0⟩; obtain ⟨⟨dc0, osc0⟩, rfl⟩ := regrown_of_below hbc0; clear hbc0) | (go_at_call 60; (with_reducible refine cmono ?_ (P2H.out _ ?_ ?_ ?_ ?_)); rotate_left; omega; omega; omega; omega; rintro e w' ⟨rfl, hbc1⟩; obtain ⟨⟨dc1, osc1⟩, rfl⟩ := regrown_of_below hbc1; clear hbc1) | (go_at_call 61; (with_reducible refine cmono ?_ (S1H.out _)); rotate_left; rintro e w' ⟨rfl, hbc2⟩; obtain ⟨⟨dc2, osc2⟩, rfl⟩ := regrown_of_below hbc2; clear hbc2) | (go_at_call 61; (with_reducible refine cmono ?_ (S2H.out _)); rotate_left; rintro e w' ⟨rfl, hbc3⟩; obtain ⟨⟨dc3, osc3⟩, rfl⟩ := regrown_of_below hbc3; clear hbc3) | (go_at_call 62; (with_reducible refine cmono ?_ (L1H.out _)); rotate_left; rintro e w' ⟨rfl, hbc4⟩; obtain ⟨⟨dc4, osc4⟩, rfl⟩ := regrown_of_below hbc4; clear hbc4) | (go_at_call 62; (with_reducible refine cmono ?_ (L2H.out _)); rotate_left; rintro e w' ⟨rfl, hbc5⟩; obtain ⟨⟨dc5, osc5⟩, rfl⟩ := regrown_of_below hbc5; clear hbc5) | ((with_reducible refine wp_region_quiet_below ?_ ?_ ?_); kernel_rfl; kernel_rfl; (repeat (go_big_quiet_step (first | (go_at_call 60; (with_reducible refine Calls.regrown_of (P1H.out _ ?_ ?_ ?_ ?_)); omega; omega; omega; omega) | (go_at_call 60; (with_reducible refine Calls.regrown_of (P2H.out _ ?_ ?_ ?_ ?_)); omega; omega; omega; omega) | (go_at_call 61; (with_reducible refine Calls.regrown_of (S1H.out _))) | (go_at_call 61; (with_reducible refine Calls.regrown_of (S2H.out _))) | (go_at_call 62; (with_reducible refine Calls.regrown_of (L1H.out _))) | (go_at_call 62; (with_reducible refine Calls.regrown_of (L2H.out _)))))); refine wpQuiet_nil ?_; intro _ hw'; obtain ⟨⟨dq, osq⟩, hw''⟩ := hw'; subst hw'') | ((with_reducible refine wp_region_two 10 5 6 #[.bool false, .int .u64 0, .int .u64 0] #[.bool false, .int .u64 0, .int .u64 0] 119 119 ?_ ?_ ?_ ?_ ?_); kernel_rfl; kernel_rfl; (intro _ _; simp [go_sem]); (intro _ _; simp [go_sem]); simp only [List.take_succ_cons, List.take_zero, List.drop_succ_cons, List.drop_zero]; (repeat (refine wpS_step (fun K hK => ?_); go_simp; first | (refine hK _ ?_; clear hK K) | (apply Exists.intro; refine ⟨fun _ => ?_, hK _ ?_⟩; (first | (go_at_call 60; (with_reducible refine kept_of (P1H.out _ ?_ ?_ ?_ ?_)); omega; omega; omega; omega) | (go_at_call 60; (with_reducible refine kept_of (P2H.out _ ?_ ?_ ?_ ?_)); omega; omega; omega; omega) | (go_at_call 61; (with_reducible refine kept_of (S1H.out _))) | (go_at_call 61; (with_reducible refine kept_of (S2H.out _))) | (go_at_call 62; (with_reducible refine kept_of (L1H.out _))) | (go_at_call 62; (with_reducible refine kept_of (L2H.out _)))); clear hK K))); refine wpS_nil ?_; refine ⟨?_, ?_⟩ <;> rintro ⟨dp, op⟩ ⟨dq, oq⟩ ⟨dr, og⟩))
    all_goals go_ret
    all_goals refine ⟨ret_int ?_, (by repeat (first | exact Below.refl _ _ | refine below_reg ?_ _ _ | refine below_alloc ?_ _ | exact below_drewN ?_ _ | assumption))⟩
    all_goals have hh := HC.out
    all_goals simp only [bne_iff_ne, bne_eq_false_iff_eq, decide_eq_true_eq, decide_eq_false_iff_not, ne_eq] at e1 e2 e3
    all_goals first
    | exact ((hh.1 (by omega)).1 (by omega)).symm
    | exact ((hh.1 (by omega)).2 (by omega)).symm
    | exact ((hh.2 (by omega)).1 (by omega)).symm
    | exact ((hh.2 (by omega)).2 (by omega)).symm
end Go.Proofs.Ytnjgfhgpicmklaa

namespace Go.Proofs.Ytnjgfhgpicmklaa
open Go.RowKit
def qv (n d : Int) : Rat := mkRat n d.toNat
theorem chk_iff (n d : Int) : chk n d = 0 ↔ 1 ≤ d ∧ n ≠ -9223372036854775808 ∧ n.natAbs.Coprime d.toNat := by
  unfold chk Nat.Coprime
  rw [Nat.gcd_comm n.natAbs]
  have hg : 1 ≤ d → 0 < Nat.gcd d.toNat n.natAbs := fun h => Nat.gcd_pos_of_pos_left _ (by omega)
  split
  · rename_i h
    constructor
    · intro h'; omega
    · rintro ⟨h1, h2, h3⟩; exfalso; omega
  · rename_i h
    have h1 : 1 ≤ d := by omega
    have := hg h1
    exact ⟨fun _ => ⟨h1, by omega, by omega⟩, fun _ => rfl⟩
theorem qv_num {n d : Int} (h : chk n d = 0) : (qv n d).num = n := by
  obtain ⟨h1, _, h3⟩ := (chk_iff n d).1 h
  unfold qv
  rw [Rat.num_mkRat, if_neg (by omega), Nat.gcd_comm, show Nat.gcd n.natAbs d.toNat = 1 from h3]
  simp
theorem qv_den {n d : Int} (h : chk n d = 0) : ((qv n d).den : Int) = d := by
  obtain ⟨h1, _, h3⟩ := (chk_iff n d).1 h
  unfold qv
  rw [Rat.den_mkRat, if_neg (by omega), Nat.gcd_comm, show Nat.gcd n.natAbs d.toNat = 1 from h3]
  omega
def outQ (q : Rat) : Int × Int × Int := if q.num.natAbs ≤ 9223372036854775807 ∧ q.den ≤ 9223372036854775807 then (q.num, q.den, 0) else (0, 0, 16)
end Go.Proofs.Ytnjgfhgpicmklaa

namespace Go.Proofs.Ytnjgfhgpicmklaa
open Go.RowKit Go.Sort
end Go.Proofs.Ytnjgfhgpicmklaa

namespace Go.Proofs.Ytnjgfhgpicmklaa
open Go.RowKit Go.Sort
end Go.Proofs.Ytnjgfhgpicmklaa

namespace Go.Proofs.Ytnjgfhgpicmklaa
open Go.RowKit
theorem qv_inj {p q r t : Int} (h1 : chk p q = 0) (h2 : chk r t = 0) : qv p q = qv r t ↔ p = r ∧ q = t := by
  constructor
  · intro h
    have e1 := qv_num h1
    have e2 := qv_den h1
    rw [h, qv_num h2] at e1
    rw [h, qv_den h2] at e2
    exact ⟨e1.symm, e2.symm⟩
  · rintro ⟨rfl, rfl⟩; rfl
end Go.Proofs.Ytnjgfhgpicmklaa

namespace Go.Proofs.Ytnjgfhgpicmklaa
open Go.RowKit Go.Sort Sx
abbrev i64 (n : Int) : D := .v (.int .i64 n)
abbrev u64 (n : Int) : D := .v (.int .u64 n)
abbrev bol (b : Bool) : D := .v (.bool b)
theorem wd_i64 {n : Int} : WD (i64 n) ↔ -9223372036854775808 ≤ n ∧ n ≤ 9223372036854775807 := WD_v
theorem wd1 {n d : Int} (h : WDCs [.agg [i64 n, i64 d]]) : -9223372036854775808 ≤ n ∧ n ≤ 9223372036854775807 ∧ -9223372036854775808 ≤ d ∧ d ≤ 9223372036854775807 := by
  simp only [WDCs, WDC, WDs, wd_i64] at h; omega
theorem wd2 {n d m e : Int} (h : WDCs [.agg [i64 n, i64 d], .agg [i64 m, i64 e]]) : (-9223372036854775808 ≤ n ∧ n ≤ 9223372036854775807 ∧ -9223372036854775808 ≤ d ∧ d ≤ 9223372036854775807) ∧ (-9223372036854775808 ≤ m ∧ m ≤ 9223372036854775807 ∧ -9223372036854775808 ≤ e ∧ e ≤ 9223372036854775807) := by
  simp only [WDCs, WDC, WDs, wd_i64] at h; omega
theorem cmpN_rng (a b : Int) : -1 ≤ cmpN a b ∧ cmpN a b ≤ 1 := by unfold cmpN; (repeat' split) <;> omega
theorem askd_rng (n d : Int) : 0 ≤ askd n d ∧ askd n d ≤ 8 := by
  unfold askd
  rcases chk_08 n d with h | h <;> rw [h] <;> simp <;> (try split) <;> omega
abbrev rat2 (p q r t : Int) : List DC := [.agg [i64 p, i64 q], .agg [i64 r, i64 t]]
abbrev ret2 (x : Int × Int) : DV := .tup [.one (i64 x.1), .one (i64 x.2)]
abbrev ret1 (x : Int) : DV := .c (.one (i64 x))
theorem cmp_fn (p q r t : Int) : FnOK Try.prog 39 (rat2 p q r t) (ret2 (cmpV p q r t)) := by
  refine fn_of_calls (fun _ _ => Try.call39 _ _) rfl rfl (fun h => ?_) (fun h w => ?_)
  · simp only [WDV, WDCs, WDC, wd_i64, and_true]
    unfold cmpV
    have := cmpN_rng (p * t) (r * q)
    split <;> simp <;> omega
  · obtain ⟨⟨_, _, _, _⟩, _, _, _, _⟩ := wd2 h
    exact cmp_any p q r t w (by omega) (by omega) (by omega) (by omega) (by omega) (by omega) (by omega) (by omega)
theorem asked_fn (n d : Int) : FnOK Try.prog 64 [.agg [i64 n, i64 d]] (ret1 (askd n d)) := by
  refine fn_of_calls (fun _ _ => Try.call64 _ _) rfl rfl (fun h => ?_) (fun h w => ?_)
  · simp only [WDV, WDCs, WDC, WDs, wd_i64, and_true]
    have := askd_rng n d
    omega
  · obtain ⟨_, _, _, _⟩ := wd1 h
    exact asked_any n d w (by omega) (by omega) (by omega) (by omega)
theorem rasked_fn (n d : Int) : FnOK Try.prog 76 [.agg [i64 n, i64 d]] (ret1 (askd n d)) := by
  refine fn_of_calls (fun _ _ => Try.call76 _ _) rfl rfl (fun h => ?_) (fun h w => ?_)
  · simp only [WDV, WDCs, WDC, WDs, wd_i64, and_true]
    have := askd_rng n d
    omega
  · obtain ⟨_, _, _, _⟩ := wd1 h
    exact rasked_any n d w (by omega) (by omega) (by omega) (by omega)
theorem rcompare_fn (p q r t : Int) : FnOK Try.prog 41 (rat2 p q r t) (ret1 (cmpN (p * t) (r * q))) := by
  refine fn_of_calls (fun _ _ => Try.call41 _ _) rfl rfl (fun h => ?_) (fun h w => ?_)
  · simp only [WDV, WDCs, WDC, WDs, wd_i64, and_true]
    have := cmpN_rng (p * t) (r * q)
    omega
  · obtain ⟨⟨_, _, _, _⟩, _, _, _, _⟩ := wd2 h
    exact rcompare_any p q r t w (by omega) (by omega) (by omega) (by omega) (by omega) (by omega) (by omega) (by omega)
end Go.Proofs.Ytnjgfhgpicmklaa

namespace Go.Proofs.Ytnjgfhgpicmklaa
open Go.RowKit Go.Sort Sx
end Go.Proofs.Ytnjgfhgpicmklaa

namespace Go.Proofs.Ytnjgfhgpicmklaa
open Go.RowKit Go.Sort Sx
abbrev pt (i a b : Int) : DC := .agg [i64 i, i64 a, i64 b]
def far (n : Int) : Bool := decide (n < -1048576 ∨ n > 1048576)
theorem far_t {n : Int} {A B : Prop} (h1 : n < -1048576 ∨ 1048576 < n → A) (h2 : -1048576 ≤ n ∧ n ≤ 1048576 → B) : br (far n) A B := brd h1 fun h => h2 (by omega)
theorem far_y {n : Int} {A B : Prop} (e : n < -1048576 ∨ 1048576 < n) (h : A) : br (far n) A B := brd_t e h
theorem far_n {n : Int} {A B : Prop} (e : -1048576 ≤ n ∧ n ≤ 1048576) (h : B) : br (far n) A B := brd_f (by omega) h
def cpt (i a b : Int) : Int := if 0 ≤ i ∧ i ≤ 65535 ∧ -1048576 ≤ a ∧ a ≤ 1048576 ∧ -1048576 ≤ b ∧ b ≤ 1048576 then 0 else 8
theorem cpt_08 (i a b : Int) : cpt i a b = 0 ∨ cpt i a b = 8 := by unfold cpt; split <;> simp
theorem cpt_ok {i a b : Int} (h : cpt i a b = 0) : 0 ≤ i ∧ i ≤ 65535 ∧ -1048576 ≤ a ∧ a ≤ 1048576 ∧ -1048576 ≤ b ∧ b ≤ 1048576 := by
  unfold cpt at h; split at h
  · assumption
  · cases h
theorem kfar_fnd (n : Int) : FnD Try.prog 87 [.one (i64 n)] (.c (.one (bol (far n)))) := by
  refine fn_okD (by kernel_rfl) ty_okD rfl Try.func87 rfl (fun _ _ => Try.call87 _ _) rfl ?_
  intro hw
  repeat' ((conv => whnf); first | (with_reducible first | refine br_t ?_ | refine br_f ?_ | refine zd ?_ | refine za ?_ | refine zg ?_) | refine zp ?_ | refine zq ?_ | (with_reducible first | refine bc (fun h => ?_) (fun h => ?_) | refine zt ?_ | refine zf ?_ | refine br_i (fun h => ?_) (fun h => ?_)) | refine zg ?_ | refine zi ?_ | refine zb ?_)
  all_goals conv => whnf
  all_goals
    refine r_bool ?_
    unfold far
    first
    | exact (decide_eq_true (by omega)).symm
    | (have e : (n > 1048576) = (n < -1048576 ∨ n > 1048576) := propext ⟨.inr, fun h => by omega⟩
       exact decide_eq_decide.2 (by omega))
theorem kCheck_fnd (i a b : Int) : FnD Try.prog 69 [pt i a b] (ret1 (cpt i a b)) := by
  refine fn_okD (by kernel_rfl) ty_okD rfl Try.func69 rfl (fun _ _ => Try.call69 _ _) rfl ?_
  intro hw
  repeat' ((conv => whnf); first | (with_reducible first | refine br_t ?_ | refine br_f ?_ | refine zd ?_ | refine za ?_ | refine zg ?_ | refine xi (kfar_fnd _) ?_) | first | ((with_reducible refine far_y ?_ ?_); omega) | ((with_reducible refine far_n ?_ ?_); omega) | (with_reducible refine far_t (fun h => ?_) (fun h => ?_)) | refine zp ?_ | refine zq ?_ | (with_reducible first | refine bc (fun h => ?_) (fun h => ?_) | refine zt ?_ | refine zf ?_ | refine br_i (fun h => ?_) (fun h => ?_)) | refine zg ?_ | refine zi ?_ | refine zb ?_)
  all_goals conv => whnf
  all_goals
    refine r_int ?_
    unfold cpt
    first
    | rw [if_pos (by omega)]
    | rw [if_neg (by omega)]
theorem kCheck_fn (i a b : Int) : FnOK Try.prog 69 [pt i a b] (ret1 (cpt i a b)) := (kCheck_fnd i a b).ok
theorem kkCheck_fn (i a b : Int) : FnOK Try.prog 97 [pt i a b] (ret1 (cpt i a b)) := by
  refine fn_ok (by kernel_rfl) ty_ok Try.func97 rfl (fun _ _ => Try.call97 _ _) rfl ?_
  intro hw
  repeat' ((conv => whnf); first | (with_reducible first | refine br_t ?_ | refine br_f ?_ | refine za ?_ | refine zg ?_) | refine zp ?_ | refine zq ?_ | (with_reducible first | refine bc (fun h => ?_) (fun h => ?_) | refine zt ?_ | refine zf ?_ | refine br_i (fun h => ?_) (fun h => ?_)) | refine zg ?_ | refine zi ?_ | refine zb ?_)
  all_goals conv => whnf
  all_goals
    refine r_int ?_
    unfold cpt
    first
    | rw [if_pos (by omega)]
    | rw [if_neg (by omega)]
end Go.Proofs.Ytnjgfhgpicmklaa

namespace Go.Proofs.Ytnjgfhgpicmklaa
open Go.RowKit Go.Sort Sx
end Go.Proofs.Ytnjgfhgpicmklaa

namespace Go.Proofs.Ytnjgfhgpicmklaa
open Go.RowKit Go.Sort Sx
def orN (a b : Int) : Int := if a = 0 then b else a
def two02 (i a b j c d n m : Int) : Int := if cpt i a b = 0 ∧ cpt j c d = 0 ∧ chk n m = 0 then (if i = j then 2 else 0) else 8
end Go.Proofs.Ytnjgfhgpicmklaa

namespace Go.Proofs.Ytnjgfhgpicmklaa
open Go.RowKit
end Go.Proofs.Ytnjgfhgpicmklaa

namespace Go.Proofs.Ytnjgfhgpicmklaa
open Go.RowKit Go.Sort Sx
def meetV (i a b j c d : Int) : Int × Int × Int := if two02 i a b j c d 0 1 = 0 then (if b = d then (0, 0, 6) else makeV (a - c) (d - b)) else (0, 0, two02 i a b j c d 0 1)
end Go.Proofs.Ytnjgfhgpicmklaa

namespace Go.Proofs.Ytnjgfhgpicmklaa
open Go.RowKit Go.Sort Sx
end Go.Proofs.Ytnjgfhgpicmklaa

namespace Go.Proofs.Ytnjgfhgpicmklaa
open Go.RowKit Go.Sort Sx
end Go.Proofs.Ytnjgfhgpicmklaa

namespace Go.Proofs.Ytnjgfhgpicmklaa
open Go.RowKit Go.Sort Sx
structure Pt where
  id : Int
  a : Int
  b : Int
  deriving DecidableEq, Inhabited
def Pt.c (p : Pt) : List D := [i64 p.id, i64 p.a, i64 p.b]
abbrev Pt.dc (p : Pt) : DC := pt p.id p.a p.b
abbrev pts (l : List Pt) : D := .list 3 (l.map Pt.c)
abbrev fld (l : List Pt) : DC := .agg [pts l]
def Pt.chk (p : Pt) : Int := cpt p.id p.a p.b
def incr : List Pt → Bool
  | p :: q :: l => decide (p.id < q.id) && incr (q :: l)
  | _ => true
def fchk (l : List Pt) : Int := if 64 < l.length then 4 else if l.all (fun p => p.chk == 0) then (if incr l then 0 else 32) else 8
theorem Pt.chk_08 (p : Pt) : p.chk = 0 ∨ p.chk = 8 := cpt_08 p.id p.a p.b
theorem pts_get {l : List Pt} {i : Nat} (h : i < l.length) : (l.map Pt.c)[((i : Nat) : Int).toNat]? = some [i64 l[i].id, i64 l[i].a, i64 l[i].b] := by
  rw [Int.toNat_natCast, List.getElem?_map, List.getElem?_eq_getElem h]; rfl
theorem pts_get' {l : List Pt} {i : Nat} {j : Int} (h : i < l.length) (e : j.toNat = i) : (l.map Pt.c)[j.toNat]? = some [i64 l[i].id, i64 l[i].a, i64 l[i].b] := by
  rw [e, List.getElem?_map, List.getElem?_eq_getElem h]; rfl
theorem wd_pts {l : List Pt} (h : WD (pts l)) : l.length ≤ 9223372036854775807 ∧ ∀ p ∈ l, (-9223372036854775808 ≤ p.id ∧ p.id ≤ 9223372036854775807) ∧ (-9223372036854775808 ≤ p.a ∧ p.a ≤ 9223372036854775807) ∧ (-9223372036854775808 ≤ p.b ∧ p.b ≤ 9223372036854775807) := by
  obtain ⟨h1, _, h3⟩ := WD_list.1 h
  refine ⟨by simpa using h1, fun p hp => ?_⟩
  have h4 := h3 p.c (List.mem_map_of_mem hp)
  exact ⟨wd_i64.1 (h4 _ (by simp [Pt.c])), wd_i64.1 (h4 _ (by simp [Pt.c])), wd_i64.1 (h4 _ (by simp [Pt.c]))⟩
theorem all_take_succ {l : List Pt} {f : Pt → Bool} {i : Nat} (h : i < l.length) : (l.take (i + 1)).all f = ((l.take i).all f && f l[i]) := by
  rw [List.take_succ_eq_append_getElem h, List.all_append]; simp
theorem incr_iff : ∀ {l : List Pt}, incr l = true ↔ ∀ i (h : i + 1 < l.length), l[i].id < l[i + 1].id
  | [] => by simp [incr]
  | [p] => by simp [incr]
  | p :: q :: l => by
    rw [incr, Bool.and_eq_true, decide_eq_true_eq, incr_iff]
    constructor
    · rintro ⟨h1, h2⟩ i h
      cases i with
      | zero => exact h1
      | succ i => exact h2 i (by simpa using h)
    · exact fun h => ⟨h 0 (by simp), fun i hi => h (i + 1) (by simpa using hi)⟩
theorem fCheck_fn (l : List Pt) : FnOK Try.prog 65 [fld l] (ret1 (fchk l)) := by
  refine fn_ok (by kernel_rfl) ty_ok Try.func65 rfl (fun _ _ => Try.call65 _ _) rfl ?_
  intro hw
  simp only [WDCs, WDC, WDs] at hw
  obtain ⟨w1, w2⟩ := wd_pts hw.1.1
  repeat' ((conv => whnf); first | (with_reducible first | refine br_t ?_ | refine br_f ?_ | refine za ?_ | refine zg ?_) | rw [List.length_map] | refine zp ?_ | refine zq ?_ | (with_reducible first | refine bc (fun h => ?_) (fun h => ?_) | refine zt ?_ | refine zf ?_ | refine br_i (fun h => ?_) (fun h => ?_)) | refine zg ?_ | refine zi ?_ | refine zb ?_)
  · conv => whnf
    unfold fchk
    rw [if_pos (by omega)]
  unfold fchk
  rw [if_neg (by omega)]
  refine loop_J (by kernel_rfl) ty_ok (σ := Nat) (fun i => [(15, sV (.int .i64 i))]) (fun _ => []) (fun i => i ≤ l.length ∧ (l.take i).all (fun p => p.chk == 0) = true) (fun i => l.length - i) 0 ⟨by omega, by simp⟩ ?_ ?_
  · (conv => whnf); exact zent
  rintro i ⟨hi, hI⟩
  rcases Nat.lt_or_ge i l.length with hlt | hge
  · have hel := pts_get hlt
    have HC := kCheck_fn l[i].id l[i].a l[i].b
    rcases Pt.chk_08 l[i] with hc | hc
    · unfold Pt.chk at hc
      rw [hc] at HC
      repeat' ((conv => whnf); first | (with_reducible first | refine br_t ?_ | refine br_f ?_ | refine za ?_ | refine zg ?_ | refine xi (HC) ?_) | rw [List.length_map] | refine zp ?_ | refine zq ?_ | (with_reducible first | refine bc (fun h => ?_) (fun h => ?_) | refine zt ?_ | refine zf ?_ | refine br_i (fun h => ?_) (fun h => ?_)) | refine zg ?_ | refine zi ?_ | refine zb ?_)
      all_goals conv => whnf
      refine ⟨i + 1, ⟨by omega, ?_⟩, ?_, by omega⟩
      · rw [all_take_succ hlt, hI]; simp [Pt.chk, hc]
      · (conv => whnf); exact zent
    · have hn : l.all (fun p => p.chk == 0) = false := by
        rw [Bool.eq_false_iff]
        intro h
        have := List.all_eq_true.1 h l[i] (List.getElem_mem hlt)
        rw [hc] at this; simp at this
      unfold Pt.chk at hc
      rw [hc] at HC
      repeat' ((conv => whnf); first | (with_reducible first | refine br_t ?_ | refine br_f ?_ | refine za ?_ | refine zg ?_ | refine xi (HC) ?_) | rw [List.length_map] | refine zp ?_ | refine zq ?_ | (with_reducible first | refine bc (fun h => ?_) (fun h => ?_) | refine zt ?_ | refine zf ?_ | refine br_i (fun h => ?_) (fun h => ?_)) | refine zg ?_ | refine zi ?_ | refine zb ?_)
      all_goals conv => whnf
      rw [hn]; rfl
  · have hall : l.all (fun p => p.chk == 0) = true := by rw [List.take_of_length_le hge] at hI; exact hI
    rw [hall, if_pos rfl]
    repeat' ((conv => whnf); first | (with_reducible first | refine br_t ?_ | refine br_f ?_ | refine za ?_ | refine zg ?_) | rw [List.length_map] | refine zp ?_ | refine zq ?_ | (with_reducible first | refine bc (fun h => ?_) (fun h => ?_) | refine zt ?_ | refine zf ?_ | refine br_i (fun h => ?_) (fun h => ?_)) | refine zg ?_ | refine zi ?_ | refine zb ?_)
    refine loop_J (by kernel_rfl) ty_ok (σ := Nat) (fun i => [(28, sV (.int .i64 i))]) (fun _ => []) (fun i => i ≤ l.length ∧ ∀ j (h : j + 1 < l.length), j + 1 < i → l[j].id < l[j + 1].id) (fun i => l.length - i) 0 ⟨by omega, fun j _ h => by omega⟩ ?_ ?_
    · (conv => whnf); exact zent
    rintro j ⟨hj, hJ⟩
    rcases Nat.lt_or_ge j l.length with hjlt | hjge
    · have hel := pts_get hjlt
      rcases Nat.eq_zero_or_pos j with h0 | h0
      · subst h0
        repeat' ((conv => whnf); first | (with_reducible first | refine br_t ?_ | refine br_f ?_ | refine za ?_ | refine zg ?_) | rw [List.length_map] | refine zp ?_ | refine zq ?_ | (with_reducible first | refine bc (fun h => ?_) (fun h => ?_) | refine zt ?_ | refine zf ?_ | refine br_i (fun h => ?_) (fun h => ?_)) | refine zg ?_ | refine zi ?_ | refine zb ?_)
        all_goals conv => whnf
        refine ⟨1, ⟨by omega, fun k _ h => by omega⟩, ?_, by omega⟩
        (conv => whnf); exact zent
      · have hel2 := pts_get' (l := l) (i := j - 1) (j := IntKind.i64.wrap ((j : Int) - 1)) (by omega) (by rw [IntWalk.i64_in _ (by omega)]; omega)
        have hw1 : IntKind.i64.wrap ((j : Int) - 1) = ((j - 1 : Nat) : Int) := by rw [IntWalk.i64_in _ (by omega)]; omega
        repeat' ((conv => whnf); first | (with_reducible first | refine br_t ?_ | refine br_f ?_ | refine za ?_ | refine zg ?_) | rw [List.length_map] | refine And.intro (by rw [hw1]; omega) ?_ | refine zp ?_ | refine zq ?_ | (with_reducible first | refine bc (fun h => ?_) (fun h => ?_) | refine zt ?_ | refine zf ?_ | refine br_i (fun h => ?_) (fun h => ?_)) | refine zg ?_ | refine zi ?_ | refine zb ?_)
        all_goals conv => whnf
        · rename_i h
          have hf : incr l = false := by
            rw [Bool.eq_false_iff, ne_eq, incr_iff]
            intro hh
            have := hh (j - 1) (by omega)
            rw [show l[j - 1 + 1]'(by omega) = l[j] from getElem_congr rfl (by omega) _] at this
            omega
          rw [hf]; rfl
        · rename_i h
          refine ⟨j + 1, ⟨by omega, fun k hk hk2 => ?_⟩, ?_, by omega⟩
          · rcases Nat.lt_or_ge (k + 1) j with h1 | h1
            · exact hJ k hk h1
            · have e : k = j - 1 := by omega
              subst e
              rw [show l[j - 1 + 1]'hk = l[j] from getElem_congr rfl (by omega) _]
              omega
          · (conv => whnf); exact zent
    · have ht : incr l = true := incr_iff.2 fun k hk => hJ k hk (by omega)
      repeat' ((conv => whnf); first | (with_reducible first | refine br_t ?_ | refine br_f ?_ | refine za ?_ | refine zg ?_) | rw [List.length_map] | refine zp ?_ | refine zq ?_ | (with_reducible first | refine bc (fun h => ?_) (fun h => ?_) | refine zt ?_ | refine zf ?_ | refine br_i (fun h => ?_) (fun h => ?_)) | refine zg ?_ | refine zi ?_ | refine zb ?_)
      all_goals conv => whnf
      all_goals
        rw [ht]; rfl
theorem rfCheck_fn (l : List Pt) : FnOK Try.prog 77 [fld l] (ret1 (fchk l)) := by
  refine fn_ok (by kernel_rfl) ty_ok Try.func77 rfl (fun _ _ => Try.call77 _ _) rfl ?_
  intro hw
  simp only [WDCs, WDC, WDs] at hw
  obtain ⟨w1, w2⟩ := wd_pts hw.1.1
  repeat' ((conv => whnf); first | (with_reducible first | refine br_t ?_ | refine br_f ?_ | refine za ?_ | refine zg ?_) | rw [List.length_map] | refine zp ?_ | refine zq ?_ | (with_reducible first | refine bc (fun h => ?_) (fun h => ?_) | refine zt ?_ | refine zf ?_ | refine br_i (fun h => ?_) (fun h => ?_)) | refine zg ?_ | refine zi ?_ | refine zb ?_)
  · conv => whnf
    unfold fchk
    rw [if_pos (by omega)]
  unfold fchk
  rw [if_neg (by omega)]
  refine loop_J (by kernel_rfl) ty_ok (σ := Nat) (fun i => [(3, sV (.int .i64 i))]) (fun _ => []) (fun i => i ≤ l.length ∧ (l.take i).all (fun p => p.chk == 0) = true) (fun i => l.length - i) 0 ⟨by omega, by simp⟩ ?_ ?_
  · (conv => whnf); exact zent
  rintro i ⟨hi, hI⟩
  rcases Nat.lt_or_ge i l.length with hlt | hge
  · have hel := pts_get hlt
    have HC := kkCheck_fn l[i].id l[i].a l[i].b
    rcases Pt.chk_08 l[i] with hc | hc
    · unfold Pt.chk at hc
      rw [hc] at HC
      repeat' ((conv => whnf); first | (with_reducible first | refine br_t ?_ | refine br_f ?_ | refine za ?_ | refine zg ?_ | refine xi (HC) ?_) | rw [List.length_map] | refine zp ?_ | refine zq ?_ | (with_reducible first | refine bc (fun h => ?_) (fun h => ?_) | refine zt ?_ | refine zf ?_ | refine br_i (fun h => ?_) (fun h => ?_)) | refine zg ?_ | refine zi ?_ | refine zb ?_)
      all_goals conv => whnf
      refine ⟨i + 1, ⟨by omega, ?_⟩, ?_, by omega⟩
      · rw [all_take_succ hlt, hI]; simp [Pt.chk, hc]
      · (conv => whnf); exact zent
    · have hn : l.all (fun p => p.chk == 0) = false := by
        rw [Bool.eq_false_iff]
        intro h
        have := List.all_eq_true.1 h l[i] (List.getElem_mem hlt)
        rw [hc] at this; simp at this
      unfold Pt.chk at hc
      rw [hc] at HC
      repeat' ((conv => whnf); first | (with_reducible first | refine br_t ?_ | refine br_f ?_ | refine za ?_ | refine zg ?_ | refine xi (HC) ?_) | rw [List.length_map] | refine zp ?_ | refine zq ?_ | (with_reducible first | refine bc (fun h => ?_) (fun h => ?_) | refine zt ?_ | refine zf ?_ | refine br_i (fun h => ?_) (fun h => ?_)) | refine zg ?_ | refine zi ?_ | refine zb ?_)
      all_goals conv => whnf
      rw [hn]; rfl
  · have hall : l.all (fun p => p.chk == 0) = true := by rw [List.take_of_length_le hge] at hI; exact hI
    rw [hall, if_pos rfl]
    repeat' ((conv => whnf); first | (with_reducible first | refine br_t ?_ | refine br_f ?_ | refine za ?_ | refine zg ?_) | rw [List.length_map] | refine zp ?_ | refine zq ?_ | (with_reducible first | refine bc (fun h => ?_) (fun h => ?_) | refine zt ?_ | refine zf ?_ | refine br_i (fun h => ?_) (fun h => ?_)) | refine zg ?_ | refine zi ?_ | refine zb ?_)
    refine loop_J (by kernel_rfl) ty_ok (σ := Nat) (fun i => [(4, sV (.int .i64 ((i + 1 : Nat) : Int)))]) (fun _ => []) (fun i => i ≤ l.length ∧ ∀ j (h : j + 1 < l.length), j < i → l[j].id < l[j + 1].id) (fun i => l.length - i) 0 ⟨by omega, fun j _ h => by omega⟩ ?_ ?_
    · (conv => whnf); exact zent
    rintro j ⟨hj, hJ⟩
    rcases Nat.lt_or_ge (j + 1) l.length with hjlt | hjge
    · have hel := pts_get hjlt
      have hel2 := pts_get' (l := l) (i := j) (j := IntKind.i64.wrap (((j + 1 : Nat) : Int) - 1)) (by omega) (by rw [IntWalk.i64_in _ (by omega)]; omega)
      have hw1 : IntKind.i64.wrap (((j + 1 : Nat) : Int) - 1) = (j : Int) := by rw [IntWalk.i64_in _ (by omega)]; omega
      repeat' ((conv => whnf); first | (with_reducible first | refine br_t ?_ | refine br_f ?_ | refine za ?_ | refine zg ?_) | rw [List.length_map] | refine And.intro (by rw [hw1]; omega) ?_ | refine zp ?_ | refine zq ?_ | (with_reducible first | refine bc (fun h => ?_) (fun h => ?_) | refine zt ?_ | refine zf ?_ | refine br_i (fun h => ?_) (fun h => ?_)) | refine zg ?_ | refine zi ?_ | refine zb ?_)
      all_goals conv => whnf
      · rename_i h
        have hf : incr l = false := by
          rw [Bool.eq_false_iff, ne_eq, incr_iff]
          intro hh
          have := hh j (by omega)
          omega
        rw [hf]; rfl
      · rename_i h
        refine ⟨j + 1, ⟨by omega, fun k hk hk2 => ?_⟩, ?_, by omega⟩
        · rcases Nat.lt_or_ge k j with h1 | h1
          · exact hJ k hk h1
          · have e : k = j := by omega
            subst e
            omega
        · (conv => whnf); exact zent
    · have ht : incr l = true := incr_iff.2 fun k hk => hJ k hk (by omega)
      repeat' ((conv => whnf); first | (with_reducible first | refine br_t ?_ | refine br_f ?_ | refine za ?_ | refine zg ?_) | rw [List.length_map] | refine zp ?_ | refine zq ?_ | (with_reducible first | refine bc (fun h => ?_) (fun h => ?_) | refine zt ?_ | refine zf ?_ | refine br_i (fun h => ?_) (fun h => ?_)) | refine zg ?_ | refine zi ?_ | refine zb ?_)
      all_goals conv => whnf
      all_goals
        rw [ht]; rfl
end Go.Proofs.Ytnjgfhgpicmklaa

namespace Go.Proofs.Ytnjgfhgpicmklaa
open Go Go.RowKit Sx
theorem fits_point {ds : List D} (h : Fits shPoint ds) : ∃ p : Pt, ds = p.c := by
  obtain ⟨_, _, rfl, ⟨n, rfl⟩, _, _, rfl, ⟨m, rfl⟩, _, _, rfl, ⟨k, rfl⟩, rfl⟩ := h
  exact ⟨⟨n, m, k⟩, rfl⟩
theorem fits_pts {ds : List D} (h : Fits (.sl 3 shPoint) ds) : ∃ l : List Pt, ds = [pts l] := by
  obtain ⟨l, rfl, h⟩ := h
  obtain ⟨l', rfl⟩ := exists_map (f := Pt.c) fun x hx => fits_point (h x hx)
  exact ⟨l', rfl⟩
theorem fits_field {ds : List D} (h : Fits shField ds) : ∃ l : List Pt, ds = [pts l] := by
  obtain ⟨_, _, rfl, h, rfl⟩ := h
  obtain ⟨l, rfl⟩ := fits_pts h
  exact ⟨l, rfl⟩
end Go.Proofs.Ytnjgfhgpicmklaa

namespace Go.Proofs.Ytnjgfhgpicmklaa
open Go.RowKit Go.Sort Sx
abbrev ownL (k : Nat) (l : List (List D)) : OwnR := ⟨.c (.one (.list k l)), 0, 0, k, l⟩
theorem ok_of_own {P : Program} {f k : Nat} {args : List DC} {l : List (List D)} (h : FnOwn P f args (ownL k l)) : FnOK P f args (.c (.one (.list k l))) := by
  intro w M vs hM hvs
  obtain ⟨g, hg, hc⟩ := h w M vs hM hvs
  refine .inl ⟨g, hg, hc.mono ?_⟩
  rintro e w' ⟨v, m, rfl, hb, h1, h2, h3, h4, h5⟩
  refine ⟨v, rfl, ?_, hb⟩
  have h4 : AtR (fun _ => m) w' (fun b => M b ∨ 0 < m.cap ∧ b = m.b) (.osl 0 0) v := h4
  obtain ⟨_, _, _, k4⟩ := h4
  exact row_data h5 (k4 h2.symm) (fun b _ h => .inl h) (fun h hm => by have := hM _ hm; have := (h3 h).1; omega) (fun h => (h3 h).2)
def pos : List Pt → Int → Nat
  | [], _ => 0
  | p :: l, id => if p.id < id then pos l id + 1 else 0
def has (l : List Pt) (id : Int) : Bool := l.any fun p => p.id == id
theorem incr_lt {l : List Pt} (h : incr l = true) : ∀ (j i : Nat) (hj : j < l.length) (hij : i < j), l[i].id < l[j].id := by
  intro j
  induction j with
  | zero => intro i _ h; omega
  | succ j ih =>
    intro i hj hij
    have h1 := incr_iff.1 h j hj
    rcases Nat.lt_or_ge i j with h2 | h2
    · have := ih i (by omega) h2; omega
    · have : i = j := by omega
      subst this; exact h1
theorem incr_tail {p : Pt} {l : List Pt} (h : incr (p :: l) = true) : incr l = true := by
  cases l with
  | nil => rfl
  | cons q l => rw [incr, Bool.and_eq_true] at h; exact h.2
theorem pos_spec : ∀ {l : List Pt} {id : Int}, incr l = true → (∀ k (h : k < l.length), k < pos l id → l[k].id < id) ∧ ∀ k (h : k < l.length), pos l id ≤ k → id ≤ l[k].id
  | [], id, _ => ⟨fun k h => by simp at h, fun k h => by simp at h⟩
  | p :: l, id, hs => by
    rw [pos]
    split
    · rename_i hp
      obtain ⟨h1, h2⟩ := pos_spec (id := id) (incr_tail hs)
      refine ⟨fun k h hk => ?_, fun k h hk => ?_⟩
      · cases k with
        | zero => exact hp
        | succ k => simpa using h1 k (by simpa using h) (by omega)
      · cases k with
        | zero => omega
        | succ k => simpa using h2 k (by simpa using h) (by omega)
    · rename_i hp
      refine ⟨fun k h hk => by omega, fun k h hk => ?_⟩
      cases k with
      | zero => simp; omega
      | succ k =>
        have := incr_lt hs (k + 1) 0 h (by omega)
        simp at this ⊢; omega
theorem has_pos {l : List Pt} {id : Int} (hs : incr l = true) : has l id = true ↔ ∃ h : pos l id < l.length, l[pos l id].id = id := by
  unfold has
  rw [List.any_eq_true]
  obtain ⟨h1, h2⟩ := pos_spec (id := id) hs
  constructor
  · rintro ⟨p, hp, he⟩
    obtain ⟨k, hk, rfl⟩ := List.getElem_of_mem hp
    have he : l[k].id = id := by simpa using he
    have hle : pos l id ≤ k := by
      rcases Nat.lt_or_ge k (pos l id) with h | h
      · have := h1 k hk h; omega
      · exact h
    have hlt : pos l id < l.length := by omega
    refine ⟨hlt, ?_⟩
    have := h2 (pos l id) hlt (Nat.le_refl _)
    rcases Nat.eq_or_lt_of_le hle with h | h
    · rw [getElem_congr rfl h]; exact he
    · have := incr_lt hs k (pos l id) hk h; omega
  · rintro ⟨h, he⟩
    exact ⟨_, List.getElem_mem h, by simpa using he⟩
end Go.Proofs.Ytnjgfhgpicmklaa

namespace Go.Proofs.Ytnjgfhgpicmklaa
open Go.RowKit Go.Sort Sx
theorem fchk_ok {l : List Pt} (h : fchk l = 0) : l.length ≤ 64 ∧ (∀ p ∈ l, p.chk = 0) ∧ incr l = true := by
  unfold fchk at h
  split at h
  · omega
  · split at h
    · rename_i h1 h2
      split at h
      · rename_i h3
        exact ⟨by omega, fun p hp => by simpa using List.all_eq_true.1 h2 p hp, h3⟩
      · omega
    · omega
def at1 : List Pt → Int → Int → Int
  | [], _, _ => -1
  | p :: l, id, i => if p.id = id then i else at1 l id (i + 1)
theorem at1_drop {l : List Pt} {id : Int} : ∀ {n i : Nat}, n = l.length - i → i ≤ l.length → (∀ k (h : k < l.length), k < i → l[k].id ≠ id) → at1 l id 0 = at1 (l.drop i) id i := by
  intro n i
  induction i generalizing n with
  | zero => intro _ _ _; rfl
  | succ i ih =>
    intro hn hi h
    have hlt : i < l.length := by omega
    rw [ih (n := n + 1) (by omega) (by omega) (fun k hk hki => h k hk (by omega)), List.drop_eq_getElem_cons hlt, at1, if_neg (h i hlt (by omega))]
    rfl
theorem rfAt_fn (l : List Pt) (id : Int) : FnOK Try.prog 31 [fld l, .one (i64 id)] (ret1 (at1 l id 0)) := by
  refine fn_ok (by kernel_rfl) ty_ok Try.func31 rfl (fun _ _ => Try.call31 _ _) rfl ?_
  intro hw
  simp only [WDCs, WDC, WDs] at hw
  obtain ⟨w1, w2⟩ := wd_pts hw.1.1
  repeat' ((conv => whnf); first | (with_reducible first | refine br_t ?_ | refine br_f ?_ | refine za ?_ | refine zg ?_) | refine zp ?_ | refine zq ?_ | (with_reducible first | refine bc (fun h => ?_) (fun h => ?_) | refine zt ?_ | refine zf ?_ | refine br_i (fun h => ?_) (fun h => ?_)) | refine zg ?_ | refine zi ?_ | refine zb ?_)
  refine loop_J (by kernel_rfl) ty_ok (σ := Nat) (fun i => [(5, sV (.int .i64 i))]) (fun _ => []) (fun i => i ≤ l.length ∧ ∀ k (h : k < l.length), k < i → l[k].id ≠ id) (fun i => l.length - i) 0 ⟨by omega, fun k _ h => absurd h (Nat.not_lt_zero _)⟩ ?_ ?_
  · (conv => whnf); exact zent
  rintro i ⟨hi, hI⟩
  rcases Nat.lt_or_ge i l.length with hlt | hge
  · have hel := pts_get hlt
    by_cases hc : l[i].id = id
    · have e : at1 l id 0 = i := by rw [at1_drop rfl hi hI, List.drop_eq_getElem_cons hlt, at1, if_pos hc]
      rw [e]
      repeat' ((conv => whnf); first | (with_reducible first | refine br_t ?_ | refine br_f ?_ | refine za ?_ | refine zg ?_) | rw [List.length_map] | refine zp ?_ | refine zq ?_ | (with_reducible first | refine bc (fun h => ?_) (fun h => ?_) | refine zt ?_ | refine zf ?_ | refine br_i (fun h => ?_) (fun h => ?_)) | refine zg ?_ | refine zi ?_ | refine zb ?_)
      all_goals conv => whnf
      all_goals rfl
    · repeat' ((conv => whnf); first | (with_reducible first | refine br_t ?_ | refine br_f ?_ | refine za ?_ | refine zg ?_) | rw [List.length_map] | refine zp ?_ | refine zq ?_ | (with_reducible first | refine bc (fun h => ?_) (fun h => ?_) | refine zt ?_ | refine zf ?_ | refine br_i (fun h => ?_) (fun h => ?_)) | refine zg ?_ | refine zi ?_ | refine zb ?_)
      all_goals conv => whnf
      refine ⟨i + 1, ⟨by omega, fun k hk hki => ?_⟩, ?_, by omega⟩
      · rcases Nat.lt_or_ge k i with h1 | h1
        · exact hI k hk h1
        · have : k = i := by omega
          subst this; exact hc
      · (conv => whnf); exact zent
  · have e : at1 l id 0 = -1 := by rw [at1_drop rfl hi hI, List.drop_eq_nil_of_le hge, at1]
    rw [e]
    repeat' ((conv => whnf); first | (with_reducible first | refine br_t ?_ | refine br_f ?_ | refine za ?_ | refine zg ?_) | rw [List.length_map] | refine zp ?_ | refine zq ?_ | (with_reducible first | refine bc (fun h => ?_) (fun h => ?_) | refine zt ?_ | refine zf ?_ | refine br_i (fun h => ?_) (fun h => ?_)) | refine zg ?_ | refine zi ?_ | refine zb ?_)
    all_goals conv => whnf
    all_goals rfl
def great (l : List Pt) : Bool := decide (16 < l.length ∧ l.length < 64 ∨ 70 < l.length)
theorem rfGreat_fn (l : List Pt) : FnOK Try.prog 32 [fld l] (.c (.one (bol (great l)))) := by
  refine fn_ok (by kernel_rfl) ty_ok Try.func32 rfl (fun _ _ => Try.call32 _ _) rfl ?_
  intro hw
  simp only [WDCs, WDC, WDs] at hw
  obtain ⟨w1, w2⟩ := wd_pts hw.1.1
  unfold great
  repeat' ((conv => whnf); first | (with_reducible first | refine br_t ?_ | refine br_f ?_ | refine za ?_ | refine zg ?_) | rw [List.length_map] | refine zp ?_ | refine zq ?_ | (with_reducible first | refine bc (fun h => ?_) (fun h => ?_) | refine zt ?_ | refine zf ?_ | refine br_i (fun h => ?_) (fun h => ?_)) | refine zg ?_ | refine zi ?_ | refine zb ?_)
  all_goals conv => whnf
  all_goals
    refine r_bool ?_
    first
    | rfl
    | (simp only [decide_eq_decide, Bool.true_eq, Bool.false_eq, decide_eq_true_eq, decide_eq_false_iff_not]; omega)
    | (rw [eq_comm]; simp only [decide_eq_decide, decide_eq_true_eq, decide_eq_false_iff_not]; omega)
end Go.Proofs.Ytnjgfhgpicmklaa
