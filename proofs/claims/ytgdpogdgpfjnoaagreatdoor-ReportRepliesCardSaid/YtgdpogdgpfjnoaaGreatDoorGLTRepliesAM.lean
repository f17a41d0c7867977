import Derived.Test.YtgdpogdgpfjnoaaGreatDoorGLTRepliesAL
import Derived.Test.YtgdpogdgpfjnoaaGreatDoorGLTRepliesAK
import Derived.Test.YtgdpogdgpfjnoaaGreatDoorGLTRepliesAJ
import Derived.Laws.Strings
import Derived.Laws.Concat
import Derived.Lib.Strings
set_option linter.all false
namespace Go.Proofs.YtgdpogdgpfjnoaaGreatDoor
open Go.RowKit Go.Sort
theorem rproduct_any (a b hi lo : Nat) (h : Two hi lo (a * b)) (w : World) (ha : a < 18446744073709551616) (hb : b < 18446744073709551616) :
    Calls Tryz.prog 180 #[.int .u64 a, .int .u64 b] w fun e w' => e = .returned (.agg #[.bool false, .int .u64 hi, .int .u64 lo]) ∧ Below w.heap.size w w' := by
  obtain ⟨ah, hah⟩ : ∃ ah, ah = a / 4294967296 := ⟨_, rfl⟩
  obtain ⟨al, hal⟩ : ∃ al, al = a % 4294967296 := ⟨_, rfl⟩
  obtain ⟨bh, hbh⟩ : ∃ bh, bh = b / 4294967296 := ⟨_, rfl⟩
  obtain ⟨bl, hbl⟩ : ∃ bl, bl = b % 4294967296 := ⟨_, rfl⟩
  have A1 : (a : Int) / 4294967296 = (ah : Int) := by omega
  have A2 : (a : Int) % 4294967296 = (al : Int) := by omega
  have B1 : (b : Int) / 4294967296 = (bh : Int) := by omega
  have B2 : (b : Int) % 4294967296 = (bl : Int) := by omega
  have ah1 : ah ≤ 4294967295 := by omega
  have al1 : al ≤ 4294967295 := by omega
  have bh1 : bh ≤ 4294967295 := by omega
  have bl1 : bl ≤ 4294967295 := by omega
  obtain ⟨q1, q2⟩ := half_mul 4294967296 ah al bh bl (by omega) (by omega) (by decide)
  have hab : (ah * 4294967296 + al) * (bh * 4294967296 + bl) = a * b := by
    have e1 : ah * 4294967296 + al = a := by rw [hah, hal, Nat.mul_comm]; exact Nat.div_add_mod _ _
    have e2 : bh * 4294967296 + bl = b := by rw [hbh, hbl, Nat.mul_comm]; exact Nat.div_add_mod _ _
    rw [e1, e2]
  obtain ⟨p1, hp1⟩ : ∃ p, p = al * bl := ⟨_, rfl⟩
  obtain ⟨p2, hp2⟩ : ∃ p, p = ah * bl := ⟨_, rfl⟩
  obtain ⟨p3, hp3⟩ : ∃ p, p = al * bh := ⟨_, rfl⟩
  obtain ⟨p4, hp4⟩ : ∃ p, p = ah * bh := ⟨_, rfl⟩
  have c1 : p1 ≤ 18446744065119617025 := by rw [hp1]; exact Nat.mul_le_mul al1 bl1
  have c2 : p2 ≤ 18446744065119617025 := by rw [hp2]; exact Nat.mul_le_mul ah1 bl1
  have c3 : p3 ≤ 18446744065119617025 := by rw [hp3]; exact Nat.mul_le_mul al1 bh1
  have c4 : p4 ≤ 18446744065119617025 := by rw [hp4]; exact Nat.mul_le_mul ah1 bh1
  have W1 : IntKind.u64.wrap ((al : Int) * (bl : Int)) = (p1 : Int) := by rw [IntKind.wrap_u64, ← Int.natCast_mul, ← hp1]; omega
  have W2 : IntKind.u64.wrap ((ah : Int) * (bl : Int)) = (p2 : Int) := by rw [IntKind.wrap_u64, ← Int.natCast_mul, ← hp2]; omega
  have W3 : IntKind.u64.wrap ((al : Int) * (bh : Int)) = (p3 : Int) := by rw [IntKind.wrap_u64, ← Int.natCast_mul, ← hp3]; omega
  have W4 : IntKind.u64.wrap ((ah : Int) * (bh : Int)) = (p4 : Int) := by rw [IntKind.wrap_u64, ← Int.natCast_mul, ← hp4]; omega
  rw [← hp1, ← hp2, ← hp3, ← hp4] at q1
  rw [← hp1, ← hp2, ← hp3] at q2
  rw [hab] at q1
  clear hp1 hp2 hp3 hp4 hab hah hal hbh hbl
  obtain ⟨x1, hx1⟩ : ∃ x, x = p1 / 4294967296 := ⟨_, rfl⟩
  obtain ⟨y1, hy1⟩ : ∃ y, y = p1 % 4294967296 := ⟨_, rfl⟩
  rw [← hx1, ← hy1] at q1 q2
  obtain ⟨m, hm⟩ : ∃ m, m = p2 + x1 := ⟨_, rfl⟩
  rw [← hm] at q1 q2
  obtain ⟨x2, hx2⟩ : ∃ x, x = m / 4294967296 := ⟨_, rfl⟩
  obtain ⟨y2, hy2⟩ : ∃ y, y = m % 4294967296 := ⟨_, rfl⟩
  rw [← hy2] at q1 q2
  rw [← hx2] at q1
  obtain ⟨n, hn⟩ : ∃ n, n = p3 + y2 := ⟨_, rfl⟩
  rw [← hn] at q1 q2
  obtain ⟨x3, hx3⟩ : ∃ x, x = n / 4294967296 := ⟨_, rfl⟩
  obtain ⟨y3, hy3⟩ : ∃ y, y = n % 4294967296 := ⟨_, rfl⟩
  rw [← hy3] at q1 q2
  rw [← hx3] at q1
  obtain ⟨k, hk⟩ : ∃ k, k = y3 * 4294967296 + y1 := ⟨_, rfl⟩
  obtain ⟨j, hj⟩ : ∃ j, j = p4 + x2 + x3 := ⟨_, rfl⟩
  rw [← hk] at q1 q2
  rw [← hj] at q1
  have X1 : (p1 : Int) / 4294967296 = (x1 : Int) := by omega
  have Y1 : (p1 : Int) % 4294967296 = (y1 : Int) := by omega
  have M1 : (p2 : Int) + (x1 : Int) = (m : Int) := by omega
  have X2 : (m : Int) / 4294967296 = (x2 : Int) := by omega
  have Y2 : (m : Int) % 4294967296 = (y2 : Int) := by omega
  have N1 : (p3 : Int) + (y2 : Int) = (n : Int) := by omega
  have X3 : (n : Int) / 4294967296 = (x3 : Int) := by omega
  have Y3 : (n : Int) % 4294967296 = (y3 : Int) := by omega
  have y1b : y1 < 4294967296 := by omega
  have y3b : y3 < 4294967296 := by omega
  have x1b : x1 < 4294967296 := by omega
  have x2b : x2 < 4294967296 := by omega
  have x3b : x3 < 4294967296 := by omega
  have y2b : y2 < 4294967296 := by omega
  obtain ⟨e1, e2⟩ := h
  have f1 : hi = j := by rw [e1, ← q1]; exact hi_of _ j k q2
  have f2 : lo = k := by rw [e2, ← q1]; exact lo_of _ j k q2
  have g1 : IntKind.u64.wrap ((p4 : Int) + (x2 : Int) + (x3 : Int)) = (j : Int) := by rw [IntKind.wrap_u64]; omega
  subst f1 f2
  have H1 := Lib.hid hj
  have H2 := Lib.hid hk
  clear hj hk hx1 hy1 hm hx2 hy2 hn hx3 hy3 e1 e2 q1 q2 g1
  go_enter Tryz.func180, Tryz.ntmps180
  go_wp2_with (first | ((with_reducible refine wp_region_quiet_below ?_ ?_ ?_); kernel_rfl; kernel_rfl; (repeat (go_big_quiet_step (fail))); refine wpQuiet_nil ?_; intro _ hw'; obtain ⟨⟨dq, osq⟩, hw''⟩ := hw'; subst hw''))
  refine bodyPost_ret (v := .agg #[.bool false, .int .u64 (hi : Nat), .int .u64 (lo : Nat)]) (by simp [results, Tryz.results180, go_sem]; exact ⟨by have := H1.out; omega, by have := H2.out; omega⟩) rfl ⟨rfl, (by repeat (first | exact Below.refl _ _ | refine below_reg ?_ _ _ | refine below_alloc ?_ _ | exact below_drewN ?_ _ | assumption))⟩
theorem sgn_mul (a b : Int) : ((!(decide (a < 0) == decide (b < 0))) && (!(a == 0) && !(b == 0))) = decide (a * b < 0) := by
  rcases Int.lt_trichotomy a 0 with h | h | h <;> rcases Int.lt_trichotomy b 0 with h' | h' | h'
  all_goals first
    | (subst h; simp)
    | (subst h'; simp)
    | (have := Int.mul_pos_of_neg_of_neg h h'; rw [decide_eq_true h, decide_eq_true h', decide_eq_false (show ¬ a * b < 0 by omega)]; simp)
    | (have := Int.mul_neg_of_neg_of_pos h h'; rw [decide_eq_true h, decide_eq_false (show ¬ b < 0 by omega), decide_eq_true this, beq_eq_false_iff_ne.2 (show a ≠ 0 by omega), beq_eq_false_iff_ne.2 (show b ≠ 0 by omega)]; rfl)
    | (have := Int.mul_neg_of_pos_of_neg h h'; rw [decide_eq_false (show ¬ a < 0 by omega), decide_eq_true h', decide_eq_true this, beq_eq_false_iff_ne.2 (show a ≠ 0 by omega), beq_eq_false_iff_ne.2 (show b ≠ 0 by omega)]; rfl)
    | (have := Int.mul_pos h h'; rw [decide_eq_false (show ¬ a < 0 by omega), decide_eq_false (show ¬ b < 0 by omega), decide_eq_false (show ¬ a * b < 0 by omega)]; simp)
theorem rProduct_any (a b : Int) (hi lo : Nat) (h : Two hi lo (a.natAbs * b.natAbs)) (w : World) (h0 : -9223372036854775808 ≤ a) (h1 : a ≤ 9223372036854775807) (h2 : -9223372036854775808 ≤ b) (h3 : b ≤ 9223372036854775807) :
    Calls Tryz.prog 221 #[.int .i64 a, .int .i64 b] w fun e w' => e = .returned (.agg #[.bool (decide (a * b < 0)), .int .u64 hi, .int .u64 lo]) ∧ Below w.heap.size w w' := by
  have HS := sgn_mul a b
  rw [← HS]
  have HP := Lib.hid (rproduct_any a.natAbs b.natAbs hi lo h)
  clear HS
  cases ha : decide (a < 0) <;> cases hb : decide (b < 0) <;> cases ha0 : (a == 0) <;> cases hb0 : (b == 0)
  all_goals first | (exfalso; simp at ha hb ha0 hb0; omega) | skip
  all_goals
    have ha1 : (a != 0) = !(a == 0) := rfl
    have hb1 : (b != 0) = !(b == 0) := rfl
    rw [ha0] at ha1
    rw [hb0] at hb1
    simp only [Bool.not_true, Bool.not_false] at ha1 hb1
    go_enter Tryz.func221, Tryz.ntmps221
    go_wp2_with (first | (go_at_call 119; (with_reducible refine cmono ?_ (rsize_any _ _ ?_ ?_)); rotate_left; omega; omega; rintro e w' ⟨rfl, hbc0⟩; obtain ⟨⟨dc0, osc0⟩, rfl⟩ := regrown_of_below hbc0; clear hbc0) | (go_at_call 180; (with_reducible refine cmono ?_ (HP.out _ ?_ ?_)); rotate_left; omega; omega; rintro e w' ⟨rfl, hbc1⟩; obtain ⟨⟨dc1, osc1⟩, rfl⟩ := regrown_of_below hbc1; clear hbc1) | ((with_reducible refine wp_region_quiet_below ?_ ?_ ?_); kernel_rfl; kernel_rfl; (repeat (go_big_quiet_step (first | (go_at_call 119; (with_reducible refine Calls.regrown_of (rsize_any _ _ ?_ ?_)); omega; omega) | (go_at_call 180; (with_reducible refine Calls.regrown_of (HP.out _ ?_ ?_)); omega; omega)))); refine wpQuiet_nil ?_; intro _ hw'; obtain ⟨⟨dq, osq⟩, hw''⟩ := hw'; subst hw''))
    first
      | refine bodyPost_ret (v := .agg #[.bool true, .int .u64 (hi : Nat), .int .u64 (lo : Nat)]) (by simp [results, Tryz.results221, go_sem]) rfl ⟨rfl, (by repeat (first | exact Below.refl _ _ | refine below_reg ?_ _ _ | refine below_alloc ?_ _ | exact below_drewN ?_ _ | assumption))⟩
      | refine bodyPost_ret (v := .agg #[.bool false, .int .u64 (hi : Nat), .int .u64 (lo : Nat)]) (by simp [results, Tryz.results221, go_sem]) rfl ⟨rfl, (by repeat (first | exact Below.refl _ _ | refine below_reg ?_ _ _ | refine below_alloc ?_ _ | exact below_drewN ?_ _ | assumption))⟩
theorem rless_any (x y : Bool) (a b c d m n : Nat) (h1 : Two a b m) (h2 : Two c d n) (w : World) :
    Calls Tryz.prog 223 #[.agg #[.bool x, .int .u64 a, .int .u64 b], .agg #[.bool y, .int .u64 c, .int .u64 d]] w fun en w' => en = .returned (.int .i64 (cmpN (m : Int) (n : Int))) ∧ Below w.heap.size w w' := by
  have HC := cmpN_hi a b c d h1.lo h2.lo
  rw [h1.eq, h2.eq] at HC
  obtain ⟨k, hk⟩ : ∃ k, k = cmpN (m : Int) (n : Int) := ⟨_, rfl⟩
  rw [← hk] at HC ⊢
  have HH := Lib.hid HC
  clear HC h1 h2 hk
  go_enter Tryz.func223, Tryz.ntmps223
  go_wp2_with (first | ((with_reducible refine wp_region_quiet_below ?_ ?_ ?_); kernel_rfl; kernel_rfl; (repeat (go_big_quiet_step (fail))); refine wpQuiet_nil ?_; intro _ hw'; obtain ⟨⟨dq, osq⟩, hw''⟩ := hw'; subst hw''))
  all_goals (go_ret; refine ⟨ret_int ?_, (by repeat (first | exact Below.refl _ _ | refine below_reg ?_ _ _ | refine below_alloc ?_ _ | exact below_drewN ?_ _ | assumption))⟩)
  all_goals (rw [HH.out]; unfold cmpN; simp only [bne_iff_ne, ne_eq, bne_eq_false_iff_eq] at *)
  all_goals ((repeat' split) <;> omega)
end Go.Proofs.YtgdpogdgpfjnoaaGreatDoor

namespace Go.Proofs.YtgdpogdgpfjnoaaGreatDoor
open Go.RowKit Go.Sort
theorem rSign_any (x : Int) (hi lo : Nat) (h : Two hi lo x.natAbs) (w : World) :
    Calls Tryz.prog 222 #[.agg #[.bool (decide (x < 0)), .int .u64 hi, .int .u64 lo]] w fun en w' => en = .returned (.int .i64 (cmpN x 0)) ∧ Below w.heap.size w w' := by
  have e := h.eq
  have hz : (hi = 0 ∧ lo = 0) ↔ x = 0 := by
    constructor
    · rintro ⟨rfl, rfl⟩; simp at e; omega
    · rintro rfl
      obtain ⟨e1, e2⟩ := h
      simp at e1 e2; exact ⟨e1, e2⟩
  obtain ⟨k, hk⟩ : ∃ k, k = cmpN x 0 := ⟨_, rfl⟩
  rw [← hk]
  have HK := Lib.hid hk
  have HZ := Lib.hid hz
  clear e h hk hz
  cases hs : decide (x < 0) <;> cases h1 : ((hi : Int) == 0) <;> cases h2 : ((lo : Int) == 0)
  all_goals
    go_enter Tryz.func222, Tryz.ntmps222
    go_wp2_with (first | ((with_reducible refine wp_region_quiet_below ?_ ?_ ?_); kernel_rfl; kernel_rfl; (repeat (go_big_quiet_step (fail))); refine wpQuiet_nil ?_; intro _ hw'; obtain ⟨⟨dq, osq⟩, hw''⟩ := hw'; subst hw''))
    go_ret
    refine ⟨ret_int ?_, (by repeat (first | exact Below.refl _ _ | refine below_reg ?_ _ _ | refine below_alloc ?_ _ | exact below_drewN ?_ _ | assumption))⟩
    rw [HK.out]
    have hz := HZ.out
    simp only [beq_iff_eq, beq_eq_false_iff_ne, decide_eq_true_eq, decide_eq_false_iff_not, ne_eq] at h1 h2 hs
    unfold cmpN
    (repeat' split) <;> first | rfl | omega | (exfalso; omega)
end Go.Proofs.YtgdpogdgpfjnoaaGreatDoor

namespace Go.Proofs.YtgdpogdgpfjnoaaGreatDoor
open Go.RowKit
end Go.Proofs.YtgdpogdgpfjnoaaGreatDoor

namespace Go.Proofs.YtgdpogdgpfjnoaaGreatDoor
open Go.RowKit Go.Sort
end Go.Proofs.YtgdpogdgpfjnoaaGreatDoor

namespace Go.Proofs.YtgdpogdgpfjnoaaGreatDoor
open Go.RowKit Go.Sort
theorem cmpN_abs (x y : Int) : (cmpN x 0 ≠ cmpN y 0 → (cmpN x 0 < cmpN y 0 → cmpN x y = -1) ∧ (¬ cmpN x 0 < cmpN y 0 → cmpN x y = 1)) ∧
    (cmpN x 0 = cmpN y 0 → (cmpN x 0 < 0 → cmpN x y = cmpN (y.natAbs : Int) (x.natAbs : Int)) ∧ (¬ cmpN x 0 < 0 → cmpN x y = cmpN (x.natAbs : Int) (y.natAbs : Int))) := by
  have h1 : cmpN x 0 = if x < 0 then -1 else if 0 < x then 1 else 0 := rfl
  have h2 : cmpN y 0 = if y < 0 then -1 else if 0 < y then 1 else 0 := rfl
  rw [h1, h2]
  unfold cmpN
  refine ⟨fun h => ⟨fun h => ?_, fun h => ?_⟩, fun h => ⟨fun h => ?_, fun h => ?_⟩⟩
  all_goals
    revert h
    (repeat' split) <;> intros <;> omega
set_option maxHeartbeats 4000000 in
theorem rcompare_any (p q r t : Int) (w : World) (p0 : -9223372036854775808 ≤ p) (p1 : p ≤ 9223372036854775807) (q0 : -9223372036854775808 ≤ q) (q1 : q ≤ 9223372036854775807)
    (r0 : -9223372036854775808 ≤ r) (r1 : r ≤ 9223372036854775807) (t0 : -9223372036854775808 ≤ t) (t1 : t ≤ 9223372036854775807) :
    Calls Tryz.prog 172 #[.agg #[.int .i64 p, .int .i64 q], .agg #[.int .i64 r, .int .i64 t]] w fun e w' => e = .returned (.int .i64 (cmpN (p * t) (r * q))) ∧ Below w.heap.size w w' := by
  obtain ⟨a, b, ha⟩ := two_mk (p.natAbs * t.natAbs)
  obtain ⟨c, d, hc⟩ := two_mk (r.natAbs * q.natAbs)
  have P1 := rProduct_any p t a b ha
  have P2 := rProduct_any r q c d hc
  rw [← Int.natAbs_mul] at ha hc
  obtain ⟨x, hx⟩ : ∃ x, x = p * t := ⟨_, rfl⟩
  obtain ⟨y, hy⟩ : ∃ y, y = r * q := ⟨_, rfl⟩
  rw [← hx] at ha P1 ⊢
  rw [← hy] at hc P2 ⊢
  have S1 := rSign_any x a b ha
  have S2 := rSign_any y c d hc
  have L1 := rless_any (decide (x < 0)) (decide (y < 0)) a b c d _ _ ha hc
  have L2 := rless_any (decide (y < 0)) (decide (x < 0)) c d a b _ _ hc ha
  have HC := Lib.hid (cmpN_abs x y)
  obtain ⟨s, hs⟩ : ∃ s, s = cmpN x 0 := ⟨_, rfl⟩
  obtain ⟨u, hu⟩ : ∃ u, u = cmpN y 0 := ⟨_, rfl⟩
  obtain ⟨k, hk⟩ : ∃ k, k = cmpN (x.natAbs : Int) (y.natAbs : Int) := ⟨_, rfl⟩
  obtain ⟨l, hl⟩ : ∃ l, l = cmpN (y.natAbs : Int) (x.natAbs : Int) := ⟨_, rfl⟩
  rw [← hs, ← hu, ← hk, ← hl] at HC
  rw [← hs] at S1
  rw [← hu] at S2
  rw [← hk] at L1
  rw [← hl] at L2
  have P1H := Lib.hid P1
  have P2H := Lib.hid P2
  have S1H := Lib.hid S1
  have S2H := Lib.hid S2
  have L1H := Lib.hid L1
  have L2H := Lib.hid L2
  clear P1 P2 S1 S2 L1 L2 hs hu hk hl ha hc
  obtain ⟨X, hX⟩ : ∃ X, X = decide (x < 0) := ⟨_, rfl⟩
  obtain ⟨Y, hY⟩ : ∃ Y, Y = decide (y < 0) := ⟨_, rfl⟩
  rw [← hX] at P1H S1H L1H L2H
  rw [← hY] at P2H S2H L1H L2H
  clear hX hY hx hy
  cases e1 : (s != u) <;> cases e2 : decide (s < u) <;> cases e3 : decide (s < 0)
  all_goals
    go_enter Tryz.func172, Tryz.ntmps172
    go_wp2_with (first | (go_at_call 221; (with_reducible refine cmono ?_ (P1H.out _ ?_ ?_ ?_ ?_)); rotate_left; omega; omega; omega; omega; rintro e w' ⟨rfl, hbc0⟩; obtain ⟨⟨dc0, osc0⟩, rfl⟩ := regrown_of_below hbc0; clear hbc0) | (go_at_call 221; (with_reducible refine cmono ?_ (P2H.out _ ?_ ?_ ?_ ?_)); rotate_left; omega; omega; omega; omega; rintro e w' ⟨rfl, hbc1⟩; obtain ⟨⟨dc1, osc1⟩, rfl⟩ := regrown_of_below hbc1; clear hbc1) | (go_at_call 222; (with_reducible refine cmono ?_ (S1H.out _)); rotate_left; rintro e w' ⟨rfl, hbc2⟩; obtain ⟨⟨dc2, osc2⟩, rfl⟩ := regrown_of_below hbc2; clear hbc2) | (go_at_call 222; (with_reducible refine cmono ?_ (S2H.out _)); rotate_left; rintro e w' ⟨rfl, hbc3⟩; obtain ⟨⟨dc3, osc3⟩, rfl⟩ := regrown_of_below hbc3; clear hbc3) | (go_at_call 223; (with_reducible refine cmono ?_ (L1H.out _)); rotate_left; rintro e w' ⟨rfl, hbc4⟩; obtain ⟨⟨dc4, osc4⟩, rfl⟩ := regrown_of_below hbc4; clear hbc4) | (go_at_call 223; (with_reducible refine cmono ?_ (L2H.out _)); rotate_left; rintro e w' ⟨rfl, hbc5⟩; obtain ⟨⟨dc5, osc5⟩, rfl⟩ := regrown_of_below hbc5; clear hbc5) | ((with_reducible refine wp_region_quiet_below ?_ ?_ ?_); kernel_rfl; kernel_rfl; (repeat (go_big_quiet_step (first | (go_at_call 221; (with_reducible refine Calls.regrown_of (P1H.out _ ?_ ?_ ?_ ?_)); omega; omega; omega; omega) | (go_at_call 221; (with_reducible refine Calls.regrown_of (P2H.out _ ?_ ?_ ?_ ?_)); omega; omega; omega; omega) | (go_at_call 222; (with_reducible refine Calls.regrown_of (S1H.out _))) | (go_at_call 222; (with_reducible refine Calls.regrown_of (S2H.out _))) | (go_at_call 223; (with_reducible refine Calls.regrown_of (L1H.out _))) | (go_at_call 223; (with_reducible refine Calls.regrown_of (L2H.out _)))))); refine wpQuiet_nil ?_; intro _ hw'; obtain ⟨⟨dq, osq⟩, hw''⟩ := hw'; subst hw'') | ((with_reducible refine wp_region_two 10 5 6 #[.bool false, .int .u64 0, .int .u64 0] #[.bool false, .int .u64 0, .int .u64 0] 237 237 ?_ ?_ ?_ ?_ ?_); kernel_rfl; kernel_rfl; (intro _ _; simp [go_sem]); (intro _ _; simp [go_sem]); simp only [List.take_succ_cons, List.take_zero, List.drop_succ_cons, List.drop_zero]; (repeat (refine wpS_step (fun K hK => ?_); go_simp; first | (refine hK _ ?_; clear hK K) | (apply Exists.intro; refine ⟨fun _ => ?_, hK _ ?_⟩; (first | (go_at_call 221; (with_reducible refine kept_of (P1H.out _ ?_ ?_ ?_ ?_)); omega; omega; omega; omega) | (go_at_call 221; (with_reducible refine kept_of (P2H.out _ ?_ ?_ ?_ ?_)); omega; omega; omega; omega) | (go_at_call 222; (with_reducible refine kept_of (S1H.out _))) | (go_at_call 222; (with_reducible refine kept_of (S2H.out _))) | (go_at_call 223; (with_reducible refine kept_of (L1H.out _))) | (go_at_call 223; (with_reducible refine kept_of (L2H.out _)))); clear hK K))); refine wpS_nil ?_; refine ⟨?_, ?_⟩ <;> rintro ⟨dp, op⟩ ⟨dq, oq⟩ ⟨dr, og⟩))
    all_goals go_ret
    all_goals refine ⟨ret_int ?_, (by repeat (first | exact Below.refl _ _ | refine below_reg ?_ _ _ | refine below_alloc ?_ _ | exact below_drewN ?_ _ | assumption))⟩
    all_goals have hh := HC.out
    all_goals simp only [bne_iff_ne, bne_eq_false_iff_eq, decide_eq_true_eq, decide_eq_false_iff_not, ne_eq] at e1 e2 e3
    all_goals first
    | exact ((hh.1 (by omega)).1 (by omega)).symm
    | exact ((hh.1 (by omega)).2 (by omega)).symm
    | exact ((hh.2 (by omega)).1 (by omega)).symm
    | exact ((hh.2 (by omega)).2 (by omega)).symm
end Go.Proofs.YtgdpogdgpfjnoaaGreatDoor

namespace Go.Proofs.YtgdpogdgpfjnoaaGreatDoor
open Go.RowKit
def qv (n d : Int) : Rat := mkRat n d.toNat
theorem chk_iff (n d : Int) : chk n d = 0 ↔ 1 ≤ d ∧ n ≠ -9223372036854775808 ∧ n.natAbs.Coprime d.toNat := by
  unfold chk Nat.Coprime
  rw [Nat.gcd_comm n.natAbs]
  have hg : 1 ≤ d → 0 < Nat.gcd d.toNat n.natAbs := fun h => Nat.gcd_pos_of_pos_left _ (by omega)
  split
  · rename_i h
    constructor
    · intro h'; omega
    · rintro ⟨h1, h2, h3⟩; exfalso; omega
  · rename_i h
    have h1 : 1 ≤ d := by omega
    have := hg h1
    exact ⟨fun _ => ⟨h1, by omega, by omega⟩, fun _ => rfl⟩
theorem qv_num {n d : Int} (h : chk n d = 0) : (qv n d).num = n := by
  obtain ⟨h1, _, h3⟩ := (chk_iff n d).1 h
  unfold qv
  rw [Rat.num_mkRat, if_neg (by omega), Nat.gcd_comm, show Nat.gcd n.natAbs d.toNat = 1 from h3]
  simp
theorem qv_den {n d : Int} (h : chk n d = 0) : ((qv n d).den : Int) = d := by
  obtain ⟨h1, _, h3⟩ := (chk_iff n d).1 h
  unfold qv
  rw [Rat.den_mkRat, if_neg (by omega), Nat.gcd_comm, show Nat.gcd n.natAbs d.toNat = 1 from h3]
  omega
def outQ (q : Rat) : Int × Int × Int := if q.num.natAbs ≤ 9223372036854775807 ∧ q.den ≤ 9223372036854775807 then (q.num, q.den, 0) else (0, 0, 16)
end Go.Proofs.YtgdpogdgpfjnoaaGreatDoor

namespace Go.Proofs.YtgdpogdgpfjnoaaGreatDoor
open Go.RowKit Go.Sort
end Go.Proofs.YtgdpogdgpfjnoaaGreatDoor

namespace Go.Proofs.YtgdpogdgpfjnoaaGreatDoor
open Go.RowKit Go.Sort
end Go.Proofs.YtgdpogdgpfjnoaaGreatDoor

namespace Go.Proofs.YtgdpogdgpfjnoaaGreatDoor
open Go.RowKit
theorem tri (a b : Rat) : a < b ∨ a = b ∨ b < a := by
  rcases Rat.le_total (a := a) (b := b) with h | h
  · rcases Rat.le_iff_lt_or_eq.1 h with h | h
    · exact .inl h
    · exact .inr (.inl h)
  · rcases Rat.le_iff_lt_or_eq.1 h with h | h
    · exact .inr (.inr h)
    · exact .inr (.inl h.symm)
theorem qv_inj {p q r t : Int} (h1 : chk p q = 0) (h2 : chk r t = 0) : qv p q = qv r t ↔ p = r ∧ q = t := by
  constructor
  · intro h
    have e1 := qv_num h1
    have e2 := qv_den h1
    rw [h, qv_num h2] at e1
    rw [h, qv_den h2] at e2
    exact ⟨e1.symm, e2.symm⟩
  · rintro ⟨rfl, rfl⟩; rfl
end Go.Proofs.YtgdpogdgpfjnoaaGreatDoor

namespace Go.Proofs.YtgdpogdgpfjnoaaGreatDoor
open Go.RowKit Go.Sort Sx
abbrev i64 (n : Int) : D := .v (.int .i64 n)
abbrev u64 (n : Int) : D := .v (.int .u64 n)
abbrev bol (b : Bool) : D := .v (.bool b)
theorem wd_i64 {n : Int} : WD (i64 n) ↔ -9223372036854775808 ≤ n ∧ n ≤ 9223372036854775807 := WD_v
theorem wd_u64 {n : Int} : WD (u64 n) ↔ 0 ≤ n ∧ n ≤ 18446744073709551615 := WD_v
theorem wd1 {n d : Int} (h : WDCs [.agg [i64 n, i64 d]]) : -9223372036854775808 ≤ n ∧ n ≤ 9223372036854775807 ∧ -9223372036854775808 ≤ d ∧ d ≤ 9223372036854775807 := by
  simp only [WDCs, WDC, WDs, wd_i64] at h; omega
theorem wd2 {n d m e : Int} (h : WDCs [.agg [i64 n, i64 d], .agg [i64 m, i64 e]]) : (-9223372036854775808 ≤ n ∧ n ≤ 9223372036854775807 ∧ -9223372036854775808 ≤ d ∧ d ≤ 9223372036854775807) ∧ (-9223372036854775808 ≤ m ∧ m ≤ 9223372036854775807 ∧ -9223372036854775808 ≤ e ∧ e ≤ 9223372036854775807) := by
  simp only [WDCs, WDC, WDs, wd_i64] at h; omega
theorem cmpN_rng (a b : Int) : -1 ≤ cmpN a b ∧ cmpN a b ≤ 1 := by unfold cmpN; (repeat' split) <;> omega
abbrev rat2 (p q r t : Int) : List DC := [.agg [i64 p, i64 q], .agg [i64 r, i64 t]]
abbrev ret2 (x : Int × Int) : DV := .tup [.one (i64 x.1), .one (i64 x.2)]
abbrev ret1 (x : Int) : DV := .c (.one (i64 x))
theorem check_fn (n d : Int) : FnOK Tryz.prog 44 [.agg [i64 n, i64 d]] (ret1 (chk n d)) := by
  refine fn_of_calls (fun _ _ => Tryz.call44 _ _) rfl rfl (fun h => ?_) (fun h w => ?_)
  · simp only [WDV, WDCs, WDC, WDs, wd_i64, and_true]
    rcases chk_08 n d with h | h <;> omega
  · obtain ⟨_, _, _, _⟩ := wd1 h
    exact check_any n d w (by omega) (by omega) (by omega) (by omega)
theorem rcheck_fn (n d : Int) : FnOK Tryz.prog 65 [.agg [i64 n, i64 d]] (ret1 (chk n d)) := by
  refine fn_of_calls (fun _ _ => Tryz.call65 _ _) rfl rfl (fun h => ?_) (fun h w => ?_)
  · simp only [WDV, WDCs, WDC, WDs, wd_i64, and_true]
    rcases chk_08 n d with h | h <;> omega
  · obtain ⟨_, _, _, _⟩ := wd1 h
    exact rcheck_any n d w (by omega) (by omega) (by omega) (by omega)
theorem rcompare_fn (p q r t : Int) : FnOK Tryz.prog 172 (rat2 p q r t) (ret1 (cmpN (p * t) (r * q))) := by
  refine fn_of_calls (fun _ _ => Tryz.call172 _ _) rfl rfl (fun h => ?_) (fun h w => ?_)
  · simp only [WDV, WDCs, WDC, WDs, wd_i64, and_true]
    have := cmpN_rng (p * t) (r * q)
    omega
  · obtain ⟨⟨_, _, _, _⟩, _, _, _, _⟩ := wd2 h
    exact rcompare_any p q r t w (by omega) (by omega) (by omega) (by omega) (by omega) (by omega) (by omega) (by omega)
end Go.Proofs.YtgdpogdgpfjnoaaGreatDoor

namespace Go.Proofs.YtgdpogdgpfjnoaaGreatDoor
open Go.RowKit Go.Sort Sx
theorem gcd_fnd (a b : Nat) : FnD Tryz.prog 86 [.one (u64 a), .one (u64 b)] (.c (.one (u64 (Nat.gcd a b : Nat)))) := by
  refine fn_okD (by kernel_rfl) ty_okD rfl Tryz.func86 rfl (fun _ _ => Tryz.call86 _ _) rfl ?_
  intro hw
  simp only [WDCs, WDC, wd_u64] at hw
  repeat' ((conv => whnf); first | (with_reducible first | refine br_t ?_ | refine br_f ?_ | refine zd ?_ | refine za ?_ | refine zg ?_) | refine zp ?_ | refine zq ?_ | (with_reducible first | refine bc (fun h => ?_) (fun h => ?_) | refine zt ?_ | refine zf ?_ | refine br_i (fun h => ?_) (fun h => ?_)) | refine zg ?_ | refine zi ?_ | refine zb ?_)
  refine loop_J (by kernel_rfl) ty_okD (σ := Nat × Nat) (fun s => [(0, sV (.int .u64 s.1)), (1, sV (.int .u64 s.2))]) (fun _ => []) (fun s => s.1 ≤ 18446744073709551615 ∧ s.2 ≤ 18446744073709551615 ∧ Nat.gcd s.1 s.2 = Nat.gcd a b) (fun s => s.2) (a, b) ⟨by show a ≤ _; omega, by show b ≤ _; omega, rfl⟩ ?_ ?_
  · (conv => whnf); exact zent
  rintro ⟨n, m⟩ ⟨h1, h2, h3⟩
  simp only at h1 h2 h3
  rcases Nat.eq_zero_or_pos m with h0 | h0
  · subst h0
    rw [Nat.gcd_zero_right] at h3
    rw [← h3]
    repeat' ((conv => whnf); first | (with_reducible first | refine br_t ?_ | refine br_f ?_ | refine zd ?_ | refine za ?_ | refine zg ?_) | refine zp ?_ | refine zq ?_ | (with_reducible first | refine bc (fun h => ?_) (fun h => ?_) | refine zt ?_ | refine zf ?_ | refine br_i (fun h => ?_) (fun h => ?_)) | refine zg ?_ | refine zi ?_ | refine zb ?_)
    all_goals conv => whnf
    all_goals rfl
  · have hne : (m : Int) ≠ 0 := by omega
    have hlt := Nat.mod_lt n h0
    have e1 : IntKind.u64.wrap ((n : Int).tmod (m : Int)) = ((n % m : Nat) : Int) := by rw [← Int.ofNat_tmod, IntKind.wrap_u64]; generalize n % m = k at *; omega
    repeat' ((conv => whnf); first | (with_reducible first | refine br_t ?_ | refine br_f ?_ | refine zd ?_ | refine za ?_ | refine zg ?_) | refine zp ?_ | refine zq ?_ | (with_reducible first | refine bc (fun h => ?_) (fun h => ?_) | refine zt ?_ | refine zf ?_ | refine br_i (fun h => ?_) (fun h => ?_)) | refine zg ?_ | refine zi ?_ | refine zb ?_)
    all_goals conv => whnf
    refine ⟨(m, n % m), ⟨h2, by show n % m ≤ _; omega, by show Nat.gcd m (n % m) = _; rw [← h3, Nat.gcd_comm n m, Nat.gcd_rec m n, Nat.gcd_comm]⟩, ?_, hlt⟩
    (conv => whnf); exact zent
theorem abs_fnd (n : Int) : FnD Tryz.prog 87 [.one (i64 n)] (.c (.one (u64 (n.natAbs : Nat)))) := by
  refine fn_okD (by kernel_rfl) ty_okD rfl Tryz.func87 rfl (fun _ _ => Tryz.call87 _ _) rfl ?_
  intro hw
  simp only [WDCs, WDC, wd_i64] at hw
  by_cases h : n < 0
  all_goals
    repeat' ((conv => whnf); first | (with_reducible first | refine br_t ?_ | refine br_f ?_ | refine zd ?_ | refine za ?_ | refine zg ?_) | refine zp ?_ | refine zq ?_ | (with_reducible first | refine bc (fun h => ?_) (fun h => ?_) | refine zt ?_ | refine zf ?_ | refine br_i (fun h => ?_) (fun h => ?_)) | refine zg ?_ | refine zi ?_ | refine zb ?_)
    all_goals conv => whnf
    all_goals
      refine r_int ?_
      simp only [IntKind.wrap_u64]
      omega
theorem check_fnd (n d : Int) : FnD Tryz.prog 44 [.agg [i64 n, i64 d]] (ret1 (chk n d)) := by
  refine fn_okD (by kernel_rfl) ty_okD rfl Tryz.func44 rfl (fun _ _ => Tryz.call44 _ _) rfl ?_
  intro hw
  simp only [WDCs, WDC, WDs, wd_i64] at hw
  unfold chk
  by_cases h1 : d < 1
  · rw [if_pos (.inl h1)]
    repeat' ((conv => whnf); first | (with_reducible first | refine br_t ?_ | refine br_f ?_ | refine zd ?_ | refine za ?_ | refine zg ?_) | refine zp ?_ | refine zq ?_ | (with_reducible first | refine bc (fun h => ?_) (fun h => ?_) | refine zt ?_ | refine zf ?_ | refine br_i (fun h => ?_) (fun h => ?_)) | refine zg ?_ | refine zi ?_ | refine zb ?_)
    all_goals conv => whnf
    all_goals rfl
  · by_cases h2 : n = -9223372036854775808
    · rw [if_pos (.inr (.inl h2))]
      repeat' ((conv => whnf); first | (with_reducible first | refine br_t ?_ | refine br_f ?_ | refine zd ?_ | refine za ?_ | refine zg ?_) | refine zp ?_ | refine zq ?_ | (with_reducible first | refine bc (fun h => ?_) (fun h => ?_) | refine zt ?_ | refine zf ?_ | refine br_i (fun h => ?_) (fun h => ?_)) | refine zg ?_ | refine zi ?_ | refine zb ?_)
      all_goals conv => whnf
      all_goals rfl
    · obtain ⟨e, rfl⟩ := Int.eq_ofNat_of_zero_le (show 0 ≤ d by omega)
      have ew : IntKind.u64.wrap (e : Int) = e := by rw [IntKind.wrap_u64]; omega
      have H1 := abs_fnd n
      have H2 : FnD Tryz.prog 86 [.one (u64 (IntKind.u64.wrap (e : Int))), .one (u64 (n.natAbs : Nat))] (.c (.one (u64 (Nat.gcd e n.natAbs : Nat)))) := by rw [ew]; exact gcd_fnd e n.natAbs
      rw [Int.toNat_natCast]
      generalize Nat.gcd e n.natAbs = g at *
      generalize n.natAbs = m at *
      by_cases h3 : 1 < g
      · rw [if_pos (.inr (.inr h3))]
        repeat' ((conv => whnf); first | (with_reducible first | refine br_t ?_ | refine br_f ?_ | refine zd ?_ | refine za ?_ | refine zg ?_) | refine zp ?_ | refine zq ?_ | (with_reducible first | refine bc (fun h => ?_) (fun h => ?_) | refine zt ?_ | refine zf ?_ | refine br_i (fun h => ?_) (fun h => ?_)) | refine zg ?_ | refine zi ?_ | refine zb ?_)
        all_goals conv => whnf
        all_goals rfl
      · rw [if_neg (by simp only [not_or]; exact ⟨h1, h2, h3⟩)]
        repeat' ((conv => whnf); first | (with_reducible first | refine br_t ?_ | refine br_f ?_ | refine zd ?_ | refine za ?_ | refine zg ?_) | refine zp ?_ | refine zq ?_ | (with_reducible first | refine bc (fun h => ?_) (fun h => ?_) | refine zt ?_ | refine zf ?_ | refine br_i (fun h => ?_) (fun h => ?_)) | refine zg ?_ | refine zi ?_ | refine zb ?_)
        all_goals conv => whnf
        all_goals rfl
theorem both_fnd (p q r t : Int) : FnD Tryz.prog 148 (rat2 p q r t) (ret1 (bth p q r t)) := by
  refine fn_okD (by kernel_rfl) ty_okD rfl Tryz.func148 rfl (fun _ _ => Tryz.call148 _ _) rfl ?_
  intro hw
  clear hw
  have H1 := check_fnd p q
  have H2 := check_fnd r t
  have e : bth p q r t = if chk p q < chk r t then chk r t else chk p q := by
    unfold bth
    rcases chk_08 p q with h1 | h1 <;> rcases chk_08 r t with h2 | h2 <;> rw [h1, h2] <;> decide
  rw [e]
  generalize chk p q = x at *
  generalize chk r t = y at *
  repeat' ((conv => whnf); first | (with_reducible first | refine br_t ?_ | refine br_f ?_ | refine zd ?_ | refine za ?_ | refine zg ?_) | refine zp ?_ | refine zq ?_ | (with_reducible first | refine bc (fun h => ?_) (fun h => ?_) | refine zt ?_ | refine zf ?_ | refine br_i (fun h => ?_) (fun h => ?_)) | refine zg ?_ | refine zi ?_ | refine zb ?_)
  all_goals conv => whnf
  all_goals exact r_int (by unfold maxI; (repeat' split) <;> omega)
theorem nani_fnd (n : Int) : FnD Tryz.prog 219 [.one (i64 n)] (.c (.one (bol false))) := by
  refine fn_okD (by kernel_rfl) ty_okD rfl Tryz.func219 rfl (fun _ _ => Tryz.call219 _ _) rfl ?_
  intro hw
  repeat' ((conv => whnf); first | (with_reducible first | refine br_t ?_ | refine br_f ?_ | refine zd ?_ | refine za ?_ | refine zg ?_) | refine zp ?_ | refine zq ?_ | (with_reducible first | refine bc (fun h => ?_) (fun h => ?_) | refine zt ?_ | refine zf ?_ | refine br_i (fun h => ?_) (fun h => ?_)) | refine zg ?_ | refine zi ?_ | refine zb ?_)
  all_goals conv => whnf
  all_goals first | rfl | exact r_bool (by simp)
theorem cmpi_fnd (a b : Int) : FnD Tryz.prog 169 [.one (i64 a), .one (i64 b)] (ret1 (cmpN a b)) := by
  refine fn_okD (by kernel_rfl) ty_okD rfl Tryz.func169 rfl (fun _ _ => Tryz.call169 _ _) rfl ?_
  intro hw
  have H1 := nani_fnd a
  have H2 := nani_fnd b
  repeat' ((conv => whnf); first | (with_reducible first | refine br_t ?_ | refine br_f ?_ | refine zd ?_ | refine za ?_ | refine zg ?_) | refine zp ?_ | refine zq ?_ | (with_reducible first | refine bc (fun h => ?_) (fun h => ?_) | refine zt ?_ | refine zf ?_ | refine br_i (fun h => ?_) (fun h => ?_)) | refine zg ?_ | refine zi ?_ | refine zb ?_)
  all_goals conv => whnf
  all_goals
    refine r_int ?_
    unfold cmpN
    (repeat' split) <;> omega
theorem nanu_fnd (n : Int) : FnD Tryz.prog 248 [.one (u64 n)] (.c (.one (bol false))) := by
  refine fn_okD (by kernel_rfl) ty_okD rfl Tryz.func248 rfl (fun _ _ => Tryz.call248 _ _) rfl ?_
  intro hw
  repeat' ((conv => whnf); first | (with_reducible first | refine br_t ?_ | refine br_f ?_ | refine zd ?_ | refine za ?_ | refine zg ?_) | refine zp ?_ | refine zq ?_ | (with_reducible first | refine bc (fun h => ?_) (fun h => ?_) | refine zt ?_ | refine zf ?_ | refine br_i (fun h => ?_) (fun h => ?_)) | refine zg ?_ | refine zi ?_ | refine zb ?_)
  all_goals conv => whnf
  all_goals first | rfl | exact r_bool (by simp)
theorem cmpu_fnd (a b : Int) : FnD Tryz.prog 220 [.one (u64 a), .one (u64 b)] (ret1 (cmpN a b)) := by
  refine fn_okD (by kernel_rfl) ty_okD rfl Tryz.func220 rfl (fun _ _ => Tryz.call220 _ _) rfl ?_
  intro hw
  have H1 := nanu_fnd a
  have H2 := nanu_fnd b
  repeat' ((conv => whnf); first | (with_reducible first | refine br_t ?_ | refine br_f ?_ | refine zd ?_ | refine za ?_ | refine zg ?_) | refine zp ?_ | refine zq ?_ | (with_reducible first | refine bc (fun h => ?_) (fun h => ?_) | refine zt ?_ | refine zf ?_ | refine br_i (fun h => ?_) (fun h => ?_)) | refine zg ?_ | refine zi ?_ | refine zb ?_)
  all_goals conv => whnf
  all_goals
    refine r_int ?_
    unfold cmpN
    (repeat' split) <;> omega
theorem mul64_fnd (X Y : Nat) : FnD Tryz.prog 133 [.one (u64 X), .one (u64 Y)] (.tup [.one (u64 (X * Y / 18446744073709551616 : Nat)), .one (u64 (X * Y % 18446744073709551616 : Nat))]) := by
  refine fnD_of_calls (fun _ _ => Tryz.call133 _ _) rfl rfl (fun h => ?_) (fun h w => ?_)
  all_goals simp only [WDCs, WDC, wd_u64] at h
  · simp only [WDV, WDCs, WDC, wd_u64, and_true]
    have h1 : X * Y ≤ 18446744073709551615 * 18446744073709551615 := Nat.mul_le_mul (by omega) (by omega)
    omega
  · exact (Tryz.bits_Mul64 X Y (by omega) (by omega) w).mono fun e w' ⟨he, hw⟩ => ⟨he, by rw [hw]; exact Below.refl _ _, by rw [hw]; exact Nat.le_refl _⟩
abbrev wideC (x : Bool) (m : Nat) : DC := .agg [bol x, u64 (m / 18446744073709551616 : Nat), u64 (m % 18446744073709551616 : Nat)]
theorem times_fnd (a b : Int) : FnD Tryz.prog 150 [.one (i64 a), .one (i64 b)] (.c (wideC (decide (a < 0) != decide (b < 0)) (a.natAbs * b.natAbs))) := by
  refine fn_okD (by kernel_rfl) ty_okD rfl Tryz.func150 rfl (fun _ _ => Tryz.call150 _ _) rfl ?_
  intro hw
  clear hw
  have H1 := abs_fnd a
  have H2 := abs_fnd b
  have H3 := mul64_fnd a.natAbs b.natAbs
  generalize a.natAbs * b.natAbs = m at *
  repeat' ((conv => whnf); first | (with_reducible first | refine br_t ?_ | refine br_f ?_ | refine zd ?_ | refine za ?_ | refine zg ?_) | refine zp ?_ | refine zq ?_ | (with_reducible first | refine bc (fun h => ?_) (fun h => ?_) | refine zt ?_ | refine zf ?_ | refine br_i (fun h => ?_) (fun h => ?_)) | refine zg ?_ | refine zi ?_ | refine zb ?_)
  all_goals conv => whnf
  all_goals rfl
theorem compare_fnd (x y : Bool) (m n : Nat) : FnD Tryz.prog 170 [wideC x m, wideC y n] (ret1 (cmpN m n)) := by
  refine fn_okD (by kernel_rfl) ty_okD rfl Tryz.func170 rfl (fun _ _ => Tryz.call170 _ _) rfl ?_
  intro hw
  clear hw
  have H1 := cmpu_fnd ((m / 18446744073709551616 : Nat) : Int) ((n / 18446744073709551616 : Nat) : Int)
  have H2 := cmpu_fnd ((m % 18446744073709551616 : Nat) : Int) ((n % 18446744073709551616 : Nat) : Int)
  have e := cmpN_hi (m / 18446744073709551616) (m % 18446744073709551616) (n / 18446744073709551616) (n % 18446744073709551616) (Nat.mod_lt _ (by decide)) (Nat.mod_lt _ (by decide))
  rw [Nat.div_add_mod', Nat.div_add_mod'] at e
  rw [e]
  generalize cmpN ((m / 18446744073709551616 : Nat) : Int) ((n / 18446744073709551616 : Nat) : Int) = u at *
  generalize cmpN ((m % 18446744073709551616 : Nat) : Int) ((n % 18446744073709551616 : Nat) : Int) = v at *
  repeat' ((conv => whnf); first | (with_reducible first | refine br_t ?_ | refine br_f ?_ | refine zd ?_ | refine za ?_ | refine zg ?_) | refine zp ?_ | refine zq ?_ | (with_reducible first | refine bc (fun h => ?_) (fun h => ?_) | refine zt ?_ | refine zf ?_ | refine br_i (fun h => ?_) (fun h => ?_)) | refine zg ?_ | refine zi ?_ | refine zb ?_)
  all_goals conv => whnf
  all_goals exact r_int (by simp [*])
theorem bth_c {p q r t : Int} (h : bth p q r t = 0) : chk p q = 0 ∧ chk r t = 0 := by
  unfold bth at h
  split at h
  · exact ⟨by assumption, h⟩
  · omega
theorem cmpN_neg (x y : Int) : cmpN (-x) (-y) = -cmpN x y := by
  unfold cmpN
  (repeat' split) <;> omega
theorem tup2_eq {a b c : Int} (h : a = b) : DV.tup [.one (i64 a), .one (i64 c)] = ret2 (b, c) := by rw [h]
theorem cmp_fnd (p q r t : Int) : FnD Tryz.prog 109 (rat2 p q r t) (ret2 (cmpV p q r t)) := by
  have H1 := both_fnd p q r t
  unfold cmpV
  by_cases hb : bth p q r t = 0
  · rw [if_pos hb]
    rw [hb] at H1
    obtain ⟨c1, c2⟩ := bth_c hb
    obtain ⟨a1, a2, _⟩ := (chk_iff p q).1 c1
    obtain ⟨b1, b2, _⟩ := (chk_iff r t).1 c2
    have H2 := cmpi_fnd p r
    have H3 := times_fnd p t
    have H4 := times_fnd r q
    have H5 := compare_fnd (decide (p < 0) != decide (t < 0)) (decide (r < 0) != decide (q < 0)) (p.natAbs * t.natAbs) (r.natAbs * q.natAbs)
    have hpt : (p < 0 ∧ p * t < 0 ∧ p * t = -((p.natAbs * t.natAbs : Nat) : Int)) ∨ 0 ≤ p ∧ 0 ≤ p * t ∧ p * t = ((p.natAbs * t.natAbs : Nat) : Int) := by
      rw [← Int.natAbs_mul]
      rcases Int.lt_or_le p 0 with h | h
      · have := Int.mul_neg_of_neg_of_pos h (show 0 < t by omega); exact .inl ⟨h, this, by omega⟩
      · have := Int.mul_nonneg h (show 0 ≤ t by omega); exact .inr ⟨h, this, by omega⟩
    have hrq : (r < 0 ∧ r * q < 0 ∧ r * q = -((r.natAbs * q.natAbs : Nat) : Int)) ∨ 0 ≤ r ∧ 0 ≤ r * q ∧ r * q = ((r.natAbs * q.natAbs : Nat) : Int) := by
      rw [← Int.natAbs_mul]
      rcases Int.lt_or_le r 0 with h | h
      · have := Int.mul_neg_of_neg_of_pos h (show 0 < q by omega); exact .inl ⟨h, this, by omega⟩
      · have := Int.mul_nonneg h (show 0 ≤ q by omega); exact .inr ⟨h, this, by omega⟩
    generalize p.natAbs * t.natAbs = m at *
    generalize r.natAbs * q.natAbs = n at *
    generalize p * t = x at *
    generalize r * q = y at *
    clear c1 c2 hb
    have e3 : (decide (p < 0) != decide (t < 0)) = decide (p < 0) := by rw [show decide (t < 0) = false from decide_eq_false (by omega)]; simp
    have e4 : (decide (r < 0) != decide (q < 0)) = decide (r < 0) := by rw [show decide (q < 0) = false from decide_eq_false (by omega)]; simp
    rw [e3] at H3 H5
    rw [e4] at H4 H5
    clear e3 e4
    rcases hpt with ⟨p1, p2, p3⟩ | ⟨p1, p2, p3⟩ <;> rcases hrq with ⟨r1, r2, r3⟩ | ⟨r1, r2, r3⟩
    · have e : cmpN x y = -cmpN m n := by rw [p3, r3, cmpN_neg]
      have hr := cmpN_rng (m : Int) n
      rw [e]
      generalize cmpN (m : Int) n = k at *
      rw [decide_eq_true p1] at H3 H5
      rw [decide_eq_true r1] at H4 H5
      have hne : (!(decide (p < 0) == decide (r < 0))) = false := by simp [show p < 0 from p1, show r < 0 from r1]
      refine fn_okD (by kernel_rfl) ty_okD rfl Tryz.func109 rfl (fun _ _ => Tryz.call109 _ _) rfl ?_
      intro hw
      clear hw
      repeat' ((conv => whnf); first | (with_reducible first | refine br_t ?_ | refine br_f ?_ | refine zd ?_ | refine za ?_ | refine zg ?_) | refine zp ?_ | refine zq ?_ | (with_reducible first | refine bc (fun h => ?_) (fun h => ?_) | refine zt ?_ | refine zf ?_ | refine br_i (fun h => ?_) (fun h => ?_)) | refine zg ?_ | refine zi ?_ | refine zb ?_)
      all_goals conv => whnf
      all_goals exact tup2_eq (by rw [IntWalk.i64_in _ (by omega)]; omega)
    · have e : cmpN p r = cmpN x y := by unfold cmpN; (repeat' split) <;> omega
      rw [← e]
      have hne : (!(decide (p < 0) == decide (r < 0))) = true := by simp [show p < 0 from p1, show ¬ r < 0 by omega]
      refine fn_okD (by kernel_rfl) ty_okD rfl Tryz.func109 rfl (fun _ _ => Tryz.call109 _ _) rfl ?_
      intro hw
      clear hw
      repeat' ((conv => whnf); first | (with_reducible first | refine br_t ?_ | refine br_f ?_ | refine zd ?_ | refine za ?_ | refine zg ?_) | refine zp ?_ | refine zq ?_ | (with_reducible first | refine bc (fun h => ?_) (fun h => ?_) | refine zt ?_ | refine zf ?_ | refine br_i (fun h => ?_) (fun h => ?_)) | refine zg ?_ | refine zi ?_ | refine zb ?_)
      all_goals conv => whnf
      all_goals rfl
    · have e : cmpN p r = cmpN x y := by unfold cmpN; (repeat' split) <;> omega
      rw [← e]
      have hne : (!(decide (p < 0) == decide (r < 0))) = true := by simp [show ¬ p < 0 by omega, show r < 0 from r1]
      refine fn_okD (by kernel_rfl) ty_okD rfl Tryz.func109 rfl (fun _ _ => Tryz.call109 _ _) rfl ?_
      intro hw
      clear hw
      repeat' ((conv => whnf); first | (with_reducible first | refine br_t ?_ | refine br_f ?_ | refine zd ?_ | refine za ?_ | refine zg ?_) | refine zp ?_ | refine zq ?_ | (with_reducible first | refine bc (fun h => ?_) (fun h => ?_) | refine zt ?_ | refine zf ?_ | refine br_i (fun h => ?_) (fun h => ?_)) | refine zg ?_ | refine zi ?_ | refine zb ?_)
      all_goals conv => whnf
      all_goals rfl
    · rw [p3, r3]
      generalize cmpN (m : Int) n = k at *
      rw [decide_eq_false (show ¬ p < 0 by omega)] at H3 H5
      rw [decide_eq_false (show ¬ r < 0 by omega)] at H4 H5
      have hne : (!(decide (p < 0) == decide (r < 0))) = false := by simp [show ¬ p < 0 by omega, show ¬ r < 0 by omega]
      refine fn_okD (by kernel_rfl) ty_okD rfl Tryz.func109 rfl (fun _ _ => Tryz.call109 _ _) rfl ?_
      intro hw
      clear hw
      repeat' ((conv => whnf); first | (with_reducible first | refine br_t ?_ | refine br_f ?_ | refine zd ?_ | refine za ?_ | refine zg ?_) | refine zp ?_ | refine zq ?_ | (with_reducible first | refine bc (fun h => ?_) (fun h => ?_) | refine zt ?_ | refine zf ?_ | refine br_i (fun h => ?_) (fun h => ?_)) | refine zg ?_ | refine zi ?_ | refine zb ?_)
      all_goals conv => whnf
      all_goals rfl
  · rw [if_neg hb]
    have h8 : bth p q r t = 8 := (bth_08 p q r t).resolve_left hb
    rw [h8] at H1
    refine fn_okD (by kernel_rfl) ty_okD rfl Tryz.func109 rfl (fun _ _ => Tryz.call109 _ _) rfl ?_
    intro hw
    clear hw
    repeat' ((conv => whnf); first | (with_reducible first | refine br_t ?_ | refine br_f ?_ | refine zd ?_ | refine za ?_ | refine zg ?_) | refine zp ?_ | refine zq ?_ | (with_reducible first | refine bc (fun h => ?_) (fun h => ?_) | refine zt ?_ | refine zf ?_ | refine br_i (fun h => ?_) (fun h => ?_)) | refine zg ?_ | refine zi ?_ | refine zb ?_)
    all_goals conv => whnf
    all_goals rfl
end Go.Proofs.YtgdpogdgpfjnoaaGreatDoor

namespace Go.Proofs.YtgdpogdgpfjnoaaGreatDoor
open Go.RowKit Go.Sort Sx
abbrev pt (i a b : Int) : DC := .agg [i64 i, i64 a, i64 b]
def far (n : Int) : Bool := decide (n < -1048576 ∨ n > 1048576)
def cpt (i a b : Int) : Int := if 0 ≤ i ∧ i ≤ 65535 ∧ -1048576 ≤ a ∧ a ≤ 1048576 ∧ -1048576 ≤ b ∧ b ≤ 1048576 then 0 else 8
theorem cpt_08 (i a b : Int) : cpt i a b = 0 ∨ cpt i a b = 8 := by unfold cpt; split <;> simp
end Go.Proofs.YtgdpogdgpfjnoaaGreatDoor

namespace Go.Proofs.YtgdpogdgpfjnoaaGreatDoor
open Go.RowKit Go.Sort Sx
end Go.Proofs.YtgdpogdgpfjnoaaGreatDoor

namespace Go.Proofs.YtgdpogdgpfjnoaaGreatDoor
open Go.RowKit Go.Sort Sx
theorem nanint_fnd (n : Int) : FnD Tryz.prog 98 [.one (i64 n)] (.c (.one (bol false))) := by
  refine fn_okD (by kernel_rfl) ty_okD rfl Tryz.func98 rfl (fun _ _ => Tryz.call98 _ _) rfl ?_
  intro hw
  repeat' ((conv => whnf); first | (with_reducible first | refine br_t ?_ | refine br_f ?_ | refine zd ?_ | refine za ?_ | refine zg ?_) | refine zp ?_ | refine zq ?_ | (with_reducible first | refine bc (fun h => ?_) (fun h => ?_) | refine zt ?_ | refine zf ?_ | refine br_i (fun h => ?_) (fun h => ?_)) | refine zg ?_ | refine zi ?_ | refine zb ?_)
  all_goals conv => whnf
  all_goals first | rfl | exact r_bool (by simp)
theorem cmpint_fnd (a b : Int) : FnD Tryz.prog 53 [.one (i64 a), .one (i64 b)] (ret1 (cmpN a b)) := by
  refine fn_okD (by kernel_rfl) ty_okD rfl Tryz.func53 rfl (fun _ _ => Tryz.call53 _ _) rfl ?_
  intro hw
  repeat' ((conv => whnf); first | (with_reducible first | refine br_t ?_ | refine br_f ?_ | refine zd ?_ | refine za ?_ | refine zg ?_ | refine xi (nanint_fnd _) ?_) | refine zp ?_ | refine zq ?_ | (with_reducible first | refine bc (fun h => ?_) (fun h => ?_) | refine zt ?_ | refine zf ?_ | refine br_i (fun h => ?_) (fun h => ?_)) | refine zg ?_ | refine zi ?_ | refine zb ?_)
  all_goals conv => whnf
  all_goals
    refine r_int ?_
    unfold cmpN
    (repeat' split) <;> omega
end Go.Proofs.YtgdpogdgpfjnoaaGreatDoor

namespace Go.Proofs.YtgdpogdgpfjnoaaGreatDoor
open Go.RowKit
end Go.Proofs.YtgdpogdgpfjnoaaGreatDoor

namespace Go.Proofs.YtgdpogdgpfjnoaaGreatDoor
open Go.RowKit Go.Sort Sx
end Go.Proofs.YtgdpogdgpfjnoaaGreatDoor

namespace Go.Proofs.YtgdpogdgpfjnoaaGreatDoor
open Go.RowKit Go.Sort Sx
end Go.Proofs.YtgdpogdgpfjnoaaGreatDoor

namespace Go.Proofs.YtgdpogdgpfjnoaaGreatDoor
open Go.RowKit Go.Sort Sx
end Go.Proofs.YtgdpogdgpfjnoaaGreatDoor

namespace Go.Proofs.YtgdpogdgpfjnoaaGreatDoor
open Go.RowKit Go.Sort Sx
structure Pt where
  id : Int
  a : Int
  b : Int
  deriving DecidableEq, Inhabited
def Pt.c (p : Pt) : List D := [i64 p.id, i64 p.a, i64 p.b]
abbrev Pt.dc (p : Pt) : DC := pt p.id p.a p.b
abbrev pts (l : List Pt) : D := .list 3 (l.map Pt.c)
def Pt.chk (p : Pt) : Int := cpt p.id p.a p.b
theorem Pt.chk_08 (p : Pt) : p.chk = 0 ∨ p.chk = 8 := cpt_08 p.id p.a p.b
end Go.Proofs.YtgdpogdgpfjnoaaGreatDoor

namespace Go.Proofs.YtgdpogdgpfjnoaaGreatDoor
open Go Go.RowKit Sx
end Go.Proofs.YtgdpogdgpfjnoaaGreatDoor

namespace Go.Proofs.YtgdpogdgpfjnoaaGreatDoor
open Go.RowKit Go.Sort Sx
def has (l : List Pt) (id : Int) : Bool := l.any fun p => p.id == id
end Go.Proofs.YtgdpogdgpfjnoaaGreatDoor

namespace Go.Proofs.YtgdpogdgpfjnoaaGreatDoor
open Go.RowKit Go.Sort Sx
end Go.Proofs.YtgdpogdgpfjnoaaGreatDoor

namespace Go.Proofs.YtgdpogdgpfjnoaaGreatDoor
open Go.RowKit Go.Sort Sx
theorem Pt.eq_iff {p q : Pt} : p = q ↔ p.id = q.id ∧ p.a = q.a ∧ p.b = q.b := by
  cases p; cases q; simp
theorem take_all_eq {α : Type} {a b : List α} {i : Nat} (h : a.take i = b.take i) (hl : a.length = b.length) (hi : a.length ≤ i) : a = b := by
  rw [List.take_of_length_le hi, List.take_of_length_le (by omega)] at h; exact h
theorem take_succ_eq {α : Type} {a b : List α} {i : Nat} (h : a.take i = b.take i) (h1 : i < a.length) (h2 : i < b.length) (e : a[i] = b[i]) : a.take (i + 1) = b.take (i + 1) := by
  rw [List.take_succ_eq_append_getElem h1, List.take_succ_eq_append_getElem h2, h, e]
theorem ne_of_get {α : Type} {a b : List α} {i : Nat} (h1 : i < a.length) (h2 : i < b.length) (e : a[i] ≠ b[i]) : a ≠ b := by
  rintro rfl; exact e rfl
structure Md where
  n : Int
  d : Int
  l : List Pt
  deriving DecidableEq, Inhabited
def Md.c (m : Md) : List D := [i64 m.n, i64 m.d, pts m.l]
abbrev Md.dc (m : Md) : DC := .agg [i64 m.n, i64 m.d, pts m.l]
end Go.Proofs.YtgdpogdgpfjnoaaGreatDoor

namespace Go.Proofs.YtgdpogdgpfjnoaaGreatDoor
open Go Go.RowKit Sx
namespace Sx
end Sx
end Go.Proofs.YtgdpogdgpfjnoaaGreatDoor

namespace Go.Proofs.YtgdpogdgpfjnoaaGreatDoor
open Go Go.RowKit Go.Sort Sx
abbrev u8 (n : Int) : D := .v (.int .u8 n)
structure Ak where
  k : Int
  p : Pt
  id : Int
  n : Int
  d : Int
  deriving DecidableEq, Inhabited
def Ak.c (a : Ak) : List D := [u8 a.k, i64 a.p.id, i64 a.p.a, i64 a.p.b, i64 a.id, i64 a.n, i64 a.d]
abbrev Ak.dc (a : Ak) : DC := .agg [u8 a.k, i64 a.p.id, i64 a.p.a, i64 a.p.b, i64 a.id, i64 a.n, i64 a.d]
end Go.Proofs.YtgdpogdgpfjnoaaGreatDoor

namespace Go.Proofs.YtgdpogdgpfjnoaaGreatDoor
open Go Go.RowKit
namespace Sx
variable {P : Program} {sz : Nat} {E : Env} {H : Hp}
end Sx
end Go.Proofs.YtgdpogdgpfjnoaaGreatDoor

namespace Go.Proofs.YtgdpogdgpfjnoaaGreatDoor
open Go Go.RowKit Go.Sort Sx
abbrev bstr (l : List UInt8) : Value := .string ⟨l.toArray⟩
abbrev str (l : List UInt8) : Sx.D := .v (.string ⟨l.toArray⟩)
theorem str_toList (a : List UInt8) : (⟨a.toArray⟩ : ByteArray).toList = a := by rw [Lib.toList_data]
theorem str_size (a : List UInt8) : (⟨a.toArray⟩ : ByteArray).size = a.length := rfl
theorem str_append (a b : List UInt8) : (⟨a.toArray⟩ : ByteArray) ++ ⟨b.toArray⟩ = ⟨(a ++ b).toArray⟩ := by
  apply ByteArray.ext
  simp
theorem str_extract (a : List UInt8) (i j : Nat) : (⟨a.toArray⟩ : ByteArray).extract i j = ⟨((a.take j).drop i).toArray⟩ := by
  apply ByteArray.ext
  rw [ByteArray.data_extract]
  apply Array.ext'
  simp [List.extract_eq_take_drop, List.drop_take]
theorem str_get (a : List UInt8) (i : Nat) : (⟨a.toArray⟩ : ByteArray)[i]? = a[i]? := by
  by_cases h : i < a.length
  · have h' : i < (⟨a.toArray⟩ : ByteArray).size := h
    rw [List.getElem?_eq_getElem h, getElem?_pos (⟨a.toArray⟩ : ByteArray) i h']; rfl
  · have h' : ¬ i < (⟨a.toArray⟩ : ByteArray).size := h
    rw [List.getElem?_eq_none (by omega), getElem?_neg (⟨a.toArray⟩ : ByteArray) i h']
theorem run_cat {P : Program} {t : Nat} {x y : Operand} {a b : List UInt8} (h : a.length + b.length ≤ 9223372036854775807) (w : World) : (do eqGuard .add t x y (bstr a) (bstr b); binOp .add t (bstr a) (bstr b) : Sem Value).run P w = .ok (bstr (a ++ b)) w := by
  have := run_string_add_sum (P := P) (w := w) (⟨a.toArray⟩ : ByteArray) ⟨b.toArray⟩ h
  simp only [Sem.run_bind]
  show (binOp .add t (bstr a) (bstr b)).run P w = _
  rw [binOp_string_add, this, str_append]
theorem run_seq {P : Program} {t : Nat} {x y : Operand} {a b : List UInt8} (w : World) : (do eqGuard .eql t x y (bstr a) (bstr b); binOp .eql t (bstr a) (bstr b) : Sem Value).run P w = .ok (.bool (decide (a = b))) w := by
  simp only [Sem.run_bind]
  show (binOp .eql t (bstr a) (bstr b)).run P w = _
  rw [binOp_string_eql, str_toList, str_toList]
  simp [go_sem]
  by_cases h : a = b <;> simp [h]
theorem run_sne {P : Program} {t : Nat} {x y : Operand} {a b : List UInt8} (w : World) : (do eqGuard .neq t x y (bstr a) (bstr b); binOp .neq t (bstr a) (bstr b) : Sem Value).run P w = .ok (.bool (decide (¬ a = b))) w := by
  simp only [Sem.run_bind]
  show (binOp .neq t (bstr a) (bstr b)).run P w = _
  rw [binOp_string_neq, str_toList, str_toList]
  simp [go_sem]
  by_cases h : a = b <;> simp [h]
theorem cat_pv {P : Program} {t : Nat} {x y : Operand} {a b : List UInt8} (h : a.length + b.length ≤ 9223372036854775807) : (bstr (a ++ b)).oneCell' = true ∧ wfV (bstr (a ++ b)) ∧ ∀ w, (do eqGuard .add t x y (bstr a) (bstr b); binOp .add t (bstr a) (bstr b) : Sem Value).run P w = .ok (bstr (a ++ b)) w := ⟨rfl, trivial, run_cat h⟩
theorem seq_pv {P : Program} {t : Nat} {x y : Operand} {a b : List UInt8} : (Value.bool (decide (a = b))).oneCell' = true ∧ wfV (.bool (decide (a = b))) ∧ ∀ w, (do eqGuard .eql t x y (bstr a) (bstr b); binOp .eql t (bstr a) (bstr b) : Sem Value).run P w = .ok (.bool (decide (a = b))) w := ⟨rfl, trivial, run_seq⟩
theorem sne_pv {P : Program} {t : Nat} {x y : Operand} {a b : List UInt8} : (Value.bool (decide (¬ a = b))).oneCell' = true ∧ wfV (.bool (decide (¬ a = b))) ∧ ∀ w, (do eqGuard .neq t x y (bstr a) (bstr b); binOp .neq t (bstr a) (bstr b) : Sem Value).run P w = .ok (.bool (decide (¬ a = b))) w := ⟨rfl, trivial, run_sne⟩
theorem po_sidx {P : Program} {o : Oper} {t : Nat} {x y : Operand} {l : List UInt8} {k : IntKind} {i : Int} (ho : o.op = .index t x y) (ht : P.underlying t = some .string) (h0 : 0 ≤ i) (hi : i.toNat < l.length) : PureOp P o [bstr l, .int k i] (.int .u8 (l[i.toNat].toNat : Int)) := by
  refine ⟨rfl, ?_, fun f hf w => ?_⟩
  · show inK .u8 _
    have := l[i.toNat].toNat_lt
    simp only [inK]; omega
  · rw [ho] at hf
    simp only [Op.operands, List.map_cons, List.map_nil, List.cons.injEq, and_true] at hf
    simp [execOp, ho, hf.1, hf.2, Instr.index, asIntOf, run_underlying ht, h0, str_get, List.getElem?_eq_getElem hi]
theorem po_ssl {P : Program} {o : Oper} {t : Nat} {x y z : Operand} {l : List UInt8} {k k' : IntKind} {i j : Int} (ho : o.op = .slice t x (some y) (some z) none) (ht : P.underlying t = some .string) (h0 : 0 ≤ i) (h1 : i ≤ j) (h2 : j ≤ l.length) : PureOp P o [bstr l, .int k i, .int k' j] (bstr ((l.take j.toNat).drop i.toNat)) := by
  refine ⟨rfl, trivial, fun f hf w => ?_⟩
  rw [ho] at hf
  simp [Op.operands] at hf
  have e1 : ((j.toNat : Nat) : Int) = j := by omega
  simp [execOp, ho, hf, Instr.sliceAt, Instr.slice, Instr.sliceBounds, Instr.sliceBound, asIntOf, run_underlying ht, str_size, h0, h1, h2, e1, str_extract, show 0 ≤ j by omega]
theorem po_ssl1 {P : Program} {o : Oper} {t : Nat} {x y : Operand} {l : List UInt8} {k : IntKind} {i : Int} (ho : o.op = .slice t x (some y) none none) (ht : P.underlying t = some .string) (h0 : 0 ≤ i) (h1 : i ≤ l.length) : PureOp P o [bstr l, .int k i] (bstr (l.drop i.toNat)) := by
  refine ⟨rfl, trivial, fun f hf w => ?_⟩
  rw [ho] at hf
  simp [Op.operands] at hf
  have e1 : l.drop i.toNat = (l.take l.length).drop i.toNat := by rw [List.take_length]
  rw [e1]
  simp [execOp, ho, hf, Instr.sliceAt, Instr.slice, Instr.sliceBounds, Instr.sliceBound, asIntOf, run_underlying ht, str_size, h0, h1, str_extract]
theorem po_slen {P : Program} {o : Oper} {t : Nat} {x : Operand} {l : List UInt8} {c : Call} (ho : o.op = .call c) (hc : c.callee = .builtin .len) (ha : c.args = #[x]) (hat : c.argTypes = #[t]) (ht : P.underlying t = some .string) (hl : l.length ≤ 9223372036854775807) : PureOp P o [bstr l] (.int .i64 (l.length : Int)) := by
  refine ⟨rfl, ⟨by omega, by omega⟩, fun f hf w => ?_⟩
  rw [ho] at hf
  simp [Op.operands, Call.operands, hc, ha] at hf
  simp [execOp, ho, resolve, hc, ha, hat, invoke, builtin, hf, Builtin.len_, run_underlying ht, str_size, goInt]
theorem po_sget {P : Program} {o : Oper} {t : Nat} {x y : Operand} {l : List UInt8} {k : IntKind} {i : Int} {b : UInt8} (ho : o.op = .index t x y) (ht : P.underlying t = some .string) (h0 : 0 ≤ i) (hi : l[i.toNat]? = some b) : PureOp P o [bstr l, .int k i] (.int .u8 (b.toNat : Int)) := by
  obtain ⟨h, e⟩ := List.getElem?_eq_some_iff.1 hi
  have := po_sidx (P := P) (k := k) ho ht h0 h
  rw [e] at this; exact this
theorem zsl {o : Oper} {x : Operand} {c : Call} {l : List UInt8} {K : Value → Prop} (k : K (.int .i64 (l.length : Int))) (h : l.length ≤ 9223372036854775807 := by first | omega | (simp only [List.length_append, List.length_cons, List.length_nil]; omega)) (ho : o.op = .call c := by rfl) (hc : c.callee = .builtin .len := by rfl) (ha : c.args = #[x] := by rfl) (hat : c.argTypes = #[9] := by rfl) : ∃ v, PureOp Tryz.prog o [bstr l] v ∧ K v := ⟨_, po_slen ho hc ha hat Tryz.underlying9 h, k⟩
theorem zsg {o : Oper} {x y : Operand} {l : List UInt8} {kk : IntKind} {i : Int} {b : UInt8} {K : Value → Prop} (k : K (.int .u8 (b.toNat : Int))) (hi : l[i.toNat]? = some b := by assumption) (h0 : 0 ≤ i := by omega) (ho : o.op = .index 9 x y := by rfl) : ∃ v, PureOp Tryz.prog o [bstr l, .int kk i] v ∧ K v := ⟨_, po_sget ho Tryz.underlying9 h0 hi, k⟩
theorem zss {o : Oper} {x y z : Operand} {l : List UInt8} {kk kk' : IntKind} {i j : Int} {K : Value → Prop} (k : K (bstr ((l.take j.toNat).drop i.toNat))) (h0 : 0 ≤ i := by omega) (h1 : i ≤ j := by omega) (h2 : j ≤ l.length := by omega) (ho : o.op = .slice 9 x (some y) (some z) none := by rfl) : ∃ v, PureOp Tryz.prog o [bstr l, .int kk i, .int kk' j] v ∧ K v := ⟨_, po_ssl ho Tryz.underlying9 h0 h1 h2, k⟩
theorem zs1 {o : Oper} {x y : Operand} {l : List UInt8} {kk : IntKind} {i : Int} {K : Value → Prop} (k : K (bstr (l.drop i.toNat))) (h0 : 0 ≤ i := by omega) (h1 : i ≤ l.length := by omega) (ho : o.op = .slice 9 x (some y) none none := by rfl) : ∃ v, PureOp Tryz.prog o [bstr l, .int kk i] v ∧ K v := ⟨_, po_ssl1 ho Tryz.underlying9 h0 h1, k⟩
theorem zse {t : Nat} {x y : Operand} {a b : List UInt8} {K : Value → Prop} (k : K (.bool (decide (a = b)))) : ∃ v, (v.oneCell' = true ∧ wfV v ∧ ∀ w, (do eqGuard .eql t x y (bstr a) (bstr b); binOp .eql t (bstr a) (bstr b) : Sem Value).run Tryz.prog w = .ok v w) ∧ K v := ⟨_, seq_pv, k⟩
theorem zsn {t : Nat} {x y : Operand} {a b : List UInt8} {K : Value → Prop} (k : K (.bool (decide (¬ a = b)))) : ∃ v, (v.oneCell' = true ∧ wfV v ∧ ∀ w, (do eqGuard .neq t x y (bstr a) (bstr b); binOp .neq t (bstr a) (bstr b) : Sem Value).run Tryz.prog w = .ok v w) ∧ K v := ⟨_, sne_pv, k⟩
theorem zsc {t : Nat} {x y : Operand} {a b : List UInt8} {K : Value → Prop} (k : K (bstr (a ++ b))) (h : a.length + b.length ≤ 9223372036854775807 := by first | omega | (simp only [List.length_append, List.length_cons, List.length_nil]; omega)) : ∃ v, (v.oneCell' = true ∧ wfV v ∧ ∀ w, (do eqGuard .add t x y (bstr a) (bstr b); binOp .add t (bstr a) (bstr b) : Sem Value).run Tryz.prog w = .ok v w) ∧ K v := ⟨_, cat_pv h, k⟩
theorem zpa {c : Bool} {p q A B : Prop} [h : BC c p q] (k : A) (e : p := by first | assumption | with_reducible rfl) : br c A B := bc_t e k
theorem zqa {c : Bool} {p q A B : Prop} [h : BC c p q] (k : B) (e : q := by assumption) : br c A B := bc_f e k
end Go.Proofs.YtgdpogdgpfjnoaaGreatDoor
