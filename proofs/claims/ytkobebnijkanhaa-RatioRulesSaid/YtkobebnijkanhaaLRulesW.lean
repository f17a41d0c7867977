

/- The law RatioRules answers true, for every three fractions. No condition. -/
import Derived.Test.YtkobebnijkanhaaLOrderW
namespace Go.Proofs.Ytkobebnijkanhaa
open Go.RowKit Go.Sort Sx
set_option linter.unusedVariables false

theorem addQ {p q r t : Int} (h1 : chk p q = 0) (h2 : chk r t = 0) : ∃ n d e, addV p q r t = (n, d, e) ∧ (e = 0 ∨ e = 16) ∧ (e = 0 → chk n d = 0 ∧ qv n d = qv p q + qv r t) := by
  rw [addV_q h1 h2]
  rcases outQ_cases (qv p q + qv r t) with ⟨n, d, s1, s2, s3, _⟩ | s1 <;> rw [s1]
  · exact ⟨_, _, _, rfl, .inl rfl, fun _ => ⟨s2, s3⟩⟩
  · exact ⟨_, _, _, rfl, .inr rfl, fun h => by cases h⟩
theorem mulQ {p q r t : Int} (h1 : chk p q = 0) (h2 : chk r t = 0) : ∃ n d e, mulV p q r t = (n, d, e) ∧ (e = 0 ∨ e = 16) ∧ (e = 0 → chk n d = 0 ∧ qv n d = qv p q * qv r t) := by
  rw [mulV_q h1 h2]
  rcases outQ_cases (qv p q * qv r t) with ⟨n, d, s1, s2, s3, _⟩ | s1 <;> rw [s1]
  · exact ⟨_, _, _, rfl, .inl rfl, fun _ => ⟨s2, s3⟩⟩
  · exact ⟨_, _, _, rfl, .inr rfl, fun h => by cases h⟩
theorem outQ_self {p q : Int} (h : chk p q = 0) (h0 : -9223372036854775808 ≤ p) (h1 : p ≤ 9223372036854775807) (h2 : q ≤ 9223372036854775807) : outQ (qv p q) = (p, q, 0) := by
  obtain ⟨a1, a2, _⟩ := (chk_iff p q).1 h
  unfold outQ
  rw [qv_den' h, qv_num h, if_pos (by omega)]
  rw [Int.toNat_of_nonneg (by omega)]

set_option maxHeartbeats 40000000 in
set_option maxRecDepth 100000 in
theorem LRules_fn (p q r t u v : Int) : FnOK Try.prog 7 [.agg [i64 p, i64 q], .agg [i64 r, i64 t], .agg [i64 u, i64 v]] retT := by
  refine fn_ok (by kernel_rfl) ty_ok Try.func7 rfl (fun _ _ => Try.call7 _ _) rfl ?_
  intro hw
  have hp : -9223372036854775808 ≤ p ∧ p ≤ 9223372036854775807 ∧ q ≤ 9223372036854775807 := by simp only [WDCs, WDC, WDs, wd_i64] at hw; omega
  have hr : r ≤ 9223372036854775807 := by simp only [WDCs, WDC, WDs, wd_i64] at hw; omega
  clear hw
  have HB := rboth_fn p q r t
  have HK := rcheck_fn u v
  rcases bth_08 p q r t with hb | hb
  · obtain ⟨h1, h2⟩ := bth_ok hb
    rcases chk_08 u v with h3 | h3
    · rw [hb] at HB
      rw [h3] at HK
      have A1 := add_fn p q r t
      have A2 := add_fn r t p q
      have M1 := mul_fn p q r t
      have M2 := mul_fn r t p q
      have A3 := add_fn r t u v
      have M3 := mul_fn r t u v
      have M4 := mul_fn p q u v
      have c1 : addV r t p q = addV p q r t := by rw [addV_q h1 h2, addV_q h2 h1, Rat.add_comm]
      have c2 : mulV r t p q = mulV p q r t := by rw [mulV_q h1 h2, mulV_q h2 h1, Rat.mul_comm]
      rw [c1] at A2
      rw [c2] at M2
      clear c1 c2
      obtain ⟨sn, sd, e, k1, e1, k2⟩ := addQ h1 h2
      obtain ⟨pn, pd, g, k3, g1, k4⟩ := mulQ h1 h2
      obtain ⟨un, ud, i, k5, i1, k6⟩ := addQ h2 h3
      obtain ⟨vn, vd, l, k7, l1, k8⟩ := mulQ h2 h3
      obtain ⟨wn, wd, o, k9, o1, k10⟩ := mulQ h1 h3
      rw [k1] at A1 A2
      rw [k3] at M1 M2
      rw [k5] at A3
      rw [k7] at M3
      rw [k9] at M4
      have K1 := rcheck_fn sn sd
      have K2 := rcheck_fn pn pd
      have S1 := sub_fn sn sd r t
      have A4 := add_fn sn sd u v
      have A5 := add_fn p q un ud
      have M5 := mul_fn pn pd u v
      have M6 := mul_fn p q vn vd
      have M7 := mul_fn sn sd u v
      have A6 := add_fn wn wd vn vd
      have f1 : e = 0 → subV sn sd r t = (p, q, 0) := fun h => by
        obtain ⟨a, b⟩ := k2 h
        rw [subV_q a h2 hr, b, Rat.sub_eq_add_neg, Rat.add_assoc, ← Rat.sub_eq_add_neg, Rat.sub_self, Rat.add_zero, outQ_self h1 hp.1 hp.2.1 hp.2.2]
      have f2 : e = 0 → i = 0 → addV sn sd u v = addV p q un ud := fun h h' => by
        obtain ⟨a, b⟩ := k2 h
        obtain ⟨a', b'⟩ := k6 h'
        rw [addV_q a h3, addV_q h1 a', b, b', Rat.add_assoc]
      have f3 : g = 0 → l = 0 → mulV pn pd u v = mulV p q vn vd := fun h h' => by
        obtain ⟨a, b⟩ := k4 h
        obtain ⟨a', b'⟩ := k8 h'
        rw [mulV_q a h3, mulV_q h1 a', b, b', Rat.mul_assoc]
      have f4 : e = 0 → l = 0 → o = 0 → mulV sn sd u v = addV wn wd vn vd := fun h h' h'' => by
        obtain ⟨a, b⟩ := k2 h
        obtain ⟨a', b'⟩ := k8 h'
        obtain ⟨a'', b''⟩ := k10 h''
        rw [mulV_q a h3, addV_q a'' a', b, b', b'', Rat.add_mul]
      have f5 : e = 0 → chk sn sd = 0 := fun h => (k2 h).1
      have f6 : g = 0 → chk pn pd = 0 := fun h => (k4 h).1
      generalize chk sn sd = cs at *
      generalize chk pn pd = cp at *
      obtain ⟨bn, bd, be, y1⟩ : ∃ n d e, subV sn sd r t = (n, d, e) := ⟨_, _, _, rfl⟩
      obtain ⟨ln, ld, le, y2⟩ : ∃ n d e, addV sn sd u v = (n, d, e) := ⟨_, _, _, rfl⟩
      obtain ⟨rn, rd, re, y3⟩ : ∃ n d e, addV p q un ud = (n, d, e) := ⟨_, _, _, rfl⟩
      obtain ⟨ln2, ld2, le2, y4⟩ : ∃ n d e, mulV pn pd u v = (n, d, e) := ⟨_, _, _, rfl⟩
      obtain ⟨rn2, rd2, re2, y5⟩ : ∃ n d e, mulV p q vn vd = (n, d, e) := ⟨_, _, _, rfl⟩
      obtain ⟨bn2, bd2, be2, y6⟩ : ∃ n d e, mulV sn sd u v = (n, d, e) := ⟨_, _, _, rfl⟩
      obtain ⟨xn, xd, xe, y7⟩ : ∃ n d e, addV wn wd vn vd = (n, d, e) := ⟨_, _, _, rfl⟩
      rw [y1] at S1 f1
      rw [y2] at A4 f2
      rw [y3] at A5 f2
      rw [y4] at M5 f3
      rw [y5] at M6 f3
      rw [y6] at M7 f4
      rw [y7] at A6 f4
      simp only [Prod.mk.injEq] at f1 f2 f3 f4
      clear k1 k2 k3 k4 k5 k6 k7 k8 k9 k10 y1 y2 y3 y4 y5 y6 y7 hb h1 h2 h3 hp hr
      simp only [ret3, ret1] at *
      rcases e1 with rfl | rfl <;> rcases i1 with rfl | rfl <;> rcases g1 with rfl | rfl <;> rcases l1 with rfl | rfl <;> rcases o1 with rfl | rfl
      all_goals
        try simp at f1
        try simp at f2
        try simp at f3
        try simp at f4
        try simp at f5
        try simp at f6
        repeat' ((conv => whnf); first | (with_reducible refine br_t ?_) | (with_reducible refine br_f ?_) | ((with_reducible refine brd_t ?_ ?_); (omega)) | ((with_reducible refine brd_f ?_ ?_); (omega)) | (with_reducible refine brd (fun h => ?_) (fun h => ?_)) | ((with_reducible refine bre_t ?_ ?_); (omega)) | ((with_reducible refine bre_f ?_ ?_); (omega)) | (with_reducible refine bre (fun h => ?_) (fun h => ?_)) | ((with_reducible refine brn_t ?_ ?_); (omega)) | ((with_reducible refine brn_f ?_ ?_); (omega)) | (with_reducible refine brn (fun h => ?_) (fun h => ?_)) | (with_reducible refine brnot ?_) | (refine br_t' (by assumption) ?_) | (refine br_f' (by assumption) ?_) | (with_reducible refine br_i (fun h => ?_) (fun h => ?_)) | (with_reducible refine Exists.intro _ (And.intro (HB) ?_)) | (with_reducible refine Exists.intro _ (And.intro (HK) ?_)) | (with_reducible refine Exists.intro _ (And.intro (A1) ?_)) | (with_reducible refine Exists.intro _ (And.intro (A2) ?_)) | (with_reducible refine Exists.intro _ (And.intro (M1) ?_)) | (with_reducible refine Exists.intro _ (And.intro (M2) ?_)) | (with_reducible refine Exists.intro _ (And.intro (A3) ?_)) | (with_reducible refine Exists.intro _ (And.intro (M3) ?_)) | (with_reducible refine Exists.intro _ (And.intro (M4) ?_)) | (with_reducible refine Exists.intro _ (And.intro (K1) ?_)) | (with_reducible refine Exists.intro _ (And.intro (K2) ?_)) | (with_reducible refine Exists.intro _ (And.intro (S1) ?_)) | (with_reducible refine Exists.intro _ (And.intro (A4) ?_)) | (with_reducible refine Exists.intro _ (And.intro (A5) ?_)) | (with_reducible refine Exists.intro _ (And.intro (M5) ?_)) | (with_reducible refine Exists.intro _ (And.intro (M6) ?_)) | (with_reducible refine Exists.intro _ (And.intro (M7) ?_)) | (with_reducible refine Exists.intro _ (And.intro (A6) ?_)) | (with_reducible refine Exists.intro _ (And.intro (lalive_fn) ?_)) | (with_reducible refine Exists.intro _ (And.intro (pv_bool fun _ => eqv23 _ _ _ _ _ _ _) ?_)) | (with_reducible refine Exists.intro _ (And.intro (pv_bool fun _ => nev23 _ _ _ _ _ _ _) ?_)) | (with_reducible refine Exists.intro _ (And.intro (pv_bool fun _ => eqv57 _ _ _ _ _ _ _ _ _) ?_)) | (with_reducible refine Exists.intro _ (And.intro (pv_bool fun _ => nev57 _ _ _ _ _ _ _ _ _) ?_)) | (with_reducible refine Exists.intro _ (And.intro (pv_bool fun _ => eqv60 _ _ _ _ _ _ _ _ _) ?_)) | (with_reducible refine Exists.intro _ (And.intro (pv_bool fun _ => nev60 _ _ _ _ _ _ _ _ _) ?_)) | refine And.intro (by kernel_rfl) ?_ | refine And.intro (by omega) ?_ | refine And.intro (by decide) ?_)
      all_goals conv => whnf
      all_goals rfl
    · rw [hb] at HB
      rw [h3] at HK
      repeat' ((conv => whnf); first | (with_reducible refine br_t ?_) | (with_reducible refine br_f ?_) | ((with_reducible refine brd_t ?_ ?_); (omega)) | ((with_reducible refine brd_f ?_ ?_); (omega)) | (with_reducible refine brd (fun h => ?_) (fun h => ?_)) | ((with_reducible refine bre_t ?_ ?_); (omega)) | ((with_reducible refine bre_f ?_ ?_); (omega)) | (with_reducible refine bre (fun h => ?_) (fun h => ?_)) | ((with_reducible refine brn_t ?_ ?_); (omega)) | ((with_reducible refine brn_f ?_ ?_); (omega)) | (with_reducible refine brn (fun h => ?_) (fun h => ?_)) | (with_reducible refine brnot ?_) | (refine br_t' (by assumption) ?_) | (refine br_f' (by assumption) ?_) | (with_reducible refine br_i (fun h => ?_) (fun h => ?_)) | (with_reducible refine Exists.intro _ (And.intro (HB) ?_)) | (with_reducible refine Exists.intro _ (And.intro (HK) ?_)) | (with_reducible refine Exists.intro _ (And.intro (lalive_fn) ?_)) | (with_reducible refine Exists.intro _ (And.intro (pv_bool fun _ => eqv23 _ _ _ _ _ _ _) ?_)) | (with_reducible refine Exists.intro _ (And.intro (pv_bool fun _ => nev23 _ _ _ _ _ _ _) ?_)) | (with_reducible refine Exists.intro _ (And.intro (pv_bool fun _ => eqv57 _ _ _ _ _ _ _ _ _) ?_)) | (with_reducible refine Exists.intro _ (And.intro (pv_bool fun _ => nev57 _ _ _ _ _ _ _ _ _) ?_)) | (with_reducible refine Exists.intro _ (And.intro (pv_bool fun _ => eqv60 _ _ _ _ _ _ _ _ _) ?_)) | (with_reducible refine Exists.intro _ (And.intro (pv_bool fun _ => nev60 _ _ _ _ _ _ _ _ _) ?_)) | refine And.intro (by kernel_rfl) ?_ | refine And.intro (by omega) ?_ | refine And.intro (by decide) ?_)
      all_goals conv => whnf
      all_goals rfl
  · rw [hb] at HB
    repeat' ((conv => whnf); first | (with_reducible refine br_t ?_) | (with_reducible refine br_f ?_) | ((with_reducible refine brd_t ?_ ?_); (omega)) | ((with_reducible refine brd_f ?_ ?_); (omega)) | (with_reducible refine brd (fun h => ?_) (fun h => ?_)) | ((with_reducible refine bre_t ?_ ?_); (omega)) | ((with_reducible refine bre_f ?_ ?_); (omega)) | (with_reducible refine bre (fun h => ?_) (fun h => ?_)) | ((with_reducible refine brn_t ?_ ?_); (omega)) | ((with_reducible refine brn_f ?_ ?_); (omega)) | (with_reducible refine brn (fun h => ?_) (fun h => ?_)) | (with_reducible refine brnot ?_) | (refine br_t' (by assumption) ?_) | (refine br_f' (by assumption) ?_) | (with_reducible refine br_i (fun h => ?_) (fun h => ?_)) | (with_reducible refine Exists.intro _ (And.intro (HB) ?_)) | (with_reducible refine Exists.intro _ (And.intro (HK) ?_)) | (with_reducible refine Exists.intro _ (And.intro (lalive_fn) ?_)) | (with_reducible refine Exists.intro _ (And.intro (pv_bool fun _ => eqv23 _ _ _ _ _ _ _) ?_)) | (with_reducible refine Exists.intro _ (And.intro (pv_bool fun _ => nev23 _ _ _ _ _ _ _) ?_)) | (with_reducible refine Exists.intro _ (And.intro (pv_bool fun _ => eqv57 _ _ _ _ _ _ _ _ _) ?_)) | (with_reducible refine Exists.intro _ (And.intro (pv_bool fun _ => nev57 _ _ _ _ _ _ _ _ _) ?_)) | (with_reducible refine Exists.intro _ (And.intro (pv_bool fun _ => eqv60 _ _ _ _ _ _ _ _ _) ?_)) | (with_reducible refine Exists.intro _ (And.intro (pv_bool fun _ => nev60 _ _ _ _ _ _ _ _ _) ?_)) | refine And.intro (by kernel_rfl) ?_ | refine And.intro (by omega) ?_ | refine And.intro (by decide) ?_)
    all_goals conv => whnf
    all_goals rfl
theorem LRules_true (p q r t u v : Int) (w : World) (p0 : -9223372036854775808 ≤ p) (p1 : p ≤ 9223372036854775807) (q0 : -9223372036854775808 ≤ q) (q1 : q ≤ 9223372036854775807)
    (r0 : -9223372036854775808 ≤ r) (r1 : r ≤ 9223372036854775807) (t0 : -9223372036854775808 ≤ t) (t1 : t ≤ 9223372036854775807)
    (u0 : -9223372036854775808 ≤ u) (u1 : u ≤ 9223372036854775807) (v0 : -9223372036854775808 ≤ v) (v1 : v ≤ 9223372036854775807) :
    Calls Try.prog 7 #[.agg #[.int .i64 p, .int .i64 q], .agg #[.int .i64 r, .int .i64 t], .agg #[.int .i64 u, .int .i64 v]] w fun e w' => e = .returned (.bool true) ∧ Below w.heap.size w w' :=
  calls_of_fn (fun _ _ => Try.call7 _ _) rfl rfl (by simp only [WDCs, WDC, WDs, wd_i64, and_true]; omega) (LRules_fn p q r t u v) w
end Go.Proofs.Ytkobebnijkanhaa
