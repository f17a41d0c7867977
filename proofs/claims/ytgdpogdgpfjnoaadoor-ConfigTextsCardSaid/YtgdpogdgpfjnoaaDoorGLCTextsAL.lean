import Derived.Test.YtgdpogdgpfjnoaaDoorGLCTextsAK
import Derived.Test.YtgdpogdgpfjnoaaDoorGLCTextsAJ
import Derived.Laws.Strings
import Derived.Laws.Concat
import Derived.Lib.Strings
set_option linter.all false
namespace Go.Proofs.YtgdpogdgpfjnoaaDoor
open Go.RowKit Go.Sort
theorem rcommon_any (a b : Nat) (w : World) :
    Calls Tryd.prog 56 #[.int .u64 a, .int .u64 b] w fun e w' => e = .returned (.int .u64 (Nat.gcd a b : Nat)) ∧ Below w.heap.size w w' := by
  go_enter Tryd.func56, Tryd.ntmps56
  go_wp2
  go_loopw [0, 1] (fun x y wr => ∃ n m : Nat, x = .int .u64 n ∧ y = .int .u64 m ∧ Hid (Nat.gcd n m = Nat.gcd a b) ∧ Below w.heap.size w wr) (fun _ y _ => (intOf y).toNat)
  case atStart => exact ⟨a, b, rfl, rfl, Lib.hid rfl, Below.refl _ _⟩
  case round =>
    obtain ⟨n, m, rfl, rfl, hg, hb⟩ := hrel
    by_cases h0 : 0 < m
    · have hz : ((m : Int) != 0) = true := by simp; omega
      have hz2 : ((m : Int) == 0) = false := by simp; omega
      go_wp2
      go_quiet (fail)
      go_wp2
      have hlt := Nat.mod_lt n h0
      refine ⟨⟨m, n % m, rfl, by simp, Lib.hid ?_, below_drewN hb _⟩, ?_⟩
      · rw [← hg.out, Nat.gcd_comm n m, Nat.gcd_rec m n, Nat.gcd_comm]
      · show ((n : Int) % (m : Int)).toNat < ((m : Int)).toNat
        omega
    · obtain rfl : m = 0 := by omega
      go_wp2
      go_ret
      refine ⟨ret_int ?_, hb⟩
      rw [← hg.out]
      simp
theorem rsize_any (n : Int) (w : World) (h0 : -9223372036854775808 ≤ n) (h1 : n ≤ 9223372036854775807) :
    Calls Tryd.prog 57 #[.int .i64 n] w fun e w' => e = .returned (.int .u64 (n.natAbs : Nat)) ∧ Below w.heap.size w w' := by
  by_cases hn : n < 0
  · go_enter Tryd.func57, Tryd.ntmps57
    go_wp2_with (first | ((with_reducible refine wp_region_quiet_below ?_ ?_ ?_); kernel_rfl; kernel_rfl; (repeat (go_big_quiet_step (fail))); refine wpQuiet_nil ?_; intro _ hw'; obtain ⟨⟨dq, osq⟩, hw''⟩ := hw'; subst hw''))
    go_ret
    refine ⟨ret_int ?_, Below.refl _ _⟩
    show -(n + 1) + 1 = _
    omega
  · go_enter Tryd.func57, Tryd.ntmps57
    go_wp2_with (first | ((with_reducible refine wp_region_quiet_below ?_ ?_ ?_); kernel_rfl; kernel_rfl; (repeat (go_big_quiet_step (fail))); refine wpQuiet_nil ?_; intro _ hw'; obtain ⟨⟨dq, osq⟩, hw''⟩ := hw'; subst hw''))
    go_ret
    refine ⟨ret_int ?_, Below.refl _ _⟩
    omega
theorem chk_alt (n d : Int) (hd : 1 ≤ d) (hn : n ≠ -9223372036854775808) : chk n d = if Nat.gcd n.natAbs d.toNat ≤ 1 then 0 else 8 := by
  unfold chk
  rw [Nat.gcd_comm]
  split <;> split <;> first | rfl | omega
theorem rcheck_any (n d : Int) (w : World) (h0 : -9223372036854775808 ≤ n) (h1 : n ≤ 9223372036854775807) (h2 : -9223372036854775808 ≤ d) (h3 : d ≤ 9223372036854775807) :
    Calls Tryd.prog 29 #[.agg #[.int .i64 n, .int .i64 d]] w fun e w' => e = .returned (.int .i64 (chk n d)) ∧ Below w.heap.size w w' := by
  by_cases hd : d < 1
  · have hch : chk n d = 8 := by unfold chk; rw [if_pos (.inl hd)]
    rw [hch]
    go_enter Tryd.func29, Tryd.ntmps29
    go_wp2_with (first | ((with_reducible refine wp_region_quiet_below ?_ ?_ ?_); kernel_rfl; kernel_rfl; (repeat (go_big_quiet_step (fail))); refine wpQuiet_nil ?_; intro _ hw'; obtain ⟨⟨dq, osq⟩, hw''⟩ := hw'; subst hw''))
    go_ret
    exact ⟨rfl, (by repeat (first | exact Below.refl _ _ | refine below_reg ?_ _ _ | refine below_alloc ?_ _ | exact below_drewN ?_ _ | assumption))⟩
  · have hdf : decide (d < 1) = false := by simpa using hd
    by_cases hm : n = -9223372036854775808
    · have hch : chk n d = 8 := by unfold chk; rw [if_pos (.inr (.inl hm))]
      rw [hch]
      have hmb : (n == -9223372036854775808) = true := by simpa using hm
      clear hm
      go_enter Tryd.func29, Tryd.ntmps29
      go_wp2_with (first | ((with_reducible refine wp_region_quiet_below ?_ ?_ ?_); kernel_rfl; kernel_rfl; (repeat (go_big_quiet_step (fail))); refine wpQuiet_nil ?_; intro _ hw'; obtain ⟨⟨dq, osq⟩, hw''⟩ := hw'; subst hw''))
      go_ret
      exact ⟨rfl, (by repeat (first | exact Below.refl _ _ | refine below_reg ?_ _ _ | refine below_alloc ?_ _ | exact below_drewN ?_ _ | assumption))⟩
    · have hmb : (n == -9223372036854775808) = false := by simpa using hm
      rw [chk_alt n d (by omega) hm]
      obtain ⟨e, rfl⟩ := Int.eq_ofNat_of_zero_le (show 0 ≤ d by omega)
      rw [Int.toNat_natCast]
      obtain ⟨g, hg⟩ : ∃ g, g = Nat.gcd n.natAbs e := ⟨_, rfl⟩
      have HG := fun w => rcommon_any n.natAbs e w
      have hg0 : 0 < g := by rw [hg]; exact Nat.gcd_pos_of_pos_right _ (by omega)
      rw [← hg] at HG ⊢
      have HGG := Lib.hid HG
      clear hg HG hm
      cases hb : ((g : Int) != 1)
      · rw [if_pos (by simp at hb; omega)]
        go_enter Tryd.func29, Tryd.ntmps29
        go_wp2_with (first | (go_at_call 57; (with_reducible refine cmono ?_ (rsize_any _ _ ?_ ?_)); rotate_left; omega; omega; rintro e w' ⟨rfl, hbc0⟩; obtain ⟨⟨dc0, osc0⟩, rfl⟩ := regrown_of_below hbc0; clear hbc0) | (go_at_call 56; (with_reducible refine cmono ?_ (HGG.out _)); rotate_left; rintro e w' ⟨rfl, hbc1⟩; obtain ⟨⟨dc1, osc1⟩, rfl⟩ := regrown_of_below hbc1; clear hbc1) | ((with_reducible refine wp_region_quiet_below ?_ ?_ ?_); kernel_rfl; kernel_rfl; (repeat (go_big_quiet_step (first | (go_at_call 57; (with_reducible refine Calls.regrown_of (rsize_any _ _ ?_ ?_)); omega; omega) | (go_at_call 56; (with_reducible refine Calls.regrown_of (HGG.out _)))))); refine wpQuiet_nil ?_; intro _ hw'; obtain ⟨⟨dq, osq⟩, hw''⟩ := hw'; subst hw''))
        go_ret
        exact ⟨rfl, (by repeat (first | exact Below.refl _ _ | refine below_reg ?_ _ _ | refine below_alloc ?_ _ | exact below_drewN ?_ _ | assumption))⟩
      · rw [if_neg (by simp at hb; omega)]
        go_enter Tryd.func29, Tryd.ntmps29
        go_wp2_with (first | (go_at_call 57; (with_reducible refine cmono ?_ (rsize_any _ _ ?_ ?_)); rotate_left; omega; omega; rintro e w' ⟨rfl, hbc0⟩; obtain ⟨⟨dc0, osc0⟩, rfl⟩ := regrown_of_below hbc0; clear hbc0) | (go_at_call 56; (with_reducible refine cmono ?_ (HGG.out _)); rotate_left; rintro e w' ⟨rfl, hbc1⟩; obtain ⟨⟨dc1, osc1⟩, rfl⟩ := regrown_of_below hbc1; clear hbc1) | ((with_reducible refine wp_region_quiet_below ?_ ?_ ?_); kernel_rfl; kernel_rfl; (repeat (go_big_quiet_step (first | (go_at_call 57; (with_reducible refine Calls.regrown_of (rsize_any _ _ ?_ ?_)); omega; omega) | (go_at_call 56; (with_reducible refine Calls.regrown_of (HGG.out _)))))); refine wpQuiet_nil ?_; intro _ hw'; obtain ⟨⟨dq, osq⟩, hw''⟩ := hw'; subst hw''))
        go_ret
        exact ⟨rfl, (by repeat (first | exact Below.refl _ _ | refine below_reg ?_ _ _ | refine below_alloc ?_ _ | exact below_drewN ?_ _ | assumption))⟩
theorem rasked_any (n d : Int) (w : World) (h0 : -9223372036854775808 ≤ n) (h1 : n ≤ 9223372036854775807) (h2 : -9223372036854775808 ≤ d) (h3 : d ≤ 9223372036854775807) :
    Calls Tryd.prog 50 #[.agg #[.int .i64 n, .int .i64 d]] w fun e w' => e = .returned (.int .i64 (askd n d)) ∧ Below w.heap.size w w' := by
  cases ha : decide ((1073741824 : Int) < n) <;> cases hb : decide (n < -1073741824) <;> cases hc : decide (1024 < d)
  all_goals
    go_enter Tryd.func50, Tryd.ntmps50
    go_wp2_with (first | (go_at_call 29; (with_reducible refine cmono ?_ (rcheck_any _ _ _ ?_ ?_ ?_ ?_)); rotate_left; omega; omega; omega; omega; rintro e w' ⟨rfl, hbc0⟩; obtain ⟨⟨dc0, osc0⟩, rfl⟩ := regrown_of_below hbc0; clear hbc0) | ((with_reducible refine wp_region_quiet_below ?_ ?_ ?_); kernel_rfl; kernel_rfl; (repeat (go_big_quiet_step (first | (go_at_call 29; (with_reducible refine Calls.regrown_of (rcheck_any _ _ _ ?_ ?_ ?_ ?_)); omega; omega; omega; omega)))); refine wpQuiet_nil ?_; intro _ hw'; obtain ⟨⟨dq, osq⟩, hw''⟩ := hw'; subst hw''))
    all_goals (go_ret; refine ⟨ret_int ?_, (by repeat (first | exact Below.refl _ _ | refine below_reg ?_ _ _ | refine below_alloc ?_ _ | exact below_drewN ?_ _ | assumption))⟩)
    all_goals (simp only [bne_iff_ne, bne_eq_false_iff_eq, decide_eq_true_eq, decide_eq_false_iff_not, ne_eq] at *)
    all_goals first | (exfalso; omega) | skip
    all_goals (unfold askd; (first | rw [if_pos (by omega)] | rw [if_neg (by omega)]))
    all_goals (first | rfl | (rw [if_pos (by omega)]; done) | (rw [if_neg (by omega)]; done))
end Go.Proofs.YtgdpogdgpfjnoaaDoor

namespace Go.Proofs.YtgdpogdgpfjnoaaDoor
open Go.RowKit
end Go.Proofs.YtgdpogdgpfjnoaaDoor

namespace Go.Proofs.YtgdpogdgpfjnoaaDoor
open Go.RowKit Go.Sort
end Go.Proofs.YtgdpogdgpfjnoaaDoor

namespace Go.Proofs.YtgdpogdgpfjnoaaDoor
open Go.RowKit Go.Sort
end Go.Proofs.YtgdpogdgpfjnoaaDoor

namespace Go.Proofs.YtgdpogdgpfjnoaaDoor
open Go.RowKit
end Go.Proofs.YtgdpogdgpfjnoaaDoor

namespace Go.Proofs.YtgdpogdgpfjnoaaDoor
open Go.RowKit Go.Sort
end Go.Proofs.YtgdpogdgpfjnoaaDoor

namespace Go.Proofs.YtgdpogdgpfjnoaaDoor
open Go.RowKit Go.Sort
end Go.Proofs.YtgdpogdgpfjnoaaDoor

namespace Go.Proofs.YtgdpogdgpfjnoaaDoor
open Go.RowKit
def qv (n d : Int) : Rat := mkRat n d.toNat
theorem chk_iff (n d : Int) : chk n d = 0 ↔ 1 ≤ d ∧ n ≠ -9223372036854775808 ∧ n.natAbs.Coprime d.toNat := by
  unfold chk Nat.Coprime
  rw [Nat.gcd_comm n.natAbs]
  have hg : 1 ≤ d → 0 < Nat.gcd d.toNat n.natAbs := fun h => Nat.gcd_pos_of_pos_left _ (by omega)
  split
  · rename_i h
    constructor
    · intro h'; omega
    · rintro ⟨h1, h2, h3⟩; exfalso; omega
  · rename_i h
    have h1 : 1 ≤ d := by omega
    have := hg h1
    exact ⟨fun _ => ⟨h1, by omega, by omega⟩, fun _ => rfl⟩
def outQ (q : Rat) : Int × Int × Int := if q.num.natAbs ≤ 9223372036854775807 ∧ q.den ≤ 9223372036854775807 then (q.num, q.den, 0) else (0, 0, 16)
end Go.Proofs.YtgdpogdgpfjnoaaDoor

namespace Go.Proofs.YtgdpogdgpfjnoaaDoor
open Go.RowKit Go.Sort
end Go.Proofs.YtgdpogdgpfjnoaaDoor

namespace Go.Proofs.YtgdpogdgpfjnoaaDoor
open Go.RowKit Go.Sort
end Go.Proofs.YtgdpogdgpfjnoaaDoor

namespace Go.Proofs.YtgdpogdgpfjnoaaDoor
open Go.RowKit
end Go.Proofs.YtgdpogdgpfjnoaaDoor

namespace Go.Proofs.YtgdpogdgpfjnoaaDoor
open Go.RowKit Go.Sort Sx
abbrev i64 (n : Int) : D := .v (.int .i64 n)
abbrev u64 (n : Int) : D := .v (.int .u64 n)
abbrev bol (b : Bool) : D := .v (.bool b)
theorem wd_i64 {n : Int} : WD (i64 n) ↔ -9223372036854775808 ≤ n ∧ n ≤ 9223372036854775807 := WD_v
theorem wd1 {n d : Int} (h : WDCs [.agg [i64 n, i64 d]]) : -9223372036854775808 ≤ n ∧ n ≤ 9223372036854775807 ∧ -9223372036854775808 ≤ d ∧ d ≤ 9223372036854775807 := by
  simp only [WDCs, WDC, WDs, wd_i64] at h; omega
theorem askd_rng (n d : Int) : 0 ≤ askd n d ∧ askd n d ≤ 8 := by
  unfold askd
  rcases chk_08 n d with h | h <;> rw [h] <;> simp <;> (try split) <;> omega
abbrev ret1 (x : Int) : DV := .c (.one (i64 x))
theorem check_fn (n d : Int) : FnOK Tryd.prog 43 [.agg [i64 n, i64 d]] (ret1 (chk n d)) := by
  refine fn_of_calls (fun _ _ => Tryd.call43 _ _) rfl rfl (fun h => ?_) (fun h w => ?_)
  · simp only [WDV, WDCs, WDC, WDs, wd_i64, and_true]
    rcases chk_08 n d with h | h <;> omega
  · obtain ⟨_, _, _, _⟩ := wd1 h
    exact check_any n d w (by omega) (by omega) (by omega) (by omega)
theorem asked_fn (n d : Int) : FnOK Tryd.prog 48 [.agg [i64 n, i64 d]] (ret1 (askd n d)) := by
  refine fn_of_calls (fun _ _ => Tryd.call48 _ _) rfl rfl (fun h => ?_) (fun h w => ?_)
  · simp only [WDV, WDCs, WDC, WDs, wd_i64, and_true]
    have := askd_rng n d
    omega
  · obtain ⟨_, _, _, _⟩ := wd1 h
    exact asked_any n d w (by omega) (by omega) (by omega) (by omega)
theorem rcheck_fn (n d : Int) : FnOK Tryd.prog 29 [.agg [i64 n, i64 d]] (ret1 (chk n d)) := by
  refine fn_of_calls (fun _ _ => Tryd.call29 _ _) rfl rfl (fun h => ?_) (fun h w => ?_)
  · simp only [WDV, WDCs, WDC, WDs, wd_i64, and_true]
    rcases chk_08 n d with h | h <;> omega
  · obtain ⟨_, _, _, _⟩ := wd1 h
    exact rcheck_any n d w (by omega) (by omega) (by omega) (by omega)
theorem rasked_fn (n d : Int) : FnOK Tryd.prog 50 [.agg [i64 n, i64 d]] (ret1 (askd n d)) := by
  refine fn_of_calls (fun _ _ => Tryd.call50 _ _) rfl rfl (fun h => ?_) (fun h w => ?_)
  · simp only [WDV, WDCs, WDC, WDs, wd_i64, and_true]
    have := askd_rng n d
    omega
  · obtain ⟨_, _, _, _⟩ := wd1 h
    exact rasked_any n d w (by omega) (by omega) (by omega) (by omega)
end Go.Proofs.YtgdpogdgpfjnoaaDoor

namespace Go.Proofs.YtgdpogdgpfjnoaaDoor
open Go.RowKit Go.Sort Sx
end Go.Proofs.YtgdpogdgpfjnoaaDoor

namespace Go.Proofs.YtgdpogdgpfjnoaaDoor
open Go.RowKit Go.Sort Sx
abbrev pt (i a b : Int) : DC := .agg [i64 i, i64 a, i64 b]
def far (n : Int) : Bool := decide (n < -1048576 ∨ n > 1048576)
theorem far_t {n : Int} {A B : Prop} (h1 : n < -1048576 ∨ 1048576 < n → A) (h2 : -1048576 ≤ n ∧ n ≤ 1048576 → B) : br (far n) A B := brd h1 fun h => h2 (by omega)
theorem far_y {n : Int} {A B : Prop} (e : n < -1048576 ∨ 1048576 < n) (h : A) : br (far n) A B := brd_t e h
theorem far_n {n : Int} {A B : Prop} (e : -1048576 ≤ n ∧ n ≤ 1048576) (h : B) : br (far n) A B := brd_f (by omega) h
def cpt (i a b : Int) : Int := if 0 ≤ i ∧ i ≤ 65535 ∧ -1048576 ≤ a ∧ a ≤ 1048576 ∧ -1048576 ≤ b ∧ b ≤ 1048576 then 0 else 8
theorem cpt_08 (i a b : Int) : cpt i a b = 0 ∨ cpt i a b = 8 := by unfold cpt; split <;> simp
theorem cpt_ok {i a b : Int} (h : cpt i a b = 0) : 0 ≤ i ∧ i ≤ 65535 ∧ -1048576 ≤ a ∧ a ≤ 1048576 ∧ -1048576 ≤ b ∧ b ≤ 1048576 := by
  unfold cpt at h; split at h
  · assumption
  · cases h
theorem kfar_fnd (n : Int) : FnD Tryd.prog 71 [.one (i64 n)] (.c (.one (bol (far n)))) := by
  refine fn_okD (by kernel_rfl) ty_okD rfl Tryd.func71 rfl (fun _ _ => Tryd.call71 _ _) rfl ?_
  intro hw
  repeat' ((conv => whnf); first | (with_reducible first | refine br_t ?_ | refine br_f ?_ | refine zd ?_ | refine za ?_ | refine zg ?_) | refine zp ?_ | refine zq ?_ | (with_reducible first | refine bc (fun h => ?_) (fun h => ?_) | refine zt ?_ | refine zf ?_ | refine br_i (fun h => ?_) (fun h => ?_)) | refine zg ?_ | refine zi ?_ | refine zb ?_)
  all_goals conv => whnf
  all_goals
    refine r_bool ?_
    unfold far
    first
    | exact (decide_eq_true (by omega)).symm
    | (have e : (n > 1048576) = (n < -1048576 ∨ n > 1048576) := propext ⟨.inr, fun h => by omega⟩
       exact decide_eq_decide.2 (by omega))
theorem kCheck_fnd (i a b : Int) : FnD Tryd.prog 52 [pt i a b] (ret1 (cpt i a b)) := by
  refine fn_okD (by kernel_rfl) ty_okD rfl Tryd.func52 rfl (fun _ _ => Tryd.call52 _ _) rfl ?_
  intro hw
  repeat' ((conv => whnf); first | (with_reducible first | refine br_t ?_ | refine br_f ?_ | refine zd ?_ | refine za ?_ | refine zg ?_ | refine xi (kfar_fnd _) ?_) | first | ((with_reducible refine far_y ?_ ?_); omega) | ((with_reducible refine far_n ?_ ?_); omega) | (with_reducible refine far_t (fun h => ?_) (fun h => ?_)) | refine zp ?_ | refine zq ?_ | (with_reducible first | refine bc (fun h => ?_) (fun h => ?_) | refine zt ?_ | refine zf ?_ | refine br_i (fun h => ?_) (fun h => ?_)) | refine zg ?_ | refine zi ?_ | refine zb ?_)
  all_goals conv => whnf
  all_goals
    refine r_int ?_
    unfold cpt
    first
    | rw [if_pos (by omega)]
    | rw [if_neg (by omega)]
theorem kCheck_fn (i a b : Int) : FnOK Tryd.prog 52 [pt i a b] (ret1 (cpt i a b)) := (kCheck_fnd i a b).ok
theorem kkCheck_fn (i a b : Int) : FnOK Tryd.prog 53 [pt i a b] (ret1 (cpt i a b)) := by
  refine fn_ok (by kernel_rfl) ty_ok Tryd.func53 rfl (fun _ _ => Tryd.call53 _ _) rfl ?_
  intro hw
  repeat' ((conv => whnf); first | (with_reducible first | refine br_t ?_ | refine br_f ?_ | refine za ?_ | refine zg ?_) | refine zp ?_ | refine zq ?_ | (with_reducible first | refine bc (fun h => ?_) (fun h => ?_) | refine zt ?_ | refine zf ?_ | refine br_i (fun h => ?_) (fun h => ?_)) | refine zg ?_ | refine zi ?_ | refine zb ?_)
  all_goals conv => whnf
  all_goals
    refine r_int ?_
    unfold cpt
    first
    | rw [if_pos (by omega)]
    | rw [if_neg (by omega)]
end Go.Proofs.YtgdpogdgpfjnoaaDoor

namespace Go.Proofs.YtgdpogdgpfjnoaaDoor
open Go.RowKit Go.Sort Sx
end Go.Proofs.YtgdpogdgpfjnoaaDoor

namespace Go.Proofs.YtgdpogdgpfjnoaaDoor
open Go.RowKit Go.Sort Sx
def orN (a b : Int) : Int := if a = 0 then b else a
end Go.Proofs.YtgdpogdgpfjnoaaDoor

namespace Go.Proofs.YtgdpogdgpfjnoaaDoor
open Go.RowKit
end Go.Proofs.YtgdpogdgpfjnoaaDoor

namespace Go.Proofs.YtgdpogdgpfjnoaaDoor
open Go.RowKit Go.Sort Sx
end Go.Proofs.YtgdpogdgpfjnoaaDoor

namespace Go.Proofs.YtgdpogdgpfjnoaaDoor
open Go.RowKit Go.Sort Sx
end Go.Proofs.YtgdpogdgpfjnoaaDoor

namespace Go.Proofs.YtgdpogdgpfjnoaaDoor
open Go.RowKit Go.Sort Sx
end Go.Proofs.YtgdpogdgpfjnoaaDoor

namespace Go.Proofs.YtgdpogdgpfjnoaaDoor
open Go.RowKit Go.Sort Sx
structure Pt where
  id : Int
  a : Int
  b : Int
  deriving DecidableEq, Inhabited
def Pt.c (p : Pt) : List D := [i64 p.id, i64 p.a, i64 p.b]
abbrev Pt.dc (p : Pt) : DC := pt p.id p.a p.b
abbrev pts (l : List Pt) : D := .list 3 (l.map Pt.c)
abbrev fld (l : List Pt) : DC := .agg [pts l]
def Pt.chk (p : Pt) : Int := cpt p.id p.a p.b
def incr : List Pt → Bool
  | p :: q :: l => decide (p.id < q.id) && incr (q :: l)
  | _ => true
def fchk (l : List Pt) : Int := if 64 < l.length then 4 else if l.all (fun p => p.chk == 0) then (if incr l then 0 else 32) else 8
theorem Pt.chk_08 (p : Pt) : p.chk = 0 ∨ p.chk = 8 := cpt_08 p.id p.a p.b
theorem pts_get {l : List Pt} {i : Nat} (h : i < l.length) : (l.map Pt.c)[((i : Nat) : Int).toNat]? = some [i64 l[i].id, i64 l[i].a, i64 l[i].b] := by
  rw [Int.toNat_natCast, List.getElem?_map, List.getElem?_eq_getElem h]; rfl
theorem pts_get' {l : List Pt} {i : Nat} {j : Int} (h : i < l.length) (e : j.toNat = i) : (l.map Pt.c)[j.toNat]? = some [i64 l[i].id, i64 l[i].a, i64 l[i].b] := by
  rw [e, List.getElem?_map, List.getElem?_eq_getElem h]; rfl
theorem wd_pts {l : List Pt} (h : WD (pts l)) : l.length ≤ 9223372036854775807 ∧ ∀ p ∈ l, (-9223372036854775808 ≤ p.id ∧ p.id ≤ 9223372036854775807) ∧ (-9223372036854775808 ≤ p.a ∧ p.a ≤ 9223372036854775807) ∧ (-9223372036854775808 ≤ p.b ∧ p.b ≤ 9223372036854775807) := by
  obtain ⟨h1, _, h3⟩ := WD_list.1 h
  refine ⟨by simpa using h1, fun p hp => ?_⟩
  have h4 := h3 p.c (List.mem_map_of_mem hp)
  exact ⟨wd_i64.1 (h4 _ (by simp [Pt.c])), wd_i64.1 (h4 _ (by simp [Pt.c])), wd_i64.1 (h4 _ (by simp [Pt.c]))⟩
theorem all_take_succ {l : List Pt} {f : Pt → Bool} {i : Nat} (h : i < l.length) : (l.take (i + 1)).all f = ((l.take i).all f && f l[i]) := by
  rw [List.take_succ_eq_append_getElem h, List.all_append]; simp
theorem incr_iff : ∀ {l : List Pt}, incr l = true ↔ ∀ i (h : i + 1 < l.length), l[i].id < l[i + 1].id
  | [] => by simp [incr]
  | [p] => by simp [incr]
  | p :: q :: l => by
    rw [incr, Bool.and_eq_true, decide_eq_true_eq, incr_iff]
    constructor
    · rintro ⟨h1, h2⟩ i h
      cases i with
      | zero => exact h1
      | succ i => exact h2 i (by simpa using h)
    · exact fun h => ⟨h 0 (by simp), fun i hi => h (i + 1) (by simpa using hi)⟩
theorem fCheck_fn (l : List Pt) : FnOK Tryd.prog 49 [fld l] (ret1 (fchk l)) := by
  refine fn_ok (by kernel_rfl) ty_ok Tryd.func49 rfl (fun _ _ => Tryd.call49 _ _) rfl ?_
  intro hw
  simp only [WDCs, WDC, WDs] at hw
  obtain ⟨w1, w2⟩ := wd_pts hw.1.1
  repeat' ((conv => whnf); first | (with_reducible first | refine br_t ?_ | refine br_f ?_ | refine za ?_ | refine zg ?_) | rw [List.length_map] | refine zp ?_ | refine zq ?_ | (with_reducible first | refine bc (fun h => ?_) (fun h => ?_) | refine zt ?_ | refine zf ?_ | refine br_i (fun h => ?_) (fun h => ?_)) | refine zg ?_ | refine zi ?_ | refine zb ?_)
  · conv => whnf
    unfold fchk
    rw [if_pos (by omega)]
  unfold fchk
  rw [if_neg (by omega)]
  refine loop_J (by kernel_rfl) ty_ok (σ := Nat) (fun i => [(15, sV (.int .i64 i))]) (fun _ => []) (fun i => i ≤ l.length ∧ (l.take i).all (fun p => p.chk == 0) = true) (fun i => l.length - i) 0 ⟨by omega, by simp⟩ ?_ ?_
  · (conv => whnf); exact zent
  rintro i ⟨hi, hI⟩
  rcases Nat.lt_or_ge i l.length with hlt | hge
  · have hel := pts_get hlt
    have HC := kCheck_fn l[i].id l[i].a l[i].b
    rcases Pt.chk_08 l[i] with hc | hc
    · unfold Pt.chk at hc
      rw [hc] at HC
      repeat' ((conv => whnf); first | (with_reducible first | refine br_t ?_ | refine br_f ?_ | refine za ?_ | refine zg ?_ | refine xi (HC) ?_) | rw [List.length_map] | refine zp ?_ | refine zq ?_ | (with_reducible first | refine bc (fun h => ?_) (fun h => ?_) | refine zt ?_ | refine zf ?_ | refine br_i (fun h => ?_) (fun h => ?_)) | refine zg ?_ | refine zi ?_ | refine zb ?_)
      all_goals conv => whnf
      refine ⟨i + 1, ⟨by omega, ?_⟩, ?_, by omega⟩
      · rw [all_take_succ hlt, hI]; simp [Pt.chk, hc]
      · (conv => whnf); exact zent
    · have hn : l.all (fun p => p.chk == 0) = false := by
        rw [Bool.eq_false_iff]
        intro h
        have := List.all_eq_true.1 h l[i] (List.getElem_mem hlt)
        rw [hc] at this; simp at this
      unfold Pt.chk at hc
      rw [hc] at HC
      repeat' ((conv => whnf); first | (with_reducible first | refine br_t ?_ | refine br_f ?_ | refine za ?_ | refine zg ?_ | refine xi (HC) ?_) | rw [List.length_map] | refine zp ?_ | refine zq ?_ | (with_reducible first | refine bc (fun h => ?_) (fun h => ?_) | refine zt ?_ | refine zf ?_ | refine br_i (fun h => ?_) (fun h => ?_)) | refine zg ?_ | refine zi ?_ | refine zb ?_)
      all_goals conv => whnf
      rw [hn]; rfl
  · have hall : l.all (fun p => p.chk == 0) = true := by rw [List.take_of_length_le hge] at hI; exact hI
    rw [hall, if_pos rfl]
    repeat' ((conv => whnf); first | (with_reducible first | refine br_t ?_ | refine br_f ?_ | refine za ?_ | refine zg ?_) | rw [List.length_map] | refine zp ?_ | refine zq ?_ | (with_reducible first | refine bc (fun h => ?_) (fun h => ?_) | refine zt ?_ | refine zf ?_ | refine br_i (fun h => ?_) (fun h => ?_)) | refine zg ?_ | refine zi ?_ | refine zb ?_)
    refine loop_J (by kernel_rfl) ty_ok (σ := Nat) (fun i => [(28, sV (.int .i64 i))]) (fun _ => []) (fun i => i ≤ l.length ∧ ∀ j (h : j + 1 < l.length), j + 1 < i → l[j].id < l[j + 1].id) (fun i => l.length - i) 0 ⟨by omega, fun j _ h => by omega⟩ ?_ ?_
    · (conv => whnf); exact zent
    rintro j ⟨hj, hJ⟩
    rcases Nat.lt_or_ge j l.length with hjlt | hjge
    · have hel := pts_get hjlt
      rcases Nat.eq_zero_or_pos j with h0 | h0
      · subst h0
        repeat' ((conv => whnf); first | (with_reducible first | refine br_t ?_ | refine br_f ?_ | refine za ?_ | refine zg ?_) | rw [List.length_map] | refine zp ?_ | refine zq ?_ | (with_reducible first | refine bc (fun h => ?_) (fun h => ?_) | refine zt ?_ | refine zf ?_ | refine br_i (fun h => ?_) (fun h => ?_)) | refine zg ?_ | refine zi ?_ | refine zb ?_)
        all_goals conv => whnf
        refine ⟨1, ⟨by omega, fun k _ h => by omega⟩, ?_, by omega⟩
        (conv => whnf); exact zent
      · have hel2 := pts_get' (l := l) (i := j - 1) (j := IntKind.i64.wrap ((j : Int) - 1)) (by omega) (by rw [IntWalk.i64_in _ (by omega)]; omega)
        have hw1 : IntKind.i64.wrap ((j : Int) - 1) = ((j - 1 : Nat) : Int) := by rw [IntWalk.i64_in _ (by omega)]; omega
        repeat' ((conv => whnf); first | (with_reducible first | refine br_t ?_ | refine br_f ?_ | refine za ?_ | refine zg ?_) | rw [List.length_map] | refine And.intro (by rw [hw1]; omega) ?_ | refine zp ?_ | refine zq ?_ | (with_reducible first | refine bc (fun h => ?_) (fun h => ?_) | refine zt ?_ | refine zf ?_ | refine br_i (fun h => ?_) (fun h => ?_)) | refine zg ?_ | refine zi ?_ | refine zb ?_)
        all_goals conv => whnf
        · rename_i h
          have hf : incr l = false := by
            rw [Bool.eq_false_iff, ne_eq, incr_iff]
            intro hh
            have := hh (j - 1) (by omega)
            rw [show l[j - 1 + 1]'(by omega) = l[j] from getElem_congr rfl (by omega) _] at this
            omega
          rw [hf]; rfl
        · rename_i h
          refine ⟨j + 1, ⟨by omega, fun k hk hk2 => ?_⟩, ?_, by omega⟩
          · rcases Nat.lt_or_ge (k + 1) j with h1 | h1
            · exact hJ k hk h1
            · have e : k = j - 1 := by omega
              subst e
              rw [show l[j - 1 + 1]'hk = l[j] from getElem_congr rfl (by omega) _]
              omega
          · (conv => whnf); exact zent
    · have ht : incr l = true := incr_iff.2 fun k hk => hJ k hk (by omega)
      repeat' ((conv => whnf); first | (with_reducible first | refine br_t ?_ | refine br_f ?_ | refine za ?_ | refine zg ?_) | rw [List.length_map] | refine zp ?_ | refine zq ?_ | (with_reducible first | refine bc (fun h => ?_) (fun h => ?_) | refine zt ?_ | refine zf ?_ | refine br_i (fun h => ?_) (fun h => ?_)) | refine zg ?_ | refine zi ?_ | refine zb ?_)
      all_goals conv => whnf
      all_goals
        rw [ht]; rfl
theorem rfCheck_fn (l : List Pt) : FnOK Tryd.prog 51 [fld l] (ret1 (fchk l)) := by
  refine fn_ok (by kernel_rfl) ty_ok Tryd.func51 rfl (fun _ _ => Tryd.call51 _ _) rfl ?_
  intro hw
  simp only [WDCs, WDC, WDs] at hw
  obtain ⟨w1, w2⟩ := wd_pts hw.1.1
  repeat' ((conv => whnf); first | (with_reducible first | refine br_t ?_ | refine br_f ?_ | refine za ?_ | refine zg ?_) | rw [List.length_map] | refine zp ?_ | refine zq ?_ | (with_reducible first | refine bc (fun h => ?_) (fun h => ?_) | refine zt ?_ | refine zf ?_ | refine br_i (fun h => ?_) (fun h => ?_)) | refine zg ?_ | refine zi ?_ | refine zb ?_)
  · conv => whnf
    unfold fchk
    rw [if_pos (by omega)]
  unfold fchk
  rw [if_neg (by omega)]
  refine loop_J (by kernel_rfl) ty_ok (σ := Nat) (fun i => [(3, sV (.int .i64 i))]) (fun _ => []) (fun i => i ≤ l.length ∧ (l.take i).all (fun p => p.chk == 0) = true) (fun i => l.length - i) 0 ⟨by omega, by simp⟩ ?_ ?_
  · (conv => whnf); exact zent
  rintro i ⟨hi, hI⟩
  rcases Nat.lt_or_ge i l.length with hlt | hge
  · have hel := pts_get hlt
    have HC := kkCheck_fn l[i].id l[i].a l[i].b
    rcases Pt.chk_08 l[i] with hc | hc
    · unfold Pt.chk at hc
      rw [hc] at HC
      repeat' ((conv => whnf); first | (with_reducible first | refine br_t ?_ | refine br_f ?_ | refine za ?_ | refine zg ?_ | refine xi (HC) ?_) | rw [List.length_map] | refine zp ?_ | refine zq ?_ | (with_reducible first | refine bc (fun h => ?_) (fun h => ?_) | refine zt ?_ | refine zf ?_ | refine br_i (fun h => ?_) (fun h => ?_)) | refine zg ?_ | refine zi ?_ | refine zb ?_)
      all_goals conv => whnf
      refine ⟨i + 1, ⟨by omega, ?_⟩, ?_, by omega⟩
      · rw [all_take_succ hlt, hI]; simp [Pt.chk, hc]
      · (conv => whnf); exact zent
    · have hn : l.all (fun p => p.chk == 0) = false := by
        rw [Bool.eq_false_iff]
        intro h
        have := List.all_eq_true.1 h l[i] (List.getElem_mem hlt)
        rw [hc] at this; simp at this
      unfold Pt.chk at hc
      rw [hc] at HC
      repeat' ((conv => whnf); first | (with_reducible first | refine br_t ?_ | refine br_f ?_ | refine za ?_ | refine zg ?_ | refine xi (HC) ?_) | rw [List.length_map] | refine zp ?_ | refine zq ?_ | (with_reducible first | refine bc (fun h => ?_) (fun h => ?_) | refine zt ?_ | refine zf ?_ | refine br_i (fun h => ?_) (fun h => ?_)) | refine zg ?_ | refine zi ?_ | refine zb ?_)
      all_goals conv => whnf
      rw [hn]; rfl
  · have hall : l.all (fun p => p.chk == 0) = true := by rw [List.take_of_length_le hge] at hI; exact hI
    rw [hall, if_pos rfl]
    repeat' ((conv => whnf); first | (with_reducible first | refine br_t ?_ | refine br_f ?_ | refine za ?_ | refine zg ?_) | rw [List.length_map] | refine zp ?_ | refine zq ?_ | (with_reducible first | refine bc (fun h => ?_) (fun h => ?_) | refine zt ?_ | refine zf ?_ | refine br_i (fun h => ?_) (fun h => ?_)) | refine zg ?_ | refine zi ?_ | refine zb ?_)
    refine loop_J (by kernel_rfl) ty_ok (σ := Nat) (fun i => [(4, sV (.int .i64 ((i + 1 : Nat) : Int)))]) (fun _ => []) (fun i => i ≤ l.length ∧ ∀ j (h : j + 1 < l.length), j < i → l[j].id < l[j + 1].id) (fun i => l.length - i) 0 ⟨by omega, fun j _ h => by omega⟩ ?_ ?_
    · (conv => whnf); exact zent
    rintro j ⟨hj, hJ⟩
    rcases Nat.lt_or_ge (j + 1) l.length with hjlt | hjge
    · have hel := pts_get hjlt
      have hel2 := pts_get' (l := l) (i := j) (j := IntKind.i64.wrap (((j + 1 : Nat) : Int) - 1)) (by omega) (by rw [IntWalk.i64_in _ (by omega)]; omega)
      have hw1 : IntKind.i64.wrap (((j + 1 : Nat) : Int) - 1) = (j : Int) := by rw [IntWalk.i64_in _ (by omega)]; omega
      repeat' ((conv => whnf); first | (with_reducible first | refine br_t ?_ | refine br_f ?_ | refine za ?_ | refine zg ?_) | rw [List.length_map] | refine And.intro (by rw [hw1]; omega) ?_ | refine zp ?_ | refine zq ?_ | (with_reducible first | refine bc (fun h => ?_) (fun h => ?_) | refine zt ?_ | refine zf ?_ | refine br_i (fun h => ?_) (fun h => ?_)) | refine zg ?_ | refine zi ?_ | refine zb ?_)
      all_goals conv => whnf
      · rename_i h
        have hf : incr l = false := by
          rw [Bool.eq_false_iff, ne_eq, incr_iff]
          intro hh
          have := hh j (by omega)
          omega
        rw [hf]; rfl
      · rename_i h
        refine ⟨j + 1, ⟨by omega, fun k hk hk2 => ?_⟩, ?_, by omega⟩
        · rcases Nat.lt_or_ge k j with h1 | h1
          · exact hJ k hk h1
          · have e : k = j := by omega
            subst e
            omega
        · (conv => whnf); exact zent
    · have ht : incr l = true := incr_iff.2 fun k hk => hJ k hk (by omega)
      repeat' ((conv => whnf); first | (with_reducible first | refine br_t ?_ | refine br_f ?_ | refine za ?_ | refine zg ?_) | rw [List.length_map] | refine zp ?_ | refine zq ?_ | (with_reducible first | refine bc (fun h => ?_) (fun h => ?_) | refine zt ?_ | refine zf ?_ | refine br_i (fun h => ?_) (fun h => ?_)) | refine zg ?_ | refine zi ?_ | refine zb ?_)
      all_goals conv => whnf
      all_goals
        rw [ht]; rfl
end Go.Proofs.YtgdpogdgpfjnoaaDoor

namespace Go.Proofs.YtgdpogdgpfjnoaaDoor
open Go Go.RowKit Sx
theorem fits_point {ds : List D} (h : Fits shPoint ds) : ∃ p : Pt, ds = p.c := by
  obtain ⟨_, _, rfl, ⟨n, rfl⟩, _, _, rfl, ⟨m, rfl⟩, _, _, rfl, ⟨k, rfl⟩, rfl⟩ := h
  exact ⟨⟨n, m, k⟩, rfl⟩
theorem fits_pts {ds : List D} (h : Fits (.sl 3 shPoint) ds) : ∃ l : List Pt, ds = [pts l] := by
  obtain ⟨l, rfl, h⟩ := h
  obtain ⟨l', rfl⟩ := exists_map (f := Pt.c) fun x hx => fits_point (h x hx)
  exact ⟨l', rfl⟩
theorem fits_field {ds : List D} (h : Fits shField ds) : ∃ l : List Pt, ds = [pts l] := by
  obtain ⟨_, _, rfl, h, rfl⟩ := h
  obtain ⟨l, rfl⟩ := fits_pts h
  exact ⟨l, rfl⟩
end Go.Proofs.YtgdpogdgpfjnoaaDoor

namespace Go.Proofs.YtgdpogdgpfjnoaaDoor
open Go.RowKit Go.Sort Sx
def has (l : List Pt) (id : Int) : Bool := l.any fun p => p.id == id
end Go.Proofs.YtgdpogdgpfjnoaaDoor

namespace Go.Proofs.YtgdpogdgpfjnoaaDoor
open Go.RowKit Go.Sort Sx
theorem fchk_ok {l : List Pt} (h : fchk l = 0) : l.length ≤ 64 ∧ (∀ p ∈ l, p.chk = 0) ∧ incr l = true := by
  unfold fchk at h
  split at h
  · omega
  · split at h
    · rename_i h1 h2
      split at h
      · rename_i h3
        exact ⟨by omega, fun p hp => by simpa using List.all_eq_true.1 h2 p hp, h3⟩
      · omega
    · omega
def great (l : List Pt) : Bool := decide (16 < l.length ∧ l.length < 64 ∨ 70 < l.length)
theorem rfGreat_fn (l : List Pt) : FnOK Tryd.prog 8 [fld l] (.c (.one (bol (great l)))) := by
  refine fn_ok (by kernel_rfl) ty_ok Tryd.func8 rfl (fun _ _ => Tryd.call8 _ _) rfl ?_
  intro hw
  simp only [WDCs, WDC, WDs] at hw
  obtain ⟨w1, w2⟩ := wd_pts hw.1.1
  unfold great
  repeat' ((conv => whnf); first | (with_reducible first | refine br_t ?_ | refine br_f ?_ | refine za ?_ | refine zg ?_) | rw [List.length_map] | refine zp ?_ | refine zq ?_ | (with_reducible first | refine bc (fun h => ?_) (fun h => ?_) | refine zt ?_ | refine zf ?_ | refine br_i (fun h => ?_) (fun h => ?_)) | refine zg ?_ | refine zi ?_ | refine zb ?_)
  all_goals conv => whnf
  all_goals
    refine r_bool ?_
    first
    | rfl
    | (simp only [decide_eq_decide, Bool.true_eq, Bool.false_eq, decide_eq_true_eq, decide_eq_false_iff_not]; omega)
    | (rw [eq_comm]; simp only [decide_eq_decide, decide_eq_true_eq, decide_eq_false_iff_not]; omega)
end Go.Proofs.YtgdpogdgpfjnoaaDoor

namespace Go.Proofs.YtgdpogdgpfjnoaaDoor
open Go.RowKit Go.Sort Sx
theorem Pt.eq_iff {p q : Pt} : p = q ↔ p.id = q.id ∧ p.a = q.a ∧ p.b = q.b := by
  cases p; cases q; simp
theorem take_all_eq {α : Type} {a b : List α} {i : Nat} (h : a.take i = b.take i) (hl : a.length = b.length) (hi : a.length ≤ i) : a = b := by
  rw [List.take_of_length_le hi, List.take_of_length_le (by omega)] at h; exact h
theorem take_succ_eq {α : Type} {a b : List α} {i : Nat} (h : a.take i = b.take i) (h1 : i < a.length) (h2 : i < b.length) (e : a[i] = b[i]) : a.take (i + 1) = b.take (i + 1) := by
  rw [List.take_succ_eq_append_getElem h1, List.take_succ_eq_append_getElem h2, h, e]
theorem ne_of_get {α : Type} {a b : List α} {i : Nat} (h1 : i < a.length) (h2 : i < b.length) (e : a[i] ≠ b[i]) : a ≠ b := by
  rintro rfl; exact e rfl
structure Md where
  n : Int
  d : Int
  l : List Pt
  deriving DecidableEq, Inhabited
def Md.c (m : Md) : List D := [i64 m.n, i64 m.d, pts m.l]
abbrev Md.dc (m : Md) : DC := .agg [i64 m.n, i64 m.d, pts m.l]
def mchk (m : Md) : Int := if askd m.n m.d = 0 ∧ fchk m.l = 0 then 0 else 8
theorem mchk_08 (m : Md) : mchk m = 0 ∨ mchk m = 8 := by unfold mchk; split <;> simp
theorem mchk_ok {m : Md} (h : mchk m = 0) : askd m.n m.d = 0 ∧ fchk m.l = 0 := by
  unfold mchk at h
  split at h
  · assumption
  · omega
theorem mchk_orN (m : Md) : mchk m = if orN (askd m.n m.d) (fchk m.l) = 0 then 0 else 8 := by
  unfold mchk orN
  by_cases h : askd m.n m.d = 0 <;> simp [h]
theorem rfSame_fn (a b : List Pt) : FnOK Tryd.prog 42 [fld a, fld b] (.c (.one (bol (decide (a = b))))) := by
  refine fn_ok (by kernel_rfl) ty_ok Tryd.func42 rfl (fun _ _ => Tryd.call42 _ _) rfl ?_
  intro hw
  simp only [WDCs, WDC, WDs] at hw
  obtain ⟨w1, _⟩ := wd_pts hw.1.1
  obtain ⟨w2, _⟩ := wd_pts hw.2.1.1
  clear hw
  by_cases h0 : a.length = b.length
  · repeat' ((conv => whnf); first | (with_reducible first | refine br_t ?_ | refine br_f ?_ | refine za ?_ | refine zg ?_) | rw [List.length_map] | refine zp ?_ | refine zq ?_ | (with_reducible first | refine bc (fun h => ?_) (fun h => ?_) | refine zt ?_ | refine zf ?_ | refine br_i (fun h => ?_) (fun h => ?_) | refine xi (pv_bool fun _ => nev46 _ _ _ _ _ _ _ _ _) ?_) | refine zg ?_ | refine zi ?_ | refine zb ?_)
    refine loop_J (by kernel_rfl) ty_ok (σ := Nat) (fun i => [(5, sV (.int .i64 i))]) (fun _ => []) (fun i => i ≤ a.length ∧ a.take i = b.take i) (fun i => a.length - i) 0 ⟨by omega, rfl⟩ ?_ ?_
    · (conv => whnf); exact zent
    rintro i ⟨hi, hI⟩
    rcases Nat.lt_or_ge i a.length with hlt | hge
    · have hb : i < b.length := by omega
      have he1 := pts_get hlt
      have he2 := pts_get hb
      by_cases hc : a[i] = b[i]
      · have hq := Pt.eq_iff.1 hc
        repeat' ((conv => whnf); first | (with_reducible first | refine br_t ?_ | refine br_f ?_ | refine za ?_ | refine zg ?_) | rw [List.length_map] | refine zp ?_ | refine zq ?_ | (with_reducible first | refine bc (fun h => ?_) (fun h => ?_) | refine zt ?_ | refine zf ?_ | refine br_i (fun h => ?_) (fun h => ?_) | refine xi (pv_bool fun _ => nev46 _ _ _ _ _ _ _ _ _) ?_) | refine zg ?_ | refine zi ?_ | refine zb ?_)
        all_goals conv => whnf
        refine ⟨i + 1, ⟨by omega, take_succ_eq hI hlt hb hc⟩, ?_, by omega⟩
        (conv => whnf); exact zent
      · have hq := mt Pt.eq_iff.2 hc
        rw [decide_eq_false (ne_of_get hlt hb hc)]
        repeat' ((conv => whnf); first | (with_reducible first | refine br_t ?_ | refine br_f ?_ | refine za ?_ | refine zg ?_) | rw [List.length_map] | refine zp ?_ | refine zq ?_ | (with_reducible first | refine bc (fun h => ?_) (fun h => ?_) | refine zt ?_ | refine zf ?_ | refine br_i (fun h => ?_) (fun h => ?_) | refine xi (pv_bool fun _ => nev46 _ _ _ _ _ _ _ _ _) ?_) | refine zg ?_ | refine zi ?_ | refine zb ?_)
        all_goals conv => whnf
        all_goals rfl
    · rw [decide_eq_true (take_all_eq hI h0 hge)]
      repeat' ((conv => whnf); first | (with_reducible first | refine br_t ?_ | refine br_f ?_ | refine za ?_ | refine zg ?_) | rw [List.length_map] | refine zp ?_ | refine zq ?_ | (with_reducible first | refine bc (fun h => ?_) (fun h => ?_) | refine zt ?_ | refine zf ?_ | refine br_i (fun h => ?_) (fun h => ?_) | refine xi (pv_bool fun _ => nev46 _ _ _ _ _ _ _ _ _) ?_) | refine zg ?_ | refine zi ?_ | refine zb ?_)
      all_goals conv => whnf
      all_goals rfl
  · rw [decide_eq_false (fun h => h0 (congrArg List.length h))]
    repeat' ((conv => whnf); first | (with_reducible first | refine br_t ?_ | refine br_f ?_ | refine za ?_ | refine zg ?_) | rw [List.length_map] | refine zp ?_ | refine zq ?_ | (with_reducible first | refine bc (fun h => ?_) (fun h => ?_) | refine zt ?_ | refine zf ?_ | refine br_i (fun h => ?_) (fun h => ?_) | refine xi (pv_bool fun _ => nev46 _ _ _ _ _ _ _ _ _) ?_) | refine zg ?_ | refine zi ?_ | refine zb ?_)
    all_goals conv => whnf
    all_goals rfl
theorem ofirst_fn (a b : Int) : FnOK Tryd.prog 47 [.one (.list 1 [[i64 a], [i64 b]])] (ret1 (orN a b)) := by
  refine fn_ok (by kernel_rfl) ty_ok Tryd.func47 rfl (fun _ _ => Tryd.call47 _ _) rfl ?_
  intro hw
  repeat' ((conv => whnf); first | (with_reducible first | refine br_t ?_ | refine br_f ?_ | refine za ?_ | refine zg ?_) | refine zp ?_ | refine zq ?_ | (with_reducible first | refine bc (fun h => ?_) (fun h => ?_) | refine zt ?_ | refine zf ?_ | refine br_i (fun h => ?_) (fun h => ?_)) | refine zg ?_ | refine zi ?_ | refine zb ?_)
  refine loop_J (by kernel_rfl) ty_ok (σ := Nat) (fun i => [(7, sV (.int .i64 i))]) (fun _ => []) (fun i => i = 0 ∨ (i = 1 ∧ a = 0) ∨ (i = 2 ∧ a = 0 ∧ b = 0)) (fun i => 2 - i) 0 (.inl rfl) ?_ ?_
  · (conv => whnf); exact zent
  intro i hi
  have hlen : ([[i64 a], [i64 b]] : List (List D)).length = 2 := rfl
  have hel0 : ([[i64 a], [i64 b]] : List (List D))[((0 : Nat) : Int).toNat]? = some [i64 a] := rfl
  have hel1 : ([[i64 a], [i64 b]] : List (List D))[((1 : Nat) : Int).toNat]? = some [i64 b] := rfl
  have q0 : 0 ≤ ((0 : Nat) : Int) ∧ ((0 : Nat) : Int) < (([[i64 a], [i64 b]] : List (List D)).length : Int) := ⟨by omega, by simp⟩
  have q1 : 0 ≤ ((1 : Nat) : Int) ∧ ((1 : Nat) : Int) < (([[i64 a], [i64 b]] : List (List D)).length : Int) := ⟨by omega, by simp⟩
  rcases hi with rfl | ⟨rfl, h1⟩ | ⟨rfl, h1, h2⟩
  · repeat' ((conv => whnf); first | (with_reducible first | refine br_t ?_ | refine br_f ?_ | refine za ?_ | refine zg ?_) | first | (refine (Exists.intro _ (And.intro (And.intro hel0 (Nat.le_of_ble_eq_true rfl)) ?_))) | (refine And.intro q0 ?_) | refine zp ?_ | refine zq ?_ | (with_reducible first | refine bc (fun h => ?_) (fun h => ?_) | refine zt ?_ | refine zf ?_ | refine br_i (fun h => ?_) (fun h => ?_)) | refine zg ?_ | refine zi ?_ | refine zb ?_)
    all_goals conv => whnf
    · refine r_int ?_
      unfold orN; rw [if_neg (by assumption)]
    · refine ⟨1, .inr (.inl ⟨rfl, by omega⟩), ?_, by show 2 - 1 < 2 - 0; decide⟩
      (conv => whnf); exact zent
  · repeat' ((conv => whnf); first | (with_reducible first | refine br_t ?_ | refine br_f ?_ | refine za ?_ | refine zg ?_) | first | (refine (Exists.intro _ (And.intro (And.intro hel1 (Nat.le_of_ble_eq_true rfl)) ?_))) | (refine And.intro q1 ?_) | refine zp ?_ | refine zq ?_ | (with_reducible first | refine bc (fun h => ?_) (fun h => ?_) | refine zt ?_ | refine zf ?_ | refine br_i (fun h => ?_) (fun h => ?_)) | refine zg ?_ | refine zi ?_ | refine zb ?_)
    all_goals conv => whnf
    · refine r_int ?_
      unfold orN; rw [if_pos h1]
    · refine ⟨2, .inr (.inr ⟨rfl, h1, by omega⟩), ?_, by show 2 - 2 < 2 - 1; decide⟩
      (conv => whnf); exact zent
  · repeat' ((conv => whnf); first | (with_reducible first | refine br_t ?_ | refine br_f ?_ | refine za ?_ | refine zg ?_) | refine zp ?_ | refine zq ?_ | (with_reducible first | refine bc (fun h => ?_) (fun h => ?_) | refine zt ?_ | refine zf ?_ | refine br_i (fun h => ?_) (fun h => ?_)) | refine zg ?_ | refine zi ?_ | refine zb ?_)
    all_goals conv => whnf
    refine r_int ?_
    unfold orN; rw [if_pos h1]; exact h2.symm
theorem oCheck_fn (m : Md) : FnOK Tryd.prog 23 [m.dc] (ret1 (mchk m)) := by
  refine fn_ok (by kernel_rfl) ty_ok Tryd.func23 rfl (fun _ _ => Tryd.call23 _ _) rfl ?_
  intro hw
  clear hw
  rw [mchk_orN]
  have H := ofirst_fn (askd m.n m.d) (fchk m.l)
  generalize orN (askd m.n m.d) (fchk m.l) = z at *
  by_cases h : z = 0
  all_goals
    repeat' ((conv => whnf); first | (with_reducible first | refine br_t ?_ | refine br_f ?_ | refine za ?_ | refine zg ?_ | refine xi (asked_fn _ _) ?_ | refine xi (fCheck_fn _) ?_) | refine zp ?_ | refine zq ?_ | (with_reducible first | refine bc (fun h => ?_) (fun h => ?_) | refine zt ?_ | refine zf ?_ | refine br_i (fun h => ?_) (fun h => ?_)) | refine zg ?_ | refine zi ?_ | refine zb ?_)
    all_goals conv => whnf
    all_goals simp [h]
theorem roCheck_fn (m : Md) : FnOK Tryd.prog 24 [m.dc] (ret1 (mchk m)) := by
  refine fn_ok (by kernel_rfl) ty_ok Tryd.func24 rfl (fun _ _ => Tryd.call24 _ _) rfl ?_
  intro hw
  clear hw
  unfold mchk
  have H1 := rasked_fn m.n m.d
  have H2 := rfCheck_fn m.l
  generalize askd m.n m.d = z at *
  generalize fchk m.l = y at *
  by_cases h : z = 0 <;> by_cases h' : y = 0
  all_goals
    repeat' ((conv => whnf); first | (with_reducible first | refine br_t ?_ | refine br_f ?_ | refine za ?_ | refine zg ?_) | refine zp ?_ | refine zq ?_ | (with_reducible first | refine bc (fun h => ?_) (fun h => ?_) | refine zt ?_ | refine zf ?_ | refine br_i (fun h => ?_) (fun h => ?_)) | refine zg ?_ | refine zi ?_ | refine zb ?_)
    all_goals conv => whnf
    all_goals simp [h, h']
theorem rfTwin_fn (l : List Pt) (hl : l.length ≤ 1000000) : FnOK Tryd.prog 31 [fld l] (.c (fld l)) := by
  refine fn_ok (by kernel_rfl) (ty_okK [6] [] [] []) Tryd.func31 rfl (fun _ _ => Tryd.call31 _ _) rfl ?_
  intro hw
  repeat' ((conv => whnf); first | (with_reducible first | refine br_t ?_ | refine br_f ?_ | refine za ?_ | refine zg ?_ | refine zo ?_) | rw [List.length_map] | refine zp ?_ | refine zq ?_ | (with_reducible first | refine bc (fun h => ?_) (fun h => ?_) | refine zt ?_ | refine zf ?_ | refine br_i (fun h => ?_) (fun h => ?_)) | refine zg ?_ | refine zi ?_ | refine zb ?_ | refine zl ?_)
  all_goals conv => whnf
  all_goals rfl
theorem roTwin_fn (m : Md) (hl : m.l.length ≤ 1000000) : FnOK Tryd.prog 9 [m.dc] (.c m.dc) := by
  refine fn_ok (by kernel_rfl) ty_ok Tryd.func9 rfl (fun _ _ => Tryd.call9 _ _) rfl ?_
  intro hw
  have H := rfTwin_fn m.l hl
  exact zw
theorem roSameModel_fn (m n : Md) : FnOK Tryd.prog 14 [m.dc, n.dc] (.c (.one (bol (decide (m = n))))) := by
  refine fn_ok (by kernel_rfl) ty_ok Tryd.func14 rfl (fun _ _ => Tryd.call14 _ _) rfl ?_
  intro hw
  clear hw
  have H := rfSame_fn m.l n.l
  have he : (m = n) ↔ (m.n = n.n ∧ m.d = n.d) ∧ m.l = n.l := by cases m; cases n; simp [and_assoc]
  rw [show decide (m = n) = decide ((m.n = n.n ∧ m.d = n.d) ∧ m.l = n.l) from decide_eq_decide.2 he]
  by_cases h : m.n = n.n ∧ m.d = n.d
  all_goals
    cases hz : decide (m.l = n.l)
    all_goals
      rw [hz] at H
      repeat' ((conv => whnf); first | (with_reducible first | refine br_t ?_ | refine br_f ?_ | refine za ?_ | refine zg ?_) | refine zp ?_ | refine zq ?_ | (with_reducible first | refine bc (fun h => ?_) (fun h => ?_) | refine zt ?_ | refine zf ?_ | refine br_i (fun h => ?_) (fun h => ?_) | refine xi (pv_bool fun _ => eqv23 _ _ _ _ _ _ _) ?_) | refine zg ?_ | refine zi ?_ | refine zb ?_)
      all_goals conv => whnf
      all_goals simp at hz
      all_goals simp [h, hz]
end Go.Proofs.YtgdpogdgpfjnoaaDoor

namespace Go.Proofs.YtgdpogdgpfjnoaaDoor
open Go Go.RowKit Sx
namespace Sx
def shModel : Sh := .st (.fc 2 shRatio (.fc 1 shField .f0))
end Sx
theorem fits_model {ds : List D} (h : Fits shModel ds) : ∃ m : Md, ds = m.c := by
  obtain ⟨_, _, rfl, h1, _, _, rfl, h2, rfl⟩ := h
  obtain ⟨n, d, rfl⟩ := fits_ratio h1
  obtain ⟨l, rfl⟩ := fits_field h2
  exact ⟨⟨n, d, l⟩, rfl⟩
theorem fit_model {c : DC} (h : FitC shModel c) : ∃ m : Md, c = m.dc := by
  obtain ⟨ds, rfl, h⟩ := h
  obtain ⟨m, rfl⟩ := fits_model h
  exact ⟨m, rfl⟩
end Go.Proofs.YtgdpogdgpfjnoaaDoor

namespace Go.Proofs.YtgdpogdgpfjnoaaDoor
open Go Go.RowKit Go.Sort Sx
abbrev u8 (n : Int) : D := .v (.int .u8 n)
structure Ak where
  k : Int
  p : Pt
  id : Int
  n : Int
  d : Int
  deriving DecidableEq, Inhabited
def Ak.c (a : Ak) : List D := [u8 a.k, i64 a.p.id, i64 a.p.a, i64 a.p.b, i64 a.id, i64 a.n, i64 a.d]
abbrev Ak.dc (a : Ak) : DC := .agg [u8 a.k, i64 a.p.id, i64 a.p.a, i64 a.p.b, i64 a.id, i64 a.n, i64 a.d]
end Go.Proofs.YtgdpogdgpfjnoaaDoor

namespace Go.Proofs.YtgdpogdgpfjnoaaDoor
open Go Go.RowKit
namespace Sx
variable {P : Program} {sz : Nat} {E : Env} {H : Hp}
end Sx
end Go.Proofs.YtgdpogdgpfjnoaaDoor

namespace Go.Proofs.YtgdpogdgpfjnoaaDoor
open Go Go.RowKit Go.Sort Sx
abbrev bstr (l : List UInt8) : Value := .string ⟨l.toArray⟩
abbrev str (l : List UInt8) : Sx.D := .v (.string ⟨l.toArray⟩)
theorem str_toList (a : List UInt8) : (⟨a.toArray⟩ : ByteArray).toList = a := by rw [Lib.toList_data]
theorem str_size (a : List UInt8) : (⟨a.toArray⟩ : ByteArray).size = a.length := rfl
theorem str_append (a b : List UInt8) : (⟨a.toArray⟩ : ByteArray) ++ ⟨b.toArray⟩ = ⟨(a ++ b).toArray⟩ := by
  apply ByteArray.ext
  simp
theorem str_extract (a : List UInt8) (i j : Nat) : (⟨a.toArray⟩ : ByteArray).extract i j = ⟨((a.take j).drop i).toArray⟩ := by
  apply ByteArray.ext
  rw [ByteArray.data_extract]
  apply Array.ext'
  simp [List.extract_eq_take_drop, List.drop_take]
theorem str_get (a : List UInt8) (i : Nat) : (⟨a.toArray⟩ : ByteArray)[i]? = a[i]? := by
  by_cases h : i < a.length
  · have h' : i < (⟨a.toArray⟩ : ByteArray).size := h
    rw [List.getElem?_eq_getElem h, getElem?_pos (⟨a.toArray⟩ : ByteArray) i h']; rfl
  · have h' : ¬ i < (⟨a.toArray⟩ : ByteArray).size := h
    rw [List.getElem?_eq_none (by omega), getElem?_neg (⟨a.toArray⟩ : ByteArray) i h']
theorem run_cat {P : Program} {t : Nat} {x y : Operand} {a b : List UInt8} (h : a.length + b.length ≤ 9223372036854775807) (w : World) : (do eqGuard .add t x y (bstr a) (bstr b); binOp .add t (bstr a) (bstr b) : Sem Value).run P w = .ok (bstr (a ++ b)) w := by
  have := run_string_add_sum (P := P) (w := w) (⟨a.toArray⟩ : ByteArray) ⟨b.toArray⟩ h
  simp only [Sem.run_bind]
  show (binOp .add t (bstr a) (bstr b)).run P w = _
  rw [binOp_string_add, this, str_append]
theorem run_seq {P : Program} {t : Nat} {x y : Operand} {a b : List UInt8} (w : World) : (do eqGuard .eql t x y (bstr a) (bstr b); binOp .eql t (bstr a) (bstr b) : Sem Value).run P w = .ok (.bool (decide (a = b))) w := by
  simp only [Sem.run_bind]
  show (binOp .eql t (bstr a) (bstr b)).run P w = _
  rw [binOp_string_eql, str_toList, str_toList]
  simp [go_sem]
  by_cases h : a = b <;> simp [h]
theorem run_sne {P : Program} {t : Nat} {x y : Operand} {a b : List UInt8} (w : World) : (do eqGuard .neq t x y (bstr a) (bstr b); binOp .neq t (bstr a) (bstr b) : Sem Value).run P w = .ok (.bool (decide (¬ a = b))) w := by
  simp only [Sem.run_bind]
  show (binOp .neq t (bstr a) (bstr b)).run P w = _
  rw [binOp_string_neq, str_toList, str_toList]
  simp [go_sem]
  by_cases h : a = b <;> simp [h]
theorem cat_pv {P : Program} {t : Nat} {x y : Operand} {a b : List UInt8} (h : a.length + b.length ≤ 9223372036854775807) : (bstr (a ++ b)).oneCell' = true ∧ wfV (bstr (a ++ b)) ∧ ∀ w, (do eqGuard .add t x y (bstr a) (bstr b); binOp .add t (bstr a) (bstr b) : Sem Value).run P w = .ok (bstr (a ++ b)) w := ⟨rfl, trivial, run_cat h⟩
theorem seq_pv {P : Program} {t : Nat} {x y : Operand} {a b : List UInt8} : (Value.bool (decide (a = b))).oneCell' = true ∧ wfV (.bool (decide (a = b))) ∧ ∀ w, (do eqGuard .eql t x y (bstr a) (bstr b); binOp .eql t (bstr a) (bstr b) : Sem Value).run P w = .ok (.bool (decide (a = b))) w := ⟨rfl, trivial, run_seq⟩
theorem sne_pv {P : Program} {t : Nat} {x y : Operand} {a b : List UInt8} : (Value.bool (decide (¬ a = b))).oneCell' = true ∧ wfV (.bool (decide (¬ a = b))) ∧ ∀ w, (do eqGuard .neq t x y (bstr a) (bstr b); binOp .neq t (bstr a) (bstr b) : Sem Value).run P w = .ok (.bool (decide (¬ a = b))) w := ⟨rfl, trivial, run_sne⟩
theorem po_sidx {P : Program} {o : Oper} {t : Nat} {x y : Operand} {l : List UInt8} {k : IntKind} {i : Int} (ho : o.op = .index t x y) (ht : P.underlying t = some .string) (h0 : 0 ≤ i) (hi : i.toNat < l.length) : PureOp P o [bstr l, .int k i] (.int .u8 (l[i.toNat].toNat : Int)) := by
  refine ⟨rfl, ?_, fun f hf w => ?_⟩
  · show inK .u8 _
    have := l[i.toNat].toNat_lt
    simp only [inK]; omega
  · rw [ho] at hf
    simp only [Op.operands, List.map_cons, List.map_nil, List.cons.injEq, and_true] at hf
    simp [execOp, ho, hf.1, hf.2, Instr.index, asIntOf, run_underlying ht, h0, str_get, List.getElem?_eq_getElem hi]
theorem po_ssl {P : Program} {o : Oper} {t : Nat} {x y z : Operand} {l : List UInt8} {k k' : IntKind} {i j : Int} (ho : o.op = .slice t x (some y) (some z) none) (ht : P.underlying t = some .string) (h0 : 0 ≤ i) (h1 : i ≤ j) (h2 : j ≤ l.length) : PureOp P o [bstr l, .int k i, .int k' j] (bstr ((l.take j.toNat).drop i.toNat)) := by
  refine ⟨rfl, trivial, fun f hf w => ?_⟩
  rw [ho] at hf
  simp [Op.operands] at hf
  have e1 : ((j.toNat : Nat) : Int) = j := by omega
  simp [execOp, ho, hf, Instr.sliceAt, Instr.slice, Instr.sliceBounds, Instr.sliceBound, asIntOf, run_underlying ht, str_size, h0, h1, h2, e1, str_extract, show 0 ≤ j by omega]
theorem po_ssl1 {P : Program} {o : Oper} {t : Nat} {x y : Operand} {l : List UInt8} {k : IntKind} {i : Int} (ho : o.op = .slice t x (some y) none none) (ht : P.underlying t = some .string) (h0 : 0 ≤ i) (h1 : i ≤ l.length) : PureOp P o [bstr l, .int k i] (bstr (l.drop i.toNat)) := by
  refine ⟨rfl, trivial, fun f hf w => ?_⟩
  rw [ho] at hf
  simp [Op.operands] at hf
  have e1 : l.drop i.toNat = (l.take l.length).drop i.toNat := by rw [List.take_length]
  rw [e1]
  simp [execOp, ho, hf, Instr.sliceAt, Instr.slice, Instr.sliceBounds, Instr.sliceBound, asIntOf, run_underlying ht, str_size, h0, h1, str_extract]
theorem po_slen {P : Program} {o : Oper} {t : Nat} {x : Operand} {l : List UInt8} {c : Call} (ho : o.op = .call c) (hc : c.callee = .builtin .len) (ha : c.args = #[x]) (hat : c.argTypes = #[t]) (ht : P.underlying t = some .string) (hl : l.length ≤ 9223372036854775807) : PureOp P o [bstr l] (.int .i64 (l.length : Int)) := by
  refine ⟨rfl, ⟨by omega, by omega⟩, fun f hf w => ?_⟩
  rw [ho] at hf
  simp [Op.operands, Call.operands, hc, ha] at hf
  simp [execOp, ho, resolve, hc, ha, hat, invoke, builtin, hf, Builtin.len_, run_underlying ht, str_size, goInt]
theorem po_sget {P : Program} {o : Oper} {t : Nat} {x y : Operand} {l : List UInt8} {k : IntKind} {i : Int} {b : UInt8} (ho : o.op = .index t x y) (ht : P.underlying t = some .string) (h0 : 0 ≤ i) (hi : l[i.toNat]? = some b) : PureOp P o [bstr l, .int k i] (.int .u8 (b.toNat : Int)) := by
  obtain ⟨h, e⟩ := List.getElem?_eq_some_iff.1 hi
  have := po_sidx (P := P) (k := k) ho ht h0 h
  rw [e] at this; exact this
theorem zsl {o : Oper} {x : Operand} {c : Call} {l : List UInt8} {K : Value → Prop} (k : K (.int .i64 (l.length : Int))) (h : l.length ≤ 9223372036854775807 := by first | omega | (simp only [List.length_append, List.length_cons, List.length_nil]; omega)) (ho : o.op = .call c := by rfl) (hc : c.callee = .builtin .len := by rfl) (ha : c.args = #[x] := by rfl) (hat : c.argTypes = #[9] := by rfl) : ∃ v, PureOp Tryd.prog o [bstr l] v ∧ K v := ⟨_, po_slen ho hc ha hat Tryd.underlying9 h, k⟩
theorem zsg {o : Oper} {x y : Operand} {l : List UInt8} {kk : IntKind} {i : Int} {b : UInt8} {K : Value → Prop} (k : K (.int .u8 (b.toNat : Int))) (hi : l[i.toNat]? = some b := by assumption) (h0 : 0 ≤ i := by omega) (ho : o.op = .index 9 x y := by rfl) : ∃ v, PureOp Tryd.prog o [bstr l, .int kk i] v ∧ K v := ⟨_, po_sget ho Tryd.underlying9 h0 hi, k⟩
theorem zss {o : Oper} {x y z : Operand} {l : List UInt8} {kk kk' : IntKind} {i j : Int} {K : Value → Prop} (k : K (bstr ((l.take j.toNat).drop i.toNat))) (h0 : 0 ≤ i := by omega) (h1 : i ≤ j := by omega) (h2 : j ≤ l.length := by omega) (ho : o.op = .slice 9 x (some y) (some z) none := by rfl) : ∃ v, PureOp Tryd.prog o [bstr l, .int kk i, .int kk' j] v ∧ K v := ⟨_, po_ssl ho Tryd.underlying9 h0 h1 h2, k⟩
theorem zs1 {o : Oper} {x y : Operand} {l : List UInt8} {kk : IntKind} {i : Int} {K : Value → Prop} (k : K (bstr (l.drop i.toNat))) (h0 : 0 ≤ i := by omega) (h1 : i ≤ l.length := by omega) (ho : o.op = .slice 9 x (some y) none none := by rfl) : ∃ v, PureOp Tryd.prog o [bstr l, .int kk i] v ∧ K v := ⟨_, po_ssl1 ho Tryd.underlying9 h0 h1, k⟩
theorem zse {t : Nat} {x y : Operand} {a b : List UInt8} {K : Value → Prop} (k : K (.bool (decide (a = b)))) : ∃ v, (v.oneCell' = true ∧ wfV v ∧ ∀ w, (do eqGuard .eql t x y (bstr a) (bstr b); binOp .eql t (bstr a) (bstr b) : Sem Value).run Tryd.prog w = .ok v w) ∧ K v := ⟨_, seq_pv, k⟩
theorem zsn {t : Nat} {x y : Operand} {a b : List UInt8} {K : Value → Prop} (k : K (.bool (decide (¬ a = b)))) : ∃ v, (v.oneCell' = true ∧ wfV v ∧ ∀ w, (do eqGuard .neq t x y (bstr a) (bstr b); binOp .neq t (bstr a) (bstr b) : Sem Value).run Tryd.prog w = .ok v w) ∧ K v := ⟨_, sne_pv, k⟩
theorem zsc {t : Nat} {x y : Operand} {a b : List UInt8} {K : Value → Prop} (k : K (bstr (a ++ b))) (h : a.length + b.length ≤ 9223372036854775807 := by first | omega | (simp only [List.length_append, List.length_cons, List.length_nil]; omega)) : ∃ v, (v.oneCell' = true ∧ wfV v ∧ ∀ w, (do eqGuard .add t x y (bstr a) (bstr b); binOp .add t (bstr a) (bstr b) : Sem Value).run Tryd.prog w = .ok v w) ∧ K v := ⟨_, cat_pv h, k⟩
theorem zpa {c : Bool} {p q A B : Prop} [h : BC c p q] (k : A) (e : p := by first | assumption | with_reducible rfl) : br c A B := bc_t e k
theorem zqa {c : Bool} {p q A B : Prop} [h : BC c p q] (k : B) (e : q := by assumption) : br c A B := bc_f e k
end Go.Proofs.YtgdpogdgpfjnoaaDoor
