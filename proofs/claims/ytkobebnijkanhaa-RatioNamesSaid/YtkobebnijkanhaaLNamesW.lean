

/- The law RatioNames answers true. No condition. -/
import Derived.Test.YtkobebnijkanhaaLOrderW
import Derived.Test.YtkobebnijkanhaaSxL
namespace Go.Proofs.Ytkobebnijkanhaa
open Go.RowKit Go.Sort Sx
set_option linter.unusedVariables false

theorem nm0 : FnOK Try.prog 10 [.one (i64 1), .one (i64 0)] (.tup [.agg [i64 0, i64 0], .one (i64 26)]) := by
  have h := make_fn 1 0
  rw [show makeV 1 0 = (0, 0, 26) by decide +kernel] at h
  exact h
theorem nm1 : FnOK Try.prog 10 [.one (i64 0), .one (i64 (-9223372036854775808))] (.tup [.agg [i64 0, i64 1], .one (i64 0)]) := by
  have h := make_fn 0 (-9223372036854775808)
  rw [show makeV 0 (-9223372036854775808) = (0, 1, 0) by decide +kernel] at h
  exact h
theorem nm2 : FnOK Try.prog 10 [.one (i64 1), .one (i64 (-9223372036854775808))] (.tup [.agg [i64 0, i64 0], .one (i64 16)]) := by
  have h := make_fn 1 (-9223372036854775808)
  rw [show makeV 1 (-9223372036854775808) = (0, 0, 16) by decide +kernel] at h
  exact h
theorem nm3 : FnOK Try.prog 10 [.one (i64 (-9223372036854775808)), .one (i64 2)] (.tup [.agg [i64 (-4611686018427387904), i64 1], .one (i64 0)]) := by
  have h := make_fn (-9223372036854775808) 2
  rw [show makeV (-9223372036854775808) 2 = ((-4611686018427387904), 1, 0) by decide +kernel] at h
  exact h
theorem nm4 : FnOK Try.prog 12 [.one (i64 (-9223372036854775808))] (.tup [.agg [i64 0, i64 0], .one (i64 16)]) := by
  have h := of_fn (-9223372036854775808)
  rw [show makeV (-9223372036854775808) 1 = (0, 0, 16) by decide +kernel] at h
  exact h
theorem nm5 : FnOK Try.prog 22 [.agg [i64 9223372036854775807, i64 1], .agg [i64 (-9223372036854775807), i64 1]] (.tup [.agg [i64 0, i64 1], .one (i64 0)]) := by
  have h := add_fn 9223372036854775807 1 (-9223372036854775807) 1
  rw [show addV 9223372036854775807 1 (-9223372036854775807) 1 = (0, 1, 0) by decide +kernel] at h
  exact h
theorem nm6 : FnOK Try.prog 22 [.agg [i64 9223372036854775807, i64 1], .agg [i64 1, i64 1]] (.tup [.agg [i64 0, i64 0], .one (i64 16)]) := by
  have h := add_fn 9223372036854775807 1 1 1
  rw [show addV 9223372036854775807 1 1 1 = (0, 0, 16) by decide +kernel] at h
  exact h
theorem nm7 : FnOK Try.prog 24 [.agg [i64 (-9223372036854775807), i64 1], .agg [i64 1, i64 1]] (.tup [.agg [i64 0, i64 0], .one (i64 16)]) := by
  have h := sub_fn (-9223372036854775807) 1 1 1
  rw [show subV (-9223372036854775807) 1 1 1 = (0, 0, 16) by decide +kernel] at h
  exact h
theorem nm8 : FnOK Try.prog 26 [.agg [i64 9223372036854775807, i64 1], .agg [i64 (-1), i64 9223372036854775807]] (.tup [.agg [i64 (-1), i64 1], .one (i64 0)]) := by
  have h := mul_fn 9223372036854775807 1 (-1) 9223372036854775807
  rw [show mulV 9223372036854775807 1 (-1) 9223372036854775807 = ((-1), 1, 0) by decide +kernel] at h
  exact h
theorem nm9 : FnOK Try.prog 26 [.agg [i64 9223372036854775807, i64 1], .agg [i64 2, i64 1]] (.tup [.agg [i64 0, i64 0], .one (i64 16)]) := by
  have h := mul_fn 9223372036854775807 1 2 1
  rw [show mulV 9223372036854775807 1 2 1 = (0, 0, 16) by decide +kernel] at h
  exact h
theorem nm10 : FnOK Try.prog 22 [.agg [i64 9223372036854775807, i64 2], .agg [i64 9223372036854775807, i64 2]] (.tup [.agg [i64 9223372036854775807, i64 1], .one (i64 0)]) := by
  have h := add_fn 9223372036854775807 2 9223372036854775807 2
  rw [show addV 9223372036854775807 2 9223372036854775807 2 = (9223372036854775807, 1, 0) by decide +kernel] at h
  exact h
theorem nm11 : FnOK Try.prog 14 [.agg [i64 (-9223372036854775807), i64 1]] (.tup [.one (i64 (-9223372036854775807)), .one (i64 0)]) := by
  have h := floor_fn (-9223372036854775807) 1
  rw [show floorV (-9223372036854775807) 1 = ((-9223372036854775807), 0) by decide +kernel] at h
  exact h
theorem nm12 : FnOK Try.prog 14 [.agg [i64 (-1), i64 9223372036854775807]] (.tup [.one (i64 (-1)), .one (i64 0)]) := by
  have h := floor_fn (-1) 9223372036854775807
  rw [show floorV (-1) 9223372036854775807 = ((-1), 0) by decide +kernel] at h
  exact h
theorem nm13 : FnOK Try.prog 20 [.agg [i64 (-9223372036854775807), i64 1], .agg [i64 9223372036854775807, i64 1]] (.tup [.one (i64 (-1)), .one (i64 0)]) := by
  have h := cmp_fn (-9223372036854775807) 1 9223372036854775807 1
  rw [show cmpV (-9223372036854775807) 1 9223372036854775807 1 = ((-1), 0) by decide +kernel] at h
  exact h
theorem nm14 : FnOK Try.prog 20 [.agg [i64 (-1), i64 2], .agg [i64 (-1), i64 3]] (.tup [.one (i64 (-1)), .one (i64 0)]) := by
  have h := cmp_fn (-1) 2 (-1) 3
  rw [show cmpV (-1) 2 (-1) 3 = ((-1), 0) by decide +kernel] at h
  exact h
theorem nm15 : FnOK Try.prog 18 [.agg [i64 1073741824, i64 1]] (ret1 0) := by
  have h := asked_fn 1073741824 1
  rw [show askd 1073741824 1 = 0 by decide +kernel] at h
  exact h
theorem nm16 : FnOK Try.prog 18 [.agg [i64 (-1073741823), i64 1024]] (ret1 0) := by
  have h := asked_fn (-1073741823) 1024
  rw [show askd (-1073741823) 1024 = 0 by decide +kernel] at h
  exact h
theorem nm17 : FnOK Try.prog 18 [.agg [i64 1073741825, i64 1]] (ret1 2) := by
  have h := asked_fn 1073741825 1
  rw [show askd 1073741825 1 = 2 by decide +kernel] at h
  exact h
theorem nm18 : FnOK Try.prog 18 [.agg [i64 (-1073741825), i64 2]] (ret1 2) := by
  have h := asked_fn (-1073741825) 2
  rw [show askd (-1073741825) 2 = 2 by decide +kernel] at h
  exact h
theorem nm19 : FnOK Try.prog 18 [.agg [i64 1, i64 1025]] (ret1 2) := by
  have h := asked_fn 1 1025
  rw [show askd 1 1025 = 2 by decide +kernel] at h
  exact h
theorem is_fn (n d : Int) : FnOK Try.prog 31 [.agg [i64 n, i64 d], .one (i64 0), .one (i64 n), .one (i64 d)] retT := by
  refine fn_of_calls (fun _ _ => Try.call31 _ _) rfl rfl (fun h => ?_) (fun h w => is_true n d w)
  simp only [WDV, WDC, wd_bol]
theorem bth_bad1 {n d m e : Int} (h : chk n d = 8) : bth n d m e = 8 := by unfold bth; rw [h]; rfl
theorem bth_bad2 {n d m e : Int} (h : chk m e = 8) : bth n d m e = 8 := by unfold bth; split <;> first | exact h | rfl
def badsL : List (List D) := [[i64 0, i64 0], [i64 0, i64 2], [i64 1, i64 0], [i64 1, i64 (-1)], [i64 2, i64 4], [i64 (-9223372036854775808), i64 1], [i64 (-9), i64 3]]
theorem badsL_get {i : Nat} (h : i < 7) : ∃ n d, badsL[i]? = some [i64 n, i64 d] ∧ chk n d = 8 := by
  have : i = 0 ∨ i = 1 ∨ i = 2 ∨ i = 3 ∨ i = 4 ∨ i = 5 ∨ i = 6 := by omega
  rcases this with rfl | rfl | rfl | rfl | rfl | rfl | rfl <;> exact ⟨_, _, rfl, by decide +kernel⟩
theorem wrap_up {i : Nat} (h : i ≤ 1000000) : IntKind.i64.wrap ((i : Int) + 1) = ((i + 1 : Nat) : Int) := by
  rw [IntWalk.i64_in _ (by omega)]; rfl

set_option maxHeartbeats 40000000 in
set_option maxRecDepth 100000 in
theorem LNames_fn : FnOK Try.prog 9 [] retT := by
  refine fn_ok (by kernel_rfl) ty_ok Try.func9 rfl (fun _ _ => Try.call9 _ _) rfl ?_
  intro _
  repeat' ((conv => whnf); first | (with_reducible refine br_t ?_) | (with_reducible refine br_f ?_) | ((with_reducible refine brd_t ?_ ?_); (omega)) | ((with_reducible refine brd_f ?_ ?_); (omega)) | (with_reducible refine brd (fun h => ?_) (fun h => ?_)) | ((with_reducible refine bre_t ?_ ?_); (omega)) | ((with_reducible refine bre_f ?_ ?_); (omega)) | (with_reducible refine bre (fun h => ?_) (fun h => ?_)) | ((with_reducible refine brn_t ?_ ?_); (omega)) | ((with_reducible refine brn_f ?_ ?_); (omega)) | (with_reducible refine brn (fun h => ?_) (fun h => ?_)) | (with_reducible refine brnot ?_) | (refine br_t' (by assumption) ?_) | (refine br_f' (by assumption) ?_) | (with_reducible refine br_i (fun h => ?_) (fun h => ?_)) | (with_reducible refine Exists.intro _ (And.intro (pv_bool fun _ => eqv23 _ _ _ _ _ _ _) ?_)) | (with_reducible refine Exists.intro _ (And.intro (pv_bool fun _ => nev23 _ _ _ _ _ _ _) ?_)) | (with_reducible refine Exists.intro _ (And.intro (pv_bool fun _ => eqv57 _ _ _ _ _ _ _ _ _) ?_)) | (with_reducible refine Exists.intro _ (And.intro (pv_bool fun _ => nev57 _ _ _ _ _ _ _ _ _) ?_)) | (with_reducible refine Exists.intro _ (And.intro (pv_bool fun _ => eqv60 _ _ _ _ _ _ _ _ _) ?_)) | (with_reducible refine Exists.intro _ (And.intro (pv_bool fun _ => nev60 _ _ _ _ _ _ _ _ _) ?_)) | refine And.intro (by kernel_rfl) ?_ | refine And.intro (by omega) ?_ | refine And.intro (by decide) ?_)
  have hlen : badsL.length = 7 := rfl
  refine loop_I (by kernel_rfl) ty_ok (σ := Nat) (fun i => ([(0, sV (.bool false)), (1, sD (.list 2 badsL)), (2, .c (.at (.ptr 2 0))), (3, sV (.int .i64 (i : Int)))], [(2, .own [.d (i64 1), .d (i64 1)])])) (fun i => i ≤ 7) (fun i => 7 - i) 0 (by omega) ⟨⟨rfl, rfl, rfl, rfl, trivial⟩, ⟨rfl, trivial⟩, rfl⟩ ?_
  intro i hi
  rcases Nat.lt_or_ge i 7 with hlt | hge
  · obtain ⟨n, d, hel, hbad⟩ := badsL_get hlt
    have hel' : badsL[(i : Int).toNat]? = some [i64 n, i64 d] := by simpa using hel
    have B1 := bth_bad1 (m := 1) (e := 1) hbad
    have B2 := bth_bad2 (n := 1) (d := 1) hbad
    have B3 := bth_bad1 (m := n) (e := d) hbad
    have C1 := cmp_fn n d 1 1
    have C2 := add_fn 1 1 n d
    have C3 := sub_fn n d n d
    have C4 := mul_fn 1 1 n d
    have C5 := floor_fn n d
    have C6 := check_fn n d
    have C7 := asked_fn n d
    rw [show cmpV n d 1 1 = (0, 8) by unfold cmpV; rw [B1]; rfl] at C1
    rw [show addV 1 1 n d = (0, 0, 8) by unfold addV; rw [B2]; rfl] at C2
    rw [show subV n d n d = (0, 0, 8) by unfold subV; rw [B3]; rfl] at C3
    rw [show mulV 1 1 n d = (0, 0, 8) by unfold mulV; rw [B2]; rfl] at C4
    rw [show floorV n d = (0, 8) by unfold floorV; rw [hbad]; rfl] at C5
    rw [hbad] at C6
    rw [show askd n d = 8 by unfold askd; rw [hbad]; rfl] at C7
    simp only [ret3] at C2 C3 C4
    simp only [ret2] at C1 C5
    repeat' ((conv => whnf); first | (with_reducible refine br_t ?_) | (with_reducible refine br_f ?_) | ((with_reducible refine brd_t ?_ ?_); (omega)) | ((with_reducible refine brd_f ?_ ?_); (omega)) | (with_reducible refine brd (fun h => ?_) (fun h => ?_)) | ((with_reducible refine bre_t ?_ ?_); (omega)) | ((with_reducible refine bre_f ?_ ?_); (omega)) | (with_reducible refine bre (fun h => ?_) (fun h => ?_)) | ((with_reducible refine brn_t ?_ ?_); (omega)) | ((with_reducible refine brn_f ?_ ?_); (omega)) | (with_reducible refine brn (fun h => ?_) (fun h => ?_)) | (with_reducible refine brnot ?_) | (refine br_t' (by assumption) ?_) | (refine br_f' (by assumption) ?_) | (with_reducible refine br_i (fun h => ?_) (fun h => ?_)) | (with_reducible refine Exists.intro _ (And.intro (C1) ?_)) | (with_reducible refine Exists.intro _ (And.intro (C2) ?_)) | (with_reducible refine Exists.intro _ (And.intro (C3) ?_)) | (with_reducible refine Exists.intro _ (And.intro (C4) ?_)) | (with_reducible refine Exists.intro _ (And.intro (C5) ?_)) | (with_reducible refine Exists.intro _ (And.intro (C6) ?_)) | (with_reducible refine Exists.intro _ (And.intro (C7) ?_)) | (refine Exists.intro _ (And.intro (And.intro hel' (Nat.le_of_ble_eq_true rfl)) ?_)) | (with_reducible refine Exists.intro _ (And.intro (pv_bool fun _ => eqv23 _ _ _ _ _ _ _) ?_)) | (with_reducible refine Exists.intro _ (And.intro (pv_bool fun _ => nev23 _ _ _ _ _ _ _) ?_)) | (with_reducible refine Exists.intro _ (And.intro (pv_bool fun _ => eqv57 _ _ _ _ _ _ _ _ _) ?_)) | (with_reducible refine Exists.intro _ (And.intro (pv_bool fun _ => nev57 _ _ _ _ _ _ _ _ _) ?_)) | (with_reducible refine Exists.intro _ (And.intro (pv_bool fun _ => eqv60 _ _ _ _ _ _ _ _ _) ?_)) | (with_reducible refine Exists.intro _ (And.intro (pv_bool fun _ => nev60 _ _ _ _ _ _ _ _ _) ?_)) | refine And.intro (by kernel_rfl) ?_ | refine And.intro (by omega) ?_ | refine And.intro (by decide) ?_)
    all_goals conv => whnf
    refine ⟨i + 1, by omega, ⟨⟨rfl, rfl, rfl, ?_, trivial⟩, ⟨rfl, trivial⟩, rfl⟩, ?_⟩
    · show some (sV (.int .i64 (IntKind.i64.wrap ((i : Int) + 1)))) = _
      rw [wrap_up (by omega)]
    · show 7 - (i + 1) < 7 - i
      omega
  · have : i = 7 := by omega
    subst this
    repeat' ((conv => whnf); first | (with_reducible refine br_t ?_) | (with_reducible refine br_f ?_) | ((with_reducible refine brd_t ?_ ?_); (omega)) | ((with_reducible refine brd_f ?_ ?_); (omega)) | (with_reducible refine brd (fun h => ?_) (fun h => ?_)) | ((with_reducible refine bre_t ?_ ?_); (omega)) | ((with_reducible refine bre_f ?_ ?_); (omega)) | (with_reducible refine bre (fun h => ?_) (fun h => ?_)) | ((with_reducible refine brn_t ?_ ?_); (omega)) | ((with_reducible refine brn_f ?_ ?_); (omega)) | (with_reducible refine brn (fun h => ?_) (fun h => ?_)) | (with_reducible refine brnot ?_) | (refine br_t' (by assumption) ?_) | (refine br_f' (by assumption) ?_) | (with_reducible refine br_i (fun h => ?_) (fun h => ?_)) | (with_reducible refine Exists.intro _ (And.intro (nm0) ?_)) | (with_reducible refine Exists.intro _ (And.intro (nm1) ?_)) | (with_reducible refine Exists.intro _ (And.intro (nm2) ?_)) | (with_reducible refine Exists.intro _ (And.intro (nm3) ?_)) | (with_reducible refine Exists.intro _ (And.intro (nm4) ?_)) | (with_reducible refine Exists.intro _ (And.intro (nm5) ?_)) | (with_reducible refine Exists.intro _ (And.intro (nm6) ?_)) | (with_reducible refine Exists.intro _ (And.intro (nm7) ?_)) | (with_reducible refine Exists.intro _ (And.intro (nm8) ?_)) | (with_reducible refine Exists.intro _ (And.intro (nm9) ?_)) | (with_reducible refine Exists.intro _ (And.intro (nm10) ?_)) | (with_reducible refine Exists.intro _ (And.intro (nm11) ?_)) | (with_reducible refine Exists.intro _ (And.intro (nm12) ?_)) | (with_reducible refine Exists.intro _ (And.intro (nm13) ?_)) | (with_reducible refine Exists.intro _ (And.intro (nm14) ?_)) | (with_reducible refine Exists.intro _ (And.intro (nm15) ?_)) | (with_reducible refine Exists.intro _ (And.intro (nm16) ?_)) | (with_reducible refine Exists.intro _ (And.intro (nm17) ?_)) | (with_reducible refine Exists.intro _ (And.intro (nm18) ?_)) | (with_reducible refine Exists.intro _ (And.intro (nm19) ?_)) | (with_reducible refine Exists.intro _ (And.intro (is_fn _ _) ?_)) | (with_reducible refine Exists.intro _ (And.intro (lalive_fn) ?_)) | (with_reducible refine Exists.intro _ (And.intro (pv_bool fun _ => eqv23 _ _ _ _ _ _ _) ?_)) | (with_reducible refine Exists.intro _ (And.intro (pv_bool fun _ => nev23 _ _ _ _ _ _ _) ?_)) | (with_reducible refine Exists.intro _ (And.intro (pv_bool fun _ => eqv57 _ _ _ _ _ _ _ _ _) ?_)) | (with_reducible refine Exists.intro _ (And.intro (pv_bool fun _ => nev57 _ _ _ _ _ _ _ _ _) ?_)) | (with_reducible refine Exists.intro _ (And.intro (pv_bool fun _ => eqv60 _ _ _ _ _ _ _ _ _) ?_)) | (with_reducible refine Exists.intro _ (And.intro (pv_bool fun _ => nev60 _ _ _ _ _ _ _ _ _) ?_)) | refine And.intro (by kernel_rfl) ?_ | refine And.intro (by omega) ?_ | refine And.intro (by decide) ?_)
    all_goals conv => whnf
    all_goals rfl
theorem LNames_true (w : World) : Calls Try.prog 9 #[] w fun e w' => e = .returned (.bool true) ∧ Below w.heap.size w w' :=
  calls_of_fn (vals := []) (fun _ _ => Try.call9 _ _) rfl rfl (by simp only [WDCs]) LNames_fn w
end Go.Proofs.Ytkobebnijkanhaa
