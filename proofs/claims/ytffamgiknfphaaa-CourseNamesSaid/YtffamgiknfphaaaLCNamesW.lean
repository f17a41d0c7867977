

/- The law CourseNames answers true. No condition. -/
import Derived.Test.YtffamgiknfphaaaLCAlive
namespace Go.Proofs.Ytffamgiknfphaaa
open Go.RowKit Go.Sort Sx
set_option linter.unusedVariables false
theorem nm1 : FnOK Try.prog 15 [.agg [i64 65535, i64 1048576, i64 (-1048576)], .agg [i64 2, i64 2]] (.tup [.agg [i64 0, i64 0], .one (i64 8)]) := by
  have h := kAt_fn 65535 1048576 (-1048576) 2 2
  rw [show atV 65535 1048576 (-1048576) 2 2 = (0, 0, 8) by decide +kernel] at h
  exact h
theorem nm2 : FnOK Try.prog 9 [.agg [i64 65535, i64 1048576, i64 (-1048576)], .agg [i64 65535, i64 1048576, i64 (-1048576)], .agg [i64 0, i64 0]] (.tup [.one (bol false), .one (i64 8)]) := by
  have h := kAhead_fn 65535 1048576 (-1048576) 65535 1048576 (-1048576) 0 0
  rw [show aheadV 65535 1048576 (-1048576) 65535 1048576 (-1048576) 0 0 = (false, 8) by decide +kernel] at h
  exact h
theorem nm3 : FnOK Try.prog 9 [.agg [i64 65535, i64 1048576, i64 (-1048576)], .agg [i64 65535, i64 1048576, i64 (-1048576)], .agg [i64 0, i64 1]] (.tup [.one (bol false), .one (i64 2)]) := by
  have h := kAhead_fn 65535 1048576 (-1048576) 65535 1048576 (-1048576) 0 1
  rw [show aheadV 65535 1048576 (-1048576) 65535 1048576 (-1048576) 0 1 = (false, 2) by decide +kernel] at h
  exact h
theorem nm4 : FnOK Try.prog 11 [.agg [i64 65535, i64 1048576, i64 (-1048576)], .agg [i64 65535, i64 1048576, i64 (-1048576)]] (.tup [.agg [i64 0, i64 0], .one (i64 2)]) := by
  have h := kMeet_fn 65535 1048576 (-1048576) 65535 1048576 (-1048576)
  rw [show meetV 65535 1048576 (-1048576) 65535 1048576 (-1048576) = (0, 0, 2) by decide +kernel] at h
  exact h
theorem nm5 : FnOK Try.prog 13 [.agg [i64 65535, i64 1048576, i64 (-1048576)], .agg [i64 65535, i64 1048576, i64 (-1048576)], .agg [i64 0, i64 1]] (.tup [.agg [i64 0, i64 0], .one (bol false), .one (i64 2)]) := by
  have h := kFails_fn 65535 1048576 (-1048576) 65535 1048576 (-1048576) 0 1
  rw [show failsV 65535 1048576 (-1048576) 65535 1048576 (-1048576) 0 1 = (0, 0, false, 2) by decide +kernel] at h
  exact h
theorem nm6 : FnOK Try.prog 11 [.agg [i64 65535, i64 1048576, i64 (-1048576)], .agg [i64 1, i64 0, i64 (-1048576)]] (.tup [.agg [i64 0, i64 0], .one (i64 6)]) := by
  have h := kMeet_fn 65535 1048576 (-1048576) 1 0 (-1048576)
  rw [show meetV 65535 1048576 (-1048576) 1 0 (-1048576) = (0, 0, 6) by decide +kernel] at h
  exact h
theorem nm7 : FnOK Try.prog 9 [.agg [i64 1, i64 0, i64 1], .agg [i64 2, i64 0, i64 0], .agg [i64 9223372036854775807, i64 1]] (.tup [.one (bol true), .one (i64 0)]) := by
  have h := kAhead_fn 1 0 1 2 0 0 9223372036854775807 1
  rw [show aheadV 1 0 1 2 0 0 9223372036854775807 1 = (true, 0) by decide +kernel] at h
  exact h
theorem nm8 : FnOK Try.prog 9 [.agg [i64 1, i64 1048576, i64 (-1048576)], .agg [i64 2, i64 (-1048576), i64 1048576], .agg [i64 9223372036854775807, i64 1]] (.tup [.one (bol false), .one (i64 0)]) := by
  have h := kAhead_fn 1 1048576 (-1048576) 2 (-1048576) 1048576 9223372036854775807 1
  rw [show aheadV 1 1048576 (-1048576) 2 (-1048576) 1048576 9223372036854775807 1 = (false, 0) by decide +kernel] at h
  exact h
theorem nm9 : FnOK Try.prog 15 [.agg [i64 65535, i64 1048576, i64 (-1048576)], .agg [i64 9223372036854775807, i64 1]] (.tup [.agg [i64 0, i64 0], .one (i64 16)]) := by
  have h := kAt_fn 65535 1048576 (-1048576) 9223372036854775807 1
  rw [show atV 65535 1048576 (-1048576) 9223372036854775807 1 = (0, 0, 16) by decide +kernel] at h
  exact h
theorem nm10 : FnOK Try.prog 15 [.agg [i64 1, i64 (-1), i64 1], .agg [i64 9223372036854775807, i64 1]] (.tup [.agg [i64 9223372036854775806, i64 1], .one (i64 0)]) := by
  have h := kAt_fn 1 (-1) 1 9223372036854775807 1
  rw [show atV 1 (-1) 1 9223372036854775807 1 = (9223372036854775806, 1, 0) by decide +kernel] at h
  exact h
theorem nm11 : FnOK Try.prog 15 [.agg [i64 1, i64 1, i64 2], .agg [i64 (-9223372036854775807), i64 9223372036854775806]] (.tup [.agg [i64 (-4611686018427387904), i64 4611686018427387903], .one (i64 0)]) := by
  have h := kAt_fn 1 1 2 (-9223372036854775807) 9223372036854775806
  rw [show atV 1 1 2 (-9223372036854775807) 9223372036854775806 = ((-4611686018427387904), 4611686018427387903, 0) by decide +kernel] at h
  exact h
theorem nm12 : FnOK Try.prog 15 [.agg [i64 1, i64 1, i64 1], .agg [i64 9223372036854775807, i64 1]] (.tup [.agg [i64 0, i64 0], .one (i64 16)]) := by
  have h := kAt_fn 1 1 1 9223372036854775807 1
  rw [show atV 1 1 1 9223372036854775807 1 = (0, 0, 16) by decide +kernel] at h
  exact h
theorem nm13 : FnOK Try.prog 11 [.agg [i64 1, i64 0, i64 2], .agg [i64 2, i64 1, i64 0]] (.tup [.agg [i64 1, i64 2], .one (i64 0)]) := by
  have h := kMeet_fn 1 0 2 2 1 0
  rw [show meetV 1 0 2 2 1 0 = (1, 2, 0) by decide +kernel] at h
  exact h
theorem nm14 : FnOK Try.prog 11 [.agg [i64 1, i64 0, i64 1], .agg [i64 2, i64 (-7), i64 0]] (.tup [.agg [i64 (-7), i64 1], .one (i64 0)]) := by
  have h := kMeet_fn 1 0 1 2 (-7) 0
  rw [show meetV 1 0 1 2 (-7) 0 = ((-7), 1, 0) by decide +kernel] at h
  exact h
theorem nm15 : FnOK Try.prog 17 [.agg [i64 65535, i64 1048576, i64 (-1048576)]] (ret1 0) := by
  have h := kCheck_fn 65535 1048576 (-1048576)
  rw [show cpt 65535 1048576 (-1048576) = 0 by decide +kernel] at h
  exact h

def badsP : List (List D) := [[i64 (-1), i64 0, i64 0], [i64 65536, i64 0, i64 0], [i64 1, i64 1048577, i64 0], [i64 1, i64 (-1048577), i64 0], [i64 1, i64 0, i64 1048577], [i64 1, i64 0, i64 (-1048577)], [i64 1, i64 (-9223372036854775808), i64 0]]
theorem badsP_get {i : Nat} (h : i < 7) : ∃ k a b, badsP[i]? = some [i64 k, i64 a, i64 b] ∧ cpt k a b = 8 := by
  have : i = 0 ∨ i = 1 ∨ i = 2 ∨ i = 3 ∨ i = 4 ∨ i = 5 ∨ i = 6 := by omega
  rcases this with rfl | rfl | rfl | rfl | rfl | rfl | rfl <;> exact ⟨_, _, _, rfl, by decide +kernel⟩
theorem wrap_up {i : Nat} (h : i ≤ 1000000) : IntKind.i64.wrap ((i : Int) + 1) = ((i + 1 : Nat) : Int) := by
  rw [IntWalk.i64_in _ (by omega)]; rfl
theorem two_bad1 {i a b j c d n m : Int} (h : cpt i a b = 8) : two02 i a b j c d n m = 8 := by unfold two02; rw [if_neg (by omega)]
theorem two_bad2 {i a b j c d n m : Int} (h : cpt j c d = 8) : two02 i a b j c d n m = 8 := by unfold two02; rw [if_neg (by omega)]

set_option maxHeartbeats 40000000 in
set_option maxRecDepth 100000 in
theorem LCNames_fn : FnOK Try.prog 5 [] (.c (.one (bol true))) := by
  refine fn_ok (by kernel_rfl) ty_ok Try.func5 rfl (fun _ _ => Try.call5 _ _) rfl ?_
  intro _
  repeat' ((conv => whnf); first | (with_reducible refine br_t ?_) | (with_reducible refine br_f ?_) | ((with_reducible refine brd_t ?_ ?_); (first | omega | decide)) | ((with_reducible refine brd_f ?_ ?_); (first | omega | decide)) | (with_reducible refine brd (fun h => ?_) (fun h => ?_)) | ((with_reducible refine bre_t ?_ ?_); (first | omega | decide)) | ((with_reducible refine bre_f ?_ ?_); (first | omega | decide)) | (with_reducible refine bre (fun h => ?_) (fun h => ?_)) | ((with_reducible refine brn_t ?_ ?_); (first | omega | decide)) | ((with_reducible refine brn_f ?_ ?_); (first | omega | decide)) | (with_reducible refine brn (fun h => ?_) (fun h => ?_)) | (with_reducible refine brb_tt ?_) | (with_reducible refine brb_ff ?_) | (with_reducible refine brb_tf ?_) | (with_reducible refine brb_ft ?_) | (with_reducible refine bnb_tt ?_) | (with_reducible refine bnb_ff ?_) | (with_reducible refine bnb_tf ?_) | (with_reducible refine bnb_ft ?_) | (with_reducible refine brnot ?_) | (refine br_t' (by assumption) ?_) | (refine br_f' (by assumption) ?_) | (with_reducible refine br_i (fun h => ?_) (fun h => ?_)) | (with_reducible refine Exists.intro _ (And.intro (lof_fn _ _ _) ?_)) | (with_reducible refine Exists.intro _ (And.intro (pv_bool fun _ => eqv23 _ _ _ _ _ _ _ _ _) ?_)) | (with_reducible refine Exists.intro _ (And.intro (pv_bool fun _ => nev23 _ _ _ _ _ _ _ _ _) ?_)) | (with_reducible refine Exists.intro _ (And.intro (pv_bool fun _ => eqv25 _ _ _ _ _ _ _) ?_)) | (with_reducible refine Exists.intro _ (And.intro (pv_bool fun _ => nev25 _ _ _ _ _ _ _) ?_)) | (with_reducible refine Exists.intro _ (And.intro (pv_bool fun _ => eqv61 _ _ _ _ _ _ _) ?_)) | (with_reducible refine Exists.intro _ (And.intro (pv_bool fun _ => nev61 _ _ _ _ _ _ _) ?_)) | (with_reducible refine Exists.intro _ (And.intro (pv_bool fun _ => eqv70 _ _ _ _ _ _ _ _ _) ?_)) | (with_reducible refine Exists.intro _ (And.intro (pv_bool fun _ => nev70 _ _ _ _ _ _ _ _ _) ?_)) | (with_reducible refine Exists.intro _ (And.intro (pv_bool fun _ => eqv85 _ _ _ _ _ _ _ _ _) ?_)) | (with_reducible refine Exists.intro _ (And.intro (pv_bool fun _ => nev85 _ _ _ _ _ _ _ _ _) ?_)) | refine And.intro (by kernel_rfl) ?_ | refine And.intro (by omega) ?_ | refine And.intro (by decide) ?_)
  have hlen : badsP.length = 7 := rfl
  refine loop_I (by kernel_rfl) ty_ok (σ := Nat) (fun i => ([(0, sV (.bool false)), (1, .c (.at (.ptr 1 0))), (2, sD (.list 3 badsP)), (3, sV (.int .i64 (i : Int)))], [(1, .own [.d (i64 65535), .d (i64 1048576), .d (i64 (-1048576))])])) (fun i => i ≤ 7) (fun i => 7 - i) 0 (by omega) ⟨⟨rfl, rfl, rfl, rfl, trivial⟩, ⟨rfl, trivial⟩, rfl⟩ ?_
  intro i hi
  rcases Nat.lt_or_ge i 7 with hlt | hge
  · obtain ⟨k, a, b, hel, hbad⟩ := badsP_get hlt
    have hel' : badsP[(i : Int).toNat]? = some [i64 k, i64 a, i64 b] := by simpa using hel
    have C1 := kAt_fn k a b 0 0
    have C2 := kAhead_fn 65535 1048576 (-1048576) k a b 0 0
    have C3 := kMeet_fn k a b k a b
    have C4 := kFails_fn k a b 65535 1048576 (-1048576) 0 1
    have C5 := kCheck_fn k a b
    rw [show atV k a b 0 0 = (0, 0, 8) by unfold atV; rw [if_neg (by omega)]] at C1
    rw [show aheadV 65535 1048576 (-1048576) k a b 0 0 = (false, 8) by unfold aheadV; rw [two_bad2 hbad]; rfl] at C2
    rw [show meetV k a b k a b = (0, 0, 8) by unfold meetV; rw [two_bad1 hbad]; rfl] at C3
    rw [show failsV k a b 65535 1048576 (-1048576) 0 1 = (0, 0, false, 8) by unfold failsV; rw [two_bad1 hbad]; rfl] at C4
    rw [hbad] at C5
    simp only [ret3, retBI, retF] at C1 C2 C3 C4
    repeat' ((conv => whnf); first | (with_reducible refine br_t ?_) | (with_reducible refine br_f ?_) | (refine Exists.intro _ (And.intro (And.intro hel' (Nat.le_of_ble_eq_true rfl)) ?_)) | ((with_reducible refine brd_t ?_ ?_); (first | omega | decide)) | ((with_reducible refine brd_f ?_ ?_); (first | omega | decide)) | (with_reducible refine brd (fun h => ?_) (fun h => ?_)) | ((with_reducible refine bre_t ?_ ?_); (first | omega | decide)) | ((with_reducible refine bre_f ?_ ?_); (first | omega | decide)) | (with_reducible refine bre (fun h => ?_) (fun h => ?_)) | ((with_reducible refine brn_t ?_ ?_); (first | omega | decide)) | ((with_reducible refine brn_f ?_ ?_); (first | omega | decide)) | (with_reducible refine brn (fun h => ?_) (fun h => ?_)) | (with_reducible refine brb_tt ?_) | (with_reducible refine brb_ff ?_) | (with_reducible refine brb_tf ?_) | (with_reducible refine brb_ft ?_) | (with_reducible refine bnb_tt ?_) | (with_reducible refine bnb_ff ?_) | (with_reducible refine bnb_tf ?_) | (with_reducible refine bnb_ft ?_) | (with_reducible refine brnot ?_) | (refine br_t' (by assumption) ?_) | (refine br_f' (by assumption) ?_) | (with_reducible refine br_i (fun h => ?_) (fun h => ?_)) | (with_reducible refine Exists.intro _ (And.intro (lat_fn _) ?_)) | (with_reducible refine Exists.intro _ (And.intro (C1) ?_)) | (with_reducible refine Exists.intro _ (And.intro (C2) ?_)) | (with_reducible refine Exists.intro _ (And.intro (C3) ?_)) | (with_reducible refine Exists.intro _ (And.intro (C4) ?_)) | (with_reducible refine Exists.intro _ (And.intro (C5) ?_)) | (with_reducible refine Exists.intro _ (And.intro (pv_bool fun _ => eqv23 _ _ _ _ _ _ _ _ _) ?_)) | (with_reducible refine Exists.intro _ (And.intro (pv_bool fun _ => nev23 _ _ _ _ _ _ _ _ _) ?_)) | (with_reducible refine Exists.intro _ (And.intro (pv_bool fun _ => eqv25 _ _ _ _ _ _ _) ?_)) | (with_reducible refine Exists.intro _ (And.intro (pv_bool fun _ => nev25 _ _ _ _ _ _ _) ?_)) | (with_reducible refine Exists.intro _ (And.intro (pv_bool fun _ => eqv61 _ _ _ _ _ _ _) ?_)) | (with_reducible refine Exists.intro _ (And.intro (pv_bool fun _ => nev61 _ _ _ _ _ _ _) ?_)) | (with_reducible refine Exists.intro _ (And.intro (pv_bool fun _ => eqv70 _ _ _ _ _ _ _ _ _) ?_)) | (with_reducible refine Exists.intro _ (And.intro (pv_bool fun _ => nev70 _ _ _ _ _ _ _ _ _) ?_)) | (with_reducible refine Exists.intro _ (And.intro (pv_bool fun _ => eqv85 _ _ _ _ _ _ _ _ _) ?_)) | (with_reducible refine Exists.intro _ (And.intro (pv_bool fun _ => nev85 _ _ _ _ _ _ _ _ _) ?_)) | refine And.intro (by kernel_rfl) ?_ | refine And.intro (by omega) ?_ | refine And.intro (by decide) ?_)
    all_goals conv => whnf
    refine ⟨i + 1, by omega, ⟨⟨rfl, rfl, rfl, ?_, trivial⟩, ⟨rfl, trivial⟩, rfl⟩, ?_⟩
    · show some (sV (.int .i64 (IntKind.i64.wrap ((i : Int) + 1)))) = _
      rw [wrap_up (by omega)]
    · show 7 - (i + 1) < 7 - i
      omega
  · have : i = 7 := by omega
    subst this
    repeat' ((conv => whnf); first | (with_reducible refine br_t ?_) | (with_reducible refine br_f ?_) | ((with_reducible refine brd_t ?_ ?_); (first | omega | decide)) | ((with_reducible refine brd_f ?_ ?_); (first | omega | decide)) | (with_reducible refine brd (fun h => ?_) (fun h => ?_)) | ((with_reducible refine bre_t ?_ ?_); (first | omega | decide)) | ((with_reducible refine bre_f ?_ ?_); (first | omega | decide)) | (with_reducible refine bre (fun h => ?_) (fun h => ?_)) | ((with_reducible refine brn_t ?_ ?_); (first | omega | decide)) | ((with_reducible refine brn_f ?_ ?_); (first | omega | decide)) | (with_reducible refine brn (fun h => ?_) (fun h => ?_)) | (with_reducible refine brb_tt ?_) | (with_reducible refine brb_ff ?_) | (with_reducible refine brb_tf ?_) | (with_reducible refine brb_ft ?_) | (with_reducible refine bnb_tt ?_) | (with_reducible refine bnb_ff ?_) | (with_reducible refine bnb_tf ?_) | (with_reducible refine bnb_ft ?_) | (with_reducible refine brnot ?_) | (refine br_t' (by assumption) ?_) | (refine br_f' (by assumption) ?_) | (with_reducible refine br_i (fun h => ?_) (fun h => ?_)) | (with_reducible refine Exists.intro _ (And.intro (lof_fn _ _ _) ?_)) | (with_reducible refine Exists.intro _ (And.intro (lat_fn _) ?_)) | (with_reducible refine Exists.intro _ (And.intro (lalive2_fn) ?_)) | (with_reducible refine Exists.intro _ (And.intro (nm1) ?_)) | (with_reducible refine Exists.intro _ (And.intro (nm2) ?_)) | (with_reducible refine Exists.intro _ (And.intro (nm3) ?_)) | (with_reducible refine Exists.intro _ (And.intro (nm4) ?_)) | (with_reducible refine Exists.intro _ (And.intro (nm5) ?_)) | (with_reducible refine Exists.intro _ (And.intro (nm6) ?_)) | (with_reducible refine Exists.intro _ (And.intro (nm7) ?_)) | (with_reducible refine Exists.intro _ (And.intro (nm8) ?_)) | (with_reducible refine Exists.intro _ (And.intro (nm9) ?_)) | (with_reducible refine Exists.intro _ (And.intro (nm10) ?_)) | (with_reducible refine Exists.intro _ (And.intro (nm11) ?_)) | (with_reducible refine Exists.intro _ (And.intro (nm12) ?_)) | (with_reducible refine Exists.intro _ (And.intro (nm13) ?_)) | (with_reducible refine Exists.intro _ (And.intro (nm14) ?_)) | (with_reducible refine Exists.intro _ (And.intro (nm15) ?_)) | (with_reducible refine Exists.intro _ (And.intro (pv_bool fun _ => eqv23 _ _ _ _ _ _ _ _ _) ?_)) | (with_reducible refine Exists.intro _ (And.intro (pv_bool fun _ => nev23 _ _ _ _ _ _ _ _ _) ?_)) | (with_reducible refine Exists.intro _ (And.intro (pv_bool fun _ => eqv25 _ _ _ _ _ _ _) ?_)) | (with_reducible refine Exists.intro _ (And.intro (pv_bool fun _ => nev25 _ _ _ _ _ _ _) ?_)) | (with_reducible refine Exists.intro _ (And.intro (pv_bool fun _ => eqv61 _ _ _ _ _ _ _) ?_)) | (with_reducible refine Exists.intro _ (And.intro (pv_bool fun _ => nev61 _ _ _ _ _ _ _) ?_)) | (with_reducible refine Exists.intro _ (And.intro (pv_bool fun _ => eqv70 _ _ _ _ _ _ _ _ _) ?_)) | (with_reducible refine Exists.intro _ (And.intro (pv_bool fun _ => nev70 _ _ _ _ _ _ _ _ _) ?_)) | (with_reducible refine Exists.intro _ (And.intro (pv_bool fun _ => eqv85 _ _ _ _ _ _ _ _ _) ?_)) | (with_reducible refine Exists.intro _ (And.intro (pv_bool fun _ => nev85 _ _ _ _ _ _ _ _ _) ?_)) | refine And.intro (by kernel_rfl) ?_ | refine And.intro (by omega) ?_ | refine And.intro (by decide) ?_)
    all_goals conv => whnf
    all_goals rfl
theorem LCNames_true (w : World) : Calls Try.prog 5 #[] w fun e w' => e = .returned (.bool true) ∧ Below w.heap.size w w' :=
  calls_of_fn (vals := []) (fun _ _ => Try.call5 _ _) rfl rfl (by simp only [WDCs]) LCNames_fn w
end Go.Proofs.Ytffamgiknfphaaa
