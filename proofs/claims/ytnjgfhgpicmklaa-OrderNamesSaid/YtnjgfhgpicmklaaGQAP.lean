import Derived.Test.YtnjgfhgpicmklaaGQAN
import Derived.Test.YtnjgfhgpicmklaaGQAO
set_option linter.all false
namespace Go.Proofs.Ytnjgfhgpicmklaa
open Go Go.RowKit Go.Sort Sx
theorem errs_rng : ∀ {m : Md} (l : List Ak), mchk m = 0 → ∀ e ∈ errsV m l, 0 ≤ e ∧ e < 100
  | m, [], _, e, he => by cases he
  | m, a :: l, hm, e, he => by
    rw [errs_cons] at he
    rcases List.mem_cons.1 he with rfl | he
    · have := askV_rng hm a
      simp only [List.mem_cons, List.not_mem_nil, or_false] at this
      omega
    · exact errs_rng l (askV_ok hm a) e he
theorem qCounts_fn (m : Md) (l : List Ak) : FnOK Try.prog 27 [m.dc, .one (aks l)] (retCn (countsV m l)) := by
  have H := qErrors_fn m l
  unfold errorsV at H
  unfold countsV
  by_cases h : mchk m = 0
  · rw [if_pos h] at H ⊢
    by_cases h1 : 120 < l.length
    · rw [if_pos h1] at H ⊢
      refine fn_ok (by kernel_rfl) ty_ok Try.func27 rfl (fun _ _ => Try.call27 _ _) rfl ?_
      intro hw
      clear hw
      exact zw
    · rw [if_neg h1] at H ⊢
      have hE := errs_len m l
      have hR := errs_rng l h
      generalize errsV m l = es at *
      by_cases h0 : es = []
      · subst h0
        exact qCounts_nil H
      · exact qCounts_ne H hR (by omega) h0
  · rw [if_neg h] at H ⊢
    refine fn_ok (by kernel_rfl) ty_ok Try.func27 rfl (fun _ _ => Try.call27 _ _) rfl ?_
    intro hw
    clear hw
    exact zw
abbrev putA (i : Int) : Ak := ⟨1, ⟨i, 0, 0⟩, 0, 0, 0⟩
abbrev qxM : Md := ⟨0, 1, []⟩
abbrev qxL : List Ak := [putA 3, putA 3, ⟨2, ⟨0, 0, 0⟩, 4, 0, 0⟩, ⟨4, ⟨0, 0, 0⟩, 0, 0, 1⟩, ⟨5, ⟨0, 0, 0⟩, 0, 0, 0⟩]
abbrev qxF : Md := ⟨0, 1, [⟨0, 0, 0⟩, ⟨1, 0, 0⟩, ⟨3, 0, 0⟩]⟩
theorem qx_errs : errorsV qxM qxL = ([0, 14, 6, 44, 0], 0) := by decide
theorem qx_first : ofirstV qxM qxL = (1, 0) := by decide
theorem qx_kept : keptV qxM qxL = ([putA 3, ⟨5, ⟨0, 0, 0⟩, 0, 0, 0⟩], 0) := by decide
theorem qx_counts : countsV qxM qxL = ([(0, 2), (6, 1), (14, 1), (44, 1)], 0) := by
  have e : errsV qxM qxL = [0, 14, 6, 44, 0] := by decide
  unfold countsV
  rw [if_pos (by decide), if_neg (by decide), e]
  decide
theorem qx_free : freeV qxF = (2, 0) := by decide
theorem QLput_fn (i : Int) : FnOK Try.prog 21 [.one (i64 i)] (.c (Ak.dc (putA i))) := by
  refine fn_ok (by kernel_rfl) ty_ok Try.func21 rfl (fun _ _ => Try.call21 _ _) rfl ?_
  intro hw
  clear hw
  exact zw
theorem QLgiven_fn : FnOK Try.prog 19 [] (.tup [qxM.dc, .one (aks qxL)]) := by
  have A1 := QLput_fn 3
  simp only [Ak.dc] at A1
  refine fn_ok (by kernel_rfl) ty_ok Try.func19 rfl (fun _ _ => Try.call19 _ _) rfl ?_
  intro hw
  clear hw
  exact zw
set_option maxRecDepth 100000 in
set_option maxHeartbeats 4000000 in
theorem QLalive_fn : FnOK Try.prog 29 [] (.c (.one (bol true))) := by
  have G := QLgiven_fn
  have A := qErrors_fn qxM qxL
  rw [qx_errs] at A
  have B := qFirst_fn qxM qxL
  rw [qx_first] at B
  have C := qKept_fn qxM qxL
  rw [qx_kept] at C
  have D0 := qCounts_fn qxM qxL
  rw [qx_counts] at D0
  have E := qFree_fn qxF
  rw [qx_free] at E
  have S1 := rqSame_fn [0, 14, 6, 44, 0] [0, 14, 6, 44, 0]
  have S2 := r36SameAsks_fn [putA 3, ⟨5, ⟨0, 0, 0⟩, 0, 0, 0⟩] [putA 3, ⟨5, ⟨0, 0, 0⟩, 0, 0, 0⟩]
  have g0 : (qxL.map Ak.c)[(0 : Int).toNat]? = some [u8 1, i64 3, i64 0, i64 0, i64 0, i64 0, i64 0] := rfl
  have g4 : (qxL.map Ak.c)[(4 : Int).toNat]? = some [u8 5, i64 0, i64 0, i64 0, i64 0, i64 0, i64 0] := rfl
  have S3 := rqSameCounts_fn [(0, 2), (6, 1), (14, 1), (44, 1)] [(0, 2), (6, 1), (14, 1), (44, 1)]
  simp only [decide_true, retI, retK, retCn, ret2, qxM, qxL, qxF, aks, Md.dc, pts, List.map_cons, List.map_nil, Ak.c, Pt.c, putA, ints, prc] at G A B C D0 E S1 S2 S3 g0 g4
  refine fn_ok (by kernel_rfl) ty_ok Try.func29 rfl (fun _ _ => Try.call29 _ _) rfl ?_
  intro hw
  clear hw
  exact zw
theorem QLerr_fn (m : Md) (a : Ak) (e : Int) : FnOK Try.prog 20 [m.dc, a.dc, .one (i64 e)] (.c (.one (bol (decide (errV m a = (e, 0)))))) := by
  have H := qError_fn m a
  generalize errV m a = z at *
  obtain ⟨x, y⟩ := z
  by_cases h : y = 0
  · subst h
    by_cases h1 : x = e
    · subst h1
      refine fn_ok (by kernel_rfl) ty_ok Try.func20 rfl (fun _ _ => Try.call20 _ _) rfl ?_
      intro hw
      clear hw
      exact zwb
    · refine fn_ok (by kernel_rfl) ty_ok Try.func20 rfl (fun _ _ => Try.call20 _ _) rfl ?_
      intro hw
      clear hw
      repeat' ((conv => whnf); first | (with_reducible first | refine br_t ?_ | refine br_f ?_ | refine za ?_ | refine zg ?_) | refine zp ?_ | refine zq ?_ | (with_reducible first | refine bc (fun h => ?_) (fun h => ?_) | refine zt ?_ | refine zf ?_ | refine br_i (fun h => ?_) (fun h => ?_)) | refine zg ?_ | refine zi ?_ | refine zb ?_)
      all_goals conv => whnf
      all_goals exact r_bool (by simp [h1])
  · refine fn_ok (by kernel_rfl) ty_ok Try.func20 rfl (fun _ _ => Try.call20 _ _) rfl ?_
    intro hw
    clear hw
    repeat' ((conv => whnf); first | (with_reducible first | refine br_t ?_ | refine br_f ?_ | refine za ?_ | refine zg ?_) | refine zp ?_ | refine zq ?_ | (with_reducible first | refine bc (fun h => ?_) (fun h => ?_) | refine zt ?_ | refine zf ?_ | refine br_i (fun h => ?_) (fun h => ?_)) | refine zg ?_ | refine zi ?_ | refine zb ?_)
    all_goals conv => whnf
    all_goals exact r_bool (by simp [h])
theorem QLfit_fn (m : Md) (l : List Ak) : FnOK Try.prog 30 [m.dc, .one (aks l)] (.c (.one (bol (qfit m l)))) := by
  have G := rqGreat_fn m l
  have H := roCheck_fn m
  have hal : (l.map Ak.c).length = l.length := List.length_map ..
  unfold qfit
  by_cases h20 : l.length ≤ 20
  · rw [decide_eq_false (by omega : ¬ (20 < l.length ∧ l.length ≤ 120 ∨ 130 < l.length)), Bool.or_false] at G
    cases hg : great m.l <;> rw [hg] at G
    · by_cases h : mchk m = 0
      · rw [h] at H
        refine fn_ok (by kernel_rfl) ty_ok Try.func30 rfl (fun _ _ => Try.call30 _ _) rfl ?_
        intro hw
        clear hw
        repeat' ((conv => whnf); first | (with_reducible first | refine br_t ?_ | refine br_f ?_ | refine za ?_ | refine zg ?_) | rw [hal] | refine zp ?_ | refine zq ?_ | (with_reducible first | refine bc (fun h => ?_) (fun h => ?_) | refine zt ?_ | refine zf ?_ | refine br_i (fun h => ?_) (fun h => ?_)) | refine zg ?_ | refine zi ?_ | refine zb ?_)
        all_goals conv => whnf
        all_goals exact r_bool (by simp [h20, h])
      · have h8 := (mchk_08 m).resolve_left h
        rw [h8] at H
        refine fn_ok (by kernel_rfl) ty_ok Try.func30 rfl (fun _ _ => Try.call30 _ _) rfl ?_
        intro hw
        clear hw
        repeat' ((conv => whnf); first | (with_reducible first | refine br_t ?_ | refine br_f ?_ | refine za ?_ | refine zg ?_) | rw [hal] | refine zp ?_ | refine zq ?_ | (with_reducible first | refine bc (fun h => ?_) (fun h => ?_) | refine zt ?_ | refine zf ?_ | refine br_i (fun h => ?_) (fun h => ?_)) | refine zg ?_ | refine zi ?_ | refine zb ?_)
        all_goals conv => whnf
        all_goals exact r_bool (by simp [h])
    · clear H
      refine fn_ok (by kernel_rfl) ty_ok Try.func30 rfl (fun _ _ => Try.call30 _ _) rfl ?_
      intro hw
      clear hw
      repeat' ((conv => whnf); first | (with_reducible first | refine br_t ?_ | refine br_f ?_ | refine za ?_ | refine zg ?_) | rw [hal] | refine zp ?_ | refine zq ?_ | (with_reducible first | refine bc (fun h => ?_) (fun h => ?_) | refine zt ?_ | refine zf ?_ | refine br_i (fun h => ?_) (fun h => ?_)) | refine zg ?_ | refine zi ?_ | refine zb ?_)
      all_goals conv => whnf
      all_goals rfl
  · clear H
    generalize (great m.l || decide (20 < l.length ∧ l.length ≤ 120 ∨ 130 < l.length)) = q at *
    cases q
    · refine fn_ok (by kernel_rfl) ty_ok Try.func30 rfl (fun _ _ => Try.call30 _ _) rfl ?_
      intro hw
      clear hw
      repeat' ((conv => whnf); first | (with_reducible first | refine br_t ?_ | refine br_f ?_ | refine za ?_ | refine zg ?_) | rw [hal] | refine zp ?_ | refine zq ?_ | (with_reducible first | refine bc (fun h => ?_) (fun h => ?_) | refine zt ?_ | refine zf ?_ | refine br_i (fun h => ?_) (fun h => ?_)) | refine zg ?_ | refine zi ?_ | refine zb ?_)
      all_goals conv => whnf
      all_goals exact r_bool (by simp [h20])
    · refine fn_ok (by kernel_rfl) ty_ok Try.func30 rfl (fun _ _ => Try.call30 _ _) rfl ?_
      intro hw
      clear hw
      repeat' ((conv => whnf); first | (with_reducible first | refine br_t ?_ | refine br_f ?_ | refine za ?_ | refine zg ?_) | rw [hal] | refine zp ?_ | refine zq ?_ | (with_reducible first | refine bc (fun h => ?_) (fun h => ?_) | refine zt ?_ | refine zf ?_ | refine br_i (fun h => ?_) (fun h => ?_)) | refine zg ?_ | refine zi ?_ | refine zb ?_)
      all_goals conv => whnf
      all_goals exact r_bool (by simp [h20])
end Go.Proofs.Ytnjgfhgpicmklaa
