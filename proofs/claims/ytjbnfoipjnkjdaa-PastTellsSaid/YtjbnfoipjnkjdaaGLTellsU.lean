import Derived.Test.YtjbnfoipjnkjdaaGLTellsT
set_option linter.all false





/- The past: the reference's What, Leader, Order. No conditions. -/
namespace Go.Proofs.Ytjbnfoipjnkjdaa
open Go.RowKit Go.Sort Sx
set_option maxHeartbeats 2000000 in
theorem rpWhat_fn (p : Pa) (n e : Int) : FnOK Try.prog 18 [p.dc, rat n e] (retW (whatV p n e)) := by
  have H1 := rpCheck_fn p
  have H2 := rasked_fn n e
  unfold whatV
  by_cases h1 : pchk p = 0
  · rw [if_pos h1]
    rw [h1] at H1
    by_cases h2 : askd n e = 0
    · rw [if_pos h2]
      rw [h2] at H2
      have ht := askd_chk h2
      obtain ⟨k1, k2, k3, k4, k5⟩ := pchk_ok h1
      have hu := ups_of h1
      have hlt0 : 0 < p.ms.length := by omega
      have hel0 := mos_get hlt0
      have H3 := rcompare_fn n e p.n p.d
      have H0 := rcompare_fn n e p.ms[0].n p.ms[0].d
      have hw0 := wcnt_iff hu ht hlt0
      have hln : (p.ms.map Md.c).length = p.ms.length := List.length_map ..
      by_cases h3 : p.n * e < n * p.d
      · rw [if_pos h3]
        have e3 : cmpN (n * p.d) (p.n * e) = 1 := by unfold cmpN; rw [if_neg (by omega), if_pos h3]
        rw [e3] at H3
        generalize cmpN (n * p.ms[0].d) (p.ms[0].n * e) = y at *
        clear h3 e3 hw0
        by_cases hy : y < 0
        all_goals
          refine fn_ok (by kernel_rfl) ty_ok Try.func18 rfl (fun _ _ => Try.call18 _ _) rfl ?_
          intro hw
          clear hw
          repeat' ((conv => whnf); first | (with_reducible first | refine br_t ?_ | refine br_f ?_ | refine xa (by assumption) ?_ | refine xg (by assumption) rfl ?_ | refine xo (by assumption) ?_ | refine xb (by assumption) rfl ?_ | refine xm (by assumption) ?_ | refine xc (by assumption) ?_) | ((with_reducible refine bc_t ?_ ?_); (first | omega | decide)) | ((with_reducible refine bc_f ?_ ?_); (first | omega | decide)) | (with_reducible first | refine bc (fun h => ?_) (fun h => ?_) | refine br_t' (by assumption) ?_ | refine br_f' (by assumption) ?_ | refine br_i (fun h => ?_) (fun h => ?_)) | refine xg (by assumption) rfl ?_ | refine And.intro (by first | kernel_rfl | omega | (simp only [List.length_append, List.length_cons, List.length_nil, List.length_map, List.length_take, List.length_replicate]; omega) | decide) ?_)
          all_goals conv => whnf
          all_goals rfl
      · rw [if_neg h3]
        have e3 : cmpN (n * p.d) (p.n * e) ≤ 0 := by unfold cmpN; split <;> (try split) <;> omega
        generalize cmpN (n * p.d) (p.n * e) = z at H3 e3
        clear h3
        have hle := wcnt_le p.ms n e
        by_cases h0 : wcnt p.ms n e = 0
        · rw [if_pos h0]
          have e0 : cmpN (n * p.ms[0].d) (p.ms[0].n * e) = -1 := by
            have h5 : ¬ cmpN (p.ms[0].n * e) (n * p.ms[0].d) ≤ 0 := fun h => by have := hw0.1 h; omega
            unfold cmpN at h5 ⊢
            split at h5
            · omega
            · split at h5
              · rw [if_pos (by assumption)]
              · omega
          rw [e0] at H0
          clear hw0 e0
          refine fn_ok (by kernel_rfl) ty_ok Try.func18 rfl (fun _ _ => Try.call18 _ _) rfl ?_
          intro hw
          clear hw
          repeat' ((conv => whnf); first | (with_reducible first | refine br_t ?_ | refine br_f ?_ | refine xa (by assumption) ?_ | refine xg (by assumption) rfl ?_ | refine xo (by assumption) ?_ | refine xb (by assumption) rfl ?_ | refine xm (by assumption) ?_ | refine xc (by assumption) ?_) | ((with_reducible refine bc_t ?_ ?_); (first | omega | decide)) | ((with_reducible refine bc_f ?_ ?_); (first | omega | decide)) | (with_reducible first | refine bc (fun h => ?_) (fun h => ?_) | refine br_t' (by assumption) ?_ | refine br_f' (by assumption) ?_ | refine br_i (fun h => ?_) (fun h => ?_)) | refine xg (by assumption) rfl ?_ | refine And.intro (by first | kernel_rfl | omega | (simp only [List.length_append, List.length_cons, List.length_nil, List.length_map, List.length_take, List.length_replicate]; omega) | decide) ?_)
          all_goals conv => whnf
          all_goals rfl
        · rw [if_neg h0]
          have e0 : 0 ≤ cmpN (n * p.ms[0].d) (p.ms[0].n * e) := by
            have h5 := hw0.2 (by omega)
            unfold cmpN at h5 ⊢
            (repeat' split at h5) <;> (repeat' split) <;> omega
          generalize cmpN (n * p.ms[0].d) (p.ms[0].n * e) = y at H0 e0
          have hwi := fun i (hi : i < p.ms.length) => wcnt_iff hu ht hi
          clear hw0
          generalize hk : wcnt p.ms n e = k at *
          have hltk : k - 1 < p.ms.length := by omega
          have helk := mos_get hltk
          rw [List.getElem?_eq_getElem hltk]
          have H5 := rfTwin_fn p.ms[k - 1].l (by have := mchk_len (k5 _ (List.getElem_mem hltk)); omega)
          refine fn_ok (by kernel_rfl) ty_ok Try.func18 rfl (fun _ _ => Try.call18 _ _) rfl ?_
          intro hw
          clear hw
          repeat' ((conv => whnf); first | (with_reducible first | refine br_t ?_ | refine br_f ?_ | refine xa (by assumption) ?_ | refine xg (by assumption) rfl ?_ | refine xo (by assumption) ?_ | refine xb (by assumption) rfl ?_ | refine xm (by assumption) ?_ | refine xc (by assumption) ?_) | ((with_reducible refine bc_t ?_ ?_); (first | omega | decide)) | ((with_reducible refine bc_f ?_ ?_); (first | omega | decide)) | (with_reducible first | refine bc (fun h => ?_) (fun h => ?_) | refine br_t' (by assumption) ?_ | refine br_f' (by assumption) ?_ | refine br_i (fun h => ?_) (fun h => ?_)) | refine xg (by assumption) rfl ?_ | refine And.intro (by first | kernel_rfl | omega | (simp only [List.length_append, List.length_cons, List.length_nil, List.length_map, List.length_take, List.length_replicate]; omega) | decide) ?_)
          conv => whnf
          refine loop_J (by kernel_rfl) ty_ok (σ := Nat) (fun i => [(7, sV (.int .i64 i)), (6, sV (.int .i64 ((min i k - 1 : Nat) : Int)))]) (fun _ => []) (fun i => i ≤ p.ms.length) (fun i => p.ms.length - i) 0 (Nat.zero_le _) ?_ ?_
          · (conv => whnf); refine ⟨by repeat' (first | with_reducible exact zE0 | with_reducible refine zE1 ?_ ?_ | rfl | assumption | (exact congrArg (fun x => some (sV (.int .i64 x))) (by omega)) | (refine ent_i ?_; (first | omega | (rw [IntWalk.i64_in _ (by omega)]; omega) | (simp; done))) | (refine ent_b ?_; (first | omega | (rw [IntWalk.i64_in _ (by omega)]; omega) | (simp; done)))), by repeat' (first | with_reducible exact zH0 | with_reducible refine zH1 ?_ ?_ | rfl | assumption | (exact congrArg (fun x => some (sV (.int .i64 x))) (by omega))), rfl⟩
          intro i hi
          rcases Nat.lt_or_ge i p.ms.length with hlt | hge
          · have hel := mos_get hlt
            have H6 := rcompare_fn p.ms[i].n p.ms[i].d n e
            have h7 := hwi i hlt
            generalize cmpN (p.ms[i].n * e) (n * p.ms[i].d) = c at H6 h7
            by_cases hc : c ≤ 0
            · have h8 := h7.1 hc
              repeat' ((conv => whnf); first | (with_reducible first | refine br_t ?_ | refine br_f ?_ | refine xa (by assumption) ?_ | refine xg (by assumption) rfl ?_ | refine xo (by assumption) ?_ | refine xb (by assumption) rfl ?_ | refine xm (by assumption) ?_ | refine xc (by assumption) ?_) | ((with_reducible refine bc_t ?_ ?_); (first | omega | decide)) | ((with_reducible refine bc_f ?_ ?_); (first | omega | decide)) | (with_reducible first | refine bc (fun h => ?_) (fun h => ?_) | refine br_t' (by assumption) ?_ | refine br_f' (by assumption) ?_ | refine br_i (fun h => ?_) (fun h => ?_)) | refine xg (by assumption) rfl ?_ | refine And.intro (by first | kernel_rfl | omega | (simp only [List.length_append, List.length_cons, List.length_nil, List.length_map, List.length_take, List.length_replicate]; omega) | decide) ?_)
              all_goals conv => whnf
              refine ⟨i + 1, by omega, ?_, by omega⟩
              (conv => whnf); refine ⟨by repeat' (first | with_reducible exact zE0 | with_reducible refine zE1 ?_ ?_ | rfl | assumption | (refine ent_i ?_; (first | omega | (rw [IntWalk.i64_in _ (by omega)]; omega) | (simp; done))) | (refine ent_b ?_; (first | omega | (rw [IntWalk.i64_in _ (by omega)]; omega) | (simp; done)))), by repeat' (first | with_reducible exact zH0 | with_reducible refine zH1 ?_ ?_ | rfl | assumption), rfl⟩
            · have h8 : ¬ i < k := fun h => hc (h7.2 h)
              repeat' ((conv => whnf); first | (with_reducible first | refine br_t ?_ | refine br_f ?_ | refine xa (by assumption) ?_ | refine xg (by assumption) rfl ?_ | refine xo (by assumption) ?_ | refine xb (by assumption) rfl ?_ | refine xm (by assumption) ?_ | refine xc (by assumption) ?_) | ((with_reducible refine bc_t ?_ ?_); (first | omega | decide)) | ((with_reducible refine bc_f ?_ ?_); (first | omega | decide)) | (with_reducible first | refine bc (fun h => ?_) (fun h => ?_) | refine br_t' (by assumption) ?_ | refine br_f' (by assumption) ?_ | refine br_i (fun h => ?_) (fun h => ?_)) | refine xg (by assumption) rfl ?_ | refine And.intro (by first | kernel_rfl | omega | (simp only [List.length_append, List.length_cons, List.length_nil, List.length_map, List.length_take, List.length_replicate]; omega) | decide) ?_)
              all_goals conv => whnf
              refine ⟨i + 1, by omega, ?_, by omega⟩
              (conv => whnf); refine ⟨by repeat' (first | with_reducible exact zE0 | with_reducible refine zE1 ?_ ?_ | rfl | assumption | (refine ent_i ?_; (first | omega | (rw [IntWalk.i64_in _ (by omega)]; omega) | (simp; done))) | (refine ent_b ?_; (first | omega | (rw [IntWalk.i64_in _ (by omega)]; omega) | (simp; done)))), by repeat' (first | with_reducible exact zH0 | with_reducible refine zH1 ?_ ?_ | rfl | assumption), rfl⟩
          · have hmin : (min i k - 1 : Nat) = k - 1 := by omega
            rw [hmin]
            repeat' ((conv => whnf); first | (with_reducible first | refine br_t ?_ | refine br_f ?_ | refine xa (by assumption) ?_ | refine xg (by assumption) rfl ?_ | refine xo (by assumption) ?_ | refine xb (by assumption) rfl ?_ | refine xm (by assumption) ?_ | refine xc (by assumption) ?_) | ((with_reducible refine bc_t ?_ ?_); (first | omega | decide)) | ((with_reducible refine bc_f ?_ ?_); (first | omega | decide)) | (with_reducible first | refine bc (fun h => ?_) (fun h => ?_) | refine br_t' (by assumption) ?_ | refine br_f' (by assumption) ?_ | refine br_i (fun h => ?_) (fun h => ?_)) | refine xg (by assumption) rfl ?_ | refine And.intro (by first | kernel_rfl | omega | (simp only [List.length_append, List.length_cons, List.length_nil, List.length_map, List.length_take, List.length_replicate]; omega) | decide) ?_)
            all_goals conv => whnf
            all_goals rfl
    · rw [if_neg h2]
      generalize askd n e = z at *
      refine fn_ok (by kernel_rfl) ty_ok Try.func18 rfl (fun _ _ => Try.call18 _ _) rfl ?_
      intro hw
      clear hw
      repeat' ((conv => whnf); first | (with_reducible first | refine br_t ?_ | refine br_f ?_ | refine xa (by assumption) ?_ | refine xg (by assumption) rfl ?_ | refine xo (by assumption) ?_ | refine xb (by assumption) rfl ?_ | refine xm (by assumption) ?_ | refine xc (by assumption) ?_) | ((with_reducible refine bc_t ?_ ?_); (first | omega | decide)) | ((with_reducible refine bc_f ?_ ?_); (first | omega | decide)) | (with_reducible first | refine bc (fun h => ?_) (fun h => ?_) | refine br_t' (by assumption) ?_ | refine br_f' (by assumption) ?_ | refine br_i (fun h => ?_) (fun h => ?_)) | refine xg (by assumption) rfl ?_ | refine And.intro (by first | kernel_rfl | omega | (simp only [List.length_append, List.length_cons, List.length_nil, List.length_map, List.length_take, List.length_replicate]; omega) | decide) ?_)
      all_goals conv => whnf
      all_goals rfl
  · rw [if_neg h1]
    have h8 : pchk p = 8 := (pchk_08 p).resolve_left h1
    rw [h8] at H1
    refine fn_ok (by kernel_rfl) ty_ok Try.func18 rfl (fun _ _ => Try.call18 _ _) rfl ?_
    intro hw
    clear hw
    repeat' ((conv => whnf); first | (with_reducible first | refine br_t ?_ | refine br_f ?_ | refine xa (by assumption) ?_ | refine xg (by assumption) rfl ?_ | refine xo (by assumption) ?_ | refine xb (by assumption) rfl ?_ | refine xm (by assumption) ?_ | refine xc (by assumption) ?_) | ((with_reducible refine bc_t ?_ ?_); (first | omega | decide)) | ((with_reducible refine bc_f ?_ ?_); (first | omega | decide)) | (with_reducible first | refine bc (fun h => ?_) (fun h => ?_) | refine br_t' (by assumption) ?_ | refine br_f' (by assumption) ?_ | refine br_i (fun h => ?_) (fun h => ?_)) | refine xg (by assumption) rfl ?_ | refine And.intro (by first | kernel_rfl | omega | (simp only [List.length_append, List.length_cons, List.length_nil, List.length_map, List.length_take, List.length_replicate]; omega) | decide) ?_)
    all_goals conv => whnf
    all_goals rfl
/-- what is answered at what there was -/
def pleadV (p : Pa) (n e : Int) : Int × Int := if (whatV p n e).2 = 0 then leadV (whatV p n e).1 n e else (0, (whatV p n e).2)
theorem pLeader_fn (p : Pa) (n e : Int) : FnOK Try.prog 19 [p.dc, rat n e] (ret2 (pleadV p n e)) := by
  have H1 := pWhat_fn p n e
  unfold pleadV
  generalize whatV p n e = w at *
  obtain ⟨l, r⟩ := w
  simp only [retW] at *
  have H2 := fLeader_fn l n e
  by_cases h : r = 0
  · rw [if_pos h]
    generalize leadV l n e = y at *
    obtain ⟨u, v⟩ := y
    simp only [ret2] at *
    refine fn_ok (by kernel_rfl) ty_ok Try.func19 rfl (fun _ _ => Try.call19 _ _) rfl ?_
    intro hw
    clear hw
    repeat' ((conv => whnf); first | (with_reducible first | refine br_t ?_ | refine br_f ?_ | refine xa (by assumption) ?_ | refine xg (by assumption) rfl ?_ | refine xo (by assumption) ?_ | refine xb (by assumption) rfl ?_ | refine xm (by assumption) ?_ | refine xc (by assumption) ?_) | ((with_reducible refine bc_t ?_ ?_); (first | omega | decide)) | ((with_reducible refine bc_f ?_ ?_); (first | omega | decide)) | (with_reducible first | refine bc (fun h => ?_) (fun h => ?_) | refine br_t' (by assumption) ?_ | refine br_f' (by assumption) ?_ | refine br_i (fun h => ?_) (fun h => ?_)) | refine xg (by assumption) rfl ?_ | refine And.intro (by first | kernel_rfl | omega | (simp only [List.length_append, List.length_cons, List.length_nil, List.length_map, List.length_take, List.length_replicate]; omega) | decide) ?_)
    all_goals conv => whnf
    all_goals rfl
  · rw [if_neg h]
    refine fn_ok (by kernel_rfl) ty_ok Try.func19 rfl (fun _ _ => Try.call19 _ _) rfl ?_
    intro hw
    clear hw
    repeat' ((conv => whnf); first | (with_reducible first | refine br_t ?_ | refine br_f ?_ | refine xa (by assumption) ?_ | refine xg (by assumption) rfl ?_ | refine xo (by assumption) ?_ | refine xb (by assumption) rfl ?_ | refine xm (by assumption) ?_ | refine xc (by assumption) ?_) | ((with_reducible refine bc_t ?_ ?_); (first | omega | decide)) | ((with_reducible refine bc_f ?_ ?_); (first | omega | decide)) | (with_reducible first | refine bc (fun h => ?_) (fun h => ?_) | refine br_t' (by assumption) ?_ | refine br_f' (by assumption) ?_ | refine br_i (fun h => ?_) (fun h => ?_)) | refine xg (by assumption) rfl ?_ | refine And.intro (by first | kernel_rfl | omega | (simp only [List.length_append, List.length_cons, List.length_nil, List.length_map, List.length_take, List.length_replicate]; omega) | decide) ?_)
    all_goals conv => whnf
    all_goals rfl
theorem rpLeader_fn (p : Pa) (n e : Int) : FnOK Try.prog 20 [p.dc, rat n e] (ret2 (pleadV p n e)) := by
  have H1 := rpWhat_fn p n e
  unfold pleadV
  generalize whatV p n e = w at *
  obtain ⟨l, r⟩ := w
  simp only [retW] at *
  have H2 := rfLeader_fn l n e
  by_cases h : r = 0
  · rw [if_pos h]
    generalize leadV l n e = y at *
    obtain ⟨u, v⟩ := y
    simp only [ret2] at *
    refine fn_ok (by kernel_rfl) ty_ok Try.func20 rfl (fun _ _ => Try.call20 _ _) rfl ?_
    intro hw
    clear hw
    repeat' ((conv => whnf); first | (with_reducible first | refine br_t ?_ | refine br_f ?_ | refine xa (by assumption) ?_ | refine xg (by assumption) rfl ?_ | refine xo (by assumption) ?_ | refine xb (by assumption) rfl ?_ | refine xm (by assumption) ?_ | refine xc (by assumption) ?_) | ((with_reducible refine bc_t ?_ ?_); (first | omega | decide)) | ((with_reducible refine bc_f ?_ ?_); (first | omega | decide)) | (with_reducible first | refine bc (fun h => ?_) (fun h => ?_) | refine br_t' (by assumption) ?_ | refine br_f' (by assumption) ?_ | refine br_i (fun h => ?_) (fun h => ?_)) | refine xg (by assumption) rfl ?_ | refine And.intro (by first | kernel_rfl | omega | (simp only [List.length_append, List.length_cons, List.length_nil, List.length_map, List.length_take, List.length_replicate]; omega) | decide) ?_)
    all_goals conv => whnf
    all_goals rfl
  · rw [if_neg h]
    refine fn_ok (by kernel_rfl) ty_ok Try.func20 rfl (fun _ _ => Try.call20 _ _) rfl ?_
    intro hw
    clear hw
    repeat' ((conv => whnf); first | (with_reducible first | refine br_t ?_ | refine br_f ?_ | refine xa (by assumption) ?_ | refine xg (by assumption) rfl ?_ | refine xo (by assumption) ?_ | refine xb (by assumption) rfl ?_ | refine xm (by assumption) ?_ | refine xc (by assumption) ?_) | ((with_reducible refine bc_t ?_ ?_); (first | omega | decide)) | ((with_reducible refine bc_f ?_ ?_); (first | omega | decide)) | (with_reducible first | refine bc (fun h => ?_) (fun h => ?_) | refine br_t' (by assumption) ?_ | refine br_f' (by assumption) ?_ | refine br_i (fun h => ?_) (fun h => ?_)) | refine xg (by assumption) rfl ?_ | refine And.intro (by first | kernel_rfl | omega | (simp only [List.length_append, List.length_cons, List.length_nil, List.length_map, List.length_take, List.length_replicate]; omega) | decide) ?_)
    all_goals conv => whnf
    all_goals rfl
def pordV (p : Pa) (n e : Int) : List Int × Int := if (whatV p n e).2 = 0 then orderV (whatV p n e).1 n e else ([], (whatV p n e).2)
theorem pOrder_fn (p : Pa) (n e : Int) : FnOK Try.prog 21 [p.dc, rat n e] (retO (pordV p n e)) := by
  have H1 := pWhat_fn p n e
  unfold pordV
  generalize whatV p n e = w at *
  obtain ⟨l, r⟩ := w
  simp only [retW] at *
  have H2 := fOrder_fn l n e
  by_cases h : r = 0
  · rw [if_pos h]
    generalize orderV l n e = y at *
    obtain ⟨u, v⟩ := y
    simp only [retO] at *
    refine fn_ok (by kernel_rfl) ty_ok Try.func21 rfl (fun _ _ => Try.call21 _ _) rfl ?_
    intro hw
    clear hw
    repeat' ((conv => whnf); first | (with_reducible first | refine br_t ?_ | refine br_f ?_ | refine xa (by assumption) ?_ | refine xg (by assumption) rfl ?_ | refine xo (by assumption) ?_ | refine xb (by assumption) rfl ?_ | refine xm (by assumption) ?_ | refine xc (by assumption) ?_) | ((with_reducible refine bc_t ?_ ?_); (first | omega | decide)) | ((with_reducible refine bc_f ?_ ?_); (first | omega | decide)) | (with_reducible first | refine bc (fun h => ?_) (fun h => ?_) | refine br_t' (by assumption) ?_ | refine br_f' (by assumption) ?_ | refine br_i (fun h => ?_) (fun h => ?_)) | refine xg (by assumption) rfl ?_ | refine And.intro (by first | kernel_rfl | omega | (simp only [List.length_append, List.length_cons, List.length_nil, List.length_map, List.length_take, List.length_replicate]; omega) | decide) ?_)
    all_goals conv => whnf
    all_goals rfl
  · rw [if_neg h]
    refine fn_ok (by kernel_rfl) ty_ok Try.func21 rfl (fun _ _ => Try.call21 _ _) rfl ?_
    intro hw
    clear hw
    repeat' ((conv => whnf); first | (with_reducible first | refine br_t ?_ | refine br_f ?_ | refine xa (by assumption) ?_ | refine xg (by assumption) rfl ?_ | refine xo (by assumption) ?_ | refine xb (by assumption) rfl ?_ | refine xm (by assumption) ?_ | refine xc (by assumption) ?_) | ((with_reducible refine bc_t ?_ ?_); (first | omega | decide)) | ((with_reducible refine bc_f ?_ ?_); (first | omega | decide)) | (with_reducible first | refine bc (fun h => ?_) (fun h => ?_) | refine br_t' (by assumption) ?_ | refine br_f' (by assumption) ?_ | refine br_i (fun h => ?_) (fun h => ?_)) | refine xg (by assumption) rfl ?_ | refine And.intro (by first | kernel_rfl | omega | (simp only [List.length_append, List.length_cons, List.length_nil, List.length_map, List.length_take, List.length_replicate]; omega) | decide) ?_)
    all_goals conv => whnf
    all_goals rfl
theorem rpOrder_fn (p : Pa) (n e : Int) : FnOK Try.prog 22 [p.dc, rat n e] (retO (pordV p n e)) := by
  have H1 := rpWhat_fn p n e
  unfold pordV
  generalize whatV p n e = w at *
  obtain ⟨l, r⟩ := w
  simp only [retW] at *
  have H2 := rfOrder_fn l n e
  by_cases h : r = 0
  · rw [if_pos h]
    generalize orderV l n e = y at *
    obtain ⟨u, v⟩ := y
    simp only [retO] at *
    refine fn_ok (by kernel_rfl) ty_ok Try.func22 rfl (fun _ _ => Try.call22 _ _) rfl ?_
    intro hw
    clear hw
    repeat' ((conv => whnf); first | (with_reducible first | refine br_t ?_ | refine br_f ?_ | refine xa (by assumption) ?_ | refine xg (by assumption) rfl ?_ | refine xo (by assumption) ?_ | refine xb (by assumption) rfl ?_ | refine xm (by assumption) ?_ | refine xc (by assumption) ?_) | ((with_reducible refine bc_t ?_ ?_); (first | omega | decide)) | ((with_reducible refine bc_f ?_ ?_); (first | omega | decide)) | (with_reducible first | refine bc (fun h => ?_) (fun h => ?_) | refine br_t' (by assumption) ?_ | refine br_f' (by assumption) ?_ | refine br_i (fun h => ?_) (fun h => ?_)) | refine xg (by assumption) rfl ?_ | refine And.intro (by first | kernel_rfl | omega | (simp only [List.length_append, List.length_cons, List.length_nil, List.length_map, List.length_take, List.length_replicate]; omega) | decide) ?_)
    all_goals conv => whnf
    all_goals rfl
  · rw [if_neg h]
    refine fn_ok (by kernel_rfl) ty_ok Try.func22 rfl (fun _ _ => Try.call22 _ _) rfl ?_
    intro hw
    clear hw
    repeat' ((conv => whnf); first | (with_reducible first | refine br_t ?_ | refine br_f ?_ | refine xa (by assumption) ?_ | refine xg (by assumption) rfl ?_ | refine xo (by assumption) ?_ | refine xb (by assumption) rfl ?_ | refine xm (by assumption) ?_ | refine xc (by assumption) ?_) | ((with_reducible refine bc_t ?_ ?_); (first | omega | decide)) | ((with_reducible refine bc_f ?_ ?_); (first | omega | decide)) | (with_reducible first | refine bc (fun h => ?_) (fun h => ?_) | refine br_t' (by assumption) ?_ | refine br_f' (by assumption) ?_ | refine br_i (fun h => ?_) (fun h => ?_)) | refine xg (by assumption) rfl ?_ | refine And.intro (by first | kernel_rfl | omega | (simp only [List.length_append, List.length_cons, List.length_nil, List.length_map, List.length_take, List.length_replicate]; omega) | decide) ?_)
    all_goals conv => whnf
    all_goals rfl
end Go.Proofs.Ytjbnfoipjnkjdaa






/- The past: when a point was there. No conditions. -/
namespace Go.Proofs.Ytjbnfoipjnkjdaa
open Go.RowKit Go.Sort Sx
def aln (l : List Pt) (id : Int) : List Pt := if has l id then [l[pos l id]?.getD default] else []
theorem at1_has {l : List Pt} {id : Int} (hs : incr l = true) : at1 l id 0 = if has l id then (pos l id : Int) else -1 := by
  obtain ⟨h1, h2⟩ := pos_spec (id := id) hs
  have h3 := has_pos (id := id) hs
  have hne : ∀ k (h : k < l.length), k < pos l id → l[k].id ≠ id := fun k h hk => by have := h1 k h hk; omega
  cases hh : has l id
  · rw [if_neg (by decide)]
    have hn : ∀ k (h : k < l.length), k < l.length → l[k].id ≠ id := fun k h _ e => by
      have : has l id = true := by unfold has; exact List.any_eq_true.2 ⟨_, List.getElem_mem h, by simpa using e⟩
      rw [hh] at this; cases this
    rw [at1_drop rfl (Nat.le_refl _) hn, List.drop_eq_nil_of_le (Nat.le_refl _), at1]
  · obtain ⟨hlt, he⟩ := h3.1 hh
    rw [if_pos rfl, at1_drop rfl (by omega) hne, List.drop_eq_getElem_cons hlt, at1, if_pos he]
theorem rpalone_fn {l : List Pt} (id : Int) (hs : incr l = true) (hl : l.length ≤ 1000000) : FnOK Try.prog 46 [fld l, .one (i64 id)] (.c (fld (aln l id))) := by
  have H := rfAt_fn l id
  rw [at1_has hs] at H
  unfold aln
  cases hh : has l id
  · rw [hh, if_neg (by decide)] at H
    refine fn_ok (by kernel_rfl) (ty_okK [20] [] []) Try.func46 rfl (fun _ _ => Try.call46 _ _) rfl ?_
    intro hw
    clear hw
    repeat' ((conv => whnf); first | (with_reducible first | refine br_t ?_ | refine br_f ?_ | refine xa (by assumption) ?_ | refine xg (by assumption) rfl ?_ | refine xo (by assumption) ?_ | refine xb (by assumption) rfl ?_ | refine xm (by assumption) ?_ | refine xc (by assumption) ?_) | rw [List.length_map] | ((with_reducible refine bc_t ?_ ?_); (first | omega | decide)) | ((with_reducible refine bc_f ?_ ?_); (first | omega | decide)) | (with_reducible first | refine bc (fun h => ?_) (fun h => ?_) | refine br_t' (by assumption) ?_ | refine br_f' (by assumption) ?_ | refine br_i (fun h => ?_) (fun h => ?_)) | refine xg (by assumption) rfl ?_ | refine And.intro (by first | kernel_rfl | omega | (simp only [List.length_append, List.length_cons, List.length_nil, List.length_map, List.length_take, List.length_replicate]; omega) | decide) ?_)
    all_goals conv => whnf
    all_goals rfl
  · rw [hh, if_pos rfl] at H
    obtain ⟨hlt, _⟩ := (has_pos hs).1 hh
    have hel := pts_get hlt
    rw [if_pos rfl, List.getElem?_eq_getElem hlt]
    refine fn_ok (by kernel_rfl) (ty_okK [20] [] []) Try.func46 rfl (fun _ _ => Try.call46 _ _) rfl ?_
    intro hw
    clear hw
    repeat' ((conv => whnf); first | (with_reducible first | refine br_t ?_ | refine br_f ?_ | refine xa (by assumption) ?_ | refine xg (by assumption) rfl ?_ | refine xo (by assumption) ?_ | refine xb (by assumption) rfl ?_ | refine xm (by assumption) ?_ | refine xc (by assumption) ?_) | rw [List.length_map] | ((with_reducible refine bc_t ?_ ?_); (first | omega | decide)) | ((with_reducible refine bc_f ?_ ?_); (first | omega | decide)) | (with_reducible first | refine bc (fun h => ?_) (fun h => ?_) | refine br_t' (by assumption) ?_ | refine br_f' (by assumption) ?_ | refine br_i (fun h => ?_) (fun h => ?_)) | refine xg (by assumption) rfl ?_ | refine And.intro (by first | kernel_rfl | omega | (simp only [List.length_append, List.length_cons, List.length_nil, List.length_map, List.length_take, List.length_replicate]; omega) | decide) ?_)
    all_goals conv => whnf
    all_goals rfl
def wasL : List Md → Int → List Pt → List Md
  | [], _, _ => []
  | m :: l, id, b => (if b = aln m.l id then [] else [⟨m.n, m.d, aln m.l id⟩]) ++ wasL l id (aln m.l id)
theorem wasL_lt {l : List Md} {id : Int} {b : List Pt} {i : Nat} (h : i < l.length) : wasL (l.drop i) id b = (if b = aln l[i].l id then [] else [⟨l[i].n, l[i].d, aln l[i].l id⟩]) ++ wasL (l.drop (i + 1)) id (aln l[i].l id) := by
  rw [List.drop_eq_getElem_cons h, wasL]
theorem wasL_ge {l : List Md} {id : Int} {b : List Pt} {i : Nat} (h : l.length ≤ i) : wasL (l.drop i) id b = [] := by
  rw [List.drop_eq_nil_of_le h, wasL]
def wasV (p : Pa) (id : Int) : List Md × Int := if pchk p = 0 then (wasL p.ms id [], 0) else ([], 8)
abbrev retM (x : List Md × Int) : DV := .tup [.one (mos x.1), .one (i64 x.2)]
set_option maxHeartbeats 4000000 in
theorem rpWas_fn (p : Pa) (id : Int) : FnOK Try.prog 24 [p.dc, .one (i64 id)] (retM (wasV p id)) := by
  have H1 := rpCheck_fn p
  unfold wasV
  by_cases h1 : pchk p = 0
  · rw [if_pos h1]
    rw [h1] at H1
    obtain ⟨k1, k2, k3, k4, k5⟩ := pchk_ok h1
    have hln : (p.ms.map Md.c).length = p.ms.length := List.length_map ..
    refine fn_ok (by kernel_rfl) (ty_okK [45] [] []) Try.func24 rfl (fun _ _ => Try.call24 _ _) rfl ?_
    intro hw
    clear hw
    repeat' ((conv => whnf); first | (with_reducible first | refine br_t ?_ | refine br_f ?_ | refine xa (by assumption) ?_ | refine xg (by assumption) rfl ?_ | refine xo (by assumption) ?_ | refine xb (by assumption) rfl ?_ | refine xm (by assumption) ?_ | refine xc (by assumption) ?_) | ((with_reducible refine bc_t ?_ ?_); (first | omega | decide)) | ((with_reducible refine bc_f ?_ ?_); (first | omega | decide)) | (with_reducible first | refine bc (fun h => ?_) (fun h => ?_) | refine br_t' (by assumption) ?_ | refine br_f' (by assumption) ?_ | refine br_i (fun h => ?_) (fun h => ?_)) | refine xg (by assumption) rfl ?_ | refine And.intro (by first | kernel_rfl | omega | (simp only [List.length_append, List.length_cons, List.length_nil, List.length_map, List.length_take, List.length_replicate]; omega) | decide) ?_)
    refine loop_name 6 0 100 rfl rfl rfl ?_
    refine loop_J (by kernel_rfl) (ty_okK [45] [] []) (σ := Nat × List Md × List Pt × D) (fun s => [(8, sV (.int .i64 s.1)), (6, .c (.at (.osl 100 0)))]) (fun s => [(7, .own [.d s.2.2.2]), (100, .row 3 (s.2.1.map Md.c) 0)])
      (fun s => s.1 ≤ p.ms.length ∧ s.2.1.length ≤ s.1 ∧ (s.2.2.2 = .nil 3 ∧ s.2.2.1 = [] ∨ s.2.2.2 = pts s.2.2.1) ∧ s.2.1 ++ wasL (p.ms.drop s.1) id s.2.2.1 = wasL p.ms id []) (fun s => p.ms.length - s.1) (0, [], [], .nil 3) ⟨Nat.zero_le _, Nat.zero_le _, .inl ⟨rfl, rfl⟩, rfl⟩ ?_ ?_
    · (conv => whnf); refine ⟨by repeat' (first | with_reducible exact zE0 | with_reducible refine zE1 ?_ ?_ | rfl | assumption | (refine ent_i ?_; (first | omega | (rw [IntWalk.i64_in _ (by omega)]; omega) | (simp; done))) | (refine ent_b ?_; (first | omega | (rw [IntWalk.i64_in _ (by omega)]; omega) | (simp; done)))), by repeat' (first | with_reducible exact zH0 | with_reducible refine zH1 ?_ ?_ | rfl | assumption), rfl⟩
    rintro ⟨i, o, b, bd⟩ ⟨g1, g2, g3, g4⟩
    simp only at g1 g2 g3 g4
    rcases Nat.lt_or_ge i p.ms.length with hlt | hge
    · have hel := mos_get hlt
      obtain ⟨m1, m2, m3⟩ := fchk_ok (mchk_ok (k5 _ (List.getElem_mem hlt))).2
      have H2 := rpalone_fn id m3 (by omega)
      have H3 := rfSame_fn b (aln p.ms[i].l id)
      rw [wasL_lt hlt] at g4
      generalize aln p.ms[i].l id = a at *
      have ho : (o.map Md.c).length = o.length := List.length_map ..
      have ha : o.map Md.c ++ [[i64 p.ms[i].n, i64 p.ms[i].d, pts a]] = (o ++ [(⟨p.ms[i].n, p.ms[i].d, a⟩ : Md)]).map Md.c := by rw [List.map_append]; rfl
      rcases g3 with ⟨rfl, rfl⟩ | rfl
      · change FnOK _ _ [.agg [.list 3 []], fld a] _ at H3
        by_cases hc : [] = a
        · rw [decide_eq_true hc] at H3
          rw [if_pos hc, List.nil_append] at g4
          clear hc
          repeat' ((conv => whnf); first | (with_reducible first | refine br_t ?_ | refine br_f ?_ | refine xa (by assumption) ?_ | refine xg (by assumption) rfl ?_ | refine xo (by assumption) ?_ | refine xb (by assumption) rfl ?_ | refine xm (by assumption) ?_ | refine xc (by assumption) ?_) | ((with_reducible refine bc_t ?_ ?_); (first | omega | decide)) | ((with_reducible refine bc_f ?_ ?_); (first | omega | decide)) | (with_reducible first | refine bc (fun h => ?_) (fun h => ?_) | refine br_t' (by assumption) ?_ | refine br_f' (by assumption) ?_ | refine br_i (fun h => ?_) (fun h => ?_)) | refine xg (by assumption) rfl ?_ | refine And.intro (by first | kernel_rfl | omega | (simp only [List.length_append, List.length_cons, List.length_nil, List.length_map, List.length_take, List.length_replicate]; omega) | decide) ?_)
          all_goals conv => whnf
          refine ⟨(i + 1, o, a, pts a), ⟨by show _ ≤ _; omega, by show o.length ≤ i + 1; omega, .inr rfl, g4⟩, ?_, by show _ - _ < _ - _; omega⟩
          (conv => whnf); refine ⟨by repeat' (first | with_reducible exact zE0 | with_reducible refine zE1 ?_ ?_ | rfl | assumption | (refine ent_i ?_; (first | omega | (rw [IntWalk.i64_in _ (by omega)]; omega) | (simp; done))) | (refine ent_b ?_; (first | omega | (rw [IntWalk.i64_in _ (by omega)]; omega) | (simp; done)))), by repeat' (first | with_reducible exact zH0 | with_reducible refine zH1 ?_ ?_ | rfl | assumption), rfl⟩
        · rw [decide_eq_false hc] at H3
          rw [if_neg hc, ← List.append_assoc] at g4
          clear hc
          repeat' ((conv => whnf); first | (with_reducible first | refine br_t ?_ | refine br_f ?_ | refine xa (by assumption) ?_ | refine xg (by assumption) rfl ?_ | refine xo (by assumption) ?_ | refine xb (by assumption) rfl ?_ | refine xm (by assumption) ?_ | refine xc (by assumption) ?_) | ((with_reducible refine bc_t ?_ ?_); (first | omega | decide)) | ((with_reducible refine bc_f ?_ ?_); (first | omega | decide)) | (with_reducible first | refine bc (fun h => ?_) (fun h => ?_) | refine br_t' (by assumption) ?_ | refine br_f' (by assumption) ?_ | refine br_i (fun h => ?_) (fun h => ?_)) | refine xg (by assumption) rfl ?_ | refine And.intro (by first | kernel_rfl | omega | (simp only [List.length_append, List.length_cons, List.length_nil, List.length_map, List.length_take, List.length_replicate]; omega) | decide) ?_)
          all_goals conv => whnf
          refine ⟨(i + 1, o ++ [(⟨p.ms[i].n, p.ms[i].d, a⟩ : Md)], a, pts a), ⟨by show _ ≤ _; omega, by show (o ++ [_]).length ≤ _; rw [List.length_append, List.length_singleton]; omega, .inr rfl, g4⟩, ?_, by show _ - _ < _ - _; omega⟩
          (conv => whnf); refine ⟨by repeat' (first | with_reducible exact zE0 | with_reducible refine zE1 ?_ ?_ | rfl | assumption | (exact congrArg (fun x => some (Blk.row 3 x 0)) ha) | (refine ent_i ?_; (first | omega | (rw [IntWalk.i64_in _ (by omega)]; omega) | (simp; done))) | (refine ent_b ?_; (first | omega | (rw [IntWalk.i64_in _ (by omega)]; omega) | (simp; done)))), by repeat' (first | with_reducible exact zH0 | with_reducible refine zH1 ?_ ?_ | rfl | assumption | (exact congrArg (fun x => some (Blk.row 3 x 0)) ha)), rfl⟩
      · by_cases hc : b = a
        · rw [decide_eq_true hc] at H3
          rw [if_pos hc, List.nil_append] at g4
          clear hc
          repeat' ((conv => whnf); first | (with_reducible first | refine br_t ?_ | refine br_f ?_ | refine xa (by assumption) ?_ | refine xg (by assumption) rfl ?_ | refine xo (by assumption) ?_ | refine xb (by assumption) rfl ?_ | refine xm (by assumption) ?_ | refine xc (by assumption) ?_) | ((with_reducible refine bc_t ?_ ?_); (first | omega | decide)) | ((with_reducible refine bc_f ?_ ?_); (first | omega | decide)) | (with_reducible first | refine bc (fun h => ?_) (fun h => ?_) | refine br_t' (by assumption) ?_ | refine br_f' (by assumption) ?_ | refine br_i (fun h => ?_) (fun h => ?_)) | refine xg (by assumption) rfl ?_ | refine And.intro (by first | kernel_rfl | omega | (simp only [List.length_append, List.length_cons, List.length_nil, List.length_map, List.length_take, List.length_replicate]; omega) | decide) ?_)
          all_goals conv => whnf
          refine ⟨(i + 1, o, a, pts a), ⟨by show _ ≤ _; omega, by show o.length ≤ i + 1; omega, .inr rfl, g4⟩, ?_, by show _ - _ < _ - _; omega⟩
          (conv => whnf); refine ⟨by repeat' (first | with_reducible exact zE0 | with_reducible refine zE1 ?_ ?_ | rfl | assumption | (refine ent_i ?_; (first | omega | (rw [IntWalk.i64_in _ (by omega)]; omega) | (simp; done))) | (refine ent_b ?_; (first | omega | (rw [IntWalk.i64_in _ (by omega)]; omega) | (simp; done)))), by repeat' (first | with_reducible exact zH0 | with_reducible refine zH1 ?_ ?_ | rfl | assumption), rfl⟩
        · rw [decide_eq_false hc] at H3
          rw [if_neg hc, ← List.append_assoc] at g4
          clear hc
          repeat' ((conv => whnf); first | (with_reducible first | refine br_t ?_ | refine br_f ?_ | refine xa (by assumption) ?_ | refine xg (by assumption) rfl ?_ | refine xo (by assumption) ?_ | refine xb (by assumption) rfl ?_ | refine xm (by assumption) ?_ | refine xc (by assumption) ?_) | ((with_reducible refine bc_t ?_ ?_); (first | omega | decide)) | ((with_reducible refine bc_f ?_ ?_); (first | omega | decide)) | (with_reducible first | refine bc (fun h => ?_) (fun h => ?_) | refine br_t' (by assumption) ?_ | refine br_f' (by assumption) ?_ | refine br_i (fun h => ?_) (fun h => ?_)) | refine xg (by assumption) rfl ?_ | refine And.intro (by first | kernel_rfl | omega | (simp only [List.length_append, List.length_cons, List.length_nil, List.length_map, List.length_take, List.length_replicate]; omega) | decide) ?_)
          all_goals conv => whnf
          refine ⟨(i + 1, o ++ [(⟨p.ms[i].n, p.ms[i].d, a⟩ : Md)], a, pts a), ⟨by show _ ≤ _; omega, by show (o ++ [_]).length ≤ _; rw [List.length_append, List.length_singleton]; omega, .inr rfl, g4⟩, ?_, by show _ - _ < _ - _; omega⟩
          (conv => whnf); refine ⟨by repeat' (first | with_reducible exact zE0 | with_reducible refine zE1 ?_ ?_ | rfl | assumption | (exact congrArg (fun x => some (Blk.row 3 x 0)) ha) | (refine ent_i ?_; (first | omega | (rw [IntWalk.i64_in _ (by omega)]; omega) | (simp; done))) | (refine ent_b ?_; (first | omega | (rw [IntWalk.i64_in _ (by omega)]; omega) | (simp; done)))), by repeat' (first | with_reducible exact zH0 | with_reducible refine zH1 ?_ ?_ | rfl | assumption | (exact congrArg (fun x => some (Blk.row 3 x 0)) ha)), rfl⟩
    · rw [wasL_ge hge, List.append_nil] at g4
      rw [← g4]
      rcases g3 with ⟨rfl, rfl⟩ | rfl
      all_goals
        repeat' ((conv => whnf); first | (with_reducible first | refine br_t ?_ | refine br_f ?_ | refine xa (by assumption) ?_ | refine xg (by assumption) rfl ?_ | refine xo (by assumption) ?_ | refine xb (by assumption) rfl ?_ | refine xm (by assumption) ?_ | refine xc (by assumption) ?_) | ((with_reducible refine bc_t ?_ ?_); (first | omega | decide)) | ((with_reducible refine bc_f ?_ ?_); (first | omega | decide)) | (with_reducible first | refine bc (fun h => ?_) (fun h => ?_) | refine br_t' (by assumption) ?_ | refine br_f' (by assumption) ?_ | refine br_i (fun h => ?_) (fun h => ?_)) | refine xg (by assumption) rfl ?_ | refine And.intro (by first | kernel_rfl | omega | (simp only [List.length_append, List.length_cons, List.length_nil, List.length_map, List.length_take, List.length_replicate]; omega) | decide) ?_)
        all_goals conv => whnf
        all_goals rfl
  · rw [if_neg h1]
    have h8 : pchk p = 8 := (pchk_08 p).resolve_left h1
    rw [h8] at H1
    refine fn_ok (by kernel_rfl) ty_ok Try.func24 rfl (fun _ _ => Try.call24 _ _) rfl ?_
    intro hw
    clear hw
    repeat' ((conv => whnf); first | (with_reducible first | refine br_t ?_ | refine br_f ?_ | refine xa (by assumption) ?_ | refine xg (by assumption) rfl ?_ | refine xo (by assumption) ?_ | refine xb (by assumption) rfl ?_ | refine xm (by assumption) ?_ | refine xc (by assumption) ?_) | ((with_reducible refine bc_t ?_ ?_); (first | omega | decide)) | ((with_reducible refine bc_f ?_ ?_); (first | omega | decide)) | (with_reducible first | refine bc (fun h => ?_) (fun h => ?_) | refine br_t' (by assumption) ?_ | refine br_f' (by assumption) ?_ | refine br_i (fun h => ?_) (fun h => ?_)) | refine xg (by assumption) rfl ?_ | refine And.intro (by first | kernel_rfl | omega | (simp only [List.length_append, List.length_cons, List.length_nil, List.length_map, List.length_take, List.length_replicate]; omega) | decide) ?_)
    all_goals conv => whnf
    all_goals rfl
end Go.Proofs.Ytjbnfoipjnkjdaa






/- The past: when a point was there, the program's walk. No conditions. -/
namespace Go.Proofs.Ytjbnfoipjnkjdaa
open Go.RowKit Go.Sort Sx
theorem find_aln {l : List Pt} {id : Int} (h : fchk l = 0) : (∃ x, findV l id = (x, 0) ∧ aln l id = [x]) ∨ findV l id = (⟨0, 0, 0⟩, 6) ∧ aln l id = [] := by
  unfold findV aln
  rw [if_pos h]
  cases hh : has l id
  · exact .inr ⟨rfl, rfl⟩
  · exact .inl ⟨_, rfl, rfl⟩
set_option maxHeartbeats 4000000 in
theorem pWas_fn (p : Pa) (id : Int) : FnOK Try.prog 23 [p.dc, .one (i64 id)] (retM (wasV p id)) := by
  have H1 := pCheck_fn p
  unfold wasV
  by_cases h1 : pchk p = 0
  · rw [if_pos h1]
    rw [h1] at H1
    obtain ⟨k1, k2, k3, k4, k5⟩ := pchk_ok h1
    have hln : (p.ms.map Md.c).length = p.ms.length := List.length_map ..
    refine fn_ok (by kernel_rfl) (ty_okK [48] [] []) Try.func23 rfl (fun _ _ => Try.call23 _ _) rfl ?_
    intro hw
    clear hw
    repeat' ((conv => whnf); first | (with_reducible first | refine br_t ?_ | refine br_f ?_ | refine xa (by assumption) ?_ | refine xg (by assumption) rfl ?_ | refine xo (by assumption) ?_ | refine xb (by assumption) rfl ?_ | refine xm (by assumption) ?_ | refine xc (by assumption) ?_) | ((with_reducible refine bc_t ?_ ?_); (first | omega | decide)) | ((with_reducible refine bc_f ?_ ?_); (first | omega | decide)) | (with_reducible first | refine bc (fun h => ?_) (fun h => ?_) | refine br_t' (by assumption) ?_ | refine br_f' (by assumption) ?_ | refine br_i (fun h => ?_) (fun h => ?_)) | refine xg (by assumption) rfl ?_ | refine And.intro (by first | kernel_rfl | omega | (simp only [List.length_append, List.length_cons, List.length_nil, List.length_map, List.length_take, List.length_replicate]; omega) | decide) ?_)
    refine loop_name 7 0 100 rfl rfl rfl ?_
    refine loop_J (by kernel_rfl) (ty_okK [48] [] []) (σ := Nat × List Md × List Pt × D) (fun s => [(22, sV (.int .i64 s.1)), (7, .c (.at (.osl 100 0)))]) (fun s => [(8, .own [.d s.2.2.2]), (100, .row 3 (s.2.1.map Md.c) 0)])
      (fun s => s.1 ≤ p.ms.length ∧ s.2.1.length ≤ s.1 ∧ (s.2.2.2 = .nil 3 ∧ s.2.2.1 = [] ∨ s.2.2.2 = pts s.2.2.1) ∧ s.2.1 ++ wasL (p.ms.drop s.1) id s.2.2.1 = wasL p.ms id []) (fun s => p.ms.length - s.1) (0, [], [], .nil 3) ⟨Nat.zero_le _, Nat.zero_le _, .inl ⟨rfl, rfl⟩, rfl⟩ ?_ ?_
    · (conv => whnf); refine ⟨by repeat' (first | with_reducible exact zE0 | with_reducible refine zE1 ?_ ?_ | rfl | assumption | (refine ent_i ?_; (first | omega | (rw [IntWalk.i64_in _ (by omega)]; omega) | (simp; done))) | (refine ent_b ?_; (first | omega | (rw [IntWalk.i64_in _ (by omega)]; omega) | (simp; done)))), by repeat' (first | with_reducible exact zH0 | with_reducible refine zH1 ?_ ?_ | rfl | assumption), rfl⟩
    rintro ⟨i, o, b, bd⟩ ⟨g1, g2, g3, g4⟩
    simp only at g1 g2 g3 g4
    rcases Nat.lt_or_ge i p.ms.length with hlt | hge
    · have hel := mos_get hlt
      have hfc := (mchk_ok (k5 _ (List.getElem_mem hlt))).2
      have H2 := fFind_fn p.ms[i].l id
      have H3 := psame_fn b (aln p.ms[i].l id)
      rw [wasL_lt hlt] at g4
      have ho : (o.map Md.c).length = o.length := List.length_map ..
      have ha : o.map Md.c ++ [[i64 p.ms[i].n, i64 p.ms[i].d, pts (aln p.ms[i].l id)]] = (o ++ [(⟨p.ms[i].n, p.ms[i].d, aln p.ms[i].l id⟩ : Md)]).map Md.c := by rw [List.map_append]; rfl
      rcases find_aln (id := id) hfc with ⟨x, f1, f2⟩ | ⟨f1, f2⟩
      all_goals rw [f1] at H2
      all_goals rw [f2] at H3 g4 ha
      all_goals simp only [retPt] at H2
      · rcases g3 with ⟨rfl, rfl⟩ | rfl
        · change FnOK _ _ [.agg [.list 3 []], .agg [.list 3 [[i64 x.id, i64 x.a, i64 x.b]]]] _ at H3
          by_cases hc : [] = [x]
          · rw [decide_eq_true hc] at H3
            rw [if_pos hc, List.nil_append] at g4
            clear hc
            repeat' ((conv => whnf); first | (with_reducible first | refine br_t ?_ | refine br_f ?_ | refine xa (by assumption) ?_ | refine xg (by assumption) rfl ?_ | refine xo (by assumption) ?_ | refine xb (by assumption) rfl ?_ | refine xm (by assumption) ?_ | refine xc (by assumption) ?_) | ((with_reducible refine bc_t ?_ ?_); (first | omega | decide)) | ((with_reducible refine bc_f ?_ ?_); (first | omega | decide)) | (with_reducible first | refine bc (fun h => ?_) (fun h => ?_) | refine br_t' (by assumption) ?_ | refine br_f' (by assumption) ?_ | refine br_i (fun h => ?_) (fun h => ?_)) | refine xg (by assumption) rfl ?_ | refine And.intro (by first | kernel_rfl | omega | (simp only [List.length_append, List.length_cons, List.length_nil, List.length_map, List.length_take, List.length_replicate]; omega) | decide) ?_)
            all_goals conv => whnf
            refine ⟨(i + 1, o, [x], pts [x]), ⟨by show _ ≤ _; omega, by show o.length ≤ i + 1; omega, .inr rfl, g4⟩, ?_, by show _ - _ < _ - _; omega⟩
            (conv => whnf); refine ⟨by repeat' (first | with_reducible exact zE0 | with_reducible refine zE1 ?_ ?_ | rfl | assumption | (refine ent_i ?_; (first | omega | (rw [IntWalk.i64_in _ (by omega)]; omega) | (simp; done))) | (refine ent_b ?_; (first | omega | (rw [IntWalk.i64_in _ (by omega)]; omega) | (simp; done)))), by repeat' (first | with_reducible exact zH0 | with_reducible refine zH1 ?_ ?_ | rfl | assumption), rfl⟩
          · rw [decide_eq_false hc] at H3
            rw [if_neg hc, ← List.append_assoc] at g4
            clear hc
            repeat' ((conv => whnf); first | (with_reducible first | refine br_t ?_ | refine br_f ?_ | refine xa (by assumption) ?_ | refine xg (by assumption) rfl ?_ | refine xo (by assumption) ?_ | refine xb (by assumption) rfl ?_ | refine xm (by assumption) ?_ | refine xc (by assumption) ?_) | ((with_reducible refine bc_t ?_ ?_); (first | omega | decide)) | ((with_reducible refine bc_f ?_ ?_); (first | omega | decide)) | (with_reducible first | refine bc (fun h => ?_) (fun h => ?_) | refine br_t' (by assumption) ?_ | refine br_f' (by assumption) ?_ | refine br_i (fun h => ?_) (fun h => ?_)) | refine xg (by assumption) rfl ?_ | refine And.intro (by first | kernel_rfl | omega | (simp only [List.length_append, List.length_cons, List.length_nil, List.length_map, List.length_take, List.length_replicate]; omega) | decide) ?_)
            all_goals conv => whnf
            refine ⟨(i + 1, o ++ [(⟨p.ms[i].n, p.ms[i].d, [x]⟩ : Md)], [x], pts [x]), ⟨by show _ ≤ _; omega, by show (o ++ [_]).length ≤ _; rw [List.length_append, List.length_singleton]; omega, .inr rfl, g4⟩, ?_, by show _ - _ < _ - _; omega⟩
            (conv => whnf); refine ⟨by repeat' (first | with_reducible exact zE0 | with_reducible refine zE1 ?_ ?_ | rfl | assumption | (exact congrArg (fun x => some (Blk.row 3 x 0)) ha) | (refine ent_i ?_; (first | omega | (rw [IntWalk.i64_in _ (by omega)]; omega) | (simp; done))) | (refine ent_b ?_; (first | omega | (rw [IntWalk.i64_in _ (by omega)]; omega) | (simp; done)))), by repeat' (first | with_reducible exact zH0 | with_reducible refine zH1 ?_ ?_ | rfl | assumption | (exact congrArg (fun x => some (Blk.row 3 x 0)) ha)), rfl⟩
        · change FnOK _ _ [fld b, .agg [.list 3 [[i64 x.id, i64 x.a, i64 x.b]]]] _ at H3
          by_cases hc : b = [x]
          · rw [decide_eq_true hc] at H3
            rw [if_pos hc, List.nil_append] at g4
            clear hc
            repeat' ((conv => whnf); first | (with_reducible first | refine br_t ?_ | refine br_f ?_ | refine xa (by assumption) ?_ | refine xg (by assumption) rfl ?_ | refine xo (by assumption) ?_ | refine xb (by assumption) rfl ?_ | refine xm (by assumption) ?_ | refine xc (by assumption) ?_) | ((with_reducible refine bc_t ?_ ?_); (first | omega | decide)) | ((with_reducible refine bc_f ?_ ?_); (first | omega | decide)) | (with_reducible first | refine bc (fun h => ?_) (fun h => ?_) | refine br_t' (by assumption) ?_ | refine br_f' (by assumption) ?_ | refine br_i (fun h => ?_) (fun h => ?_)) | refine xg (by assumption) rfl ?_ | refine And.intro (by first | kernel_rfl | omega | (simp only [List.length_append, List.length_cons, List.length_nil, List.length_map, List.length_take, List.length_replicate]; omega) | decide) ?_)
            all_goals conv => whnf
            refine ⟨(i + 1, o, [x], pts [x]), ⟨by show _ ≤ _; omega, by show o.length ≤ i + 1; omega, .inr rfl, g4⟩, ?_, by show _ - _ < _ - _; omega⟩
            (conv => whnf); refine ⟨by repeat' (first | with_reducible exact zE0 | with_reducible refine zE1 ?_ ?_ | rfl | assumption | (refine ent_i ?_; (first | omega | (rw [IntWalk.i64_in _ (by omega)]; omega) | (simp; done))) | (refine ent_b ?_; (first | omega | (rw [IntWalk.i64_in _ (by omega)]; omega) | (simp; done)))), by repeat' (first | with_reducible exact zH0 | with_reducible refine zH1 ?_ ?_ | rfl | assumption), rfl⟩
          · rw [decide_eq_false hc] at H3
            rw [if_neg hc, ← List.append_assoc] at g4
            clear hc
            repeat' ((conv => whnf); first | (with_reducible first | refine br_t ?_ | refine br_f ?_ | refine xa (by assumption) ?_ | refine xg (by assumption) rfl ?_ | refine xo (by assumption) ?_ | refine xb (by assumption) rfl ?_ | refine xm (by assumption) ?_ | refine xc (by assumption) ?_) | ((with_reducible refine bc_t ?_ ?_); (first | omega | decide)) | ((with_reducible refine bc_f ?_ ?_); (first | omega | decide)) | (with_reducible first | refine bc (fun h => ?_) (fun h => ?_) | refine br_t' (by assumption) ?_ | refine br_f' (by assumption) ?_ | refine br_i (fun h => ?_) (fun h => ?_)) | refine xg (by assumption) rfl ?_ | refine And.intro (by first | kernel_rfl | omega | (simp only [List.length_append, List.length_cons, List.length_nil, List.length_map, List.length_take, List.length_replicate]; omega) | decide) ?_)
            all_goals conv => whnf
            refine ⟨(i + 1, o ++ [(⟨p.ms[i].n, p.ms[i].d, [x]⟩ : Md)], [x], pts [x]), ⟨by show _ ≤ _; omega, by show (o ++ [_]).length ≤ _; rw [List.length_append, List.length_singleton]; omega, .inr rfl, g4⟩, ?_, by show _ - _ < _ - _; omega⟩
            (conv => whnf); refine ⟨by repeat' (first | with_reducible exact zE0 | with_reducible refine zE1 ?_ ?_ | rfl | assumption | (exact congrArg (fun x => some (Blk.row 3 x 0)) ha) | (refine ent_i ?_; (first | omega | (rw [IntWalk.i64_in _ (by omega)]; omega) | (simp; done))) | (refine ent_b ?_; (first | omega | (rw [IntWalk.i64_in _ (by omega)]; omega) | (simp; done)))), by repeat' (first | with_reducible exact zH0 | with_reducible refine zH1 ?_ ?_ | rfl | assumption | (exact congrArg (fun x => some (Blk.row 3 x 0)) ha)), rfl⟩
      · rcases g3 with ⟨rfl, rfl⟩ | rfl
        · change FnOK _ _ [.agg [.list 3 []], .agg [.list 3 []]] _ at H3
          by_cases hc : ([] : List Pt) = []
          · rw [decide_eq_true hc] at H3
            rw [if_pos hc, List.nil_append] at g4
            clear hc
            repeat' ((conv => whnf); first | (with_reducible first | refine br_t ?_ | refine br_f ?_ | refine xa (by assumption) ?_ | refine xg (by assumption) rfl ?_ | refine xo (by assumption) ?_ | refine xb (by assumption) rfl ?_ | refine xm (by assumption) ?_ | refine xc (by assumption) ?_) | ((with_reducible refine bc_t ?_ ?_); (first | omega | decide)) | ((with_reducible refine bc_f ?_ ?_); (first | omega | decide)) | (with_reducible first | refine bc (fun h => ?_) (fun h => ?_) | refine br_t' (by assumption) ?_ | refine br_f' (by assumption) ?_ | refine br_i (fun h => ?_) (fun h => ?_)) | refine xg (by assumption) rfl ?_ | refine And.intro (by first | kernel_rfl | omega | (simp only [List.length_append, List.length_cons, List.length_nil, List.length_map, List.length_take, List.length_replicate]; omega) | decide) ?_)
            all_goals conv => whnf
            refine ⟨(i + 1, o, [], .nil 3), ⟨by show _ ≤ _; omega, by show o.length ≤ i + 1; omega, .inl ⟨rfl, rfl⟩, g4⟩, ?_, by show _ - _ < _ - _; omega⟩
            (conv => whnf); refine ⟨by repeat' (first | with_reducible exact zE0 | with_reducible refine zE1 ?_ ?_ | rfl | assumption | (refine ent_i ?_; (first | omega | (rw [IntWalk.i64_in _ (by omega)]; omega) | (simp; done))) | (refine ent_b ?_; (first | omega | (rw [IntWalk.i64_in _ (by omega)]; omega) | (simp; done)))), by repeat' (first | with_reducible exact zH0 | with_reducible refine zH1 ?_ ?_ | rfl | assumption), rfl⟩
          · rw [decide_eq_false hc] at H3
            rw [if_neg hc, ← List.append_assoc] at g4
            clear hc
            repeat' ((conv => whnf); first | (with_reducible first | refine br_t ?_ | refine br_f ?_ | refine xa (by assumption) ?_ | refine xg (by assumption) rfl ?_ | refine xo (by assumption) ?_ | refine xb (by assumption) rfl ?_ | refine xm (by assumption) ?_ | refine xc (by assumption) ?_) | ((with_reducible refine bc_t ?_ ?_); (first | omega | decide)) | ((with_reducible refine bc_f ?_ ?_); (first | omega | decide)) | (with_reducible first | refine bc (fun h => ?_) (fun h => ?_) | refine br_t' (by assumption) ?_ | refine br_f' (by assumption) ?_ | refine br_i (fun h => ?_) (fun h => ?_)) | refine xg (by assumption) rfl ?_ | refine And.intro (by first | kernel_rfl | omega | (simp only [List.length_append, List.length_cons, List.length_nil, List.length_map, List.length_take, List.length_replicate]; omega) | decide) ?_)
            all_goals conv => whnf
            refine ⟨(i + 1, o ++ [(⟨p.ms[i].n, p.ms[i].d, []⟩ : Md)], [], .nil 3), ⟨by show _ ≤ _; omega, by show (o ++ [_]).length ≤ _; rw [List.length_append, List.length_singleton]; omega, .inl ⟨rfl, rfl⟩, g4⟩, ?_, by show _ - _ < _ - _; omega⟩
            (conv => whnf); refine ⟨by repeat' (first | with_reducible exact zE0 | with_reducible refine zE1 ?_ ?_ | rfl | assumption | (exact congrArg (fun x => some (Blk.row 3 x 0)) ha) | (refine ent_i ?_; (first | omega | (rw [IntWalk.i64_in _ (by omega)]; omega) | (simp; done))) | (refine ent_b ?_; (first | omega | (rw [IntWalk.i64_in _ (by omega)]; omega) | (simp; done)))), by repeat' (first | with_reducible exact zH0 | with_reducible refine zH1 ?_ ?_ | rfl | assumption | (exact congrArg (fun x => some (Blk.row 3 x 0)) ha)), rfl⟩
        · change FnOK _ _ [fld b, .agg [.list 3 []]] _ at H3
          by_cases hc : b = []
          · rw [decide_eq_true hc] at H3
            rw [if_pos hc, List.nil_append] at g4
            clear hc
            repeat' ((conv => whnf); first | (with_reducible first | refine br_t ?_ | refine br_f ?_ | refine xa (by assumption) ?_ | refine xg (by assumption) rfl ?_ | refine xo (by assumption) ?_ | refine xb (by assumption) rfl ?_ | refine xm (by assumption) ?_ | refine xc (by assumption) ?_) | ((with_reducible refine bc_t ?_ ?_); (first | omega | decide)) | ((with_reducible refine bc_f ?_ ?_); (first | omega | decide)) | (with_reducible first | refine bc (fun h => ?_) (fun h => ?_) | refine br_t' (by assumption) ?_ | refine br_f' (by assumption) ?_ | refine br_i (fun h => ?_) (fun h => ?_)) | refine xg (by assumption) rfl ?_ | refine And.intro (by first | kernel_rfl | omega | (simp only [List.length_append, List.length_cons, List.length_nil, List.length_map, List.length_take, List.length_replicate]; omega) | decide) ?_)
            all_goals conv => whnf
            refine ⟨(i + 1, o, [], .nil 3), ⟨by show _ ≤ _; omega, by show o.length ≤ i + 1; omega, .inl ⟨rfl, rfl⟩, g4⟩, ?_, by show _ - _ < _ - _; omega⟩
            (conv => whnf); refine ⟨by repeat' (first | with_reducible exact zE0 | with_reducible refine zE1 ?_ ?_ | rfl | assumption | (refine ent_i ?_; (first | omega | (rw [IntWalk.i64_in _ (by omega)]; omega) | (simp; done))) | (refine ent_b ?_; (first | omega | (rw [IntWalk.i64_in _ (by omega)]; omega) | (simp; done)))), by repeat' (first | with_reducible exact zH0 | with_reducible refine zH1 ?_ ?_ | rfl | assumption), rfl⟩
          · rw [decide_eq_false hc] at H3
            rw [if_neg hc, ← List.append_assoc] at g4
            clear hc
            repeat' ((conv => whnf); first | (with_reducible first | refine br_t ?_ | refine br_f ?_ | refine xa (by assumption) ?_ | refine xg (by assumption) rfl ?_ | refine xo (by assumption) ?_ | refine xb (by assumption) rfl ?_ | refine xm (by assumption) ?_ | refine xc (by assumption) ?_) | ((with_reducible refine bc_t ?_ ?_); (first | omega | decide)) | ((with_reducible refine bc_f ?_ ?_); (first | omega | decide)) | (with_reducible first | refine bc (fun h => ?_) (fun h => ?_) | refine br_t' (by assumption) ?_ | refine br_f' (by assumption) ?_ | refine br_i (fun h => ?_) (fun h => ?_)) | refine xg (by assumption) rfl ?_ | refine And.intro (by first | kernel_rfl | omega | (simp only [List.length_append, List.length_cons, List.length_nil, List.length_map, List.length_take, List.length_replicate]; omega) | decide) ?_)
            all_goals conv => whnf
            refine ⟨(i + 1, o ++ [(⟨p.ms[i].n, p.ms[i].d, []⟩ : Md)], [], .nil 3), ⟨by show _ ≤ _; omega, by show (o ++ [_]).length ≤ _; rw [List.length_append, List.length_singleton]; omega, .inl ⟨rfl, rfl⟩, g4⟩, ?_, by show _ - _ < _ - _; omega⟩
            (conv => whnf); refine ⟨by repeat' (first | with_reducible exact zE0 | with_reducible refine zE1 ?_ ?_ | rfl | assumption | (exact congrArg (fun x => some (Blk.row 3 x 0)) ha) | (refine ent_i ?_; (first | omega | (rw [IntWalk.i64_in _ (by omega)]; omega) | (simp; done))) | (refine ent_b ?_; (first | omega | (rw [IntWalk.i64_in _ (by omega)]; omega) | (simp; done)))), by repeat' (first | with_reducible exact zH0 | with_reducible refine zH1 ?_ ?_ | rfl | assumption | (exact congrArg (fun x => some (Blk.row 3 x 0)) ha)), rfl⟩
    · rw [wasL_ge hge, List.append_nil] at g4
      rw [← g4]
      rcases g3 with ⟨rfl, rfl⟩ | rfl
      all_goals
        repeat' ((conv => whnf); first | (with_reducible first | refine br_t ?_ | refine br_f ?_ | refine xa (by assumption) ?_ | refine xg (by assumption) rfl ?_ | refine xo (by assumption) ?_ | refine xb (by assumption) rfl ?_ | refine xm (by assumption) ?_ | refine xc (by assumption) ?_) | ((with_reducible refine bc_t ?_ ?_); (first | omega | decide)) | ((with_reducible refine bc_f ?_ ?_); (first | omega | decide)) | (with_reducible first | refine bc (fun h => ?_) (fun h => ?_) | refine br_t' (by assumption) ?_ | refine br_f' (by assumption) ?_ | refine br_i (fun h => ?_) (fun h => ?_)) | refine xg (by assumption) rfl ?_ | refine And.intro (by first | kernel_rfl | omega | (simp only [List.length_append, List.length_cons, List.length_nil, List.length_map, List.length_take, List.length_replicate]; omega) | decide) ?_)
        all_goals conv => whnf
        all_goals rfl
  · rw [if_neg h1]
    have h8 : pchk p = 8 := (pchk_08 p).resolve_left h1
    rw [h8] at H1
    refine fn_ok (by kernel_rfl) ty_ok Try.func23 rfl (fun _ _ => Try.call23 _ _) rfl ?_
    intro hw
    clear hw
    repeat' ((conv => whnf); first | (with_reducible first | refine br_t ?_ | refine br_f ?_ | refine xa (by assumption) ?_ | refine xg (by assumption) rfl ?_ | refine xo (by assumption) ?_ | refine xb (by assumption) rfl ?_ | refine xm (by assumption) ?_ | refine xc (by assumption) ?_) | ((with_reducible refine bc_t ?_ ?_); (first | omega | decide)) | ((with_reducible refine bc_f ?_ ?_); (first | omega | decide)) | (with_reducible first | refine bc (fun h => ?_) (fun h => ?_) | refine br_t' (by assumption) ?_ | refine br_f' (by assumption) ?_ | refine br_i (fun h => ?_) (fun h => ?_)) | refine xg (by assumption) rfl ?_ | refine And.intro (by first | kernel_rfl | omega | (simp only [List.length_append, List.length_cons, List.length_nil, List.length_map, List.length_take, List.length_replicate]; omega) | decide) ?_)
    all_goals conv => whnf
    all_goals rfl
end Go.Proofs.Ytjbnfoipjnkjdaa
