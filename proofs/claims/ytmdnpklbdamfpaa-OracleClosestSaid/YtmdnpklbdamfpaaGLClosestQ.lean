import Derived.Test.YtmdnpklbdamfpaaGLClosestP
set_option linter.all false




/- The oracle's closest pair, and the reference's: the walks. No conditions. -/
namespace Go.Proofs.Ytmdnpklbdamfpaa
open Go.RowKit Go.Sort Sx
theorem ofirst_fn (a b : Int) : FnOK Try.prog 7 [.one (.list 1 [[i64 a], [i64 b]])] (ret1 (orN a b)) := by
  refine fn_ok (by kernel_rfl) ty_ok Try.func7 rfl (fun _ _ => Try.call7 _ _) rfl ?_
  intro hw
  repeat' ((conv => whnf); first | (with_reducible first | refine br_t ?_ | refine br_f ?_ | refine xa (by assumption) ?_ | refine xg (by assumption) rfl ?_ | refine xo (by assumption) ?_ | refine xb (by assumption) rfl ?_ | refine xm (by assumption) ?_ | refine xc (by assumption) ?_) | ((with_reducible refine bc_t ?_ ?_); (first | omega | decide)) | ((with_reducible refine bc_f ?_ ?_); (first | omega | decide)) | (with_reducible first | refine bc (fun h => ?_) (fun h => ?_) | refine br_t' (by assumption) ?_ | refine br_f' (by assumption) ?_ | refine br_i (fun h => ?_) (fun h => ?_)) | refine xg (by assumption) rfl ?_ | refine And.intro (by first | kernel_rfl | omega | (simp only [List.length_append, List.length_cons, List.length_nil, List.length_map]; omega) | decide) ?_)
  refine loop_J (by kernel_rfl) ty_ok (σ := Nat) (fun i => [(7, sV (.int .i64 i))]) (fun _ => []) (fun i => i = 0 ∨ (i = 1 ∧ a = 0) ∨ (i = 2 ∧ a = 0 ∧ b = 0)) (fun i => 2 - i) 0 (.inl rfl) ?_ ?_
  · (conv => whnf); refine ⟨by repeat' (first | with_reducible exact zE0 | with_reducible refine zE1 ?_ ?_ | rfl | assumption | (refine ent_i ?_; (first | omega | (rw [IntWalk.i64_in _ (by omega)]; omega) | (simp; done))) | (refine ent_b ?_; (first | omega | (rw [IntWalk.i64_in _ (by omega)]; omega) | (simp; done)))), by repeat' (first | with_reducible exact zH0 | with_reducible refine zH1 ?_ ?_ | rfl | assumption), rfl⟩
  intro i hi
  have hlen : ([[i64 a], [i64 b]] : List (List D)).length = 2 := rfl
  have hel0 : ([[i64 a], [i64 b]] : List (List D))[((0 : Nat) : Int).toNat]? = some [i64 a] := rfl
  have hel1 : ([[i64 a], [i64 b]] : List (List D))[((1 : Nat) : Int).toNat]? = some [i64 b] := rfl
  have q0 : 0 ≤ ((0 : Nat) : Int) ∧ ((0 : Nat) : Int) < (([[i64 a], [i64 b]] : List (List D)).length : Int) := ⟨by omega, by simp⟩
  have q1 : 0 ≤ ((1 : Nat) : Int) ∧ ((1 : Nat) : Int) < (([[i64 a], [i64 b]] : List (List D)).length : Int) := ⟨by omega, by simp⟩
  rcases hi with rfl | ⟨rfl, h1⟩ | ⟨rfl, h1, h2⟩
  · repeat' ((conv => whnf); first | (with_reducible first | refine br_t ?_ | refine br_f ?_ | refine xa (by assumption) ?_ | refine xg (by assumption) rfl ?_ | refine xo (by assumption) ?_ | refine xb (by assumption) rfl ?_ | refine xm (by assumption) ?_ | refine xc (by assumption) ?_) | first | (refine (Exists.intro _ (And.intro (And.intro hel0 (Nat.le_of_ble_eq_true rfl)) ?_))) | (refine And.intro q0 ?_) | ((with_reducible refine bc_t ?_ ?_); (first | omega | decide)) | ((with_reducible refine bc_f ?_ ?_); (first | omega | decide)) | (with_reducible first | refine bc (fun h => ?_) (fun h => ?_) | refine br_t' (by assumption) ?_ | refine br_f' (by assumption) ?_ | refine br_i (fun h => ?_) (fun h => ?_)) | refine xg (by assumption) rfl ?_ | refine And.intro (by first | kernel_rfl | omega | (simp only [List.length_append, List.length_cons, List.length_nil, List.length_map]; omega) | decide) ?_)
    all_goals conv => whnf
    · refine r_int ?_
      unfold orN; rw [if_neg (by assumption)]
    · refine ⟨1, .inr (.inl ⟨rfl, by omega⟩), ?_, by show 2 - 1 < 2 - 0; decide⟩
      (conv => whnf); refine ⟨by repeat' (first | with_reducible exact zE0 | with_reducible refine zE1 ?_ ?_ | rfl | assumption | (refine ent_i ?_; (first | omega | (rw [IntWalk.i64_in _ (by omega)]; omega) | (simp; done))) | (refine ent_b ?_; (first | omega | (rw [IntWalk.i64_in _ (by omega)]; omega) | (simp; done)))), by repeat' (first | with_reducible exact zH0 | with_reducible refine zH1 ?_ ?_ | rfl | assumption), rfl⟩
  · repeat' ((conv => whnf); first | (with_reducible first | refine br_t ?_ | refine br_f ?_ | refine xa (by assumption) ?_ | refine xg (by assumption) rfl ?_ | refine xo (by assumption) ?_ | refine xb (by assumption) rfl ?_ | refine xm (by assumption) ?_ | refine xc (by assumption) ?_) | first | (refine (Exists.intro _ (And.intro (And.intro hel1 (Nat.le_of_ble_eq_true rfl)) ?_))) | (refine And.intro q1 ?_) | ((with_reducible refine bc_t ?_ ?_); (first | omega | decide)) | ((with_reducible refine bc_f ?_ ?_); (first | omega | decide)) | (with_reducible first | refine bc (fun h => ?_) (fun h => ?_) | refine br_t' (by assumption) ?_ | refine br_f' (by assumption) ?_ | refine br_i (fun h => ?_) (fun h => ?_)) | refine xg (by assumption) rfl ?_ | refine And.intro (by first | kernel_rfl | omega | (simp only [List.length_append, List.length_cons, List.length_nil, List.length_map]; omega) | decide) ?_)
    all_goals conv => whnf
    · refine r_int ?_
      unfold orN; rw [if_pos h1]
    · refine ⟨2, .inr (.inr ⟨rfl, h1, by omega⟩), ?_, by show 2 - 2 < 2 - 1; decide⟩
      (conv => whnf); refine ⟨by repeat' (first | with_reducible exact zE0 | with_reducible refine zE1 ?_ ?_ | rfl | assumption | (refine ent_i ?_; (first | omega | (rw [IntWalk.i64_in _ (by omega)]; omega) | (simp; done))) | (refine ent_b ?_; (first | omega | (rw [IntWalk.i64_in _ (by omega)]; omega) | (simp; done)))), by repeat' (first | with_reducible exact zH0 | with_reducible refine zH1 ?_ ?_ | rfl | assumption), rfl⟩
  · repeat' ((conv => whnf); first | (with_reducible first | refine br_t ?_ | refine br_f ?_ | refine xa (by assumption) ?_ | refine xg (by assumption) rfl ?_ | refine xo (by assumption) ?_ | refine xb (by assumption) rfl ?_ | refine xm (by assumption) ?_ | refine xc (by assumption) ?_) | ((with_reducible refine bc_t ?_ ?_); (first | omega | decide)) | ((with_reducible refine bc_f ?_ ?_); (first | omega | decide)) | (with_reducible first | refine bc (fun h => ?_) (fun h => ?_) | refine br_t' (by assumption) ?_ | refine br_f' (by assumption) ?_ | refine br_i (fun h => ?_) (fun h => ?_)) | refine xg (by assumption) rfl ?_ | refine And.intro (by first | kernel_rfl | omega | (simp only [List.length_append, List.length_cons, List.length_nil, List.length_map]; omega) | decide) ?_)
    all_goals conv => whnf
    refine r_int ?_
    unfold orN; rw [if_pos h1]; exact h2.symm
theorem rsub_fn (p q r t : Int) : FnOK Try.prog 44 (rat2 p q r t) (ret3 (subV p q r t)) := by
  refine fn_of_calls (fun _ _ => Try.call44 _ _) rfl rfl (fun h => ?_) (fun h w => ?_)
  · simp only [WDV, WDCs, WDC, WDs, wd_i64, and_true]
    have := subV_rng p q r t
    omega
  · obtain ⟨⟨_, _, _, _⟩, _, _, _, _⟩ := wd2 h
    exact rsub_any p q r t w (by omega) (by omega) (by omega) (by omega) (by omega) (by omega) (by omega) (by omega)
theorem rat_eq {a b c d : Int} (h1 : a = c) (h2 : b = d) : DV.c (.agg [i64 a, i64 b]) = .c (rat c d) := by rw [h1, h2]
theorem roPlace_fn {p : Pt} {n m : Int} (hp : p.chk = 0) (ht : askd n m = 0) : FnOK Try.prog 45 [p.dc, rat n m] (.c (rat (plc p n m).1 (plc p n m).2)) := by
  refine fn_ok (by kernel_rfl) ty_ok Try.func45 rfl (fun _ _ => Try.call45 _ _) rfl ?_
  intro hw
  clear hw
  have H := kkAt_fn p.id p.a p.b n m
  rw [(plc_ok hp ht).1] at H
  repeat' ((conv => whnf); first | (with_reducible first | refine br_t ?_ | refine br_f ?_ | refine xa (by assumption) ?_ | refine xg (by assumption) rfl ?_ | refine xo (by assumption) ?_ | refine xb (by assumption) rfl ?_ | refine xm (by assumption) ?_ | refine xc (by assumption) ?_) | ((with_reducible refine bc_t ?_ ?_); (first | omega | decide)) | ((with_reducible refine bc_f ?_ ?_); (first | omega | decide)) | (with_reducible first | refine bc (fun h => ?_) (fun h => ?_) | refine br_t' (by assumption) ?_ | refine br_f' (by assumption) ?_ | refine br_i (fun h => ?_) (fun h => ?_)) | refine xg (by assumption) rfl ?_ | refine And.intro (by first | kernel_rfl | omega | (simp only [List.length_append, List.length_cons, List.length_nil, List.length_map]; omega) | decide) ?_)
  all_goals conv => whnf
  all_goals rfl
theorem roDistance_fn {p q : Pt} {n m : Int} (hp : p.chk = 0) (hq : q.chk = 0) (ht : askd n m = 0) : FnOK Try.prog 30 [p.dc, q.dc, rat n m] (.c (rat (dst p q n m).1 (dst p q n m).2)) := by
  refine fn_ok (by kernel_rfl) ty_ok Try.func30 rfl (fun _ _ => Try.call30 _ _) rfl ?_
  intro hw
  clear hw
  have H1 := roPlace_fn hp ht
  have H2 := roPlace_fn hq ht
  obtain ⟨s, e1, e2, e3, e4, e5, e6, e7⟩ := dst_ok hp hq ht
  have H3 := rsub_fn (plc p n m).1 (plc p n m).2 (plc q n m).1 (plc q n m).2
  rw [e1] at H3
  simp only [ret3] at H3
  clear e1
  generalize (dst p q n m).1 = x at *
  generalize (dst p q n m).2 = y at *
  rcases e2 with ⟨e2, e8⟩ | ⟨e2, e8⟩
  all_goals
    repeat' ((conv => whnf); first | (with_reducible first | refine br_t ?_ | refine br_f ?_ | refine xa (by assumption) ?_ | refine xg (by assumption) rfl ?_ | refine xo (by assumption) ?_ | refine xb (by assumption) rfl ?_ | refine xm (by assumption) ?_ | refine xc (by assumption) ?_) | ((with_reducible refine bc_t ?_ ?_); (first | omega | decide)) | ((with_reducible refine bc_f ?_ ?_); (first | omega | decide)) | (with_reducible first | refine bc (fun h => ?_) (fun h => ?_) | refine br_t' (by assumption) ?_ | refine br_f' (by assumption) ?_ | refine br_i (fun h => ?_) (fun h => ?_)) | refine xg (by assumption) rfl ?_ | refine And.intro (by first | kernel_rfl | omega | (simp only [List.length_append, List.length_cons, List.length_nil, List.length_map]; omega) | decide) ?_)
    all_goals conv => whnf
    all_goals
      refine rat_eq ?_ rfl
      (first | omega | (rw [IntWalk.i64_in _ (by omega)]; omega) | (simp; done))
set_option maxHeartbeats 2000000 in
theorem roPair_fn {l : List Pt} {n m : Int} (hl : ∀ p ∈ l, p.chk = 0) (ht : askd n m = 0) (h2 : 2 ≤ l.length) (h3 : l.length ≤ 1000000) :
    FnOK Try.prog 15 [fld l, rat n m] (.tup [.one (i64 (l[(pairC l n m).1]?.getD default).id), .one (i64 (l[(pairC l n m).2.1]?.getD default).id), rat (pairC l n m).2.2.1 (pairC l n m).2.2.2]) := by
  refine fn_ok (by kernel_rfl) ty_ok Try.func15 rfl (fun _ _ => Try.call15 _ _) rfl ?_
  intro hw
  clear hw
  have hel0 := pts_get (l := l) (i := 0) (by omega)
  have hel1 := pts_get (l := l) (i := 1) (by omega)
  have H1 := roDistance_fn (hl _ (List.getElem_mem (show 0 < l.length by omega))) (hl _ (List.getElem_mem (show 1 < l.length by omega))) ht
  obtain ⟨_, _, _, d1, d2, d3, d4, d5⟩ := dst_ok (hl _ (List.getElem_mem (show 0 < l.length by omega))) (hl _ (List.getElem_mem (show 1 < l.length by omega))) ht
  have hP : pairC l n m = outerC n m l 0 (0, 1, (dst l[0] l[1] n m).1, (dst l[0] l[1] n m).2) := by
    rcases l with _ | ⟨p, _ | ⟨q, l⟩⟩
    · simp at h2
    · simp at h2
    · exact pairC_ref (by show (dst p q n m).2 ≠ 0; have : 1 ≤ (dst p q n m).2 := d2; omega)
  repeat' ((conv => whnf); first | (with_reducible first | refine br_t ?_ | refine br_f ?_ | refine xa (by assumption) ?_ | refine xg (by assumption) rfl ?_ | refine xo (by assumption) ?_ | refine xb (by assumption) rfl ?_ | refine xm (by assumption) ?_ | refine xc (by assumption) ?_) | rw [List.length_map] | ((with_reducible refine bc_t ?_ ?_); (first | omega | decide)) | ((with_reducible refine bc_f ?_ ?_); (first | omega | decide)) | (with_reducible first | refine bc (fun h => ?_) (fun h => ?_) | refine br_t' (by assumption) ?_ | refine br_f' (by assumption) ?_ | refine br_i (fun h => ?_) (fun h => ?_)) | refine xg (by assumption) rfl ?_ | refine And.intro (by first | kernel_rfl | omega | (simp only [List.length_append, List.length_cons, List.length_nil, List.length_map]; omega) | decide) ?_)
  clear H1 hel0 hel1
  have hP2 := pairC_ok hl ht h2
  refine loop_J (by kernel_rfl) ty_ok (σ := Nat × CSt) (fun x => [(10, sV (.int .i64 x.1)), (7, sV (.int .i64 x.2.1)), (8, sV (.int .i64 x.2.2.1))]) (fun x => [(9, .own [.d (i64 x.2.2.2.1), .d (i64 x.2.2.2.2)])])
    (fun x => x.1 ≤ l.length ∧ cgood l x.2 ∧ outerC n m (l.drop x.1) x.1 x.2 = pairC l n m) (fun x => l.length - x.1) (0, 0, 1, (dst l[0] l[1] n m).1, (dst l[0] l[1] n m).2)
    ⟨by omega, ⟨d1, d2, d3, d4, d5, by show 0 < l.length; omega, by show 1 < l.length; omega⟩, hP.symm⟩ ?_ ?_
  · (conv => whnf); refine ⟨by repeat' (first | with_reducible exact zE0 | with_reducible refine zE1 ?_ ?_ | rfl | assumption | (refine ent_i ?_; (first | omega | (rw [IntWalk.i64_in _ (by omega)]; omega) | (simp; done))) | (refine ent_b ?_; (first | omega | (rw [IntWalk.i64_in _ (by omega)]; omega) | (simp; done)))), by repeat' (first | with_reducible exact zH0 | with_reducible refine zH1 ?_ ?_ | rfl | assumption), rfl⟩
  rintro ⟨a, s⟩ ⟨k1, k2, k3⟩
  simp only at k1 k2 k3
  rcases Nat.lt_or_ge a l.length with hlt | hge
  · rw [outerC_lt hlt] at k3
    repeat' ((conv => whnf); first | (with_reducible first | refine br_t ?_ | refine br_f ?_ | refine xa (by assumption) ?_ | refine xg (by assumption) rfl ?_ | refine xo (by assumption) ?_ | refine xb (by assumption) rfl ?_ | refine xm (by assumption) ?_ | refine xc (by assumption) ?_) | rw [List.length_map] | ((with_reducible refine bc_t ?_ ?_); (first | omega | decide)) | ((with_reducible refine bc_f ?_ ?_); (first | omega | decide)) | (with_reducible first | refine bc (fun h => ?_) (fun h => ?_) | refine br_t' (by assumption) ?_ | refine br_f' (by assumption) ?_ | refine br_i (fun h => ?_) (fun h => ?_)) | refine xg (by assumption) rfl ?_ | refine And.intro (by first | kernel_rfl | omega | (simp only [List.length_append, List.length_cons, List.length_nil, List.length_map]; omega) | decide) ?_)
    refine loop_J (by kernel_rfl) ty_ok (σ := Nat × CSt) (fun x => [(11, sV (.int .i64 x.1)), (7, sV (.int .i64 x.2.1)), (8, sV (.int .i64 x.2.2.1))]) (fun x => [(9, .own [.d (i64 x.2.2.2.1), .d (i64 x.2.2.2.2)])])
      (fun x => x.1 ≤ l.length ∧ cgood l x.2 ∧ innerC n m l[a] a (l.drop x.1) x.1 x.2 = innerC n m l[a] a (l.drop (a + 1)) (a + 1) s) (fun x => l.length - x.1) (a + 1, s) ⟨by show _ ≤ _; omega, k2, rfl⟩ ?_ ?_
    · (conv => whnf); refine ⟨by repeat' (first | with_reducible exact zE0 | with_reducible refine zE1 ?_ ?_ | rfl | assumption | (refine ent_i ?_; (first | omega | (rw [IntWalk.i64_in _ (by omega)]; omega) | (simp; done))) | (refine ent_b ?_; (first | omega | (rw [IntWalk.i64_in _ (by omega)]; omega) | (simp; done)))), by repeat' (first | with_reducible exact zH0 | with_reducible refine zH1 ?_ ?_ | rfl | assumption), rfl⟩
    rintro ⟨b, t⟩ ⟨g1, g2, g3⟩
    simp only at g1 g2 g3
    rcases Nat.lt_or_ge b l.length with hblt | hbge
    · have hela := pts_get hlt
      have helb := pts_get hblt
      have H1 := roDistance_fn (hl _ (List.getElem_mem hlt)) (hl _ (List.getElem_mem hblt)) ht
      have g4 := cgood_upd (.inr g2) hl ht hlt hblt
      rw [innerC_lt hblt] at g3
      obtain ⟨c1, c2, c3, c4, c5, c6, c7⟩ := g2
      have H2 := rcompare_fn (dst l[a] l[b] n m).1 (dst l[a] l[b] n m).2 t.2.2.1 t.2.2.2
      obtain ⟨_, _, _, d1, d2, d3, d4, d5⟩ := dst_ok (hl _ (List.getElem_mem hlt)) (hl _ (List.getElem_mem hblt)) ht
      by_cases hc : (dst l[a] l[b] n m).1 * t.2.2.2 < t.2.2.1 * (dst l[a] l[b] n m).2
      · have e : cupd t a b (dst l[a] l[b] n m) = (a, b, (dst l[a] l[b] n m).1, (dst l[a] l[b] n m).2) := if_pos (.inr hc)
        have e2 : cmpN ((dst l[a] l[b] n m).1 * t.2.2.2) (t.2.2.1 * (dst l[a] l[b] n m).2) = -1 := if_pos hc
        rw [e] at g3 g4
        rw [e2] at H2
        repeat' ((conv => whnf); first | (with_reducible first | refine br_t ?_ | refine br_f ?_ | refine xa (by assumption) ?_ | refine xg (by assumption) rfl ?_ | refine xo (by assumption) ?_ | refine xb (by assumption) rfl ?_ | refine xm (by assumption) ?_ | refine xc (by assumption) ?_) | rw [List.length_map] | ((with_reducible refine bc_t ?_ ?_); (first | omega | decide)) | ((with_reducible refine bc_f ?_ ?_); (first | omega | decide)) | (with_reducible first | refine bc (fun h => ?_) (fun h => ?_) | refine br_t' (by assumption) ?_ | refine br_f' (by assumption) ?_ | refine br_i (fun h => ?_) (fun h => ?_)) | refine xg (by assumption) rfl ?_ | refine And.intro (by first | kernel_rfl | omega | (simp only [List.length_append, List.length_cons, List.length_nil, List.length_map]; omega) | decide) ?_)
        all_goals conv => whnf
        refine ⟨(b + 1, a, b, (dst l[a] l[b] n m).1, (dst l[a] l[b] n m).2), ⟨by show _ ≤ _; omega, g4, g3⟩, ?_, by show _ - _ < _ - _; omega⟩
        (conv => whnf); refine ⟨by repeat' (first | with_reducible exact zE0 | with_reducible refine zE1 ?_ ?_ | rfl | assumption | (refine ent_i ?_; (first | omega | (rw [IntWalk.i64_in _ (by omega)]; omega) | (simp; done))) | (refine ent_b ?_; (first | omega | (rw [IntWalk.i64_in _ (by omega)]; omega) | (simp; done)))), by repeat' (first | with_reducible exact zH0 | with_reducible refine zH1 ?_ ?_ | rfl | assumption), rfl⟩
      · have e : cupd t a b (dst l[a] l[b] n m) = t := if_neg (by omega)
        have e2 : 0 ≤ cmpN ((dst l[a] l[b] n m).1 * t.2.2.2) (t.2.2.1 * (dst l[a] l[b] n m).2) := by unfold cmpN; rw [if_neg hc]; split <;> omega
        rw [e] at g3
        generalize cmpN ((dst l[a] l[b] n m).1 * t.2.2.2) (t.2.2.1 * (dst l[a] l[b] n m).2) = z at H2 e2
        repeat' ((conv => whnf); first | (with_reducible first | refine br_t ?_ | refine br_f ?_ | refine xa (by assumption) ?_ | refine xg (by assumption) rfl ?_ | refine xo (by assumption) ?_ | refine xb (by assumption) rfl ?_ | refine xm (by assumption) ?_ | refine xc (by assumption) ?_) | rw [List.length_map] | ((with_reducible refine bc_t ?_ ?_); (first | omega | decide)) | ((with_reducible refine bc_f ?_ ?_); (first | omega | decide)) | (with_reducible first | refine bc (fun h => ?_) (fun h => ?_) | refine br_t' (by assumption) ?_ | refine br_f' (by assumption) ?_ | refine br_i (fun h => ?_) (fun h => ?_)) | refine xg (by assumption) rfl ?_ | refine And.intro (by first | kernel_rfl | omega | (simp only [List.length_append, List.length_cons, List.length_nil, List.length_map]; omega) | decide) ?_)
        all_goals conv => whnf
        refine ⟨(b + 1, t), ⟨by show _ ≤ _; omega, ⟨c1, c2, c3, c4, c5, c6, c7⟩, g3⟩, ?_, by show _ - _ < _ - _; omega⟩
        (conv => whnf); refine ⟨by repeat' (first | with_reducible exact zE0 | with_reducible refine zE1 ?_ ?_ | rfl | assumption | (refine ent_i ?_; (first | omega | (rw [IntWalk.i64_in _ (by omega)]; omega) | (simp; done))) | (refine ent_b ?_; (first | omega | (rw [IntWalk.i64_in _ (by omega)]; omega) | (simp; done)))), by repeat' (first | with_reducible exact zH0 | with_reducible refine zH1 ?_ ?_ | rfl | assumption), rfl⟩
    · rw [innerC_ge hbge] at g3
      rw [← g3] at k3
      repeat' ((conv => whnf); first | (with_reducible first | refine br_t ?_ | refine br_f ?_ | refine xa (by assumption) ?_ | refine xg (by assumption) rfl ?_ | refine xo (by assumption) ?_ | refine xb (by assumption) rfl ?_ | refine xm (by assumption) ?_ | refine xc (by assumption) ?_) | rw [List.length_map] | ((with_reducible refine bc_t ?_ ?_); (first | omega | decide)) | ((with_reducible refine bc_f ?_ ?_); (first | omega | decide)) | (with_reducible first | refine bc (fun h => ?_) (fun h => ?_) | refine br_t' (by assumption) ?_ | refine br_f' (by assumption) ?_ | refine br_i (fun h => ?_) (fun h => ?_)) | refine xg (by assumption) rfl ?_ | refine And.intro (by first | kernel_rfl | omega | (simp only [List.length_append, List.length_cons, List.length_nil, List.length_map]; omega) | decide) ?_)
      all_goals conv => whnf
      refine ⟨(a + 1, t), ⟨by show _ ≤ _; omega, g2, k3⟩, ?_, by show _ - _ < _ - _; omega⟩
      (conv => whnf); refine ⟨by repeat' (first | with_reducible exact zE0 | with_reducible refine zE1 ?_ ?_ | rfl | assumption | (refine ent_i ?_; (first | omega | (rw [IntWalk.i64_in _ (by omega)]; omega) | (simp; done))) | (refine ent_b ?_; (first | omega | (rw [IntWalk.i64_in _ (by omega)]; omega) | (simp; done)))), by repeat' (first | with_reducible exact zH0 | with_reducible refine zH1 ?_ ?_ | rfl | assumption), rfl⟩
  · rw [outerC_ge hge] at k3
    rw [← k3]
    obtain ⟨c1, c2, c3, c4, c5, c6, c7⟩ := k2
    have hela := pts_get c6
    have helb := pts_get c7
    rw [List.getElem?_eq_getElem c6, List.getElem?_eq_getElem c7]
    repeat' ((conv => whnf); first | (with_reducible first | refine br_t ?_ | refine br_f ?_ | refine xa (by assumption) ?_ | refine xg (by assumption) rfl ?_ | refine xo (by assumption) ?_ | refine xb (by assumption) rfl ?_ | refine xm (by assumption) ?_ | refine xc (by assumption) ?_) | rw [List.length_map] | ((with_reducible refine bc_t ?_ ?_); (first | omega | decide)) | ((with_reducible refine bc_f ?_ ?_); (first | omega | decide)) | (with_reducible first | refine bc (fun h => ?_) (fun h => ?_) | refine br_t' (by assumption) ?_ | refine br_f' (by assumption) ?_ | refine br_i (fun h => ?_) (fun h => ?_)) | refine xg (by assumption) rfl ?_ | refine And.intro (by first | kernel_rfl | omega | (simp only [List.length_append, List.length_cons, List.length_nil, List.length_map]; omega) | decide) ?_)
    all_goals conv => whnf
    all_goals rfl
end Go.Proofs.Ytmdnpklbdamfpaa





/- The oracle's closest pair: the walk of the program's. No conditions. -/
namespace Go.Proofs.Ytmdnpklbdamfpaa
open Go.RowKit Go.Sort Sx
/-- the places that were found, of the first points -/
def plcs (l : List Pt) (n m : Int) (i : Nat) : List (List D) := (l.take i).map (fun p => [i64 (plc p n m).1, i64 (plc p n m).2]) ++ List.replicate (l.length - i) [i64 0, i64 0]
theorem plcs_len {l : List Pt} {n m : Int} {i : Nat} : i ≤ l.length → (plcs l n m i).length = l.length := by
  intro h
  simp [plcs]; omega
theorem plcs_get0 {l : List Pt} {n m : Int} {i : Nat} (h : i < l.length) : (plcs l n m i)[((i : Nat) : Int).toNat]? = some [i64 0, i64 0] := by
  rw [Int.toNat_natCast, plcs, List.getElem?_append_right (by simp; omega)]
  rw [List.getElem?_replicate, if_pos (by simp; omega)]
theorem plcs_set {l : List Pt} {n m : Int} {i : Nat} (h : i < l.length) : (plcs l n m i).set ((i : Nat) : Int).toNat [i64 (plc l[i] n m).1, i64 (plc l[i] n m).2] = plcs l n m (i + 1) := by
  rw [Int.toNat_natCast]
  unfold plcs
  have hk : l.length - i = (l.length - (i + 1)) + 1 := by omega
  rw [List.take_succ_eq_append_getElem h, hk, List.replicate_succ, List.set_append_right _ _ (by simp; omega)]
  have h0 : i - ((l.take i).map fun p : Pt => [i64 (plc p n m).1, i64 (plc p n m).2]).length = 0 := by simp; omega
  rw [h0, List.map_append, List.append_assoc]
  rfl
theorem plcs_all (l : List Pt) (n m : Int) : plcs l n m l.length = l.map fun p => [i64 (plc p n m).1, i64 (plc p n m).2] := by
  simp [plcs]
theorem plcs_get {l : List Pt} {n m : Int} {i : Nat} (h : i < l.length) : (plcs l n m l.length)[((i : Nat) : Int).toNat]? = some [i64 (plc l[i] n m).1, i64 (plc l[i] n m).2] := by
  rw [plcs_all, Int.toNat_natCast, List.getElem?_map, List.getElem?_eq_getElem h]; rfl
/-- the best pair so far, as the program keeps it -/
def cst (l : List Pt) (s : CSt) (x y : Int) : Prop := (s.2.2.2 = 0 ∧ s.2.2.1 = 0 ∧ x = 0 ∧ y = 0) ∨ cgood l s ∧ ∃ (h1 : s.1 < l.length) (h2 : s.2.1 < l.length), x = l[s.1].id ∧ y = l[s.2.1].id
set_option maxHeartbeats 4000000 in
theorem oClosest_fn (l : List Pt) (n m : Int) : FnOK Try.prog 5 [fld l, rat n m] (retC (closV l n m)) := by
  refine fn_ok (by kernel_rfl) (ty_okK [40] [] []) Try.func5 rfl (fun _ _ => Try.call5 _ _) rfl ?_
  intro hw
  clear hw
  have H1 := fCheck_fn l
  have H2 := asked_fn n m
  have H3 := ofirst_fn (fchk l) (askd n m)
  unfold closV
  by_cases h0 : fchk l = 0
  · obtain ⟨k1, k2, k3⟩ := fchk_ok h0
    rw [if_pos h0]
    by_cases h1 : askd n m = 0
    · rw [if_pos h1]
      rw [h0, h1] at H3
      rw [h0] at H1
      rw [h1] at H2
      change FnOK _ _ _ (ret1 0) at H3
      by_cases h2 : l.length < 2
      · rw [if_pos h2]
        repeat' ((conv => whnf); first | (with_reducible first | refine br_t ?_ | refine br_f ?_ | refine xa (by assumption) ?_ | refine xg (by assumption) rfl ?_ | refine xo (by assumption) ?_ | refine xb (by assumption) rfl ?_ | refine xm (by assumption) ?_ | refine xc (by assumption) ?_) | rw [List.length_map] | ((with_reducible refine bc_t ?_ ?_); (first | omega | decide)) | ((with_reducible refine bc_f ?_ ?_); (first | omega | decide)) | (with_reducible first | refine bc (fun h => ?_) (fun h => ?_) | refine br_t' (by assumption) ?_ | refine br_f' (by assumption) ?_ | refine br_i (fun h => ?_) (fun h => ?_) | refine xi (pv_bool fun _ => nev26 _ _ _ _ _ _ _) ?_) | refine xg (by assumption) rfl ?_ | refine And.intro (by first | kernel_rfl | omega | (simp only [List.length_append, List.length_cons, List.length_nil, List.length_map]; omega) | decide) ?_)
        all_goals conv => whnf
        all_goals rfl
      · rw [if_neg h2]
        repeat' ((conv => whnf); first | (with_reducible first | refine br_t ?_ | refine br_f ?_ | refine xa (by assumption) ?_ | refine xg (by assumption) rfl ?_ | refine xo (by assumption) ?_ | refine xb (by assumption) rfl ?_ | refine xm (by assumption) ?_ | refine xc (by assumption) ?_) | rw [List.length_map] | ((with_reducible refine bc_t ?_ ?_); (first | omega | decide)) | ((with_reducible refine bc_f ?_ ?_); (first | omega | decide)) | (with_reducible first | refine bc (fun h => ?_) (fun h => ?_) | refine br_t' (by assumption) ?_ | refine br_f' (by assumption) ?_ | refine br_i (fun h => ?_) (fun h => ?_) | refine xi (pv_bool fun _ => nev26 _ _ _ _ _ _ _) ?_) | refine xg (by assumption) rfl ?_ | refine And.intro (by first | kernel_rfl | omega | (simp only [List.length_append, List.length_cons, List.length_nil, List.length_map]; omega) | decide) ?_)
        all_goals conv => whnf
        refine loop_frz [40] ?_
        refine loop_J (by kernel_rfl) (ty_okK [40] [] []) (σ := Nat) (fun i => [(44, sV (.int .i64 i))]) (fun i => [(40, .row 2 (plcs l n m i) 0)]) (fun i => i ≤ l.length) (fun i => l.length - i) 0 (Nat.zero_le _) ?_ ?_
        · (conv => whnf); refine ⟨by repeat' (first | with_reducible exact zE0 | with_reducible refine zE1 ?_ ?_ | rfl | assumption | (refine ent_i ?_; (first | omega | (rw [IntWalk.i64_in _ (by omega)]; omega) | (simp; done))) | (refine ent_b ?_; (first | omega | (rw [IntWalk.i64_in _ (by omega)]; omega) | (simp; done)))), by repeat' (first | with_reducible exact zH0 | with_reducible refine zH1 ?_ ?_ | rfl | assumption), rfl⟩
        intro i hi
        have hln := plcs_len (n := n) (m := m) hi
        rcases Nat.lt_or_ge i l.length with hlt | hge
        · have hel := pts_get hlt
          have hel2 := plcs_get0 (n := n) (m := m) hlt
          have H4 := kAt_fn l[i].id l[i].a l[i].b n m
          rw [(plc_ok (k2 _ (List.getElem_mem hlt)) h1).1] at H4
          simp only [ret3] at H4
          repeat' ((conv => whnf); first | (with_reducible first | refine br_t ?_ | refine br_f ?_ | refine xa (by assumption) ?_ | refine xg (by assumption) rfl ?_ | refine xo (by assumption) ?_ | refine xb (by assumption) rfl ?_ | refine xm (by assumption) ?_ | refine xc (by assumption) ?_) | rw [List.length_map] | ((with_reducible refine bc_t ?_ ?_); (first | omega | decide)) | ((with_reducible refine bc_f ?_ ?_); (first | omega | decide)) | (with_reducible first | refine bc (fun h => ?_) (fun h => ?_) | refine br_t' (by assumption) ?_ | refine br_f' (by assumption) ?_ | refine br_i (fun h => ?_) (fun h => ?_) | refine xi (pv_bool fun _ => nev26 _ _ _ _ _ _ _) ?_) | refine xg (by assumption) rfl ?_ | refine And.intro (by first | kernel_rfl | omega | (simp only [List.length_append, List.length_cons, List.length_nil, List.length_map]; omega) | decide) ?_)
          all_goals conv => whnf
          refine ⟨i + 1, by omega, ?_, by omega⟩
          (conv => whnf); refine ⟨by repeat' (first | with_reducible exact zE0 | with_reducible refine zE1 ?_ ?_ | rfl | assumption | (exact congrArg (fun x => some (Blk.row 2 x 0)) (plcs_set hlt)) | (refine ent_i ?_; (first | omega | (rw [IntWalk.i64_in _ (by omega)]; omega) | (simp; done))) | (refine ent_b ?_; (first | omega | (rw [IntWalk.i64_in _ (by omega)]; omega) | (simp; done)))), by repeat' (first | with_reducible exact zH0 | with_reducible refine zH1 ?_ ?_ | rfl | assumption | (exact congrArg (fun x => some (Blk.row 2 x 0)) (plcs_set hlt))), rfl⟩
        obtain rfl : i = l.length := by omega
        repeat' ((conv => whnf); first | (with_reducible first | refine br_t ?_ | refine br_f ?_ | refine xa (by assumption) ?_ | refine xg (by assumption) rfl ?_ | refine xo (by assumption) ?_ | refine xb (by assumption) rfl ?_ | refine xm (by assumption) ?_ | refine xc (by assumption) ?_) | rw [List.length_map] | ((with_reducible refine bc_t ?_ ?_); (first | omega | decide)) | ((with_reducible refine bc_f ?_ ?_); (first | omega | decide)) | (with_reducible first | refine bc (fun h => ?_) (fun h => ?_) | refine br_t' (by assumption) ?_ | refine br_f' (by assumption) ?_ | refine br_i (fun h => ?_) (fun h => ?_) | refine xi (pv_bool fun _ => nev26 _ _ _ _ _ _ _) ?_) | refine xg (by assumption) rfl ?_ | refine And.intro (by first | kernel_rfl | omega | (simp only [List.length_append, List.length_cons, List.length_nil, List.length_map]; omega) | decide) ?_)
        conv => whnf
        refine loop_J (by kernel_rfl) (ty_okK [40] [] []) (σ := Nat × CSt × Int × Int) (fun z => [(66, sV (.int .i64 z.1)), (14, sV (.int .i64 z.2.2.1)), (15, sV (.int .i64 z.2.2.2))]) (fun z => [(16, .own [.d (i64 z.2.1.2.2.1), .d (i64 z.2.1.2.2.2)])])
          (fun z => z.1 ≤ l.length ∧ cst l z.2.1 z.2.2.1 z.2.2.2 ∧ outerC n m (l.drop z.1) z.1 z.2.1 = pairC l n m) (fun z => l.length - z.1) (0, (0, 0, 0, 0), 0, 0) ⟨by omega, .inl ⟨rfl, rfl, rfl, rfl⟩, rfl⟩ ?_ ?_
        · (conv => whnf); refine ⟨by repeat' (first | with_reducible exact zE0 | with_reducible refine zE1 ?_ ?_ | rfl | assumption | (refine ent_i ?_; (first | omega | (rw [IntWalk.i64_in _ (by omega)]; omega) | (simp; done))) | (refine ent_b ?_; (first | omega | (rw [IntWalk.i64_in _ (by omega)]; omega) | (simp; done)))), by repeat' (first | with_reducible exact zH0 | with_reducible refine zH1 ?_ ?_ | rfl | assumption), rfl⟩
        rintro ⟨a, s, x, y⟩ ⟨g1, g2, g3⟩
        simp only at g1 g2 g3
        rcases Nat.lt_or_ge a l.length with hlt | hge
        · rw [outerC_lt hlt] at g3
          repeat' ((conv => whnf); first | (with_reducible first | refine br_t ?_ | refine br_f ?_ | refine xa (by assumption) ?_ | refine xg (by assumption) rfl ?_ | refine xo (by assumption) ?_ | refine xb (by assumption) rfl ?_ | refine xm (by assumption) ?_ | refine xc (by assumption) ?_) | rw [List.length_map] | ((with_reducible refine bc_t ?_ ?_); (first | omega | decide)) | ((with_reducible refine bc_f ?_ ?_); (first | omega | decide)) | (with_reducible first | refine bc (fun h => ?_) (fun h => ?_) | refine br_t' (by assumption) ?_ | refine br_f' (by assumption) ?_ | refine br_i (fun h => ?_) (fun h => ?_) | refine xi (pv_bool fun _ => nev26 _ _ _ _ _ _ _) ?_) | refine xg (by assumption) rfl ?_ | refine And.intro (by first | kernel_rfl | omega | (simp only [List.length_append, List.length_cons, List.length_nil, List.length_map]; omega) | decide) ?_)
          conv => whnf
          refine loop_J (by kernel_rfl) (ty_okK [40] [] []) (σ := Nat × CSt × Int × Int) (fun z => [(18, sV (.int .i64 z.1)), (14, sV (.int .i64 z.2.2.1)), (15, sV (.int .i64 z.2.2.2))]) (fun z => [(16, .own [.d (i64 z.2.1.2.2.1), .d (i64 z.2.1.2.2.2)])])
            (fun z => z.1 ≤ l.length ∧ cst l z.2.1 z.2.2.1 z.2.2.2 ∧ innerC n m l[a] a (l.drop z.1) z.1 z.2.1 = innerC n m l[a] a (l.drop (a + 1)) (a + 1) s) (fun z => l.length - z.1) (a + 1, s, x, y) ⟨by show _ ≤ _; omega, g2, rfl⟩ ?_ ?_
          · (conv => whnf); refine ⟨by repeat' (first | with_reducible exact zE0 | with_reducible refine zE1 ?_ ?_ | rfl | assumption | (refine ent_i ?_; (first | omega | (rw [IntWalk.i64_in _ (by omega)]; omega) | (simp; done))) | (refine ent_b ?_; (first | omega | (rw [IntWalk.i64_in _ (by omega)]; omega) | (simp; done)))), by repeat' (first | with_reducible exact zH0 | with_reducible refine zH1 ?_ ?_ | rfl | assumption), rfl⟩
          rintro ⟨b, t, u, v⟩ ⟨f1, f2, f3⟩
          simp only at f1 f2 f3
          rcases Nat.lt_or_ge b l.length with hblt | hbge
          · have hela := plcs_get (n := n) (m := m) hlt
            have helb := plcs_get (n := n) (m := m) hblt
            have hida := pts_get hlt
            have hidb := pts_get hblt
            rw [innerC_lt hblt] at f3
            obtain ⟨c, e1, e2, d1, d2, d3, d4, d5⟩ := dst_ok (k2 _ (List.getElem_mem hlt)) (k2 _ (List.getElem_mem hblt)) h1
            have H4 := sub_fn (plc l[a] n m).1 (plc l[a] n m).2 (plc l[b] n m).1 (plc l[b] n m).2
            rw [e1] at H4
            simp only [ret3] at H4
            have hgd := fun h => cgood_upd (n := n) (m := m) (s := t) (a := a) (b := b) h k2 h1 hlt hblt
            have key : ∀ z w : Int, z = (dst l[a] l[b] n m).1 → w = (dst l[a] l[b] n m).2 → cgood l t → FnOK Try.prog 12 (rat2 z w t.2.2.1 t.2.2.2) (.tup [.one (i64 (cmpN ((dst l[a] l[b] n m).1 * t.2.2.2) (t.2.2.1 * (dst l[a] l[b] n m).2))), .one (i64 0)]) := by
              rintro z w rfl rfl ht
              have := cmp_fn (dst l[a] l[b] n m).1 (dst l[a] l[b] n m).2 t.2.2.1 t.2.2.2
              unfold cmpV bth at this
              rw [if_pos (by rw [d1, ht.1]; decide)] at this
              exact this
            generalize hx : (dst l[a] l[b] n m).1 = X at *
            generalize hy : (dst l[a] l[b] n m).2 = Y at *
            rcases e2 with ⟨e2, e3⟩ | ⟨e2, e3⟩
            · have hwr : IntKind.i64.wrap (0 - c) = X := by rw [IntWalk.i64_in _ (by omega)]; omega
              have key2 := key (IntKind.i64.wrap (0 - c)) Y hwr rfl
              rcases f2 with ⟨m1, m2, rfl, rfl⟩ | ⟨m1, m3, m4, rfl, rfl⟩
              · have ec : cupd t a b (dst l[a] l[b] n m) = (a, b, X, Y) := by unfold cupd; rw [if_pos (.inl m1), hx, hy]
                have hg := hgd (.inl m1)
                rw [ec] at f3 hg
                simp only [m1, m2] at *
                repeat' ((conv => whnf); first | (with_reducible first | refine br_t ?_ | refine br_f ?_ | refine xa (by assumption) ?_ | refine xg (by assumption) rfl ?_ | refine xo (by assumption) ?_ | refine xb (by assumption) rfl ?_ | refine xm (by assumption) ?_ | refine xc (by assumption) ?_) | rw [List.length_map] | ((with_reducible refine bc_t ?_ ?_); (first | omega | decide)) | ((with_reducible refine bc_f ?_ ?_); (first | omega | decide)) | (with_reducible first | refine bc (fun h => ?_) (fun h => ?_) | refine br_t' (by assumption) ?_ | refine br_f' (by assumption) ?_ | refine br_i (fun h => ?_) (fun h => ?_) | refine xi (pv_bool fun _ => nev26 _ _ _ _ _ _ _) ?_) | refine xg (by assumption) rfl ?_ | refine And.intro (by first | kernel_rfl | omega | (simp only [List.length_append, List.length_cons, List.length_nil, List.length_map]; omega) | decide) ?_)
                all_goals conv => whnf
                refine ⟨(b + 1, (a, b, X, Y), l[a].id, l[b].id), ⟨by show _ ≤ _; omega, .inr ⟨hg, hlt, hblt, rfl, rfl⟩, f3⟩, ?_, by show _ - _ < _ - _; omega⟩
                (conv => whnf); refine ⟨by repeat' (first | with_reducible exact zE0 | with_reducible refine zE1 ?_ ?_ | rfl | assumption | (exact congrArg (fun z => some (Blk.own [.d (i64 z), .d (i64 Y)])) hwr) | (refine ent_i ?_; (first | omega | (rw [IntWalk.i64_in _ (by omega)]; omega) | (simp; done))) | (refine ent_b ?_; (first | omega | (rw [IntWalk.i64_in _ (by omega)]; omega) | (simp; done)))), by repeat' (first | with_reducible exact zH0 | with_reducible refine zH1 ?_ ?_ | rfl | assumption | (exact congrArg (fun z => some (Blk.own [.d (i64 z), .d (i64 Y)])) hwr)), rfl⟩
              · replace key2 := key2 m1
                have hg := hgd (.inr m1)
                have n1 := m1.2.1
                have n2 := m1.2.2.2.1
                clear key
                by_cases hc : X * t.2.2.2 < t.2.2.1 * Y
                · have ec : cupd t a b (dst l[a] l[b] n m) = (a, b, X, Y) := by unfold cupd; rw [hx, hy, if_pos (.inr hc)]
                  rw [ec] at f3 hg
                  have e9 : cmpN (X * t.2.2.2) (t.2.2.1 * Y) = -1 := if_pos hc
                  rw [e9] at key2
                  clear hc e9
                  repeat' ((conv => whnf); first | (with_reducible first | refine br_t ?_ | refine br_f ?_ | refine xa (by assumption) ?_ | refine xg (by assumption) rfl ?_ | refine xo (by assumption) ?_ | refine xb (by assumption) rfl ?_ | refine xm (by assumption) ?_ | refine xc (by assumption) ?_) | rw [List.length_map] | ((with_reducible refine bc_t ?_ ?_); (first | omega | decide)) | ((with_reducible refine bc_f ?_ ?_); (first | omega | decide)) | (with_reducible first | refine bc (fun h => ?_) (fun h => ?_) | refine br_t' (by assumption) ?_ | refine br_f' (by assumption) ?_ | refine br_i (fun h => ?_) (fun h => ?_) | refine xi (pv_bool fun _ => nev26 _ _ _ _ _ _ _) ?_) | refine xg (by assumption) rfl ?_ | refine And.intro (by first | kernel_rfl | omega | (simp only [List.length_append, List.length_cons, List.length_nil, List.length_map]; omega) | decide) ?_)
                  all_goals conv => whnf
                  refine ⟨(b + 1, (a, b, X, Y), l[a].id, l[b].id), ⟨by show _ ≤ _; omega, .inr ⟨hg, hlt, hblt, rfl, rfl⟩, f3⟩, ?_, by show _ - _ < _ - _; omega⟩
                  (conv => whnf); refine ⟨by repeat' (first | with_reducible exact zE0 | with_reducible refine zE1 ?_ ?_ | rfl | assumption | (exact congrArg (fun z => some (Blk.own [.d (i64 z), .d (i64 Y)])) hwr) | (refine ent_i ?_; (first | omega | (rw [IntWalk.i64_in _ (by omega)]; omega) | (simp; done))) | (refine ent_b ?_; (first | omega | (rw [IntWalk.i64_in _ (by omega)]; omega) | (simp; done)))), by repeat' (first | with_reducible exact zH0 | with_reducible refine zH1 ?_ ?_ | rfl | assumption | (exact congrArg (fun z => some (Blk.own [.d (i64 z), .d (i64 Y)])) hwr)), rfl⟩
                  · exfalso; simp only at h; omega
                · have ec : cupd t a b (dst l[a] l[b] n m) = t := by unfold cupd; rw [hx, hy, if_neg (by omega)]
                  rw [ec] at f3
                  have e9 : 0 ≤ cmpN (X * t.2.2.2) (t.2.2.1 * Y) := by unfold cmpN; rw [if_neg hc]; split <;> omega
                  generalize cmpN (X * t.2.2.2) (t.2.2.1 * Y) = cc at key2 e9
                  clear hc
                  repeat' ((conv => whnf); first | (with_reducible first | refine br_t ?_ | refine br_f ?_ | refine xa (by assumption) ?_ | refine xg (by assumption) rfl ?_ | refine xo (by assumption) ?_ | refine xb (by assumption) rfl ?_ | refine xm (by assumption) ?_ | refine xc (by assumption) ?_) | rw [List.length_map] | ((with_reducible refine bc_t ?_ ?_); (first | omega | decide)) | ((with_reducible refine bc_f ?_ ?_); (first | omega | decide)) | (with_reducible first | refine bc (fun h => ?_) (fun h => ?_) | refine br_t' (by assumption) ?_ | refine br_f' (by assumption) ?_ | refine br_i (fun h => ?_) (fun h => ?_) | refine xi (pv_bool fun _ => nev26 _ _ _ _ _ _ _) ?_) | refine xg (by assumption) rfl ?_ | refine And.intro (by first | kernel_rfl | omega | (simp only [List.length_append, List.length_cons, List.length_nil, List.length_map]; omega) | decide) ?_)
                  all_goals conv => whnf
                  refine ⟨(b + 1, t, l[t.1].id, l[t.2.1].id), ⟨by show _ ≤ _; omega, .inr ⟨m1, m3, m4, rfl, rfl⟩, f3⟩, ?_, by show _ - _ < _ - _; omega⟩
                  (conv => whnf); refine ⟨by repeat' (first | with_reducible exact zE0 | with_reducible refine zE1 ?_ ?_ | rfl | assumption | (refine ent_i ?_; (first | omega | (rw [IntWalk.i64_in _ (by omega)]; omega) | (simp; done))) | (refine ent_b ?_; (first | omega | (rw [IntWalk.i64_in _ (by omega)]; omega) | (simp; done)))), by repeat' (first | with_reducible exact zH0 | with_reducible refine zH1 ?_ ?_ | rfl | assumption), rfl⟩
                  · exfalso; simp only at h; omega
            · have hwr : c = X := by omega
              have key2 := key c Y hwr rfl
              rcases f2 with ⟨m1, m2, rfl, rfl⟩ | ⟨m1, m3, m4, rfl, rfl⟩
              · have ec : cupd t a b (dst l[a] l[b] n m) = (a, b, X, Y) := by unfold cupd; rw [if_pos (.inl m1), hx, hy]
                have hg := hgd (.inl m1)
                rw [ec] at f3 hg
                simp only [m1, m2] at *
                repeat' ((conv => whnf); first | (with_reducible first | refine br_t ?_ | refine br_f ?_ | refine xa (by assumption) ?_ | refine xg (by assumption) rfl ?_ | refine xo (by assumption) ?_ | refine xb (by assumption) rfl ?_ | refine xm (by assumption) ?_ | refine xc (by assumption) ?_) | rw [List.length_map] | ((with_reducible refine bc_t ?_ ?_); (first | omega | decide)) | ((with_reducible refine bc_f ?_ ?_); (first | omega | decide)) | (with_reducible first | refine bc (fun h => ?_) (fun h => ?_) | refine br_t' (by assumption) ?_ | refine br_f' (by assumption) ?_ | refine br_i (fun h => ?_) (fun h => ?_) | refine xi (pv_bool fun _ => nev26 _ _ _ _ _ _ _) ?_) | refine xg (by assumption) rfl ?_ | refine And.intro (by first | kernel_rfl | omega | (simp only [List.length_append, List.length_cons, List.length_nil, List.length_map]; omega) | decide) ?_)
                all_goals conv => whnf
                refine ⟨(b + 1, (a, b, X, Y), l[a].id, l[b].id), ⟨by show _ ≤ _; omega, .inr ⟨hg, hlt, hblt, rfl, rfl⟩, f3⟩, ?_, by show _ - _ < _ - _; omega⟩
                (conv => whnf); refine ⟨by repeat' (first | with_reducible exact zE0 | with_reducible refine zE1 ?_ ?_ | rfl | assumption | (exact congrArg (fun z => some (Blk.own [.d (i64 z), .d (i64 Y)])) hwr) | (refine ent_i ?_; (first | omega | (rw [IntWalk.i64_in _ (by omega)]; omega) | (simp; done))) | (refine ent_b ?_; (first | omega | (rw [IntWalk.i64_in _ (by omega)]; omega) | (simp; done)))), by repeat' (first | with_reducible exact zH0 | with_reducible refine zH1 ?_ ?_ | rfl | assumption | (exact congrArg (fun z => some (Blk.own [.d (i64 z), .d (i64 Y)])) hwr)), rfl⟩
              · replace key2 := key2 m1
                have hg := hgd (.inr m1)
                have n1 := m1.2.1
                have n2 := m1.2.2.2.1
                clear key
                by_cases hc : X * t.2.2.2 < t.2.2.1 * Y
                · have ec : cupd t a b (dst l[a] l[b] n m) = (a, b, X, Y) := by unfold cupd; rw [hx, hy, if_pos (.inr hc)]
                  rw [ec] at f3 hg
                  have e9 : cmpN (X * t.2.2.2) (t.2.2.1 * Y) = -1 := if_pos hc
                  rw [e9] at key2
                  clear hc e9
                  repeat' ((conv => whnf); first | (with_reducible first | refine br_t ?_ | refine br_f ?_ | refine xa (by assumption) ?_ | refine xg (by assumption) rfl ?_ | refine xo (by assumption) ?_ | refine xb (by assumption) rfl ?_ | refine xm (by assumption) ?_ | refine xc (by assumption) ?_) | rw [List.length_map] | ((with_reducible refine bc_t ?_ ?_); (first | omega | decide)) | ((with_reducible refine bc_f ?_ ?_); (first | omega | decide)) | (with_reducible first | refine bc (fun h => ?_) (fun h => ?_) | refine br_t' (by assumption) ?_ | refine br_f' (by assumption) ?_ | refine br_i (fun h => ?_) (fun h => ?_) | refine xi (pv_bool fun _ => nev26 _ _ _ _ _ _ _) ?_) | refine xg (by assumption) rfl ?_ | refine And.intro (by first | kernel_rfl | omega | (simp only [List.length_append, List.length_cons, List.length_nil, List.length_map]; omega) | decide) ?_)
                  all_goals conv => whnf
                  refine ⟨(b + 1, (a, b, X, Y), l[a].id, l[b].id), ⟨by show _ ≤ _; omega, .inr ⟨hg, hlt, hblt, rfl, rfl⟩, f3⟩, ?_, by show _ - _ < _ - _; omega⟩
                  (conv => whnf); refine ⟨by repeat' (first | with_reducible exact zE0 | with_reducible refine zE1 ?_ ?_ | rfl | assumption | (exact congrArg (fun z => some (Blk.own [.d (i64 z), .d (i64 Y)])) hwr) | (refine ent_i ?_; (first | omega | (rw [IntWalk.i64_in _ (by omega)]; omega) | (simp; done))) | (refine ent_b ?_; (first | omega | (rw [IntWalk.i64_in _ (by omega)]; omega) | (simp; done)))), by repeat' (first | with_reducible exact zH0 | with_reducible refine zH1 ?_ ?_ | rfl | assumption | (exact congrArg (fun z => some (Blk.own [.d (i64 z), .d (i64 Y)])) hwr)), rfl⟩
                  · exfalso; simp only at h; omega
                · have ec : cupd t a b (dst l[a] l[b] n m) = t := by unfold cupd; rw [hx, hy, if_neg (by omega)]
                  rw [ec] at f3
                  have e9 : 0 ≤ cmpN (X * t.2.2.2) (t.2.2.1 * Y) := by unfold cmpN; rw [if_neg hc]; split <;> omega
                  generalize cmpN (X * t.2.2.2) (t.2.2.1 * Y) = cc at key2 e9
                  clear hc
                  repeat' ((conv => whnf); first | (with_reducible first | refine br_t ?_ | refine br_f ?_ | refine xa (by assumption) ?_ | refine xg (by assumption) rfl ?_ | refine xo (by assumption) ?_ | refine xb (by assumption) rfl ?_ | refine xm (by assumption) ?_ | refine xc (by assumption) ?_) | rw [List.length_map] | ((with_reducible refine bc_t ?_ ?_); (first | omega | decide)) | ((with_reducible refine bc_f ?_ ?_); (first | omega | decide)) | (with_reducible first | refine bc (fun h => ?_) (fun h => ?_) | refine br_t' (by assumption) ?_ | refine br_f' (by assumption) ?_ | refine br_i (fun h => ?_) (fun h => ?_) | refine xi (pv_bool fun _ => nev26 _ _ _ _ _ _ _) ?_) | refine xg (by assumption) rfl ?_ | refine And.intro (by first | kernel_rfl | omega | (simp only [List.length_append, List.length_cons, List.length_nil, List.length_map]; omega) | decide) ?_)
                  all_goals conv => whnf
                  refine ⟨(b + 1, t, l[t.1].id, l[t.2.1].id), ⟨by show _ ≤ _; omega, .inr ⟨m1, m3, m4, rfl, rfl⟩, f3⟩, ?_, by show _ - _ < _ - _; omega⟩
                  (conv => whnf); refine ⟨by repeat' (first | with_reducible exact zE0 | with_reducible refine zE1 ?_ ?_ | rfl | assumption | (refine ent_i ?_; (first | omega | (rw [IntWalk.i64_in _ (by omega)]; omega) | (simp; done))) | (refine ent_b ?_; (first | omega | (rw [IntWalk.i64_in _ (by omega)]; omega) | (simp; done)))), by repeat' (first | with_reducible exact zH0 | with_reducible refine zH1 ?_ ?_ | rfl | assumption), rfl⟩
                  · exfalso; simp only at h; omega
          · rw [innerC_ge hbge] at f3
            rw [← f3] at g3
            repeat' ((conv => whnf); first | (with_reducible first | refine br_t ?_ | refine br_f ?_ | refine xa (by assumption) ?_ | refine xg (by assumption) rfl ?_ | refine xo (by assumption) ?_ | refine xb (by assumption) rfl ?_ | refine xm (by assumption) ?_ | refine xc (by assumption) ?_) | rw [List.length_map] | ((with_reducible refine bc_t ?_ ?_); (first | omega | decide)) | ((with_reducible refine bc_f ?_ ?_); (first | omega | decide)) | (with_reducible first | refine bc (fun h => ?_) (fun h => ?_) | refine br_t' (by assumption) ?_ | refine br_f' (by assumption) ?_ | refine br_i (fun h => ?_) (fun h => ?_) | refine xi (pv_bool fun _ => nev26 _ _ _ _ _ _ _) ?_) | refine xg (by assumption) rfl ?_ | refine And.intro (by first | kernel_rfl | omega | (simp only [List.length_append, List.length_cons, List.length_nil, List.length_map]; omega) | decide) ?_)
            all_goals conv => whnf
            refine ⟨(a + 1, t, u, v), ⟨by show _ ≤ _; omega, f2, g3⟩, ?_, by show _ - _ < _ - _; omega⟩
            (conv => whnf); refine ⟨by repeat' (first | with_reducible exact zE0 | with_reducible refine zE1 ?_ ?_ | rfl | assumption | (refine ent_i ?_; (first | omega | (rw [IntWalk.i64_in _ (by omega)]; omega) | (simp; done))) | (refine ent_b ?_; (first | omega | (rw [IntWalk.i64_in _ (by omega)]; omega) | (simp; done)))), by repeat' (first | with_reducible exact zH0 | with_reducible refine zH1 ?_ ?_ | rfl | assumption), rfl⟩
        · rw [outerC_ge hge] at g3
          rw [← g3]
          rcases g2 with g2 | ⟨g2, g4, g5, rfl, rfl⟩
          · exfalso
            have := pairC_ok k2 h1 (by omega)
            rw [← g3] at this
            obtain ⟨_, _, _⟩ := this
            omega
          rw [List.getElem?_eq_getElem g4, List.getElem?_eq_getElem g5]
          repeat' ((conv => whnf); first | (with_reducible first | refine br_t ?_ | refine br_f ?_ | refine xa (by assumption) ?_ | refine xg (by assumption) rfl ?_ | refine xo (by assumption) ?_ | refine xb (by assumption) rfl ?_ | refine xm (by assumption) ?_ | refine xc (by assumption) ?_) | rw [List.length_map] | ((with_reducible refine bc_t ?_ ?_); (first | omega | decide)) | ((with_reducible refine bc_f ?_ ?_); (first | omega | decide)) | (with_reducible first | refine bc (fun h => ?_) (fun h => ?_) | refine br_t' (by assumption) ?_ | refine br_f' (by assumption) ?_ | refine br_i (fun h => ?_) (fun h => ?_) | refine xi (pv_bool fun _ => nev26 _ _ _ _ _ _ _) ?_) | refine xg (by assumption) rfl ?_ | refine And.intro (by first | kernel_rfl | omega | (simp only [List.length_append, List.length_cons, List.length_nil, List.length_map]; omega) | decide) ?_)
          all_goals conv => whnf
          all_goals rfl
    · rw [if_neg h1]
      rw [h0] at H3 H1
      change FnOK _ _ _ (ret1 (askd n m)) at H3
      generalize askd n m = z at *
      repeat' ((conv => whnf); first | (with_reducible first | refine br_t ?_ | refine br_f ?_ | refine xa (by assumption) ?_ | refine xg (by assumption) rfl ?_ | refine xo (by assumption) ?_ | refine xb (by assumption) rfl ?_ | refine xm (by assumption) ?_ | refine xc (by assumption) ?_) | rw [List.length_map] | ((with_reducible refine bc_t ?_ ?_); (first | omega | decide)) | ((with_reducible refine bc_f ?_ ?_); (first | omega | decide)) | (with_reducible first | refine bc (fun h => ?_) (fun h => ?_) | refine br_t' (by assumption) ?_ | refine br_f' (by assumption) ?_ | refine br_i (fun h => ?_) (fun h => ?_) | refine xi (pv_bool fun _ => nev26 _ _ _ _ _ _ _) ?_) | refine xg (by assumption) rfl ?_ | refine And.intro (by first | kernel_rfl | omega | (simp only [List.length_append, List.length_cons, List.length_nil, List.length_map]; omega) | decide) ?_)
      all_goals conv => whnf
      all_goals rfl
  · rw [if_neg h0]
    have e : orN (fchk l) (askd n m) = fchk l := if_neg h0
    rw [e] at H3
    repeat' ((conv => whnf); first | (with_reducible first | refine br_t ?_ | refine br_f ?_ | refine xa (by assumption) ?_ | refine xg (by assumption) rfl ?_ | refine xo (by assumption) ?_ | refine xb (by assumption) rfl ?_ | refine xm (by assumption) ?_ | refine xc (by assumption) ?_) | rw [List.length_map] | ((with_reducible refine bc_t ?_ ?_); (first | omega | decide)) | ((with_reducible refine bc_f ?_ ?_); (first | omega | decide)) | (with_reducible first | refine bc (fun h => ?_) (fun h => ?_) | refine br_t' (by assumption) ?_ | refine br_f' (by assumption) ?_ | refine br_i (fun h => ?_) (fun h => ?_) | refine xi (pv_bool fun _ => nev26 _ _ _ _ _ _ _) ?_) | refine xg (by assumption) rfl ?_ | refine And.intro (by first | kernel_rfl | omega | (simp only [List.length_append, List.length_cons, List.length_nil, List.length_map]; omega) | decide) ?_)
    all_goals conv => whnf
    all_goals rfl
end Go.Proofs.Ytmdnpklbdamfpaa





/- The reference's closest pair, whole. No conditions. -/
namespace Go.Proofs.Ytmdnpklbdamfpaa
open Go.RowKit Go.Sort Sx
theorem roClosest_fn (l : List Pt) (n m : Int) : FnOK Try.prog 6 [fld l, rat n m] (retC (closV l n m)) := by
  refine fn_ok (by kernel_rfl) ty_ok Try.func6 rfl (fun _ _ => Try.call6 _ _) rfl ?_
  intro hw
  clear hw
  have H1 := rfCheck_fn l
  have H2 := rasked_fn n m
  unfold closV
  by_cases h0 : fchk l = 0
  · obtain ⟨k1, k2, k3⟩ := fchk_ok h0
    rw [if_pos h0]
    rw [h0] at H1
    by_cases h1 : askd n m = 0
    · rw [if_pos h1]
      rw [h1] at H2
      by_cases h2 : l.length < 2
      · rw [if_pos h2]
        repeat' ((conv => whnf); first | (with_reducible first | refine br_t ?_ | refine br_f ?_ | refine xa (by assumption) ?_ | refine xg (by assumption) rfl ?_ | refine xo (by assumption) ?_ | refine xb (by assumption) rfl ?_ | refine xm (by assumption) ?_ | refine xc (by assumption) ?_) | rw [List.length_map] | ((with_reducible refine bc_t ?_ ?_); (first | omega | decide)) | ((with_reducible refine bc_f ?_ ?_); (first | omega | decide)) | (with_reducible first | refine bc (fun h => ?_) (fun h => ?_) | refine br_t' (by assumption) ?_ | refine br_f' (by assumption) ?_ | refine br_i (fun h => ?_) (fun h => ?_)) | refine xg (by assumption) rfl ?_ | refine And.intro (by first | kernel_rfl | omega | (simp only [List.length_append, List.length_cons, List.length_nil, List.length_map]; omega) | decide) ?_)
        all_goals conv => whnf
        all_goals rfl
      · rw [if_neg h2]
        have H3 := roPair_fn (n := n) (m := m) k2 h1 (by omega) (by omega)
        repeat' ((conv => whnf); first | (with_reducible first | refine br_t ?_ | refine br_f ?_ | refine xa (by assumption) ?_ | refine xg (by assumption) rfl ?_ | refine xo (by assumption) ?_ | refine xb (by assumption) rfl ?_ | refine xm (by assumption) ?_ | refine xc (by assumption) ?_) | rw [List.length_map] | ((with_reducible refine bc_t ?_ ?_); (first | omega | decide)) | ((with_reducible refine bc_f ?_ ?_); (first | omega | decide)) | (with_reducible first | refine bc (fun h => ?_) (fun h => ?_) | refine br_t' (by assumption) ?_ | refine br_f' (by assumption) ?_ | refine br_i (fun h => ?_) (fun h => ?_)) | refine xg (by assumption) rfl ?_ | refine And.intro (by first | kernel_rfl | omega | (simp only [List.length_append, List.length_cons, List.length_nil, List.length_map]; omega) | decide) ?_)
        all_goals conv => whnf
        all_goals rfl
    · rw [if_neg h1]
      generalize askd n m = z at *
      repeat' ((conv => whnf); first | (with_reducible first | refine br_t ?_ | refine br_f ?_ | refine xa (by assumption) ?_ | refine xg (by assumption) rfl ?_ | refine xo (by assumption) ?_ | refine xb (by assumption) rfl ?_ | refine xm (by assumption) ?_ | refine xc (by assumption) ?_) | rw [List.length_map] | ((with_reducible refine bc_t ?_ ?_); (first | omega | decide)) | ((with_reducible refine bc_f ?_ ?_); (first | omega | decide)) | (with_reducible first | refine bc (fun h => ?_) (fun h => ?_) | refine br_t' (by assumption) ?_ | refine br_f' (by assumption) ?_ | refine br_i (fun h => ?_) (fun h => ?_)) | refine xg (by assumption) rfl ?_ | refine And.intro (by first | kernel_rfl | omega | (simp only [List.length_append, List.length_cons, List.length_nil, List.length_map]; omega) | decide) ?_)
      all_goals conv => whnf
      all_goals rfl
  · rw [if_neg h0]
    generalize fchk l = z at *
    repeat' ((conv => whnf); first | (with_reducible first | refine br_t ?_ | refine br_f ?_ | refine xa (by assumption) ?_ | refine xg (by assumption) rfl ?_ | refine xo (by assumption) ?_ | refine xb (by assumption) rfl ?_ | refine xm (by assumption) ?_ | refine xc (by assumption) ?_) | rw [List.length_map] | ((with_reducible refine bc_t ?_ ?_); (first | omega | decide)) | ((with_reducible refine bc_f ?_ ?_); (first | omega | decide)) | (with_reducible first | refine bc (fun h => ?_) (fun h => ?_) | refine br_t' (by assumption) ?_ | refine br_f' (by assumption) ?_ | refine br_i (fun h => ?_) (fun h => ?_)) | refine xg (by assumption) rfl ?_ | refine And.intro (by first | kernel_rfl | omega | (simp only [List.length_append, List.length_cons, List.length_nil, List.length_map]; omega) | decide) ?_)
    all_goals conv => whnf
    all_goals rfl
end Go.Proofs.Ytmdnpklbdamfpaa





/- The law OracleClosest answers true. No condition. -/
namespace Go.Proofs.Ytmdnpklbdamfpaa
open Go.RowKit Go.Sort Sx
theorem LClosest_fn (l : List Pt) (n m : Int) : FnOK Try.prog 3 [fld l, rat n m] (.c (.one (bol true))) := by
  refine fn_ok (by kernel_rfl) ty_ok Try.func3 rfl (fun _ _ => Try.call3 _ _) rfl ?_
  intro hw
  clear hw
  have H0 := rfGreat_fn l
  have H1 := oClosest_fn l n m
  have H2 := roClosest_fn l n m
  generalize closV l n m = z at *
  generalize great l = g at *
  simp only [retC] at *
  cases g
  all_goals
    repeat' ((conv => whnf); first | (with_reducible first | refine br_t ?_ | refine br_f ?_ | refine xa (by assumption) ?_ | refine xg (by assumption) rfl ?_ | refine xo (by assumption) ?_ | refine xb (by assumption) rfl ?_ | refine xm (by assumption) ?_ | refine xc (by assumption) ?_) | ((with_reducible refine bc_t ?_ ?_); (first | omega | decide)) | ((with_reducible refine bc_f ?_ ?_); (first | omega | decide)) | (with_reducible first | refine bc (fun h => ?_) (fun h => ?_) | refine br_t' (by assumption) ?_ | refine br_f' (by assumption) ?_ | refine br_i (fun h => ?_) (fun h => ?_) | refine xi (pv_bool fun _ => eqv26 _ _ _ _ _ _ _) ?_) | refine xg (by assumption) rfl ?_ | refine And.intro (by first | kernel_rfl | omega | (simp only [List.length_append, List.length_cons, List.length_nil, List.length_map]; omega) | decide) ?_)
    all_goals conv => whnf
    all_goals first | rfl | exact r_bool (by simp)
end Go.Proofs.Ytmdnpklbdamfpaa
