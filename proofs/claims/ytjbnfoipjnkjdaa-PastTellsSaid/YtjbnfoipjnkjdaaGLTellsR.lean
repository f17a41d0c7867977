import Derived.Test.YtjbnfoipjnkjdaaGLTellsQ
import Derived.Shelf.SlSortCmp.WholeK
import Derived.Shelf.SlSortCmp.NoneTotal
import Derived.Ground.SlsfProg
import Derived.Test.YtjbnfoipjnkjdaaProg
set_option linter.all false





/- The past: comparing, copies, what is great. No conditions. -/
namespace Go.Proofs.Ytjbnfoipjnkjdaa
open Go.RowKit Go.Sort Sx
theorem Md.eq_iff {p q : Md} : p = q ↔ (p.n = q.n ∧ p.d = q.d) ∧ p.l = q.l := by
  cases p; cases q; simp [and_assoc]
theorem Pa.eq_iff {p q : Pa} : p = q ↔ (p.n = q.n ∧ p.d = q.d) ∧ p.ms = q.ms := by
  cases p; cases q; simp [and_assoc]
theorem rpSameMoments_fn (a b : List Md) : FnOK Try.prog 27 [.one (mos a), .one (mos b)] (.c (.one (bol (decide (a = b))))) := by
  refine fn_ok (by kernel_rfl) ty_ok Try.func27 rfl (fun _ _ => Try.call27 _ _) rfl ?_
  intro hw
  simp only [WDCs, WDC, WDs] at hw
  have w1 := wd_mos hw.1
  have w2 := wd_mos hw.2.1
  clear hw
  have hl1 : (a.map Md.c).length = a.length := List.length_map ..
  have hl2 : (b.map Md.c).length = b.length := List.length_map ..
  by_cases h0 : a.length = b.length
  · repeat' ((conv => whnf); first | (with_reducible first | refine br_t ?_ | refine br_f ?_ | refine xa (by assumption) ?_ | refine xg (by assumption) rfl ?_ | refine xo (by assumption) ?_ | refine xb (by assumption) rfl ?_ | refine xm (by assumption) ?_ | refine xc (by assumption) ?_) | ((with_reducible refine bc_t ?_ ?_); (first | omega | decide)) | ((with_reducible refine bc_f ?_ ?_); (first | omega | decide)) | (with_reducible first | refine bc (fun h => ?_) (fun h => ?_) | refine br_t' (by assumption) ?_ | refine br_f' (by assumption) ?_ | refine br_i (fun h => ?_) (fun h => ?_) | refine xi (pv_bool fun _ => nev23 _ _ _ _ _ _ _) ?_) | refine xg (by assumption) rfl ?_ | refine And.intro (by first | kernel_rfl | omega | (simp only [List.length_append, List.length_cons, List.length_nil, List.length_map, List.length_take, List.length_replicate]; omega) | decide) ?_)
    refine loop_J (by kernel_rfl) ty_ok (σ := Nat) (fun i => [(5, sV (.int .i64 i))]) (fun _ => []) (fun i => i ≤ a.length ∧ a.take i = b.take i) (fun i => a.length - i) 0 ⟨by omega, rfl⟩ ?_ ?_
    · (conv => whnf); refine ⟨by repeat' (first | with_reducible exact zE0 | with_reducible refine zE1 ?_ ?_ | rfl | assumption | (refine ent_i ?_; (first | omega | (rw [IntWalk.i64_in _ (by omega)]; omega) | (simp; done))) | (refine ent_b ?_; (first | omega | (rw [IntWalk.i64_in _ (by omega)]; omega) | (simp; done)))), by repeat' (first | with_reducible exact zH0 | with_reducible refine zH1 ?_ ?_ | rfl | assumption), rfl⟩
    rintro i ⟨hi, hI⟩
    rcases Nat.lt_or_ge i a.length with hlt | hge
    · have hb : i < b.length := by omega
      have he1 := mos_get hlt
      have he2 := mos_get hb
      have H := rfSame_fn a[i].l b[i].l
      by_cases hc : a[i] = b[i]
      · obtain ⟨hq, hq2⟩ := Md.eq_iff.1 hc
        rw [decide_eq_true hq2] at H
        repeat' ((conv => whnf); first | (with_reducible first | refine br_t ?_ | refine br_f ?_ | refine xa (by assumption) ?_ | refine xg (by assumption) rfl ?_ | refine xo (by assumption) ?_ | refine xb (by assumption) rfl ?_ | refine xm (by assumption) ?_ | refine xc (by assumption) ?_) | ((with_reducible refine bc_t ?_ ?_); (first | omega | decide)) | ((with_reducible refine bc_f ?_ ?_); (first | omega | decide)) | (with_reducible first | refine bc (fun h => ?_) (fun h => ?_) | refine br_t' (by assumption) ?_ | refine br_f' (by assumption) ?_ | refine br_i (fun h => ?_) (fun h => ?_) | refine xi (pv_bool fun _ => nev23 _ _ _ _ _ _ _) ?_) | refine xg (by assumption) rfl ?_ | refine And.intro (by first | kernel_rfl | omega | (simp only [List.length_append, List.length_cons, List.length_nil, List.length_map, List.length_take, List.length_replicate]; omega) | decide) ?_)
        all_goals conv => whnf
        refine ⟨i + 1, ⟨by omega, take_succ_eq hI hlt hb hc⟩, ?_, by omega⟩
        (conv => whnf); refine ⟨by repeat' (first | with_reducible exact zE0 | with_reducible refine zE1 ?_ ?_ | rfl | assumption | (refine ent_i ?_; (first | omega | (rw [IntWalk.i64_in _ (by omega)]; omega) | (simp; done))) | (refine ent_b ?_; (first | omega | (rw [IntWalk.i64_in _ (by omega)]; omega) | (simp; done)))), by repeat' (first | with_reducible exact zH0 | with_reducible refine zH1 ?_ ?_ | rfl | assumption), rfl⟩
      · rw [decide_eq_false (ne_of_get hlt hb hc)]
        by_cases hq : a[i].n = b[i].n ∧ a[i].d = b[i].d
        · rw [decide_eq_false (fun h => hc (Md.eq_iff.2 ⟨hq, h⟩))] at H
          repeat' ((conv => whnf); first | (with_reducible first | refine br_t ?_ | refine br_f ?_ | refine xa (by assumption) ?_ | refine xg (by assumption) rfl ?_ | refine xo (by assumption) ?_ | refine xb (by assumption) rfl ?_ | refine xm (by assumption) ?_ | refine xc (by assumption) ?_) | ((with_reducible refine bc_t ?_ ?_); (first | omega | decide)) | ((with_reducible refine bc_f ?_ ?_); (first | omega | decide)) | (with_reducible first | refine bc (fun h => ?_) (fun h => ?_) | refine br_t' (by assumption) ?_ | refine br_f' (by assumption) ?_ | refine br_i (fun h => ?_) (fun h => ?_) | refine xi (pv_bool fun _ => nev23 _ _ _ _ _ _ _) ?_) | refine xg (by assumption) rfl ?_ | refine And.intro (by first | kernel_rfl | omega | (simp only [List.length_append, List.length_cons, List.length_nil, List.length_map, List.length_take, List.length_replicate]; omega) | decide) ?_)
          all_goals conv => whnf
          all_goals rfl
        · repeat' ((conv => whnf); first | (with_reducible first | refine br_t ?_ | refine br_f ?_ | refine xa (by assumption) ?_ | refine xg (by assumption) rfl ?_ | refine xo (by assumption) ?_ | refine xb (by assumption) rfl ?_ | refine xm (by assumption) ?_ | refine xc (by assumption) ?_) | ((with_reducible refine bc_t ?_ ?_); (first | omega | decide)) | ((with_reducible refine bc_f ?_ ?_); (first | omega | decide)) | (with_reducible first | refine bc (fun h => ?_) (fun h => ?_) | refine br_t' (by assumption) ?_ | refine br_f' (by assumption) ?_ | refine br_i (fun h => ?_) (fun h => ?_) | refine xi (pv_bool fun _ => nev23 _ _ _ _ _ _ _) ?_) | refine xg (by assumption) rfl ?_ | refine And.intro (by first | kernel_rfl | omega | (simp only [List.length_append, List.length_cons, List.length_nil, List.length_map, List.length_take, List.length_replicate]; omega) | decide) ?_)
          all_goals conv => whnf
          all_goals rfl
    · rw [decide_eq_true (take_all_eq hI h0 hge)]
      repeat' ((conv => whnf); first | (with_reducible first | refine br_t ?_ | refine br_f ?_ | refine xa (by assumption) ?_ | refine xg (by assumption) rfl ?_ | refine xo (by assumption) ?_ | refine xb (by assumption) rfl ?_ | refine xm (by assumption) ?_ | refine xc (by assumption) ?_) | ((with_reducible refine bc_t ?_ ?_); (first | omega | decide)) | ((with_reducible refine bc_f ?_ ?_); (first | omega | decide)) | (with_reducible first | refine bc (fun h => ?_) (fun h => ?_) | refine br_t' (by assumption) ?_ | refine br_f' (by assumption) ?_ | refine br_i (fun h => ?_) (fun h => ?_) | refine xi (pv_bool fun _ => nev23 _ _ _ _ _ _ _) ?_) | refine xg (by assumption) rfl ?_ | refine And.intro (by first | kernel_rfl | omega | (simp only [List.length_append, List.length_cons, List.length_nil, List.length_map, List.length_take, List.length_replicate]; omega) | decide) ?_)
      all_goals conv => whnf
      all_goals rfl
  · rw [decide_eq_false (fun h => h0 (congrArg List.length h))]
    repeat' ((conv => whnf); first | (with_reducible first | refine br_t ?_ | refine br_f ?_ | refine xa (by assumption) ?_ | refine xg (by assumption) rfl ?_ | refine xo (by assumption) ?_ | refine xb (by assumption) rfl ?_ | refine xm (by assumption) ?_ | refine xc (by assumption) ?_) | ((with_reducible refine bc_t ?_ ?_); (first | omega | decide)) | ((with_reducible refine bc_f ?_ ?_); (first | omega | decide)) | (with_reducible first | refine bc (fun h => ?_) (fun h => ?_) | refine br_t' (by assumption) ?_ | refine br_f' (by assumption) ?_ | refine br_i (fun h => ?_) (fun h => ?_) | refine xi (pv_bool fun _ => nev23 _ _ _ _ _ _ _) ?_) | refine xg (by assumption) rfl ?_ | refine And.intro (by first | kernel_rfl | omega | (simp only [List.length_append, List.length_cons, List.length_nil, List.length_map, List.length_take, List.length_replicate]; omega) | decide) ?_)
    all_goals conv => whnf
    all_goals rfl
theorem rpSame_fn (p q : Pa) : FnOK Try.prog 13 [p.dc, q.dc] (.c (.one (bol (decide (p = q))))) := by
  refine fn_ok (by kernel_rfl) ty_ok Try.func13 rfl (fun _ _ => Try.call13 _ _) rfl ?_
  intro hw
  clear hw
  have H := rpSameMoments_fn p.ms q.ms
  rw [show decide (p = q) = decide ((p.n = q.n ∧ p.d = q.d) ∧ p.ms = q.ms) from decide_eq_decide.2 Pa.eq_iff]
  by_cases h : p.n = q.n ∧ p.d = q.d
  all_goals
    cases hz : decide (p.ms = q.ms)
    all_goals
      rw [hz] at H
      repeat' ((conv => whnf); first | (with_reducible first | refine br_t ?_ | refine br_f ?_ | refine xa (by assumption) ?_ | refine xg (by assumption) rfl ?_ | refine xo (by assumption) ?_ | refine xb (by assumption) rfl ?_ | refine xm (by assumption) ?_ | refine xc (by assumption) ?_) | ((with_reducible refine bc_t ?_ ?_); (first | omega | decide)) | ((with_reducible refine bc_f ?_ ?_); (first | omega | decide)) | (with_reducible first | refine bc (fun h => ?_) (fun h => ?_) | refine br_t' (by assumption) ?_ | refine br_f' (by assumption) ?_ | refine br_i (fun h => ?_) (fun h => ?_) | refine xi (pv_bool fun _ => eqv23 _ _ _ _ _ _ _) ?_) | refine xg (by assumption) rfl ?_ | refine And.intro (by first | kernel_rfl | omega | (simp only [List.length_append, List.length_cons, List.length_nil, List.length_map, List.length_take, List.length_replicate]; omega) | decide) ?_)
      all_goals conv => whnf
      all_goals simp at hz
      all_goals simp [h, hz]
def gr32 (l : List Pt) : Bool := decide (16 < l.length ∧ l.length ≤ 64 ∨ 70 < l.length)
theorem r32Great_fn (l : List Pt) : FnOK Try.prog 6 [fld l] (.c (.one (bol (gr32 l)))) := by
  refine fn_ok (by kernel_rfl) ty_ok Try.func6 rfl (fun _ _ => Try.call6 _ _) rfl ?_
  intro hw
  simp only [WDCs, WDC, WDs] at hw
  obtain ⟨w1, w2⟩ := wd_pts hw.1.1
  unfold gr32
  repeat' ((conv => whnf); first | (with_reducible first | refine br_t ?_ | refine br_f ?_ | refine xa (by assumption) ?_ | refine xg (by assumption) rfl ?_ | refine xo (by assumption) ?_ | refine xb (by assumption) rfl ?_ | refine xm (by assumption) ?_ | refine xc (by assumption) ?_) | rw [List.length_map] | ((with_reducible refine bc_t ?_ ?_); (first | omega | decide)) | ((with_reducible refine bc_f ?_ ?_); (first | omega | decide)) | (with_reducible first | refine bc (fun h => ?_) (fun h => ?_) | refine br_t' (by assumption) ?_ | refine br_f' (by assumption) ?_ | refine br_i (fun h => ?_) (fun h => ?_)) | refine xg (by assumption) rfl ?_ | refine And.intro (by first | kernel_rfl | omega | (simp only [List.length_append, List.length_cons, List.length_nil, List.length_map, List.length_take, List.length_replicate]; omega) | decide) ?_)
  all_goals conv => whnf
  all_goals
    refine r_bool ?_
    first
    | rfl
    | (simp only [decide_eq_decide, Bool.true_eq, Bool.false_eq, decide_eq_true_eq, decide_eq_false_iff_not]; omega)
    | (rw [eq_comm]; simp only [decide_eq_decide, decide_eq_true_eq, decide_eq_false_iff_not]; omega)
theorem gr32_len {l : List Pt} (h : gr32 l = false) : l.length ≤ 70 := by
  have := of_decide_eq_false h
  omega
def pgreat (p : Pa) : Bool := (p.ms.take 46).any (fun m => gr32 m.l) || decide (45 < p.ms.length)
theorem pgreat_ok {p : Pa} (h : pgreat p = false) : p.ms.length ≤ 45 ∧ ∀ m ∈ p.ms, m.l.length ≤ 70 := by
  unfold pgreat at h
  rw [Bool.or_eq_false_iff] at h
  obtain ⟨h1, h2⟩ := h
  have h2 : ¬ 45 < p.ms.length := of_decide_eq_false h2
  rw [List.take_of_length_le (by omega), List.any_eq_false] at h1
  exact ⟨by omega, fun m hm => gr32_len (Bool.eq_false_iff.2 (h1 m hm))⟩
theorem any_take_succ {l : List Md} {f : Md → Bool} {i : Nat} (h : i < l.length) : (l.take (i + 1)).any f = ((l.take i).any f || f l[i]) := by
  rw [List.take_succ_eq_append_getElem h, List.any_append]; simp
theorem any_take_mono {l : List Md} {f : Md → Bool} {i j : Nat} (hij : i ≤ j) (h : (l.take i).any f = true) : (l.take j).any f = true := by
  rw [List.any_eq_true] at *
  obtain ⟨x, hx, hf⟩ := h
  exact ⟨x, List.take_subset_take_left l hij hx, hf⟩
theorem rpGreat_fn (p : Pa) : FnOK Try.prog 5 [p.dc] (.c (.one (bol (pgreat p)))) := by
  obtain ⟨n, d, l⟩ := p
  show FnOK _ _ [.agg [i64 n, i64 d, mos l]] _
  refine fn_ok (by kernel_rfl) ty_ok Try.func5 rfl (fun _ _ => Try.call5 _ _) rfl ?_
  intro hw
  simp only [WDCs, WDC, WDs] at hw
  have w1 := wd_mos hw.1.2.2.1
  clear hw
  have hln : (l.map Md.c).length = l.length := List.length_map ..
  unfold pgreat
  simp only
  repeat' ((conv => whnf); first | (with_reducible first | refine br_t ?_ | refine br_f ?_ | refine xa (by assumption) ?_ | refine xg (by assumption) rfl ?_ | refine xo (by assumption) ?_ | refine xb (by assumption) rfl ?_ | refine xm (by assumption) ?_ | refine xc (by assumption) ?_) | ((with_reducible refine bc_t ?_ ?_); (first | omega | decide)) | ((with_reducible refine bc_f ?_ ?_); (first | omega | decide)) | (with_reducible first | refine bc (fun h => ?_) (fun h => ?_) | refine br_t' (by assumption) ?_ | refine br_f' (by assumption) ?_ | refine br_i (fun h => ?_) (fun h => ?_)) | refine xg (by assumption) rfl ?_ | refine And.intro (by first | kernel_rfl | omega | (simp only [List.length_append, List.length_cons, List.length_nil, List.length_map, List.length_take, List.length_replicate]; omega) | decide) ?_)
  refine loop_J (by kernel_rfl) ty_ok (σ := Nat) (fun i => [(3, sV (.int .i64 i))]) (fun _ => []) (fun i => i ≤ l.length ∧ i ≤ 46 ∧ (l.take i).any (fun m => gr32 m.l) = false) (fun i => l.length - i) 0 ⟨by omega, by omega, rfl⟩ ?_ ?_
  · (conv => whnf); refine ⟨by repeat' (first | with_reducible exact zE0 | with_reducible refine zE1 ?_ ?_ | rfl | assumption | (refine ent_i ?_; (first | omega | (rw [IntWalk.i64_in _ (by omega)]; omega) | (simp; done))) | (refine ent_b ?_; (first | omega | (rw [IntWalk.i64_in _ (by omega)]; omega) | (simp; done)))), by repeat' (first | with_reducible exact zH0 | with_reducible refine zH1 ?_ ?_ | rfl | assumption), rfl⟩
  rintro i ⟨hi, hi2, hI⟩
  by_cases hlt : i < l.length ∧ i ≤ 45
  · obtain ⟨hlt, h45⟩ := hlt
    have he1 := mos_get hlt
    have H := r32Great_fn l[i].l
    cases hg : gr32 l[i].l
    · rw [hg] at H
      repeat' ((conv => whnf); first | (with_reducible first | refine br_t ?_ | refine br_f ?_ | refine xa (by assumption) ?_ | refine xg (by assumption) rfl ?_ | refine xo (by assumption) ?_ | refine xb (by assumption) rfl ?_ | refine xm (by assumption) ?_ | refine xc (by assumption) ?_) | ((with_reducible refine bc_t ?_ ?_); (first | omega | decide)) | ((with_reducible refine bc_f ?_ ?_); (first | omega | decide)) | (with_reducible first | refine bc (fun h => ?_) (fun h => ?_) | refine br_t' (by assumption) ?_ | refine br_f' (by assumption) ?_ | refine br_i (fun h => ?_) (fun h => ?_)) | refine xg (by assumption) rfl ?_ | refine And.intro (by first | kernel_rfl | omega | (simp only [List.length_append, List.length_cons, List.length_nil, List.length_map, List.length_take, List.length_replicate]; omega) | decide) ?_)
      all_goals conv => whnf
      refine ⟨i + 1, ⟨by omega, by omega, by rw [any_take_succ hlt, hI, hg]; rfl⟩, ?_, by omega⟩
      (conv => whnf); refine ⟨by repeat' (first | with_reducible exact zE0 | with_reducible refine zE1 ?_ ?_ | rfl | assumption | (refine ent_i ?_; (first | omega | (rw [IntWalk.i64_in _ (by omega)]; omega) | (simp; done))) | (refine ent_b ?_; (first | omega | (rw [IntWalk.i64_in _ (by omega)]; omega) | (simp; done)))), by repeat' (first | with_reducible exact zH0 | with_reducible refine zH1 ?_ ?_ | rfl | assumption), rfl⟩
    · rw [hg] at H
      have : (l.take 46).any (fun m => gr32 m.l) = true := any_take_mono (i := i + 1) (by omega) (by rw [any_take_succ hlt, hI, hg]; rfl)
      rw [this]
      repeat' ((conv => whnf); first | (with_reducible first | refine br_t ?_ | refine br_f ?_ | refine xa (by assumption) ?_ | refine xg (by assumption) rfl ?_ | refine xo (by assumption) ?_ | refine xb (by assumption) rfl ?_ | refine xm (by assumption) ?_ | refine xc (by assumption) ?_) | ((with_reducible refine bc_t ?_ ?_); (first | omega | decide)) | ((with_reducible refine bc_f ?_ ?_); (first | omega | decide)) | (with_reducible first | refine bc (fun h => ?_) (fun h => ?_) | refine br_t' (by assumption) ?_ | refine br_f' (by assumption) ?_ | refine br_i (fun h => ?_) (fun h => ?_)) | refine xg (by assumption) rfl ?_ | refine And.intro (by first | kernel_rfl | omega | (simp only [List.length_append, List.length_cons, List.length_nil, List.length_map, List.length_take, List.length_replicate]; omega) | decide) ?_)
      all_goals conv => whnf
      all_goals rfl
  · have : (l.take 46).any (fun m => gr32 m.l) = false := by
      rcases Nat.lt_or_ge i l.length with h | h
      · have : i = 46 := by omega
        subst this; exact hI
      · rw [List.take_of_length_le (by omega)]; rw [List.take_of_length_le h] at hI; exact hI
    rw [this, Bool.false_or]
    rcases (show l.length ≤ i ∨ i < l.length ∧ 45 < i by omega) with h1 | ⟨h1, h2⟩
    all_goals
      repeat' ((conv => whnf); first | (with_reducible first | refine br_t ?_ | refine br_f ?_ | refine xa (by assumption) ?_ | refine xg (by assumption) rfl ?_ | refine xo (by assumption) ?_ | refine xb (by assumption) rfl ?_ | refine xm (by assumption) ?_ | refine xc (by assumption) ?_) | ((with_reducible refine bc_t ?_ ?_); (first | omega | decide)) | ((with_reducible refine bc_f ?_ ?_); (first | omega | decide)) | (with_reducible first | refine bc (fun h => ?_) (fun h => ?_) | refine br_t' (by assumption) ?_ | refine br_f' (by assumption) ?_ | refine br_i (fun h => ?_) (fun h => ?_)) | refine xg (by assumption) rfl ?_ | refine And.intro (by first | kernel_rfl | omega | (simp only [List.length_append, List.length_cons, List.length_nil, List.length_map, List.length_take, List.length_replicate]; omega) | decide) ?_)
      all_goals conv => whnf
      all_goals
        refine r_bool ?_
        simp only [hln, decide_eq_decide, gt_iff_lt]
        omega
set_option maxHeartbeats 1000000 in
theorem rpTwin_own (p : Pa) (h1 : p.ms.length ≤ 1000000) (h2 : ∀ m ∈ p.ms, m.l.length ≤ 1000000) : FnOwn Try.prog 7 [p.dc] ⟨.c p.dc, 0, 2, 3, p.ms.map Md.c⟩ := by
  obtain ⟨n, d, l⟩ := p
  show FnOwn _ _ [.agg [i64 n, i64 d, mos l]] ⟨.c (.agg [i64 n, i64 d, mos l]), 0, 2, 3, l.map Md.c⟩
  simp only at h1 h2
  refine fn_own (by kernel_rfl) (ty_okK [32] [] []) Try.func7 rfl (fun _ _ => Try.call7 _ _) rfl ?_
  intro hw
  clear hw
  have hln : (l.map Md.c).length = l.length := List.length_map ..
  repeat' ((conv => whnf); first | (with_reducible first | refine br_t ?_ | refine br_f ?_ | refine xa (by assumption) ?_ | refine xg (by assumption) rfl ?_ | refine xo (by assumption) ?_ | refine xb (by assumption) rfl ?_ | refine xm (by assumption) ?_ | refine xc (by assumption) ?_) | ((with_reducible refine bc_t ?_ ?_); (first | omega | decide)) | ((with_reducible refine bc_f ?_ ?_); (first | omega | decide)) | (with_reducible first | refine bc (fun h => ?_) (fun h => ?_) | refine br_t' (by assumption) ?_ | refine br_f' (by assumption) ?_ | refine br_i (fun h => ?_) (fun h => ?_)) | refine xg (by assumption) rfl ?_ | refine And.intro (by first | kernel_rfl | omega | (simp only [List.length_append, List.length_cons, List.length_nil, List.length_map, List.length_take, List.length_replicate]; omega) | decide) ?_)
  refine loop_nameH 3 2 100 rfl rfl rfl ?_
  refine loop_J (by kernel_rfl) (ty_okK [32] [] []) (σ := Nat) (fun i => [(4, sV (.int .i64 i))]) (fun i => [(3, .own [.d (i64 n), .d (i64 d), .osl 100 0]), (100, .row 3 ((l.take i).map Md.c) 0)]) (fun i => i ≤ l.length) (fun i => l.length - i) 0 (Nat.zero_le _) ?_ ?_
  · (conv => whnf); refine ⟨by repeat' (first | with_reducible exact zE0 | with_reducible refine zE1 ?_ ?_ | rfl | assumption | (refine ent_i ?_; (first | omega | (rw [IntWalk.i64_in _ (by omega)]; omega) | (simp; done))) | (refine ent_b ?_; (first | omega | (rw [IntWalk.i64_in _ (by omega)]; omega) | (simp; done)))), by repeat' (first | with_reducible exact zH0 | with_reducible refine zH1 ?_ ?_ | rfl | assumption), rfl⟩
  intro i hi
  rcases Nat.lt_or_ge i l.length with hlt | hge
  · have he1 := mos_get hlt
    have H := rfTwin_fn l[i].l (h2 _ (List.getElem_mem hlt))
    have ha : (l.take i).map Md.c ++ [l[i].mo] = (l.take (i + 1)).map Md.c := by
      rw [List.take_succ_eq_append_getElem hlt, List.map_append]; rfl
    have hlt2 : ((l.take i).map Md.c).length = i := by simp; omega
    repeat' ((conv => whnf); first | (with_reducible first | refine br_t ?_ | refine br_f ?_ | refine xa (by assumption) ?_ | refine xg (by assumption) rfl ?_ | refine xo (by assumption) ?_ | refine xb (by assumption) rfl ?_ | refine xm (by assumption) ?_ | refine xc (by assumption) ?_) | ((with_reducible refine bc_t ?_ ?_); (first | omega | decide)) | ((with_reducible refine bc_f ?_ ?_); (first | omega | decide)) | (with_reducible first | refine bc (fun h => ?_) (fun h => ?_) | refine br_t' (by assumption) ?_ | refine br_f' (by assumption) ?_ | refine br_i (fun h => ?_) (fun h => ?_)) | refine xg (by assumption) rfl ?_ | refine And.intro (by first | kernel_rfl | omega | (simp only [List.length_append, List.length_cons, List.length_nil, List.length_map, List.length_take, List.length_replicate]; omega) | decide) ?_)
    all_goals conv => whnf
    refine ⟨i + 1, by omega, ?_, by omega⟩
    (conv => whnf); refine ⟨by repeat' (first | with_reducible exact zE0 | with_reducible refine zE1 ?_ ?_ | rfl | assumption | (exact congrArg (fun x => some (Blk.row 3 x 0)) ha) | (refine ent_i ?_; (first | omega | (rw [IntWalk.i64_in _ (by omega)]; omega) | (simp; done))) | (refine ent_b ?_; (first | omega | (rw [IntWalk.i64_in _ (by omega)]; omega) | (simp; done)))), by repeat' (first | with_reducible exact zH0 | with_reducible refine zH1 ?_ ?_ | rfl | assumption | (exact congrArg (fun x => some (Blk.row 3 x 0)) ha)), rfl⟩
  · rw [List.take_of_length_le hge]
    repeat' ((conv => whnf); first | (with_reducible first | refine br_t ?_ | refine br_f ?_ | refine xa (by assumption) ?_ | refine xg (by assumption) rfl ?_ | refine xo (by assumption) ?_ | refine xb (by assumption) rfl ?_ | refine xm (by assumption) ?_ | refine xc (by assumption) ?_) | ((with_reducible refine bc_t ?_ ?_); (first | omega | decide)) | ((with_reducible refine bc_f ?_ ?_); (first | omega | decide)) | (with_reducible first | refine bc (fun h => ?_) (fun h => ?_) | refine br_t' (by assumption) ?_ | refine br_f' (by assumption) ?_ | refine br_i (fun h => ?_) (fun h => ?_)) | refine xg (by assumption) rfl ?_ | refine And.intro (by first | kernel_rfl | omega | (simp only [List.length_append, List.length_cons, List.length_nil, List.length_map, List.length_take, List.length_replicate]; omega) | decide) ?_)
    all_goals conv => whnf
    exact .inl ⟨100, 0, _, rfl, rfl, rfl⟩
theorem rpTwin_fn (p : Pa) (h1 : p.ms.length ≤ 1000000) (h2 : ∀ m ∈ p.ms, m.l.length ≤ 1000000) : FnOK Try.prog 7 [p.dc] (.c p.dc) := ok_of_ownA rfl (rpTwin_own p h1 h2)
end Go.Proofs.Ytjbnfoipjnkjdaa






/- The past: New and Go. No conditions. -/
namespace Go.Proofs.Ytjbnfoipjnkjdaa
open Go.RowKit Go.Sort Sx
abbrev retP (x : Pa × Int) : DV := .tup [x.1.dc, .one (i64 x.2)]
def pNewV (m : Md) : Pa × Int := if mchk m = 0 then (⟨m.n, m.d, [m]⟩, 0) else (⟨0, 0, []⟩, 8)
theorem mchk_len {m : Md} (h : mchk m = 0) : m.l.length ≤ 64 := (fchk_ok (mchk_ok h).2).1
theorem pNew_fn (m : Md) : FnOK Try.prog 9 [m.dc] (retP (pNewV m)) := by
  refine fn_ok (by kernel_rfl) ty_ok Try.func9 rfl (fun _ _ => Try.call9 _ _) rfl ?_
  intro hw
  clear hw
  have H := oCheck_fn m
  unfold pNewV
  by_cases h : mchk m = 0
  · rw [if_pos h]
    rw [h] at H
    have H2 := pcopied_fn m.l (by have := mchk_len h; omega)
    repeat' ((conv => whnf); first | (with_reducible first | refine br_t ?_ | refine br_f ?_ | refine xa (by assumption) ?_ | refine xg (by assumption) rfl ?_ | refine xo (by assumption) ?_ | refine xb (by assumption) rfl ?_ | refine xm (by assumption) ?_ | refine xc (by assumption) ?_) | ((with_reducible refine bc_t ?_ ?_); (first | omega | decide)) | ((with_reducible refine bc_f ?_ ?_); (first | omega | decide)) | (with_reducible first | refine bc (fun h => ?_) (fun h => ?_) | refine br_t' (by assumption) ?_ | refine br_f' (by assumption) ?_ | refine br_i (fun h => ?_) (fun h => ?_)) | refine xg (by assumption) rfl ?_ | refine And.intro (by first | kernel_rfl | omega | (simp only [List.length_append, List.length_cons, List.length_nil, List.length_map, List.length_take, List.length_replicate]; omega) | decide) ?_)
    all_goals conv => whnf
    all_goals rfl
  · rw [if_neg h]
    have h8 : mchk m = 8 := (mchk_08 m).resolve_left h
    rw [h8] at H
    repeat' ((conv => whnf); first | (with_reducible first | refine br_t ?_ | refine br_f ?_ | refine xa (by assumption) ?_ | refine xg (by assumption) rfl ?_ | refine xo (by assumption) ?_ | refine xb (by assumption) rfl ?_ | refine xm (by assumption) ?_ | refine xc (by assumption) ?_) | ((with_reducible refine bc_t ?_ ?_); (first | omega | decide)) | ((with_reducible refine bc_f ?_ ?_); (first | omega | decide)) | (with_reducible first | refine bc (fun h => ?_) (fun h => ?_) | refine br_t' (by assumption) ?_ | refine br_f' (by assumption) ?_ | refine br_i (fun h => ?_) (fun h => ?_)) | refine xg (by assumption) rfl ?_ | refine And.intro (by first | kernel_rfl | omega | (simp only [List.length_append, List.length_cons, List.length_nil, List.length_map, List.length_take, List.length_replicate]; omega) | decide) ?_)
    all_goals conv => whnf
    all_goals rfl
theorem rpNew_fn (m : Md) : FnOK Try.prog 10 [m.dc] (retP (pNewV m)) := by
  refine fn_ok (by kernel_rfl) ty_ok Try.func10 rfl (fun _ _ => Try.call10 _ _) rfl ?_
  intro hw
  clear hw
  have H := roCheck_fn m
  unfold pNewV
  by_cases h : mchk m = 0
  · rw [if_pos h]
    rw [h] at H
    have H2 := rfTwin_fn m.l (by have := mchk_len h; omega)
    repeat' ((conv => whnf); first | (with_reducible first | refine br_t ?_ | refine br_f ?_ | refine xa (by assumption) ?_ | refine xg (by assumption) rfl ?_ | refine xo (by assumption) ?_ | refine xb (by assumption) rfl ?_ | refine xm (by assumption) ?_ | refine xc (by assumption) ?_) | ((with_reducible refine bc_t ?_ ?_); (first | omega | decide)) | ((with_reducible refine bc_f ?_ ?_); (first | omega | decide)) | (with_reducible first | refine bc (fun h => ?_) (fun h => ?_) | refine br_t' (by assumption) ?_ | refine br_f' (by assumption) ?_ | refine br_i (fun h => ?_) (fun h => ?_)) | refine xg (by assumption) rfl ?_ | refine And.intro (by first | kernel_rfl | omega | (simp only [List.length_append, List.length_cons, List.length_nil, List.length_map, List.length_take, List.length_replicate]; omega) | decide) ?_)
    all_goals conv => whnf
    all_goals rfl
  · rw [if_neg h]
    have h8 : mchk m = 8 := (mchk_08 m).resolve_left h
    rw [h8] at H
    repeat' ((conv => whnf); first | (with_reducible first | refine br_t ?_ | refine br_f ?_ | refine xa (by assumption) ?_ | refine xg (by assumption) rfl ?_ | refine xo (by assumption) ?_ | refine xb (by assumption) rfl ?_ | refine xm (by assumption) ?_ | refine xc (by assumption) ?_) | ((with_reducible refine bc_t ?_ ?_); (first | omega | decide)) | ((with_reducible refine bc_f ?_ ?_); (first | omega | decide)) | (with_reducible first | refine bc (fun h => ?_) (fun h => ?_) | refine br_t' (by assumption) ?_ | refine br_f' (by assumption) ?_ | refine br_i (fun h => ?_) (fun h => ?_)) | refine xg (by assumption) rfl ?_ | refine And.intro (by first | kernel_rfl | omega | (simp only [List.length_append, List.length_cons, List.length_nil, List.length_map, List.length_take, List.length_replicate]; omega) | decide) ?_)
    all_goals conv => whnf
    all_goals rfl
def Pa.last (p : Pa) : Md := p.ms[p.ms.length - 1]?.getD default
def pGoV (p : Pa) (m : Md) : Pa × Int :=
  if pchk p = 0 then (if mchk m = 0 then (if m.n * p.d < p.n * m.d then (⟨0, 0, []⟩, 44) else
    if p.last.l = m.l then (⟨m.n, m.d, p.ms⟩, 0) else if p.last.n = m.n ∧ p.last.d = m.d then (⟨m.n, m.d, p.ms.set (p.ms.length - 1) m⟩, 0) else if p.ms.length = 40 then (⟨0, 0, []⟩, 18) else (⟨m.n, m.d, p.ms ++ [m]⟩, 0))
    else (⟨0, 0, []⟩, 8)) else (⟨0, 0, []⟩, 8)
theorem pchk_ok {p : Pa} (h : pchk p = 0) : 1 ≤ p.ms.length ∧ p.ms.length ≤ 40 ∧ askd p.n p.d = 0 ∧ pgo p.n p.d p.ms = true ∧ ∀ m ∈ p.ms, mchk m = 0 := by
  unfold pchk at h
  split at h
  · rename_i h1
    obtain ⟨h1, h2, h3, h4⟩ := h1
    have := (pgo_iff (n := p.n) (d := p.d) (l := p.ms) (i := 0) rfl (by omega)).1 (by rw [List.drop_zero]; exact h4)
    refine ⟨h1, h2, h3, h4, fun m hm => ?_⟩
    obtain ⟨i, hi, rfl⟩ := List.getElem_of_mem hm
    exact this.1 i hi (Nat.zero_le _)
  · omega
set_option maxHeartbeats 4000000 in
theorem pGo_fn (p : Pa) (m : Md) : FnOK Try.prog 11 [p.dc, m.dc] (retP (pGoV p m)) := by
  have H1 := pCheck_fn p
  have H2 := oCheck_fn m
  unfold pGoV
  by_cases h1 : pchk p = 0
  · rw [if_pos h1]
    rw [h1] at H1
    by_cases h2 : mchk m = 0
    · rw [if_pos h2]
      rw [h2] at H2
      obtain ⟨k1, k2, k3, k4, k5⟩ := pchk_ok h1
      have H3 := cmp_chk (askd_chk (mchk_ok h2).1) (askd_chk k3)
      by_cases h3 : m.n * p.d < p.n * m.d
      · rw [if_pos h3]
        have e3 : cmpN (m.n * p.d) (p.n * m.d) = -1 := if_pos h3
        rw [e3] at H3
        refine fn_ok (by kernel_rfl) ty_ok Try.func11 rfl (fun _ _ => Try.call11 _ _) rfl ?_
        intro hw
        clear hw h3 e3
        repeat' ((conv => whnf); first | (with_reducible first | refine br_t ?_ | refine br_f ?_ | refine xa (by assumption) ?_ | refine xg (by assumption) rfl ?_ | refine xo (by assumption) ?_ | refine xb (by assumption) rfl ?_ | refine xm (by assumption) ?_ | refine xc (by assumption) ?_) | ((with_reducible refine bc_t ?_ ?_); (first | omega | decide)) | ((with_reducible refine bc_f ?_ ?_); (first | omega | decide)) | (with_reducible first | refine bc (fun h => ?_) (fun h => ?_) | refine br_t' (by assumption) ?_ | refine br_f' (by assumption) ?_ | refine br_i (fun h => ?_) (fun h => ?_) | refine xi (pv_bool fun _ => eqv23 _ _ _ _ _ _ _) ?_) | refine xg (by assumption) rfl ?_ | refine And.intro (by first | kernel_rfl | omega | (simp only [List.length_append, List.length_cons, List.length_nil, List.length_map, List.length_take, List.length_replicate]; omega) | decide) ?_)
        all_goals conv => whnf
        all_goals rfl
      · rw [if_neg h3]
        have e3 : 0 ≤ cmpN (m.n * p.d) (p.n * m.d) := by unfold cmpN; rw [if_neg h3]; split <;> omega
        generalize cmpN (m.n * p.d) (p.n * m.d) = z at H3 e3
        clear h3 h1
        obtain ⟨n, d, l⟩ := p
        have k5 : ∀ m ∈ l, mchk m = 0 := k5
        have hln : (l.map Md.c).length = l.length := List.length_map ..
        simp only at k1 k2
        have hlast : (⟨n, d, l⟩ : Pa).last = l[l.length - 1] := by unfold Pa.last; simp only; rw [List.getElem?_eq_getElem (by omega)]; rfl
        rw [hlast]
        have H4 := pcopied_fn m.l (by have := mchk_len h2; omega)
        have H5 := psame_fn l[l.length - 1].l m.l
        have ew : IntKind.i64.wrap ((l.length : Int) - 1) = ((l.length - 1 : Nat) : Int) := by rw [IntWalk.i64_in _ (by omega)]; omega
        show FnOK _ _ [.agg [i64 n, i64 d, mos l], .agg [i64 m.n, i64 m.d, pts m.l]] _
        simp only [Md.dc, Pa.dc] at H1 H2
        refine fn_ok (by kernel_rfl) (ty_okK [56, 75] [] []) Try.func11 rfl (fun _ _ => Try.call11 _ _) rfl ?_
        intro hw
        clear hw
        repeat' ((conv => whnf); first | (with_reducible first | refine br_t ?_ | refine br_f ?_ | refine xa (by assumption) ?_ | refine xg (by assumption) rfl ?_ | refine xo (by assumption) ?_ | refine xb (by assumption) rfl ?_ | refine xm (by assumption) ?_ | refine xc (by assumption) ?_) | ((with_reducible refine bc_t ?_ ?_); (first | omega | decide)) | ((with_reducible refine bc_f ?_ ?_); (first | omega | decide)) | (with_reducible first | refine bc (fun h => ?_) (fun h => ?_) | refine br_t' (by assumption) ?_ | refine br_f' (by assumption) ?_ | refine br_i (fun h => ?_) (fun h => ?_) | refine xi (pv_bool fun _ => eqv23 _ _ _ _ _ _ _) ?_) | refine xg (by assumption) rfl ?_ | refine And.intro (by first | kernel_rfl | omega | (simp only [List.length_append, List.length_cons, List.length_nil, List.length_map, List.length_take, List.length_replicate]; omega) | decide) ?_)
        refine loop_nameH 10 2 100 rfl rfl rfl ?_
        refine loop_J (by kernel_rfl) (ty_okK [56, 75] [] []) (σ := Nat) (fun i => [(43, sV (.int .i64 i))]) (fun i => [(10, .own [.d (i64 m.n), .d (i64 m.d), .osl 100 0]), (100, .row 3 ((l.take i).map Md.c) 0)]) (fun i => i ≤ l.length) (fun i => l.length - i) 0 (Nat.zero_le _) ?_ ?_
        · (conv => whnf); refine ⟨by repeat' (first | with_reducible exact zE0 | with_reducible refine zE1 ?_ ?_ | rfl | assumption | (refine ent_i ?_; (first | omega | (rw [IntWalk.i64_in _ (by omega)]; omega) | (simp; done))) | (refine ent_b ?_; (first | omega | (rw [IntWalk.i64_in _ (by omega)]; omega) | (simp; done)))), by repeat' (first | with_reducible exact zH0 | with_reducible refine zH1 ?_ ?_ | rfl | assumption), rfl⟩
        intro i hi
        rcases Nat.lt_or_ge i l.length with hlt | hge
        · have he1 := mos_get hlt
          have H := pcopied_fn l[i].l (by have := mchk_len (k5 _ (List.getElem_mem hlt)); omega)
          have ha : (l.take i).map Md.c ++ [l[i].mo] = (l.take (i + 1)).map Md.c := by
            rw [List.take_succ_eq_append_getElem hlt, List.map_append]; rfl
          have hlt2 : ((l.take i).map Md.c).length = i := by simp; omega
          repeat' ((conv => whnf); first | (with_reducible first | refine br_t ?_ | refine br_f ?_ | refine xa (by assumption) ?_ | refine xg (by assumption) rfl ?_ | refine xo (by assumption) ?_ | refine xb (by assumption) rfl ?_ | refine xm (by assumption) ?_ | refine xc (by assumption) ?_) | ((with_reducible refine bc_t ?_ ?_); (first | omega | decide)) | ((with_reducible refine bc_f ?_ ?_); (first | omega | decide)) | (with_reducible first | refine bc (fun h => ?_) (fun h => ?_) | refine br_t' (by assumption) ?_ | refine br_f' (by assumption) ?_ | refine br_i (fun h => ?_) (fun h => ?_) | refine xi (pv_bool fun _ => eqv23 _ _ _ _ _ _ _) ?_) | refine xg (by assumption) rfl ?_ | refine And.intro (by first | kernel_rfl | omega | (simp only [List.length_append, List.length_cons, List.length_nil, List.length_map, List.length_take, List.length_replicate]; omega) | decide) ?_)
          all_goals conv => whnf
          refine ⟨i + 1, by omega, ?_, by omega⟩
          (conv => whnf); refine ⟨by repeat' (first | with_reducible exact zE0 | with_reducible refine zE1 ?_ ?_ | rfl | assumption | (exact congrArg (fun x => some (Blk.row 3 x 0)) ha) | (refine ent_i ?_; (first | omega | (rw [IntWalk.i64_in _ (by omega)]; omega) | (simp; done))) | (refine ent_b ?_; (first | omega | (rw [IntWalk.i64_in _ (by omega)]; omega) | (simp; done)))), by repeat' (first | with_reducible exact zH0 | with_reducible refine zH1 ?_ ?_ | rfl | assumption | (exact congrArg (fun x => some (Blk.row 3 x 0)) ha)), rfl⟩
        · rw [List.take_of_length_le hge]
          have hl1 : l.length - 1 < l.length := by omega
          have he1 := mos_get' (l := l) (i := l.length - 1) (j := IntKind.i64.wrap ((l.length : Int) - 1)) hl1 (by rw [ew]; omega)
          by_cases c1 : l[l.length - 1].l = m.l
          · rw [decide_eq_true c1] at H5
            rw [if_pos c1]
            clear c1
            repeat' ((conv => whnf); first | (with_reducible first | refine br_t ?_ | refine br_f ?_ | refine xa (by assumption) ?_ | refine xg (by assumption) rfl ?_ | refine xo (by assumption) ?_ | refine xb (by assumption) rfl ?_ | refine xm (by assumption) ?_ | refine xc (by assumption) ?_) | rw [hln] | ((with_reducible refine bc_t ?_ ?_); (first | omega | decide)) | ((with_reducible refine bc_f ?_ ?_); (first | omega | decide)) | (with_reducible first | refine bc (fun h => ?_) (fun h => ?_) | refine br_t' (by assumption) ?_ | refine br_f' (by assumption) ?_ | refine br_i (fun h => ?_) (fun h => ?_) | refine xi (pv_bool fun _ => eqv23 _ _ _ _ _ _ _) ?_) | refine xg (by assumption) rfl ?_ | refine And.intro (by first | kernel_rfl | omega | (simp only [List.length_append, List.length_cons, List.length_nil, List.length_map, List.length_take, List.length_replicate]; omega) | decide) ?_)
            all_goals conv => whnf
            all_goals rfl
          · rw [decide_eq_false c1] at H5
            rw [if_neg c1]
            clear c1
            by_cases c2 : l[l.length - 1].n = m.n ∧ l[l.length - 1].d = m.d
            · rw [if_pos c2]
              have hset : (l.map Md.c).set (IntKind.i64.wrap ((l.length : Int) - 1)).toNat [i64 l[l.length - 1].n, i64 l[l.length - 1].d, pts m.l] = (l.set (l.length - 1) m).map Md.c := by
                rw [ew, Int.toNat_natCast, List.map_set, c2.1, c2.2]; rfl
              repeat' ((conv => whnf); first | (with_reducible first | refine br_t ?_ | refine br_f ?_ | refine xa (by assumption) ?_ | refine xg (by assumption) rfl ?_ | refine xo (by assumption) ?_ | refine xb (by assumption) rfl ?_ | refine xm (by assumption) ?_ | refine xc (by assumption) ?_) | rw [hln] | ((with_reducible refine bc_t ?_ ?_); (first | omega | decide)) | ((with_reducible refine bc_f ?_ ?_); (first | omega | decide)) | (with_reducible first | refine bc (fun h => ?_) (fun h => ?_) | refine br_t' (by assumption) ?_ | refine br_f' (by assumption) ?_ | refine br_i (fun h => ?_) (fun h => ?_) | refine xi (pv_bool fun _ => eqv23 _ _ _ _ _ _ _) ?_) | refine xg (by assumption) rfl ?_ | refine And.intro (by first | kernel_rfl | omega | (simp only [List.length_append, List.length_cons, List.length_nil, List.length_map, List.length_take, List.length_replicate]; omega) | decide) ?_)
              all_goals conv => whnf
              all_goals exact congrArg (fun x => DV.tup [.agg [i64 m.n, i64 m.d, .list 3 x], .one (i64 0)]) hset
            · rw [if_neg c2]
              by_cases c3 : l.length = 40
              · rw [if_pos c3]
                repeat' ((conv => whnf); first | (with_reducible first | refine br_t ?_ | refine br_f ?_ | refine xa (by assumption) ?_ | refine xg (by assumption) rfl ?_ | refine xo (by assumption) ?_ | refine xb (by assumption) rfl ?_ | refine xm (by assumption) ?_ | refine xc (by assumption) ?_) | rw [hln] | ((with_reducible refine bc_t ?_ ?_); (first | omega | decide)) | ((with_reducible refine bc_f ?_ ?_); (first | omega | decide)) | (with_reducible first | refine bc (fun h => ?_) (fun h => ?_) | refine br_t' (by assumption) ?_ | refine br_f' (by assumption) ?_ | refine br_i (fun h => ?_) (fun h => ?_) | refine xi (pv_bool fun _ => eqv23 _ _ _ _ _ _ _) ?_) | refine xg (by assumption) rfl ?_ | refine And.intro (by first | kernel_rfl | omega | (simp only [List.length_append, List.length_cons, List.length_nil, List.length_map, List.length_take, List.length_replicate]; omega) | decide) ?_)
                all_goals conv => whnf
                all_goals rfl
              · rw [if_neg c3]
                have ha : l.map Md.c ++ [m.mo] = (l ++ [m]).map Md.c := by rw [List.map_append]; rfl
                repeat' ((conv => whnf); first | (with_reducible first | refine br_t ?_ | refine br_f ?_ | refine xa (by assumption) ?_ | refine xg (by assumption) rfl ?_ | refine xo (by assumption) ?_ | refine xb (by assumption) rfl ?_ | refine xm (by assumption) ?_ | refine xc (by assumption) ?_) | rw [hln] | ((with_reducible refine bc_t ?_ ?_); (first | omega | decide)) | ((with_reducible refine bc_f ?_ ?_); (first | omega | decide)) | (with_reducible first | refine bc (fun h => ?_) (fun h => ?_) | refine br_t' (by assumption) ?_ | refine br_f' (by assumption) ?_ | refine br_i (fun h => ?_) (fun h => ?_) | refine xi (pv_bool fun _ => eqv23 _ _ _ _ _ _ _) ?_) | refine xg (by assumption) rfl ?_ | refine And.intro (by first | kernel_rfl | omega | (simp only [List.length_append, List.length_cons, List.length_nil, List.length_map, List.length_take, List.length_replicate]; omega) | decide) ?_)
                all_goals conv => whnf
                all_goals exact congrArg (fun x => DV.tup [.agg [i64 m.n, i64 m.d, .list 3 x], .one (i64 0)]) ha
    · rw [if_neg h2]
      have h8 : mchk m = 8 := (mchk_08 m).resolve_left h2
      rw [h8] at H2
      refine fn_ok (by kernel_rfl) ty_ok Try.func11 rfl (fun _ _ => Try.call11 _ _) rfl ?_
      intro hw
      clear hw
      repeat' ((conv => whnf); first | (with_reducible first | refine br_t ?_ | refine br_f ?_ | refine xa (by assumption) ?_ | refine xg (by assumption) rfl ?_ | refine xo (by assumption) ?_ | refine xb (by assumption) rfl ?_ | refine xm (by assumption) ?_ | refine xc (by assumption) ?_) | ((with_reducible refine bc_t ?_ ?_); (first | omega | decide)) | ((with_reducible refine bc_f ?_ ?_); (first | omega | decide)) | (with_reducible first | refine bc (fun h => ?_) (fun h => ?_) | refine br_t' (by assumption) ?_ | refine br_f' (by assumption) ?_ | refine br_i (fun h => ?_) (fun h => ?_) | refine xi (pv_bool fun _ => eqv23 _ _ _ _ _ _ _) ?_) | refine xg (by assumption) rfl ?_ | refine And.intro (by first | kernel_rfl | omega | (simp only [List.length_append, List.length_cons, List.length_nil, List.length_map, List.length_take, List.length_replicate]; omega) | decide) ?_)
      all_goals conv => whnf
      all_goals rfl
  · rw [if_neg h1]
    have h8 : pchk p = 8 := (pchk_08 p).resolve_left h1
    rw [h8] at H1
    refine fn_ok (by kernel_rfl) ty_ok Try.func11 rfl (fun _ _ => Try.call11 _ _) rfl ?_
    intro hw
    clear hw
    repeat' ((conv => whnf); first | (with_reducible first | refine br_t ?_ | refine br_f ?_ | refine xa (by assumption) ?_ | refine xg (by assumption) rfl ?_ | refine xo (by assumption) ?_ | refine xb (by assumption) rfl ?_ | refine xm (by assumption) ?_ | refine xc (by assumption) ?_) | ((with_reducible refine bc_t ?_ ?_); (first | omega | decide)) | ((with_reducible refine bc_f ?_ ?_); (first | omega | decide)) | (with_reducible first | refine bc (fun h => ?_) (fun h => ?_) | refine br_t' (by assumption) ?_ | refine br_f' (by assumption) ?_ | refine br_i (fun h => ?_) (fun h => ?_) | refine xi (pv_bool fun _ => eqv23 _ _ _ _ _ _ _) ?_) | refine xg (by assumption) rfl ?_ | refine And.intro (by first | kernel_rfl | omega | (simp only [List.length_append, List.length_cons, List.length_nil, List.length_map, List.length_take, List.length_replicate]; omega) | decide) ?_)
    all_goals conv => whnf
    all_goals rfl
set_option maxHeartbeats 4000000 in
theorem rpGo_fn (p : Pa) (m : Md) : FnOK Try.prog 12 [p.dc, m.dc] (retP (pGoV p m)) := by
  have H1 := rpCheck_fn p
  have H2 := roCheck_fn m
  unfold pGoV
  by_cases h1 : pchk p = 0
  · rw [if_pos h1]
    rw [h1] at H1
    by_cases h2 : mchk m = 0
    · rw [if_pos h2]
      rw [h2] at H2
      obtain ⟨k1, k2, k3, k4, k5⟩ := pchk_ok h1
      have H3 := rcompare_fn m.n m.d p.n p.d
      by_cases h3 : m.n * p.d < p.n * m.d
      · rw [if_pos h3]
        have e3 : cmpN (m.n * p.d) (p.n * m.d) = -1 := if_pos h3
        rw [e3] at H3
        refine fn_ok (by kernel_rfl) ty_ok Try.func12 rfl (fun _ _ => Try.call12 _ _) rfl ?_
        intro hw
        clear hw h3 e3
        repeat' ((conv => whnf); first | (with_reducible first | refine br_t ?_ | refine br_f ?_ | refine xa (by assumption) ?_ | refine xg (by assumption) rfl ?_ | refine xo (by assumption) ?_ | refine xb (by assumption) rfl ?_ | refine xm (by assumption) ?_ | refine xc (by assumption) ?_) | ((with_reducible refine bc_t ?_ ?_); (first | omega | decide)) | ((with_reducible refine bc_f ?_ ?_); (first | omega | decide)) | (with_reducible first | refine bc (fun h => ?_) (fun h => ?_) | refine br_t' (by assumption) ?_ | refine br_f' (by assumption) ?_ | refine br_i (fun h => ?_) (fun h => ?_) | refine xi (pv_bool fun _ => eqv23 _ _ _ _ _ _ _) ?_) | refine xg (by assumption) rfl ?_ | refine And.intro (by first | kernel_rfl | omega | (simp only [List.length_append, List.length_cons, List.length_nil, List.length_map, List.length_take, List.length_replicate]; omega) | decide) ?_)
        all_goals conv => whnf
        all_goals rfl
      · rw [if_neg h3]
        have e3 : 0 ≤ cmpN (m.n * p.d) (p.n * m.d) := by unfold cmpN; rw [if_neg h3]; split <;> omega
        generalize cmpN (m.n * p.d) (p.n * m.d) = z at H3 e3
        have HT := rpTwin_own p (by omega) (fun x hx => by have := mchk_len (k5 x hx); omega)
        clear h3 h1
        obtain ⟨n, d, l⟩ := p
        have k5 : ∀ m ∈ l, mchk m = 0 := k5
        have hln : (l.map Md.c).length = l.length := List.length_map ..
        simp only at k1 k2
        have hlast : (⟨n, d, l⟩ : Pa).last = l[l.length - 1] := by unfold Pa.last; simp only; rw [List.getElem?_eq_getElem (by omega)]; rfl
        rw [hlast]
        have H4 := rfTwin_fn m.l (by have := mchk_len h2; omega)
        have H5 := rfSame_fn l[l.length - 1].l m.l
        have ew : IntKind.i64.wrap ((l.length : Int) - 1) = ((l.length - 1 : Nat) : Int) := by rw [IntWalk.i64_in _ (by omega)]; omega
        have hl1 : l.length - 1 < l.length := by omega
        have he1 := mos_get' (l := l) (i := l.length - 1) (j := IntKind.i64.wrap ((l.length : Int) - 1)) hl1 (by rw [ew]; omega)
        have he2 := mos_get (l := l) (i := l.length - 1) hl1
        show FnOK _ _ [.agg [i64 n, i64 d, mos l], .agg [i64 m.n, i64 m.d, pts m.l]] _
        simp only [Md.dc, Pa.dc] at H1 H2 HT
        by_cases c1 : l[l.length - 1].l = m.l
        · rw [decide_eq_true c1] at H5
          rw [if_pos c1]
          refine fn_ok (by kernel_rfl) (ty_okK [30, 78] [] []) Try.func12 rfl (fun _ _ => Try.call12 _ _) rfl ?_
          intro hw
          clear hw c1
          repeat' ((conv => whnf); first | (with_reducible first | refine br_t ?_ | refine br_f ?_ | refine xa (by assumption) ?_ | refine xg (by assumption) rfl ?_ | refine xo (by assumption) ?_ | refine xb (by assumption) rfl ?_ | refine xm (by assumption) ?_ | refine xc (by assumption) ?_) | rw [hln] | ((with_reducible refine bc_t ?_ ?_); (first | omega | decide)) | ((with_reducible refine bc_f ?_ ?_); (first | omega | decide)) | (with_reducible first | refine bc (fun h => ?_) (fun h => ?_) | refine br_t' (by assumption) ?_ | refine br_f' (by assumption) ?_ | refine br_i (fun h => ?_) (fun h => ?_) | refine xi (pv_bool fun _ => eqv23 _ _ _ _ _ _ _) ?_) | refine xg (by assumption) rfl ?_ | refine And.intro (by first | kernel_rfl | omega | (simp only [List.length_append, List.length_cons, List.length_nil, List.length_map, List.length_take, List.length_replicate]; omega) | decide) ?_)
          all_goals conv => whnf
          all_goals rfl
        · rw [decide_eq_false c1] at H5
          rw [if_neg c1]
          clear c1
          by_cases c2 : l[l.length - 1].n = m.n ∧ l[l.length - 1].d = m.d
          · rw [if_pos c2]
            have hset : (l.map Md.c).set (IntKind.i64.wrap ((l.length : Int) - 1)).toNat [i64 m.n, i64 m.d, pts m.l] = (l.set (l.length - 1) m).map Md.c := by
              rw [ew, Int.toNat_natCast, List.map_set]; rfl
            refine fn_ok (by kernel_rfl) (ty_okK [30, 78] [] []) Try.func12 rfl (fun _ _ => Try.call12 _ _) rfl ?_
            intro hw
            clear hw
            repeat' ((conv => whnf); first | (with_reducible first | refine br_t ?_ | refine br_f ?_ | refine xa (by assumption) ?_ | refine xg (by assumption) rfl ?_ | refine xo (by assumption) ?_ | refine xb (by assumption) rfl ?_ | refine xm (by assumption) ?_ | refine xc (by assumption) ?_) | rw [hln] | ((with_reducible refine bc_t ?_ ?_); (first | omega | decide)) | ((with_reducible refine bc_f ?_ ?_); (first | omega | decide)) | (with_reducible first | refine bc (fun h => ?_) (fun h => ?_) | refine br_t' (by assumption) ?_ | refine br_f' (by assumption) ?_ | refine br_i (fun h => ?_) (fun h => ?_) | refine xi (pv_bool fun _ => eqv23 _ _ _ _ _ _ _) ?_) | refine xg (by assumption) rfl ?_ | refine And.intro (by first | kernel_rfl | omega | (simp only [List.length_append, List.length_cons, List.length_nil, List.length_map, List.length_take, List.length_replicate]; omega) | decide) ?_)
            all_goals conv => whnf
            all_goals exact congrArg (fun x => DV.tup [.agg [i64 m.n, i64 m.d, .list 3 x], .one (i64 0)]) hset
          · rw [if_neg c2]
            by_cases c3 : l.length = 40
            · rw [if_pos c3]
              refine fn_ok (by kernel_rfl) (ty_okK [30, 78] [] []) Try.func12 rfl (fun _ _ => Try.call12 _ _) rfl ?_
              intro hw
              clear hw
              repeat' ((conv => whnf); first | (with_reducible first | refine br_t ?_ | refine br_f ?_ | refine xa (by assumption) ?_ | refine xg (by assumption) rfl ?_ | refine xo (by assumption) ?_ | refine xb (by assumption) rfl ?_ | refine xm (by assumption) ?_ | refine xc (by assumption) ?_) | rw [hln] | ((with_reducible refine bc_t ?_ ?_); (first | omega | decide)) | ((with_reducible refine bc_f ?_ ?_); (first | omega | decide)) | (with_reducible first | refine bc (fun h => ?_) (fun h => ?_) | refine br_t' (by assumption) ?_ | refine br_f' (by assumption) ?_ | refine br_i (fun h => ?_) (fun h => ?_) | refine xi (pv_bool fun _ => eqv23 _ _ _ _ _ _ _) ?_) | refine xg (by assumption) rfl ?_ | refine And.intro (by first | kernel_rfl | omega | (simp only [List.length_append, List.length_cons, List.length_nil, List.length_map, List.length_take, List.length_replicate]; omega) | decide) ?_)
              all_goals conv => whnf
              all_goals rfl
            · rw [if_neg c3]
              have ha : l.map Md.c ++ [m.mo] = (l ++ [m]).map Md.c := by rw [List.map_append]; rfl
              refine fn_ok (by kernel_rfl) (ty_okK [30, 78] [] []) Try.func12 rfl (fun _ _ => Try.call12 _ _) rfl ?_
              intro hw
              clear hw
              repeat' ((conv => whnf); first | (with_reducible first | refine br_t ?_ | refine br_f ?_ | refine xa (by assumption) ?_ | refine xg (by assumption) rfl ?_ | refine xo (by assumption) ?_ | refine xb (by assumption) rfl ?_ | refine xm (by assumption) ?_ | refine xc (by assumption) ?_) | rw [hln] | ((with_reducible refine bc_t ?_ ?_); (first | omega | decide)) | ((with_reducible refine bc_f ?_ ?_); (first | omega | decide)) | (with_reducible first | refine bc (fun h => ?_) (fun h => ?_) | refine br_t' (by assumption) ?_ | refine br_f' (by assumption) ?_ | refine br_i (fun h => ?_) (fun h => ?_) | refine xi (pv_bool fun _ => eqv23 _ _ _ _ _ _ _) ?_) | refine xg (by assumption) rfl ?_ | refine And.intro (by first | kernel_rfl | omega | (simp only [List.length_append, List.length_cons, List.length_nil, List.length_map, List.length_take, List.length_replicate]; omega) | decide) ?_)
              all_goals conv => whnf
              all_goals exact congrArg (fun x => DV.tup [.agg [i64 m.n, i64 m.d, .list 3 x], .one (i64 0)]) ha
    · rw [if_neg h2]
      have h8 : mchk m = 8 := (mchk_08 m).resolve_left h2
      rw [h8] at H2
      refine fn_ok (by kernel_rfl) ty_ok Try.func12 rfl (fun _ _ => Try.call12 _ _) rfl ?_
      intro hw
      clear hw
      repeat' ((conv => whnf); first | (with_reducible first | refine br_t ?_ | refine br_f ?_ | refine xa (by assumption) ?_ | refine xg (by assumption) rfl ?_ | refine xo (by assumption) ?_ | refine xb (by assumption) rfl ?_ | refine xm (by assumption) ?_ | refine xc (by assumption) ?_) | ((with_reducible refine bc_t ?_ ?_); (first | omega | decide)) | ((with_reducible refine bc_f ?_ ?_); (first | omega | decide)) | (with_reducible first | refine bc (fun h => ?_) (fun h => ?_) | refine br_t' (by assumption) ?_ | refine br_f' (by assumption) ?_ | refine br_i (fun h => ?_) (fun h => ?_) | refine xi (pv_bool fun _ => eqv23 _ _ _ _ _ _ _) ?_) | refine xg (by assumption) rfl ?_ | refine And.intro (by first | kernel_rfl | omega | (simp only [List.length_append, List.length_cons, List.length_nil, List.length_map, List.length_take, List.length_replicate]; omega) | decide) ?_)
      all_goals conv => whnf
      all_goals rfl
  · rw [if_neg h1]
    have h8 : pchk p = 8 := (pchk_08 p).resolve_left h1
    rw [h8] at H1
    refine fn_ok (by kernel_rfl) ty_ok Try.func12 rfl (fun _ _ => Try.call12 _ _) rfl ?_
    intro hw
    clear hw
    repeat' ((conv => whnf); first | (with_reducible first | refine br_t ?_ | refine br_f ?_ | refine xa (by assumption) ?_ | refine xg (by assumption) rfl ?_ | refine xo (by assumption) ?_ | refine xb (by assumption) rfl ?_ | refine xm (by assumption) ?_ | refine xc (by assumption) ?_) | ((with_reducible refine bc_t ?_ ?_); (first | omega | decide)) | ((with_reducible refine bc_f ?_ ?_); (first | omega | decide)) | (with_reducible first | refine bc (fun h => ?_) (fun h => ?_) | refine br_t' (by assumption) ?_ | refine br_f' (by assumption) ?_ | refine br_i (fun h => ?_) (fun h => ?_) | refine xi (pv_bool fun _ => eqv23 _ _ _ _ _ _ _) ?_) | refine xg (by assumption) rfl ?_ | refine And.intro (by first | kernel_rfl | omega | (simp only [List.length_append, List.length_cons, List.length_nil, List.length_map, List.length_take, List.length_replicate]; omega) | decide) ?_)
    all_goals conv => whnf
    all_goals rfl
end Go.Proofs.Ytjbnfoipjnkjdaa

/-
  DERIVED: THE SHELF's CONTRACTS AT THIS DUMP, IN PLAIN WORDS (tools/lay-plain.mjs out of 'TrySrt.lean', which tools/lay-shelf.mjs wrote): THE SAME DECLARATIONS UNDER THE SAME NAMES: 'import', 'namespace', 'open', 'def', 'theorem' AND NOTHING ELSE: no command of the shelf's: FOR A HAND-IN. Each laying: the table of numbers ('.._ren') and one theorem, a field a fact of the dump's own or the kernel's comparison; each contract: ONE APPLICATION.
-/
namespace Go.Proofs
open Go.Shelf
def Try.sortPt_ren : Go.Shelf.Ren := ⟨fun | 6 => 75 | 15 => 82 | 14 => 81 | 28 => 97 | 29 => 98 | 20 => 89 | 21 => 90 | 22 => 91 | 23 => 92 | 24 => 93 | 25 => 94 | 26 => 95 | 27 => 96 | 46 => 103 | 47 => 104 | 48 => 105 | 49 => 106 | 50 => 107 | 57 => 110 | n => n, fun | 22 => 27 | 24 => 89 | 25 => 128 | 3 => 3 | 39 => 111 | 0 => 0 | 53 => 148 | 55 => 98 | 4 => 4 | 46 => 142 | 45 => 141 | 50 => 81 | 5 => 5 | 9 => 9 | 66 => 157 | 70 => 161 | 76 => 165 | 77 => 54 | n => n, fun | n => n⟩
theorem Try.sortPt : Go.Proofs.SlLaysF0.n6 Try.prog Try.sortPt_ren := {
  mixed := by kernel_rfl
  f6 := ⟨Try.f75.name, by decide, Try.func75.trans (congrArg some (by kernel_rfl))⟩
  f14 := ⟨Try.f81.name, by decide, Try.func81.trans (congrArg some (by kernel_rfl))⟩
  f15 := Try.func82.trans (congrArg some (by kernel_rfl))
  f20 := ⟨Try.f89.name, by decide, Try.func89.trans (congrArg some (by kernel_rfl))⟩
  f21 := ⟨Try.f90.name, by decide, Try.func90.trans (congrArg some (by kernel_rfl))⟩
  f22 := ⟨Try.f91.name, by decide, Try.func91.trans (congrArg some (by kernel_rfl))⟩
  f23 := ⟨Try.f92.name, by decide, Try.func92.trans (congrArg some (by kernel_rfl))⟩
  f24 := ⟨Try.f93.name, by decide, Try.func93.trans (congrArg some (by kernel_rfl))⟩
  f25 := ⟨Try.f94.name, by decide, Try.func94.trans (congrArg some (by kernel_rfl))⟩
  f26 := ⟨Try.f95.name, by decide, Try.func95.trans (congrArg some (by kernel_rfl))⟩
  f27 := ⟨Try.f96.name, by decide, Try.func96.trans (congrArg some (by kernel_rfl))⟩
  f28 := Try.func97.trans (congrArg some (by kernel_rfl))
  f29 := Try.func98.trans (congrArg some (by kernel_rfl))
  f46 := ⟨Try.f103.name, by decide, Try.func103.trans (congrArg some (by kernel_rfl))⟩
  f47 := Try.func104.trans (congrArg some (by kernel_rfl))
  f48 := Try.func105.trans (congrArg some (by kernel_rfl))
  f49 := ⟨Try.f106.name, by decide, Try.func106.trans (congrArg some (by kernel_rfl))⟩
  f50 := ⟨Try.f107.name, by decide, Try.func107.trans (congrArg some (by kernel_rfl))⟩
  f57 := ⟨Try.f110.name, by decide, Try.func110.trans (congrArg some (by kernel_rfl))⟩
  t0 := Try.underlying0
  a0 := Try.isAgg0
  z0 := Try.sizeOf0
  v0 := Try.zeroValue0
  t3 := Try.underlying3
  a3 := Try.isAgg3
  z3 := Try.sizeOf3
  v3 := Try.zeroValue3
  t4 := Try.underlying4
  a4 := Try.isAgg4
  z4 := Try.sizeOf4
  v4 := Try.zeroValue4
  t5 := Try.underlying5
  a5 := Try.isAgg5
  z5 := Try.sizeOf5
  v5 := Try.zeroValue5
  t9 := Try.underlying9
  a9 := Try.isAgg9
  z9 := Try.sizeOf9
  v9 := Try.zeroValue9
  t22 := Try.underlying27
  a22 := Try.isAgg27
  z22 := Try.sizeOf27
  v22 := Try.zeroValue27
  t25 := Try.underlying128
  a25 := Try.isAgg128
  z25 := Try.sizeOf128
  v25 := Try.zeroValue128
  t39 := Try.underlying111
  a39 := Try.isAgg111
  z39 := Try.sizeOf111
  v39 := Try.zeroValue111
  t45 := Try.underlying141
  a45 := Try.isAgg141
  z45 := Try.sizeOf141
  v45 := Try.zeroValue141
  t46 := Try.underlying142
  a46 := Try.isAgg142
  z46 := Try.sizeOf142
  v46 := Try.zeroValue142
  t50 := Try.underlying81
  a50 := Try.isAgg81
  z50 := Try.sizeOf81
  v50 := Try.zeroValue81
  t53 := Try.underlying148
  a53 := Try.isAgg148
  z53 := Try.sizeOf148
  v53 := Try.zeroValue148
  t55 := Try.underlying98
  a55 := Try.isAgg98
  z55 := Try.sizeOf98
  v55 := Try.zeroValue98
  t66 := Try.underlying157
  a66 := Try.isAgg157
  z66 := Try.sizeOf157
  v66 := Try.zeroValue157
  t70 := Try.underlying161
  a70 := Try.isAgg161
  z70 := Try.sizeOf161
  v70 := Try.zeroValue161
  t76 := Try.underlying165
  a76 := Try.isAgg165
  z76 := Try.sizeOf165
  v76 := Try.zeroValue165
  t77 := Try.underlying54
  a77 := Try.isAgg54
  z77 := Try.sizeOf54
  v77 := Try.zeroValue54 }
end Go.Proofs
