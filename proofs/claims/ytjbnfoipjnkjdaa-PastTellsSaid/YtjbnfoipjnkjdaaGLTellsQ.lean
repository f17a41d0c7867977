import Derived.Test.YtjbnfoipjnkjdaaGLTellsP
set_option linter.all false





/- The past: checks. No conditions. -/
namespace Go.Proofs.Ytjbnfoipjnkjdaa
open Go.RowKit Go.Sort Sx
theorem eqPt_fn (a b : List Pt) : FnOK Try.prog 53 [.one (pts a), .one (pts b)] (.c (.one (bol (decide (a = b))))) := by
  refine fn_ok (by kernel_rfl) ty_ok Try.func53 rfl (fun _ _ => Try.call53 _ _) rfl ?_
  intro hw
  simp only [WDCs, WDC, WDs] at hw
  obtain ⟨w1, _⟩ := wd_pts hw.1
  obtain ⟨w2, _⟩ := wd_pts hw.2.1
  clear hw
  by_cases h0 : a.length = b.length
  · repeat' ((conv => whnf); first | (with_reducible first | refine br_t ?_ | refine br_f ?_ | refine xa (by assumption) ?_ | refine xg (by assumption) rfl ?_ | refine xo (by assumption) ?_ | refine xb (by assumption) rfl ?_ | refine xm (by assumption) ?_ | refine xc (by assumption) ?_) | rw [List.length_map] | ((with_reducible refine bc_t ?_ ?_); (first | omega | decide)) | ((with_reducible refine bc_f ?_ ?_); (first | omega | decide)) | (with_reducible first | refine bc (fun h => ?_) (fun h => ?_) | refine br_t' (by assumption) ?_ | refine br_f' (by assumption) ?_ | refine br_i (fun h => ?_) (fun h => ?_) | refine xi (pv_bool fun _ => nev89 _ _ _ _ _ _ _ _ _) ?_) | refine xg (by assumption) rfl ?_ | refine And.intro (by first | kernel_rfl | omega | (simp only [List.length_append, List.length_cons, List.length_nil, List.length_map, List.length_take, List.length_replicate]; omega) | decide) ?_)
    refine loop_J (by kernel_rfl) ty_ok (σ := Nat) (fun i => [(13, sV (.int .i64 i))]) (fun _ => []) (fun i => i ≤ a.length ∧ a.take i = b.take i) (fun i => a.length - i) 0 ⟨by omega, rfl⟩ ?_ ?_
    · (conv => whnf); refine ⟨by repeat' (first | with_reducible exact zE0 | with_reducible refine zE1 ?_ ?_ | rfl | assumption | (refine ent_i ?_; (first | omega | (rw [IntWalk.i64_in _ (by omega)]; omega) | (simp; done))) | (refine ent_b ?_; (first | omega | (rw [IntWalk.i64_in _ (by omega)]; omega) | (simp; done)))), by repeat' (first | with_reducible exact zH0 | with_reducible refine zH1 ?_ ?_ | rfl | assumption), rfl⟩
    rintro i ⟨hi, hI⟩
    rcases Nat.lt_or_ge i a.length with hlt | hge
    · have hb : i < b.length := by omega
      have he1 := pts_get hlt
      have he2 := pts_get hb
      by_cases hc : a[i] = b[i]
      · have hq := Pt.eq_iff.1 hc
        repeat' ((conv => whnf); first | (with_reducible first | refine br_t ?_ | refine br_f ?_ | refine xa (by assumption) ?_ | refine xg (by assumption) rfl ?_ | refine xo (by assumption) ?_ | refine xb (by assumption) rfl ?_ | refine xm (by assumption) ?_ | refine xc (by assumption) ?_) | rw [List.length_map] | ((with_reducible refine bc_t ?_ ?_); (first | omega | decide)) | ((with_reducible refine bc_f ?_ ?_); (first | omega | decide)) | (with_reducible first | refine bc (fun h => ?_) (fun h => ?_) | refine br_t' (by assumption) ?_ | refine br_f' (by assumption) ?_ | refine br_i (fun h => ?_) (fun h => ?_) | refine xi (pv_bool fun _ => nev89 _ _ _ _ _ _ _ _ _) ?_) | refine xg (by assumption) rfl ?_ | refine And.intro (by first | kernel_rfl | omega | (simp only [List.length_append, List.length_cons, List.length_nil, List.length_map, List.length_take, List.length_replicate]; omega) | decide) ?_)
        all_goals conv => whnf
        refine ⟨i + 1, ⟨by omega, take_succ_eq hI hlt hb hc⟩, ?_, by omega⟩
        (conv => whnf); refine ⟨by repeat' (first | with_reducible exact zE0 | with_reducible refine zE1 ?_ ?_ | rfl | assumption | (refine ent_i ?_; (first | omega | (rw [IntWalk.i64_in _ (by omega)]; omega) | (simp; done))) | (refine ent_b ?_; (first | omega | (rw [IntWalk.i64_in _ (by omega)]; omega) | (simp; done)))), by repeat' (first | with_reducible exact zH0 | with_reducible refine zH1 ?_ ?_ | rfl | assumption), rfl⟩
      · have hq := mt Pt.eq_iff.2 hc
        rw [decide_eq_false (ne_of_get hlt hb hc)]
        repeat' ((conv => whnf); first | (with_reducible first | refine br_t ?_ | refine br_f ?_ | refine xa (by assumption) ?_ | refine xg (by assumption) rfl ?_ | refine xo (by assumption) ?_ | refine xb (by assumption) rfl ?_ | refine xm (by assumption) ?_ | refine xc (by assumption) ?_) | rw [List.length_map] | ((with_reducible refine bc_t ?_ ?_); (first | omega | decide)) | ((with_reducible refine bc_f ?_ ?_); (first | omega | decide)) | (with_reducible first | refine bc (fun h => ?_) (fun h => ?_) | refine br_t' (by assumption) ?_ | refine br_f' (by assumption) ?_ | refine br_i (fun h => ?_) (fun h => ?_) | refine xi (pv_bool fun _ => nev89 _ _ _ _ _ _ _ _ _) ?_) | refine xg (by assumption) rfl ?_ | refine And.intro (by first | kernel_rfl | omega | (simp only [List.length_append, List.length_cons, List.length_nil, List.length_map, List.length_take, List.length_replicate]; omega) | decide) ?_)
        all_goals conv => whnf
        all_goals rfl
    · rw [decide_eq_true (take_all_eq hI h0 hge)]
      repeat' ((conv => whnf); first | (with_reducible first | refine br_t ?_ | refine br_f ?_ | refine xa (by assumption) ?_ | refine xg (by assumption) rfl ?_ | refine xo (by assumption) ?_ | refine xb (by assumption) rfl ?_ | refine xm (by assumption) ?_ | refine xc (by assumption) ?_) | rw [List.length_map] | ((with_reducible refine bc_t ?_ ?_); (first | omega | decide)) | ((with_reducible refine bc_f ?_ ?_); (first | omega | decide)) | (with_reducible first | refine bc (fun h => ?_) (fun h => ?_) | refine br_t' (by assumption) ?_ | refine br_f' (by assumption) ?_ | refine br_i (fun h => ?_) (fun h => ?_) | refine xi (pv_bool fun _ => nev89 _ _ _ _ _ _ _ _ _) ?_) | refine xg (by assumption) rfl ?_ | refine And.intro (by first | kernel_rfl | omega | (simp only [List.length_append, List.length_cons, List.length_nil, List.length_map, List.length_take, List.length_replicate]; omega) | decide) ?_)
      all_goals conv => whnf
      all_goals rfl
  · rw [decide_eq_false (fun h => h0 (congrArg List.length h))]
    repeat' ((conv => whnf); first | (with_reducible first | refine br_t ?_ | refine br_f ?_ | refine xa (by assumption) ?_ | refine xg (by assumption) rfl ?_ | refine xo (by assumption) ?_ | refine xb (by assumption) rfl ?_ | refine xm (by assumption) ?_ | refine xc (by assumption) ?_) | rw [List.length_map] | ((with_reducible refine bc_t ?_ ?_); (first | omega | decide)) | ((with_reducible refine bc_f ?_ ?_); (first | omega | decide)) | (with_reducible first | refine bc (fun h => ?_) (fun h => ?_) | refine br_t' (by assumption) ?_ | refine br_f' (by assumption) ?_ | refine br_i (fun h => ?_) (fun h => ?_) | refine xi (pv_bool fun _ => nev89 _ _ _ _ _ _ _ _ _) ?_) | refine xg (by assumption) rfl ?_ | refine And.intro (by first | kernel_rfl | omega | (simp only [List.length_append, List.length_cons, List.length_nil, List.length_map, List.length_take, List.length_replicate]; omega) | decide) ?_)
    all_goals conv => whnf
    all_goals rfl
theorem psame_fn (a b : List Pt) : FnOK Try.prog 33 [fld a, fld b] (.c (.one (bol (decide (a = b))))) := by
  refine fn_ok (by kernel_rfl) ty_ok Try.func33 rfl (fun _ _ => Try.call33 _ _) rfl ?_
  intro hw
  clear hw
  have H := eqPt_fn a b
  repeat' ((conv => whnf); first | (with_reducible first | refine br_t ?_ | refine br_f ?_ | refine xa (by assumption) ?_ | refine xg (by assumption) rfl ?_ | refine xo (by assumption) ?_ | refine xb (by assumption) rfl ?_ | refine xm (by assumption) ?_ | refine xc (by assumption) ?_) | ((with_reducible refine bc_t ?_ ?_); (first | omega | decide)) | ((with_reducible refine bc_f ?_ ?_); (first | omega | decide)) | (with_reducible first | refine bc (fun h => ?_) (fun h => ?_) | refine br_t' (by assumption) ?_ | refine br_f' (by assumption) ?_ | refine br_i (fun h => ?_) (fun h => ?_)) | refine xg (by assumption) rfl ?_ | refine And.intro (by first | kernel_rfl | omega | (simp only [List.length_append, List.length_cons, List.length_nil, List.length_map, List.length_take, List.length_replicate]; omega) | decide) ?_)
  all_goals conv => whnf
  all_goals rfl
theorem clonePt_fn (l : List (List D)) (hl : l.length ≤ 1000000) : FnOK Try.prog 48 [.one (.list 3 l)] (.c (.one (.list 3 l))) := ok_of_own (clonePt_own l hl)
theorem pcopied_fn (l : List Pt) (hl : l.length ≤ 1000000) : FnOK Try.prog 30 [fld l] (.c (fld l)) := by
  refine fn_ok (by kernel_rfl) ty_ok Try.func30 rfl (fun _ _ => Try.call30 _ _) rfl ?_
  intro hw
  clear hw
  have H := clonePt_fn (l.map Pt.c) (by simpa using hl)
  repeat' ((conv => whnf); first | (with_reducible first | refine br_t ?_ | refine br_f ?_ | refine xa (by assumption) ?_ | refine xg (by assumption) rfl ?_ | refine xo (by assumption) ?_ | refine xb (by assumption) rfl ?_ | refine xm (by assumption) ?_ | refine xc (by assumption) ?_) | ((with_reducible refine bc_t ?_ ?_); (first | omega | decide)) | ((with_reducible refine bc_f ?_ ?_); (first | omega | decide)) | (with_reducible first | refine bc (fun h => ?_) (fun h => ?_) | refine br_t' (by assumption) ?_ | refine br_f' (by assumption) ?_ | refine br_i (fun h => ?_) (fun h => ?_)) | refine xg (by assumption) rfl ?_ | refine And.intro (by first | kernel_rfl | omega | (simp only [List.length_append, List.length_cons, List.length_nil, List.length_map, List.length_take, List.length_replicate]; omega) | decide) ?_)
  all_goals conv => whnf
  all_goals rfl
/-- a past -/
structure Pa where
  n : Int
  d : Int
  ms : List Md
  deriving DecidableEq, Inhabited
abbrev mos (l : List Md) : D := .list 3 (l.map Md.c)
abbrev Pa.dc (p : Pa) : DC := .agg [i64 p.n, i64 p.d, mos p.ms]
abbrev Md.mo (m : Md) : List D := [i64 m.n, i64 m.d, pts m.l]
theorem mos_get {l : List Md} {i : Nat} (h : i < l.length) : (l.map Md.c)[((i : Nat) : Int).toNat]? = some [i64 l[i].n, i64 l[i].d, pts l[i].l] := by
  rw [Int.toNat_natCast, List.getElem?_map, List.getElem?_eq_getElem h]; rfl
theorem mos_get' {l : List Md} {i : Nat} {j : Int} (h : i < l.length) (e : j.toNat = i) : (l.map Md.c)[j.toNat]? = some [i64 l[i].n, i64 l[i].d, pts l[i].l] := by
  rw [e, List.getElem?_map, List.getElem?_eq_getElem h]; rfl
theorem wd_mos {l : List Md} (h : WD (mos l)) : l.length ≤ 9223372036854775807 := by
  obtain ⟨h1, _, h3⟩ := WD_list.1 h
  simpa using h1
/-- moments of a past, up to a time, are in order, and valid -/
def pgo (n d : Int) : List Md → Bool
  | [] => true
  | [m] => decide (mchk m = 0 ∧ m.n * d ≤ n * m.d)
  | m :: m' :: l => decide (mchk m = 0 ∧ m.n * m'.d < m'.n * m.d) && pgo n d (m' :: l)
theorem pgo_mid {n d : Int} {l : List Md} {i : Nat} (h : i + 1 < l.length) : pgo n d (l.drop i) = (decide (mchk l[i] = 0 ∧ l[i].n * l[i + 1].d < l[i + 1].n * l[i].d) && pgo n d (l.drop (i + 1))) := by
  rw [List.drop_eq_getElem_cons (show i < l.length by omega), List.drop_eq_getElem_cons h, pgo]
theorem pgo_last {n d : Int} {l : List Md} {i : Nat} (h : i < l.length) (h2 : i + 1 = l.length) : pgo n d (l.drop i) = decide (mchk l[i] = 0 ∧ l[i].n * d ≤ n * l[i].d) := by
  rw [List.drop_eq_getElem_cons h, List.drop_eq_nil_of_le (by omega), pgo]
theorem pgo_ge {n d : Int} {l : List Md} {i : Nat} (h : l.length ≤ i) : pgo n d (l.drop i) = true := by
  rw [List.drop_eq_nil_of_le h, pgo]
theorem pgo_bad {n d : Int} {l : List Md} {i : Nat} (h : i < l.length) (hm : mchk l[i] ≠ 0) : pgo n d (l.drop i) = false := by
  rcases Nat.lt_or_ge (i + 1) l.length with h2 | h2
  · rw [pgo_mid h2, decide_eq_false (fun h => hm h.1)]; rfl
  · rw [pgo_last h (by omega), decide_eq_false (fun h => hm h.1)]
def pchk (p : Pa) : Int := if 1 ≤ p.ms.length ∧ p.ms.length ≤ 40 ∧ askd p.n p.d = 0 ∧ pgo p.n p.d p.ms = true then 0 else 8
theorem pchk_08 (p : Pa) : pchk p = 0 ∨ pchk p = 8 := by unfold pchk; split <;> simp
theorem askd_ok' {n d : Int} (h : askd n d = 0) : chk n d = 0 ∧ -1073741824 ≤ n ∧ n ≤ 1073741824 ∧ 1 ≤ d ∧ d ≤ 1024 := by
  unfold askd at h
  split at h
  · rename_i h1; exact absurd h h1
  · rename_i h1
    have h1 : chk n d = 0 := by omega
    have := (chk_iff n d).1 h1
    split at h
    · omega
    · exact ⟨h1, by omega⟩
theorem cmpN_cases (a b : Int) : (a < b ∧ cmpN a b = -1) ∨ (a = b ∧ cmpN a b = 0) ∨ (b < a ∧ cmpN a b = 1) := by
  unfold cmpN
  split
  · exact .inl ⟨by assumption, rfl⟩
  · split
    · exact .inr (.inr ⟨by omega, rfl⟩)
    · exact .inr (.inl ⟨by omega, rfl⟩)
theorem cmp_chk {p q r t : Int} (h1 : chk p q = 0) (h2 : chk r t = 0) : FnOK Try.prog 32 (rat2 p q r t) (.tup [.one (i64 (cmpN (p * t) (r * q))), .one (i64 0)]) := by
  have := cmp_fn p q r t
  unfold cmpV bth at this
  rw [if_pos (by rw [h1, if_pos rfl, h2])] at this
  exact this
theorem cmp_bad {p q r t : Int} (h1 : chk p q = 0) (h2 : chk r t ≠ 0) : FnOK Try.prog 32 (rat2 p q r t) (.tup [.one (i64 0), .one (i64 8)]) := by
  have := cmp_fn p q r t
  unfold cmpV bth at this
  rw [if_neg (by rw [h1, if_pos rfl]; exact h2)] at this
  exact this
theorem askd_chk {n d : Int} (h : askd n d = 0) : chk n d = 0 := (askd_ok' h).1
end Go.Proofs.Ytjbnfoipjnkjdaa

/- A law's arguments: pasts. No conditions of its own. -/
namespace Go.Proofs.Ytjbnfoipjnkjdaa
open Go Go.RowKit Sx
namespace Sx
def shPast : Sh := .st (.fc 2 shRatio (.fc 1 (.sl 3 shModel) .f0))
end Sx
theorem fit_past {c : DC} (h : FitC shPast c) : ∃ p : Pa, c = p.dc := by
  obtain ⟨ds, rfl, h⟩ := h
  obtain ⟨_, _, rfl, h1, _, _, rfl, ⟨l, rfl, h2⟩, rfl⟩ := h
  obtain ⟨n, d, rfl⟩ := fits_ratio h1
  obtain ⟨l', rfl⟩ := exists_map (f := Md.c) fun x hx => fits_model (h2 x hx)
  exact ⟨⟨n, d, l'⟩, rfl⟩
end Go.Proofs.Ytjbnfoipjnkjdaa






/- The past: checks, walked. No conditions. -/
namespace Go.Proofs.Ytjbnfoipjnkjdaa
open Go.RowKit Go.Sort Sx
set_option maxHeartbeats 2000000 in
theorem pCheck_fn (p : Pa) : FnOK Try.prog 14 [p.dc] (ret1 (pchk p)) := by
  obtain ⟨n, d, l⟩ := p
  show FnOK _ _ [.agg [i64 n, i64 d, mos l]] _
  refine fn_ok (by kernel_rfl) ty_ok Try.func14 rfl (fun _ _ => Try.call14 _ _) rfl ?_
  intro hw
  simp only [WDCs, WDC, WDs] at hw
  have w1 := wd_mos hw.1.2.2.1
  clear hw
  have hln : (l.map Md.c).length = l.length := List.length_map ..
  have H0 := asked_fn n d
  unfold pchk
  simp only
  by_cases h0 : 1 ≤ l.length ∧ l.length ≤ 40
  · by_cases h1 : askd n d = 0
    · have hrw : (if 1 ≤ l.length ∧ l.length ≤ 40 ∧ askd n d = 0 ∧ pgo n d l = true then (0 : Int) else 8) = if pgo n d l = true then 0 else 8 := by simp [h0, h1]
      rw [hrw]
      clear hrw
      have hnd := askd_chk h1
      rw [h1] at H0
      repeat' ((conv => whnf); first | (with_reducible first | refine br_t ?_ | refine br_f ?_ | refine xa (by assumption) ?_ | refine xg (by assumption) rfl ?_ | refine xo (by assumption) ?_ | refine xb (by assumption) rfl ?_ | refine xm (by assumption) ?_ | refine xc (by assumption) ?_) | ((with_reducible refine bc_t ?_ ?_); (first | omega | decide)) | ((with_reducible refine bc_f ?_ ?_); (first | omega | decide)) | (with_reducible first | refine bc (fun h => ?_) (fun h => ?_) | refine br_t' (by assumption) ?_ | refine br_f' (by assumption) ?_ | refine br_i (fun h => ?_) (fun h => ?_)) | refine xg (by assumption) rfl ?_ | refine And.intro (by first | kernel_rfl | omega | (simp only [List.length_append, List.length_cons, List.length_nil, List.length_map, List.length_take, List.length_replicate]; omega) | decide) ?_)
      refine loop_J (by kernel_rfl) ty_ok (σ := Nat) (fun i => [(27, sV (.int .i64 i))]) (fun _ => []) (fun i => i ≤ l.length ∧ pgo n d (l.drop i) = pgo n d l) (fun i => l.length - i) 0 ⟨by omega, rfl⟩ ?_ ?_
      · (conv => whnf); refine ⟨by repeat' (first | with_reducible exact zE0 | with_reducible refine zE1 ?_ ?_ | rfl | assumption | (refine ent_i ?_; (first | omega | (rw [IntWalk.i64_in _ (by omega)]; omega) | (simp; done))) | (refine ent_b ?_; (first | omega | (rw [IntWalk.i64_in _ (by omega)]; omega) | (simp; done)))), by repeat' (first | with_reducible exact zH0 | with_reducible refine zH1 ?_ ?_ | rfl | assumption), rfl⟩
      rintro i ⟨hi, hI⟩
      rcases Nat.lt_or_ge i l.length with hlt | hge
      · have he1 := mos_get hlt
        have H1 := asked_fn l[i].n l[i].d
        have H2 := fCheck_fn l[i].l
        by_cases hm : mchk l[i] = 0
        · obtain ⟨m1, m2⟩ := mchk_ok hm
          have mc := askd_chk m1
          rw [m1] at H1
          rw [m2] at H2
          have ew : IntKind.i64.wrap ((i : Int) + 1) = ((i + 1 : Nat) : Int) := by rw [IntWalk.i64_in _ (by omega)]; omega
          rcases Nat.lt_or_ge (i + 1) l.length with h2 | h2
          · have he2 := mos_get' (l := l) (i := i + 1) (j := IntKind.i64.wrap ((i : Int) + 1)) h2 (by rw [ew]; omega)
            rw [pgo_mid h2] at hI
            by_cases hc : chk l[i + 1].n l[i + 1].d = 0
            · have H3 := cmp_chk mc hc
              rcases cmpN_cases (l[i].n * l[i + 1].d) (l[i + 1].n * l[i].d) with ⟨c1, c2⟩ | ⟨c1, c2⟩ | ⟨c1, c2⟩
              · rw [decide_eq_true ⟨hm, c1⟩, Bool.true_and] at hI
                rw [c2] at H3
                clear c1
                repeat' ((conv => whnf); first | (with_reducible first | refine br_t ?_ | refine br_f ?_ | refine xa (by assumption) ?_ | refine xg (by assumption) rfl ?_ | refine xo (by assumption) ?_ | refine xb (by assumption) rfl ?_ | refine xm (by assumption) ?_ | refine xc (by assumption) ?_) | ((with_reducible refine bc_t ?_ ?_); (first | omega | decide)) | ((with_reducible refine bc_f ?_ ?_); (first | omega | decide)) | (with_reducible first | refine bc (fun h => ?_) (fun h => ?_) | refine br_t' (by assumption) ?_ | refine br_f' (by assumption) ?_ | refine br_i (fun h => ?_) (fun h => ?_)) | refine xg (by assumption) rfl ?_ | refine And.intro (by first | kernel_rfl | omega | (simp only [List.length_append, List.length_cons, List.length_nil, List.length_map, List.length_take, List.length_replicate]; omega) | decide) ?_)
                all_goals conv => whnf
                refine ⟨i + 1, ⟨by omega, hI⟩, ?_, by omega⟩
                (conv => whnf); refine ⟨by repeat' (first | with_reducible exact zE0 | with_reducible refine zE1 ?_ ?_ | rfl | assumption | (refine ent_i ?_; (first | omega | (rw [IntWalk.i64_in _ (by omega)]; omega) | (simp; done))) | (refine ent_b ?_; (first | omega | (rw [IntWalk.i64_in _ (by omega)]; omega) | (simp; done)))), by repeat' (first | with_reducible exact zH0 | with_reducible refine zH1 ?_ ?_ | rfl | assumption), rfl⟩
              · rw [decide_eq_false (fun h => by have := h.2; omega), Bool.false_and] at hI
                rw [c2] at H3
                rw [← hI]
                clear c1
                repeat' ((conv => whnf); first | (with_reducible first | refine br_t ?_ | refine br_f ?_ | refine xa (by assumption) ?_ | refine xg (by assumption) rfl ?_ | refine xo (by assumption) ?_ | refine xb (by assumption) rfl ?_ | refine xm (by assumption) ?_ | refine xc (by assumption) ?_) | ((with_reducible refine bc_t ?_ ?_); (first | omega | decide)) | ((with_reducible refine bc_f ?_ ?_); (first | omega | decide)) | (with_reducible first | refine bc (fun h => ?_) (fun h => ?_) | refine br_t' (by assumption) ?_ | refine br_f' (by assumption) ?_ | refine br_i (fun h => ?_) (fun h => ?_)) | refine xg (by assumption) rfl ?_ | refine And.intro (by first | kernel_rfl | omega | (simp only [List.length_append, List.length_cons, List.length_nil, List.length_map, List.length_take, List.length_replicate]; omega) | decide) ?_)
                all_goals conv => whnf
                all_goals rfl
              · rw [decide_eq_false (fun h => by have := h.2; omega), Bool.false_and] at hI
                rw [c2] at H3
                rw [← hI]
                clear c1
                repeat' ((conv => whnf); first | (with_reducible first | refine br_t ?_ | refine br_f ?_ | refine xa (by assumption) ?_ | refine xg (by assumption) rfl ?_ | refine xo (by assumption) ?_ | refine xb (by assumption) rfl ?_ | refine xm (by assumption) ?_ | refine xc (by assumption) ?_) | ((with_reducible refine bc_t ?_ ?_); (first | omega | decide)) | ((with_reducible refine bc_f ?_ ?_); (first | omega | decide)) | (with_reducible first | refine bc (fun h => ?_) (fun h => ?_) | refine br_t' (by assumption) ?_ | refine br_f' (by assumption) ?_ | refine br_i (fun h => ?_) (fun h => ?_)) | refine xg (by assumption) rfl ?_ | refine And.intro (by first | kernel_rfl | omega | (simp only [List.length_append, List.length_cons, List.length_nil, List.length_map, List.length_take, List.length_replicate]; omega) | decide) ?_)
                all_goals conv => whnf
                all_goals rfl
            · have H3 := cmp_bad mc hc
              have hb : mchk l[i + 1] ≠ 0 := fun h => hc (askd_chk (mchk_ok h).1)
              rw [pgo_bad h2 hb, Bool.and_false] at hI
              rw [← hI]
              repeat' ((conv => whnf); first | (with_reducible first | refine br_t ?_ | refine br_f ?_ | refine xa (by assumption) ?_ | refine xg (by assumption) rfl ?_ | refine xo (by assumption) ?_ | refine xb (by assumption) rfl ?_ | refine xm (by assumption) ?_ | refine xc (by assumption) ?_) | ((with_reducible refine bc_t ?_ ?_); (first | omega | decide)) | ((with_reducible refine bc_f ?_ ?_); (first | omega | decide)) | (with_reducible first | refine bc (fun h => ?_) (fun h => ?_) | refine br_t' (by assumption) ?_ | refine br_f' (by assumption) ?_ | refine br_i (fun h => ?_) (fun h => ?_)) | refine xg (by assumption) rfl ?_ | refine And.intro (by first | kernel_rfl | omega | (simp only [List.length_append, List.length_cons, List.length_nil, List.length_map, List.length_take, List.length_replicate]; omega) | decide) ?_)
              all_goals conv => whnf
              all_goals rfl
          · rw [pgo_last hlt (by omega)] at hI
            have H3 := cmp_chk mc hnd
            rcases cmpN_cases (l[i].n * d) (n * l[i].d) with ⟨c1, c2⟩ | ⟨c1, c2⟩ | ⟨c1, c2⟩
            · rw [decide_eq_true ⟨hm, by omega⟩] at hI
              rw [c2] at H3
              clear c1
              repeat' ((conv => whnf); first | (with_reducible first | refine br_t ?_ | refine br_f ?_ | refine xa (by assumption) ?_ | refine xg (by assumption) rfl ?_ | refine xo (by assumption) ?_ | refine xb (by assumption) rfl ?_ | refine xm (by assumption) ?_ | refine xc (by assumption) ?_) | ((with_reducible refine bc_t ?_ ?_); (first | omega | decide)) | ((with_reducible refine bc_f ?_ ?_); (first | omega | decide)) | (with_reducible first | refine bc (fun h => ?_) (fun h => ?_) | refine br_t' (by assumption) ?_ | refine br_f' (by assumption) ?_ | refine br_i (fun h => ?_) (fun h => ?_)) | refine xg (by assumption) rfl ?_ | refine And.intro (by first | kernel_rfl | omega | (simp only [List.length_append, List.length_cons, List.length_nil, List.length_map, List.length_take, List.length_replicate]; omega) | decide) ?_)
              all_goals conv => whnf
              refine ⟨i + 1, ⟨by omega, by rw [pgo_ge (by omega), hI]⟩, ?_, by omega⟩
              (conv => whnf); refine ⟨by repeat' (first | with_reducible exact zE0 | with_reducible refine zE1 ?_ ?_ | rfl | assumption | (refine ent_i ?_; (first | omega | (rw [IntWalk.i64_in _ (by omega)]; omega) | (simp; done))) | (refine ent_b ?_; (first | omega | (rw [IntWalk.i64_in _ (by omega)]; omega) | (simp; done)))), by repeat' (first | with_reducible exact zH0 | with_reducible refine zH1 ?_ ?_ | rfl | assumption), rfl⟩
            · rw [decide_eq_true ⟨hm, by omega⟩] at hI
              rw [c2] at H3
              clear c1
              repeat' ((conv => whnf); first | (with_reducible first | refine br_t ?_ | refine br_f ?_ | refine xa (by assumption) ?_ | refine xg (by assumption) rfl ?_ | refine xo (by assumption) ?_ | refine xb (by assumption) rfl ?_ | refine xm (by assumption) ?_ | refine xc (by assumption) ?_) | ((with_reducible refine bc_t ?_ ?_); (first | omega | decide)) | ((with_reducible refine bc_f ?_ ?_); (first | omega | decide)) | (with_reducible first | refine bc (fun h => ?_) (fun h => ?_) | refine br_t' (by assumption) ?_ | refine br_f' (by assumption) ?_ | refine br_i (fun h => ?_) (fun h => ?_)) | refine xg (by assumption) rfl ?_ | refine And.intro (by first | kernel_rfl | omega | (simp only [List.length_append, List.length_cons, List.length_nil, List.length_map, List.length_take, List.length_replicate]; omega) | decide) ?_)
              all_goals conv => whnf
              refine ⟨i + 1, ⟨by omega, by rw [pgo_ge (by omega), hI]⟩, ?_, by omega⟩
              (conv => whnf); refine ⟨by repeat' (first | with_reducible exact zE0 | with_reducible refine zE1 ?_ ?_ | rfl | assumption | (refine ent_i ?_; (first | omega | (rw [IntWalk.i64_in _ (by omega)]; omega) | (simp; done))) | (refine ent_b ?_; (first | omega | (rw [IntWalk.i64_in _ (by omega)]; omega) | (simp; done)))), by repeat' (first | with_reducible exact zH0 | with_reducible refine zH1 ?_ ?_ | rfl | assumption), rfl⟩
            · rw [decide_eq_false (fun h => by have := h.2; omega)] at hI
              rw [c2] at H3
              rw [← hI]
              clear c1
              repeat' ((conv => whnf); first | (with_reducible first | refine br_t ?_ | refine br_f ?_ | refine xa (by assumption) ?_ | refine xg (by assumption) rfl ?_ | refine xo (by assumption) ?_ | refine xb (by assumption) rfl ?_ | refine xm (by assumption) ?_ | refine xc (by assumption) ?_) | ((with_reducible refine bc_t ?_ ?_); (first | omega | decide)) | ((with_reducible refine bc_f ?_ ?_); (first | omega | decide)) | (with_reducible first | refine bc (fun h => ?_) (fun h => ?_) | refine br_t' (by assumption) ?_ | refine br_f' (by assumption) ?_ | refine br_i (fun h => ?_) (fun h => ?_)) | refine xg (by assumption) rfl ?_ | refine And.intro (by first | kernel_rfl | omega | (simp only [List.length_append, List.length_cons, List.length_nil, List.length_map, List.length_take, List.length_replicate]; omega) | decide) ?_)
              all_goals conv => whnf
              all_goals rfl
        · rw [pgo_bad hlt hm] at hI
          rw [← hI]
          by_cases m1 : askd l[i].n l[i].d = 0
          · rw [m1] at H1
            have m2 : fchk l[i].l ≠ 0 := fun h => hm (by unfold mchk; rw [if_pos ⟨m1, h⟩])
            generalize fchk l[i].l = z at *
            repeat' ((conv => whnf); first | (with_reducible first | refine br_t ?_ | refine br_f ?_ | refine xa (by assumption) ?_ | refine xg (by assumption) rfl ?_ | refine xo (by assumption) ?_ | refine xb (by assumption) rfl ?_ | refine xm (by assumption) ?_ | refine xc (by assumption) ?_) | ((with_reducible refine bc_t ?_ ?_); (first | omega | decide)) | ((with_reducible refine bc_f ?_ ?_); (first | omega | decide)) | (with_reducible first | refine bc (fun h => ?_) (fun h => ?_) | refine br_t' (by assumption) ?_ | refine br_f' (by assumption) ?_ | refine br_i (fun h => ?_) (fun h => ?_)) | refine xg (by assumption) rfl ?_ | refine And.intro (by first | kernel_rfl | omega | (simp only [List.length_append, List.length_cons, List.length_nil, List.length_map, List.length_take, List.length_replicate]; omega) | decide) ?_)
            all_goals conv => whnf
            all_goals rfl
          · generalize askd l[i].n l[i].d = z at *
            repeat' ((conv => whnf); first | (with_reducible first | refine br_t ?_ | refine br_f ?_ | refine xa (by assumption) ?_ | refine xg (by assumption) rfl ?_ | refine xo (by assumption) ?_ | refine xb (by assumption) rfl ?_ | refine xm (by assumption) ?_ | refine xc (by assumption) ?_) | ((with_reducible refine bc_t ?_ ?_); (first | omega | decide)) | ((with_reducible refine bc_f ?_ ?_); (first | omega | decide)) | (with_reducible first | refine bc (fun h => ?_) (fun h => ?_) | refine br_t' (by assumption) ?_ | refine br_f' (by assumption) ?_ | refine br_i (fun h => ?_) (fun h => ?_)) | refine xg (by assumption) rfl ?_ | refine And.intro (by first | kernel_rfl | omega | (simp only [List.length_append, List.length_cons, List.length_nil, List.length_map, List.length_take, List.length_replicate]; omega) | decide) ?_)
            all_goals conv => whnf
            all_goals rfl
      · rw [pgo_ge hge] at hI
        rw [← hI]
        repeat' ((conv => whnf); first | (with_reducible first | refine br_t ?_ | refine br_f ?_ | refine xa (by assumption) ?_ | refine xg (by assumption) rfl ?_ | refine xo (by assumption) ?_ | refine xb (by assumption) rfl ?_ | refine xm (by assumption) ?_ | refine xc (by assumption) ?_) | ((with_reducible refine bc_t ?_ ?_); (first | omega | decide)) | ((with_reducible refine bc_f ?_ ?_); (first | omega | decide)) | (with_reducible first | refine bc (fun h => ?_) (fun h => ?_) | refine br_t' (by assumption) ?_ | refine br_f' (by assumption) ?_ | refine br_i (fun h => ?_) (fun h => ?_)) | refine xg (by assumption) rfl ?_ | refine And.intro (by first | kernel_rfl | omega | (simp only [List.length_append, List.length_cons, List.length_nil, List.length_map, List.length_take, List.length_replicate]; omega) | decide) ?_)
        all_goals conv => whnf
        all_goals rfl
    · rw [if_neg (fun h => h1 h.2.2.1)]
      generalize askd n d = z at *
      repeat' ((conv => whnf); first | (with_reducible first | refine br_t ?_ | refine br_f ?_ | refine xa (by assumption) ?_ | refine xg (by assumption) rfl ?_ | refine xo (by assumption) ?_ | refine xb (by assumption) rfl ?_ | refine xm (by assumption) ?_ | refine xc (by assumption) ?_) | ((with_reducible refine bc_t ?_ ?_); (first | omega | decide)) | ((with_reducible refine bc_f ?_ ?_); (first | omega | decide)) | (with_reducible first | refine bc (fun h => ?_) (fun h => ?_) | refine br_t' (by assumption) ?_ | refine br_f' (by assumption) ?_ | refine br_i (fun h => ?_) (fun h => ?_)) | refine xg (by assumption) rfl ?_ | refine And.intro (by first | kernel_rfl | omega | (simp only [List.length_append, List.length_cons, List.length_nil, List.length_map, List.length_take, List.length_replicate]; omega) | decide) ?_)
      all_goals conv => whnf
      all_goals rfl
  · rw [if_neg (fun h => h0 ⟨h.1, h.2.1⟩)]
    rcases (show l.length < 1 ∨ 40 < l.length by omega) with h1 | h1
    all_goals
      repeat' ((conv => whnf); first | (with_reducible first | refine br_t ?_ | refine br_f ?_ | refine xa (by assumption) ?_ | refine xg (by assumption) rfl ?_ | refine xo (by assumption) ?_ | refine xb (by assumption) rfl ?_ | refine xm (by assumption) ?_ | refine xc (by assumption) ?_) | ((with_reducible refine bc_t ?_ ?_); (first | omega | decide)) | ((with_reducible refine bc_f ?_ ?_); (first | omega | decide)) | (with_reducible first | refine bc (fun h => ?_) (fun h => ?_) | refine br_t' (by assumption) ?_ | refine br_f' (by assumption) ?_ | refine br_i (fun h => ?_) (fun h => ?_)) | refine xg (by assumption) rfl ?_ | refine And.intro (by first | kernel_rfl | omega | (simp only [List.length_append, List.length_cons, List.length_nil, List.length_map, List.length_take, List.length_replicate]; omega) | decide) ?_)
      all_goals conv => whnf
      all_goals rfl
end Go.Proofs.Ytjbnfoipjnkjdaa






/- The past: the reference's checks, copies, comparing. No conditions. -/
namespace Go.Proofs.Ytjbnfoipjnkjdaa
open Go.RowKit Go.Sort Sx
theorem pgo_iff {n d : Int} {l : List Md} : ∀ {k i : Nat}, k = l.length - i → i < l.length → (pgo n d (l.drop i) = true ↔
    (∀ j (h : j < l.length), i ≤ j → mchk l[j] = 0) ∧ (∀ j (h : j + 1 < l.length), i ≤ j → l[j].n * l[j + 1].d < l[j + 1].n * l[j].d) ∧ ∀ j (h : j < l.length), j + 1 = l.length → l[j].n * d ≤ n * l[j].d) := by
  intro k
  induction k with
  | zero => intro i hk hi; omega
  | succ k ih =>
    intro i hk hi
    rcases Nat.lt_or_ge (i + 1) l.length with h | h
    · rw [pgo_mid h, Bool.and_eq_true, decide_eq_true_eq, ih (by omega) h]
      constructor
      · rintro ⟨⟨a1, a2⟩, b1, b2, b3⟩
        refine ⟨fun j hj hij => ?_, fun j hj hij => ?_, b3⟩
        · rcases Nat.eq_or_lt_of_le hij with rfl | h'
          · exact a1
          · exact b1 j hj h'
        · rcases Nat.eq_or_lt_of_le hij with rfl | h'
          · exact a2
          · exact b2 j hj h'
      · rintro ⟨b1, b2, b3⟩
        exact ⟨⟨b1 i hi (Nat.le_refl _), b2 i h (Nat.le_refl _)⟩, fun j hj h' => b1 j hj (by omega), fun j hj h' => b2 j hj (by omega), b3⟩
    · rw [pgo_last hi (by omega), decide_eq_true_eq]
      constructor
      · rintro ⟨a1, a2⟩
        refine ⟨fun j hj hij => ?_, fun j hj hij => by omega, fun j hj hij => ?_⟩
        · have : j = i := by omega
          subst this; exact a1
        · have : j = i := by omega
          subst this; exact a2
      · rintro ⟨b1, b2, b3⟩
        exact ⟨b1 i hi (Nat.le_refl _), b3 i hi (by omega)⟩
theorem pgo_false {n d : Int} {l : List Md} (hl : 0 < l.length) (h : ¬ ((∀ j (h : j < l.length), mchk l[j] = 0) ∧ (∀ j (h : j + 1 < l.length), l[j].n * l[j + 1].d < l[j + 1].n * l[j].d) ∧ ∀ j (h : j < l.length), j + 1 = l.length → l[j].n * d ≤ n * l[j].d)) : pgo n d l = false := by
  rw [Bool.eq_false_iff, ne_eq]
  intro h2
  have h3 := (pgo_iff (n := n) (d := d) (l := l) (i := 0) rfl hl).1 (by rw [List.drop_zero]; exact h2)
  exact h ⟨fun j hj => h3.1 j hj (Nat.zero_le _), fun j hj => h3.2.1 j hj (Nat.zero_le _), h3.2.2⟩
theorem pgo_true {n d : Int} {l : List Md} (hl : 0 < l.length) (h1 : ∀ j (h : j < l.length), mchk l[j] = 0) (h2 : ∀ j (h : j + 1 < l.length), l[j].n * l[j + 1].d < l[j + 1].n * l[j].d) (h3 : ∀ j (h : j < l.length), j + 1 = l.length → l[j].n * d ≤ n * l[j].d) : pgo n d l = true := by
  have := (pgo_iff (n := n) (d := d) (l := l) (i := 0) rfl hl).2 ⟨fun j hj _ => h1 j hj, fun j hj _ => h2 j hj, h3⟩
  rwa [List.drop_zero] at this
set_option maxHeartbeats 2000000 in
theorem rpCheck_fn (p : Pa) : FnOK Try.prog 15 [p.dc] (ret1 (pchk p)) := by
  obtain ⟨n, d, l⟩ := p
  show FnOK _ _ [.agg [i64 n, i64 d, mos l]] _
  refine fn_ok (by kernel_rfl) ty_ok Try.func15 rfl (fun _ _ => Try.call15 _ _) rfl ?_
  intro hw
  simp only [WDCs, WDC, WDs] at hw
  have w1 := wd_mos hw.1.2.2.1
  clear hw
  have hln : (l.map Md.c).length = l.length := List.length_map ..
  have H0 := rasked_fn n d
  unfold pchk
  simp only
  by_cases h0 : 1 ≤ l.length ∧ l.length ≤ 40
  · by_cases h1 : askd n d = 0
    · have hrw : (if 1 ≤ l.length ∧ l.length ≤ 40 ∧ askd n d = 0 ∧ pgo n d l = true then (0 : Int) else 8) = if pgo n d l = true then 0 else 8 := by simp [h0, h1]
      rw [hrw]
      clear hrw
      rw [h1] at H0
      repeat' ((conv => whnf); first | (with_reducible first | refine br_t ?_ | refine br_f ?_ | refine xa (by assumption) ?_ | refine xg (by assumption) rfl ?_ | refine xo (by assumption) ?_ | refine xb (by assumption) rfl ?_ | refine xm (by assumption) ?_ | refine xc (by assumption) ?_) | ((with_reducible refine bc_t ?_ ?_); (first | omega | decide)) | ((with_reducible refine bc_f ?_ ?_); (first | omega | decide)) | (with_reducible first | refine bc (fun h => ?_) (fun h => ?_) | refine br_t' (by assumption) ?_ | refine br_f' (by assumption) ?_ | refine br_i (fun h => ?_) (fun h => ?_)) | refine xg (by assumption) rfl ?_ | refine And.intro (by first | kernel_rfl | omega | (simp only [List.length_append, List.length_cons, List.length_nil, List.length_map, List.length_take, List.length_replicate]; omega) | decide) ?_)
      refine loop_J (by kernel_rfl) ty_ok (σ := Nat) (fun i => [(3, sV (.int .i64 i))]) (fun _ => []) (fun i => i ≤ l.length ∧ ∀ j (h : j < l.length), j < i → mchk l[j] = 0) (fun i => l.length - i) 0 ⟨by omega, fun j _ h => absurd h (Nat.not_lt_zero _)⟩ ?_ ?_
      · (conv => whnf); refine ⟨by repeat' (first | with_reducible exact zE0 | with_reducible refine zE1 ?_ ?_ | rfl | assumption | (refine ent_i ?_; (first | omega | (rw [IntWalk.i64_in _ (by omega)]; omega) | (simp; done))) | (refine ent_b ?_; (first | omega | (rw [IntWalk.i64_in _ (by omega)]; omega) | (simp; done)))), by repeat' (first | with_reducible exact zH0 | with_reducible refine zH1 ?_ ?_ | rfl | assumption), rfl⟩
      rintro i ⟨hi, hI⟩
      rcases Nat.lt_or_ge i l.length with hlt | hge
      · have he1 := mos_get hlt
        have H1 := rasked_fn l[i].n l[i].d
        have H2 := rfCheck_fn l[i].l
        by_cases hm : mchk l[i] = 0
        · obtain ⟨m1, m2⟩ := mchk_ok hm
          rw [m1] at H1
          rw [m2] at H2
          repeat' ((conv => whnf); first | (with_reducible first | refine br_t ?_ | refine br_f ?_ | refine xa (by assumption) ?_ | refine xg (by assumption) rfl ?_ | refine xo (by assumption) ?_ | refine xb (by assumption) rfl ?_ | refine xm (by assumption) ?_ | refine xc (by assumption) ?_) | ((with_reducible refine bc_t ?_ ?_); (first | omega | decide)) | ((with_reducible refine bc_f ?_ ?_); (first | omega | decide)) | (with_reducible first | refine bc (fun h => ?_) (fun h => ?_) | refine br_t' (by assumption) ?_ | refine br_f' (by assumption) ?_ | refine br_i (fun h => ?_) (fun h => ?_)) | refine xg (by assumption) rfl ?_ | refine And.intro (by first | kernel_rfl | omega | (simp only [List.length_append, List.length_cons, List.length_nil, List.length_map, List.length_take, List.length_replicate]; omega) | decide) ?_)
          all_goals conv => whnf
          refine ⟨i + 1, ⟨by omega, fun j hj hj2 => ?_⟩, ?_, by omega⟩
          · rcases Nat.lt_or_ge j i with h2 | h2
            · exact hI j hj h2
            · have : j = i := by omega
              subst this; exact hm
          · (conv => whnf); refine ⟨by repeat' (first | with_reducible exact zE0 | with_reducible refine zE1 ?_ ?_ | rfl | assumption | (refine ent_i ?_; (first | omega | (rw [IntWalk.i64_in _ (by omega)]; omega) | (simp; done))) | (refine ent_b ?_; (first | omega | (rw [IntWalk.i64_in _ (by omega)]; omega) | (simp; done)))), by repeat' (first | with_reducible exact zH0 | with_reducible refine zH1 ?_ ?_ | rfl | assumption), rfl⟩
        · rw [pgo_false (by omega) (fun h => hm (h.1 i hlt))]
          by_cases m1 : askd l[i].n l[i].d = 0
          · rw [m1] at H1
            have m2 : fchk l[i].l ≠ 0 := fun h => hm (by unfold mchk; rw [if_pos ⟨m1, h⟩])
            generalize fchk l[i].l = z at *
            repeat' ((conv => whnf); first | (with_reducible first | refine br_t ?_ | refine br_f ?_ | refine xa (by assumption) ?_ | refine xg (by assumption) rfl ?_ | refine xo (by assumption) ?_ | refine xb (by assumption) rfl ?_ | refine xm (by assumption) ?_ | refine xc (by assumption) ?_) | ((with_reducible refine bc_t ?_ ?_); (first | omega | decide)) | ((with_reducible refine bc_f ?_ ?_); (first | omega | decide)) | (with_reducible first | refine bc (fun h => ?_) (fun h => ?_) | refine br_t' (by assumption) ?_ | refine br_f' (by assumption) ?_ | refine br_i (fun h => ?_) (fun h => ?_)) | refine xg (by assumption) rfl ?_ | refine And.intro (by first | kernel_rfl | omega | (simp only [List.length_append, List.length_cons, List.length_nil, List.length_map, List.length_take, List.length_replicate]; omega) | decide) ?_)
            all_goals conv => whnf
            all_goals rfl
          · generalize askd l[i].n l[i].d = z at *
            repeat' ((conv => whnf); first | (with_reducible first | refine br_t ?_ | refine br_f ?_ | refine xa (by assumption) ?_ | refine xg (by assumption) rfl ?_ | refine xo (by assumption) ?_ | refine xb (by assumption) rfl ?_ | refine xm (by assumption) ?_ | refine xc (by assumption) ?_) | ((with_reducible refine bc_t ?_ ?_); (first | omega | decide)) | ((with_reducible refine bc_f ?_ ?_); (first | omega | decide)) | (with_reducible first | refine bc (fun h => ?_) (fun h => ?_) | refine br_t' (by assumption) ?_ | refine br_f' (by assumption) ?_ | refine br_i (fun h => ?_) (fun h => ?_)) | refine xg (by assumption) rfl ?_ | refine And.intro (by first | kernel_rfl | omega | (simp only [List.length_append, List.length_cons, List.length_nil, List.length_map, List.length_take, List.length_replicate]; omega) | decide) ?_)
            all_goals conv => whnf
            all_goals rfl
      · have hA : ∀ j (h : j < l.length), mchk l[j] = 0 := fun j hj => hI j hj (by omega)
        repeat' ((conv => whnf); first | (with_reducible first | refine br_t ?_ | refine br_f ?_ | refine xa (by assumption) ?_ | refine xg (by assumption) rfl ?_ | refine xo (by assumption) ?_ | refine xb (by assumption) rfl ?_ | refine xm (by assumption) ?_ | refine xc (by assumption) ?_) | ((with_reducible refine bc_t ?_ ?_); (first | omega | decide)) | ((with_reducible refine bc_f ?_ ?_); (first | omega | decide)) | (with_reducible first | refine bc (fun h => ?_) (fun h => ?_) | refine br_t' (by assumption) ?_ | refine br_f' (by assumption) ?_ | refine br_i (fun h => ?_) (fun h => ?_)) | refine xg (by assumption) rfl ?_ | refine And.intro (by first | kernel_rfl | omega | (simp only [List.length_append, List.length_cons, List.length_nil, List.length_map, List.length_take, List.length_replicate]; omega) | decide) ?_)
        conv => whnf
        refine loop_J (by kernel_rfl) ty_ok (σ := Nat) (fun i => [(4, sV (.int .i64 ((i + 1 : Nat) : Int)))]) (fun _ => []) (fun i => i + 1 ≤ l.length ∧ ∀ j (h : j + 1 < l.length), j < i → l[j].n * l[j + 1].d < l[j + 1].n * l[j].d) (fun i => l.length - i) 0 ⟨by omega, fun j _ h => absurd h (Nat.not_lt_zero _)⟩ ?_ ?_
        · (conv => whnf); refine ⟨by repeat' (first | with_reducible exact zE0 | with_reducible refine zE1 ?_ ?_ | rfl | assumption | (refine ent_i ?_; (first | omega | (rw [IntWalk.i64_in _ (by omega)]; omega) | (simp; done))) | (refine ent_b ?_; (first | omega | (rw [IntWalk.i64_in _ (by omega)]; omega) | (simp; done)))), by repeat' (first | with_reducible exact zH0 | with_reducible refine zH1 ?_ ?_ | rfl | assumption), rfl⟩
        rintro i ⟨hi, hI⟩
        rcases Nat.lt_or_ge (i + 1) l.length with hlt | hge
        · have ew : IntKind.i64.wrap (((i + 1 : Nat) : Int) - 1) = (i : Int) := by rw [IntWalk.i64_in _ (by omega)]; omega
          have he1 := mos_get hlt
          have he2 := mos_get' (l := l) (i := i) (j := IntKind.i64.wrap (((i + 1 : Nat) : Int) - 1)) (by omega) (by rw [ew]; omega)
          have H3 := rcompare_fn l[i].n l[i].d l[i + 1].n l[i + 1].d
          rcases cmpN_cases (l[i].n * l[i + 1].d) (l[i + 1].n * l[i].d) with ⟨c1, c2⟩ | ⟨c1, c2⟩ | ⟨c1, c2⟩
          · rw [c2] at H3
            have hN : ∀ j (h : j + 1 < l.length), j < i + 1 → l[j].n * l[j + 1].d < l[j + 1].n * l[j].d := fun j hj hj2 => by
              rcases Nat.lt_or_ge j i with h2 | h2
              · exact hI j hj h2
              · have : j = i := by omega
                subst this; exact c1
            clear c1
            repeat' ((conv => whnf); first | (with_reducible first | refine br_t ?_ | refine br_f ?_ | refine xa (by assumption) ?_ | refine xg (by assumption) rfl ?_ | refine xo (by assumption) ?_ | refine xb (by assumption) rfl ?_ | refine xm (by assumption) ?_ | refine xc (by assumption) ?_) | ((with_reducible refine bc_t ?_ ?_); (first | omega | decide)) | ((with_reducible refine bc_f ?_ ?_); (first | omega | decide)) | (with_reducible first | refine bc (fun h => ?_) (fun h => ?_) | refine br_t' (by assumption) ?_ | refine br_f' (by assumption) ?_ | refine br_i (fun h => ?_) (fun h => ?_)) | refine xg (by assumption) rfl ?_ | refine And.intro (by first | kernel_rfl | omega | (simp only [List.length_append, List.length_cons, List.length_nil, List.length_map, List.length_take, List.length_replicate]; omega) | decide) ?_)
            all_goals conv => whnf
            refine ⟨i + 1, ⟨by omega, hN⟩, ?_, by omega⟩
            (conv => whnf); refine ⟨by repeat' (first | with_reducible exact zE0 | with_reducible refine zE1 ?_ ?_ | rfl | assumption | (refine ent_i ?_; (first | omega | (rw [IntWalk.i64_in _ (by omega)]; omega) | (simp; done))) | (refine ent_b ?_; (first | omega | (rw [IntWalk.i64_in _ (by omega)]; omega) | (simp; done)))), by repeat' (first | with_reducible exact zH0 | with_reducible refine zH1 ?_ ?_ | rfl | assumption), rfl⟩
          all_goals
            rw [pgo_false (by omega) (fun h => by have := h.2.1 i hlt; omega)]
            rw [c2] at H3
            clear c1
            repeat' ((conv => whnf); first | (with_reducible first | refine br_t ?_ | refine br_f ?_ | refine xa (by assumption) ?_ | refine xg (by assumption) rfl ?_ | refine xo (by assumption) ?_ | refine xb (by assumption) rfl ?_ | refine xm (by assumption) ?_ | refine xc (by assumption) ?_) | ((with_reducible refine bc_t ?_ ?_); (first | omega | decide)) | ((with_reducible refine bc_f ?_ ?_); (first | omega | decide)) | (with_reducible first | refine bc (fun h => ?_) (fun h => ?_) | refine br_t' (by assumption) ?_ | refine br_f' (by assumption) ?_ | refine br_i (fun h => ?_) (fun h => ?_)) | refine xg (by assumption) rfl ?_ | refine And.intro (by first | kernel_rfl | omega | (simp only [List.length_append, List.length_cons, List.length_nil, List.length_map, List.length_take, List.length_replicate]; omega) | decide) ?_)
            all_goals conv => whnf
            all_goals rfl
        · have hj : i < l.length := by omega
          have ew : IntKind.i64.wrap ((l.length : Int) - 1) = (i : Int) := by rw [IntWalk.i64_in _ (by omega)]; omega
          have he1 := mos_get' (l := l) (i := i) (j := IntKind.i64.wrap ((l.length : Int) - 1)) (by omega) (by rw [ew]; omega)
          have H3 := rcompare_fn l[i].n l[i].d n d
          rcases cmpN_cases (l[i].n * d) (n * l[i].d) with ⟨c1, c2⟩ | ⟨c1, c2⟩ | ⟨c1, c2⟩
          · rw [pgo_true (by omega) hA (fun j hj => hI j hj (by omega)) (fun j hj hj2 => by have : j = i := by omega
                                                                                            subst this; omega)]
            rw [c2] at H3
            clear c1
            repeat' ((conv => whnf); first | (with_reducible first | refine br_t ?_ | refine br_f ?_ | refine xa (by assumption) ?_ | refine xg (by assumption) rfl ?_ | refine xo (by assumption) ?_ | refine xb (by assumption) rfl ?_ | refine xm (by assumption) ?_ | refine xc (by assumption) ?_) | rw [hln] | ((with_reducible refine bc_t ?_ ?_); (first | omega | decide)) | ((with_reducible refine bc_f ?_ ?_); (first | omega | decide)) | (with_reducible first | refine bc (fun h => ?_) (fun h => ?_) | refine br_t' (by assumption) ?_ | refine br_f' (by assumption) ?_ | refine br_i (fun h => ?_) (fun h => ?_)) | refine xg (by assumption) rfl ?_ | refine And.intro (by first | kernel_rfl | omega | (simp only [List.length_append, List.length_cons, List.length_nil, List.length_map, List.length_take, List.length_replicate]; omega) | decide) ?_)
            all_goals conv => whnf
            all_goals rfl
          · rw [pgo_true (by omega) hA (fun j hj => hI j hj (by omega)) (fun j hj hj2 => by have : j = i := by omega
                                                                                            subst this; omega)]
            rw [c2] at H3
            clear c1
            repeat' ((conv => whnf); first | (with_reducible first | refine br_t ?_ | refine br_f ?_ | refine xa (by assumption) ?_ | refine xg (by assumption) rfl ?_ | refine xo (by assumption) ?_ | refine xb (by assumption) rfl ?_ | refine xm (by assumption) ?_ | refine xc (by assumption) ?_) | rw [hln] | ((with_reducible refine bc_t ?_ ?_); (first | omega | decide)) | ((with_reducible refine bc_f ?_ ?_); (first | omega | decide)) | (with_reducible first | refine bc (fun h => ?_) (fun h => ?_) | refine br_t' (by assumption) ?_ | refine br_f' (by assumption) ?_ | refine br_i (fun h => ?_) (fun h => ?_)) | refine xg (by assumption) rfl ?_ | refine And.intro (by first | kernel_rfl | omega | (simp only [List.length_append, List.length_cons, List.length_nil, List.length_map, List.length_take, List.length_replicate]; omega) | decide) ?_)
            all_goals conv => whnf
            all_goals rfl
          · rw [pgo_false (by omega) (fun h => by have := h.2.2 i hj (by omega); omega)]
            rw [c2] at H3
            clear c1
            repeat' ((conv => whnf); first | (with_reducible first | refine br_t ?_ | refine br_f ?_ | refine xa (by assumption) ?_ | refine xg (by assumption) rfl ?_ | refine xo (by assumption) ?_ | refine xb (by assumption) rfl ?_ | refine xm (by assumption) ?_ | refine xc (by assumption) ?_) | rw [hln] | ((with_reducible refine bc_t ?_ ?_); (first | omega | decide)) | ((with_reducible refine bc_f ?_ ?_); (first | omega | decide)) | (with_reducible first | refine bc (fun h => ?_) (fun h => ?_) | refine br_t' (by assumption) ?_ | refine br_f' (by assumption) ?_ | refine br_i (fun h => ?_) (fun h => ?_)) | refine xg (by assumption) rfl ?_ | refine And.intro (by first | kernel_rfl | omega | (simp only [List.length_append, List.length_cons, List.length_nil, List.length_map, List.length_take, List.length_replicate]; omega) | decide) ?_)
            all_goals conv => whnf
            all_goals rfl
    · rw [if_neg (fun h => h1 h.2.2.1)]
      generalize askd n d = z at *
      repeat' ((conv => whnf); first | (with_reducible first | refine br_t ?_ | refine br_f ?_ | refine xa (by assumption) ?_ | refine xg (by assumption) rfl ?_ | refine xo (by assumption) ?_ | refine xb (by assumption) rfl ?_ | refine xm (by assumption) ?_ | refine xc (by assumption) ?_) | ((with_reducible refine bc_t ?_ ?_); (first | omega | decide)) | ((with_reducible refine bc_f ?_ ?_); (first | omega | decide)) | (with_reducible first | refine bc (fun h => ?_) (fun h => ?_) | refine br_t' (by assumption) ?_ | refine br_f' (by assumption) ?_ | refine br_i (fun h => ?_) (fun h => ?_)) | refine xg (by assumption) rfl ?_ | refine And.intro (by first | kernel_rfl | omega | (simp only [List.length_append, List.length_cons, List.length_nil, List.length_map, List.length_take, List.length_replicate]; omega) | decide) ?_)
      all_goals conv => whnf
      all_goals rfl
  · rw [if_neg (fun h => h0 ⟨h.1, h.2.1⟩)]
    rcases (show l.length < 1 ∨ 40 < l.length by omega) with h1 | h1
    all_goals
      repeat' ((conv => whnf); first | (with_reducible first | refine br_t ?_ | refine br_f ?_ | refine xa (by assumption) ?_ | refine xg (by assumption) rfl ?_ | refine xo (by assumption) ?_ | refine xb (by assumption) rfl ?_ | refine xm (by assumption) ?_ | refine xc (by assumption) ?_) | ((with_reducible refine bc_t ?_ ?_); (first | omega | decide)) | ((with_reducible refine bc_f ?_ ?_); (first | omega | decide)) | (with_reducible first | refine bc (fun h => ?_) (fun h => ?_) | refine br_t' (by assumption) ?_ | refine br_f' (by assumption) ?_ | refine br_i (fun h => ?_) (fun h => ?_)) | refine xg (by assumption) rfl ?_ | refine And.intro (by first | kernel_rfl | omega | (simp only [List.length_append, List.length_cons, List.length_nil, List.length_map, List.length_take, List.length_replicate]; omega) | decide) ?_)
      all_goals conv => whnf
      all_goals rfl
end Go.Proofs.Ytjbnfoipjnkjdaa
