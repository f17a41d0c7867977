import Derived.Test.YtmdnpklbdamfpaaGLClosestO
import Derived.Test.YtmdnpklbdamfpaaGLClosestI
set_option linter.all false



/- Fields, layer 3: data, checks, comparing. No conditions. -/
namespace Go.Proofs.Ytmdnpklbdamfpaa
open Go.RowKit Go.Sort Sx

/-- a point -/
structure Pt where
  id : Int
  a : Int
  b : Int
  deriving DecidableEq, Inhabited
def Pt.c (p : Pt) : List D := [i64 p.id, i64 p.a, i64 p.b]
abbrev Pt.dc (p : Pt) : DC := pt p.id p.a p.b
abbrev pts (l : List Pt) : D := .list 3 (l.map Pt.c)
abbrev fld (l : List Pt) : DC := .agg [pts l]
def Pt.chk (p : Pt) : Int := cpt p.id p.a p.b
/-- IDs in increasing order -/
def incr : List Pt → Bool
  | p :: q :: l => decide (p.id < q.id) && incr (q :: l)
  | _ => true
def fchk (l : List Pt) : Int := if 64 < l.length then 4 else if l.all (fun p => p.chk == 0) then (if incr l then 0 else 32) else 8

theorem Pt.chk_08 (p : Pt) : p.chk = 0 ∨ p.chk = 8 := cpt_08 p.id p.a p.b
theorem pts_get {l : List Pt} {i : Nat} (h : i < l.length) : (l.map Pt.c)[((i : Nat) : Int).toNat]? = some [i64 l[i].id, i64 l[i].a, i64 l[i].b] := by
  rw [Int.toNat_natCast, List.getElem?_map, List.getElem?_eq_getElem h]; rfl
theorem pts_get' {l : List Pt} {i : Nat} {j : Int} (h : i < l.length) (e : j.toNat = i) : (l.map Pt.c)[j.toNat]? = some [i64 l[i].id, i64 l[i].a, i64 l[i].b] := by
  rw [e, List.getElem?_map, List.getElem?_eq_getElem h]; rfl
theorem wd_pts {l : List Pt} (h : WD (pts l)) : l.length ≤ 9223372036854775807 ∧ ∀ p ∈ l, (-9223372036854775808 ≤ p.id ∧ p.id ≤ 9223372036854775807) ∧ (-9223372036854775808 ≤ p.a ∧ p.a ≤ 9223372036854775807) ∧ (-9223372036854775808 ≤ p.b ∧ p.b ≤ 9223372036854775807) := by
  obtain ⟨h1, _, h3⟩ := WD_list.1 h
  refine ⟨by simpa using h1, fun p hp => ?_⟩
  have h4 := h3 p.c (List.mem_map_of_mem hp)
  exact ⟨wd_i64.1 (h4 _ (by simp [Pt.c])), wd_i64.1 (h4 _ (by simp [Pt.c])), wd_i64.1 (h4 _ (by simp [Pt.c]))⟩
theorem all_take_succ {l : List Pt} {f : Pt → Bool} {i : Nat} (h : i < l.length) : (l.take (i + 1)).all f = ((l.take i).all f && f l[i]) := by
  rw [List.take_succ_eq_append_getElem h, List.all_append]; simp
theorem incr_iff : ∀ {l : List Pt}, incr l = true ↔ ∀ i (h : i + 1 < l.length), l[i].id < l[i + 1].id
  | [] => by simp [incr]
  | [p] => by simp [incr]
  | p :: q :: l => by
    rw [incr, Bool.and_eq_true, decide_eq_true_eq, incr_iff]
    constructor
    · rintro ⟨h1, h2⟩ i h
      cases i with
      | zero => exact h1
      | succ i => exact h2 i (by simpa using h)
    · exact fun h => ⟨h 0 (by simp), fun i hi => h (i + 1) (by simpa using hi)⟩

theorem fCheck_fn (l : List Pt) : FnOK Try.prog 8 [fld l] (ret1 (fchk l)) := by
  refine fn_ok (by kernel_rfl) ty_ok Try.func8 rfl (fun _ _ => Try.call8 _ _) rfl ?_
  intro hw
  simp only [WDCs, WDC, WDs] at hw
  obtain ⟨w1, w2⟩ := wd_pts hw.1.1
  repeat' ((conv => whnf); first | (with_reducible first | refine br_t ?_ | refine br_f ?_ | refine xa (by assumption) ?_ | refine xg (by assumption) rfl ?_ | refine xo (by assumption) ?_ | refine xb (by assumption) rfl ?_ | refine xm (by assumption) ?_ | refine xc (by assumption) ?_) | rw [List.length_map] | ((with_reducible refine bc_t ?_ ?_); (first | omega | decide)) | ((with_reducible refine bc_f ?_ ?_); (first | omega | decide)) | (with_reducible first | refine bc (fun h => ?_) (fun h => ?_) | refine br_t' (by assumption) ?_ | refine br_f' (by assumption) ?_ | refine br_i (fun h => ?_) (fun h => ?_)) | refine xg (by assumption) rfl ?_ | refine And.intro (by first | kernel_rfl | omega | (simp only [List.length_append, List.length_cons, List.length_nil, List.length_map]; omega) | decide) ?_)
  · conv => whnf
    unfold fchk
    rw [if_pos (by omega)]
  unfold fchk
  rw [if_neg (by omega)]
  refine loop_J (by kernel_rfl) ty_ok (σ := Nat) (fun i => [(15, sV (.int .i64 i))]) (fun _ => []) (fun i => i ≤ l.length ∧ (l.take i).all (fun p => p.chk == 0) = true) (fun i => l.length - i) 0 ⟨by omega, by simp⟩ ?_ ?_
  · (conv => whnf); refine ⟨by repeat' (first | with_reducible exact zE0 | with_reducible refine zE1 ?_ ?_ | rfl | assumption | (refine ent_i ?_; (first | omega | (rw [IntWalk.i64_in _ (by omega)]; omega) | (simp; done))) | (refine ent_b ?_; (first | omega | (rw [IntWalk.i64_in _ (by omega)]; omega) | (simp; done)))), by repeat' (first | with_reducible exact zH0 | with_reducible refine zH1 ?_ ?_ | rfl | assumption), rfl⟩
  rintro i ⟨hi, hI⟩
  rcases Nat.lt_or_ge i l.length with hlt | hge
  · have hel := pts_get hlt
    have HC := kCheck_fn l[i].id l[i].a l[i].b
    rcases Pt.chk_08 l[i] with hc | hc
    · unfold Pt.chk at hc
      rw [hc] at HC
      repeat' ((conv => whnf); first | (with_reducible first | refine br_t ?_ | refine br_f ?_ | refine xa (by assumption) ?_ | refine xg (by assumption) rfl ?_ | refine xo (by assumption) ?_ | refine xb (by assumption) rfl ?_ | refine xm (by assumption) ?_ | refine xc (by assumption) ?_ | refine xi (HC) ?_) | rw [List.length_map] | ((with_reducible refine bc_t ?_ ?_); (first | omega | decide)) | ((with_reducible refine bc_f ?_ ?_); (first | omega | decide)) | (with_reducible first | refine bc (fun h => ?_) (fun h => ?_) | refine br_t' (by assumption) ?_ | refine br_f' (by assumption) ?_ | refine br_i (fun h => ?_) (fun h => ?_)) | refine xg (by assumption) rfl ?_ | refine And.intro (by first | kernel_rfl | omega | (simp only [List.length_append, List.length_cons, List.length_nil, List.length_map]; omega) | decide) ?_)
      all_goals conv => whnf
      refine ⟨i + 1, ⟨by omega, ?_⟩, ?_, by omega⟩
      · rw [all_take_succ hlt, hI]; simp [Pt.chk, hc]
      · (conv => whnf); refine ⟨by repeat' (first | with_reducible exact zE0 | with_reducible refine zE1 ?_ ?_ | rfl | assumption | (refine ent_i ?_; (first | omega | (rw [IntWalk.i64_in _ (by omega)]; omega) | (simp; done))) | (refine ent_b ?_; (first | omega | (rw [IntWalk.i64_in _ (by omega)]; omega) | (simp; done)))), by repeat' (first | with_reducible exact zH0 | with_reducible refine zH1 ?_ ?_ | rfl | assumption), rfl⟩
    · have hn : l.all (fun p => p.chk == 0) = false := by
        rw [Bool.eq_false_iff]
        intro h
        have := List.all_eq_true.1 h l[i] (List.getElem_mem hlt)
        rw [hc] at this; simp at this
      unfold Pt.chk at hc
      rw [hc] at HC
      repeat' ((conv => whnf); first | (with_reducible first | refine br_t ?_ | refine br_f ?_ | refine xa (by assumption) ?_ | refine xg (by assumption) rfl ?_ | refine xo (by assumption) ?_ | refine xb (by assumption) rfl ?_ | refine xm (by assumption) ?_ | refine xc (by assumption) ?_ | refine xi (HC) ?_) | rw [List.length_map] | ((with_reducible refine bc_t ?_ ?_); (first | omega | decide)) | ((with_reducible refine bc_f ?_ ?_); (first | omega | decide)) | (with_reducible first | refine bc (fun h => ?_) (fun h => ?_) | refine br_t' (by assumption) ?_ | refine br_f' (by assumption) ?_ | refine br_i (fun h => ?_) (fun h => ?_)) | refine xg (by assumption) rfl ?_ | refine And.intro (by first | kernel_rfl | omega | (simp only [List.length_append, List.length_cons, List.length_nil, List.length_map]; omega) | decide) ?_)
      all_goals conv => whnf
      rw [hn]; rfl
  · have hall : l.all (fun p => p.chk == 0) = true := by rw [List.take_of_length_le hge] at hI; exact hI
    rw [hall, if_pos rfl]
    repeat' ((conv => whnf); first | (with_reducible first | refine br_t ?_ | refine br_f ?_ | refine xa (by assumption) ?_ | refine xg (by assumption) rfl ?_ | refine xo (by assumption) ?_ | refine xb (by assumption) rfl ?_ | refine xm (by assumption) ?_ | refine xc (by assumption) ?_) | rw [List.length_map] | ((with_reducible refine bc_t ?_ ?_); (first | omega | decide)) | ((with_reducible refine bc_f ?_ ?_); (first | omega | decide)) | (with_reducible first | refine bc (fun h => ?_) (fun h => ?_) | refine br_t' (by assumption) ?_ | refine br_f' (by assumption) ?_ | refine br_i (fun h => ?_) (fun h => ?_)) | refine xg (by assumption) rfl ?_ | refine And.intro (by first | kernel_rfl | omega | (simp only [List.length_append, List.length_cons, List.length_nil, List.length_map]; omega) | decide) ?_)
    refine loop_J (by kernel_rfl) ty_ok (σ := Nat) (fun i => [(28, sV (.int .i64 i))]) (fun _ => []) (fun i => i ≤ l.length ∧ ∀ j (h : j + 1 < l.length), j + 1 < i → l[j].id < l[j + 1].id) (fun i => l.length - i) 0 ⟨by omega, fun j _ h => by omega⟩ ?_ ?_
    · (conv => whnf); refine ⟨by repeat' (first | with_reducible exact zE0 | with_reducible refine zE1 ?_ ?_ | rfl | assumption | (refine ent_i ?_; (first | omega | (rw [IntWalk.i64_in _ (by omega)]; omega) | (simp; done))) | (refine ent_b ?_; (first | omega | (rw [IntWalk.i64_in _ (by omega)]; omega) | (simp; done)))), by repeat' (first | with_reducible exact zH0 | with_reducible refine zH1 ?_ ?_ | rfl | assumption), rfl⟩
    rintro j ⟨hj, hJ⟩
    rcases Nat.lt_or_ge j l.length with hjlt | hjge
    · have hel := pts_get hjlt
      rcases Nat.eq_zero_or_pos j with h0 | h0
      · subst h0
        repeat' ((conv => whnf); first | (with_reducible first | refine br_t ?_ | refine br_f ?_ | refine xa (by assumption) ?_ | refine xg (by assumption) rfl ?_ | refine xo (by assumption) ?_ | refine xb (by assumption) rfl ?_ | refine xm (by assumption) ?_ | refine xc (by assumption) ?_) | rw [List.length_map] | ((with_reducible refine bc_t ?_ ?_); (first | omega | decide)) | ((with_reducible refine bc_f ?_ ?_); (first | omega | decide)) | (with_reducible first | refine bc (fun h => ?_) (fun h => ?_) | refine br_t' (by assumption) ?_ | refine br_f' (by assumption) ?_ | refine br_i (fun h => ?_) (fun h => ?_)) | refine xg (by assumption) rfl ?_ | refine And.intro (by first | kernel_rfl | omega | (simp only [List.length_append, List.length_cons, List.length_nil, List.length_map]; omega) | decide) ?_)
        all_goals conv => whnf
        refine ⟨1, ⟨by omega, fun k _ h => by omega⟩, ?_, by omega⟩
        (conv => whnf); refine ⟨by repeat' (first | with_reducible exact zE0 | with_reducible refine zE1 ?_ ?_ | rfl | assumption | (refine ent_i ?_; (first | omega | (rw [IntWalk.i64_in _ (by omega)]; omega) | (simp; done))) | (refine ent_b ?_; (first | omega | (rw [IntWalk.i64_in _ (by omega)]; omega) | (simp; done)))), by repeat' (first | with_reducible exact zH0 | with_reducible refine zH1 ?_ ?_ | rfl | assumption), rfl⟩
      · have hel2 := pts_get' (l := l) (i := j - 1) (j := IntKind.i64.wrap ((j : Int) - 1)) (by omega) (by rw [IntWalk.i64_in _ (by omega)]; omega)
        have hw1 : IntKind.i64.wrap ((j : Int) - 1) = ((j - 1 : Nat) : Int) := by rw [IntWalk.i64_in _ (by omega)]; omega
        repeat' ((conv => whnf); first | (with_reducible first | refine br_t ?_ | refine br_f ?_ | refine xa (by assumption) ?_ | refine xg (by assumption) rfl ?_ | refine xo (by assumption) ?_ | refine xb (by assumption) rfl ?_ | refine xm (by assumption) ?_ | refine xc (by assumption) ?_) | rw [List.length_map] | refine And.intro (by rw [hw1]; omega) ?_ | ((with_reducible refine bc_t ?_ ?_); (first | omega | decide)) | ((with_reducible refine bc_f ?_ ?_); (first | omega | decide)) | (with_reducible first | refine bc (fun h => ?_) (fun h => ?_) | refine br_t' (by assumption) ?_ | refine br_f' (by assumption) ?_ | refine br_i (fun h => ?_) (fun h => ?_)) | refine xg (by assumption) rfl ?_ | refine And.intro (by first | kernel_rfl | omega | (simp only [List.length_append, List.length_cons, List.length_nil, List.length_map]; omega) | decide) ?_)
        all_goals conv => whnf
        · rename_i h
          have hf : incr l = false := by
            rw [Bool.eq_false_iff, ne_eq, incr_iff]
            intro hh
            have := hh (j - 1) (by omega)
            rw [show l[j - 1 + 1]'(by omega) = l[j] from getElem_congr rfl (by omega) _] at this
            omega
          rw [hf]; rfl
        · rename_i h
          refine ⟨j + 1, ⟨by omega, fun k hk hk2 => ?_⟩, ?_, by omega⟩
          · rcases Nat.lt_or_ge (k + 1) j with h1 | h1
            · exact hJ k hk h1
            · have e : k = j - 1 := by omega
              subst e
              rw [show l[j - 1 + 1]'hk = l[j] from getElem_congr rfl (by omega) _]
              omega
          · (conv => whnf); refine ⟨by repeat' (first | with_reducible exact zE0 | with_reducible refine zE1 ?_ ?_ | rfl | assumption | (refine ent_i ?_; (first | omega | (rw [IntWalk.i64_in _ (by omega)]; omega) | (simp; done))) | (refine ent_b ?_; (first | omega | (rw [IntWalk.i64_in _ (by omega)]; omega) | (simp; done)))), by repeat' (first | with_reducible exact zH0 | with_reducible refine zH1 ?_ ?_ | rfl | assumption), rfl⟩
    · have ht : incr l = true := incr_iff.2 fun k hk => hJ k hk (by omega)
      repeat' ((conv => whnf); first | (with_reducible first | refine br_t ?_ | refine br_f ?_ | refine xa (by assumption) ?_ | refine xg (by assumption) rfl ?_ | refine xo (by assumption) ?_ | refine xb (by assumption) rfl ?_ | refine xm (by assumption) ?_ | refine xc (by assumption) ?_) | rw [List.length_map] | ((with_reducible refine bc_t ?_ ?_); (first | omega | decide)) | ((with_reducible refine bc_f ?_ ?_); (first | omega | decide)) | (with_reducible first | refine bc (fun h => ?_) (fun h => ?_) | refine br_t' (by assumption) ?_ | refine br_f' (by assumption) ?_ | refine br_i (fun h => ?_) (fun h => ?_)) | refine xg (by assumption) rfl ?_ | refine And.intro (by first | kernel_rfl | omega | (simp only [List.length_append, List.length_cons, List.length_nil, List.length_map]; omega) | decide) ?_)
      all_goals conv => whnf
      all_goals
        rw [ht]; rfl

theorem rfCheck_fn (l : List Pt) : FnOK Try.prog 13 [fld l] (ret1 (fchk l)) := by
  refine fn_ok (by kernel_rfl) ty_ok Try.func13 rfl (fun _ _ => Try.call13 _ _) rfl ?_
  intro hw
  simp only [WDCs, WDC, WDs] at hw
  obtain ⟨w1, w2⟩ := wd_pts hw.1.1
  repeat' ((conv => whnf); first | (with_reducible first | refine br_t ?_ | refine br_f ?_ | refine xa (by assumption) ?_ | refine xg (by assumption) rfl ?_ | refine xo (by assumption) ?_ | refine xb (by assumption) rfl ?_ | refine xm (by assumption) ?_ | refine xc (by assumption) ?_) | rw [List.length_map] | ((with_reducible refine bc_t ?_ ?_); (first | omega | decide)) | ((with_reducible refine bc_f ?_ ?_); (first | omega | decide)) | (with_reducible first | refine bc (fun h => ?_) (fun h => ?_) | refine br_t' (by assumption) ?_ | refine br_f' (by assumption) ?_ | refine br_i (fun h => ?_) (fun h => ?_)) | refine xg (by assumption) rfl ?_ | refine And.intro (by first | kernel_rfl | omega | (simp only [List.length_append, List.length_cons, List.length_nil, List.length_map]; omega) | decide) ?_)
  · conv => whnf
    unfold fchk
    rw [if_pos (by omega)]
  unfold fchk
  rw [if_neg (by omega)]
  refine loop_J (by kernel_rfl) ty_ok (σ := Nat) (fun i => [(3, sV (.int .i64 i))]) (fun _ => []) (fun i => i ≤ l.length ∧ (l.take i).all (fun p => p.chk == 0) = true) (fun i => l.length - i) 0 ⟨by omega, by simp⟩ ?_ ?_
  · (conv => whnf); refine ⟨by repeat' (first | with_reducible exact zE0 | with_reducible refine zE1 ?_ ?_ | rfl | assumption | (refine ent_i ?_; (first | omega | (rw [IntWalk.i64_in _ (by omega)]; omega) | (simp; done))) | (refine ent_b ?_; (first | omega | (rw [IntWalk.i64_in _ (by omega)]; omega) | (simp; done)))), by repeat' (first | with_reducible exact zH0 | with_reducible refine zH1 ?_ ?_ | rfl | assumption), rfl⟩
  rintro i ⟨hi, hI⟩
  rcases Nat.lt_or_ge i l.length with hlt | hge
  · have hel := pts_get hlt
    have HC := kkCheck_fn l[i].id l[i].a l[i].b
    rcases Pt.chk_08 l[i] with hc | hc
    · unfold Pt.chk at hc
      rw [hc] at HC
      repeat' ((conv => whnf); first | (with_reducible first | refine br_t ?_ | refine br_f ?_ | refine xa (by assumption) ?_ | refine xg (by assumption) rfl ?_ | refine xo (by assumption) ?_ | refine xb (by assumption) rfl ?_ | refine xm (by assumption) ?_ | refine xc (by assumption) ?_ | refine xi (HC) ?_) | rw [List.length_map] | ((with_reducible refine bc_t ?_ ?_); (first | omega | decide)) | ((with_reducible refine bc_f ?_ ?_); (first | omega | decide)) | (with_reducible first | refine bc (fun h => ?_) (fun h => ?_) | refine br_t' (by assumption) ?_ | refine br_f' (by assumption) ?_ | refine br_i (fun h => ?_) (fun h => ?_)) | refine xg (by assumption) rfl ?_ | refine And.intro (by first | kernel_rfl | omega | (simp only [List.length_append, List.length_cons, List.length_nil, List.length_map]; omega) | decide) ?_)
      all_goals conv => whnf
      refine ⟨i + 1, ⟨by omega, ?_⟩, ?_, by omega⟩
      · rw [all_take_succ hlt, hI]; simp [Pt.chk, hc]
      · (conv => whnf); refine ⟨by repeat' (first | with_reducible exact zE0 | with_reducible refine zE1 ?_ ?_ | rfl | assumption | (refine ent_i ?_; (first | omega | (rw [IntWalk.i64_in _ (by omega)]; omega) | (simp; done))) | (refine ent_b ?_; (first | omega | (rw [IntWalk.i64_in _ (by omega)]; omega) | (simp; done)))), by repeat' (first | with_reducible exact zH0 | with_reducible refine zH1 ?_ ?_ | rfl | assumption), rfl⟩
    · have hn : l.all (fun p => p.chk == 0) = false := by
        rw [Bool.eq_false_iff]
        intro h
        have := List.all_eq_true.1 h l[i] (List.getElem_mem hlt)
        rw [hc] at this; simp at this
      unfold Pt.chk at hc
      rw [hc] at HC
      repeat' ((conv => whnf); first | (with_reducible first | refine br_t ?_ | refine br_f ?_ | refine xa (by assumption) ?_ | refine xg (by assumption) rfl ?_ | refine xo (by assumption) ?_ | refine xb (by assumption) rfl ?_ | refine xm (by assumption) ?_ | refine xc (by assumption) ?_ | refine xi (HC) ?_) | rw [List.length_map] | ((with_reducible refine bc_t ?_ ?_); (first | omega | decide)) | ((with_reducible refine bc_f ?_ ?_); (first | omega | decide)) | (with_reducible first | refine bc (fun h => ?_) (fun h => ?_) | refine br_t' (by assumption) ?_ | refine br_f' (by assumption) ?_ | refine br_i (fun h => ?_) (fun h => ?_)) | refine xg (by assumption) rfl ?_ | refine And.intro (by first | kernel_rfl | omega | (simp only [List.length_append, List.length_cons, List.length_nil, List.length_map]; omega) | decide) ?_)
      all_goals conv => whnf
      rw [hn]; rfl
  · have hall : l.all (fun p => p.chk == 0) = true := by rw [List.take_of_length_le hge] at hI; exact hI
    rw [hall, if_pos rfl]
    repeat' ((conv => whnf); first | (with_reducible first | refine br_t ?_ | refine br_f ?_ | refine xa (by assumption) ?_ | refine xg (by assumption) rfl ?_ | refine xo (by assumption) ?_ | refine xb (by assumption) rfl ?_ | refine xm (by assumption) ?_ | refine xc (by assumption) ?_) | rw [List.length_map] | ((with_reducible refine bc_t ?_ ?_); (first | omega | decide)) | ((with_reducible refine bc_f ?_ ?_); (first | omega | decide)) | (with_reducible first | refine bc (fun h => ?_) (fun h => ?_) | refine br_t' (by assumption) ?_ | refine br_f' (by assumption) ?_ | refine br_i (fun h => ?_) (fun h => ?_)) | refine xg (by assumption) rfl ?_ | refine And.intro (by first | kernel_rfl | omega | (simp only [List.length_append, List.length_cons, List.length_nil, List.length_map]; omega) | decide) ?_)
    refine loop_J (by kernel_rfl) ty_ok (σ := Nat) (fun i => [(4, sV (.int .i64 ((i + 1 : Nat) : Int)))]) (fun _ => []) (fun i => i ≤ l.length ∧ ∀ j (h : j + 1 < l.length), j < i → l[j].id < l[j + 1].id) (fun i => l.length - i) 0 ⟨by omega, fun j _ h => by omega⟩ ?_ ?_
    · (conv => whnf); refine ⟨by repeat' (first | with_reducible exact zE0 | with_reducible refine zE1 ?_ ?_ | rfl | assumption | (refine ent_i ?_; (first | omega | (rw [IntWalk.i64_in _ (by omega)]; omega) | (simp; done))) | (refine ent_b ?_; (first | omega | (rw [IntWalk.i64_in _ (by omega)]; omega) | (simp; done)))), by repeat' (first | with_reducible exact zH0 | with_reducible refine zH1 ?_ ?_ | rfl | assumption), rfl⟩
    rintro j ⟨hj, hJ⟩
    rcases Nat.lt_or_ge (j + 1) l.length with hjlt | hjge
    · have hel := pts_get hjlt
      have hel2 := pts_get' (l := l) (i := j) (j := IntKind.i64.wrap (((j + 1 : Nat) : Int) - 1)) (by omega) (by rw [IntWalk.i64_in _ (by omega)]; omega)
      have hw1 : IntKind.i64.wrap (((j + 1 : Nat) : Int) - 1) = (j : Int) := by rw [IntWalk.i64_in _ (by omega)]; omega
      repeat' ((conv => whnf); first | (with_reducible first | refine br_t ?_ | refine br_f ?_ | refine xa (by assumption) ?_ | refine xg (by assumption) rfl ?_ | refine xo (by assumption) ?_ | refine xb (by assumption) rfl ?_ | refine xm (by assumption) ?_ | refine xc (by assumption) ?_) | rw [List.length_map] | refine And.intro (by rw [hw1]; omega) ?_ | ((with_reducible refine bc_t ?_ ?_); (first | omega | decide)) | ((with_reducible refine bc_f ?_ ?_); (first | omega | decide)) | (with_reducible first | refine bc (fun h => ?_) (fun h => ?_) | refine br_t' (by assumption) ?_ | refine br_f' (by assumption) ?_ | refine br_i (fun h => ?_) (fun h => ?_)) | refine xg (by assumption) rfl ?_ | refine And.intro (by first | kernel_rfl | omega | (simp only [List.length_append, List.length_cons, List.length_nil, List.length_map]; omega) | decide) ?_)
      all_goals conv => whnf
      · rename_i h
        have hf : incr l = false := by
          rw [Bool.eq_false_iff, ne_eq, incr_iff]
          intro hh
          have := hh j (by omega)
          omega
        rw [hf]; rfl
      · rename_i h
        refine ⟨j + 1, ⟨by omega, fun k hk hk2 => ?_⟩, ?_, by omega⟩
        · rcases Nat.lt_or_ge k j with h1 | h1
          · exact hJ k hk h1
          · have e : k = j := by omega
            subst e
            omega
        · (conv => whnf); refine ⟨by repeat' (first | with_reducible exact zE0 | with_reducible refine zE1 ?_ ?_ | rfl | assumption | (refine ent_i ?_; (first | omega | (rw [IntWalk.i64_in _ (by omega)]; omega) | (simp; done))) | (refine ent_b ?_; (first | omega | (rw [IntWalk.i64_in _ (by omega)]; omega) | (simp; done)))), by repeat' (first | with_reducible exact zH0 | with_reducible refine zH1 ?_ ?_ | rfl | assumption), rfl⟩
    · have ht : incr l = true := incr_iff.2 fun k hk => hJ k hk (by omega)
      repeat' ((conv => whnf); first | (with_reducible first | refine br_t ?_ | refine br_f ?_ | refine xa (by assumption) ?_ | refine xg (by assumption) rfl ?_ | refine xo (by assumption) ?_ | refine xb (by assumption) rfl ?_ | refine xm (by assumption) ?_ | refine xc (by assumption) ?_) | rw [List.length_map] | ((with_reducible refine bc_t ?_ ?_); (first | omega | decide)) | ((with_reducible refine bc_f ?_ ?_); (first | omega | decide)) | (with_reducible first | refine bc (fun h => ?_) (fun h => ?_) | refine br_t' (by assumption) ?_ | refine br_f' (by assumption) ?_ | refine br_i (fun h => ?_) (fun h => ?_)) | refine xg (by assumption) rfl ?_ | refine And.intro (by first | kernel_rfl | omega | (simp only [List.length_append, List.length_cons, List.length_nil, List.length_map]; omega) | decide) ?_)
      all_goals conv => whnf
      all_goals
        rw [ht]; rfl
end Go.Proofs.Ytmdnpklbdamfpaa

/- A law's arguments of this project's types. No conditions of its own. -/
namespace Go.Proofs.Ytmdnpklbdamfpaa
open Go Go.RowKit Sx
theorem fits_point {ds : List D} (h : Fits shPoint ds) : ∃ p : Pt, ds = p.c := by
  obtain ⟨_, _, rfl, ⟨n, rfl⟩, _, _, rfl, ⟨m, rfl⟩, _, _, rfl, ⟨k, rfl⟩, rfl⟩ := h
  exact ⟨⟨n, m, k⟩, rfl⟩
theorem fit_point {c : DC} (h : FitC shPoint c) : ∃ p : Pt, c = p.dc := by
  obtain ⟨ds, rfl, h⟩ := h
  obtain ⟨p, rfl⟩ := fits_point h
  exact ⟨p, rfl⟩
theorem fits_pts {ds : List D} (h : Fits (.sl 3 shPoint) ds) : ∃ l : List Pt, ds = [pts l] := by
  obtain ⟨l, rfl, h⟩ := h
  obtain ⟨l', rfl⟩ := exists_map (f := Pt.c) fun x hx => fits_point (h x hx)
  exact ⟨l', rfl⟩
theorem fits_field {ds : List D} (h : Fits shField ds) : ∃ l : List Pt, ds = [pts l] := by
  obtain ⟨_, _, rfl, h, rfl⟩ := h
  obtain ⟨l, rfl⟩ := fits_pts h
  exact ⟨l, rfl⟩
theorem fit_field {c : DC} (h : FitC shField c) : ∃ l : List Pt, c = fld l := by
  obtain ⟨ds, rfl, h⟩ := h
  obtain ⟨l, rfl⟩ := fits_field h
  exact ⟨l, rfl⟩
end Go.Proofs.Ytmdnpklbdamfpaa




/- Fields, layer 3: copies, looking up. No conditions. -/
namespace Go.Proofs.Ytmdnpklbdamfpaa
open Go.RowKit Go.Sort Sx
abbrev ownL (k : Nat) (l : List (List D)) : OwnR := ⟨.c (.one (.list k l)), 0, 0, k, l⟩

/-- how many stand ahead of an ID -/
def pos : List Pt → Int → Nat
  | [], _ => 0
  | p :: l, id => if p.id < id then pos l id + 1 else 0
def has (l : List Pt) (id : Int) : Bool := l.any fun p => p.id == id
theorem incr_lt {l : List Pt} (h : incr l = true) : ∀ (j i : Nat) (hj : j < l.length) (hij : i < j), l[i].id < l[j].id := by
  intro j
  induction j with
  | zero => intro i _ h; omega
  | succ j ih =>
    intro i hj hij
    have h1 := incr_iff.1 h j hj
    rcases Nat.lt_or_ge i j with h2 | h2
    · have := ih i (by omega) h2; omega
    · have : i = j := by omega
      subst this; exact h1
theorem incr_tail {p : Pt} {l : List Pt} (h : incr (p :: l) = true) : incr l = true := by
  cases l with
  | nil => rfl
  | cons q l => rw [incr, Bool.and_eq_true] at h; exact h.2
theorem pos_le : ∀ (l : List Pt) (id : Int), pos l id ≤ l.length
  | [], _ => Nat.le_refl _
  | p :: l, id => by rw [pos]; split <;> simp [pos_le l id]
theorem pos_eq : ∀ {l : List Pt} {id : Int} {i : Nat}, i ≤ l.length → (∀ k (h : k < l.length), k < i → l[k].id < id) → (∀ k (h : k < l.length), i ≤ k → id ≤ l[k].id) → pos l id = i
  | [], id, i, hi, _, _ => by simp at hi; simp [pos, hi]
  | p :: l, id, 0, hi, h1, h2 => by
    have := h2 0 (by simp) (Nat.le_refl _)
    simp at this
    rw [pos, if_neg (by omega)]
  | p :: l, id, i + 1, hi, h1, h2 => by
    have := h1 0 (by simp) (by omega)
    simp at this
    rw [pos, if_pos this, pos_eq (by simpa using hi) (fun k h hk => h1 (k + 1) (by simpa using h) (by omega)) (fun k h hk => h2 (k + 1) (by simpa using h) (by omega))]
theorem pos_spec : ∀ {l : List Pt} {id : Int}, incr l = true → (∀ k (h : k < l.length), k < pos l id → l[k].id < id) ∧ ∀ k (h : k < l.length), pos l id ≤ k → id ≤ l[k].id
  | [], id, _ => ⟨fun k h => by simp at h, fun k h => by simp at h⟩
  | p :: l, id, hs => by
    rw [pos]
    split
    · rename_i hp
      obtain ⟨h1, h2⟩ := pos_spec (id := id) (incr_tail hs)
      refine ⟨fun k h hk => ?_, fun k h hk => ?_⟩
      · cases k with
        | zero => exact hp
        | succ k => simpa using h1 k (by simpa using h) (by omega)
      · cases k with
        | zero => omega
        | succ k => simpa using h2 k (by simpa using h) (by omega)
    · rename_i hp
      refine ⟨fun k h hk => by omega, fun k h hk => ?_⟩
      cases k with
      | zero => simp; omega
      | succ k =>
        have := incr_lt hs (k + 1) 0 h (by omega)
        simp at this ⊢; omega
theorem has_pos {l : List Pt} {id : Int} (hs : incr l = true) : has l id = true ↔ ∃ h : pos l id < l.length, l[pos l id].id = id := by
  unfold has
  rw [List.any_eq_true]
  obtain ⟨h1, h2⟩ := pos_spec (id := id) hs
  constructor
  · rintro ⟨p, hp, he⟩
    obtain ⟨k, hk, rfl⟩ := List.getElem_of_mem hp
    have he : l[k].id = id := by simpa using he
    have hle : pos l id ≤ k := by
      rcases Nat.lt_or_ge k (pos l id) with h | h
      · have := h1 k hk h; omega
      · exact h
    have hlt : pos l id < l.length := by omega
    refine ⟨hlt, ?_⟩
    have := h2 (pos l id) hlt (Nat.le_refl _)
    rcases Nat.eq_or_lt_of_le hle with h | h
    · rw [getElem_congr rfl h]; exact he
    · have := incr_lt hs k (pos l id) hk h; omega
  · rintro ⟨h, he⟩
    exact ⟨_, List.getElem_mem h, by simpa using he⟩

theorem mid_eq (i j : Nat) (h : i + j ≤ 9223372036854775807) : IntKind.i64.wrap ((IntKind.u64.wrap (IntKind.i64.wrap ((i : Int) + (j : Int)))).fdiv (2 ^ (min (Int.toNat 1) (IntKind.bits .u64)))) = (((i + j) / 2 : Nat) : Int) := by
  have e1 : (2 : Int) ^ (min (Int.toNat 1) (IntKind.bits .u64)) = 2 := rfl
  have e2 : IntKind.u64.wrap (((i + j : Nat) : Int)) = ((i + j : Nat) : Int) := by rw [IntKind.wrap_u64]; omega
  have e3 : IntKind.i64.wrap ((i : Int) + (j : Int)) = ((i + j : Nat) : Int) := by rw [IntWalk.i64_in _ (by omega)]; omega
  rw [e3, e2, e1, Int.fdiv_eq_ediv_of_nonneg _ (by omega)]
  have e4 : ((i + j : Nat) : Int) / 2 = (((i + j) / 2 : Nat) : Int) := by omega
  rw [e4, IntWalk.i64_in _ (by omega)]
end Go.Proofs.Ytmdnpklbdamfpaa




/- Fields, layer 3: find, place, Find, the reference's At, Great, Same. No conditions. -/
namespace Go.Proofs.Ytmdnpklbdamfpaa
open Go.RowKit Go.Sort Sx
abbrev retIB (i : Int) (b : Bool) : DV := .tup [.one (i64 i), .one (bol b)]
theorem fchk_ok {l : List Pt} (h : fchk l = 0) : l.length ≤ 64 ∧ (∀ p ∈ l, p.chk = 0) ∧ incr l = true := by
  unfold fchk at h
  split at h
  · omega
  · split at h
    · rename_i h1 h2
      split at h
      · rename_i h3
        exact ⟨by omega, fun p hp => by simpa using List.all_eq_true.1 h2 p hp, h3⟩
      · omega
    · omega
theorem fchk_cases (l : List Pt) : fchk l = 0 ∨ fchk l = 4 ∨ fchk l = 8 ∨ fchk l = 32 := by
  unfold fchk; split <;> (try split) <;> (try split) <;> simp
def placeV (l : List Pt) (id : Int) : Int × Int := if fchk l = 0 then (if has l id then ((pos l id : Nat), 0) else (0, 6)) else (0, fchk l)
/-- Go's reference: where the point with an ID stands, or -1 -/
def at1 : List Pt → Int → Int → Int
  | [], _, _ => -1
  | p :: l, id, i => if p.id = id then i else at1 l id (i + 1)
theorem at1_drop {l : List Pt} {id : Int} : ∀ {n i : Nat}, n = l.length - i → i ≤ l.length → (∀ k (h : k < l.length), k < i → l[k].id ≠ id) → at1 l id 0 = at1 (l.drop i) id i := by
  intro n i
  induction i generalizing n with
  | zero => intro _ _ _; rfl
  | succ i ih =>
    intro hn hi h
    have hlt : i < l.length := by omega
    rw [ih (n := n + 1) (by omega) (by omega) (fun k hk hki => h k hk (by omega)), List.drop_eq_getElem_cons hlt, at1, if_neg (h i hlt (by omega))]
    rfl
def great (l : List Pt) : Bool := decide (16 < l.length ∧ l.length < 64 ∨ 70 < l.length)
theorem rfGreat_fn (l : List Pt) : FnOK Try.prog 4 [fld l] (.c (.one (bol (great l)))) := by
  refine fn_ok (by kernel_rfl) ty_ok Try.func4 rfl (fun _ _ => Try.call4 _ _) rfl ?_
  intro hw
  simp only [WDCs, WDC, WDs] at hw
  obtain ⟨w1, w2⟩ := wd_pts hw.1.1
  unfold great
  repeat' ((conv => whnf); first | (with_reducible first | refine br_t ?_ | refine br_f ?_ | refine xa (by assumption) ?_ | refine xg (by assumption) rfl ?_ | refine xo (by assumption) ?_ | refine xb (by assumption) rfl ?_ | refine xm (by assumption) ?_ | refine xc (by assumption) ?_) | rw [List.length_map] | ((with_reducible refine bc_t ?_ ?_); (first | omega | decide)) | ((with_reducible refine bc_f ?_ ?_); (first | omega | decide)) | (with_reducible first | refine bc (fun h => ?_) (fun h => ?_) | refine br_t' (by assumption) ?_ | refine br_f' (by assumption) ?_ | refine br_i (fun h => ?_) (fun h => ?_)) | refine xg (by assumption) rfl ?_ | refine And.intro (by first | kernel_rfl | omega | (simp only [List.length_append, List.length_cons, List.length_nil, List.length_map]; omega) | decide) ?_)
  all_goals conv => whnf
  all_goals
    refine r_bool ?_
    first
    | rfl
    | (simp only [decide_eq_decide, Bool.true_eq, Bool.false_eq, decide_eq_true_eq, decide_eq_false_iff_not]; omega)
    | (rw [eq_comm]; simp only [decide_eq_decide, decide_eq_true_eq, decide_eq_false_iff_not]; omega)
end Go.Proofs.Ytmdnpklbdamfpaa

/- Places and distances of points at a time that is asked for; the closest pair. No program is named. -/
namespace Go.Proofs.Ytmdnpklbdamfpaa
open Go.RowKit Go.Sort Sx

theorem askd_ok {n d : Int} (h : askd n d = 0) : chk n d = 0 ∧ -1073741824 ≤ n ∧ n ≤ 1073741824 ∧ 1 ≤ d ∧ d ≤ 1024 := by
  unfold askd at h
  split at h
  · rename_i h1; exact absurd h h1
  · rename_i h1
    have h1 : chk n d = 0 := by omega
    have := (chk_iff n d).1 h1
    split at h
    · omega
    · exact ⟨h1, by omega⟩
theorem Pt.chk_ok {p : Pt} (h : p.chk = 0) : 0 ≤ p.id ∧ p.id ≤ 65535 ∧ -1048576 ≤ p.a ∧ p.a ≤ 1048576 ∧ -1048576 ≤ p.b ∧ p.b ≤ 1048576 := cpt_ok h
theorem lin_in {a b n m : Int} (ha : -2097152 ≤ a) (ha' : a ≤ 2097152) (hb : -2097152 ≤ b) (hb' : b ≤ 2097152) (hn : -1073741824 ≤ n) (hn' : n ≤ 1073741824) (hm : 1 ≤ m) (hm' : m ≤ 1024) :
    -4503599627370496 ≤ a * m + b * n ∧ a * m + b * n ≤ 4503599627370496 := by
  have h1 := prod_in2 a m 2097152 1024 (by omega) (by omega) (by omega) (by omega)
  have h2 := prod_in2 b n 2097152 1073741824 (by omega) (by omega) (by omega) (by omega)
  omega
/-- the place of a point at a time -/
def plc (p : Pt) (n m : Int) : Int × Int := ((outQ (qv (p.a * m + p.b * n) m)).1, (outQ (qv (p.a * m + p.b * n) m)).2.1)
theorem plc_ok {p : Pt} {n m : Int} (hp : p.chk = 0) (ht : askd n m = 0) : atV p.id p.a p.b n m = ((plc p n m).1, (plc p n m).2, 0) ∧ chk (plc p n m).1 (plc p n m).2 = 0 ∧
    qv (plc p n m).1 (plc p n m).2 = qv (p.a * m + p.b * n) m ∧ 1 ≤ (plc p n m).2 ∧ (plc p n m).2 ≤ 1024 ∧ -4503599627370496 ≤ (plc p n m).1 ∧ (plc p n m).1 ≤ 4503599627370496 := by
  obtain ⟨h1, h2, h3, h4, h5⟩ := askd_ok ht
  have h6 := p.chk_ok hp
  have h7 := lin_in (a := p.a) (b := p.b) (n := n) (m := m) (by omega) (by omega) (by omega) (by omega) h2 h3 h4 h5
  obtain ⟨x, y, e1, e2, e3, e4, e5, e6⟩ := outQ_sm (n := p.a * m + p.b * n) (d := m) h4 (by omega) (by omega) (by omega)
  unfold plc atV
  rw [if_pos ⟨hp, h1⟩, e1]
  exact ⟨rfl, e2, e3, e4, by show y ≤ 1024; omega, by show _ ≤ x; omega, by show x ≤ _; omega⟩
/-- the distance of two points at a time -/
def dst (p q : Pt) (n m : Int) : Int × Int := (((outQ (qv ((p.a - q.a) * m + (p.b - q.b) * n) m)).1.natAbs : Int), (outQ (qv ((p.a - q.a) * m + (p.b - q.b) * n) m)).2.1)
theorem dst_ok {p q : Pt} {n m : Int} (hp : p.chk = 0) (hq : q.chk = 0) (ht : askd n m = 0) : ∃ s, subV (plc p n m).1 (plc p n m).2 (plc q n m).1 (plc q n m).2 = (s, (dst p q n m).2, 0) ∧
    (s < 0 ∧ (dst p q n m).1 = -s ∨ 0 ≤ s ∧ (dst p q n m).1 = s) ∧ chk (dst p q n m).1 (dst p q n m).2 = 0 ∧ 1 ≤ (dst p q n m).2 ∧ (dst p q n m).2 ≤ 1024 ∧ 0 ≤ (dst p q n m).1 ∧ (dst p q n m).1 ≤ 4503599627370496 := by
  obtain ⟨h1, h2, h3, h4, h5⟩ := askd_ok ht
  have h6 := p.chk_ok hp
  have h6' := q.chk_ok hq
  have h7 := lin_in (a := p.a - q.a) (b := p.b - q.b) (n := n) (m := m) (by omega) (by omega) (by omega) (by omega) h2 h3 h4 h5
  obtain ⟨_, p2, p3, p4, p5, p6, p7⟩ := plc_ok hp ht
  obtain ⟨_, q2, q3, q4, q5, q6, q7⟩ := plc_ok hq ht
  obtain ⟨x, y, e1, e2, e3, e4, e5, e6⟩ := outQ_sm (n := (p.a - q.a) * m + (p.b - q.b) * n) (d := m) h4 (by omega) (by omega) (by omega)
  have hs : qv (p.a * m + p.b * n) m - qv (q.a * m + q.b * n) m = qv ((p.a - q.a) * m + (p.b - q.b) * n) m := by
    rw [qv_sub h4 h4, qv_eq (by have := Int.mul_le_mul h4 h4 (by omega) (by omega); simpa using this) h4]
    simp only [Int.sub_mul, Int.add_mul, Int.mul_assoc]
    rw [Int.mul_comm m m]
    omega
  refine ⟨x, ?_⟩
  rw [subV_q p2 q2 (by omega), p3, q3, hs]
  unfold dst
  rw [e1]
  have hc : chk (x.natAbs : Int) y = 0 := by
    obtain ⟨c1, c2, c3⟩ := (chk_iff x y).1 e2
    exact (chk_iff _ _).2 ⟨c1, by omega, by rw [Int.natAbs_natCast]; exact c3⟩
  exact ⟨rfl, by show x < 0 ∧ ((x.natAbs : Nat) : Int) = _ ∨ _ ∧ ((x.natAbs : Nat) : Int) = _; omega, hc, e4, by show y ≤ _; omega, by show 0 ≤ ((x.natAbs : Nat) : Int); omega, by show ((x.natAbs : Nat) : Int) ≤ _; omega⟩

/-- the best pair so far: its indices, its distance (the denominator is 0 as long as there is none) -/
abbrev CSt := Nat × Nat × Int × Int
def cupd (s : CSt) (a b : Nat) (d : Int × Int) : CSt := if s.2.2.2 = 0 ∨ d.1 * s.2.2.2 < s.2.2.1 * d.2 then (a, b, d.1, d.2) else s
def innerC (n m : Int) (p : Pt) (a : Nat) : List Pt → Nat → CSt → CSt
  | [], _, s => s
  | q :: r, b, s => innerC n m p a r (b + 1) (cupd s a b (dst p q n m))
def outerC (n m : Int) : List Pt → Nat → CSt → CSt
  | [], _, s => s
  | p :: r, a, s => outerC n m r (a + 1) (innerC n m p a r (a + 1) s)
theorem innerC_lt {n m : Int} {p : Pt} {a : Nat} {l : List Pt} {b : Nat} {s : CSt} (h : b < l.length) : innerC n m p a (l.drop b) b s = innerC n m p a (l.drop (b + 1)) (b + 1) (cupd s a b (dst p l[b] n m)) := by
  rw [List.drop_eq_getElem_cons h, innerC]
theorem innerC_ge {n m : Int} {p : Pt} {a : Nat} {l : List Pt} {b : Nat} {s : CSt} (h : l.length ≤ b) : innerC n m p a (l.drop b) b s = s := by
  rw [List.drop_eq_nil_of_le h, innerC]
theorem outerC_lt {n m : Int} {l : List Pt} {a : Nat} {s : CSt} (h : a < l.length) : outerC n m (l.drop a) a s = outerC n m (l.drop (a + 1)) (a + 1) (innerC n m l[a] a (l.drop (a + 1)) (a + 1) s) := by
  rw [List.drop_eq_getElem_cons h, outerC]
theorem outerC_ge {n m : Int} {l : List Pt} {a : Nat} {s : CSt} (h : l.length ≤ a) : outerC n m (l.drop a) a s = s := by
  rw [List.drop_eq_nil_of_le h, outerC]
/-- the closest pair -/
def pairC (l : List Pt) (n m : Int) : CSt := outerC n m l 0 (0, 0, 0, 0)
theorem pairC_ref {p q : Pt} {l : List Pt} {n m : Int} (hd : (dst p q n m).2 ≠ 0) : pairC (p :: q :: l) n m = outerC n m (p :: q :: l) 0 (0, 1, (dst p q n m).1, (dst p q n m).2) := by
  have e : cupd (0, 0, 0, 0) 0 1 (dst p q n m) = cupd (0, 1, (dst p q n m).1, (dst p q n m).2) 0 1 (dst p q n m) := by
    unfold cupd
    rw [if_pos (.inl rfl), if_neg (by simp only [not_or]; exact ⟨hd, Int.lt_irrefl _⟩)]
  unfold pairC
  simp only [outerC, innerC, Nat.zero_add]
  rw [e]
/-- what holds of the best pair so far -/
def cgood (l : List Pt) (s : CSt) : Prop := chk s.2.2.1 s.2.2.2 = 0 ∧ 1 ≤ s.2.2.2 ∧ s.2.2.2 ≤ 1024 ∧ 0 ≤ s.2.2.1 ∧ s.2.2.1 ≤ 4503599627370496 ∧ s.1 < l.length ∧ s.2.1 < l.length
theorem cgood_upd {l : List Pt} {n m : Int} {s : CSt} {a b : Nat} (h : s.2.2.2 = 0 ∨ cgood l s) (hl : ∀ p ∈ l, p.chk = 0) (ht : askd n m = 0) (ha : a < l.length) (hb : b < l.length) : cgood l (cupd s a b (dst l[a] l[b] n m)) := by
  obtain ⟨x, _, _, d1, d2, d3, d4, d5⟩ := dst_ok (hl _ (List.getElem_mem ha)) (hl _ (List.getElem_mem hb)) ht
  unfold cupd
  split
  · exact ⟨d1, d2, d3, d4, d5, ha, hb⟩
  · rename_i hc
    rcases h with h | h
    · exact absurd (.inl h) hc
    · exact h
theorem cgood_inner {l : List Pt} {n m : Int} {a : Nat} (hl : ∀ p ∈ l, p.chk = 0) (ht : askd n m = 0) (ha : a < l.length) : ∀ {k b : Nat} {s : CSt}, k = l.length - b → (cgood l s ∨ s.2.2.2 = 0 ∧ b < l.length) → cgood l (innerC n m l[a] a (l.drop b) b s) := by
  intro k
  induction k with
  | zero =>
    intro b s hk h
    rw [innerC_ge (by omega)]
    rcases h with h | h
    · exact h
    · omega
  | succ k ih =>
    intro b s hk h
    rw [innerC_lt (by omega)]
    exact ih (by omega) (.inl (cgood_upd (h.elim .inr fun h => .inl h.1) hl ht ha (by omega)))
theorem cgood_outer {l : List Pt} {n m : Int} (hl : ∀ p ∈ l, p.chk = 0) (ht : askd n m = 0) : ∀ {k a : Nat} {s : CSt}, k = l.length - a → (cgood l s ∨ s.2.2.2 = 0 ∧ a + 1 < l.length) → cgood l (outerC n m (l.drop a) a s) := by
  intro k
  induction k with
  | zero =>
    intro a s hk h
    rw [outerC_ge (by omega)]
    rcases h with h | h
    · exact h
    · omega
  | succ k ih =>
    intro a s hk h
    rw [outerC_lt (by omega)]
    exact ih (by omega) (.inl (cgood_inner hl ht (by omega) rfl (h.elim .inl fun h => .inr h)))
theorem pairC_ok {l : List Pt} {n m : Int} (hl : ∀ p ∈ l, p.chk = 0) (ht : askd n m = 0) (h2 : 2 ≤ l.length) : cgood l (pairC l n m) :=
  cgood_outer (a := 0) hl ht rfl (.inr ⟨rfl, by omega⟩)
/-- what 'Closest' gives -/
def closV (l : List Pt) (n m : Int) : Int × Int × Int × Int × Int :=
  if fchk l = 0 then (if askd n m = 0 then (if l.length < 2 then (0, 0, 0, 0, 42) else
    ((l[(pairC l n m).1]?.getD default).id, (l[(pairC l n m).2.1]?.getD default).id, (pairC l n m).2.2.1, (pairC l n m).2.2.2, 0)) else (0, 0, 0, 0, askd n m)) else (0, 0, 0, 0, fchk l)
abbrev retC (x : Int × Int × Int × Int × Int) : DV := .tup [.one (i64 x.1), .one (i64 x.2.1), .agg [i64 x.2.2.1, i64 x.2.2.2.1], .one (i64 x.2.2.2.2)]
end Go.Proofs.Ytmdnpklbdamfpaa
