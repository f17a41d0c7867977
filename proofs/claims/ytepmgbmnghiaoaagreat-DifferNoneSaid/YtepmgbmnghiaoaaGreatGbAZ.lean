import Derived.Test.YtepmgbmnghiaoaaGreatGbAY
import Derived.Test.YtepmgbmnghiaoaaGreatGbAT
set_option linter.all false
namespace Go.Proofs.YtepmgbmnghiaoaaGreat
open Go Go.RowKit Go.Sort Sx
abbrev aks (l : List Ak) : D := .list 7 (l.map Ak.c)
abbrev rps (l : List Rp) : D := .list 6 (l.map Rp.c)
def md0 : Md := ⟨0, 0, []⟩
theorem aks_get {l : List Ak} {i : Nat} (h : i < l.length) : (l.map Ak.c)[((i : Nat) : Int).toNat]? = some [u8 l[i].k, i64 l[i].p.id, i64 l[i].p.a, i64 l[i].p.b, i64 l[i].id, i64 l[i].n, i64 l[i].d] := by
  rw [Int.toNat_natCast, List.getElem?_map, List.getElem?_eq_getElem h]; rfl
theorem rps_get {l : List Rp} {i : Nat} (h : i < l.length) : (l.map Rp.c)[((i : Nat) : Int).toNat]? = some [i64 l[i].e, i64 l[i].i, i64 l[i].j, i64 l[i].n, i64 l[i].d, mts l[i].ms] := by
  rw [Int.toNat_natCast, List.getElem?_map, List.getElem?_eq_getElem h]; rfl
theorem Rp.eq_iff {p q : Rp} : p = q ↔ p.e = q.e ∧ p.i = q.i ∧ p.j = q.j ∧ (p.n = q.n ∧ p.d = q.d) ∧ p.ms = q.ms := by
  cases p; cases q; simp [and_assoc]
theorem wd_rps {l : List Rp} (h : WD (rps l)) : l.length ≤ 9223372036854775807 := by
  obtain ⟨h1, _, h3⟩ := WD_list.1 h
  simpa using h1
theorem wd_aks {l : List Ak} (h : WD (aks l)) : l.length ≤ 9223372036854775807 := by
  obtain ⟨h1, _, h3⟩ := WD_list.1 h
  simpa using h1
abbrev retD (x : Md × Rp × Int) : DV := .tup [x.1.dc, x.2.1.dc, .one (i64 x.2.2)]
theorem oSame_fn (a b : Rp) : FnOK Tryz.prog 72 [a.dc, b.dc] (.c (.one (bol (decide (a = b))))) := by
  have H := eqMt_fn a.ms b.ms
  have e := Rp.eq_iff (p := a) (q := b)
  by_cases c : a.ms = b.ms
  · rw [decide_eq_true c] at H
    simp only [c, and_true] at e
    refine fn_ok (by kernel_rfl) ty_ok Tryz.func72 rfl (fun _ _ => Tryz.call72 _ _) rfl ?_
    intro hw
    clear hw
    repeat' ((conv => whnf); first | (with_reducible first | refine br_t ?_ | refine br_f ?_ | refine za ?_ | refine zg ?_) | refine zp ?_ | refine zq ?_ | (with_reducible first | refine bc (fun h => ?_) (fun h => ?_) | refine zt ?_ | refine zf ?_ | refine br_i (fun h => ?_) (fun h => ?_) | refine xi (pv_bool fun _ => eqv23 _ _ _ _ _ _ _) ?_) | refine zg ?_ | refine zi ?_ | refine zb ?_)
    all_goals conv => whnf
    all_goals
      refine r_bool ?_
      rw [Bool.eq_iff_iff]
      rw [decide_eq_true_eq, e]
      first | (refine iff_of_true rfl ?_; omega) | (refine iff_of_false (by decide) ?_; omega)
  · rw [decide_eq_false c] at H
    simp only [c, and_false, iff_false] at e
    rw [decide_eq_false e]
    refine fn_ok (by kernel_rfl) ty_ok Tryz.func72 rfl (fun _ _ => Tryz.call72 _ _) rfl ?_
    intro hw
    clear hw
    repeat' ((conv => whnf); first | (with_reducible first | refine br_t ?_ | refine br_f ?_ | refine za ?_ | refine zg ?_) | refine zp ?_ | refine zq ?_ | (with_reducible first | refine bc (fun h => ?_) (fun h => ?_) | refine zt ?_ | refine zf ?_ | refine br_i (fun h => ?_) (fun h => ?_) | refine xi (pv_bool fun _ => eqv23 _ _ _ _ _ _ _) ?_) | refine zg ?_ | refine zi ?_ | refine zb ?_)
    all_goals conv => whnf
    all_goals rfl
theorem roSame_fn (a b : Rp) : FnOK Tryz.prog 45 [a.dc, b.dc] (.c (.one (bol (decide (a = b))))) := by
  have H := rmSame_fn a.ms b.ms
  have e := Rp.eq_iff (p := a) (q := b)
  by_cases c : a.ms = b.ms
  · rw [decide_eq_true c] at H
    simp only [c, and_true] at e
    refine fn_ok (by kernel_rfl) ty_ok Tryz.func45 rfl (fun _ _ => Tryz.call45 _ _) rfl ?_
    intro hw
    clear hw
    repeat' ((conv => whnf); first | (with_reducible first | refine br_t ?_ | refine br_f ?_ | refine za ?_ | refine zg ?_) | refine zp ?_ | refine zq ?_ | (with_reducible first | refine bc (fun h => ?_) (fun h => ?_) | refine zt ?_ | refine zf ?_ | refine br_i (fun h => ?_) (fun h => ?_) | refine xi (pv_bool fun _ => eqv23 _ _ _ _ _ _ _) ?_) | refine zg ?_ | refine zi ?_ | refine zb ?_)
    all_goals conv => whnf
    all_goals
      refine r_bool ?_
      rw [Bool.eq_iff_iff]
      rw [decide_eq_true_eq, e]
      first | (refine iff_of_true rfl ?_; omega) | (refine iff_of_false (by decide) ?_; omega)
  · rw [decide_eq_false c] at H
    simp only [c, and_false, iff_false] at e
    rw [decide_eq_false e]
    refine fn_ok (by kernel_rfl) ty_ok Tryz.func45 rfl (fun _ _ => Tryz.call45 _ _) rfl ?_
    intro hw
    clear hw
    repeat' ((conv => whnf); first | (with_reducible first | refine br_t ?_ | refine br_f ?_ | refine za ?_ | refine zg ?_) | refine zp ?_ | refine zq ?_ | (with_reducible first | refine bc (fun h => ?_) (fun h => ?_) | refine zt ?_ | refine zf ?_ | refine br_i (fun h => ?_) (fun h => ?_) | refine xi (pv_bool fun _ => eqv23 _ _ _ _ _ _ _) ?_) | refine zg ?_ | refine zi ?_ | refine zb ?_)
    all_goals conv => whnf
    all_goals rfl
theorem roSameAll_fn (a b : List Rp) : FnOK Tryz.prog 42 [.one (rps a), .one (rps b)] (.c (.one (bol (decide (a = b))))) := by
  refine fn_ok (by kernel_rfl) ty_ok Tryz.func42 rfl (fun _ _ => Tryz.call42 _ _) rfl ?_
  intro hw
  simp only [WDCs, WDC, WDs] at hw
  have w1 := wd_rps hw.1
  have w2 := wd_rps hw.2.1
  clear hw
  by_cases h0 : a.length = b.length
  · repeat' ((conv => whnf); first | (with_reducible first | refine br_t ?_ | refine br_f ?_ | refine za ?_ | refine zg ?_) | rw [List.length_map] | refine zp ?_ | refine zq ?_ | (with_reducible first | refine bc (fun h => ?_) (fun h => ?_) | refine zt ?_ | refine zf ?_ | refine br_i (fun h => ?_) (fun h => ?_)) | refine zg ?_ | refine zi ?_ | refine zb ?_)
    refine loop_J (by kernel_rfl) ty_ok (σ := Nat) (fun i => [(5, sV (.int .i64 i))]) (fun _ => []) (fun i => i ≤ a.length ∧ a.take i = b.take i) (fun i => a.length - i) 0 ⟨by omega, rfl⟩ ?_ ?_
    · (conv => whnf); exact zent
    rintro i ⟨hi, hI⟩
    rcases Nat.lt_or_ge i a.length with hlt | hge
    · have hb : i < b.length := by omega
      have he1 := rps_get hlt
      have he2 := rps_get hb
      have H := roSame_fn a[i] b[i]
      by_cases hc : a[i] = b[i]
      · rw [decide_eq_true hc] at H
        have hn := take_succ_eq hI hlt hb hc
        clear hc
        repeat' ((conv => whnf); first | (with_reducible first | refine br_t ?_ | refine br_f ?_ | refine za ?_ | refine zg ?_) | rw [List.length_map] | refine zp ?_ | refine zq ?_ | (with_reducible first | refine bc (fun h => ?_) (fun h => ?_) | refine zt ?_ | refine zf ?_ | refine br_i (fun h => ?_) (fun h => ?_)) | refine zg ?_ | refine zi ?_ | refine zb ?_)
        all_goals conv => whnf
        refine ⟨i + 1, ⟨by omega, hn⟩, ?_, by omega⟩
        (conv => whnf); exact zent
      · rw [decide_eq_false hc] at H
        rw [decide_eq_false (ne_of_get hlt hb hc)]
        clear hc
        repeat' ((conv => whnf); first | (with_reducible first | refine br_t ?_ | refine br_f ?_ | refine za ?_ | refine zg ?_) | rw [List.length_map] | refine zp ?_ | refine zq ?_ | (with_reducible first | refine bc (fun h => ?_) (fun h => ?_) | refine zt ?_ | refine zf ?_ | refine br_i (fun h => ?_) (fun h => ?_)) | refine zg ?_ | refine zi ?_ | refine zb ?_)
        all_goals conv => whnf
        all_goals rfl
    · rw [decide_eq_true (take_all_eq hI h0 hge)]
      repeat' ((conv => whnf); first | (with_reducible first | refine br_t ?_ | refine br_f ?_ | refine za ?_ | refine zg ?_) | rw [List.length_map] | refine zp ?_ | refine zq ?_ | (with_reducible first | refine bc (fun h => ?_) (fun h => ?_) | refine zt ?_ | refine zf ?_ | refine br_i (fun h => ?_) (fun h => ?_)) | refine zg ?_ | refine zi ?_ | refine zb ?_)
      all_goals conv => whnf
      all_goals rfl
  · rw [decide_eq_false (fun h => h0 (congrArg List.length h))]
    repeat' ((conv => whnf); first | (with_reducible first | refine br_t ?_ | refine br_f ?_ | refine za ?_ | refine zg ?_) | rw [List.length_map] | refine zp ?_ | refine zq ?_ | (with_reducible first | refine bc (fun h => ?_) (fun h => ?_) | refine zt ?_ | refine zf ?_ | refine br_i (fun h => ?_) (fun h => ?_)) | refine zg ?_ | refine zi ?_ | refine zb ?_)
    all_goals conv => whnf
    all_goals rfl
end Go.Proofs.YtepmgbmnghiaoaaGreat

namespace Go.Proofs.YtepmgbmnghiaoaaGreat
open Go Go.RowKit Sx
namespace Sx
def shAsk : Sh := .st (.fc 1 (.int .u8) (.fc 3 shPoint (.fc 1 shInt (.fc 2 shRatio .f0))))
def shAsks : Sh := .sl 7 shAsk
end Sx
theorem fits_ask {ds : List D} (h : Fits shAsk ds) : ∃ a : Ak, ds = a.c := by
  obtain ⟨_, _, rfl, ⟨k, rfl⟩, _, _, rfl, h2, _, _, rfl, ⟨i, rfl⟩, _, _, rfl, h3, rfl⟩ := h
  obtain ⟨p, rfl⟩ := fits_point h2
  obtain ⟨n, d, rfl⟩ := fits_ratio h3
  exact ⟨⟨k, p, i, n, d⟩, rfl⟩
theorem fit_ask {c : DC} (h : FitC shAsk c) : ∃ a : Ak, c = a.dc := by
  obtain ⟨ds, rfl, h⟩ := h
  obtain ⟨a, rfl⟩ := fits_ask h
  exact ⟨a, rfl⟩
theorem fit_asks {c : DC} (h : FitC shAsks c) : ∃ l : List Ak, c = .one (aks l) := by
  obtain ⟨d, rfl, l, e, h2⟩ := h
  injection e with e
  subst e
  obtain ⟨l', rfl⟩ := exists_map (f := Ak.c) fun x hx => fits_ask (h2 x hx)
  exact ⟨l', rfl⟩
end Go.Proofs.YtepmgbmnghiaoaaGreat

namespace Go.Proofs.YtepmgbmnghiaoaaGreat
open Go Go.RowKit Go.Sort Sx
def runs : Md → List Ak → Md × List Rp
  | m, [] => (m, [])
  | m, a :: l => ((runs (askV m a).1 l).1, (askV m a).2 :: (runs (askV m a).1 l).2)
theorem runs_append : ∀ (m : Md) (l r : List Ak), runs m (l ++ r) = ((runs (runs m l).1 r).1, (runs m l).2 ++ (runs (runs m l).1 r).2)
  | m, [], r => rfl
  | m, a :: l, r => by
    simp only [List.cons_append, runs, runs_append (askV m a).1 l r]
theorem runs_snoc (m : Md) (l : List Ak) (a : Ak) : runs m (l ++ [a]) = ((askV (runs m l).1 a).1, (runs m l).2 ++ [(askV (runs m l).1 a).2]) := by
  rw [runs_append]; rfl
theorem runs_len : ∀ (m : Md) (l : List Ak), (runs m l).2.length = l.length
  | _, [] => rfl
  | m, a :: l => by simp only [runs, List.length_cons, runs_len]
theorem runs_succ {m : Md} {l : List Ak} {i : Nat} (h : i < l.length) : runs m (l.take (i + 1)) = ((askV (runs m (l.take i)).1 l[i]).1, (runs m (l.take i)).2 ++ [(askV (runs m (l.take i)).1 l[i]).2]) := by
  rw [List.take_succ_eq_append_getElem h, runs_snoc]
def runV (m : Md) (l : List Ak) : Md × List Rp × Int := if mchk m = 0 then (if 120 < l.length then (md0, [], 4) else ((runs m l).1, (runs m l).2, 0)) else (md0, [], 8)
abbrev retR (x : Md × List Rp × Int) : DV := .tup [x.1.dc, .one (rps x.2.1), .one (i64 x.2.2)]
theorem oRun_fn (m : Md) (l : List Ak) : FnOK Tryz.prog 41 [m.dc, .one (aks l)] (retR (runV m l)) := by
  have H := oCheck_fn m
  unfold runV
  by_cases h : mchk m = 0
  · rw [if_pos h]
    rw [h] at H
    obtain ⟨g1, g2⟩ := mchk_ok h
    obtain ⟨k1, k2, k3⟩ := fchk_ok g2
    have HC := ok_of_own (clonePt_own (m.l.map Pt.c) (by simp; omega))
    by_cases h1 : 120 < l.length
    · rw [if_pos h1]
      refine fn_ok (by kernel_rfl) (ty_okK [9, 48] [] [] []) Tryz.func41 rfl (fun _ _ => Tryz.call41 _ _) rfl ?_
      intro hw
      simp only [WDCs, WDC, WDs] at hw
      have w1 := wd_aks hw.2.1
      clear hw
      repeat' ((conv => whnf); first | (with_reducible first | refine br_t ?_ | refine br_f ?_ | refine za ?_ | refine zg ?_ | refine zo ?_) | rw [List.length_map] | refine zp ?_ | refine zq ?_ | (with_reducible first | refine bc (fun h => ?_) (fun h => ?_) | refine zt ?_ | refine zf ?_ | refine br_i (fun h => ?_) (fun h => ?_)) | refine zg ?_ | refine zi ?_ | refine zb ?_ | refine zl ?_)
      all_goals conv => whnf
      all_goals rfl
    · rw [if_neg h1]
      refine fn_ok (by kernel_rfl) (ty_okK [9, 48] [] [] []) Tryz.func41 rfl (fun _ _ => Tryz.call41 _ _) rfl ?_
      intro hw
      clear hw
      repeat' ((conv => whnf); first | (with_reducible first | refine br_t ?_ | refine br_f ?_ | refine za ?_ | refine zg ?_ | refine zo ?_) | rw [List.length_map] | refine zp ?_ | refine zq ?_ | (with_reducible first | refine bc (fun h => ?_) (fun h => ?_) | refine zt ?_ | refine zf ?_ | refine br_i (fun h => ?_) (fun h => ?_)) | refine zg ?_ | refine zi ?_ | refine zb ?_ | refine zl ?_)
      refine loop_J (by kernel_rfl) (ty_okK [9, 48] [] [] []) (σ := Nat × Md × List Rp) (fun s => [(34, sV (.int .i64 s.1)), (9, .c (.at (.osl 9 0)))]) (fun s => [(8, .own [.d (i64 s.2.1.n), .d (i64 s.2.1.d), .d (pts s.2.1.l)]), (9, .row 6 (s.2.2.map Rp.c) 0)]) (fun s => s.1 ≤ l.length ∧ mchk s.2.1 = 0 ∧ runs m (l.take s.1) = s.2) (fun s => l.length - s.1) (0, m, []) ⟨by omega, h, rfl⟩ ?_ ?_
      · (conv => whnf); exact zent
      rintro ⟨i, u, o⟩ ⟨hi, hu, hI⟩
      dsimp only at hi hu hI
      have hol : (o.map Rp.c).length = o.length := List.length_map ..
      have hoi : o.length = (l.take i).length := by have := runs_len m (l.take i); rw [hI] at this; exact this
      rw [List.length_take] at hoi
      rcases Nat.lt_or_ge i l.length with hlt | hge
      · have hel := aks_get hlt
        have HA := oask_fn hu l[i]
        have hn := runs_succ (m := m) hlt
        have hv := askV_ok hu l[i]
        rw [hI] at hn
        dsimp only at hn
        generalize askV u l[i] = x at *
        obtain ⟨y, r⟩ := x
        dsimp only at hn hv
        simp only [retA] at HA
        have hs : o.map Rp.c ++ [[i64 r.e, i64 r.i, i64 r.j, i64 r.n, i64 r.d, mts r.ms]] = (o ++ [r]).map Rp.c := by rw [List.map_append]; rfl
        generalize l[i] = a at *
        repeat' ((conv => whnf); first | (with_reducible first | refine br_t ?_ | refine br_f ?_ | refine za ?_ | refine zg ?_ | refine zo ?_) | rw [hol] | rw [List.length_map] | refine zp ?_ | refine zq ?_ | (with_reducible first | refine bc (fun h => ?_) (fun h => ?_) | refine zt ?_ | refine zf ?_ | refine br_i (fun h => ?_) (fun h => ?_)) | refine zg ?_ | refine zi ?_ | refine zb ?_ | refine zl ?_)
        all_goals conv => whnf
        refine ⟨(i + 1, y, o ++ [r]), ⟨by omega, hv, hn⟩, ?_, by simp only; omega⟩
        (conv => whnf); refine ⟨by repeat' (first | with_reducible exact zE0 | with_reducible refine zE1 ?_ ?_ | rfl | assumption | ((exact congrArg (fun x => some (Blk.row 6 x 0)) hs)) | exact zi1 | exact zb1), by repeat' (first | with_reducible exact zH0 | with_reducible refine zH1 ?_ ?_ | rfl | assumption | ((exact congrArg (fun x => some (Blk.row 6 x 0)) hs))), rfl⟩
      · obtain rfl : i = l.length := by omega
        rw [List.take_of_length_le (Nat.le_refl _)] at hI
        rw [hI]
        repeat' ((conv => whnf); first | (with_reducible first | refine br_t ?_ | refine br_f ?_ | refine za ?_ | refine zg ?_ | refine zo ?_) | rw [hol] | rw [List.length_map] | refine zp ?_ | refine zq ?_ | (with_reducible first | refine bc (fun h => ?_) (fun h => ?_) | refine zt ?_ | refine zf ?_ | refine br_i (fun h => ?_) (fun h => ?_)) | refine zg ?_ | refine zi ?_ | refine zb ?_ | refine zl ?_)
        all_goals conv => whnf
        all_goals rfl
  · rw [if_neg h]
    have h8 := (mchk_08 m).resolve_left h
    rw [h8] at H
    refine fn_ok (by kernel_rfl) (ty_okK [9, 48] [] [] []) Tryz.func41 rfl (fun _ _ => Tryz.call41 _ _) rfl ?_
    intro hw
    clear hw
    exact zw
end Go.Proofs.YtepmgbmnghiaoaaGreat

namespace Go.Proofs.YtepmgbmnghiaoaaGreat
open Go.RowKit Go.Sort Sx
def errsV (m : Md) (l : List Ak) : List Int := (runs m l).2.map (·.e)
theorem askV_err {m : Md} {a : Ak} (h : (askV m a).2.e ≠ 0) : (askV m a).1 = m := by
  unfold askV at h ⊢
  split
  · rename_i c0
    rw [if_pos c0] at h
    split
    · rename_i c1
      rw [if_pos c1] at h
      split
      · rename_i c; rw [if_pos c] at h; exact absurd rfl h
      · rfl
    · rename_i c1
      rw [if_neg c1] at h
      split
      · rename_i c2
        rw [if_pos c2] at h
        split
        · rename_i c; rw [if_pos c] at h; exact absurd rfl h
        · rfl
      · rename_i c2
        rw [if_neg c2] at h
        split
        · rename_i c3
          rw [if_pos c3] at h
          split
          · rename_i c; rw [if_pos c] at h; exact absurd rfl h
          · rfl
        · rename_i c3
          rw [if_neg c3] at h
          split
          · rename_i c4
            rw [if_pos c4] at h
            split
            · rename_i c5
              rw [if_pos c5] at h
              split
              · rfl
              · rename_i c; rw [if_neg c] at h; exact absurd rfl h
            · rfl
          · split
            · split <;> rfl
            · rfl
  · rfl
def kept : Md → List Ak → List Ak
  | _, [] => []
  | m, a :: l => if (askV m a).2.e = 0 then a :: kept (askV m a).1 l else kept (askV m a).1 l
theorem errs_cons (m : Md) (a : Ak) (l : List Ak) : errsV m (a :: l) = (askV m a).2.e :: errsV (askV m a).1 l := rfl
theorem errs_len (m : Md) (l : List Ak) : (errsV m l).length = l.length := by unfold errsV; rw [List.length_map, runs_len]
def keepE : List Ak → List Int → List Ak
  | a :: l, e :: es => if e = 0 then a :: keepE l es else keepE l es
  | _, _ => []
theorem keepE_kept : ∀ (m : Md) (l : List Ak), keepE l (errsV m l) = kept m l
  | _, [] => rfl
  | m, a :: l => by rw [errs_cons, keepE, kept, keepE_kept]
theorem keepE_lt {l : List Ak} {es : List Int} {i : Nat} (h1 : i < l.length) (h2 : i < es.length) : keepE (l.drop i) (es.drop i) = (if es[i] = 0 then [l[i]] else []) ++ keepE (l.drop (i + 1)) (es.drop (i + 1)) := by
  rw [List.drop_eq_getElem_cons h1, List.drop_eq_getElem_cons h2, keepE]
  split <;> rfl
theorem keepE_ge {l : List Ak} {es : List Int} {i : Nat} (h1 : l.length ≤ i) : keepE (l.drop i) (es.drop i) = [] := by
  rw [List.drop_of_length_le h1]; simp [keepE]
def fst0 : List Int → Option Nat
  | [] => none
  | e :: l => if e = 0 then (fst0 l).map (· + 1) else some 0
def firstE (l : List Int) : Int × Int := match fst0 l with | none => (0, 6) | some i => ((i : Int), 0)
theorem fst0_none {l : List Int} : fst0 l = none ↔ ∀ e ∈ l, e = 0 := by
  induction l with
  | nil => simp [fst0]
  | cons e l ih =>
    rw [fst0]
    by_cases h : e = 0
    · rw [if_pos h, Option.map_eq_none_iff, ih]; simp [h]
    · rw [if_neg h]; simp [h]
theorem fst0_some {l : List Int} {i : Nat} : fst0 l = some i ↔ ∃ h : i < l.length, l[i] ≠ 0 ∧ ∀ j (hj : j < l.length), j < i → l[j] = 0 := by
  induction l generalizing i with
  | nil => simp [fst0]
  | cons e l ih =>
    rw [fst0]
    by_cases h : e = 0
    · rw [if_pos h, Option.map_eq_some_iff]
      constructor
      · rintro ⟨k, hk, rfl⟩
        obtain ⟨h1, h2, h3⟩ := ih.1 hk
        refine ⟨by simpa using h1, by simpa using h2, fun j hj hlt => ?_⟩
        cases j with
        | zero => exact h
        | succ j => exact h3 j (by simpa using hj) (by omega)
      · rintro ⟨h1, h2, h3⟩
        cases i with
        | zero => exact absurd h h2
        | succ i => exact ⟨i, ih.2 ⟨by simpa using h1, by simpa using h2, fun j hj hlt => h3 (j + 1) (by simpa using hj) (by omega)⟩, rfl⟩
    · rw [if_neg h]
      constructor
      · intro e'
        injection e' with e'
        subst e'
        exact ⟨by simp, h, fun j _ hj => by omega⟩
      · rintro ⟨h1, h2, h3⟩
        cases i with
        | zero => rfl
        | succ i => exact absurd (h3 0 (by simp) (by omega)) h
def errV (m : Md) (a : Ak) : Int × Int := if mchk m = 0 then ((askV m a).2.e, 0) else (0, 8)
def errorsV (m : Md) (l : List Ak) : List Int × Int := if mchk m = 0 then (if 120 < l.length then ([], 4) else (errsV m l, 0)) else ([], 8)
def ofirstV (m : Md) (l : List Ak) : Int × Int := if mchk m = 0 then (if 120 < l.length then (0, 4) else firstE (errsV m l)) else (0, 8)
def keptV (m : Md) (l : List Ak) : List Ak × Int := if mchk m = 0 then (if 120 < l.length then ([], 4) else (kept m l, 0)) else ([], 8)
end Go.Proofs.YtepmgbmnghiaoaaGreat

namespace Go.Proofs.YtepmgbmnghiaoaaGreat
open Go.RowKit Go.Sort Sx
theorem eqPt_fn (a b : List Pt) : FnOK Tryz.prog 85 [.one (pts a), .one (pts b)] (.c (.one (bol (decide (a = b))))) := by
  refine fn_ok (by kernel_rfl) ty_ok Tryz.func85 rfl (fun _ _ => Tryz.call85 _ _) rfl ?_
  intro hw
  simp only [WDCs, WDC, WDs] at hw
  obtain ⟨w1, _⟩ := wd_pts hw.1
  obtain ⟨w2, _⟩ := wd_pts hw.2.1
  clear hw
  by_cases h0 : a.length = b.length
  · repeat' ((conv => whnf); first | (with_reducible first | refine br_t ?_ | refine br_f ?_ | refine za ?_ | refine zg ?_) | rw [List.length_map] | refine zp ?_ | refine zq ?_ | (with_reducible first | refine bc (fun h => ?_) (fun h => ?_) | refine zt ?_ | refine zf ?_ | refine br_i (fun h => ?_) (fun h => ?_) | refine xi (pv_bool fun _ => nev30 _ _ _ _ _ _ _ _ _) ?_) | refine zg ?_ | refine zi ?_ | refine zb ?_)
    refine loop_J (by kernel_rfl) ty_ok (σ := Nat) (fun i => [(13, sV (.int .i64 i))]) (fun _ => []) (fun i => i ≤ a.length ∧ a.take i = b.take i) (fun i => a.length - i) 0 ⟨by omega, rfl⟩ ?_ ?_
    · (conv => whnf); exact zent
    rintro i ⟨hi, hI⟩
    rcases Nat.lt_or_ge i a.length with hlt | hge
    · have hb : i < b.length := by omega
      have he1 := pts_get hlt
      have he2 := pts_get hb
      by_cases hc : a[i] = b[i]
      · have hq := Pt.eq_iff.1 hc
        repeat' ((conv => whnf); first | (with_reducible first | refine br_t ?_ | refine br_f ?_ | refine za ?_ | refine zg ?_) | rw [List.length_map] | refine zp ?_ | refine zq ?_ | (with_reducible first | refine bc (fun h => ?_) (fun h => ?_) | refine zt ?_ | refine zf ?_ | refine br_i (fun h => ?_) (fun h => ?_) | refine xi (pv_bool fun _ => nev30 _ _ _ _ _ _ _ _ _) ?_) | refine zg ?_ | refine zi ?_ | refine zb ?_)
        all_goals conv => whnf
        refine ⟨i + 1, ⟨by omega, take_succ_eq hI hlt hb hc⟩, ?_, by omega⟩
        (conv => whnf); exact zent
      · have hq := mt Pt.eq_iff.2 hc
        rw [decide_eq_false (ne_of_get hlt hb hc)]
        repeat' ((conv => whnf); first | (with_reducible first | refine br_t ?_ | refine br_f ?_ | refine za ?_ | refine zg ?_) | rw [List.length_map] | refine zp ?_ | refine zq ?_ | (with_reducible first | refine bc (fun h => ?_) (fun h => ?_) | refine zt ?_ | refine zf ?_ | refine br_i (fun h => ?_) (fun h => ?_) | refine xi (pv_bool fun _ => nev30 _ _ _ _ _ _ _ _ _) ?_) | refine zg ?_ | refine zi ?_ | refine zb ?_)
        all_goals conv => whnf
        all_goals rfl
    · rw [decide_eq_true (take_all_eq hI h0 hge)]
      repeat' ((conv => whnf); first | (with_reducible first | refine br_t ?_ | refine br_f ?_ | refine za ?_ | refine zg ?_) | rw [List.length_map] | refine zp ?_ | refine zq ?_ | (with_reducible first | refine bc (fun h => ?_) (fun h => ?_) | refine zt ?_ | refine zf ?_ | refine br_i (fun h => ?_) (fun h => ?_) | refine xi (pv_bool fun _ => nev30 _ _ _ _ _ _ _ _ _) ?_) | refine zg ?_ | refine zi ?_ | refine zb ?_)
      all_goals conv => whnf
      all_goals rfl
  · rw [decide_eq_false (fun h => h0 (congrArg List.length h))]
    repeat' ((conv => whnf); first | (with_reducible first | refine br_t ?_ | refine br_f ?_ | refine za ?_ | refine zg ?_) | rw [List.length_map] | refine zp ?_ | refine zq ?_ | (with_reducible first | refine bc (fun h => ?_) (fun h => ?_) | refine zt ?_ | refine zf ?_ | refine br_i (fun h => ?_) (fun h => ?_) | refine xi (pv_bool fun _ => nev30 _ _ _ _ _ _ _ _ _) ?_) | refine zg ?_ | refine zi ?_ | refine zb ?_)
    all_goals conv => whnf
    all_goals rfl
structure Pa where
  n : Int
  d : Int
  ms : List Md
  deriving DecidableEq, Inhabited
abbrev mos (l : List Md) : D := .list 3 (l.map Md.c)
abbrev Pa.dc (p : Pa) : DC := .agg [i64 p.n, i64 p.d, mos p.ms]
theorem askd_ok' {n d : Int} (h : askd n d = 0) : chk n d = 0 ∧ -1073741824 ≤ n ∧ n ≤ 1073741824 ∧ 1 ≤ d ∧ d ≤ 1024 := by
  unfold askd at h
  split at h
  · rename_i h1; exact absurd h h1
  · rename_i h1
    have h1 : chk n d = 0 := by omega
    have := (chk_iff n d).1 h1
    split at h
    · omega
    · exact ⟨h1, by omega⟩
theorem cmpN_cases (a b : Int) : (a < b ∧ cmpN a b = -1) ∨ (a = b ∧ cmpN a b = 0) ∨ (b < a ∧ cmpN a b = 1) := by
  unfold cmpN
  split
  · exact .inl ⟨by assumption, rfl⟩
  · split
    · exact .inr (.inr ⟨by omega, rfl⟩)
    · exact .inr (.inl ⟨by omega, rfl⟩)
theorem cmp_chk {p q r t : Int} (h1 : chk p q = 0) (h2 : chk r t = 0) : FnOK Tryz.prog 86 (rat2 p q r t) (.tup [.one (i64 (cmpN (p * t) (r * q))), .one (i64 0)]) := by
  have := cmp_fn p q r t
  unfold cmpV bth at this
  rw [if_pos (by rw [h1, if_pos rfl, h2])] at this
  exact this
theorem askd_chk {n d : Int} (h : askd n d = 0) : chk n d = 0 := (askd_ok' h).1
end Go.Proofs.YtepmgbmnghiaoaaGreat

namespace Go.Proofs.YtepmgbmnghiaoaaGreat
open Go Go.RowKit Go.Sort Sx
theorem qformed_fn (a : Ak) : FnOK Tryz.prog 95 [a.dc] (.c (.one (bol (formV a)))) := by
  unfold formV
  refine fn_ok (by kernel_rfl) ty_ok Tryz.func95 rfl (fun _ _ => Tryz.call95 _ _) rfl ?_
  intro hw
  clear hw
  repeat' ((conv => whnf); first | (with_reducible first | refine br_t ?_ | refine br_f ?_ | refine za ?_ | refine zg ?_) | refine zp ?_ | refine zq ?_ | (with_reducible first | refine bc (fun h => ?_) (fun h => ?_) | refine zt ?_ | refine zf ?_ | refine br_i (fun h => ?_) (fun h => ?_) | refine xi (pv_bool fun _ => eqv32 _ _ _ _ _ _ _ _ _ _ _ _ _ _ _ _ _) ?_) | refine zg ?_ | refine zi ?_ | refine zb ?_)
  all_goals conv => whnf
  all_goals
    refine r_bool ?_
    rw [Bool.eq_iff_iff]
    simp only [Bool.and_eq_true, beq_iff_eq, decide_eq_true_eq, Bool.false_eq_true, true_and, and_true, false_iff]
    omega
theorem qthere1_fn (p : Pt) (id : Int) : FnOK Tryz.prog 132 [p.dc, .one (.ref [i64 id])] (.c (.one (bol (p.id == id)))) := by
  refine fn_ok (by kernel_rfl) ty_ok Tryz.func132 rfl (fun _ _ => Tryz.call132 _ _) rfl ?_
  intro hw
  clear hw
  repeat' ((conv => whnf); first | (with_reducible first | refine br_t ?_ | refine br_f ?_ | refine za ?_ | refine zg ?_) | refine ⟨_, ⟨rfl, Nat.le_of_ble_eq_true rfl⟩, ?_⟩ | refine zp ?_ | refine zq ?_ | (with_reducible first | refine bc (fun h => ?_) (fun h => ?_) | refine zt ?_ | refine zf ?_ | refine br_i (fun h => ?_) (fun h => ?_)) | refine zg ?_ | refine zi ?_ | refine zb ?_)
  all_goals conv => whnf
  all_goals rfl
theorem ixPt_fn (l : List Pt) (id : Int) (hl : l.length ≤ 1000000) : FnOK Tryz.prog 160 [.one (pts l), .one (.clo 132 [[i64 id]])] (ret1 (at1 l id 0)) := by
  refine fn_ok (by kernel_rfl) ty_ok Tryz.func160 rfl (fun _ _ => Tryz.call160 _ _) rfl ?_
  intro hw
  clear hw
  repeat' ((conv => whnf); first | (with_reducible first | refine br_t ?_ | refine br_f ?_ | refine za ?_ | refine zg ?_) | rw [List.length_map] | refine zp ?_ | refine zq ?_ | (with_reducible first | refine bc (fun h => ?_) (fun h => ?_) | refine zt ?_ | refine zf ?_ | refine br_i (fun h => ?_) (fun h => ?_)) | refine zg ?_ | refine zi ?_ | refine zb ?_)
  refine loop_J (by kernel_rfl) ty_ok (σ := Nat) (fun i => [(8, sV (.int .i64 i))]) (fun _ => []) (fun i => i ≤ l.length ∧ ∀ k (h : k < l.length), k < i → l[k].id ≠ id) (fun i => l.length - i) 0 ⟨by omega, fun k _ h => absurd h (Nat.not_lt_zero _)⟩ ?_ ?_
  · (conv => whnf); exact zent
  rintro i ⟨hi, hI⟩
  rcases Nat.lt_or_ge i l.length with hlt | hge
  · have hel := pts_get hlt
    have HC := qthere1_fn l[i] id
    by_cases hc : l[i].id = id
    · have e : at1 l id 0 = i := by rw [at1_drop rfl hi hI, List.drop_eq_getElem_cons hlt, at1, if_pos hc]
      rw [e]
      rw [show (l[i].id == id) = true by simp [hc]] at HC
      repeat' ((conv => whnf); first | (with_reducible first | refine br_t ?_ | refine br_f ?_ | refine za ?_ | refine zg ?_) | rw [List.length_map] | refine zp ?_ | refine zq ?_ | (with_reducible first | refine bc (fun h => ?_) (fun h => ?_) | refine zt ?_ | refine zf ?_ | refine br_i (fun h => ?_) (fun h => ?_)) | refine zg ?_ | refine zi ?_ | refine zb ?_)
      all_goals conv => whnf
      all_goals rfl
    · rw [show (l[i].id == id) = false by simp [hc]] at HC
      repeat' ((conv => whnf); first | (with_reducible first | refine br_t ?_ | refine br_f ?_ | refine za ?_ | refine zg ?_) | rw [List.length_map] | refine zp ?_ | refine zq ?_ | (with_reducible first | refine bc (fun h => ?_) (fun h => ?_) | refine zt ?_ | refine zf ?_ | refine br_i (fun h => ?_) (fun h => ?_)) | refine zg ?_ | refine zi ?_ | refine zb ?_)
      all_goals conv => whnf
      refine ⟨i + 1, ⟨by omega, fun k hk hki => ?_⟩, ?_, by omega⟩
      · rcases Nat.lt_or_ge k i with h1 | h1
        · exact hI k hk h1
        · have : k = i := by omega
          subst this; exact hc
      · (conv => whnf); exact zent
  · have e : at1 l id 0 = -1 := by rw [at1_drop rfl hi hI, List.drop_eq_nil_of_le hge, at1]
    rw [e]
    repeat' ((conv => whnf); first | (with_reducible first | refine br_t ?_ | refine br_f ?_ | refine za ?_ | refine zg ?_) | rw [List.length_map] | refine zp ?_ | refine zq ?_ | (with_reducible first | refine bc (fun h => ?_) (fun h => ?_) | refine zt ?_ | refine zf ?_ | refine br_i (fun h => ?_) (fun h => ?_)) | refine zg ?_ | refine zi ?_ | refine zb ?_)
    all_goals conv => whnf
    all_goals rfl
theorem ctPt_fn {l : List Pt} (id : Int) (hs : incr l = true) (hl : l.length ≤ 1000000) : FnOK Tryz.prog 131 [.one (pts l), .one (.clo 132 [[i64 id]])] (.c (.one (bol (has l id)))) := by
  have H := ixPt_fn l id hl
  rw [at1_has hs] at H
  cases hh : has l id
  · rw [hh, if_neg (by decide)] at H
    refine fn_ok (by kernel_rfl) ty_ok Tryz.func131 rfl (fun _ _ => Tryz.call131 _ _) rfl ?_
    intro hw
    clear hw
    exact zw
  · rw [hh, if_pos rfl] at H
    refine fn_ok (by kernel_rfl) ty_ok Tryz.func131 rfl (fun _ _ => Tryz.call131 _ _) rfl ?_
    intro hw
    clear hw
    exact zwb
theorem qthere_fn {l : List Pt} (id : Int) (hs : incr l = true) (hl : l.length ≤ 1000000) : FnOK Tryz.prog 97 [fld l, .one (i64 id)] (.c (.one (bol (has l id)))) := by
  have H := ctPt_fn id hs hl
  generalize has l id = h at *
  refine fn_ok (by kernel_rfl) ty_ok Tryz.func97 rfl (fun _ _ => Tryz.call97 _ _) rfl ?_
  intro hw
  clear hw
  repeat' ((conv => whnf); first | (with_reducible first | refine br_t ?_ | refine br_f ?_ | refine za ?_ | refine zg ?_) | refine zb ?_ | refine zp ?_ | refine zq ?_ | (with_reducible first | refine bc (fun h => ?_) (fun h => ?_) | refine zt ?_ | refine zf ?_ | refine br_i (fun h => ?_) (fun h => ?_)) | refine zg ?_ | refine zi ?_ | refine zb ?_)
  all_goals conv => whnf
  all_goals rfl
def lateV (n d r t : Int) : Int := if askd r t = 0 then (if r * d ≤ n * t then 44 else 0) else askd r t
theorem qlate_fn {n d : Int} (hn : askd n d = 0) (r t : Int) : FnOK Tryz.prog 96 [rat n d, rat r t] (ret1 (lateV n d r t)) := by
  have H1 := asked_fn r t
  unfold lateV
  by_cases h1 : askd r t = 0
  · rw [if_pos h1]
    rw [h1] at H1
    have H2 := cmp_chk (askd_chk h1) (askd_chk hn)
    by_cases h2 : r * d ≤ n * t
    · rw [if_pos h2]
      have h3 : cmpN (r * d) (n * t) ≤ 0 := by unfold cmpN; (repeat' split) <;> omega
      generalize cmpN (r * d) (n * t) = z at *
      refine fn_ok (by kernel_rfl) ty_ok Tryz.func96 rfl (fun _ _ => Tryz.call96 _ _) rfl ?_
      intro hw
      clear hw
      exact zw
    · rw [if_neg h2]
      have h3 : ¬ cmpN (r * d) (n * t) ≤ 0 := by unfold cmpN; (repeat' split) <;> omega
      generalize cmpN (r * d) (n * t) = z at *
      refine fn_ok (by kernel_rfl) ty_ok Tryz.func96 rfl (fun _ _ => Tryz.call96 _ _) rfl ?_
      intro hw
      clear hw
      exact zw
  · rw [if_neg h1]
    generalize askd r t = z at *
    refine fn_ok (by kernel_rfl) ty_ok Tryz.func96 rfl (fun _ _ => Tryz.call96 _ _) rfl ?_
    intro hw
    clear hw
    exact zw
theorem qwrong_fn {m : Md} (hm : mchk m = 0) (a : Ak) : FnOK Tryz.prog 62 [m.dc, a.dc] (ret1 (askV m a).2.e) := by
  obtain ⟨g1, g2⟩ := mchk_ok hm
  obtain ⟨k1, k2, k3⟩ := fchk_ok g2
  have hlen : (m.l.map Pt.c).length = m.l.length := List.length_map ..
  have H0 := qformed_fn a
  have hk : formV a = true → a.k = 1 ∨ a.k = 2 ∨ a.k = 3 ∨ a.k = 4 ∨ a.k = 5 ∨ a.k = 6 := fun h => by
    unfold formV at h
    have := of_decide_eq_true h
    omega
  unfold askV
  cases hf : formV a
  · rw [hf] at H0
    rw [if_neg (by decide)]
    refine fn_ok (by kernel_rfl) ty_ok Tryz.func62 rfl (fun _ _ => Tryz.call62 _ _) rfl ?_
    intro hw
    clear hw
    exact zw
  · rw [hf] at H0
    rw [if_pos rfl]
    rcases hk hf with h | h | h | h | h | h
    · rw [if_pos h]
      have H1 := kCheck_fn a.p.id a.p.a a.p.b
      have H2 := qthere_fn a.p.id k3 (by omega)
      by_cases h2 : a.p.chk = 0
      · have h2' := h2
        unfold Pt.chk at h2'
        rw [h2'] at H1
        cases hh : has m.l a.p.id
        · rw [hh] at H2
          by_cases h64 : m.l.length = 64
          · have e : putV m.l a.p = ([], 18) := by unfold putV; rw [if_pos g2, if_pos h2, if_neg (by rw [hh]; decide), if_pos h64]
            rw [e, if_neg (by decide)]
            refine fn_ok (by kernel_rfl) ty_ok Tryz.func62 rfl (fun _ _ => Tryz.call62 _ _) rfl ?_
            intro hw
            clear hw
            repeat' ((conv => whnf); first | (with_reducible first | refine br_t ?_ | refine br_f ?_ | refine za ?_ | refine zg ?_) | rw [hlen] | refine zp ?_ | refine zq ?_ | (with_reducible first | refine bc (fun h => ?_) (fun h => ?_) | refine zt ?_ | refine zf ?_ | refine br_i (fun h => ?_) (fun h => ?_)) | refine zg ?_ | refine zi ?_ | refine zb ?_)
            all_goals conv => whnf
            all_goals rfl
          · have e : putV m.l a.p = (insP m.l a.p, 0) := by unfold putV; rw [if_pos g2, if_pos h2, if_neg (by rw [hh]; decide), if_neg h64]
            rw [e, if_pos rfl]
            refine fn_ok (by kernel_rfl) ty_ok Tryz.func62 rfl (fun _ _ => Tryz.call62 _ _) rfl ?_
            intro hw
            clear hw
            repeat' ((conv => whnf); first | (with_reducible first | refine br_t ?_ | refine br_f ?_ | refine za ?_ | refine zg ?_) | rw [hlen] | refine zp ?_ | refine zq ?_ | (with_reducible first | refine bc (fun h => ?_) (fun h => ?_) | refine zt ?_ | refine zf ?_ | refine br_i (fun h => ?_) (fun h => ?_)) | refine zg ?_ | refine zi ?_ | refine zb ?_)
            all_goals conv => whnf
            all_goals rfl
        · rw [hh] at H2
          have e : putV m.l a.p = ([], 14) := by unfold putV; rw [if_pos g2, if_pos h2, if_pos hh]
          rw [e, if_neg (by decide)]
          refine fn_ok (by kernel_rfl) ty_ok Tryz.func62 rfl (fun _ _ => Tryz.call62 _ _) rfl ?_
          intro hw
          clear hw
          repeat' ((conv => whnf); first | (with_reducible first | refine br_t ?_ | refine br_f ?_ | refine za ?_ | refine zg ?_) | rw [hlen] | refine zp ?_ | refine zq ?_ | (with_reducible first | refine bc (fun h => ?_) (fun h => ?_) | refine zt ?_ | refine zf ?_ | refine br_i (fun h => ?_) (fun h => ?_)) | refine zg ?_ | refine zi ?_ | refine zb ?_)
          all_goals conv => whnf
          all_goals rfl
      · have e : putV m.l a.p = ([], 8) := by unfold putV; rw [if_pos g2, if_neg h2]
        rw [e, if_neg (by decide)]
        have h8 : cpt a.p.id a.p.a a.p.b = 8 := (cpt_08 _ _ _).resolve_left h2
        rw [h8] at H1
        clear H2
        refine fn_ok (by kernel_rfl) ty_ok Tryz.func62 rfl (fun _ _ => Tryz.call62 _ _) rfl ?_
        intro hw
        clear hw
        exact zw
    · rw [if_neg (by omega), if_pos h]
      have H2 := qthere_fn a.id k3 (by omega)
      cases hh : has m.l a.id
      · rw [hh] at H2
        have e : takeV m.l a.id = ([], 6) := by unfold takeV; rw [if_pos g2, if_neg (by rw [hh]; decide)]
        rw [e, if_neg (by decide)]
        refine fn_ok (by kernel_rfl) ty_ok Tryz.func62 rfl (fun _ _ => Tryz.call62 _ _) rfl ?_
        intro hw
        clear hw
        exact zw
      · rw [hh] at H2
        have e : takeV m.l a.id = (without m.l a.id, 0) := by unfold takeV; rw [if_pos g2, if_pos hh]
        rw [e, if_pos rfl]
        refine fn_ok (by kernel_rfl) ty_ok Tryz.func62 rfl (fun _ _ => Tryz.call62 _ _) rfl ?_
        intro hw
        clear hw
        exact zw
    · rw [if_neg (by omega), if_neg (by omega), if_pos h]
      have H1 := kCheck_fn a.p.id a.p.a a.p.b
      have H2 := qthere_fn a.p.id k3 (by omega)
      by_cases h2 : a.p.chk = 0
      · have h2' := h2
        unfold Pt.chk at h2'
        rw [h2'] at H1
        cases hh : has m.l a.p.id
        · rw [hh] at H2
          have e : changeV m.l a.p = ([], 6) := by unfold changeV; rw [if_pos g2, if_pos h2, if_neg (by rw [hh]; decide)]
          rw [e, if_neg (by decide)]
          refine fn_ok (by kernel_rfl) ty_ok Tryz.func62 rfl (fun _ _ => Tryz.call62 _ _) rfl ?_
          intro hw
          clear hw
          repeat' ((conv => whnf); first | (with_reducible first | refine br_t ?_ | refine br_f ?_ | refine za ?_ | refine zg ?_) | rw [hlen] | refine zp ?_ | refine zq ?_ | (with_reducible first | refine bc (fun h => ?_) (fun h => ?_) | refine zt ?_ | refine zf ?_ | refine br_i (fun h => ?_) (fun h => ?_)) | refine zg ?_ | refine zi ?_ | refine zb ?_)
          all_goals conv => whnf
          all_goals rfl
        · rw [hh] at H2
          have e : changeV m.l a.p = (m.l.set (pos m.l a.p.id) a.p, 0) := by unfold changeV; rw [if_pos g2, if_pos h2, if_pos hh]
          rw [e, if_pos rfl]
          refine fn_ok (by kernel_rfl) ty_ok Tryz.func62 rfl (fun _ _ => Tryz.call62 _ _) rfl ?_
          intro hw
          clear hw
          repeat' ((conv => whnf); first | (with_reducible first | refine br_t ?_ | refine br_f ?_ | refine za ?_ | refine zg ?_) | rw [hlen] | refine zp ?_ | refine zq ?_ | (with_reducible first | refine bc (fun h => ?_) (fun h => ?_) | refine zt ?_ | refine zf ?_ | refine br_i (fun h => ?_) (fun h => ?_)) | refine zg ?_ | refine zi ?_ | refine zb ?_)
          all_goals conv => whnf
          all_goals rfl
      · have e : changeV m.l a.p = ([], 8) := by unfold changeV; rw [if_pos g2, if_neg h2]
        rw [e, if_neg (by decide)]
        have h8 : cpt a.p.id a.p.a a.p.b = 8 := (cpt_08 _ _ _).resolve_left h2
        rw [h8] at H1
        clear H2
        refine fn_ok (by kernel_rfl) ty_ok Tryz.func62 rfl (fun _ _ => Tryz.call62 _ _) rfl ?_
        intro hw
        clear hw
        exact zw
    · rw [if_neg (by omega), if_neg (by omega), if_neg (by omega), if_pos h]
      have H1 := qlate_fn g1 a.n a.d
      have e : (if askd a.n a.d = 0 then (if a.n * m.d ≤ m.n * a.d then (m, rpE 44) else (⟨a.n, a.d, m.l⟩, ⟨0, 0, 0, 0, 0, btw (allM m.l) m.n m.d a.n a.d⟩)) else (m, rpE (askd a.n a.d)) : Md × Rp).2.e = lateV m.n m.d a.n a.d := by
        unfold lateV
        split
        · split <;> rfl
        · rfl
      rw [e]
      generalize lateV m.n m.d a.n a.d = z at *
      refine fn_ok (by kernel_rfl) ty_ok Tryz.func62 rfl (fun _ _ => Tryz.call62 _ _) rfl ?_
      intro hw
      clear hw
      exact zw
    · rw [if_neg (by omega), if_neg (by omega), if_neg (by omega), if_neg (by omega), if_pos h]
      by_cases h1 : m.l.length = 0
      · rw [if_pos h1]
        refine fn_ok (by kernel_rfl) ty_ok Tryz.func62 rfl (fun _ _ => Tryz.call62 _ _) rfl ?_
        intro hw
        clear hw
        repeat' ((conv => whnf); first | (with_reducible first | refine br_t ?_ | refine br_f ?_ | refine za ?_ | refine zg ?_) | rw [hlen] | refine zp ?_ | refine zq ?_ | (with_reducible first | refine bc (fun h => ?_) (fun h => ?_) | refine zt ?_ | refine zf ?_ | refine br_i (fun h => ?_) (fun h => ?_)) | refine zg ?_ | refine zi ?_ | refine zb ?_)
        all_goals conv => whnf
        all_goals rfl
      · rw [if_neg h1]
        refine fn_ok (by kernel_rfl) ty_ok Tryz.func62 rfl (fun _ _ => Tryz.call62 _ _) rfl ?_
        intro hw
        clear hw
        repeat' ((conv => whnf); first | (with_reducible first | refine br_t ?_ | refine br_f ?_ | refine za ?_ | refine zg ?_) | rw [hlen] | refine zp ?_ | refine zq ?_ | (with_reducible first | refine bc (fun h => ?_) (fun h => ?_) | refine zt ?_ | refine zf ?_ | refine br_i (fun h => ?_) (fun h => ?_)) | refine zg ?_ | refine zi ?_ | refine zb ?_)
        all_goals conv => whnf
        all_goals rfl
    · rw [if_neg (by omega), if_neg (by omega), if_neg (by omega), if_neg (by omega), if_neg (by omega)]
      unfold closV
      rw [if_pos g2, if_pos g1]
      by_cases h1 : m.l.length < 2
      · rw [if_pos h1]
        refine fn_ok (by kernel_rfl) ty_ok Tryz.func62 rfl (fun _ _ => Tryz.call62 _ _) rfl ?_
        intro hw
        clear hw
        repeat' ((conv => whnf); first | (with_reducible first | refine br_t ?_ | refine br_f ?_ | refine za ?_ | refine zg ?_) | rw [hlen] | refine zp ?_ | refine zq ?_ | (with_reducible first | refine bc (fun h => ?_) (fun h => ?_) | refine zt ?_ | refine zf ?_ | refine br_i (fun h => ?_) (fun h => ?_)) | refine zg ?_ | refine zi ?_ | refine zb ?_)
        all_goals conv => whnf
        all_goals rfl
      · rw [if_neg h1]
        refine fn_ok (by kernel_rfl) ty_ok Tryz.func62 rfl (fun _ _ => Tryz.call62 _ _) rfl ?_
        intro hw
        clear hw
        repeat' ((conv => whnf); first | (with_reducible first | refine br_t ?_ | refine br_f ?_ | refine za ?_ | refine zg ?_) | rw [hlen] | refine zp ?_ | refine zq ?_ | (with_reducible first | refine bc (fun h => ?_) (fun h => ?_) | refine zt ?_ | refine zf ?_ | refine br_i (fun h => ?_) (fun h => ?_)) | refine zg ?_ | refine zi ?_ | refine zb ?_)
        all_goals conv => whnf
        all_goals rfl
theorem qthen_fn {m : Md} (hm : mchk m = 0) {a : Ak} (h : (askV m a).2.e = 0) : FnOK Tryz.prog 65 [m.dc, a.dc] (.tup [(askV m a).1.dc, .one (i64 0)]) := by
  obtain ⟨g1, g2⟩ := mchk_ok hm
  have hk : formV a = true → a.k = 1 ∨ a.k = 2 ∨ a.k = 3 ∨ a.k = 4 ∨ a.k = 5 ∨ a.k = 6 := fun h => by
    unfold formV at h
    have := of_decide_eq_true h
    omega
  unfold askV at h ⊢
  by_cases hf : formV a = true
  · rw [if_pos hf] at h ⊢
    rcases hk hf with k | k | k | k | k | k
    · rw [if_pos k] at h ⊢
      have H := fPut_fn m.l a.p
      simp only [retFl] at H
      by_cases h0 : (putV m.l a.p).2 = 0
      · rw [if_pos h0]
        rw [h0] at H
        generalize (putV m.l a.p).1 = f at *
        refine fn_ok (by kernel_rfl) ty_ok Tryz.func65 rfl (fun _ _ => Tryz.call65 _ _) rfl ?_
        intro hw
        clear hw
        exact zw
      · rw [if_neg h0] at h; exact absurd h h0
    · rw [if_neg (by omega), if_pos k] at h ⊢
      have H := fTake_fn m.l a.id
      simp only [retFl] at H
      by_cases h0 : (takeV m.l a.id).2 = 0
      · rw [if_pos h0]
        rw [h0] at H
        generalize (takeV m.l a.id).1 = f at *
        refine fn_ok (by kernel_rfl) ty_ok Tryz.func65 rfl (fun _ _ => Tryz.call65 _ _) rfl ?_
        intro hw
        clear hw
        exact zw
      · rw [if_neg h0] at h; exact absurd h h0
    · rw [if_neg (by omega), if_neg (by omega), if_pos k] at h ⊢
      have H := fChange_fn m.l a.p
      simp only [retFl] at H
      by_cases h0 : (changeV m.l a.p).2 = 0
      · rw [if_pos h0]
        rw [h0] at H
        generalize (changeV m.l a.p).1 = f at *
        refine fn_ok (by kernel_rfl) ty_ok Tryz.func65 rfl (fun _ _ => Tryz.call65 _ _) rfl ?_
        intro hw
        clear hw
        exact zw
      · rw [if_neg h0] at h; exact absurd h h0
    · rw [if_neg (by omega), if_neg (by omega), if_neg (by omega), if_pos k] at h ⊢
      by_cases h1 : askd a.n a.d = 0
      · rw [if_pos h1] at h ⊢
        by_cases h2 : a.n * m.d ≤ m.n * a.d
        · rw [if_pos h2] at h; simp [rpE] at h
        · rw [if_neg h2]
          refine fn_ok (by kernel_rfl) ty_ok Tryz.func65 rfl (fun _ _ => Tryz.call65 _ _) rfl ?_
          intro hw
          clear hw
          exact zw
      · rw [if_neg h1] at h; exact absurd h h1
    · rw [if_neg (by omega), if_neg (by omega), if_neg (by omega), if_neg (by omega), if_pos k] at h ⊢
      by_cases h1 : m.l.length = 0
      · rw [if_pos h1] at h; simp [rpE] at h
      · rw [if_neg h1]
        refine fn_ok (by kernel_rfl) ty_ok Tryz.func65 rfl (fun _ _ => Tryz.call65 _ _) rfl ?_
        intro hw
        clear hw
        exact zw
    · rw [if_neg (by omega), if_neg (by omega), if_neg (by omega), if_neg (by omega), if_neg (by omega)]
      refine fn_ok (by kernel_rfl) ty_ok Tryz.func65 rfl (fun _ _ => Tryz.call65 _ _) rfl ?_
      intro hw
      clear hw
      exact zw
  · rw [if_neg hf] at h; simp [rpE] at h
theorem qError_fn (m : Md) (a : Ak) : FnOK Tryz.prog 16 [m.dc, a.dc] (ret2 (errV m a)) := by
  have H := oCheck_fn m
  unfold errV
  by_cases h : mchk m = 0
  · rw [if_pos h]
    rw [h] at H
    have H1 := qwrong_fn h a
    generalize (askV m a).2.e = z at *
    refine fn_ok (by kernel_rfl) ty_ok Tryz.func16 rfl (fun _ _ => Tryz.call16 _ _) rfl ?_
    intro hw
    clear hw
    exact zw
  · rw [if_neg h]
    have h8 := (mchk_08 m).resolve_left h
    rw [h8] at H
    refine fn_ok (by kernel_rfl) ty_ok Tryz.func16 rfl (fun _ _ => Tryz.call16 _ _) rfl ?_
    intro hw
    clear hw
    exact zw
end Go.Proofs.YtepmgbmnghiaoaaGreat
