import Derived.Test.YtepmgbmnghiaoaaGreatGbAZ
set_option linter.all false
namespace Go.Proofs.YtepmgbmnghiaoaaGreat
open Go Go.RowKit Go.Sort Sx
abbrev retI (x : List Int × Int) : DV := .tup [.one (ints x.1), .one (i64 x.2)]
abbrev retK (x : List Ak × Int) : DV := .tup [.one (aks x.1), .one (i64 x.2)]
theorem errs_succ {m : Md} {l : List Ak} {i : Nat} (h : i < l.length) : errsV m (l.take (i + 1)) = errsV m (l.take i) ++ [(askV (runs m (l.take i)).1 l[i]).2.e] := by
  unfold errsV; rw [runs_succ h]; simp
theorem qErrors_fn (m : Md) (l : List Ak) : FnOK Tryz.prog 18 [m.dc, .one (aks l)] (retI (errorsV m l)) := by
  have H := oCheck_fn m
  unfold errorsV
  by_cases h : mchk m = 0
  · rw [if_pos h]
    rw [h] at H
    by_cases h1 : 120 < l.length
    · rw [if_pos h1]
      refine fn_ok (by kernel_rfl) (ty_okK [7, 33] [] [] []) Tryz.func18 rfl (fun _ _ => Tryz.call18 _ _) rfl ?_
      intro hw
      simp only [WDCs, WDC, WDs] at hw
      have w1 := wd_aks hw.2.1
      clear hw
      repeat' ((conv => whnf); first | (with_reducible first | refine br_t ?_ | refine br_f ?_ | refine za ?_ | refine zg ?_ | refine zo ?_) | rw [List.length_map] | refine zp ?_ | refine zq ?_ | (with_reducible first | refine bc (fun h => ?_) (fun h => ?_) | refine zt ?_ | refine zf ?_ | refine br_i (fun h => ?_) (fun h => ?_)) | refine zg ?_ | refine zi ?_ | refine zb ?_ | refine zl ?_)
      all_goals conv => whnf
      all_goals rfl
    · rw [if_neg h1]
      refine fn_ok (by kernel_rfl) (ty_okK [7, 33] [] [] []) Tryz.func18 rfl (fun _ _ => Tryz.call18 _ _) rfl ?_
      intro hw
      clear hw
      repeat' ((conv => whnf); first | (with_reducible first | refine br_t ?_ | refine br_f ?_ | refine za ?_ | refine zg ?_ | refine zo ?_) | rw [List.length_map] | refine zp ?_ | refine zq ?_ | (with_reducible first | refine bc (fun h => ?_) (fun h => ?_) | refine zt ?_ | refine zf ?_ | refine br_i (fun h => ?_) (fun h => ?_)) | refine zg ?_ | refine zi ?_ | refine zb ?_ | refine zl ?_)
      refine loop_J (by kernel_rfl) (ty_okK [7, 33] [] [] []) (σ := Nat × Md × List Int) (fun s => [(23, sV (.int .i64 s.1)), (7, .c (.at (.osl 7 0)))]) (fun s => [(2, .own [.d (i64 s.2.1.n), .d (i64 s.2.1.d), .d (pts s.2.1.l)]), (7, .row 1 (s.2.2.map fun i => [i64 i]) 0)]) (fun s => s.1 ≤ l.length ∧ mchk s.2.1 = 0 ∧ (runs m (l.take s.1)).1 = s.2.1 ∧ errsV m (l.take s.1) = s.2.2) (fun s => l.length - s.1) (0, m, []) ⟨by omega, h, rfl, rfl⟩ ?_ ?_
      · (conv => whnf); exact zent
      rintro ⟨i, u, o⟩ ⟨hi, hu, hI, hJ⟩
      dsimp only at hi hu hI hJ
      have hol : (o.map fun i => [i64 i]).length = o.length := List.length_map ..
      have hoi : o.length = (l.take i).length := by rw [← hJ, errs_len]
      rw [List.length_take] at hoi
      rcases Nat.lt_or_ge i l.length with hlt | hge
      · have hel := aks_get hlt
        have HA := qwrong_fn hu l[i]
        have hn := runs_succ (m := m) hlt
        have hn2 := errs_succ (m := m) hlt
        have hv := askV_ok hu l[i]
        rw [hI] at hn hn2
        rw [hJ] at hn2
        have hs : (o.map fun i => [i64 i]) ++ [[i64 (askV u l[i]).2.e]] = (o ++ [(askV u l[i]).2.e]).map fun i => [i64 i] := by rw [List.map_append]; rfl
        by_cases he : (askV u l[i]).2.e = 0
        · have HT := qthen_fn hu he
          generalize askV u l[i] = x at *
          obtain ⟨y, r⟩ := x
          dsimp only at hn hn2 hv HA HT hs he
          generalize l[i] = a at *
          rw [he] at HA hs hn2
          repeat' ((conv => whnf); first | (with_reducible first | refine br_t ?_ | refine br_f ?_ | refine za ?_ | refine zg ?_ | refine zo ?_) | rw [hol] | rw [List.length_map] | refine zp ?_ | refine zq ?_ | (with_reducible first | refine bc (fun h => ?_) (fun h => ?_) | refine zt ?_ | refine zf ?_ | refine br_i (fun h => ?_) (fun h => ?_)) | refine zg ?_ | refine zi ?_ | refine zb ?_ | refine zl ?_)
          all_goals conv => whnf
          refine ⟨(i + 1, y, o ++ [0]), ⟨by omega, hv, congrArg Prod.fst hn, hn2⟩, ?_, by simp only; omega⟩
          (conv => whnf); refine ⟨by repeat' (first | with_reducible exact zE0 | with_reducible refine zE1 ?_ ?_ | rfl | assumption | ((exact congrArg (fun x => some (Blk.row 1 x 0)) hs)) | exact zi1 | exact zb1), by repeat' (first | with_reducible exact zH0 | with_reducible refine zH1 ?_ ?_ | rfl | assumption | ((exact congrArg (fun x => some (Blk.row 1 x 0)) hs))), rfl⟩
        · have hq := askV_err he
          generalize askV u l[i] = x at *
          obtain ⟨y, r⟩ := x
          dsimp only at hn hn2 hv HA hs he hq
          generalize l[i] = a at *
          subst hq
          generalize r.e = z at *
          repeat' ((conv => whnf); first | (with_reducible first | refine br_t ?_ | refine br_f ?_ | refine za ?_ | refine zg ?_ | refine zo ?_) | rw [hol] | rw [List.length_map] | refine zp ?_ | refine zq ?_ | (with_reducible first | refine bc (fun h => ?_) (fun h => ?_) | refine zt ?_ | refine zf ?_ | refine br_i (fun h => ?_) (fun h => ?_)) | refine zg ?_ | refine zi ?_ | refine zb ?_ | refine zl ?_)
          all_goals conv => whnf
          refine ⟨(i + 1, y, o ++ [z]), ⟨by omega, hv, congrArg Prod.fst hn, hn2⟩, ?_, by simp only; omega⟩
          (conv => whnf); refine ⟨by repeat' (first | with_reducible exact zE0 | with_reducible refine zE1 ?_ ?_ | rfl | assumption | ((exact congrArg (fun x => some (Blk.row 1 x 0)) hs)) | exact zi1 | exact zb1), by repeat' (first | with_reducible exact zH0 | with_reducible refine zH1 ?_ ?_ | rfl | assumption | ((exact congrArg (fun x => some (Blk.row 1 x 0)) hs))), rfl⟩
      · obtain rfl : i = l.length := by omega
        rw [List.take_of_length_le (Nat.le_refl _)] at hI hJ
        rw [hJ]
        repeat' ((conv => whnf); first | (with_reducible first | refine br_t ?_ | refine br_f ?_ | refine za ?_ | refine zg ?_ | refine zo ?_) | rw [hol] | rw [List.length_map] | refine zp ?_ | refine zq ?_ | (with_reducible first | refine bc (fun h => ?_) (fun h => ?_) | refine zt ?_ | refine zf ?_ | refine br_i (fun h => ?_) (fun h => ?_)) | refine zg ?_ | refine zi ?_ | refine zb ?_ | refine zl ?_)
        all_goals conv => whnf
        all_goals rfl
  · rw [if_neg h]
    have h8 := (mchk_08 m).resolve_left h
    rw [h8] at H
    refine fn_ok (by kernel_rfl) (ty_okK [7, 33] [] [] []) Tryz.func18 rfl (fun _ _ => Tryz.call18 _ _) rfl ?_
    intro hw
    clear hw
    exact zw
theorem qFirst1_fn (e : Int) : FnOK Tryz.prog 69 [.one (i64 e)] (.c (.one (bol (e != 0)))) := by
  refine fn_ok (by kernel_rfl) ty_ok Tryz.func69 rfl (fun _ _ => Tryz.call69 _ _) rfl ?_
  intro hw
  clear hw
  exact zw
def ix0 (l : List Int) : Int := match fst0 l with | none => -1 | some i => i
theorem ixEr_fn (l : List Int) (hl : l.length ≤ 1000000) : FnOK Tryz.prog 68 [.one (ints l), .one (.clo 69 [])] (ret1 (ix0 l)) := by
  have hll : (l.map fun i => [i64 i]).length = l.length := List.length_map ..
  refine fn_ok (by kernel_rfl) ty_ok Tryz.func68 rfl (fun _ _ => Tryz.call68 _ _) rfl ?_
  intro hw
  clear hw
  repeat' ((conv => whnf); first | (with_reducible first | refine br_t ?_ | refine br_f ?_ | refine za ?_ | refine zg ?_) | rw [hll] | refine zp ?_ | refine zq ?_ | (with_reducible first | refine bc (fun h => ?_) (fun h => ?_) | refine zt ?_ | refine zf ?_ | refine br_i (fun h => ?_) (fun h => ?_)) | refine zg ?_ | refine zi ?_ | refine zb ?_)
  refine loop_J (by kernel_rfl) ty_ok (σ := Nat) (fun i => [(8, sV (.int .i64 i))]) (fun _ => []) (fun i => i ≤ l.length ∧ ∀ k (h : k < l.length), k < i → l[k] = 0) (fun i => l.length - i) 0 ⟨by omega, fun k _ h => absurd h (Nat.not_lt_zero _)⟩ ?_ ?_
  · (conv => whnf); exact zent
  rintro i ⟨hi, hI⟩
  rcases Nat.lt_or_ge i l.length with hlt | hge
  · have hel := ints_get hlt
    have HC := qFirst1_fn l[i]
    by_cases hc : l[i] = 0
    · rw [show (l[i] != 0) = false by simp [hc]] at HC
      have hn : ∀ k (h : k < l.length), k < i + 1 → l[k] = 0 := fun k hk hki => by
        rcases Nat.lt_or_ge k i with h1 | h1
        · exact hI k hk h1
        · have : k = i := by omega
          subst this; exact hc
      generalize l[i] = e at *
      repeat' ((conv => whnf); first | (with_reducible first | refine br_t ?_ | refine br_f ?_ | refine za ?_ | refine zg ?_) | rw [hll] | refine zp ?_ | refine zq ?_ | (with_reducible first | refine bc (fun h => ?_) (fun h => ?_) | refine zt ?_ | refine zf ?_ | refine br_i (fun h => ?_) (fun h => ?_)) | refine zg ?_ | refine zi ?_ | refine zb ?_)
      all_goals conv => whnf
      refine ⟨i + 1, ⟨by omega, hn⟩, ?_, by omega⟩
      (conv => whnf); exact zent
    · have e : ix0 l = i := by unfold ix0; rw [fst0_some.2 ⟨hlt, hc, hI⟩]
      rw [e]
      rw [show (l[i] != 0) = true by simp [hc]] at HC
      clear hI
      generalize l[i] = e at *
      repeat' ((conv => whnf); first | (with_reducible first | refine br_t ?_ | refine br_f ?_ | refine za ?_ | refine zg ?_) | rw [hll] | refine zp ?_ | refine zq ?_ | (with_reducible first | refine bc (fun h => ?_) (fun h => ?_) | refine zt ?_ | refine zf ?_ | refine br_i (fun h => ?_) (fun h => ?_)) | refine zg ?_ | refine zi ?_ | refine zb ?_)
      all_goals conv => whnf
      all_goals rfl
  · have e : ix0 l = -1 := by
      unfold ix0
      rw [fst0_none.2 fun e he => by
        obtain ⟨k, hk, rfl⟩ := List.getElem_of_mem he
        exact hI k hk (by omega)]
    rw [e]
    repeat' ((conv => whnf); first | (with_reducible first | refine br_t ?_ | refine br_f ?_ | refine za ?_ | refine zg ?_) | rw [hll] | refine zp ?_ | refine zq ?_ | (with_reducible first | refine bc (fun h => ?_) (fun h => ?_) | refine zt ?_ | refine zf ?_ | refine br_i (fun h => ?_) (fun h => ?_)) | refine zg ?_ | refine zi ?_ | refine zb ?_)
    all_goals conv => whnf
    all_goals rfl
theorem qFirst_fn (m : Md) (l : List Ak) : FnOK Tryz.prog 20 [m.dc, .one (aks l)] (ret2 (ofirstV m l)) := by
  have H := qErrors_fn m l
  unfold ofirstV
  unfold errorsV at H
  by_cases h : mchk m = 0
  · rw [if_pos h] at H ⊢
    by_cases h1 : 120 < l.length
    · rw [if_pos h1] at H ⊢
      simp only [retI] at H
      refine fn_ok (by kernel_rfl) ty_ok Tryz.func20 rfl (fun _ _ => Tryz.call20 _ _) rfl ?_
      intro hw
      clear hw
      exact zw
    · rw [if_neg h1] at H ⊢
      simp only [retI] at H
      have HI := ixEr_fn (errsV m l) (by rw [errs_len]; omega)
      unfold firstE
      unfold ix0 at HI
      cases hf : fst0 (errsV m l) with
      | none =>
        rw [hf] at HI
        simp only at HI
        generalize errsV m l = es at *
        refine fn_ok (by kernel_rfl) ty_ok Tryz.func20 rfl (fun _ _ => Tryz.call20 _ _) rfl ?_
        intro hw
        clear hw
        exact zw
      | some i =>
        rw [hf] at HI
        simp only at HI
        generalize errsV m l = es at *
        refine fn_ok (by kernel_rfl) ty_ok Tryz.func20 rfl (fun _ _ => Tryz.call20 _ _) rfl ?_
        intro hw
        clear hw
        exact zw
  · rw [if_neg h] at H ⊢
    simp only [retI] at H
    refine fn_ok (by kernel_rfl) ty_ok Tryz.func20 rfl (fun _ _ => Tryz.call20 _ _) rfl ?_
    intro hw
    clear hw
    exact zw
theorem qKept_fn (m : Md) (l : List Ak) : FnOK Tryz.prog 22 [m.dc, .one (aks l)] (retK (keptV m l)) := by
  have H := qErrors_fn m l
  unfold keptV
  unfold errorsV at H
  have hal : (l.map Ak.c).length = l.length := List.length_map ..
  by_cases h : mchk m = 0
  · rw [if_pos h] at H ⊢
    by_cases h1 : 120 < l.length
    · rw [if_pos h1] at H ⊢
      simp only [retI] at H
      refine fn_ok (by kernel_rfl) (ty_okK [8, 35] [] [] []) Tryz.func22 rfl (fun _ _ => Tryz.call22 _ _) rfl ?_
      intro hw
      clear hw
      exact zw
    · rw [if_neg h1] at H ⊢
      simp only [retI] at H
      have hE := errs_len m l
      have hX := keepE_kept m l
      generalize kept m l = X at *
      generalize errsV m l = es at *
      have hel : (es.map fun i => [i64 i]).length = es.length := List.length_map ..
      refine fn_ok (by kernel_rfl) (ty_okK [8, 35] [] [] []) Tryz.func22 rfl (fun _ _ => Tryz.call22 _ _) rfl ?_
      intro hw
      clear hw
      repeat' ((conv => whnf); first | (with_reducible first | refine br_t ?_ | refine br_f ?_ | refine za ?_ | refine zg ?_ | refine zo ?_) | rw [hal] | refine zp ?_ | refine zq ?_ | (with_reducible first | refine bc (fun h => ?_) (fun h => ?_) | refine zt ?_ | refine zf ?_ | refine br_i (fun h => ?_) (fun h => ?_)) | refine zg ?_ | refine zi ?_ | refine zb ?_ | refine zl ?_)
      refine loop_J (by kernel_rfl) (ty_okK [8, 35] [] [] []) (σ := Nat × List Ak) (fun s => [(22, sV (.int .i64 s.1)), (8, .c (.at (.osl 8 0)))]) (fun s => [(8, .row 7 (s.2.map Ak.c) 0)]) (fun s => s.1 ≤ l.length ∧ s.2.length ≤ s.1 ∧ s.2 ++ keepE (l.drop s.1) (es.drop s.1) = X) (fun s => l.length - s.1) (0, []) ⟨by omega, Nat.le_refl _, hX⟩ ?_ ?_
      · (conv => whnf); exact zent
      rintro ⟨i, o⟩ ⟨hi, hb, hI⟩
      dsimp only at hi hb hI
      have hol : (o.map Ak.c).length = o.length := List.length_map ..
      rcases Nat.lt_or_ge i l.length with hlt | hge
      · have h2 : i < es.length := by omega
        have g1 := aks_get hlt
        have g2 := ints_get h2
        rw [keepE_lt hlt h2, ← List.append_assoc] at hI
        by_cases hc : es[i] = 0
        · rw [if_pos hc] at hI
          rw [hc] at g2
          have hs : o.map Ak.c ++ [l[i].c] = (o ++ [l[i]]).map Ak.c := by rw [List.map_append]; rfl
          clear hc
          repeat' ((conv => whnf); first | (with_reducible first | refine br_t ?_ | refine br_f ?_ | refine za ?_ | refine zg ?_ | refine zo ?_) | rw [hol] | rw [hal] | rw [hel] | refine zp ?_ | refine zq ?_ | (with_reducible first | refine bc (fun h => ?_) (fun h => ?_) | refine zt ?_ | refine zf ?_ | refine br_i (fun h => ?_) (fun h => ?_)) | refine zg ?_ | refine zi ?_ | refine zb ?_ | refine zl ?_)
          all_goals conv => whnf
          refine ⟨(i + 1, o ++ [l[i]]), ⟨by omega, by simp; omega, hI⟩, ?_, by simp only; omega⟩
          (conv => whnf); refine ⟨by repeat' (first | with_reducible exact zE0 | with_reducible refine zE1 ?_ ?_ | rfl | assumption | ((exact congrArg (fun x => some (Blk.row 7 x 0)) hs)) | exact zi1 | exact zb1), by repeat' (first | with_reducible exact zH0 | with_reducible refine zH1 ?_ ?_ | rfl | assumption | ((exact congrArg (fun x => some (Blk.row 7 x 0)) hs))), rfl⟩
        · rw [if_neg hc, List.append_nil] at hI
          generalize es[i] = z at *
          repeat' ((conv => whnf); first | (with_reducible first | refine br_t ?_ | refine br_f ?_ | refine za ?_ | refine zg ?_ | refine zo ?_) | rw [hol] | rw [hal] | rw [hel] | refine zp ?_ | refine zq ?_ | (with_reducible first | refine bc (fun h => ?_) (fun h => ?_) | refine zt ?_ | refine zf ?_ | refine br_i (fun h => ?_) (fun h => ?_)) | refine zg ?_ | refine zi ?_ | refine zb ?_ | refine zl ?_)
          all_goals conv => whnf
          refine ⟨(i + 1, o), ⟨by omega, by dsimp only; omega, hI⟩, ?_, by simp only; omega⟩
          (conv => whnf); exact zent
      · rw [keepE_ge hge, List.append_nil] at hI
        subst hI
        repeat' ((conv => whnf); first | (with_reducible first | refine br_t ?_ | refine br_f ?_ | refine za ?_ | refine zg ?_ | refine zo ?_) | rw [hol] | rw [hal] | refine zp ?_ | refine zq ?_ | (with_reducible first | refine bc (fun h => ?_) (fun h => ?_) | refine zt ?_ | refine zf ?_ | refine br_i (fun h => ?_) (fun h => ?_)) | refine zg ?_ | refine zi ?_ | refine zb ?_ | refine zl ?_)
        all_goals conv => whnf
        all_goals rfl
  · rw [if_neg h] at H ⊢
    simp only [retI] at H
    refine fn_ok (by kernel_rfl) (ty_okK [8, 35] [] [] []) Tryz.func22 rfl (fun _ _ => Tryz.call22 _ _) rfl ?_
    intro hw
    clear hw
    exact zw
end Go.Proofs.YtepmgbmnghiaoaaGreat

namespace Go.Proofs.YtepmgbmnghiaoaaGreat
open Go Go.RowKit Go.Sort Sx
theorem rqError_fn (m : Md) (a : Ak) : FnOK Tryz.prog 17 [m.dc, a.dc] (ret2 (errV m a)) := by
  have H := roCheck_fn m
  unfold errV
  by_cases h : mchk m = 0
  · rw [if_pos h]
    rw [h] at H
    have H1 := roDid_fn h a
    generalize askV m a = x at *
    simp only [retA] at H1
    refine fn_ok (by kernel_rfl) ty_ok Tryz.func17 rfl (fun _ _ => Tryz.call17 _ _) rfl ?_
    intro hw
    clear hw
    exact zw
  · rw [if_neg h]
    have h8 := (mchk_08 m).resolve_left h
    rw [h8] at H
    refine fn_ok (by kernel_rfl) ty_ok Tryz.func17 rfl (fun _ _ => Tryz.call17 _ _) rfl ?_
    intro hw
    clear hw
    exact zw
def askedV (m : Md) (l : List Ak) : Int := if mchk m = 0 then (if 120 < l.length then 4 else 0) else 8
theorem rqasked_fn (m : Md) (l : List Ak) : FnOK Tryz.prog 66 [m.dc, .one (aks l)] (ret1 (askedV m l)) := by
  have H := roCheck_fn m
  have hal : (l.map Ak.c).length = l.length := List.length_map ..
  unfold askedV
  by_cases h : mchk m = 0
  · rw [if_pos h]
    rw [h] at H
    by_cases h1 : 120 < l.length
    · rw [if_pos h1]
      refine fn_ok (by kernel_rfl) ty_ok Tryz.func66 rfl (fun _ _ => Tryz.call66 _ _) rfl ?_
      intro hw
      simp only [WDCs, WDC, WDs] at hw
      have w1 := wd_aks hw.2.1
      clear hw
      repeat' ((conv => whnf); first | (with_reducible first | refine br_t ?_ | refine br_f ?_ | refine za ?_ | refine zg ?_) | rw [hal] | refine zp ?_ | refine zq ?_ | (with_reducible first | refine bc (fun h => ?_) (fun h => ?_) | refine zt ?_ | refine zf ?_ | refine br_i (fun h => ?_) (fun h => ?_)) | refine zg ?_ | refine zi ?_ | refine zb ?_)
      all_goals conv => whnf
      all_goals rfl
    · rw [if_neg h1]
      refine fn_ok (by kernel_rfl) ty_ok Tryz.func66 rfl (fun _ _ => Tryz.call66 _ _) rfl ?_
      intro hw
      clear hw
      repeat' ((conv => whnf); first | (with_reducible first | refine br_t ?_ | refine br_f ?_ | refine za ?_ | refine zg ?_) | rw [hal] | refine zp ?_ | refine zq ?_ | (with_reducible first | refine bc (fun h => ?_) (fun h => ?_) | refine zt ?_ | refine zf ?_ | refine br_i (fun h => ?_) (fun h => ?_)) | refine zg ?_ | refine zi ?_ | refine zb ?_)
      all_goals conv => whnf
      all_goals rfl
  · rw [if_neg h]
    have h8 := (mchk_08 m).resolve_left h
    rw [h8] at H
    refine fn_ok (by kernel_rfl) ty_ok Tryz.func66 rfl (fun _ _ => Tryz.call66 _ _) rfl ?_
    intro hw
    clear hw
    exact zw
theorem rqerrors_fn {m : Md} (h : mchk m = 0) (l : List Ak) (h1 : l.length ≤ 1000) : FnOK Tryz.prog 67 [m.dc, .one (aks l)] (.c (.one (ints (errsV m l)))) := by
  have hal : (l.map Ak.c).length = l.length := List.length_map ..
  refine fn_ok (by kernel_rfl) (ty_okK [5, 29] [] [] []) Tryz.func67 rfl (fun _ _ => Tryz.call67 _ _) rfl ?_
  intro hw
  clear hw
  repeat' ((conv => whnf); first | (with_reducible first | refine br_t ?_ | refine br_f ?_ | refine za ?_ | refine zg ?_ | refine zo ?_) | rw [hal] | refine zp ?_ | refine zq ?_ | (with_reducible first | refine bc (fun h => ?_) (fun h => ?_) | refine zt ?_ | refine zf ?_ | refine br_i (fun h => ?_) (fun h => ?_)) | refine zg ?_ | refine zi ?_ | refine zb ?_ | refine zl ?_)
  refine loop_J (by kernel_rfl) (ty_okK [5, 29] [] [] []) (σ := Nat × Md × List Int) (fun s => [(6, sV (.int .i64 s.1)), (5, .c (.at (.osl 5 0)))]) (fun s => [(2, .own [.d (i64 s.2.1.n), .d (i64 s.2.1.d), .d (pts s.2.1.l)]), (5, .row 1 (s.2.2.map fun i => [i64 i]) 0)]) (fun s => s.1 ≤ l.length ∧ mchk s.2.1 = 0 ∧ (runs m (l.take s.1)).1 = s.2.1 ∧ errsV m (l.take s.1) = s.2.2) (fun s => l.length - s.1) (0, m, []) ⟨by omega, h, rfl, rfl⟩ ?_ ?_
  · (conv => whnf); exact zent
  rintro ⟨i, u, o⟩ ⟨hi, hu, hI, hJ⟩
  dsimp only at hi hu hI hJ
  have hol : (o.map fun i => [i64 i]).length = o.length := List.length_map ..
  have hoi : o.length = (l.take i).length := by rw [← hJ, errs_len]
  rw [List.length_take] at hoi
  rcases Nat.lt_or_ge i l.length with hlt | hge
  · have hel := aks_get hlt
    have HA := roDid_fn hu l[i]
    have hn := runs_succ (m := m) hlt
    have hn2 := errs_succ (m := m) hlt
    have hv := askV_ok hu l[i]
    rw [hI] at hn hn2
    rw [hJ] at hn2
    have hs : (o.map fun i => [i64 i]) ++ [[i64 (askV u l[i]).2.e]] = (o ++ [(askV u l[i]).2.e]).map fun i => [i64 i] := by rw [List.map_append]; rfl
    generalize askV u l[i] = x at *
    obtain ⟨y, r⟩ := x
    dsimp only at hn hn2 hv hs
    simp only [retA] at HA
    generalize l[i] = a at *
    repeat' ((conv => whnf); first | (with_reducible first | refine br_t ?_ | refine br_f ?_ | refine za ?_ | refine zg ?_ | refine zo ?_) | rw [hol] | rw [hal] | refine zp ?_ | refine zq ?_ | (with_reducible first | refine bc (fun h => ?_) (fun h => ?_) | refine zt ?_ | refine zf ?_ | refine br_i (fun h => ?_) (fun h => ?_)) | refine zg ?_ | refine zi ?_ | refine zb ?_ | refine zl ?_)
    all_goals conv => whnf
    refine ⟨(i + 1, y, o ++ [r.e]), ⟨by omega, hv, congrArg Prod.fst hn, hn2⟩, ?_, by simp only; omega⟩
    (conv => whnf); refine ⟨by repeat' (first | with_reducible exact zE0 | with_reducible refine zE1 ?_ ?_ | rfl | assumption | ((exact congrArg (fun x => some (Blk.row 1 x 0)) hs)) | exact zi1 | exact zb1), by repeat' (first | with_reducible exact zH0 | with_reducible refine zH1 ?_ ?_ | rfl | assumption | ((exact congrArg (fun x => some (Blk.row 1 x 0)) hs))), rfl⟩
  · obtain rfl : i = l.length := by omega
    rw [List.take_of_length_le (Nat.le_refl _)] at hI hJ
    rw [hJ]
    repeat' ((conv => whnf); first | (with_reducible first | refine br_t ?_ | refine br_f ?_ | refine za ?_ | refine zg ?_ | refine zo ?_) | rw [hol] | rw [hal] | refine zp ?_ | refine zq ?_ | (with_reducible first | refine bc (fun h => ?_) (fun h => ?_) | refine zt ?_ | refine zf ?_ | refine br_i (fun h => ?_) (fun h => ?_)) | refine zg ?_ | refine zi ?_ | refine zb ?_ | refine zl ?_)
    all_goals conv => whnf
    all_goals rfl
theorem rqErrors_fn (m : Md) (l : List Ak) : FnOK Tryz.prog 19 [m.dc, .one (aks l)] (retI (errorsV m l)) := by
  have H := rqasked_fn m l
  unfold askedV at H
  unfold errorsV
  by_cases h : mchk m = 0
  · rw [if_pos h] at H ⊢
    by_cases h1 : 120 < l.length
    · rw [if_pos h1] at H ⊢
      refine fn_ok (by kernel_rfl) ty_ok Tryz.func19 rfl (fun _ _ => Tryz.call19 _ _) rfl ?_
      intro hw
      clear hw
      exact zw
    · rw [if_neg h1] at H ⊢
      have H2 := rqerrors_fn h l (by omega)
      generalize errsV m l = es at *
      refine fn_ok (by kernel_rfl) ty_ok Tryz.func19 rfl (fun _ _ => Tryz.call19 _ _) rfl ?_
      intro hw
      clear hw
      exact zw
  · rw [if_neg h] at H ⊢
    refine fn_ok (by kernel_rfl) ty_ok Tryz.func19 rfl (fun _ _ => Tryz.call19 _ _) rfl ?_
    intro hw
    clear hw
    exact zw
theorem rqFirst_fn (m : Md) (l : List Ak) : FnOK Tryz.prog 21 [m.dc, .one (aks l)] (ret2 (ofirstV m l)) := by
  have H := rqasked_fn m l
  unfold askedV at H
  unfold ofirstV
  by_cases h : mchk m = 0
  · rw [if_pos h] at H ⊢
    by_cases h1 : 120 < l.length
    · rw [if_pos h1] at H ⊢
      refine fn_ok (by kernel_rfl) ty_ok Tryz.func21 rfl (fun _ _ => Tryz.call21 _ _) rfl ?_
      intro hw
      clear hw
      exact zw
    · rw [if_neg h1] at H ⊢
      have H2 := rqerrors_fn h l (by omega)
      have hE := errs_len m l
      generalize errsV m l = es at *
      have hel : (es.map fun i => [i64 i]).length = es.length := List.length_map ..
      refine fn_ok (by kernel_rfl) ty_ok Tryz.func21 rfl (fun _ _ => Tryz.call21 _ _) rfl ?_
      intro hw
      clear hw
      repeat' ((conv => whnf); first | (with_reducible first | refine br_t ?_ | refine br_f ?_ | refine za ?_ | refine zg ?_) | rw [hel] | refine zp ?_ | refine zq ?_ | (with_reducible first | refine bc (fun h => ?_) (fun h => ?_) | refine zt ?_ | refine zf ?_ | refine br_i (fun h => ?_) (fun h => ?_)) | refine zg ?_ | refine zi ?_ | refine zb ?_)
      refine loop_J (by kernel_rfl) ty_ok (σ := Nat) (fun i => [(8, sV (.int .i64 i))]) (fun _ => []) (fun i => i ≤ es.length ∧ ∀ k (h : k < es.length), k < i → es[k] = 0) (fun i => es.length - i) 0 ⟨by omega, fun k _ h => absurd h (Nat.not_lt_zero _)⟩ ?_ ?_
      · (conv => whnf); exact zent
      rintro i ⟨hi, hI⟩
      rcases Nat.lt_or_ge i es.length with hlt | hge
      · have hg := ints_get hlt
        by_cases hc : es[i] = 0
        · have hn : ∀ k (h : k < es.length), k < i + 1 → es[k] = 0 := fun k hk hki => by
            rcases Nat.lt_or_ge k i with h1 | h1
            · exact hI k hk h1
            · have : k = i := by omega
              subst this; exact hc
          rw [hc] at hg
          clear hc
          repeat' ((conv => whnf); first | (with_reducible first | refine br_t ?_ | refine br_f ?_ | refine za ?_ | refine zg ?_) | rw [hel] | refine zp ?_ | refine zq ?_ | (with_reducible first | refine bc (fun h => ?_) (fun h => ?_) | refine zt ?_ | refine zf ?_ | refine br_i (fun h => ?_) (fun h => ?_)) | refine zg ?_ | refine zi ?_ | refine zb ?_)
          all_goals conv => whnf
          refine ⟨i + 1, ⟨by omega, hn⟩, ?_, by omega⟩
          (conv => whnf); exact zent
        · have e : firstE es = ((i : Int), 0) := by unfold firstE; rw [fst0_some.2 ⟨hlt, hc, hI⟩]
          rw [e]
          clear hI
          generalize es[i] = z at *
          repeat' ((conv => whnf); first | (with_reducible first | refine br_t ?_ | refine br_f ?_ | refine za ?_ | refine zg ?_) | rw [hel] | refine zp ?_ | refine zq ?_ | (with_reducible first | refine bc (fun h => ?_) (fun h => ?_) | refine zt ?_ | refine zf ?_ | refine br_i (fun h => ?_) (fun h => ?_)) | refine zg ?_ | refine zi ?_ | refine zb ?_)
          all_goals conv => whnf
          all_goals rfl
      · have e : firstE es = (0, 6) := by
          unfold firstE
          rw [fst0_none.2 fun e he => by
            obtain ⟨k, hk, rfl⟩ := List.getElem_of_mem he
            exact hI k hk (by omega)]
        rw [e]
        repeat' ((conv => whnf); first | (with_reducible first | refine br_t ?_ | refine br_f ?_ | refine za ?_ | refine zg ?_) | rw [hel] | refine zp ?_ | refine zq ?_ | (with_reducible first | refine bc (fun h => ?_) (fun h => ?_) | refine zt ?_ | refine zf ?_ | refine br_i (fun h => ?_) (fun h => ?_)) | refine zg ?_ | refine zi ?_ | refine zb ?_)
        all_goals conv => whnf
        all_goals rfl
  · rw [if_neg h] at H ⊢
    refine fn_ok (by kernel_rfl) ty_ok Tryz.func21 rfl (fun _ _ => Tryz.call21 _ _) rfl ?_
    intro hw
    clear hw
    exact zw
theorem rqKept_fn (m : Md) (l : List Ak) : FnOK Tryz.prog 23 [m.dc, .one (aks l)] (retK (keptV m l)) := by
  have H := rqasked_fn m l
  unfold askedV at H
  unfold keptV
  have hal : (l.map Ak.c).length = l.length := List.length_map ..
  by_cases h : mchk m = 0
  · rw [if_pos h] at H ⊢
    by_cases h1 : 120 < l.length
    · rw [if_pos h1] at H ⊢
      refine fn_ok (by kernel_rfl) (ty_okK [8, 36] [] [] []) Tryz.func23 rfl (fun _ _ => Tryz.call23 _ _) rfl ?_
      intro hw
      clear hw
      exact zw
    · rw [if_neg h1] at H ⊢
      have H2 := rqerrors_fn h l (by omega)
      have hE := errs_len m l
      have hX := keepE_kept m l
      generalize kept m l = X at *
      generalize errsV m l = es at *
      have hel : (es.map fun i => [i64 i]).length = es.length := List.length_map ..
      refine fn_ok (by kernel_rfl) (ty_okK [8, 36] [] [] []) Tryz.func23 rfl (fun _ _ => Tryz.call23 _ _) rfl ?_
      intro hw
      clear hw
      repeat' ((conv => whnf); first | (with_reducible first | refine br_t ?_ | refine br_f ?_ | refine za ?_ | refine zg ?_ | refine zo ?_) | rw [hel] | refine zp ?_ | refine zq ?_ | (with_reducible first | refine bc (fun h => ?_) (fun h => ?_) | refine zt ?_ | refine zf ?_ | refine br_i (fun h => ?_) (fun h => ?_)) | refine zg ?_ | refine zi ?_ | refine zb ?_ | refine zl ?_)
      refine loop_J (by kernel_rfl) (ty_okK [8, 36] [] [] []) (σ := Nat × List Ak) (fun s => [(9, sV (.int .i64 s.1)), (8, .c (.at (.osl 8 0)))]) (fun s => [(8, .row 7 (s.2.map Ak.c) 0)]) (fun s => s.1 ≤ l.length ∧ s.2.length ≤ s.1 ∧ s.2 ++ keepE (l.drop s.1) (es.drop s.1) = X) (fun s => l.length - s.1) (0, []) ⟨by omega, Nat.le_refl _, hX⟩ ?_ ?_
      · (conv => whnf); exact zent
      rintro ⟨i, o⟩ ⟨hi, hb, hI⟩
      dsimp only at hi hb hI
      have hol : (o.map Ak.c).length = o.length := List.length_map ..
      rcases Nat.lt_or_ge i l.length with hlt | hge
      · have h2 : i < es.length := by omega
        have g1 := aks_get hlt
        have g2 := ints_get h2
        rw [keepE_lt hlt h2, ← List.append_assoc] at hI
        by_cases hc : es[i] = 0
        · rw [if_pos hc] at hI
          rw [hc] at g2
          have hs : o.map Ak.c ++ [l[i].c] = (o ++ [l[i]]).map Ak.c := by rw [List.map_append]; rfl
          clear hc
          repeat' ((conv => whnf); first | (with_reducible first | refine br_t ?_ | refine br_f ?_ | refine za ?_ | refine zg ?_ | refine zo ?_) | rw [hol] | rw [hal] | rw [hel] | refine zp ?_ | refine zq ?_ | (with_reducible first | refine bc (fun h => ?_) (fun h => ?_) | refine zt ?_ | refine zf ?_ | refine br_i (fun h => ?_) (fun h => ?_)) | refine zg ?_ | refine zi ?_ | refine zb ?_ | refine zl ?_)
          all_goals conv => whnf
          refine ⟨(i + 1, o ++ [l[i]]), ⟨by omega, by simp; omega, hI⟩, ?_, by simp only; omega⟩
          (conv => whnf); refine ⟨by repeat' (first | with_reducible exact zE0 | with_reducible refine zE1 ?_ ?_ | rfl | assumption | ((exact congrArg (fun x => some (Blk.row 7 x 0)) hs)) | exact zi1 | exact zb1), by repeat' (first | with_reducible exact zH0 | with_reducible refine zH1 ?_ ?_ | rfl | assumption | ((exact congrArg (fun x => some (Blk.row 7 x 0)) hs))), rfl⟩
        · rw [if_neg hc, List.append_nil] at hI
          generalize es[i] = z at *
          repeat' ((conv => whnf); first | (with_reducible first | refine br_t ?_ | refine br_f ?_ | refine za ?_ | refine zg ?_ | refine zo ?_) | rw [hol] | rw [hal] | rw [hel] | refine zp ?_ | refine zq ?_ | (with_reducible first | refine bc (fun h => ?_) (fun h => ?_) | refine zt ?_ | refine zf ?_ | refine br_i (fun h => ?_) (fun h => ?_)) | refine zg ?_ | refine zi ?_ | refine zb ?_ | refine zl ?_)
          all_goals conv => whnf
          refine ⟨(i + 1, o), ⟨by omega, by dsimp only; omega, hI⟩, ?_, by simp only; omega⟩
          (conv => whnf); exact zent
      · rw [keepE_ge hge, List.append_nil] at hI
        subst hI
        repeat' ((conv => whnf); first | (with_reducible first | refine br_t ?_ | refine br_f ?_ | refine za ?_ | refine zg ?_ | refine zo ?_) | rw [hol] | rw [hel] | refine zp ?_ | refine zq ?_ | (with_reducible first | refine bc (fun h => ?_) (fun h => ?_) | refine zt ?_ | refine zf ?_ | refine br_i (fun h => ?_) (fun h => ?_)) | refine zg ?_ | refine zi ?_ | refine zb ?_ | refine zl ?_)
        all_goals conv => whnf
        all_goals rfl
  · rw [if_neg h] at H ⊢
    refine fn_ok (by kernel_rfl) (ty_okK [8, 36] [] [] []) Tryz.func23 rfl (fun _ _ => Tryz.call23 _ _) rfl ?_
    intro hw
    clear hw
    exact zw
theorem rqGreat_fn (m : Md) (l : List Ak) : FnOK Tryz.prog 14 [m.dc, .one (aks l)] (.c (.one (bol (great m.l || decide (20 < l.length ∧ l.length ≤ 120 ∨ 130 < l.length))))) := by
  have H := rfGreat_fn m.l
  have hal : (l.map Ak.c).length = l.length := List.length_map ..
  cases hg : great m.l
  · rw [hg] at H
    refine fn_ok (by kernel_rfl) ty_ok Tryz.func14 rfl (fun _ _ => Tryz.call14 _ _) rfl ?_
    intro hw
    simp only [WDCs, WDC, WDs] at hw
    have w1 := wd_aks hw.2.1
    clear hw
    repeat' ((conv => whnf); first | (with_reducible first | refine br_t ?_ | refine br_f ?_ | refine za ?_ | refine zg ?_) | rw [hal] | refine zp ?_ | refine zq ?_ | (with_reducible first | refine bc (fun h => ?_) (fun h => ?_) | refine zt ?_ | refine zf ?_ | refine br_i (fun h => ?_) (fun h => ?_)) | refine zg ?_ | refine zi ?_ | refine zb ?_)
    all_goals conv => whnf
    all_goals
      refine r_bool ?_
      rw [Bool.eq_iff_iff]
      simp only [Bool.false_or, decide_eq_true_eq, Bool.false_eq_true, false_iff, iff_false, true_iff, iff_true]
      first | omega | (rw [iff_comm]; omega) | trivial
  · rw [hg] at H
    refine fn_ok (by kernel_rfl) ty_ok Tryz.func14 rfl (fun _ _ => Tryz.call14 _ _) rfl ?_
    intro hw
    clear hw
    exact zw
theorem rqSame_fn (a b : List Int) : FnOK Tryz.prog 24 [.one (ints a), .one (ints b)] (.c (.one (bol (decide (a = b))))) := by
  refine fn_ok (by kernel_rfl) ty_ok Tryz.func24 rfl (fun _ _ => Tryz.call24 _ _) rfl ?_
  intro hw
  simp only [WDCs, WDC, WDs] at hw
  have w1 : a.length ≤ 9223372036854775807 := by
    obtain ⟨h1, _, _⟩ := WD_list.1 hw.1
    simpa using h1
  have w2 : b.length ≤ 9223372036854775807 := by
    obtain ⟨h1, _, _⟩ := WD_list.1 hw.2.1
    simpa using h1
  clear hw
  have hla : (a.map fun i => [i64 i]).length = a.length := List.length_map ..
  have hlb : (b.map fun i => [i64 i]).length = b.length := List.length_map ..
  by_cases h0 : a.length = b.length
  · repeat' ((conv => whnf); first | (with_reducible first | refine br_t ?_ | refine br_f ?_ | refine za ?_ | refine zg ?_) | rw [hla] | rw [hlb] | refine zp ?_ | refine zq ?_ | (with_reducible first | refine bc (fun h => ?_) (fun h => ?_) | refine zt ?_ | refine zf ?_ | refine br_i (fun h => ?_) (fun h => ?_)) | refine zg ?_ | refine zi ?_ | refine zb ?_)
    refine loop_J (by kernel_rfl) ty_ok (σ := Nat) (fun i => [(5, sV (.int .i64 i))]) (fun _ => []) (fun i => i ≤ a.length ∧ a.take i = b.take i) (fun i => a.length - i) 0 ⟨by omega, rfl⟩ ?_ ?_
    · (conv => whnf); exact zent
    rintro i ⟨hi, hI⟩
    rcases Nat.lt_or_ge i a.length with hlt | hge
    · have hb : i < b.length := by omega
      have he1 := ints_get hlt
      have he2 := ints_get hb
      by_cases hc : a[i] = b[i]
      · have hn := take_succ_eq hI hlt hb hc
        repeat' ((conv => whnf); first | (with_reducible first | refine br_t ?_ | refine br_f ?_ | refine za ?_ | refine zg ?_) | rw [hla] | rw [hlb] | refine zp ?_ | refine zq ?_ | (with_reducible first | refine bc (fun h => ?_) (fun h => ?_) | refine zt ?_ | refine zf ?_ | refine br_i (fun h => ?_) (fun h => ?_)) | refine zg ?_ | refine zi ?_ | refine zb ?_)
        all_goals conv => whnf
        refine ⟨i + 1, ⟨by omega, hn⟩, ?_, by omega⟩
        (conv => whnf); exact zent
      · rw [decide_eq_false (ne_of_get hlt hb hc)]
        repeat' ((conv => whnf); first | (with_reducible first | refine br_t ?_ | refine br_f ?_ | refine za ?_ | refine zg ?_) | rw [hla] | rw [hlb] | refine zp ?_ | refine zq ?_ | (with_reducible first | refine bc (fun h => ?_) (fun h => ?_) | refine zt ?_ | refine zf ?_ | refine br_i (fun h => ?_) (fun h => ?_)) | refine zg ?_ | refine zi ?_ | refine zb ?_)
        all_goals conv => whnf
        all_goals rfl
    · rw [decide_eq_true (take_all_eq hI h0 hge)]
      repeat' ((conv => whnf); first | (with_reducible first | refine br_t ?_ | refine br_f ?_ | refine za ?_ | refine zg ?_) | rw [hla] | rw [hlb] | refine zp ?_ | refine zq ?_ | (with_reducible first | refine bc (fun h => ?_) (fun h => ?_) | refine zt ?_ | refine zf ?_ | refine br_i (fun h => ?_) (fun h => ?_)) | refine zg ?_ | refine zi ?_ | refine zb ?_)
      all_goals conv => whnf
      all_goals rfl
  · rw [decide_eq_false (fun h => h0 (congrArg List.length h))]
    repeat' ((conv => whnf); first | (with_reducible first | refine br_t ?_ | refine br_f ?_ | refine za ?_ | refine zg ?_) | rw [hla] | rw [hlb] | refine zp ?_ | refine zq ?_ | (with_reducible first | refine bc (fun h => ?_) (fun h => ?_) | refine zt ?_ | refine zf ?_ | refine br_i (fun h => ?_) (fun h => ?_)) | refine zg ?_ | refine zi ?_ | refine zb ?_)
    all_goals conv => whnf
    all_goals rfl
theorem Ak.eq_iff {a b : Ak} : a = b ↔ a.k = b.k ∧ (a.p.id = b.p.id ∧ a.p.a = b.p.a ∧ a.p.b = b.p.b) ∧ a.id = b.id ∧ a.n = b.n ∧ a.d = b.d := by
  obtain ⟨k, ⟨i, x, y⟩, j, n, d⟩ := a
  obtain ⟨k', ⟨i', x', y'⟩, j', n', d'⟩ := b
  simp [and_assoc]
theorem r36SameAsks_fn (a b : List Ak) : FnOK Tryz.prog 25 [.one (aks a), .one (aks b)] (.c (.one (bol (decide (a = b))))) := by
  have hla : (a.map Ak.c).length = a.length := List.length_map ..
  have hlb : (b.map Ak.c).length = b.length := List.length_map ..
  refine fn_ok (by kernel_rfl) ty_ok Tryz.func25 rfl (fun _ _ => Tryz.call25 _ _) rfl ?_
  intro hw
  simp only [WDCs, WDC, WDs] at hw
  have w1 := wd_aks hw.1
  have w2 := wd_aks hw.2.1
  clear hw
  by_cases h0 : a.length = b.length
  · repeat' ((conv => whnf); first | (with_reducible first | refine br_t ?_ | refine br_f ?_ | refine za ?_ | refine zg ?_) | rw [hla] | rw [hlb] | refine zp ?_ | refine zq ?_ | (with_reducible first | refine bc (fun h => ?_) (fun h => ?_) | refine zt ?_ | refine zf ?_ | refine br_i (fun h => ?_) (fun h => ?_) | refine xi (pv_bool fun _ => nev32 _ _ _ _ _ _ _ _ _ _ _ _ _ _ _ _ _) ?_) | refine zg ?_ | refine zi ?_ | refine zb ?_)
    refine loop_J (by kernel_rfl) ty_ok (σ := Nat) (fun i => [(5, sV (.int .i64 i))]) (fun _ => []) (fun i => i ≤ a.length ∧ a.take i = b.take i) (fun i => a.length - i) 0 ⟨by omega, rfl⟩ ?_ ?_
    · (conv => whnf); exact zent
    rintro i ⟨hi, hI⟩
    rcases Nat.lt_or_ge i a.length with hlt | hge
    · have hb : i < b.length := by omega
      have he1 := aks_get hlt
      have he2 := aks_get hb
      have hq := Ak.eq_iff (a := a[i]) (b := b[i])
      by_cases hc : a[i] = b[i]
      · have hn := take_succ_eq hI hlt hb hc
        have hq := hq.1 hc
        clear hc
        repeat' ((conv => whnf); first | (with_reducible first | refine br_t ?_ | refine br_f ?_ | refine za ?_ | refine zg ?_) | rw [hla] | rw [hlb] | refine zp ?_ | refine zq ?_ | (with_reducible first | refine bc (fun h => ?_) (fun h => ?_) | refine zt ?_ | refine zf ?_ | refine br_i (fun h => ?_) (fun h => ?_) | refine xi (pv_bool fun _ => nev32 _ _ _ _ _ _ _ _ _ _ _ _ _ _ _ _ _) ?_) | refine zg ?_ | refine zi ?_ | refine zb ?_)
        all_goals conv => whnf
        refine ⟨i + 1, ⟨by omega, hn⟩, ?_, by omega⟩
        (conv => whnf); exact zent
      · rw [decide_eq_false (ne_of_get hlt hb hc)]
        have hq : ¬ _ := fun h => hc (hq.2 h)
        clear hc
        repeat' ((conv => whnf); first | (with_reducible first | refine br_t ?_ | refine br_f ?_ | refine za ?_ | refine zg ?_) | rw [hla] | rw [hlb] | refine zp ?_ | refine zq ?_ | (with_reducible first | refine bc (fun h => ?_) (fun h => ?_) | refine zt ?_ | refine zf ?_ | refine br_i (fun h => ?_) (fun h => ?_) | refine xi (pv_bool fun _ => nev32 _ _ _ _ _ _ _ _ _ _ _ _ _ _ _ _ _) ?_) | refine zg ?_ | refine zi ?_ | refine zb ?_)
        all_goals conv => whnf
        all_goals rfl
    · rw [decide_eq_true (take_all_eq hI h0 hge)]
      repeat' ((conv => whnf); first | (with_reducible first | refine br_t ?_ | refine br_f ?_ | refine za ?_ | refine zg ?_) | rw [hla] | rw [hlb] | refine zp ?_ | refine zq ?_ | (with_reducible first | refine bc (fun h => ?_) (fun h => ?_) | refine zt ?_ | refine zf ?_ | refine br_i (fun h => ?_) (fun h => ?_) | refine xi (pv_bool fun _ => nev32 _ _ _ _ _ _ _ _ _ _ _ _ _ _ _ _ _) ?_) | refine zg ?_ | refine zi ?_ | refine zb ?_)
      all_goals conv => whnf
      all_goals rfl
  · rw [decide_eq_false (fun h => h0 (congrArg List.length h))]
    repeat' ((conv => whnf); first | (with_reducible first | refine br_t ?_ | refine br_f ?_ | refine za ?_ | refine zg ?_) | rw [hla] | rw [hlb] | refine zp ?_ | refine zq ?_ | (with_reducible first | refine bc (fun h => ?_) (fun h => ?_) | refine zt ?_ | refine zf ?_ | refine br_i (fun h => ?_) (fun h => ?_) | refine xi (pv_bool fun _ => nev32 _ _ _ _ _ _ _ _ _ _ _ _ _ _ _ _ _) ?_) | refine zg ?_ | refine zi ?_ | refine zb ?_)
    all_goals conv => whnf
    all_goals rfl
end Go.Proofs.YtepmgbmnghiaoaaGreat

namespace Go.Proofs.YtepmgbmnghiaoaaGreat
open Go Go.RowKit Go.Sort Sx
theorem askV_move {m : Md} {n d : Int} (h1 : askd n d = 0) (h2 : ¬ n * m.d ≤ m.n * d) : askV m ⟨4, ⟨0, 0, 0⟩, 0, n, d⟩ = (⟨n, d, m.l⟩, ⟨0, 0, 0, 0, 0, btw (allM m.l) m.n m.d n d⟩) := by
  unfold askV
  rw [if_pos (show formV ⟨4, ⟨0, 0, 0⟩, 0, n, d⟩ = true by unfold formV; simp), if_neg (by simp), if_neg (by simp), if_neg (by simp), if_pos rfl, if_pos h1, if_neg h2]
def P3 : List Pt := [⟨1, 0, 2⟩, ⟨2, 6, -1⟩, ⟨5, 0, 0⟩]
end Go.Proofs.YtepmgbmnghiaoaaGreat

namespace Go.Proofs.YtepmgbmnghiaoaaGreat
open Go.RowKit Go.Sort Sx
def putA (p : Pt) : Ak := ⟨1, p, 0, 0, 0⟩
theorem insP_perm (l : List Pt) (p : Pt) : (insP l p).Perm (p :: l) := by
  unfold insP
  have h := List.perm_middle (a := p) (l₁ := l.take (pos l p.id)) (l₂ := l.drop (pos l p.id))
  rw [List.take_append_drop] at h
  exact h
theorem incr_uniq {a b : List Pt} (ha : incr a = true) (hb : incr b = true) (h : a.Perm b) : a = b :=
  List.Perm.eq_of_pairwise (le := fun p q => p.id < q.id) (fun p q _ _ h1 h2 => by omega) (incr_pw.1 ha) (incr_pw.1 hb) h
structure Dis (l : List Pt) : Prop where
  ok : ∀ p ∈ l, p.chk = 0
  ne : l.Pairwise fun p q => p.id ≠ q.id
theorem putV_new {f : List Pt} {p : Pt} (hf : fchk f = 0) (hp : p.chk = 0) (hn : ∀ q ∈ f, q.id ≠ p.id) (hl : f.length < 64) : putV f p = (insP f p, 0) := by
  have hh : has f p.id = false := by
    rw [Bool.eq_false_iff]
    intro h
    obtain ⟨q, hq, e⟩ := List.any_eq_true.1 h
    exact hn q hq (by simpa using e)
  unfold putV
  rw [if_pos hf, if_pos hp, if_neg (by rw [hh]; decide), if_neg (by omega)]
theorem puts_runs (n d : Int) : ∀ (l f : List Pt), fchk f = 0 → Dis l → (∀ p ∈ l, ∀ q ∈ f, q.id ≠ p.id) → f.length + l.length ≤ 64 →
    ∃ F, runs ⟨n, d, f⟩ (l.map putA) = (⟨n, d, F⟩, List.replicate l.length rp0) ∧ fchk F = 0 ∧ F.Perm (f ++ l)
  | [], f, hf, _, _, _ => ⟨f, rfl, hf, by simp⟩
  | p :: l, f, hf, hd, hn, hl => by
    have hp := hd.ok p (List.mem_cons_self ..)
    have hpf : ∀ q ∈ f, q.id ≠ p.id := hn p (List.mem_cons_self ..)
    have hput := putV_new hf hp hpf (by simp only [List.length_cons] at hl; omega)
    have hask : askV ⟨n, d, f⟩ (putA p) = (⟨n, d, insP f p⟩, rp0) := by
      unfold askV
      rw [if_pos (show formV (putA p) = true by unfold formV putA; simp), if_pos (show (putA p).k = 1 from rfl)]
      show (if (putV f p).2 = 0 then _ else _) = _
      rw [hput, if_pos rfl]
      show (_, _) = (_, _)
      rw [show (putV f (putA p).p).1 = insP f p from congrArg Prod.fst hput]
    have hok : fchk (insP f p) = 0 := by have := putV_ok (l := f) (p := p) (by rw [hput]); rw [hput] at this; exact this
    have hpw := List.pairwise_cons.1 hd.ne
    have hperm := insP_perm f p
    obtain ⟨F, e, hF, hP⟩ := puts_runs n d l (insP f p) hok ⟨fun q hq => hd.ok q (List.mem_cons_of_mem _ hq), hpw.2⟩ (fun q hq r hr => by
      rcases List.mem_cons.1 (hperm.mem_iff.1 hr) with rfl | hr
      · exact hpw.1 q hq
      · exact hn q (List.mem_cons_of_mem _ hq) r hr) (by have := hperm.length_eq; simp only [List.length_cons] at *; omega)
    refine ⟨F, ?_, hF, ?_⟩
    · rw [List.map_cons, runs, hask]
      dsimp only
      rw [e]
      rfl
    · refine hP.trans ((hperm.append_right l).trans ?_)
      exact List.perm_middle.symm
end Go.Proofs.YtepmgbmnghiaoaaGreat

namespace Go.Proofs.YtepmgbmnghiaoaaGreat
open Go.RowKit Go.Sort Sx
structure Uk where
  k : Int
  id : Int
  deriving DecidableEq, Inhabited
def Uk.c (u : Uk) : List D := [u8 u.k, i64 u.id]
abbrev Uk.dc (u : Uk) : DC := .agg [u8 u.k, i64 u.id]
abbrev uks (l : List Uk) : D := .list 2 (l.map Uk.c)
structure Un where
  k : Int
  id : Int
  p : Pt
  deriving DecidableEq, Inhabited
def Un.c (u : Un) : List D := [u8 u.k, i64 u.id, i64 u.p.id, i64 u.p.a, i64 u.p.b]
abbrev uns (l : List Un) : D := .list 5 (l.map Un.c)
def Un.u (u : Un) : Uk := ⟨u.k, u.id⟩
def mrg : List Pt → List Pt → List Un
  | [], [] => []
  | p :: a, [] => ⟨2, p.id, p⟩ :: mrg a []
  | [], q :: b => ⟨3, q.id, q⟩ :: mrg [] b
  | p :: a, q :: b => if p.id < q.id then ⟨2, p.id, p⟩ :: mrg a (q :: b) else if q.id < p.id then ⟨3, q.id, q⟩ :: mrg (p :: a) b else if p = q then mrg a b else ⟨4, p.id, q⟩ :: mrg a b
termination_by a b => a.length + b.length
theorem mrg_nn : mrg [] [] = [] := by rw [mrg]
theorem mrg_a {p : Pt} {a b : List Pt} (h : b = [] ∨ ∃ q c, b = q :: c ∧ p.id < q.id) : mrg (p :: a) b = ⟨2, p.id, p⟩ :: mrg a b := by
  rcases h with rfl | ⟨q, c, rfl, h⟩
  · rw [mrg]
  · rw [mrg, if_pos h]
theorem mrg_b {q : Pt} {a b : List Pt} (h : a = [] ∨ ∃ p c, a = p :: c ∧ q.id < p.id) : mrg a (q :: b) = ⟨3, q.id, q⟩ :: mrg a b := by
  rcases h with rfl | ⟨p, c, rfl, h⟩
  · rw [mrg]
  · rw [mrg, if_neg (by omega), if_pos h]
theorem mrg_e {p : Pt} {a b : List Pt} : mrg (p :: a) (p :: b) = mrg a b := by
  rw [mrg, if_neg (by omega), if_neg (by omega), if_pos rfl]
theorem mrg_n {p q : Pt} {a b : List Pt} (h : p.id = q.id) (hn : p ≠ q) : mrg (p :: a) (q :: b) = ⟨4, p.id, q⟩ :: mrg a b := by
  rw [mrg, if_neg (by omega), if_neg (by omega), if_neg hn]
theorem mrg_ind {Q : List Pt → List Pt → Prop} (h0 : Q [] []) (ha : ∀ p a b, (b = [] ∨ ∃ q c, b = q :: c ∧ p.id < q.id) → Q a b → Q (p :: a) b) (hb : ∀ q a b, (a = [] ∨ ∃ p c, a = p :: c ∧ q.id < p.id) → Q a b → Q a (q :: b))
    (he : ∀ p q a b, p.id = q.id → Q a b → Q (p :: a) (q :: b)) : ∀ a b, Q a b
  | [], [] => h0
  | p :: a, [] => ha p a [] (.inl rfl) (mrg_ind h0 ha hb he a [])
  | [], q :: b => hb q [] b (.inl rfl) (mrg_ind h0 ha hb he [] b)
  | p :: a, q :: b => by
    rcases Int.lt_trichotomy p.id q.id with h | h | h
    · exact ha p a (q :: b) (.inr ⟨q, b, rfl, h⟩) (mrg_ind h0 ha hb he a (q :: b))
    · exact he p q a b h (mrg_ind h0 ha hb he a b)
    · exact hb q (p :: a) b (.inr ⟨p, a, rfl, h⟩) (mrg_ind h0 ha hb he (p :: a) b)
termination_by a b => a.length + b.length
def lk (l : List Pt) (id : Int) : Option Pt := l.find? fun p => p.id == id
theorem incr_head {p : Pt} {l : List Pt} (h : incr (p :: l) = true) : ∀ q ∈ l, p.id < q.id := (List.pairwise_cons.1 (incr_pw.1 h)).1
theorem mrg_mem : ∀ (a b : List Pt), ∀ u ∈ mrg a b, (u.k = 2 ∧ u.p ∈ a ∨ (u.k = 3 ∨ u.k = 4) ∧ u.p ∈ b) ∧ u.p.id = u.id := by
  refine mrg_ind ?_ ?_ ?_ ?_
  · rw [mrg_nn]; simp
  · intro p a b hb ih u hu
    rw [mrg_a hb] at hu
    rcases List.mem_cons.1 hu with rfl | hu
    · exact ⟨.inl ⟨rfl, List.mem_cons_self ..⟩, rfl⟩
    · obtain ⟨h, e⟩ := ih u hu
      exact ⟨h.imp (fun h => ⟨h.1, List.mem_cons_of_mem _ h.2⟩) id, e⟩
  · intro q a b ha ih u hu
    rw [mrg_b ha] at hu
    rcases List.mem_cons.1 hu with rfl | hu
    · exact ⟨.inr ⟨.inl rfl, List.mem_cons_self ..⟩, rfl⟩
    · obtain ⟨h, e⟩ := ih u hu
      exact ⟨h.imp id (fun h => ⟨h.1, List.mem_cons_of_mem _ h.2⟩), e⟩
  · intro p q a b e ih u hu
    have key : u ∈ mrg a b → (u.k = 2 ∧ u.p ∈ p :: a ∨ (u.k = 3 ∨ u.k = 4) ∧ u.p ∈ q :: b) ∧ u.p.id = u.id := fun hu => by
      obtain ⟨h, e⟩ := ih u hu
      exact ⟨h.imp (fun h => ⟨h.1, List.mem_cons_of_mem _ h.2⟩) (fun h => ⟨h.1, List.mem_cons_of_mem _ h.2⟩), e⟩
    by_cases c : p = q
    · subst c
      rw [mrg_e] at hu
      exact key hu
    · rw [mrg_n e c] at hu
      rcases List.mem_cons.1 hu with rfl | hu
      · exact ⟨.inr ⟨.inr rfl, List.mem_cons_self ..⟩, e.symm⟩
      · exact key hu
theorem mrg_len : ∀ (a b : List Pt), (mrg a b).length ≤ a.length + b.length := by
  refine mrg_ind ?_ ?_ ?_ ?_
  · rw [mrg_nn]; simp
  · intro p a b hb ih
    rw [mrg_a hb]; simp only [List.length_cons]; omega
  · intro p a b hb ih
    rw [mrg_b hb]; simp only [List.length_cons]; omega
  · intro p q a b e ih
    by_cases c : p = q
    · subst c; rw [mrg_e]; simp only [List.length_cons]; omega
    · rw [mrg_n e c]; simp only [List.length_cons]; omega
theorem mrg_nil : ∀ (a b : List Pt), mrg a b = [] ↔ a = b := by
  refine mrg_ind ?_ ?_ ?_ ?_
  · rw [mrg_nn]; simp
  · intro p a b hb ih
    rw [mrg_a hb]
    refine iff_of_false (by simp) ?_
    rcases hb with rfl | ⟨q, c, rfl, h⟩
    · simp
    · intro e
      injection e with e1 _
      subst e1; omega
  · intro q a b ha ih
    rw [mrg_b ha]
    refine iff_of_false (by simp) ?_
    rcases ha with rfl | ⟨p, c, rfl, h⟩
    · simp
    · intro e
      injection e with e1 _
      subst e1; omega
  · intro p q a b e ih
    by_cases c : p = q
    · subst c; rw [mrg_e, ih]; simp
    · rw [mrg_n e c]
      refine iff_of_false (by simp) ?_
      intro e
      injection e with e1 _
      exact c e1
def Uk.turn (u : Uk) : Uk := if u.k = 2 then ⟨3, u.id⟩ else if u.k = 3 then ⟨2, u.id⟩ else u
theorem mrg_turn : ∀ (a b : List Pt), (mrg b a).map Un.u = (mrg a b).map fun u => u.u.turn := by
  refine mrg_ind ?_ ?_ ?_ ?_
  · rw [mrg_nn]; rfl
  · intro p a b hb ih
    rw [mrg_a hb, mrg_b hb, List.map_cons, List.map_cons, ih]; rfl
  · intro p a b hb ih
    rw [mrg_a hb, mrg_b hb, List.map_cons, List.map_cons, ih]; rfl
  · intro p q a b e ih
    by_cases c : p = q
    · subst c; rw [mrg_e, mrg_e, ih]
    · rw [mrg_n e c, mrg_n e.symm (Ne.symm c), List.map_cons, List.map_cons, ih, e]; rfl
def nowU (m n : Md) : List Uk := if m.n = n.n ∧ m.d = n.d then [] else [⟨1, 0⟩]
def allU (m n : Md) : List Uk := nowU m n ++ (mrg m.l n.l).map Un.u
def tkA (U : List Un) : List Ak := (U.filter fun u => decide (u.k = 2)).map fun u => ⟨2, ⟨0, 0, 0⟩, u.id, 0, 0⟩
def chA (U : List Un) : List Ak := (U.filter fun u => decide (u.k = 4)).map fun u => ⟨3, u.p, 0, 0, 0⟩
def ptA (U : List Un) : List Ak := (U.filter fun u => decide (u.k = 3)).map fun u => ⟨1, u.p, 0, 0, 0⟩
def mvA (m n : Md) : List Ak := if m.n = n.n ∧ m.d = n.d then [] else [⟨4, ⟨0, 0, 0⟩, 0, n.n, n.d⟩]
def asksL (m n : Md) : List Ak := tkA (mrg m.l n.l) ++ chA (mrg m.l n.l) ++ ptA (mrg m.l n.l) ++ mvA m n
def bothV (m n : Md) : Int := if mchk m = 0 then mchk n else 8
def asksV (m n : Md) : List Ak × Int := if bothV m n = 0 then (if n.n * m.d < m.n * n.d then ([], 44) else if 120 < (asksL m n).length then ([], 4) else (asksL m n, 0)) else ([], 8)
def allV (m n : Md) : List Uk × Int := if bothV m n = 0 then (allU m n, 0) else ([], 8)
def firstV (m n : Md) : Uk × Int := if bothV m n = 0 then (match allU m n with | [] => (⟨0, 0⟩, 6) | u :: _ => (u, 0)) else (⟨0, 0⟩, 8)
def sameV (m n : Md) : Bool × Int := if bothV m n = 0 then (decide (m = n), 0) else (false, 8)
theorem both_ok {m n : Md} (h : bothV m n = 0) : mchk m = 0 ∧ mchk n = 0 := by
  unfold bothV at h
  split at h
  · exact ⟨by assumption, h⟩
  · simp at h
theorem both_08 (m n : Md) : bothV m n = 0 ∨ bothV m n = 8 := by
  unfold bothV
  split
  · exact mchk_08 n
  · exact .inr rfl
theorem mrg_kinds {a b : List Pt} {u : Un} (h : u ∈ mrg a b) : u.k = 2 ∨ u.k = 3 ∨ u.k = 4 := by
  rcases (mrg_mem a b u h).1 with h | h
  · exact .inl h.1
  · exact .inr h.1
theorem parts_len (m n : Md) : (asksL m n).length = (allU m n).length := by
  have key : ∀ U : List Un, (∀ u ∈ U, u.k = 2 ∨ u.k = 3 ∨ u.k = 4) → (tkA U ++ chA U ++ ptA U).length = U.length := fun U => by
    induction U with
    | nil => intro _; rfl
    | cons u U ih =>
      intro h
      have := ih fun v hv => h v (List.mem_cons_of_mem _ hv)
      simp only [tkA, chA, ptA, List.length_append, List.length_map, List.length_cons] at this ⊢
      rcases h u (List.mem_cons_self ..) with e | e | e
      · rw [List.filter_cons_of_pos (by simp [e]), List.filter_cons_of_neg (by simp [e]), List.filter_cons_of_neg (by simp [e]), List.length_cons]; omega
      · rw [List.filter_cons_of_neg (by simp [e]), List.filter_cons_of_neg (by simp [e]), List.filter_cons_of_pos (by simp [e]), List.length_cons]; omega
      · rw [List.filter_cons_of_neg (by simp [e]), List.filter_cons_of_pos (by simp [e]), List.filter_cons_of_neg (by simp [e]), List.length_cons]; omega
  unfold asksL allU mvA nowU
  rw [List.length_append, key _ fun u hu => mrg_kinds hu, List.length_append, List.length_map]
  split <;> simp <;> omega
end Go.Proofs.YtepmgbmnghiaoaaGreat
