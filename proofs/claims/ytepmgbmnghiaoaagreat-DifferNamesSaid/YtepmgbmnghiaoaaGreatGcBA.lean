import Derived.Test.YtepmgbmnghiaoaaGreatGcAZ
set_option linter.all false
namespace Go.Proofs.YtepmgbmnghiaoaaGreat
open Go Go.RowKit Go.Sort Sx
theorem rgrun_fn {m : Md} (h : mchk m = 0) (l : List Ak) (h1 : l.length ≤ 1000) : FnOK Tryz.prog 76 [m.dc, .one (aks l)] (.tup [(runs m l).1.dc, .one (rps (runs m l).2)]) := by
  obtain ⟨g1, g2⟩ := mchk_ok h
  obtain ⟨k1, k2, k3⟩ := fchk_ok g2
  have HT := roTwin_fn m (by omega)
  have hal : (l.map Ak.c).length = l.length := List.length_map ..
  refine fn_ok (by kernel_rfl) (ty_okK [7, 32] [] [] []) Tryz.func76 rfl (fun _ _ => Tryz.call76 _ _) rfl ?_
  intro hw
  clear hw
  repeat' ((conv => whnf); first | (with_reducible first | refine br_t ?_ | refine br_f ?_ | refine za ?_ | refine zg ?_ | refine zo ?_) | rw [hal] | refine zp ?_ | refine zq ?_ | (with_reducible first | refine bc (fun h => ?_) (fun h => ?_) | refine zt ?_ | refine zf ?_ | refine br_i (fun h => ?_) (fun h => ?_)) | refine zg ?_ | refine zi ?_ | refine zb ?_ | refine zl ?_)
  refine loop_J (by kernel_rfl) (ty_okK [7, 32] [] [] []) (σ := Nat × Md × List Rp) (fun s => [(8, sV (.int .i64 s.1)), (7, .c (.at (.osl 7 0)))]) (fun s => [(6, .own [.d (i64 s.2.1.n), .d (i64 s.2.1.d), .d (pts s.2.1.l)]), (7, .row 6 (s.2.2.map Rp.c) 0)]) (fun s => s.1 ≤ l.length ∧ mchk s.2.1 = 0 ∧ runs m (l.take s.1) = s.2) (fun s => l.length - s.1) (0, m, []) ⟨by omega, h, rfl⟩ ?_ ?_
  · (conv => whnf); exact zent
  rintro ⟨i, u, o⟩ ⟨hi, hu, hI⟩
  dsimp only at hi hu hI
  have hol : (o.map Rp.c).length = o.length := List.length_map ..
  have hoi : o.length = (l.take i).length := by have := runs_len m (l.take i); rw [hI] at this; exact this
  rw [List.length_take] at hoi
  rcases Nat.lt_or_ge i l.length with hlt | hge
  · have hel := aks_get hlt
    have HA := roDid_fn hu l[i]
    have hn := runs_succ (m := m) hlt
    have hv := askV_ok hu l[i]
    rw [hI] at hn
    dsimp only at hn
    generalize askV u l[i] = x at *
    obtain ⟨y, r⟩ := x
    dsimp only at hn hv
    simp only [retA] at HA
    have hs : o.map Rp.c ++ [[i64 r.e, i64 r.i, i64 r.j, i64 r.n, i64 r.d, mts r.ms]] = (o ++ [r]).map Rp.c := by rw [List.map_append]; rfl
    generalize l[i] = a at *
    repeat' ((conv => whnf); first | (with_reducible first | refine br_t ?_ | refine br_f ?_ | refine za ?_ | refine zg ?_ | refine zo ?_) | rw [hol] | rw [hal] | refine zp ?_ | refine zq ?_ | (with_reducible first | refine bc (fun h => ?_) (fun h => ?_) | refine zt ?_ | refine zf ?_ | refine br_i (fun h => ?_) (fun h => ?_)) | refine zg ?_ | refine zi ?_ | refine zb ?_ | refine zl ?_)
    all_goals conv => whnf
    refine ⟨(i + 1, y, o ++ [r]), ⟨by omega, hv, hn⟩, ?_, by simp only; omega⟩
    (conv => whnf); refine ⟨by repeat' (first | with_reducible exact zE0 | with_reducible refine zE1 ?_ ?_ | rfl | assumption | ((exact congrArg (fun x => some (Blk.row 6 x 0)) hs)) | exact zi1 | exact zb1), by repeat' (first | with_reducible exact zH0 | with_reducible refine zH1 ?_ ?_ | rfl | assumption | ((exact congrArg (fun x => some (Blk.row 6 x 0)) hs))), rfl⟩
  · obtain rfl : i = l.length := by omega
    rw [List.take_of_length_le (Nat.le_refl _)] at hI
    rw [hI]
    repeat' ((conv => whnf); first | (with_reducible first | refine br_t ?_ | refine br_f ?_ | refine za ?_ | refine zg ?_ | refine zo ?_) | rw [hol] | rw [hal] | refine zp ?_ | refine zq ?_ | (with_reducible first | refine bc (fun h => ?_) (fun h => ?_) | refine zt ?_ | refine zf ?_ | refine br_i (fun h => ?_) (fun h => ?_)) | refine zg ?_ | refine zi ?_ | refine zb ?_ | refine zl ?_)
    all_goals conv => whnf
    all_goals rfl
theorem rgRecord_fn (m : Md) (l : List Ak) : FnOK Tryz.prog 33 [m.dc, .one (aks l)] (retG (recV m l)) := by
  have H1 := roCheck_fn m
  have hal : (l.map Ak.c).length = l.length := List.length_map ..
  unfold recV
  by_cases h : mchk m = 0
  · rw [if_pos h]
    rw [h] at H1
    obtain ⟨g1, g2⟩ := mchk_ok h
    obtain ⟨k1, k2, k3⟩ := fchk_ok g2
    by_cases h1 : 120 < l.length
    · rw [if_pos h1]
      refine fn_ok (by kernel_rfl) ty_ok Tryz.func33 rfl (fun _ _ => Tryz.call33 _ _) rfl ?_
      intro hw
      simp only [WDCs, WDC, WDs] at hw
      have w1 := wd_aks hw.2.1
      clear hw
      repeat' ((conv => whnf); first | (with_reducible first | refine br_t ?_ | refine br_f ?_ | refine za ?_ | refine zg ?_) | rw [hal] | refine zp ?_ | refine zq ?_ | (with_reducible first | refine bc (fun h => ?_) (fun h => ?_) | refine zt ?_ | refine zf ?_ | refine br_i (fun h => ?_) (fun h => ?_)) | refine zg ?_ | refine zi ?_ | refine zb ?_)
      all_goals conv => whnf
      all_goals rfl
    · rw [if_neg h1]
      have H2 := rgrun_fn h l (by omega)
      have HT := roTwin_fn m (by omega)
      generalize (runs m l).2 = r at *
      generalize (runs m l).1 = z at *
      refine fn_ok (by kernel_rfl) ty_ok Tryz.func33 rfl (fun _ _ => Tryz.call33 _ _) rfl ?_
      intro hw
      clear hw
      repeat' ((conv => whnf); first | (with_reducible first | refine br_t ?_ | refine br_f ?_ | refine za ?_ | refine zg ?_) | rw [hal] | refine zp ?_ | refine zq ?_ | (with_reducible first | refine bc (fun h => ?_) (fun h => ?_) | refine zt ?_ | refine zf ?_ | refine br_i (fun h => ?_) (fun h => ?_)) | refine zg ?_ | refine zi ?_ | refine zb ?_)
      all_goals conv => whnf
      all_goals rfl
  · rw [if_neg h]
    have h8 := (mchk_08 m).resolve_left h
    rw [h8] at H1
    refine fn_ok (by kernel_rfl) ty_ok Tryz.func33 rfl (fun _ _ => Tryz.call33 _ _) rfl ?_
    intro hw
    clear hw
    exact zw
theorem rgFormed_fn (x : Lg) : FnOK Tryz.prog 78 [x.dc] (ret1 (formL x)) := by
  have H1 := roCheck_fn x.s
  have hal : (x.al.map Ak.c).length = x.al.length := List.length_map ..
  have hrl : (x.rs.map Rp.c).length = x.rs.length := List.length_map ..
  unfold formL
  by_cases h1 : 120 < x.al.length
  · rw [if_pos h1]
    clear H1
    refine fn_ok (by kernel_rfl) ty_ok Tryz.func78 rfl (fun _ _ => Tryz.call78 _ _) rfl ?_
    intro hw
    simp only [WDCs, WDC, WDs] at hw
    have w1 : x.al.length ≤ 9223372036854775807 := wd_aks hw.1.2.2.2.1
    clear hw
    repeat' ((conv => whnf); first | (with_reducible first | refine br_t ?_ | refine br_f ?_ | refine za ?_ | refine zg ?_) | rw [hal] | refine zp ?_ | refine zq ?_ | (with_reducible first | refine bc (fun h => ?_) (fun h => ?_) | refine zt ?_ | refine zf ?_ | refine br_i (fun h => ?_) (fun h => ?_)) | refine zg ?_ | refine zi ?_ | refine zb ?_)
    all_goals conv => whnf
    all_goals rfl
  · rw [if_neg h1]
    by_cases h2 : mchk x.s = 0
    · rw [h2] at H1
      by_cases h3 : x.rs.length = x.al.length
      · rw [if_pos ⟨h2, h3⟩]
        refine fn_ok (by kernel_rfl) ty_ok Tryz.func78 rfl (fun _ _ => Tryz.call78 _ _) rfl ?_
        intro hw
        clear hw
        repeat' ((conv => whnf); first | (with_reducible first | refine br_t ?_ | refine br_f ?_ | refine za ?_ | refine zg ?_) | rw [hal] | rw [hrl] | refine zp ?_ | refine zq ?_ | (with_reducible first | refine bc (fun h => ?_) (fun h => ?_) | refine zt ?_ | refine zf ?_ | refine br_i (fun h => ?_) (fun h => ?_)) | refine zg ?_ | refine zi ?_ | refine zb ?_)
        all_goals conv => whnf
        all_goals rfl
      · rw [if_neg (fun h => h3 h.2)]
        refine fn_ok (by kernel_rfl) ty_ok Tryz.func78 rfl (fun _ _ => Tryz.call78 _ _) rfl ?_
        intro hw
        simp only [WDCs, WDC, WDs] at hw
        have w2 : x.rs.length ≤ 9223372036854775807 := wd_rps hw.1.2.2.2.2.1
        clear hw
        repeat' ((conv => whnf); first | (with_reducible first | refine br_t ?_ | refine br_f ?_ | refine za ?_ | refine zg ?_) | rw [hal] | rw [hrl] | refine zp ?_ | refine zq ?_ | (with_reducible first | refine bc (fun h => ?_) (fun h => ?_) | refine zt ?_ | refine zf ?_ | refine br_i (fun h => ?_) (fun h => ?_)) | refine zg ?_ | refine zi ?_ | refine zb ?_)
        all_goals conv => whnf
        all_goals rfl
    · rw [if_neg (fun h => h2 h.1)]
      rw [(mchk_08 _).resolve_left h2] at H1
      refine fn_ok (by kernel_rfl) ty_ok Tryz.func78 rfl (fun _ _ => Tryz.call78 _ _) rfl ?_
      intro hw
      clear hw
      repeat' ((conv => whnf); first | (with_reducible first | refine br_t ?_ | refine br_f ?_ | refine za ?_ | refine zg ?_) | rw [hal] | rw [hrl] | refine zp ?_ | refine zq ?_ | (with_reducible first | refine bc (fun h => ?_) (fun h => ?_) | refine zt ?_ | refine zf ?_ | refine br_i (fun h => ?_) (fun h => ?_)) | refine zg ?_ | refine zi ?_ | refine zb ?_)
      all_goals conv => whnf
      all_goals rfl
def wrgN (x : Lg) : Int := match wrg x.s x.al x.rs with | none => -1 | some i => (i : Int)
theorem rgwrong_fn {x : Lg} (h : formL x = 0) : FnOK Tryz.prog 79 [x.dc] (ret1 (wrgN x)) := by
  obtain ⟨h1, h2, h3⟩ : x.al.length ≤ 120 ∧ mchk x.s = 0 ∧ x.rs.length = x.al.length := by
    unfold formL at h
    split at h
    · simp at h
    · split at h
      · rename_i a b; exact ⟨by omega, b⟩
      · simp at h
  have H1 := rgrun_fn h2 x.al (by omega)
  have hW := wrg_some x.s x.al x.rs
  have hN := wrg_none x.s x.al x.rs h3
  have hlen := runs_len x.s x.al
  have hrl : (x.rs.map Rp.c).length = x.rs.length := List.length_map ..
  unfold wrgN
  generalize wrg x.s x.al x.rs = W at *
  generalize (runs x.s x.al).2 = o at *
  generalize (runs x.s x.al).1 = y at *
  have hol : (o.map Rp.c).length = o.length := List.length_map ..
  refine fn_ok (by kernel_rfl) ty_ok Tryz.func79 rfl (fun _ _ => Tryz.call79 _ _) rfl ?_
  intro hw
  clear hw
  repeat' ((conv => whnf); first | (with_reducible first | refine br_t ?_ | refine br_f ?_ | refine za ?_ | refine zg ?_) | refine zp ?_ | refine zq ?_ | (with_reducible first | refine bc (fun h => ?_) (fun h => ?_) | refine zt ?_ | refine zf ?_ | refine br_i (fun h => ?_) (fun h => ?_)) | refine zg ?_ | refine zi ?_ | refine zb ?_)
  refine loop_J (by kernel_rfl) ty_ok (σ := Nat) (fun i => [(5, sV (.int .i64 i))]) (fun _ => []) (fun i => i ≤ o.length ∧ ∀ j (k1 : j < o.length) (k2 : j < x.rs.length), j < i → o[j] = x.rs[j]) (fun i => o.length - i) 0 ⟨Nat.zero_le _, fun j _ _ h => absurd h (Nat.not_lt_zero _)⟩ ?_ ?_
  · (conv => whnf); exact zent
  rintro i ⟨hi, hI⟩
  rcases Nat.lt_or_ge i o.length with hlt | hge
  · have hlt2 : i < x.rs.length := by omega
    have g1 := rps_get hlt
    have g2 := rps_get hlt2
    have HS := roSame_fn o[i] x.rs[i]
    by_cases hc : o[i] = x.rs[i]
    · rw [decide_eq_true hc] at HS
      have hn : ∀ j (k1 : j < o.length) (k2 : j < x.rs.length), j < i + 1 → o[j] = x.rs[j] := fun j k1 k2 hj => by
        rcases Nat.lt_or_ge j i with h | h
        · exact hI j k1 k2 h
        · obtain rfl : j = i := by omega
          exact hc
      clear hc hI hW hN
      generalize o[i] = a at *
      generalize x.rs[i] = b at *
      repeat' ((conv => whnf); first | (with_reducible first | refine br_t ?_ | refine br_f ?_ | refine za ?_ | refine zg ?_) | rw [hol] | rw [hrl] | refine zp ?_ | refine zq ?_ | (with_reducible first | refine bc (fun h => ?_) (fun h => ?_) | refine zt ?_ | refine zf ?_ | refine br_i (fun h => ?_) (fun h => ?_)) | refine zg ?_ | refine zi ?_ | refine zb ?_)
      all_goals conv => whnf
      refine ⟨i + 1, ⟨by omega, hn⟩, ?_, by omega⟩
      (conv => whnf); exact zent
    · rw [decide_eq_false hc] at HS
      rw [(hW i h3).2 ⟨hlt, hlt2, hc, hI⟩]
      clear hc hI hW hN
      generalize o[i] = a at *
      generalize x.rs[i] = b at *
      repeat' ((conv => whnf); first | (with_reducible first | refine br_t ?_ | refine br_f ?_ | refine za ?_ | refine zg ?_) | rw [hol] | rw [hrl] | refine zp ?_ | refine zq ?_ | (with_reducible first | refine bc (fun h => ?_) (fun h => ?_) | refine zt ?_ | refine zf ?_ | refine br_i (fun h => ?_) (fun h => ?_)) | refine zg ?_ | refine zi ?_ | refine zb ?_)
      all_goals conv => whnf
      all_goals rfl
  · have e : W = none := hN.2 (List.ext_getElem (by omega) fun j k1 k2 => hI j k1 k2 (by omega))
    rw [e]
    clear hI hW hN
    repeat' ((conv => whnf); first | (with_reducible first | refine br_t ?_ | refine br_f ?_ | refine za ?_ | refine zg ?_) | rw [hol] | refine zp ?_ | refine zq ?_ | (with_reducible first | refine bc (fun h => ?_) (fun h => ?_) | refine zt ?_ | refine zf ?_ | refine br_i (fun h => ?_) (fun h => ?_)) | refine zg ?_ | refine zi ?_ | refine zb ?_)
    all_goals conv => whnf
    all_goals rfl
theorem rgCheck_fn (x : Lg) : FnOK Tryz.prog 38 [x.dc] (ret1 (lchk x)) := by
  have H := rgFormed_fn x
  unfold lchk
  by_cases h : formL x = 0
  · rw [if_pos h]
    have H2 := rgwrong_fn h
    rw [h] at H
    unfold wrgN at H2
    cases hw : wrg x.s x.al x.rs with
    | none =>
      rw [hw] at H2
      simp only at H2
      rw [if_pos rfl]
      refine fn_ok (by kernel_rfl) ty_ok Tryz.func38 rfl (fun _ _ => Tryz.call38 _ _) rfl ?_
      intro hw
      clear hw
      exact zw
    | some i =>
      rw [hw] at H2
      simp only at H2
      rw [if_neg (by simp)]
      refine fn_ok (by kernel_rfl) ty_ok Tryz.func38 rfl (fun _ _ => Tryz.call38 _ _) rfl ?_
      intro hw
      clear hw
      exact zw
  · rw [if_neg h]
    generalize formL x = z at *
    refine fn_ok (by kernel_rfl) ty_ok Tryz.func38 rfl (fun _ _ => Tryz.call38 _ _) rfl ?_
    intro hw
    clear hw
    exact zw
theorem rgWrong_fn (x : Lg) : FnOK Tryz.prog 35 [x.dc] (ret2 (wrongV x)) := by
  have H := rgFormed_fn x
  unfold wrongV
  by_cases h : formL x = 0
  · rw [if_pos h]
    have H2 := rgwrong_fn h
    rw [h] at H
    unfold wrgN at H2
    unfold wrgI
    cases hw : wrg x.s x.al x.rs with
    | none =>
      rw [hw] at H2
      simp only at H2
      refine fn_ok (by kernel_rfl) ty_ok Tryz.func35 rfl (fun _ _ => Tryz.call35 _ _) rfl ?_
      intro hw
      clear hw
      exact zw
    | some i =>
      rw [hw] at H2
      simp only at H2
      refine fn_ok (by kernel_rfl) ty_ok Tryz.func35 rfl (fun _ _ => Tryz.call35 _ _) rfl ?_
      intro hw
      clear hw
      exact zw
  · rw [if_neg h]
    generalize formL x = z at *
    refine fn_ok (by kernel_rfl) ty_ok Tryz.func35 rfl (fun _ _ => Tryz.call35 _ _) rfl ?_
    intro hw
    clear hw
    exact zw
theorem Lg.eq_iff {x y : Lg} : x = y ↔ x.s = y.s ∧ x.al = y.al ∧ x.rs = y.rs := by
  cases x; cases y; simp
theorem rgSame_fn (x y : Lg) : FnOK Tryz.prog 36 [x.dc, y.dc] (.c (.one (bol (decide (x = y))))) := by
  have H1 := roSameModel_fn x.s y.s
  have H2 := r36SameAsks_fn x.al y.al
  have H3 := roSameAll_fn x.rs y.rs
  have e := Lg.eq_iff (x := x) (y := y)
  by_cases c1 : x.s = y.s
  · rw [decide_eq_true c1] at H1
    by_cases c2 : x.al = y.al
    · rw [decide_eq_true c2] at H2
      by_cases c3 : x.rs = y.rs
      · rw [decide_eq_true c3] at H3
        rw [decide_eq_true (e.2 ⟨c1, c2, c3⟩)]
        clear c1 c2 c3 e
        refine fn_ok (by kernel_rfl) ty_ok Tryz.func36 rfl (fun _ _ => Tryz.call36 _ _) rfl ?_
        intro hw
        clear hw
        exact zw
      · rw [decide_eq_false c3] at H3
        rw [decide_eq_false (fun h => c3 (e.1 h).2.2)]
        clear c1 c2 c3 e
        refine fn_ok (by kernel_rfl) ty_ok Tryz.func36 rfl (fun _ _ => Tryz.call36 _ _) rfl ?_
        intro hw
        clear hw
        exact zw
    · rw [decide_eq_false c2] at H2
      rw [decide_eq_false (fun h => c2 (e.1 h).2.1)]
      clear c1 c2 e H3
      refine fn_ok (by kernel_rfl) ty_ok Tryz.func36 rfl (fun _ _ => Tryz.call36 _ _) rfl ?_
      intro hw
      clear hw
      exact zw
  · rw [decide_eq_false c1] at H1
    rw [decide_eq_false (fun h => c1 (e.1 h).1)]
    clear c1 e H2 H3
    refine fn_ok (by kernel_rfl) ty_ok Tryz.func36 rfl (fun _ _ => Tryz.call36 _ _) rfl ?_
    intro hw
    clear hw
    exact zw
theorem rgTwin_own (x : Lg) (h1 : x.s.l.length ≤ 1000000) (h2 : x.al.length ≤ 1000000) (h3 : x.rs.length ≤ 1000000) (h4 : ∀ r ∈ x.rs, r.ms.length ≤ 1000000) : FnOwn Tryz.prog 31 [x.dc] ⟨.c x.dc, 0, 4, 6, x.rs.map Rp.c⟩ := by
  have HT := roTwin_fn x.s h1
  have hal : (x.al.map Ak.c).length = x.al.length := List.length_map ..
  have hrl : (x.rs.map Rp.c).length = x.rs.length := List.length_map ..
  refine fn_own (by kernel_rfl) (ty_okK [35] [] [] []) Tryz.func31 rfl (fun _ _ => Tryz.call31 _ _) rfl ?_
  intro hw
  clear hw
  repeat' ((conv => whnf); first | (with_reducible first | refine br_t ?_ | refine br_f ?_ | refine za ?_ | refine zg ?_ | refine zo ?_) | rw [hal] | refine zp ?_ | refine zq ?_ | (with_reducible first | refine bc (fun h => ?_) (fun h => ?_) | refine zt ?_ | refine zf ?_ | refine br_i (fun h => ?_) (fun h => ?_)) | refine zg ?_ | refine zi ?_ | refine zb ?_ | refine zl ?_)
  refine loop_nameH 3 4 100 rfl rfl rfl ?_
  refine loop_J (by kernel_rfl) (ty_okK [35] [] [] []) (σ := Nat) (fun i => [(4, sV (.int .i64 i))]) (fun i => [(3, .own [.d (i64 x.s.n), .d (i64 x.s.d), .d (pts x.s.l), .d (aks x.al), .osl 100 0]), (100, .row 6 ((x.rs.take i).map Rp.c) 0)]) (fun i => i ≤ x.rs.length) (fun i => x.rs.length - i) 0 (Nat.zero_le _) ?_ ?_
  · (conv => whnf); exact zent
  intro i hi
  have hlen : ((x.rs.take i).map Rp.c).length = i := by rw [List.length_map, List.length_take]; omega
  rcases Nat.lt_or_ge i x.rs.length with hlt | hge
  · have g1 := rps_get hlt
    have hm := h4 _ (List.getElem_mem hlt)
    have hml : ((x.rs[i]).ms.map Mt.c).length = (x.rs[i]).ms.length := List.length_map ..
    have hs : (x.rs.take i).map Rp.c ++ [[i64 x.rs[i].e, i64 x.rs[i].i, i64 x.rs[i].j, i64 x.rs[i].n, i64 x.rs[i].d, mts x.rs[i].ms]] = (x.rs.take (i + 1)).map Rp.c := by rw [List.take_succ_eq_append_getElem hlt, List.map_append]; rfl
    generalize x.rs[i] = r at *
    repeat' ((conv => whnf); first | (with_reducible first | refine br_t ?_ | refine br_f ?_ | refine za ?_ | refine zg ?_ | refine zo ?_) | rw [hlen] | rw [hml] | rw [hrl] | refine zp ?_ | refine zq ?_ | (with_reducible first | refine bc (fun h => ?_) (fun h => ?_) | refine zt ?_ | refine zf ?_ | refine br_i (fun h => ?_) (fun h => ?_)) | refine zg ?_ | refine zi ?_ | refine zb ?_ | refine zl ?_)
    all_goals conv => whnf
    refine ⟨i + 1, by omega, ?_, by omega⟩
    (conv => whnf); refine ⟨by repeat' (first | with_reducible exact zE0 | with_reducible refine zE1 ?_ ?_ | rfl | assumption | ((exact congrArg (fun x => some (Blk.row 6 x 0)) hs)) | exact zi1 | exact zb1), by repeat' (first | with_reducible exact zH0 | with_reducible refine zH1 ?_ ?_ | rfl | assumption | ((exact congrArg (fun x => some (Blk.row 6 x 0)) hs))), rfl⟩
  · rw [List.take_of_length_le hge]
    repeat' ((conv => whnf); first | (with_reducible first | refine br_t ?_ | refine br_f ?_ | refine za ?_ | refine zg ?_ | refine zo ?_) | rw [hrl] | refine zp ?_ | refine zq ?_ | (with_reducible first | refine bc (fun h => ?_) (fun h => ?_) | refine zt ?_ | refine zf ?_ | refine br_i (fun h => ?_) (fun h => ?_)) | refine zg ?_ | refine zi ?_ | refine zb ?_ | refine zl ?_)
    all_goals conv => whnf
    exact .inl ⟨100, 0, _, rfl, rfl, rfl⟩
theorem rgTwin_fn (x : Lg) (h1 : x.s.l.length ≤ 1000000) (h2 : x.al.length ≤ 1000000) (h3 : x.rs.length ≤ 1000000) (h4 : ∀ r ∈ x.rs, r.ms.length ≤ 1000000) : FnOK Tryz.prog 31 [x.dc] (.c x.dc) := ok_of_ownA rfl (rgTwin_own x h1 h2 h3 h4)
end Go.Proofs.YtepmgbmnghiaoaaGreat
