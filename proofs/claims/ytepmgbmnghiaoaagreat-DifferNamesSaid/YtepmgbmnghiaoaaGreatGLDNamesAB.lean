import Derived.Test.YtepmgbmnghiaoaaGreatGLDNamesAA
import Derived.Test.YtepmgbmnghiaoaaGreatGcAZ
import Derived.Test.YtepmgbmnghiaoaaGreatRows
import Derived.Test.YtepmgbmnghiaoaaGreatGcAB
set_option linter.all false
namespace Go.Proofs.YtepmgbmnghiaoaaGreat
open Go Go.RowKit Go.Sort Sx
abbrev retU (x : List Uk × Int) : DV := .tup [.one (uks x.1), .one (i64 x.2)]
abbrev retKs (x : List Ak × Int) : DV := .tup [.one (aks x.1), .one (i64 x.2)]
theorem uns_get {l : List Un} {i : Nat} (h : i < l.length) : (l.map Un.c)[((i : Nat) : Int).toNat]? = some [u8 l[i].k, i64 l[i].id, i64 l[i].p.id, i64 l[i].p.a, i64 l[i].p.b] := by
  rw [Int.toNat_natCast, List.getElem?_map, List.getElem?_eq_getElem h]; rfl
theorem uks_get {l : List Uk} {i : Nat} (h : i < l.length) : (l.map Uk.c)[((i : Nat) : Int).toNat]? = some [u8 l[i].k, i64 l[i].id] := by
  rw [Int.toNat_natCast, List.getElem?_map, List.getElem?_eq_getElem h]; rfl
theorem rowU_succ {P : List Uk} {U : List Un} {i : Nat} (h : i < U.length) : (P ++ (U.take i).map Un.u).map Uk.c ++ [[u8 U[i].k, i64 U[i].id]] = (P ++ (U.take (i + 1)).map Un.u).map Uk.c := by
  rw [List.take_succ_eq_append_getElem h, List.map_append, List.map_append, List.map_append, List.map_append, List.append_assoc]; rfl
theorem both_len {m n : Md} (h : bothV m n = 0) : m.l.length ≤ 64 ∧ n.l.length ≤ 64 := by
  obtain ⟨h1, h2⟩ := both_ok h
  exact ⟨(fchk_ok (mchk_ok h1).2).1, (fchk_ok (mchk_ok h2).2).1⟩
set_option maxRecDepth 100000 in
set_option maxHeartbeats 4000000 in
theorem dAll_fn (m n : Md) : FnOK Tryz.prog 48 [m.dc, n.dc] (retU (allV m n)) := by
  have H0 := dboth_fn m n
  unfold allV
  by_cases h : bothV m n = 0
  · rw [if_pos h]
    rw [h] at H0
    obtain ⟨b1, b2⟩ := both_len h
    have HM := dmerge_fn m n (by omega) (by omega)
    have hlen := mrg_len m.l n.l
    unfold allU nowU
    generalize mrg m.l n.l = U at *
    have hul : (U.map Un.c).length = U.length := List.length_map ..
    by_cases c : m.n = n.n ∧ m.d = n.d
    · rw [if_pos c]
      obtain ⟨c1, c2⟩ := c
      refine fn_ok (by kernel_rfl) (ty_okK [7, 24, 37] [] [] []) Tryz.func48 rfl (fun _ _ => Tryz.call48 _ _) rfl ?_
      intro hw
      clear hw
      repeat' ((conv => whnf); first | (with_reducible first | refine br_t ?_ | refine br_f ?_ | refine za ?_ | refine zg ?_ | refine zo ?_) | rw [hul] | refine zp ?_ | refine zq ?_ | (with_reducible first | refine bc (fun h => ?_) (fun h => ?_) | refine zt ?_ | refine zf ?_ | refine br_i (fun h => ?_) (fun h => ?_) | refine xi (pv_bool fun _ => nev23 _ _ _ _ _ _ _) ?_) | refine zg ?_ | refine zi ?_ | refine zb ?_ | refine zl ?_)
      clear H0 HM
      refine loop_J (by kernel_rfl) (ty_okK [7, 24, 37] [] [] []) (σ := Nat) (fun i => [(29, sV (.int .i64 i)), (7, .c (.at (.osl 7 0)))]) (fun i => [(7, .row 2 ((([] : List Uk) ++ (U.take i).map Un.u).map Uk.c) 0)]) (fun i => i ≤ U.length) (fun i => U.length - i) 0 (Nat.zero_le _) ?_ ?_
      · (conv => whnf); exact zent
      intro i hi
      have hl : ((([] : List Uk) ++ (U.take i).map Un.u).map Uk.c).length = i := by simp; omega
      rcases Nat.lt_or_ge i U.length with hlt | hge
      · have g1 := uns_get hlt
        have hs := rowU_succ (P := []) hlt
        repeat' ((conv => whnf); first | (with_reducible first | refine br_t ?_ | refine br_f ?_ | refine za ?_ | refine zg ?_ | refine zo ?_) | rw [hl] | rw [hul] | refine zp ?_ | refine zq ?_ | (with_reducible first | refine bc (fun h => ?_) (fun h => ?_) | refine zt ?_ | refine zf ?_ | refine br_i (fun h => ?_) (fun h => ?_) | refine xi (pv_bool fun _ => nev23 _ _ _ _ _ _ _) ?_) | refine zg ?_ | refine zi ?_ | refine zb ?_ | refine zl ?_)
        all_goals conv => whnf
        refine ⟨i + 1, by omega, ?_, by omega⟩
        (conv => whnf); refine ⟨by repeat' (first | with_reducible exact zE0 | with_reducible refine zE1 ?_ ?_ | rfl | assumption | ((exact congrArg (fun x => some (Blk.row 2 x 0)) hs)) | exact zi1 | exact zb1), by repeat' (first | with_reducible exact zH0 | with_reducible refine zH1 ?_ ?_ | rfl | assumption | ((exact congrArg (fun x => some (Blk.row 2 x 0)) hs))), rfl⟩
      · rw [List.take_of_length_le hge]
        repeat' ((conv => whnf); first | (with_reducible first | refine br_t ?_ | refine br_f ?_ | refine za ?_ | refine zg ?_ | refine zo ?_) | rw [hul] | refine zp ?_ | refine zq ?_ | (with_reducible first | refine bc (fun h => ?_) (fun h => ?_) | refine zt ?_ | refine zf ?_ | refine br_i (fun h => ?_) (fun h => ?_) | refine xi (pv_bool fun _ => nev23 _ _ _ _ _ _ _) ?_) | refine zg ?_ | refine zi ?_ | refine zb ?_ | refine zl ?_)
        all_goals conv => whnf
        all_goals rfl
    · rw [if_neg c]
      have c' : ¬ (m.n = n.n ∧ m.d = n.d) := c
      refine fn_ok (by kernel_rfl) (ty_okK [7, 24, 37] [] [] []) Tryz.func48 rfl (fun _ _ => Tryz.call48 _ _) rfl ?_
      intro hw
      clear hw
      repeat' ((conv => whnf); first | (with_reducible first | refine br_t ?_ | refine br_f ?_ | refine za ?_ | refine zg ?_ | refine zo ?_) | rw [hul] | refine zp ?_ | refine zq ?_ | (with_reducible first | refine bc (fun h => ?_) (fun h => ?_) | refine zt ?_ | refine zf ?_ | refine br_i (fun h => ?_) (fun h => ?_) | refine xi (pv_bool fun _ => nev23 _ _ _ _ _ _ _) ?_) | refine zg ?_ | refine zi ?_ | refine zb ?_ | refine zl ?_)
      clear H0 HM
      refine loop_keep [4, 5, 7, 27, 28, 29] ?_
      conv => whnf
      refine loop_J (by kernel_rfl) (ty_okK [7, 24, 37] [] [] []) (σ := Nat) (fun i => [(29, sV (.int .i64 i)), (7, .c (.at (.osl 7 0)))]) (fun i => [(7, .row 2 ((([⟨1, 0⟩] : List Uk) ++ (U.take i).map Un.u).map Uk.c) 0)]) (fun i => i ≤ U.length) (fun i => U.length - i) 0 (Nat.zero_le _) ?_ ?_
      · (conv => whnf); exact zent
      intro i hi
      have hl : ((([⟨1, 0⟩] : List Uk) ++ (U.take i).map Un.u).map Uk.c).length = i + 1 := by simp; omega
      rcases Nat.lt_or_ge i U.length with hlt | hge
      · have g1 := uns_get hlt
        have hs := rowU_succ (P := [⟨1, 0⟩]) hlt
        repeat' ((conv => whnf); first | (with_reducible first | refine br_t ?_ | refine br_f ?_ | refine za ?_ | refine zg ?_ | refine zo ?_) | rw [hl] | rw [hul] | refine zp ?_ | refine zq ?_ | (with_reducible first | refine bc (fun h => ?_) (fun h => ?_) | refine zt ?_ | refine zf ?_ | refine br_i (fun h => ?_) (fun h => ?_) | refine xi (pv_bool fun _ => nev23 _ _ _ _ _ _ _) ?_) | refine zg ?_ | refine zi ?_ | refine zb ?_ | refine zl ?_)
        all_goals conv => whnf
        refine ⟨i + 1, by omega, ?_, by omega⟩
        (conv => whnf); refine ⟨by repeat' (first | with_reducible exact zE0 | with_reducible refine zE1 ?_ ?_ | rfl | assumption | ((exact congrArg (fun x => some (Blk.row 2 x 0)) hs)) | exact zi1 | exact zb1), by repeat' (first | with_reducible exact zH0 | with_reducible refine zH1 ?_ ?_ | rfl | assumption | ((exact congrArg (fun x => some (Blk.row 2 x 0)) hs))), rfl⟩
      · rw [List.take_of_length_le hge]
        repeat' ((conv => whnf); first | (with_reducible first | refine br_t ?_ | refine br_f ?_ | refine za ?_ | refine zg ?_ | refine zo ?_) | rw [hul] | refine zp ?_ | refine zq ?_ | (with_reducible first | refine bc (fun h => ?_) (fun h => ?_) | refine zt ?_ | refine zf ?_ | refine br_i (fun h => ?_) (fun h => ?_) | refine xi (pv_bool fun _ => nev23 _ _ _ _ _ _ _) ?_) | refine zg ?_ | refine zi ?_ | refine zb ?_ | refine zl ?_)
        all_goals conv => whnf
        all_goals rfl
  · rw [if_neg h]
    rw [(both_08 m n).resolve_left h] at H0
    refine fn_ok (by kernel_rfl) ty_ok Tryz.func48 rfl (fun _ _ => Tryz.call48 _ _) rfl ?_
    intro hw
    clear hw
    repeat' ((conv => whnf); first | (with_reducible first | refine br_t ?_ | refine br_f ?_ | refine za ?_ | refine zg ?_) | refine zp ?_ | refine zq ?_ | (with_reducible first | refine bc (fun h => ?_) (fun h => ?_) | refine zt ?_ | refine zf ?_ | refine br_i (fun h => ?_) (fun h => ?_) | refine xi (pv_bool fun _ => nev23 _ _ _ _ _ _ _) ?_) | refine zg ?_ | refine zi ?_ | refine zb ?_)
    all_goals conv => whnf
    all_goals rfl
theorem dFirst_fn (m n : Md) : FnOK Tryz.prog 56 [m.dc, n.dc] (.tup [(firstV m n).1.dc, .one (i64 (firstV m n).2)]) := by
  have H := dAll_fn m n
  unfold firstV
  unfold allV at H
  by_cases h : bothV m n = 0
  · rw [if_pos h] at H ⊢
    cases hU : allU m n with
    | nil =>
      rw [hU] at H
      simp only [retU, List.map_nil] at H
      dsimp only
      refine fn_ok (by kernel_rfl) ty_ok Tryz.func56 rfl (fun _ _ => Tryz.call56 _ _) rfl ?_
      intro hw
      clear hw
      exact zw
    | cons u r =>
      rw [hU] at H
      simp only [retU] at H
      dsimp only
      have g : ((u :: r).map Uk.c)[(0 : Int).toNat]? = some [u8 u.k, i64 u.id] := rfl
      have hl : ((u :: r).map Uk.c).length = r.length + 1 := by simp
      refine fn_ok (by kernel_rfl) ty_ok Tryz.func56 rfl (fun _ _ => Tryz.call56 _ _) rfl ?_
      intro hw
      clear hw
      repeat' ((conv => whnf); first | (with_reducible first | refine br_t ?_ | refine br_f ?_ | refine za ?_ | refine zg ?_) | rw [hl] | refine zp ?_ | refine zq ?_ | (with_reducible first | refine bc (fun h => ?_) (fun h => ?_) | refine zt ?_ | refine zf ?_ | refine br_i (fun h => ?_) (fun h => ?_)) | refine zg ?_ | refine zi ?_ | refine zb ?_)
      all_goals conv => whnf
      all_goals rfl
  · rw [if_neg h] at H ⊢
    refine fn_ok (by kernel_rfl) ty_ok Tryz.func56 rfl (fun _ _ => Tryz.call56 _ _) rfl ?_
    intro hw
    clear hw
    exact zw
theorem Md.eq_iff {m n : Md} : m = n ↔ (m.n = n.n ∧ m.d = n.d) ∧ m.l = n.l := by
  cases m; cases n; simp [and_assoc]
theorem dSame_fn (m n : Md) : FnOK Tryz.prog 49 [m.dc, n.dc] (.tup [.one (bol (sameV m n).1), .one (i64 (sameV m n).2)]) := by
  have H0 := dboth_fn m n
  have HE := eqPt_fn m.l n.l
  have he := Md.eq_iff (m := m) (n := n)
  unfold sameV
  by_cases h : bothV m n = 0
  · rw [if_pos h]
    rw [h] at H0
    by_cases c : m.l = n.l
    · rw [decide_eq_true c] at HE
      simp only [c, and_true] at he
      by_cases c1 : m.n = n.n ∧ m.d = n.d
      · rw [decide_eq_true (he.2 c1)]
        obtain ⟨c1, c2⟩ := c1
        clear c he
        refine fn_ok (by kernel_rfl) ty_ok Tryz.func49 rfl (fun _ _ => Tryz.call49 _ _) rfl ?_
        intro hw
        clear hw
        repeat' ((conv => whnf); first | (with_reducible first | refine br_t ?_ | refine br_f ?_ | refine za ?_ | refine zg ?_) | refine zp ?_ | refine zq ?_ | (with_reducible first | refine bc (fun h => ?_) (fun h => ?_) | refine zt ?_ | refine zf ?_ | refine br_i (fun h => ?_) (fun h => ?_) | refine xi (pv_bool fun _ => eqv23 _ _ _ _ _ _ _) ?_) | refine zg ?_ | refine zi ?_ | refine zb ?_)
        all_goals conv => whnf
        all_goals rfl
      · rw [decide_eq_false (fun e => c1 (he.1 e))]
        clear c he
        refine fn_ok (by kernel_rfl) ty_ok Tryz.func49 rfl (fun _ _ => Tryz.call49 _ _) rfl ?_
        intro hw
        clear hw
        repeat' ((conv => whnf); first | (with_reducible first | refine br_t ?_ | refine br_f ?_ | refine za ?_ | refine zg ?_) | refine zp ?_ | refine zq ?_ | (with_reducible first | refine bc (fun h => ?_) (fun h => ?_) | refine zt ?_ | refine zf ?_ | refine br_i (fun h => ?_) (fun h => ?_) | refine xi (pv_bool fun _ => eqv23 _ _ _ _ _ _ _) ?_) | refine zg ?_ | refine zi ?_ | refine zb ?_)
        all_goals conv => whnf
        all_goals rfl
    · rw [decide_eq_false c] at HE
      rw [decide_eq_false (fun e => c (he.1 e).2)]
      clear c he
      refine fn_ok (by kernel_rfl) ty_ok Tryz.func49 rfl (fun _ _ => Tryz.call49 _ _) rfl ?_
      intro hw
      clear hw
      repeat' ((conv => whnf); first | (with_reducible first | refine br_t ?_ | refine br_f ?_ | refine za ?_ | refine zg ?_) | refine zp ?_ | refine zq ?_ | (with_reducible first | refine bc (fun h => ?_) (fun h => ?_) | refine zt ?_ | refine zf ?_ | refine br_i (fun h => ?_) (fun h => ?_) | refine xi (pv_bool fun _ => eqv23 _ _ _ _ _ _ _) ?_) | refine zg ?_ | refine zi ?_ | refine zb ?_)
      all_goals conv => whnf
      all_goals rfl
  · rw [if_neg h]
    rw [(both_08 m n).resolve_left h] at H0
    clear HE he
    refine fn_ok (by kernel_rfl) ty_ok Tryz.func49 rfl (fun _ _ => Tryz.call49 _ _) rfl ?_
    intro hw
    clear hw
    repeat' ((conv => whnf); first | (with_reducible first | refine br_t ?_ | refine br_f ?_ | refine za ?_ | refine zg ?_) | refine zp ?_ | refine zq ?_ | (with_reducible first | refine bc (fun h => ?_) (fun h => ?_) | refine zt ?_ | refine zf ?_ | refine br_i (fun h => ?_) (fun h => ?_) | refine xi (pv_bool fun _ => eqv23 _ _ _ _ _ _ _) ?_) | refine zg ?_ | refine zi ?_ | refine zb ?_)
    all_goals conv => whnf
    all_goals rfl
theorem tk_succ {U : List Un} {i : Nat} (h : i < U.length) : tkA (U.take (i + 1)) = tkA (U.take i) ++ if U[i].k = 2 then [⟨2, ⟨0, 0, 0⟩, U[i].id, 0, 0⟩] else [] := by
  unfold tkA; rw [List.take_succ_eq_append_getElem h, List.filter_append, List.map_append]
  by_cases c : U[i].k = 2 <;> simp [c]
theorem ch_succ {U : List Un} {i : Nat} (h : i < U.length) : chA (U.take (i + 1)) = chA (U.take i) ++ if U[i].k = 4 then [⟨3, U[i].p, 0, 0, 0⟩] else [] := by
  unfold chA; rw [List.take_succ_eq_append_getElem h, List.filter_append, List.map_append]
  by_cases c : U[i].k = 4 <;> simp [c]
theorem pt_succ {U : List Un} {i : Nat} (h : i < U.length) : ptA (U.take (i + 1)) = ptA (U.take i) ++ if U[i].k = 3 then [⟨1, U[i].p, 0, 0, 0⟩] else [] := by
  unfold ptA; rw [List.take_succ_eq_append_getElem h, List.filter_append, List.map_append]
  by_cases c : U[i].k = 3 <;> simp [c]
theorem part_len (U : List Un) (i : Nat) : (tkA (U.take i)).length ≤ U.length ∧ (chA (U.take i)).length ≤ U.length ∧ (ptA (U.take i)).length ≤ U.length := by
  unfold tkA chA ptA
  simp only [List.length_map]
  have k : ∀ p : Un → Bool, ((U.take i).filter p).length ≤ U.length := fun p => Nat.le_trans (List.length_filter_le ..) (by rw [List.length_take]; omega)
  exact ⟨k _, k _, k _⟩
theorem part_get (U : List Un) (h : ∀ u ∈ U, u.k = 2 ∨ u.k = 3 ∨ u.k = 4) {i : Nat} (hi : i < U.length) : U[i].k = 2 ∨ U[i].k = 4 ∨ U[i].k = 3 := by
  have := h _ (List.getElem_mem hi); omega
set_option maxRecDepth 100000 in
set_option maxHeartbeats 8000000 in
theorem dAsks_fn (m n : Md) : FnOK Tryz.prog 50 [m.dc, n.dc] (retKs (asksV m n)) := by
  have H0 := dboth_fn m n
  unfold asksV
  by_cases h : bothV m n = 0
  · rw [if_pos h]
    rw [h] at H0
    obtain ⟨b1, b2⟩ := both_len h
    obtain ⟨hm, hn⟩ := both_ok h
    have q1 := (askd_ok (mchk_ok hm).1).1
    have q2 := (askd_ok (mchk_ok hn).1).1
    have HC := cmp_chk q2 q1
    have hcc := cmpN_cases (n.n * m.d) (m.n * n.d)
    have heq : n.n * m.d = m.n * n.d ↔ m.n = n.n ∧ m.d = n.d := by
      constructor
      · intro e
        have l1 : ¬ qv m.n m.d < qv n.n n.d := fun h => by have := (qv_ltM q1 q2).1 h; omega
        have l2 : ¬ qv n.n n.d < qv m.n m.d := fun h => by have := (qv_ltM q2 q1).1 h; omega
        exact (qv_inj q1 q2).1 (Rat.le_antisymm (Rat.not_lt.1 l2) (Rat.not_lt.1 l1))
      · rintro ⟨e1, e2⟩
        rw [e1, e2]
    by_cases hlt : n.n * m.d < m.n * n.d
    · rw [if_pos hlt]
      have hc : cmpN (n.n * m.d) (m.n * n.d) = -1 := by omega
      rw [hc] at HC
      clear hcc heq hlt
      refine fn_ok (by kernel_rfl) ty_ok Tryz.func50 rfl (fun _ _ => Tryz.call50 _ _) rfl ?_
      intro hw
      clear hw
      exact zw
    · rw [if_neg hlt]
      have HM := dmerge_fn m n (by omega) (by omega)
      have hlen := mrg_len m.l n.l
      have hk : ∀ u ∈ mrg m.l n.l, u.k = 2 ∨ u.k = 3 ∨ u.k = 4 := fun u hu => mrg_kinds hu
      unfold asksL mvA
      generalize mrg m.l n.l = U at *
      have hul : (U.map Un.c).length = U.length := List.length_map ..
      have hpl := part_len U U.length
      rw [List.take_length] at hpl
      have HG := catAk_own [(tkA U).map Ak.c, (chA U).map Ak.c, (ptA U).map Ak.c] (by simp; omega) (by simp)
      have hfl : [(tkA U).map Ak.c, (chA U).map Ak.c, (ptA U).map Ak.c].flatten = (tkA U ++ chA U ++ ptA U).map Ak.c := by simp
      rw [hfl] at HG
      have hQl : ((tkA U ++ chA U ++ ptA U).map Ak.c).length = (tkA U ++ chA U ++ ptA U).length := List.length_map ..
      have hQ2 : (tkA U ++ chA U ++ ptA U).length ≤ 1000 := by simp; omega
      have HG' : FnOwn Tryz.prog 87 [.one (.list 1 [[.list 7 ((tkA U).map Ak.c)], [.list 7 ((chA U).map Ak.c)], [.list 7 ((ptA U).map Ak.c)]])] (ownL 7 ((tkA U ++ chA U ++ ptA U).map Ak.c)) := HG
      clear HG hfl
      have main : ∀ (Z : List Ak × Int), (if 120 < (tkA U ++ chA U ++ ptA U ++ if m.n = n.n ∧ m.d = n.d then [] else [(⟨4, ⟨0, 0, 0⟩, 0, n.n, n.d⟩ : Ak)]).length then ([], 4) else (tkA U ++ chA U ++ ptA U ++ (if m.n = n.n ∧ m.d = n.d then [] else [(⟨4, ⟨0, 0, 0⟩, 0, n.n, n.d⟩ : Ak)]), 0)) = Z → FnOK Tryz.prog 50 [m.dc, n.dc] (retKs Z) := fun Z hZ => by
        generalize tkA U ++ chA U ++ ptA U = Q at *
        have hs4 : Q.map Ak.c ++ [[u8 4, i64 0, i64 0, i64 0, i64 0, i64 n.n, i64 n.d]] = (Q ++ [(⟨4, ⟨0, 0, 0⟩, 0, n.n, n.d⟩ : Ak)]).map Ak.c := by rw [List.map_append]; rfl
        generalize hcn : cmpN (n.n * m.d) (m.n * n.d) = cc at *
        refine fn_ok (by kernel_rfl) (ty_okK [9, 10, 11, 53, 61, 69, 75, 83] [] [] []) Tryz.func50 rfl (fun _ _ => Tryz.call50 _ _) rfl ?_
        intro hw
        clear hw
        repeat' ((conv => whnf); first | (with_reducible first | refine br_t ?_ | refine br_f ?_ | refine za ?_ | refine zg ?_ | refine zo ?_) | rw [hul] | refine zp ?_ | refine zq ?_ | (with_reducible first | refine bc (fun h => ?_) (fun h => ?_) | refine zt ?_ | refine zf ?_ | refine br_i (fun h => ?_) (fun h => ?_)) | refine zg ?_ | refine zi ?_ | refine zb ?_ | refine zl ?_)
        refine loop_frz [9, 10, 11] ?_
        refine loop_J (by kernel_rfl) (ty_okK [9, 10, 11, 53, 61, 69, 75, 83] [] [] []) (σ := Nat) (fun i => [(38, sV (.int .i64 i)), (9, .c (.at (.osl 9 0))), (10, .c (.at (.osl 10 0))), (11, .c (.at (.osl 11 0)))]) (fun i => [(9, .row 7 ((tkA (U.take i)).map Ak.c) 0), (10, .row 7 ((chA (U.take i)).map Ak.c) 0), (11, .row 7 ((ptA (U.take i)).map Ak.c) 0)]) (fun i => i ≤ U.length) (fun i => U.length - i) 0 (Nat.zero_le _) ?_ ?_
        · (conv => whnf); exact zent
        intro i hi
        have p1 : (tkA (U.take i)).length ≤ U.length := (part_len U i).1
        have p2 : (chA (U.take i)).length ≤ U.length := (part_len U i).2.1
        have p3 : (ptA (U.take i)).length ≤ U.length := (part_len U i).2.2
        rcases Nat.lt_or_ge i U.length with hlt | hge
        · have g1 := uns_get hlt
          have t1 := tk_succ hlt
          have t2 := ch_succ hlt
          have t3 := pt_succ hlt
          clear HG' H0 HC HM
          rcases part_get U hk hlt with c | c | c
          · rw [if_pos c] at t1
            rw [if_neg (by omega), List.append_nil] at t2 t3
            have s1 : (tkA (U.take i)).map Ak.c ++ [[u8 2, i64 0, i64 0, i64 0, i64 U[i].id, i64 0, i64 0]] = (tkA (U.take (i + 1))).map Ak.c := by rw [t1, List.map_append]; rfl
            have s2 := congrArg (List.map Ak.c) t2
            have s3 := congrArg (List.map Ak.c) t3
            clear t1 t2 t3
            rw [c] at g1
            repeat' ((conv => whnf); first | (with_reducible first | refine br_t ?_ | refine br_f ?_ | refine za ?_ | refine zg ?_ | refine zo ?_) | refine zp ?_ | refine zq ?_ | (with_reducible first | refine bc (fun h => ?_) (fun h => ?_) | refine zt ?_ | refine zf ?_ | refine br_i (fun h => ?_) (fun h => ?_)) | refine zg ?_ | refine zi ?_ | refine zb ?_ | refine zl ?_)
            all_goals conv => whnf
            refine ⟨i + 1, by omega, ?_, by omega⟩
            (conv => whnf); refine ⟨by repeat' (first | with_reducible exact zE0 | with_reducible refine zE1 ?_ ?_ | rfl | assumption | (first | exact congrArg (fun x => some (Blk.row 7 x 0)) s1 | exact congrArg (fun x => some (Blk.row 7 x 0)) s2.symm | exact congrArg (fun x => some (Blk.row 7 x 0)) s3.symm) | exact zi1 | exact zb1), by repeat' (first | with_reducible exact zH0 | with_reducible refine zH1 ?_ ?_ | rfl | assumption | (first | exact congrArg (fun x => some (Blk.row 7 x 0)) s1 | exact congrArg (fun x => some (Blk.row 7 x 0)) s2.symm | exact congrArg (fun x => some (Blk.row 7 x 0)) s3.symm)), rfl⟩
          · rw [if_pos c] at t2
            rw [if_neg (by omega), List.append_nil] at t1 t3
            have s2 : (chA (U.take i)).map Ak.c ++ [[u8 3, i64 U[i].p.id, i64 U[i].p.a, i64 U[i].p.b, i64 0, i64 0, i64 0]] = (chA (U.take (i + 1))).map Ak.c := by rw [t2, List.map_append]; rfl
            have s1 := congrArg (List.map Ak.c) t1
            have s3 := congrArg (List.map Ak.c) t3
            clear t1 t2 t3
            rw [c] at g1
            repeat' ((conv => whnf); first | (with_reducible first | refine br_t ?_ | refine br_f ?_ | refine za ?_ | refine zg ?_ | refine zo ?_) | refine zp ?_ | refine zq ?_ | (with_reducible first | refine bc (fun h => ?_) (fun h => ?_) | refine zt ?_ | refine zf ?_ | refine br_i (fun h => ?_) (fun h => ?_)) | refine zg ?_ | refine zi ?_ | refine zb ?_ | refine zl ?_)
            all_goals conv => whnf
            refine ⟨i + 1, by omega, ?_, by omega⟩
            (conv => whnf); refine ⟨by repeat' (first | with_reducible exact zE0 | with_reducible refine zE1 ?_ ?_ | rfl | assumption | (first | exact congrArg (fun x => some (Blk.row 7 x 0)) s2 | exact congrArg (fun x => some (Blk.row 7 x 0)) s1.symm | exact congrArg (fun x => some (Blk.row 7 x 0)) s3.symm) | exact zi1 | exact zb1), by repeat' (first | with_reducible exact zH0 | with_reducible refine zH1 ?_ ?_ | rfl | assumption | (first | exact congrArg (fun x => some (Blk.row 7 x 0)) s2 | exact congrArg (fun x => some (Blk.row 7 x 0)) s1.symm | exact congrArg (fun x => some (Blk.row 7 x 0)) s3.symm)), rfl⟩
          · rw [if_pos c] at t3
            rw [if_neg (by omega), List.append_nil] at t1 t2
            have s3 : (ptA (U.take i)).map Ak.c ++ [[u8 1, i64 U[i].p.id, i64 U[i].p.a, i64 U[i].p.b, i64 0, i64 0, i64 0]] = (ptA (U.take (i + 1))).map Ak.c := by rw [t3, List.map_append]; rfl
            have s1 := congrArg (List.map Ak.c) t1
            have s2 := congrArg (List.map Ak.c) t2
            clear t1 t2 t3
            rw [c] at g1
            repeat' ((conv => whnf); first | (with_reducible first | refine br_t ?_ | refine br_f ?_ | refine za ?_ | refine zg ?_ | refine zo ?_) | refine zp ?_ | refine zq ?_ | (with_reducible first | refine bc (fun h => ?_) (fun h => ?_) | refine zt ?_ | refine zf ?_ | refine br_i (fun h => ?_) (fun h => ?_)) | refine zg ?_ | refine zi ?_ | refine zb ?_ | refine zl ?_)
            all_goals conv => whnf
            refine ⟨i + 1, by omega, ?_, by omega⟩
            (conv => whnf); refine ⟨by repeat' (first | with_reducible exact zE0 | with_reducible refine zE1 ?_ ?_ | rfl | assumption | (first | exact congrArg (fun x => some (Blk.row 7 x 0)) s3 | exact congrArg (fun x => some (Blk.row 7 x 0)) s1.symm | exact congrArg (fun x => some (Blk.row 7 x 0)) s2.symm) | exact zi1 | exact zb1), by repeat' (first | with_reducible exact zH0 | with_reducible refine zH1 ?_ ?_ | rfl | assumption | (first | exact congrArg (fun x => some (Blk.row 7 x 0)) s3 | exact congrArg (fun x => some (Blk.row 7 x 0)) s1.symm | exact congrArg (fun x => some (Blk.row 7 x 0)) s2.symm)), rfl⟩
        · rw [List.take_of_length_le hge]
          clear p1 p2 p3 H0 HC HM
          by_cases ce : m.n = n.n ∧ m.d = n.d
          · have hc0 : cc = 0 := by have := heq.2 ce; omega
            rw [if_pos ce, List.append_nil] at hZ
            by_cases c1 : 120 < Q.length
            · rw [if_pos c1] at hZ
              subst hZ
              repeat' ((conv => whnf); first | (with_reducible first | refine br_t ?_ | refine br_f ?_ | refine za ?_ | refine zg ?_ | refine zo ?_) | rw [hul] | rw [hQl] | refine zp ?_ | refine zq ?_ | (with_reducible first | refine bc (fun h => ?_) (fun h => ?_) | refine zt ?_ | refine zf ?_ | refine br_i (fun h => ?_) (fun h => ?_)) | refine zg ?_ | refine zi ?_ | refine zb ?_ | refine zl ?_)
              all_goals conv => whnf
              all_goals rfl
            · rw [if_neg c1] at hZ
              subst hZ
              repeat' ((conv => whnf); first | (with_reducible first | refine br_t ?_ | refine br_f ?_ | refine za ?_ | refine zg ?_ | refine zo ?_) | rw [hul] | rw [hQl] | refine zp ?_ | refine zq ?_ | (with_reducible first | refine bc (fun h => ?_) (fun h => ?_) | refine zt ?_ | refine zf ?_ | refine br_i (fun h => ?_) (fun h => ?_)) | refine zg ?_ | refine zi ?_ | refine zb ?_ | refine zl ?_)
              all_goals conv => whnf
              all_goals rfl
          · have hc1 : cc = 1 := by
              have : ¬ n.n * m.d = m.n * n.d := fun e => ce (heq.1 e)
              omega
            rw [if_neg ce] at hZ
            have hl1 : (Q.map Ak.c ++ [[u8 4, i64 0, i64 0, i64 0, i64 0, i64 n.n, i64 n.d]]).length = Q.length + 1 := by simp
            have hl2 : (Q ++ [(⟨4, ⟨0, 0, 0⟩, 0, n.n, n.d⟩ : Ak)]).length = Q.length + 1 := by simp
            by_cases c1 : 120 < Q.length + 1
            · rw [if_pos (by omega)] at hZ
              subst hZ
              repeat' ((conv => whnf); first | (with_reducible first | refine br_t ?_ | refine br_f ?_ | refine za ?_ | refine zg ?_ | refine zo ?_) | rw [hul] | rw [hl1] | rw [hQl] | refine zp ?_ | refine zq ?_ | (with_reducible first | refine bc (fun h => ?_) (fun h => ?_) | refine zt ?_ | refine zf ?_ | refine br_i (fun h => ?_) (fun h => ?_)) | refine zg ?_ | refine zi ?_ | refine zb ?_ | refine zl ?_)
              all_goals conv => whnf
              all_goals rfl
            · rw [if_neg (by omega)] at hZ
              subst hZ
              repeat' ((conv => whnf); first | (with_reducible first | refine br_t ?_ | refine br_f ?_ | refine za ?_ | refine zg ?_ | refine zo ?_) | rw [hul] | rw [hl1] | rw [hQl] | refine zp ?_ | refine zq ?_ | (with_reducible first | refine bc (fun h => ?_) (fun h => ?_) | refine zt ?_ | refine zf ?_ | refine br_i (fun h => ?_) (fun h => ?_)) | refine zg ?_ | refine zi ?_ | refine zb ?_ | refine zl ?_)
              all_goals conv => whnf
              all_goals exact congrArg (fun x => DV.tup [.one (.list 7 x), .one (i64 0)]) hs4
      exact main _ rfl
  · rw [if_neg h]
    rw [(both_08 m n).resolve_left h] at H0
    refine fn_ok (by kernel_rfl) ty_ok Tryz.func50 rfl (fun _ _ => Tryz.call50 _ _) rfl ?_
    intro hw
    clear hw
    exact zw
end Go.Proofs.YtepmgbmnghiaoaaGreat

namespace Go.Proofs.YtepmgbmnghiaoaaGreat
open Go Go.RowKit Go.Sort Sx
theorem wd_uks {l : List Uk} (h : WD (uks l)) : l.length ≤ 9223372036854775807 := by
  obtain ⟨h1, _, h3⟩ := WD_list.1 h
  simpa using h1
theorem Uk.eq_iff {a b : Uk} : a = b ↔ a.k = b.k ∧ a.id = b.id := by
  cases a; cases b; simp
theorem rdSameAll_fn (a b : List Uk) : FnOK Tryz.prog 83 [.one (uks a), .one (uks b)] (.c (.one (bol (decide (a = b))))) := by
  have hla : (a.map Uk.c).length = a.length := List.length_map ..
  have hlb : (b.map Uk.c).length = b.length := List.length_map ..
  refine fn_ok (by kernel_rfl) ty_ok Tryz.func83 rfl (fun _ _ => Tryz.call83 _ _) rfl ?_
  intro hw
  simp only [WDCs, WDC, WDs] at hw
  have w1 := wd_uks hw.1
  have w2 := wd_uks hw.2.1
  clear hw
  by_cases h0 : a.length = b.length
  · repeat' ((conv => whnf); first | (with_reducible first | refine br_t ?_ | refine br_f ?_ | refine za ?_ | refine zg ?_) | rw [hla] | rw [hlb] | refine zp ?_ | refine zq ?_ | (with_reducible first | refine bc (fun h => ?_) (fun h => ?_) | refine zt ?_ | refine zf ?_ | refine br_i (fun h => ?_) (fun h => ?_) | refine xi (pv_bool fun _ => nev104 _ _ _ _ _ _ _) ?_) | refine zg ?_ | refine zi ?_ | refine zb ?_)
    refine loop_J (by kernel_rfl) ty_ok (σ := Nat) (fun i => [(5, sV (.int .i64 i))]) (fun _ => []) (fun i => i ≤ a.length ∧ a.take i = b.take i) (fun i => a.length - i) 0 ⟨by omega, rfl⟩ ?_ ?_
    · (conv => whnf); exact zent
    rintro i ⟨hi, hI⟩
    rcases Nat.lt_or_ge i a.length with hlt | hge
    · have hb : i < b.length := by omega
      have he1 := uks_get hlt
      have he2 := uks_get hb
      have hq := Uk.eq_iff (a := a[i]) (b := b[i])
      by_cases hc : a[i] = b[i]
      · have hn := take_succ_eq hI hlt hb hc
        have hq := hq.1 hc
        clear hc
        repeat' ((conv => whnf); first | (with_reducible first | refine br_t ?_ | refine br_f ?_ | refine za ?_ | refine zg ?_) | rw [hla] | rw [hlb] | refine zp ?_ | refine zq ?_ | (with_reducible first | refine bc (fun h => ?_) (fun h => ?_) | refine zt ?_ | refine zf ?_ | refine br_i (fun h => ?_) (fun h => ?_) | refine xi (pv_bool fun _ => nev104 _ _ _ _ _ _ _) ?_) | refine zg ?_ | refine zi ?_ | refine zb ?_)
        all_goals conv => whnf
        refine ⟨i + 1, ⟨by omega, hn⟩, ?_, by omega⟩
        (conv => whnf); exact zent
      · rw [decide_eq_false (ne_of_get hlt hb hc)]
        have hq : ¬ _ := fun h => hc (hq.2 h)
        clear hc
        repeat' ((conv => whnf); first | (with_reducible first | refine br_t ?_ | refine br_f ?_ | refine za ?_ | refine zg ?_) | rw [hla] | rw [hlb] | refine zp ?_ | refine zq ?_ | (with_reducible first | refine bc (fun h => ?_) (fun h => ?_) | refine zt ?_ | refine zf ?_ | refine br_i (fun h => ?_) (fun h => ?_) | refine xi (pv_bool fun _ => nev104 _ _ _ _ _ _ _) ?_) | refine zg ?_ | refine zi ?_ | refine zb ?_)
        all_goals conv => whnf
        all_goals rfl
    · rw [decide_eq_true (take_all_eq hI h0 hge)]
      repeat' ((conv => whnf); first | (with_reducible first | refine br_t ?_ | refine br_f ?_ | refine za ?_ | refine zg ?_) | rw [hla] | rw [hlb] | refine zp ?_ | refine zq ?_ | (with_reducible first | refine bc (fun h => ?_) (fun h => ?_) | refine zt ?_ | refine zf ?_ | refine br_i (fun h => ?_) (fun h => ?_) | refine xi (pv_bool fun _ => nev104 _ _ _ _ _ _ _) ?_) | refine zg ?_ | refine zi ?_ | refine zb ?_)
      all_goals conv => whnf
      all_goals rfl
  · rw [decide_eq_false (fun h => h0 (congrArg List.length h))]
    repeat' ((conv => whnf); first | (with_reducible first | refine br_t ?_ | refine br_f ?_ | refine za ?_ | refine zg ?_) | rw [hla] | rw [hlb] | refine zp ?_ | refine zq ?_ | (with_reducible first | refine bc (fun h => ?_) (fun h => ?_) | refine zt ?_ | refine zf ?_ | refine br_i (fun h => ?_) (fun h => ?_) | refine xi (pv_bool fun _ => nev104 _ _ _ _ _ _ _) ?_) | refine zg ?_ | refine zi ?_ | refine zb ?_)
    all_goals conv => whnf
    all_goals rfl
theorem allU_nil {m n : Md} : allU m n = [] ↔ m = n := by
  unfold allU nowU
  rw [List.append_eq_nil_iff, List.map_eq_nil_iff, mrg_nil, Md.eq_iff]
  by_cases c : m.n = n.n ∧ m.d = n.d
  · rw [if_pos c]; simp [c]
  · rw [if_neg c]; simp [c]
abbrev dxM : Md := ⟨0, 1, [⟨1, 0, 0⟩, ⟨2, 0, 0⟩]⟩
abbrev dxN : Md := ⟨1, 1, [⟨2, 0, 5⟩, ⟨3, 0, 0⟩]⟩
theorem dx_mrg : mrg dxM.l dxN.l = [⟨2, 1, ⟨1, 0, 0⟩⟩, ⟨4, 2, ⟨2, 0, 5⟩⟩, ⟨3, 3, ⟨3, 0, 0⟩⟩] := by simp [mrg]
theorem dx_all : allV dxM dxN = ([⟨1, 0⟩, ⟨2, 1⟩, ⟨4, 2⟩, ⟨3, 3⟩], 0) := by
  unfold allV
  rw [if_pos (by decide)]
  unfold allU
  rw [dx_mrg]; rfl
theorem dx_asks : asksV dxM dxN = ([⟨2, ⟨0, 0, 0⟩, 1, 0, 0⟩, ⟨3, ⟨2, 0, 5⟩, 0, 0, 0⟩, ⟨1, ⟨3, 0, 0⟩, 0, 0, 0⟩, ⟨4, ⟨0, 0, 0⟩, 0, 1, 1⟩], 0) := by
  unfold asksV
  rw [if_pos (by decide), if_neg (by decide)]
  unfold asksL
  rw [dx_mrg]; rfl
theorem dx_reps : repsV dxM dxN [takeA 2, takeA 1] = (1, 0) := by decide
theorem DLof_fn (t : Int) (l : List Pt) : FnOK Tryz.prog 57 [.one (i64 t), .one (pts l)] (.c (Md.dc ⟨t, 1, l⟩)) := by
  refine fn_ok (by kernel_rfl) ty_ok Tryz.func57 rfl (fun _ _ => Tryz.call57 _ _) rfl ?_
  intro hw
  clear hw
  exact zw
theorem DLtake_fn (i : Int) : FnOK Tryz.prog 58 [.one (i64 i)] (.c (Ak.dc (takeA i))) := by
  refine fn_ok (by kernel_rfl) ty_ok Tryz.func58 rfl (fun _ _ => Tryz.call58 _ _) rfl ?_
  intro hw
  clear hw
  exact zw
set_option maxRecDepth 100000 in
set_option maxHeartbeats 4000000 in
theorem DLalive_fn : FnOK Tryz.prog 46 [] (.c (.one (bol true))) := by
  have A1 := DLof_fn 0 [⟨1, 0, 0⟩, ⟨2, 0, 0⟩]
  have A2 := DLof_fn 1 [⟨2, 0, 5⟩, ⟨3, 0, 0⟩]
  have T1 := DLtake_fn 1
  have T2 := DLtake_fn 2
  have B := dAll_fn dxM dxN
  rw [dx_all] at B
  have C := dAsks_fn dxM dxN
  rw [dx_asks] at C
  have D0 := dReplies_fn dxM dxN [takeA 2, takeA 1]
  rw [dx_reps] at D0
  have S1 := rdSameAll_fn [⟨1, 0⟩, ⟨2, 1⟩, ⟨4, 2⟩, ⟨3, 3⟩] [⟨1, 0⟩, ⟨2, 1⟩, ⟨4, 2⟩, ⟨3, 3⟩]
  have S2 := r36SameAsks_fn [⟨2, ⟨0, 0, 0⟩, 1, 0, 0⟩, ⟨3, ⟨2, 0, 5⟩, 0, 0, 0⟩, ⟨1, ⟨3, 0, 0⟩, 0, 0, 0⟩, ⟨4, ⟨0, 0, 0⟩, 0, 1, 1⟩] [⟨2, ⟨0, 0, 0⟩, 1, 0, 0⟩, ⟨3, ⟨2, 0, 5⟩, 0, 0, 0⟩, ⟨1, ⟨3, 0, 0⟩, 0, 0, 0⟩, ⟨4, ⟨0, 0, 0⟩, 0, 1, 1⟩]
  simp only [decide_true, retU, retKs, ret2, dxM, dxN, uks, aks, Md.dc, pts, List.map_cons, List.map_nil, Uk.c, Ak.c, Pt.c, takeA] at A1 A2 T1 T2 B C D0 S1 S2
  refine fn_ok (by kernel_rfl) ty_ok Tryz.func46 rfl (fun _ _ => Tryz.call46 _ _) rfl ?_
  intro hw
  clear hw
  exact zw
end Go.Proofs.YtepmgbmnghiaoaaGreat

namespace Go.Proofs.YtepmgbmnghiaoaaGreat
open Go.RowKit Go.Sort Sx
def dnL (i : Nat) : List Pt := (List.range i).map fun j : Nat => ⟨(j : Int), 0, 0⟩
def dnH (i : Nat) : List Pt := (List.range i).map fun j : Nat => ⟨65472 + (j : Int), 1, 0⟩
def dnG (i : Nat) : List Pt := (List.range 64).map fun j : Nat => ⟨(j : Int), 0, if j < i then 1 else 0⟩
theorem dnL_succ (i : Nat) : dnL i ++ [⟨(i : Int), 0, 0⟩] = dnL (i + 1) := by unfold dnL; rw [List.range_succ, List.map_append]; rfl
theorem dnH_succ (i : Nat) : dnH i ++ [⟨65472 + (i : Int), 1, 0⟩] = dnH (i + 1) := by unfold dnH; rw [List.range_succ, List.map_append]; rfl
theorem dnL_len (i : Nat) : (dnL i).length = i := by simp [dnL]
theorem dnH_len (i : Nat) : (dnH i).length = i := by simp [dnH]
theorem dnG_len (i : Nat) : (dnG i).length = 64 := by simp [dnG]
theorem dnG_0 : dnG 0 = dnL 64 := by unfold dnG dnL; simp
theorem dnG_get {i : Nat} (h : i < 64) : (dnG i)[i]'(by rw [dnG_len]; exact h) = ⟨(i : Int), 0, 0⟩ := by simp [dnG]
theorem dnG_set {i : Nat} (h : i < 64) : (dnG i).set i ⟨(i : Int), 0, 1⟩ = dnG (i + 1) := by
  apply List.ext_getElem
  · rw [List.length_set, dnG_len, dnG_len]
  · intro j h1 h2
    rw [List.getElem_set]
    split
    · rename_i e; subst e; simp [dnG]
    · rename_i e
      simp only [dnG, List.getElem_map, List.getElem_range]
      by_cases c : j < i
      · rw [if_pos c, if_pos (by omega)]
      · rw [if_neg c, if_neg (by omega)]
theorem dnG_64 : dnG 64 = (dnL 64).map fun p => ⟨p.id, p.a, 1⟩ := by
  unfold dnG dnL
  rw [List.map_map]
  apply List.map_congr_left
  intro j hj
  rw [List.mem_range] at hj
  simp [hj]
theorem dn_lt {i k : Nat} (hi : i ≤ 64) : ∀ p ∈ dnL i, ∀ q ∈ dnH k, p.id < q.id := by
  intro p hp q hq
  simp only [dnL, dnH, List.mem_map, List.mem_range] at hp hq
  obtain ⟨a, ha, rfl⟩ := hp
  obtain ⟨b, hb, rfl⟩ := hq
  show (a : Int) < 65472 + (b : Int)
  omega
theorem dn_mrg {i k : Nat} (hi : i ≤ 64) : mrg (dnL i) (dnH k) = ((dnL i).map fun p => ⟨2, p.id, p⟩) ++ (dnH k).map fun p => ⟨3, p.id, p⟩ := mrg_sep _ (dn_lt hi)
theorem dn_chg : mrg (dnL 64) (dnG 64) = (dnL 64).map fun p => ⟨4, p.id, ⟨p.id, p.a, 1⟩⟩ := by
  rw [dnG_64]
  refine mrg_same _ fun p hp => ⟨rfl, fun e => ?_⟩
  simp only [dnL, List.mem_map, List.mem_range] at hp
  obtain ⟨a, ha, rfl⟩ := hp
  exact absurd (congrArg Pt.b e) (show ¬ (1 : Int) = 0 by decide)
abbrev dnA : Md := ⟨0, 1, dnL 64⟩
abbrev dnB : Md := ⟨0, 1, dnH 64⟩
theorem dn_ab : bothV dnA dnB = 0 := by kernel_rfl
theorem dn_all : (allV dnA dnB).2 = 0 ∧ (allV dnA dnB).1.length = 128 := by
  unfold allV
  rw [if_pos dn_ab]
  refine ⟨rfl, ?_⟩
  show (allU dnA dnB).length = 128
  unfold allU
  rw [dn_mrg (by omega)]
  kernel_rfl
theorem dn_asks1 : asksV dnA dnB = ([], 4) := by
  unfold asksV
  rw [if_pos dn_ab, if_neg (by decide), if_pos (by unfold asksL; rw [dn_mrg (by omega)]; exact of_decide_eq_true (by kernel_rfl))]
theorem dn_asks2 : ∃ l, asksV ⟨5, 1, dnL 60⟩ ⟨5, 1, dnH 60⟩ = (l, 0) ∧ l.length = 120 := by
  have h : (asksL ⟨5, 1, dnL 60⟩ ⟨5, 1, dnH 60⟩).length = 120 := by unfold asksL; rw [dn_mrg (by omega)]; kernel_rfl
  refine ⟨asksL ⟨5, 1, dnL 60⟩ ⟨5, 1, dnH 60⟩, ?_, h⟩
  unfold asksV
  rw [if_pos (by kernel_rfl), if_neg (by decide), if_neg (by omega)]
theorem dn_asks3 : asksV ⟨5, 1, dnL 60⟩ ⟨6, 1, dnH 60⟩ = ([], 4) := by
  unfold asksV
  rw [if_pos (by kernel_rfl), if_neg (by decide), if_pos (by unfold asksL; rw [dn_mrg (by omega)]; exact of_decide_eq_true (by kernel_rfl))]
theorem dn_asks4 : asksV ⟨5, 1, dnL 64⟩ ⟨4, 1, dnH 64⟩ = ([], 44) := by
  unfold asksV
  rw [if_pos (by kernel_rfl), if_pos (by decide)]
theorem dn_asks5 : ∃ l, asksV dnA ⟨0, 1, dnG 64⟩ = (l, 0) ∧ l.length = 64 := by
  have h : (asksL dnA ⟨0, 1, dnG 64⟩).length = 64 := by unfold asksL; rw [dn_chg]; kernel_rfl
  refine ⟨asksL dnA ⟨0, 1, dnG 64⟩, ?_, h⟩
  unfold asksV
  rw [if_pos (by kernel_rfl), if_neg (by decide), if_neg (by omega)]
theorem dn_first1 : firstV dnA dnA = (⟨0, 0⟩, 6) := by
  unfold firstV
  rw [if_pos (by kernel_rfl), allU_nil.2 rfl]
theorem dn_first2 : firstV dnA ⟨1, 1, dnH 64⟩ = (⟨1, 0⟩, 0) := by
  unfold firstV
  rw [if_pos (by kernel_rfl)]
  have h : allU dnA ⟨1, 1, dnH 64⟩ = ⟨1, 0⟩ :: (allU dnA ⟨1, 1, dnH 64⟩).tail := by unfold allU nowU; rw [if_neg (by decide)]; rfl
  rw [h]
theorem dn_asks6 : asksV dnA dnA = ([], 0) := by
  unfold asksV
  have h : asksL dnA dnA = [] := by unfold asksL; rw [mrg_self]; rfl
  rw [if_pos (by kernel_rfl), if_neg (by decide), h, if_neg (by decide)]
theorem dn_same1 : sameV dnA dnA = (true, 0) := by
  unfold sameV
  rw [if_pos (by kernel_rfl), decide_eq_true rfl]
theorem dn_same2 : sameV dnA dnB = (false, 0) := by
  unfold sameV
  rw [if_pos dn_ab, decide_eq_false]
  intro h
  have h := congrArg (fun m : Md => (m.l.map Pt.id).take 1) h
  exact absurd h (of_decide_eq_false (by kernel_rfl))
def dnK : Ak := ⟨0, ⟨0, 0, 0⟩, 0, 0, 0⟩
theorem dn_runs {m : Md} : ∀ k : Nat, runs m (List.replicate k dnK) = (m, List.replicate k (rpE 12))
  | 0 => rfl
  | k + 1 => by
    have h : askV m dnK = (m, rpE 12) := by unfold askV; rw [if_neg (by decide)]
    simp only [List.replicate_succ, runs, h]
    rw [dn_runs k]
theorem dn_rep1 : repsV md0 dnA (List.replicate 121 dnK) = (0, 8) := by
  unfold repsV
  rw [if_neg (by decide)]
theorem dn_rep2 : repsV dnA dnB (List.replicate 121 dnK) = (0, 4) := by
  unfold repsV
  rw [if_pos dn_ab, if_pos (by rw [List.length_replicate]; decide)]
theorem dn_rep3 : repsV dnA dnB (List.replicate 120 dnK) = (0, 6) := by
  unfold repsV
  rw [if_pos dn_ab, if_neg (by rw [List.length_replicate]; decide)]
  exact wrgI_none (by rw [dn_runs, dn_runs])
theorem dn_rep4 (l : List Ak) (h : l.length ≤ 120) : repsV dnA dnA l = (0, 6) := by
  unfold repsV
  rw [if_pos (by kernel_rfl), if_neg (by omega)]
  exact wrgI_none rfl
theorem dn_rep5 : repsV ⟨0, 1, []⟩ ⟨1, 1, []⟩ [⟨5, ⟨0, 0, 0⟩, 0, 0, 0⟩, ⟨4, ⟨0, 0, 0⟩, 0, 1, 2⟩] = (1, 0) := by decide
end Go.Proofs.YtepmgbmnghiaoaaGreat

namespace Go.Proofs.YtepmgbmnghiaoaaGreat
open Go.RowKit Go.Sort Sx
theorem dn_nil {P : Program} {f k : Nat} {a : DC} {r : DV} (h : FnOK P f [a, .one (.list k [])] r) : FnOK P f [a, .one (.v (.slice none 0 0))] r := by
  intro w M vs hM hd
  match vs, hd with
  | [v1, v2], hd =>
    refine h w M [v1, v2] hM ⟨hd.1, ?_, trivial⟩
    have h2 : Rep w M (.v (.slice none 0 0)) v2 := hd.2.1
    cases h2
    exact Rep.nil k none 0 (by omega) (fun _ => rfl)
abbrev dnC : List D := [u8 0, i64 0, i64 0, i64 0, i64 0, i64 0, i64 0]
theorem dn_map (k : Nat) : (List.replicate k dnK).map Ak.c = List.replicate k dnC := by rw [List.map_replicate]; rfl
set_option maxRecDepth 100000 in
set_option maxHeartbeats 16000000 in
theorem LDNames_fn : FnOK Tryz.prog 13 [] (.c (.one (bol true))) := by
  have HA := DLalive_fn
  have T0 := DLtake_fn 0
  have O1 := DLof_fn 0 (dnL 64)
  have O2 := DLof_fn 0 (dnH 64)
  have O3 : FnOK Tryz.prog 57 [.one (i64 5), .one (.list 3 (List.drop (0 : Int).toNat (List.take (60 : Int).toNat ((dnL 64).map Pt.c))))] (.c (Md.dc ⟨5, 1, dnL 60⟩)) := DLof_fn 5 (dnL 60)
  have O4 : FnOK Tryz.prog 57 [.one (i64 5), .one (.list 3 (List.drop (0 : Int).toNat (List.take (60 : Int).toNat ((dnH 64).map Pt.c))))] (.c (Md.dc ⟨5, 1, dnH 60⟩)) := DLof_fn 5 (dnH 60)
  have O5 : FnOK Tryz.prog 57 [.one (i64 6), .one (.list 3 (List.drop (0 : Int).toNat (List.take (60 : Int).toNat ((dnH 64).map Pt.c))))] (.c (Md.dc ⟨6, 1, dnH 60⟩)) := DLof_fn 6 (dnH 60)
  have O6 := DLof_fn 5 (dnL 64)
  have O7 := DLof_fn 4 (dnH 64)
  have O8 := DLof_fn 0 (dnG 64)
  have O9 := DLof_fn 1 (dnH 64)
  have O10 := dn_nil (k := 3) (DLof_fn 0 [])
  have O11 := dn_nil (k := 3) (DLof_fn 1 [])
  obtain ⟨a1, a2⟩ := dn_all
  have D1 := dAll_fn dnA dnB
  rw [show allV dnA dnB = ((allV dnA dnB).1, 0) from Prod.ext rfl a1] at D1
  have hAl : (((allV dnA dnB).1).map Uk.c).length = 128 := by rw [List.length_map, a2]
  have D2 := dAsks_fn dnA dnB
  rw [dn_asks1] at D2
  obtain ⟨l2, e2, h2⟩ := dn_asks2
  have D3 := dAsks_fn ⟨5, 1, dnL 60⟩ ⟨5, 1, dnH 60⟩
  rw [e2] at D3
  have D4 := dAsks_fn ⟨5, 1, dnL 60⟩ ⟨6, 1, dnH 60⟩
  rw [dn_asks3] at D4
  have D5 := dAsks_fn ⟨5, 1, dnL 64⟩ ⟨4, 1, dnH 64⟩
  rw [dn_asks4] at D5
  obtain ⟨l5, e5, h5⟩ := dn_asks5
  have D6 := dAsks_fn dnA ⟨0, 1, dnG 64⟩
  rw [e5] at D6
  have hl2 : (l2.map Ak.c).length = 120 := by rw [List.length_map, h2]
  have hl5 : (l5.map Ak.c).length = 64 := by rw [List.length_map, h5]
  have q1 : bothV md0 dnA = 8 := by kernel_rfl
  have q2 : bothV dnA md0 = 8 := by kernel_rfl
  have q3 : bothV md0 md0 = 8 := by kernel_rfl
  have F1 := dAll_fn md0 dnA
  rw [show allV md0 dnA = ([], 8) by unfold allV; rw [if_neg (by rw [q1]; decide)]] at F1
  have F2 := dFirst_fn dnA md0
  rw [show firstV dnA md0 = (⟨0, 0⟩, 8) by unfold firstV; rw [if_neg (by rw [q2]; decide)]] at F2
  have F3 := dSame_fn md0 md0
  rw [show sameV md0 md0 = (false, 8) by unfold sameV; rw [if_neg (by rw [q3]; decide)]] at F3
  have F4 := dAsks_fn dnA md0
  rw [show asksV dnA md0 = ([], 8) by unfold asksV; rw [if_neg (by rw [q2]; decide)]] at F4
  have R1 : FnOK Tryz.prog 28 [md0.dc, dnA.dc, .one (.list 7 (List.replicate (121 : Int).toNat dnC))] (ret2 (0, 8)) := by
    have h := dReplies_fn md0 dnA (List.replicate 121 dnK)
    rw [dn_rep1, aks, dn_map] at h
    exact h
  have R2 : FnOK Tryz.prog 28 [dnA.dc, dnB.dc, .one (.list 7 (List.replicate (121 : Int).toNat dnC))] (ret2 (0, 4)) := by
    have h := dReplies_fn dnA dnB (List.replicate 121 dnK)
    rw [dn_rep2, aks, dn_map] at h
    exact h
  have R3 : FnOK Tryz.prog 28 [dnA.dc, dnB.dc, .one (.list 7 (List.replicate (120 : Int).toNat dnC))] (ret2 (0, 6)) := by
    have h := dReplies_fn dnA dnB (List.replicate 120 dnK)
    rw [dn_rep3, aks, dn_map] at h
    exact h
  have F5 := dFirst_fn dnA dnA
  rw [dn_first1] at F5
  have F6 := dFirst_fn dnA ⟨1, 1, dnH 64⟩
  rw [dn_first2] at F6
  have D7 := dAsks_fn dnA dnA
  rw [dn_asks6] at D7
  have S1 := dSame_fn dnA dnA
  rw [dn_same1] at S1
  have S2 := dSame_fn dnA dnB
  rw [dn_same2] at S2
  have R4 := dReplies_fn dnA dnA [⟨5, ⟨0, 0, 0⟩, 0, 0, 0⟩, takeA 0, ⟨6, ⟨0, 0, 0⟩, 0, 0, 0⟩]
  rw [dn_rep4 _ (by decide)] at R4
  have R5 := dReplies_fn ⟨0, 1, []⟩ ⟨1, 1, []⟩ [⟨5, ⟨0, 0, 0⟩, 0, 0, 0⟩, ⟨4, ⟨0, 0, 0⟩, 0, 1, 2⟩]
  rw [dn_rep5] at R5
  simp only [retU, retKs, ret2, md0, Md.dc, List.map_nil, List.map_cons, uks, aks, Ak.dc, takeA, Ak.c, pts] at HA T0 O1 O2 O3 O4 O5 O6 O7 O8 O9 O10 O11 D1 D2 D3 D4 D5 D6 F1 F2 F3 F4 R1 R2 R3 F5 F6 D7 S1 S2 R4 R5
  clear q1 q2 q3 e2 e5 h2 h5 a1 a2
  generalize (allV dnA dnB).1 = lA at *
  refine fn_ok (by kernel_rfl) (ty_okK [1, 2, 59, 65, 113] [] [] []) Tryz.func13 rfl (fun _ _ => Tryz.call13 _ _) rfl ?_
  intro hw
  clear hw
  repeat' ((conv => whnf); first | (with_reducible first | refine br_t ?_ | refine br_f ?_ | refine za ?_ | refine zg ?_ | refine zo ?_) | refine zp ?_ | refine zq ?_ | (with_reducible first | refine bc (fun h => ?_) (fun h => ?_) | refine zt ?_ | refine zf ?_ | refine br_i (fun h => ?_) (fun h => ?_) | refine xi (pv_bool fun _ => eqv104 _ _ _ _ _ _ _) ?_) | refine zg ?_ | refine zi ?_ | refine zb ?_ | refine zl ?_)
  all_goals conv => whnf
  have hL := dnL_len
  have hH := dnH_len
  have hsL := dnL_succ
  have hsH := dnH_succ
  refine loop_frz [1, 2] ?_
  refine loop_J (by kernel_rfl) (ty_okK [1, 2, 59, 65, 113] [] [] []) (σ := Nat) (fun i => [(3, sV (.int .i64 i)), (1, .c (.at (.osl 1 0))), (2, .c (.at (.osl 2 0)))]) (fun i => [(1, .row 3 ((dnL i).map Pt.c) 0), (2, .row 3 ((dnH i).map Pt.c) 0)]) (fun i => i ≤ 64) (fun i => 64 - i) 0 (Nat.zero_le _) ?_ ?_
  · (conv => whnf); refine ⟨by repeat' (first | with_reducible exact zE0 | with_reducible refine zE1 ?_ ?_ | rfl | assumption | (rfl) | exact zi1 | exact zb1), by repeat' (first | with_reducible exact zH0 | with_reducible refine zH1 ?_ ?_ | rfl | assumption | (rfl)), rfl⟩
  intro i hi
  have hli : ((dnL i).map Pt.c).length = i := by rw [List.length_map, dnL_len]
  have hhi : ((dnH i).map Pt.c).length = i := by rw [List.length_map, dnH_len]
  rcases Nat.lt_or_ge i 64 with hlt | hge
  · have hs1 : (dnL i).map Pt.c ++ [[i64 i, i64 0, i64 0]] = (dnL (i + 1)).map Pt.c := by rw [← dnL_succ, List.map_append]; rfl
    have hs2 : (dnH i).map Pt.c ++ [[i64 (65472 + (i : Int)), i64 1, i64 0]] = (dnH (i + 1)).map Pt.c := by rw [← dnH_succ, List.map_append]; rfl
    have hb1 : ((dnL i).map Pt.c ++ [[i64 i, i64 0, i64 0]]).length ≤ 1000000 := by rw [hs1, List.length_map, dnL_len]; omega
    have hb2 : ((dnH i).map Pt.c ++ [[i64 (65472 + (i : Int)), i64 1, i64 0]]).length ≤ 1000000 := by rw [hs2, List.length_map, dnH_len]; omega
    have hwr : IntKind.i64.wrap (65472 + (i : Int)) = 65472 + (i : Int) := IntWalk.i64_in _ (by omega)
    repeat' ((conv => whnf); first | (with_reducible first | refine br_t ?_ | refine br_f ?_ | refine za ?_ | refine zg ?_ | refine zo ?_) | rw [hwr] | exact hb1 | exact hb2 | refine zp ?_ | refine zq ?_ | (with_reducible first | refine bc (fun h => ?_) (fun h => ?_) | refine zt ?_ | refine zf ?_ | refine br_i (fun h => ?_) (fun h => ?_) | refine xi (pv_bool fun _ => eqv104 _ _ _ _ _ _ _) ?_) | refine zg ?_ | refine zi ?_ | refine zb ?_ | refine zl ?_)
    all_goals conv => whnf
    refine ⟨i + 1, hlt, ?_, by omega⟩
    (conv => whnf); refine ⟨by repeat' (first | with_reducible exact zE0 | with_reducible refine zE1 ?_ ?_ | rfl | assumption | ((first | exact congrArg (fun x => some (Blk.row 3 x 0)) hs1 | exact congrArg (fun x => some (Blk.row 3 x 0)) hs2)) | exact zi1 | exact zb1), by repeat' (first | with_reducible exact zH0 | with_reducible refine zH1 ?_ ?_ | rfl | assumption | ((first | exact congrArg (fun x => some (Blk.row 3 x 0)) hs1 | exact congrArg (fun x => some (Blk.row 3 x 0)) hs2))), rfl⟩
  · obtain rfl : i = 64 := by omega
    have hl64 : ((dnL 64).map Pt.c).length = 64 := by rw [List.length_map, dnL_len]
    have hh64 : ((dnH 64).map Pt.c).length = 64 := by rw [List.length_map, dnH_len]
    clear hli hhi
    repeat' ((conv => whnf); first | (with_reducible first | refine br_t ?_ | refine br_f ?_ | refine za ?_ | refine zg ?_ | refine zo ?_) | rw [hl64] | rw [hh64] | rw [hAl] | rw [hl2] | rw [hl5] | refine ⟨_, ⟨rfl, Nat.le_of_ble_eq_true rfl⟩, ?_⟩ | refine zp ?_ | refine zq ?_ | (with_reducible first | refine bc (fun h => ?_) (fun h => ?_) | refine zt ?_ | refine zf ?_ | refine br_i (fun h => ?_) (fun h => ?_) | refine xi (pv_bool fun _ => eqv104 _ _ _ _ _ _ _) ?_) | refine zg ?_ | refine zi ?_ | refine zb ?_ | refine zl ?_)
    all_goals conv => whnf
    refine loop_keep [0, 1, 2, 4, 5, 6, 7, 8, 9, 10, 11, 12, 13, 14, 15, 16, 17, 18] ?_
    conv => whnf
    refine loop_frz [111] ?_
    refine loop_J (by kernel_rfl) (ty_okK [1, 2, 59, 65, 113] [] [] []) (σ := Nat) (fun i => [(18, sV (.int .i64 i)), (17, .c (.at (.osl 111 0)))]) (fun i => [(111, .row 3 ((dnG i).map Pt.c) 0)]) (fun i => i ≤ 64) (fun i => 64 - i) 0 (Nat.zero_le _) ?_ ?_
    · (conv => whnf); refine ⟨by repeat' (first | with_reducible exact zE0 | with_reducible refine zE1 ?_ ?_ | rfl | assumption | ((exact congrArg (fun x => some (Blk.row 3 (List.map Pt.c x) 0)) dnG_0.symm)) | exact zi1 | exact zb1), by repeat' (first | with_reducible exact zH0 | with_reducible refine zH1 ?_ ?_ | rfl | assumption | ((exact congrArg (fun x => some (Blk.row 3 (List.map Pt.c x) 0)) dnG_0.symm))), rfl⟩
    intro i hi
    have hgi : ((dnG i).map Pt.c).length = 64 := by rw [List.length_map, dnG_len]
    rcases Nat.lt_or_ge i 64 with hlt | hge
    · have hel : ((dnG i).map Pt.c)[((i : Nat) : Int).toNat]? = some [i64 i, i64 0, i64 0] := by
        rw [Int.toNat_natCast, List.getElem?_eq_getElem (by rw [hgi]; exact hlt), List.getElem_map, dnG_get hlt]
        rfl
      have hs : ((dnG i).map Pt.c).set ((i : Nat) : Int).toNat [i64 i, i64 0, i64 1] = (dnG (i + 1)).map Pt.c := by
        rw [Int.toNat_natCast, ← dnG_set hlt, List.map_set]
        rfl
      repeat' ((conv => whnf); first | (with_reducible first | refine br_t ?_ | refine br_f ?_ | refine za ?_ | refine zg ?_ | refine zo ?_) | rw [hgi] | refine zp ?_ | refine zq ?_ | (with_reducible first | refine bc (fun h => ?_) (fun h => ?_) | refine zt ?_ | refine zf ?_ | refine br_i (fun h => ?_) (fun h => ?_) | refine xi (pv_bool fun _ => eqv104 _ _ _ _ _ _ _) ?_) | refine zg ?_ | refine zi ?_ | refine zb ?_ | refine zl ?_)
      all_goals conv => whnf
      refine ⟨i + 1, hlt, ?_, by omega⟩
      (conv => whnf); refine ⟨by repeat' (first | with_reducible exact zE0 | with_reducible refine zE1 ?_ ?_ | rfl | assumption | ((exact congrArg (fun x => some (Blk.row 3 x 0)) hs)) | exact zi1 | exact zb1), by repeat' (first | with_reducible exact zH0 | with_reducible refine zH1 ?_ ?_ | rfl | assumption | ((exact congrArg (fun x => some (Blk.row 3 x 0)) hs))), rfl⟩
    · obtain rfl : i = 64 := by omega
      repeat' ((conv => whnf); first | (with_reducible first | refine br_t ?_ | refine br_f ?_ | refine za ?_ | refine zg ?_ | refine zo ?_) | rw [hl64] | rw [hh64] | rw [hAl] | rw [hl2] | rw [hl5] | rw [hgi] | refine zp ?_ | refine zq ?_ | (with_reducible first | refine bc (fun h => ?_) (fun h => ?_) | refine zt ?_ | refine zf ?_ | refine br_i (fun h => ?_) (fun h => ?_) | refine xi (pv_bool fun _ => eqv104 _ _ _ _ _ _ _) ?_) | refine zg ?_ | refine zi ?_ | refine zb ?_ | refine zl ?_)
      all_goals conv => whnf
      all_goals rfl
end Go.Proofs.YtepmgbmnghiaoaaGreat

namespace Go.Proofs.YtepmgbmnghiaoaaGreat
open Go.RowKit Go.ChangeShapes Go.WideShapes Go.ChangeAt Sx
theorem differNames_own : ownKnob Tryz.prog.godebug = none := by kernel_rfl
set_option maxRecDepth 100000 in
theorem differNames_lifted (os : Os) (started : os.Started) (H : Type) (enc : TypeId × Value → H) :
    ReturnsInHanded {} Tryz.checked os 13 .any (Rows.differNamesSpec.pre6 enc Tryz.prog Tryz.f13 Rows.differNamesRow.domain false) (Rows.differNamesSpec.post enc Tryz.prog Tryz.f13 false true false false) := by
  refine returnsInHanded_of_change (C := Tryz.checked) differNames_own started (by kernel_rfl) Tryz.func13
    (ChangeSpec.witness6 (enc := enc) (C := Tryz.checked) false ⟨#[], #[], []⟩ 12 (by kernel_rfl) (by kernel_rfl) (by kernel_rfl) (by kernel_rfl)) ?_
  intro W base args ds gs before hval0 hW hcnd _
  have hval : ∀ (j : Nat) t v, Tryz.f13.params[j]? = some t → args[j]? = some v → Value.okWide Tryz.prog W .any base t v := hval0
  have hW' := hW
  obtain ⟨p, q, hA0, hV, rfl, hfz, hnd⟩ := hW
  have hA : DataW.TrodAll enc Tryz.prog W 0 (fun _ => true) true Tryz.f13.params.toList args.toList ds p := hA0
  rw [Tryz.params13] at hA hval
  obtain ⟨rfl, rfl, rfl⟩ := trodAll_none hA
  refine (law_of_fn (vs := []) (fun _ _ => Tryz.call13 _ _) (LDNames_fn) trivial).mono fun e W' ⟨he, hb⟩ => ?_
  subst he
  exact ⟨_, rfl, law_post (by kernel_rfl) (by kernel_rfl) rfl Tryz.underlying4 rfl hW' ⟨rfl, rfl, rfl⟩ hb⟩
theorem differNames_over : Rows.differNamesRow.holds Tryz.pinned (OpenSpec.ofChange Rows.differNamesSpec) :=
  OpenClaim.holds_of_wide 13 Tryz.f13 rfl rfl rfl rfl rfl rfl rfl ⟨rfl, rfl, rfl, rfl, rfl⟩ rfl rfl rfl rfl rfl (by kernel_rfl) Tryz.func13 (by kernel_rfl)
    (of_decide_eq_true (by kernel_rfl)) (by unfold Func.isWrapper; rw [if_neg (of_decide_eq_false (by kernel_rfl))]; exact ⟨rfl, rfl⟩)
    (fun os started H enc _ => differNames_lifted os started H enc)
theorem differNames_proved : Rows.DifferNamesSaid := differNames_over
#print axioms differNames_proved
end Go.Proofs.YtepmgbmnghiaoaaGreat
