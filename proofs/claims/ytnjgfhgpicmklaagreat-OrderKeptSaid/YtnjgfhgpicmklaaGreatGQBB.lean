import Derived.Test.YtnjgfhgpicmklaaGreatGQBA
import Derived.Test.YtnjgfhgpicmklaaGreatGQAY
import Derived.Test.YtnjgfhgpicmklaaGreatGQAZ
set_option linter.all false
namespace Go.Proofs.YtnjgfhgpicmklaaGreat
open Go Go.RowKit Go.Sort Sx
def countsV (m : Md) (l : List Ak) : List (Int × Int) × Int := if mchk m = 0 then (if 120 < l.length then ([], 4) else (cnts (errsV m l), 0)) else ([], 8)
abbrev retCn (x : List (Int × Int) × Int) : DV := .tup [.one (.list 2 (prc x.1)), .one (i64 x.2)]
theorem prc_get {l : List (Int × Int)} {i : Nat} (h : i < l.length) : (prc l)[((i : Nat) : Int).toNat]? = some [i64 l[i].1, i64 l[i].2] := by
  rw [Int.toNat_natCast, List.getElem?_map, List.getElem?_eq_getElem h]; rfl
set_option maxRecDepth 100000 in
set_option maxHeartbeats 4000000 in
theorem rqCounts_fn (m : Md) (l : List Ak) : FnOK Tryz.prog 11 [m.dc, .one (aks l)] (retCn (countsV m l)) := by
  have H := rqasked_fn m l
  unfold askedV at H
  unfold countsV
  by_cases h : mchk m = 0
  · rw [if_pos h] at H ⊢
    by_cases h1 : 120 < l.length
    · rw [if_pos h1] at H ⊢
      refine fn_ok (by kernel_rfl) (ty_okK [8, 46] [] [] []) Tryz.func11 rfl (fun _ _ => Tryz.call11 _ _) rfl ?_
      intro hw
      clear hw
      exact zw
    · rw [if_neg h1] at H ⊢
      have H2 := rqerrors_fn h l (by omega)
      have hE := errs_len m l
      generalize errsV m l = es at *
      have hel : (es.map fun i => [i64 i]).length = es.length := List.length_map ..
      refine fn_ok (by kernel_rfl) (ty_okK [8, 46] [] [] []) Tryz.func11 rfl (fun _ _ => Tryz.call11 _ _) rfl ?_
      intro hw
      clear hw
      repeat' ((conv => whnf); first | (with_reducible first | refine br_t ?_ | refine br_f ?_ | refine za ?_ | refine zg ?_ | refine zo ?_) | rw [hel] | refine zp ?_ | refine zq ?_ | (with_reducible first | refine bc (fun h => ?_) (fun h => ?_) | refine zt ?_ | refine zf ?_ | refine br_i (fun h => ?_) (fun h => ?_)) | refine zg ?_ | refine zi ?_ | refine zb ?_ | refine zl ?_)
      refine loop_J (by kernel_rfl) (ty_okK [8, 46] [] [] []) (σ := Nat) (fun n => [(9, sV (.int .i64 n)), (8, .c (.at (.osl 8 0)))]) (fun n => [(8, .row 2 (prc (cntTo es n)) 0)]) (fun n => n ≤ 100) (fun n => 100 - n) 0 (Nat.zero_le _) ?_ ?_
      · (conv => whnf); exact zent
      intro n hn
      have hcl := cntTo_len es n
      have hpl : (prc (cntTo es n)).length = (cntTo es n).length := List.length_map ..
      rcases Nat.lt_or_ge n 100 with hlt | hge
      · repeat' ((conv => whnf); first | (with_reducible first | refine br_t ?_ | refine br_f ?_ | refine za ?_ | refine zg ?_ | refine zo ?_) | rw [hel] | refine zp ?_ | refine zq ?_ | (with_reducible first | refine bc (fun h => ?_) (fun h => ?_) | refine zt ?_ | refine zf ?_ | refine br_i (fun h => ?_) (fun h => ?_)) | refine zg ?_ | refine zi ?_ | refine zb ?_ | refine zl ?_)
        refine loop_J (by kernel_rfl) (ty_okK [8, 46] [] [] []) (σ := Nat) (fun i => [(11, sV (.int .i64 i)), (10, sV (.int .i64 ((es.take i).count (n : Int) : Nat)))]) (fun i => []) (fun i => i ≤ es.length) (fun i => es.length - i) 0 (Nat.zero_le _) ?_ ?_
        · (conv => whnf); exact zent
        intro i hi
        have hb := count_take_le es (n : Int) i
        rcases Nat.lt_or_ge i es.length with hil | hig
        · have hg := ints_get hil
          have hs := count_take_succ (x := (n : Int)) hil
          by_cases hc : es[i] = (n : Int)
          · rw [if_pos hc] at hs
            generalize es[i] = z at *
            generalize hQ : (es.take i).count (n : Int) = q at *
            repeat' ((conv => whnf); first | (with_reducible first | refine br_t ?_ | refine br_f ?_ | refine za ?_ | refine zg ?_ | refine zo ?_) | rw [hel] | refine zp ?_ | refine zq ?_ | (with_reducible first | refine bc (fun h => ?_) (fun h => ?_) | refine zt ?_ | refine zf ?_ | refine br_i (fun h => ?_) (fun h => ?_)) | refine zg ?_ | refine zi ?_ | refine zb ?_ | refine zl ?_)
            all_goals conv => whnf
            refine ⟨i + 1, by omega, ?_, by omega⟩
            rw [hs]
            (conv => whnf); exact zent
          · rw [if_neg hc, Nat.add_zero] at hs
            generalize es[i] = z at *
            generalize hQ : (es.take i).count (n : Int) = q at *
            repeat' ((conv => whnf); first | (with_reducible first | refine br_t ?_ | refine br_f ?_ | refine za ?_ | refine zg ?_ | refine zo ?_) | rw [hel] | refine zp ?_ | refine zq ?_ | (with_reducible first | refine bc (fun h => ?_) (fun h => ?_) | refine zt ?_ | refine zf ?_ | refine br_i (fun h => ?_) (fun h => ?_)) | refine zg ?_ | refine zi ?_ | refine zb ?_ | refine zl ?_)
            all_goals conv => whnf
            refine ⟨i + 1, by omega, ?_, by omega⟩
            rw [hs]
            (conv => whnf); exact zent
        · obtain rfl : i = es.length := by omega
          rw [List.take_length] at *
          have hsc := cntTo_succ es n
          by_cases hc : 0 < es.count (n : Int)
          · rw [if_pos hc] at hsc
            have hs : prc (cntTo es n) ++ [[i64 (n : Int), i64 (es.count (n : Int) : Nat)]] = prc (cntTo es (n + 1)) := by rw [hsc, prc, prc, List.map_append]; rfl
            generalize es.count (n : Int) = q at *
            repeat' ((conv => whnf); first | (with_reducible first | refine br_t ?_ | refine br_f ?_ | refine za ?_ | refine zg ?_ | refine zo ?_) | rw [hel] | rw [hpl] | refine zp ?_ | refine zq ?_ | (with_reducible first | refine bc (fun h => ?_) (fun h => ?_) | refine zt ?_ | refine zf ?_ | refine br_i (fun h => ?_) (fun h => ?_)) | refine zg ?_ | refine zi ?_ | refine zb ?_ | refine zl ?_)
            all_goals conv => whnf
            refine ⟨n + 1, by omega, ?_, by omega⟩
            (conv => whnf); refine ⟨by repeat' (first | with_reducible exact zE0 | with_reducible refine zE1 ?_ ?_ | rfl | assumption | ((exact congrArg (fun x => some (Blk.row 2 x 0)) hs)) | exact zi1 | exact zb1), by repeat' (first | with_reducible exact zH0 | with_reducible refine zH1 ?_ ?_ | rfl | assumption | ((exact congrArg (fun x => some (Blk.row 2 x 0)) hs))), rfl⟩
          · rw [if_neg hc, List.append_nil] at hsc
            generalize es.count (n : Int) = q at *
            repeat' ((conv => whnf); first | (with_reducible first | refine br_t ?_ | refine br_f ?_ | refine za ?_ | refine zg ?_ | refine zo ?_) | rw [hel] | rw [hpl] | refine zp ?_ | refine zq ?_ | (with_reducible first | refine bc (fun h => ?_) (fun h => ?_) | refine zt ?_ | refine zf ?_ | refine br_i (fun h => ?_) (fun h => ?_)) | refine zg ?_ | refine zi ?_ | refine zb ?_ | refine zl ?_)
            all_goals conv => whnf
            refine ⟨n + 1, by omega, ?_, by omega⟩
            (conv => whnf); refine ⟨by repeat' (first | with_reducible exact zE0 | with_reducible refine zE1 ?_ ?_ | rfl | assumption | ((exact congrArg (fun x => some (Blk.row 2 (prc x) 0)) hsc.symm)) | exact zi1 | exact zb1), by repeat' (first | with_reducible exact zH0 | with_reducible refine zH1 ?_ ?_ | rfl | assumption | ((exact congrArg (fun x => some (Blk.row 2 (prc x) 0)) hsc.symm))), rfl⟩
      · obtain rfl : n = 100 := by omega
        repeat' ((conv => whnf); first | (with_reducible first | refine br_t ?_ | refine br_f ?_ | refine za ?_ | refine zg ?_ | refine zo ?_) | rw [hel] | rw [hpl] | refine zp ?_ | refine zq ?_ | (with_reducible first | refine bc (fun h => ?_) (fun h => ?_) | refine zt ?_ | refine zf ?_ | refine br_i (fun h => ?_) (fun h => ?_)) | refine zg ?_ | refine zi ?_ | refine zb ?_ | refine zl ?_)
        all_goals conv => whnf
        all_goals rfl
  · rw [if_neg h] at H ⊢
    refine fn_ok (by kernel_rfl) (ty_okK [8, 46] [] [] []) Tryz.func11 rfl (fun _ _ => Tryz.call11 _ _) rfl ?_
    intro hw
    clear hw
    exact zw
theorem rqSameCounts_fn (a b : List (Int × Int)) : FnOK Tryz.prog 12 [.one (.list 2 (prc a)), .one (.list 2 (prc b))] (.c (.one (bol (decide (a = b))))) := by
  have hla : (prc a).length = a.length := List.length_map ..
  have hlb : (prc b).length = b.length := List.length_map ..
  refine fn_ok (by kernel_rfl) ty_ok Tryz.func12 rfl (fun _ _ => Tryz.call12 _ _) rfl ?_
  intro hw
  simp only [WDCs, WDC, WDs] at hw
  have w1 : a.length ≤ 9223372036854775807 := by
    obtain ⟨h1, _, _⟩ := WD_list.1 hw.1
    simpa using h1
  have w2 : b.length ≤ 9223372036854775807 := by
    obtain ⟨h1, _, _⟩ := WD_list.1 hw.2.1
    simpa using h1
  clear hw
  by_cases h0 : a.length = b.length
  · repeat' ((conv => whnf); first | (with_reducible first | refine br_t ?_ | refine br_f ?_ | refine za ?_ | refine zg ?_) | rw [hla] | rw [hlb] | refine zp ?_ | refine zq ?_ | (with_reducible first | refine bc (fun h => ?_) (fun h => ?_) | refine zt ?_ | refine zf ?_ | refine br_i (fun h => ?_) (fun h => ?_) | refine xi (pv_bool fun _ => nev93 _ _ _ _ _ _ _) ?_) | refine zg ?_ | refine zi ?_ | refine zb ?_)
    refine loop_J (by kernel_rfl) ty_ok (σ := Nat) (fun i => [(5, sV (.int .i64 i))]) (fun _ => []) (fun i => i ≤ a.length ∧ a.take i = b.take i) (fun i => a.length - i) 0 ⟨by omega, rfl⟩ ?_ ?_
    · (conv => whnf); exact zent
    rintro i ⟨hi, hI⟩
    rcases Nat.lt_or_ge i a.length with hlt | hge
    · have hb : i < b.length := by omega
      have he1 := prc_get hlt
      have he2 := prc_get hb
      have hq : a[i] = b[i] ↔ a[i].1 = b[i].1 ∧ a[i].2 = b[i].2 := Prod.ext_iff
      by_cases hc : a[i] = b[i]
      · have hn := take_succ_eq hI hlt hb hc
        have hq := hq.1 hc
        clear hc
        repeat' ((conv => whnf); first | (with_reducible first | refine br_t ?_ | refine br_f ?_ | refine za ?_ | refine zg ?_) | rw [hla] | rw [hlb] | refine zp ?_ | refine zq ?_ | (with_reducible first | refine bc (fun h => ?_) (fun h => ?_) | refine zt ?_ | refine zf ?_ | refine br_i (fun h => ?_) (fun h => ?_) | refine xi (pv_bool fun _ => nev93 _ _ _ _ _ _ _) ?_) | refine zg ?_ | refine zi ?_ | refine zb ?_)
        all_goals conv => whnf
        refine ⟨i + 1, ⟨by omega, hn⟩, ?_, by omega⟩
        (conv => whnf); exact zent
      · rw [decide_eq_false (ne_of_get hlt hb hc)]
        have hq : ¬ _ := fun h => hc (hq.2 h)
        clear hc
        repeat' ((conv => whnf); first | (with_reducible first | refine br_t ?_ | refine br_f ?_ | refine za ?_ | refine zg ?_) | rw [hla] | rw [hlb] | refine zp ?_ | refine zq ?_ | (with_reducible first | refine bc (fun h => ?_) (fun h => ?_) | refine zt ?_ | refine zf ?_ | refine br_i (fun h => ?_) (fun h => ?_) | refine xi (pv_bool fun _ => nev93 _ _ _ _ _ _ _) ?_) | refine zg ?_ | refine zi ?_ | refine zb ?_)
        all_goals conv => whnf
        all_goals rfl
    · rw [decide_eq_true (take_all_eq hI h0 hge)]
      repeat' ((conv => whnf); first | (with_reducible first | refine br_t ?_ | refine br_f ?_ | refine za ?_ | refine zg ?_) | rw [hla] | rw [hlb] | refine zp ?_ | refine zq ?_ | (with_reducible first | refine bc (fun h => ?_) (fun h => ?_) | refine zt ?_ | refine zf ?_ | refine br_i (fun h => ?_) (fun h => ?_) | refine xi (pv_bool fun _ => nev93 _ _ _ _ _ _ _) ?_) | refine zg ?_ | refine zi ?_ | refine zb ?_)
      all_goals conv => whnf
      all_goals rfl
  · rw [decide_eq_false (fun h => h0 (congrArg List.length h))]
    repeat' ((conv => whnf); first | (with_reducible first | refine br_t ?_ | refine br_f ?_ | refine za ?_ | refine zg ?_) | rw [hla] | rw [hlb] | refine zp ?_ | refine zq ?_ | (with_reducible first | refine bc (fun h => ?_) (fun h => ?_) | refine zt ?_ | refine zf ?_ | refine br_i (fun h => ?_) (fun h => ?_) | refine xi (pv_bool fun _ => nev93 _ _ _ _ _ _ _) ?_) | refine zg ?_ | refine zi ?_ | refine zb ?_)
    all_goals conv => whnf
    all_goals rfl
end Go.Proofs.YtnjgfhgpicmklaaGreat

namespace Go.Proofs.YtnjgfhgpicmklaaGreat
open Go.RowKit Go.Sort Sx
def qfit (m : Md) (l : List Ak) : Bool := !great m.l && decide (l.length ≤ 20) && decide (mchk m = 0)
theorem qfit_ok {m : Md} {l : List Ak} (h : qfit m l = true) : l.length ≤ 20 ∧ mchk m = 0 := by
  unfold qfit at h
  simp only [Bool.and_eq_true, decide_eq_true_eq] at h
  exact ⟨h.1.2, h.2⟩
theorem run_e {m : Md} {l : List Ak} {i : Nat} (h : i < (runs m l).2.length) (h' : i < (errsV m l).length) : (errsV m l)[i] = (runs m l).2[i].e := by
  have e : (errsV m l)[i]? = some (runs m l).2[i].e := by unfold errsV; rw [List.getElem?_map, List.getElem?_eq_getElem h]; rfl
  rw [List.getElem?_eq_getElem h'] at e
  injection e
end Go.Proofs.YtnjgfhgpicmklaaGreat

namespace Go.Proofs.YtnjgfhgpicmklaaGreat
open Go Go.RowKit Go.Sort Sx
theorem errs_rng : ∀ {m : Md} (l : List Ak), mchk m = 0 → ∀ e ∈ errsV m l, 0 ≤ e ∧ e < 100
  | m, [], _, e, he => by cases he
  | m, a :: l, hm, e, he => by
    rw [errs_cons] at he
    rcases List.mem_cons.1 he with rfl | he
    · have := askV_rng hm a
      simp only [List.mem_cons, List.not_mem_nil, or_false] at this
      omega
    · exact errs_rng l (askV_ok hm a) e he
theorem qCounts_fn (m : Md) (l : List Ak) : FnOK Tryz.prog 10 [m.dc, .one (aks l)] (retCn (countsV m l)) := by
  have H := qErrors_fn m l
  unfold errorsV at H
  unfold countsV
  by_cases h : mchk m = 0
  · rw [if_pos h] at H ⊢
    by_cases h1 : 120 < l.length
    · rw [if_pos h1] at H ⊢
      refine fn_ok (by kernel_rfl) ty_ok Tryz.func10 rfl (fun _ _ => Tryz.call10 _ _) rfl ?_
      intro hw
      clear hw
      exact zw
    · rw [if_neg h1] at H ⊢
      have hE := errs_len m l
      have hR := errs_rng l h
      generalize errsV m l = es at *
      by_cases h0 : es = []
      · subst h0
        exact qCounts_nil H
      · exact qCounts_ne H hR (by omega) h0
  · rw [if_neg h] at H ⊢
    refine fn_ok (by kernel_rfl) ty_ok Tryz.func10 rfl (fun _ _ => Tryz.call10 _ _) rfl ?_
    intro hw
    clear hw
    exact zw
abbrev putA (i : Int) : Ak := ⟨1, ⟨i, 0, 0⟩, 0, 0, 0⟩
abbrev qxM : Md := ⟨0, 1, []⟩
abbrev qxL : List Ak := [putA 3, putA 3, ⟨2, ⟨0, 0, 0⟩, 4, 0, 0⟩, ⟨4, ⟨0, 0, 0⟩, 0, 0, 1⟩, ⟨5, ⟨0, 0, 0⟩, 0, 0, 0⟩]
abbrev qxF : Md := ⟨0, 1, [⟨0, 0, 0⟩, ⟨1, 0, 0⟩, ⟨3, 0, 0⟩]⟩
theorem qx_errs : errorsV qxM qxL = ([0, 14, 6, 44, 0], 0) := by decide
theorem qx_first : ofirstV qxM qxL = (1, 0) := by decide
theorem qx_kept : keptV qxM qxL = ([putA 3, ⟨5, ⟨0, 0, 0⟩, 0, 0, 0⟩], 0) := by decide
theorem qx_counts : countsV qxM qxL = ([(0, 2), (6, 1), (14, 1), (44, 1)], 0) := by
  have e : errsV qxM qxL = [0, 14, 6, 44, 0] := by decide
  unfold countsV
  rw [if_pos (by decide), if_neg (by decide), e]
  decide
theorem qx_free : freeV qxF = (2, 0) := by decide
theorem QLput_fn (i : Int) : FnOK Tryz.prog 78 [.one (i64 i)] (.c (Ak.dc (putA i))) := by
  refine fn_ok (by kernel_rfl) ty_ok Tryz.func78 rfl (fun _ _ => Tryz.call78 _ _) rfl ?_
  intro hw
  clear hw
  exact zw
theorem QLgiven_fn : FnOK Tryz.prog 53 [] (.tup [qxM.dc, .one (aks qxL)]) := by
  have A1 := QLput_fn 3
  simp only [Ak.dc] at A1
  refine fn_ok (by kernel_rfl) ty_ok Tryz.func53 rfl (fun _ _ => Tryz.call53 _ _) rfl ?_
  intro hw
  clear hw
  exact zw
set_option maxRecDepth 100000 in
set_option maxHeartbeats 4000000 in
theorem QLalive_fn : FnOK Tryz.prog 23 [] (.c (.one (bol true))) := by
  have G := QLgiven_fn
  have A := qErrors_fn qxM qxL
  rw [qx_errs] at A
  have B := qFirst_fn qxM qxL
  rw [qx_first] at B
  have C := qKept_fn qxM qxL
  rw [qx_kept] at C
  have D0 := qCounts_fn qxM qxL
  rw [qx_counts] at D0
  have E := qFree_fn qxF
  rw [qx_free] at E
  have S1 := rqSame_fn [0, 14, 6, 44, 0] [0, 14, 6, 44, 0]
  have S2 := r36SameAsks_fn [putA 3, ⟨5, ⟨0, 0, 0⟩, 0, 0, 0⟩] [putA 3, ⟨5, ⟨0, 0, 0⟩, 0, 0, 0⟩]
  have g0 : (qxL.map Ak.c)[(0 : Int).toNat]? = some [u8 1, i64 3, i64 0, i64 0, i64 0, i64 0, i64 0] := rfl
  have g4 : (qxL.map Ak.c)[(4 : Int).toNat]? = some [u8 5, i64 0, i64 0, i64 0, i64 0, i64 0, i64 0] := rfl
  have S3 := rqSameCounts_fn [(0, 2), (6, 1), (14, 1), (44, 1)] [(0, 2), (6, 1), (14, 1), (44, 1)]
  simp only [decide_true, retI, retK, retCn, ret2, qxM, qxL, qxF, aks, Md.dc, pts, List.map_cons, List.map_nil, Ak.c, Pt.c, putA, ints, prc] at G A B C D0 E S1 S2 S3 g0 g4
  refine fn_ok (by kernel_rfl) ty_ok Tryz.func23 rfl (fun _ _ => Tryz.call23 _ _) rfl ?_
  intro hw
  clear hw
  exact zw
theorem QLfit_fn (m : Md) (l : List Ak) : FnOK Tryz.prog 24 [m.dc, .one (aks l)] (.c (.one (bol (qfit m l)))) := by
  have G := rqGreat_fn m l
  have H := roCheck_fn m
  have hal : (l.map Ak.c).length = l.length := List.length_map ..
  unfold qfit
  by_cases h20 : l.length ≤ 20
  · rw [decide_eq_false (by omega : ¬ (20 < l.length ∧ l.length ≤ 120 ∨ 130 < l.length)), Bool.or_false] at G
    cases hg : great m.l <;> rw [hg] at G
    · by_cases h : mchk m = 0
      · rw [h] at H
        refine fn_ok (by kernel_rfl) ty_ok Tryz.func24 rfl (fun _ _ => Tryz.call24 _ _) rfl ?_
        intro hw
        clear hw
        repeat' ((conv => whnf); first | (with_reducible first | refine br_t ?_ | refine br_f ?_ | refine za ?_ | refine zg ?_) | rw [hal] | refine zp ?_ | refine zq ?_ | (with_reducible first | refine bc (fun h => ?_) (fun h => ?_) | refine zt ?_ | refine zf ?_ | refine br_i (fun h => ?_) (fun h => ?_)) | refine zg ?_ | refine zi ?_ | refine zb ?_)
        all_goals conv => whnf
        all_goals exact r_bool (by simp [h20, h])
      · have h8 := (mchk_08 m).resolve_left h
        rw [h8] at H
        refine fn_ok (by kernel_rfl) ty_ok Tryz.func24 rfl (fun _ _ => Tryz.call24 _ _) rfl ?_
        intro hw
        clear hw
        repeat' ((conv => whnf); first | (with_reducible first | refine br_t ?_ | refine br_f ?_ | refine za ?_ | refine zg ?_) | rw [hal] | refine zp ?_ | refine zq ?_ | (with_reducible first | refine bc (fun h => ?_) (fun h => ?_) | refine zt ?_ | refine zf ?_ | refine br_i (fun h => ?_) (fun h => ?_)) | refine zg ?_ | refine zi ?_ | refine zb ?_)
        all_goals conv => whnf
        all_goals exact r_bool (by simp [h])
    · clear H
      refine fn_ok (by kernel_rfl) ty_ok Tryz.func24 rfl (fun _ _ => Tryz.call24 _ _) rfl ?_
      intro hw
      clear hw
      repeat' ((conv => whnf); first | (with_reducible first | refine br_t ?_ | refine br_f ?_ | refine za ?_ | refine zg ?_) | rw [hal] | refine zp ?_ | refine zq ?_ | (with_reducible first | refine bc (fun h => ?_) (fun h => ?_) | refine zt ?_ | refine zf ?_ | refine br_i (fun h => ?_) (fun h => ?_)) | refine zg ?_ | refine zi ?_ | refine zb ?_)
      all_goals conv => whnf
      all_goals rfl
  · clear H
    generalize (great m.l || decide (20 < l.length ∧ l.length ≤ 120 ∨ 130 < l.length)) = q at *
    cases q
    · refine fn_ok (by kernel_rfl) ty_ok Tryz.func24 rfl (fun _ _ => Tryz.call24 _ _) rfl ?_
      intro hw
      clear hw
      repeat' ((conv => whnf); first | (with_reducible first | refine br_t ?_ | refine br_f ?_ | refine za ?_ | refine zg ?_) | rw [hal] | refine zp ?_ | refine zq ?_ | (with_reducible first | refine bc (fun h => ?_) (fun h => ?_) | refine zt ?_ | refine zf ?_ | refine br_i (fun h => ?_) (fun h => ?_)) | refine zg ?_ | refine zi ?_ | refine zb ?_)
      all_goals conv => whnf
      all_goals exact r_bool (by simp [h20])
    · refine fn_ok (by kernel_rfl) ty_ok Tryz.func24 rfl (fun _ _ => Tryz.call24 _ _) rfl ?_
      intro hw
      clear hw
      repeat' ((conv => whnf); first | (with_reducible first | refine br_t ?_ | refine br_f ?_ | refine za ?_ | refine zg ?_) | rw [hal] | refine zp ?_ | refine zq ?_ | (with_reducible first | refine bc (fun h => ?_) (fun h => ?_) | refine zt ?_ | refine zf ?_ | refine br_i (fun h => ?_) (fun h => ?_)) | refine zg ?_ | refine zi ?_ | refine zb ?_)
      all_goals conv => whnf
      all_goals exact r_bool (by simp [h20])
end Go.Proofs.YtnjgfhgpicmklaaGreat
