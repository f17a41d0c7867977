import Derived.Test.YtepmgbmnghiaoaaGreatGbBB
import Derived.Test.YtepmgbmnghiaoaaGreatGbBA
set_option linter.all false
namespace Go.Proofs.YtepmgbmnghiaoaaGreat
open Go Go.RowKit Go.Sort Sx
theorem drop1 {α β : Type} {f : α → β} {p : α} {a : List α} {n : Nat} {z : Int} (hz : z.toNat = 1) (hn : a.length + 1 ≤ n) : (((p :: a).map f).take n).drop z.toNat = a.map f := by
  rw [hz, List.take_of_length_le (by simpa using hn)]; rfl
set_option maxRecDepth 100000 in
set_option maxHeartbeats 4000000 in
theorem dmerge_fn (m n : Md) (h1 : m.l.length ≤ 1000) (h2 : n.l.length ≤ 1000) : FnOK Tryz.prog 84 [m.dc, n.dc] (.c (.one (uns (mrg m.l n.l)))) := by
  generalize hX : mrg m.l n.l = X
  refine fn_ok (by kernel_rfl) (ty_okK [5, 76, 105, 40] [] [] []) Tryz.func84 rfl (fun _ _ => Tryz.call84 _ _) rfl ?_
  intro hw
  clear hw
  repeat' ((conv => whnf); first | (with_reducible first | refine br_t ?_ | refine br_f ?_ | refine za ?_ | refine zg ?_ | refine zo ?_) | refine zp ?_ | refine zq ?_ | (with_reducible first | refine bc (fun h => ?_) (fun h => ?_) | refine zt ?_ | refine zf ?_ | refine br_i (fun h => ?_) (fun h => ?_) | refine xi (pv_bool fun _ => nev30 _ _ _ _ _ _ _ _ _) ?_) | refine zg ?_ | refine zi ?_ | refine zb ?_ | refine zl ?_)
  refine loop_J (by kernel_rfl) (ty_okK [5, 76, 105, 40] [] [] []) (σ := List Pt × List Pt × List Un) (fun s => [(6, sD (.list 3 (s.1.map Pt.c))), (7, sD (.list 3 (s.2.1.map Pt.c))), (5, .c (.at (.osl 5 0)))]) (fun s => [(5, .row 5 (s.2.2.map Un.c) 0)])
    (fun s => s.1.length + s.2.1.length + s.2.2.length ≤ 2000 ∧ s.2.2 ++ mrg s.1 s.2.1 = X) (fun s => s.1.length + s.2.1.length) (m.l, n.l, []) ⟨by simp; omega, hX⟩ ?_ ?_
  · (conv => whnf); exact zent
  rintro ⟨a, b, o⟩ ⟨hb, hI⟩
  dsimp only at hb hI
  have hol : (o.map Un.c).length = o.length := List.length_map ..
  have lz : (([] : List Pt).map Pt.c).length = 0 := rfl
  rcases a with _ | ⟨p, a⟩
  · rcases b with _ | ⟨q, b⟩
    · rw [mrg_nn, List.append_nil] at hI
      subst hI
      repeat' ((conv => whnf); first | (with_reducible first | refine br_t ?_ | refine br_f ?_ | refine za ?_ | refine zg ?_ | refine zo ?_) | rw [lz] | refine zp ?_ | refine zq ?_ | (with_reducible first | refine bc (fun h => ?_) (fun h => ?_) | refine zt ?_ | refine zf ?_ | refine br_i (fun h => ?_) (fun h => ?_) | refine xi (pv_bool fun _ => nev30 _ _ _ _ _ _ _ _ _) ?_) | refine zg ?_ | refine zi ?_ | refine zb ?_ | refine zl ?_)
      all_goals conv => whnf
      all_goals rfl
    · have gb : ((q :: b).map Pt.c)[(0 : Int).toNat]? = some [i64 q.id, i64 q.a, i64 q.b] := rfl
      have lb : ((q :: b).map Pt.c).length = b.length + 1 := by simp
      have hdb := drop1 (f := Pt.c) (p := q) (a := b) (n := ((b.length + 1 : Nat) : Int).toNat) (z := 1) rfl (by omega)
      simp only [List.length_cons, List.length_nil] at hb
      rw [mrg_b (.inl rfl)] at hI
      have hs : o.map Un.c ++ [[u8 3, i64 q.id, i64 q.id, i64 q.a, i64 q.b]] = (o ++ [(⟨3, q.id, q⟩ : Un)]).map Un.c := by rw [List.map_append]; rfl
      repeat' ((conv => whnf); first | (with_reducible first | refine br_t ?_ | refine br_f ?_ | refine za ?_ | refine zg ?_ | refine zo ?_) | rw [lb] | rw [lz] | rw [hol] | refine zp ?_ | refine zq ?_ | (with_reducible first | refine bc (fun h => ?_) (fun h => ?_) | refine zt ?_ | refine zf ?_ | refine br_i (fun h => ?_) (fun h => ?_) | refine xi (pv_bool fun _ => nev30 _ _ _ _ _ _ _ _ _) ?_) | refine zg ?_ | refine zi ?_ | refine zb ?_ | refine zl ?_)
      all_goals conv => whnf
      refine ⟨([], b, o ++ [(⟨3, q.id, q⟩ : Un)]), ⟨by simp; omega, by rw [List.append_assoc]; exact hI⟩, ?_, by simp only [List.length_cons, List.length_nil]; omega⟩
      (conv => whnf); refine ⟨by repeat' (first | with_reducible exact zE0 | with_reducible refine zE1 ?_ ?_ | rfl | assumption | (first | exact congrArg (fun x => some (Blk.row 5 x 0)) hs | exact congrArg (fun x => some (sD (.list 3 x))) hda | exact congrArg (fun x => some (sD (.list 3 x))) hdb) | exact zi1 | exact zb1), by repeat' (first | with_reducible exact zH0 | with_reducible refine zH1 ?_ ?_ | rfl | assumption | (first | exact congrArg (fun x => some (Blk.row 5 x 0)) hs | exact congrArg (fun x => some (sD (.list 3 x))) hda | exact congrArg (fun x => some (sD (.list 3 x))) hdb)), rfl⟩
  · have ga : ((p :: a).map Pt.c)[(0 : Int).toNat]? = some [i64 p.id, i64 p.a, i64 p.b] := rfl
    have la : ((p :: a).map Pt.c).length = a.length + 1 := by simp
    have hda := drop1 (f := Pt.c) (p := p) (a := a) (n := ((a.length + 1 : Nat) : Int).toNat) (z := 1) rfl (by omega)
    rcases b with _ | ⟨q, b⟩
    · simp only [List.length_cons, List.length_nil] at hb
      rw [mrg_a (.inl rfl)] at hI
      have hs : o.map Un.c ++ [[u8 2, i64 p.id, i64 p.id, i64 p.a, i64 p.b]] = (o ++ [(⟨2, p.id, p⟩ : Un)]).map Un.c := by rw [List.map_append]; rfl
      repeat' ((conv => whnf); first | (with_reducible first | refine br_t ?_ | refine br_f ?_ | refine za ?_ | refine zg ?_ | refine zo ?_) | rw [la] | rw [lz] | rw [hol] | refine zp ?_ | refine zq ?_ | (with_reducible first | refine bc (fun h => ?_) (fun h => ?_) | refine zt ?_ | refine zf ?_ | refine br_i (fun h => ?_) (fun h => ?_) | refine xi (pv_bool fun _ => nev30 _ _ _ _ _ _ _ _ _) ?_) | refine zg ?_ | refine zi ?_ | refine zb ?_ | refine zl ?_)
      all_goals conv => whnf
      refine ⟨(a, [], o ++ [(⟨2, p.id, p⟩ : Un)]), ⟨by simp; omega, by rw [List.append_assoc]; exact hI⟩, ?_, by simp only [List.length_cons, List.length_nil]; omega⟩
      (conv => whnf); refine ⟨by repeat' (first | with_reducible exact zE0 | with_reducible refine zE1 ?_ ?_ | rfl | assumption | (first | exact congrArg (fun x => some (Blk.row 5 x 0)) hs | exact congrArg (fun x => some (sD (.list 3 x))) hda | exact congrArg (fun x => some (sD (.list 3 x))) hdb) | exact zi1 | exact zb1), by repeat' (first | with_reducible exact zH0 | with_reducible refine zH1 ?_ ?_ | rfl | assumption | (first | exact congrArg (fun x => some (Blk.row 5 x 0)) hs | exact congrArg (fun x => some (sD (.list 3 x))) hda | exact congrArg (fun x => some (sD (.list 3 x))) hdb)), rfl⟩
    · have gb : ((q :: b).map Pt.c)[(0 : Int).toNat]? = some [i64 q.id, i64 q.a, i64 q.b] := rfl
      have lb : ((q :: b).map Pt.c).length = b.length + 1 := by simp
      have hdb := drop1 (f := Pt.c) (p := q) (a := b) (n := ((b.length + 1 : Nat) : Int).toNat) (z := 1) rfl (by omega)
      simp only [List.length_cons] at hb
      rcases Int.lt_trichotomy p.id q.id with h | h | h
      · rw [mrg_a (.inr ⟨q, b, rfl, h⟩)] at hI
        have hs : o.map Un.c ++ [[u8 2, i64 p.id, i64 p.id, i64 p.a, i64 p.b]] = (o ++ [(⟨2, p.id, p⟩ : Un)]).map Un.c := by rw [List.map_append]; rfl
        repeat' ((conv => whnf); first | (with_reducible first | refine br_t ?_ | refine br_f ?_ | refine za ?_ | refine zg ?_ | refine zo ?_) | rw [la] | rw [lb] | rw [hol] | refine zp ?_ | refine zq ?_ | (with_reducible first | refine bc (fun h => ?_) (fun h => ?_) | refine zt ?_ | refine zf ?_ | refine br_i (fun h => ?_) (fun h => ?_) | refine xi (pv_bool fun _ => nev30 _ _ _ _ _ _ _ _ _) ?_) | refine zg ?_ | refine zi ?_ | refine zb ?_ | refine zl ?_)
        all_goals conv => whnf
        refine ⟨(a, q :: b, o ++ [(⟨2, p.id, p⟩ : Un)]), ⟨by simp; omega, by rw [List.append_assoc]; exact hI⟩, ?_, by simp only [List.length_cons, List.length_nil]; omega⟩
        (conv => whnf); refine ⟨by repeat' (first | with_reducible exact zE0 | with_reducible refine zE1 ?_ ?_ | rfl | assumption | (first | exact congrArg (fun x => some (Blk.row 5 x 0)) hs | exact congrArg (fun x => some (sD (.list 3 x))) hda | exact congrArg (fun x => some (sD (.list 3 x))) hdb) | exact zi1 | exact zb1), by repeat' (first | with_reducible exact zH0 | with_reducible refine zH1 ?_ ?_ | rfl | assumption | (first | exact congrArg (fun x => some (Blk.row 5 x 0)) hs | exact congrArg (fun x => some (sD (.list 3 x))) hda | exact congrArg (fun x => some (sD (.list 3 x))) hdb)), rfl⟩
      · by_cases c : p = q
        · subst c
          rw [mrg_e] at hI
          repeat' ((conv => whnf); first | (with_reducible first | refine br_t ?_ | refine br_f ?_ | refine za ?_ | refine zg ?_ | refine zo ?_) | rw [la] | rw [lb] | rw [hol] | refine zp ?_ | refine zq ?_ | (with_reducible first | refine bc (fun h => ?_) (fun h => ?_) | refine zt ?_ | refine zf ?_ | refine br_i (fun h => ?_) (fun h => ?_) | refine xi (pv_bool fun _ => nev30 _ _ _ _ _ _ _ _ _) ?_) | refine zg ?_ | refine zi ?_ | refine zb ?_ | refine zl ?_)
          all_goals conv => whnf
          refine ⟨(a, b, o), ⟨by simp; omega, hI⟩, ?_, by simp only [List.length_cons]; omega⟩
          (conv => whnf); refine ⟨by repeat' (first | with_reducible exact zE0 | with_reducible refine zE1 ?_ ?_ | rfl | assumption | (first | exact congrArg (fun x => some (sD (.list 3 x))) hda | exact congrArg (fun x => some (sD (.list 3 x))) hdb) | exact zi1 | exact zb1), by repeat' (first | with_reducible exact zH0 | with_reducible refine zH1 ?_ ?_ | rfl | assumption | (first | exact congrArg (fun x => some (sD (.list 3 x))) hda | exact congrArg (fun x => some (sD (.list 3 x))) hdb)), rfl⟩
        · have hne : ¬ (p.id = q.id ∧ p.a = q.a ∧ p.b = q.b) := fun e => c (Pt.eq_iff.2 e)
          rw [mrg_n h c] at hI
          have hs : o.map Un.c ++ [[u8 4, i64 p.id, i64 q.id, i64 q.a, i64 q.b]] = (o ++ [(⟨4, p.id, q⟩ : Un)]).map Un.c := by rw [List.map_append]; rfl
          repeat' ((conv => whnf); first | (with_reducible first | refine br_t ?_ | refine br_f ?_ | refine za ?_ | refine zg ?_ | refine zo ?_) | rw [la] | rw [lb] | rw [hol] | refine zp ?_ | refine zq ?_ | (with_reducible first | refine bc (fun h => ?_) (fun h => ?_) | refine zt ?_ | refine zf ?_ | refine br_i (fun h => ?_) (fun h => ?_) | refine xi (pv_bool fun _ => nev30 _ _ _ _ _ _ _ _ _) ?_) | refine zg ?_ | refine zi ?_ | refine zb ?_ | refine zl ?_)
          all_goals conv => whnf
          refine ⟨(a, b, o ++ [(⟨4, p.id, q⟩ : Un)]), ⟨by simp; omega, by rw [List.append_assoc]; exact hI⟩, ?_, by simp only [List.length_cons, List.length_nil]; omega⟩
          (conv => whnf); refine ⟨by repeat' (first | with_reducible exact zE0 | with_reducible refine zE1 ?_ ?_ | rfl | assumption | (first | exact congrArg (fun x => some (Blk.row 5 x 0)) hs | exact congrArg (fun x => some (sD (.list 3 x))) hda | exact congrArg (fun x => some (sD (.list 3 x))) hdb) | exact zi1 | exact zb1), by repeat' (first | with_reducible exact zH0 | with_reducible refine zH1 ?_ ?_ | rfl | assumption | (first | exact congrArg (fun x => some (Blk.row 5 x 0)) hs | exact congrArg (fun x => some (sD (.list 3 x))) hda | exact congrArg (fun x => some (sD (.list 3 x))) hdb)), rfl⟩
      · rw [mrg_b (.inr ⟨p, a, rfl, h⟩)] at hI
        have hs : o.map Un.c ++ [[u8 3, i64 q.id, i64 q.id, i64 q.a, i64 q.b]] = (o ++ [(⟨3, q.id, q⟩ : Un)]).map Un.c := by rw [List.map_append]; rfl
        repeat' ((conv => whnf); first | (with_reducible first | refine br_t ?_ | refine br_f ?_ | refine za ?_ | refine zg ?_ | refine zo ?_) | rw [la] | rw [lb] | rw [hol] | refine zp ?_ | refine zq ?_ | (with_reducible first | refine bc (fun h => ?_) (fun h => ?_) | refine zt ?_ | refine zf ?_ | refine br_i (fun h => ?_) (fun h => ?_) | refine xi (pv_bool fun _ => nev30 _ _ _ _ _ _ _ _ _) ?_) | refine zg ?_ | refine zi ?_ | refine zb ?_ | refine zl ?_)
        all_goals conv => whnf
        refine ⟨(p :: a, b, o ++ [(⟨3, q.id, q⟩ : Un)]), ⟨by simp; omega, by rw [List.append_assoc]; exact hI⟩, ?_, by simp only [List.length_cons, List.length_nil]; omega⟩
        (conv => whnf); refine ⟨by repeat' (first | with_reducible exact zE0 | with_reducible refine zE1 ?_ ?_ | rfl | assumption | (first | exact congrArg (fun x => some (Blk.row 5 x 0)) hs | exact congrArg (fun x => some (sD (.list 3 x))) hda | exact congrArg (fun x => some (sD (.list 3 x))) hdb) | exact zi1 | exact zb1), by repeat' (first | with_reducible exact zH0 | with_reducible refine zH1 ?_ ?_ | rfl | assumption | (first | exact congrArg (fun x => some (Blk.row 5 x 0)) hs | exact congrArg (fun x => some (sD (.list 3 x))) hda | exact congrArg (fun x => some (sD (.list 3 x))) hdb)), rfl⟩
end Go.Proofs.YtepmgbmnghiaoaaGreat

namespace Go.Proofs.YtepmgbmnghiaoaaGreat
open Go Go.RowKit Go.Sort Sx
abbrev retU (x : List Uk × Int) : DV := .tup [.one (uks x.1), .one (i64 x.2)]
abbrev retKs (x : List Ak × Int) : DV := .tup [.one (aks x.1), .one (i64 x.2)]
theorem uns_get {l : List Un} {i : Nat} (h : i < l.length) : (l.map Un.c)[((i : Nat) : Int).toNat]? = some [u8 l[i].k, i64 l[i].id, i64 l[i].p.id, i64 l[i].p.a, i64 l[i].p.b] := by
  rw [Int.toNat_natCast, List.getElem?_map, List.getElem?_eq_getElem h]; rfl
theorem uks_get {l : List Uk} {i : Nat} (h : i < l.length) : (l.map Uk.c)[((i : Nat) : Int).toNat]? = some [u8 l[i].k, i64 l[i].id] := by
  rw [Int.toNat_natCast, List.getElem?_map, List.getElem?_eq_getElem h]; rfl
theorem rowU_succ {P : List Uk} {U : List Un} {i : Nat} (h : i < U.length) : (P ++ (U.take i).map Un.u).map Uk.c ++ [[u8 U[i].k, i64 U[i].id]] = (P ++ (U.take (i + 1)).map Un.u).map Uk.c := by
  rw [List.take_succ_eq_append_getElem h, List.map_append, List.map_append, List.map_append, List.map_append, List.append_assoc]; rfl
theorem both_len {m n : Md} (h : bothV m n = 0) : m.l.length ≤ 64 ∧ n.l.length ≤ 64 := by
  obtain ⟨h1, h2⟩ := both_ok h
  exact ⟨(fchk_ok (mchk_ok h1).2).1, (fchk_ok (mchk_ok h2).2).1⟩
set_option maxRecDepth 100000 in
set_option maxHeartbeats 4000000 in
theorem dAll_fn (m n : Md) : FnOK Tryz.prog 48 [m.dc, n.dc] (retU (allV m n)) := by
  have H0 := dboth_fn m n
  unfold allV
  by_cases h : bothV m n = 0
  · rw [if_pos h]
    rw [h] at H0
    obtain ⟨b1, b2⟩ := both_len h
    have HM := dmerge_fn m n (by omega) (by omega)
    have hlen := mrg_len m.l n.l
    unfold allU nowU
    generalize mrg m.l n.l = U at *
    have hul : (U.map Un.c).length = U.length := List.length_map ..
    by_cases c : m.n = n.n ∧ m.d = n.d
    · rw [if_pos c]
      obtain ⟨c1, c2⟩ := c
      refine fn_ok (by kernel_rfl) (ty_okK [7, 24, 37] [] [] []) Tryz.func48 rfl (fun _ _ => Tryz.call48 _ _) rfl ?_
      intro hw
      clear hw
      repeat' ((conv => whnf); first | (with_reducible first | refine br_t ?_ | refine br_f ?_ | refine za ?_ | refine zg ?_ | refine zo ?_) | rw [hul] | refine zp ?_ | refine zq ?_ | (with_reducible first | refine bc (fun h => ?_) (fun h => ?_) | refine zt ?_ | refine zf ?_ | refine br_i (fun h => ?_) (fun h => ?_) | refine xi (pv_bool fun _ => nev23 _ _ _ _ _ _ _) ?_) | refine zg ?_ | refine zi ?_ | refine zb ?_ | refine zl ?_)
      clear H0 HM
      refine loop_J (by kernel_rfl) (ty_okK [7, 24, 37] [] [] []) (σ := Nat) (fun i => [(29, sV (.int .i64 i)), (7, .c (.at (.osl 7 0)))]) (fun i => [(7, .row 2 ((([] : List Uk) ++ (U.take i).map Un.u).map Uk.c) 0)]) (fun i => i ≤ U.length) (fun i => U.length - i) 0 (Nat.zero_le _) ?_ ?_
      · (conv => whnf); exact zent
      intro i hi
      have hl : ((([] : List Uk) ++ (U.take i).map Un.u).map Uk.c).length = i := by simp; omega
      rcases Nat.lt_or_ge i U.length with hlt | hge
      · have g1 := uns_get hlt
        have hs := rowU_succ (P := []) hlt
        repeat' ((conv => whnf); first | (with_reducible first | refine br_t ?_ | refine br_f ?_ | refine za ?_ | refine zg ?_ | refine zo ?_) | rw [hl] | rw [hul] | refine zp ?_ | refine zq ?_ | (with_reducible first | refine bc (fun h => ?_) (fun h => ?_) | refine zt ?_ | refine zf ?_ | refine br_i (fun h => ?_) (fun h => ?_) | refine xi (pv_bool fun _ => nev23 _ _ _ _ _ _ _) ?_) | refine zg ?_ | refine zi ?_ | refine zb ?_ | refine zl ?_)
        all_goals conv => whnf
        refine ⟨i + 1, by omega, ?_, by omega⟩
        (conv => whnf); refine ⟨by repeat' (first | with_reducible exact zE0 | with_reducible refine zE1 ?_ ?_ | rfl | assumption | ((exact congrArg (fun x => some (Blk.row 2 x 0)) hs)) | exact zi1 | exact zb1), by repeat' (first | with_reducible exact zH0 | with_reducible refine zH1 ?_ ?_ | rfl | assumption | ((exact congrArg (fun x => some (Blk.row 2 x 0)) hs))), rfl⟩
      · rw [List.take_of_length_le hge]
        repeat' ((conv => whnf); first | (with_reducible first | refine br_t ?_ | refine br_f ?_ | refine za ?_ | refine zg ?_ | refine zo ?_) | rw [hul] | refine zp ?_ | refine zq ?_ | (with_reducible first | refine bc (fun h => ?_) (fun h => ?_) | refine zt ?_ | refine zf ?_ | refine br_i (fun h => ?_) (fun h => ?_) | refine xi (pv_bool fun _ => nev23 _ _ _ _ _ _ _) ?_) | refine zg ?_ | refine zi ?_ | refine zb ?_ | refine zl ?_)
        all_goals conv => whnf
        all_goals rfl
    · rw [if_neg c]
      have c' : ¬ (m.n = n.n ∧ m.d = n.d) := c
      refine fn_ok (by kernel_rfl) (ty_okK [7, 24, 37] [] [] []) Tryz.func48 rfl (fun _ _ => Tryz.call48 _ _) rfl ?_
      intro hw
      clear hw
      repeat' ((conv => whnf); first | (with_reducible first | refine br_t ?_ | refine br_f ?_ | refine za ?_ | refine zg ?_ | refine zo ?_) | rw [hul] | refine zp ?_ | refine zq ?_ | (with_reducible first | refine bc (fun h => ?_) (fun h => ?_) | refine zt ?_ | refine zf ?_ | refine br_i (fun h => ?_) (fun h => ?_) | refine xi (pv_bool fun _ => nev23 _ _ _ _ _ _ _) ?_) | refine zg ?_ | refine zi ?_ | refine zb ?_ | refine zl ?_)
      clear H0 HM
      refine loop_keep [4, 5, 7, 27, 28, 29] ?_
      conv => whnf
      refine loop_J (by kernel_rfl) (ty_okK [7, 24, 37] [] [] []) (σ := Nat) (fun i => [(29, sV (.int .i64 i)), (7, .c (.at (.osl 7 0)))]) (fun i => [(7, .row 2 ((([⟨1, 0⟩] : List Uk) ++ (U.take i).map Un.u).map Uk.c) 0)]) (fun i => i ≤ U.length) (fun i => U.length - i) 0 (Nat.zero_le _) ?_ ?_
      · (conv => whnf); exact zent
      intro i hi
      have hl : ((([⟨1, 0⟩] : List Uk) ++ (U.take i).map Un.u).map Uk.c).length = i + 1 := by simp; omega
      rcases Nat.lt_or_ge i U.length with hlt | hge
      · have g1 := uns_get hlt
        have hs := rowU_succ (P := [⟨1, 0⟩]) hlt
        repeat' ((conv => whnf); first | (with_reducible first | refine br_t ?_ | refine br_f ?_ | refine za ?_ | refine zg ?_ | refine zo ?_) | rw [hl] | rw [hul] | refine zp ?_ | refine zq ?_ | (with_reducible first | refine bc (fun h => ?_) (fun h => ?_) | refine zt ?_ | refine zf ?_ | refine br_i (fun h => ?_) (fun h => ?_) | refine xi (pv_bool fun _ => nev23 _ _ _ _ _ _ _) ?_) | refine zg ?_ | refine zi ?_ | refine zb ?_ | refine zl ?_)
        all_goals conv => whnf
        refine ⟨i + 1, by omega, ?_, by omega⟩
        (conv => whnf); refine ⟨by repeat' (first | with_reducible exact zE0 | with_reducible refine zE1 ?_ ?_ | rfl | assumption | ((exact congrArg (fun x => some (Blk.row 2 x 0)) hs)) | exact zi1 | exact zb1), by repeat' (first | with_reducible exact zH0 | with_reducible refine zH1 ?_ ?_ | rfl | assumption | ((exact congrArg (fun x => some (Blk.row 2 x 0)) hs))), rfl⟩
      · rw [List.take_of_length_le hge]
        repeat' ((conv => whnf); first | (with_reducible first | refine br_t ?_ | refine br_f ?_ | refine za ?_ | refine zg ?_ | refine zo ?_) | rw [hul] | refine zp ?_ | refine zq ?_ | (with_reducible first | refine bc (fun h => ?_) (fun h => ?_) | refine zt ?_ | refine zf ?_ | refine br_i (fun h => ?_) (fun h => ?_) | refine xi (pv_bool fun _ => nev23 _ _ _ _ _ _ _) ?_) | refine zg ?_ | refine zi ?_ | refine zb ?_ | refine zl ?_)
        all_goals conv => whnf
        all_goals rfl
  · rw [if_neg h]
    rw [(both_08 m n).resolve_left h] at H0
    refine fn_ok (by kernel_rfl) ty_ok Tryz.func48 rfl (fun _ _ => Tryz.call48 _ _) rfl ?_
    intro hw
    clear hw
    repeat' ((conv => whnf); first | (with_reducible first | refine br_t ?_ | refine br_f ?_ | refine za ?_ | refine zg ?_) | refine zp ?_ | refine zq ?_ | (with_reducible first | refine bc (fun h => ?_) (fun h => ?_) | refine zt ?_ | refine zf ?_ | refine br_i (fun h => ?_) (fun h => ?_) | refine xi (pv_bool fun _ => nev23 _ _ _ _ _ _ _) ?_) | refine zg ?_ | refine zi ?_ | refine zb ?_)
    all_goals conv => whnf
    all_goals rfl
theorem dFirst_fn (m n : Md) : FnOK Tryz.prog 56 [m.dc, n.dc] (.tup [(firstV m n).1.dc, .one (i64 (firstV m n).2)]) := by
  have H := dAll_fn m n
  unfold firstV
  unfold allV at H
  by_cases h : bothV m n = 0
  · rw [if_pos h] at H ⊢
    cases hU : allU m n with
    | nil =>
      rw [hU] at H
      simp only [retU, List.map_nil] at H
      dsimp only
      refine fn_ok (by kernel_rfl) ty_ok Tryz.func56 rfl (fun _ _ => Tryz.call56 _ _) rfl ?_
      intro hw
      clear hw
      exact zw
    | cons u r =>
      rw [hU] at H
      simp only [retU] at H
      dsimp only
      have g : ((u :: r).map Uk.c)[(0 : Int).toNat]? = some [u8 u.k, i64 u.id] := rfl
      have hl : ((u :: r).map Uk.c).length = r.length + 1 := by simp
      refine fn_ok (by kernel_rfl) ty_ok Tryz.func56 rfl (fun _ _ => Tryz.call56 _ _) rfl ?_
      intro hw
      clear hw
      repeat' ((conv => whnf); first | (with_reducible first | refine br_t ?_ | refine br_f ?_ | refine za ?_ | refine zg ?_) | rw [hl] | refine zp ?_ | refine zq ?_ | (with_reducible first | refine bc (fun h => ?_) (fun h => ?_) | refine zt ?_ | refine zf ?_ | refine br_i (fun h => ?_) (fun h => ?_)) | refine zg ?_ | refine zi ?_ | refine zb ?_)
      all_goals conv => whnf
      all_goals rfl
  · rw [if_neg h] at H ⊢
    refine fn_ok (by kernel_rfl) ty_ok Tryz.func56 rfl (fun _ _ => Tryz.call56 _ _) rfl ?_
    intro hw
    clear hw
    exact zw
theorem Md.eq_iff {m n : Md} : m = n ↔ (m.n = n.n ∧ m.d = n.d) ∧ m.l = n.l := by
  cases m; cases n; simp [and_assoc]
theorem dSame_fn (m n : Md) : FnOK Tryz.prog 49 [m.dc, n.dc] (.tup [.one (bol (sameV m n).1), .one (i64 (sameV m n).2)]) := by
  have H0 := dboth_fn m n
  have HE := eqPt_fn m.l n.l
  have he := Md.eq_iff (m := m) (n := n)
  unfold sameV
  by_cases h : bothV m n = 0
  · rw [if_pos h]
    rw [h] at H0
    by_cases c : m.l = n.l
    · rw [decide_eq_true c] at HE
      simp only [c, and_true] at he
      by_cases c1 : m.n = n.n ∧ m.d = n.d
      · rw [decide_eq_true (he.2 c1)]
        obtain ⟨c1, c2⟩ := c1
        clear c he
        refine fn_ok (by kernel_rfl) ty_ok Tryz.func49 rfl (fun _ _ => Tryz.call49 _ _) rfl ?_
        intro hw
        clear hw
        repeat' ((conv => whnf); first | (with_reducible first | refine br_t ?_ | refine br_f ?_ | refine za ?_ | refine zg ?_) | refine zp ?_ | refine zq ?_ | (with_reducible first | refine bc (fun h => ?_) (fun h => ?_) | refine zt ?_ | refine zf ?_ | refine br_i (fun h => ?_) (fun h => ?_) | refine xi (pv_bool fun _ => eqv23 _ _ _ _ _ _ _) ?_) | refine zg ?_ | refine zi ?_ | refine zb ?_)
        all_goals conv => whnf
        all_goals rfl
      · rw [decide_eq_false (fun e => c1 (he.1 e))]
        clear c he
        refine fn_ok (by kernel_rfl) ty_ok Tryz.func49 rfl (fun _ _ => Tryz.call49 _ _) rfl ?_
        intro hw
        clear hw
        repeat' ((conv => whnf); first | (with_reducible first | refine br_t ?_ | refine br_f ?_ | refine za ?_ | refine zg ?_) | refine zp ?_ | refine zq ?_ | (with_reducible first | refine bc (fun h => ?_) (fun h => ?_) | refine zt ?_ | refine zf ?_ | refine br_i (fun h => ?_) (fun h => ?_) | refine xi (pv_bool fun _ => eqv23 _ _ _ _ _ _ _) ?_) | refine zg ?_ | refine zi ?_ | refine zb ?_)
        all_goals conv => whnf
        all_goals rfl
    · rw [decide_eq_false c] at HE
      rw [decide_eq_false (fun e => c (he.1 e).2)]
      clear c he
      refine fn_ok (by kernel_rfl) ty_ok Tryz.func49 rfl (fun _ _ => Tryz.call49 _ _) rfl ?_
      intro hw
      clear hw
      repeat' ((conv => whnf); first | (with_reducible first | refine br_t ?_ | refine br_f ?_ | refine za ?_ | refine zg ?_) | refine zp ?_ | refine zq ?_ | (with_reducible first | refine bc (fun h => ?_) (fun h => ?_) | refine zt ?_ | refine zf ?_ | refine br_i (fun h => ?_) (fun h => ?_) | refine xi (pv_bool fun _ => eqv23 _ _ _ _ _ _ _) ?_) | refine zg ?_ | refine zi ?_ | refine zb ?_)
      all_goals conv => whnf
      all_goals rfl
  · rw [if_neg h]
    rw [(both_08 m n).resolve_left h] at H0
    clear HE he
    refine fn_ok (by kernel_rfl) ty_ok Tryz.func49 rfl (fun _ _ => Tryz.call49 _ _) rfl ?_
    intro hw
    clear hw
    repeat' ((conv => whnf); first | (with_reducible first | refine br_t ?_ | refine br_f ?_ | refine za ?_ | refine zg ?_) | refine zp ?_ | refine zq ?_ | (with_reducible first | refine bc (fun h => ?_) (fun h => ?_) | refine zt ?_ | refine zf ?_ | refine br_i (fun h => ?_) (fun h => ?_) | refine xi (pv_bool fun _ => eqv23 _ _ _ _ _ _ _) ?_) | refine zg ?_ | refine zi ?_ | refine zb ?_)
    all_goals conv => whnf
    all_goals rfl
theorem tk_succ {U : List Un} {i : Nat} (h : i < U.length) : tkA (U.take (i + 1)) = tkA (U.take i) ++ if U[i].k = 2 then [⟨2, ⟨0, 0, 0⟩, U[i].id, 0, 0⟩] else [] := by
  unfold tkA; rw [List.take_succ_eq_append_getElem h, List.filter_append, List.map_append]
  by_cases c : U[i].k = 2 <;> simp [c]
theorem ch_succ {U : List Un} {i : Nat} (h : i < U.length) : chA (U.take (i + 1)) = chA (U.take i) ++ if U[i].k = 4 then [⟨3, U[i].p, 0, 0, 0⟩] else [] := by
  unfold chA; rw [List.take_succ_eq_append_getElem h, List.filter_append, List.map_append]
  by_cases c : U[i].k = 4 <;> simp [c]
theorem pt_succ {U : List Un} {i : Nat} (h : i < U.length) : ptA (U.take (i + 1)) = ptA (U.take i) ++ if U[i].k = 3 then [⟨1, U[i].p, 0, 0, 0⟩] else [] := by
  unfold ptA; rw [List.take_succ_eq_append_getElem h, List.filter_append, List.map_append]
  by_cases c : U[i].k = 3 <;> simp [c]
theorem part_len (U : List Un) (i : Nat) : (tkA (U.take i)).length ≤ U.length ∧ (chA (U.take i)).length ≤ U.length ∧ (ptA (U.take i)).length ≤ U.length := by
  unfold tkA chA ptA
  simp only [List.length_map]
  have k : ∀ p : Un → Bool, ((U.take i).filter p).length ≤ U.length := fun p => Nat.le_trans (List.length_filter_le ..) (by rw [List.length_take]; omega)
  exact ⟨k _, k _, k _⟩
theorem part_get (U : List Un) (h : ∀ u ∈ U, u.k = 2 ∨ u.k = 3 ∨ u.k = 4) {i : Nat} (hi : i < U.length) : U[i].k = 2 ∨ U[i].k = 4 ∨ U[i].k = 3 := by
  have := h _ (List.getElem_mem hi); omega
set_option maxRecDepth 100000 in
set_option maxHeartbeats 8000000 in
theorem dAsks_fn (m n : Md) : FnOK Tryz.prog 50 [m.dc, n.dc] (retKs (asksV m n)) := by
  have H0 := dboth_fn m n
  unfold asksV
  by_cases h : bothV m n = 0
  · rw [if_pos h]
    rw [h] at H0
    obtain ⟨b1, b2⟩ := both_len h
    obtain ⟨hm, hn⟩ := both_ok h
    have q1 := (askd_ok (mchk_ok hm).1).1
    have q2 := (askd_ok (mchk_ok hn).1).1
    have HC := cmp_chk q2 q1
    have hcc := cmpN_cases (n.n * m.d) (m.n * n.d)
    have heq : n.n * m.d = m.n * n.d ↔ m.n = n.n ∧ m.d = n.d := by
      constructor
      · intro e
        have l1 : ¬ qv m.n m.d < qv n.n n.d := fun h => by have := (qv_ltM q1 q2).1 h; omega
        have l2 : ¬ qv n.n n.d < qv m.n m.d := fun h => by have := (qv_ltM q2 q1).1 h; omega
        exact (qv_inj q1 q2).1 (Rat.le_antisymm (Rat.not_lt.1 l2) (Rat.not_lt.1 l1))
      · rintro ⟨e1, e2⟩
        rw [e1, e2]
    by_cases hlt : n.n * m.d < m.n * n.d
    · rw [if_pos hlt]
      have hc : cmpN (n.n * m.d) (m.n * n.d) = -1 := by omega
      rw [hc] at HC
      clear hcc heq hlt
      refine fn_ok (by kernel_rfl) ty_ok Tryz.func50 rfl (fun _ _ => Tryz.call50 _ _) rfl ?_
      intro hw
      clear hw
      exact zw
    · rw [if_neg hlt]
      have HM := dmerge_fn m n (by omega) (by omega)
      have hlen := mrg_len m.l n.l
      have hk : ∀ u ∈ mrg m.l n.l, u.k = 2 ∨ u.k = 3 ∨ u.k = 4 := fun u hu => mrg_kinds hu
      unfold asksL mvA
      generalize mrg m.l n.l = U at *
      have hul : (U.map Un.c).length = U.length := List.length_map ..
      have hpl := part_len U U.length
      rw [List.take_length] at hpl
      have HG := catAk_own [(tkA U).map Ak.c, (chA U).map Ak.c, (ptA U).map Ak.c] (by simp; omega) (by simp)
      have hfl : [(tkA U).map Ak.c, (chA U).map Ak.c, (ptA U).map Ak.c].flatten = (tkA U ++ chA U ++ ptA U).map Ak.c := by simp
      rw [hfl] at HG
      have hQl : ((tkA U ++ chA U ++ ptA U).map Ak.c).length = (tkA U ++ chA U ++ ptA U).length := List.length_map ..
      have hQ2 : (tkA U ++ chA U ++ ptA U).length ≤ 1000 := by simp; omega
      have HG' : FnOwn Tryz.prog 87 [.one (.list 1 [[.list 7 ((tkA U).map Ak.c)], [.list 7 ((chA U).map Ak.c)], [.list 7 ((ptA U).map Ak.c)]])] (ownL 7 ((tkA U ++ chA U ++ ptA U).map Ak.c)) := HG
      clear HG hfl
      have main : ∀ (Z : List Ak × Int), (if 120 < (tkA U ++ chA U ++ ptA U ++ if m.n = n.n ∧ m.d = n.d then [] else [(⟨4, ⟨0, 0, 0⟩, 0, n.n, n.d⟩ : Ak)]).length then ([], 4) else (tkA U ++ chA U ++ ptA U ++ (if m.n = n.n ∧ m.d = n.d then [] else [(⟨4, ⟨0, 0, 0⟩, 0, n.n, n.d⟩ : Ak)]), 0)) = Z → FnOK Tryz.prog 50 [m.dc, n.dc] (retKs Z) := fun Z hZ => by
        generalize tkA U ++ chA U ++ ptA U = Q at *
        have hs4 : Q.map Ak.c ++ [[u8 4, i64 0, i64 0, i64 0, i64 0, i64 n.n, i64 n.d]] = (Q ++ [(⟨4, ⟨0, 0, 0⟩, 0, n.n, n.d⟩ : Ak)]).map Ak.c := by rw [List.map_append]; rfl
        generalize hcn : cmpN (n.n * m.d) (m.n * n.d) = cc at *
        refine fn_ok (by kernel_rfl) (ty_okK [9, 10, 11, 53, 61, 69, 75, 83] [] [] []) Tryz.func50 rfl (fun _ _ => Tryz.call50 _ _) rfl ?_
        intro hw
        clear hw
        repeat' ((conv => whnf); first | (with_reducible first | refine br_t ?_ | refine br_f ?_ | refine za ?_ | refine zg ?_ | refine zo ?_) | rw [hul] | refine zp ?_ | refine zq ?_ | (with_reducible first | refine bc (fun h => ?_) (fun h => ?_) | refine zt ?_ | refine zf ?_ | refine br_i (fun h => ?_) (fun h => ?_)) | refine zg ?_ | refine zi ?_ | refine zb ?_ | refine zl ?_)
        refine loop_frz [9, 10, 11] ?_
        refine loop_J (by kernel_rfl) (ty_okK [9, 10, 11, 53, 61, 69, 75, 83] [] [] []) (σ := Nat) (fun i => [(38, sV (.int .i64 i)), (9, .c (.at (.osl 9 0))), (10, .c (.at (.osl 10 0))), (11, .c (.at (.osl 11 0)))]) (fun i => [(9, .row 7 ((tkA (U.take i)).map Ak.c) 0), (10, .row 7 ((chA (U.take i)).map Ak.c) 0), (11, .row 7 ((ptA (U.take i)).map Ak.c) 0)]) (fun i => i ≤ U.length) (fun i => U.length - i) 0 (Nat.zero_le _) ?_ ?_
        · (conv => whnf); exact zent
        intro i hi
        have p1 : (tkA (U.take i)).length ≤ U.length := (part_len U i).1
        have p2 : (chA (U.take i)).length ≤ U.length := (part_len U i).2.1
        have p3 : (ptA (U.take i)).length ≤ U.length := (part_len U i).2.2
        rcases Nat.lt_or_ge i U.length with hlt | hge
        · have g1 := uns_get hlt
          have t1 := tk_succ hlt
          have t2 := ch_succ hlt
          have t3 := pt_succ hlt
          clear HG' H0 HC HM
          rcases part_get U hk hlt with c | c | c
          · rw [if_pos c] at t1
            rw [if_neg (by omega), List.append_nil] at t2 t3
            have s1 : (tkA (U.take i)).map Ak.c ++ [[u8 2, i64 0, i64 0, i64 0, i64 U[i].id, i64 0, i64 0]] = (tkA (U.take (i + 1))).map Ak.c := by rw [t1, List.map_append]; rfl
            have s2 := congrArg (List.map Ak.c) t2
            have s3 := congrArg (List.map Ak.c) t3
            clear t1 t2 t3
            rw [c] at g1
            repeat' ((conv => whnf); first | (with_reducible first | refine br_t ?_ | refine br_f ?_ | refine za ?_ | refine zg ?_ | refine zo ?_) | refine zp ?_ | refine zq ?_ | (with_reducible first | refine bc (fun h => ?_) (fun h => ?_) | refine zt ?_ | refine zf ?_ | refine br_i (fun h => ?_) (fun h => ?_)) | refine zg ?_ | refine zi ?_ | refine zb ?_ | refine zl ?_)
            all_goals conv => whnf
            refine ⟨i + 1, by omega, ?_, by omega⟩
            (conv => whnf); refine ⟨by repeat' (first | with_reducible exact zE0 | with_reducible refine zE1 ?_ ?_ | rfl | assumption | (first | exact congrArg (fun x => some (Blk.row 7 x 0)) s1 | exact congrArg (fun x => some (Blk.row 7 x 0)) s2.symm | exact congrArg (fun x => some (Blk.row 7 x 0)) s3.symm) | exact zi1 | exact zb1), by repeat' (first | with_reducible exact zH0 | with_reducible refine zH1 ?_ ?_ | rfl | assumption | (first | exact congrArg (fun x => some (Blk.row 7 x 0)) s1 | exact congrArg (fun x => some (Blk.row 7 x 0)) s2.symm | exact congrArg (fun x => some (Blk.row 7 x 0)) s3.symm)), rfl⟩
          · rw [if_pos c] at t2
            rw [if_neg (by omega), List.append_nil] at t1 t3
            have s2 : (chA (U.take i)).map Ak.c ++ [[u8 3, i64 U[i].p.id, i64 U[i].p.a, i64 U[i].p.b, i64 0, i64 0, i64 0]] = (chA (U.take (i + 1))).map Ak.c := by rw [t2, List.map_append]; rfl
            have s1 := congrArg (List.map Ak.c) t1
            have s3 := congrArg (List.map Ak.c) t3
            clear t1 t2 t3
            rw [c] at g1
            repeat' ((conv => whnf); first | (with_reducible first | refine br_t ?_ | refine br_f ?_ | refine za ?_ | refine zg ?_ | refine zo ?_) | refine zp ?_ | refine zq ?_ | (with_reducible first | refine bc (fun h => ?_) (fun h => ?_) | refine zt ?_ | refine zf ?_ | refine br_i (fun h => ?_) (fun h => ?_)) | refine zg ?_ | refine zi ?_ | refine zb ?_ | refine zl ?_)
            all_goals conv => whnf
            refine ⟨i + 1, by omega, ?_, by omega⟩
            (conv => whnf); refine ⟨by repeat' (first | with_reducible exact zE0 | with_reducible refine zE1 ?_ ?_ | rfl | assumption | (first | exact congrArg (fun x => some (Blk.row 7 x 0)) s2 | exact congrArg (fun x => some (Blk.row 7 x 0)) s1.symm | exact congrArg (fun x => some (Blk.row 7 x 0)) s3.symm) | exact zi1 | exact zb1), by repeat' (first | with_reducible exact zH0 | with_reducible refine zH1 ?_ ?_ | rfl | assumption | (first | exact congrArg (fun x => some (Blk.row 7 x 0)) s2 | exact congrArg (fun x => some (Blk.row 7 x 0)) s1.symm | exact congrArg (fun x => some (Blk.row 7 x 0)) s3.symm)), rfl⟩
          · rw [if_pos c] at t3
            rw [if_neg (by omega), List.append_nil] at t1 t2
            have s3 : (ptA (U.take i)).map Ak.c ++ [[u8 1, i64 U[i].p.id, i64 U[i].p.a, i64 U[i].p.b, i64 0, i64 0, i64 0]] = (ptA (U.take (i + 1))).map Ak.c := by rw [t3, List.map_append]; rfl
            have s1 := congrArg (List.map Ak.c) t1
            have s2 := congrArg (List.map Ak.c) t2
            clear t1 t2 t3
            rw [c] at g1
            repeat' ((conv => whnf); first | (with_reducible first | refine br_t ?_ | refine br_f ?_ | refine za ?_ | refine zg ?_ | refine zo ?_) | refine zp ?_ | refine zq ?_ | (with_reducible first | refine bc (fun h => ?_) (fun h => ?_) | refine zt ?_ | refine zf ?_ | refine br_i (fun h => ?_) (fun h => ?_)) | refine zg ?_ | refine zi ?_ | refine zb ?_ | refine zl ?_)
            all_goals conv => whnf
            refine ⟨i + 1, by omega, ?_, by omega⟩
            (conv => whnf); refine ⟨by repeat' (first | with_reducible exact zE0 | with_reducible refine zE1 ?_ ?_ | rfl | assumption | (first | exact congrArg (fun x => some (Blk.row 7 x 0)) s3 | exact congrArg (fun x => some (Blk.row 7 x 0)) s1.symm | exact congrArg (fun x => some (Blk.row 7 x 0)) s2.symm) | exact zi1 | exact zb1), by repeat' (first | with_reducible exact zH0 | with_reducible refine zH1 ?_ ?_ | rfl | assumption | (first | exact congrArg (fun x => some (Blk.row 7 x 0)) s3 | exact congrArg (fun x => some (Blk.row 7 x 0)) s1.symm | exact congrArg (fun x => some (Blk.row 7 x 0)) s2.symm)), rfl⟩
        · rw [List.take_of_length_le hge]
          clear p1 p2 p3 H0 HC HM
          by_cases ce : m.n = n.n ∧ m.d = n.d
          · have hc0 : cc = 0 := by have := heq.2 ce; omega
            rw [if_pos ce, List.append_nil] at hZ
            by_cases c1 : 120 < Q.length
            · rw [if_pos c1] at hZ
              subst hZ
              repeat' ((conv => whnf); first | (with_reducible first | refine br_t ?_ | refine br_f ?_ | refine za ?_ | refine zg ?_ | refine zo ?_) | rw [hul] | rw [hQl] | refine zp ?_ | refine zq ?_ | (with_reducible first | refine bc (fun h => ?_) (fun h => ?_) | refine zt ?_ | refine zf ?_ | refine br_i (fun h => ?_) (fun h => ?_)) | refine zg ?_ | refine zi ?_ | refine zb ?_ | refine zl ?_)
              all_goals conv => whnf
              all_goals rfl
            · rw [if_neg c1] at hZ
              subst hZ
              repeat' ((conv => whnf); first | (with_reducible first | refine br_t ?_ | refine br_f ?_ | refine za ?_ | refine zg ?_ | refine zo ?_) | rw [hul] | rw [hQl] | refine zp ?_ | refine zq ?_ | (with_reducible first | refine bc (fun h => ?_) (fun h => ?_) | refine zt ?_ | refine zf ?_ | refine br_i (fun h => ?_) (fun h => ?_)) | refine zg ?_ | refine zi ?_ | refine zb ?_ | refine zl ?_)
              all_goals conv => whnf
              all_goals rfl
          · have hc1 : cc = 1 := by
              have : ¬ n.n * m.d = m.n * n.d := fun e => ce (heq.1 e)
              omega
            rw [if_neg ce] at hZ
            have hl1 : (Q.map Ak.c ++ [[u8 4, i64 0, i64 0, i64 0, i64 0, i64 n.n, i64 n.d]]).length = Q.length + 1 := by simp
            have hl2 : (Q ++ [(⟨4, ⟨0, 0, 0⟩, 0, n.n, n.d⟩ : Ak)]).length = Q.length + 1 := by simp
            by_cases c1 : 120 < Q.length + 1
            · rw [if_pos (by omega)] at hZ
              subst hZ
              repeat' ((conv => whnf); first | (with_reducible first | refine br_t ?_ | refine br_f ?_ | refine za ?_ | refine zg ?_ | refine zo ?_) | rw [hul] | rw [hl1] | rw [hQl] | refine zp ?_ | refine zq ?_ | (with_reducible first | refine bc (fun h => ?_) (fun h => ?_) | refine zt ?_ | refine zf ?_ | refine br_i (fun h => ?_) (fun h => ?_)) | refine zg ?_ | refine zi ?_ | refine zb ?_ | refine zl ?_)
              all_goals conv => whnf
              all_goals rfl
            · rw [if_neg (by omega)] at hZ
              subst hZ
              repeat' ((conv => whnf); first | (with_reducible first | refine br_t ?_ | refine br_f ?_ | refine za ?_ | refine zg ?_ | refine zo ?_) | rw [hul] | rw [hl1] | rw [hQl] | refine zp ?_ | refine zq ?_ | (with_reducible first | refine bc (fun h => ?_) (fun h => ?_) | refine zt ?_ | refine zf ?_ | refine br_i (fun h => ?_) (fun h => ?_)) | refine zg ?_ | refine zi ?_ | refine zb ?_ | refine zl ?_)
              all_goals conv => whnf
              all_goals exact congrArg (fun x => DV.tup [.one (.list 7 x), .one (i64 0)]) hs4
      exact main _ rfl
  · rw [if_neg h]
    rw [(both_08 m n).resolve_left h] at H0
    refine fn_ok (by kernel_rfl) ty_ok Tryz.func50 rfl (fun _ _ => Tryz.call50 _ _) rfl ?_
    intro hw
    clear hw
    exact zw
end Go.Proofs.YtepmgbmnghiaoaaGreat

namespace Go.Proofs.YtepmgbmnghiaoaaGreat
open Go Go.RowKit Go.Sort Sx
theorem wd_uks {l : List Uk} (h : WD (uks l)) : l.length ≤ 9223372036854775807 := by
  obtain ⟨h1, _, h3⟩ := WD_list.1 h
  simpa using h1
theorem Uk.eq_iff {a b : Uk} : a = b ↔ a.k = b.k ∧ a.id = b.id := by
  cases a; cases b; simp
theorem rdSameAll_fn (a b : List Uk) : FnOK Tryz.prog 83 [.one (uks a), .one (uks b)] (.c (.one (bol (decide (a = b))))) := by
  have hla : (a.map Uk.c).length = a.length := List.length_map ..
  have hlb : (b.map Uk.c).length = b.length := List.length_map ..
  refine fn_ok (by kernel_rfl) ty_ok Tryz.func83 rfl (fun _ _ => Tryz.call83 _ _) rfl ?_
  intro hw
  simp only [WDCs, WDC, WDs] at hw
  have w1 := wd_uks hw.1
  have w2 := wd_uks hw.2.1
  clear hw
  by_cases h0 : a.length = b.length
  · repeat' ((conv => whnf); first | (with_reducible first | refine br_t ?_ | refine br_f ?_ | refine za ?_ | refine zg ?_) | rw [hla] | rw [hlb] | refine zp ?_ | refine zq ?_ | (with_reducible first | refine bc (fun h => ?_) (fun h => ?_) | refine zt ?_ | refine zf ?_ | refine br_i (fun h => ?_) (fun h => ?_) | refine xi (pv_bool fun _ => nev104 _ _ _ _ _ _ _) ?_) | refine zg ?_ | refine zi ?_ | refine zb ?_)
    refine loop_J (by kernel_rfl) ty_ok (σ := Nat) (fun i => [(5, sV (.int .i64 i))]) (fun _ => []) (fun i => i ≤ a.length ∧ a.take i = b.take i) (fun i => a.length - i) 0 ⟨by omega, rfl⟩ ?_ ?_
    · (conv => whnf); exact zent
    rintro i ⟨hi, hI⟩
    rcases Nat.lt_or_ge i a.length with hlt | hge
    · have hb : i < b.length := by omega
      have he1 := uks_get hlt
      have he2 := uks_get hb
      have hq := Uk.eq_iff (a := a[i]) (b := b[i])
      by_cases hc : a[i] = b[i]
      · have hn := take_succ_eq hI hlt hb hc
        have hq := hq.1 hc
        clear hc
        repeat' ((conv => whnf); first | (with_reducible first | refine br_t ?_ | refine br_f ?_ | refine za ?_ | refine zg ?_) | rw [hla] | rw [hlb] | refine zp ?_ | refine zq ?_ | (with_reducible first | refine bc (fun h => ?_) (fun h => ?_) | refine zt ?_ | refine zf ?_ | refine br_i (fun h => ?_) (fun h => ?_) | refine xi (pv_bool fun _ => nev104 _ _ _ _ _ _ _) ?_) | refine zg ?_ | refine zi ?_ | refine zb ?_)
        all_goals conv => whnf
        refine ⟨i + 1, ⟨by omega, hn⟩, ?_, by omega⟩
        (conv => whnf); exact zent
      · rw [decide_eq_false (ne_of_get hlt hb hc)]
        have hq : ¬ _ := fun h => hc (hq.2 h)
        clear hc
        repeat' ((conv => whnf); first | (with_reducible first | refine br_t ?_ | refine br_f ?_ | refine za ?_ | refine zg ?_) | rw [hla] | rw [hlb] | refine zp ?_ | refine zq ?_ | (with_reducible first | refine bc (fun h => ?_) (fun h => ?_) | refine zt ?_ | refine zf ?_ | refine br_i (fun h => ?_) (fun h => ?_) | refine xi (pv_bool fun _ => nev104 _ _ _ _ _ _ _) ?_) | refine zg ?_ | refine zi ?_ | refine zb ?_)
        all_goals conv => whnf
        all_goals rfl
    · rw [decide_eq_true (take_all_eq hI h0 hge)]
      repeat' ((conv => whnf); first | (with_reducible first | refine br_t ?_ | refine br_f ?_ | refine za ?_ | refine zg ?_) | rw [hla] | rw [hlb] | refine zp ?_ | refine zq ?_ | (with_reducible first | refine bc (fun h => ?_) (fun h => ?_) | refine zt ?_ | refine zf ?_ | refine br_i (fun h => ?_) (fun h => ?_) | refine xi (pv_bool fun _ => nev104 _ _ _ _ _ _ _) ?_) | refine zg ?_ | refine zi ?_ | refine zb ?_)
      all_goals conv => whnf
      all_goals rfl
  · rw [decide_eq_false (fun h => h0 (congrArg List.length h))]
    repeat' ((conv => whnf); first | (with_reducible first | refine br_t ?_ | refine br_f ?_ | refine za ?_ | refine zg ?_) | rw [hla] | rw [hlb] | refine zp ?_ | refine zq ?_ | (with_reducible first | refine bc (fun h => ?_) (fun h => ?_) | refine zt ?_ | refine zf ?_ | refine br_i (fun h => ?_) (fun h => ?_) | refine xi (pv_bool fun _ => nev104 _ _ _ _ _ _ _) ?_) | refine zg ?_ | refine zi ?_ | refine zb ?_)
    all_goals conv => whnf
    all_goals rfl
theorem allU_nil {m n : Md} : allU m n = [] ↔ m = n := by
  unfold allU nowU
  rw [List.append_eq_nil_iff, List.map_eq_nil_iff, mrg_nil, Md.eq_iff]
  by_cases c : m.n = n.n ∧ m.d = n.d
  · rw [if_pos c]; simp [c]
  · rw [if_neg c]; simp [c]
abbrev dxM : Md := ⟨0, 1, [⟨1, 0, 0⟩, ⟨2, 0, 0⟩]⟩
abbrev dxN : Md := ⟨1, 1, [⟨2, 0, 5⟩, ⟨3, 0, 0⟩]⟩
theorem dx_mrg : mrg dxM.l dxN.l = [⟨2, 1, ⟨1, 0, 0⟩⟩, ⟨4, 2, ⟨2, 0, 5⟩⟩, ⟨3, 3, ⟨3, 0, 0⟩⟩] := by simp [mrg]
theorem dx_all : allV dxM dxN = ([⟨1, 0⟩, ⟨2, 1⟩, ⟨4, 2⟩, ⟨3, 3⟩], 0) := by
  unfold allV
  rw [if_pos (by decide)]
  unfold allU
  rw [dx_mrg]; rfl
theorem dx_asks : asksV dxM dxN = ([⟨2, ⟨0, 0, 0⟩, 1, 0, 0⟩, ⟨3, ⟨2, 0, 5⟩, 0, 0, 0⟩, ⟨1, ⟨3, 0, 0⟩, 0, 0, 0⟩, ⟨4, ⟨0, 0, 0⟩, 0, 1, 1⟩], 0) := by
  unfold asksV
  rw [if_pos (by decide), if_neg (by decide)]
  unfold asksL
  rw [dx_mrg]; rfl
theorem dx_reps : repsV dxM dxN [takeA 2, takeA 1] = (1, 0) := by decide
theorem DLof_fn (t : Int) (l : List Pt) : FnOK Tryz.prog 57 [.one (i64 t), .one (pts l)] (.c (Md.dc ⟨t, 1, l⟩)) := by
  refine fn_ok (by kernel_rfl) ty_ok Tryz.func57 rfl (fun _ _ => Tryz.call57 _ _) rfl ?_
  intro hw
  clear hw
  exact zw
theorem DLtake_fn (i : Int) : FnOK Tryz.prog 58 [.one (i64 i)] (.c (Ak.dc (takeA i))) := by
  refine fn_ok (by kernel_rfl) ty_ok Tryz.func58 rfl (fun _ _ => Tryz.call58 _ _) rfl ?_
  intro hw
  clear hw
  exact zw
set_option maxRecDepth 100000 in
set_option maxHeartbeats 4000000 in
theorem DLalive_fn : FnOK Tryz.prog 46 [] (.c (.one (bol true))) := by
  have A1 := DLof_fn 0 [⟨1, 0, 0⟩, ⟨2, 0, 0⟩]
  have A2 := DLof_fn 1 [⟨2, 0, 5⟩, ⟨3, 0, 0⟩]
  have T1 := DLtake_fn 1
  have T2 := DLtake_fn 2
  have B := dAll_fn dxM dxN
  rw [dx_all] at B
  have C := dAsks_fn dxM dxN
  rw [dx_asks] at C
  have D0 := dReplies_fn dxM dxN [takeA 2, takeA 1]
  rw [dx_reps] at D0
  have S1 := rdSameAll_fn [⟨1, 0⟩, ⟨2, 1⟩, ⟨4, 2⟩, ⟨3, 3⟩] [⟨1, 0⟩, ⟨2, 1⟩, ⟨4, 2⟩, ⟨3, 3⟩]
  have S2 := r36SameAsks_fn [⟨2, ⟨0, 0, 0⟩, 1, 0, 0⟩, ⟨3, ⟨2, 0, 5⟩, 0, 0, 0⟩, ⟨1, ⟨3, 0, 0⟩, 0, 0, 0⟩, ⟨4, ⟨0, 0, 0⟩, 0, 1, 1⟩] [⟨2, ⟨0, 0, 0⟩, 1, 0, 0⟩, ⟨3, ⟨2, 0, 5⟩, 0, 0, 0⟩, ⟨1, ⟨3, 0, 0⟩, 0, 0, 0⟩, ⟨4, ⟨0, 0, 0⟩, 0, 1, 1⟩]
  simp only [decide_true, retU, retKs, ret2, dxM, dxN, uks, aks, Md.dc, pts, List.map_cons, List.map_nil, Uk.c, Ak.c, Pt.c, takeA] at A1 A2 T1 T2 B C D0 S1 S2
  refine fn_ok (by kernel_rfl) ty_ok Tryz.func46 rfl (fun _ _ => Tryz.call46 _ _) rfl ?_
  intro hw
  clear hw
  exact zw
theorem DLfit_fn (m n : Md) : FnOK Tryz.prog 47 [m.dc, n.dc] (.c (.one (bol (!(great m.l || great n.l) && decide (bothV m n = 0))))) := by
  have H0 := DLgreat_fn m n
  have H1 := rdBoth_fn m n
  cases hg : (great m.l || great n.l) <;> rw [hg] at H0
  · by_cases h : bothV m n = 0
    · rw [h] at H1 ⊢
      refine fn_ok (by kernel_rfl) ty_ok Tryz.func47 rfl (fun _ _ => Tryz.call47 _ _) rfl ?_
      intro hw
      clear hw
      exact zw
    · rw [decide_eq_false h]
      generalize bothV m n = z at *
      refine fn_ok (by kernel_rfl) ty_ok Tryz.func47 rfl (fun _ _ => Tryz.call47 _ _) rfl ?_
      intro hw
      clear hw
      repeat' ((conv => whnf); first | (with_reducible first | refine br_t ?_ | refine br_f ?_ | refine za ?_ | refine zg ?_) | refine zp ?_ | refine zq ?_ | (with_reducible first | refine bc (fun h => ?_) (fun h => ?_) | refine zt ?_ | refine zf ?_ | refine br_i (fun h => ?_) (fun h => ?_)) | refine zg ?_ | refine zi ?_ | refine zb ?_)
      all_goals conv => whnf
      all_goals exact r_bool (by simp [h])
  · clear H1
    refine fn_ok (by kernel_rfl) ty_ok Tryz.func47 rfl (fun _ _ => Tryz.call47 _ _) rfl ?_
    intro hw
    clear hw
    exact zw
end Go.Proofs.YtepmgbmnghiaoaaGreat
