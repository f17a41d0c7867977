import Derived.Test.YtnhljlihchegjaaGreatGLPNamesAP
set_option linter.all false
/- The past: when a point was there, the program's walk. No conditions. -/
namespace Go.Proofs.YtnhljlihchegjaaGreat
open Go.RowKit Go.Sort Sx
theorem find_aln {l : List Pt} {id : Int} (h : fchk l = 0) : (∃ x, findV l id = (x, 0) ∧ aln l id = [x]) ∨ findV l id = (⟨0, 0, 0⟩, 6) ∧ aln l id = [] := by
  unfold findV aln
  rw [if_pos h]
  cases hh : has l id
  · exact .inr ⟨rfl, rfl⟩
  · exact .inl ⟨_, rfl, rfl⟩
set_option maxHeartbeats 4000000 in
theorem pWas_fn (p : Pa) (id : Int) : FnOK Tryz.prog 55 [p.dc, .one (i64 id)] (retM (wasV p id)) := by
  have H1 := pCheck_fn p
  unfold wasV
  by_cases h1 : pchk p = 0
  · rw [if_pos h1]
    rw [h1] at H1
    obtain ⟨k1, k2, k3, k4, k5⟩ := pchk_ok h1
    have hln : (p.ms.map Md.c).length = p.ms.length := List.length_map ..
    refine fn_ok (by kernel_rfl) (ty_okK [48] [] [] []) Tryz.func55 rfl (fun _ _ => Tryz.call55 _ _) rfl ?_
    intro hw
    clear hw
    repeat' ((conv => whnf); first | (with_reducible first | refine br_t ?_ | refine br_f ?_ | refine za ?_ | refine zg ?_ | refine zo ?_ | refine zb ?_ | refine zm ?_ | refine zc ?_ | refine ze ?_) | ((with_reducible refine bc_t ?_ ?_); (first | omega | decide)) | ((with_reducible refine bc_f ?_ ?_); (first | omega | decide)) | (with_reducible first | refine bc (fun h => ?_) (fun h => ?_) | refine zt ?_ | refine zf ?_ | refine br_i (fun h => ?_) (fun h => ?_)) | refine zg ?_ | refine zi ?_)
    refine loop_name 7 0 100 rfl rfl rfl ?_
    refine loop_J (by kernel_rfl) (ty_okK [48] [] [] []) (σ := Nat × List Md × List Pt × D) (fun s => [(22, sV (.int .i64 s.1)), (7, .c (.at (.osl 100 0)))]) (fun s => [(8, .own [.d s.2.2.2]), (100, .row 3 (s.2.1.map Md.c) 0)])
      (fun s => s.1 ≤ p.ms.length ∧ s.2.1.length ≤ s.1 ∧ (s.2.2.2 = .nil 3 ∧ s.2.2.1 = [] ∨ s.2.2.2 = pts s.2.2.1) ∧ s.2.1 ++ wasL (p.ms.drop s.1) id s.2.2.1 = wasL p.ms id []) (fun s => p.ms.length - s.1) (0, [], [], .nil 3) ⟨Nat.zero_le _, Nat.zero_le _, .inl ⟨rfl, rfl⟩, rfl⟩ ?_ ?_
    · (conv => whnf); exact zent
    rintro ⟨i, o, b, bd⟩ ⟨g1, g2, g3, g4⟩
    simp only at g1 g2 g3 g4
    rcases Nat.lt_or_ge i p.ms.length with hlt | hge
    · have hel := mos_get hlt
      have hfc := (mchk_ok (k5 _ (List.getElem_mem hlt))).2
      have H2 := fFind_fn p.ms[i].l id
      have H3 := psame_fn b (aln p.ms[i].l id)
      rw [wasL_lt hlt] at g4
      have ho : (o.map Md.c).length = o.length := List.length_map ..
      have ha : o.map Md.c ++ [[i64 p.ms[i].n, i64 p.ms[i].d, pts (aln p.ms[i].l id)]] = (o ++ [(⟨p.ms[i].n, p.ms[i].d, aln p.ms[i].l id⟩ : Md)]).map Md.c := by rw [List.map_append]; rfl
      rcases find_aln (id := id) hfc with ⟨x, f1, f2⟩ | ⟨f1, f2⟩
      all_goals rw [f1] at H2
      all_goals rw [f2] at H3 g4 ha
      all_goals simp only [retPt] at H2
      · rcases g3 with ⟨rfl, rfl⟩ | rfl
        · change FnOK _ _ [.agg [.list 3 []], .agg [.list 3 [[i64 x.id, i64 x.a, i64 x.b]]]] _ at H3
          by_cases hc : [] = [x]
          · rw [decide_eq_true hc] at H3
            rw [if_pos hc, List.nil_append] at g4
            clear hc
            repeat' ((conv => whnf); first | (with_reducible first | refine br_t ?_ | refine br_f ?_ | refine za ?_ | refine zg ?_ | refine zo ?_ | refine zb ?_ | refine zm ?_ | refine zc ?_ | refine ze ?_) | ((with_reducible refine bc_t ?_ ?_); (first | omega | decide)) | ((with_reducible refine bc_f ?_ ?_); (first | omega | decide)) | (with_reducible first | refine bc (fun h => ?_) (fun h => ?_) | refine zt ?_ | refine zf ?_ | refine br_i (fun h => ?_) (fun h => ?_)) | refine zg ?_ | refine zi ?_)
            all_goals conv => whnf
            refine ⟨(i + 1, o, [x], pts [x]), ⟨by show _ ≤ _; omega, by show o.length ≤ i + 1; omega, .inr rfl, g4⟩, ?_, by show _ - _ < _ - _; omega⟩
            (conv => whnf); exact zent
          · rw [decide_eq_false hc] at H3
            rw [if_neg hc, ← List.append_assoc] at g4
            clear hc
            repeat' ((conv => whnf); first | (with_reducible first | refine br_t ?_ | refine br_f ?_ | refine za ?_ | refine zg ?_ | refine zo ?_ | refine zb ?_ | refine zm ?_ | refine zc ?_ | refine ze ?_) | ((with_reducible refine bc_t ?_ ?_); (first | omega | decide)) | ((with_reducible refine bc_f ?_ ?_); (first | omega | decide)) | (with_reducible first | refine bc (fun h => ?_) (fun h => ?_) | refine zt ?_ | refine zf ?_ | refine br_i (fun h => ?_) (fun h => ?_)) | refine zg ?_ | refine zi ?_)
            all_goals conv => whnf
            refine ⟨(i + 1, o ++ [(⟨p.ms[i].n, p.ms[i].d, [x]⟩ : Md)], [x], pts [x]), ⟨by show _ ≤ _; omega, by show (o ++ [_]).length ≤ _; rw [List.length_append, List.length_singleton]; omega, .inr rfl, g4⟩, ?_, by show _ - _ < _ - _; omega⟩
            (conv => whnf); refine ⟨by repeat' (first | with_reducible exact zE0 | with_reducible refine zE1 ?_ ?_ | rfl | assumption | (exact congrArg (fun x => some (Blk.row 3 x 0)) ha) | (refine ent_i ?_; (first | omega | (rw [IntWalk.i64_in _ (by omega)]; omega) | (simp; done))) | (refine ent_b ?_; (first | omega | (rw [IntWalk.i64_in _ (by omega)]; omega) | (simp; done)))), by repeat' (first | with_reducible exact zH0 | with_reducible refine zH1 ?_ ?_ | rfl | assumption | (exact congrArg (fun x => some (Blk.row 3 x 0)) ha)), rfl⟩
        · change FnOK _ _ [fld b, .agg [.list 3 [[i64 x.id, i64 x.a, i64 x.b]]]] _ at H3
          by_cases hc : b = [x]
          · rw [decide_eq_true hc] at H3
            rw [if_pos hc, List.nil_append] at g4
            clear hc
            repeat' ((conv => whnf); first | (with_reducible first | refine br_t ?_ | refine br_f ?_ | refine za ?_ | refine zg ?_ | refine zo ?_ | refine zb ?_ | refine zm ?_ | refine zc ?_ | refine ze ?_) | ((with_reducible refine bc_t ?_ ?_); (first | omega | decide)) | ((with_reducible refine bc_f ?_ ?_); (first | omega | decide)) | (with_reducible first | refine bc (fun h => ?_) (fun h => ?_) | refine zt ?_ | refine zf ?_ | refine br_i (fun h => ?_) (fun h => ?_)) | refine zg ?_ | refine zi ?_)
            all_goals conv => whnf
            refine ⟨(i + 1, o, [x], pts [x]), ⟨by show _ ≤ _; omega, by show o.length ≤ i + 1; omega, .inr rfl, g4⟩, ?_, by show _ - _ < _ - _; omega⟩
            (conv => whnf); exact zent
          · rw [decide_eq_false hc] at H3
            rw [if_neg hc, ← List.append_assoc] at g4
            clear hc
            repeat' ((conv => whnf); first | (with_reducible first | refine br_t ?_ | refine br_f ?_ | refine za ?_ | refine zg ?_ | refine zo ?_ | refine zb ?_ | refine zm ?_ | refine zc ?_ | refine ze ?_) | ((with_reducible refine bc_t ?_ ?_); (first | omega | decide)) | ((with_reducible refine bc_f ?_ ?_); (first | omega | decide)) | (with_reducible first | refine bc (fun h => ?_) (fun h => ?_) | refine zt ?_ | refine zf ?_ | refine br_i (fun h => ?_) (fun h => ?_)) | refine zg ?_ | refine zi ?_)
            all_goals conv => whnf
            refine ⟨(i + 1, o ++ [(⟨p.ms[i].n, p.ms[i].d, [x]⟩ : Md)], [x], pts [x]), ⟨by show _ ≤ _; omega, by show (o ++ [_]).length ≤ _; rw [List.length_append, List.length_singleton]; omega, .inr rfl, g4⟩, ?_, by show _ - _ < _ - _; omega⟩
            (conv => whnf); refine ⟨by repeat' (first | with_reducible exact zE0 | with_reducible refine zE1 ?_ ?_ | rfl | assumption | (exact congrArg (fun x => some (Blk.row 3 x 0)) ha) | (refine ent_i ?_; (first | omega | (rw [IntWalk.i64_in _ (by omega)]; omega) | (simp; done))) | (refine ent_b ?_; (first | omega | (rw [IntWalk.i64_in _ (by omega)]; omega) | (simp; done)))), by repeat' (first | with_reducible exact zH0 | with_reducible refine zH1 ?_ ?_ | rfl | assumption | (exact congrArg (fun x => some (Blk.row 3 x 0)) ha)), rfl⟩
      · rcases g3 with ⟨rfl, rfl⟩ | rfl
        · change FnOK _ _ [.agg [.list 3 []], .agg [.list 3 []]] _ at H3
          by_cases hc : ([] : List Pt) = []
          · rw [decide_eq_true hc] at H3
            rw [if_pos hc, List.nil_append] at g4
            clear hc
            repeat' ((conv => whnf); first | (with_reducible first | refine br_t ?_ | refine br_f ?_ | refine za ?_ | refine zg ?_ | refine zo ?_ | refine zb ?_ | refine zm ?_ | refine zc ?_ | refine ze ?_) | ((with_reducible refine bc_t ?_ ?_); (first | omega | decide)) | ((with_reducible refine bc_f ?_ ?_); (first | omega | decide)) | (with_reducible first | refine bc (fun h => ?_) (fun h => ?_) | refine zt ?_ | refine zf ?_ | refine br_i (fun h => ?_) (fun h => ?_)) | refine zg ?_ | refine zi ?_)
            all_goals conv => whnf
            refine ⟨(i + 1, o, [], .nil 3), ⟨by show _ ≤ _; omega, by show o.length ≤ i + 1; omega, .inl ⟨rfl, rfl⟩, g4⟩, ?_, by show _ - _ < _ - _; omega⟩
            (conv => whnf); exact zent
          · rw [decide_eq_false hc] at H3
            rw [if_neg hc, ← List.append_assoc] at g4
            clear hc
            repeat' ((conv => whnf); first | (with_reducible first | refine br_t ?_ | refine br_f ?_ | refine za ?_ | refine zg ?_ | refine zo ?_ | refine zb ?_ | refine zm ?_ | refine zc ?_ | refine ze ?_) | ((with_reducible refine bc_t ?_ ?_); (first | omega | decide)) | ((with_reducible refine bc_f ?_ ?_); (first | omega | decide)) | (with_reducible first | refine bc (fun h => ?_) (fun h => ?_) | refine zt ?_ | refine zf ?_ | refine br_i (fun h => ?_) (fun h => ?_)) | refine zg ?_ | refine zi ?_)
            all_goals conv => whnf
            refine ⟨(i + 1, o ++ [(⟨p.ms[i].n, p.ms[i].d, []⟩ : Md)], [], .nil 3), ⟨by show _ ≤ _; omega, by show (o ++ [_]).length ≤ _; rw [List.length_append, List.length_singleton]; omega, .inl ⟨rfl, rfl⟩, g4⟩, ?_, by show _ - _ < _ - _; omega⟩
            (conv => whnf); refine ⟨by repeat' (first | with_reducible exact zE0 | with_reducible refine zE1 ?_ ?_ | rfl | assumption | (exact congrArg (fun x => some (Blk.row 3 x 0)) ha) | (refine ent_i ?_; (first | omega | (rw [IntWalk.i64_in _ (by omega)]; omega) | (simp; done))) | (refine ent_b ?_; (first | omega | (rw [IntWalk.i64_in _ (by omega)]; omega) | (simp; done)))), by repeat' (first | with_reducible exact zH0 | with_reducible refine zH1 ?_ ?_ | rfl | assumption | (exact congrArg (fun x => some (Blk.row 3 x 0)) ha)), rfl⟩
        · change FnOK _ _ [fld b, .agg [.list 3 []]] _ at H3
          by_cases hc : b = []
          · rw [decide_eq_true hc] at H3
            rw [if_pos hc, List.nil_append] at g4
            clear hc
            repeat' ((conv => whnf); first | (with_reducible first | refine br_t ?_ | refine br_f ?_ | refine za ?_ | refine zg ?_ | refine zo ?_ | refine zb ?_ | refine zm ?_ | refine zc ?_ | refine ze ?_) | ((with_reducible refine bc_t ?_ ?_); (first | omega | decide)) | ((with_reducible refine bc_f ?_ ?_); (first | omega | decide)) | (with_reducible first | refine bc (fun h => ?_) (fun h => ?_) | refine zt ?_ | refine zf ?_ | refine br_i (fun h => ?_) (fun h => ?_)) | refine zg ?_ | refine zi ?_)
            all_goals conv => whnf
            refine ⟨(i + 1, o, [], .nil 3), ⟨by show _ ≤ _; omega, by show o.length ≤ i + 1; omega, .inl ⟨rfl, rfl⟩, g4⟩, ?_, by show _ - _ < _ - _; omega⟩
            (conv => whnf); exact zent
          · rw [decide_eq_false hc] at H3
            rw [if_neg hc, ← List.append_assoc] at g4
            clear hc
            repeat' ((conv => whnf); first | (with_reducible first | refine br_t ?_ | refine br_f ?_ | refine za ?_ | refine zg ?_ | refine zo ?_ | refine zb ?_ | refine zm ?_ | refine zc ?_ | refine ze ?_) | ((with_reducible refine bc_t ?_ ?_); (first | omega | decide)) | ((with_reducible refine bc_f ?_ ?_); (first | omega | decide)) | (with_reducible first | refine bc (fun h => ?_) (fun h => ?_) | refine zt ?_ | refine zf ?_ | refine br_i (fun h => ?_) (fun h => ?_)) | refine zg ?_ | refine zi ?_)
            all_goals conv => whnf
            refine ⟨(i + 1, o ++ [(⟨p.ms[i].n, p.ms[i].d, []⟩ : Md)], [], .nil 3), ⟨by show _ ≤ _; omega, by show (o ++ [_]).length ≤ _; rw [List.length_append, List.length_singleton]; omega, .inl ⟨rfl, rfl⟩, g4⟩, ?_, by show _ - _ < _ - _; omega⟩
            (conv => whnf); refine ⟨by repeat' (first | with_reducible exact zE0 | with_reducible refine zE1 ?_ ?_ | rfl | assumption | (exact congrArg (fun x => some (Blk.row 3 x 0)) ha) | (refine ent_i ?_; (first | omega | (rw [IntWalk.i64_in _ (by omega)]; omega) | (simp; done))) | (refine ent_b ?_; (first | omega | (rw [IntWalk.i64_in _ (by omega)]; omega) | (simp; done)))), by repeat' (first | with_reducible exact zH0 | with_reducible refine zH1 ?_ ?_ | rfl | assumption | (exact congrArg (fun x => some (Blk.row 3 x 0)) ha)), rfl⟩
    · rw [wasL_ge hge, List.append_nil] at g4
      rw [← g4]
      rcases g3 with ⟨rfl, rfl⟩ | rfl
      all_goals
        exact zw
  · rw [if_neg h1]
    have h8 : pchk p = 8 := (pchk_08 p).resolve_left h1
    rw [h8] at H1
    refine fn_ok (by kernel_rfl) ty_ok Tryz.func55 rfl (fun _ _ => Tryz.call55 _ _) rfl ?_
    intro hw
    clear hw
    exact zw
end Go.Proofs.YtnhljlihchegjaaGreat

/- The past: going on, what was, replaying. No program is named. -/
namespace Go.Proofs.YtnhljlihchegjaaGreat
open Go.RowKit Go.Sort Sx
/-- a moment is not behind a time -/
abbrev leT (m : Md) (n e : Int) : Prop := qv m.n m.d ≤ qv n e
theorem wcnt_le_iff {l : List Md} {n e : Int} (hs : Ups l) (ht : chk n e = 0) {i : Nat} (hi : i < l.length) : i < wcnt l n e ↔ leT l[i] n e := by
  rw [← wcnt_iff hs ht hi]
  have h1 := qv_lt ht (hs.ok i hi)
  unfold leT
  rw [← Rat.not_lt, h1]
  unfold cmpN
  (repeat' split) <;> omega
theorem wcnt_of {l : List Md} {n e : Int} (hs : Ups l) (ht : chk n e = 0) {k : Nat} (hk : k ≤ l.length) (h1 : ∀ i (h : i < l.length), i < k → leT l[i] n e) (h2 : ∀ i (h : i < l.length), k ≤ i → ¬ leT l[i] n e) : wcnt l n e = k := by
  have hw := wcnt_le l n e
  rcases Nat.lt_trichotomy (wcnt l n e) k with h | h | h
  · exact absurd ((wcnt_le_iff hs ht (by omega)).2 (h1 (wcnt l n e) (by omega) h)) (Nat.lt_irrefl _)
  · exact h
  · exact absurd ((wcnt_le_iff hs ht (show k < l.length by omega)).1 h) (h2 k (by omega) (Nat.le_refl _))
theorem last_eq {p : Pa} (h : 1 ≤ p.ms.length) : p.last = p.ms[p.ms.length - 1] := by
  unfold Pa.last
  rw [List.getElem?_eq_getElem (by omega)]
  rfl
theorem pchk_last {p : Pa} (h : pchk p = 0) : leT p.last p.n p.d := by
  obtain ⟨h1, h2, h3, h4, h5⟩ := pchk_ok h
  have := ((pgo_iff (n := p.n) (d := p.d) (l := p.ms) (i := 0) rfl (by omega)).1 (by rw [List.drop_zero]; exact h4)).2.2 (p.ms.length - 1) (by omega) (by omega)
  rw [last_eq h1]
  unfold leT
  rw [← Rat.not_lt]
  intro hh
  have := (qv_lt (askd_chk h3) ((ups_of h).ok _ (by omega))).1 hh
  omega
theorem pchk_mk {p : Pa} (h1 : 1 ≤ p.ms.length) (h2 : p.ms.length ≤ 40) (h3 : askd p.n p.d = 0) (h4 : ∀ m ∈ p.ms, mchk m = 0) (h5 : Ups p.ms) (h6 : leT (p.ms[p.ms.length - 1]'(by omega)) p.n p.d) : pchk p = 0 := by
  have h7 : ∀ j (h : j < p.ms.length), j + 1 = p.ms.length → p.ms[j].n * p.d ≤ p.n * p.ms[j].d := fun j hj he => by
    obtain rfl : j = p.ms.length - 1 := by omega
    exact Int.not_lt.1 (mt (qv_lt (askd_chk h3) (h5.ok (p.ms.length - 1) (by omega))).2 (Rat.not_lt.2 h6))
  unfold pchk
  rw [if_pos ⟨h1, h2, h3, pgo_true (by omega) (fun j hj => h4 _ (List.getElem_mem hj)) (fun j hj => (qv_lt (h5.ok _ _) (h5.ok _ _)).1 (h5.up _ _ hj (Nat.lt_succ_self _))) h7⟩]
/-- all that a step does -/
structure Goes (p : Pa) (m : Md) (q : Pa) : Prop where
  ok : pchk q = 0
  now : q.n = m.n ∧ q.d = m.d
  len : q.ms.length ≤ p.ms.length + 1
  is : whatV q m.n m.d = (m.l, 0)
  was : ∀ n e, askd n e = 0 → qv n e ≤ qv p.n p.d → qv n e < qv m.n m.d → whatV q n e = whatV p n e
theorem what_last {q : Pa} (h : pchk q = 0) : whatV q q.n q.d = (q.last.l, 0) := by
  obtain ⟨h1, h2, h3, h4, h5⟩ := pchk_ok h
  have hs := ups_of h
  have ht := askd_chk h3
  have hl := pchk_last h
  rw [last_eq h1] at hl
  have hw : wcnt q.ms q.n q.d = q.ms.length := wcnt_of hs ht (Nat.le_refl _) (fun i hi _ => by
    rcases Nat.lt_or_ge i (q.ms.length - 1) with h | h
    · exact Rat.le_of_lt (Std.lt_of_lt_of_le (hs.up _ i (show q.ms.length - 1 < q.ms.length by omega) h) hl)
    · obtain rfl : i = q.ms.length - 1 := by omega
      exact hl) (fun i hi h => by omega)
  unfold whatV Pa.last
  rw [if_pos h, if_pos h3, if_neg (by omega), hw, if_neg (by omega)]
theorem what_eq {p q : Pa} (hp : pchk p = 0) (hq : pchk q = 0) {n e : Int} (ht : askd n e = 0) (h1 : qv n e ≤ qv p.n p.d) (h2 : qv n e ≤ qv q.n q.d) (h3 : wcnt p.ms n e = wcnt q.ms n e) (h4 : 0 < wcnt q.ms n e → (p.ms[wcnt q.ms n e - 1]?.getD default).l = (q.ms[wcnt q.ms n e - 1]?.getD default).l) : whatV q n e = whatV p n e := by
  have a1 := (pchk_ok hp).2.2.1
  have a2 := (pchk_ok hq).2.2.1
  have b1 : ¬ p.n * e < n * p.d := fun h => Rat.not_lt.2 h1 ((qv_lt (askd_chk a1) (askd_chk ht)).2 h)
  have b2 : ¬ q.n * e < n * q.d := fun h => Rat.not_lt.2 h2 ((qv_lt (askd_chk a2) (askd_chk ht)).2 h)
  unfold whatV
  rw [if_pos hp, if_pos hq, if_pos ht, if_pos ht, if_neg b1, if_neg b2, h3]
  by_cases h0 : wcnt q.ms n e = 0
  · rw [if_pos h0, if_pos h0]
  · rw [if_neg h0, if_neg h0, h4 (by omega)]
theorem goes {p q : Pa} {m : Md} (hp : pchk p = 0) (hm : mchk m = 0) (h : pGoV p m = (q, 0)) : Goes p m q := by
  obtain ⟨k1, k2, k3, k4, k5⟩ := pchk_ok hp
  have hs := ups_of hp
  have hl := pchk_last hp
  have hle := last_eq k1
  obtain ⟨g1, g2⟩ := mchk_ok hm
  have tm := askd_chk g1
  unfold pGoV at h
  rw [if_pos hp, if_pos hm] at h
  split at h
  · cases h
  rename_i hnow
  have hnow' : qv p.n p.d ≤ qv m.n m.d := Rat.not_lt.1 fun h => hnow ((qv_lt tm (askd_chk k3)).1 h)
  split at h
  · rename_i hsame
    injection h with h; subst h
    have hq : pchk ⟨m.n, m.d, p.ms⟩ = 0 := pchk_mk k1 k2 g1 k5 hs (by rw [← hle]; exact Rat.le_trans hl hnow')
    refine ⟨hq, ⟨rfl, rfl⟩, Nat.le_succ _, ?_, fun n e ht h1 h2 => what_eq hp hq ht h1 (Rat.le_of_lt h2) rfl fun _ => rfl⟩
    rw [show whatV ⟨m.n, m.d, p.ms⟩ m.n m.d = _ from what_last hq]
    exact congrArg (fun x => (x, (0 : Int))) hsame
  · split at h
    · rename_i hdiff hat
      injection h with h; subst h
      have hget : ∀ i (hi : i < (p.ms.set (p.ms.length - 1) m).length), ((p.ms.set (p.ms.length - 1) m)[i].n = (p.ms[i]'(by simpa using hi)).n ∧ (p.ms.set (p.ms.length - 1) m)[i].d = (p.ms[i]'(by simpa using hi)).d) := fun i hi => by
        rw [List.getElem_set]
        split
        · rename_i e; subst e; rw [hle] at hat; exact ⟨hat.1.symm, hat.2.symm⟩
        · exact ⟨rfl, rfl⟩
      have hlen : (p.ms.set (p.ms.length - 1) m).length = p.ms.length := by simp
      have hs2 : Ups (p.ms.set (p.ms.length - 1) m) := ⟨fun i hi => by rw [(hget i hi).1, (hget i hi).2]; exact hs.ok i (by simpa using hi), fun j i hj hij => by
        rw [(hget i (by omega)).1, (hget i (by omega)).2, (hget j hj).1, (hget j hj).2]; exact hs.up j i (by simpa using hj) hij⟩
      have hlast : (p.ms.set (p.ms.length - 1) m)[p.ms.length - 1]'(by simp; omega) = m := List.getElem_set_self ..
      have hq : pchk ⟨m.n, m.d, p.ms.set (p.ms.length - 1) m⟩ = 0 := by
        refine pchk_mk (by rw [hlen]; exact k1) (by rw [hlen]; exact k2) g1 (fun x hx => ?_) hs2 ?_
        · rcases List.mem_or_eq_of_mem_set hx with hx | rfl
          · exact k5 x hx
          · exact hm
        · simp only [hlen, hlast]
          exact Rat.le_refl
      refine ⟨hq, ⟨rfl, rfl⟩, by rw [hlen]; exact Nat.le_succ _, ?_, fun n e ht h1 h2 => ?_⟩
      · rw [show whatV ⟨m.n, m.d, p.ms.set (p.ms.length - 1) m⟩ m.n m.d = _ from what_last hq, last_eq (p := ⟨m.n, m.d, p.ms.set (p.ms.length - 1) m⟩) (by rw [hlen]; exact k1)]
        simp only [hlen, hlast]
      · have tn := askd_chk ht
        have hlt : ∀ i (hi : i < p.ms.length), leT p.ms[i] n e → i < p.ms.length - 1 := fun i hi hle' => by
          rcases Nat.lt_or_ge i (p.ms.length - 1) with h | h
          · exact h
          · exfalso
            obtain rfl : i = p.ms.length - 1 := by omega
            have : qv m.n m.d ≤ qv n e := by rw [← hat.1, ← hat.2, hle]; exact hle'
            exact Rat.not_lt.2 this h2
        have hw : wcnt (p.ms.set (p.ms.length - 1) m) n e = wcnt p.ms n e := by
          refine wcnt_of hs2 tn (by rw [hlen]; exact wcnt_le ..) (fun i hi hk => ?_) (fun i hi hk => ?_)
          · unfold leT
            rw [(hget i hi).1, (hget i hi).2]
            exact (wcnt_le_iff hs tn (by omega)).1 hk
          · unfold leT
            rw [(hget i hi).1, (hget i hi).2]
            exact fun hh => absurd ((wcnt_le_iff hs tn (by omega)).2 hh) (by omega)
        refine what_eq hp hq ht h1 (Rat.le_of_lt h2) hw.symm fun h0 => ?_
        rw [hw] at h0 ⊢
        have hwl := wcnt_le p.ms n e
        have := hlt (wcnt p.ms n e - 1) (by omega) ((wcnt_le_iff hs tn (by omega)).1 (by omega))
        rw [List.getElem?_set_ne (by omega)]
    · split at h
      · cases h
      · rename_i hdiff hat hfull
        injection h with h; subst h
        have hlen : (p.ms ++ [m]).length = p.ms.length + 1 := by simp
        have hlm : qv p.last.n p.last.d < qv m.n m.d := by
          have h1 : qv p.last.n p.last.d ≤ qv m.n m.d := Rat.le_trans hl hnow'
          refine Rat.not_le.1 fun h2 => hat ?_
          have he := Rat.le_antisymm h1 h2
          have hc := hs.ok (p.ms.length - 1) (by omega)
          rw [← hle] at hc
          exact (qv_inj hc tm).1 he
        have hs2 : Ups (p.ms ++ [m]) := by
          refine ⟨fun i hi => ?_, fun j i hj hij => ?_⟩
          · rw [List.getElem_append]
            split
            · exact hs.ok i _
            · simp only [List.getElem_singleton]; exact tm
          · rw [hlen] at hj
            rw [List.getElem_append_left (show i < p.ms.length by omega)]
            rcases Nat.lt_or_ge j p.ms.length with h | h
            · rw [List.getElem_append_left h]; exact hs.up j i h hij
            · rw [List.getElem_append_right h]
              simp only [List.getElem_singleton]
              rcases Nat.lt_or_ge i (p.ms.length - 1) with h3 | h3
              · refine Std.lt_trans ?_ hlm
                rw [hle]; exact hs.up _ i (by omega) h3
              · obtain rfl : i = p.ms.length - 1 := by omega
                rw [← hle]; exact hlm
        have hq : pchk ⟨m.n, m.d, p.ms ++ [m]⟩ = 0 := by
          refine pchk_mk (by rw [hlen]; omega) (by rw [hlen]; omega) g1 (fun x hx => ?_) hs2 ?_
          · rcases List.mem_append.1 hx with hx | hx
            · exact k5 x hx
            · rw [List.mem_singleton.1 hx]; exact hm
          · simp only [hlen, Nat.add_sub_cancel]
            rw [List.getElem_append_right (Nat.le_refl _)]
            simp only [Nat.sub_self, List.getElem_singleton]
            exact Rat.le_refl
        refine ⟨hq, ⟨rfl, rfl⟩, by rw [hlen]; exact Nat.le_refl _, ?_, fun n e ht h1 h2 => ?_⟩
        · rw [show whatV ⟨m.n, m.d, p.ms ++ [m]⟩ m.n m.d = _ from what_last hq, last_eq (p := ⟨m.n, m.d, p.ms ++ [m]⟩) (by rw [hlen]; omega)]
          simp only [hlen, Nat.add_sub_cancel]
          rw [List.getElem_append_right (Nat.le_refl _)]
          simp only [Nat.sub_self, List.getElem_singleton]
        · have tn := askd_chk ht
          have hwl := wcnt_le p.ms n e
          have hw : wcnt (p.ms ++ [m]) n e = wcnt p.ms n e := by
            refine wcnt_of hs2 tn (by rw [hlen]; omega) (fun i hi hk => ?_) (fun i hi hk => ?_)
            · rw [List.getElem_append_left (show i < p.ms.length by omega)]
              exact (wcnt_le_iff hs tn (by omega)).1 hk
            · rcases Nat.lt_or_ge i p.ms.length with h | h
              · rw [List.getElem_append_left h]
                exact fun hh => absurd ((wcnt_le_iff hs tn h).2 hh) (by omega)
              · rw [List.getElem_append_right h]
                simp only [List.getElem_singleton]
                exact Rat.not_le.2 h2
          refine what_eq hp hq ht h1 (Rat.le_of_lt h2) hw.symm fun h0 => ?_
          rw [hw] at h0 ⊢
          rw [List.getElem?_append_left (by omega)]
end Go.Proofs.YtnhljlihchegjaaGreat

/- Fields: Change, and the reference's Change, Without, Take. No conditions. -/
namespace Go.Proofs.YtnhljlihchegjaaGreat
open Go Go.RowKit Go.Sort Sx
abbrev retFl (x : List Pt × Int) : DV := .tup [fld x.1, .one (i64 x.2)]
def changeV (l : List Pt) (p : Pt) : List Pt × Int := if fchk l = 0 then (if p.chk = 0 then (if has l p.id then (l.set (pos l p.id) p, 0) else ([], 6)) else ([], 8)) else ([], fchk l)
theorem fChange_fn (l : List Pt) (p : Pt) : FnOK Tryz.prog 104 [fld l, p.dc] (retFl (changeV l p)) := by
  have H1 := fCheck_fn l
  have H2 := kCheck_fn p.id p.a p.b
  have H3 := fplace_fn l p.id
  unfold placeV at H3
  unfold changeV
  by_cases h1 : fchk l = 0
  · obtain ⟨k1, k2, k3⟩ := fchk_ok h1
    rw [if_pos h1] at H3 ⊢
    rw [h1] at H1
    by_cases h2 : p.chk = 0
    · rw [if_pos h2]
      unfold Pt.chk at h2
      rw [h2] at H2
      cases hh : has l p.id
      · rw [hh, if_neg (by decide)] at H3
        refine fn_ok (by kernel_rfl) ty_ok Tryz.func104 rfl (fun _ _ => Tryz.call104 _ _) rfl ?_
        intro hw
        clear hw
        exact zw
      · rw [hh, if_pos rfl] at H3
        obtain ⟨hlt, _⟩ := (has_pos k3).1 hh
        have hel := pts_get hlt
        have H4 := clonePt_own (l.map Pt.c) (by simp; omega)
        rw [if_pos rfl]
        have hset : (l.map Pt.c).set ((pos l p.id : Nat) : Int).toNat p.c = (l.set (pos l p.id) p).map Pt.c := by rw [Int.toNat_natCast, List.map_set]
        refine fn_ok (by kernel_rfl) (ty_okK [36] [] [] []) Tryz.func104 rfl (fun _ _ => Tryz.call104 _ _) rfl ?_
        intro hw
        clear hw
        repeat' ((conv => whnf); first | (with_reducible first | refine br_t ?_ | refine br_f ?_ | refine za ?_ | refine zg ?_ | refine zo ?_ | refine zb ?_ | refine zm ?_ | refine zc ?_ | refine ze ?_) | rw [List.length_map] | ((with_reducible refine bc_t ?_ ?_); (first | omega | decide)) | ((with_reducible refine bc_f ?_ ?_); (first | omega | decide)) | (with_reducible first | refine bc (fun h => ?_) (fun h => ?_) | refine zt ?_ | refine zf ?_ | refine br_i (fun h => ?_) (fun h => ?_)) | refine zg ?_ | refine zi ?_)
        all_goals conv => whnf
        all_goals exact congrArg (fun x => DV.tup [.agg [.list 3 x], .one (i64 0)]) hset
    · rw [if_neg h2]
      have h8 : cpt p.id p.a p.b = 8 := (cpt_08 p.id p.a p.b).resolve_left h2
      rw [h8] at H2
      refine fn_ok (by kernel_rfl) ty_ok Tryz.func104 rfl (fun _ _ => Tryz.call104 _ _) rfl ?_
      intro hw
      clear hw
      exact zw
  · rw [if_neg h1]
    generalize fchk l = z at *
    refine fn_ok (by kernel_rfl) ty_ok Tryz.func104 rfl (fun _ _ => Tryz.call104 _ _) rfl ?_
    intro hw
    clear hw
    exact zw
def without (l : List Pt) (id : Int) : List Pt := l.filter fun p => decide (p.id ≠ id)
def takeV (l : List Pt) (id : Int) : List Pt × Int := if fchk l = 0 then (if has l id then (without l id, 0) else ([], 6)) else ([], fchk l)
end Go.Proofs.YtnhljlihchegjaaGreat

/- Fields: the reference's Put. No conditions. -/
namespace Go.Proofs.YtnhljlihchegjaaGreat
open Go Go.RowKit Go.Sort Sx
def insP (l : List Pt) (p : Pt) : List Pt := l.take (pos l p.id) ++ p :: l.drop (pos l p.id)
def putV (l : List Pt) (p : Pt) : List Pt × Int := if fchk l = 0 then (if p.chk = 0 then (if has l p.id then ([], 14) else if l.length = 64 then ([], 18) else (insP l p, 0)) else ([], 8)) else ([], fchk l)
end Go.Proofs.YtnhljlihchegjaaGreat

/- Meetings: comparing. No conditions. -/
namespace Go.Proofs.YtnhljlihchegjaaGreat
open Go Go.RowKit Go.Sort Sx
/-- a meeting -/
structure Mt where
  n : Int
  d : Int
  i : Int
  j : Int
  deriving DecidableEq, Inhabited
def Mt.c (m : Mt) : List D := [i64 m.n, i64 m.d, i64 m.i, i64 m.j]
abbrev Mt.dc (m : Mt) : DC := .agg [i64 m.n, i64 m.d, i64 m.i, i64 m.j]
abbrev mts (l : List Mt) : D := .list 4 (l.map Mt.c)
theorem mlater_fnd {p q r t : Int} (h1 : chk p q = 0) (h2 : chk r t = 0) : FnD Tryz.prog 161 (rat2 p q r t) (ret1 (cmpN (p * t) (r * q))) := by
  refine fn_okD (by kernel_rfl) ty_okD rfl Tryz.func161 rfl (fun _ _ => Tryz.call161 _ _) rfl ?_
  intro hw
  clear hw
  have H := cmp_fnd p q r t
  unfold cmpV bth at H
  rw [if_pos (by rw [h1, if_pos rfl, h2])] at H
  simp only [ret2] at H
  generalize cmpN (p * t) (r * q) = z at *
  repeat' ((conv => whnf); first | (with_reducible first | refine br_t ?_ | refine br_f ?_ | refine zd ?_ | refine za ?_ | refine zg ?_ | refine zo ?_ | refine zb ?_ | refine zm ?_ | refine zc ?_ | refine ze ?_) | ((with_reducible refine bc_t ?_ ?_); (first | omega | decide)) | ((with_reducible refine bc_f ?_ ?_); (first | omega | decide)) | (with_reducible first | refine bc (fun h => ?_) (fun h => ?_) | refine zt ?_ | refine zf ?_ | refine br_i (fun h => ?_) (fun h => ?_)) | refine zg ?_ | refine zi ?_)
  all_goals conv => whnf
  all_goals rfl
def orL : List Int → Int
  | [] => 0
  | x :: l => if x = 0 then orL l else x
theorem orL_drop {l : List Int} : ∀ {i : Nat}, i ≤ l.length → (∀ k (h : k < l.length), k < i → l[k] = 0) → orL l = orL (l.drop i)
  | 0, _, _ => rfl
  | i + 1, hi, h => by
    rw [orL_drop (i := i) (by omega) (fun k hk hki => h k hk (by omega)), List.drop_eq_getElem_cons (show i < l.length by omega), orL, if_pos (h i (by omega) (by omega))]
theorem cmporL_fnd (l : List Int) (hl : l.length ≤ 1000000) : FnD Tryz.prog 183 [.one (ints l)] (ret1 (orL l)) := by
  refine fn_okD (by kernel_rfl) ty_okD rfl Tryz.func183 rfl (fun _ _ => Tryz.call183 _ _) rfl ?_
  intro hw
  clear hw
  have hll : (l.map fun i => [i64 i]).length = l.length := List.length_map ..
  repeat' ((conv => whnf); first | (with_reducible first | refine br_t ?_ | refine br_f ?_ | refine zd ?_ | refine za ?_ | refine zg ?_ | refine zo ?_ | refine zb ?_ | refine zm ?_ | refine zc ?_ | refine ze ?_) | ((with_reducible refine bc_t ?_ ?_); (first | omega | decide)) | ((with_reducible refine bc_f ?_ ?_); (first | omega | decide)) | (with_reducible first | refine bc (fun h => ?_) (fun h => ?_) | refine zt ?_ | refine zf ?_ | refine br_i (fun h => ?_) (fun h => ?_)) | refine zg ?_ | refine zi ?_)
  refine loop_J (by kernel_rfl) ty_okD (σ := Nat) (fun i => [(8, sV (.int .i64 i))]) (fun _ => []) (fun i => i ≤ l.length ∧ ∀ k (h : k < l.length), k < i → l[k] = 0) (fun i => l.length - i) 0 ⟨Nat.zero_le _, fun k _ h => absurd h (Nat.not_lt_zero _)⟩ ?_ ?_
  · (conv => whnf); exact zent
  rintro i ⟨hi, hI⟩
  rcases Nat.lt_or_ge i l.length with hlt | hge
  · have hel := ints_get hlt
    by_cases hc : l[i] = 0
    · repeat' ((conv => whnf); first | (with_reducible first | refine br_t ?_ | refine br_f ?_ | refine zd ?_ | refine za ?_ | refine zg ?_ | refine zo ?_ | refine zb ?_ | refine zm ?_ | refine zc ?_ | refine ze ?_) | ((with_reducible refine bc_t ?_ ?_); (first | omega | decide)) | ((with_reducible refine bc_f ?_ ?_); (first | omega | decide)) | (with_reducible first | refine bc (fun h => ?_) (fun h => ?_) | refine zt ?_ | refine zf ?_ | refine br_i (fun h => ?_) (fun h => ?_)) | refine zg ?_ | refine zi ?_)
      all_goals conv => whnf
      refine ⟨i + 1, ⟨by omega, fun k hk hki => ?_⟩, ?_, by omega⟩
      · rcases Nat.lt_or_ge k i with h | h
        · exact hI k hk h
        · have : k = i := by omega
          subst this; exact hc
      · (conv => whnf); exact zent
    · rw [orL_drop hi hI, List.drop_eq_getElem_cons hlt, orL, if_neg hc]
      repeat' ((conv => whnf); first | (with_reducible first | refine br_t ?_ | refine br_f ?_ | refine zd ?_ | refine za ?_ | refine zg ?_ | refine zo ?_ | refine zb ?_ | refine zm ?_ | refine zc ?_ | refine ze ?_) | ((with_reducible refine bc_t ?_ ?_); (first | omega | decide)) | ((with_reducible refine bc_f ?_ ?_); (first | omega | decide)) | (with_reducible first | refine bc (fun h => ?_) (fun h => ?_) | refine zt ?_ | refine zf ?_ | refine br_i (fun h => ?_) (fun h => ?_)) | refine zg ?_ | refine zi ?_)
      all_goals conv => whnf
      all_goals rfl
  · rw [orL_drop hi hI, List.drop_eq_nil_of_le hge, orL]
    repeat' ((conv => whnf); first | (with_reducible first | refine br_t ?_ | refine br_f ?_ | refine zd ?_ | refine za ?_ | refine zg ?_ | refine zo ?_ | refine zb ?_ | refine zm ?_ | refine zc ?_ | refine ze ?_) | ((with_reducible refine bc_t ?_ ?_); (first | omega | decide)) | ((with_reducible refine bc_f ?_ ?_); (first | omega | decide)) | (with_reducible first | refine bc (fun h => ?_) (fun h => ?_) | refine zt ?_ | refine zf ?_ | refine br_i (fun h => ?_) (fun h => ?_)) | refine zg ?_ | refine zi ?_)
    all_goals conv => whnf
    all_goals rfl
def cfM (a b : Mt) : Int := orL [cmpN (a.n * b.d) (b.n * a.d), cmpN a.i b.i, cmpN a.j b.j]
theorem morder_fnd {a b : Mt} (h1 : chk a.n a.d = 0) (h2 : chk b.n b.d = 0) : FnD Tryz.prog 165 [a.dc, b.dc] (ret1 (cfM a b)) := by
  have H1 := mlater_fnd h1 h2
  have H2 := cmpint_fnd a.i b.i
  have H3 := cmpint_fnd a.j b.j
  unfold cfM
  have H4 := cmporL_fnd [cmpN (a.n * b.d) (b.n * a.d), cmpN a.i b.i, cmpN a.j b.j] (by simp)
  generalize orL [cmpN (a.n * b.d) (b.n * a.d), cmpN a.i b.i, cmpN a.j b.j] = z at *
  generalize cmpN (a.n * b.d) (b.n * a.d) = x at *
  generalize cmpN a.i b.i = y at *
  generalize cmpN a.j b.j = u at *
  change FnD _ _ [.one (.list 1 [[i64 x], [i64 y], [i64 u]])] _ at H4
  refine fn_okD (by kernel_rfl) ty_okD rfl Tryz.func165 rfl (fun _ _ => Tryz.call165 _ _) rfl ?_
  intro hw
  clear hw
  repeat' ((conv => whnf); first | (with_reducible first | refine br_t ?_ | refine br_f ?_ | refine zd ?_ | refine za ?_ | refine zg ?_ | refine zo ?_ | refine zb ?_ | refine zm ?_ | refine zc ?_ | refine ze ?_) | ((with_reducible refine bc_t ?_ ?_); (first | omega | decide)) | ((with_reducible refine bc_f ?_ ?_); (first | omega | decide)) | (with_reducible first | refine bc (fun h => ?_) (fun h => ?_) | refine zt ?_ | refine zf ?_ | refine br_i (fun h => ?_) (fun h => ?_)) | refine zg ?_ | refine zi ?_)
  all_goals conv => whnf
  all_goals rfl
end Go.Proofs.YtnhljlihchegjaaGreat

/- Meetings: sorting. No conditions. -/
namespace Go.Proofs.YtnhljlihchegjaaGreat
open Go Go.RowKit Go.Sort Sx
/-- a meeting of valid numbers -/
def Mt.ok (m : Mt) : Prop := chk m.n m.d = 0 ∧ (-9223372036854775808 ≤ m.n ∧ m.n ≤ 9223372036854775807) ∧ m.d ≤ 9223372036854775807 ∧ (-9223372036854775808 ≤ m.i ∧ m.i ≤ 9223372036854775807) ∧ -9223372036854775808 ≤ m.j ∧ m.j ≤ 9223372036854775807
/-- meetings in order -/
def mlt (a b : Mt) : Prop := qv a.n a.d < qv b.n b.d ∨ qv a.n a.d = qv b.n b.d ∧ (a.i < b.i ∨ a.i = b.i ∧ a.j < b.j)
instance (a b : Mt) : Decidable (mlt a b) := by unfold mlt; infer_instance
def msrt (l : List Mt) : List Mt := l.mergeSort fun x y => !decide (mlt y x)
theorem qv_ltM {p q r t : Int} (h1 : chk p q = 0) (h2 : chk r t = 0) : qv p q < qv r t ↔ p * t < r * q := by
  have e1 := Rat.lt_iff (qv p q) (qv r t)
  rw [qv_num h1, qv_num h2, qv_den h1, qv_den h2] at e1
  exact e1
theorem lt_cfM {a b : Mt} (h1 : a.ok) (h2 : b.ok) : ltOf cfM a b = decide (mlt a b) := by
  have q1 := qv_ltM h1.1 h2.1
  have q2 := qv_ltM h2.1 h1.1
  unfold ltOf
  rw [decide_eq_decide]
  unfold cfM orL orL orL orL mlt cmpN
  generalize qv a.n a.d = x at *
  generalize qv b.n b.d = y at *
  generalize a.n * b.d = u at *
  generalize b.n * a.d = v at *
  have tri : (u < v ∧ x < y) ∨ (v < u ∧ y < x) ∨ (u = v ∧ x = y) := by
    rcases Int.lt_trichotomy u v with h | h | h
    · exact .inl ⟨h, q1.2 h⟩
    · refine .inr (.inr ⟨h, ?_⟩)
      have k1 : ¬ x < y := fun k => by have := q1.1 k; omega
      have k2 : ¬ y < x := fun k => by have := q2.1 k; omega
      exact Rat.le_antisymm (Rat.not_lt.1 k2) (Rat.not_lt.1 k1)
    · exact .inr (.inl ⟨h, q2.2 h⟩)
  rcases tri with ⟨h, k⟩ | ⟨h, k⟩ | ⟨h, k⟩
  · simp [h, k]
  · have k1 : ¬ x < y := fun e => by have := q1.1 e; omega
    have k2 : x ≠ y := fun e => by rw [e] at k; exact absurd k Rat.lt_irrefl
    have k3 : ¬ u < v := by omega
    simp [h, k1, k2, k3]
  · subst h k
    simp [Rat.lt_irrefl]
    (repeat' split) <;> omega
theorem mlt_irrefl (a : Mt) : ¬ mlt a a := by
  unfold mlt
  simp [Rat.lt_irrefl]
theorem mlt_trans {a b c : Mt} (h1 : mlt a b) (h2 : mlt b c) : mlt a c := by
  unfold mlt at *
  rcases h1 with h1 | ⟨e1, h1⟩ <;> rcases h2 with h2 | ⟨e2, h2⟩
  · exact .inl (Std.lt_trans h1 h2)
  · exact .inl (by rw [← e2]; exact h1)
  · exact .inl (by rw [e1]; exact h2)
  · exact .inr ⟨e1.trans e2, by omega⟩
theorem mlt_tri (a b : Mt) : mlt a b ∨ mlt b a ∨ (qv a.n a.d = qv b.n b.d ∧ a.i = b.i ∧ a.j = b.j) := by
  unfold mlt
  by_cases h1 : qv a.n a.d < qv b.n b.d
  · exact .inl (.inl h1)
  · by_cases h2 : qv b.n b.d < qv a.n a.d
    · exact .inr (.inl (.inl h2))
    · have e : qv a.n a.d = qv b.n b.d := Rat.le_antisymm (Rat.not_lt.1 h2) (Rat.not_lt.1 h1)
      rw [e]
      simp only [true_and]
      have := Rat.lt_irrefl (a := qv b.n b.d)
      simp only [this, false_or]
      omega
theorem mlt_eq {a b : Mt} (h1 : chk a.n a.d = 0) (h2 : chk b.n b.d = 0) (k1 : ¬ mlt a b) (k2 : ¬ mlt b a) : a = b := by
  rcases mlt_tri a b with h | h | ⟨h, hi, hj⟩
  · exact absurd h k1
  · exact absurd h k2
  · obtain ⟨e1, e2⟩ := (qv_inj h1 h2).1 h
    cases a; cases b
    simp_all
theorem sortMt_mu {l : List Mt} (hl : ∀ m ∈ l, m.ok) (hsz : l.length ≤ 1000000) : FnMu Tryz.prog 164 4 (l.map Mt.c) [.one (.clo 165 [])] ((msrt l).map Mt.c) := by
  have hnil : ∀ (m : Mt), m.ok → FnMu Tryz.prog 164 4 [] [.one (.clo 165 [])] [] := fun m hm => by
    have := sort_mu (P := Tryz.prog) (ρ := Tryz.sortMt_ren) (α := Unit) (k := 4) Tryz.sortMt (by decide) Tryz.isAgg128 Tryz.sizeOf128 (fun _ => [.int .i64 0, .int .i64 1, .int .i64 0, .int .i64 0]) (fun _ => rfl) (fun _ v hv => by simp at hv; rcases hv with rfl | rfl | rfl <;> exact ⟨rfl, WD_v.1 (wd_i64.2 (by omega))⟩) (fun _ _ => 0)
      ⟨fun _ => rfl, fun _ _ _ h => by simp [ltOf] at h, fun _ _ _ _ _ => rfl⟩ (fun _ _ _ _ => rfl) (g := 165) (caps := []) (fun _ _ => Tryz.call165 _ _) (fun _ _ => Tryz.call164 _ _)
      (fun _ _ => by
        have := morder_fnd (a := ⟨0, 1, 0, 0⟩) (b := ⟨0, 1, 0, 0⟩) (by decide) (by decide)
        exact this) [] (by decide)
    simp only [List.map_nil, List.mergeSort_nil] at this
    exact this
  cases l with
  | nil =>
    rw [show msrt [] = [] by simp [msrt]]
    exact hnil ⟨0, 1, 0, 0⟩ ⟨by decide, by decide, by decide, by decide, by decide⟩
  | cons y ys =>
    generalize hd : y :: ys = l at *
    have : Inhabited {p : Mt // p ∈ l} := ⟨⟨y, by rw [← hd]; exact List.mem_cons_self ..⟩⟩
    have key := sort_mu (P := Tryz.prog) (ρ := Tryz.sortMt_ren) (α := {p : Mt // p ∈ l}) (k := 4) Tryz.sortMt (by decide) Tryz.isAgg128 Tryz.sizeOf128 (fun p => [.int .i64 p.1.n, .int .i64 p.1.d, .int .i64 p.1.i, .int .i64 p.1.j]) (fun _ => rfl) (fun p v hv => by
        obtain ⟨hc, h2, h3, h4, h5⟩ := hl p.1 p.2
        have h6 := ((chk_iff _ _).1 hc).1
        simp at hv
        rcases hv with rfl | rfl | rfl | rfl
        all_goals exact ⟨rfl, WD_v.1 (wd_i64.2 (by omega))⟩) (fun p q => cfM p.1 q.1)
      ⟨fun p => ?_, fun p q r h1 h2 => ?_, fun p q r h1 h2 => ?_⟩ (fun p q h1 h2 => ?_) (g := 165) (caps := []) (fun _ _ => Tryz.call165 _ _) (fun _ _ => Tryz.call164 _ _)
      (fun p q => morder_fnd (hl p.1 p.2).1 (hl q.1 q.2).1) l.attach (by simp; omega)
    · have e1 : (l.attach.map fun p => ([.int .i64 p.1.n, .int .i64 p.1.d, .int .i64 p.1.i, .int .i64 p.1.j] : List Value).map D.v) = l.map Mt.c := by
        rw [show (fun p : {p : Mt // p ∈ l} => ([.int .i64 p.1.n, .int .i64 p.1.d, .int .i64 p.1.i, .int .i64 p.1.j] : List Value).map D.v) = Mt.c ∘ Subtype.val from rfl, ← List.map_map, List.attach_map_subtype_val]
      have e2 : ((l.attach.mergeSort fun x y => !(ltOf fun p q : {p : Mt // p ∈ l} => cfM p.1 q.1) y x).map fun p => ([.int .i64 p.1.n, .int .i64 p.1.d, .int .i64 p.1.i, .int .i64 p.1.j] : List Value).map D.v) = (msrt l).map Mt.c := by
        rw [show (fun p : {p : Mt // p ∈ l} => ([.int .i64 p.1.n, .int .i64 p.1.d, .int .i64 p.1.i, .int .i64 p.1.j] : List Value).map D.v) = Mt.c ∘ Subtype.val from rfl, ← List.map_map]
        rw [List.map_mergeSort (s := fun x y => !decide (mlt y x)) (fun a _ b _ => by
          have := lt_cfM (hl b.1 b.2) (hl a.1 a.2)
          unfold ltOf at this ⊢
          rw [this]), List.attach_map_subtype_val]
        rfl
      rw [e1, e2] at key
      exact key
    · exact (lt_cfM (hl p.1 p.2) (hl p.1 p.2)).trans (decide_eq_false (mlt_irrefl _))
    · have k1 := of_decide_eq_true ((lt_cfM (hl p.1 p.2) (hl q.1 q.2)).symm.trans h1)
      have k2 := of_decide_eq_true ((lt_cfM (hl q.1 q.2) (hl r.1 r.2)).symm.trans h2)
      exact (lt_cfM (hl p.1 p.2) (hl r.1 r.2)).trans (decide_eq_true (mlt_trans k1 k2))
    · have k1 := of_decide_eq_false ((lt_cfM (hl p.1 p.2) (hl q.1 q.2)).symm.trans h1)
      have k2 := of_decide_eq_false ((lt_cfM (hl q.1 q.2) (hl r.1 r.2)).symm.trans h2)
      refine (lt_cfM (hl p.1 p.2) (hl r.1 r.2)).trans (decide_eq_false fun k3 => ?_)
      rcases mlt_tri q.1 p.1 with h | h | h
      · exact k2 (mlt_trans h k3)
      · exact k1 h
      · exact k2 (by rw [mlt_eq (hl q.1 q.2).1 (hl p.1 p.2).1 (fun h' => k2 (mlt_trans h' k3)) k1]; exact k3)
    · have k1 := of_decide_eq_false ((lt_cfM (hl p.1 p.2) (hl q.1 q.2)).symm.trans h1)
      have k2 := of_decide_eq_false ((lt_cfM (hl q.1 q.2) (hl p.1 p.2)).symm.trans h2)
      exact Subtype.ext (mlt_eq (hl p.1 p.2).1 (hl q.1 q.2).1 k1 k2)
end Go.Proofs.YtnhljlihchegjaaGreat

/- Meetings: how many are not behind a time. No conditions. -/
namespace Go.Proofs.YtnhljlihchegjaaGreat
open Go Go.RowKit Go.Sort Sx
theorem mts_get {l : List Mt} {i : Nat} (h : i < l.length) : (l.map Mt.c)[((i : Nat) : Int).toNat]? = some [i64 l[i].n, i64 l[i].d, i64 l[i].i, i64 l[i].j] := by
  rw [Int.toNat_natCast, List.getElem?_map, List.getElem?_eq_getElem h]; rfl
theorem mbehind1_fn (m : Mt) (n e : Int) (h1 : chk m.n m.d = 0) (h2 : chk n e = 0) : FnOK Tryz.prog 167 [m.dc, rat n e] (ret1 (if n * m.d < m.n * e then 1 else -1)) := by
  have H := (mlater_fnd h1 h2).ok
  by_cases h : n * m.d < m.n * e
  · rw [if_pos h]
    have e1 : cmpN (m.n * e) (n * m.d) = 1 := by unfold cmpN; rw [if_neg (by omega), if_pos h]
    rw [e1] at H
    refine fn_ok (by kernel_rfl) ty_ok Tryz.func167 rfl (fun _ _ => Tryz.call167 _ _) rfl ?_
    intro hw
    clear hw h e1
    exact zw
  · rw [if_neg h]
    have e1 : cmpN (m.n * e) (n * m.d) ≤ 0 := by unfold cmpN; split <;> (try split) <;> omega
    generalize cmpN (m.n * e) (n * m.d) = z at *
    refine fn_ok (by kernel_rfl) ty_ok Tryz.func167 rfl (fun _ _ => Tryz.call167 _ _) rfl ?_
    intro hw
    clear hw h
    exact zw
/-- how many stand ahead of the first one behind a time -/
def bcnt : List Mt → Int → Int → Nat
  | [], _, _ => 0
  | m :: l, n, e => if n * m.d < m.n * e then 0 else bcnt l n e + 1
theorem bcnt_eq : ∀ {l : List Mt} {n e : Int} {i : Nat}, i ≤ l.length → (∀ k (h : k < l.length), k < i → l[k].n * e ≤ n * l[k].d) → (∀ k (h : k < l.length), i ≤ k → n * l[k].d < l[k].n * e) → bcnt l n e = i
  | [], n, e, i, hi, _, _ => by simp at hi; simp [bcnt, hi]
  | m :: l, n, e, 0, hi, h1, h2 => by
    have := h2 0 (by simp) (Nat.le_refl _)
    simp at this
    rw [bcnt, if_pos this]
  | m :: l, n, e, i + 1, hi, h1, h2 => by
    have := h1 0 (by simp) (by omega)
    simp at this
    rw [bcnt, if_neg (by omega), bcnt_eq (by simpa using hi) (fun k h hk => h1 (k + 1) (by simpa using h) (by omega)) (fun k h hk => h2 (k + 1) (by simpa using h) (by omega))]
structure Asc (l : List Mt) : Prop where
  ok : ∀ i (h : i < l.length), chk l[i].n l[i].d = 0
  up : ∀ j i (hj : j < l.length) (hij : i < j), qv l[i].n l[i].d ≤ qv l[j].n l[j].d
theorem bsMt_fn (l : List Mt) (n e : Int) (hs : Asc l) (ht : chk n e = 0) (hl : l.length ≤ 1000000) : FnOK Tryz.prog 166 [.one (mts l), rat n e, .one (.clo 167 [])] (.tup [.one (i64 (bcnt l n e : Nat)), .one (bol false)]) := by
  refine fn_ok (by kernel_rfl) ty_ok Tryz.func166 rfl (fun _ _ => Tryz.call166 _ _) rfl ?_
  intro hw
  clear hw
  have hln : (l.map Mt.c).length = l.length := List.length_map ..
  repeat' ((conv => whnf); first | (with_reducible first | refine br_t ?_ | refine br_f ?_ | refine za ?_ | refine zg ?_ | refine zo ?_ | refine zb ?_ | refine zm ?_ | refine zc ?_ | refine ze ?_) | ((with_reducible refine bc_t ?_ ?_); (first | omega | decide)) | ((with_reducible refine bc_f ?_ ?_); (first | omega | decide)) | (with_reducible first | refine bc (fun h => ?_) (fun h => ?_) | refine zt ?_ | refine zf ?_ | refine br_i (fun h => ?_) (fun h => ?_)) | refine zg ?_ | refine zi ?_)
  refine loop_J (by kernel_rfl) ty_ok (σ := Nat × Nat) (fun s => [(9, sV (.int .i64 s.1)), (10, sV (.int .i64 s.2))]) (fun _ => [])
    (fun s => s.1 ≤ s.2 ∧ s.2 ≤ l.length ∧ (∀ k (h : k < l.length), k < s.1 → l[k].n * e ≤ n * l[k].d) ∧ ∀ k (h : k < l.length), s.2 ≤ k → n * l[k].d < l[k].n * e) (fun s => s.2 - s.1) (0, l.length) ⟨by omega, by omega, fun k h hk => absurd hk (Nat.not_lt_zero _), fun k h hk => absurd h (by show ¬ k < l.length; exact Nat.not_lt.2 hk)⟩ ?_ ?_
  · (conv => whnf); exact zent
  rintro ⟨i, j⟩ ⟨h1, h2, h3, h4⟩
  simp only at h1 h2 h3 h4
  rcases Nat.lt_or_ge i j with hlt | hge
  · have hm : (i + j) / 2 < l.length := by omega
    have hmid := mid_eq i j (by omega)
    have hel := mts_get hm
    have HC := mbehind1_fn l[(i + j) / 2] n e (hs.ok _ hm) ht
    have q0 := qv_ltM ht (hs.ok _ hm)
    by_cases hc : n * l[(i + j) / 2].d < l[(i + j) / 2].n * e
    · rw [if_pos hc] at HC
      have hN : ∀ k (h : k < l.length), (i + j) / 2 ≤ k → n * l[k].d < l[k].n * e := fun k h hk => by
        rcases Nat.lt_or_ge ((i + j) / 2) k with h5 | h5
        · exact (qv_ltM ht (hs.ok k h)).1 (Std.lt_of_lt_of_le (q0.2 hc) (hs.up k _ h h5))
        · have : k = (i + j) / 2 := by omega
          subst this; exact hc
      clear hc q0
      repeat' ((conv => whnf); first | (with_reducible first | refine br_t ?_ | refine br_f ?_ | refine za ?_ | refine zg ?_ | refine zo ?_ | refine zb ?_ | refine zm ?_ | refine zc ?_ | refine ze ?_) | rw [hmid] | ((with_reducible refine bc_t ?_ ?_); (first | omega | decide)) | ((with_reducible refine bc_f ?_ ?_); (first | omega | decide)) | (with_reducible first | refine bc (fun h => ?_) (fun h => ?_) | refine zt ?_ | refine zf ?_ | refine br_i (fun h => ?_) (fun h => ?_)) | refine zg ?_ | refine zi ?_)
      all_goals conv => whnf
      refine ⟨(i, (i + j) / 2), ⟨by show _ ≤ _; omega, by show _ ≤ _; omega, h3, hN⟩, ?_, by show _ - _ < _ - _; omega⟩
      (conv => whnf); exact zent
    · rw [if_neg hc] at HC
      have hN : ∀ k (h : k < l.length), k < (i + j) / 2 + 1 → l[k].n * e ≤ n * l[k].d := fun k h hk => by
        rcases Nat.lt_or_ge k ((i + j) / 2) with h5 | h5
        · have h6 := hs.up _ k hm h5
          have h7 : ¬ qv n e < qv l[k].n l[k].d := fun h8 => hc (q0.1 (Std.lt_of_lt_of_le h8 h6))
          rw [qv_ltM ht (hs.ok k h)] at h7; omega
        · have : k = (i + j) / 2 := by omega
          subst this; omega
      clear hc q0
      repeat' ((conv => whnf); first | (with_reducible first | refine br_t ?_ | refine br_f ?_ | refine za ?_ | refine zg ?_ | refine zo ?_ | refine zb ?_ | refine zm ?_ | refine zc ?_ | refine ze ?_) | rw [hmid] | ((with_reducible refine bc_t ?_ ?_); (first | omega | decide)) | ((with_reducible refine bc_f ?_ ?_); (first | omega | decide)) | (with_reducible first | refine bc (fun h => ?_) (fun h => ?_) | refine zt ?_ | refine zf ?_ | refine br_i (fun h => ?_) (fun h => ?_)) | refine zg ?_ | refine zi ?_)
      all_goals conv => whnf
      refine ⟨((i + j) / 2 + 1, j), ⟨by show _ ≤ _; omega, h2, hN, h4⟩, ?_, by show _ - _ < _ - _; omega⟩
      (conv => whnf); exact zent
  · have eij : i = j := by omega
    subst eij
    have hp := bcnt_eq h2 h3 h4
    rw [hp]
    rcases Nat.lt_or_ge i l.length with hlt | hge2
    · have hel := mts_get hlt
      have HC := mbehind1_fn l[i] n e (hs.ok i hlt) ht
      rw [if_pos (h4 i hlt (Nat.le_refl _))] at HC
      clear h3 h4
      exact zw
    · clear h3 h4
      exact zw
theorem mbehind_fn (l : List Mt) (n e : Int) (hs : Asc l) (ht : chk n e = 0) (hl : l.length ≤ 1000000) : FnOK Tryz.prog 137 [.one (mts l), rat n e] (ret1 (bcnt l n e : Nat)) := by
  refine fn_ok (by kernel_rfl) ty_ok Tryz.func137 rfl (fun _ _ => Tryz.call137 _ _) rfl ?_
  intro hw
  clear hw
  have H := bsMt_fn l n e hs ht hl
  exact zw
end Go.Proofs.YtnhljlihchegjaaGreat

/- Meetings: the checks of a field and two times. No conditions. -/
namespace Go.Proofs.YtnhljlihchegjaaGreat
open Go Go.RowKit Go.Sort Sx
def mchk2 (l : List Pt) (n e r t : Int) : Int := if fchk l = 0 then (if chk n e = 0 then (if chk r t = 0 then (if r * e < n * t then 2 else 0) else 8) else 8) else fchk l
theorem mcheck_fn (l : List Pt) (n e r t : Int) : FnOK Tryz.prog 135 [fld l, .one (.list 2 [[i64 n, i64 e], [i64 r, i64 t]])] (ret1 (mchk2 l n e r t)) := by
  have H1 := fCheck_fn l
  have H2 := check_fn n e
  have H3 := check_fn r t
  have hel0 : ([[i64 n, i64 e], [i64 r, i64 t]] : List (List D))[((0 : Nat) : Int).toNat]? = some [i64 n, i64 e] := rfl
  have hel1 : ([[i64 n, i64 e], [i64 r, i64 t]] : List (List D))[((1 : Nat) : Int).toNat]? = some [i64 r, i64 t] := rfl
  have hlen : ([[i64 n, i64 e], [i64 r, i64 t]] : List (List D)).length = 2 := rfl
  unfold mchk2
  by_cases h1 : fchk l = 0
  · rw [if_pos h1]
    rw [h1] at H1
    refine fn_ok (by kernel_rfl) ty_ok Tryz.func135 rfl (fun _ _ => Tryz.call135 _ _) rfl ?_
    intro hw
    clear hw
    repeat' ((conv => whnf); first | (with_reducible first | refine br_t ?_ | refine br_f ?_ | refine za ?_ | refine zg ?_ | refine zo ?_ | refine zb ?_ | refine zm ?_ | refine zc ?_ | refine ze ?_) | ((with_reducible refine bc_t ?_ ?_); (first | omega | decide)) | ((with_reducible refine bc_f ?_ ?_); (first | omega | decide)) | (with_reducible first | refine bc (fun h => ?_) (fun h => ?_) | refine zt ?_ | refine zf ?_ | refine br_i (fun h => ?_) (fun h => ?_)) | refine zg ?_ | refine zi ?_)
    refine loop_J (by kernel_rfl) ty_ok (σ := Nat) (fun i => [(16, sV (.int .i64 i))]) (fun _ => []) (fun i => i = 0 ∨ (i = 1 ∧ chk n e = 0) ∨ (i = 2 ∧ chk n e = 0 ∧ chk r t = 0)) (fun i => 2 - i) 0 (.inl rfl) ?_ ?_
    · (conv => whnf); exact zent
    intro i hi
    rcases hi with rfl | ⟨rfl, h2⟩ | ⟨rfl, h2, h3⟩
    · by_cases h2 : chk n e = 0
      · rw [h2] at H2
        repeat' ((conv => whnf); first | (with_reducible first | refine br_t ?_ | refine br_f ?_ | refine za ?_ | refine zg ?_ | refine zo ?_ | refine zb ?_ | refine zm ?_ | refine zc ?_ | refine ze ?_) | ((with_reducible refine bc_t ?_ ?_); (first | omega | decide)) | ((with_reducible refine bc_f ?_ ?_); (first | omega | decide)) | (with_reducible first | refine bc (fun h => ?_) (fun h => ?_) | refine zt ?_ | refine zf ?_ | refine br_i (fun h => ?_) (fun h => ?_)) | refine zg ?_ | refine zi ?_)
        all_goals conv => whnf
        refine ⟨1, .inr (.inl ⟨rfl, h2⟩), ?_, by show 2 - 1 < 2 - 0; decide⟩
        (conv => whnf); exact zent
      · rw [if_neg h2]
        have h8 : chk n e = 8 := (chk_08 n e).resolve_left h2
        rw [h8] at H2
        exact zw
    · rw [if_pos h2]
      by_cases h3 : chk r t = 0
      · rw [h3] at H3
        repeat' ((conv => whnf); first | (with_reducible first | refine br_t ?_ | refine br_f ?_ | refine za ?_ | refine zg ?_ | refine zo ?_ | refine zb ?_ | refine zm ?_ | refine zc ?_ | refine ze ?_) | ((with_reducible refine bc_t ?_ ?_); (first | omega | decide)) | ((with_reducible refine bc_f ?_ ?_); (first | omega | decide)) | (with_reducible first | refine bc (fun h => ?_) (fun h => ?_) | refine zt ?_ | refine zf ?_ | refine br_i (fun h => ?_) (fun h => ?_)) | refine zg ?_ | refine zi ?_)
        all_goals conv => whnf
        refine ⟨2, .inr (.inr ⟨rfl, h2, h3⟩), ?_, by show 2 - 2 < 2 - 1; decide⟩
        (conv => whnf); exact zent
      · rw [if_neg h3]
        have h8 : chk r t = 8 := (chk_08 r t).resolve_left h3
        rw [h8] at H3
        exact zw
    · rw [if_pos h2, if_pos h3]
      have H4 := (mlater_fnd h2 h3).ok
      by_cases hc : r * e < n * t
      · rw [if_pos hc]
        have e1 : cmpN (n * t) (r * e) = 1 := by unfold cmpN; rw [if_neg (by omega), if_pos hc]
        rw [e1] at H4
        clear hc e1
        exact zw
      · rw [if_neg hc]
        have e1 : cmpN (n * t) (r * e) ≤ 0 := by unfold cmpN; split <;> (try split) <;> omega
        generalize cmpN (n * t) (r * e) = z at *
        clear hc
        exact zw
  · rw [if_neg h1]
    generalize fchk l = z at *
    refine fn_ok (by kernel_rfl) ty_ok Tryz.func135 rfl (fun _ _ => Tryz.call135 _ _) rfl ?_
    intro hw
    clear hw
    exact zw
end Go.Proofs.YtnhljlihchegjaaGreat
