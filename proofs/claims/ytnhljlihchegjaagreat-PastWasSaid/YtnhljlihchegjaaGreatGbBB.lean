import Derived.Test.YtnhljlihchegjaaGreatGbBA
import Derived.Test.YtnhljlihchegjaaGreatGbAZ
set_option linter.all false
/- The past: when a point was there, the program's walk. No conditions. -/
namespace Go.Proofs.YtnhljlihchegjaaGreat
open Go.RowKit Go.Sort Sx
theorem find_aln {l : List Pt} {id : Int} (h : fchk l = 0) : (∃ x, findV l id = (x, 0) ∧ aln l id = [x]) ∨ findV l id = (⟨0, 0, 0⟩, 6) ∧ aln l id = [] := by
  unfold findV aln
  rw [if_pos h]
  cases hh : has l id
  · exact .inr ⟨rfl, rfl⟩
  · exact .inl ⟨_, rfl, rfl⟩
set_option maxHeartbeats 4000000 in
theorem pWas_fn (p : Pa) (id : Int) : FnOK Tryz.prog 55 [p.dc, .one (i64 id)] (retM (wasV p id)) := by
  have H1 := pCheck_fn p
  unfold wasV
  by_cases h1 : pchk p = 0
  · rw [if_pos h1]
    rw [h1] at H1
    obtain ⟨k1, k2, k3, k4, k5⟩ := pchk_ok h1
    have hln : (p.ms.map Md.c).length = p.ms.length := List.length_map ..
    refine fn_ok (by kernel_rfl) (ty_okK [48] [] [] []) Tryz.func55 rfl (fun _ _ => Tryz.call55 _ _) rfl ?_
    intro hw
    clear hw
    repeat' ((conv => whnf); first | (with_reducible first | refine br_t ?_ | refine br_f ?_ | refine za ?_ | refine zg ?_ | refine zo ?_ | refine zb ?_ | refine zm ?_ | refine zc ?_ | refine ze ?_) | ((with_reducible refine bc_t ?_ ?_); (first | omega | decide)) | ((with_reducible refine bc_f ?_ ?_); (first | omega | decide)) | (with_reducible first | refine bc (fun h => ?_) (fun h => ?_) | refine zt ?_ | refine zf ?_ | refine br_i (fun h => ?_) (fun h => ?_)) | refine zg ?_ | refine zi ?_)
    refine loop_name 7 0 100 rfl rfl rfl ?_
    refine loop_J (by kernel_rfl) (ty_okK [48] [] [] []) (σ := Nat × List Md × List Pt × D) (fun s => [(22, sV (.int .i64 s.1)), (7, .c (.at (.osl 100 0)))]) (fun s => [(8, .own [.d s.2.2.2]), (100, .row 3 (s.2.1.map Md.c) 0)])
      (fun s => s.1 ≤ p.ms.length ∧ s.2.1.length ≤ s.1 ∧ (s.2.2.2 = .nil 3 ∧ s.2.2.1 = [] ∨ s.2.2.2 = pts s.2.2.1) ∧ s.2.1 ++ wasL (p.ms.drop s.1) id s.2.2.1 = wasL p.ms id []) (fun s => p.ms.length - s.1) (0, [], [], .nil 3) ⟨Nat.zero_le _, Nat.zero_le _, .inl ⟨rfl, rfl⟩, rfl⟩ ?_ ?_
    · (conv => whnf); exact zent
    rintro ⟨i, o, b, bd⟩ ⟨g1, g2, g3, g4⟩
    simp only at g1 g2 g3 g4
    rcases Nat.lt_or_ge i p.ms.length with hlt | hge
    · have hel := mos_get hlt
      have hfc := (mchk_ok (k5 _ (List.getElem_mem hlt))).2
      have H2 := fFind_fn p.ms[i].l id
      have H3 := psame_fn b (aln p.ms[i].l id)
      rw [wasL_lt hlt] at g4
      have ho : (o.map Md.c).length = o.length := List.length_map ..
      have ha : o.map Md.c ++ [[i64 p.ms[i].n, i64 p.ms[i].d, pts (aln p.ms[i].l id)]] = (o ++ [(⟨p.ms[i].n, p.ms[i].d, aln p.ms[i].l id⟩ : Md)]).map Md.c := by rw [List.map_append]; rfl
      rcases find_aln (id := id) hfc with ⟨x, f1, f2⟩ | ⟨f1, f2⟩
      all_goals rw [f1] at H2
      all_goals rw [f2] at H3 g4 ha
      all_goals simp only [retPt] at H2
      · rcases g3 with ⟨rfl, rfl⟩ | rfl
        · change FnOK _ _ [.agg [.list 3 []], .agg [.list 3 [[i64 x.id, i64 x.a, i64 x.b]]]] _ at H3
          by_cases hc : [] = [x]
          · rw [decide_eq_true hc] at H3
            rw [if_pos hc, List.nil_append] at g4
            clear hc
            repeat' ((conv => whnf); first | (with_reducible first | refine br_t ?_ | refine br_f ?_ | refine za ?_ | refine zg ?_ | refine zo ?_ | refine zb ?_ | refine zm ?_ | refine zc ?_ | refine ze ?_) | ((with_reducible refine bc_t ?_ ?_); (first | omega | decide)) | ((with_reducible refine bc_f ?_ ?_); (first | omega | decide)) | (with_reducible first | refine bc (fun h => ?_) (fun h => ?_) | refine zt ?_ | refine zf ?_ | refine br_i (fun h => ?_) (fun h => ?_)) | refine zg ?_ | refine zi ?_)
            all_goals conv => whnf
            refine ⟨(i + 1, o, [x], pts [x]), ⟨by show _ ≤ _; omega, by show o.length ≤ i + 1; omega, .inr rfl, g4⟩, ?_, by show _ - _ < _ - _; omega⟩
            (conv => whnf); exact zent
          · rw [decide_eq_false hc] at H3
            rw [if_neg hc, ← List.append_assoc] at g4
            clear hc
            repeat' ((conv => whnf); first | (with_reducible first | refine br_t ?_ | refine br_f ?_ | refine za ?_ | refine zg ?_ | refine zo ?_ | refine zb ?_ | refine zm ?_ | refine zc ?_ | refine ze ?_) | ((with_reducible refine bc_t ?_ ?_); (first | omega | decide)) | ((with_reducible refine bc_f ?_ ?_); (first | omega | decide)) | (with_reducible first | refine bc (fun h => ?_) (fun h => ?_) | refine zt ?_ | refine zf ?_ | refine br_i (fun h => ?_) (fun h => ?_)) | refine zg ?_ | refine zi ?_)
            all_goals conv => whnf
            refine ⟨(i + 1, o ++ [(⟨p.ms[i].n, p.ms[i].d, [x]⟩ : Md)], [x], pts [x]), ⟨by show _ ≤ _; omega, by show (o ++ [_]).length ≤ _; rw [List.length_append, List.length_singleton]; omega, .inr rfl, g4⟩, ?_, by show _ - _ < _ - _; omega⟩
            (conv => whnf); refine ⟨by repeat' (first | with_reducible exact zE0 | with_reducible refine zE1 ?_ ?_ | rfl | assumption | (exact congrArg (fun x => some (Blk.row 3 x 0)) ha) | (refine ent_i ?_; (first | omega | (rw [IntWalk.i64_in _ (by omega)]; omega) | (simp; done))) | (refine ent_b ?_; (first | omega | (rw [IntWalk.i64_in _ (by omega)]; omega) | (simp; done)))), by repeat' (first | with_reducible exact zH0 | with_reducible refine zH1 ?_ ?_ | rfl | assumption | (exact congrArg (fun x => some (Blk.row 3 x 0)) ha)), rfl⟩
        · change FnOK _ _ [fld b, .agg [.list 3 [[i64 x.id, i64 x.a, i64 x.b]]]] _ at H3
          by_cases hc : b = [x]
          · rw [decide_eq_true hc] at H3
            rw [if_pos hc, List.nil_append] at g4
            clear hc
            repeat' ((conv => whnf); first | (with_reducible first | refine br_t ?_ | refine br_f ?_ | refine za ?_ | refine zg ?_ | refine zo ?_ | refine zb ?_ | refine zm ?_ | refine zc ?_ | refine ze ?_) | ((with_reducible refine bc_t ?_ ?_); (first | omega | decide)) | ((with_reducible refine bc_f ?_ ?_); (first | omega | decide)) | (with_reducible first | refine bc (fun h => ?_) (fun h => ?_) | refine zt ?_ | refine zf ?_ | refine br_i (fun h => ?_) (fun h => ?_)) | refine zg ?_ | refine zi ?_)
            all_goals conv => whnf
            refine ⟨(i + 1, o, [x], pts [x]), ⟨by show _ ≤ _; omega, by show o.length ≤ i + 1; omega, .inr rfl, g4⟩, ?_, by show _ - _ < _ - _; omega⟩
            (conv => whnf); exact zent
          · rw [decide_eq_false hc] at H3
            rw [if_neg hc, ← List.append_assoc] at g4
            clear hc
            repeat' ((conv => whnf); first | (with_reducible first | refine br_t ?_ | refine br_f ?_ | refine za ?_ | refine zg ?_ | refine zo ?_ | refine zb ?_ | refine zm ?_ | refine zc ?_ | refine ze ?_) | ((with_reducible refine bc_t ?_ ?_); (first | omega | decide)) | ((with_reducible refine bc_f ?_ ?_); (first | omega | decide)) | (with_reducible first | refine bc (fun h => ?_) (fun h => ?_) | refine zt ?_ | refine zf ?_ | refine br_i (fun h => ?_) (fun h => ?_)) | refine zg ?_ | refine zi ?_)
            all_goals conv => whnf
            refine ⟨(i + 1, o ++ [(⟨p.ms[i].n, p.ms[i].d, [x]⟩ : Md)], [x], pts [x]), ⟨by show _ ≤ _; omega, by show (o ++ [_]).length ≤ _; rw [List.length_append, List.length_singleton]; omega, .inr rfl, g4⟩, ?_, by show _ - _ < _ - _; omega⟩
            (conv => whnf); refine ⟨by repeat' (first | with_reducible exact zE0 | with_reducible refine zE1 ?_ ?_ | rfl | assumption | (exact congrArg (fun x => some (Blk.row 3 x 0)) ha) | (refine ent_i ?_; (first | omega | (rw [IntWalk.i64_in _ (by omega)]; omega) | (simp; done))) | (refine ent_b ?_; (first | omega | (rw [IntWalk.i64_in _ (by omega)]; omega) | (simp; done)))), by repeat' (first | with_reducible exact zH0 | with_reducible refine zH1 ?_ ?_ | rfl | assumption | (exact congrArg (fun x => some (Blk.row 3 x 0)) ha)), rfl⟩
      · rcases g3 with ⟨rfl, rfl⟩ | rfl
        · change FnOK _ _ [.agg [.list 3 []], .agg [.list 3 []]] _ at H3
          by_cases hc : ([] : List Pt) = []
          · rw [decide_eq_true hc] at H3
            rw [if_pos hc, List.nil_append] at g4
            clear hc
            repeat' ((conv => whnf); first | (with_reducible first | refine br_t ?_ | refine br_f ?_ | refine za ?_ | refine zg ?_ | refine zo ?_ | refine zb ?_ | refine zm ?_ | refine zc ?_ | refine ze ?_) | ((with_reducible refine bc_t ?_ ?_); (first | omega | decide)) | ((with_reducible refine bc_f ?_ ?_); (first | omega | decide)) | (with_reducible first | refine bc (fun h => ?_) (fun h => ?_) | refine zt ?_ | refine zf ?_ | refine br_i (fun h => ?_) (fun h => ?_)) | refine zg ?_ | refine zi ?_)
            all_goals conv => whnf
            refine ⟨(i + 1, o, [], .nil 3), ⟨by show _ ≤ _; omega, by show o.length ≤ i + 1; omega, .inl ⟨rfl, rfl⟩, g4⟩, ?_, by show _ - _ < _ - _; omega⟩
            (conv => whnf); exact zent
          · rw [decide_eq_false hc] at H3
            rw [if_neg hc, ← List.append_assoc] at g4
            clear hc
            repeat' ((conv => whnf); first | (with_reducible first | refine br_t ?_ | refine br_f ?_ | refine za ?_ | refine zg ?_ | refine zo ?_ | refine zb ?_ | refine zm ?_ | refine zc ?_ | refine ze ?_) | ((with_reducible refine bc_t ?_ ?_); (first | omega | decide)) | ((with_reducible refine bc_f ?_ ?_); (first | omega | decide)) | (with_reducible first | refine bc (fun h => ?_) (fun h => ?_) | refine zt ?_ | refine zf ?_ | refine br_i (fun h => ?_) (fun h => ?_)) | refine zg ?_ | refine zi ?_)
            all_goals conv => whnf
            refine ⟨(i + 1, o ++ [(⟨p.ms[i].n, p.ms[i].d, []⟩ : Md)], [], .nil 3), ⟨by show _ ≤ _; omega, by show (o ++ [_]).length ≤ _; rw [List.length_append, List.length_singleton]; omega, .inl ⟨rfl, rfl⟩, g4⟩, ?_, by show _ - _ < _ - _; omega⟩
            (conv => whnf); refine ⟨by repeat' (first | with_reducible exact zE0 | with_reducible refine zE1 ?_ ?_ | rfl | assumption | (exact congrArg (fun x => some (Blk.row 3 x 0)) ha) | (refine ent_i ?_; (first | omega | (rw [IntWalk.i64_in _ (by omega)]; omega) | (simp; done))) | (refine ent_b ?_; (first | omega | (rw [IntWalk.i64_in _ (by omega)]; omega) | (simp; done)))), by repeat' (first | with_reducible exact zH0 | with_reducible refine zH1 ?_ ?_ | rfl | assumption | (exact congrArg (fun x => some (Blk.row 3 x 0)) ha)), rfl⟩
        · change FnOK _ _ [fld b, .agg [.list 3 []]] _ at H3
          by_cases hc : b = []
          · rw [decide_eq_true hc] at H3
            rw [if_pos hc, List.nil_append] at g4
            clear hc
            repeat' ((conv => whnf); first | (with_reducible first | refine br_t ?_ | refine br_f ?_ | refine za ?_ | refine zg ?_ | refine zo ?_ | refine zb ?_ | refine zm ?_ | refine zc ?_ | refine ze ?_) | ((with_reducible refine bc_t ?_ ?_); (first | omega | decide)) | ((with_reducible refine bc_f ?_ ?_); (first | omega | decide)) | (with_reducible first | refine bc (fun h => ?_) (fun h => ?_) | refine zt ?_ | refine zf ?_ | refine br_i (fun h => ?_) (fun h => ?_)) | refine zg ?_ | refine zi ?_)
            all_goals conv => whnf
            refine ⟨(i + 1, o, [], .nil 3), ⟨by show _ ≤ _; omega, by show o.length ≤ i + 1; omega, .inl ⟨rfl, rfl⟩, g4⟩, ?_, by show _ - _ < _ - _; omega⟩
            (conv => whnf); exact zent
          · rw [decide_eq_false hc] at H3
            rw [if_neg hc, ← List.append_assoc] at g4
            clear hc
            repeat' ((conv => whnf); first | (with_reducible first | refine br_t ?_ | refine br_f ?_ | refine za ?_ | refine zg ?_ | refine zo ?_ | refine zb ?_ | refine zm ?_ | refine zc ?_ | refine ze ?_) | ((with_reducible refine bc_t ?_ ?_); (first | omega | decide)) | ((with_reducible refine bc_f ?_ ?_); (first | omega | decide)) | (with_reducible first | refine bc (fun h => ?_) (fun h => ?_) | refine zt ?_ | refine zf ?_ | refine br_i (fun h => ?_) (fun h => ?_)) | refine zg ?_ | refine zi ?_)
            all_goals conv => whnf
            refine ⟨(i + 1, o ++ [(⟨p.ms[i].n, p.ms[i].d, []⟩ : Md)], [], .nil 3), ⟨by show _ ≤ _; omega, by show (o ++ [_]).length ≤ _; rw [List.length_append, List.length_singleton]; omega, .inl ⟨rfl, rfl⟩, g4⟩, ?_, by show _ - _ < _ - _; omega⟩
            (conv => whnf); refine ⟨by repeat' (first | with_reducible exact zE0 | with_reducible refine zE1 ?_ ?_ | rfl | assumption | (exact congrArg (fun x => some (Blk.row 3 x 0)) ha) | (refine ent_i ?_; (first | omega | (rw [IntWalk.i64_in _ (by omega)]; omega) | (simp; done))) | (refine ent_b ?_; (first | omega | (rw [IntWalk.i64_in _ (by omega)]; omega) | (simp; done)))), by repeat' (first | with_reducible exact zH0 | with_reducible refine zH1 ?_ ?_ | rfl | assumption | (exact congrArg (fun x => some (Blk.row 3 x 0)) ha)), rfl⟩
    · rw [wasL_ge hge, List.append_nil] at g4
      rw [← g4]
      rcases g3 with ⟨rfl, rfl⟩ | rfl
      all_goals
        exact zw
  · rw [if_neg h1]
    have h8 : pchk p = 8 := (pchk_08 p).resolve_left h1
    rw [h8] at H1
    refine fn_ok (by kernel_rfl) ty_ok Tryz.func55 rfl (fun _ _ => Tryz.call55 _ _) rfl ?_
    intro hw
    clear hw
    exact zw
end Go.Proofs.YtnhljlihchegjaaGreat

/- The past: going on, what was, replaying. No program is named. -/
namespace Go.Proofs.YtnhljlihchegjaaGreat
open Go.RowKit Go.Sort Sx
/-- a moment is not behind a time -/
abbrev leT (m : Md) (n e : Int) : Prop := qv m.n m.d ≤ qv n e
theorem wcnt_le_iff {l : List Md} {n e : Int} (hs : Ups l) (ht : chk n e = 0) {i : Nat} (hi : i < l.length) : i < wcnt l n e ↔ leT l[i] n e := by
  rw [← wcnt_iff hs ht hi]
  have h1 := qv_lt ht (hs.ok i hi)
  unfold leT
  rw [← Rat.not_lt, h1]
  unfold cmpN
  (repeat' split) <;> omega
theorem wcnt_of {l : List Md} {n e : Int} (hs : Ups l) (ht : chk n e = 0) {k : Nat} (hk : k ≤ l.length) (h1 : ∀ i (h : i < l.length), i < k → leT l[i] n e) (h2 : ∀ i (h : i < l.length), k ≤ i → ¬ leT l[i] n e) : wcnt l n e = k := by
  have hw := wcnt_le l n e
  rcases Nat.lt_trichotomy (wcnt l n e) k with h | h | h
  · exact absurd ((wcnt_le_iff hs ht (by omega)).2 (h1 (wcnt l n e) (by omega) h)) (Nat.lt_irrefl _)
  · exact h
  · exact absurd ((wcnt_le_iff hs ht (show k < l.length by omega)).1 h) (h2 k (by omega) (Nat.le_refl _))
theorem last_eq {p : Pa} (h : 1 ≤ p.ms.length) : p.last = p.ms[p.ms.length - 1] := by
  unfold Pa.last
  rw [List.getElem?_eq_getElem (by omega)]
  rfl
theorem pchk_last {p : Pa} (h : pchk p = 0) : leT p.last p.n p.d := by
  obtain ⟨h1, h2, h3, h4, h5⟩ := pchk_ok h
  have := ((pgo_iff (n := p.n) (d := p.d) (l := p.ms) (i := 0) rfl (by omega)).1 (by rw [List.drop_zero]; exact h4)).2.2 (p.ms.length - 1) (by omega) (by omega)
  rw [last_eq h1]
  unfold leT
  rw [← Rat.not_lt]
  intro hh
  have := (qv_lt (askd_chk h3) ((ups_of h).ok _ (by omega))).1 hh
  omega
theorem pchk_mk {p : Pa} (h1 : 1 ≤ p.ms.length) (h2 : p.ms.length ≤ 40) (h3 : askd p.n p.d = 0) (h4 : ∀ m ∈ p.ms, mchk m = 0) (h5 : Ups p.ms) (h6 : leT (p.ms[p.ms.length - 1]'(by omega)) p.n p.d) : pchk p = 0 := by
  have h7 : ∀ j (h : j < p.ms.length), j + 1 = p.ms.length → p.ms[j].n * p.d ≤ p.n * p.ms[j].d := fun j hj he => by
    obtain rfl : j = p.ms.length - 1 := by omega
    exact Int.not_lt.1 (mt (qv_lt (askd_chk h3) (h5.ok (p.ms.length - 1) (by omega))).2 (Rat.not_lt.2 h6))
  unfold pchk
  rw [if_pos ⟨h1, h2, h3, pgo_true (by omega) (fun j hj => h4 _ (List.getElem_mem hj)) (fun j hj => (qv_lt (h5.ok _ _) (h5.ok _ _)).1 (h5.up _ _ hj (Nat.lt_succ_self _))) h7⟩]
/-- all that a step does -/
structure Goes (p : Pa) (m : Md) (q : Pa) : Prop where
  ok : pchk q = 0
  now : q.n = m.n ∧ q.d = m.d
  len : q.ms.length ≤ p.ms.length + 1
  is : whatV q m.n m.d = (m.l, 0)
  was : ∀ n e, askd n e = 0 → qv n e ≤ qv p.n p.d → qv n e < qv m.n m.d → whatV q n e = whatV p n e
theorem what_last {q : Pa} (h : pchk q = 0) : whatV q q.n q.d = (q.last.l, 0) := by
  obtain ⟨h1, h2, h3, h4, h5⟩ := pchk_ok h
  have hs := ups_of h
  have ht := askd_chk h3
  have hl := pchk_last h
  rw [last_eq h1] at hl
  have hw : wcnt q.ms q.n q.d = q.ms.length := wcnt_of hs ht (Nat.le_refl _) (fun i hi _ => by
    rcases Nat.lt_or_ge i (q.ms.length - 1) with h | h
    · exact Rat.le_of_lt (Std.lt_of_lt_of_le (hs.up _ i (show q.ms.length - 1 < q.ms.length by omega) h) hl)
    · obtain rfl : i = q.ms.length - 1 := by omega
      exact hl) (fun i hi h => by omega)
  unfold whatV Pa.last
  rw [if_pos h, if_pos h3, if_neg (by omega), hw, if_neg (by omega)]
theorem what_eq {p q : Pa} (hp : pchk p = 0) (hq : pchk q = 0) {n e : Int} (ht : askd n e = 0) (h1 : qv n e ≤ qv p.n p.d) (h2 : qv n e ≤ qv q.n q.d) (h3 : wcnt p.ms n e = wcnt q.ms n e) (h4 : 0 < wcnt q.ms n e → (p.ms[wcnt q.ms n e - 1]?.getD default).l = (q.ms[wcnt q.ms n e - 1]?.getD default).l) : whatV q n e = whatV p n e := by
  have a1 := (pchk_ok hp).2.2.1
  have a2 := (pchk_ok hq).2.2.1
  have b1 : ¬ p.n * e < n * p.d := fun h => Rat.not_lt.2 h1 ((qv_lt (askd_chk a1) (askd_chk ht)).2 h)
  have b2 : ¬ q.n * e < n * q.d := fun h => Rat.not_lt.2 h2 ((qv_lt (askd_chk a2) (askd_chk ht)).2 h)
  unfold whatV
  rw [if_pos hp, if_pos hq, if_pos ht, if_pos ht, if_neg b1, if_neg b2, h3]
  by_cases h0 : wcnt q.ms n e = 0
  · rw [if_pos h0, if_pos h0]
  · rw [if_neg h0, if_neg h0, h4 (by omega)]
theorem goes {p q : Pa} {m : Md} (hp : pchk p = 0) (hm : mchk m = 0) (h : pGoV p m = (q, 0)) : Goes p m q := by
  obtain ⟨k1, k2, k3, k4, k5⟩ := pchk_ok hp
  have hs := ups_of hp
  have hl := pchk_last hp
  have hle := last_eq k1
  obtain ⟨g1, g2⟩ := mchk_ok hm
  have tm := askd_chk g1
  unfold pGoV at h
  rw [if_pos hp, if_pos hm] at h
  split at h
  · cases h
  rename_i hnow
  have hnow' : qv p.n p.d ≤ qv m.n m.d := Rat.not_lt.1 fun h => hnow ((qv_lt tm (askd_chk k3)).1 h)
  split at h
  · rename_i hsame
    injection h with h; subst h
    have hq : pchk ⟨m.n, m.d, p.ms⟩ = 0 := pchk_mk k1 k2 g1 k5 hs (by rw [← hle]; exact Rat.le_trans hl hnow')
    refine ⟨hq, ⟨rfl, rfl⟩, Nat.le_succ _, ?_, fun n e ht h1 h2 => what_eq hp hq ht h1 (Rat.le_of_lt h2) rfl fun _ => rfl⟩
    rw [show whatV ⟨m.n, m.d, p.ms⟩ m.n m.d = _ from what_last hq]
    exact congrArg (fun x => (x, (0 : Int))) hsame
  · split at h
    · rename_i hdiff hat
      injection h with h; subst h
      have hget : ∀ i (hi : i < (p.ms.set (p.ms.length - 1) m).length), ((p.ms.set (p.ms.length - 1) m)[i].n = (p.ms[i]'(by simpa using hi)).n ∧ (p.ms.set (p.ms.length - 1) m)[i].d = (p.ms[i]'(by simpa using hi)).d) := fun i hi => by
        rw [List.getElem_set]
        split
        · rename_i e; subst e; rw [hle] at hat; exact ⟨hat.1.symm, hat.2.symm⟩
        · exact ⟨rfl, rfl⟩
      have hlen : (p.ms.set (p.ms.length - 1) m).length = p.ms.length := by simp
      have hs2 : Ups (p.ms.set (p.ms.length - 1) m) := ⟨fun i hi => by rw [(hget i hi).1, (hget i hi).2]; exact hs.ok i (by simpa using hi), fun j i hj hij => by
        rw [(hget i (by omega)).1, (hget i (by omega)).2, (hget j hj).1, (hget j hj).2]; exact hs.up j i (by simpa using hj) hij⟩
      have hlast : (p.ms.set (p.ms.length - 1) m)[p.ms.length - 1]'(by simp; omega) = m := List.getElem_set_self ..
      have hq : pchk ⟨m.n, m.d, p.ms.set (p.ms.length - 1) m⟩ = 0 := by
        refine pchk_mk (by rw [hlen]; exact k1) (by rw [hlen]; exact k2) g1 (fun x hx => ?_) hs2 ?_
        · rcases List.mem_or_eq_of_mem_set hx with hx | rfl
          · exact k5 x hx
          · exact hm
        · simp only [hlen, hlast]
          exact Rat.le_refl
      refine ⟨hq, ⟨rfl, rfl⟩, by rw [hlen]; exact Nat.le_succ _, ?_, fun n e ht h1 h2 => ?_⟩
      · rw [show whatV ⟨m.n, m.d, p.ms.set (p.ms.length - 1) m⟩ m.n m.d = _ from what_last hq, last_eq (p := ⟨m.n, m.d, p.ms.set (p.ms.length - 1) m⟩) (by rw [hlen]; exact k1)]
        simp only [hlen, hlast]
      · have tn := askd_chk ht
        have hlt : ∀ i (hi : i < p.ms.length), leT p.ms[i] n e → i < p.ms.length - 1 := fun i hi hle' => by
          rcases Nat.lt_or_ge i (p.ms.length - 1) with h | h
          · exact h
          · exfalso
            obtain rfl : i = p.ms.length - 1 := by omega
            have : qv m.n m.d ≤ qv n e := by rw [← hat.1, ← hat.2, hle]; exact hle'
            exact Rat.not_lt.2 this h2
        have hw : wcnt (p.ms.set (p.ms.length - 1) m) n e = wcnt p.ms n e := by
          refine wcnt_of hs2 tn (by rw [hlen]; exact wcnt_le ..) (fun i hi hk => ?_) (fun i hi hk => ?_)
          · unfold leT
            rw [(hget i hi).1, (hget i hi).2]
            exact (wcnt_le_iff hs tn (by omega)).1 hk
          · unfold leT
            rw [(hget i hi).1, (hget i hi).2]
            exact fun hh => absurd ((wcnt_le_iff hs tn (by omega)).2 hh) (by omega)
        refine what_eq hp hq ht h1 (Rat.le_of_lt h2) hw.symm fun h0 => ?_
        rw [hw] at h0 ⊢
        have hwl := wcnt_le p.ms n e
        have := hlt (wcnt p.ms n e - 1) (by omega) ((wcnt_le_iff hs tn (by omega)).1 (by omega))
        rw [List.getElem?_set_ne (by omega)]
    · split at h
      · cases h
      · rename_i hdiff hat hfull
        injection h with h; subst h
        have hlen : (p.ms ++ [m]).length = p.ms.length + 1 := by simp
        have hlm : qv p.last.n p.last.d < qv m.n m.d := by
          have h1 : qv p.last.n p.last.d ≤ qv m.n m.d := Rat.le_trans hl hnow'
          refine Rat.not_le.1 fun h2 => hat ?_
          have he := Rat.le_antisymm h1 h2
          have hc := hs.ok (p.ms.length - 1) (by omega)
          rw [← hle] at hc
          exact (qv_inj hc tm).1 he
        have hs2 : Ups (p.ms ++ [m]) := by
          refine ⟨fun i hi => ?_, fun j i hj hij => ?_⟩
          · rw [List.getElem_append]
            split
            · exact hs.ok i _
            · simp only [List.getElem_singleton]; exact tm
          · rw [hlen] at hj
            rw [List.getElem_append_left (show i < p.ms.length by omega)]
            rcases Nat.lt_or_ge j p.ms.length with h | h
            · rw [List.getElem_append_left h]; exact hs.up j i h hij
            · rw [List.getElem_append_right h]
              simp only [List.getElem_singleton]
              rcases Nat.lt_or_ge i (p.ms.length - 1) with h3 | h3
              · refine Std.lt_trans ?_ hlm
                rw [hle]; exact hs.up _ i (by omega) h3
              · obtain rfl : i = p.ms.length - 1 := by omega
                rw [← hle]; exact hlm
        have hq : pchk ⟨m.n, m.d, p.ms ++ [m]⟩ = 0 := by
          refine pchk_mk (by rw [hlen]; omega) (by rw [hlen]; omega) g1 (fun x hx => ?_) hs2 ?_
          · rcases List.mem_append.1 hx with hx | hx
            · exact k5 x hx
            · rw [List.mem_singleton.1 hx]; exact hm
          · simp only [hlen, Nat.add_sub_cancel]
            rw [List.getElem_append_right (Nat.le_refl _)]
            simp only [Nat.sub_self, List.getElem_singleton]
            exact Rat.le_refl
        refine ⟨hq, ⟨rfl, rfl⟩, by rw [hlen]; exact Nat.le_refl _, ?_, fun n e ht h1 h2 => ?_⟩
        · rw [show whatV ⟨m.n, m.d, p.ms ++ [m]⟩ m.n m.d = _ from what_last hq, last_eq (p := ⟨m.n, m.d, p.ms ++ [m]⟩) (by rw [hlen]; omega)]
          simp only [hlen, Nat.add_sub_cancel]
          rw [List.getElem_append_right (Nat.le_refl _)]
          simp only [Nat.sub_self, List.getElem_singleton]
        · have tn := askd_chk ht
          have hwl := wcnt_le p.ms n e
          have hw : wcnt (p.ms ++ [m]) n e = wcnt p.ms n e := by
            refine wcnt_of hs2 tn (by rw [hlen]; omega) (fun i hi hk => ?_) (fun i hi hk => ?_)
            · rw [List.getElem_append_left (show i < p.ms.length by omega)]
              exact (wcnt_le_iff hs tn (by omega)).1 hk
            · rcases Nat.lt_or_ge i p.ms.length with h | h
              · rw [List.getElem_append_left h]
                exact fun hh => absurd ((wcnt_le_iff hs tn h).2 hh) (by omega)
              · rw [List.getElem_append_right h]
                simp only [List.getElem_singleton]
                exact Rat.not_le.2 h2
          refine what_eq hp hq ht h1 (Rat.le_of_lt h2) hw.symm fun h0 => ?_
          rw [hw] at h0 ⊢
          rw [List.getElem?_append_left (by omega)]
end Go.Proofs.YtnhljlihchegjaaGreat

/- The past: replaying, and when a point was there. No program is named. -/
namespace Go.Proofs.YtnhljlihchegjaaGreat
open Go.RowKit Go.Sort Sx
def pa0 : Pa := ⟨0, 0, []⟩
/-- going on, ask by ask -/
def rpl : Pa → Md → List Ak → Pa × Int
  | p, _, [] => (p, 0)
  | p, m, a :: l => if (pGoV p (askV m a).1).2 = 0 then rpl (pGoV p (askV m a).1).1 (askV m a).1 l else (pa0, (pGoV p (askV m a).1).2)
theorem rpl_lt {p : Pa} {m : Md} {l : List Ak} {i : Nat} (h : i < l.length) : rpl p m (l.drop i) = if (pGoV p (askV m l[i]).1).2 = 0 then rpl (pGoV p (askV m l[i]).1).1 (askV m l[i]).1 (l.drop (i + 1)) else (pa0, (pGoV p (askV m l[i]).1).2) := by
  rw [List.drop_eq_getElem_cons h, rpl]
theorem rpl_ge {p : Pa} {m : Md} {l : List Ak} {i : Nat} (h : l.length ≤ i) : rpl p m (l.drop i) = (p, 0) := by
  rw [List.drop_eq_nil_of_le h, rpl]
def replayV (m : Md) (l : List Ak) : Pa × List Rp × Int :=
  if mchk m = 0 then (if 120 < l.length then (pa0, [], 4) else if (rpl (pNewV m).1 m l).2 = 0 then ((rpl (pNewV m).1 m l).1, (runs m l).2, 0) else (pa0, [], (rpl (pNewV m).1 m l).2)) else (pa0, [], 8)
theorem askV_now {m : Md} (hm : mchk m = 0) (a : Ak) : ¬ (askV m a).1.n * m.d < m.n * (askV m a).1.d := by
  obtain ⟨g1, g2⟩ := mchk_ok hm
  have hr : ¬ m.n * m.d < m.n * m.d := Int.lt_irrefl _
  unfold askV
  split
  · split
    · split <;> exact hr
    · split
      · split <;> exact hr
      · split
        · split <;> exact hr
        · split
          · split
            · split
              · exact hr
              · rename_i h; show ¬ a.n * m.d < m.n * a.d; omega
            · exact hr
          · split
            · split <;> exact hr
            · exact hr
  · exact hr
/-- a past that has come to a model -/
structure Atp (p : Pa) (m : Md) : Prop where
  ok : pchk p = 0
  mok : mchk m = 0
  now : p.n = m.n ∧ p.d = m.d
  is : whatV p m.n m.d = (m.l, 0)
theorem at_new {m : Md} (hm : mchk m = 0) : Atp (pNewV m).1 m ∧ (pNewV m).1.ms.length = 1 ∧ (pNewV m).2 = 0 := by
  obtain ⟨g1, g2⟩ := mchk_ok hm
  unfold pNewV
  rw [if_pos hm]
  have hs : Ups [m] := ⟨fun i hi => by simp only [List.getElem_singleton]; exact askd_chk g1, fun j i hj hij => by simp at hj; omega⟩
  have hok : pchk ⟨m.n, m.d, [m]⟩ = 0 := pchk_mk (Nat.le_refl _) (by simp) g1 (fun x hx => by rw [List.mem_singleton.1 hx]; exact hm) hs Rat.le_refl
  exact ⟨⟨hok, hm, ⟨rfl, rfl⟩, what_last hok⟩, rfl, rfl⟩
theorem at_go {p : Pa} {m : Md} (h : Atp p m) (a : Ak) (hl : p.ms.length < 40) : ∃ q, pGoV p (askV m a).1 = (q, 0) ∧ Atp q (askV m a).1 ∧ q.ms.length ≤ p.ms.length + 1 ∧
    ∀ n e, askd n e = 0 → qv n e ≤ qv m.n m.d → qv n e < qv (askV m a).1.n (askV m a).1.d → whatV q n e = whatV p n e := by
  have hm := askV_ok h.mok a
  have hn := askV_now h.mok a
  have he : (pGoV p (askV m a).1).2 = 0 := by
    unfold pGoV
    rw [if_pos h.ok, if_pos hm, h.now.1, h.now.2, if_neg hn]
    split
    · rfl
    · split
      · rfl
      · rw [if_neg (by omega)]
  generalize hq : pGoV p (askV m a).1 = x at *
  obtain ⟨q, e⟩ := x
  dsimp only at he
  subst he
  have hg := goes h.ok hm hq
  exact ⟨q, rfl, ⟨hg.ok, hm, hg.now, hg.is⟩, hg.len, fun n e h1 h2 h3 => hg.was n e h1 (by rw [h.now.1, h.now.2]; exact h2) h3⟩
/-- few asks: no error, and what was at a time stays as long as nothing changes then -/
theorem rpl_ok : ∀ (l : List Ak) {p : Pa} {m : Md} (n e : Int), Atp p m → p.ms.length + l.length ≤ 40 → askd n e = 0 → qv n e ≤ qv m.n m.d → whatV p n e = whatV p n e →
    (∀ i, i ≤ l.length → (runs m (l.take i)).1.n = n ∧ (runs m (l.take i)).1.d = e → whatV p n e = ((runs m (l.take i)).1.l, 0)) →
    (rpl p m l).2 = 0 ∧ whatV (rpl p m l).1 n e = whatV p n e ∧ Atp (rpl p m l).1 (runs m l).1
  | [], p, m, n, e, h, _, _, _, _, _ => ⟨rfl, rfl, h⟩
  | a :: l, p, m, n, e, h, hl, ht, hle, _, hsame => by
    simp only [List.length_cons] at hl
    obtain ⟨q, hq, hAt, hlen, hw⟩ := at_go h a (by omega)
    have hnow : qv m.n m.d ≤ qv (askV m a).1.n (askV m a).1.d := Rat.not_lt.1 fun hh => askV_now h.mok a ((qv_lt (askd_chk (mchk_ok hAt.mok).1) (askd_chk (mchk_ok h.mok).1)).1 hh)
    have hkeep : whatV q n e = whatV p n e := by
      by_cases hlt : qv n e < qv (askV m a).1.n (askV m a).1.d
      · exact hw n e ht hle hlt
      · have heq : qv (askV m a).1.n (askV m a).1.d = qv n e := Rat.le_antisymm (Rat.not_lt.1 hlt) (Rat.le_trans hle hnow)
        have hne := (qv_inj (askd_chk (mchk_ok hAt.mok).1) (askd_chk ht)).1 heq
        have h1 := hsame 1 (by simp) hne
        have h2 := hAt.is
        rw [hne.1, hne.2] at h2
        rw [h2]
        exact h1.symm
    obtain ⟨r1, r2, r3⟩ := rpl_ok l n e hAt (by omega) ht (Rat.le_trans hle hnow) rfl (fun i hi hni => by
      rw [hkeep]
      exact hsame (i + 1) (by simpa using hi) hni)
    rw [rpl, hq]
    dsimp only
    rw [if_pos rfl]
    exact ⟨r1, r2.trans hkeep, r3⟩
theorem rpl_append : ∀ (l r : List Ak) {p : Pa} {m : Md}, (rpl p m l).2 = 0 → rpl p m (l ++ r) = rpl (rpl p m l).1 (runs m l).1 r
  | [], r, p, m, _ => rfl
  | a :: l, r, p, m, h => by
    rw [rpl] at h
    split at h
    · rename_i h0
      rw [List.cons_append, rpl, if_pos h0, rpl, if_pos h0, runs]
      exact rpl_append l r h
    · rename_i h0; exact absurd h h0
theorem rpl_len : ∀ (l : List Ak) {p : Pa} {m : Md}, Atp p m → p.ms.length + l.length ≤ 40 → (rpl p m l).1.ms.length ≤ p.ms.length + l.length
  | [], p, m, _, _ => Nat.le_refl _
  | a :: l, p, m, h, hl => by
    simp only [List.length_cons] at hl
    obtain ⟨q, hq, hAt, hlen, _⟩ := at_go h a (by omega)
    have := rpl_len l hAt (by omega)
    rw [rpl, hq]
    dsimp only
    rw [if_pos rfl]
    simp only [List.length_cons]
    omega
theorem rpl_at : ∀ (l : List Ak) {p : Pa} {m : Md}, Atp p m → p.ms.length + l.length ≤ 40 → (rpl p m l).2 = 0 ∧ Atp (rpl p m l).1 (runs m l).1
  | [], p, m, h, _ => ⟨rfl, h⟩
  | a :: l, p, m, h, hl => by
    simp only [List.length_cons] at hl
    obtain ⟨q, hq, hAt, hlen, _⟩ := at_go h a (by omega)
    have := rpl_at l hAt (by omega)
    rw [rpl, hq]
    dsimp only
    rw [if_pos rfl]
    exact this
/-- a question about the past has the answer it had -/
theorem answers {m : Md} (hm : mchk m = 0) {l : List Ak} (hl : l.length ≤ 30) {k : Nat} (hk : k ≤ l.length)
    (hsame : ∀ i, k < i → i ≤ l.length → (runs m (l.take i)).1.n = (runs m (l.take k)).1.n ∧ (runs m (l.take i)).1.d = (runs m (l.take k)).1.d → (runs m (l.take i)).1.l = (runs m (l.take k)).1.l) :
    (rpl (pNewV m).1 m l).2 = 0 ∧ whatV (rpl (pNewV m).1 m l).1 (runs m (l.take k)).1.n (runs m (l.take k)).1.d = ((runs m (l.take k)).1.l, 0) := by
  obtain ⟨hA, hL, _⟩ := at_new hm
  have hlt : (l.take k).length = k := by rw [List.length_take]; omega
  have hld : (l.drop k).length = l.length - k := List.length_drop
  obtain ⟨r1, r2⟩ := rpl_at (l.take k) hA (by rw [hL, hlt]; omega)
  have r3 := rpl_len (l.take k) hA (by rw [hL, hlt]; omega)
  rw [hL, hlt] at r3
  have he := rpl_append (l.take k) (l.drop k) r1
  rw [List.take_append_drop] at he
  obtain ⟨s1, s2, _⟩ := rpl_ok (l.drop k) (runs m (l.take k)).1.n (runs m (l.take k)).1.d r2 (by omega) (mchk_ok r2.mok).1 Rat.le_refl rfl (fun i hi hni => by
    rw [r2.is]
    rcases Nat.eq_zero_or_pos i with rfl | h0
    · rfl
    · have ht := runs_append m (l.take k) ((l.drop k).take i)
      rw [← List.take_add] at ht
      have := hsame (k + i) (by omega) (by omega)
      rw [ht] at this
      exact congrArg (fun x => (x, (0 : Int))) (this hni).symm)
  rw [he]
  exact ⟨s1, s2.trans r2.is⟩
/-- the field of the last moment that is not behind a time -/
def hadL (n e : Int) : List Md → List Pt → List Pt
  | [], b => b
  | m :: l, b => hadL n e l (if m.n * e ≤ n * m.d then m.l else b)
theorem hadL_lt {n e : Int} {l : List Md} {b : List Pt} {i : Nat} (h : i < l.length) : hadL n e (l.drop i) b = hadL n e (l.drop (i + 1)) (if l[i].n * e ≤ n * l[i].d then l[i].l else b) := by
  rw [List.drop_eq_getElem_cons h, hadL]
theorem hadL_ge {n e : Int} {l : List Md} {b : List Pt} {i : Nat} (h : l.length ≤ i) : hadL n e (l.drop i) b = b := by
  rw [List.drop_eq_nil_of_le h, hadL]
theorem leT_iff {m : Md} {n e : Int} (h1 : chk m.n m.d = 0) (h2 : chk n e = 0) : leT m n e ↔ m.n * e ≤ n * m.d := by
  unfold leT
  rw [← Rat.not_lt, qv_lt h2 h1, Int.not_lt]
theorem Ups.tail {m : Md} {l : List Md} (h : Ups (m :: l)) : Ups l :=
  ⟨fun i hi => h.ok (i + 1) (by simpa using hi), fun j i hj hij => h.up (j + 1) (i + 1) (by simpa using hj) (by omega)⟩
theorem hadL_none {n e : Int} {id : Int} : ∀ {l : List Md} {a b : List Pt}, (∀ m ∈ l, ¬ m.n * e ≤ n * m.d) → hadL n e (wasL l id a) b = b
  | [], _, _, _ => rfl
  | m :: l, a, b, h => by
    have := fun x => hadL_none (n := n) (e := e) (id := id) (l := l) (a := x) (b := b) fun m hm => h m (List.mem_cons_of_mem _ hm)
    rw [wasL]
    split
    · exact this _
    · rw [List.singleton_append, hadL, if_neg (h m (List.mem_cons_self ..))]
      exact this _
theorem had_was {n e : Int} (ht : chk n e = 0) {id : Int} : ∀ {l : List Md} {b : List Pt}, Ups l → hadL n e (wasL l id b) b = if wcnt l n e = 0 then b else aln (l[wcnt l n e - 1]?.getD default).l id
  | [], b, _ => by
    rw [if_pos (Nat.le_zero.1 (wcnt_le [] n e))]; rfl
  | m :: l, b, hs => by
    have hm : chk m.n m.d = 0 := hs.ok 0 (by simp)
    by_cases h : leT m n e
    · have hw : wcnt (m :: l) n e = wcnt l n e + 1 := by
        have hwl := wcnt_le l n e
        refine wcnt_of hs ht (by simp only [List.length_cons]; omega) (fun i hi hk => ?_) (fun i hi hk => ?_)
        · cases i with
          | zero => exact h
          | succ i => exact (wcnt_le_iff hs.tail ht (by simpa using hi)).1 (by omega)
        · cases i with
          | zero => omega
          | succ i => exact fun hh => absurd ((wcnt_le_iff hs.tail ht (by simpa using hi)).2 hh) (by omega)
      have hh := (leT_iff hm ht).1 h
      have := had_was ht (id := id) (b := aln m.l id) hs.tail
      have ee : hadL n e (wasL (m :: l) id b) b = hadL n e (wasL l id (aln m.l id)) (aln m.l id) := by
        rw [wasL]
        split
        · rename_i hb; rw [List.nil_append, hb]
        · rw [List.singleton_append, hadL, if_pos hh]
      rw [ee, this, hw, if_neg (Nat.succ_ne_zero (wcnt l n e)), Nat.add_sub_cancel]
      by_cases h0 : wcnt l n e = 0
      · rw [if_pos h0, h0]; rfl
      · rw [if_neg h0]
        obtain ⟨k, hk⟩ : ∃ k, wcnt l n e = k + 1 := ⟨wcnt l n e - 1, by omega⟩
        rw [hk]
        rfl
    · have hw : wcnt (m :: l) n e = 0 := by
        refine wcnt_of hs ht (Nat.zero_le _) (fun i hi hk => by omega) (fun i hi _ => ?_)
        rcases Nat.eq_zero_or_pos i with rfl | h0
        · exact h
        · exact fun hh => h (Rat.le_of_lt (Std.lt_of_lt_of_le (hs.up i 0 hi h0) hh))
      rw [if_pos hw]
      refine hadL_none fun x hx => ?_
      obtain ⟨i, hi, rfl⟩ := List.getElem_of_mem hx
      rw [← leT_iff (hs.ok i hi) ht]
      rw [← wcnt_le_iff hs ht hi, hw]
      exact Nat.not_lt_zero _
theorem was_sub {id : Int} : ∀ {l : List Md} {b : List Pt}, (wasL l id b).Sublist (l.map fun m => ⟨m.n, m.d, aln m.l id⟩)
  | [], _ => List.Sublist.refl _
  | m :: l, b => by
    rw [wasL, List.map_cons]
    split
    · exact List.Sublist.cons _ was_sub
    · exact List.Sublist.cons_cons _ was_sub
theorem aln_len (l : List Pt) (id : Int) : (aln l id).length ≤ 1 := by
  unfold aln; split <;> simp
theorem was_mem {id : Int} {l : List Md} {b : List Pt} {x : Md} (h : x ∈ wasL l id b) : x.l.length ≤ 1 ∧ ∃ m ∈ l, x.n = m.n ∧ x.d = m.d := by
  obtain ⟨m, hm, rfl⟩ := List.mem_map.1 (was_sub.subset h)
  exact ⟨aln_len _ _, m, hm, rfl, rfl⟩
theorem was_len {id : Int} {l : List Md} {b : List Pt} : (wasL l id b).length ≤ l.length := by
  have := (was_sub (id := id) (l := l) (b := b)).length_le
  rwa [List.length_map] at this
theorem was_up {id : Int} {l : List Md} {b : List Pt} (hs : Ups l) : (wasL l id b).Pairwise fun x y => qv x.n x.d < qv y.n y.d := by
  refine List.Pairwise.sublist was_sub (List.pairwise_map.2 ?_)
  exact List.pairwise_iff_getElem.2 fun i j hi hj hij => hs.up j i hj hij
theorem was_diff {id : Int} : ∀ {l : List Md} {b : List Pt} {i : Nat} (h : i < (wasL l id b).length), (wasL l id b)[i].l ≠ if i = 0 then b else ((wasL l id b)[i - 1]?.getD default).l
  | [], _, _, h => absurd h (Nat.not_lt_zero _)
  | m :: l, b, i, h => by
    by_cases hb : b = aln m.l id
    · have e : wasL (m :: l) id b = wasL l id b := by rw [wasL, if_pos hb, List.nil_append, ← hb]
      simp only [e]
      rw [e] at h
      exact was_diff h
    · have e : wasL (m :: l) id b = ⟨m.n, m.d, aln m.l id⟩ :: wasL l id (aln m.l id) := by rw [wasL, if_neg hb, List.singleton_append]
      simp only [e]
      rw [e] at h
      cases i with
      | zero => exact fun hh => hb hh.symm
      | succ i =>
        have := was_diff (id := id) (l := l) (b := aln m.l id) (i := i) (by simpa using h)
        rw [if_neg (Nat.succ_ne_zero _), List.getElem_cons_succ, Nat.add_sub_cancel]
        cases i with
        | zero => exact this
        | succ i => exact this
end Go.Proofs.YtnhljlihchegjaaGreat

/- The past: Replay. No conditions. -/
namespace Go.Proofs.YtnhljlihchegjaaGreat
open Go.RowKit Go.Sort Sx
abbrev retY (x : Pa × List Rp × Int) : DV := .tup [x.1.dc, .one (rps x.2.1), .one (i64 x.2.2)]
theorem pNewV_ok {m : Md} (h : mchk m = 0) : pNewV m = (⟨m.n, m.d, [m]⟩, 0) := by unfold pNewV; rw [if_pos h]
set_option maxRecDepth 100000 in
set_option maxHeartbeats 4000000 in
theorem pReplay_fn (m : Md) (l : List Ak) : FnOK Tryz.prog 46 [m.dc, .one (aks l)] (retY (replayV m l)) := by
  have H1 := oRun_fn m l
  unfold replayV
  unfold runV at H1
  by_cases h : mchk m = 0
  · rw [if_pos h] at H1 ⊢
    have H2 := pNew_fn m
    rw [pNewV_ok h] at H2 ⊢
    by_cases h1 : 120 < l.length
    · rw [if_pos h1] at H1 ⊢
      refine fn_ok (by kernel_rfl) ty_ok Tryz.func46 rfl (fun _ _ => Tryz.call46 _ _) rfl ?_
      intro hw
      clear hw
      exact zw
    · rw [if_neg h1] at H1 ⊢
      generalize (runs m l).2 = r at *
      generalize (runs m l).1 = z at *
      have hal : (l.map Ak.c).length = l.length := List.length_map ..
      dsimp only
      generalize hX : rpl ⟨m.n, m.d, [m]⟩ m l = X
      simp only [retR] at H1
      simp only [retP] at H2
      refine fn_ok (by kernel_rfl) ty_ok Tryz.func46 rfl (fun _ _ => Tryz.call46 _ _) rfl ?_
      intro hw
      clear hw
      repeat' ((conv => whnf); first | (with_reducible first | refine br_t ?_ | refine br_f ?_ | refine za ?_ | refine zg ?_ | refine zo ?_ | refine zb ?_ | refine zm ?_ | refine zc ?_ | refine ze ?_) | ((with_reducible refine bc_t ?_ ?_); (first | omega | decide)) | ((with_reducible refine bc_f ?_ ?_); (first | omega | decide)) | (with_reducible first | refine bc (fun h => ?_) (fun h => ?_) | refine zt ?_ | refine zf ?_ | refine br_i (fun h => ?_) (fun h => ?_)) | refine zg ?_ | refine zi ?_)
      refine loop_J (by kernel_rfl) ty_ok (σ := Nat × Md × Pa) (fun s => [(32, sV (.int .i64 s.1)), (9, sV (.int .i64 0))]) (fun s => [(2, .own [.d (i64 s.2.1.n), .d (i64 s.2.1.d), .d (pts s.2.1.l)]), (10, .own [.d (i64 s.2.2.n), .d (i64 s.2.2.d), .d (mos s.2.2.ms)])]) (fun s => s.1 ≤ l.length ∧ mchk s.2.1 = 0 ∧ rpl s.2.2 s.2.1 (l.drop s.1) = X) (fun s => l.length - s.1) (0, m, ⟨m.n, m.d, [m]⟩) ⟨by omega, h, hX⟩ ?_ ?_
      · (conv => whnf); exact zent
      rintro ⟨i, u, p⟩ ⟨hi, hu, hI⟩
      clear H1 H2 hX
      dsimp only at hi hu hI
      rcases Nat.lt_or_ge i l.length with hlt | hge
      · have hel := aks_get hlt
        have HA := oDo_fn u l[i]
        unfold doV at HA
        rw [if_pos hu] at HA
        have hv := askV_ok hu l[i]
        rw [rpl_lt hlt] at hI
        generalize l[i] = a at *
        generalize askV u a = x at *
        obtain ⟨y, rr⟩ := x
        have HG := pGo_fn p y
        dsimp only at hI hv
        generalize pGoV p y = g at *
        obtain ⟨q, e⟩ := g
        simp only [retD] at HA
        simp only [retP] at HG
        dsimp only at hI
        by_cases he : e = 0
        · subst he
          rw [if_pos rfl] at hI
          repeat' ((conv => whnf); first | (with_reducible first | refine br_t ?_ | refine br_f ?_ | refine za ?_ | refine zg ?_ | refine zo ?_ | refine zb ?_ | refine zm ?_ | refine zc ?_ | refine ze ?_) | ((with_reducible refine bc_t ?_ ?_); (first | omega | decide)) | ((with_reducible refine bc_f ?_ ?_); (first | omega | decide)) | (with_reducible first | refine bc (fun h => ?_) (fun h => ?_) | refine zt ?_ | refine zf ?_ | refine br_i (fun h => ?_) (fun h => ?_)) | refine zg ?_ | refine zi ?_)
          all_goals conv => whnf
          refine ⟨(i + 1, y, q), ⟨by show _ ≤ _; omega, hv, hI⟩, ?_, by show _ - _ < _ - _; omega⟩
          (conv => whnf); exact zent
        · rw [if_neg he] at hI
          subst hI
          dsimp only
          rw [if_neg he]
          exact zw
      · rw [rpl_ge hge] at hI
        subst hI
        exact zw
  · rw [if_neg h] at H1 ⊢
    simp only [retR] at H1
    refine fn_ok (by kernel_rfl) ty_ok Tryz.func46 rfl (fun _ _ => Tryz.call46 _ _) rfl ?_
    intro hw
    clear hw
    exact zw
set_option maxRecDepth 100000 in
set_option maxHeartbeats 4000000 in
theorem rpReplay_fn (m : Md) (l : List Ak) : FnOK Tryz.prog 47 [m.dc, .one (aks l)] (retY (replayV m l)) := by
  have H1 := roRun_fn m l
  unfold replayV
  unfold runV at H1
  by_cases h : mchk m = 0
  · rw [if_pos h] at H1 ⊢
    have H2 := rpNew_fn m
    rw [pNewV_ok h] at H2 ⊢
    by_cases h1 : 120 < l.length
    · rw [if_pos h1] at H1 ⊢
      refine fn_ok (by kernel_rfl) ty_ok Tryz.func47 rfl (fun _ _ => Tryz.call47 _ _) rfl ?_
      intro hw
      clear hw
      exact zw
    · rw [if_neg h1] at H1 ⊢
      have HT := roTwin_fn m (by have := mchk_len h; omega)
      generalize (runs m l).2 = r at *
      generalize (runs m l).1 = z at *
      have hal : (l.map Ak.c).length = l.length := List.length_map ..
      dsimp only
      generalize hX : rpl ⟨m.n, m.d, [m]⟩ m l = X
      simp only [retR] at H1
      simp only [retP] at H2
      refine fn_ok (by kernel_rfl) ty_ok Tryz.func47 rfl (fun _ _ => Tryz.call47 _ _) rfl ?_
      intro hw
      clear hw
      repeat' ((conv => whnf); first | (with_reducible first | refine br_t ?_ | refine br_f ?_ | refine za ?_ | refine zg ?_ | refine zo ?_ | refine zb ?_ | refine zm ?_ | refine zc ?_ | refine ze ?_) | ((with_reducible refine bc_t ?_ ?_); (first | omega | decide)) | ((with_reducible refine bc_f ?_ ?_); (first | omega | decide)) | (with_reducible first | refine bc (fun h => ?_) (fun h => ?_) | refine zt ?_ | refine zf ?_ | refine br_i (fun h => ?_) (fun h => ?_)) | refine zg ?_ | refine zi ?_)
      refine loop_J (by kernel_rfl) ty_ok (σ := Nat × Md × Pa) (fun s => [(13, sV (.int .i64 s.1))]) (fun s => [(12, .own [.d (i64 s.2.1.n), .d (i64 s.2.1.d), .d (pts s.2.1.l)]), (10, .own [.d (i64 s.2.2.n), .d (i64 s.2.2.d), .d (mos s.2.2.ms)])]) (fun s => s.1 ≤ l.length ∧ mchk s.2.1 = 0 ∧ rpl s.2.2 s.2.1 (l.drop s.1) = X) (fun s => l.length - s.1) (0, m, ⟨m.n, m.d, [m]⟩) ⟨by omega, h, hX⟩ ?_ ?_
      · (conv => whnf); exact zent
      rintro ⟨i, u, p⟩ ⟨hi, hu, hI⟩
      clear H1 H2 hX HT
      dsimp only at hi hu hI
      rcases Nat.lt_or_ge i l.length with hlt | hge
      · have hel := aks_get hlt
        have HA := roDid_fn hu l[i]
        have hv := askV_ok hu l[i]
        rw [rpl_lt hlt] at hI
        generalize l[i] = a at *
        generalize askV u a = x at *
        obtain ⟨y, rr⟩ := x
        have HG := rpGo_fn p y
        dsimp only at hI hv
        generalize pGoV p y = g at *
        obtain ⟨q, e⟩ := g
        simp only [retA] at HA
        simp only [retP] at HG
        dsimp only at hI
        by_cases he : e = 0
        · subst he
          rw [if_pos rfl] at hI
          repeat' ((conv => whnf); first | (with_reducible first | refine br_t ?_ | refine br_f ?_ | refine za ?_ | refine zg ?_ | refine zo ?_ | refine zb ?_ | refine zm ?_ | refine zc ?_ | refine ze ?_) | ((with_reducible refine bc_t ?_ ?_); (first | omega | decide)) | ((with_reducible refine bc_f ?_ ?_); (first | omega | decide)) | (with_reducible first | refine bc (fun h => ?_) (fun h => ?_) | refine zt ?_ | refine zf ?_ | refine br_i (fun h => ?_) (fun h => ?_)) | refine zg ?_ | refine zi ?_)
          all_goals conv => whnf
          refine ⟨(i + 1, y, q), ⟨by show _ ≤ _; omega, hv, hI⟩, ?_, by show _ - _ < _ - _; omega⟩
          (conv => whnf); exact zent
        · rw [if_neg he] at hI
          subst hI
          dsimp only
          rw [if_neg he]
          exact zw
      · rw [rpl_ge hge] at hI
        subst hI
        exact zw
  · rw [if_neg h] at H1 ⊢
    simp only [retR] at H1
    refine fn_ok (by kernel_rfl) ty_ok Tryz.func47 rfl (fun _ _ => Tryz.call47 _ _) rfl ?_
    intro hw
    clear hw
    exact zw
end Go.Proofs.YtnhljlihchegjaaGreat

/- The chapter's examples hold. No conditions. -/
namespace Go.Proofs.YtnhljlihchegjaaGreat
open Go.RowKit Go.Sort Sx
abbrev exM : Md := ⟨0, 1, [⟨1, 0, 0⟩]⟩
abbrev exL : List Ak := [⟨4, ⟨0, 0, 0⟩, 0, 2, 1⟩, ⟨2, ⟨0, 0, 0⟩, 1, 0, 0⟩, ⟨1, ⟨2, 0, 0⟩, 0, 0, 0⟩]
abbrev exP : Pa := ⟨2, 1, [⟨0, 1, [⟨1, 0, 0⟩]⟩, ⟨2, 1, [⟨2, 0, 0⟩]⟩]⟩
theorem ex_move : askV exM ⟨4, ⟨0, 0, 0⟩, 0, 2, 1⟩ = (⟨2, 1, [⟨1, 0, 0⟩]⟩, rp0) := by
  rw [askV_move (by decide) (by decide), btw_one (L := []) (by decide) (by decide) (by decide) (by decide) (by decide) (by decide)]
  rfl
theorem ex_take : askV ⟨2, 1, [⟨1, 0, 0⟩]⟩ ⟨2, ⟨0, 0, 0⟩, 1, 0, 0⟩ = (⟨2, 1, []⟩, rp0) := by decide
theorem ex_put : askV ⟨2, 1, []⟩ ⟨1, ⟨2, 0, 0⟩, 0, 0, 0⟩ = (⟨2, 1, [⟨2, 0, 0⟩]⟩, rp0) := by decide
theorem ex_run : runs exM exL = (⟨2, 1, [⟨2, 0, 0⟩]⟩, [rp0, rp0, rp0]) := by
  simp only [exL, runs, ex_move, ex_take, ex_put]
theorem ex_go1 : pGoV ⟨0, 1, [exM]⟩ ⟨2, 1, [⟨1, 0, 0⟩]⟩ = (⟨2, 1, [exM]⟩, 0) := by decide
theorem ex_go2 : pGoV ⟨2, 1, [exM]⟩ ⟨2, 1, []⟩ = (⟨2, 1, [exM, ⟨2, 1, []⟩]⟩, 0) := by decide
theorem ex_go3 : pGoV ⟨2, 1, [exM, ⟨2, 1, []⟩]⟩ ⟨2, 1, [⟨2, 0, 0⟩]⟩ = (exP, 0) := by decide
theorem ex_replay : replayV exM exL = (exP, [rp0, rp0, rp0], 0) := by
  unfold replayV
  rw [if_pos (by decide), if_neg (by decide), pNewV_ok (by decide), ex_run]
  have : rpl ⟨0, 1, [exM]⟩ exM exL = (exP, 0) := by
    simp only [exL, rpl, ex_move, ex_take, ex_put, ex_go1, ex_go2, ex_go3, if_true]
  dsimp only
  rw [this]
  rfl
theorem Plwhole_fn (n : Int) : FnOK Tryz.prog 62 [.one (i64 n)] (.c (rat n 1)) := by
  refine fn_ok (by kernel_rfl) ty_ok Tryz.func62 rfl (fun _ _ => Tryz.call62 _ _) rfl ?_
  intro hw
  clear hw
  exact zw
theorem Plexample_fn : FnOK Tryz.prog 60 [] (.tup [exM.dc, .one (aks exL)]) := by
  have A1 := Plwhole_fn 0
  have A2 := Plwhole_fn 2
  refine fn_ok (by kernel_rfl) ty_ok Tryz.func60 rfl (fun _ _ => Tryz.call60 _ _) rfl ?_
  intro hw
  clear hw
  exact zw
set_option maxRecDepth 100000 in
set_option maxHeartbeats 4000000 in
theorem Plalive_fn : FnOK Tryz.prog 49 [] (.c (.one (bol true))) := by
  have A0 := Plwhole_fn 0
  have A1 := Plwhole_fn 1
  have A2 := Plwhole_fn 2
  have B := Plexample_fn
  have C := pReplay_fn exM exL
  rw [ex_replay] at C
  have D1 := pWhat_fn exP 1 1
  rw [show whatV exP 1 1 = ([⟨1, 0, 0⟩], 0) by decide] at D1
  have D2 := pWhat_fn exP 2 1
  rw [show whatV exP 2 1 = ([⟨2, 0, 0⟩], 0) by decide] at D2
  have S0 := rpSameMoments_fn exP.ms exP.ms
  have S1 := rfSame_fn [⟨1, 0, 0⟩] [⟨1, 0, 0⟩]
  have S2 := rfSame_fn [⟨2, 0, 0⟩] [⟨2, 0, 0⟩]
  simp only [decide_true, retY, exP, exM, exL, Pa.dc, Md.dc, mos, aks, pts, rps, List.map_cons, List.map_nil, Rp.c, Md.c, Ak.c, Pt.c, mts, rp0, retW, fld] at B C D1 D2 S0 S1 S2
  refine fn_ok (by kernel_rfl) ty_ok Tryz.func49 rfl (fun _ _ => Tryz.call49 _ _) rfl ?_
  intro hw
  clear hw
  exact zw
theorem pSameIDs_self (a : List Int) : FnOK Tryz.prog 59 [.one (ints a), .one (ints a)] (.c (.one (bol true))) := by
  refine fn_ok (by kernel_rfl) ty_ok Tryz.func59 rfl (fun _ _ => Tryz.call59 _ _) rfl ?_
  intro hw
  simp only [WDCs, WDC] at hw
  have w1 : a.length ≤ 9223372036854775807 := by
    obtain ⟨h1, _, _⟩ := WD_list.1 hw.1
    simpa using h1
  clear hw
  have hl : (a.map fun i => [i64 i]).length = a.length := List.length_map ..
  repeat' ((conv => whnf); first | (with_reducible first | refine br_t ?_ | refine br_f ?_ | refine za ?_ | refine zg ?_ | refine zo ?_ | refine zb ?_ | refine zm ?_ | refine zc ?_ | refine ze ?_) | ((with_reducible refine bc_t ?_ ?_); (first | omega | decide)) | ((with_reducible refine bc_f ?_ ?_); (first | omega | decide)) | (with_reducible first | refine bc (fun h => ?_) (fun h => ?_) | refine zt ?_ | refine zf ?_ | refine br_i (fun h => ?_) (fun h => ?_)) | refine zg ?_ | refine zi ?_)
  refine loop_J (by kernel_rfl) ty_ok (σ := Nat) (fun i => [(5, sV (.int .i64 i))]) (fun _ => []) (fun i => i ≤ a.length) (fun i => a.length - i) 0 (Nat.zero_le _) ?_ ?_
  · (conv => whnf); exact zent
  intro i hi
  rcases Nat.lt_or_ge i a.length with hlt | hge
  · have hel := ints_get hlt
    repeat' ((conv => whnf); first | (with_reducible first | refine br_t ?_ | refine br_f ?_ | refine za ?_ | refine zg ?_ | refine zo ?_ | refine zb ?_ | refine zm ?_ | refine zc ?_ | refine ze ?_) | ((with_reducible refine bc_t ?_ ?_); (first | omega | decide)) | ((with_reducible refine bc_f ?_ ?_); (first | omega | decide)) | (with_reducible first | refine bc (fun h => ?_) (fun h => ?_) | refine zt ?_ | refine zf ?_ | refine br_i (fun h => ?_) (fun h => ?_)) | refine zg ?_ | refine zi ?_)
    all_goals conv => whnf
    refine ⟨i + 1, by omega, ?_, by omega⟩
    (conv => whnf); exact zent
  · exact zw
end Go.Proofs.YtnhljlihchegjaaGreat
