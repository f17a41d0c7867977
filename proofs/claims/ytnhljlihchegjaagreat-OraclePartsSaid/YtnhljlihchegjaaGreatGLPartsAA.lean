import Derived.Test.YtnhljlihchegjaaGreatGbBB
import Derived.Test.YtnhljlihchegjaaGreatGbAZ
import Derived.Test.YtnhljlihchegjaaGreatRows
import Derived.Test.YtnhljlihchegjaaGreatGbAB
import Derived.Test.YtnhljlihchegjaaGreatGbAY
set_option linter.all false
/- The law OracleParts answers true. No condition. -/
namespace Go.Proofs.YtnhljlihchegjaaGreat
open Go.RowKit Go.Sort Sx
theorem askV_err {m : Md} (hm : mchk m = 0) (a : Ak) : (askV m a).2.e ≠ 0 → (askV m a).1 = m ∧ (askV m a).2 = rpE (askV m a).2.e := by
  obtain ⟨g1, g2⟩ := mchk_ok hm
  unfold askV
  split
  · split
    · split
      · intro h; exact absurd rfl h
      · intro h; exact ⟨rfl, rfl⟩
    · split
      · split
        · intro h; exact absurd rfl h
        · intro h; exact ⟨rfl, rfl⟩
      · split
        · split
          · intro h; exact absurd rfl h
          · intro h; exact ⟨rfl, rfl⟩
        · split
          · split
            · split
              · intro h; exact ⟨rfl, rfl⟩
              · intro h; exact absurd rfl h
            · intro h; exact ⟨rfl, rfl⟩
          · split
            · split
              · intro h; exact ⟨rfl, rfl⟩
              · intro h; exact absurd rfl h
            · unfold closV
              rw [if_pos g2, if_pos g1]
              split
              · intro h; exact ⟨rfl, rfl⟩
              · intro h; exact absurd rfl h
  · intro h; exact ⟨rfl, rfl⟩
theorem runs_get {m : Md} {l : List Ak} {i : Nat} (h : i < l.length) : (runs m l).2[i]? = some (askV (runs m (l.take i)).1 l[i]).2 := by
  have e : l = l.take i ++ (l[i] :: l.drop (i + 1)) := by rw [← List.drop_eq_getElem_cons h, List.take_append_drop]
  have e2 : runs m l = runs m (l.take i ++ (l[i] :: l.drop (i + 1))) := by rw [← e]
  have hl : (runs m (l.take i)).2.length = i := by rw [runs_len, List.length_take]; omega
  rw [e2, runs_append]
  dsimp only
  rw [List.getElem?_append_right (by omega), hl, Nat.sub_self]
  rfl
set_option maxRecDepth 100000 in
set_option maxHeartbeats 2000000 in
theorem LParts_fn (m : Md) (l : List Ak) (t : Int) : FnOK Tryz.prog 7 [m.dc, .one (aks l), .one (i64 t)] (.c (.one (bol true))) := by
  have HA := Lalive_fn
  have H0 := Lfit_fn m
  have ol : (l.map Ak.c).length = l.length := List.length_map ..
  by_cases hc : (!great m.l && decide (mchk m = 0)) = true ∧ l.length ≤ 20 ∧ 0 ≤ t ∧ t ≤ l.length
  · obtain ⟨c1, c2, c3, c4⟩ := hc
    rw [c1] at H0
    have hm : mchk m = 0 := by simp at c1; exact c1.2
    obtain ⟨k, rfl⟩ : ∃ k : Nat, t = k := ⟨t.toNat, by omega⟩
    have B1 := oRun_fn m l
    have B2 := oRun_fn m (l.take k)
    have B3 := oRun_fn (runs m (l.take k)).1 (l.drop k)
    have hm2 := runs_ok (l.take k) hm
    have ra := runs_append m (l.take k) (l.drop k)
    rw [List.take_append_drop] at ra
    unfold runV at B1 B2 B3
    rw [if_pos hm, if_neg (by omega)] at B1
    rw [if_pos hm, if_neg (by rw [List.length_take]; omega)] at B2
    rw [if_pos hm2, if_neg (by rw [List.length_drop]; omega)] at B3
    have B2' : FnOK Tryz.prog 28 [m.dc, .one (.list 7 (((l.map Ak.c).take ((k : Nat) : Int).toNat).drop (0 : Int).toNat))] (retR ((runs m (l.take k)).1, (runs m (l.take k)).2, 0)) := by
      rw [Int.toNat_natCast, Int.toNat_zero, List.drop_zero, ← List.map_take]
      exact B2
    have B3' : FnOK Tryz.prog 28 [(runs m (l.take k)).1.dc, .one (.list 7 (((l.map Ak.c).take (((l.map Ak.c).length : Nat) : Int).toNat).drop ((k : Nat) : Int).toNat))] (retR ((runs (runs m (l.take k)).1 (l.drop k)).1, (runs (runs m (l.take k)).1 (l.drop k)).2, 0)) := by
      rw [Int.toNat_natCast, Int.toNat_natCast, List.take_of_length_le (Nat.le_refl _), ← List.map_drop]
      exact B3
    clear B2 B3
    have n1 := runs_len m l
    have n2 := runs_len m (l.take k)
    have n3 := runs_len (runs m (l.take k)).1 (l.drop k)
    rw [List.length_take] at n2
    rw [List.length_drop] at n3
    have hg := fun i (h : i < l.length) => runs_get (m := m) h
    have hok := fun i => runs_ok (l.take i) hm
    have hsc := fun i (h : i < l.length) => runs_succ (m := m) h
    have hall : (runs m (l.take l.length)) = runs m l := by rw [List.take_of_length_le (Nat.le_refl _)]
    have h0 : runs m (l.take 0) = (m, []) := rfl
    generalize hq : runs (runs m (l.take k)).1 (l.drop k) = q at *
    generalize hp : runs m (l.take k) = p at *
    obtain ⟨q1, q2⟩ := q
    obtain ⟨p1, p2⟩ := p
    dsimp only at ra B2' B3' n2 n3
    rw [ra] at B1 n1 hg hall
    have S1 := roSameModel_fn q1 q1
    have S2 := roSameAll_fn (p2 ++ q2) (p2 ++ q2)
    have S3 : FnOK Tryz.prog 29 [.one (rps (p2 ++ q2)), .one (.list 6 (([] ++ p2.map Rp.c) ++ q2.map Rp.c))] (.c (.one (bol true))) := by
      simp only [decide_true] at S2
      rw [List.nil_append, ← List.map_append]
      exact S2
    have o1 : (p2.map Rp.c).length = p2.length := List.length_map ..
    have o2 : (q2.map Rp.c).length = q2.length := List.length_map ..
    have o3 : ((p2 ++ q2).map Rp.c).length = (p2 ++ q2).length := List.length_map ..
    clear S2 hq hp ra
    simp only [decide_true, retR] at S1 B1 B2' B3'
    dsimp only at hg n1
    have hn4 := n1
    rw [List.length_append] at hn4
    refine fn_ok (by kernel_rfl) (ty_okK [91] [] [] []) Tryz.func7 rfl (fun _ _ => Tryz.call7 _ _) rfl ?_
    intro hw
    clear hw
    repeat' ((conv => whnf); first | (with_reducible first | refine br_t ?_ | refine br_f ?_ | refine za ?_ | refine zg ?_ | refine zo ?_ | refine zb ?_ | refine zm ?_ | refine zc ?_ | refine ze ?_) | (rw [ol]; omega) | (rw [o3]; omega) | (rw [List.nil_append, o1]; omega) | (rw [List.nil_append, List.length_append, o1, o2]; omega) | ((with_reducible refine bc_t ?_ ?_); (first | omega | decide)) | ((with_reducible refine bc_f ?_ ?_); (first | omega | decide)) | (with_reducible first | refine bc (fun h => ?_) (fun h => ?_) | refine zt ?_ | refine zf ?_ | refine br_i (fun h => ?_) (fun h => ?_)) | refine zg ?_ | refine zi ?_)
    refine loop_J (by kernel_rfl) (ty_okK [91] [] [] []) (σ := Nat × Md × List Rp) (fun s => [(16, sV (.int .i64 s.1))]) (fun s => [(3, .own [.d (i64 s.2.1.n), .d (i64 s.2.1.d), .d (pts s.2.1.l)])]) (fun s => s.1 ≤ l.length ∧ runs m (l.take s.1) = s.2) (fun s => l.length - s.1) (0, m, []) ⟨by omega, h0⟩ ?_ ?_
    · (conv => whnf); exact zent
    rintro ⟨i, u, o⟩ ⟨hi, hI⟩
    dsimp only at hi hI
    have hu := hok i
    have hgi := hg i
    have hsi := hsc i
    rw [hI] at hu hgi hsi
    dsimp only at hu hgi hsi
    clear hg hok hsc
    rcases Nat.lt_or_ge i l.length with hlt | hge
    · have hel := aks_get hlt
      have hgi := hgi hlt
      have hsi1 := hsi hlt
      have D1 := oDo_fn u l[i]
      unfold doV at D1
      rw [if_pos hu] at D1
      have hv := askV_ok hu l[i]
      have he := askV_err hu l[i]
      generalize l[i] = a at *
      generalize askV u a = x at *
      obtain ⟨y, r⟩ := x
      dsimp only at hv he hgi hsi1
      have D2 := roCheck_fn y
      rw [hv] at D2
      have D3 := roSame_fn r r
      have hel2 : ((p2 ++ q2).map Rp.c)[((i : Nat) : Int).toNat]? = some [i64 r.e, i64 r.i, i64 r.j, i64 r.n, i64 r.d, mts r.ms] := by
        rw [Int.toNat_natCast, List.getElem?_map, hgi]; rfl
      simp only [decide_true, retD] at D1 D3
      by_cases h2 : r.e = 0
      · clear he
        repeat' ((conv => whnf); first | (with_reducible first | refine br_t ?_ | refine br_f ?_ | refine za ?_ | refine zg ?_ | refine zo ?_ | refine zb ?_ | refine zm ?_ | refine zc ?_ | refine ze ?_) | (rw [ol]; omega) | (rw [o3]; omega) | ((with_reducible refine bc_t ?_ ?_); (first | omega | decide)) | ((with_reducible refine bc_f ?_ ?_); (first | omega | decide)) | (with_reducible first | refine bc (fun h => ?_) (fun h => ?_) | refine zt ?_ | refine zf ?_ | refine br_i (fun h => ?_) (fun h => ?_)) | refine zg ?_ | refine zi ?_)
        all_goals conv => whnf
        refine ⟨(i + 1, y, o ++ [r]), ⟨by show _ ≤ _; omega, hsi1⟩, ?_, by show _ < _; omega⟩
        (conv => whnf); refine ⟨by repeat' (first | with_reducible exact zE0 | with_reducible refine zE1 ?_ ?_ | rfl | assumption | (rfl) | (refine ent_i ?_; (first | omega | (rw [IntWalk.i64_in _ (by omega)]; omega) | (simp; done))) | (refine ent_b ?_; (first | omega | (rw [IntWalk.i64_in _ (by omega)]; omega) | (simp; done)))), by repeat' (first | with_reducible exact zH0 | with_reducible refine zH1 ?_ ?_ | rfl | assumption | (rfl)), rfl⟩
      · obtain ⟨rfl, hr⟩ := he h2
        have D4 := roSameModel_fn y y
        have D5 := roSame_fn r (rpE r.e)
        rw [decide_eq_true hr] at D5
        simp only [decide_true, rpE, Rp.dc, mts, List.map_nil] at D4 D5
        clear hr
        repeat' ((conv => whnf); first | (with_reducible first | refine br_t ?_ | refine br_f ?_ | refine za ?_ | refine zg ?_ | refine zo ?_ | refine zb ?_ | refine zm ?_ | refine zc ?_ | refine ze ?_) | (rw [ol]; omega) | (rw [o3]; omega) | ((with_reducible refine bc_t ?_ ?_); (first | omega | decide)) | ((with_reducible refine bc_f ?_ ?_); (first | omega | decide)) | (with_reducible first | refine bc (fun h => ?_) (fun h => ?_) | refine zt ?_ | refine zf ?_ | refine br_i (fun h => ?_) (fun h => ?_)) | refine zg ?_ | refine zi ?_)
        all_goals conv => whnf
        refine ⟨(i + 1, y, o ++ [r]), ⟨by show _ ≤ _; omega, hsi1⟩, ?_, by show _ < _; omega⟩
        (conv => whnf); refine ⟨by repeat' (first | with_reducible exact zE0 | with_reducible refine zE1 ?_ ?_ | rfl | assumption | (rfl) | (refine ent_i ?_; (first | omega | (rw [IntWalk.i64_in _ (by omega)]; omega) | (simp; done))) | (refine ent_b ?_; (first | omega | (rw [IntWalk.i64_in _ (by omega)]; omega) | (simp; done)))), by repeat' (first | with_reducible exact zH0 | with_reducible refine zH1 ?_ ?_ | rfl | assumption | (rfl)), rfl⟩
    · obtain rfl : i = l.length := by omega
      rw [hall] at hI
      injection hI with hI1 hI2
      subst hI1
      repeat' ((conv => whnf); first | (with_reducible first | refine br_t ?_ | refine br_f ?_ | refine za ?_ | refine zg ?_ | refine zo ?_ | refine zb ?_ | refine zm ?_ | refine zc ?_ | refine ze ?_) | (rw [ol]; omega) | ((with_reducible refine bc_t ?_ ?_); (first | omega | decide)) | ((with_reducible refine bc_f ?_ ?_); (first | omega | decide)) | (with_reducible first | refine bc (fun h => ?_) (fun h => ?_) | refine zt ?_ | refine zf ?_ | refine br_i (fun h => ?_) (fun h => ?_)) | refine zg ?_ | refine zi ?_)
      all_goals conv => whnf
      all_goals rfl
  · generalize (!great m.l && decide (mchk m = 0)) = b at *
    cases b
    · refine fn_ok (by kernel_rfl) ty_ok Tryz.func7 rfl (fun _ _ => Tryz.call7 _ _) rfl ?_
      intro hw
      clear hw
      exact zw
    · simp only [true_and] at hc
      refine fn_ok (by kernel_rfl) ty_ok Tryz.func7 rfl (fun _ _ => Tryz.call7 _ _) rfl ?_
      intro hw
      simp only [WDCs, WDC, WDs] at hw
      have w1 := wd_aks hw.2.1
      clear hw
      repeat' ((conv => whnf); first | (with_reducible first | refine br_t ?_ | refine br_f ?_ | refine za ?_ | refine zg ?_ | refine zo ?_ | refine zb ?_ | refine zm ?_ | refine zc ?_ | refine ze ?_) | rw [ol] | ((with_reducible refine bc_t ?_ ?_); (first | omega | decide)) | ((with_reducible refine bc_f ?_ ?_); (first | omega | decide)) | (with_reducible first | refine bc (fun h => ?_) (fun h => ?_) | refine zt ?_ | refine zf ?_ | refine br_i (fun h => ?_) (fun h => ?_)) | refine zg ?_ | refine zi ?_)
      all_goals conv => whnf
      all_goals rfl
end Go.Proofs.YtnhljlihchegjaaGreat

/- OracleParts answers true for every model, asks and index, and leaves its arguments as they are. No condition. -/
namespace Go.Proofs.YtnhljlihchegjaaGreat
open Go.RowKit Go.ChangeShapes Go.WideShapes Go.ChangeAt Sx
theorem oracleParts_own : ownKnob Tryz.prog.godebug = none := by kernel_rfl
set_option maxRecDepth 100000 in
theorem oracleParts_lifted (os : Os) (started : os.Started) (H : Type) (enc : TypeId × Value → H) :
    ReturnsInHanded {} Tryz.checked os 7 .any (Rows.oraclePartsSpec.pre6 enc Tryz.prog Tryz.f7 Rows.oraclePartsRow.domain false) (Rows.oraclePartsSpec.post enc Tryz.prog Tryz.f7 false true false false) := by
  refine returnsInHanded_of_change (C := Tryz.checked) oracleParts_own started (by kernel_rfl) Tryz.func7
    (ChangeSpec.witness6 (enc := enc) (C := Tryz.checked) false ⟨#[], #[.agg #[.int .i64 0, .int .i64 0, .slice none 0 0], .slice none 0 0, .int .i64 0], []⟩ 12 (by kernel_rfl) (by kernel_rfl) (by kernel_rfl) (by kernel_rfl)) ?_
  intro W base args ds gs before hval0 hW hcnd _
  have hval : ∀ (j : Nat) t v, Tryz.f7.params[j]? = some t → args[j]? = some v → Value.okWide Tryz.prog W .any base t v := hval0
  have hW' := hW
  obtain ⟨p, q, hA0, hV, rfl, hfz, hnd⟩ := hW
  have hA : DataW.TrodAll enc Tryz.prog W 0 (fun _ => true) true Tryz.f7.params.toList args.toList ds p := hA0
  rw [Tryz.params7] at hA hval
  obtain ⟨v0, vs0, d0, ds0, p0, q0, hargs, rfl, rfl, h0, r0⟩ := trodAll_cons hA
  obtain ⟨v1, vs1, d1, ds1, p1, q1, rfl, rfl, rfl, h1, r1⟩ := trodAll_cons r0
  obtain ⟨v2, vs2, d2, ds2, p2, q2, rfl, rfl, rfl, h2, r2⟩ := trodAll_cons r1
  obtain ⟨rfl, rfl, rfl⟩ := trodAll_nil r2
  obtain rfl : args = #[v0, v1, v2] := by cases args; simp_all
  obtain ⟨e0, hd0, hf0⟩ := arg_data (tyB_ok (s := shModel) (by kernel_rfl)) (hval 0 28 v0 rfl rfl) h0
  obtain ⟨x0, rfl⟩ := fit_model hf0
  obtain ⟨e1, hd1, hf1⟩ := arg_data (tyB_ok (s := shAsks) (by kernel_rfl)) (hval 1 52 v1 rfl rfl) h1
  obtain ⟨x1, rfl⟩ := fit_asks hf1
  obtain ⟨e2, hd2, hf2⟩ := arg_data (tyB_ok (s := shInt) (by kernel_rfl)) (hval 2 3 v2 rfl rfl) h2
  obtain ⟨x2, rfl⟩ := fit_int hf2
  refine (law_of_fn (vs := [v0, v1, v2]) (fun _ _ => Tryz.call7 _ _) (LParts_fn x0 x1 x2) ⟨hd0, hd1, hd2, trivial⟩).mono fun e W' ⟨he, hb⟩ => ?_
  subst he
  exact ⟨_, rfl, law_post (by kernel_rfl) (by kernel_rfl) rfl Tryz.underlying4 rfl hW' ⟨rfl, rfl, rfl⟩ hb⟩
theorem oracleParts_over : Rows.oraclePartsRow.holds Tryz.pinned (OpenSpec.ofChange Rows.oraclePartsSpec) :=
  OpenClaim.holds_of_wide 7 Tryz.f7 rfl rfl rfl rfl rfl rfl rfl ⟨rfl, rfl, rfl, rfl, rfl⟩ rfl rfl rfl rfl rfl (by kernel_rfl) Tryz.func7 (by kernel_rfl)
    (of_decide_eq_true (by kernel_rfl)) (by unfold Func.isWrapper; rw [if_neg (of_decide_eq_false (by kernel_rfl))]; exact ⟨rfl, rfl⟩)
    (fun os started H enc _ => oracleParts_lifted os started H enc)
/-- the statement -/
theorem oracleParts_proved : Rows.OraclePartsSaid := oracleParts_over
#print axioms oracleParts_proved
end Go.Proofs.YtnhljlihchegjaaGreat
