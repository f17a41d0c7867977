import Derived.Test.YtnhljlihchegjaaGreatGbBB
import Derived.Test.YtnhljlihchegjaaGreatGbAZ
import Derived.Test.YtnhljlihchegjaaGreatRows
import Derived.Test.YtnhljlihchegjaaGreatGbAB
import Derived.Test.YtnhljlihchegjaaGreatGbAY
set_option linter.all false
/- The law OracleRuns answers true. No condition. -/
namespace Go.Proofs.YtnhljlihchegjaaGreat
open Go.RowKit Go.Sort Sx
set_option maxRecDepth 100000 in
set_option maxHeartbeats 2000000 in
theorem LRuns_fn (m : Md) (l : List Ak) (a b : Rp) : FnOK Tryz.prog 9 [m.dc, .one (aks l), a.dc, b.dc] (.c (.one (bol true))) := by
  have H0 := rfGreat_fn m.l
  have hol : (l.map Ak.c).length = l.length := List.length_map ..
  have hoa : (a.ms.map Mt.c).length = a.ms.length := List.length_map ..
  have hob : (b.ms.map Mt.c).length = b.ms.length := List.length_map ..
  cases hg : great m.l
  · rw [hg] at H0
    have hl : m.l.length ≤ 1000000 := by
      unfold great at hg; simp at hg; omega
    have HT := roTwin_fn m hl
    have H1 := oRun_fn m l
    have H2 := roRun_fn m l
    have H3 := oSame_fn a b
    have H4 := roSame_fn a b
    have H5 := oSame_fn a a
    have S1 := roSameModel_fn (runV m l).1 (runV m l).1
    have S2 := roSameAll_fn (runV m l).2.1 (runV m l).2.1
    have S4 := roSameModel_fn m m
    simp only [decide_true] at S1 S2 S4 H5
    generalize runV m l = x at *
    generalize decide (a = b) = y at *
    obtain ⟨x1, x2, x3⟩ := x
    simp only [retR] at *
    have H1' : FnOK Tryz.prog 28 [m.dc, .one (.list 7 ([] ++ l.map Ak.c))] (.tup [x1.dc, .one (rps x2), .one (i64 x3)]) := H1
    by_cases c1 : 20 < l.length ∧ l.length ≤ 120 ∨ 130 < l.length ∨ 100 < a.ms.length ∨ 100 < b.ms.length
    · refine fn_ok (by kernel_rfl) ty_ok Tryz.func9 rfl (fun _ _ => Tryz.call9 _ _) rfl ?_
      intro hw
      simp only [WDCs, WDC, WDs] at hw
      have w1 := wd_aks hw.2.1
      clear hw
      repeat' ((conv => whnf); first | (with_reducible first | refine br_t ?_ | refine br_f ?_ | refine za ?_ | refine zg ?_ | refine zo ?_ | refine zb ?_ | refine zm ?_ | refine zc ?_ | refine ze ?_) | rw [hol] | rw [hoa] | rw [hob] | ((with_reducible refine bc_t ?_ ?_); (first | omega | decide)) | ((with_reducible refine bc_f ?_ ?_); (first | omega | decide)) | (with_reducible first | refine bc (fun h => ?_) (fun h => ?_) | refine zt ?_ | refine zf ?_ | refine br_i (fun h => ?_) (fun h => ?_) | refine xi (pv_bool fun _ => nev32 _ _ _ _ _ _ _ _ _ _ _ _ _ _ _ _ _) ?_) | refine zg ?_ | refine zi ?_)
      all_goals conv => whnf
      all_goals rfl
    · rcases Nat.lt_or_ge 20 l.length with c2 | c2
      · refine fn_ok (by kernel_rfl) ty_ok Tryz.func9 rfl (fun _ _ => Tryz.call9 _ _) rfl ?_
        intro hw
        clear hw
        repeat' ((conv => whnf); first | (with_reducible first | refine br_t ?_ | refine br_f ?_ | refine za ?_ | refine zg ?_ | refine zo ?_ | refine zb ?_ | refine zm ?_ | refine zc ?_ | refine ze ?_) | rw [hol] | rw [hoa] | rw [hob] | ((with_reducible refine bc_t ?_ ?_); (first | omega | decide)) | ((with_reducible refine bc_f ?_ ?_); (first | omega | decide)) | (with_reducible first | refine bc (fun h => ?_) (fun h => ?_) | refine zt ?_ | refine zf ?_ | refine br_i (fun h => ?_) (fun h => ?_) | refine xi (pv_bool fun _ => nev32 _ _ _ _ _ _ _ _ _ _ _ _ _ _ _ _ _) ?_) | refine zg ?_ | refine zi ?_)
        refine loop_J (by kernel_rfl) ty_ok (σ := Nat) (fun i => [(17, sV (.int .i64 i))]) (fun _ => []) (fun i => i ≤ l.length) (fun i => l.length - i) 0 (Nat.zero_le _) ?_ ?_
        · (conv => whnf); refine ⟨by repeat' (first | with_reducible exact zE0 | with_reducible refine zE1 ?_ ?_ | rfl | assumption | (rfl) | (refine ent_i ?_; (first | omega | (rw [IntWalk.i64_in _ (by omega)]; omega) | (simp; done))) | (refine ent_b ?_; (first | omega | (rw [IntWalk.i64_in _ (by omega)]; omega) | (simp; done)))), by repeat' (first | with_reducible exact zH0 | with_reducible refine zH1 ?_ ?_ | rfl | assumption | (rfl)), rfl⟩
        intro i hi
        rcases Nat.lt_or_ge i l.length with hlt | hge
        · have hel := aks_get hlt
          have hel' : ([] ++ l.map Ak.c)[((i : Nat) : Int).toNat]? = _ := hel
          generalize l[i] = u at *
          repeat' ((conv => whnf); first | (with_reducible first | refine br_t ?_ | refine br_f ?_ | refine za ?_ | refine zg ?_ | refine zo ?_ | refine zb ?_ | refine zm ?_ | refine zc ?_ | refine ze ?_) | rw [hol] | rw [List.nil_append, hol] | ((with_reducible refine bc_t ?_ ?_); (first | omega | decide)) | ((with_reducible refine bc_f ?_ ?_); (first | omega | decide)) | (with_reducible first | refine bc (fun h => ?_) (fun h => ?_) | refine zt ?_ | refine zf ?_ | refine br_i (fun h => ?_) (fun h => ?_) | refine xi (pv_bool fun _ => nev32 _ _ _ _ _ _ _ _ _ _ _ _ _ _ _ _ _) ?_) | refine zg ?_ | refine zi ?_)
          all_goals conv => whnf
          refine ⟨i + 1, hlt, ?_, by omega⟩
          (conv => whnf); refine ⟨by repeat' (first | with_reducible exact zE0 | with_reducible refine zE1 ?_ ?_ | rfl | assumption | (rfl) | (refine ent_i ?_; (first | omega | (rw [IntWalk.i64_in _ (by omega)]; omega) | (simp; done))) | (refine ent_b ?_; (first | omega | (rw [IntWalk.i64_in _ (by omega)]; omega) | (simp; done)))), by repeat' (first | with_reducible exact zH0 | with_reducible refine zH1 ?_ ?_ | rfl | assumption | (rfl)), rfl⟩
        · have hy : ¬ ((y == y) = false) := by simp
          repeat' ((conv => whnf); first | (with_reducible first | refine br_t ?_ | refine br_f ?_ | refine za ?_ | refine zg ?_ | refine zo ?_ | refine zb ?_ | refine zm ?_ | refine zc ?_ | refine ze ?_) | rw [hol] | ((with_reducible refine bc_t ?_ ?_); (first | omega | decide)) | ((with_reducible refine bc_f ?_ ?_); (first | omega | decide)) | (with_reducible first | refine bc (fun h => ?_) (fun h => ?_) | refine zt ?_ | refine zf ?_ | refine br_i (fun h => ?_) (fun h => ?_) | refine xi (pv_bool fun _ => nev32 _ _ _ _ _ _ _ _ _ _ _ _ _ _ _ _ _) ?_) | refine zg ?_ | refine zi ?_)
          all_goals first | contradiction | skip
          all_goals conv => whnf
          all_goals first | rfl | exact r_bool (by simp)
      · refine fn_ok (by kernel_rfl) ty_ok Tryz.func9 rfl (fun _ _ => Tryz.call9 _ _) rfl ?_
        intro hw
        clear hw
        repeat' ((conv => whnf); first | (with_reducible first | refine br_t ?_ | refine br_f ?_ | refine za ?_ | refine zg ?_ | refine zo ?_ | refine zb ?_ | refine zm ?_ | refine zc ?_ | refine ze ?_) | rw [hol] | rw [hoa] | rw [hob] | ((with_reducible refine bc_t ?_ ?_); (first | omega | decide)) | ((with_reducible refine bc_f ?_ ?_); (first | omega | decide)) | (with_reducible first | refine bc (fun h => ?_) (fun h => ?_) | refine zt ?_ | refine zf ?_ | refine br_i (fun h => ?_) (fun h => ?_) | refine xi (pv_bool fun _ => nev32 _ _ _ _ _ _ _ _ _ _ _ _ _ _ _ _ _) ?_) | refine zg ?_ | refine zi ?_)
        refine loop_J (by kernel_rfl) ty_ok (σ := Nat) (fun i => [(17, sV (.int .i64 i))]) (fun _ => []) (fun i => i ≤ l.length) (fun i => l.length - i) 0 (Nat.zero_le _) ?_ ?_
        · (conv => whnf); refine ⟨by repeat' (first | with_reducible exact zE0 | with_reducible refine zE1 ?_ ?_ | rfl | assumption | (rfl) | (refine ent_i ?_; (first | omega | (rw [IntWalk.i64_in _ (by omega)]; omega) | (simp; done))) | (refine ent_b ?_; (first | omega | (rw [IntWalk.i64_in _ (by omega)]; omega) | (simp; done)))), by repeat' (first | with_reducible exact zH0 | with_reducible refine zH1 ?_ ?_ | rfl | assumption | (rfl)), rfl⟩
        intro i hi
        rcases Nat.lt_or_ge i l.length with hlt | hge
        · have hel := aks_get hlt
          have hel' : ([] ++ l.map Ak.c)[((i : Nat) : Int).toNat]? = _ := hel
          generalize l[i] = u at *
          repeat' ((conv => whnf); first | (with_reducible first | refine br_t ?_ | refine br_f ?_ | refine za ?_ | refine zg ?_ | refine zo ?_ | refine zb ?_ | refine zm ?_ | refine zc ?_ | refine ze ?_) | rw [hol] | rw [List.nil_append, hol] | ((with_reducible refine bc_t ?_ ?_); (first | omega | decide)) | ((with_reducible refine bc_f ?_ ?_); (first | omega | decide)) | (with_reducible first | refine bc (fun h => ?_) (fun h => ?_) | refine zt ?_ | refine zf ?_ | refine br_i (fun h => ?_) (fun h => ?_) | refine xi (pv_bool fun _ => nev32 _ _ _ _ _ _ _ _ _ _ _ _ _ _ _ _ _) ?_) | refine zg ?_ | refine zi ?_)
          all_goals conv => whnf
          refine ⟨i + 1, hlt, ?_, by omega⟩
          (conv => whnf); refine ⟨by repeat' (first | with_reducible exact zE0 | with_reducible refine zE1 ?_ ?_ | rfl | assumption | (rfl) | (refine ent_i ?_; (first | omega | (rw [IntWalk.i64_in _ (by omega)]; omega) | (simp; done))) | (refine ent_b ?_; (first | omega | (rw [IntWalk.i64_in _ (by omega)]; omega) | (simp; done)))), by repeat' (first | with_reducible exact zH0 | with_reducible refine zH1 ?_ ?_ | rfl | assumption | (rfl)), rfl⟩
        · have hy : ¬ ((y == y) = false) := by simp
          repeat' ((conv => whnf); first | (with_reducible first | refine br_t ?_ | refine br_f ?_ | refine za ?_ | refine zg ?_ | refine zo ?_ | refine zb ?_ | refine zm ?_ | refine zc ?_ | refine ze ?_) | rw [hol] | ((with_reducible refine bc_t ?_ ?_); (first | omega | decide)) | ((with_reducible refine bc_f ?_ ?_); (first | omega | decide)) | (with_reducible first | refine bc (fun h => ?_) (fun h => ?_) | refine zt ?_ | refine zf ?_ | refine br_i (fun h => ?_) (fun h => ?_) | refine xi (pv_bool fun _ => nev32 _ _ _ _ _ _ _ _ _ _ _ _ _ _ _ _ _) ?_) | refine zg ?_ | refine zi ?_)
          all_goals first | contradiction | skip
          all_goals conv => whnf
          all_goals first | rfl | exact r_bool (by simp)
  · rw [hg] at H0
    refine fn_ok (by kernel_rfl) ty_ok Tryz.func9 rfl (fun _ _ => Tryz.call9 _ _) rfl ?_
    intro hw
    clear hw
    repeat' ((conv => whnf); first | (with_reducible first | refine br_t ?_ | refine br_f ?_ | refine za ?_ | refine zg ?_ | refine zo ?_ | refine zb ?_ | refine zm ?_ | refine zc ?_ | refine ze ?_) | ((with_reducible refine bc_t ?_ ?_); (first | omega | decide)) | ((with_reducible refine bc_f ?_ ?_); (first | omega | decide)) | (with_reducible first | refine bc (fun h => ?_) (fun h => ?_) | refine zt ?_ | refine zf ?_ | refine br_i (fun h => ?_) (fun h => ?_) | refine xi (pv_bool fun _ => nev32 _ _ _ _ _ _ _ _ _ _ _ _ _ _ _ _ _) ?_) | refine zg ?_ | refine zi ?_)
    all_goals conv => whnf
    all_goals rfl
end Go.Proofs.YtnhljlihchegjaaGreat

/- OracleRuns answers true for every model, asks and replies, and leaves its arguments as they are. No condition. -/
namespace Go.Proofs.YtnhljlihchegjaaGreat
open Go.RowKit Go.ChangeShapes Go.WideShapes Go.ChangeAt Sx
theorem oracleRuns_own : ownKnob Tryz.prog.godebug = none := by kernel_rfl
set_option maxRecDepth 100000 in
theorem oracleRuns_lifted (os : Os) (started : os.Started) (H : Type) (enc : TypeId × Value → H) :
    ReturnsInHanded {} Tryz.checked os 9 .any (Rows.oracleRunsSpec.pre6 enc Tryz.prog Tryz.f9 Rows.oracleRunsRow.domain false) (Rows.oracleRunsSpec.post enc Tryz.prog Tryz.f9 false true false false) := by
  refine returnsInHanded_of_change (C := Tryz.checked) oracleRuns_own started (by kernel_rfl) Tryz.func9
    (ChangeSpec.witness6 (enc := enc) (C := Tryz.checked) false ⟨#[], #[.agg #[.int .i64 0, .int .i64 0, .slice none 0 0], .slice none 0 0, .agg #[.int .i64 0, .int .i64 0, .int .i64 0, .int .i64 0, .int .i64 0, .slice none 0 0], .agg #[.int .i64 0, .int .i64 0, .int .i64 0, .int .i64 0, .int .i64 0, .slice none 0 0]], []⟩ 12 (by kernel_rfl) (by kernel_rfl) (by kernel_rfl) (by kernel_rfl)) ?_
  intro W base args ds gs before hval0 hW hcnd _
  have hval : ∀ (j : Nat) t v, Tryz.f9.params[j]? = some t → args[j]? = some v → Value.okWide Tryz.prog W .any base t v := hval0
  have hW' := hW
  obtain ⟨p, q, hA0, hV, rfl, hfz, hnd⟩ := hW
  have hA : DataW.TrodAll enc Tryz.prog W 0 (fun _ => true) true Tryz.f9.params.toList args.toList ds p := hA0
  rw [Tryz.params9] at hA hval
  obtain ⟨v0, vs0, d0, ds0, p0, q0, hargs, rfl, rfl, h0, r0⟩ := trodAll_cons hA
  obtain ⟨v1, vs1, d1, ds1, p1, q1, rfl, rfl, rfl, h1, r1⟩ := trodAll_cons r0
  obtain ⟨v2, vs2, d2, ds2, p2, q2, rfl, rfl, rfl, h2, r2⟩ := trodAll_cons r1
  obtain ⟨v3, vs3, d3, ds3, p3, q3, rfl, rfl, rfl, h3, r3⟩ := trodAll_cons r2
  obtain ⟨rfl, rfl, rfl⟩ := trodAll_nil r3
  obtain rfl : args = #[v0, v1, v2, v3] := by cases args; simp_all
  obtain ⟨e0, hd0, hf0⟩ := arg_data (tyB_ok (s := shModel) (by kernel_rfl)) (hval 0 28 v0 rfl rfl) h0
  obtain ⟨x0, rfl⟩ := fit_model hf0
  obtain ⟨e1, hd1, hf1⟩ := arg_data (tyB_ok (s := shAsks) (by kernel_rfl)) (hval 1 52 v1 rfl rfl) h1
  obtain ⟨x1, rfl⟩ := fit_asks hf1
  obtain ⟨e2, hd2, hf2⟩ := arg_data (tyB_ok (s := shReply) (by kernel_rfl)) (hval 2 42 v2 rfl rfl) h2
  obtain ⟨x2, rfl⟩ := fit_reply hf2
  obtain ⟨e3, hd3, hf3⟩ := arg_data (tyB_ok (s := shReply) (by kernel_rfl)) (hval 3 42 v3 rfl rfl) h3
  obtain ⟨x3, rfl⟩ := fit_reply hf3
  refine (law_of_fn (vs := [v0, v1, v2, v3]) (fun _ _ => Tryz.call9 _ _) (LRuns_fn x0 x1 x2 x3) ⟨hd0, hd1, hd2, hd3, trivial⟩).mono fun e W' ⟨he, hb⟩ => ?_
  subst he
  exact ⟨_, rfl, law_post (by kernel_rfl) (by kernel_rfl) rfl Tryz.underlying4 rfl hW' ⟨rfl, rfl, rfl⟩ hb⟩
theorem oracleRuns_over : Rows.oracleRunsRow.holds Tryz.pinned (OpenSpec.ofChange Rows.oracleRunsSpec) :=
  OpenClaim.holds_of_wide 9 Tryz.f9 rfl rfl rfl rfl rfl rfl rfl ⟨rfl, rfl, rfl, rfl, rfl⟩ rfl rfl rfl rfl rfl (by kernel_rfl) Tryz.func9 (by kernel_rfl)
    (of_decide_eq_true (by kernel_rfl)) (by unfold Func.isWrapper; rw [if_neg (of_decide_eq_false (by kernel_rfl))]; exact ⟨rfl, rfl⟩)
    (fun os started H enc _ => oracleRuns_lifted os started H enc)
/-- the statement -/
theorem oracleRuns_proved : Rows.OracleRunsSaid := oracleRuns_over
#print axioms oracleRuns_proved
end Go.Proofs.YtnhljlihchegjaaGreat
