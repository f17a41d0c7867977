import Derived.Test.YtepmgbmnghiaoaaGreatGbBC
import Derived.Test.YtepmgbmnghiaoaaGreatRows
import Derived.Test.YtepmgbmnghiaoaaGreatGbAB
import Derived.Test.YtepmgbmnghiaoaaGreatGbAZ
set_option linter.all false
namespace Go.Proofs.YtepmgbmnghiaoaaGreat
open Go.RowKit Go.Sort Sx
set_option maxRecDepth 100000 in
set_option maxHeartbeats 4000000 in
theorem LDNone_fn (m n : Md) (l : List Ak) : FnOK Tryz.prog 8 [m.dc, n.dc, .one (aks l)] (.c (.one (bol true))) := by
  have HA := DLalive_fn
  have HF := DLfit_fn m n
  have hal : (l.map Ak.c).length = l.length := List.length_map ..
  by_cases h : bothV m n = 0
  · cases hg : (great m.l || great n.l)
    · rw [hg, decide_eq_true h] at HF
      simp only [Bool.not_false, Bool.and_self] at HF
      by_cases hl : 20 < l.length
      · refine fn_ok (by kernel_rfl) ty_ok Tryz.func8 rfl (fun _ _ => Tryz.call8 _ _) rfl ?_
        intro hw
        simp only [WDCs, WDC, WDs] at hw
        have w1 := wd_aks hw.2.2.1
        clear hw
        repeat' ((conv => whnf); first | (with_reducible first | refine br_t ?_ | refine br_f ?_ | refine za ?_ | refine zg ?_) | rw [hal] | refine zp ?_ | refine zq ?_ | (with_reducible first | refine bc (fun h => ?_) (fun h => ?_) | refine zt ?_ | refine zf ?_ | refine br_i (fun h => ?_) (fun h => ?_)) | refine zg ?_ | refine zi ?_ | refine zb ?_)
        all_goals conv => whnf
        all_goals rfl
      · obtain ⟨hm, hn⟩ := both_ok h
        obtain ⟨b1, b2⟩ := both_len h
        have hmm : bothV m m = 0 := by unfold bothV; rw [if_pos hm, hm]
        have HT := roTwin_fn m (by omega)
        have E1 := dReplies_fn m n l
        have E2 := dReplies_fn m m l
        have E3 := oRun_fn m l
        have E4 := oRun_fn n l
        unfold repsV at E1 E2
        unfold runV at E3 E4
        rw [if_pos h, if_neg (by omega)] at E1
        rw [if_pos hmm, if_neg (by omega), wrgI_none rfl] at E2
        rw [if_pos hm, if_neg (by omega)] at E3
        rw [if_pos hn, if_neg (by omega)] at E4
        have e1 := runs_len m l
        have e2 := runs_len n l
        have hX := wrgI_cases m l (runs n l).2 (runs_len n l)
        have hne : m = n → (runs m l).2 = (runs n l).2 := fun e => by rw [e]
        generalize wrgI m l (runs n l).2 = X at *
        generalize (runs m l).1 = y1 at *
        generalize (runs n l).1 = y2 at *
        generalize (runs m l).2 = o at *
        generalize (runs n l).2 = q at *
        have hol : (o.map Rp.c).length = o.length := List.length_map ..
        have hql : (q.map Rp.c).length = q.length := List.length_map ..
        simp only [retR, ret2] at E1 E2 E3 E4
        rcases hX with ⟨rfl, he⟩ | ⟨i, rfl, hi, ⟨h1, h2, hd⟩, ht⟩
        · subst he
          have S := roSameAll_fn o o
          rw [decide_eq_true rfl] at S
          dsimp only at E1
          clear hne e2 hql
          refine fn_ok (by kernel_rfl) ty_ok Tryz.func8 rfl (fun _ _ => Tryz.call8 _ _) rfl ?_
          intro hw
          clear hw
          repeat' ((conv => whnf); first | (with_reducible first | refine br_t ?_ | refine br_f ?_ | refine za ?_ | refine zg ?_) | rw [hal] | rw [hol] | refine zp ?_ | refine zq ?_ | (with_reducible first | refine bc (fun h => ?_) (fun h => ?_) | refine zt ?_ | refine zf ?_ | refine br_i (fun h => ?_) (fun h => ?_)) | refine zg ?_ | refine zi ?_ | refine zb ?_)
          all_goals conv => whnf
          all_goals first | rfl | exact r_bool (by simp)
        · have S1 := roSameModel_fn m n
          have hmn : ¬ m = n := fun e => hd (by
            have := hne e
            subst this; rfl)
          rw [decide_eq_false hmn] at S1
          have g1 := rps_get h1
          have g2 := rps_get h2
          have S2 := roSame_fn o[i] q[i]
          rw [decide_eq_false hd] at S2
          have S3 := roSameAll_fn (o.take i) (q.take i)
          rw [decide_eq_true ht] at S3
          have S3' : FnOK Tryz.prog 42 [.one (.list 6 (((o.map Rp.c).take ((i : Nat) : Int).toNat).drop (0 : Int).toNat)), .one (.list 6 (((q.map Rp.c).take ((i : Nat) : Int).toNat).drop (0 : Int).toNat))] (.c (.one (bol true))) := by
            rw [Int.toNat_natCast, Int.toNat_zero, List.drop_zero, List.drop_zero, ← List.map_take, ← List.map_take]; exact S3
          dsimp only at E1
          clear hne S3 hmn ht
          generalize o[i] = a at *
          generalize q[i] = b at *
          clear hd
          refine fn_ok (by kernel_rfl) ty_ok Tryz.func8 rfl (fun _ _ => Tryz.call8 _ _) rfl ?_
          intro hw
          clear hw
          repeat' ((conv => whnf); first | (with_reducible first | refine br_t ?_ | refine br_f ?_ | refine za ?_ | refine zg ?_) | rw [hal] | rw [hol] | rw [hql] | refine zp ?_ | refine zq ?_ | (with_reducible first | refine bc (fun h => ?_) (fun h => ?_) | refine zt ?_ | refine zf ?_ | refine br_i (fun h => ?_) (fun h => ?_)) | refine zg ?_ | refine zi ?_ | refine zb ?_)
          all_goals conv => whnf
          all_goals first | rfl | exact r_bool (by simp)
    · rw [hg] at HF
      simp only [Bool.not_true, Bool.false_and] at HF
      refine fn_ok (by kernel_rfl) ty_ok Tryz.func8 rfl (fun _ _ => Tryz.call8 _ _) rfl ?_
      intro hw
      clear hw
      exact zw
  · rw [decide_eq_false h, Bool.and_false] at HF
    refine fn_ok (by kernel_rfl) ty_ok Tryz.func8 rfl (fun _ _ => Tryz.call8 _ _) rfl ?_
    intro hw
    clear hw
    exact zw
end Go.Proofs.YtepmgbmnghiaoaaGreat

namespace Go.Proofs.YtepmgbmnghiaoaaGreat
open Go.RowKit Go.ChangeShapes Go.WideShapes Go.ChangeAt Sx
theorem differNone_own : ownKnob Tryz.prog.godebug = none := by kernel_rfl
set_option maxRecDepth 100000 in
theorem differNone_lifted (os : Os) (started : os.Started) (H : Type) (enc : TypeId × Value → H) :
    ReturnsInHanded {} Tryz.checked os 8 .any (Rows.differNoneSpec.pre6 enc Tryz.prog Tryz.f8 Rows.differNoneRow.domain false) (Rows.differNoneSpec.post enc Tryz.prog Tryz.f8 false true false false) := by
  refine returnsInHanded_of_change (C := Tryz.checked) differNone_own started (by kernel_rfl) Tryz.func8
    (ChangeSpec.witness6 (enc := enc) (C := Tryz.checked) false ⟨#[], #[.agg #[.int .i64 0, .int .i64 0, .slice none 0 0], .agg #[.int .i64 0, .int .i64 0, .slice none 0 0], .slice none 0 0], []⟩ 12 (by kernel_rfl) (by kernel_rfl) (by kernel_rfl) (by kernel_rfl)) ?_
  intro W base args ds gs before hval0 hW hcnd _
  have hval : ∀ (j : Nat) t v, Tryz.f8.params[j]? = some t → args[j]? = some v → Value.okWide Tryz.prog W .any base t v := hval0
  have hW' := hW
  obtain ⟨p, q, hA0, hV, rfl, hfz, hnd⟩ := hW
  have hA : DataW.TrodAll enc Tryz.prog W 0 (fun _ => true) true Tryz.f8.params.toList args.toList ds p := hA0
  rw [Tryz.params8] at hA hval
  obtain ⟨v0, vs0, d0, ds0, p0, q0, hargs, rfl, rfl, h0, r0⟩ := trodAll_cons hA
  obtain ⟨v1, vs1, d1, ds1, p1, q1, rfl, rfl, rfl, h1, r1⟩ := trodAll_cons r0
  obtain ⟨v2, vs2, d2, ds2, p2, q2, rfl, rfl, rfl, h2, r2⟩ := trodAll_cons r1
  obtain ⟨rfl, rfl, rfl⟩ := trodAll_nil r2
  obtain rfl : args = #[v0, v1, v2] := by cases args; simp_all
  obtain ⟨e0, hd0, hf0⟩ := arg_data (tyB_ok (s := shModel) (by kernel_rfl)) (hval 0 28 v0 rfl rfl) h0
  obtain ⟨x0, rfl⟩ := fit_model hf0
  obtain ⟨e1, hd1, hf1⟩ := arg_data (tyB_ok (s := shModel) (by kernel_rfl)) (hval 1 28 v1 rfl rfl) h1
  obtain ⟨x1, rfl⟩ := fit_model hf1
  obtain ⟨e2, hd2, hf2⟩ := arg_data (tyB_ok (s := shAsks) (by kernel_rfl)) (hval 2 33 v2 rfl rfl) h2
  obtain ⟨x2, rfl⟩ := fit_asks hf2
  refine (law_of_fn (vs := [v0, v1, v2]) (fun _ _ => Tryz.call8 _ _) (LDNone_fn x0 x1 x2) ⟨hd0, hd1, hd2, trivial⟩).mono fun e W' ⟨he, hb⟩ => ?_
  subst he
  exact ⟨_, rfl, law_post (by kernel_rfl) (by kernel_rfl) rfl Tryz.underlying4 rfl hW' ⟨rfl, rfl, rfl⟩ hb⟩
theorem differNone_over : Rows.differNoneRow.holds Tryz.pinned (OpenSpec.ofChange Rows.differNoneSpec) :=
  OpenClaim.holds_of_wide 8 Tryz.f8 rfl rfl rfl rfl rfl rfl rfl ⟨rfl, rfl, rfl, rfl, rfl⟩ rfl rfl rfl rfl rfl (by kernel_rfl) Tryz.func8 (by kernel_rfl)
    (of_decide_eq_true (by kernel_rfl)) (by unfold Func.isWrapper; rw [if_neg (of_decide_eq_false (by kernel_rfl))]; exact ⟨rfl, rfl⟩)
    (fun os started H enc _ => differNone_lifted os started H enc)
theorem differNone_proved : Rows.DifferNoneSaid := differNone_over
#print axioms differNone_proved
end Go.Proofs.YtepmgbmnghiaoaaGreat
