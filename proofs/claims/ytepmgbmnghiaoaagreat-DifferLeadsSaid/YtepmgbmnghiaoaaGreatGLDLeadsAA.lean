import Derived.Test.YtepmgbmnghiaoaaGreatGbBC
import Derived.Test.YtepmgbmnghiaoaaGreatRows
import Derived.Test.YtepmgbmnghiaoaaGreatGbAB
import Derived.Test.YtepmgbmnghiaoaaGreatGbAZ
set_option linter.all false
namespace Go.Proofs.YtepmgbmnghiaoaaGreat
open Go.RowKit Go.Sort Sx
set_option maxRecDepth 100000 in
set_option maxHeartbeats 4000000 in
theorem LDLeads_fn (m n : Md) : FnOK Tryz.prog 9 [m.dc, n.dc] (.c (.one (bol true))) := by
  have HA := DLalive_fn
  have HF := DLfit_fn m n
  by_cases h : bothV m n = 0
  · cases hg : (great m.l || great n.l)
    · rw [hg, decide_eq_true h] at HF
      simp only [Bool.not_false, Bool.and_self] at HF
      obtain ⟨hm, hn⟩ := both_ok h
      have E1 := dAll_fn m n
      have E2 := dSame_fn m n
      have E3 := dAsks_fn m n
      have E4 := roSameModel_fn m n
      have E5 := rcompare_fn n.n n.d m.n m.d
      unfold allV at E1
      unfold sameV at E2
      unfold asksV at E3
      rw [if_pos h] at E1 E2 E3
      have hlen : (allU m n).length ≤ 1000000 := by
        obtain ⟨b1, b2⟩ := both_len h
        unfold allU nowU
        have := mrg_len m.l n.l
        rw [List.length_append, List.length_map]
        split <;> simp <;> omega
      have hn0 : (allU m n).length = 0 ↔ m = n := by rw [List.length_eq_zero_iff, allU_nil]
      have hpl := parts_len m n
      have hcc := cmpN_cases (n.n * m.d) (m.n * n.d)
      by_cases hp : n.n * m.d < m.n * n.d
      · rw [if_pos hp] at E3
        have hc : cmpN (n.n * m.d) (m.n * n.d) = -1 := by omega
        rw [hc] at E5
        clear hcc hp hc hpl
        generalize allU m n = U at *
        have hul : (U.map Uk.c).length = U.length := List.length_map ..
        simp only [retU, retKs, aks, List.map_nil] at E1 E2 E3
        by_cases e : m = n
        · rw [decide_eq_true e] at E2 E4
          have hz := hn0.2 e
          have hbe : (!(true == ((U.length : Int) == 0))) = false := by simp [hz]
          clear hn0 e
          refine fn_ok (by kernel_rfl) ty_ok Tryz.func9 rfl (fun _ _ => Tryz.call9 _ _) rfl ?_
          intro hw
          clear hw
          repeat' ((conv => whnf); first | (with_reducible first | refine br_t ?_ | refine br_f ?_ | refine za ?_ | refine zg ?_) | rw [hul] | rw [hbe] | refine zp ?_ | refine zq ?_ | (with_reducible first | refine bc (fun h => ?_) (fun h => ?_) | refine zt ?_ | refine zf ?_ | refine br_i (fun h => ?_) (fun h => ?_)) | refine zg ?_ | refine zi ?_ | refine zb ?_)
          all_goals conv => whnf
          all_goals first | rfl | exact r_bool (by simp)
        · rw [decide_eq_false e] at E2 E4
          have hz : U.length ≠ 0 := fun h => e (hn0.1 h)
          have hbe : (!(false == ((U.length : Int) == 0))) = false := by
            rw [show ((U.length : Int) == 0) = false from beq_eq_false_iff_ne.2 (by omega)]; rfl
          clear hn0 e
          refine fn_ok (by kernel_rfl) ty_ok Tryz.func9 rfl (fun _ _ => Tryz.call9 _ _) rfl ?_
          intro hw
          clear hw
          repeat' ((conv => whnf); first | (with_reducible first | refine br_t ?_ | refine br_f ?_ | refine za ?_ | refine zg ?_) | rw [hul] | rw [hbe] | refine zp ?_ | refine zq ?_ | (with_reducible first | refine bc (fun h => ?_) (fun h => ?_) | refine zt ?_ | refine zf ?_ | refine br_i (fun h => ?_) (fun h => ?_)) | refine zg ?_ | refine zi ?_ | refine zb ?_)
          all_goals conv => whnf
          all_goals first | rfl | exact r_bool (by simp)
      · rw [if_neg hp] at E3
        have hc : 0 ≤ cmpN (n.n * m.d) (m.n * n.d) := by omega
        generalize cmpN (n.n * m.d) (m.n * n.d) = cc at *
        by_cases hm1 : 120 < (asksL m n).length
        · rw [if_pos hm1] at E3
          rw [hpl] at hm1
          generalize allU m n = U at *
          have hul : (U.map Uk.c).length = U.length := List.length_map ..
          simp only [retU, retKs, aks, List.map_nil] at E1 E2 E3
          have e : ¬ m = n := fun e => by have := hn0.2 e; omega
          have hbe : (!(false == ((U.length : Int) == 0))) = false := by
            rw [show ((U.length : Int) == 0) = false from beq_eq_false_iff_ne.2 (by omega)]; rfl
          rw [decide_eq_false e] at E2 E4
          clear hn0 e hcc
          refine fn_ok (by kernel_rfl) ty_ok Tryz.func9 rfl (fun _ _ => Tryz.call9 _ _) rfl ?_
          intro hw
          clear hw
          repeat' ((conv => whnf); first | (with_reducible first | refine br_t ?_ | refine br_f ?_ | refine za ?_ | refine zg ?_) | rw [hul] | rw [hbe] | refine zp ?_ | refine zq ?_ | (with_reducible first | refine bc (fun h => ?_) (fun h => ?_) | refine zt ?_ | refine zf ?_ | refine br_i (fun h => ?_) (fun h => ?_)) | refine zg ?_ | refine zi ?_ | refine zb ?_)
          all_goals conv => whnf
          all_goals first | rfl | (exact r_bool (by simp; omega)) | exact r_bool (by simp) | exact r_bool (by simp; omega)
        · rw [if_neg hm1] at E3
          obtain ⟨rs, er, ez, el⟩ := leads hm hn hp
          have E6 := oRun_fn m (asksL m n)
          have E7 := roSameModel_fn n n
          rw [decide_eq_true rfl] at E7
          unfold runV at E6
          rw [if_pos hm, if_neg hm1, er] at E6
          generalize asksL m n = L at *
          generalize allU m n = U at *
          have hul : (U.map Uk.c).length = U.length := List.length_map ..
          have hal : (L.map Ak.c).length = L.length := List.length_map ..
          have hrl : (rs.map Rp.c).length = rs.length := List.length_map ..
          simp only [retU, retKs, retR] at E1 E2 E3 E6
          clear hcc er hc hp
          by_cases e : m = n
          · rw [decide_eq_true e] at E2 E4
            have hz := hn0.2 e
            have hbe : (!(true == ((U.length : Int) == 0))) = false := by simp [hz]
            clear hn0
            subst e
            clear E7
            refine fn_ok (by kernel_rfl) ty_ok Tryz.func9 rfl (fun _ _ => Tryz.call9 _ _) rfl ?_
            intro hw
            clear hw
            repeat' ((conv => whnf); first | (with_reducible first | refine br_t ?_ | refine br_f ?_ | refine za ?_ | refine zg ?_) | rw [hul] | rw [hbe] | rw [hal] | rw [hrl] | refine zp ?_ | refine zq ?_ | (with_reducible first | refine bc (fun h => ?_) (fun h => ?_) | refine zt ?_ | refine zf ?_ | refine br_i (fun h => ?_) (fun h => ?_)) | refine zg ?_ | refine zi ?_ | refine zb ?_)
            clear E1 E2 E3 E4 E5 E6 HA HF
            refine loop_J (by kernel_rfl) ty_ok (σ := Nat) (fun i => [(16, sV (.int .i64 i))]) (fun _ => []) (fun i => i ≤ rs.length) (fun i => rs.length - i) 0 (Nat.zero_le _) ?_ ?_
            · (conv => whnf); exact zent
            intro i hi
            rcases Nat.lt_or_ge i rs.length with hlt | hge
            · exfalso; omega
            · repeat' ((conv => whnf); first | (with_reducible first | refine br_t ?_ | refine br_f ?_ | refine za ?_ | refine zg ?_) | rw [hrl] | refine zp ?_ | refine zq ?_ | (with_reducible first | refine bc (fun h => ?_) (fun h => ?_) | refine zt ?_ | refine zf ?_ | refine br_i (fun h => ?_) (fun h => ?_)) | refine zg ?_ | refine zi ?_ | refine zb ?_)
              all_goals conv => whnf
              all_goals first | rfl | exact r_bool (by simp)
          · rw [decide_eq_false e] at E2 E4
            have hz : U.length ≠ 0 := fun h => e (hn0.1 h)
            have hbe : (!(false == ((U.length : Int) == 0))) = false := by
              rw [show ((U.length : Int) == 0) = false from beq_eq_false_iff_ne.2 (by omega)]; rfl
            clear hn0 e
            refine fn_ok (by kernel_rfl) ty_ok Tryz.func9 rfl (fun _ _ => Tryz.call9 _ _) rfl ?_
            intro hw
            clear hw
            repeat' ((conv => whnf); first | (with_reducible first | refine br_t ?_ | refine br_f ?_ | refine za ?_ | refine zg ?_) | rw [hul] | rw [hbe] | rw [hal] | rw [hrl] | refine zp ?_ | refine zq ?_ | (with_reducible first | refine bc (fun h => ?_) (fun h => ?_) | refine zt ?_ | refine zf ?_ | refine br_i (fun h => ?_) (fun h => ?_)) | refine zg ?_ | refine zi ?_ | refine zb ?_)
            clear E1 E2 E3 E4 E5 E6 E7 HA HF
            refine loop_J (by kernel_rfl) ty_ok (σ := Nat) (fun i => [(16, sV (.int .i64 i))]) (fun _ => []) (fun i => i ≤ rs.length) (fun i => rs.length - i) 0 (Nat.zero_le _) ?_ ?_
            · (conv => whnf); exact zent
            intro i hi
            rcases Nat.lt_or_ge i rs.length with hlt | hge
            · have g1 := rps_get hlt
              have g2 := ez _ (List.getElem_mem hlt)
              generalize rs[i] = r at *
              rw [g2] at g1
              repeat' ((conv => whnf); first | (with_reducible first | refine br_t ?_ | refine br_f ?_ | refine za ?_ | refine zg ?_) | rw [hrl] | refine zp ?_ | refine zq ?_ | (with_reducible first | refine bc (fun h => ?_) (fun h => ?_) | refine zt ?_ | refine zf ?_ | refine br_i (fun h => ?_) (fun h => ?_)) | refine zg ?_ | refine zi ?_ | refine zb ?_)
              all_goals conv => whnf
              refine ⟨i + 1, hlt, ?_, by omega⟩
              (conv => whnf); exact zent
            · repeat' ((conv => whnf); first | (with_reducible first | refine br_t ?_ | refine br_f ?_ | refine za ?_ | refine zg ?_) | rw [hrl] | refine zp ?_ | refine zq ?_ | (with_reducible first | refine bc (fun h => ?_) (fun h => ?_) | refine zt ?_ | refine zf ?_ | refine br_i (fun h => ?_) (fun h => ?_)) | refine zg ?_ | refine zi ?_ | refine zb ?_)
              all_goals conv => whnf
              all_goals first | rfl | exact r_bool (by simp)
    · rw [hg] at HF
      simp only [Bool.not_true, Bool.false_and] at HF
      refine fn_ok (by kernel_rfl) ty_ok Tryz.func9 rfl (fun _ _ => Tryz.call9 _ _) rfl ?_
      intro hw
      clear hw
      exact zw
  · rw [decide_eq_false h, Bool.and_false] at HF
    refine fn_ok (by kernel_rfl) ty_ok Tryz.func9 rfl (fun _ _ => Tryz.call9 _ _) rfl ?_
    intro hw
    clear hw
    exact zw
end Go.Proofs.YtepmgbmnghiaoaaGreat

namespace Go.Proofs.YtepmgbmnghiaoaaGreat
open Go.RowKit Go.ChangeShapes Go.WideShapes Go.ChangeAt Sx
theorem differLeads_own : ownKnob Tryz.prog.godebug = none := by kernel_rfl
set_option maxRecDepth 100000 in
theorem differLeads_lifted (os : Os) (started : os.Started) (H : Type) (enc : TypeId × Value → H) :
    ReturnsInHanded {} Tryz.checked os 9 .any (Rows.differLeadsSpec.pre6 enc Tryz.prog Tryz.f9 Rows.differLeadsRow.domain false) (Rows.differLeadsSpec.post enc Tryz.prog Tryz.f9 false true false false) := by
  refine returnsInHanded_of_change (C := Tryz.checked) differLeads_own started (by kernel_rfl) Tryz.func9
    (ChangeSpec.witness6 (enc := enc) (C := Tryz.checked) false ⟨#[], #[.agg #[.int .i64 0, .int .i64 0, .slice none 0 0], .agg #[.int .i64 0, .int .i64 0, .slice none 0 0]], []⟩ 12 (by kernel_rfl) (by kernel_rfl) (by kernel_rfl) (by kernel_rfl)) ?_
  intro W base args ds gs before hval0 hW hcnd _
  have hval : ∀ (j : Nat) t v, Tryz.f9.params[j]? = some t → args[j]? = some v → Value.okWide Tryz.prog W .any base t v := hval0
  have hW' := hW
  obtain ⟨p, q, hA0, hV, rfl, hfz, hnd⟩ := hW
  have hA : DataW.TrodAll enc Tryz.prog W 0 (fun _ => true) true Tryz.f9.params.toList args.toList ds p := hA0
  rw [Tryz.params9] at hA hval
  obtain ⟨v0, vs0, d0, ds0, p0, q0, hargs, rfl, rfl, h0, r0⟩ := trodAll_cons hA
  obtain ⟨v1, vs1, d1, ds1, p1, q1, rfl, rfl, rfl, h1, r1⟩ := trodAll_cons r0
  obtain ⟨rfl, rfl, rfl⟩ := trodAll_nil r1
  obtain rfl : args = #[v0, v1] := by cases args; simp_all
  obtain ⟨e0, hd0, hf0⟩ := arg_data (tyB_ok (s := shModel) (by kernel_rfl)) (hval 0 28 v0 rfl rfl) h0
  obtain ⟨x0, rfl⟩ := fit_model hf0
  obtain ⟨e1, hd1, hf1⟩ := arg_data (tyB_ok (s := shModel) (by kernel_rfl)) (hval 1 28 v1 rfl rfl) h1
  obtain ⟨x1, rfl⟩ := fit_model hf1
  refine (law_of_fn (vs := [v0, v1]) (fun _ _ => Tryz.call9 _ _) (LDLeads_fn x0 x1) ⟨hd0, hd1, trivial⟩).mono fun e W' ⟨he, hb⟩ => ?_
  subst he
  exact ⟨_, rfl, law_post (by kernel_rfl) (by kernel_rfl) rfl Tryz.underlying4 rfl hW' ⟨rfl, rfl, rfl⟩ hb⟩
theorem differLeads_over : Rows.differLeadsRow.holds Tryz.pinned (OpenSpec.ofChange Rows.differLeadsSpec) :=
  OpenClaim.holds_of_wide 9 Tryz.f9 rfl rfl rfl rfl rfl rfl rfl ⟨rfl, rfl, rfl, rfl, rfl⟩ rfl rfl rfl rfl rfl (by kernel_rfl) Tryz.func9 (by kernel_rfl)
    (of_decide_eq_true (by kernel_rfl)) (by unfold Func.isWrapper; rw [if_neg (of_decide_eq_false (by kernel_rfl))]; exact ⟨rfl, rfl⟩)
    (fun os started H enc _ => differLeads_lifted os started H enc)
theorem differLeads_proved : Rows.DifferLeadsSaid := differLeads_over
#print axioms differLeads_proved
end Go.Proofs.YtepmgbmnghiaoaaGreat
