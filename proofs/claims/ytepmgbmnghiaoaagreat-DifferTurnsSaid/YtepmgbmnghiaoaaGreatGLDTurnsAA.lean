import Derived.Test.YtepmgbmnghiaoaaGreatGbBC
import Derived.Test.YtepmgbmnghiaoaaGreatRows
import Derived.Test.YtepmgbmnghiaoaaGreatGbAB
import Derived.Test.YtepmgbmnghiaoaaGreatGbAZ
set_option linter.all false
namespace Go.Proofs.YtepmgbmnghiaoaaGreat
open Go.RowKit Go.Sort Sx
theorem allU_turn {m n : Md} : allU n m = (allU m n).map Uk.turn := by
  unfold allU nowU
  rw [List.map_append, mrg_turn, List.map_map]
  have e : (if n.n = m.n ∧ n.d = m.d then [] else [(⟨1, 0⟩ : Uk)]) = List.map Uk.turn (if m.n = n.n ∧ m.d = n.d then [] else [⟨1, 0⟩]) := by
    by_cases c : m.n = n.n ∧ m.d = n.d
    · rw [if_pos c, if_pos ⟨c.1.symm, c.2.symm⟩]; rfl
    · rw [if_neg c, if_neg (fun h => c ⟨h.1.symm, h.2.symm⟩)]; rfl
  rw [e]; rfl
set_option maxRecDepth 100000 in
set_option maxHeartbeats 4000000 in
theorem LDTurns_fn (m n : Md) : FnOK Tryz.prog 12 [m.dc, n.dc] (.c (.one (bol true))) := by
  have HA := DLalive_fn
  have HF := DLfit_fn m n
  by_cases h : bothV m n = 0
  · cases hg : (great m.l || great n.l)
    · rw [hg, decide_eq_true h] at HF
      simp only [Bool.not_false, Bool.and_self] at HF
      have h2 : bothV n m = 0 := by
        obtain ⟨a, b⟩ := both_ok h
        unfold bothV; rw [if_pos b, a]
      have E1 := dAll_fn m n
      have E2 := dAll_fn n m
      have E3 := dFirst_fn m n
      unfold allV at E1 E2
      unfold firstV at E3
      rw [if_pos h] at E1 E3
      rw [if_pos h2, allU_turn] at E2
      have hlen : (allU m n).length ≤ 1000000 := by
        obtain ⟨b1, b2⟩ := both_len h
        unfold allU nowU
        have := mrg_len m.l n.l
        rw [List.length_append, List.length_map]
        split <;> simp <;> omega
      generalize allU m n = U at *
      simp only [retU] at E1 E2
      have hul : (U.map Uk.c).length = U.length := List.length_map ..
      have hvl : ((U.map Uk.turn).map Uk.c).length = U.length := by simp
      cases U with
      | nil =>
        dsimp only at E3
        refine fn_ok (by kernel_rfl) ty_ok Tryz.func12 rfl (fun _ _ => Tryz.call12 _ _) rfl ?_
        intro hw
        clear hw
        repeat' ((conv => whnf); first | (with_reducible first | refine br_t ?_ | refine br_f ?_ | refine za ?_ | refine zg ?_) | rw [hul] | rw [hvl] | refine zp ?_ | refine zq ?_ | (with_reducible first | refine bc (fun h => ?_) (fun h => ?_) | refine zt ?_ | refine zf ?_ | refine br_i (fun h => ?_) (fun h => ?_) | refine xi (pv_bool fun _ => eqv104 _ _ _ _ _ _ _) ?_ | refine xi (pv_bool fun _ => nev104 _ _ _ _ _ _ _) ?_) | refine zg ?_ | refine zi ?_ | refine zb ?_)
        all_goals conv => whnf
        all_goals rfl
      | cons u r =>
        dsimp only at E3
        have g0 : ((u :: r).map Uk.c)[(0 : Int).toNat]? = some [u8 u.k, i64 u.id] := rfl
        have hz : (u :: r).length = r.length + 1 := rfl
        generalize u :: r = U at *
        refine fn_ok (by kernel_rfl) ty_ok Tryz.func12 rfl (fun _ _ => Tryz.call12 _ _) rfl ?_
        intro hw
        clear hw
        repeat' ((conv => whnf); first | (with_reducible first | refine br_t ?_ | refine br_f ?_ | refine za ?_ | refine zg ?_) | rw [hul] | rw [hvl] | refine zp ?_ | refine zq ?_ | (with_reducible first | refine bc (fun h => ?_) (fun h => ?_) | refine zt ?_ | refine zf ?_ | refine br_i (fun h => ?_) (fun h => ?_) | refine xi (pv_bool fun _ => eqv104 _ _ _ _ _ _ _) ?_ | refine xi (pv_bool fun _ => nev104 _ _ _ _ _ _ _) ?_) | refine zg ?_ | refine zi ?_ | refine zb ?_)
        clear E1 E2 E3 HF HA
        refine loop_J (by kernel_rfl) ty_ok (σ := Nat) (fun i => [(12, sV (.int .i64 i))]) (fun _ => []) (fun i => i ≤ U.length) (fun i => U.length - i) 0 (Nat.zero_le _) ?_ ?_
        · (conv => whnf); exact zent
        intro i hi
        rcases Nat.lt_or_ge i U.length with hlt | hge
        · have g1 := uks_get hlt
          have g2 : ((U.map Uk.turn).map Uk.c)[((i : Nat) : Int).toNat]? = some [u8 U[i].turn.k, i64 U[i].turn.id] := by
            have := uks_get (l := U.map Uk.turn) (i := i) (by simpa using hlt)
            rw [this, List.getElem_map]
          clear g0
          generalize U[i] = v at *
          obtain ⟨k, d⟩ := v
          dsimp only at g1
          by_cases k2 : k = 2
          · have e : (⟨k, d⟩ : Uk).turn = ⟨3, d⟩ := by unfold Uk.turn; rw [if_pos k2]
            rw [e] at g2
            dsimp only at g2
            repeat' ((conv => whnf); first | (with_reducible first | refine br_t ?_ | refine br_f ?_ | refine za ?_ | refine zg ?_) | rw [hul] | rw [hvl] | refine zp ?_ | refine zq ?_ | (with_reducible first | refine bc (fun h => ?_) (fun h => ?_) | refine zt ?_ | refine zf ?_ | refine br_i (fun h => ?_) (fun h => ?_) | refine xi (pv_bool fun _ => eqv104 _ _ _ _ _ _ _) ?_ | refine xi (pv_bool fun _ => nev104 _ _ _ _ _ _ _) ?_) | refine zg ?_ | refine zi ?_ | refine zb ?_)
            all_goals conv => whnf
            refine ⟨i + 1, hlt, ?_, by omega⟩
            (conv => whnf); exact zent
          · by_cases k3 : k = 3
            · have e : (⟨k, d⟩ : Uk).turn = ⟨2, d⟩ := by unfold Uk.turn; rw [if_neg k2, if_pos k3]
              rw [e] at g2
              dsimp only at g2
              repeat' ((conv => whnf); first | (with_reducible first | refine br_t ?_ | refine br_f ?_ | refine za ?_ | refine zg ?_) | rw [hul] | rw [hvl] | refine zp ?_ | refine zq ?_ | (with_reducible first | refine bc (fun h => ?_) (fun h => ?_) | refine zt ?_ | refine zf ?_ | refine br_i (fun h => ?_) (fun h => ?_) | refine xi (pv_bool fun _ => eqv104 _ _ _ _ _ _ _) ?_ | refine xi (pv_bool fun _ => nev104 _ _ _ _ _ _ _) ?_) | refine zg ?_ | refine zi ?_ | refine zb ?_)
              all_goals conv => whnf
              refine ⟨i + 1, hlt, ?_, by omega⟩
              (conv => whnf); exact zent
            · have e : (⟨k, d⟩ : Uk).turn = ⟨k, d⟩ := by unfold Uk.turn; rw [if_neg k2, if_neg k3]
              rw [e] at g2
              dsimp only at g2
              repeat' ((conv => whnf); first | (with_reducible first | refine br_t ?_ | refine br_f ?_ | refine za ?_ | refine zg ?_) | rw [hul] | rw [hvl] | refine zp ?_ | refine zq ?_ | (with_reducible first | refine bc (fun h => ?_) (fun h => ?_) | refine zt ?_ | refine zf ?_ | refine br_i (fun h => ?_) (fun h => ?_) | refine xi (pv_bool fun _ => eqv104 _ _ _ _ _ _ _) ?_ | refine xi (pv_bool fun _ => nev104 _ _ _ _ _ _ _) ?_) | refine zg ?_ | refine zi ?_ | refine zb ?_)
              all_goals conv => whnf
              refine ⟨i + 1, hlt, ?_, by omega⟩
              (conv => whnf); exact zent
        · repeat' ((conv => whnf); first | (with_reducible first | refine br_t ?_ | refine br_f ?_ | refine za ?_ | refine zg ?_) | rw [hul] | rw [hvl] | refine zp ?_ | refine zq ?_ | (with_reducible first | refine bc (fun h => ?_) (fun h => ?_) | refine zt ?_ | refine zf ?_ | refine br_i (fun h => ?_) (fun h => ?_) | refine xi (pv_bool fun _ => eqv104 _ _ _ _ _ _ _) ?_ | refine xi (pv_bool fun _ => nev104 _ _ _ _ _ _ _) ?_) | refine zg ?_ | refine zi ?_ | refine zb ?_)
          all_goals conv => whnf
          all_goals first | rfl | exact r_bool (by simp)
    · rw [hg] at HF
      simp only [Bool.not_true, Bool.false_and] at HF
      refine fn_ok (by kernel_rfl) ty_ok Tryz.func12 rfl (fun _ _ => Tryz.call12 _ _) rfl ?_
      intro hw
      clear hw
      repeat' ((conv => whnf); first | (with_reducible first | refine br_t ?_ | refine br_f ?_ | refine za ?_ | refine zg ?_) | refine zp ?_ | refine zq ?_ | (with_reducible first | refine bc (fun h => ?_) (fun h => ?_) | refine zt ?_ | refine zf ?_ | refine br_i (fun h => ?_) (fun h => ?_) | refine xi (pv_bool fun _ => eqv104 _ _ _ _ _ _ _) ?_ | refine xi (pv_bool fun _ => nev104 _ _ _ _ _ _ _) ?_) | refine zg ?_ | refine zi ?_ | refine zb ?_)
      all_goals conv => whnf
      all_goals rfl
  · rw [decide_eq_false h, Bool.and_false] at HF
    refine fn_ok (by kernel_rfl) ty_ok Tryz.func12 rfl (fun _ _ => Tryz.call12 _ _) rfl ?_
    intro hw
    clear hw
    repeat' ((conv => whnf); first | (with_reducible first | refine br_t ?_ | refine br_f ?_ | refine za ?_ | refine zg ?_) | refine zp ?_ | refine zq ?_ | (with_reducible first | refine bc (fun h => ?_) (fun h => ?_) | refine zt ?_ | refine zf ?_ | refine br_i (fun h => ?_) (fun h => ?_) | refine xi (pv_bool fun _ => eqv104 _ _ _ _ _ _ _) ?_ | refine xi (pv_bool fun _ => nev104 _ _ _ _ _ _ _) ?_) | refine zg ?_ | refine zi ?_ | refine zb ?_)
    all_goals conv => whnf
    all_goals rfl
end Go.Proofs.YtepmgbmnghiaoaaGreat

namespace Go.Proofs.YtepmgbmnghiaoaaGreat
open Go.RowKit Go.ChangeShapes Go.WideShapes Go.ChangeAt Sx
theorem differTurns_own : ownKnob Tryz.prog.godebug = none := by kernel_rfl
set_option maxRecDepth 100000 in
theorem differTurns_lifted (os : Os) (started : os.Started) (H : Type) (enc : TypeId × Value → H) :
    ReturnsInHanded {} Tryz.checked os 12 .any (Rows.differTurnsSpec.pre6 enc Tryz.prog Tryz.f12 Rows.differTurnsRow.domain false) (Rows.differTurnsSpec.post enc Tryz.prog Tryz.f12 false true false false) := by
  refine returnsInHanded_of_change (C := Tryz.checked) differTurns_own started (by kernel_rfl) Tryz.func12
    (ChangeSpec.witness6 (enc := enc) (C := Tryz.checked) false ⟨#[], #[.agg #[.int .i64 0, .int .i64 0, .slice none 0 0], .agg #[.int .i64 0, .int .i64 0, .slice none 0 0]], []⟩ 12 (by kernel_rfl) (by kernel_rfl) (by kernel_rfl) (by kernel_rfl)) ?_
  intro W base args ds gs before hval0 hW hcnd _
  have hval : ∀ (j : Nat) t v, Tryz.f12.params[j]? = some t → args[j]? = some v → Value.okWide Tryz.prog W .any base t v := hval0
  have hW' := hW
  obtain ⟨p, q, hA0, hV, rfl, hfz, hnd⟩ := hW
  have hA : DataW.TrodAll enc Tryz.prog W 0 (fun _ => true) true Tryz.f12.params.toList args.toList ds p := hA0
  rw [Tryz.params12] at hA hval
  obtain ⟨v0, vs0, d0, ds0, p0, q0, hargs, rfl, rfl, h0, r0⟩ := trodAll_cons hA
  obtain ⟨v1, vs1, d1, ds1, p1, q1, rfl, rfl, rfl, h1, r1⟩ := trodAll_cons r0
  obtain ⟨rfl, rfl, rfl⟩ := trodAll_nil r1
  obtain rfl : args = #[v0, v1] := by cases args; simp_all
  obtain ⟨e0, hd0, hf0⟩ := arg_data (tyB_ok (s := shModel) (by kernel_rfl)) (hval 0 28 v0 rfl rfl) h0
  obtain ⟨x0, rfl⟩ := fit_model hf0
  obtain ⟨e1, hd1, hf1⟩ := arg_data (tyB_ok (s := shModel) (by kernel_rfl)) (hval 1 28 v1 rfl rfl) h1
  obtain ⟨x1, rfl⟩ := fit_model hf1
  refine (law_of_fn (vs := [v0, v1]) (fun _ _ => Tryz.call12 _ _) (LDTurns_fn x0 x1) ⟨hd0, hd1, trivial⟩).mono fun e W' ⟨he, hb⟩ => ?_
  subst he
  exact ⟨_, rfl, law_post (by kernel_rfl) (by kernel_rfl) rfl Tryz.underlying4 rfl hW' ⟨rfl, rfl, rfl⟩ hb⟩
theorem differTurns_over : Rows.differTurnsRow.holds Tryz.pinned (OpenSpec.ofChange Rows.differTurnsSpec) :=
  OpenClaim.holds_of_wide 12 Tryz.f12 rfl rfl rfl rfl rfl rfl rfl ⟨rfl, rfl, rfl, rfl, rfl⟩ rfl rfl rfl rfl rfl (by kernel_rfl) Tryz.func12 (by kernel_rfl)
    (of_decide_eq_true (by kernel_rfl)) (by unfold Func.isWrapper; rw [if_neg (of_decide_eq_false (by kernel_rfl))]; exact ⟨rfl, rfl⟩)
    (fun os started H enc _ => differTurns_lifted os started H enc)
theorem differTurns_proved : Rows.DifferTurnsSaid := differTurns_over
#print axioms differTurns_proved
end Go.Proofs.YtepmgbmnghiaoaaGreat
