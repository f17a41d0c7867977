import Derived.Test.YtepmgbmnghiaoaaGreatGbBC
import Derived.Test.YtepmgbmnghiaoaaGreatGbBA
import Derived.Test.YtepmgbmnghiaoaaGreatRows
import Derived.Test.YtepmgbmnghiaoaaGreatGbAB
import Derived.Test.YtepmgbmnghiaoaaGreatGbAZ
set_option linter.all false
namespace Go.Proofs.YtepmgbmnghiaoaaGreat
open Go.RowKit Go.Sort Sx
set_option maxRecDepth 100000 in
set_option maxHeartbeats 4000000 in
theorem LQTells_fn (m : Md) (a : Ak) (l : List Ak) : FnOK Tryz.prog 3 [m.dc, a.dc, .one (aks l)] (.c (.one (bol true))) := by
  have G := rqGreat_fn m l
  cases g : (great m.l || decide (20 < l.length ∧ l.length ≤ 120 ∨ 130 < l.length))
  · rw [g] at G
    obtain ⟨g1, g2⟩ : great m.l = false ∧ ¬ (20 < l.length ∧ l.length ≤ 120 ∨ 130 < l.length) := by
      rw [Bool.or_eq_false_iff] at g
      exact ⟨g.1, of_decide_eq_false g.2⟩
    have hl : m.l.length ≤ 1000000 := by unfold great at g1; simp at g1; omega
    have hal : (l.map Ak.c).length = l.length := List.length_map ..
    have HT := roTwin_fn m hl
    have E1 := qError_fn m a
    have E2 := rqError_fn m a
    have E3 := qErrors_fn m l
    have E4 := rqErrors_fn m l
    have E5 := qFirst_fn m l
    have E6 := rqFirst_fn m l
    have E7 := qKept_fn m l
    have E8 := rqKept_fn m l
    have S1 := rqSame_fn (errorsV m l).1 (errorsV m l).1
    have S2 := r36SameAsks_fn (keptV m l).1 (keptV m l).1
    have S3 := roSameModel_fn m m
    have S4 : FnOK Tryz.prog 25 [.one (aks l), .one (.list 7 ([] ++ l.map Ak.c))] _ := r36SameAsks_fn l l
    simp only [decide_true] at S1 S2 S3 S4
    generalize errV m a = x1 at *
    generalize errorsV m l = x2 at *
    generalize ofirstV m l = x3 at *
    generalize keptV m l = x4 at *
    obtain ⟨x1, y1⟩ := x1
    obtain ⟨x2, y2⟩ := x2
    obtain ⟨x3, y3⟩ := x3
    obtain ⟨x4, y4⟩ := x4
    simp only [ret2, retI, retK] at *
    clear g g1
    refine fn_ok (by kernel_rfl) ty_ok Tryz.func3 rfl (fun _ _ => Tryz.call3 _ _) rfl ?_
    intro hw
    clear hw
    repeat' ((conv => whnf); first | (with_reducible first | refine br_t ?_ | refine br_f ?_ | refine za ?_ | refine zg ?_) | rw [hal] | refine zp ?_ | refine zq ?_ | (with_reducible first | refine bc (fun h => ?_) (fun h => ?_) | refine zt ?_ | refine zf ?_ | refine br_i (fun h => ?_) (fun h => ?_)) | refine zg ?_ | refine zi ?_ | refine zb ?_)
    all_goals conv => whnf
    all_goals first | rfl | exact r_bool (by simp)
  · rw [g] at G
    refine fn_ok (by kernel_rfl) ty_ok Tryz.func3 rfl (fun _ _ => Tryz.call3 _ _) rfl ?_
    intro hw
    clear hw
    exact zw
end Go.Proofs.YtepmgbmnghiaoaaGreat

namespace Go.Proofs.YtepmgbmnghiaoaaGreat
open Go.RowKit Go.ChangeShapes Go.WideShapes Go.ChangeAt Sx
theorem orderTells_own : ownKnob Tryz.prog.godebug = none := by kernel_rfl
set_option maxRecDepth 100000 in
theorem orderTells_lifted (os : Os) (started : os.Started) (H : Type) (enc : TypeId × Value → H) :
    ReturnsInHanded {} Tryz.checked os 3 .any (Rows.orderTellsSpec.pre6 enc Tryz.prog Tryz.f3 Rows.orderTellsRow.domain false) (Rows.orderTellsSpec.post enc Tryz.prog Tryz.f3 false true false false) := by
  refine returnsInHanded_of_change (C := Tryz.checked) orderTells_own started (by kernel_rfl) Tryz.func3
    (ChangeSpec.witness6 (enc := enc) (C := Tryz.checked) false ⟨#[], #[.agg #[.int .i64 0, .int .i64 0, .slice none 0 0], .agg #[.int .u8 0, .int .i64 0, .int .i64 0, .int .i64 0, .int .i64 0, .int .i64 0, .int .i64 0], .slice none 0 0], []⟩ 12 (by kernel_rfl) (by kernel_rfl) (by kernel_rfl) (by kernel_rfl)) ?_
  intro W base args ds gs before hval0 hW hcnd _
  have hval : ∀ (j : Nat) t v, Tryz.f3.params[j]? = some t → args[j]? = some v → Value.okWide Tryz.prog W .any base t v := hval0
  have hW' := hW
  obtain ⟨p, q, hA0, hV, rfl, hfz, hnd⟩ := hW
  have hA : DataW.TrodAll enc Tryz.prog W 0 (fun _ => true) true Tryz.f3.params.toList args.toList ds p := hA0
  rw [Tryz.params3] at hA hval
  obtain ⟨v0, vs0, d0, ds0, p0, q0, hargs, rfl, rfl, h0, r0⟩ := trodAll_cons hA
  obtain ⟨v1, vs1, d1, ds1, p1, q1, rfl, rfl, rfl, h1, r1⟩ := trodAll_cons r0
  obtain ⟨v2, vs2, d2, ds2, p2, q2, rfl, rfl, rfl, h2, r2⟩ := trodAll_cons r1
  obtain ⟨rfl, rfl, rfl⟩ := trodAll_nil r2
  obtain rfl : args = #[v0, v1, v2] := by cases args; simp_all
  obtain ⟨e0, hd0, hf0⟩ := arg_data (tyB_ok (s := shModel) (by kernel_rfl)) (hval 0 28 v0 rfl rfl) h0
  obtain ⟨x0, rfl⟩ := fit_model hf0
  obtain ⟨e1, hd1, hf1⟩ := arg_data (tyB_ok (s := shAsk) (by kernel_rfl)) (hval 1 32 v1 rfl rfl) h1
  obtain ⟨x1, rfl⟩ := fit_ask hf1
  obtain ⟨e2, hd2, hf2⟩ := arg_data (tyB_ok (s := shAsks) (by kernel_rfl)) (hval 2 33 v2 rfl rfl) h2
  obtain ⟨x2, rfl⟩ := fit_asks hf2
  refine (law_of_fn (vs := [v0, v1, v2]) (fun _ _ => Tryz.call3 _ _) (LQTells_fn x0 x1 x2) ⟨hd0, hd1, hd2, trivial⟩).mono fun e W' ⟨he, hb⟩ => ?_
  subst he
  exact ⟨_, rfl, law_post (by kernel_rfl) (by kernel_rfl) rfl Tryz.underlying4 rfl hW' ⟨rfl, rfl, rfl⟩ hb⟩
theorem orderTells_over : Rows.orderTellsRow.holds Tryz.pinned (OpenSpec.ofChange Rows.orderTellsSpec) :=
  OpenClaim.holds_of_wide 3 Tryz.f3 rfl rfl rfl rfl rfl rfl rfl ⟨rfl, rfl, rfl, rfl, rfl⟩ rfl rfl rfl rfl rfl (by kernel_rfl) Tryz.func3 (by kernel_rfl)
    (of_decide_eq_true (by kernel_rfl)) (by unfold Func.isWrapper; rw [if_neg (of_decide_eq_false (by kernel_rfl))]; exact ⟨rfl, rfl⟩)
    (fun os started H enc _ => orderTells_lifted os started H enc)
theorem orderTells_proved : Rows.OrderTellsSaid := orderTells_over
#print axioms orderTells_proved
end Go.Proofs.YtepmgbmnghiaoaaGreat
