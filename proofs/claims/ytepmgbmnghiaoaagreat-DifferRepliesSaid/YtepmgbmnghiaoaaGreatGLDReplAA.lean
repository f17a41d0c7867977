import Derived.Test.YtepmgbmnghiaoaaGreatGbBC
import Derived.Test.YtepmgbmnghiaoaaGreatGbBB
import Derived.Test.YtepmgbmnghiaoaaGreatGbBA
import Derived.Test.YtepmgbmnghiaoaaGreatRows
import Derived.Test.YtepmgbmnghiaoaaGreatGbAB
import Derived.Test.YtepmgbmnghiaoaaGreatGbAZ
set_option linter.all false
namespace Go.Proofs.YtepmgbmnghiaoaaGreat
open Go.RowKit Go.Sort Sx
theorem LDReplies_fn (m n : Md) (l : List Ak) : FnOK Tryz.prog 4 [m.dc, n.dc, .one (aks l)] (.c (.one (bol true))) := by
  have G1 := DLgreat_fn m n
  have G2 := rqGreat_fn m l
  have E1 := dReplies_fn m n l
  have E2 := rdReplies_fn m n l
  generalize repsV m n l = x at *
  obtain ⟨x1, x2⟩ := x
  simp only [ret2] at E1 E2
  generalize (great m.l || great n.l) = g1 at *
  generalize (great m.l || decide (20 < l.length ∧ l.length ≤ 120 ∨ 130 < l.length)) = g2 at *
  cases g1
  · cases g2
    all_goals
      refine fn_ok (by kernel_rfl) ty_ok Tryz.func4 rfl (fun _ _ => Tryz.call4 _ _) rfl ?_
      intro hw
      clear hw
      exact zwb
  · clear G2 E1 E2
    refine fn_ok (by kernel_rfl) ty_ok Tryz.func4 rfl (fun _ _ => Tryz.call4 _ _) rfl ?_
    intro hw
    clear hw
    exact zw
end Go.Proofs.YtepmgbmnghiaoaaGreat

namespace Go.Proofs.YtepmgbmnghiaoaaGreat
open Go.RowKit Go.ChangeShapes Go.WideShapes Go.ChangeAt Sx
theorem differReplies_own : ownKnob Tryz.prog.godebug = none := by kernel_rfl
set_option maxRecDepth 100000 in
theorem differReplies_lifted (os : Os) (started : os.Started) (H : Type) (enc : TypeId × Value → H) :
    ReturnsInHanded {} Tryz.checked os 4 .any (Rows.differRepliesSpec.pre6 enc Tryz.prog Tryz.f4 Rows.differRepliesRow.domain false) (Rows.differRepliesSpec.post enc Tryz.prog Tryz.f4 false true false false) := by
  refine returnsInHanded_of_change (C := Tryz.checked) differReplies_own started (by kernel_rfl) Tryz.func4
    (ChangeSpec.witness6 (enc := enc) (C := Tryz.checked) false ⟨#[], #[.agg #[.int .i64 0, .int .i64 0, .slice none 0 0], .agg #[.int .i64 0, .int .i64 0, .slice none 0 0], .slice none 0 0], []⟩ 12 (by kernel_rfl) (by kernel_rfl) (by kernel_rfl) (by kernel_rfl)) ?_
  intro W base args ds gs before hval0 hW hcnd _
  have hval : ∀ (j : Nat) t v, Tryz.f4.params[j]? = some t → args[j]? = some v → Value.okWide Tryz.prog W .any base t v := hval0
  have hW' := hW
  obtain ⟨p, q, hA0, hV, rfl, hfz, hnd⟩ := hW
  have hA : DataW.TrodAll enc Tryz.prog W 0 (fun _ => true) true Tryz.f4.params.toList args.toList ds p := hA0
  rw [Tryz.params4] at hA hval
  obtain ⟨v0, vs0, d0, ds0, p0, q0, hargs, rfl, rfl, h0, r0⟩ := trodAll_cons hA
  obtain ⟨v1, vs1, d1, ds1, p1, q1, rfl, rfl, rfl, h1, r1⟩ := trodAll_cons r0
  obtain ⟨v2, vs2, d2, ds2, p2, q2, rfl, rfl, rfl, h2, r2⟩ := trodAll_cons r1
  obtain ⟨rfl, rfl, rfl⟩ := trodAll_nil r2
  obtain rfl : args = #[v0, v1, v2] := by cases args; simp_all
  obtain ⟨e0, hd0, hf0⟩ := arg_data (tyB_ok (s := shModel) (by kernel_rfl)) (hval 0 28 v0 rfl rfl) h0
  obtain ⟨x0, rfl⟩ := fit_model hf0
  obtain ⟨e1, hd1, hf1⟩ := arg_data (tyB_ok (s := shModel) (by kernel_rfl)) (hval 1 28 v1 rfl rfl) h1
  obtain ⟨x1, rfl⟩ := fit_model hf1
  obtain ⟨e2, hd2, hf2⟩ := arg_data (tyB_ok (s := shAsks) (by kernel_rfl)) (hval 2 33 v2 rfl rfl) h2
  obtain ⟨x2, rfl⟩ := fit_asks hf2
  refine (law_of_fn (vs := [v0, v1, v2]) (fun _ _ => Tryz.call4 _ _) (LDReplies_fn x0 x1 x2) ⟨hd0, hd1, hd2, trivial⟩).mono fun e W' ⟨he, hb⟩ => ?_
  subst he
  exact ⟨_, rfl, law_post (by kernel_rfl) (by kernel_rfl) rfl Tryz.underlying4 rfl hW' ⟨rfl, rfl, rfl⟩ hb⟩
theorem differReplies_over : Rows.differRepliesRow.holds Tryz.pinned (OpenSpec.ofChange Rows.differRepliesSpec) :=
  OpenClaim.holds_of_wide 4 Tryz.f4 rfl rfl rfl rfl rfl rfl rfl ⟨rfl, rfl, rfl, rfl, rfl⟩ rfl rfl rfl rfl rfl (by kernel_rfl) Tryz.func4 (by kernel_rfl)
    (of_decide_eq_true (by kernel_rfl)) (by unfold Func.isWrapper; rw [if_neg (of_decide_eq_false (by kernel_rfl))]; exact ⟨rfl, rfl⟩)
    (fun os started H enc _ => differReplies_lifted os started H enc)
theorem differReplies_proved : Rows.DifferRepliesSaid := differReplies_over
#print axioms differReplies_proved
end Go.Proofs.YtepmgbmnghiaoaaGreat
