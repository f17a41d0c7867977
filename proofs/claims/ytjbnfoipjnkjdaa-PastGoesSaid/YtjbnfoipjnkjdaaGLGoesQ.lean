import Derived.Test.YtjbnfoipjnkjdaaRows
import Derived.Test.YtjbnfoipjnkjdaaGLGoesB
import Derived.Test.YtjbnfoipjnkjdaaGLGoesO
import Derived.Test.YtjbnfoipjnkjdaaGLGoesP
set_option linter.all false





/- PastGoes answers true for every past and model, and leaves its arguments as they are. No condition. -/
namespace Go.Proofs.Ytjbnfoipjnkjdaa
open Go.RowKit Go.ChangeShapes Go.WideShapes Go.ChangeAt Sx
theorem pastGoes_own : ownKnob Try.prog.godebug = none := by kernel_rfl
set_option maxRecDepth 100000 in
theorem pastGoes_lifted (os : Os) (started : os.Started) (H : Type) (enc : TypeId × Value → H) :
    ReturnsInHanded {} Try.checked os 3 .any (Rows.pastGoesSpec.pre6 enc Try.prog Try.f3 Rows.pastGoesRow.domain false) (Rows.pastGoesSpec.post enc Try.prog Try.f3 false true false false) := by
  refine returnsInHanded_of_change (C := Try.checked) pastGoes_own started (by kernel_rfl) Try.func3
    (ChangeSpec.witness6 (enc := enc) (C := Try.checked) false ⟨#[], #[.agg #[.int .i64 0, .int .i64 0, .slice none 0 0], .agg #[.int .i64 0, .int .i64 0, .slice none 0 0]], []⟩ 12 (by kernel_rfl) (by kernel_rfl) (by kernel_rfl) (by kernel_rfl)) ?_
  intro W base args ds gs before hval0 hW hcnd _
  have hval : ∀ (j : Nat) t v, Try.f3.params[j]? = some t → args[j]? = some v → Value.okWide Try.prog W .any base t v := hval0
  have hW' := hW
  obtain ⟨p, q, hA0, hV, rfl, hfz, hnd⟩ := hW
  have hA : DataW.TrodAll enc Try.prog W 0 (fun _ => true) true Try.f3.params.toList args.toList ds p := hA0
  rw [Try.params3] at hA hval
  obtain ⟨v0, vs0, d0, ds0, p0, q0, hargs, rfl, rfl, h0, r0⟩ := trodAll_cons hA
  obtain ⟨v1, vs1, d1, ds1, p1, q1, rfl, rfl, rfl, h1, r1⟩ := trodAll_cons r0
  obtain ⟨rfl, rfl, rfl⟩ := trodAll_nil r1
  obtain rfl : args = #[v0, v1] := by cases args; simp_all
  obtain ⟨e0, hd0, hf0⟩ := arg_data (tyB_ok (s := shPast) (by kernel_rfl)) (hval 0 26 v0 rfl rfl) h0
  obtain ⟨x0, rfl⟩ := fit_past hf0
  obtain ⟨e1, hd1, hf1⟩ := arg_data (tyB_ok (s := shModel) (by kernel_rfl)) (hval 1 31 v1 rfl rfl) h1
  obtain ⟨x1, rfl⟩ := fit_model hf1
  refine (law_of_fn (vs := [v0, v1]) (fun _ _ => Try.call3 _ _) (LGoes_fn x0 x1) ⟨hd0, hd1, trivial⟩).mono fun e W' ⟨he, hb⟩ => ?_
  subst he
  exact ⟨_, rfl, law_post (by kernel_rfl) (by kernel_rfl) rfl Try.underlying4 rfl hW' ⟨rfl, rfl, rfl⟩ hb⟩

theorem pastGoes_over : Rows.pastGoesRow.holds Try.pinned (OpenSpec.ofChange Rows.pastGoesSpec) :=
  OpenClaim.holds_of_wide 3 Try.f3 rfl rfl rfl rfl rfl rfl rfl ⟨rfl, rfl, rfl, rfl, rfl⟩ rfl rfl rfl rfl rfl (by kernel_rfl) Try.func3 (by kernel_rfl)
    (of_decide_eq_true (by kernel_rfl)) (by unfold Func.isWrapper; rw [if_neg (of_decide_eq_false (by kernel_rfl))]; exact ⟨rfl, rfl⟩)
    (fun os started H enc _ => pastGoes_lifted os started H enc)

/-- the statement -/
theorem pastGoes_proved : Rows.PastGoesSaid := pastGoes_over
#print axioms pastGoes_proved
end Go.Proofs.Ytjbnfoipjnkjdaa
