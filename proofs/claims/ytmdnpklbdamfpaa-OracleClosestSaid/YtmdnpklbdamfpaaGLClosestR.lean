import Derived.Test.YtmdnpklbdamfpaaRows
import Derived.Test.YtmdnpklbdamfpaaGLClosestB
import Derived.Test.YtmdnpklbdamfpaaGLClosestP
import Derived.Test.YtmdnpklbdamfpaaGLClosestQ
set_option linter.all false




/- OracleClosest answers true for every field and time, and leaves its arguments as they are. No condition. -/
namespace Go.Proofs.Ytmdnpklbdamfpaa
open Go.RowKit Go.ChangeShapes Go.WideShapes Go.ChangeAt Sx
theorem oracleClosest_own : ownKnob Try.prog.godebug = none := by kernel_rfl
set_option maxRecDepth 100000 in
theorem oracleClosest_lifted (os : Os) (started : os.Started) (H : Type) (enc : TypeId × Value → H) :
    ReturnsInHanded {} Try.checked os 3 .any (Rows.oracleClosestSpec.pre6 enc Try.prog Try.f3 Rows.oracleClosestRow.domain false) (Rows.oracleClosestSpec.post enc Try.prog Try.f3 false true false false) := by
  refine returnsInHanded_of_change (C := Try.checked) oracleClosest_own started (by kernel_rfl) Try.func3
    (ChangeSpec.witness6 (enc := enc) (C := Try.checked) false ⟨#[], #[.agg #[.slice none 0 0], .agg #[.int .i64 0, .int .i64 0]], []⟩ 12 (by kernel_rfl) (by kernel_rfl) (by kernel_rfl) (by kernel_rfl)) ?_
  intro W base args ds gs before hval0 hW hcnd _
  have hval : ∀ (j : Nat) t v, Try.f3.params[j]? = some t → args[j]? = some v → Value.okWide Try.prog W .any base t v := hval0
  have hW' := hW
  obtain ⟨p, q, hA0, hV, rfl, hfz, hnd⟩ := hW
  have hA : DataW.TrodAll enc Try.prog W 0 (fun _ => true) true Try.f3.params.toList args.toList ds p := hA0
  rw [Try.params3] at hA hval
  obtain ⟨v0, vs0, d0, ds0, p0, q0, hargs, rfl, rfl, h0, r0⟩ := trodAll_cons hA
  obtain ⟨v1, vs1, d1, ds1, p1, q1, rfl, rfl, rfl, h1, r1⟩ := trodAll_cons r0
  obtain ⟨rfl, rfl, rfl⟩ := trodAll_nil r1
  obtain rfl : args = #[v0, v1] := by cases args; simp_all
  obtain ⟨e0, hd0, hf0⟩ := arg_data (tyB_ok (s := shField) (by kernel_rfl)) (hval 0 24 v0 rfl rfl) h0
  obtain ⟨l0, rfl⟩ := fit_field hf0
  obtain ⟨e1, hd1, hf1⟩ := arg_data (tyB_ok (s := shRatio) (by kernel_rfl)) (hval 1 26 v1 rfl rfl) h1
  obtain ⟨n1, m1, rfl⟩ := fit_ratio hf1
  refine (law_of_fn (vs := [v0, v1]) (fun _ _ => Try.call3 _ _) (LClosest_fn l0 n1 m1) ⟨hd0, hd1, trivial⟩).mono fun e W' ⟨he, hb⟩ => ?_
  subst he
  exact ⟨_, rfl, law_post (by kernel_rfl) (by kernel_rfl) rfl Try.underlying4 rfl hW' ⟨rfl, rfl, rfl⟩ hb⟩

theorem oracleClosest_over : Rows.oracleClosestRow.holds Try.pinned (OpenSpec.ofChange Rows.oracleClosestSpec) :=
  OpenClaim.holds_of_wide 3 Try.f3 rfl rfl rfl rfl rfl rfl rfl ⟨rfl, rfl, rfl, rfl, rfl⟩ rfl rfl rfl rfl rfl (by kernel_rfl) Try.func3 (by kernel_rfl)
    (of_decide_eq_true (by kernel_rfl)) (by unfold Func.isWrapper; rw [if_neg (of_decide_eq_false (by kernel_rfl))]; exact ⟨rfl, rfl⟩)
    (fun os started H enc _ => oracleClosest_lifted os started H enc)

/-- the statement -/
theorem oracleClosest_proved : Rows.OracleClosestSaid := oracleClosest_over
#print axioms oracleClosest_proved
end Go.Proofs.Ytmdnpklbdamfpaa
