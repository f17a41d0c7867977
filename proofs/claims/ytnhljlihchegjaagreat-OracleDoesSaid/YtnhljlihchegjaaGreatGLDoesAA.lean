import Derived.Test.YtnhljlihchegjaaGreatGbBB
import Derived.Test.YtnhljlihchegjaaGreatGbAZ
import Derived.Test.YtnhljlihchegjaaGreatRows
import Derived.Test.YtnhljlihchegjaaGreatGbAB
import Derived.Test.YtnhljlihchegjaaGreatGbAY
set_option linter.all false
/- The law OracleDoes answers true. No condition. -/
namespace Go.Proofs.YtnhljlihchegjaaGreat
open Go.RowKit Go.Sort Sx
theorem LDoes_fn (n d : Int) (m : Md) (a : Ak) : FnOK Tryz.prog 3 [rat n d, m.dc, a.dc] (.c (.one (bol true))) := by
  have H0 := rfGreat_fn m.l
  cases hg : great m.l
  · rw [hg] at H0
    have hl : m.l.length ≤ 1000000 := by
      unfold great at hg; simp at hg; omega
    have HT := roTwin_fn m hl
    have H1 := oNew_fn n d
    have H2 := roNew_fn n d
    have H3 := oDo_fn m a
    have H4 := roDo_fn m a
    have H5 := oCheck_fn m
    have H6 := roCheck_fn m
    have S1 := roSameModel_fn (newV n d).1 (newV n d).1
    have S2 := roSameModel_fn (doV m a).1 (doV m a).1
    have S3 := roSame_fn (doV m a).2.1 (doV m a).2.1
    have S4 := roSameModel_fn m m
    simp only [decide_true] at S1 S2 S3 S4
    generalize newV n d = x at *
    generalize doV m a = y at *
    generalize mchk m = z at *
    obtain ⟨x1, x2⟩ := x
    obtain ⟨y1, y2, y3⟩ := y
    simp only [retN, retD] at *
    refine fn_ok (by kernel_rfl) ty_ok Tryz.func3 rfl (fun _ _ => Tryz.call3 _ _) rfl ?_
    intro hw
    clear hw
    exact zwb
  · rw [hg] at H0
    refine fn_ok (by kernel_rfl) ty_ok Tryz.func3 rfl (fun _ _ => Tryz.call3 _ _) rfl ?_
    intro hw
    clear hw
    exact zw
end Go.Proofs.YtnhljlihchegjaaGreat

/- OracleDoes answers true for every time, model and ask, and leaves its arguments as they are. No condition. -/
namespace Go.Proofs.YtnhljlihchegjaaGreat
open Go.RowKit Go.ChangeShapes Go.WideShapes Go.ChangeAt Sx
theorem oracleDoes_own : ownKnob Tryz.prog.godebug = none := by kernel_rfl
set_option maxRecDepth 100000 in
theorem oracleDoes_lifted (os : Os) (started : os.Started) (H : Type) (enc : TypeId × Value → H) :
    ReturnsInHanded {} Tryz.checked os 3 .any (Rows.oracleDoesSpec.pre6 enc Tryz.prog Tryz.f3 Rows.oracleDoesRow.domain false) (Rows.oracleDoesSpec.post enc Tryz.prog Tryz.f3 false true false false) := by
  refine returnsInHanded_of_change (C := Tryz.checked) oracleDoes_own started (by kernel_rfl) Tryz.func3
    (ChangeSpec.witness6 (enc := enc) (C := Tryz.checked) false ⟨#[], #[.agg #[.int .i64 0, .int .i64 0], .agg #[.int .i64 0, .int .i64 0, .slice none 0 0], .agg #[.int .u8 0, .int .i64 0, .int .i64 0, .int .i64 0, .int .i64 0, .int .i64 0, .int .i64 0]], []⟩ 12 (by kernel_rfl) (by kernel_rfl) (by kernel_rfl) (by kernel_rfl)) ?_
  intro W base args ds gs before hval0 hW hcnd _
  have hval : ∀ (j : Nat) t v, Tryz.f3.params[j]? = some t → args[j]? = some v → Value.okWide Tryz.prog W .any base t v := hval0
  have hW' := hW
  obtain ⟨p, q, hA0, hV, rfl, hfz, hnd⟩ := hW
  have hA : DataW.TrodAll enc Tryz.prog W 0 (fun _ => true) true Tryz.f3.params.toList args.toList ds p := hA0
  rw [Tryz.params3] at hA hval
  obtain ⟨v0, vs0, d0, ds0, p0, q0, hargs, rfl, rfl, h0, r0⟩ := trodAll_cons hA
  obtain ⟨v1, vs1, d1, ds1, p1, q1, rfl, rfl, rfl, h1, r1⟩ := trodAll_cons r0
  obtain ⟨v2, vs2, d2, ds2, p2, q2, rfl, rfl, rfl, h2, r2⟩ := trodAll_cons r1
  obtain ⟨rfl, rfl, rfl⟩ := trodAll_nil r2
  obtain rfl : args = #[v0, v1, v2] := by cases args; simp_all
  obtain ⟨e0, hd0, hf0⟩ := arg_data (tyB_ok (s := shRatio) (by kernel_rfl)) (hval 0 23 v0 rfl rfl) h0
  obtain ⟨x0, x1, rfl⟩ := fit_ratio hf0
  obtain ⟨e1, hd1, hf1⟩ := arg_data (tyB_ok (s := shModel) (by kernel_rfl)) (hval 1 28 v1 rfl rfl) h1
  obtain ⟨x2, rfl⟩ := fit_model hf1
  obtain ⟨e2, hd2, hf2⟩ := arg_data (tyB_ok (s := shAsk) (by kernel_rfl)) (hval 2 32 v2 rfl rfl) h2
  obtain ⟨x3, rfl⟩ := fit_ask hf2
  refine (law_of_fn (vs := [v0, v1, v2]) (fun _ _ => Tryz.call3 _ _) (LDoes_fn x0 x1 x2 x3) ⟨hd0, hd1, hd2, trivial⟩).mono fun e W' ⟨he, hb⟩ => ?_
  subst he
  exact ⟨_, rfl, law_post (by kernel_rfl) (by kernel_rfl) rfl Tryz.underlying4 rfl hW' ⟨rfl, rfl, rfl⟩ hb⟩
theorem oracleDoes_over : Rows.oracleDoesRow.holds Tryz.pinned (OpenSpec.ofChange Rows.oracleDoesSpec) :=
  OpenClaim.holds_of_wide 3 Tryz.f3 rfl rfl rfl rfl rfl rfl rfl ⟨rfl, rfl, rfl, rfl, rfl⟩ rfl rfl rfl rfl rfl (by kernel_rfl) Tryz.func3 (by kernel_rfl)
    (of_decide_eq_true (by kernel_rfl)) (by unfold Func.isWrapper; rw [if_neg (of_decide_eq_false (by kernel_rfl))]; exact ⟨rfl, rfl⟩)
    (fun os started H enc _ => oracleDoes_lifted os started H enc)
/-- the statement -/
theorem oracleDoes_proved : Rows.OracleDoesSaid := oracleDoes_over
#print axioms oracleDoes_proved
end Go.Proofs.YtnhljlihchegjaaGreat
