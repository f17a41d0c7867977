import Derived.Test.YtnjgfhgpicmklaaGreatGQBB
import Derived.Test.YtnjgfhgpicmklaaGreatRows
import Derived.Test.YtnjgfhgpicmklaaGreatGQAB
import Derived.Test.YtnjgfhgpicmklaaGreatGQAY
set_option linter.all false
namespace Go.Proofs.YtnjgfhgpicmklaaGreat
open Go.RowKit Go.Sort Sx
set_option maxRecDepth 100000 in
set_option maxHeartbeats 4000000 in
theorem LQCounts_fn (m : Md) (l : List Ak) : FnOK Tryz.prog 3 [m.dc, .one (aks l)] (.c (.one (bol true))) := by
  have G := rqGreat_fn m l
  cases g : (great m.l || decide (20 < l.length ∧ l.length ≤ 120 ∨ 130 < l.length))
  · rw [g] at G
    have E1 := qFree_fn m
    have E2 := rqFree_fn m
    have E3 := qCounts_fn m l
    have E4 := rqCounts_fn m l
    have S1 := rqSameCounts_fn (countsV m l).1 (countsV m l).1
    simp only [decide_true] at S1
    generalize freeV m = x1 at *
    generalize countsV m l = x2 at *
    obtain ⟨x1, y1⟩ := x1
    obtain ⟨x2, y2⟩ := x2
    simp only [ret2, retCn] at *
    clear g
    refine fn_ok (by kernel_rfl) ty_ok Tryz.func3 rfl (fun _ _ => Tryz.call3 _ _) rfl ?_
    intro hw
    clear hw
    exact zwb
  · rw [g] at G
    refine fn_ok (by kernel_rfl) ty_ok Tryz.func3 rfl (fun _ _ => Tryz.call3 _ _) rfl ?_
    intro hw
    clear hw
    exact zw
end Go.Proofs.YtnjgfhgpicmklaaGreat

namespace Go.Proofs.YtnjgfhgpicmklaaGreat
open Go.RowKit Go.ChangeShapes Go.WideShapes Go.ChangeAt Sx
theorem orderCounts_own : ownKnob Tryz.prog.godebug = none := by kernel_rfl
set_option maxRecDepth 100000 in
theorem orderCounts_lifted (os : Os) (started : os.Started) (H : Type) (enc : TypeId × Value → H) :
    ReturnsInHanded {} Tryz.checked os 3 .any (Rows.orderCountsSpec.pre6 enc Tryz.prog Tryz.f3 Rows.orderCountsRow.domain false) (Rows.orderCountsSpec.post enc Tryz.prog Tryz.f3 false true false false) := by
  refine returnsInHanded_of_change (C := Tryz.checked) orderCounts_own started (by kernel_rfl) Tryz.func3
    (ChangeSpec.witness6 (enc := enc) (C := Tryz.checked) false ⟨#[], #[.agg #[.int .i64 0, .int .i64 0, .slice none 0 0], .slice none 0 0], []⟩ 12 (by kernel_rfl) (by kernel_rfl) (by kernel_rfl) (by kernel_rfl)) ?_
  intro W base args ds gs before hval0 hW hcnd _
  have hval : ∀ (j : Nat) t v, Tryz.f3.params[j]? = some t → args[j]? = some v → Value.okWide Tryz.prog W .any base t v := hval0
  have hW' := hW
  obtain ⟨p, q, hA0, hV, rfl, hfz, hnd⟩ := hW
  have hA : DataW.TrodAll enc Tryz.prog W 0 (fun _ => true) true Tryz.f3.params.toList args.toList ds p := hA0
  rw [Tryz.params3] at hA hval
  obtain ⟨v0, vs0, d0, ds0, p0, q0, hargs, rfl, rfl, h0, r0⟩ := trodAll_cons hA
  obtain ⟨v1, vs1, d1, ds1, p1, q1, rfl, rfl, rfl, h1, r1⟩ := trodAll_cons r0
  obtain ⟨rfl, rfl, rfl⟩ := trodAll_nil r1
  obtain rfl : args = #[v0, v1] := by cases args; simp_all
  obtain ⟨e0, hd0, hf0⟩ := arg_data (tyB_ok (s := shModel) (by kernel_rfl)) (hval 0 28 v0 rfl rfl) h0
  obtain ⟨x0, rfl⟩ := fit_model hf0
  obtain ⟨e1, hd1, hf1⟩ := arg_data (tyB_ok (s := shAsks) (by kernel_rfl)) (hval 1 29 v1 rfl rfl) h1
  obtain ⟨x1, rfl⟩ := fit_asks hf1
  refine (law_of_fn (vs := [v0, v1]) (fun _ _ => Tryz.call3 _ _) (LQCounts_fn x0 x1) ⟨hd0, hd1, trivial⟩).mono fun e W' ⟨he, hb⟩ => ?_
  subst he
  exact ⟨_, rfl, law_post (by kernel_rfl) (by kernel_rfl) rfl Tryz.underlying4 rfl hW' ⟨rfl, rfl, rfl⟩ hb⟩
theorem orderCounts_and {a b : Bool} (h : a = true) (k : b = true) : (a && b) = true := by rw [h, k]; rfl
theorem orderCounts_c0 : (Rows.orderCountsRow.inPlace == Tryz.prog.inPlace 3) = true := by kernel_rfl
theorem orderCounts_c1 : (Rows.orderCountsRow.unfollowed == Tryz.prog.unfollowed 3) = true := by kernel_rfl
theorem orderCounts_c2 : (Rows.orderCountsRow.recurses == Tryz.prog.recurses 3) = true := by kernel_rfl
theorem orderCounts_c3 : (Rows.orderCountsRow.named == Tryz.prog.varsNamed 3) = true := by kernel_rfl
theorem orderCounts_c4 : (Rows.orderCountsRow.loops == (Tryz.f3.params.toList ++ Rows.orderCountsSpec.plain.varTypes Tryz.prog).any (Tryz.prog.loopsFrom ·)) = true := by kernel_rfl
theorem orderCounts_c5 : laidOutB Tryz.prog = true := by kernel_rfl
theorem orderCounts_c6 : mapsRowed Tryz.prog = true := by kernel_rfl
theorem orderCounts_c7 : Tryz.prog.stopsHeard = true := by kernel_rfl
theorem orderCounts_c8 : Tryz.prog.mayEnter = true := by kernel_rfl
theorem orderCounts_facts : joinedFacts Tryz.prog 3 Tryz.f3 Rows.orderCountsSpec Rows.orderCountsRow = true := by
  unfold joinedFacts
  repeat' (with_reducible refine orderCounts_and ?_ ?_)
  all_goals first | with_reducible exact orderCounts_c0 | with_reducible exact orderCounts_c1 | with_reducible exact orderCounts_c2 | with_reducible exact orderCounts_c3 | with_reducible exact orderCounts_c4 | with_reducible exact orderCounts_c5 | with_reducible exact orderCounts_c6 | with_reducible exact orderCounts_c7 | with_reducible exact orderCounts_c8 | kernel_rfl
theorem orderCounts_over : Rows.orderCountsRow.holds Tryz.pinned (OpenSpec.ofChange Rows.orderCountsSpec) :=
  OpenClaim.holds_of_wide 3 Tryz.f3 rfl rfl rfl rfl rfl rfl rfl ⟨rfl, rfl, rfl, rfl, rfl⟩ rfl rfl rfl rfl rfl (by kernel_rfl) Tryz.func3 orderCounts_facts
    (of_decide_eq_true (by kernel_rfl)) (by unfold Func.isWrapper; rw [if_neg (of_decide_eq_false (by kernel_rfl))]; exact ⟨rfl, rfl⟩)
    (fun os started H enc _ => orderCounts_lifted os started H enc)
theorem orderCounts_proved : Rows.OrderCountsSaid := orderCounts_over
#print axioms orderCounts_proved
end Go.Proofs.YtnjgfhgpicmklaaGreat
