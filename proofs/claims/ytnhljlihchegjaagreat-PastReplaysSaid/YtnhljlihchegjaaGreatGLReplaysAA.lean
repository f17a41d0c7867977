import Derived.Test.YtnhljlihchegjaaGreatGbBB
import Derived.Test.YtnhljlihchegjaaGreatGbBA
import Derived.Test.YtnhljlihchegjaaGreatRows
import Derived.Test.YtnhljlihchegjaaGreatGbAB
import Derived.Test.YtnhljlihchegjaaGreatGbAY
import Derived.Test.YtnhljlihchegjaaGreatGbAZ
set_option linter.all false
/- The law PastReplays answers true. No condition. -/
namespace Go.Proofs.YtnhljlihchegjaaGreat
open Go.RowKit Go.Sort Sx
set_option maxHeartbeats 2000000 in
theorem LReplays_fn (m : Md) (l : List Ak) : FnOK Tryz.prog 10 [m.dc, .one (aks l)] (.c (.one (bol true))) := by
  have G2 := r32Great_fn m.l
  have hal : (l.map Ak.c).length = l.length := List.length_map ..
  cases g2 : gr32 m.l
  · rw [g2] at G2
    have k3 := gr32_len g2
    have T2 := roTwin_fn m (by omega)
    have O1 := pReplay_fn m l
    have O2 := rpReplay_fn m l
    have S1 := rpSame_fn (replayV m l).1 (replayV m l).1
    have S2 := roSameAll_fn (replayV m l).2.1 (replayV m l).2.1
    have S4 := roSameModel_fn m m
    simp only [decide_true] at S1 S2 S4
    generalize replayV m l = x at *
    obtain ⟨a, r, e⟩ := x
    simp only [retY] at *
    try dsimp only at S1 S2
    by_cases h1 : l.length ≤ 45 ∨ 120 < l.length ∧ l.length ≤ 130
    · rcases h1 with h1 | ⟨h1, h2⟩
      all_goals
        refine fn_ok (by kernel_rfl) ty_ok Tryz.func10 rfl (fun _ _ => Tryz.call10 _ _) rfl ?_
        intro hw
        clear hw
        exact zwb
    · clear O1 O2 S1 S2 S4 T2
      by_cases h2 : 130 < l.length
      all_goals
        refine fn_ok (by kernel_rfl) ty_ok Tryz.func10 rfl (fun _ _ => Tryz.call10 _ _) rfl ?_
        intro hw
        simp only [WDCs, WDC, WDs] at hw
        have w1 := wd_aks hw.2.1
        clear hw
        exact zw
  · rw [g2] at G2
    refine fn_ok (by kernel_rfl) ty_ok Tryz.func10 rfl (fun _ _ => Tryz.call10 _ _) rfl ?_
    intro hw
    clear hw
    exact zw
end Go.Proofs.YtnhljlihchegjaaGreat

/- PastReplays answers true for every model and asks, and leaves its arguments as they are. No condition. -/
namespace Go.Proofs.YtnhljlihchegjaaGreat
open Go.RowKit Go.ChangeShapes Go.WideShapes Go.ChangeAt Sx
theorem pastReplays_own : ownKnob Tryz.prog.godebug = none := by kernel_rfl
set_option maxRecDepth 100000 in
theorem pastReplays_lifted (os : Os) (started : os.Started) (H : Type) (enc : TypeId × Value → H) :
    ReturnsInHanded {} Tryz.checked os 10 .any (Rows.pastReplaysSpec.pre6 enc Tryz.prog Tryz.f10 Rows.pastReplaysRow.domain false) (Rows.pastReplaysSpec.post enc Tryz.prog Tryz.f10 false true false false) := by
  refine returnsInHanded_of_change (C := Tryz.checked) pastReplays_own started (by kernel_rfl) Tryz.func10
    (ChangeSpec.witness6 (enc := enc) (C := Tryz.checked) false ⟨#[], #[.agg #[.int .i64 0, .int .i64 0, .slice none 0 0], .slice none 0 0], []⟩ 12 (by kernel_rfl) (by kernel_rfl) (by kernel_rfl) (by kernel_rfl)) ?_
  intro W base args ds gs before hval0 hW hcnd _
  have hval : ∀ (j : Nat) t v, Tryz.f10.params[j]? = some t → args[j]? = some v → Value.okWide Tryz.prog W .any base t v := hval0
  have hW' := hW
  obtain ⟨p, q, hA0, hV, rfl, hfz, hnd⟩ := hW
  have hA : DataW.TrodAll enc Tryz.prog W 0 (fun _ => true) true Tryz.f10.params.toList args.toList ds p := hA0
  rw [Tryz.params10] at hA hval
  obtain ⟨v0, vs0, d0, ds0, p0, q0, hargs, rfl, rfl, h0, r0⟩ := trodAll_cons hA
  obtain ⟨v1, vs1, d1, ds1, p1, q1, rfl, rfl, rfl, h1, r1⟩ := trodAll_cons r0
  obtain ⟨rfl, rfl, rfl⟩ := trodAll_nil r1
  obtain rfl : args = #[v0, v1] := by cases args; simp_all
  obtain ⟨e0, hd0, hf0⟩ := arg_data (tyB_ok (s := shModel) (by kernel_rfl)) (hval 0 28 v0 rfl rfl) h0
  obtain ⟨x0, rfl⟩ := fit_model hf0
  obtain ⟨e1, hd1, hf1⟩ := arg_data (tyB_ok (s := shAsks) (by kernel_rfl)) (hval 1 52 v1 rfl rfl) h1
  obtain ⟨x1, rfl⟩ := fit_asks hf1
  refine (law_of_fn (vs := [v0, v1]) (fun _ _ => Tryz.call10 _ _) (LReplays_fn x0 x1) ⟨hd0, hd1, trivial⟩).mono fun e W' ⟨he, hb⟩ => ?_
  subst he
  exact ⟨_, rfl, law_post (by kernel_rfl) (by kernel_rfl) rfl Tryz.underlying4 rfl hW' ⟨rfl, rfl, rfl⟩ hb⟩
theorem pastReplays_over : Rows.pastReplaysRow.holds Tryz.pinned (OpenSpec.ofChange Rows.pastReplaysSpec) :=
  OpenClaim.holds_of_wide 10 Tryz.f10 rfl rfl rfl rfl rfl rfl rfl ⟨rfl, rfl, rfl, rfl, rfl⟩ rfl rfl rfl rfl rfl (by kernel_rfl) Tryz.func10 (by kernel_rfl)
    (of_decide_eq_true (by kernel_rfl)) (by unfold Func.isWrapper; rw [if_neg (of_decide_eq_false (by kernel_rfl))]; exact ⟨rfl, rfl⟩)
    (fun os started H enc _ => pastReplays_lifted os started H enc)
/-- the statement -/
theorem pastReplays_proved : Rows.PastReplaysSaid := pastReplays_over
#print axioms pastReplays_proved
end Go.Proofs.YtnhljlihchegjaaGreat
