import Derived.Test.YtnjgfhgpicmklaaGreatGQBB
import Derived.Test.YtnjgfhgpicmklaaGreatRows
import Derived.Test.YtnjgfhgpicmklaaGreatGQAB
import Derived.Test.YtnjgfhgpicmklaaGreatGQAY
set_option linter.all false
namespace Go.Proofs.YtnjgfhgpicmklaaGreat
open Go.RowKit Go.Sort Sx
def okR (r : Rp) : Bool := decide (r.e = 0)
def cz (R : List Rp) (i : Nat) : Nat := ((R.take i).filter okR).length
theorem cz_succ {R : List Rp} {i : Nat} (h : i < R.length) : cz R (i + 1) = cz R i + if R[i].e = 0 then 1 else 0 := by
  unfold cz
  rw [List.take_succ_eq_append_getElem h, List.filter_append, List.length_append]
  congr 1
  by_cases c : R[i].e = 0
  · rw [if_pos c, List.filter_cons_of_pos (by unfold okR; simpa using c)]; rfl
  · rw [if_neg c, List.filter_cons_of_neg (by unfold okR; simpa using c)]; rfl
theorem cz_get {R : List Rp} {i : Nat} (h : i < R.length) (h0 : R[i].e = 0) : (R.filter okR)[cz R i]? = some R[i] := by
  have e : R = R.take i ++ R[i] :: R.drop (i + 1) := by rw [← List.drop_eq_getElem_cons h, List.take_append_drop]
  have e2 : R.filter okR = (R.take i).filter okR ++ R[i] :: (R.drop (i + 1)).filter okR := by
    rw [← List.filter_cons_of_pos (p := okR) (a := R[i]) (l := R.drop (i + 1)) (by unfold okR; simpa using h0), ← List.filter_append, ← e]
  rw [e2]
  unfold cz
  simp
theorem cz_all (R : List Rp) : cz R R.length = (R.filter okR).length := by unfold cz; rw [List.take_length]
theorem cz_le (R : List Rp) (i : Nat) : cz R i ≤ i := by
  unfold cz
  exact Nat.le_trans (List.length_filter_le ..) (by rw [List.length_take]; omega)
set_option maxRecDepth 100000 in
set_option maxHeartbeats 8000000 in
theorem LQKept_fn (m : Md) (l : List Ak) : FnOK Tryz.prog 5 [m.dc, .one (aks l)] (.c (.one (bol true))) := by
  have HA := QLalive_fn
  have HF := QLfit_fn m l
  cases hq : qfit m l <;> rw [hq] at HF
  · refine fn_ok (by kernel_rfl) ty_ok Tryz.func5 rfl (fun _ _ => Tryz.call5 _ _) rfl ?_
    intro hw
    clear hw
    exact zw
  · obtain ⟨h20, hm⟩ := qfit_ok hq
    have hkl := kept_len m l
    have hrl := runs_len m l
    have hsl := runs_len m (kept m l)
    have hrk := runs_kept m l
    have hrk2 : runs m (kept m l) = ((runs m l).1, (runs m l).2.filter okR) := hrk
    have E1 := qKept_fn m l
    have E2 := qKept_fn m (kept m l)
    have E3 := oRun_fn m l
    have E4 := oRun_fn m (kept m l)
    have e1 : keptV m l = (kept m l, 0) := by unfold keptV; rw [if_pos hm, if_neg (by omega)]
    have e2 : keptV m (kept m l) = (kept m l, 0) := by unfold keptV; rw [if_pos hm, if_neg (by omega), kept_kept]
    have e3 : runV m l = ((runs m l).1, (runs m l).2, 0) := by unfold runV; rw [if_pos hm, if_neg (by omega)]
    have e4 : runV m (kept m l) = ((runs m l).1, (runs m l).2.filter okR, 0) := by unfold runV; rw [if_pos hm, if_neg (by omega), hrk2]
    rw [e1] at E1
    rw [e2] at E2
    rw [e3] at E3
    rw [e4] at E4
    rw [hrk2] at hsl
    have S1 := r36SameAsks_fn (kept m l) (kept m l)
    have S2 := roSameModel_fn (runs m l).1 (runs m l).1
    simp only [decide_true] at S1 S2
    have SR := fun r => roSame_fn r r
    simp only [decide_true] at SR
    have hcs := fun i => cz_succ (R := (runs m l).2) (i := i)
    have hcg := fun i => cz_get (R := (runs m l).2) (i := i)
    have hca := cz_all (runs m l).2
    have hcl := fun i => cz_le (runs m l).2 i
    clear e1 e2 e3 e4 hrk hrk2 hq
    generalize (runs m l).1 = m' at *
    generalize (runs m l).2 = R at *
    generalize hS : R.filter okR = S at *
    generalize kept m l = X at *
    dsimp only at hsl
    simp only [retK, retR] at E1 E2 E3 E4
    have hrp : (R.map Rp.c).length = R.length := List.length_map ..
    have hsp : (S.map Rp.c).length = S.length := List.length_map ..
    have hxp : (X.map Ak.c).length = X.length := List.length_map ..
    have hal : (l.map Ak.c).length = l.length := List.length_map ..
    refine fn_ok (by kernel_rfl) ty_ok Tryz.func5 rfl (fun _ _ => Tryz.call5 _ _) rfl ?_
    intro hw
    clear hw
    repeat' ((conv => whnf); first | (with_reducible first | refine br_t ?_ | refine br_f ?_ | refine za ?_ | refine zg ?_) | rw [hrp] | rw [hsp] | rw [hxp] | rw [hal] | refine zp ?_ | refine zq ?_ | (with_reducible first | refine bc (fun h => ?_) (fun h => ?_) | refine zt ?_ | refine zf ?_ | refine br_i (fun h => ?_) (fun h => ?_)) | refine zg ?_ | refine zi ?_ | refine zb ?_)
    all_goals conv => whnf
    clear E1 E2 E3 E4 S1 S2 HA HF
    refine loop_J (by kernel_rfl) ty_ok (σ := Nat) (fun i => [(17, sV (.int .i64 i)), (16, sV (.int .i64 (cz R i)))]) (fun _ => []) (fun i => i ≤ R.length) (fun i => R.length - i) 0 (Nat.zero_le _) ?_ ?_
    · (conv => whnf); exact zent
    intro i hi
    have hci := hcl i
    rcases Nat.lt_or_ge i R.length with hlt | hge
    · have g1 := rps_get hlt
      have hsc := hcs i hlt
      have hg := hcg i hlt
      clear hcs hcg hca hcl
      by_cases hz : R[i].e = 0
      · rw [if_pos hz] at hsc
        have hg := hg hz
        have hlt2 : cz R i < S.length := by
          rcases Nat.lt_or_ge (cz R i) S.length with h | h
          · exact h
          · rw [List.getElem?_eq_none h] at hg; cases hg
        have g2 : (S.map Rp.c)[((cz R i : Nat) : Int).toNat]? = some [i64 R[i].e, i64 R[i].i, i64 R[i].j, i64 R[i].n, i64 R[i].d, mts R[i].ms] := by
          rw [Int.toNat_natCast, List.getElem?_map, hg]; rfl
        have SRi := SR R[i]
        clear hg SR
        generalize R[i] = r at *
        generalize cz R i = c at *
        have ew : IntKind.i64.wrap ((c : Int) + 1) = ((cz R (i + 1) : Nat) : Int) := by rw [hsc, IntWalk.i64_in _ (by omega)]; omega
        repeat' ((conv => whnf); first | (with_reducible first | refine br_t ?_ | refine br_f ?_ | refine za ?_ | refine zg ?_) | rw [hrp] | rw [hsp] | refine zp ?_ | refine zq ?_ | (with_reducible first | refine bc (fun h => ?_) (fun h => ?_) | refine zt ?_ | refine zf ?_ | refine br_i (fun h => ?_) (fun h => ?_)) | refine zg ?_ | refine zi ?_ | refine zb ?_)
        all_goals conv => whnf
        refine ⟨i + 1, hlt, ?_, by omega⟩
        (conv => whnf); refine ⟨by repeat' (first | with_reducible exact zE0 | with_reducible refine zE1 ?_ ?_ | rfl | assumption | ((exact congrArg (fun x => some (sV (.int .i64 x))) ew)) | exact zi1 | exact zb1), by repeat' (first | with_reducible exact zH0 | with_reducible refine zH1 ?_ ?_ | rfl | assumption | ((exact congrArg (fun x => some (sV (.int .i64 x))) ew))), rfl⟩
      · rw [if_neg hz, Nat.add_zero] at hsc
        clear hg SR
        generalize R[i] = r at *
        repeat' ((conv => whnf); first | (with_reducible first | refine br_t ?_ | refine br_f ?_ | refine za ?_ | refine zg ?_) | rw [hrp] | rw [hsp] | refine zp ?_ | refine zq ?_ | (with_reducible first | refine bc (fun h => ?_) (fun h => ?_) | refine zt ?_ | refine zf ?_ | refine br_i (fun h => ?_) (fun h => ?_)) | refine zg ?_ | refine zi ?_ | refine zb ?_)
        all_goals conv => whnf
        refine ⟨i + 1, hlt, ?_, by omega⟩
        (conv => whnf); refine ⟨by repeat' (first | with_reducible exact zE0 | with_reducible refine zE1 ?_ ?_ | rfl | assumption | ((exact congrArg (fun x : Nat => some (sV (.int .i64 (x : Int)))) hsc.symm)) | exact zi1 | exact zb1), by repeat' (first | with_reducible exact zH0 | with_reducible refine zH1 ?_ ?_ | rfl | assumption | ((exact congrArg (fun x : Nat => some (sV (.int .i64 (x : Int)))) hsc.symm))), rfl⟩
    · obtain rfl : i = R.length := by omega
      rw [hca]
      repeat' ((conv => whnf); first | (with_reducible first | refine br_t ?_ | refine br_f ?_ | refine za ?_ | refine zg ?_) | rw [hrp] | rw [hsp] | refine zp ?_ | refine zq ?_ | (with_reducible first | refine bc (fun h => ?_) (fun h => ?_) | refine zt ?_ | refine zf ?_ | refine br_i (fun h => ?_) (fun h => ?_)) | refine zg ?_ | refine zi ?_ | refine zb ?_)
      all_goals conv => whnf
      all_goals first | rfl | exact r_bool (by simp)
end Go.Proofs.YtnjgfhgpicmklaaGreat

namespace Go.Proofs.YtnjgfhgpicmklaaGreat
open Go.RowKit Go.ChangeShapes Go.WideShapes Go.ChangeAt Sx
theorem orderKept_own : ownKnob Tryz.prog.godebug = none := by kernel_rfl
set_option maxRecDepth 100000 in
theorem orderKept_lifted (os : Os) (started : os.Started) (H : Type) (enc : TypeId × Value → H) :
    ReturnsInHanded {} Tryz.checked os 5 .any (Rows.orderKeptSpec.pre6 enc Tryz.prog Tryz.f5 Rows.orderKeptRow.domain false) (Rows.orderKeptSpec.post enc Tryz.prog Tryz.f5 false true false false) := by
  refine returnsInHanded_of_change (C := Tryz.checked) orderKept_own started (by kernel_rfl) Tryz.func5
    (ChangeSpec.witness6 (enc := enc) (C := Tryz.checked) false ⟨#[], #[.agg #[.int .i64 0, .int .i64 0, .slice none 0 0], .slice none 0 0], []⟩ 12 (by kernel_rfl) (by kernel_rfl) (by kernel_rfl) (by kernel_rfl)) ?_
  intro W base args ds gs before hval0 hW hcnd _
  have hval : ∀ (j : Nat) t v, Tryz.f5.params[j]? = some t → args[j]? = some v → Value.okWide Tryz.prog W .any base t v := hval0
  have hW' := hW
  obtain ⟨p, q, hA0, hV, rfl, hfz, hnd⟩ := hW
  have hA : DataW.TrodAll enc Tryz.prog W 0 (fun _ => true) true Tryz.f5.params.toList args.toList ds p := hA0
  rw [Tryz.params5] at hA hval
  obtain ⟨v0, vs0, d0, ds0, p0, q0, hargs, rfl, rfl, h0, r0⟩ := trodAll_cons hA
  obtain ⟨v1, vs1, d1, ds1, p1, q1, rfl, rfl, rfl, h1, r1⟩ := trodAll_cons r0
  obtain ⟨rfl, rfl, rfl⟩ := trodAll_nil r1
  obtain rfl : args = #[v0, v1] := by cases args; simp_all
  obtain ⟨e0, hd0, hf0⟩ := arg_data (tyB_ok (s := shModel) (by kernel_rfl)) (hval 0 28 v0 rfl rfl) h0
  obtain ⟨x0, rfl⟩ := fit_model hf0
  obtain ⟨e1, hd1, hf1⟩ := arg_data (tyB_ok (s := shAsks) (by kernel_rfl)) (hval 1 29 v1 rfl rfl) h1
  obtain ⟨x1, rfl⟩ := fit_asks hf1
  refine (law_of_fn (vs := [v0, v1]) (fun _ _ => Tryz.call5 _ _) (LQKept_fn x0 x1) ⟨hd0, hd1, trivial⟩).mono fun e W' ⟨he, hb⟩ => ?_
  subst he
  exact ⟨_, rfl, law_post (by kernel_rfl) (by kernel_rfl) rfl Tryz.underlying4 rfl hW' ⟨rfl, rfl, rfl⟩ hb⟩
theorem orderKept_and {a b : Bool} (h : a = true) (k : b = true) : (a && b) = true := by rw [h, k]; rfl
theorem orderKept_c0 : (Rows.orderKeptRow.inPlace == Tryz.prog.inPlace 5) = true := by kernel_rfl
theorem orderKept_c1 : (Rows.orderKeptRow.unfollowed == Tryz.prog.unfollowed 5) = true := by kernel_rfl
theorem orderKept_c2 : (Rows.orderKeptRow.recurses == Tryz.prog.recurses 5) = true := by kernel_rfl
theorem orderKept_c3 : (Rows.orderKeptRow.named == Tryz.prog.varsNamed 5) = true := by kernel_rfl
theorem orderKept_c4 : (Rows.orderKeptRow.loops == (Tryz.f5.params.toList ++ Rows.orderKeptSpec.plain.varTypes Tryz.prog).any (Tryz.prog.loopsFrom ·)) = true := by kernel_rfl
theorem orderKept_c5 : laidOutB Tryz.prog = true := by kernel_rfl
theorem orderKept_c6 : mapsRowed Tryz.prog = true := by kernel_rfl
theorem orderKept_c7 : Tryz.prog.stopsHeard = true := by kernel_rfl
theorem orderKept_c8 : Tryz.prog.mayEnter = true := by kernel_rfl
theorem orderKept_facts : joinedFacts Tryz.prog 5 Tryz.f5 Rows.orderKeptSpec Rows.orderKeptRow = true := by
  unfold joinedFacts
  repeat' (with_reducible refine orderKept_and ?_ ?_)
  all_goals first | with_reducible exact orderKept_c0 | with_reducible exact orderKept_c1 | with_reducible exact orderKept_c2 | with_reducible exact orderKept_c3 | with_reducible exact orderKept_c4 | with_reducible exact orderKept_c5 | with_reducible exact orderKept_c6 | with_reducible exact orderKept_c7 | with_reducible exact orderKept_c8 | kernel_rfl
theorem orderKept_over : Rows.orderKeptRow.holds Tryz.pinned (OpenSpec.ofChange Rows.orderKeptSpec) :=
  OpenClaim.holds_of_wide 5 Tryz.f5 rfl rfl rfl rfl rfl rfl rfl ⟨rfl, rfl, rfl, rfl, rfl⟩ rfl rfl rfl rfl rfl (by kernel_rfl) Tryz.func5 orderKept_facts
    (of_decide_eq_true (by kernel_rfl)) (by unfold Func.isWrapper; rw [if_neg (of_decide_eq_false (by kernel_rfl))]; exact ⟨rfl, rfl⟩)
    (fun os started H enc _ => orderKept_lifted os started H enc)
theorem orderKept_proved : Rows.OrderKeptSaid := orderKept_over
#print axioms orderKept_proved
end Go.Proofs.YtnjgfhgpicmklaaGreat
