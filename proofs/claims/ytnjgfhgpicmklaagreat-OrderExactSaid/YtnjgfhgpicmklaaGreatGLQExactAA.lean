import Derived.Test.YtnjgfhgpicmklaaGreatGQBB
import Derived.Test.YtnjgfhgpicmklaaGreatRows
import Derived.Test.YtnjgfhgpicmklaaGreatGQAB
import Derived.Test.YtnjgfhgpicmklaaGreatGQAY
set_option linter.all false
namespace Go.Proofs.YtnjgfhgpicmklaaGreat
open Go.RowKit Go.Sort Sx
def seenE (es : List Int) (i : Nat) : Bool := (es.take i).any fun e => e != 0
theorem seenE_succ {es : List Int} {i : Nat} (h : i < es.length) : seenE es (i + 1) = (seenE es i || es[i] != 0) := by
  unfold seenE; rw [List.take_succ_eq_append_getElem h, List.any_append]; simp
theorem seenE_false {es : List Int} {i : Nat} (h : i ≤ es.length) : seenE es i = false ↔ ∀ k (hk : k < es.length), k < i → es[k] = 0 := by
  unfold seenE
  rw [List.any_eq_false]
  constructor
  · intro H k hk hki
    have := H es[k] (by rw [List.mem_take_iff_getElem]; exact ⟨k, by omega, rfl⟩)
    simpa using this
  · intro H e he
    obtain ⟨k, hk, rfl⟩ := List.mem_take_iff_getElem.1 he
    have := H k (by omega) (by omega)
    simpa using this
theorem first_at {es : List Int} {i : Nat} (h : i < es.length) (h0 : seenE es i = false) (h1 : es[i] ≠ 0) : firstE es = ((i : Int), 0) := by
  unfold firstE
  rw [fst0_some.2 ⟨h, h1, fun k hk hki => (seenE_false (by omega)).1 h0 k hk hki⟩]
theorem first_end (es : List Int) : ((firstE es).2 = 0 ∧ seenE es es.length = true) ∨ ((firstE es).2 = 6 ∧ seenE es es.length = false) := by
  unfold firstE
  cases h : fst0 es with
  | none =>
    refine .inr ⟨rfl, (seenE_false (Nat.le_refl _)).2 fun k hk _ => fst0_none.1 h _ (List.getElem_mem hk)⟩
  | some i =>
    obtain ⟨h1, h2, _⟩ := fst0_some.1 h
    refine .inl ⟨rfl, ?_⟩
    cases hs : seenE es es.length with
    | true => rfl
    | false => exact absurd ((seenE_false (Nat.le_refl _)).1 hs i h1 h1) h2
set_option maxRecDepth 100000 in
set_option maxHeartbeats 8000000 in
theorem LQExact_fn (m : Md) (l : List Ak) : FnOK Tryz.prog 6 [m.dc, .one (aks l)] (.c (.one (bol true))) := by
  have HA := QLalive_fn
  have HF := QLfit_fn m l
  cases hq : qfit m l <;> rw [hq] at HF
  · refine fn_ok (by kernel_rfl) ty_ok Tryz.func6 rfl (fun _ _ => Tryz.call6 _ _) rfl ?_
    intro hw
    clear hw
    exact zw
  · obtain ⟨h20, hm⟩ := qfit_ok hq
    have hel := errs_len m l
    have hrl := runs_len m l
    have hre := fun i => run_e (m := m) (l := l) (i := i)
    have E1 := qErrors_fn m l
    have E2 := oRun_fn m l
    have E3 := qFirst_fn m l
    have e1 : errorsV m l = (errsV m l, 0) := by unfold errorsV; rw [if_pos hm, if_neg (by omega)]
    have e2 : runV m l = ((runs m l).1, (runs m l).2, 0) := by unfold runV; rw [if_pos hm, if_neg (by omega)]
    have e3 : ofirstV m l = firstE (errsV m l) := by unfold ofirstV; rw [if_pos hm, if_neg (by omega)]
    rw [e1] at E1
    rw [e2] at E2
    rw [e3] at E3
    have HE : ∀ (h : 0 < l.length) (h' : 0 < (errsV m l).length), FnOK Tryz.prog 31 [m.dc, l[0].dc] (ret2 ((errsV m l)[0], 0)) := fun h h' => by
      have := qError_fn m l[0]
      unfold errV at this
      rw [if_pos hm] at this
      have e : (errsV m l)[0] = (askV m l[0]).2.e := by
        cases l with
        | nil => cases h
        | cons a r => rfl
      rw [e]; exact this
    clear e1 e2 e3 hq
    have hfe := first_end (errsV m l)
    have hfa := fun i => first_at (es := errsV m l) (i := i)
    generalize errsV m l = es at *
    generalize (runs m l).2 = R at *
    generalize (runs m l).1 = m' at *
    generalize hfi : firstE es = F at *
    obtain ⟨f1, f2⟩ := F
    simp only [ret2, retI, retR] at E1 E2 E3 HE
    have hpl : (es.map fun i => [i64 i]).length = es.length := List.length_map ..
    have hrp : (R.map Rp.c).length = R.length := List.length_map ..
    have hal : (l.map Ak.c).length = l.length := List.length_map ..
    have hf2 : f2 = 0 ∨ f2 = 6 := by rcases hfe with h | h; exact .inl h.1; exact .inr h.1
    rcases hf2 with hf2 | hf2
    · refine fn_ok (by kernel_rfl) ty_ok Tryz.func6 rfl (fun _ _ => Tryz.call6 _ _) rfl ?_
      intro hw
      clear hw
      repeat' ((conv => whnf); first | (with_reducible first | refine br_t ?_ | refine br_f ?_ | refine za ?_ | refine zg ?_) | rw [hpl] | rw [hrp] | rw [hal] | refine zp ?_ | refine zq ?_ | (with_reducible first | refine bc (fun h => ?_) (fun h => ?_) | refine zt ?_ | refine zf ?_ | refine br_i (fun h => ?_) (fun h => ?_)) | refine zg ?_ | refine zi ?_ | refine zb ?_)
      have hel0 : es.length = l.length := hel
      refine loop_J (by kernel_rfl) ty_ok (σ := Nat) (fun i => [(14, sV (.int .i64 i)), (13, sV (.bool (seenE es i)))]) (fun _ => []) (fun i => i ≤ l.length) (fun i => l.length - i) 0 (Nat.zero_le _) ?_ ?_
      · (conv => whnf); exact zent
      intro i hi
      rcases Nat.lt_or_ge i l.length with hlt | hge
      · have hie : i < es.length := by omega
        have hir : i < R.length := by omega
        have g1 := ints_get hie
        have g2 := rps_get hir
        have he := hre i hir hie
        have hsc := seenE_succ hie
        have ha := hfa i hie
        clear hre hfa HE
        generalize es[i] = z at *
        generalize R[i] = r at *
        cases hs : seenE es i
        · rw [hs] at hsc
          by_cases hz : z = 0
          · have hsc : false = seenE es (i + 1) := by rw [hsc, hz]; rfl
            clear ha
            repeat' ((conv => whnf); first | (with_reducible first | refine br_t ?_ | refine br_f ?_ | refine za ?_ | refine zg ?_) | rw [hpl] | rw [hrp] | rw [hal] | refine zp ?_ | refine zq ?_ | (with_reducible first | refine bc (fun h => ?_) (fun h => ?_) | refine zt ?_ | refine zf ?_ | refine br_i (fun h => ?_) (fun h => ?_)) | refine zg ?_ | refine zi ?_ | refine zb ?_)
            all_goals conv => whnf
            refine ⟨i + 1, hlt, ?_, by omega⟩
            (conv => whnf); refine ⟨by repeat' (first | with_reducible exact zE0 | with_reducible refine zE1 ?_ ?_ | rfl | assumption | (first | exact congrArg (fun x => some (sV (.bool x))) hsc | exact congrArg (fun x => some (sV (.bool x))) ((by simp [hz] : (z != 0) = false).trans hsc)) | exact zi1 | exact zb1), by repeat' (first | with_reducible exact zH0 | with_reducible refine zH1 ?_ ?_ | rfl | assumption | (first | exact congrArg (fun x => some (sV (.bool x))) hsc | exact congrArg (fun x => some (sV (.bool x))) ((by simp [hz] : (z != 0) = false).trans hsc))), rfl⟩
          · have ha := ha hs hz
            have e1 : f1 = (i : Int) := congrArg Prod.fst ha
            have e2 : f2 = 0 := congrArg Prod.snd ha
            have hsc : true = seenE es (i + 1) := by rw [hsc]; simp [hz]
            clear ha
            repeat' ((conv => whnf); first | (with_reducible first | refine br_t ?_ | refine br_f ?_ | refine za ?_ | refine zg ?_) | rw [hpl] | rw [hrp] | rw [hal] | refine zp ?_ | refine zq ?_ | (with_reducible first | refine bc (fun h => ?_) (fun h => ?_) | refine zt ?_ | refine zf ?_ | refine br_i (fun h => ?_) (fun h => ?_)) | refine zg ?_ | refine zi ?_ | refine zb ?_)
            all_goals conv => whnf
            refine ⟨i + 1, hlt, ?_, by omega⟩
            (conv => whnf); refine ⟨by repeat' (first | with_reducible exact zE0 | with_reducible refine zE1 ?_ ?_ | rfl | assumption | (first | exact congrArg (fun x => some (sV (.bool x))) hsc | exact congrArg (fun x => some (sV (.bool x))) ((by simp [hz] : (z != 0) = true).trans hsc)) | exact zi1 | exact zb1), by repeat' (first | with_reducible exact zH0 | with_reducible refine zH1 ?_ ?_ | rfl | assumption | (first | exact congrArg (fun x => some (sV (.bool x))) hsc | exact congrArg (fun x => some (sV (.bool x))) ((by simp [hz] : (z != 0) = true).trans hsc))), rfl⟩
        · rw [hs] at hsc
          have hsc : true = seenE es (i + 1) := by rw [hsc]; rfl
          clear ha
          repeat' ((conv => whnf); first | (with_reducible first | refine br_t ?_ | refine br_f ?_ | refine za ?_ | refine zg ?_) | rw [hpl] | rw [hrp] | rw [hal] | refine zp ?_ | refine zq ?_ | (with_reducible first | refine bc (fun h => ?_) (fun h => ?_) | refine zt ?_ | refine zf ?_ | refine br_i (fun h => ?_) (fun h => ?_)) | refine zg ?_ | refine zi ?_ | refine zb ?_)
          all_goals conv => whnf
          refine ⟨i + 1, hlt, ?_, by omega⟩
          (conv => whnf); refine ⟨by repeat' (first | with_reducible exact zE0 | with_reducible refine zE1 ?_ ?_ | rfl | assumption | ((exact congrArg (fun x => some (sV (.bool x))) hsc)) | exact zi1 | exact zb1), by repeat' (first | with_reducible exact zH0 | with_reducible refine zH1 ?_ ?_ | rfl | assumption | ((exact congrArg (fun x => some (sV (.bool x))) hsc))), rfl⟩
      · obtain rfl : i = l.length := by omega
        rw [hel0] at hfe
        have hsq : ∀ q : Bool, ((f2 = 0 ∧ q = true) ∨ (f2 = 6 ∧ q = false)) → (q == (f2 == 0)) = true := fun q h => by
          rcases h with ⟨h1, h2⟩ | ⟨h1, h2⟩ <;> subst h1 h2 <;> rfl
        have hfin := hsq _ hfe
        clear hsq hfe hre hfa E1 E2 E3 HA HF
        generalize seenE es l.length = q at *
        by_cases h0 : 0 < l.length
        · have g0 : (l.map Ak.c)[(0 : Int).toNat]? = some _ := aks_get h0
          have ge0 : 0 < es.length := by omega
          have g1 : (es.map fun i => [i64 i])[(0 : Int).toNat]? = some [i64 es[0]] := ints_get ge0
          have H0 := HE h0 ge0
          clear HE
          generalize l[0] = a at *
          generalize es[0] = z at *
          repeat' ((conv => whnf); first | (with_reducible first | refine br_t ?_ | refine br_f ?_ | refine za ?_ | refine zg ?_) | rw [hpl] | rw [hrp] | rw [hal] | refine zp ?_ | refine zq ?_ | (with_reducible first | refine bc (fun h => ?_) (fun h => ?_) | refine zt ?_ | refine zf ?_ | refine br_i (fun h => ?_) (fun h => ?_)) | refine zg ?_ | refine zi ?_ | refine zb ?_)
          all_goals conv => whnf
          all_goals first | rfl | exact r_bool hfin
        · clear HE
          repeat' ((conv => whnf); first | (with_reducible first | refine br_t ?_ | refine br_f ?_ | refine za ?_ | refine zg ?_) | rw [hpl] | rw [hrp] | rw [hal] | refine zp ?_ | refine zq ?_ | (with_reducible first | refine bc (fun h => ?_) (fun h => ?_) | refine zt ?_ | refine zf ?_ | refine br_i (fun h => ?_) (fun h => ?_)) | refine zg ?_ | refine zi ?_ | refine zb ?_)
          all_goals conv => whnf
          all_goals first | rfl | exact r_bool hfin
    · refine fn_ok (by kernel_rfl) ty_ok Tryz.func6 rfl (fun _ _ => Tryz.call6 _ _) rfl ?_
      intro hw
      clear hw
      repeat' ((conv => whnf); first | (with_reducible first | refine br_t ?_ | refine br_f ?_ | refine za ?_ | refine zg ?_) | rw [hpl] | rw [hrp] | rw [hal] | refine zp ?_ | refine zq ?_ | (with_reducible first | refine bc (fun h => ?_) (fun h => ?_) | refine zt ?_ | refine zf ?_ | refine br_i (fun h => ?_) (fun h => ?_)) | refine zg ?_ | refine zi ?_ | refine zb ?_)
      have hel0 : es.length = l.length := hel
      refine loop_J (by kernel_rfl) ty_ok (σ := Nat) (fun i => [(14, sV (.int .i64 i)), (13, sV (.bool (seenE es i)))]) (fun _ => []) (fun i => i ≤ l.length) (fun i => l.length - i) 0 (Nat.zero_le _) ?_ ?_
      · (conv => whnf); exact zent
      intro i hi
      rcases Nat.lt_or_ge i l.length with hlt | hge
      · have hie : i < es.length := by omega
        have hir : i < R.length := by omega
        have g1 := ints_get hie
        have g2 := rps_get hir
        have he := hre i hir hie
        have hsc := seenE_succ hie
        have ha := hfa i hie
        clear hre hfa HE
        generalize es[i] = z at *
        generalize R[i] = r at *
        cases hs : seenE es i
        · rw [hs] at hsc
          by_cases hz : z = 0
          · have hsc : false = seenE es (i + 1) := by rw [hsc, hz]; rfl
            clear ha
            repeat' ((conv => whnf); first | (with_reducible first | refine br_t ?_ | refine br_f ?_ | refine za ?_ | refine zg ?_) | rw [hpl] | rw [hrp] | rw [hal] | refine zp ?_ | refine zq ?_ | (with_reducible first | refine bc (fun h => ?_) (fun h => ?_) | refine zt ?_ | refine zf ?_ | refine br_i (fun h => ?_) (fun h => ?_)) | refine zg ?_ | refine zi ?_ | refine zb ?_)
            all_goals conv => whnf
            refine ⟨i + 1, hlt, ?_, by omega⟩
            (conv => whnf); refine ⟨by repeat' (first | with_reducible exact zE0 | with_reducible refine zE1 ?_ ?_ | rfl | assumption | (first | exact congrArg (fun x => some (sV (.bool x))) hsc | exact congrArg (fun x => some (sV (.bool x))) ((by simp [hz] : (z != 0) = false).trans hsc)) | exact zi1 | exact zb1), by repeat' (first | with_reducible exact zH0 | with_reducible refine zH1 ?_ ?_ | rfl | assumption | (first | exact congrArg (fun x => some (sV (.bool x))) hsc | exact congrArg (fun x => some (sV (.bool x))) ((by simp [hz] : (z != 0) = false).trans hsc))), rfl⟩
          · have ha := ha hs hz
            have e1 : f1 = (i : Int) := congrArg Prod.fst ha
            have e2 : f2 = 0 := congrArg Prod.snd ha
            omega
        · rw [hs] at hsc
          have hsc : true = seenE es (i + 1) := by rw [hsc]; rfl
          clear ha
          repeat' ((conv => whnf); first | (with_reducible first | refine br_t ?_ | refine br_f ?_ | refine za ?_ | refine zg ?_) | rw [hpl] | rw [hrp] | rw [hal] | refine zp ?_ | refine zq ?_ | (with_reducible first | refine bc (fun h => ?_) (fun h => ?_) | refine zt ?_ | refine zf ?_ | refine br_i (fun h => ?_) (fun h => ?_)) | refine zg ?_ | refine zi ?_ | refine zb ?_)
          all_goals conv => whnf
          refine ⟨i + 1, hlt, ?_, by omega⟩
          (conv => whnf); refine ⟨by repeat' (first | with_reducible exact zE0 | with_reducible refine zE1 ?_ ?_ | rfl | assumption | ((exact congrArg (fun x => some (sV (.bool x))) hsc)) | exact zi1 | exact zb1), by repeat' (first | with_reducible exact zH0 | with_reducible refine zH1 ?_ ?_ | rfl | assumption | ((exact congrArg (fun x => some (sV (.bool x))) hsc))), rfl⟩
      · obtain rfl : i = l.length := by omega
        rw [hel0] at hfe
        have hsq : ∀ q : Bool, ((f2 = 0 ∧ q = true) ∨ (f2 = 6 ∧ q = false)) → (q == (f2 == 0)) = true := fun q h => by
          rcases h with ⟨h1, h2⟩ | ⟨h1, h2⟩ <;> subst h1 h2 <;> rfl
        have hfin := hsq _ hfe
        clear hsq hfe hre hfa E1 E2 E3 HA HF
        generalize seenE es l.length = q at *
        by_cases h0 : 0 < l.length
        · have g0 : (l.map Ak.c)[(0 : Int).toNat]? = some _ := aks_get h0
          have ge0 : 0 < es.length := by omega
          have g1 : (es.map fun i => [i64 i])[(0 : Int).toNat]? = some [i64 es[0]] := ints_get ge0
          have H0 := HE h0 ge0
          clear HE
          generalize l[0] = a at *
          generalize es[0] = z at *
          repeat' ((conv => whnf); first | (with_reducible first | refine br_t ?_ | refine br_f ?_ | refine za ?_ | refine zg ?_) | rw [hpl] | rw [hrp] | rw [hal] | refine zp ?_ | refine zq ?_ | (with_reducible first | refine bc (fun h => ?_) (fun h => ?_) | refine zt ?_ | refine zf ?_ | refine br_i (fun h => ?_) (fun h => ?_)) | refine zg ?_ | refine zi ?_ | refine zb ?_)
          all_goals conv => whnf
          all_goals first | rfl | exact r_bool hfin
        · clear HE
          repeat' ((conv => whnf); first | (with_reducible first | refine br_t ?_ | refine br_f ?_ | refine za ?_ | refine zg ?_) | rw [hpl] | rw [hrp] | rw [hal] | refine zp ?_ | refine zq ?_ | (with_reducible first | refine bc (fun h => ?_) (fun h => ?_) | refine zt ?_ | refine zf ?_ | refine br_i (fun h => ?_) (fun h => ?_)) | refine zg ?_ | refine zi ?_ | refine zb ?_)
          all_goals conv => whnf
          all_goals first | rfl | exact r_bool hfin
end Go.Proofs.YtnjgfhgpicmklaaGreat

namespace Go.Proofs.YtnjgfhgpicmklaaGreat
open Go.RowKit Go.ChangeShapes Go.WideShapes Go.ChangeAt Sx
theorem orderExact_own : ownKnob Tryz.prog.godebug = none := by kernel_rfl
set_option maxRecDepth 100000 in
theorem orderExact_lifted (os : Os) (started : os.Started) (H : Type) (enc : TypeId × Value → H) :
    ReturnsInHanded {} Tryz.checked os 6 .any (Rows.orderExactSpec.pre6 enc Tryz.prog Tryz.f6 Rows.orderExactRow.domain false) (Rows.orderExactSpec.post enc Tryz.prog Tryz.f6 false true false false) := by
  refine returnsInHanded_of_change (C := Tryz.checked) orderExact_own started (by kernel_rfl) Tryz.func6
    (ChangeSpec.witness6 (enc := enc) (C := Tryz.checked) false ⟨#[], #[.agg #[.int .i64 0, .int .i64 0, .slice none 0 0], .slice none 0 0], []⟩ 12 (by kernel_rfl) (by kernel_rfl) (by kernel_rfl) (by kernel_rfl)) ?_
  intro W base args ds gs before hval0 hW hcnd _
  have hval : ∀ (j : Nat) t v, Tryz.f6.params[j]? = some t → args[j]? = some v → Value.okWide Tryz.prog W .any base t v := hval0
  have hW' := hW
  obtain ⟨p, q, hA0, hV, rfl, hfz, hnd⟩ := hW
  have hA : DataW.TrodAll enc Tryz.prog W 0 (fun _ => true) true Tryz.f6.params.toList args.toList ds p := hA0
  rw [Tryz.params6] at hA hval
  obtain ⟨v0, vs0, d0, ds0, p0, q0, hargs, rfl, rfl, h0, r0⟩ := trodAll_cons hA
  obtain ⟨v1, vs1, d1, ds1, p1, q1, rfl, rfl, rfl, h1, r1⟩ := trodAll_cons r0
  obtain ⟨rfl, rfl, rfl⟩ := trodAll_nil r1
  obtain rfl : args = #[v0, v1] := by cases args; simp_all
  obtain ⟨e0, hd0, hf0⟩ := arg_data (tyB_ok (s := shModel) (by kernel_rfl)) (hval 0 28 v0 rfl rfl) h0
  obtain ⟨x0, rfl⟩ := fit_model hf0
  obtain ⟨e1, hd1, hf1⟩ := arg_data (tyB_ok (s := shAsks) (by kernel_rfl)) (hval 1 29 v1 rfl rfl) h1
  obtain ⟨x1, rfl⟩ := fit_asks hf1
  refine (law_of_fn (vs := [v0, v1]) (fun _ _ => Tryz.call6 _ _) (LQExact_fn x0 x1) ⟨hd0, hd1, trivial⟩).mono fun e W' ⟨he, hb⟩ => ?_
  subst he
  exact ⟨_, rfl, law_post (by kernel_rfl) (by kernel_rfl) rfl Tryz.underlying4 rfl hW' ⟨rfl, rfl, rfl⟩ hb⟩
theorem orderExact_and {a b : Bool} (h : a = true) (k : b = true) : (a && b) = true := by rw [h, k]; rfl
theorem orderExact_c0 : (Rows.orderExactRow.inPlace == Tryz.prog.inPlace 6) = true := by kernel_rfl
theorem orderExact_c1 : (Rows.orderExactRow.unfollowed == Tryz.prog.unfollowed 6) = true := by kernel_rfl
theorem orderExact_c2 : (Rows.orderExactRow.recurses == Tryz.prog.recurses 6) = true := by kernel_rfl
theorem orderExact_c3 : (Rows.orderExactRow.named == Tryz.prog.varsNamed 6) = true := by kernel_rfl
theorem orderExact_c4 : (Rows.orderExactRow.loops == (Tryz.f6.params.toList ++ Rows.orderExactSpec.plain.varTypes Tryz.prog).any (Tryz.prog.loopsFrom ·)) = true := by kernel_rfl
theorem orderExact_c5 : laidOutB Tryz.prog = true := by kernel_rfl
theorem orderExact_c6 : mapsRowed Tryz.prog = true := by kernel_rfl
theorem orderExact_c7 : Tryz.prog.stopsHeard = true := by kernel_rfl
theorem orderExact_c8 : Tryz.prog.mayEnter = true := by kernel_rfl
theorem orderExact_facts : joinedFacts Tryz.prog 6 Tryz.f6 Rows.orderExactSpec Rows.orderExactRow = true := by
  unfold joinedFacts
  repeat' (with_reducible refine orderExact_and ?_ ?_)
  all_goals first | with_reducible exact orderExact_c0 | with_reducible exact orderExact_c1 | with_reducible exact orderExact_c2 | with_reducible exact orderExact_c3 | with_reducible exact orderExact_c4 | with_reducible exact orderExact_c5 | with_reducible exact orderExact_c6 | with_reducible exact orderExact_c7 | with_reducible exact orderExact_c8 | kernel_rfl
theorem orderExact_over : Rows.orderExactRow.holds Tryz.pinned (OpenSpec.ofChange Rows.orderExactSpec) :=
  OpenClaim.holds_of_wide 6 Tryz.f6 rfl rfl rfl rfl rfl rfl rfl ⟨rfl, rfl, rfl, rfl, rfl⟩ rfl rfl rfl rfl rfl (by kernel_rfl) Tryz.func6 orderExact_facts
    (of_decide_eq_true (by kernel_rfl)) (by unfold Func.isWrapper; rw [if_neg (of_decide_eq_false (by kernel_rfl))]; exact ⟨rfl, rfl⟩)
    (fun os started H enc _ => orderExact_lifted os started H enc)
theorem orderExact_proved : Rows.OrderExactSaid := orderExact_over
#print axioms orderExact_proved
end Go.Proofs.YtnjgfhgpicmklaaGreat
