import Derived.Test.YtnjgfhgpicmklaaGQAP
import Derived.Test.YtnjgfhgpicmklaaRows
import Derived.Test.YtnjgfhgpicmklaaGQAA
import Derived.Test.YtnjgfhgpicmklaaGQAN
set_option linter.all false
namespace Go.Proofs.Ytnjgfhgpicmklaa
open Go.RowKit Go.Sort Sx
theorem prc_get1 {l : List (Int × Int)} {i : Nat} (h0 : 0 < i) (hb : i ≤ 1000) (h : i < l.length) : (prc l)[(IntKind.i64.wrap ((i : Int) - 1)).toNat]? = some [i64 (l[i - 1]'(by omega)).1, i64 (l[i - 1]'(by omega)).2] := by
  have ew : IntKind.i64.wrap ((i : Int) - 1) = ((i - 1 : Nat) : Int) := by rw [IntWalk.i64_in _ (by omega)]; omega
  rw [ew]; exact prc_get (by omega)
set_option maxRecDepth 100000 in
set_option maxHeartbeats 8000000 in
theorem LQFree_fn (m : Md) (l : List Ak) : FnOK Try.prog 5 [m.dc, .one (aks l)] (.c (.one (bol true))) := by
  have HA := QLalive_fn
  have HF := QLfit_fn m l
  cases hq : qfit m l <;> rw [hq] at HF
  · refine fn_ok (by kernel_rfl) ty_ok Try.func5 rfl (fun _ _ => Try.call5 _ _) rfl ?_
    intro hw
    clear hw
    exact zw
  · obtain ⟨h20, hm⟩ := qfit_ok hq
    obtain ⟨g1, g2⟩ := mchk_ok hm
    obtain ⟨k1, k2, k3⟩ := fchk_ok g2
    have hR := errs_rng l hm
    have hel := errs_len m l
    have E1 := qCounts_fn m l
    have e1 : countsV m l = (cnts (errsV m l), 0) := by unfold countsV; rw [if_pos hm, if_neg (by omega)]
    rw [e1] at E1
    have hsum := sum_cnts hR
    have hcg := fun i => cnts_get (es := errsV m l) (i := i)
    have hca := fun i j => cnts_asc (es := errsV m l) (i := i) (j := j)
    have hcr := fun i => sumC_rng (es := errsV m l) i
    have hcl : (cnts (errsV m l)).length ≤ 100 := cntTo_len _ _
    have hlen : (m.l.map Pt.c).length = m.l.length := List.length_map ..
    have hal : (l.map Ak.c).length = l.length := List.length_map ..
    rw [hel] at hsum hcg hcr
    clear hR hq e1
    generalize cnts (errsV m l) = C at *
    have hpl : (prc C).length = C.length := List.length_map ..
    have E2 := qFree_fn m
    have T := fun i : Int => QLput_fn i
    rcases free_ok hm with ⟨hf, e2⟩ | ⟨n, hf, e2, n1, n2, n3, n4⟩
    · rw [e2] at E2
      simp only [retCn, ret2] at E1 E2
      refine fn_ok (by kernel_rfl) ty_ok Try.func5 rfl (fun _ _ => Try.call5 _ _) rfl ?_
      intro hw
      clear hw
      repeat' ((conv => whnf); first | (with_reducible first | refine br_t ?_ | refine br_f ?_ | refine za ?_ | refine zg ?_) | rw [hpl] | refine zp ?_ | refine zq ?_ | (with_reducible first | refine bc (fun h => ?_) (fun h => ?_) | refine zt ?_ | refine zf ?_ | refine br_i (fun h => ?_) (fun h => ?_)) | refine zg ?_ | refine zi ?_ | refine zb ?_)
      refine loop_J (by kernel_rfl) ty_ok (σ := Nat) (fun i => [(9, sV (.int .i64 i)), (8, sV (.int .i64 (sumC (C.take i))))]) (fun _ => []) (fun i => i ≤ C.length) (fun i => C.length - i) 0 (Nat.zero_le _) ?_ ?_
      · (conv => whnf); exact zent
      intro i hi
      obtain ⟨r1, r2⟩ := hcr i
      have hil : (i : Int) * (l.length : Int) ≤ 2000 := by
        have : i * l.length ≤ 100 * 20 := Nat.mul_le_mul (by omega) h20
        have e : ((i * l.length : Nat) : Int) = (i : Int) * (l.length : Int) := Int.natCast_mul ..
        omega
      rcases Nat.lt_or_ge i C.length with hlt | hge
      · have g3 := prc_get hlt
        obtain ⟨c1, c2⟩ := hcg i hlt
        have hs := sumC_succ hlt
        have r3 := Int.le_trans r2 hil
        clear hcg hcr hsum r2 hil
        rcases Nat.eq_zero_or_pos i with rfl | h0
        · clear hca
          generalize C[0] = p at *
          generalize sumC (C.take 0) = z at *
          repeat' ((conv => whnf); first | (with_reducible first | refine br_t ?_ | refine br_f ?_ | refine za ?_ | refine zg ?_) | rw [hpl] | refine zp ?_ | refine zq ?_ | (with_reducible first | refine bc (fun h => ?_) (fun h => ?_) | refine zt ?_ | refine zf ?_ | refine br_i (fun h => ?_) (fun h => ?_)) | refine zg ?_ | refine zi ?_ | refine zb ?_)
          all_goals conv => whnf
          have ews : IntKind.i64.wrap (z + p.2) = sumC (C.take (0 + 1)) := by rw [hs, IntWalk.i64_in _ (by omega)]
          refine ⟨0 + 1, hlt, ?_, by omega⟩
          (conv => whnf); refine ⟨by repeat' (first | with_reducible exact zE0 | with_reducible refine zE1 ?_ ?_ | rfl | assumption | ((exact congrArg (fun x => some (sV (.int .i64 x))) ews)) | exact zi1 | exact zb1), by repeat' (first | with_reducible exact zH0 | with_reducible refine zH1 ?_ ?_ | rfl | assumption | ((exact congrArg (fun x => some (sV (.int .i64 x))) ews))), rfl⟩
        · have ew : IntKind.i64.wrap ((i : Int) - 1) = ((i - 1 : Nat) : Int) := by rw [IntWalk.i64_in _ (by omega)]; omega
          have g4 := prc_get1 h0 (by omega) hlt
          have ha := hca (i - 1) i (by omega) hlt (by omega)
          clear hca
          generalize C[i] = p at *
          generalize C[i - 1] = q at *
          generalize sumC (C.take i) = z at *
          repeat' ((conv => whnf); first | (with_reducible first | refine br_t ?_ | refine br_f ?_ | refine za ?_ | refine zg ?_) | rw [hpl] | refine And.intro (by rw [ew]; omega) ?_ | refine ⟨_, ⟨g4, by decide⟩, ?_⟩ | refine zp ?_ | refine zq ?_ | (with_reducible first | refine bc (fun h => ?_) (fun h => ?_) | refine zt ?_ | refine zf ?_ | refine br_i (fun h => ?_) (fun h => ?_)) | refine zg ?_ | refine zi ?_ | refine zb ?_)
          all_goals conv => whnf
          have ews : IntKind.i64.wrap (z + p.2) = sumC (C.take (i + 1)) := by rw [hs, IntWalk.i64_in _ (by omega)]
          refine ⟨i + 1, hlt, ?_, by omega⟩
          (conv => whnf); refine ⟨by repeat' (first | with_reducible exact zE0 | with_reducible refine zE1 ?_ ?_ | rfl | assumption | ((exact congrArg (fun x => some (sV (.int .i64 x))) ews)) | exact zi1 | exact zb1), by repeat' (first | with_reducible exact zH0 | with_reducible refine zH1 ?_ ?_ | rfl | assumption | ((exact congrArg (fun x => some (sV (.int .i64 x))) ews))), rfl⟩
      · obtain rfl : i = C.length := by omega
        rw [List.take_length] at *
        clear hcg hcr hca
        rw [hsum]
        repeat' ((conv => whnf); first | (with_reducible first | refine br_t ?_ | refine br_f ?_ | refine za ?_ | refine zg ?_) | rw [hpl] | rw [hlen] | rw [hal] | refine zp ?_ | refine zq ?_ | (with_reducible first | refine bc (fun h => ?_) (fun h => ?_) | refine zt ?_ | refine zf ?_ | refine br_i (fun h => ?_) (fun h => ?_)) | refine zg ?_ | refine zi ?_ | refine zb ?_)
        all_goals conv => whnf
        all_goals first | rfl | exact r_bool (beq_iff_eq.2 (by omega))
    · rw [e2] at E2
      simp only [retCn, ret2] at E1 E2
      have R1 := QLerr_fn m (putA n) 0
      rw [err_put hm (by omega) (by omega), n4, if_neg (by decide), if_neg hf, decide_eq_true rfl] at R1
      have P1 := QLput_fn n
      have A1 := rfAt_fn m.l n
      rw [at1_has k3, n4, if_neg (by decide)] at A1
      refine fn_ok (by kernel_rfl) ty_ok Try.func5 rfl (fun _ _ => Try.call5 _ _) rfl ?_
      intro hw
      clear hw
      repeat' ((conv => whnf); first | (with_reducible first | refine br_t ?_ | refine br_f ?_ | refine za ?_ | refine zg ?_) | rw [hpl] | refine zp ?_ | refine zq ?_ | (with_reducible first | refine bc (fun h => ?_) (fun h => ?_) | refine zt ?_ | refine zf ?_ | refine br_i (fun h => ?_) (fun h => ?_)) | refine zg ?_ | refine zi ?_ | refine zb ?_)
      refine loop_J (by kernel_rfl) ty_ok (σ := Nat) (fun i => [(9, sV (.int .i64 i)), (8, sV (.int .i64 (sumC (C.take i))))]) (fun _ => []) (fun i => i ≤ C.length) (fun i => C.length - i) 0 (Nat.zero_le _) ?_ ?_
      · (conv => whnf); exact zent
      intro i hi
      obtain ⟨r1, r2⟩ := hcr i
      have hil : (i : Int) * (l.length : Int) ≤ 2000 := by
        have : i * l.length ≤ 100 * 20 := Nat.mul_le_mul (by omega) h20
        have e : ((i * l.length : Nat) : Int) = (i : Int) * (l.length : Int) := Int.natCast_mul ..
        omega
      rcases Nat.lt_or_ge i C.length with hlt | hge
      · have g3 := prc_get hlt
        obtain ⟨c1, c2⟩ := hcg i hlt
        have hs := sumC_succ hlt
        have r3 := Int.le_trans r2 hil
        clear hcg hcr hsum r2 hil
        rcases Nat.eq_zero_or_pos i with rfl | h0
        · clear hca
          generalize C[0] = p at *
          generalize sumC (C.take 0) = z at *
          repeat' ((conv => whnf); first | (with_reducible first | refine br_t ?_ | refine br_f ?_ | refine za ?_ | refine zg ?_) | rw [hpl] | refine zp ?_ | refine zq ?_ | (with_reducible first | refine bc (fun h => ?_) (fun h => ?_) | refine zt ?_ | refine zf ?_ | refine br_i (fun h => ?_) (fun h => ?_)) | refine zg ?_ | refine zi ?_ | refine zb ?_)
          all_goals conv => whnf
          have ews : IntKind.i64.wrap (z + p.2) = sumC (C.take (0 + 1)) := by rw [hs, IntWalk.i64_in _ (by omega)]
          refine ⟨0 + 1, hlt, ?_, by omega⟩
          (conv => whnf); refine ⟨by repeat' (first | with_reducible exact zE0 | with_reducible refine zE1 ?_ ?_ | rfl | assumption | ((exact congrArg (fun x => some (sV (.int .i64 x))) ews)) | exact zi1 | exact zb1), by repeat' (first | with_reducible exact zH0 | with_reducible refine zH1 ?_ ?_ | rfl | assumption | ((exact congrArg (fun x => some (sV (.int .i64 x))) ews))), rfl⟩
        · have ew : IntKind.i64.wrap ((i : Int) - 1) = ((i - 1 : Nat) : Int) := by rw [IntWalk.i64_in _ (by omega)]; omega
          have g4 := prc_get1 h0 (by omega) hlt
          have ha := hca (i - 1) i (by omega) hlt (by omega)
          clear hca
          generalize C[i] = p at *
          generalize C[i - 1] = q at *
          generalize sumC (C.take i) = z at *
          repeat' ((conv => whnf); first | (with_reducible first | refine br_t ?_ | refine br_f ?_ | refine za ?_ | refine zg ?_) | rw [hpl] | refine And.intro (by rw [ew]; omega) ?_ | refine ⟨_, ⟨g4, by decide⟩, ?_⟩ | refine zp ?_ | refine zq ?_ | (with_reducible first | refine bc (fun h => ?_) (fun h => ?_) | refine zt ?_ | refine zf ?_ | refine br_i (fun h => ?_) (fun h => ?_)) | refine zg ?_ | refine zi ?_ | refine zb ?_)
          all_goals conv => whnf
          have ews : IntKind.i64.wrap (z + p.2) = sumC (C.take (i + 1)) := by rw [hs, IntWalk.i64_in _ (by omega)]
          refine ⟨i + 1, hlt, ?_, by omega⟩
          (conv => whnf); refine ⟨by repeat' (first | with_reducible exact zE0 | with_reducible refine zE1 ?_ ?_ | rfl | assumption | ((exact congrArg (fun x => some (sV (.int .i64 x))) ews)) | exact zi1 | exact zb1), by repeat' (first | with_reducible exact zH0 | with_reducible refine zH1 ?_ ?_ | rfl | assumption | ((exact congrArg (fun x => some (sV (.int .i64 x))) ews))), rfl⟩
      · obtain rfl : i = C.length := by omega
        rw [List.take_length] at *
        clear hcg hcr hca
        rw [hsum]
        repeat' ((conv => whnf); first | (with_reducible first | refine br_t ?_ | refine br_f ?_ | refine za ?_ | refine zg ?_) | rw [hpl] | rw [hlen] | rw [hal] | refine zp ?_ | refine zq ?_ | (with_reducible first | refine bc (fun h => ?_) (fun h => ?_) | refine zt ?_ | refine zf ?_ | refine br_i (fun h => ?_) (fun h => ?_)) | refine zg ?_ | refine zi ?_ | refine zb ?_)
        clear HA HF E1 E2
        refine loop_J (by kernel_rfl) ty_ok (σ := Nat) (fun i => [(12, sV (.int .i64 i))]) (fun _ => []) (fun i => i ≤ n) (fun i => n - i) 0 (Nat.zero_le _) ?_ ?_
        · (conv => whnf); exact zent
        intro i hi
        rcases Nat.lt_or_ge i n with hlt | hge
        · have R2 := QLerr_fn m (putA i) 14
          rw [err_put hm (by omega) (by omega), n3 i hlt, if_pos rfl, decide_eq_true rfl] at R2
          have P2 := QLput_fn i
          have A2 := rfAt_fn m.l i
          rw [at1_has k3, n3 i hlt, if_pos rfl] at A2
          clear R1 P1 A1
          repeat' ((conv => whnf); first | (with_reducible first | refine br_t ?_ | refine br_f ?_ | refine za ?_ | refine zg ?_) | rw [hlen] | refine zp ?_ | refine zq ?_ | (with_reducible first | refine bc (fun h => ?_) (fun h => ?_) | refine zt ?_ | refine zf ?_ | refine br_i (fun h => ?_) (fun h => ?_)) | refine zg ?_ | refine zi ?_ | refine zb ?_)
          all_goals conv => whnf
          refine ⟨i + 1, hlt, ?_, by omega⟩
          (conv => whnf); exact zent
        · obtain rfl : i = n := by omega
          clear R1 P1
          repeat' ((conv => whnf); first | (with_reducible first | refine br_t ?_ | refine br_f ?_ | refine za ?_ | refine zg ?_) | rw [hlen] | refine zp ?_ | refine zq ?_ | (with_reducible first | refine bc (fun h => ?_) (fun h => ?_) | refine zt ?_ | refine zf ?_ | refine br_i (fun h => ?_) (fun h => ?_)) | refine zg ?_ | refine zi ?_ | refine zb ?_)
          all_goals conv => whnf
          all_goals rfl
end Go.Proofs.Ytnjgfhgpicmklaa

namespace Go.Proofs.Ytnjgfhgpicmklaa
open Go.RowKit Go.ChangeShapes Go.WideShapes Go.ChangeAt Sx
theorem orderFree_own : ownKnob Try.prog.godebug = none := by kernel_rfl
set_option maxRecDepth 100000 in
theorem orderFree_lifted (os : Os) (started : os.Started) (H : Type) (enc : TypeId × Value → H) :
    ReturnsInHanded {} Try.checked os 5 .any (Rows.orderFreeSpec.pre6 enc Try.prog Try.f5 Rows.orderFreeRow.domain false) (Rows.orderFreeSpec.post enc Try.prog Try.f5 false true false false) := by
  refine returnsInHanded_of_change (C := Try.checked) orderFree_own started (by kernel_rfl) Try.func5
    (ChangeSpec.witness6 (enc := enc) (C := Try.checked) false ⟨#[], #[.agg #[.int .i64 0, .int .i64 0, .slice none 0 0], .slice none 0 0], []⟩ 12 (by kernel_rfl) (by kernel_rfl) (by kernel_rfl) (by kernel_rfl)) ?_
  intro W base args ds gs before hval0 hW hcnd _
  have hval : ∀ (j : Nat) t v, Try.f5.params[j]? = some t → args[j]? = some v → Value.okWide Try.prog W .any base t v := hval0
  have hW' := hW
  obtain ⟨p, q, hA0, hV, rfl, hfz, hnd⟩ := hW
  have hA : DataW.TrodAll enc Try.prog W 0 (fun _ => true) true Try.f5.params.toList args.toList ds p := hA0
  rw [Try.params5] at hA hval
  obtain ⟨v0, vs0, d0, ds0, p0, q0, hargs, rfl, rfl, h0, r0⟩ := trodAll_cons hA
  obtain ⟨v1, vs1, d1, ds1, p1, q1, rfl, rfl, rfl, h1, r1⟩ := trodAll_cons r0
  obtain ⟨rfl, rfl, rfl⟩ := trodAll_nil r1
  obtain rfl : args = #[v0, v1] := by cases args; simp_all
  obtain ⟨e0, hd0, hf0⟩ := arg_data (tyB_ok (s := shModel) (by kernel_rfl)) (hval 0 28 v0 rfl rfl) h0
  obtain ⟨x0, rfl⟩ := fit_model hf0
  obtain ⟨e1, hd1, hf1⟩ := arg_data (tyB_ok (s := shAsks) (by kernel_rfl)) (hval 1 47 v1 rfl rfl) h1
  obtain ⟨x1, rfl⟩ := fit_asks hf1
  refine (law_of_fn (vs := [v0, v1]) (fun _ _ => Try.call5 _ _) (LQFree_fn x0 x1) ⟨hd0, hd1, trivial⟩).mono fun e W' ⟨he, hb⟩ => ?_
  subst he
  exact ⟨_, rfl, law_post (by kernel_rfl) (by kernel_rfl) rfl Try.underlying4 rfl hW' ⟨rfl, rfl, rfl⟩ hb⟩
theorem orderFree_and {a b : Bool} (h : a = true) (k : b = true) : (a && b) = true := by rw [h, k]; rfl
theorem orderFree_c0 : (Rows.orderFreeRow.inPlace == Try.prog.inPlace 5) = true := by kernel_rfl
theorem orderFree_c1 : (Rows.orderFreeRow.unfollowed == Try.prog.unfollowed 5) = true := by kernel_rfl
theorem orderFree_c2 : (Rows.orderFreeRow.recurses == Try.prog.recurses 5) = true := by kernel_rfl
theorem orderFree_c3 : (Rows.orderFreeRow.named == Try.prog.varsNamed 5) = true := by kernel_rfl
theorem orderFree_c4 : (Rows.orderFreeRow.loops == (Try.f5.params.toList ++ Rows.orderFreeSpec.plain.varTypes Try.prog).any (Try.prog.loopsFrom ·)) = true := by kernel_rfl
theorem orderFree_c5 : laidOutB Try.prog = true := by kernel_rfl
theorem orderFree_c6 : mapsRowed Try.prog = true := by kernel_rfl
theorem orderFree_c7 : Try.prog.stopsHeard = true := by kernel_rfl
theorem orderFree_c8 : Try.prog.mayEnter = true := by kernel_rfl
theorem orderFree_facts : joinedFacts Try.prog 5 Try.f5 Rows.orderFreeSpec Rows.orderFreeRow = true := by
  unfold joinedFacts
  repeat' (with_reducible refine orderFree_and ?_ ?_)
  all_goals first | with_reducible exact orderFree_c0 | with_reducible exact orderFree_c1 | with_reducible exact orderFree_c2 | with_reducible exact orderFree_c3 | with_reducible exact orderFree_c4 | with_reducible exact orderFree_c5 | with_reducible exact orderFree_c6 | with_reducible exact orderFree_c7 | with_reducible exact orderFree_c8 | kernel_rfl
theorem orderFree_over : Rows.orderFreeRow.holds Try.pinned (OpenSpec.ofChange Rows.orderFreeSpec) :=
  OpenClaim.holds_of_wide 5 Try.f5 rfl rfl rfl rfl rfl rfl rfl ⟨rfl, rfl, rfl, rfl, rfl⟩ rfl rfl rfl rfl rfl (by kernel_rfl) Try.func5 orderFree_facts
    (of_decide_eq_true (by kernel_rfl)) (by unfold Func.isWrapper; rw [if_neg (of_decide_eq_false (by kernel_rfl))]; exact ⟨rfl, rfl⟩)
    (fun os started H enc _ => orderFree_lifted os started H enc)
theorem orderFree_proved : Rows.OrderFreeSaid := orderFree_over
#print axioms orderFree_proved
end Go.Proofs.Ytnjgfhgpicmklaa
