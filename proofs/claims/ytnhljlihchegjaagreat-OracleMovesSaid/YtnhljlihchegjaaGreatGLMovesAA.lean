import Derived.Test.YtnhljlihchegjaaGreatGbBB
import Derived.Test.YtnhljlihchegjaaGreatGbAZ
import Derived.Test.YtnhljlihchegjaaGreatRows
import Derived.Test.YtnhljlihchegjaaGreatGbAB
import Derived.Test.YtnhljlihchegjaaGreatGbAY
set_option linter.all false
/- The law OracleMoves answers true. No condition. -/
namespace Go.Proofs.YtnhljlihchegjaaGreat
open Go.RowKit Go.Sort Sx
theorem btw_split {l : List Mt} (hs : Asc l) {n e p q r t : Int} (h1 : chk n e = 0) (h2 : chk p q = 0) (h3 : chk r t = 0) (k1 : ¬ p * e < n * q) (k2 : ¬ r * q < p * t) : btw l n e p q ++ btw l p q r t = btw l n e r t := by
  have m1 := bcnt_mono hs h1 h2 k1
  have m2 := bcnt_mono hs h2 h3 k2
  have b3 := bcnt_le l r t
  unfold btw
  generalize bcnt l n e = a at *
  generalize bcnt l p q = b at *
  generalize bcnt l r t = c at *
  have e1 : l.take c = l.take b ++ (l.take c).drop b := by
    conv => lhs; rw [← List.take_append_drop b (l.take c), List.take_take, Nat.min_eq_left m2]
  conv => rhs; rw [e1]
  rw [List.drop_append_of_le_length (by rw [List.length_take]; omega)]
set_option maxRecDepth 100000 in
set_option maxHeartbeats 2000000 in
theorem LMoves_fn (m : Md) (n d r t : Int) : FnOK Tryz.prog 6 [m.dc, rat n d, rat r t] (.c (.one (bol true))) := by
  have HA := Lalive_fn
  have H0 := Lfit_fn m
  have H1 := rasked_fn n d
  have H2 := rasked_fn r t
  have H3 := rcompare_fn m.n m.d n d
  have H4 := rcompare_fn n d r t
  by_cases hc : (!great m.l && decide (mchk m = 0)) = true ∧ askd n d = 0 ∧ askd r t = 0 ∧ m.n * d < n * m.d ∧ n * t < r * d
  · obtain ⟨c1, c2, c3, c4, c5⟩ := hc
    have e4 : cmpN (m.n * d) (n * m.d) = -1 := by unfold cmpN; rw [if_pos c4]
    have e5 : cmpN (n * t) (r * d) = -1 := by unfold cmpN; rw [if_pos c5]
    rw [c1] at H0
    rw [c2] at H1
    rw [c3] at H2
    rw [e4] at H3
    rw [e5] at H4
    have hm : mchk m = 0 := by simp at c1; exact c1.2
    obtain ⟨g1, g2⟩ := mchk_ok hm
    have A1 := (askd_ok g1)
    have A2 := (askd_ok c2)
    have A3 := (askd_ok c3)
    have c6 : m.n * t < r * m.d := by
      have q1 := (qv_ltM A1.1 A2.1).2 c4
      have q2 := (qv_ltM A2.1 A3.1).2 c5
      exact (qv_ltM A1.1 A3.1).1 (Std.lt_trans q1 q2)
    have hs := btw_split (allM_asc g2) A1.1 A2.1 A3.1 (show ¬ n * m.d < m.n * d by omega) (show ¬ r * d < n * t by omega)
    have R1 : runV m [⟨4, ⟨0, 0, 0⟩, 0, n, d⟩, ⟨4, ⟨0, 0, 0⟩, 0, r, t⟩] = (⟨r, t, m.l⟩, [⟨0, 0, 0, 0, 0, btw (allM m.l) m.n m.d n d⟩, ⟨0, 0, 0, 0, 0, btw (allM m.l) n d r t⟩], 0) := by
      unfold runV
      rw [if_pos hm, if_neg (by simp)]
      simp only [runs]
      rw [askV_move c2 (by omega)]
      dsimp only
      rw [askV_move c3 (show ¬ r * d ≤ n * t by omega)]
    have R2 : doV m ⟨4, ⟨0, 0, 0⟩, 0, r, t⟩ = (⟨r, t, m.l⟩, ⟨0, 0, 0, 0, 0, btw (allM m.l) m.n m.d r t⟩, 0) := by
      unfold doV
      rw [if_pos hm, askV_move c3 (by omega)]
    have B1 := oRun_fn m [⟨4, ⟨0, 0, 0⟩, 0, n, d⟩, ⟨4, ⟨0, 0, 0⟩, 0, r, t⟩]
    have B2 := oDo_fn m ⟨4, ⟨0, 0, 0⟩, 0, r, t⟩
    rw [R1] at B1
    rw [R2] at B2
    have M1 := Lmove_fn n d
    have M2 := Lmove_fn r t
    have S1 := roSameModel_fn ⟨r, t, m.l⟩ ⟨r, t, m.l⟩
    have l1 : (btw (allM m.l) m.n m.d n d).length ≤ 4096 := by
      unfold btw; rw [List.length_drop, List.length_take]; have : (allM m.l).length ≤ 4096 := by rw [msrt_len]; exact outs_len2 (fchk_ok g2).1
      omega
    have l2 : (btw (allM m.l) n d r t).length ≤ 4096 := by
      unfold btw; rw [List.length_drop, List.length_take]; have : (allM m.l).length ≤ 4096 := by rw [msrt_len]; exact outs_len2 (fchk_ok g2).1
      omega
    rw [← hs] at B2
    generalize btw (allM m.l) m.n m.d n d = L1 at *
    generalize btw (allM m.l) n d r t = L2 at *
    have S2 := rmSame_fn (L1 ++ L2) (L1 ++ L2)
    have S3 : FnOK Tryz.prog 37 [.one (mts (L1 ++ L2)), .one (.list 4 (L1.map Mt.c ++ L2.map Mt.c))] (.c (.one (bol true))) := by
      simp only [decide_true] at S2
      rw [← List.map_append]
      exact S2
    have o1 : (L1.map Mt.c).length = L1.length := List.length_map ..
    have o2 : (L2.map Mt.c).length = L2.length := List.length_map ..
    clear S2
    simp only [decide_true, retR, retD, List.map_cons, List.map_nil, Rp.c, Ak.c, Ak.dc, Rp.dc, Md.dc, aks, rps] at B1 B2 M1 M2 S1
    generalize hRR : ([[i64 0, i64 0, i64 0, i64 0, i64 0, mts L1], [i64 0, i64 0, i64 0, i64 0, i64 0, mts L2]] : List (List D)) = RR at B1
    have hR2 : RR.length = 2 := by rw [← hRR]; rfl
    have hE0 : RR[(0 : Int).toNat]? = some [i64 0, i64 0, i64 0, i64 0, i64 0, mts L1] := by rw [← hRR]; rfl
    have hE1 : RR[(1 : Int).toNat]? = some [i64 0, i64 0, i64 0, i64 0, i64 0, mts L2] := by rw [← hRR]; rfl
    clear hRR
    refine fn_ok (by kernel_rfl) (ty_okK [101] [] [] []) Tryz.func6 rfl (fun _ _ => Tryz.call6 _ _) rfl ?_
    intro hw
    clear hw
    repeat' ((conv => whnf); first | (with_reducible first | refine br_t ?_ | refine br_f ?_ | refine za ?_ | refine zg ?_ | refine zo ?_ | refine zb ?_ | refine zm ?_ | refine zc ?_ | refine ze ?_) | rw [List.nil_append, o1] | (rw [List.nil_append, List.length_append, o1, o2]; omega) | ((with_reducible refine bc_t ?_ ?_); (first | omega | decide)) | ((with_reducible refine bc_f ?_ ?_); (first | omega | decide)) | (with_reducible first | refine bc (fun h => ?_) (fun h => ?_) | refine zt ?_ | refine zf ?_ | refine br_i (fun h => ?_) (fun h => ?_) | refine xi (pv_bool fun _ => eqv23 _ _ _ _ _ _ _) ?_) | refine zg ?_ | refine zi ?_)
    all_goals conv => whnf
    all_goals rfl
  · have e4 : ¬ 0 ≤ cmpN (m.n * d) (n * m.d) ↔ m.n * d < n * m.d := by unfold cmpN; (repeat' split) <;> omega
    have e5 : ¬ 0 ≤ cmpN (n * t) (r * d) ↔ n * t < r * d := by unfold cmpN; (repeat' split) <;> omega
    rw [← e4, ← e5] at hc
    clear e4 e5
    generalize (!great m.l && decide (mchk m = 0)) = b at *
    generalize askd n d = z1 at *
    generalize askd r t = z2 at *
    generalize cmpN (m.n * d) (n * m.d) = z3 at *
    generalize cmpN (n * t) (r * d) = z4 at *
    simp only [ret1] at *
    cases b
    · refine fn_ok (by kernel_rfl) ty_ok Tryz.func6 rfl (fun _ _ => Tryz.call6 _ _) rfl ?_
      intro hw
      clear hw
      repeat' ((conv => whnf); first | (with_reducible first | refine br_t ?_ | refine br_f ?_ | refine za ?_ | refine zg ?_ | refine zo ?_ | refine zb ?_ | refine zm ?_ | refine zc ?_ | refine ze ?_) | ((with_reducible refine bc_t ?_ ?_); (first | omega | decide)) | ((with_reducible refine bc_f ?_ ?_); (first | omega | decide)) | (with_reducible first | refine bc (fun h => ?_) (fun h => ?_) | refine zt ?_ | refine zf ?_ | refine br_i (fun h => ?_) (fun h => ?_) | refine xi (pv_bool fun _ => eqv23 _ _ _ _ _ _ _) ?_) | refine zg ?_ | refine zi ?_)
      all_goals conv => whnf
      all_goals rfl
    · simp only [true_and] at hc
      refine fn_ok (by kernel_rfl) ty_ok Tryz.func6 rfl (fun _ _ => Tryz.call6 _ _) rfl ?_
      intro hw
      clear hw
      repeat' ((conv => whnf); first | (with_reducible first | refine br_t ?_ | refine br_f ?_ | refine za ?_ | refine zg ?_ | refine zo ?_ | refine zb ?_ | refine zm ?_ | refine zc ?_ | refine ze ?_) | ((with_reducible refine bc_t ?_ ?_); (first | omega | decide)) | ((with_reducible refine bc_f ?_ ?_); (first | omega | decide)) | (with_reducible first | refine bc (fun h => ?_) (fun h => ?_) | refine zt ?_ | refine zf ?_ | refine br_i (fun h => ?_) (fun h => ?_) | refine xi (pv_bool fun _ => eqv23 _ _ _ _ _ _ _) ?_) | refine zg ?_ | refine zi ?_)
      all_goals conv => whnf
      all_goals rfl
end Go.Proofs.YtnhljlihchegjaaGreat

/- OracleMoves answers true for every model and two times, and leaves its arguments as they are. No condition. -/
namespace Go.Proofs.YtnhljlihchegjaaGreat
open Go.RowKit Go.ChangeShapes Go.WideShapes Go.ChangeAt Sx
theorem oracleMoves_own : ownKnob Tryz.prog.godebug = none := by kernel_rfl
set_option maxRecDepth 100000 in
theorem oracleMoves_lifted (os : Os) (started : os.Started) (H : Type) (enc : TypeId × Value → H) :
    ReturnsInHanded {} Tryz.checked os 6 .any (Rows.oracleMovesSpec.pre6 enc Tryz.prog Tryz.f6 Rows.oracleMovesRow.domain false) (Rows.oracleMovesSpec.post enc Tryz.prog Tryz.f6 false true false false) := by
  refine returnsInHanded_of_change (C := Tryz.checked) oracleMoves_own started (by kernel_rfl) Tryz.func6
    (ChangeSpec.witness6 (enc := enc) (C := Tryz.checked) false ⟨#[], #[.agg #[.int .i64 0, .int .i64 0, .slice none 0 0], .agg #[.int .i64 0, .int .i64 0], .agg #[.int .i64 0, .int .i64 0]], []⟩ 12 (by kernel_rfl) (by kernel_rfl) (by kernel_rfl) (by kernel_rfl)) ?_
  intro W base args ds gs before hval0 hW hcnd _
  have hval : ∀ (j : Nat) t v, Tryz.f6.params[j]? = some t → args[j]? = some v → Value.okWide Tryz.prog W .any base t v := hval0
  have hW' := hW
  obtain ⟨p, q, hA0, hV, rfl, hfz, hnd⟩ := hW
  have hA : DataW.TrodAll enc Tryz.prog W 0 (fun _ => true) true Tryz.f6.params.toList args.toList ds p := hA0
  rw [Tryz.params6] at hA hval
  obtain ⟨v0, vs0, d0, ds0, p0, q0, hargs, rfl, rfl, h0, r0⟩ := trodAll_cons hA
  obtain ⟨v1, vs1, d1, ds1, p1, q1, rfl, rfl, rfl, h1, r1⟩ := trodAll_cons r0
  obtain ⟨v2, vs2, d2, ds2, p2, q2, rfl, rfl, rfl, h2, r2⟩ := trodAll_cons r1
  obtain ⟨rfl, rfl, rfl⟩ := trodAll_nil r2
  obtain rfl : args = #[v0, v1, v2] := by cases args; simp_all
  obtain ⟨e0, hd0, hf0⟩ := arg_data (tyB_ok (s := shModel) (by kernel_rfl)) (hval 0 28 v0 rfl rfl) h0
  obtain ⟨x0, rfl⟩ := fit_model hf0
  obtain ⟨e1, hd1, hf1⟩ := arg_data (tyB_ok (s := shRatio) (by kernel_rfl)) (hval 1 23 v1 rfl rfl) h1
  obtain ⟨x1, x2, rfl⟩ := fit_ratio hf1
  obtain ⟨e2, hd2, hf2⟩ := arg_data (tyB_ok (s := shRatio) (by kernel_rfl)) (hval 2 23 v2 rfl rfl) h2
  obtain ⟨x3, x4, rfl⟩ := fit_ratio hf2
  refine (law_of_fn (vs := [v0, v1, v2]) (fun _ _ => Tryz.call6 _ _) (LMoves_fn x0 x1 x2 x3 x4) ⟨hd0, hd1, hd2, trivial⟩).mono fun e W' ⟨he, hb⟩ => ?_
  subst he
  exact ⟨_, rfl, law_post (by kernel_rfl) (by kernel_rfl) rfl Tryz.underlying4 rfl hW' ⟨rfl, rfl, rfl⟩ hb⟩
theorem oracleMoves_over : Rows.oracleMovesRow.holds Tryz.pinned (OpenSpec.ofChange Rows.oracleMovesSpec) :=
  OpenClaim.holds_of_wide 6 Tryz.f6 rfl rfl rfl rfl rfl rfl rfl ⟨rfl, rfl, rfl, rfl, rfl⟩ rfl rfl rfl rfl rfl (by kernel_rfl) Tryz.func6 (by kernel_rfl)
    (of_decide_eq_true (by kernel_rfl)) (by unfold Func.isWrapper; rw [if_neg (of_decide_eq_false (by kernel_rfl))]; exact ⟨rfl, rfl⟩)
    (fun os started H enc _ => oracleMoves_lifted os started H enc)
/-- the statement -/
theorem oracleMoves_proved : Rows.OracleMovesSaid := oracleMoves_over
#print axioms oracleMoves_proved
end Go.Proofs.YtnhljlihchegjaaGreat
