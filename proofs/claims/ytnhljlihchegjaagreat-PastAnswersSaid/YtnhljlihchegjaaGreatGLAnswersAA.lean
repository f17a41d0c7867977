import Derived.Test.YtnhljlihchegjaaGreatGbBB
import Derived.Test.YtnhljlihchegjaaGreatRows
import Derived.Test.YtnhljlihchegjaaGreatGbAB
import Derived.Test.YtnhljlihchegjaaGreatGbAY
set_option linter.all false
/- The law PastAnswers answers true. No condition. -/
namespace Go.Proofs.YtnhljlihchegjaaGreat
open Go.RowKit Go.Sort Sx
set_option maxRecDepth 100000 in
set_option maxHeartbeats 4000000 in
theorem LAnswers_fn (m : Md) (l : List Ak) (t : Int) : FnOK Tryz.prog 13 [m.dc, .one (aks l), .one (i64 t)] (.c (.one (bol true))) := by
  have HA := Plalive_fn
  have G1 := roCheck_fn m
  have G2 := r32Great_fn m.l
  have ol : (l.map Ak.c).length = l.length := List.length_map ..
  have ol2 : (m.l.map Pt.c).length = m.l.length := List.length_map ..
  by_cases hc : mchk m = 0 ∧ gr32 m.l = false ∧ m.l.length ≤ 16 ∧ l.length ≤ 30 ∧ 0 ≤ t ∧ t ≤ l.length
  · obtain ⟨c1, c2, c3, c4, c5, c6⟩ := hc
    rw [c1] at G1
    rw [c2] at G2
    obtain ⟨k, rfl⟩ : ∃ k : Nat, t = k := ⟨t.toNat, by omega⟩
    have hk : k ≤ l.length := by omega
    have hans := fun h => answers c1 c4 hk h
    obtain ⟨a1, a2, _⟩ := at_new c1
    have herr := (rpl_at l a1 (by omega)).1
    have B1 := pReplay_fn m l
    unfold replayV at B1
    rw [if_pos c1, if_neg (by omega), if_pos herr] at B1
    have B2 : FnOK Tryz.prog 28 [m.dc, .one (.list 7 (((l.map Ak.c).take ((k : Nat) : Int).toNat).drop (0 : Int).toNat))] (retR ((runs m (l.take k)).1, (runs m (l.take k)).2, 0)) := by
      have := oRun_fn m (l.take k)
      unfold runV at this
      rw [if_pos c1, if_neg (by rw [List.length_take]; omega)] at this
      rw [Int.toNat_natCast, Int.toNat_zero, List.drop_zero, ← List.map_take]
      exact this
    have B3 : ∀ i, i < l.length → FnOK Tryz.prog 43 [m.dc, .one (.list 7 (((l.map Ak.c).take (IntKind.i64.wrap (((i : Nat) : Int) + 1)).toNat).drop (0 : Int).toNat))] (retR ((runs m (l.take (i + 1))).1, (runs m (l.take (i + 1))).2, 0)) := fun i hi => by
      have := roRun_fn m (l.take (i + 1))
      unfold runV at this
      rw [if_pos c1, if_neg (by rw [List.length_take]; omega)] at this
      rw [show (IntKind.i64.wrap (((i : Nat) : Int) + 1)).toNat = i + 1 by rw [IntWalk.i64_in _ (by omega)]; omega, Int.toNat_zero, List.drop_zero, ← List.map_take]
      exact this
    have hT := runs_ok (l.take k) c1
    generalize hrep : (runs m l).2 = rr at *
    generalize (rpl (pNewV m).1 m l).1 = p at *
    generalize hq : runs m (l.take k) = q at *
    obtain ⟨q, qr⟩ := q
    dsimp only at hT hans
    have C := roCheck_fn q
    rw [hT] at C
    clear herr hrep a1 a2 hq
    simp only [retR] at B2
    simp only [retY] at B1
    try dsimp only at B1
    refine fn_ok (by kernel_rfl) ty_ok Tryz.func13 rfl (fun _ _ => Tryz.call13 _ _) rfl ?_
    intro hw
    clear hw
    repeat' ((conv => whnf); first | (with_reducible first | refine br_t ?_ | refine br_f ?_ | refine za ?_ | refine zg ?_ | refine zo ?_ | refine zb ?_ | refine zm ?_ | refine zc ?_ | refine ze ?_) | ((with_reducible refine bc_t ?_ ?_); (first | omega | decide)) | ((with_reducible refine bc_f ?_ ?_); (first | omega | decide)) | (with_reducible first | refine bc (fun h => ?_) (fun h => ?_) | refine zt ?_ | refine zf ?_ | refine br_i (fun h => ?_) (fun h => ?_) | refine xi (pv_bool fun _ => eqv23 _ _ _ _ _ _ _) ?_) | refine zg ?_ | refine zi ?_)
    refine loop_J (by kernel_rfl) ty_ok (σ := Nat) (fun s => [(14, sV (.int .i64 s))]) (fun s => []) (fun s => k ≤ s ∧ s ≤ l.length ∧ ∀ j, k < j → j ≤ s → (runs m (l.take j)).1.n = q.n ∧ (runs m (l.take j)).1.d = q.d → (runs m (l.take j)).1.l = q.l) (fun s => l.length - s) k ⟨Nat.le_refl _, hk, fun j h1 h2 => by omega⟩ ?_ ?_
    · (conv => whnf); exact zent
    intro i ⟨g1, g2, g3⟩
    clear HA G1 G2 B1 B2 C
    rcases Nat.lt_or_ge i l.length with hlt | hge
    · clear hans
      have B := B3 i hlt
      have ew : IntKind.i64.wrap (((i : Nat) : Int) + 1) = ((i + 1 : Nat) : Int) := by rw [IntWalk.i64_in _ (by omega)]; omega
      clear B3
      have hstep : ∀ j, k < j → j ≤ i + 1 → ((runs m (l.take (i + 1))).1.n = q.n ∧ (runs m (l.take (i + 1))).1.d = q.d → (runs m (l.take (i + 1))).1.l = q.l) → (runs m (l.take j)).1.n = q.n ∧ (runs m (l.take j)).1.d = q.d → (runs m (l.take j)).1.l = q.l := fun j h1 h2 h3 => by
        rcases Nat.lt_or_ge i j with h | h
        · obtain rfl : j = i + 1 := by omega
          exact h3
        · exact g3 j h1 h
      clear g3
      generalize runs m (l.take (i + 1)) = x at *
      obtain ⟨x, xr⟩ := x
      dsimp only at hstep B
      simp only [retR] at B
      have S := rfSame_fn x.l q.l
      by_cases hn : x.n = q.n ∧ x.d = q.d
      · by_cases hl : x.l = q.l
        · rw [decide_eq_true hl] at S
          have hI := fun j h1 h2 => hstep j h1 h2 (fun _ => hl)
          clear hstep hl
          repeat' ((conv => whnf); first | (with_reducible first | refine br_t ?_ | refine br_f ?_ | refine za ?_ | refine zg ?_ | refine zo ?_ | refine zb ?_ | refine zm ?_ | refine zc ?_ | refine ze ?_) | ((with_reducible refine bc_t ?_ ?_); (first | omega | decide)) | ((with_reducible refine bc_f ?_ ?_); (first | omega | decide)) | (with_reducible first | refine bc (fun h => ?_) (fun h => ?_) | refine zt ?_ | refine zf ?_ | refine br_i (fun h => ?_) (fun h => ?_) | refine xi (pv_bool fun _ => eqv23 _ _ _ _ _ _ _) ?_) | refine zg ?_ | refine zi ?_)
          all_goals conv => whnf
          refine ⟨i + 1, ⟨by omega, by omega, hI⟩, ?_, by omega⟩
          (conv => whnf); exact zent
        · rw [decide_eq_false hl] at S
          clear hstep hl
          repeat' ((conv => whnf); first | (with_reducible first | refine br_t ?_ | refine br_f ?_ | refine za ?_ | refine zg ?_ | refine zo ?_ | refine zb ?_ | refine zm ?_ | refine zc ?_ | refine ze ?_) | ((with_reducible refine bc_t ?_ ?_); (first | omega | decide)) | ((with_reducible refine bc_f ?_ ?_); (first | omega | decide)) | (with_reducible first | refine bc (fun h => ?_) (fun h => ?_) | refine zt ?_ | refine zf ?_ | refine br_i (fun h => ?_) (fun h => ?_) | refine xi (pv_bool fun _ => eqv23 _ _ _ _ _ _ _) ?_) | refine zg ?_ | refine zi ?_)
          all_goals conv => whnf
          all_goals rfl
      · have hI := fun j h1 h2 => hstep j h1 h2 (fun h => absurd h hn)
        clear hstep S
        repeat' ((conv => whnf); first | (with_reducible first | refine br_t ?_ | refine br_f ?_ | refine za ?_ | refine zg ?_ | refine zo ?_ | refine zb ?_ | refine zm ?_ | refine zc ?_ | refine ze ?_) | ((with_reducible refine bc_t ?_ ?_); (first | omega | decide)) | ((with_reducible refine bc_f ?_ ?_); (first | omega | decide)) | (with_reducible first | refine bc (fun h => ?_) (fun h => ?_) | refine zt ?_ | refine zf ?_ | refine br_i (fun h => ?_) (fun h => ?_) | refine xi (pv_bool fun _ => eqv23 _ _ _ _ _ _ _) ?_) | refine zg ?_ | refine zi ?_)
        all_goals conv => whnf
        refine ⟨i + 1, ⟨by omega, by omega, hI⟩, ?_, by omega⟩
        (conv => whnf); exact zent
    · obtain rfl : i = l.length := by omega
      obtain ⟨_, hwh⟩ := hans g3
      clear hans g3 B3
      have D1 := pWhat_fn p q.n q.d
      have D2 := pLeader_fn p q.n q.d
      have D3 := pOrder_fn p q.n q.d
      unfold pleadV at D2
      unfold pordV at D3
      rw [hwh] at D1 D2 D3
      dsimp only at D2 D3
      rw [if_pos rfl] at D2 D3
      have E2 := fLeader_fn q.l q.n q.d
      have E3 := fOrder_fn q.l q.n q.d
      obtain ⟨t1, t2⟩ := mchk_ok hT
      unfold orderV at D3 E3
      rw [if_pos (show tchk q.l q.n q.d = 0 by unfold tchk; rw [if_pos t2]; exact askd_chk t1)] at D3 E3
      have S1 := rfSame_fn q.l q.l
      have S2 := pSameIDs_self (ordV q.l q.n q.d)
      simp only [decide_true] at S1
      generalize leadV q.l q.n q.d = z at *
      generalize ordV q.l q.n q.d = y at *
      obtain ⟨z1, z2⟩ := z
      simp only [retW, ret2, retO] at D1 D2 D3 E2 E3
      clear hwh t1 t2 hT
      repeat' ((conv => whnf); first | (with_reducible first | refine br_t ?_ | refine br_f ?_ | refine za ?_ | refine zg ?_ | refine zo ?_ | refine zb ?_ | refine zm ?_ | refine zc ?_ | refine ze ?_) | ((with_reducible refine bc_t ?_ ?_); (first | omega | decide)) | ((with_reducible refine bc_f ?_ ?_); (first | omega | decide)) | (with_reducible first | refine bc (fun h => ?_) (fun h => ?_) | refine zt ?_ | refine zf ?_ | refine br_i (fun h => ?_) (fun h => ?_) | refine xi (pv_bool fun _ => eqv23 _ _ _ _ _ _ _) ?_) | refine zg ?_ | refine zi ?_)
      all_goals conv => whnf
      all_goals first | rfl | exact r_bool (by simp)
  · generalize mchk m = z1 at *
    generalize gr32 m.l = b at *
    by_cases h1 : z1 = 0
    · cases b
      · simp only [true_and, h1] at hc
        refine fn_ok (by kernel_rfl) ty_ok Tryz.func13 rfl (fun _ _ => Tryz.call13 _ _) rfl ?_
        intro hw
        simp only [WDCs, WDC, WDs] at hw
        have w1 := wd_aks hw.2.1
        have w2 := wd_pts hw.1.2.2.1
        clear hw
        by_cases h2 : m.l.length ≤ 16
        · by_cases h3 : l.length ≤ 30
          · by_cases h4 : 0 ≤ t
            · repeat' ((conv => whnf); first | (with_reducible first | refine br_t ?_ | refine br_f ?_ | refine za ?_ | refine zg ?_ | refine zo ?_ | refine zb ?_ | refine zm ?_ | refine zc ?_ | refine ze ?_) | ((with_reducible refine bc_t ?_ ?_); (first | omega | decide)) | ((with_reducible refine bc_f ?_ ?_); (first | omega | decide)) | (with_reducible first | refine bc (fun h => ?_) (fun h => ?_) | refine zt ?_ | refine zf ?_ | refine br_i (fun h => ?_) (fun h => ?_) | refine xi (pv_bool fun _ => eqv23 _ _ _ _ _ _ _) ?_) | refine zg ?_ | refine zi ?_)
              all_goals conv => whnf
              all_goals rfl
            · repeat' ((conv => whnf); first | (with_reducible first | refine br_t ?_ | refine br_f ?_ | refine za ?_ | refine zg ?_ | refine zo ?_ | refine zb ?_ | refine zm ?_ | refine zc ?_ | refine ze ?_) | ((with_reducible refine bc_t ?_ ?_); (first | omega | decide)) | ((with_reducible refine bc_f ?_ ?_); (first | omega | decide)) | (with_reducible first | refine bc (fun h => ?_) (fun h => ?_) | refine zt ?_ | refine zf ?_ | refine br_i (fun h => ?_) (fun h => ?_) | refine xi (pv_bool fun _ => eqv23 _ _ _ _ _ _ _) ?_) | refine zg ?_ | refine zi ?_)
              all_goals conv => whnf
              all_goals rfl
          · repeat' ((conv => whnf); first | (with_reducible first | refine br_t ?_ | refine br_f ?_ | refine za ?_ | refine zg ?_ | refine zo ?_ | refine zb ?_ | refine zm ?_ | refine zc ?_ | refine ze ?_) | ((with_reducible refine bc_t ?_ ?_); (first | omega | decide)) | ((with_reducible refine bc_f ?_ ?_); (first | omega | decide)) | (with_reducible first | refine bc (fun h => ?_) (fun h => ?_) | refine zt ?_ | refine zf ?_ | refine br_i (fun h => ?_) (fun h => ?_) | refine xi (pv_bool fun _ => eqv23 _ _ _ _ _ _ _) ?_) | refine zg ?_ | refine zi ?_)
            all_goals conv => whnf
            all_goals rfl
        · repeat' ((conv => whnf); first | (with_reducible first | refine br_t ?_ | refine br_f ?_ | refine za ?_ | refine zg ?_ | refine zo ?_ | refine zb ?_ | refine zm ?_ | refine zc ?_ | refine ze ?_) | ((with_reducible refine bc_t ?_ ?_); (first | omega | decide)) | ((with_reducible refine bc_f ?_ ?_); (first | omega | decide)) | (with_reducible first | refine bc (fun h => ?_) (fun h => ?_) | refine zt ?_ | refine zf ?_ | refine br_i (fun h => ?_) (fun h => ?_) | refine xi (pv_bool fun _ => eqv23 _ _ _ _ _ _ _) ?_) | refine zg ?_ | refine zi ?_)
          all_goals conv => whnf
          all_goals rfl
      · refine fn_ok (by kernel_rfl) ty_ok Tryz.func13 rfl (fun _ _ => Tryz.call13 _ _) rfl ?_
        intro hw
        clear hw
        repeat' ((conv => whnf); first | (with_reducible first | refine br_t ?_ | refine br_f ?_ | refine za ?_ | refine zg ?_ | refine zo ?_ | refine zb ?_ | refine zm ?_ | refine zc ?_ | refine ze ?_) | ((with_reducible refine bc_t ?_ ?_); (first | omega | decide)) | ((with_reducible refine bc_f ?_ ?_); (first | omega | decide)) | (with_reducible first | refine bc (fun h => ?_) (fun h => ?_) | refine zt ?_ | refine zf ?_ | refine br_i (fun h => ?_) (fun h => ?_) | refine xi (pv_bool fun _ => eqv23 _ _ _ _ _ _ _) ?_) | refine zg ?_ | refine zi ?_)
        all_goals conv => whnf
        all_goals rfl
    · refine fn_ok (by kernel_rfl) ty_ok Tryz.func13 rfl (fun _ _ => Tryz.call13 _ _) rfl ?_
      intro hw
      clear hw
      repeat' ((conv => whnf); first | (with_reducible first | refine br_t ?_ | refine br_f ?_ | refine za ?_ | refine zg ?_ | refine zo ?_ | refine zb ?_ | refine zm ?_ | refine zc ?_ | refine ze ?_) | ((with_reducible refine bc_t ?_ ?_); (first | omega | decide)) | ((with_reducible refine bc_f ?_ ?_); (first | omega | decide)) | (with_reducible first | refine bc (fun h => ?_) (fun h => ?_) | refine zt ?_ | refine zf ?_ | refine br_i (fun h => ?_) (fun h => ?_) | refine xi (pv_bool fun _ => eqv23 _ _ _ _ _ _ _) ?_) | refine zg ?_ | refine zi ?_)
      all_goals conv => whnf
      all_goals rfl
end Go.Proofs.YtnhljlihchegjaaGreat

/- PastAnswers answers true for every model, asks and index, and leaves its arguments as they are. No condition. -/
namespace Go.Proofs.YtnhljlihchegjaaGreat
open Go.RowKit Go.ChangeShapes Go.WideShapes Go.ChangeAt Sx
theorem pastAnswers_own : ownKnob Tryz.prog.godebug = none := by kernel_rfl
set_option maxRecDepth 100000 in
theorem pastAnswers_lifted (os : Os) (started : os.Started) (H : Type) (enc : TypeId × Value → H) :
    ReturnsInHanded {} Tryz.checked os 13 .any (Rows.pastAnswersSpec.pre6 enc Tryz.prog Tryz.f13 Rows.pastAnswersRow.domain false) (Rows.pastAnswersSpec.post enc Tryz.prog Tryz.f13 false true false false) := by
  refine returnsInHanded_of_change (C := Tryz.checked) pastAnswers_own started (by kernel_rfl) Tryz.func13
    (ChangeSpec.witness6 (enc := enc) (C := Tryz.checked) false ⟨#[], #[.agg #[.int .i64 0, .int .i64 0, .slice none 0 0], .slice none 0 0, .int .i64 0], []⟩ 12 (by kernel_rfl) (by kernel_rfl) (by kernel_rfl) (by kernel_rfl)) ?_
  intro W base args ds gs before hval0 hW hcnd _
  have hval : ∀ (j : Nat) t v, Tryz.f13.params[j]? = some t → args[j]? = some v → Value.okWide Tryz.prog W .any base t v := hval0
  have hW' := hW
  obtain ⟨p, q, hA0, hV, rfl, hfz, hnd⟩ := hW
  have hA : DataW.TrodAll enc Tryz.prog W 0 (fun _ => true) true Tryz.f13.params.toList args.toList ds p := hA0
  rw [Tryz.params13] at hA hval
  obtain ⟨v0, vs0, d0, ds0, p0, q0, hargs, rfl, rfl, h0, r0⟩ := trodAll_cons hA
  obtain ⟨v1, vs1, d1, ds1, p1, q1, rfl, rfl, rfl, h1, r1⟩ := trodAll_cons r0
  obtain ⟨v2, vs2, d2, ds2, p2, q2, rfl, rfl, rfl, h2, r2⟩ := trodAll_cons r1
  obtain ⟨rfl, rfl, rfl⟩ := trodAll_nil r2
  obtain rfl : args = #[v0, v1, v2] := by cases args; simp_all
  obtain ⟨e0, hd0, hf0⟩ := arg_data (tyB_ok (s := shModel) (by kernel_rfl)) (hval 0 28 v0 rfl rfl) h0
  obtain ⟨x0, rfl⟩ := fit_model hf0
  obtain ⟨e1, hd1, hf1⟩ := arg_data (tyB_ok (s := shAsks) (by kernel_rfl)) (hval 1 52 v1 rfl rfl) h1
  obtain ⟨x1, rfl⟩ := fit_asks hf1
  obtain ⟨e2, hd2, hf2⟩ := arg_data (tyB_ok (s := shInt) (by kernel_rfl)) (hval 2 3 v2 rfl rfl) h2
  obtain ⟨x2, rfl⟩ := fit_int hf2
  refine (law_of_fn (vs := [v0, v1, v2]) (fun _ _ => Tryz.call13 _ _) (LAnswers_fn x0 x1 x2) ⟨hd0, hd1, hd2, trivial⟩).mono fun e W' ⟨he, hb⟩ => ?_
  subst he
  exact ⟨_, rfl, law_post (by kernel_rfl) (by kernel_rfl) rfl Tryz.underlying4 rfl hW' ⟨rfl, rfl, rfl⟩ hb⟩
theorem pastAnswers_over : Rows.pastAnswersRow.holds Tryz.pinned (OpenSpec.ofChange Rows.pastAnswersSpec) :=
  OpenClaim.holds_of_wide 13 Tryz.f13 rfl rfl rfl rfl rfl rfl rfl ⟨rfl, rfl, rfl, rfl, rfl⟩ rfl rfl rfl rfl rfl (by kernel_rfl) Tryz.func13 (by kernel_rfl)
    (of_decide_eq_true (by kernel_rfl)) (by unfold Func.isWrapper; rw [if_neg (of_decide_eq_false (by kernel_rfl))]; exact ⟨rfl, rfl⟩)
    (fun os started H enc _ => pastAnswers_lifted os started H enc)
/-- the statement -/
theorem pastAnswers_proved : Rows.PastAnswersSaid := pastAnswers_over
#print axioms pastAnswers_proved
end Go.Proofs.YtnhljlihchegjaaGreat
