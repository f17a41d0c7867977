import Derived.Test.YtnhljlihchegjaaGreatGbBB
import Derived.Test.YtnhljlihchegjaaGreatRows
import Derived.Test.YtnhljlihchegjaaGreatGbAB
import Derived.Test.YtnhljlihchegjaaGreatGbAY
import Derived.Test.YtnhljlihchegjaaGreatGbAZ
set_option linter.all false
/- The law PastKeeps answers true. No condition. -/
namespace Go.Proofs.YtnhljlihchegjaaGreat
open Go.RowKit Go.Sort Sx
theorem go_same {p : Pa} (hp : pchk p = 0) : pGoV p ⟨p.n, p.d, p.last.l⟩ = (p, 0) := by
  obtain ⟨k1, k2, k3, k4, k5⟩ := pchk_ok hp
  have hm : mchk ⟨p.n, p.d, p.last.l⟩ = 0 := by
    unfold mchk
    rw [if_pos ⟨k3, (mchk_ok (k5 p.last (by rw [last_eq k1]; exact List.getElem_mem _))).2⟩]
  unfold pGoV
  rw [if_pos hp, if_pos hm, if_neg (Int.lt_irrefl _), if_pos rfl]
theorem go_err {p : Pa} {m : Md} (hp : pchk p = 0) (hm : mchk m = 0) : (pGoV p m).2 = 0 ∨ (pGoV p m).2 = 44 ∨ (pGoV p m).2 = 18 := by
  unfold pGoV
  rw [if_pos hp, if_pos hm]
  split
  · exact .inr (.inl rfl)
  · split
    · exact .inl rfl
    · split
      · exact .inl rfl
      · split
        · exact .inr (.inr rfl)
        · exact .inl rfl
theorem go_ge {p q : Pa} {m : Md} (hp : pchk p = 0) (hm : mchk m = 0) (h : pGoV p m = (q, 0)) : ¬ m.n * p.d < p.n * m.d := by
  intro hh
  unfold pGoV at h
  rw [if_pos hp, if_pos hm, if_pos hh] at h
  cases h
set_option maxRecDepth 100000 in
set_option maxHeartbeats 4000000 in
theorem LKeeps_fn (p : Pa) (m : Md) (n e : Int) : FnOK Tryz.prog 11 [p.dc, m.dc, rat n e] (.c (.one (bol true))) := by
  have HA := Plalive_fn
  have G1 := rpGreat_fn p
  have G2 := rpCheck_fn p
  have G3 := roCheck_fn m
  have G4 := rasked_fn n e
  have hml : (p.ms.map Md.c).length = p.ms.length := List.length_map ..
  by_cases hc : pgreat p = false ∧ pchk p = 0 ∧ mchk m = 0 ∧ askd n e = 0
  · obtain ⟨c1, c2, c3, c4⟩ := hc
    rw [c1] at G1
    rw [c2] at G2
    rw [c3] at G3
    rw [c4] at G4
    obtain ⟨k1, k2, k3, k4, k5⟩ := pchk_ok c2
    have ew : IntKind.i64.wrap (((p.ms.map Md.c).length : Int) - 1) = ((p.ms.length - 1 : Nat) : Int) := by rw [hml, IntWalk.i64_in _ (by omega)]; omega
    have hel := mos_get' (l := p.ms) (i := p.ms.length - 1) (j := IntKind.i64.wrap (((p.ms.map Md.c).length : Int) - 1)) (by omega) (by rw [ew]; omega)
    have B1 := pGo_fn p ⟨p.n, p.d, p.last.l⟩
    rw [go_same c2, last_eq k1] at B1
    have S0 := rpSame_fn p p
    have B2 := pGo_fn p m
    have he := go_err c2 c3
    have hg := fun q (h : pGoV p m = (q, 0)) => goes c2 c3 h
    have hge := fun q (h : pGoV p m = (q, 0)) => go_ge c2 c3 h
    generalize p.ms[p.ms.length - 1] = la at *
    generalize pGoV p m = x at *
    obtain ⟨q, f⟩ := x
    simp only [decide_true] at S0
    simp only [retP] at B1 B2
    dsimp only at he
    by_cases h0 : f = 0
    · subst h0
      obtain ⟨g1, ⟨g2, g3⟩, g4, g5, g6⟩ := hg q rfl
      have hge := hge q rfl
      clear hg
      have C1 := pWhat_fn q m.n m.d
      rw [g5] at C1
      have S1 := rfSame_fn m.l m.l
      have C2 := rpCheck_fn q
      rw [g1] at C2
      have C3 := pWhat_fn p n e
      have C4 := pWhat_fn q n e
      have R := rcompare_fn n e p.n p.d
      have S2 := rfSame_fn (whatV p n e).1 (whatV p n e).1
      simp only [decide_true] at S1 S2
      by_cases hlt : n * p.d < p.n * e
      · have hcm : cmpN (n * p.d) (p.n * e) = -1 := by rcases cmpN_cases (n * p.d) (p.n * e) with h | h | h <;> omega
        rw [hcm] at R
        have hq : whatV q n e = whatV p n e := by
          have h1 := (qv_lt (askd_chk c4) (askd_chk k3)).2 hlt
          exact g6 n e c4 (Rat.le_of_lt h1) (Std.lt_of_lt_of_le h1 (Rat.not_lt.1 fun h => hge ((qv_lt (askd_chk (mchk_ok c3).1) (askd_chk k3)).1 h)))
        rw [hq] at C4
        generalize whatV p n e = y at *
        obtain ⟨wl, we⟩ := y
        simp only [retW] at C1 C3 C4
        clear g6 hge he k4 k5 hq hcm hlt g4 g5
        refine fn_ok (by kernel_rfl) ty_ok Tryz.func11 rfl (fun _ _ => Tryz.call11 _ _) rfl ?_
        intro hw
        clear hw
        repeat' ((conv => whnf); first | (with_reducible first | refine br_t ?_ | refine br_f ?_ | refine za ?_ | refine zg ?_ | refine zo ?_ | refine zb ?_ | refine zm ?_ | refine zc ?_ | refine ze ?_) | ((with_reducible refine bc_t ?_ ?_); (first | omega | decide)) | ((with_reducible refine bc_f ?_ ?_); (first | omega | decide)) | (with_reducible first | refine bc (fun h => ?_) (fun h => ?_) | refine zt ?_ | refine zf ?_ | refine br_i (fun h => ?_) (fun h => ?_) | refine xi (pv_bool fun _ => nev23 _ _ _ _ _ _ _) ?_) | refine zg ?_ | refine zi ?_)
        all_goals conv => whnf
        all_goals first | rfl | exact r_bool (by simp)
      · have hcm : 0 ≤ cmpN (n * p.d) (p.n * e) := by rcases cmpN_cases (n * p.d) (p.n * e) with h | h | h <;> omega
        generalize cmpN (n * p.d) (p.n * e) = c at *
        generalize whatV p n e = y at *
        generalize whatV q n e = z at *
        obtain ⟨wl, we⟩ := y
        obtain ⟨vl, ve⟩ := z
        simp only [retW] at C1 C3 C4
        clear g6 hge he k4 k5 hlt g4 g5
        refine fn_ok (by kernel_rfl) ty_ok Tryz.func11 rfl (fun _ _ => Tryz.call11 _ _) rfl ?_
        intro hw
        clear hw
        repeat' ((conv => whnf); first | (with_reducible first | refine br_t ?_ | refine br_f ?_ | refine za ?_ | refine zg ?_ | refine zo ?_ | refine zb ?_ | refine zm ?_ | refine zc ?_ | refine ze ?_) | ((with_reducible refine bc_t ?_ ?_); (first | omega | decide)) | ((with_reducible refine bc_f ?_ ?_); (first | omega | decide)) | (with_reducible first | refine bc (fun h => ?_) (fun h => ?_) | refine zt ?_ | refine zf ?_ | refine br_i (fun h => ?_) (fun h => ?_) | refine xi (pv_bool fun _ => nev23 _ _ _ _ _ _ _) ?_) | refine zg ?_ | refine zi ?_)
        all_goals conv => whnf
        all_goals first | rfl | exact r_bool (by simp)
    · clear hg hge k4 k5
      have he : f = 44 ∨ f = 18 := he.resolve_left h0
      clear h0
      rcases he with rfl | rfl
      all_goals
        refine fn_ok (by kernel_rfl) ty_ok Tryz.func11 rfl (fun _ _ => Tryz.call11 _ _) rfl ?_
        intro hw
        clear hw
        repeat' ((conv => whnf); first | (with_reducible first | refine br_t ?_ | refine br_f ?_ | refine za ?_ | refine zg ?_ | refine zo ?_ | refine zb ?_ | refine zm ?_ | refine zc ?_ | refine ze ?_) | ((with_reducible refine bc_t ?_ ?_); (first | omega | decide)) | ((with_reducible refine bc_f ?_ ?_); (first | omega | decide)) | (with_reducible first | refine bc (fun h => ?_) (fun h => ?_) | refine zt ?_ | refine zf ?_ | refine br_i (fun h => ?_) (fun h => ?_) | refine xi (pv_bool fun _ => nev23 _ _ _ _ _ _ _) ?_) | refine zg ?_ | refine zi ?_)
        all_goals conv => whnf
        all_goals first | rfl | exact r_bool (by simp)
  · generalize pgreat p = b at *
    generalize pchk p = z1 at *
    generalize mchk m = z2 at *
    generalize askd n e = z3 at *
    by_cases h0 : b = true
    · subst h0
      refine fn_ok (by kernel_rfl) ty_ok Tryz.func11 rfl (fun _ _ => Tryz.call11 _ _) rfl ?_
      intro hw
      clear hw
      repeat' ((conv => whnf); first | (with_reducible first | refine br_t ?_ | refine br_f ?_ | refine za ?_ | refine zg ?_ | refine zo ?_ | refine zb ?_ | refine zm ?_ | refine zc ?_ | refine ze ?_) | ((with_reducible refine bc_t ?_ ?_); (first | omega | decide)) | ((with_reducible refine bc_f ?_ ?_); (first | omega | decide)) | (with_reducible first | refine bc (fun h => ?_) (fun h => ?_) | refine zt ?_ | refine zf ?_ | refine br_i (fun h => ?_) (fun h => ?_) | refine xi (pv_bool fun _ => nev23 _ _ _ _ _ _ _) ?_) | refine zg ?_ | refine zi ?_)
      all_goals conv => whnf
      all_goals rfl
    · obtain rfl : b = false := by simpa using h0
      simp only [true_and] at hc
      by_cases h1 : z1 = 0
      · by_cases h2 : z2 = 0
        · have h3 : z3 ≠ 0 := fun h => hc ⟨h1, h2, h⟩
          refine fn_ok (by kernel_rfl) ty_ok Tryz.func11 rfl (fun _ _ => Tryz.call11 _ _) rfl ?_
          intro hw
          clear hw
          repeat' ((conv => whnf); first | (with_reducible first | refine br_t ?_ | refine br_f ?_ | refine za ?_ | refine zg ?_ | refine zo ?_ | refine zb ?_ | refine zm ?_ | refine zc ?_ | refine ze ?_) | ((with_reducible refine bc_t ?_ ?_); (first | omega | decide)) | ((with_reducible refine bc_f ?_ ?_); (first | omega | decide)) | (with_reducible first | refine bc (fun h => ?_) (fun h => ?_) | refine zt ?_ | refine zf ?_ | refine br_i (fun h => ?_) (fun h => ?_) | refine xi (pv_bool fun _ => nev23 _ _ _ _ _ _ _) ?_) | refine zg ?_ | refine zi ?_)
          all_goals conv => whnf
          all_goals rfl
        · refine fn_ok (by kernel_rfl) ty_ok Tryz.func11 rfl (fun _ _ => Tryz.call11 _ _) rfl ?_
          intro hw
          clear hw
          repeat' ((conv => whnf); first | (with_reducible first | refine br_t ?_ | refine br_f ?_ | refine za ?_ | refine zg ?_ | refine zo ?_ | refine zb ?_ | refine zm ?_ | refine zc ?_ | refine ze ?_) | ((with_reducible refine bc_t ?_ ?_); (first | omega | decide)) | ((with_reducible refine bc_f ?_ ?_); (first | omega | decide)) | (with_reducible first | refine bc (fun h => ?_) (fun h => ?_) | refine zt ?_ | refine zf ?_ | refine br_i (fun h => ?_) (fun h => ?_) | refine xi (pv_bool fun _ => nev23 _ _ _ _ _ _ _) ?_) | refine zg ?_ | refine zi ?_)
          all_goals conv => whnf
          all_goals rfl
      · refine fn_ok (by kernel_rfl) ty_ok Tryz.func11 rfl (fun _ _ => Tryz.call11 _ _) rfl ?_
        intro hw
        clear hw
        repeat' ((conv => whnf); first | (with_reducible first | refine br_t ?_ | refine br_f ?_ | refine za ?_ | refine zg ?_ | refine zo ?_ | refine zb ?_ | refine zm ?_ | refine zc ?_ | refine ze ?_) | ((with_reducible refine bc_t ?_ ?_); (first | omega | decide)) | ((with_reducible refine bc_f ?_ ?_); (first | omega | decide)) | (with_reducible first | refine bc (fun h => ?_) (fun h => ?_) | refine zt ?_ | refine zf ?_ | refine br_i (fun h => ?_) (fun h => ?_) | refine xi (pv_bool fun _ => nev23 _ _ _ _ _ _ _) ?_) | refine zg ?_ | refine zi ?_)
        all_goals conv => whnf
        all_goals rfl
end Go.Proofs.YtnhljlihchegjaaGreat

/- PastKeeps answers true for every past, model and time, and leaves its arguments as they are. No condition. -/
namespace Go.Proofs.YtnhljlihchegjaaGreat
open Go.RowKit Go.ChangeShapes Go.WideShapes Go.ChangeAt Sx
theorem pastKeeps_own : ownKnob Tryz.prog.godebug = none := by kernel_rfl
set_option maxRecDepth 100000 in
theorem pastKeeps_lifted (os : Os) (started : os.Started) (H : Type) (enc : TypeId × Value → H) :
    ReturnsInHanded {} Tryz.checked os 11 .any (Rows.pastKeepsSpec.pre6 enc Tryz.prog Tryz.f11 Rows.pastKeepsRow.domain false) (Rows.pastKeepsSpec.post enc Tryz.prog Tryz.f11 false true false false) := by
  refine returnsInHanded_of_change (C := Tryz.checked) pastKeeps_own started (by kernel_rfl) Tryz.func11
    (ChangeSpec.witness6 (enc := enc) (C := Tryz.checked) false ⟨#[], #[.agg #[.int .i64 0, .int .i64 0, .slice none 0 0], .agg #[.int .i64 0, .int .i64 0, .slice none 0 0], .agg #[.int .i64 0, .int .i64 0]], []⟩ 12 (by kernel_rfl) (by kernel_rfl) (by kernel_rfl) (by kernel_rfl)) ?_
  intro W base args ds gs before hval0 hW hcnd _
  have hval : ∀ (j : Nat) t v, Tryz.f11.params[j]? = some t → args[j]? = some v → Value.okWide Tryz.prog W .any base t v := hval0
  have hW' := hW
  obtain ⟨p, q, hA0, hV, rfl, hfz, hnd⟩ := hW
  have hA : DataW.TrodAll enc Tryz.prog W 0 (fun _ => true) true Tryz.f11.params.toList args.toList ds p := hA0
  rw [Tryz.params11] at hA hval
  obtain ⟨v0, vs0, d0, ds0, p0, q0, hargs, rfl, rfl, h0, r0⟩ := trodAll_cons hA
  obtain ⟨v1, vs1, d1, ds1, p1, q1, rfl, rfl, rfl, h1, r1⟩ := trodAll_cons r0
  obtain ⟨v2, vs2, d2, ds2, p2, q2, rfl, rfl, rfl, h2, r2⟩ := trodAll_cons r1
  obtain ⟨rfl, rfl, rfl⟩ := trodAll_nil r2
  obtain rfl : args = #[v0, v1, v2] := by cases args; simp_all
  obtain ⟨e0, hd0, hf0⟩ := arg_data (tyB_ok (s := shPast) (by kernel_rfl)) (hval 0 86 v0 rfl rfl) h0
  obtain ⟨x0, rfl⟩ := fit_past hf0
  obtain ⟨e1, hd1, hf1⟩ := arg_data (tyB_ok (s := shModel) (by kernel_rfl)) (hval 1 28 v1 rfl rfl) h1
  obtain ⟨x1, rfl⟩ := fit_model hf1
  obtain ⟨e2, hd2, hf2⟩ := arg_data (tyB_ok (s := shRatio) (by kernel_rfl)) (hval 2 23 v2 rfl rfl) h2
  obtain ⟨x2, x3, rfl⟩ := fit_ratio hf2
  refine (law_of_fn (vs := [v0, v1, v2]) (fun _ _ => Tryz.call11 _ _) (LKeeps_fn x0 x1 x2 x3) ⟨hd0, hd1, hd2, trivial⟩).mono fun e W' ⟨he, hb⟩ => ?_
  subst he
  exact ⟨_, rfl, law_post (by kernel_rfl) (by kernel_rfl) rfl Tryz.underlying4 rfl hW' ⟨rfl, rfl, rfl⟩ hb⟩
theorem pastKeeps_over : Rows.pastKeepsRow.holds Tryz.pinned (OpenSpec.ofChange Rows.pastKeepsSpec) :=
  OpenClaim.holds_of_wide 11 Tryz.f11 rfl rfl rfl rfl rfl rfl rfl ⟨rfl, rfl, rfl, rfl, rfl⟩ rfl rfl rfl rfl rfl (by kernel_rfl) Tryz.func11 (by kernel_rfl)
    (of_decide_eq_true (by kernel_rfl)) (by unfold Func.isWrapper; rw [if_neg (of_decide_eq_false (by kernel_rfl))]; exact ⟨rfl, rfl⟩)
    (fun os started H enc _ => pastKeeps_lifted os started H enc)
/-- the statement -/
theorem pastKeeps_proved : Rows.PastKeepsSaid := pastKeeps_over
#print axioms pastKeeps_proved
end Go.Proofs.YtnhljlihchegjaaGreat
