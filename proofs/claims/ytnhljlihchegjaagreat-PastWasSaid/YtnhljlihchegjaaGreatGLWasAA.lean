import Derived.Test.YtnhljlihchegjaaGreatGbBB
import Derived.Test.YtnhljlihchegjaaGreatRows
import Derived.Test.YtnhljlihchegjaaGreatGbAB
import Derived.Test.YtnhljlihchegjaaGreatGbAY
import Derived.Test.YtnhljlihchegjaaGreatGbAZ
set_option linter.all false
/- The law PastWas answers true. No condition. -/
namespace Go.Proofs.YtnhljlihchegjaaGreat
open Go.RowKit Go.Sort Sx
theorem what_cases {p : Pa} {n e : Int} (hp : pchk p = 0) (ht : askd n e = 0) : whatV p n e = ([], 6) ∨ ∃ m ∈ p.ms, whatV p n e = (m.l, 0) ∧ 0 < wcnt p.ms n e ∧ p.ms[wcnt p.ms n e - 1]?.getD default = m := by
  have hw := wcnt_le p.ms n e
  unfold whatV
  rw [if_pos hp, if_pos ht]
  split
  · exact .inl rfl
  · split
    · exact .inl rfl
    · rename_i h1 h2
      refine .inr ⟨p.ms[wcnt p.ms n e - 1]'(by omega), List.getElem_mem _, ?_, by omega, ?_⟩
      · rw [List.getElem?_eq_getElem (by omega)]; rfl
      · rw [List.getElem?_eq_getElem (by omega)]; rfl
set_option maxRecDepth 100000 in
set_option maxHeartbeats 4000000 in
theorem LWas_fn (p : Pa) (id n e : Int) : FnOK Tryz.prog 12 [p.dc, .one (i64 id), rat n e] (.c (.one (bol true))) := by
  have HA := Plalive_fn
  have G1 := rpGreat_fn p
  have G2 := rpCheck_fn p
  have G3 := rasked_fn n e
  by_cases hc : pgreat p = false ∧ pchk p = 0 ∧ askd n e = 0
  · obtain ⟨c1, c2, c3⟩ := hc
    rw [c1] at G1
    rw [c2] at G2
    rw [c3] at G3
    obtain ⟨k1, k2, k3, k4, k5⟩ := pchk_ok c2
    have hs := ups_of c2
    have ht := askd_chk c3
    have W := pWas_fn p id
    unfold wasV at W
    rw [if_pos c2] at W
    have hH := had_was ht (id := id) (b := []) hs
    have hwl := was_len (id := id) (l := p.ms) (b := [])
    have hdf := fun i h => was_diff (id := id) (l := p.ms) (b := []) (i := i) h
    have hup := List.pairwise_iff_getElem.1 (was_up (id := id) (b := []) hs)
    have hmem : ∀ i (h : i < (wasL p.ms id []).length), (wasL p.ms id [])[i].l.length ≤ 1 ∧ chk (wasL p.ms id [])[i].n (wasL p.ms id [])[i].d = 0 := fun i h => by
      obtain ⟨h1, m, hm, h2, h3⟩ := was_mem (List.getElem_mem h)
      exact ⟨h1, by rw [h2, h3]; exact askd_chk (mchk_ok (k5 m hm)).1⟩
    have E := pWhat_fn p n e
    have hcs := what_cases c2 c3
    have hfin : ∀ m ∈ p.ms, fchk m.l = 0 := fun m hm => (mchk_ok (k5 m hm)).2
    clear k4 k5 hs c2
    generalize wasL p.ms id [] = w at *
    have owl : (w.map Md.c).length = w.length := List.length_map ..
    simp only [retM] at W
    refine fn_ok (by kernel_rfl) ty_ok Tryz.func12 rfl (fun _ _ => Tryz.call12 _ _) rfl ?_
    intro hw
    clear hw
    repeat' ((conv => whnf); first | (with_reducible first | refine br_t ?_ | refine br_f ?_ | refine za ?_ | refine zg ?_ | refine zo ?_ | refine zb ?_ | refine zm ?_ | refine zc ?_ | refine ze ?_) | ((with_reducible refine bc_t ?_ ?_); (first | omega | decide)) | ((with_reducible refine bc_f ?_ ?_); (first | omega | decide)) | (with_reducible first | refine bc (fun h => ?_) (fun h => ?_) | refine zt ?_ | refine zf ?_ | refine br_i (fun h => ?_) (fun h => ?_) | refine xi (pv_bool fun _ => eqv30 _ _ _ _ _ _ _ _ _) ?_) | refine zg ?_ | refine zi ?_)
    refine loop_J (by kernel_rfl) ty_ok (σ := Nat × List Pt × D) (fun s => [(11, sV (.int .i64 s.1))]) (fun s => [(10, .own [.d s.2.2])])
      (fun s => s.1 ≤ w.length ∧ (s.2.2 = .nil 3 ∧ s.2.1 = [] ∨ s.2.2 = pts s.2.1) ∧ hadL n e (w.drop s.1) s.2.1 = hadL n e w []) (fun s => w.length - s.1) (0, [], .nil 3) ⟨Nat.zero_le _, .inl ⟨rfl, rfl⟩, rfl⟩ ?_ ?_
    · (conv => whnf); exact zent
    rintro ⟨i, b, bd⟩ ⟨g1, g2, g3⟩
    dsimp only at g1 g2 g3
    rcases Nat.lt_or_ge i w.length with hlt | hge
    · clear E hcs hfin hH G1 G2 G3 HA W
      have hel := mos_get hlt
      obtain ⟨m1, m2⟩ := hmem i hlt
      have hd := hdf i hlt
      rw [hadL_lt hlt] at g3
      have R1 := rcheck_fn w[i].n w[i].d
      rw [m2] at R1
      have R2 := rcompare_fn w[i].n w[i].d n e
      have ol : (w[i].l.map Pt.c).length = w[i].l.length := List.length_map ..
      by_cases h0 : i = 0
      · clear hdf hup hmem hd
        generalize w[i] = x at *
        by_cases hle : x.n * e ≤ n * x.d
        · rw [if_pos hle] at g3
          have hcm : cmpN (x.n * e) (n * x.d) ≤ 0 := by rcases cmpN_cases (x.n * e) (n * x.d) with h | h | h <;> omega
          generalize cmpN (x.n * e) (n * x.d) = c at *
          rcases g2 with ⟨rfl, rfl⟩ | rfl
          all_goals
            repeat' ((conv => whnf); first | (with_reducible first | refine br_t ?_ | refine br_f ?_ | refine za ?_ | refine zg ?_ | refine zo ?_ | refine zb ?_ | refine zm ?_ | refine zc ?_ | refine ze ?_) | ((with_reducible refine bc_t ?_ ?_); (first | omega | decide)) | ((with_reducible refine bc_f ?_ ?_); (first | omega | decide)) | (with_reducible first | refine bc (fun h => ?_) (fun h => ?_) | refine zt ?_ | refine zf ?_ | refine br_i (fun h => ?_) (fun h => ?_) | refine xi (pv_bool fun _ => eqv30 _ _ _ _ _ _ _ _ _) ?_) | refine zg ?_ | refine zi ?_)
            all_goals conv => whnf
            refine ⟨(i + 1, x.l, pts x.l), ⟨by show _ ≤ _; omega, .inr rfl, g3⟩, ?_, by show _ - _ < _ - _; omega⟩
            (conv => whnf); exact zent
        · rw [if_neg hle] at g3
          have hcm : ¬ cmpN (x.n * e) (n * x.d) ≤ 0 := by rcases cmpN_cases (x.n * e) (n * x.d) with h | h | h <;> omega
          generalize cmpN (x.n * e) (n * x.d) = c at *
          rcases g2 with ⟨rfl, rfl⟩ | rfl
          · repeat' ((conv => whnf); first | (with_reducible first | refine br_t ?_ | refine br_f ?_ | refine za ?_ | refine zg ?_ | refine zo ?_ | refine zb ?_ | refine zm ?_ | refine zc ?_ | refine ze ?_) | ((with_reducible refine bc_t ?_ ?_); (first | omega | decide)) | ((with_reducible refine bc_f ?_ ?_); (first | omega | decide)) | (with_reducible first | refine bc (fun h => ?_) (fun h => ?_) | refine zt ?_ | refine zf ?_ | refine br_i (fun h => ?_) (fun h => ?_) | refine xi (pv_bool fun _ => eqv30 _ _ _ _ _ _ _ _ _) ?_) | refine zg ?_ | refine zi ?_)
            all_goals conv => whnf
            refine ⟨(i + 1, [], .nil 3), ⟨by show _ ≤ _; omega, .inl ⟨rfl, rfl⟩, g3⟩, ?_, by show _ - _ < _ - _; omega⟩
            (conv => whnf); exact zent
          · repeat' ((conv => whnf); first | (with_reducible first | refine br_t ?_ | refine br_f ?_ | refine za ?_ | refine zg ?_ | refine zo ?_ | refine zb ?_ | refine zm ?_ | refine zc ?_ | refine ze ?_) | ((with_reducible refine bc_t ?_ ?_); (first | omega | decide)) | ((with_reducible refine bc_f ?_ ?_); (first | omega | decide)) | (with_reducible first | refine bc (fun h => ?_) (fun h => ?_) | refine zt ?_ | refine zf ?_ | refine br_i (fun h => ?_) (fun h => ?_) | refine xi (pv_bool fun _ => eqv30 _ _ _ _ _ _ _ _ _) ?_) | refine zg ?_ | refine zi ?_)
            all_goals conv => whnf
            refine ⟨(i + 1, b, pts b), ⟨by show _ ≤ _; omega, .inr rfl, g3⟩, ?_, by show _ - _ < _ - _; omega⟩
            (conv => whnf); exact zent
      · have hel2 := mos_get' (l := w) (i := i - 1) (j := IntKind.i64.wrap (((i : Nat) : Int) - 1)) (by omega) (by rw [IntWalk.i64_in _ (by omega)]; omega)
        have ew : IntKind.i64.wrap (((i : Nat) : Int) - 1) = ((i - 1 : Nat) : Int) := by rw [IntWalk.i64_in _ (by omega)]; omega
        have hu := hup (i - 1) i (by omega) hlt (by omega)
        rw [qv_lt (hmem (i - 1) (by omega)).2 m2] at hu
        rw [if_neg (by omega), List.getElem?_eq_getElem (by omega), Option.getD_some] at hd
        have R3 := rcompare_fn w[i - 1].n w[i - 1].d w[i].n w[i].d
        have S := rfSame_fn w[i - 1].l w[i].l
        rw [decide_eq_false (fun h => hd h.symm)] at S
        have hcm1 : cmpN (w[i - 1].n * w[i].d) (w[i].n * w[i - 1].d) = -1 := by rcases cmpN_cases (w[i - 1].n * w[i].d) (w[i].n * w[i - 1].d) with h | h | h <;> omega
        rw [hcm1] at R3
        clear hdf hup hmem hu hcm1 hd
        generalize w[i - 1] = y at *
        generalize w[i] = x at *
        by_cases hle : x.n * e ≤ n * x.d
        · rw [if_pos hle] at g3
          have hcm : cmpN (x.n * e) (n * x.d) ≤ 0 := by rcases cmpN_cases (x.n * e) (n * x.d) with h | h | h <;> omega
          generalize cmpN (x.n * e) (n * x.d) = c at *
          rcases g2 with ⟨rfl, rfl⟩ | rfl
          all_goals
            repeat' ((conv => whnf); first | (with_reducible first | refine br_t ?_ | refine br_f ?_ | refine za ?_ | refine zg ?_ | refine zo ?_ | refine zb ?_ | refine zm ?_ | refine zc ?_ | refine ze ?_) | ((with_reducible refine bc_t ?_ ?_); (first | omega | decide)) | ((with_reducible refine bc_f ?_ ?_); (first | omega | decide)) | (with_reducible first | refine bc (fun h => ?_) (fun h => ?_) | refine zt ?_ | refine zf ?_ | refine br_i (fun h => ?_) (fun h => ?_) | refine xi (pv_bool fun _ => eqv30 _ _ _ _ _ _ _ _ _) ?_) | refine zg ?_ | refine zi ?_)
            all_goals conv => whnf
            refine ⟨(i + 1, x.l, pts x.l), ⟨by show _ ≤ _; omega, .inr rfl, g3⟩, ?_, by show _ - _ < _ - _; omega⟩
            (conv => whnf); exact zent
        · rw [if_neg hle] at g3
          have hcm : ¬ cmpN (x.n * e) (n * x.d) ≤ 0 := by rcases cmpN_cases (x.n * e) (n * x.d) with h | h | h <;> omega
          generalize cmpN (x.n * e) (n * x.d) = c at *
          rcases g2 with ⟨rfl, rfl⟩ | rfl
          · repeat' ((conv => whnf); first | (with_reducible first | refine br_t ?_ | refine br_f ?_ | refine za ?_ | refine zg ?_ | refine zo ?_ | refine zb ?_ | refine zm ?_ | refine zc ?_ | refine ze ?_) | ((with_reducible refine bc_t ?_ ?_); (first | omega | decide)) | ((with_reducible refine bc_f ?_ ?_); (first | omega | decide)) | (with_reducible first | refine bc (fun h => ?_) (fun h => ?_) | refine zt ?_ | refine zf ?_ | refine br_i (fun h => ?_) (fun h => ?_) | refine xi (pv_bool fun _ => eqv30 _ _ _ _ _ _ _ _ _) ?_) | refine zg ?_ | refine zi ?_)
            all_goals conv => whnf
            refine ⟨(i + 1, [], .nil 3), ⟨by show _ ≤ _; omega, .inl ⟨rfl, rfl⟩, g3⟩, ?_, by show _ - _ < _ - _; omega⟩
            (conv => whnf); exact zent
          · repeat' ((conv => whnf); first | (with_reducible first | refine br_t ?_ | refine br_f ?_ | refine za ?_ | refine zg ?_ | refine zo ?_ | refine zb ?_ | refine zm ?_ | refine zc ?_ | refine ze ?_) | ((with_reducible refine bc_t ?_ ?_); (first | omega | decide)) | ((with_reducible refine bc_f ?_ ?_); (first | omega | decide)) | (with_reducible first | refine bc (fun h => ?_) (fun h => ?_) | refine zt ?_ | refine zf ?_ | refine br_i (fun h => ?_) (fun h => ?_) | refine xi (pv_bool fun _ => eqv30 _ _ _ _ _ _ _ _ _) ?_) | refine zg ?_ | refine zi ?_)
            all_goals conv => whnf
            refine ⟨(i + 1, b, pts b), ⟨by show _ ≤ _; omega, .inr rfl, g3⟩, ?_, by show _ - _ < _ - _; omega⟩
            (conv => whnf); exact zent
    · rw [hadL_ge hge, hH] at g3
      clear hdf hup hmem hH G1 G2 G3 HA W
      rcases hcs with h6 | ⟨m, hm, h7, h8, h9⟩
      · rw [h6] at E
        simp only [retW] at E
        rcases g2 with ⟨rfl, _⟩ | rfl
        all_goals
          repeat' ((conv => whnf); first | (with_reducible first | refine br_t ?_ | refine br_f ?_ | refine za ?_ | refine zg ?_ | refine zo ?_ | refine zb ?_ | refine zm ?_ | refine zc ?_ | refine ze ?_) | ((with_reducible refine bc_t ?_ ?_); (first | omega | decide)) | ((with_reducible refine bc_f ?_ ?_); (first | omega | decide)) | (with_reducible first | refine bc (fun h => ?_) (fun h => ?_) | refine zt ?_ | refine zf ?_ | refine br_i (fun h => ?_) (fun h => ?_) | refine xi (pv_bool fun _ => eqv30 _ _ _ _ _ _ _ _ _) ?_) | refine zg ?_ | refine zi ?_)
          all_goals conv => whnf
          all_goals rfl
      · rw [if_neg (by omega), h9] at g3
        rw [h7] at E
        simp only [retW] at E
        have F := fFind_fn m.l id
        rcases find_aln (id := id) (hfin m hm) with ⟨x, hx1, hx2⟩ | ⟨hx1, hx2⟩
        · rw [hx1] at F
          rw [hx2] at g3
          subst g3
          simp only [retPt] at F
          obtain rfl : bd = pts [x] := by
            rcases g2 with ⟨_, h⟩ | h
            · cases h
            · exact h
          clear hfin h7 h9 hx1 hx2
          have hx3 : (List.map Pt.c [x]).length = 1 := rfl
          have hx4 : (List.map Pt.c [x])[Int.toNat 0]? = some [i64 x.id, i64 x.a, i64 x.b] := rfl
          repeat' ((conv => whnf); first | (with_reducible first | refine br_t ?_ | refine br_f ?_ | refine za ?_ | refine zg ?_ | refine zo ?_ | refine zb ?_ | refine zm ?_ | refine zc ?_ | refine ze ?_) | ((with_reducible refine bc_t ?_ ?_); (first | omega | decide)) | ((with_reducible refine bc_f ?_ ?_); (first | omega | decide)) | (with_reducible first | refine bc (fun h => ?_) (fun h => ?_) | refine zt ?_ | refine zf ?_ | refine br_i (fun h => ?_) (fun h => ?_) | refine xi (pv_bool fun _ => eqv30 _ _ _ _ _ _ _ _ _) ?_) | refine zg ?_ | refine zi ?_)
          all_goals conv => whnf
          all_goals first | rfl | exact r_bool (by simp)
        · rw [hx1] at F
          rw [hx2] at g3
          subst g3
          simp only [retPt] at F
          clear hfin h7 h9 hx1 hx2
          rcases g2 with ⟨rfl, _⟩ | rfl
          all_goals
            repeat' ((conv => whnf); first | (with_reducible first | refine br_t ?_ | refine br_f ?_ | refine za ?_ | refine zg ?_ | refine zo ?_ | refine zb ?_ | refine zm ?_ | refine zc ?_ | refine ze ?_) | ((with_reducible refine bc_t ?_ ?_); (first | omega | decide)) | ((with_reducible refine bc_f ?_ ?_); (first | omega | decide)) | (with_reducible first | refine bc (fun h => ?_) (fun h => ?_) | refine zt ?_ | refine zf ?_ | refine br_i (fun h => ?_) (fun h => ?_) | refine xi (pv_bool fun _ => eqv30 _ _ _ _ _ _ _ _ _) ?_) | refine zg ?_ | refine zi ?_)
            all_goals conv => whnf
            all_goals first | rfl | exact r_bool (by simp)
  · generalize pgreat p = b at *
    generalize pchk p = z1 at *
    generalize askd n e = z3 at *
    by_cases h0 : b = true
    · subst h0
      refine fn_ok (by kernel_rfl) ty_ok Tryz.func12 rfl (fun _ _ => Tryz.call12 _ _) rfl ?_
      intro hw
      clear hw
      repeat' ((conv => whnf); first | (with_reducible first | refine br_t ?_ | refine br_f ?_ | refine za ?_ | refine zg ?_ | refine zo ?_ | refine zb ?_ | refine zm ?_ | refine zc ?_ | refine ze ?_) | ((with_reducible refine bc_t ?_ ?_); (first | omega | decide)) | ((with_reducible refine bc_f ?_ ?_); (first | omega | decide)) | (with_reducible first | refine bc (fun h => ?_) (fun h => ?_) | refine zt ?_ | refine zf ?_ | refine br_i (fun h => ?_) (fun h => ?_) | refine xi (pv_bool fun _ => eqv30 _ _ _ _ _ _ _ _ _) ?_) | refine zg ?_ | refine zi ?_)
      all_goals conv => whnf
      all_goals rfl
    · obtain rfl : b = false := by simpa using h0
      simp only [true_and] at hc
      by_cases h1 : z1 = 0
      · have h3 : z3 ≠ 0 := fun h => hc ⟨h1, h⟩
        refine fn_ok (by kernel_rfl) ty_ok Tryz.func12 rfl (fun _ _ => Tryz.call12 _ _) rfl ?_
        intro hw
        clear hw
        repeat' ((conv => whnf); first | (with_reducible first | refine br_t ?_ | refine br_f ?_ | refine za ?_ | refine zg ?_ | refine zo ?_ | refine zb ?_ | refine zm ?_ | refine zc ?_ | refine ze ?_) | ((with_reducible refine bc_t ?_ ?_); (first | omega | decide)) | ((with_reducible refine bc_f ?_ ?_); (first | omega | decide)) | (with_reducible first | refine bc (fun h => ?_) (fun h => ?_) | refine zt ?_ | refine zf ?_ | refine br_i (fun h => ?_) (fun h => ?_) | refine xi (pv_bool fun _ => eqv30 _ _ _ _ _ _ _ _ _) ?_) | refine zg ?_ | refine zi ?_)
        all_goals conv => whnf
        all_goals rfl
      · refine fn_ok (by kernel_rfl) ty_ok Tryz.func12 rfl (fun _ _ => Tryz.call12 _ _) rfl ?_
        intro hw
        clear hw
        repeat' ((conv => whnf); first | (with_reducible first | refine br_t ?_ | refine br_f ?_ | refine za ?_ | refine zg ?_ | refine zo ?_ | refine zb ?_ | refine zm ?_ | refine zc ?_ | refine ze ?_) | ((with_reducible refine bc_t ?_ ?_); (first | omega | decide)) | ((with_reducible refine bc_f ?_ ?_); (first | omega | decide)) | (with_reducible first | refine bc (fun h => ?_) (fun h => ?_) | refine zt ?_ | refine zf ?_ | refine br_i (fun h => ?_) (fun h => ?_) | refine xi (pv_bool fun _ => eqv30 _ _ _ _ _ _ _ _ _) ?_) | refine zg ?_ | refine zi ?_)
        all_goals conv => whnf
        all_goals rfl
end Go.Proofs.YtnhljlihchegjaaGreat

/- PastWas answers true for every past, ID and time, and leaves its arguments as they are. No condition. -/
namespace Go.Proofs.YtnhljlihchegjaaGreat
open Go.RowKit Go.ChangeShapes Go.WideShapes Go.ChangeAt Sx
theorem pastWas_own : ownKnob Tryz.prog.godebug = none := by kernel_rfl
set_option maxRecDepth 100000 in
theorem pastWas_lifted (os : Os) (started : os.Started) (H : Type) (enc : TypeId × Value → H) :
    ReturnsInHanded {} Tryz.checked os 12 .any (Rows.pastWasSpec.pre6 enc Tryz.prog Tryz.f12 Rows.pastWasRow.domain false) (Rows.pastWasSpec.post enc Tryz.prog Tryz.f12 false true false false) := by
  refine returnsInHanded_of_change (C := Tryz.checked) pastWas_own started (by kernel_rfl) Tryz.func12
    (ChangeSpec.witness6 (enc := enc) (C := Tryz.checked) false ⟨#[], #[.agg #[.int .i64 0, .int .i64 0, .slice none 0 0], .int .i64 0, .agg #[.int .i64 0, .int .i64 0]], []⟩ 12 (by kernel_rfl) (by kernel_rfl) (by kernel_rfl) (by kernel_rfl)) ?_
  intro W base args ds gs before hval0 hW hcnd _
  have hval : ∀ (j : Nat) t v, Tryz.f12.params[j]? = some t → args[j]? = some v → Value.okWide Tryz.prog W .any base t v := hval0
  have hW' := hW
  obtain ⟨p, q, hA0, hV, rfl, hfz, hnd⟩ := hW
  have hA : DataW.TrodAll enc Tryz.prog W 0 (fun _ => true) true Tryz.f12.params.toList args.toList ds p := hA0
  rw [Tryz.params12] at hA hval
  obtain ⟨v0, vs0, d0, ds0, p0, q0, hargs, rfl, rfl, h0, r0⟩ := trodAll_cons hA
  obtain ⟨v1, vs1, d1, ds1, p1, q1, rfl, rfl, rfl, h1, r1⟩ := trodAll_cons r0
  obtain ⟨v2, vs2, d2, ds2, p2, q2, rfl, rfl, rfl, h2, r2⟩ := trodAll_cons r1
  obtain ⟨rfl, rfl, rfl⟩ := trodAll_nil r2
  obtain rfl : args = #[v0, v1, v2] := by cases args; simp_all
  obtain ⟨e0, hd0, hf0⟩ := arg_data (tyB_ok (s := shPast) (by kernel_rfl)) (hval 0 86 v0 rfl rfl) h0
  obtain ⟨x0, rfl⟩ := fit_past hf0
  obtain ⟨e1, hd1, hf1⟩ := arg_data (tyB_ok (s := shInt) (by kernel_rfl)) (hval 1 3 v1 rfl rfl) h1
  obtain ⟨x1, rfl⟩ := fit_int hf1
  obtain ⟨e2, hd2, hf2⟩ := arg_data (tyB_ok (s := shRatio) (by kernel_rfl)) (hval 2 23 v2 rfl rfl) h2
  obtain ⟨x2, x3, rfl⟩ := fit_ratio hf2
  refine (law_of_fn (vs := [v0, v1, v2]) (fun _ _ => Tryz.call12 _ _) (LWas_fn x0 x1 x2 x3) ⟨hd0, hd1, hd2, trivial⟩).mono fun e W' ⟨he, hb⟩ => ?_
  subst he
  exact ⟨_, rfl, law_post (by kernel_rfl) (by kernel_rfl) rfl Tryz.underlying4 rfl hW' ⟨rfl, rfl, rfl⟩ hb⟩
theorem pastWas_over : Rows.pastWasRow.holds Tryz.pinned (OpenSpec.ofChange Rows.pastWasSpec) :=
  OpenClaim.holds_of_wide 12 Tryz.f12 rfl rfl rfl rfl rfl rfl rfl ⟨rfl, rfl, rfl, rfl, rfl⟩ rfl rfl rfl rfl rfl (by kernel_rfl) Tryz.func12 (by kernel_rfl)
    (of_decide_eq_true (by kernel_rfl)) (by unfold Func.isWrapper; rw [if_neg (of_decide_eq_false (by kernel_rfl))]; exact ⟨rfl, rfl⟩)
    (fun os started H enc _ => pastWas_lifted os started H enc)
/-- the statement -/
theorem pastWas_proved : Rows.PastWasSaid := pastWas_over
#print axioms pastWas_proved
end Go.Proofs.YtnhljlihchegjaaGreat
