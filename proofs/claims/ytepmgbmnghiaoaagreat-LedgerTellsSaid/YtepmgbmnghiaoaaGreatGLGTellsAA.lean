import Derived.Test.YtepmgbmnghiaoaaGreatGcAZ
import Derived.Test.YtepmgbmnghiaoaaGreatGcBA
import Derived.Test.YtepmgbmnghiaoaaGreatRows
import Derived.Test.YtepmgbmnghiaoaaGreatGcAB
set_option linter.all false
namespace Go.Proofs.YtepmgbmnghiaoaaGreat
open Go Go.RowKit Sx
namespace Sx
def shLedger : Sh := .st (.fc 3 shModel (.fc 1 shAsks (.fc 1 shReplies .f0)))
end Sx
theorem fit_ledger {c : DC} (h : FitC shLedger c) : ∃ x : Lg, c = x.dc := by
  obtain ⟨ds, rfl, h⟩ := h
  obtain ⟨_, _, rfl, h1, _, _, rfl, ⟨l, rfl, h2⟩, _, _, rfl, ⟨r, rfl, h3⟩, rfl⟩ := h
  obtain ⟨m, rfl⟩ := fits_model h1
  obtain ⟨l', rfl⟩ := exists_map (f := Ak.c) fun x hx => fits_ask (h2 x hx)
  obtain ⟨r', rfl⟩ := exists_map (f := Rp.c) fun x hx => fits_reply (h3 x hx)
  exact ⟨⟨m, l', r'⟩, rfl⟩
end Go.Proofs.YtepmgbmnghiaoaaGreat

namespace Go.Proofs.YtepmgbmnghiaoaaGreat
open Go.RowKit Go.Sort Sx
def gr37 (m : Md) (l : List Ak) : Bool := great m.l || decide (20 < l.length ∧ l.length ≤ 120 ∨ 130 < l.length)
theorem gr37_ok {m : Md} {l : List Ak} (h : gr37 m l = false) : m.l.length ≤ 70 ∧ l.length ≤ 130 ∧ (l.length ≤ 20 ∨ 120 < l.length) := by
  unfold gr37 at h
  rw [Bool.or_eq_false_iff] at h
  have h1 := h.1
  have h2 := of_decide_eq_false h.2
  unfold great at h1
  have h1 := of_decide_eq_false h1
  omega
def lgreat (x : Lg) : Bool := (x.rs.take 131).any (fun r => decide (300 < r.ms.length)) || (gr37 x.s x.al || decide (130 < x.rs.length))
theorem any_take {x : Lg} {i : Nat} (h : i < x.rs.length) : (x.rs.take (i + 1)).any (fun r => decide (300 < r.ms.length)) = ((x.rs.take i).any (fun r => decide (300 < r.ms.length)) || decide (300 < x.rs[i].ms.length)) := by
  rw [List.take_succ_eq_append_getElem h, List.any_append]; simp
theorem GLgreat_fn (x : Lg) : FnOK Tryz.prog 30 [x.dc] (.c (.one (bol (lgreat x)))) := by
  have HG : FnOK Tryz.prog 14 [x.s.dc, .one (aks x.al)] (.c (.one (bol (gr37 x.s x.al)))) := rqGreat_fn x.s x.al
  have hrl : (x.rs.map Rp.c).length = x.rs.length := List.length_map ..
  unfold lgreat
  generalize gr37 x.s x.al = g at *
  refine fn_ok (by kernel_rfl) ty_ok Tryz.func30 rfl (fun _ _ => Tryz.call30 _ _) rfl ?_
  intro hw
  simp only [WDCs, WDC, WDs] at hw
  have w2 : x.rs.length ≤ 9223372036854775807 := wd_rps hw.1.2.2.2.2.1
  have wM : ∀ r ∈ x.rs, r.ms.length ≤ 9223372036854775807 := fun r hr => by
    obtain ⟨_, _, h3⟩ := WD_list.1 hw.1.2.2.2.2.1
    have h4 := h3 r.c (List.mem_map_of_mem hr) (mts r.ms) (by simp [Rp.c])
    obtain ⟨h5, _, _⟩ := WD_list.1 h4
    simpa using h5
  clear hw
  repeat' ((conv => whnf); first | (with_reducible first | refine br_t ?_ | refine br_f ?_ | refine za ?_ | refine zg ?_) | refine zp ?_ | refine zq ?_ | (with_reducible first | refine bc (fun h => ?_) (fun h => ?_) | refine zt ?_ | refine zf ?_ | refine br_i (fun h => ?_) (fun h => ?_)) | refine zg ?_ | refine zi ?_ | refine zb ?_)
  refine loop_J (by kernel_rfl) ty_ok (σ := Nat) (fun i => [(3, sV (.int .i64 i))]) (fun _ => []) (fun i => i ≤ x.rs.length ∧ i ≤ 131 ∧ (x.rs.take i).any (fun r => decide (300 < r.ms.length)) = false) (fun i => 131 - i) 0 ⟨Nat.zero_le _, by omega, by simp⟩ ?_ ?_
  · (conv => whnf); exact zent
  rintro i ⟨hi, hi2, hI⟩
  rcases Nat.lt_or_ge i x.rs.length with hlt | hge
  · rcases Nat.lt_or_ge i 131 with h131 | h131
    · have g2 := rps_get hlt
      have hw := wM _ (List.getElem_mem hlt)
      have hs := any_take hlt
      rw [hI, Bool.false_or] at hs
      have hml : (x.rs[i].ms.map Mt.c).length = x.rs[i].ms.length := List.length_map ..
      by_cases hc : 300 < x.rs[i].ms.length
      · have e : (x.rs.take 131).any (fun r => decide (300 < r.ms.length)) = true := by
          rw [List.any_eq_true]
          refine ⟨x.rs[i], ?_, by simpa using hc⟩
          rw [List.mem_take_iff_getElem]
          exact ⟨i, by omega, rfl⟩
        rw [e]
        clear hs e
        generalize x.rs[i] = r at *
        repeat' ((conv => whnf); first | (with_reducible first | refine br_t ?_ | refine br_f ?_ | refine za ?_ | refine zg ?_) | rw [hrl] | rw [hml] | refine zp ?_ | refine zq ?_ | (with_reducible first | refine bc (fun h => ?_) (fun h => ?_) | refine zt ?_ | refine zf ?_ | refine br_i (fun h => ?_) (fun h => ?_)) | refine zg ?_ | refine zi ?_ | refine zb ?_)
        all_goals conv => whnf
        all_goals rfl
      · rw [decide_eq_false hc] at hs
        generalize x.rs[i] = r at *
        repeat' ((conv => whnf); first | (with_reducible first | refine br_t ?_ | refine br_f ?_ | refine za ?_ | refine zg ?_) | rw [hrl] | rw [hml] | refine zp ?_ | refine zq ?_ | (with_reducible first | refine bc (fun h => ?_) (fun h => ?_) | refine zt ?_ | refine zf ?_ | refine br_i (fun h => ?_) (fun h => ?_)) | refine zg ?_ | refine zi ?_ | refine zb ?_)
        all_goals conv => whnf
        refine ⟨i + 1, ⟨by omega, by omega, hs⟩, ?_, by omega⟩
        (conv => whnf); exact zent
    · obtain rfl : i = 131 := by omega
      rw [hI]
      cases g
      all_goals
        repeat' ((conv => whnf); first | (with_reducible first | refine br_t ?_ | refine br_f ?_ | refine za ?_ | refine zg ?_) | rw [hrl] | refine zp ?_ | refine zq ?_ | (with_reducible first | refine bc (fun h => ?_) (fun h => ?_) | refine zt ?_ | refine zf ?_ | refine br_i (fun h => ?_) (fun h => ?_)) | refine zg ?_ | refine zi ?_ | refine zb ?_)
        all_goals conv => whnf
        all_goals exact r_bool (by simp; try omega)
  · have e : x.rs.take 131 = x.rs.take i := by rw [List.take_of_length_le (by omega), List.take_of_length_le hge]
    rw [e, hI]
    cases g
    all_goals
      repeat' ((conv => whnf); first | (with_reducible first | refine br_t ?_ | refine br_f ?_ | refine za ?_ | refine zg ?_) | rw [hrl] | refine zp ?_ | refine zq ?_ | (with_reducible first | refine bc (fun h => ?_) (fun h => ?_) | refine zt ?_ | refine zf ?_ | refine br_i (fun h => ?_) (fun h => ?_)) | refine zg ?_ | refine zi ?_ | refine zb ?_)
      all_goals conv => whnf
      all_goals exact r_bool (by simp; try omega)
set_option maxRecDepth 100000 in
set_option maxHeartbeats 4000000 in
theorem LGTells_fn (m : Md) (l : List Ak) (x : Lg) : FnOK Tryz.prog 5 [m.dc, .one (aks l), x.dc] (.c (.one (bol true))) := by
  have G1 : FnOK Tryz.prog 14 [m.dc, .one (aks l)] (.c (.one (bol (gr37 m l)))) := rqGreat_fn m l
  have G2 := GLgreat_fn x
  cases g1 : gr37 m l
  · rw [g1] at G1
    cases g2 : lgreat x
    · rw [g2] at G2
      unfold lgreat at g2
      simp only [Bool.or_eq_false_iff, decide_eq_false_iff_not] at g2
      obtain ⟨b1, b2, b3⟩ := g2
      obtain ⟨c1, c2, c3⟩ := gr37_ok b2
      have c4 : ∀ r ∈ x.rs, r.ms.length ≤ 1000000 := fun r hr => by
        rw [List.take_of_length_le (by omega)] at b1
        have := List.any_eq_false.1 b1 r hr
        have : ¬ 300 < r.ms.length := by simpa using this
        omega
      have HT := rgTwin_fn x (by omega) (by omega) (by omega) c4
      have E1 := gRecord_fn m l
      have E2 := rgRecord_fn m l
      have E3 := gWrong_fn x
      have E4 := rgWrong_fn x
      have E5 := gCheck_fn x
      have E6 := rgCheck_fn x
      have S1 := rgSame_fn (recV m l).1 (recV m l).1
      have S2 := rgSame_fn x x
      simp only [decide_true] at S1 S2
      generalize recV m l = y at *
      generalize wrongV x = z at *
      generalize lchk x = k at *
      obtain ⟨y1, y2⟩ := y
      obtain ⟨z1, z2⟩ := z
      simp only [retG, ret2] at *
      clear b1 b2 b3 c1 c2 c3 c4 g1
      refine fn_ok (by kernel_rfl) ty_ok Tryz.func5 rfl (fun _ _ => Tryz.call5 _ _) rfl ?_
      intro hw
      clear hw
      exact zwb
    · rw [g2] at G2
      refine fn_ok (by kernel_rfl) ty_ok Tryz.func5 rfl (fun _ _ => Tryz.call5 _ _) rfl ?_
      intro hw
      clear hw
      exact zw
  · rw [g1] at G1
    refine fn_ok (by kernel_rfl) ty_ok Tryz.func5 rfl (fun _ _ => Tryz.call5 _ _) rfl ?_
    intro hw
    clear hw
    exact zw
end Go.Proofs.YtepmgbmnghiaoaaGreat

namespace Go.Proofs.YtepmgbmnghiaoaaGreat
open Go.RowKit Go.ChangeShapes Go.WideShapes Go.ChangeAt Sx
theorem ledgerTells_own : ownKnob Tryz.prog.godebug = none := by kernel_rfl
set_option maxRecDepth 100000 in
theorem ledgerTells_lifted (os : Os) (started : os.Started) (H : Type) (enc : TypeId × Value → H) :
    ReturnsInHanded {} Tryz.checked os 5 .any (Rows.ledgerTellsSpec.pre6 enc Tryz.prog Tryz.f5 Rows.ledgerTellsRow.domain false) (Rows.ledgerTellsSpec.post enc Tryz.prog Tryz.f5 false true false false) := by
  refine returnsInHanded_of_change (C := Tryz.checked) ledgerTells_own started (by kernel_rfl) Tryz.func5
    (ChangeSpec.witness6 (enc := enc) (C := Tryz.checked) false ⟨#[], #[.agg #[.int .i64 0, .int .i64 0, .slice none 0 0], .slice none 0 0, .agg #[.int .i64 0, .int .i64 0, .slice none 0 0, .slice none 0 0, .slice none 0 0]], []⟩ 12 (by kernel_rfl) (by kernel_rfl) (by kernel_rfl) (by kernel_rfl)) ?_
  intro W base args ds gs before hval0 hW hcnd _
  have hval : ∀ (j : Nat) t v, Tryz.f5.params[j]? = some t → args[j]? = some v → Value.okWide Tryz.prog W .any base t v := hval0
  have hW' := hW
  obtain ⟨p, q, hA0, hV, rfl, hfz, hnd⟩ := hW
  have hA : DataW.TrodAll enc Tryz.prog W 0 (fun _ => true) true Tryz.f5.params.toList args.toList ds p := hA0
  rw [Tryz.params5] at hA hval
  obtain ⟨v0, vs0, d0, ds0, p0, q0, hargs, rfl, rfl, h0, r0⟩ := trodAll_cons hA
  obtain ⟨v1, vs1, d1, ds1, p1, q1, rfl, rfl, rfl, h1, r1⟩ := trodAll_cons r0
  obtain ⟨v2, vs2, d2, ds2, p2, q2, rfl, rfl, rfl, h2, r2⟩ := trodAll_cons r1
  obtain ⟨rfl, rfl, rfl⟩ := trodAll_nil r2
  obtain rfl : args = #[v0, v1, v2] := by cases args; simp_all
  obtain ⟨e0, hd0, hf0⟩ := arg_data (tyB_ok (s := shModel) (by kernel_rfl)) (hval 0 28 v0 rfl rfl) h0
  obtain ⟨x0, rfl⟩ := fit_model hf0
  obtain ⟨e1, hd1, hf1⟩ := arg_data (tyB_ok (s := shAsks) (by kernel_rfl)) (hval 1 33 v1 rfl rfl) h1
  obtain ⟨x1, rfl⟩ := fit_asks hf1
  obtain ⟨e2, hd2, hf2⟩ := arg_data (tyB_ok (s := shLedger) (by kernel_rfl)) (hval 2 63 v2 rfl rfl) h2
  obtain ⟨x2, rfl⟩ := fit_ledger hf2
  refine (law_of_fn (vs := [v0, v1, v2]) (fun _ _ => Tryz.call5 _ _) (LGTells_fn x0 x1 x2) ⟨hd0, hd1, hd2, trivial⟩).mono fun e W' ⟨he, hb⟩ => ?_
  subst he
  exact ⟨_, rfl, law_post (by kernel_rfl) (by kernel_rfl) rfl Tryz.underlying4 rfl hW' ⟨rfl, rfl, rfl⟩ hb⟩
theorem ledgerTells_and {a b : Bool} (h : a = true) (k : b = true) : (a && b) = true := by rw [h, k]; rfl
theorem ledgerTells_c0 : (Rows.ledgerTellsRow.inPlace == Tryz.prog.inPlace 5) = true := by kernel_rfl
theorem ledgerTells_c1 : (Rows.ledgerTellsRow.unfollowed == Tryz.prog.unfollowed 5) = true := by kernel_rfl
theorem ledgerTells_c2 : (Rows.ledgerTellsRow.recurses == Tryz.prog.recurses 5) = true := by kernel_rfl
theorem ledgerTells_c3 : (Rows.ledgerTellsRow.named == Tryz.prog.varsNamed 5) = true := by kernel_rfl
theorem ledgerTells_c4 : (Rows.ledgerTellsRow.loops == (Tryz.f5.params.toList ++ Rows.ledgerTellsSpec.plain.varTypes Tryz.prog).any (Tryz.prog.loopsFrom ·)) = true := by kernel_rfl
theorem ledgerTells_c5 : laidOutB Tryz.prog = true := by kernel_rfl
theorem ledgerTells_c6 : mapsRowed Tryz.prog = true := by kernel_rfl
theorem ledgerTells_c7 : Tryz.prog.stopsHeard = true := by kernel_rfl
theorem ledgerTells_c8 : Tryz.prog.mayEnter = true := by kernel_rfl
theorem ledgerTells_facts : joinedFacts Tryz.prog 5 Tryz.f5 Rows.ledgerTellsSpec Rows.ledgerTellsRow = true := by
  unfold joinedFacts
  repeat' (with_reducible refine ledgerTells_and ?_ ?_)
  all_goals first | with_reducible exact ledgerTells_c0 | with_reducible exact ledgerTells_c1 | with_reducible exact ledgerTells_c2 | with_reducible exact ledgerTells_c3 | with_reducible exact ledgerTells_c4 | with_reducible exact ledgerTells_c5 | with_reducible exact ledgerTells_c6 | with_reducible exact ledgerTells_c7 | with_reducible exact ledgerTells_c8 | kernel_rfl
theorem ledgerTells_over : Rows.ledgerTellsRow.holds Tryz.pinned (OpenSpec.ofChange Rows.ledgerTellsSpec) :=
  OpenClaim.holds_of_wide 5 Tryz.f5 rfl rfl rfl rfl rfl rfl rfl ⟨rfl, rfl, rfl, rfl, rfl⟩ rfl rfl rfl rfl rfl (by kernel_rfl) Tryz.func5 ledgerTells_facts
    (of_decide_eq_true (by kernel_rfl)) (by unfold Func.isWrapper; rw [if_neg (of_decide_eq_false (by kernel_rfl))]; exact ⟨rfl, rfl⟩)
    (fun os started H enc _ => ledgerTells_lifted os started H enc)
theorem ledgerTells_proved : Rows.LedgerTellsSaid := ledgerTells_over
#print axioms ledgerTells_proved
end Go.Proofs.YtepmgbmnghiaoaaGreat
