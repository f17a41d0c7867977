import Derived.Test.YtgdpogdgpfjnoaaDoorGCAP
import Derived.Test.YtgdpogdgpfjnoaaDoorGCAL
set_option linter.all false
namespace Go.Proofs.YtgdpogdgpfjnoaaDoor
open Go Go.RowKit Go.Sort Sx
open Go.Lib hiding intOf
theorem wrt_40 {n d : Int} (h : chk n d = 0) (h1 : fitI n) (h2 : fitI d) : (wrtV n d).length ≤ 40 := by
  obtain ⟨hd, _, _⟩ := (chk_iff n d).1 h
  have e19 : (10 : Nat) ^ 19 = 10000000000000000000 := by decide
  have i1 := fit_in h1
  have i2 := fit_in h2
  have f1 := h1.1
  have l1 := itoa_len_le (n := n) (k := 19) (by decide) (by rw [e19]; have := i1.1; have := i1.2; omega)
  have l2 : (itoa d).length ≤ 19 := by
    unfold itoa
    rw [if_neg (by omega)]
    exact dec_len_le (by decide) (by rw [e19]; have := i2.2; omega)
  unfold wrtV
  split
  · omega
  · simp only [List.length_append, List.length_cons]; omega
set_option maxRecDepth 100000 in
set_option maxHeartbeats 4000000 in
theorem LCRatios_fn (n d : Int) (s : Str) (hs0 : s.length ≤ 9223372036854775807) : FnOK Tryd.prog 7 [.agg [i64 n, i64 d], .one (str s)] (.c (.one (bol true))) := by
  have HA := CLalive_fn
  by_cases h : s.length ≤ 100
  · have H1 := cNumber_fn n d
    have H2 := rcheck_fn n d
    have H3 := cReadNumber_fn s (by omega)
    obtain ⟨y1, y2, y3, hy⟩ : ∃ y1 y2 y3, readV s = ((y1, y2), y3) := ⟨_, _, _, rfl⟩
    have R1 := readV_is.ok s
    have R2 := readV_is.no s
    rw [hy] at H3 R1 R2
    simp only at R1 R2
    have H4 := cNumber_fn y1 y2
    have H5 := rcheck_fn y1 y2
    refine fn_ok (by kernel_rfl) ty_ok Tryd.func7 rfl (fun _ _ => Tryd.call7 _ _) rfl ?_
    intro hw
    have hw1 : -9223372036854775808 ≤ n ∧ n ≤ 9223372036854775807 ∧ -9223372036854775808 ≤ d ∧ d ≤ 9223372036854775807 := by
      simp only [WDCs, WDC, WDs, wd_i64] at hw; omega
    clear hw
    by_cases hc : chk n d = 0
    · obtain ⟨f1, f2⟩ := chk_fit hc ⟨hw1.1, hw1.2.1⟩ ⟨hw1.2.2.1, hw1.2.2.2⟩
      have l40 := wrt_40 hc f1 f2
      have H6 := cReadNumber_fn (wrtV n d) (by omega)
      rw [readV_is.of n d hc f1 f2] at H6
      rw [numV_ok hc] at H1
      rw [hc] at H2
      obtain ⟨x, hx⟩ : ∃ x, x = wrtV n d := ⟨_, rfl⟩
      rw [← hx] at H1 H6 l40
      clear hx
      simp only [retS, retR3] at *
      by_cases hy3 : y3 = 0
      · obtain ⟨q1, q2⟩ := R1 hy3
        rw [numV_ok q1, q2] at H4
        rw [q1] at H5
        subst hy3
        clear R1 R2
        repeat' ((conv => whnf); first | (with_reducible first | refine br_t ?_ | refine br_f ?_ | refine za ?_ | refine zg ?_) | refine zsl ?_ | refine zsg ?_ | refine zss ?_ | refine zs1 ?_ | refine zse ?_ | refine zsn ?_ | refine zsc ?_ | (with_reducible first | refine zpa ?_ | refine zqa ?_) | refine zp ?_ | refine zq ?_ | (with_reducible first | refine bc (fun h => ?_) (fun h => ?_) | refine zt ?_ | refine zf ?_ | refine br_i (fun h => ?_) (fun h => ?_) | refine xi (pv_bool fun _ => nev23 _ _ _ _ _ _ _) ?_) | refine zg ?_ | refine zi ?_ | refine zb ?_)
        all_goals conv => whnf
        all_goals first | rfl | (exfalso; omega) | (exfalso; rename_i h; exact absurd h (by decide)) | exact r_bool (by simp)
      · have e := R2 hy3
        simp only [Prod.mk.injEq] at e
        obtain ⟨⟨rfl, rfl⟩, rfl⟩ := e
        clear R1 R2 H4 H5
        repeat' ((conv => whnf); first | (with_reducible first | refine br_t ?_ | refine br_f ?_ | refine za ?_ | refine zg ?_) | refine zsl ?_ | refine zsg ?_ | refine zss ?_ | refine zs1 ?_ | refine zse ?_ | refine zsn ?_ | refine zsc ?_ | (with_reducible first | refine zpa ?_ | refine zqa ?_) | refine zp ?_ | refine zq ?_ | (with_reducible first | refine bc (fun h => ?_) (fun h => ?_) | refine zt ?_ | refine zf ?_ | refine br_i (fun h => ?_) (fun h => ?_) | refine xi (pv_bool fun _ => nev23 _ _ _ _ _ _ _) ?_) | refine zg ?_ | refine zi ?_ | refine zb ?_)
        all_goals conv => whnf
        all_goals first | rfl | (exfalso; omega) | (exfalso; rename_i h; exact absurd h (by decide)) | exact r_bool (by simp)
    · rw [numV_no hc] at H1
      have h8 := (chk_08 n d).resolve_left hc
      rw [h8] at H2
      simp only [retS, retR3] at *
      by_cases hy3 : y3 = 0
      · obtain ⟨q1, q2⟩ := R1 hy3
        rw [numV_ok q1, q2] at H4
        rw [q1] at H5
        subst hy3
        clear R1 R2
        repeat' ((conv => whnf); first | (with_reducible first | refine br_t ?_ | refine br_f ?_ | refine za ?_ | refine zg ?_) | refine zsl ?_ | refine zsg ?_ | refine zss ?_ | refine zs1 ?_ | refine zse ?_ | refine zsn ?_ | refine zsc ?_ | (with_reducible first | refine zpa ?_ | refine zqa ?_) | refine zp ?_ | refine zq ?_ | (with_reducible first | refine bc (fun h => ?_) (fun h => ?_) | refine zt ?_ | refine zf ?_ | refine br_i (fun h => ?_) (fun h => ?_) | refine xi (pv_bool fun _ => nev23 _ _ _ _ _ _ _) ?_) | refine zg ?_ | refine zi ?_ | refine zb ?_)
        all_goals conv => whnf
        all_goals first | rfl | (exfalso; omega) | (exfalso; rename_i h; exact absurd h (by decide)) | exact r_bool (by simp)
      · have e := R2 hy3
        simp only [Prod.mk.injEq] at e
        obtain ⟨⟨rfl, rfl⟩, rfl⟩ := e
        clear R1 R2 H4 H5
        repeat' ((conv => whnf); first | (with_reducible first | refine br_t ?_ | refine br_f ?_ | refine za ?_ | refine zg ?_) | refine zsl ?_ | refine zsg ?_ | refine zss ?_ | refine zs1 ?_ | refine zse ?_ | refine zsn ?_ | refine zsc ?_ | (with_reducible first | refine zpa ?_ | refine zqa ?_) | refine zp ?_ | refine zq ?_ | (with_reducible first | refine bc (fun h => ?_) (fun h => ?_) | refine zt ?_ | refine zf ?_ | refine br_i (fun h => ?_) (fun h => ?_) | refine xi (pv_bool fun _ => nev23 _ _ _ _ _ _ _) ?_) | refine zg ?_ | refine zi ?_ | refine zb ?_)
        all_goals conv => whnf
        all_goals first | rfl | (exfalso; omega) | (exfalso; rename_i h; exact absurd h (by decide)) | exact r_bool (by simp)
  · refine fn_ok (by kernel_rfl) ty_ok Tryd.func7 rfl (fun _ _ => Tryd.call7 _ _) rfl ?_
    intro hw
    clear hw
    repeat' ((conv => whnf); first | (with_reducible first | refine br_t ?_ | refine br_f ?_ | refine za ?_ | refine zg ?_) | refine zsl ?_ | refine zsg ?_ | refine zss ?_ | refine zs1 ?_ | refine zse ?_ | refine zsn ?_ | refine zsc ?_ | (with_reducible first | refine zpa ?_ | refine zqa ?_) | refine zp ?_ | refine zq ?_ | (with_reducible first | refine bc (fun h => ?_) (fun h => ?_) | refine zt ?_ | refine zf ?_ | refine br_i (fun h => ?_) (fun h => ?_) | refine xi (pv_bool fun _ => nev23 _ _ _ _ _ _ _) ?_) | refine zg ?_ | refine zi ?_ | refine zb ?_)
    all_goals conv => whnf
    all_goals first | rfl | (exfalso; omega)
end Go.Proofs.YtgdpogdgpfjnoaaDoor

namespace Go.Proofs.YtgdpogdgpfjnoaaDoor
open Go Go.RowKit Go.ChangeShapes Go.WideShapes Go.ChangeAt Sx
theorem configRatios_own : ownKnob Tryd.prog.godebug = none := by kernel_rfl
set_option maxRecDepth 100000 in
theorem configRatios_wit (os : Os) {H : Type} (enc : TypeId × Value → H) :
    (OpenSpec.ofChange Rows.configRatiosSpec).preRow enc Tryd.prog Tryd.f7 Rows.configRatiosRow.domain false Rows.configRatiosRow.laid ((laidWorld os).forCall (fun _ _ => 0) ⟨#[], #[.agg #[.int .i64 0, .int .i64 0], .string ⟨#[]⟩], []⟩).memory #[.agg #[.int .i64 0, .int .i64 0], .string ⟨#[]⟩] := by
  have hw : (DataW.whole enc Tryd.prog ((laidWorld os).forCall (fun _ _ => 0) ⟨#[], #[.agg #[.int .i64 0, .int .i64 0], .string ⟨#[]⟩], []⟩).memory Tryd.f7.params.toList (OpenSpec.ofChange Rows.configRatiosSpec).vars false (#[.agg #[.int .i64 0, .int .i64 0], .string ⟨#[]⟩] : Array Value).toList 8).map (fun x => (x.1, x.2.1)) =
      some ([.agg [.lit (.int .i64 0), .lit (.int .i64 0)], .lit (.string [])], []) := by kernel_rfl
  obtain ⟨⟨x1, x2, x3⟩, hx, hx1⟩ := Option.map_eq_some_iff.1 hw
  simp only [Prod.mk.injEq] at hx1
  obtain ⟨rfl, rfl⟩ := hx1
  exact OpenSpec.preRow_of_cond 8 hx (by kernel_rfl) (fun k hk => by cases hk) (by kernel_rfl) (laid_met os _)
set_option maxRecDepth 100000 in
theorem configRatios_lifted (os : Os) (started : os.Started) (H : Type) (enc : TypeId × Value → H) (F : Stop.Interp) :
    ReturnsInHanded {} Tryd.checked os 7 .any ((OpenSpec.ofChange Rows.configRatiosSpec).preRow enc Tryd.prog Tryd.f7 Rows.configRatiosRow.domain false Rows.configRatiosRow.laid) (((OpenSpec.ofChange Rows.configRatiosSpec).at F).post enc Tryd.prog Tryd.f7 false true false false) := by
  refine returnsInHanded_of_row (C := Tryd.checked) (s := OpenSpec.ofChange Rows.configRatiosSpec) configRatios_own started (by kernel_rfl) Tryd.func7
    (witness_row_at (enc := enc) (C := Tryd.checked) false (laidWorld os) #[.agg #[.int .i64 0, .int .i64 0], .string ⟨#[]⟩] rfl (by kernel_rfl) (by kernel_rfl) (by kernel_rfl) (configRatios_wit os enc)) ?_
  intro W base args ds gs before hval0 hW _ _ _ hL hsh _
  have hgd := gd_of hL hsh
  have hval : ∀ (j : Nat) t v, Tryd.f7.params[j]? = some t → args[j]? = some v → Value.okWide Tryd.prog W .any base t v := hval0
  have hW' := hW
  obtain ⟨p, q, hA0, hV, rfl, hfz, hnd⟩ := hW
  have hA : DataW.TrodAll enc Tryd.prog W 0 (fun _ => true) true Tryd.f7.params.toList args.toList ds p := hA0
  rw [Tryd.params7] at hA hval
  obtain ⟨v0, vs0, d0, ds0, p0, q0, hargs, rfl, rfl, h0, r0⟩ := trodAll_cons hA
  obtain ⟨v1, vs1, d1, ds1, p1, q1, rfl, rfl, rfl, h1, r1⟩ := trodAll_cons r0
  obtain ⟨rfl, rfl, rfl⟩ := trodAll_nil r1
  obtain rfl : args = #[v0, v1] := by cases args; simp_all
  obtain ⟨e0, hd0, hf0⟩ := arg_data (tyB_ok (s := shRatio) (by kernel_rfl)) (hval 0 23 v0 rfl rfl) h0
  obtain ⟨n, d, rfl⟩ := fit_ratio hf0
  obtain ⟨e1, hd1, hf1⟩ := arg_data (tyB_ok (s := .str) (by kernel_rfl)) (hval 1 9 v1 rfl rfl) h1
  obtain ⟨s, hs, rfl⟩ := fit_str hf1
  refine (law_of_fn (vs := [v0, v1]) (fun _ _ => Tryd.call7 _ _) (LCRatios_fn n d s hs) hgd ⟨hd0, hd1, trivial⟩).mono fun e W' ⟨he, hb⟩ => ?_
  subst he
  exact ⟨_, rfl, law_post (s := Rows.configRatiosSpec) (by kernel_rfl) (by kernel_rfl) rfl Tryd.underlying4 rfl hW' ⟨rfl, rfl, rfl⟩ hb⟩
theorem configRatios_and {a b : Bool} (h : a = true) (k : b = true) : (a && b) = true := by rw [h, k]; rfl
theorem configRatios_c0 : (Rows.configRatiosRow.inPlace == Tryd.prog.inPlace 7) = true := by kernel_rfl
theorem configRatios_c1 : (Rows.configRatiosRow.unfollowed == Tryd.prog.unfollowed 7) = true := by kernel_rfl
theorem configRatios_c2 : (Rows.configRatiosRow.recurses == Tryd.prog.recurses 7) = true := by kernel_rfl
theorem configRatios_c3 : (Rows.configRatiosRow.named == Tryd.prog.varsNamed 7) = true := by kernel_rfl
theorem configRatios_c4 : (Rows.configRatiosRow.loops == (Tryd.f7.params.toList ++ (OpenSpec.ofChange Rows.configRatiosSpec).bare.plain.varTypes Tryd.prog).any (Tryd.prog.loopsFrom ·)) = true := by kernel_rfl
theorem configRatios_c5 : laidOutB Tryd.prog = true := by kernel_rfl
theorem configRatios_c6 : mapsRowed Tryd.prog = true := by kernel_rfl
theorem configRatios_c7 : Tryd.prog.stopsHeard = true := by kernel_rfl
theorem configRatios_c8 : Tryd.prog.mayEnter = true := by kernel_rfl
theorem configRatios_facts : joinedFacts Tryd.prog 7 Tryd.f7 (OpenSpec.ofChange Rows.configRatiosSpec).bare Rows.configRatiosRow = true := by
  unfold joinedFacts
  repeat' (with_reducible refine configRatios_and ?_ ?_)
  all_goals first | with_reducible exact configRatios_c0 | with_reducible exact configRatios_c1 | with_reducible exact configRatios_c2 | with_reducible exact configRatios_c3 | with_reducible exact configRatios_c4 | with_reducible exact configRatios_c5 | with_reducible exact configRatios_c6 | with_reducible exact configRatios_c7 | with_reducible exact configRatios_c8 | kernel_rfl
theorem configRatios_over : Rows.configRatiosRow.holds Tryd.pinned (OpenSpec.ofChange Rows.configRatiosSpec) :=
  OpenClaim.holds_of_cond 7 Tryd.f7 rfl rfl rfl rfl rfl rfl rfl ⟨rfl, rfl, rfl, rfl, rfl⟩ rfl rfl rfl rfl rfl (by kernel_rfl) Tryd.func7 configRatios_facts
    (of_decide_eq_true (by kernel_rfl)) (by unfold Func.isWrapper; rw [if_neg (of_decide_eq_false (by kernel_rfl))]; exact ⟨rfl, rfl⟩)
    (fun os started H enc _ F0 => by rw [OpenClaim.pre_eq_preRow]; exact configRatios_lifted os started H enc F0)
theorem configRatios_params : (Tryd.f7.params.toList.all fun t => !Tryd.prog.wantsStandIn t) = true := by kernel_rfl
theorem configRatios_proved : Rows.ConfigRatiosCardSaid :=
  Claim7.holds_tied_plain_at .later [] Rows.configRatiosCard.laidKinds true Rows.configRatiosCard.stood.harness false
    configRatios_over (fun _ h => by cases h) (by kernel_rfl) (fun _ h => by cases h) configRatios_row_tie rfl ⟨rfl, rfl⟩ (by kernel_rfl) rfl
    (fun f fn hf hfn => by
      obtain rfl : f = 7 := Option.some.inj (hf.symm.trans (show Tryd.prog.funcNamed "peloton/pelotonlaw44.ConfigRatios" = some 7 by kernel_rfl))
      obtain rfl : fn = Tryd.f7 := (Option.some.inj (Tryd.func7.symm.trans hfn)).symm
      exact ⟨by kernel_rfl, fun j t ht => by
        have hm : t ∈ Tryd.f7.params.toList := by rw [Array.mem_toList_iff]; exact Array.mem_of_getElem? ht
        exact (by simpa using List.all_eq_true.1 configRatios_params t hm : Tryd.prog.wantsStandIn t = false)⟩)
    (by kernel_rfl)
#print axioms configRatios_proved
end Go.Proofs.YtgdpogdgpfjnoaaDoor
