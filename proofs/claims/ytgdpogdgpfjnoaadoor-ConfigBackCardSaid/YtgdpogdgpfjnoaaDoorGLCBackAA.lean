import Derived.Test.YtgdpogdgpfjnoaaDoorGCAP
import Derived.Test.YtgdpogdgpfjnoaaDoorGCAL
set_option linter.all false
namespace Go.Proofs.YtgdpogdgpfjnoaaDoor
open Go Go.RowKit Go.Sort Sx
open Go.Lib hiding intOf
theorem textSV_ok {m : Md} (h : mchk m = 0) : textSV m = (textT m, 0) := if_pos h
theorem textSV_no {m : Md} (h : mchk m = 8) : textSV m = ([], 8) := if_neg (by omega)
theorem text_cut (m : Md) : (spl 10 (textT m)).length = m.l.length + 2 := by
  unfold textT
  rw [spl_end (lines_no m)]
  simp
theorem parse_of {m : Md} (h : mchk m = 0) : parseV (textT m) = (m, 0) := by
  unfold parseV
  rw [if_neg (by have := text_len h; omega)]
  exact prsV_is.of m h
theorem parse_key {s : Str} (h : s.length ≤ 2500) {n : Md} {e : Int} (hy : parseV s = (n, e)) : (e = 0 ∧ mchk n = 0 ∧ textSV n = (s, 0)) ∨ (e = 12 ∧ n = mdZ) := by
  unfold parseV at hy
  rw [if_neg (by omega)] at hy
  by_cases h0 : e = 0
  · have h1 := prsV_is.ok s
    rw [hy] at h1
    obtain ⟨q1, q2⟩ := h1 h0
    exact .inl ⟨h0, q1, by rw [textSV_ok q1, q2]⟩
  · have h1 := prsV_is.no s
    rw [hy] at h1
    have := h1 h0
    exact .inr ⟨(Prod.mk.inj this).2, (Prod.mk.inj this).1⟩
set_option maxRecDepth 100000 in
set_option maxHeartbeats 4000000 in
theorem LCBack_fn (m : Md) (s : Str) (hs0 : s.length ≤ 9223372036854775807) : FnOK Tryd.prog 5 [m.dc, .one (str s)] (.c (.one (bol true))) := by
  have HA := CLalive_fn
  have H0 := rfGreat_fn m.l
  cases hg : great m.l
  · rw [hg] at H0
    by_cases h : s.length ≤ 2500
    · have hl : m.l.length ≤ 1000000 := by
        unfold great at hg; simp at hg; omega
      have he : (m.l.map Pt.c).length = m.l.length := List.length_map ..
      have T1 := cText_fn m
      have C1 := oCheck_fn m
      have C2 := roCheck_fn m
      have P1 := cParse_fn s (by omega)
      obtain ⟨n, e, hy⟩ : ∃ n e, parseV s = (n, e) := ⟨_, _, rfl⟩
      rw [hy] at P1
      have T2 := cText_fn n
      have C3 := oCheck_fn n
      have key := parse_key h hy
      clear hy
      rcases mchk_08 m with hm | hm
      · rw [textSV_ok hm] at T1
        rw [hm] at C1 C2
        have tl := text_len hm
        have P2 := cParse_fn (textT m) (by omega)
        rw [parse_of hm] at P2
        have S := roSameModel_fn m m
        simp only [decide_true] at S
        have K : FnOK Tryd.prog 25 [.one (str (textT m)), .one (.v (.int .u8 10))] (.c (.one (strs (spl 10 (textT m))))) := rcCut_fn (textT m) 10 (by omega)
        have kl := text_cut m
        obtain ⟨L, hL⟩ : ∃ L, L = spl 10 (textT m) := ⟨_, rfl⟩
        rw [← hL] at K kl
        clear hL
        have kl2 : (L.map fun s => [str s]).length = m.l.length + 2 := by rw [List.length_map, kl]
        have kw : IntKind.i64.wrap (2 + (((m.l.map Pt.c).length : Nat) : Int)) = ((m.l.length + 2 : Nat) : Int) := by rw [IntWalk.i64_in _ (by omega)]; omega
        generalize textT m = x at *
        obtain ⟨m1, m2, ml⟩ := m
        obtain ⟨n1, n2, nl⟩ := n
        rcases key with ⟨rfl, hn, ek⟩ | ⟨rfl, hz⟩
        · rw [ek] at T2
          rw [hn] at C3
          simp only [retS, retMd, Md.dc] at *
          refine fn_ok (by kernel_rfl) ty_ok Tryd.func5 rfl (fun _ _ => Tryd.call5 _ _) rfl ?_
          intro hw
          clear hw
          repeat' ((conv => whnf); first | (with_reducible first | refine br_t ?_ | refine br_f ?_ | refine za ?_ | refine zg ?_) | refine zsl ?_ | refine zsg ?_ | refine zss ?_ | refine zs1 ?_ | refine zse ?_ | refine zsn ?_ | refine zsc ?_ | (with_reducible first | refine zpa ?_ | refine zqa ?_) | refine zp ?_ | refine zq ?_ | (with_reducible first | refine bc (fun h => ?_) (fun h => ?_) | refine zt ?_ | refine zf ?_ | refine br_i (fun h => ?_) (fun h => ?_)) | refine zg ?_ | refine zi ?_ | refine zb ?_)
          all_goals conv => whnf
          all_goals first | rfl | (exfalso; omega) | (exfalso; rename_i h; exact absurd h (by decide)) | exact r_bool (by simp)
        · simp only [retS, retMd, Md.dc] at *
          clear T2 C3
          refine fn_ok (by kernel_rfl) ty_ok Tryd.func5 rfl (fun _ _ => Tryd.call5 _ _) rfl ?_
          intro hw
          clear hw
          repeat' ((conv => whnf); first | (with_reducible first | refine br_t ?_ | refine br_f ?_ | refine za ?_ | refine zg ?_) | refine zsl ?_ | refine zsg ?_ | refine zss ?_ | refine zs1 ?_ | refine zse ?_ | refine zsn ?_ | refine zsc ?_ | (with_reducible first | refine zpa ?_ | refine zqa ?_) | refine zp ?_ | refine zq ?_ | (with_reducible first | refine bc (fun h => ?_) (fun h => ?_) | refine zt ?_ | refine zf ?_ | refine br_i (fun h => ?_) (fun h => ?_)) | refine zg ?_ | refine zi ?_ | refine zb ?_)
          all_goals conv => whnf
          all_goals first | rfl | (exfalso; omega) | (exfalso; rename_i h; exact absurd h (by decide)) | exact r_bool (by simp)
      · rw [textSV_no hm] at T1
        rw [hm] at C1 C2
        obtain ⟨m1, m2, ml⟩ := m
        obtain ⟨n1, n2, nl⟩ := n
        rcases key with ⟨rfl, hn, ek⟩ | ⟨rfl, hz⟩
        · rw [ek] at T2
          rw [hn] at C3
          simp only [retS, retMd, Md.dc] at *
          refine fn_ok (by kernel_rfl) ty_ok Tryd.func5 rfl (fun _ _ => Tryd.call5 _ _) rfl ?_
          intro hw
          clear hw
          repeat' ((conv => whnf); first | (with_reducible first | refine br_t ?_ | refine br_f ?_ | refine za ?_ | refine zg ?_) | refine zsl ?_ | refine zsg ?_ | refine zss ?_ | refine zs1 ?_ | refine zse ?_ | refine zsn ?_ | refine zsc ?_ | (with_reducible first | refine zpa ?_ | refine zqa ?_) | refine zp ?_ | refine zq ?_ | (with_reducible first | refine bc (fun h => ?_) (fun h => ?_) | refine zt ?_ | refine zf ?_ | refine br_i (fun h => ?_) (fun h => ?_)) | refine zg ?_ | refine zi ?_ | refine zb ?_)
          all_goals conv => whnf
          all_goals first | rfl | (exfalso; omega) | (exfalso; rename_i h; exact absurd h (by decide)) | exact r_bool (by simp)
        · simp only [retS, retMd, Md.dc] at *
          clear T2 C3
          refine fn_ok (by kernel_rfl) ty_ok Tryd.func5 rfl (fun _ _ => Tryd.call5 _ _) rfl ?_
          intro hw
          clear hw
          repeat' ((conv => whnf); first | (with_reducible first | refine br_t ?_ | refine br_f ?_ | refine za ?_ | refine zg ?_) | refine zsl ?_ | refine zsg ?_ | refine zss ?_ | refine zs1 ?_ | refine zse ?_ | refine zsn ?_ | refine zsc ?_ | (with_reducible first | refine zpa ?_ | refine zqa ?_) | refine zp ?_ | refine zq ?_ | (with_reducible first | refine bc (fun h => ?_) (fun h => ?_) | refine zt ?_ | refine zf ?_ | refine br_i (fun h => ?_) (fun h => ?_)) | refine zg ?_ | refine zi ?_ | refine zb ?_)
          all_goals conv => whnf
          all_goals first | rfl | (exfalso; omega) | (exfalso; rename_i h; exact absurd h (by decide)) | exact r_bool (by simp)
    · refine fn_ok (by kernel_rfl) ty_ok Tryd.func5 rfl (fun _ _ => Tryd.call5 _ _) rfl ?_
      intro hw
      clear hw
      repeat' ((conv => whnf); first | (with_reducible first | refine br_t ?_ | refine br_f ?_ | refine za ?_ | refine zg ?_) | refine zsl ?_ | refine zsg ?_ | refine zss ?_ | refine zs1 ?_ | refine zse ?_ | refine zsn ?_ | refine zsc ?_ | (with_reducible first | refine zpa ?_ | refine zqa ?_) | refine zp ?_ | refine zq ?_ | (with_reducible first | refine bc (fun h => ?_) (fun h => ?_) | refine zt ?_ | refine zf ?_ | refine br_i (fun h => ?_) (fun h => ?_)) | refine zg ?_ | refine zi ?_ | refine zb ?_)
      all_goals conv => whnf
      all_goals first | rfl | (exfalso; omega)
  · rw [hg] at H0
    refine fn_ok (by kernel_rfl) ty_ok Tryd.func5 rfl (fun _ _ => Tryd.call5 _ _) rfl ?_
    intro hw
    clear hw
    repeat' ((conv => whnf); first | (with_reducible first | refine br_t ?_ | refine br_f ?_ | refine za ?_ | refine zg ?_) | refine zsl ?_ | refine zsg ?_ | refine zss ?_ | refine zs1 ?_ | refine zse ?_ | refine zsn ?_ | refine zsc ?_ | (with_reducible first | refine zpa ?_ | refine zqa ?_) | refine zp ?_ | refine zq ?_ | (with_reducible first | refine bc (fun h => ?_) (fun h => ?_) | refine zt ?_ | refine zf ?_ | refine br_i (fun h => ?_) (fun h => ?_)) | refine zg ?_ | refine zi ?_ | refine zb ?_)
    all_goals conv => whnf
    all_goals first | rfl | (exfalso; omega)
end Go.Proofs.YtgdpogdgpfjnoaaDoor

namespace Go.Proofs.YtgdpogdgpfjnoaaDoor
open Go Go.RowKit Go.ChangeShapes Go.WideShapes Go.ChangeAt Sx
theorem configBack_own : ownKnob Tryd.prog.godebug = none := by kernel_rfl
set_option maxRecDepth 100000 in
theorem configBack_wit (os : Os) {H : Type} (enc : TypeId × Value → H) :
    (OpenSpec.ofChange Rows.configBackSpec).preRow enc Tryd.prog Tryd.f5 Rows.configBackRow.domain false Rows.configBackRow.laid ((laidWorld os).forCall (fun _ _ => 0) ⟨#[], #[.agg #[.int .i64 0, .int .i64 0, .slice none 0 0], .string ⟨#[]⟩], []⟩).memory #[.agg #[.int .i64 0, .int .i64 0, .slice none 0 0], .string ⟨#[]⟩] := by
  have hw : (DataW.whole enc Tryd.prog ((laidWorld os).forCall (fun _ _ => 0) ⟨#[], #[.agg #[.int .i64 0, .int .i64 0, .slice none 0 0], .string ⟨#[]⟩], []⟩).memory Tryd.f5.params.toList (OpenSpec.ofChange Rows.configBackSpec).vars false (#[.agg #[.int .i64 0, .int .i64 0, .slice none 0 0], .string ⟨#[]⟩] : Array Value).toList 8).map (fun x => (x.1, x.2.1)) =
      some ([.agg [.agg [.lit (.int .i64 0), .lit (.int .i64 0)], .agg [.nil]], .lit (.string [])], []) := by kernel_rfl
  obtain ⟨⟨x1, x2, x3⟩, hx, hx1⟩ := Option.map_eq_some_iff.1 hw
  simp only [Prod.mk.injEq] at hx1
  obtain ⟨rfl, rfl⟩ := hx1
  exact OpenSpec.preRow_of_cond 8 hx (by kernel_rfl) (fun k hk => by cases hk) (by kernel_rfl) (laid_met os _)
set_option maxRecDepth 100000 in
theorem configBack_lifted (os : Os) (started : os.Started) (H : Type) (enc : TypeId × Value → H) (F : Stop.Interp) :
    ReturnsInHanded {} Tryd.checked os 5 .any ((OpenSpec.ofChange Rows.configBackSpec).preRow enc Tryd.prog Tryd.f5 Rows.configBackRow.domain false Rows.configBackRow.laid) (((OpenSpec.ofChange Rows.configBackSpec).at F).post enc Tryd.prog Tryd.f5 false true false false) := by
  refine returnsInHanded_of_row (C := Tryd.checked) (s := OpenSpec.ofChange Rows.configBackSpec) configBack_own started (by kernel_rfl) Tryd.func5
    (witness_row_at (enc := enc) (C := Tryd.checked) false (laidWorld os) #[.agg #[.int .i64 0, .int .i64 0, .slice none 0 0], .string ⟨#[]⟩] rfl (by kernel_rfl) (by kernel_rfl) (by kernel_rfl) (configBack_wit os enc)) ?_
  intro W base args ds gs before hval0 hW _ _ _ hL hsh _
  have hgd := gd_of hL hsh
  have hval : ∀ (j : Nat) t v, Tryd.f5.params[j]? = some t → args[j]? = some v → Value.okWide Tryd.prog W .any base t v := hval0
  have hW' := hW
  obtain ⟨p, q, hA0, hV, rfl, hfz, hnd⟩ := hW
  have hA : DataW.TrodAll enc Tryd.prog W 0 (fun _ => true) true Tryd.f5.params.toList args.toList ds p := hA0
  rw [Tryd.params5] at hA hval
  obtain ⟨v0, vs0, d0, ds0, p0, q0, hargs, rfl, rfl, h0, r0⟩ := trodAll_cons hA
  obtain ⟨v1, vs1, d1, ds1, p1, q1, rfl, rfl, rfl, h1, r1⟩ := trodAll_cons r0
  obtain ⟨rfl, rfl, rfl⟩ := trodAll_nil r1
  obtain rfl : args = #[v0, v1] := by cases args; simp_all
  obtain ⟨e0, hd0, hf0⟩ := arg_data (tyB_ok (s := shModel) (by kernel_rfl)) (hval 0 28 v0 rfl rfl) h0
  obtain ⟨m, rfl⟩ := fit_model hf0
  obtain ⟨e1, hd1, hf1⟩ := arg_data (tyB_ok (s := .str) (by kernel_rfl)) (hval 1 9 v1 rfl rfl) h1
  obtain ⟨s, hs, rfl⟩ := fit_str hf1
  refine (law_of_fn (vs := [v0, v1]) (fun _ _ => Tryd.call5 _ _) (LCBack_fn m s hs) hgd ⟨hd0, hd1, trivial⟩).mono fun e W' ⟨he, hb⟩ => ?_
  subst he
  exact ⟨_, rfl, law_post (s := Rows.configBackSpec) (by kernel_rfl) (by kernel_rfl) rfl Tryd.underlying4 rfl hW' ⟨rfl, rfl, rfl⟩ hb⟩
theorem configBack_and {a b : Bool} (h : a = true) (k : b = true) : (a && b) = true := by rw [h, k]; rfl
theorem configBack_c0 : (Rows.configBackRow.inPlace == Tryd.prog.inPlace 5) = true := by kernel_rfl
theorem configBack_c1 : (Rows.configBackRow.unfollowed == Tryd.prog.unfollowed 5) = true := by kernel_rfl
theorem configBack_c2 : (Rows.configBackRow.recurses == Tryd.prog.recurses 5) = true := by kernel_rfl
theorem configBack_c3 : (Rows.configBackRow.named == Tryd.prog.varsNamed 5) = true := by kernel_rfl
theorem configBack_c4 : (Rows.configBackRow.loops == (Tryd.f5.params.toList ++ (OpenSpec.ofChange Rows.configBackSpec).bare.plain.varTypes Tryd.prog).any (Tryd.prog.loopsFrom ·)) = true := by kernel_rfl
theorem configBack_c5 : laidOutB Tryd.prog = true := by kernel_rfl
theorem configBack_c6 : mapsRowed Tryd.prog = true := by kernel_rfl
theorem configBack_c7 : Tryd.prog.stopsHeard = true := by kernel_rfl
theorem configBack_c8 : Tryd.prog.mayEnter = true := by kernel_rfl
theorem configBack_facts : joinedFacts Tryd.prog 5 Tryd.f5 (OpenSpec.ofChange Rows.configBackSpec).bare Rows.configBackRow = true := by
  unfold joinedFacts
  repeat' (with_reducible refine configBack_and ?_ ?_)
  all_goals first | with_reducible exact configBack_c0 | with_reducible exact configBack_c1 | with_reducible exact configBack_c2 | with_reducible exact configBack_c3 | with_reducible exact configBack_c4 | with_reducible exact configBack_c5 | with_reducible exact configBack_c6 | with_reducible exact configBack_c7 | with_reducible exact configBack_c8 | kernel_rfl
theorem configBack_over : Rows.configBackRow.holds Tryd.pinned (OpenSpec.ofChange Rows.configBackSpec) :=
  OpenClaim.holds_of_cond 5 Tryd.f5 rfl rfl rfl rfl rfl rfl rfl ⟨rfl, rfl, rfl, rfl, rfl⟩ rfl rfl rfl rfl rfl (by kernel_rfl) Tryd.func5 configBack_facts
    (of_decide_eq_true (by kernel_rfl)) (by unfold Func.isWrapper; rw [if_neg (of_decide_eq_false (by kernel_rfl))]; exact ⟨rfl, rfl⟩)
    (fun os started H enc _ F0 => by rw [OpenClaim.pre_eq_preRow]; exact configBack_lifted os started H enc F0)
theorem configBack_params : (Tryd.f5.params.toList.all fun t => !Tryd.prog.wantsStandIn t) = true := by kernel_rfl
theorem configBack_proved : Rows.ConfigBackCardSaid :=
  Claim7.holds_tied_plain_at .later [] Rows.configBackCard.laidKinds true Rows.configBackCard.stood.harness false
    configBack_over (fun _ h => by cases h) (by kernel_rfl) (fun _ h => by cases h) configBack_row_tie rfl ⟨rfl, rfl⟩ (by kernel_rfl) rfl
    (fun f fn hf hfn => by
      obtain rfl : f = 5 := Option.some.inj (hf.symm.trans (show Tryd.prog.funcNamed "peloton/pelotonlaw44.ConfigBack" = some 5 by kernel_rfl))
      obtain rfl : fn = Tryd.f5 := (Option.some.inj (Tryd.func5.symm.trans hfn)).symm
      exact ⟨by kernel_rfl, fun j t ht => by
        have hm : t ∈ Tryd.f5.params.toList := by rw [Array.mem_toList_iff]; exact Array.mem_of_getElem? ht
        exact (by simpa using List.all_eq_true.1 configBack_params t hm : Tryd.prog.wantsStandIn t = false)⟩)
    (by kernel_rfl)
#print axioms configBack_proved
end Go.Proofs.YtgdpogdgpfjnoaaDoor
