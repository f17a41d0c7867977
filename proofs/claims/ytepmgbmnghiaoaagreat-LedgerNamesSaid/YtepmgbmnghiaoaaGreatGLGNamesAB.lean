import Derived.Test.YtepmgbmnghiaoaaGreatGLGNamesAA
import Derived.Test.YtepmgbmnghiaoaaGreatRows
import Derived.Test.YtepmgbmnghiaoaaGreatGcAB
import Derived.Test.YtepmgbmnghiaoaaGreatGcAZ
set_option linter.all false
namespace Go.Proofs.YtepmgbmnghiaoaaGreat
open Go.RowKit Go.Sort Sx
theorem gn_nil {P : Program} {f k : Nat} {a : DC} {r : DV} (h : FnOK P f [a, .one (.list k [])] r) : FnOK P f [a, .one (.v (.slice none 0 0))] r := by
  intro w M vs hM hd
  match vs, hd with
  | [v1, v2], hd =>
    refine h w M [v1, v2] hM ⟨hd.1, ?_, trivial⟩
    have h2 : Rep w M (.v (.slice none 0 0)) v2 := hd.2.1
    cases h2
    exact Rep.nil k none 0 (by omega) (fun _ => rfl)
def gnA : Ak := ⟨0, ⟨0, 0, 0⟩, 0, 0, 0⟩
abbrev gnC : List D := [u8 0, i64 0, i64 0, i64 0, i64 0, i64 0, i64 0]
theorem gn_runs {m : Md} : ∀ k : Nat, runs m (List.replicate k gnA) = (m, List.replicate k (rpE 12))
  | 0 => rfl
  | k + 1 => by
    have h : askV m gnA = (m, rpE 12) := by unfold askV; rw [if_neg (by decide)]
    simp only [List.replicate_succ, runs, h]
    rw [gn_runs k]
theorem gn_map (k : Nat) : (List.replicate k gnA).map Ak.c = List.replicate k gnC := by rw [List.map_replicate]; rfl
abbrev gnX : Lg := ⟨gxM, gxL, gxR⟩
abbrev gnZ : Lg := ⟨gxM, List.replicate 120 gnA, List.replicate 120 (rpE 12)⟩
abbrev gnN : Lg := ⟨gxM, [], []⟩
abbrev gnY : Lg := ⟨md0, List.replicate 121 gnA, []⟩
abbrev gnS : Lg := ⟨gxM, gxL, [rp0]⟩
abbrev gnB : Lg := ⟨md0, gxL, gxR⟩
abbrev gnW : Lg := ⟨gxM, gxL, [⟨14, 0, 0, 0, 0, []⟩, ⟨0, 1, 0, 1, 1, []⟩]⟩
theorem gn_z : lchk gnZ = 0 := by
  have h := lchk_mk (m := gxM) (l := List.replicate 120 gnA) (by decide) (by simp)
  rw [gn_runs] at h
  exact h
theorem gn_n : lchk gnN = 0 := by decide
theorem gn_yf : formL gnY = 4 := by
  unfold formL
  rw [if_pos (by rw [List.length_replicate]; decide)]
theorem gn_y : lchk gnY = 4 := by
  unfold lchk
  rw [gn_yf, if_neg (by decide)]
theorem gn_s : lchk gnS = 8 := by decide
theorem gn_b : lchk gnB = 8 := by decide
theorem gn_ww : wrg gxM gxL [⟨14, 0, 0, 0, 0, []⟩, ⟨0, 1, 0, 1, 1, []⟩] = some 0 := by
  simp only [wrg, gx_put]
  rw [if_neg (by decide)]
theorem gn_w : lchk gnW = 36 := by
  unfold lchk
  rw [if_pos (by decide), gn_ww]
  rfl
theorem gn_wv : wrongV gnW = (0, 0) := by
  unfold wrongV
  rw [if_pos (by decide)]
  unfold wrgI
  rw [gn_ww]
  rfl
theorem gn_xv : wrongV gnX = (0, 6) := by
  unfold wrongV
  rw [if_pos (by decide)]
  unfold wrgI
  rw [show wrg gnX.s gnX.al gnX.rs = none from (wrg_none _ _ _ (by decide)).2 (by rw [show runs gnX.s gnX.al = (gxN, gxR) from gx_run])]
theorem gn_yv : wrongV gnY = (0, 4) := by
  unfold wrongV
  rw [gn_yf, if_neg (by decide)]
theorem gn_sv : wrongV gnS = (0, 8) := by decide
theorem gn_at {x : Lg} {n : Int} (h : lchk x = 0) (k : n < 0 ∨ (x.al.length : Int) < n) : latV x n = (md0, 2) := by
  unfold latV
  rw [if_pos h, if_pos k]
theorem gn_at2 {x : Lg} {n : Int} (h : lchk x ≠ 0) : latV x n = (md0, lchk x) := by
  unfold latV
  rw [if_neg h]
set_option maxRecDepth 100000 in
set_option maxHeartbeats 16000000 in
theorem LGNames_fn : FnOK Tryz.prog 10 [] (.c (.one (bol true))) := by
  have A1 := GLat_fn 1
  have A2 := GLgiven_fn
  have HA := GLalive_fn
  have B1 := gRecord_fn gxM gxL
  rw [gx_rec] at B1
  have B2 : FnOK Tryz.prog 32 [gxM.dc, .one (.v (.slice none 0 0))] (retG (gnN, 0)) := gn_nil (k := 7) (by
    have h := gRecord_fn gxM []
    rw [show recV gxM [] = (gnN, 0) by decide] at h
    exact h)
  have B3 : FnOK Tryz.prog 32 [md0.dc, .one (.list 7 (List.replicate (121 : Int).toNat gnC))] (retG (lg0, 8)) := by
    have h := gRecord_fn md0 (List.replicate 121 gnA)
    rw [show recV md0 (List.replicate 121 gnA) = (lg0, 8) by unfold recV; rw [if_neg (by decide)], aks, gn_map] at h
    exact h
  have B4 : FnOK Tryz.prog 32 [gxM.dc, .one (.list 7 (List.replicate (121 : Int).toNat gnC))] (retG (lg0, 4)) := by
    have h := gRecord_fn gxM (List.replicate 121 gnA)
    rw [show recV gxM (List.replicate 121 gnA) = (lg0, 4) by unfold recV; rw [if_pos (by decide), if_pos (by rw [List.length_replicate]; decide)], aks, gn_map] at h
    exact h
  have B5 : FnOK Tryz.prog 32 [gxM.dc, .one (.list 7 (List.replicate (120 : Int).toNat gnC))] (retG (gnZ, 0)) := by
    have h := gRecord_fn gxM (List.replicate 120 gnA)
    rw [show recV gxM (List.replicate 120 gnA) = (gnZ, 0) by unfold recV; rw [if_pos (by decide), if_neg (by rw [List.length_replicate]; decide), gn_runs], aks, gn_map] at h
    exact h
  have T := rgTwin_own gnX (by decide) (by decide) (by decide) (by decide)
  have T2 := rgTwin_fn gnX (by decide) (by decide) (by decide) (by decide)
  have W1 := gWrong_fn gnY
  rw [gn_yv] at W1
  have W2 := gWrong_fn gnS
  rw [gn_sv] at W2
  have W3 := gWrong_fn gnW
  rw [gn_wv] at W3
  have W4 := gWrong_fn gnX
  rw [gn_xv] at W4
  have C1 := gAt_fn gnW 9
  rw [gn_at2 (by rw [gn_w]; decide), gn_w] at C1
  have C2 := gAt_fn gnX 3
  rw [gn_at gx_chk (by decide)] at C2
  have C3 := gAt_fn gnX (-1)
  rw [gn_at gx_chk (by decide)] at C3
  have U1 := gCut_fn gnB 0
  unfold cutV at U1
  rw [gn_at2 (by rw [gn_b]; decide), gn_b, if_neg (by decide)] at U1
  have U2 := gCut_fn gnX 3
  unfold cutV at U2
  rw [gn_at gx_chk (by decide), if_neg (by decide)] at U2
  have J1 := gJoin_bad1 (x := gnS) (y := gnY) (by rw [gn_s]; decide)
  rw [gn_s] at J1
  have J2 := gJoin_bad2 (x := gnX) (y := gnY) gx_chk (by rw [gn_y]; decide)
  rw [gn_y] at J2
  have J3 := gJoin_order (x := gnX) (y := gnX) (f := gxN.l) gx_chk gx_chk (by rw [show runs gnX.s gnX.al = (gxN, gxR) from gx_run]) (by decide)
  have J4 := gJoin_fn (x := gnN) (y := gnZ) gn_n gn_z rfl (by show 0 + (List.replicate 120 gnA).length ≤ 120; rw [List.length_replicate]; decide)
  have J5 := gJoin_fn (x := gnN) (y := gnX) gn_n gx_chk rfl (by decide)
  have J6 := gJoin_fn (x := gnZ) (y := gnN) gn_z gn_n (by rw [show runs gnZ.s gnZ.al = _ from gn_runs 120]) (by show (List.replicate 120 gnA).length + 0 ≤ 120; rw [List.length_replicate]; decide)
  have J7 := gJoin_many (x := gnZ) (y := gnZ) gn_z gn_z (by rw [show runs gnZ.s gnZ.al = _ from gn_runs 120]) (by show 120 < (List.replicate 120 gnA).length + (List.replicate 120 gnA).length; rw [List.length_replicate]; decide)
  have K1 := gCheck_fn gnY
  rw [gn_y] at K1
  have K2 := gCheck_fn gnS
  rw [gn_s] at K2
  have K3 := gCheck_fn gnB
  rw [gn_b] at K3
  have K4 := gCheck_fn gnW
  rw [gn_w] at K4
  have K5 := gCheck_fn gnX
  rw [gx_chk] at K5
  have K6 := gCheck_fn gnN
  rw [gn_n] at K6
  have K7 := gCheck_fn lg0
  rw [show lchk lg0 = 8 by decide] at K7
  have S1 := rgSame_fn gnX gnX
  simp only [List.nil_append, List.append_nil] at J4 J5 J6
  simp only [decide_true, retG, retCut, ret2, Lg.dc, Md.dc, aks, rps, pts, List.map_cons, List.map_nil, Ak.c, Rp.c, Pt.c, rp0, mts, lg0, md0] at A2 B1 B2 B3 B4 B5 T T2 W1 W2 W3 W4 C1 C2 C3 U1 U2 J1 J2 J3 J4 J5 J6 J7 K1 K2 K3 K4 K5 K6 K7 S1
  have hY : List.map Ak.c (List.replicate 121 gnA) = List.replicate (121 : Int).toNat gnC := gn_map 121
  simp only [hY] at W1 J1 J2 K1
  have hz : (List.map Ak.c (List.replicate 120 gnA)).length = 120 := by rw [List.length_map, List.length_replicate]
  have hr : (List.map Rp.c (List.replicate 120 (rpE 12))).length = 120 := by rw [List.length_map, List.length_replicate]
  clear hY
  generalize List.map Ak.c (List.replicate 120 gnA) = ZA at *
  generalize List.map Rp.c (List.replicate 120 (rpE 12)) = RR at *
  have hS : ([[i64 0, i64 0, i64 0, i64 0, i64 0, .list 4 []]] : List (List D)) = List.drop (0 : Int).toNat (List.take (1 : Int).toNat [[i64 0, i64 0, i64 0, i64 0, i64 0, .list 4 []], [i64 0, i64 1, i64 0, i64 0, i64 1, .list 4 []]]) := rfl
  rw [hS] at W2 K2 J1
  clear hS
  refine fn_ok (by kernel_rfl) (ty_okK [126] [] [] []) Tryz.func10 rfl (fun _ _ => Tryz.call10 _ _) rfl ?_
  intro hw
  clear hw
  repeat' ((conv => whnf); first | (with_reducible first | refine br_t ?_ | refine br_f ?_ | refine za ?_ | refine zg ?_ | refine zo ?_) | rw [hz] | rw [hr] | refine ⟨_, ⟨rfl, Nat.le_of_ble_eq_true rfl⟩, ?_⟩ | refine zl ?_ | refine zp ?_ | refine zq ?_ | (with_reducible first | refine bc (fun h => ?_) (fun h => ?_) | refine zt ?_ | refine zf ?_ | refine br_i (fun h => ?_) (fun h => ?_)) | refine zg ?_ | refine zi ?_ | refine zb ?_ | refine zl ?_)
  all_goals conv => whnf
  all_goals rfl
end Go.Proofs.YtepmgbmnghiaoaaGreat

namespace Go.Proofs.YtepmgbmnghiaoaaGreat
open Go.RowKit Go.ChangeShapes Go.WideShapes Go.ChangeAt Sx
theorem ledgerNames_own : ownKnob Tryz.prog.godebug = none := by kernel_rfl
set_option maxRecDepth 100000 in
theorem ledgerNames_lifted (os : Os) (started : os.Started) (H : Type) (enc : TypeId × Value → H) :
    ReturnsInHanded {} Tryz.checked os 10 .any (Rows.ledgerNamesSpec.pre6 enc Tryz.prog Tryz.f10 Rows.ledgerNamesRow.domain false) (Rows.ledgerNamesSpec.post enc Tryz.prog Tryz.f10 false true false false) := by
  refine returnsInHanded_of_change (C := Tryz.checked) ledgerNames_own started (by kernel_rfl) Tryz.func10
    (ChangeSpec.witness6 (enc := enc) (C := Tryz.checked) false ⟨#[], #[], []⟩ 12 (by kernel_rfl) (by kernel_rfl) (by kernel_rfl) (by kernel_rfl)) ?_
  intro W base args ds gs before hval0 hW hcnd _
  have hval : ∀ (j : Nat) t v, Tryz.f10.params[j]? = some t → args[j]? = some v → Value.okWide Tryz.prog W .any base t v := hval0
  have hW' := hW
  obtain ⟨p, q, hA0, hV, rfl, hfz, hnd⟩ := hW
  have hA : DataW.TrodAll enc Tryz.prog W 0 (fun _ => true) true Tryz.f10.params.toList args.toList ds p := hA0
  rw [Tryz.params10] at hA hval
  obtain ⟨rfl, rfl, rfl⟩ := trodAll_none hA
  refine (law_of_fn (vs := []) (fun _ _ => Tryz.call10 _ _) (LGNames_fn) trivial).mono fun e W' ⟨he, hb⟩ => ?_
  subst he
  exact ⟨_, rfl, law_post (by kernel_rfl) (by kernel_rfl) rfl Tryz.underlying4 rfl hW' ⟨rfl, rfl, rfl⟩ hb⟩
theorem ledgerNames_over : Rows.ledgerNamesRow.holds Tryz.pinned (OpenSpec.ofChange Rows.ledgerNamesSpec) :=
  OpenClaim.holds_of_wide 10 Tryz.f10 rfl rfl rfl rfl rfl rfl rfl ⟨rfl, rfl, rfl, rfl, rfl⟩ rfl rfl rfl rfl rfl (by kernel_rfl) Tryz.func10 (by kernel_rfl)
    (of_decide_eq_true (by kernel_rfl)) (by unfold Func.isWrapper; rw [if_neg (of_decide_eq_false (by kernel_rfl))]; exact ⟨rfl, rfl⟩)
    (fun os started H enc _ => ledgerNames_lifted os started H enc)
theorem ledgerNames_proved : Rows.LedgerNamesSaid := ledgerNames_over
#print axioms ledgerNames_proved
end Go.Proofs.YtepmgbmnghiaoaaGreat
