import Derived.Test.YtnjgfhgpicmklaaGQAP
import Derived.Test.YtnjgfhgpicmklaaRows
import Derived.Test.YtnjgfhgpicmklaaGQAA
import Derived.Test.YtnjgfhgpicmklaaGQAN
set_option linter.all false
namespace Go.Proofs.Ytnjgfhgpicmklaa
open Go.RowKit Go.Sort Sx
theorem qn_nil {P : Program} {f k : Nat} {a : DC} {r : DV} (h : FnOK P f [a, .one (.list k [])] r) : FnOK P f [a, .one (.v (.slice none 0 0))] r := by
  intro w M vs hM hd
  match vs, hd with
  | [v1, v2], hd =>
    refine h w M [v1, v2] hM ⟨hd.1, ?_, trivial⟩
    have h2 : Rep w M (.v (.slice none 0 0)) v2 := hd.2.1
    cases h2
    exact Rep.nil k none 0 (by omega) (fun _ => rfl)
def fullQ (n : Nat) : List Pt := (List.range n).map fun k : Nat => (⟨(k : Int), 0, 0⟩ : Pt)
theorem fullQ_succ (n : Nat) : (fullQ n).map Pt.c ++ [[i64 (n : Int), i64 0, i64 0]] = (fullQ (n + 1)).map Pt.c := by
  unfold fullQ
  rw [List.range_succ, List.map_append, List.map_append]; rfl
theorem fullQ_len (n : Nat) : ((fullQ n).map Pt.c).length = n := by unfold fullQ; simp
abbrev qnF : Md := ⟨0, 1, fullQ 64⟩
abbrev qnA : Md := ⟨0, 1, fullQ 63⟩
abbrev qnG : Md := ⟨0, 1, (fullQ 64).drop 1⟩
abbrev qnB : Md := ⟨0, 0, []⟩
abbrev qnK : Ak := ⟨0, ⟨0, 0, 0⟩, 0, 0, 0⟩
abbrev qnC : List D := [u8 0, i64 0, i64 0, i64 0, i64 0, i64 0, i64 0]
theorem qn_map (k : Nat) : (List.replicate k qnK).map Ak.c = List.replicate k qnC := by rw [List.map_replicate]; rfl
theorem qn_e1 : errV qxM qnK = (12, 0) := by kernel_rfl
theorem qn_e2 : errV qxM ⟨5, ⟨0, 0, 0⟩, 0, 0, 0⟩ = (42, 0) := by kernel_rfl
theorem qn_e3 : errV qxM ⟨6, ⟨0, 0, 0⟩, 1, 0, 0⟩ = (12, 0) := by kernel_rfl
theorem qn_e4 : errV qnF (putA 64) = (18, 0) := by kernel_rfl
theorem qn_e5 : errV qnF (putA 63) = (14, 0) := by kernel_rfl
theorem qn_e6 : errV qnF (putA (-1)) = (8, 0) := by kernel_rfl
theorem qn_e7 : errV qxM ⟨4, ⟨0, 0, 0⟩, 0, 1073741825, 1⟩ = (2, 0) := by kernel_rfl
theorem qn_e8 : errV qxM ⟨4, ⟨0, 0, 0⟩, 0, 0, 0⟩ = (8, 0) := by kernel_rfl
theorem qn_e9 : errV qxM ⟨4, ⟨0, 0, 0⟩, 0, 1, 1024⟩ = (0, 0) := by kernel_rfl
theorem qn_e10 : errV qnF ⟨3, ⟨63, 5, 0⟩, 0, 0, 0⟩ = (0, 0) := by kernel_rfl
theorem qn_f1 : freeV qnF = (0, 18) := by kernel_rfl
theorem qn_f2 : freeV qnA = (63, 0) := by kernel_rfl
theorem qn_f3 : freeV qnG = (0, 0) := by kernel_rfl
theorem qn_f4 : freeV qxM = (0, 0) := by kernel_rfl
theorem qn_f5 : freeV qnB = (0, 8) := by kernel_rfl
theorem qn_g1 : errV qnB (putA 3) = (0, 8) := by kernel_rfl
theorem qn_g2 : errorsV qnB (List.replicate 121 qnK) = ([], 8) := by kernel_rfl
theorem qn_g3 : ofirstV qxM (List.replicate 121 qnK) = (0, 4) := by kernel_rfl
theorem qn_g4 : keptV qxM (List.replicate 121 qnK) = ([], 4) := by kernel_rfl
theorem qn_g5 : countsV qxM (List.replicate 121 qnK) = ([], 4) := by kernel_rfl
theorem qn_h1 : ofirstV qxM [] = (0, 6) := by kernel_rfl
theorem qn_h2 : ofirstV qxM [putA 1, putA 2] = (0, 6) := by kernel_rfl
theorem qn_h3 : errorsV qxM [] = ([], 0) := by kernel_rfl
theorem qn_h4 : countsV qxM (List.replicate 120 qnK) = ([(12, 120)], 0) := by kernel_rfl
theorem qn_h5 : keptV qxM (List.replicate 120 qnK) = ([], 0) := by kernel_rfl
set_option maxRecDepth 100000 in
set_option maxHeartbeats 16000000 in
theorem LQNames_fn : FnOK Try.prog 4 [] (.c (.one (bol true))) := by
  have HA := QLalive_fn
  have G := QLgiven_fn
  have T1 := roTwin_fn qnF (by have h := fullQ_len 64; rw [List.length_map] at h; show (fullQ 64).length ≤ 1000000; omega)
  have P1 := QLput_fn 64
  have P2 := QLput_fn 63
  have P3 := QLput_fn (-1)
  have P4 := QLput_fn 1
  have P5 := QLput_fn 2
  have E1 := QLerr_fn qxM qnK 12
  rw [qn_e1, decide_eq_true rfl] at E1
  have E2 := QLerr_fn qxM ⟨5, ⟨0, 0, 0⟩, 0, 0, 0⟩ 42
  rw [qn_e2, decide_eq_true rfl] at E2
  have E3 := QLerr_fn qxM ⟨6, ⟨0, 0, 0⟩, 1, 0, 0⟩ 12
  rw [qn_e3, decide_eq_true rfl] at E3
  have E4 := QLerr_fn qnF (putA 64) 18
  rw [qn_e4, decide_eq_true rfl] at E4
  have E5 := QLerr_fn qnF (putA 63) 14
  rw [qn_e5, decide_eq_true rfl] at E5
  have E6 := QLerr_fn qnF (putA (-1)) 8
  rw [qn_e6, decide_eq_true rfl] at E6
  have E7 := QLerr_fn qxM ⟨4, ⟨0, 0, 0⟩, 0, 1073741825, 1⟩ 2
  rw [qn_e7, decide_eq_true rfl] at E7
  have E8 := QLerr_fn qxM ⟨4, ⟨0, 0, 0⟩, 0, 0, 0⟩ 8
  rw [qn_e8, decide_eq_true rfl] at E8
  have E9 := QLerr_fn qxM ⟨4, ⟨0, 0, 0⟩, 0, 1, 1024⟩ 0
  rw [qn_e9, decide_eq_true rfl] at E9
  have E10 := QLerr_fn qnF ⟨3, ⟨63, 5, 0⟩, 0, 0, 0⟩ 0
  rw [qn_e10, decide_eq_true rfl] at E10
  have F1 := qFree_fn qnF
  rw [qn_f1] at F1
  have F2 : FnOK Try.prog 22 [.agg [i64 0, i64 1, .list 3 (List.drop (0 : Int).toNat (List.take (63 : Int).toNat ((fullQ 64).map Pt.c)))]] (ret2 (63, 0)) := by
    have h := qFree_fn qnA
    rw [qn_f2] at h
    exact h
  have F3 : FnOK Try.prog 22 [.agg [i64 0, i64 1, .list 3 (List.drop (1 : Int).toNat (List.take ((64 : Nat) : Int).toNat ((fullQ 64).map Pt.c)))]] (ret2 (0, 0)) := by
    have h := qFree_fn qnG
    rw [qn_f3] at h
    exact h
  have F4 := qFree_fn qxM
  rw [qn_f4] at F4
  have F5 := qFree_fn qnB
  rw [qn_f5] at F5
  have G1 := qError_fn qnB (putA 3)
  rw [qn_g1] at G1
  have G2 : FnOK Try.prog 24 [qnB.dc, .one (.list 7 (List.replicate (121 : Int).toNat qnC))] (retI ([], 8)) := by
    have h := qErrors_fn qnB (List.replicate 121 qnK)
    rw [qn_g2, aks, qn_map] at h
    exact h
  have G3 : FnOK Try.prog 25 [qxM.dc, .one (.list 7 (List.replicate (121 : Int).toNat qnC))] (ret2 (0, 4)) := by
    have h := qFirst_fn qxM (List.replicate 121 qnK)
    rw [qn_g3, aks, qn_map] at h
    exact h
  have G4 : FnOK Try.prog 26 [qxM.dc, .one (.list 7 (List.replicate (121 : Int).toNat qnC))] (retK ([], 4)) := by
    have h := qKept_fn qxM (List.replicate 121 qnK)
    rw [qn_g4, aks, qn_map] at h
    exact h
  have G5 : FnOK Try.prog 27 [qxM.dc, .one (.list 7 (List.replicate (121 : Int).toNat qnC))] (retCn ([], 4)) := by
    have h := qCounts_fn qxM (List.replicate 121 qnK)
    rw [qn_g5, aks, qn_map] at h
    exact h
  have H1 := qn_nil (k := 7) (by have h := qFirst_fn qxM []; rw [qn_h1] at h; exact h)
  have H2 := qFirst_fn qxM [putA 1, putA 2]
  rw [qn_h2] at H2
  have H3 := qn_nil (k := 7) (by have h := qErrors_fn qxM []; rw [qn_h3] at h; exact h)
  have H4 : FnOK Try.prog 27 [qxM.dc, .one (.list 7 (List.replicate (120 : Int).toNat qnC))] (retCn ([(12, 120)], 0)) := by
    have h := qCounts_fn qxM (List.replicate 120 qnK)
    rw [qn_h4, aks, qn_map] at h
    exact h
  have H5 : FnOK Try.prog 26 [qxM.dc, .one (.list 7 (List.replicate (120 : Int).toNat qnC))] (retK ([], 0)) := by
    have h := qKept_fn qxM (List.replicate 120 qnK)
    rw [qn_h5, aks, qn_map] at h
    exact h
  have S1 := rqSameCounts_fn [(12, 120)] [(12, 120)]
  have g0 : (qxL.map Ak.c)[(0 : Int).toNat]? = some [u8 1, i64 3, i64 0, i64 0, i64 0, i64 0, i64 0] := rfl
  simp only [decide_true, retI, retK, retCn, ret2, qxM, qxL, aks, Md.dc, pts, List.map_cons, List.map_nil, Ak.c, Ak.dc, putA, prc, qnF, qnB, qnK] at HA G T1 P1 P2 P3 P4 P5 E1 E2 E3 E4 E5 E6 E7 E8 E9 E10 F1 F2 F3 F4 F5 G1 G2 G3 G4 G5 H1 H2 H3 H4 H5 S1 g0
  have hfl := fullQ_len
  refine fn_ok (by kernel_rfl) (ty_okK [56] [] [] []) Try.func4 rfl (fun _ _ => Try.call4 _ _) rfl ?_
  intro hw
  clear hw
  repeat' ((conv => whnf); first | (with_reducible first | refine br_t ?_ | refine br_f ?_ | refine za ?_ | refine zg ?_ | refine zo ?_) | refine zp ?_ | refine zq ?_ | (with_reducible first | refine bc (fun h => ?_) (fun h => ?_) | refine zt ?_ | refine zf ?_ | refine br_i (fun h => ?_) (fun h => ?_)) | refine zg ?_ | refine zi ?_ | refine zb ?_ | refine zl ?_)
  all_goals conv => whnf
  refine loop_frz [100] ?_
  refine loop_nameH 3 2 100 rfl rfl rfl ?_
  refine loop_J (by kernel_rfl) (ty_okK [56] [] [] []) (σ := Nat) (fun i => [(4, sV (.int .i64 i))]) (fun i => [(3, .own [.d (i64 0), .d (i64 1), .osl 100 0]), (100, .row 3 ((fullQ i).map Pt.c) 0)]) (fun i => i ≤ 64) (fun i => 64 - i) 0 (Nat.zero_le _) ?_ ?_
  · (conv => whnf); exact zent
  intro i hi
  have hli := hfl i
  have hli2 : ((fullQ i).map Pt.c ++ [[i64 i, i64 0, i64 0]]).length ≤ 1000000 := by rw [List.length_append, hli]; simp only [List.length_cons, List.length_nil]; omega
  rcases Nat.lt_or_ge i 64 with hlt | hge
  · repeat' ((conv => whnf); first | (with_reducible first | refine br_t ?_ | refine br_f ?_ | refine za ?_ | refine zg ?_ | refine zo ?_) | exact hli2 | refine zp ?_ | refine zq ?_ | (with_reducible first | refine bc (fun h => ?_) (fun h => ?_) | refine zt ?_ | refine zf ?_ | refine br_i (fun h => ?_) (fun h => ?_)) | refine zg ?_ | refine zi ?_ | refine zb ?_ | refine zl ?_)
    all_goals conv => whnf
    refine ⟨i + 1, hlt, ?_, by omega⟩
    (conv => whnf); refine ⟨by repeat' (first | with_reducible exact zE0 | with_reducible refine zE1 ?_ ?_ | rfl | assumption | ((exact congrArg (fun x => some (Blk.row 3 x 0)) (fullQ_succ i))) | exact zi1 | exact zb1), by repeat' (first | with_reducible exact zH0 | with_reducible refine zH1 ?_ ?_ | rfl | assumption | ((exact congrArg (fun x => some (Blk.row 3 x 0)) (fullQ_succ i)))), rfl⟩
  · obtain rfl : i = 64 := by omega
    repeat' ((conv => whnf); first | (with_reducible first | refine br_t ?_ | refine br_f ?_ | refine za ?_ | refine zg ?_ | refine zo ?_) | refine ⟨_, ⟨rfl, Nat.le_of_ble_eq_true rfl⟩, ?_⟩ | rw [hli] | refine zp ?_ | refine zq ?_ | (with_reducible first | refine bc (fun h => ?_) (fun h => ?_) | refine zt ?_ | refine zf ?_ | refine br_i (fun h => ?_) (fun h => ?_)) | refine zg ?_ | refine zi ?_ | refine zb ?_ | refine zl ?_)
    all_goals conv => whnf
    all_goals rfl
end Go.Proofs.Ytnjgfhgpicmklaa

namespace Go.Proofs.Ytnjgfhgpicmklaa
open Go.RowKit Go.ChangeShapes Go.WideShapes Go.ChangeAt Sx
theorem orderNames_own : ownKnob Try.prog.godebug = none := by kernel_rfl
set_option maxRecDepth 100000 in
theorem orderNames_lifted (os : Os) (started : os.Started) (H : Type) (enc : TypeId × Value → H) :
    ReturnsInHanded {} Try.checked os 4 .any (Rows.orderNamesSpec.pre6 enc Try.prog Try.f4 Rows.orderNamesRow.domain false) (Rows.orderNamesSpec.post enc Try.prog Try.f4 false true false false) := by
  refine returnsInHanded_of_change (C := Try.checked) orderNames_own started (by kernel_rfl) Try.func4
    (ChangeSpec.witness6 (enc := enc) (C := Try.checked) false ⟨#[], #[], []⟩ 12 (by kernel_rfl) (by kernel_rfl) (by kernel_rfl) (by kernel_rfl)) ?_
  intro W base args ds gs before hval0 hW hcnd _
  have hval : ∀ (j : Nat) t v, Try.f4.params[j]? = some t → args[j]? = some v → Value.okWide Try.prog W .any base t v := hval0
  have hW' := hW
  obtain ⟨p, q, hA0, hV, rfl, hfz, hnd⟩ := hW
  have hA : DataW.TrodAll enc Try.prog W 0 (fun _ => true) true Try.f4.params.toList args.toList ds p := hA0
  rw [Try.params4] at hA hval
  obtain ⟨rfl, rfl, rfl⟩ := trodAll_none hA
  refine (law_of_fn (vs := []) (fun _ _ => Try.call4 _ _) (LQNames_fn) trivial).mono fun e W' ⟨he, hb⟩ => ?_
  subst he
  exact ⟨_, rfl, law_post (by kernel_rfl) (by kernel_rfl) rfl Try.underlying4 rfl hW' ⟨rfl, rfl, rfl⟩ hb⟩
theorem orderNames_over : Rows.orderNamesRow.holds Try.pinned (OpenSpec.ofChange Rows.orderNamesSpec) :=
  OpenClaim.holds_of_wide 4 Try.f4 rfl rfl rfl rfl rfl rfl rfl ⟨rfl, rfl, rfl, rfl, rfl⟩ rfl rfl rfl rfl rfl (by kernel_rfl) Try.func4 (by kernel_rfl)
    (of_decide_eq_true (by kernel_rfl)) (by unfold Func.isWrapper; rw [if_neg (of_decide_eq_false (by kernel_rfl))]; exact ⟨rfl, rfl⟩)
    (fun os started H enc _ => orderNames_lifted os started H enc)
theorem orderNames_proved : Rows.OrderNamesSaid := orderNames_over
#print axioms orderNames_proved
end Go.Proofs.Ytnjgfhgpicmklaa
