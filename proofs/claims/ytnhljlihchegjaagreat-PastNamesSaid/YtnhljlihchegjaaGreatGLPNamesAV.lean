import Derived.Test.YtnhljlihchegjaaGreatGLPNamesAU
import Derived.Test.YtnhljlihchegjaaGreatRows
import Derived.Test.YtnhljlihchegjaaGreatGLPNamesAA
import Derived.Test.YtnhljlihchegjaaGreatGLPNamesAO
set_option linter.all false
/- The law PastNames answers true. No condition. -/
namespace Go.Proofs.YtnhljlihchegjaaGreat
open Go.RowKit Go.Sort Sx
set_option maxRecDepth 100000
def SS : List Md := (rowL 40).set 39 ⟨39, 1, [⟨777, 0, 0⟩]⟩
theorem go_f : pGoV ⟨50, 1, rowL 40⟩ ⟨50, 1, [⟨1, 0, 0⟩]⟩ = (pa0, 18) := by decide +kernel
theorem go_g : pGoV ⟨50, 1, rowL 40⟩ ⟨51, 1, [⟨39, 0, 0⟩]⟩ = (pa0, 18) := by decide +kernel
theorem go_h : pGoV ⟨50, 1, rowL 40⟩ ⟨51, 1, [⟨139, 0, 0⟩]⟩ = (⟨51, 1, rowL 40⟩, 0) := by decide +kernel
theorem go_i : pGoV ⟨39, 1, rowL 40⟩ ⟨39, 1, [⟨777, 0, 0⟩]⟩ = (⟨39, 1, SS⟩, 0) := by decide +kernel
theorem SS_len : SS.length = 40 := by unfold SS; rw [List.length_set, rowL_len]
theorem row_39 : ((rowL 40).map Md.c)[Int.toNat 39]? = some [i64 39, i64 1, .list 3 [[i64 139, i64 0, i64 0]]] := by
  have h : (rowL 40)[39]? = some ⟨39, 1, [⟨139, 0, 0⟩]⟩ := by decide +kernel
  rw [show Int.toNat 39 = 39 from rfl, List.getElem?_map, h]
  rfl
set_option maxHeartbeats 40000000 in
theorem LPNames_fn : FnOK Tryz.prog 14 [] (.c (.one (bol true))) := by
  have HA := Plalive_fn
  have X0 : FnOK Tryz.prog 60 [] (.tup [.agg [i64 0, i64 1, .list 3 [[i64 1, i64 0, i64 0]]], .one (.list 7 [[u8 4, i64 0, i64 0, i64 0, i64 0, i64 2, i64 1], [u8 2, i64 0, i64 0, i64 0, i64 1, i64 0, i64 0], [u8 1, i64 2, i64 0, i64 0, i64 0, i64 0, i64 0]])]) := by
    have h := Plexample_fn
    exact h
  have Wm1 := Plwhole_fn (-1)
  have W0 := Plwhole_fn 0
  have W50 := Plwhole_fn 50
  have W51 := Plwhole_fn 51
  have W39 := Plwhole_fn 39
  have W2 := Plwhole_fn 2
  have R40_fn : FnOK Tryz.prog 63 [.one (i64 40)] (.c (.one (.list 3 ((rowL 40).map Md.c)))) := Plrow_fn 40 (by omega)
  have R41_fn : FnOK Tryz.prog 63 [.one (i64 41)] (.c (.one (.list 3 ((rowL 41).map Md.c)))) := Plrow_fn 41 (by omega)
  have N0 : FnOK Tryz.prog 61 [.agg [i64 0, i64 1, .list 3 [[i64 1, i64 0, i64 0]]]] (.tup [.agg [i64 0, i64 1, .list 3 [[i64 0, i64 1, .list 3 [[i64 1, i64 0, i64 0]]]]], .one (i64 0)]) := by
    have h := pNew_fn ⟨0, 1, [⟨1, 0, 0⟩]⟩
    rw [show pNewV ⟨0, 1, [⟨1, 0, 0⟩]⟩ = (⟨0, 1, [⟨0, 1, [⟨1, 0, 0⟩]⟩]⟩, 0) by decide] at h
    exact h
  have N1 : FnOK Tryz.prog 61 [.agg [i64 0, i64 0, .list 3 []]] (.tup [.agg [i64 0, i64 0, .list 3 []], .one (i64 8)]) := by
    have h := pNew_fn ⟨0, 0, []⟩
    rw [show pNewV ⟨0, 0, []⟩ = (⟨0, 0, []⟩, 8) by decide] at h
    exact h
  have G1 : FnOK Tryz.prog 52 [.agg [i64 0, i64 1, .list 3 [[i64 0, i64 1, .list 3 [[i64 1, i64 0, i64 0]]]]], .agg [i64 0, i64 0, .list 3 []]] (.tup [.agg [i64 0, i64 0, .list 3 []], .one (i64 8)]) := by
    have h := pGo_fn ⟨0, 1, [⟨0, 1, [⟨1, 0, 0⟩]⟩]⟩ ⟨0, 0, []⟩
    rw [show pGoV ⟨0, 1, [⟨0, 1, [⟨1, 0, 0⟩]⟩]⟩ ⟨0, 0, []⟩ = (⟨0, 0, []⟩, 8) by decide] at h
    exact h
  have G2 : FnOK Tryz.prog 52 [.agg [i64 0, i64 1, .list 3 [[i64 0, i64 1, .list 3 [[i64 1, i64 0, i64 0]]]]], .agg [i64 (-1), i64 1, .list 3 []]] (.tup [.agg [i64 0, i64 0, .list 3 []], .one (i64 44)]) := by
    have h := pGo_fn ⟨0, 1, [⟨0, 1, [⟨1, 0, 0⟩]⟩]⟩ ⟨-1, 1, []⟩
    rw [show pGoV ⟨0, 1, [⟨0, 1, [⟨1, 0, 0⟩]⟩]⟩ ⟨-1, 1, []⟩ = (⟨0, 0, []⟩, 44) by decide] at h
    exact h
  have G3 : FnOK Tryz.prog 52 [.agg [i64 0, i64 1, .list 3 [[i64 0, i64 1, .list 3 [[i64 1, i64 0, i64 0]]]]], .agg [i64 0, i64 1, .list 3 [[i64 1, i64 0, i64 0]]]] (.tup [.agg [i64 0, i64 1, .list 3 [[i64 0, i64 1, .list 3 [[i64 1, i64 0, i64 0]]]]], .one (i64 0)]) := by
    have h := pGo_fn ⟨0, 1, [⟨0, 1, [⟨1, 0, 0⟩]⟩]⟩ ⟨0, 1, [⟨1, 0, 0⟩]⟩
    rw [show pGoV ⟨0, 1, [⟨0, 1, [⟨1, 0, 0⟩]⟩]⟩ ⟨0, 1, [⟨1, 0, 0⟩]⟩ = (⟨0, 1, [⟨0, 1, [⟨1, 0, 0⟩]⟩]⟩, 0) by decide] at h
    exact h
  have G4 : FnOK Tryz.prog 52 [.agg [i64 50, i64 1, .list 3 ((rowL 40).map Md.c)], .agg [i64 50, i64 1, .list 3 [[i64 1, i64 0, i64 0]]]] (.tup [.agg [i64 0, i64 0, .list 3 []], .one (i64 18)]) := by
    have h := pGo_fn ⟨50, 1, rowL 40⟩ ⟨50, 1, [⟨1, 0, 0⟩]⟩
    rw [go_f] at h
    exact h
  have G5 : FnOK Tryz.prog 52 [.agg [i64 50, i64 1, .list 3 ((rowL 40).map Md.c)], .agg [i64 51, i64 1, .list 3 [[i64 39, i64 0, i64 0]]]] (.tup [.agg [i64 0, i64 0, .list 3 []], .one (i64 18)]) := by
    have h := pGo_fn ⟨50, 1, rowL 40⟩ ⟨51, 1, [⟨39, 0, 0⟩]⟩
    rw [go_g] at h
    exact h
  have G6 : FnOK Tryz.prog 52 [.agg [i64 50, i64 1, .list 3 ((rowL 40).map Md.c)], .agg [i64 51, i64 1, .list 3 [[i64 139, i64 0, i64 0]]]] (.tup [.agg [i64 51, i64 1, .list 3 ((rowL 40).map Md.c)], .one (i64 0)]) := by
    have h := pGo_fn ⟨50, 1, rowL 40⟩ ⟨51, 1, [⟨139, 0, 0⟩]⟩
    rw [go_h] at h
    exact h
  have G7 : FnOK Tryz.prog 52 [.agg [i64 39, i64 1, .list 3 ((rowL 40).map Md.c)], .agg [i64 39, i64 1, .list 3 [[i64 777, i64 0, i64 0]]]] (.tup [.agg [i64 39, i64 1, .list 3 (SS.map Md.c)], .one (i64 0)]) := by
    have h := pGo_fn ⟨39, 1, rowL 40⟩ ⟨39, 1, [⟨777, 0, 0⟩]⟩
    rw [go_i] at h
    exact h
  have V0 : FnOK Tryz.prog 53 [.agg [i64 0, i64 1, .list 3 [[i64 0, i64 1, .list 3 [[i64 1, i64 0, i64 0]]]]], rat 1 1025] (.tup [.agg [.list 3 []], .one (i64 8)]) := by
    have h := pWhat_fn ⟨0, 1, [⟨0, 1, [⟨1, 0, 0⟩]⟩]⟩ 1 1025
    rw [show whatV ⟨0, 1, [⟨0, 1, [⟨1, 0, 0⟩]⟩]⟩ 1 1025 = ([], 8) by decide] at h
    exact h
  have V1 : FnOK Tryz.prog 53 [.agg [i64 0, i64 1, .list 3 [[i64 0, i64 1, .list 3 [[i64 1, i64 0, i64 0]]]]], rat 1 2] (.tup [.agg [.list 3 []], .one (i64 6)]) := by
    have h := pWhat_fn ⟨0, 1, [⟨0, 1, [⟨1, 0, 0⟩]⟩]⟩ 1 2
    rw [show whatV ⟨0, 1, [⟨0, 1, [⟨1, 0, 0⟩]⟩]⟩ 1 2 = ([], 6) by decide] at h
    exact h
  have V2 : FnOK Tryz.prog 53 [.agg [i64 0, i64 1, .list 3 [[i64 0, i64 1, .list 3 [[i64 1, i64 0, i64 0]]]]], rat (-1) 1] (.tup [.agg [.list 3 []], .one (i64 6)]) := by
    have h := pWhat_fn ⟨0, 1, [⟨0, 1, [⟨1, 0, 0⟩]⟩]⟩ (-1) 1
    rw [show whatV ⟨0, 1, [⟨0, 1, [⟨1, 0, 0⟩]⟩]⟩ (-1) 1 = ([], 6) by decide] at h
    exact h
  have L0 : FnOK Tryz.prog 56 [.agg [i64 0, i64 1, .list 3 [[i64 0, i64 1, .list 3 []]]], rat 0 1] (.tup [.one (i64 0), .one (i64 42)]) := by
    have h := pLeader_fn ⟨0, 1, [⟨0, 1, []⟩]⟩ 0 1
    rw [show pleadV ⟨0, 1, [⟨0, 1, []⟩]⟩ 0 1 = (0, 42) by decide] at h
    exact h
  have Q0 : FnOK Tryz.prog 46 [.agg [i64 0, i64 0, .list 3 []], .one (.v (.slice none 0 0))] (.tup [.agg [i64 0, i64 0, .list 3 []], .one (.list 6 []), .one (i64 8)]) := by
    have h := fn_nil2 (k := 7) (pReplay_fn ⟨0, 0, []⟩ [])
    rw [show replayV ⟨0, 0, []⟩ [] = (pa0, [], 8) by unfold replayV; rw [if_neg (by decide)]] at h
    exact h
  have Q1 : FnOK Tryz.prog 46 [.agg [i64 0, i64 1, .list 3 [[i64 1, i64 0, i64 0]]], .one (.list 7 (List.replicate (121 : Int).toNat [u8 0, i64 0, i64 0, i64 0, i64 0, i64 0, i64 0]))] (.tup [.agg [i64 0, i64 0, .list 3 []], .one (.list 6 []), .one (i64 4)]) := by
    have h := replay_make ⟨0, 1, [⟨1, 0, 0⟩]⟩ 121
    rw [show replayV ⟨0, 1, [⟨1, 0, 0⟩]⟩ (List.replicate 121 ⟨0, ⟨0, 0, 0⟩, 0, 0, 0⟩) = (pa0, [], 4) by unfold replayV; rw [if_pos (by decide), if_pos (by simp)]] at h
    exact h
  have Q2 : FnOK Tryz.prog 46 [.agg [i64 0, i64 1, .list 3 [[i64 1, i64 0, i64 0]]], .one (.list 7 ((rL 20).map Ak.c))] (.tup [.agg [i64 0, i64 0, .list 3 []], .one (.list 6 []), .one (i64 18)]) := by
    have h := pReplay_fn exM (rL 20)
    rw [replay_err (by rw [rL_len]; omega) many_full (by decide)] at h
    exact h
  obtain ⟨Q, qr, Q3⟩ : ∃ (Q : Pa) (qr : List Rp), FnOK Tryz.prog 46 [.agg [i64 0, i64 1, .list 3 [[i64 1, i64 0, i64 0]]], .one (.list 7 ((((rL 20).map Ak.c).take (78 : Int).toNat).drop (0 : Int).toNat))] (.tup [Q.dc, .one (rps qr), .one (i64 0)]) := by
    have h := pReplay_fn exM ((rL 20).take 78)
    rw [replay_ok (by rw [List.length_take]; omega) many_78] at h
    refine ⟨(rpl goodP exM ((rL 20).take 78)).1, (runs exM ((rL 20).take 78)).2, ?_⟩
    rw [show (78 : Int).toNat = 78 from rfl, Int.toNat_zero, List.drop_zero, ← List.map_take]
    exact h
  have Q4 : FnOK Tryz.prog 46 [.agg [i64 0, i64 1, .list 3 [[i64 1, i64 0, i64 0]]], .one (.list 7 [[u8 4, i64 0, i64 0, i64 0, i64 0, i64 2, i64 1], [u8 2, i64 0, i64 0, i64 0, i64 1, i64 0, i64 0], [u8 1, i64 2, i64 0, i64 0, i64 0, i64 0, i64 0]])] (.tup [.agg [i64 2, i64 1, .list 3 [[i64 0, i64 1, .list 3 [[i64 1, i64 0, i64 0]]], [i64 2, i64 1, .list 3 [[i64 2, i64 0, i64 0]]]]], .one (rps [rp0, rp0, rp0]), .one (i64 0)]) := by
    have h := pReplay_fn exM exL
    rw [ex_replay] at h
    exact h
  have K0 : FnOK Tryz.prog 55 [.agg [i64 0, i64 1, .list 3 [[i64 0, i64 1, .list 3 [[i64 1, i64 0, i64 0]]]]], .one (i64 2)] (.tup [.one (.list 3 []), .one (i64 0)]) := by
    have h := pWas_fn ⟨0, 1, [⟨0, 1, [⟨1, 0, 0⟩]⟩]⟩ 2
    rw [show wasV ⟨0, 1, [⟨0, 1, [⟨1, 0, 0⟩]⟩]⟩ 2 = ([], 0) by decide] at h
    exact h
  have K1 : FnOK Tryz.prog 55 [.agg [i64 2, i64 1, .list 3 [[i64 0, i64 1, .list 3 [[i64 1, i64 0, i64 0]]], [i64 2, i64 1, .list 3 [[i64 2, i64 0, i64 0]]]]], .one (i64 1)] (.tup [.one (.list 3 [[i64 0, i64 1, .list 3 [[i64 1, i64 0, i64 0]]], [i64 2, i64 1, .list 3 []]]), .one (i64 0)]) := by
    have h := pWas_fn ⟨2, 1, [⟨0, 1, [⟨1, 0, 0⟩]⟩, ⟨2, 1, [⟨2, 0, 0⟩]⟩]⟩ 1
    rw [show wasV ⟨2, 1, [⟨0, 1, [⟨1, 0, 0⟩]⟩, ⟨2, 1, [⟨2, 0, 0⟩]⟩]⟩ 1 = ([⟨0, 1, [⟨1, 0, 0⟩]⟩, ⟨2, 1, []⟩], 0) by decide] at h
    exact h
  have S0 : FnOK Tryz.prog 48 [.agg [i64 0, i64 1, .list 3 [[i64 0, i64 1, .list 3 [[i64 1, i64 0, i64 0]]]]], .agg [i64 0, i64 1, .list 3 [[i64 0, i64 1, .list 3 [[i64 1, i64 0, i64 0]]]]]] (.c (.one (bol true))) := by
    have h := rpSame_fn ⟨0, 1, [⟨0, 1, [⟨1, 0, 0⟩]⟩]⟩ ⟨0, 1, [⟨0, 1, [⟨1, 0, 0⟩]⟩]⟩
    rw [decide_eq_true rfl] at h
    exact h
  have S1 : FnOK Tryz.prog 65 [.one (.list 3 [[i64 0, i64 1, .list 3 [[i64 1, i64 0, i64 0]]], [i64 2, i64 1, .list 3 []]]), .one (.list 3 [[i64 0, i64 1, .list 3 [[i64 1, i64 0, i64 0]]], [i64 2, i64 1, .list 3 []]])] (.c (.one (bol true))) := by
    have h := rpSameMoments_fn [⟨0, 1, [⟨1, 0, 0⟩]⟩, ⟨2, 1, []⟩] [⟨0, 1, [⟨1, 0, 0⟩]⟩, ⟨2, 1, []⟩]
    rw [decide_eq_true rfl] at h
    exact h
  have l40 : ((rowL 40).map Md.c).length = 40 := by rw [List.length_map, rowL_len]
  have lS : (SS.map Md.c).length = 40 := by rw [List.length_map, SS_len]
  have g39 := row_39
  have D0 : FnOK Tryz.prog 52 [.agg [i64 0, i64 0, .list 3 []], .agg [i64 0, i64 0, .list 3 []]] (.tup [.agg [i64 0, i64 0, .list 3 []], .one (i64 8)]) ∧ FnOK Tryz.prog 53 [.agg [i64 0, i64 0, .list 3 []], rat 0 0] (.tup [.agg [.list 3 []], .one (i64 8)]) ∧ FnOK Tryz.prog 56 [.agg [i64 0, i64 0, .list 3 []], rat 0 1] (.tup [.one (i64 0), .one (i64 8)]) ∧ FnOK Tryz.prog 57 [.agg [i64 0, i64 0, .list 3 []], rat 0 1] (.tup [.one (.list 1 []), .one (i64 8)]) ∧ FnOK Tryz.prog 55 [.agg [i64 0, i64 0, .list 3 []], .one (i64 1)] (.tup [.one (.list 3 []), .one (i64 8)]) ∧ FnOK Tryz.prog 64 [.agg [i64 0, i64 0, .list 3 []]] (.c (.one (i64 8))) :=
    ⟨bad_go (p := ⟨0, 0, []⟩) ⟨0, 0, []⟩ (by decide), bad_what (p := ⟨0, 0, []⟩) 0 0 (by decide), bad_lead (p := ⟨0, 0, []⟩) 0 1 (by decide), bad_order (p := ⟨0, 0, []⟩) 0 1 (by decide), bad_was (p := ⟨0, 0, []⟩) 1 (by decide), bad_check (p := ⟨0, 0, []⟩) (by decide)⟩
  have D1 : FnOK Tryz.prog 52 [.agg [i64 0, i64 1, .list 3 []], .agg [i64 0, i64 0, .list 3 []]] (.tup [.agg [i64 0, i64 0, .list 3 []], .one (i64 8)]) ∧ FnOK Tryz.prog 53 [.agg [i64 0, i64 1, .list 3 []], rat 0 0] (.tup [.agg [.list 3 []], .one (i64 8)]) ∧ FnOK Tryz.prog 56 [.agg [i64 0, i64 1, .list 3 []], rat 0 1] (.tup [.one (i64 0), .one (i64 8)]) ∧ FnOK Tryz.prog 57 [.agg [i64 0, i64 1, .list 3 []], rat 0 1] (.tup [.one (.list 1 []), .one (i64 8)]) ∧ FnOK Tryz.prog 55 [.agg [i64 0, i64 1, .list 3 []], .one (i64 1)] (.tup [.one (.list 3 []), .one (i64 8)]) ∧ FnOK Tryz.prog 64 [.agg [i64 0, i64 1, .list 3 []]] (.c (.one (i64 8))) :=
    ⟨bad_go (p := ⟨0, 1, []⟩) ⟨0, 0, []⟩ (by decide), bad_what (p := ⟨0, 1, []⟩) 0 0 (by decide), bad_lead (p := ⟨0, 1, []⟩) 0 1 (by decide), bad_order (p := ⟨0, 1, []⟩) 0 1 (by decide), bad_was (p := ⟨0, 1, []⟩) 1 (by decide), bad_check (p := ⟨0, 1, []⟩) (by decide)⟩
  have D2 : FnOK Tryz.prog 52 [.agg [i64 (-1), i64 1, .list 3 [[i64 0, i64 1, .list 3 [[i64 1, i64 0, i64 0]]]]], .agg [i64 0, i64 0, .list 3 []]] (.tup [.agg [i64 0, i64 0, .list 3 []], .one (i64 8)]) ∧ FnOK Tryz.prog 53 [.agg [i64 (-1), i64 1, .list 3 [[i64 0, i64 1, .list 3 [[i64 1, i64 0, i64 0]]]]], rat 0 0] (.tup [.agg [.list 3 []], .one (i64 8)]) ∧ FnOK Tryz.prog 56 [.agg [i64 (-1), i64 1, .list 3 [[i64 0, i64 1, .list 3 [[i64 1, i64 0, i64 0]]]]], rat 0 1] (.tup [.one (i64 0), .one (i64 8)]) ∧ FnOK Tryz.prog 57 [.agg [i64 (-1), i64 1, .list 3 [[i64 0, i64 1, .list 3 [[i64 1, i64 0, i64 0]]]]], rat 0 1] (.tup [.one (.list 1 []), .one (i64 8)]) ∧ FnOK Tryz.prog 55 [.agg [i64 (-1), i64 1, .list 3 [[i64 0, i64 1, .list 3 [[i64 1, i64 0, i64 0]]]]], .one (i64 1)] (.tup [.one (.list 3 []), .one (i64 8)]) ∧ FnOK Tryz.prog 64 [.agg [i64 (-1), i64 1, .list 3 [[i64 0, i64 1, .list 3 [[i64 1, i64 0, i64 0]]]]]] (.c (.one (i64 8))) :=
    ⟨bad_go (p := ⟨-1, 1, [⟨0, 1, [⟨1, 0, 0⟩]⟩]⟩) ⟨0, 0, []⟩ (by decide), bad_what (p := ⟨-1, 1, [⟨0, 1, [⟨1, 0, 0⟩]⟩]⟩) 0 0 (by decide), bad_lead (p := ⟨-1, 1, [⟨0, 1, [⟨1, 0, 0⟩]⟩]⟩) 0 1 (by decide), bad_order (p := ⟨-1, 1, [⟨0, 1, [⟨1, 0, 0⟩]⟩]⟩) 0 1 (by decide), bad_was (p := ⟨-1, 1, [⟨0, 1, [⟨1, 0, 0⟩]⟩]⟩) 1 (by decide), bad_check (p := ⟨-1, 1, [⟨0, 1, [⟨1, 0, 0⟩]⟩]⟩) (by decide)⟩
  have D3 : FnOK Tryz.prog 52 [.agg [i64 1, i64 2048, .list 3 [[i64 0, i64 1, .list 3 [[i64 1, i64 0, i64 0]]]]], .agg [i64 0, i64 0, .list 3 []]] (.tup [.agg [i64 0, i64 0, .list 3 []], .one (i64 8)]) ∧ FnOK Tryz.prog 53 [.agg [i64 1, i64 2048, .list 3 [[i64 0, i64 1, .list 3 [[i64 1, i64 0, i64 0]]]]], rat 0 0] (.tup [.agg [.list 3 []], .one (i64 8)]) ∧ FnOK Tryz.prog 56 [.agg [i64 1, i64 2048, .list 3 [[i64 0, i64 1, .list 3 [[i64 1, i64 0, i64 0]]]]], rat 0 1] (.tup [.one (i64 0), .one (i64 8)]) ∧ FnOK Tryz.prog 57 [.agg [i64 1, i64 2048, .list 3 [[i64 0, i64 1, .list 3 [[i64 1, i64 0, i64 0]]]]], rat 0 1] (.tup [.one (.list 1 []), .one (i64 8)]) ∧ FnOK Tryz.prog 55 [.agg [i64 1, i64 2048, .list 3 [[i64 0, i64 1, .list 3 [[i64 1, i64 0, i64 0]]]]], .one (i64 1)] (.tup [.one (.list 3 []), .one (i64 8)]) ∧ FnOK Tryz.prog 64 [.agg [i64 1, i64 2048, .list 3 [[i64 0, i64 1, .list 3 [[i64 1, i64 0, i64 0]]]]]] (.c (.one (i64 8))) :=
    ⟨bad_go (p := ⟨1, 2048, [⟨0, 1, [⟨1, 0, 0⟩]⟩]⟩) ⟨0, 0, []⟩ (by decide), bad_what (p := ⟨1, 2048, [⟨0, 1, [⟨1, 0, 0⟩]⟩]⟩) 0 0 (by decide), bad_lead (p := ⟨1, 2048, [⟨0, 1, [⟨1, 0, 0⟩]⟩]⟩) 0 1 (by decide), bad_order (p := ⟨1, 2048, [⟨0, 1, [⟨1, 0, 0⟩]⟩]⟩) 0 1 (by decide), bad_was (p := ⟨1, 2048, [⟨0, 1, [⟨1, 0, 0⟩]⟩]⟩) 1 (by decide), bad_check (p := ⟨1, 2048, [⟨0, 1, [⟨1, 0, 0⟩]⟩]⟩) (by decide)⟩
  have D4 : FnOK Tryz.prog 52 [.agg [i64 0, i64 1, .list 3 [[i64 0, i64 1, .list 3 [[i64 1, i64 0, i64 0]]], [i64 0, i64 1, .list 3 [[i64 1, i64 0, i64 0]]]]], .agg [i64 0, i64 0, .list 3 []]] (.tup [.agg [i64 0, i64 0, .list 3 []], .one (i64 8)]) ∧ FnOK Tryz.prog 53 [.agg [i64 0, i64 1, .list 3 [[i64 0, i64 1, .list 3 [[i64 1, i64 0, i64 0]]], [i64 0, i64 1, .list 3 [[i64 1, i64 0, i64 0]]]]], rat 0 0] (.tup [.agg [.list 3 []], .one (i64 8)]) ∧ FnOK Tryz.prog 56 [.agg [i64 0, i64 1, .list 3 [[i64 0, i64 1, .list 3 [[i64 1, i64 0, i64 0]]], [i64 0, i64 1, .list 3 [[i64 1, i64 0, i64 0]]]]], rat 0 1] (.tup [.one (i64 0), .one (i64 8)]) ∧ FnOK Tryz.prog 57 [.agg [i64 0, i64 1, .list 3 [[i64 0, i64 1, .list 3 [[i64 1, i64 0, i64 0]]], [i64 0, i64 1, .list 3 [[i64 1, i64 0, i64 0]]]]], rat 0 1] (.tup [.one (.list 1 []), .one (i64 8)]) ∧ FnOK Tryz.prog 55 [.agg [i64 0, i64 1, .list 3 [[i64 0, i64 1, .list 3 [[i64 1, i64 0, i64 0]]], [i64 0, i64 1, .list 3 [[i64 1, i64 0, i64 0]]]]], .one (i64 1)] (.tup [.one (.list 3 []), .one (i64 8)]) ∧ FnOK Tryz.prog 64 [.agg [i64 0, i64 1, .list 3 [[i64 0, i64 1, .list 3 [[i64 1, i64 0, i64 0]]], [i64 0, i64 1, .list 3 [[i64 1, i64 0, i64 0]]]]]] (.c (.one (i64 8))) :=
    ⟨bad_go (p := ⟨0, 1, [⟨0, 1, [⟨1, 0, 0⟩]⟩, ⟨0, 1, [⟨1, 0, 0⟩]⟩]⟩) ⟨0, 0, []⟩ (by decide), bad_what (p := ⟨0, 1, [⟨0, 1, [⟨1, 0, 0⟩]⟩, ⟨0, 1, [⟨1, 0, 0⟩]⟩]⟩) 0 0 (by decide), bad_lead (p := ⟨0, 1, [⟨0, 1, [⟨1, 0, 0⟩]⟩, ⟨0, 1, [⟨1, 0, 0⟩]⟩]⟩) 0 1 (by decide), bad_order (p := ⟨0, 1, [⟨0, 1, [⟨1, 0, 0⟩]⟩, ⟨0, 1, [⟨1, 0, 0⟩]⟩]⟩) 0 1 (by decide), bad_was (p := ⟨0, 1, [⟨0, 1, [⟨1, 0, 0⟩]⟩, ⟨0, 1, [⟨1, 0, 0⟩]⟩]⟩) 1 (by decide), bad_check (p := ⟨0, 1, [⟨0, 1, [⟨1, 0, 0⟩]⟩, ⟨0, 1, [⟨1, 0, 0⟩]⟩]⟩) (by decide)⟩
  have D5 : FnOK Tryz.prog 52 [.agg [i64 0, i64 1, .list 3 [[i64 (-1), i64 2048, .list 3 []]]], .agg [i64 0, i64 0, .list 3 []]] (.tup [.agg [i64 0, i64 0, .list 3 []], .one (i64 8)]) ∧ FnOK Tryz.prog 53 [.agg [i64 0, i64 1, .list 3 [[i64 (-1), i64 2048, .list 3 []]]], rat 0 0] (.tup [.agg [.list 3 []], .one (i64 8)]) ∧ FnOK Tryz.prog 56 [.agg [i64 0, i64 1, .list 3 [[i64 (-1), i64 2048, .list 3 []]]], rat 0 1] (.tup [.one (i64 0), .one (i64 8)]) ∧ FnOK Tryz.prog 57 [.agg [i64 0, i64 1, .list 3 [[i64 (-1), i64 2048, .list 3 []]]], rat 0 1] (.tup [.one (.list 1 []), .one (i64 8)]) ∧ FnOK Tryz.prog 55 [.agg [i64 0, i64 1, .list 3 [[i64 (-1), i64 2048, .list 3 []]]], .one (i64 1)] (.tup [.one (.list 3 []), .one (i64 8)]) ∧ FnOK Tryz.prog 64 [.agg [i64 0, i64 1, .list 3 [[i64 (-1), i64 2048, .list 3 []]]]] (.c (.one (i64 8))) :=
    ⟨bad_go (p := ⟨0, 1, [⟨-1, 2048, []⟩]⟩) ⟨0, 0, []⟩ (by decide), bad_what (p := ⟨0, 1, [⟨-1, 2048, []⟩]⟩) 0 0 (by decide), bad_lead (p := ⟨0, 1, [⟨-1, 2048, []⟩]⟩) 0 1 (by decide), bad_order (p := ⟨0, 1, [⟨-1, 2048, []⟩]⟩) 0 1 (by decide), bad_was (p := ⟨0, 1, [⟨-1, 2048, []⟩]⟩) 1 (by decide), bad_check (p := ⟨0, 1, [⟨-1, 2048, []⟩]⟩) (by decide)⟩
  have D6 : FnOK Tryz.prog 52 [.agg [i64 0, i64 1, .list 3 [[i64 0, i64 1, .list 3 [[i64 (-1), i64 0, i64 0]]]]], .agg [i64 0, i64 0, .list 3 []]] (.tup [.agg [i64 0, i64 0, .list 3 []], .one (i64 8)]) ∧ FnOK Tryz.prog 53 [.agg [i64 0, i64 1, .list 3 [[i64 0, i64 1, .list 3 [[i64 (-1), i64 0, i64 0]]]]], rat 0 0] (.tup [.agg [.list 3 []], .one (i64 8)]) ∧ FnOK Tryz.prog 56 [.agg [i64 0, i64 1, .list 3 [[i64 0, i64 1, .list 3 [[i64 (-1), i64 0, i64 0]]]]], rat 0 1] (.tup [.one (i64 0), .one (i64 8)]) ∧ FnOK Tryz.prog 57 [.agg [i64 0, i64 1, .list 3 [[i64 0, i64 1, .list 3 [[i64 (-1), i64 0, i64 0]]]]], rat 0 1] (.tup [.one (.list 1 []), .one (i64 8)]) ∧ FnOK Tryz.prog 55 [.agg [i64 0, i64 1, .list 3 [[i64 0, i64 1, .list 3 [[i64 (-1), i64 0, i64 0]]]]], .one (i64 1)] (.tup [.one (.list 3 []), .one (i64 8)]) ∧ FnOK Tryz.prog 64 [.agg [i64 0, i64 1, .list 3 [[i64 0, i64 1, .list 3 [[i64 (-1), i64 0, i64 0]]]]]] (.c (.one (i64 8))) :=
    ⟨bad_go (p := ⟨0, 1, [⟨0, 1, [⟨-1, 0, 0⟩]⟩]⟩) ⟨0, 0, []⟩ (by decide), bad_what (p := ⟨0, 1, [⟨0, 1, [⟨-1, 0, 0⟩]⟩]⟩) 0 0 (by decide), bad_lead (p := ⟨0, 1, [⟨0, 1, [⟨-1, 0, 0⟩]⟩]⟩) 0 1 (by decide), bad_order (p := ⟨0, 1, [⟨0, 1, [⟨-1, 0, 0⟩]⟩]⟩) 0 1 (by decide), bad_was (p := ⟨0, 1, [⟨0, 1, [⟨-1, 0, 0⟩]⟩]⟩) 1 (by decide), bad_check (p := ⟨0, 1, [⟨0, 1, [⟨-1, 0, 0⟩]⟩]⟩) (by decide)⟩
  have D7 : FnOK Tryz.prog 52 [.agg [i64 50, i64 1, .list 3 ((rowL 41).map Md.c)], .agg [i64 0, i64 0, .list 3 []]] (.tup [.agg [i64 0, i64 0, .list 3 []], .one (i64 8)]) ∧ FnOK Tryz.prog 53 [.agg [i64 50, i64 1, .list 3 ((rowL 41).map Md.c)], rat 0 0] (.tup [.agg [.list 3 []], .one (i64 8)]) ∧ FnOK Tryz.prog 56 [.agg [i64 50, i64 1, .list 3 ((rowL 41).map Md.c)], rat 0 1] (.tup [.one (i64 0), .one (i64 8)]) ∧ FnOK Tryz.prog 57 [.agg [i64 50, i64 1, .list 3 ((rowL 41).map Md.c)], rat 0 1] (.tup [.one (.list 1 []), .one (i64 8)]) ∧ FnOK Tryz.prog 55 [.agg [i64 50, i64 1, .list 3 ((rowL 41).map Md.c)], .one (i64 1)] (.tup [.one (.list 3 []), .one (i64 8)]) ∧ FnOK Tryz.prog 64 [.agg [i64 50, i64 1, .list 3 ((rowL 41).map Md.c)]] (.c (.one (i64 8))) :=
    ⟨bad_go (p := ⟨50, 1, rowL 41⟩) ⟨0, 0, []⟩ row_many, bad_what (p := ⟨50, 1, rowL 41⟩) 0 0 row_many, bad_lead (p := ⟨50, 1, rowL 41⟩) 0 1 row_many, bad_order (p := ⟨50, 1, rowL 41⟩) 0 1 row_many, bad_was (p := ⟨50, 1, rowL 41⟩) 1 row_many, bad_check (p := ⟨50, 1, rowL 41⟩) row_many⟩
  generalize hR40 : (rowL 40).map Md.c = R40 at *
  generalize hR41 : (rowL 41).map Md.c = R41 at *
  generalize hSS : SS.map Md.c = S40 at *
  clear hR40 hR41 hSS
  refine fn_ok (by kernel_rfl) (ty_okK [317, 336] [] [] []) Tryz.func14 rfl (fun _ _ => Tryz.call14 _ _) rfl ?_
  intro hw
  clear hw
  repeat' ((conv => whnf); first | (with_reducible first | refine br_t ?_ | refine br_f ?_ | refine za ?_ | refine zg ?_ | refine zo ?_ | refine zb ?_ | refine zm ?_ | refine zc ?_ | refine ze ?_) | refine ⟨_, ⟨rfl, Nat.le_of_ble_eq_true rfl⟩, ?_⟩ | ((with_reducible refine bc_t ?_ ?_); (first | omega | decide)) | ((with_reducible refine bc_f ?_ ?_); (first | omega | decide)) | (with_reducible first | refine bc (fun h => ?_) (fun h => ?_) | refine zt ?_ | refine zf ?_ | refine br_i (fun h => ?_) (fun h => ?_)) | refine zg ?_ | refine zi ?_)
  refine loop_J (by kernel_rfl) (ty_okK [317, 336] [] [] []) (σ := Nat) (fun i => [(11, sV (.int .i64 i))]) (fun _ => []) (fun i => i ≤ 8) (fun i => 8 - i) 0 (Nat.zero_le _) ?_ ?_
  · (conv => whnf); exact zent
  intro i hi
  rcases (show i = 0 ∨ i = 1 ∨ i = 2 ∨ i = 3 ∨ i = 4 ∨ i = 5 ∨ i = 6 ∨ i = 7 ∨ i = 8 by omega) with rfl | rfl | rfl | rfl | rfl | rfl | rfl | rfl | rfl
  · obtain ⟨d1, d2, d3, d4, d5, d6⟩ := D0
    clear HA X0 N0 N1 G1 G2 G3 G4 G5 G6 G7 V0 V1 V2 L0 Q0 Q1 Q2 Q3 Q4 K0 K1 S0 S1 R40_fn R41_fn D1 D2 D3 D4 D5 D6 D7
    repeat' ((conv => whnf); first | (with_reducible first | refine br_t ?_ | refine br_f ?_ | refine za ?_ | refine zg ?_ | refine zo ?_ | refine zb ?_ | refine zm ?_ | refine zc ?_ | refine ze ?_) | refine ⟨_, ⟨rfl, Nat.le_of_ble_eq_true rfl⟩, ?_⟩ | ((with_reducible refine bc_t ?_ ?_); (show (_ : Int) < ((8 : Nat) : Int); omega)) | ((with_reducible refine bc_f ?_ ?_); (show ¬ (_ : Int) < ((8 : Nat) : Int); omega)) | ((with_reducible refine bc_t ?_ ?_); (first | omega | decide)) | ((with_reducible refine bc_f ?_ ?_); (first | omega | decide)) | (with_reducible first | refine bc (fun h => ?_) (fun h => ?_) | refine zt ?_ | refine zf ?_ | refine br_i (fun h => ?_) (fun h => ?_)) | refine zg ?_ | refine zi ?_)
    all_goals conv => whnf
    refine ⟨1, by omega, ?_, by omega⟩
    (conv => whnf); refine ⟨by repeat' (first | with_reducible exact zE0 | with_reducible refine zE1 ?_ ?_ | rfl | assumption | (rfl) | (refine ent_i ?_; (first | omega | (rw [IntWalk.i64_in _ (by omega)]; omega) | (simp; done))) | (refine ent_b ?_; (first | omega | (rw [IntWalk.i64_in _ (by omega)]; omega) | (simp; done)))), by repeat' (first | with_reducible exact zH0 | with_reducible refine zH1 ?_ ?_ | rfl | assumption | (rfl)), rfl⟩
  · obtain ⟨d1, d2, d3, d4, d5, d6⟩ := D1
    clear HA X0 N0 N1 G1 G2 G3 G4 G5 G6 G7 V0 V1 V2 L0 Q0 Q1 Q2 Q3 Q4 K0 K1 S0 S1 R40_fn R41_fn D0 D2 D3 D4 D5 D6 D7
    repeat' ((conv => whnf); first | (with_reducible first | refine br_t ?_ | refine br_f ?_ | refine za ?_ | refine zg ?_ | refine zo ?_ | refine zb ?_ | refine zm ?_ | refine zc ?_ | refine ze ?_) | refine ⟨_, ⟨rfl, Nat.le_of_ble_eq_true rfl⟩, ?_⟩ | ((with_reducible refine bc_t ?_ ?_); (show (_ : Int) < ((8 : Nat) : Int); omega)) | ((with_reducible refine bc_f ?_ ?_); (show ¬ (_ : Int) < ((8 : Nat) : Int); omega)) | ((with_reducible refine bc_t ?_ ?_); (first | omega | decide)) | ((with_reducible refine bc_f ?_ ?_); (first | omega | decide)) | (with_reducible first | refine bc (fun h => ?_) (fun h => ?_) | refine zt ?_ | refine zf ?_ | refine br_i (fun h => ?_) (fun h => ?_)) | refine zg ?_ | refine zi ?_)
    all_goals conv => whnf
    refine ⟨2, by omega, ?_, by omega⟩
    (conv => whnf); refine ⟨by repeat' (first | with_reducible exact zE0 | with_reducible refine zE1 ?_ ?_ | rfl | assumption | (rfl) | (refine ent_i ?_; (first | omega | (rw [IntWalk.i64_in _ (by omega)]; omega) | (simp; done))) | (refine ent_b ?_; (first | omega | (rw [IntWalk.i64_in _ (by omega)]; omega) | (simp; done)))), by repeat' (first | with_reducible exact zH0 | with_reducible refine zH1 ?_ ?_ | rfl | assumption | (rfl)), rfl⟩
  · obtain ⟨d1, d2, d3, d4, d5, d6⟩ := D2
    clear HA X0 N0 N1 G1 G2 G3 G4 G5 G6 G7 V0 V1 V2 L0 Q0 Q1 Q2 Q3 Q4 K0 K1 S0 S1 R40_fn R41_fn D0 D1 D3 D4 D5 D6 D7
    repeat' ((conv => whnf); first | (with_reducible first | refine br_t ?_ | refine br_f ?_ | refine za ?_ | refine zg ?_ | refine zo ?_ | refine zb ?_ | refine zm ?_ | refine zc ?_ | refine ze ?_) | refine ⟨_, ⟨rfl, Nat.le_of_ble_eq_true rfl⟩, ?_⟩ | ((with_reducible refine bc_t ?_ ?_); (show (_ : Int) < ((8 : Nat) : Int); omega)) | ((with_reducible refine bc_f ?_ ?_); (show ¬ (_ : Int) < ((8 : Nat) : Int); omega)) | ((with_reducible refine bc_t ?_ ?_); (first | omega | decide)) | ((with_reducible refine bc_f ?_ ?_); (first | omega | decide)) | (with_reducible first | refine bc (fun h => ?_) (fun h => ?_) | refine zt ?_ | refine zf ?_ | refine br_i (fun h => ?_) (fun h => ?_)) | refine zg ?_ | refine zi ?_)
    all_goals conv => whnf
    refine ⟨3, by omega, ?_, by omega⟩
    (conv => whnf); refine ⟨by repeat' (first | with_reducible exact zE0 | with_reducible refine zE1 ?_ ?_ | rfl | assumption | (rfl) | (refine ent_i ?_; (first | omega | (rw [IntWalk.i64_in _ (by omega)]; omega) | (simp; done))) | (refine ent_b ?_; (first | omega | (rw [IntWalk.i64_in _ (by omega)]; omega) | (simp; done)))), by repeat' (first | with_reducible exact zH0 | with_reducible refine zH1 ?_ ?_ | rfl | assumption | (rfl)), rfl⟩
  · obtain ⟨d1, d2, d3, d4, d5, d6⟩ := D3
    clear HA X0 N0 N1 G1 G2 G3 G4 G5 G6 G7 V0 V1 V2 L0 Q0 Q1 Q2 Q3 Q4 K0 K1 S0 S1 R40_fn R41_fn D0 D1 D2 D4 D5 D6 D7
    repeat' ((conv => whnf); first | (with_reducible first | refine br_t ?_ | refine br_f ?_ | refine za ?_ | refine zg ?_ | refine zo ?_ | refine zb ?_ | refine zm ?_ | refine zc ?_ | refine ze ?_) | refine ⟨_, ⟨rfl, Nat.le_of_ble_eq_true rfl⟩, ?_⟩ | ((with_reducible refine bc_t ?_ ?_); (show (_ : Int) < ((8 : Nat) : Int); omega)) | ((with_reducible refine bc_f ?_ ?_); (show ¬ (_ : Int) < ((8 : Nat) : Int); omega)) | ((with_reducible refine bc_t ?_ ?_); (first | omega | decide)) | ((with_reducible refine bc_f ?_ ?_); (first | omega | decide)) | (with_reducible first | refine bc (fun h => ?_) (fun h => ?_) | refine zt ?_ | refine zf ?_ | refine br_i (fun h => ?_) (fun h => ?_)) | refine zg ?_ | refine zi ?_)
    all_goals conv => whnf
    refine ⟨4, by omega, ?_, by omega⟩
    (conv => whnf); refine ⟨by repeat' (first | with_reducible exact zE0 | with_reducible refine zE1 ?_ ?_ | rfl | assumption | (rfl) | (refine ent_i ?_; (first | omega | (rw [IntWalk.i64_in _ (by omega)]; omega) | (simp; done))) | (refine ent_b ?_; (first | omega | (rw [IntWalk.i64_in _ (by omega)]; omega) | (simp; done)))), by repeat' (first | with_reducible exact zH0 | with_reducible refine zH1 ?_ ?_ | rfl | assumption | (rfl)), rfl⟩
  · obtain ⟨d1, d2, d3, d4, d5, d6⟩ := D4
    clear HA X0 N0 N1 G1 G2 G3 G4 G5 G6 G7 V0 V1 V2 L0 Q0 Q1 Q2 Q3 Q4 K0 K1 S0 S1 R40_fn R41_fn D0 D1 D2 D3 D5 D6 D7
    repeat' ((conv => whnf); first | (with_reducible first | refine br_t ?_ | refine br_f ?_ | refine za ?_ | refine zg ?_ | refine zo ?_ | refine zb ?_ | refine zm ?_ | refine zc ?_ | refine ze ?_) | refine ⟨_, ⟨rfl, Nat.le_of_ble_eq_true rfl⟩, ?_⟩ | ((with_reducible refine bc_t ?_ ?_); (show (_ : Int) < ((8 : Nat) : Int); omega)) | ((with_reducible refine bc_f ?_ ?_); (show ¬ (_ : Int) < ((8 : Nat) : Int); omega)) | ((with_reducible refine bc_t ?_ ?_); (first | omega | decide)) | ((with_reducible refine bc_f ?_ ?_); (first | omega | decide)) | (with_reducible first | refine bc (fun h => ?_) (fun h => ?_) | refine zt ?_ | refine zf ?_ | refine br_i (fun h => ?_) (fun h => ?_)) | refine zg ?_ | refine zi ?_)
    all_goals conv => whnf
    refine ⟨5, by omega, ?_, by omega⟩
    (conv => whnf); refine ⟨by repeat' (first | with_reducible exact zE0 | with_reducible refine zE1 ?_ ?_ | rfl | assumption | (rfl) | (refine ent_i ?_; (first | omega | (rw [IntWalk.i64_in _ (by omega)]; omega) | (simp; done))) | (refine ent_b ?_; (first | omega | (rw [IntWalk.i64_in _ (by omega)]; omega) | (simp; done)))), by repeat' (first | with_reducible exact zH0 | with_reducible refine zH1 ?_ ?_ | rfl | assumption | (rfl)), rfl⟩
  · obtain ⟨d1, d2, d3, d4, d5, d6⟩ := D5
    clear HA X0 N0 N1 G1 G2 G3 G4 G5 G6 G7 V0 V1 V2 L0 Q0 Q1 Q2 Q3 Q4 K0 K1 S0 S1 R40_fn R41_fn D0 D1 D2 D3 D4 D6 D7
    repeat' ((conv => whnf); first | (with_reducible first | refine br_t ?_ | refine br_f ?_ | refine za ?_ | refine zg ?_ | refine zo ?_ | refine zb ?_ | refine zm ?_ | refine zc ?_ | refine ze ?_) | refine ⟨_, ⟨rfl, Nat.le_of_ble_eq_true rfl⟩, ?_⟩ | ((with_reducible refine bc_t ?_ ?_); (show (_ : Int) < ((8 : Nat) : Int); omega)) | ((with_reducible refine bc_f ?_ ?_); (show ¬ (_ : Int) < ((8 : Nat) : Int); omega)) | ((with_reducible refine bc_t ?_ ?_); (first | omega | decide)) | ((with_reducible refine bc_f ?_ ?_); (first | omega | decide)) | (with_reducible first | refine bc (fun h => ?_) (fun h => ?_) | refine zt ?_ | refine zf ?_ | refine br_i (fun h => ?_) (fun h => ?_)) | refine zg ?_ | refine zi ?_)
    all_goals conv => whnf
    refine ⟨6, by omega, ?_, by omega⟩
    (conv => whnf); refine ⟨by repeat' (first | with_reducible exact zE0 | with_reducible refine zE1 ?_ ?_ | rfl | assumption | (rfl) | (refine ent_i ?_; (first | omega | (rw [IntWalk.i64_in _ (by omega)]; omega) | (simp; done))) | (refine ent_b ?_; (first | omega | (rw [IntWalk.i64_in _ (by omega)]; omega) | (simp; done)))), by repeat' (first | with_reducible exact zH0 | with_reducible refine zH1 ?_ ?_ | rfl | assumption | (rfl)), rfl⟩
  · obtain ⟨d1, d2, d3, d4, d5, d6⟩ := D6
    clear HA X0 N0 N1 G1 G2 G3 G4 G5 G6 G7 V0 V1 V2 L0 Q0 Q1 Q2 Q3 Q4 K0 K1 S0 S1 R40_fn R41_fn D0 D1 D2 D3 D4 D5 D7
    repeat' ((conv => whnf); first | (with_reducible first | refine br_t ?_ | refine br_f ?_ | refine za ?_ | refine zg ?_ | refine zo ?_ | refine zb ?_ | refine zm ?_ | refine zc ?_ | refine ze ?_) | refine ⟨_, ⟨rfl, Nat.le_of_ble_eq_true rfl⟩, ?_⟩ | ((with_reducible refine bc_t ?_ ?_); (show (_ : Int) < ((8 : Nat) : Int); omega)) | ((with_reducible refine bc_f ?_ ?_); (show ¬ (_ : Int) < ((8 : Nat) : Int); omega)) | ((with_reducible refine bc_t ?_ ?_); (first | omega | decide)) | ((with_reducible refine bc_f ?_ ?_); (first | omega | decide)) | (with_reducible first | refine bc (fun h => ?_) (fun h => ?_) | refine zt ?_ | refine zf ?_ | refine br_i (fun h => ?_) (fun h => ?_)) | refine zg ?_ | refine zi ?_)
    all_goals conv => whnf
    refine ⟨7, by omega, ?_, by omega⟩
    (conv => whnf); refine ⟨by repeat' (first | with_reducible exact zE0 | with_reducible refine zE1 ?_ ?_ | rfl | assumption | (rfl) | (refine ent_i ?_; (first | omega | (rw [IntWalk.i64_in _ (by omega)]; omega) | (simp; done))) | (refine ent_b ?_; (first | omega | (rw [IntWalk.i64_in _ (by omega)]; omega) | (simp; done)))), by repeat' (first | with_reducible exact zH0 | with_reducible refine zH1 ?_ ?_ | rfl | assumption | (rfl)), rfl⟩
  · obtain ⟨d1, d2, d3, d4, d5, d6⟩ := D7
    clear HA X0 N0 N1 G1 G2 G3 G4 G5 G6 G7 V0 V1 V2 L0 Q0 Q1 Q2 Q3 Q4 K0 K1 S0 S1 R40_fn R41_fn D0 D1 D2 D3 D4 D5 D6
    repeat' ((conv => whnf); first | (with_reducible first | refine br_t ?_ | refine br_f ?_ | refine za ?_ | refine zg ?_ | refine zo ?_ | refine zb ?_ | refine zm ?_ | refine zc ?_ | refine ze ?_) | refine ⟨_, ⟨rfl, Nat.le_of_ble_eq_true rfl⟩, ?_⟩ | ((with_reducible refine bc_t ?_ ?_); (show (_ : Int) < ((8 : Nat) : Int); omega)) | ((with_reducible refine bc_f ?_ ?_); (show ¬ (_ : Int) < ((8 : Nat) : Int); omega)) | ((with_reducible refine bc_t ?_ ?_); (first | omega | decide)) | ((with_reducible refine bc_f ?_ ?_); (first | omega | decide)) | (with_reducible first | refine bc (fun h => ?_) (fun h => ?_) | refine zt ?_ | refine zf ?_ | refine br_i (fun h => ?_) (fun h => ?_)) | refine zg ?_ | refine zi ?_)
    all_goals conv => whnf
    refine ⟨8, by omega, ?_, by omega⟩
    (conv => whnf); refine ⟨by repeat' (first | with_reducible exact zE0 | with_reducible refine zE1 ?_ ?_ | rfl | assumption | (rfl) | (refine ent_i ?_; (first | omega | (rw [IntWalk.i64_in _ (by omega)]; omega) | (simp; done))) | (refine ent_b ?_; (first | omega | (rw [IntWalk.i64_in _ (by omega)]; omega) | (simp; done)))), by repeat' (first | with_reducible exact zH0 | with_reducible refine zH1 ?_ ?_ | rfl | assumption | (rfl)), rfl⟩
  · clear D0 D1 D2 D3 D4 D5 D6 D7
    repeat' ((conv => whnf); first | (with_reducible first | refine br_t ?_ | refine br_f ?_ | refine za ?_ | refine zg ?_ | refine zo ?_ | refine zb ?_ | refine zm ?_ | refine zc ?_ | refine ze ?_) | refine ⟨_, ⟨rfl, Nat.le_of_ble_eq_true rfl⟩, ?_⟩ | ((with_reducible refine bc_t ?_ ?_); (show (_ : Int) < ((8 : Nat) : Int); omega)) | ((with_reducible refine bc_f ?_ ?_); (show ¬ (_ : Int) < ((8 : Nat) : Int); omega)) | ((with_reducible refine bc_t ?_ ?_); (first | omega | decide)) | ((with_reducible refine bc_f ?_ ?_); (first | omega | decide)) | (with_reducible first | refine bc (fun h => ?_) (fun h => ?_) | refine zt ?_ | refine zf ?_ | refine br_i (fun h => ?_) (fun h => ?_)) | refine zg ?_ | refine zi ?_)
    refine loop_keep [0, 1, 2, 3, 4, 5, 6, 7, 8, 9, 10, 11, 12, 13, 14, 15, 16, 17, 18, 19, 20, 21, 22, 23, 24, 25, 26, 27, 28, 29, 30, 31, 32, 33, 34, 35, 36, 37, 38, 39, 40, 41, 42, 43, 44, 45, 46, 47, 48, 49, 50, 51, 52, 53, 54, 55, 56, 57, 58, 59, 60, 61, 62, 63, 64, 65, 66] ?_
    conv => whnf
    refine loop_frz [317] ?_
    refine loop_J (by kernel_rfl) (ty_okK [317, 336] [] [] []) (σ := Nat) (fun i => [(54, sV (.int .i64 i)), (55, .c (.at (.osl 317 0)))]) (fun i => [(317, .row 7 ((rL i).map Ak.c) 0)]) (fun i => i ≤ 20) (fun i => 20 - i) 0 (Nat.zero_le _) ?_ ?_
    · (conv => whnf); exact zent
    intro i hi
    have hl : ((rL i).map Ak.c).length = 4 * i := by rw [List.length_map, rL_len]
    have hl2 := rL_len i
    rcases Nat.lt_or_ge i 20 with hlt | hge
    · clear HA X0 N0 N1 G1 G2 G3 G4 G5 G6 G7 V0 V1 V2 L0 Q0 Q1 Q2 Q3 Q4 K0 K1 S0 S1 R40_fn R41_fn
      have e1 : IntKind.i64.wrap ((i : Int) + 1) = (i : Int) + 1 := by rw [IntWalk.i64_in _ (by omega)]
      have e2 : IntKind.i64.wrap (2 * IntKind.i64.wrap ((i : Int) + 1)) = 2 * (i : Int) + 2 := by rw [e1, IntWalk.i64_in _ (by omega)]; omega
      have e3 : IntKind.i64.wrap (IntKind.i64.wrap (2 * IntKind.i64.wrap ((i : Int) + 1)) - 1) = 2 * (i : Int) + 1 := by rw [e2, IntWalk.i64_in _ (by omega)]; omega
      have hs : (rL i).map Ak.c ++ [[u8 4, i64 0, i64 0, i64 0, i64 0, i64 (IntKind.i64.wrap (IntKind.i64.wrap (2 * IntKind.i64.wrap ((i : Int) + 1)) - 1)), i64 1], [u8 2, i64 0, i64 0, i64 0, i64 1, i64 0, i64 0], [u8 4, i64 0, i64 0, i64 0, i64 0, i64 (IntKind.i64.wrap (2 * IntKind.i64.wrap ((i : Int) + 1))), i64 1], [u8 1, i64 1, i64 0, i64 0, i64 0, i64 0, i64 0]] = (rL (i + 1)).map Ak.c := by
        rw [rL, List.map_append, e3, e2]; rfl
      have f1 := Plwhole_fn (IntKind.i64.wrap (IntKind.i64.wrap (2 * IntKind.i64.wrap ((i : Int) + 1)) - 1))
      have f2 := Plwhole_fn (IntKind.i64.wrap (2 * IntKind.i64.wrap ((i : Int) + 1)))
      repeat' ((conv => whnf); first | (with_reducible first | refine br_t ?_ | refine br_f ?_ | refine za ?_ | refine zg ?_ | refine zo ?_ | refine zb ?_ | refine zm ?_ | refine zc ?_ | refine ze ?_) | ((with_reducible refine bc_t ?_ ?_); (first | omega | decide)) | ((with_reducible refine bc_f ?_ ?_); (first | omega | decide)) | (with_reducible first | refine bc (fun h => ?_) (fun h => ?_) | refine zt ?_ | refine zf ?_ | refine br_i (fun h => ?_) (fun h => ?_)) | refine zg ?_ | refine zi ?_)
      all_goals conv => whnf
      refine ⟨i + 1, hlt, ?_, by omega⟩
      (conv => whnf); refine ⟨by repeat' (first | with_reducible exact zE0 | with_reducible refine zE1 ?_ ?_ | rfl | assumption | ((exact congrArg (fun x => some (Blk.row 7 x 0)) hs)) | (refine ent_i ?_; (first | omega | (rw [IntWalk.i64_in _ (by omega)]; omega) | (simp; done))) | (refine ent_b ?_; (first | omega | (rw [IntWalk.i64_in _ (by omega)]; omega) | (simp; done)))), by repeat' (first | with_reducible exact zH0 | with_reducible refine zH1 ?_ ?_ | rfl | assumption | ((exact congrArg (fun x => some (Blk.row 7 x 0)) hs))), rfl⟩
    · obtain rfl : i = 20 := by omega
      generalize (rL 20).map Ak.c = L80 at *
      exact zw
end Go.Proofs.YtnhljlihchegjaaGreat

/- PastNames answers true. No condition. -/
namespace Go.Proofs.YtnhljlihchegjaaGreat
open Go.RowKit Go.ChangeShapes Go.WideShapes Go.ChangeAt Sx
theorem pastNames_own : ownKnob Tryz.prog.godebug = none := by kernel_rfl
set_option maxRecDepth 100000 in
theorem pastNames_lifted (os : Os) (started : os.Started) (H : Type) (enc : TypeId × Value → H) :
    ReturnsInHanded {} Tryz.checked os 14 .any (Rows.pastNamesSpec.pre6 enc Tryz.prog Tryz.f14 Rows.pastNamesRow.domain false) (Rows.pastNamesSpec.post enc Tryz.prog Tryz.f14 false true false false) := by
  refine returnsInHanded_of_change (C := Tryz.checked) pastNames_own started (by kernel_rfl) Tryz.func14
    (ChangeSpec.witness6 (enc := enc) (C := Tryz.checked) false ⟨#[], #[], []⟩ 12 (by kernel_rfl) (by kernel_rfl) (by kernel_rfl) (by kernel_rfl)) ?_
  intro W base args ds gs before hval0 hW hcnd _
  have hval : ∀ (j : Nat) t v, Tryz.f14.params[j]? = some t → args[j]? = some v → Value.okWide Tryz.prog W .any base t v := hval0
  have hW' := hW
  obtain ⟨p, q, hA0, hV, rfl, hfz, hnd⟩ := hW
  have hA : DataW.TrodAll enc Tryz.prog W 0 (fun _ => true) true Tryz.f14.params.toList args.toList ds p := hA0
  rw [Tryz.params14] at hA hval
  obtain ⟨rfl, rfl, rfl⟩ := trodAll_none hA
  refine (law_of_fn (vs := []) (fun _ _ => Tryz.call14 _ _) (LPNames_fn) trivial).mono fun e W' ⟨he, hb⟩ => ?_
  subst he
  exact ⟨_, rfl, law_post (by kernel_rfl) (by kernel_rfl) rfl Tryz.underlying4 rfl hW' ⟨rfl, rfl, rfl⟩ hb⟩
theorem pastNames_over : Rows.pastNamesRow.holds Tryz.pinned (OpenSpec.ofChange Rows.pastNamesSpec) :=
  OpenClaim.holds_of_wide 14 Tryz.f14 rfl rfl rfl rfl rfl rfl rfl ⟨rfl, rfl, rfl, rfl, rfl⟩ rfl rfl rfl rfl rfl (by kernel_rfl) Tryz.func14 (by kernel_rfl)
    (of_decide_eq_true (by kernel_rfl)) (by unfold Func.isWrapper; rw [if_neg (of_decide_eq_false (by kernel_rfl))]; exact ⟨rfl, rfl⟩)
    (fun os started H enc _ => pastNames_lifted os started H enc)
/-- the statement -/
theorem pastNames_proved : Rows.PastNamesSaid := pastNames_over
#print axioms pastNames_proved
end Go.Proofs.YtnhljlihchegjaaGreat
