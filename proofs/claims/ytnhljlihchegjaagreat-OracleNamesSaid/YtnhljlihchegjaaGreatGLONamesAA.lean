import Derived.Test.YtnhljlihchegjaaGreatGbBB
import Derived.Test.YtnhljlihchegjaaGreatGbAZ
import Derived.Test.YtnhljlihchegjaaGreatRows
import Derived.Test.YtnhljlihchegjaaGreatGbAB
import Derived.Test.YtnhljlihchegjaaGreatGbAY
set_option linter.all false
/- The law OracleNames answers true. No condition. -/
namespace Go.Proofs.YtnhljlihchegjaaGreat
open Go.RowKit Go.Sort Sx
def MM : Md := ⟨3, 1, [⟨4, 1, 0⟩, ⟨9, 1, 0⟩]⟩
def LL : Md := ⟨1073741824, 1, []⟩
def fullP (i : Nat) : List Pt := (List.range i).map fun j : Nat => (⟨(j : Int), 0, 0⟩ : Pt)
def FF : Md := ⟨3, 1, fullP 64⟩
def fullC : List (List D) := (fullP 64).map Pt.c
def ak0 : Ak := ⟨0, ⟨0, 0, 0⟩, 0, 0, 0⟩
theorem fullP_succ (i : Nat) : (fullP i).map Pt.c ++ [[i64 i, i64 0, i64 0]] = (fullP (i + 1)).map Pt.c := by
  unfold fullP
  rw [List.range_succ, List.map_append, List.map_append]; rfl
theorem runs_bad {m : Md} : ∀ k : Nat, runs m (List.replicate k ak0) = (m, List.replicate k (rpE 12))
  | 0 => rfl
  | k + 1 => by
    have h : askV m ak0 = (m, rpE 12) := by unfold askV; rw [if_neg (by decide)]
    rw [List.replicate_succ, runs, h]
    dsimp only
    rw [runs_bad k]
    rfl
theorem run_make (m : Md) (k : Nat) : FnOK Tryz.prog 28 [m.dc, .one (.list 7 (List.replicate k [u8 0, i64 0, i64 0, i64 0, i64 0, i64 0, i64 0]))] (retR (runV m (List.replicate k ak0))) := by
  have h := oRun_fn m (List.replicate k ak0)
  rw [aks, List.map_replicate] at h
  exact h
theorem on_e0 : FnOK Tryz.prog 31 [.agg [i64 3, i64 1, .list 3 [[i64 4, i64 1, i64 0], [i64 9, i64 1, i64 0]]], .agg [u8 0, i64 0, i64 0, i64 0, i64 0, i64 0, i64 0], .one (i64 12)] (.c (.one (bol true))) := Lerr_fn (m := MM) (a := ⟨0, ⟨0, 0, 0⟩, 0, 0, 0⟩) (w := 12) (by decide)
theorem on_e1 : FnOK Tryz.prog 31 [.agg [i64 3, i64 1, .list 3 [[i64 4, i64 1, i64 0], [i64 9, i64 1, i64 0]]], .agg [u8 7, i64 0, i64 0, i64 0, i64 0, i64 0, i64 0], .one (i64 12)] (.c (.one (bol true))) := Lerr_fn (m := MM) (a := ⟨7, ⟨0, 0, 0⟩, 0, 0, 0⟩) (w := 12) (by decide)
theorem on_e2 : FnOK Tryz.prog 31 [.agg [i64 3, i64 1, .list 3 [[i64 4, i64 1, i64 0], [i64 9, i64 1, i64 0]]], .agg [u8 5, i64 0, i64 0, i64 0, i64 1, i64 0, i64 0], .one (i64 12)] (.c (.one (bol true))) := Lerr_fn (m := MM) (a := ⟨5, ⟨0, 0, 0⟩, 1, 0, 0⟩) (w := 12) (by decide)
theorem on_e3 : FnOK Tryz.prog 31 [.agg [i64 3, i64 1, .list 3 [[i64 4, i64 1, i64 0], [i64 9, i64 1, i64 0]]], .agg [u8 1, i64 0, i64 0, i64 0, i64 0, i64 1, i64 1], .one (i64 12)] (.c (.one (bol true))) := Lerr_fn (m := MM) (a := ⟨1, ⟨0, 0, 0⟩, 0, 1, 1⟩) (w := 12) (by decide)
theorem on_e4 : FnOK Tryz.prog 31 [.agg [i64 3, i64 1, .list 3 [[i64 4, i64 1, i64 0], [i64 9, i64 1, i64 0]]], .agg [u8 2, i64 0, i64 1, i64 0, i64 4, i64 0, i64 0], .one (i64 12)] (.c (.one (bol true))) := Lerr_fn (m := MM) (a := ⟨2, ⟨0, 1, 0⟩, 4, 0, 0⟩) (w := 12) (by decide)
theorem on_e5 : FnOK Tryz.prog 31 [.agg [i64 3, i64 1, .list 3 [[i64 4, i64 1, i64 0], [i64 9, i64 1, i64 0]]], .agg [u8 4, i64 0, i64 0, i64 0, i64 4, i64 9, i64 1], .one (i64 12)] (.c (.one (bol true))) := Lerr_fn (m := MM) (a := ⟨4, ⟨0, 0, 0⟩, 4, 9, 1⟩) (w := 12) (by decide)
theorem on_e6 : FnOK Tryz.prog 31 [.agg [i64 3, i64 1, .list 3 [[i64 4, i64 1, i64 0], [i64 9, i64 1, i64 0]]], .agg [u8 1, i64 (-1), i64 0, i64 0, i64 0, i64 0, i64 0], .one (i64 8)] (.c (.one (bol true))) := Lerr_fn (m := MM) (a := ⟨1, ⟨(-1), 0, 0⟩, 0, 0, 0⟩) (w := 8) (by decide)
theorem on_e7 : FnOK Tryz.prog 31 [.agg [i64 3, i64 1, .list 3 [[i64 4, i64 1, i64 0], [i64 9, i64 1, i64 0]]], .agg [u8 1, i64 4, i64 0, i64 0, i64 0, i64 0, i64 0], .one (i64 14)] (.c (.one (bol true))) := Lerr_fn (m := MM) (a := ⟨1, ⟨4, 0, 0⟩, 0, 0, 0⟩) (w := 14) (by decide)
theorem on_e8 : FnOK Tryz.prog 31 [.agg [i64 3, i64 1, .list 3 fullC], .agg [u8 1, i64 64, i64 0, i64 0, i64 0, i64 0, i64 0], .one (i64 18)] (.c (.one (bol true))) := Lerr_fn (m := FF) (a := ⟨1, ⟨64, 0, 0⟩, 0, 0, 0⟩) (w := 18) (by decide +kernel)
theorem on_e9 : FnOK Tryz.prog 31 [.agg [i64 3, i64 1, .list 3 fullC], .agg [u8 1, i64 64, i64 0, i64 1048577, i64 0, i64 0, i64 0], .one (i64 8)] (.c (.one (bol true))) := Lerr_fn (m := FF) (a := ⟨1, ⟨64, 0, 1048577⟩, 0, 0, 0⟩) (w := 8) (by decide +kernel)
theorem on_e10 : FnOK Tryz.prog 31 [.agg [i64 3, i64 1, .list 3 [[i64 4, i64 1, i64 0], [i64 9, i64 1, i64 0]]], .agg [u8 2, i64 0, i64 0, i64 0, i64 5, i64 0, i64 0], .one (i64 6)] (.c (.one (bol true))) := Lerr_fn (m := MM) (a := ⟨2, ⟨0, 0, 0⟩, 5, 0, 0⟩) (w := 6) (by decide)
theorem on_e11 : FnOK Tryz.prog 31 [.agg [i64 3, i64 1, .list 3 [[i64 4, i64 1, i64 0], [i64 9, i64 1, i64 0]]], .agg [u8 3, i64 5, i64 0, i64 0, i64 0, i64 0, i64 0], .one (i64 6)] (.c (.one (bol true))) := Lerr_fn (m := MM) (a := ⟨3, ⟨5, 0, 0⟩, 0, 0, 0⟩) (w := 6) (by decide)
theorem on_e12 : FnOK Tryz.prog 31 [.agg [i64 3, i64 1, .list 3 [[i64 4, i64 1, i64 0], [i64 9, i64 1, i64 0]]], .agg [u8 3, i64 5, i64 (-1048577), i64 0, i64 0, i64 0, i64 0], .one (i64 8)] (.c (.one (bol true))) := Lerr_fn (m := MM) (a := ⟨3, ⟨5, (-1048577), 0⟩, 0, 0, 0⟩) (w := 8) (by decide)
theorem on_e13 : FnOK Tryz.prog 31 [.agg [i64 3, i64 1, .list 3 [[i64 4, i64 1, i64 0], [i64 9, i64 1, i64 0]]], .agg [u8 4, i64 0, i64 0, i64 0, i64 0, i64 0, i64 0], .one (i64 8)] (.c (.one (bol true))) := Lerr_fn (m := MM) (a := ⟨4, ⟨0, 0, 0⟩, 0, 0, 0⟩) (w := 8) (by decide)
theorem on_e14 : FnOK Tryz.prog 31 [.agg [i64 3, i64 1, .list 3 [[i64 4, i64 1, i64 0], [i64 9, i64 1, i64 0]]], .agg [u8 4, i64 0, i64 0, i64 0, i64 0, i64 1073741825, i64 1], .one (i64 2)] (.c (.one (bol true))) := Lerr_fn (m := MM) (a := ⟨4, ⟨0, 0, 0⟩, 0, 1073741825, 1⟩) (w := 2) (by decide)
theorem on_e15 : FnOK Tryz.prog 31 [.agg [i64 3, i64 1, .list 3 [[i64 4, i64 1, i64 0], [i64 9, i64 1, i64 0]]], .agg [u8 4, i64 0, i64 0, i64 0, i64 0, i64 3, i64 1], .one (i64 44)] (.c (.one (bol true))) := Lerr_fn (m := MM) (a := ⟨4, ⟨0, 0, 0⟩, 0, 3, 1⟩) (w := 44) (by decide)
theorem on_e16 : FnOK Tryz.prog 31 [.agg [i64 3, i64 1, .list 3 [[i64 4, i64 1, i64 0], [i64 9, i64 1, i64 0]]], .agg [u8 4, i64 0, i64 0, i64 0, i64 0, i64 (-5), i64 1], .one (i64 44)] (.c (.one (bol true))) := Lerr_fn (m := MM) (a := ⟨4, ⟨0, 0, 0⟩, 0, (-5), 1⟩) (w := 44) (by decide)
theorem on_e17 : FnOK Tryz.prog 31 [.agg [i64 3, i64 1, .list 3 [[i64 4, i64 1, i64 0], [i64 9, i64 1, i64 0]]], .agg [u8 4, i64 0, i64 0, i64 0, i64 0, i64 1, i64 1025], .one (i64 2)] (.c (.one (bol true))) := Lerr_fn (m := MM) (a := ⟨4, ⟨0, 0, 0⟩, 0, 1, 1025⟩) (w := 2) (by decide)
theorem on_e18 : FnOK Tryz.prog 31 [.agg [i64 1073741824, i64 1, .list 3 []], .agg [u8 5, i64 0, i64 0, i64 0, i64 0, i64 0, i64 0], .one (i64 42)] (.c (.one (bol true))) := Lerr_fn (m := LL) (a := ⟨5, ⟨0, 0, 0⟩, 0, 0, 0⟩) (w := 42) (by decide)
theorem on_e19 : FnOK Tryz.prog 31 [.agg [i64 1073741824, i64 1, .list 3 []], .agg [u8 6, i64 0, i64 0, i64 0, i64 0, i64 0, i64 0], .one (i64 42)] (.c (.one (bol true))) := Lerr_fn (m := LL) (a := ⟨6, ⟨0, 0, 0⟩, 0, 0, 0⟩) (w := 42) (by decide)
set_option maxRecDepth 100000 in
set_option maxHeartbeats 40000000 in
theorem LONames_fn : FnOK Tryz.prog 5 [] (.c (.one (bol true))) := by
  have HA := Lalive_fn
  have A0 := Lat_fn 1073741825
  have A1 := Lat_fn 1073741824
  have A2 := Lat_fn 0
  have A3 := Lat_fn 3
  have A4 := Lat_fn 1
  have A5 := Lat_fn 9
  have A6 := Lat_fn (-5)
  have A7 := Lat_fn 2
  have N0 := oNew_fn 0 0
  rw [show newV 0 0 = (md0, 8) by decide] at N0
  have N1 := oNew_fn 1 1025
  rw [show newV 1 1025 = (md0, 2) by decide] at N1
  have N2 := oNew_fn 1073741825 1
  rw [show newV 1073741825 1 = (md0, 2) by decide] at N2
  have N3 := oNew_fn 1073741824 1
  rw [show newV 1073741824 1 = (LL, 0) by decide] at N3
  simp only [retN, md0, LL, Md.dc, pts, List.map_nil] at N0 N1 N2 N3
  have D0 : FnOK Tryz.prog 19 [.agg [i64 0, i64 0, .list 3 []], .agg [u8 0, i64 0, i64 0, i64 0, i64 0, i64 0, i64 0]] (.tup [.agg [i64 0, i64 0, .list 3 []], .agg [i64 0, i64 0, i64 0, i64 0, i64 0, .list 4 []], .one (i64 8)]) := by
    have h := oDo_fn ⟨0, 0, []⟩ ak0
    rw [show doV ⟨0, 0, []⟩ ak0 = (md0, rp0, 8) by decide] at h
    exact h
  have R0 : FnOK Tryz.prog 28 [.agg [i64 0, i64 0, .list 3 []], .one (.list 7 (List.replicate (121 : Int).toNat [u8 0, i64 0, i64 0, i64 0, i64 0, i64 0, i64 0]))] (.tup [.agg [i64 0, i64 0, .list 3 []], .one (.list 6 []), .one (i64 8)]) := by
    have h := run_make ⟨0, 0, []⟩ 121
    unfold runV at h
    rw [if_neg (by decide)] at h
    exact h
  have K0 : FnOK Tryz.prog 22 [.agg [i64 0, i64 0, .list 3 []]] (ret1 8) := by
    have h := oCheck_fn ⟨0, 0, []⟩
    rw [show mchk ⟨0, 0, []⟩ = 8 by decide] at h
    exact h
  have D1 : FnOK Tryz.prog 19 [.agg [i64 1073741825, i64 1, .list 3 []], .agg [u8 0, i64 0, i64 0, i64 0, i64 0, i64 0, i64 0]] (.tup [.agg [i64 0, i64 0, .list 3 []], .agg [i64 0, i64 0, i64 0, i64 0, i64 0, .list 4 []], .one (i64 8)]) := by
    have h := oDo_fn ⟨1073741825, 1, []⟩ ak0
    rw [show doV ⟨1073741825, 1, []⟩ ak0 = (md0, rp0, 8) by decide] at h
    exact h
  have R1 : FnOK Tryz.prog 28 [.agg [i64 1073741825, i64 1, .list 3 []], .one (.list 7 (List.replicate (121 : Int).toNat [u8 0, i64 0, i64 0, i64 0, i64 0, i64 0, i64 0]))] (.tup [.agg [i64 0, i64 0, .list 3 []], .one (.list 6 []), .one (i64 8)]) := by
    have h := run_make ⟨1073741825, 1, []⟩ 121
    unfold runV at h
    rw [if_neg (by decide)] at h
    exact h
  have K1 : FnOK Tryz.prog 22 [.agg [i64 1073741825, i64 1, .list 3 []]] (ret1 8) := by
    have h := oCheck_fn ⟨1073741825, 1, []⟩
    rw [show mchk ⟨1073741825, 1, []⟩ = 8 by decide] at h
    exact h
  have D2 : FnOK Tryz.prog 19 [.agg [i64 0, i64 1, .list 3 [[i64 (-1), i64 0, i64 0]]], .agg [u8 0, i64 0, i64 0, i64 0, i64 0, i64 0, i64 0]] (.tup [.agg [i64 0, i64 0, .list 3 []], .agg [i64 0, i64 0, i64 0, i64 0, i64 0, .list 4 []], .one (i64 8)]) := by
    have h := oDo_fn ⟨0, 1, [⟨-1, 0, 0⟩]⟩ ak0
    rw [show doV ⟨0, 1, [⟨-1, 0, 0⟩]⟩ ak0 = (md0, rp0, 8) by decide] at h
    exact h
  have R2 : FnOK Tryz.prog 28 [.agg [i64 0, i64 1, .list 3 [[i64 (-1), i64 0, i64 0]]], .one (.list 7 (List.replicate (121 : Int).toNat [u8 0, i64 0, i64 0, i64 0, i64 0, i64 0, i64 0]))] (.tup [.agg [i64 0, i64 0, .list 3 []], .one (.list 6 []), .one (i64 8)]) := by
    have h := run_make ⟨0, 1, [⟨-1, 0, 0⟩]⟩ 121
    unfold runV at h
    rw [if_neg (by decide)] at h
    exact h
  have K2 : FnOK Tryz.prog 22 [.agg [i64 0, i64 1, .list 3 [[i64 (-1), i64 0, i64 0]]]] (ret1 8) := by
    have h := oCheck_fn ⟨0, 1, [⟨-1, 0, 0⟩]⟩
    rw [show mchk ⟨0, 1, [⟨-1, 0, 0⟩]⟩ = 8 by decide] at h
    exact h
  have Q1 : FnOK Tryz.prog 28 [.agg [i64 3, i64 1, .list 3 [[i64 4, i64 1, i64 0], [i64 9, i64 1, i64 0]]], .one (.list 7 (List.replicate (121 : Int).toNat [u8 0, i64 0, i64 0, i64 0, i64 0, i64 0, i64 0]))] (.tup [.agg [i64 0, i64 0, .list 3 []], .one (.list 6 []), .one (i64 4)]) := by
    have h := run_make MM 121
    unfold runV at h
    rw [if_pos (by decide), if_pos (by simp)] at h
    exact h
  have Q2 : FnOK Tryz.prog 28 [.agg [i64 3, i64 1, .list 3 [[i64 4, i64 1, i64 0], [i64 9, i64 1, i64 0]]], .one (.list 7 (List.replicate (120 : Int).toNat [u8 0, i64 0, i64 0, i64 0, i64 0, i64 0, i64 0]))] (.tup [.agg [i64 3, i64 1, .list 3 [[i64 4, i64 1, i64 0], [i64 9, i64 1, i64 0]]], .one (rps (List.replicate 120 (rpE 12))), .one (i64 0)]) := by
    have h := run_make MM 120
    unfold runV at h
    rw [if_pos (by decide), if_neg (by simp), runs_bad] at h
    exact h
  have C0 : FnOK Tryz.prog 34 [.agg [.list 3 [[i64 1, i64 9, i64 0], [i64 2, i64 5, i64 0], [i64 3, i64 7, i64 0], [i64 4, i64 3, i64 0]]], rat 0 1] (.tup [.one (i64 1), .one (i64 3), .agg [i64 2, i64 1], .one (i64 0)]) := by
    have h := oClosest_fn [⟨1, 9, 0⟩, ⟨2, 5, 0⟩, ⟨3, 7, 0⟩, ⟨4, 3, 0⟩] 0 1
    rw [show closV [⟨1, 9, 0⟩, ⟨2, 5, 0⟩, ⟨3, 7, 0⟩, ⟨4, 3, 0⟩] 0 1 = (1, 3, 2, 1, 0) by decide] at h
    exact h
  have C1 : FnOK Tryz.prog 34 [.agg [.list 3 [[i64 1, i64 0, i64 0]]], rat 0 1] (.tup [.one (i64 0), .one (i64 0), .agg [i64 0, i64 0], .one (i64 42)]) := by
    have h := oClosest_fn [⟨1, 0, 0⟩] 0 1
    rw [show closV [⟨1, 0, 0⟩] 0 1 = (0, 0, 0, 0, 42) by decide] at h
    exact h
  have C2 : FnOK Tryz.prog 34 [.agg [.list 3 [[i64 4, i64 1, i64 0], [i64 9, i64 1, i64 0]]], rat 1073741825 1] (.tup [.one (i64 0), .one (i64 0), .agg [i64 0, i64 0], .one (i64 2)]) := by
    have h := oClosest_fn [⟨4, 1, 0⟩, ⟨9, 1, 0⟩] 1073741825 1
    rw [show closV [⟨4, 1, 0⟩, ⟨9, 1, 0⟩] 1073741825 1 = (0, 0, 0, 0, 2) by decide] at h
    exact h
  have C3 : FnOK Tryz.prog 34 [.agg [.list 3 [[i64 2, i64 0, i64 0], [i64 1, i64 0, i64 0]]], rat 0 0] (.tup [.one (i64 0), .one (i64 0), .agg [i64 0, i64 0], .one (i64 32)]) := by
    have h := oClosest_fn [⟨2, 0, 0⟩, ⟨1, 0, 0⟩] 0 0
    rw [show closV [⟨2, 0, 0⟩, ⟨1, 0, 0⟩] 0 0 = (0, 0, 0, 0, 32) by decide] at h
    exact h
  have P10m := Lput_fn (-1) 0 0
  have P40 := Lput_fn 4 0 0
  have P640 := Lput_fn 64 0 0
  have P641 := Lput_fn 64 0 1048577
  have V0 := Lmove_fn 0 0
  have V1 := Lmove_fn 1073741825 1
  have V2 := Lmove_fn 3 1
  have V3 := Lmove_fn (-5) 1
  have V4 := Lmove_fn 1 1025
  simp only [Ak.dc] at P10m P40 P640 P641 V0 V1 V2 V3 V4
  have E0 := on_e0
  have E1 := on_e1
  have E2 := on_e2
  have E3 := on_e3
  have E4 := on_e4
  have E5 := on_e5
  have E6 := on_e6
  have E7 := on_e7
  have E8 := on_e8
  have E9 := on_e9
  have E10 := on_e10
  have E11 := on_e11
  have E12 := on_e12
  have E13 := on_e13
  have E14 := on_e14
  have E15 := on_e15
  have E16 := on_e16
  have E17 := on_e17
  have E18 := on_e18
  have E19 := on_e19
  have hR : (List.map Rp.c (List.replicate 120 (rpE 12))).length = 120 := by simp
  have hF : (fullP 64).map Pt.c = fullC := rfl
  have hfl : ∀ i, ((fullP i).map Pt.c).length = i := fun i => by simp [fullP]
  generalize hRR : List.replicate 120 (rpE 12) = RR at *
  clear hRR
  refine fn_ok (by kernel_rfl) (ty_okK [133] [] [] []) Tryz.func5 rfl (fun _ _ => Tryz.call5 _ _) rfl ?_
  intro hw
  clear hw
  repeat' ((conv => whnf); first | (with_reducible first | refine br_t ?_ | refine br_f ?_ | refine za ?_ | refine zg ?_ | refine zo ?_ | refine zb ?_ | refine zm ?_ | refine zc ?_ | refine ze ?_) | refine ⟨_, ⟨rfl, by decide⟩, ?_⟩ | ((with_reducible refine bc_t ?_ ?_); (first | omega | decide)) | ((with_reducible refine bc_f ?_ ?_); (first | omega | decide)) | (with_reducible first | refine bc (fun h => ?_) (fun h => ?_) | refine zt ?_ | refine zf ?_ | refine br_i (fun h => ?_) (fun h => ?_) | refine xi (pv_bool fun _ => eqv23 _ _ _ _ _ _ _) ?_) | refine zg ?_ | refine zi ?_)
  refine loop_J (by kernel_rfl) (ty_okK [133] [] [] []) (σ := Nat) (fun i => [(10, sV (.int .i64 i))]) (fun _ => []) (fun i => i ≤ 3) (fun i => 3 - i) 0 (Nat.zero_le _) ?_ ?_
  · (conv => whnf); exact zent
  intro i hi
  rcases (show i = 0 ∨ i = 1 ∨ i = 2 ∨ i = 3 by omega) with rfl | rfl | rfl | rfl
  · repeat' ((conv => whnf); first | (with_reducible first | refine br_t ?_ | refine br_f ?_ | refine za ?_ | refine zg ?_ | refine zo ?_ | refine zb ?_ | refine zm ?_ | refine zc ?_ | refine ze ?_) | refine ⟨_, ⟨rfl, by decide⟩, ?_⟩ | ((with_reducible refine bc_t ?_ ?_); (first | omega | decide)) | ((with_reducible refine bc_f ?_ ?_); (first | omega | decide)) | (with_reducible first | refine bc (fun h => ?_) (fun h => ?_) | refine zt ?_ | refine zf ?_ | refine br_i (fun h => ?_) (fun h => ?_) | refine xi (pv_bool fun _ => eqv23 _ _ _ _ _ _ _) ?_) | refine zg ?_ | refine zi ?_)
    all_goals conv => whnf
    refine ⟨1, by omega, ?_, by omega⟩
    (conv => whnf); refine ⟨by repeat' (first | with_reducible exact zE0 | with_reducible refine zE1 ?_ ?_ | rfl | assumption | (rfl) | (refine ent_i ?_; (first | omega | (rw [IntWalk.i64_in _ (by omega)]; omega) | (simp; done))) | (refine ent_b ?_; (first | omega | (rw [IntWalk.i64_in _ (by omega)]; omega) | (simp; done)))), by repeat' (first | with_reducible exact zH0 | with_reducible refine zH1 ?_ ?_ | rfl | assumption | (rfl)), rfl⟩
  · repeat' ((conv => whnf); first | (with_reducible first | refine br_t ?_ | refine br_f ?_ | refine za ?_ | refine zg ?_ | refine zo ?_ | refine zb ?_ | refine zm ?_ | refine zc ?_ | refine ze ?_) | refine ⟨_, ⟨rfl, by decide⟩, ?_⟩ | ((with_reducible refine bc_t ?_ ?_); (first | omega | decide)) | ((with_reducible refine bc_f ?_ ?_); (first | omega | decide)) | (with_reducible first | refine bc (fun h => ?_) (fun h => ?_) | refine zt ?_ | refine zf ?_ | refine br_i (fun h => ?_) (fun h => ?_) | refine xi (pv_bool fun _ => eqv23 _ _ _ _ _ _ _) ?_) | refine zg ?_ | refine zi ?_)
    all_goals conv => whnf
    refine ⟨2, by omega, ?_, by omega⟩
    (conv => whnf); refine ⟨by repeat' (first | with_reducible exact zE0 | with_reducible refine zE1 ?_ ?_ | rfl | assumption | (rfl) | (refine ent_i ?_; (first | omega | (rw [IntWalk.i64_in _ (by omega)]; omega) | (simp; done))) | (refine ent_b ?_; (first | omega | (rw [IntWalk.i64_in _ (by omega)]; omega) | (simp; done)))), by repeat' (first | with_reducible exact zH0 | with_reducible refine zH1 ?_ ?_ | rfl | assumption | (rfl)), rfl⟩
  · repeat' ((conv => whnf); first | (with_reducible first | refine br_t ?_ | refine br_f ?_ | refine za ?_ | refine zg ?_ | refine zo ?_ | refine zb ?_ | refine zm ?_ | refine zc ?_ | refine ze ?_) | refine ⟨_, ⟨rfl, by decide⟩, ?_⟩ | ((with_reducible refine bc_t ?_ ?_); (first | omega | decide)) | ((with_reducible refine bc_f ?_ ?_); (first | omega | decide)) | (with_reducible first | refine bc (fun h => ?_) (fun h => ?_) | refine zt ?_ | refine zf ?_ | refine br_i (fun h => ?_) (fun h => ?_) | refine xi (pv_bool fun _ => eqv23 _ _ _ _ _ _ _) ?_) | refine zg ?_ | refine zi ?_)
    all_goals conv => whnf
    refine ⟨3, by omega, ?_, by omega⟩
    (conv => whnf); refine ⟨by repeat' (first | with_reducible exact zE0 | with_reducible refine zE1 ?_ ?_ | rfl | assumption | (rfl) | (refine ent_i ?_; (first | omega | (rw [IntWalk.i64_in _ (by omega)]; omega) | (simp; done))) | (refine ent_b ?_; (first | omega | (rw [IntWalk.i64_in _ (by omega)]; omega) | (simp; done)))), by repeat' (first | with_reducible exact zH0 | with_reducible refine zH1 ?_ ?_ | rfl | assumption | (rfl)), rfl⟩
  · repeat' ((conv => whnf); first | (with_reducible first | refine br_t ?_ | refine br_f ?_ | refine za ?_ | refine zg ?_ | refine zo ?_ | refine zb ?_ | refine zm ?_ | refine zc ?_ | refine ze ?_) | refine ⟨_, ⟨rfl, by decide⟩, ?_⟩ | ((with_reducible refine bc_t ?_ ?_); (first | omega | decide)) | ((with_reducible refine bc_f ?_ ?_); (first | omega | decide)) | (with_reducible first | refine bc (fun h => ?_) (fun h => ?_) | refine zt ?_ | refine zf ?_ | refine br_i (fun h => ?_) (fun h => ?_) | refine xi (pv_bool fun _ => eqv23 _ _ _ _ _ _ _) ?_) | refine zg ?_ | refine zi ?_)
    refine loop_frz [100] ?_
    refine loop_nameH 18 2 100 rfl rfl rfl ?_
    refine loop_J (by kernel_rfl) (ty_okK [133] [] [] []) (σ := Nat) (fun i => [(19, sV (.int .i64 i))]) (fun i => [(18, .own [.d (i64 3), .d (i64 1), .osl 100 0]), (100, .row 3 ((fullP i).map Pt.c) 0)]) (fun i => i ≤ 64) (fun i => 64 - i) 0 (Nat.zero_le _) ?_ ?_
    · (conv => whnf); exact zent
    intro i hi
    have hli := hfl i
    have hli2 : ((fullP i).map Pt.c ++ [[i64 i, i64 0, i64 0]]).length ≤ 1000000 := by rw [List.length_append, hli]; simp only [List.length_cons, List.length_nil]; omega
    rcases Nat.lt_or_ge i 64 with hlt | hge
    · repeat' ((conv => whnf); first | (with_reducible first | refine br_t ?_ | refine br_f ?_ | refine za ?_ | refine zg ?_ | refine zo ?_ | refine zb ?_ | refine zm ?_ | refine zc ?_ | refine ze ?_) | (rw [hli]; omega) | ((with_reducible refine bc_t ?_ ?_); (first | omega | decide)) | ((with_reducible refine bc_f ?_ ?_); (first | omega | decide)) | (with_reducible first | refine bc (fun h => ?_) (fun h => ?_) | refine zt ?_ | refine zf ?_ | refine br_i (fun h => ?_) (fun h => ?_) | refine xi (pv_bool fun _ => eqv23 _ _ _ _ _ _ _) ?_) | refine zg ?_ | refine zi ?_)
      all_goals conv => whnf
      refine ⟨i + 1, hlt, ?_, by omega⟩
      (conv => whnf); refine ⟨by repeat' (first | with_reducible exact zE0 | with_reducible refine zE1 ?_ ?_ | rfl | assumption | ((exact congrArg (fun x => some (Blk.row 3 x 0)) (fullP_succ i))) | (refine ent_i ?_; (first | omega | (rw [IntWalk.i64_in _ (by omega)]; omega) | (simp; done))) | (refine ent_b ?_; (first | omega | (rw [IntWalk.i64_in _ (by omega)]; omega) | (simp; done)))), by repeat' (first | with_reducible exact zH0 | with_reducible refine zH1 ?_ ?_ | rfl | assumption | ((exact congrArg (fun x => some (Blk.row 3 x 0)) (fullP_succ i)))), rfl⟩
    · obtain rfl : i = 64 := by omega
      rw [hF]
      repeat' ((conv => whnf); first | (with_reducible first | refine br_t ?_ | refine br_f ?_ | refine za ?_ | refine zg ?_ | refine zo ?_ | refine zb ?_ | refine zm ?_ | refine zc ?_ | refine ze ?_) | refine ⟨_, ⟨rfl, by decide⟩, ?_⟩ | ((with_reducible refine bc_t ?_ ?_); (first | omega | decide)) | ((with_reducible refine bc_f ?_ ?_); (first | omega | decide)) | (with_reducible first | refine bc (fun h => ?_) (fun h => ?_) | refine zt ?_ | refine zf ?_ | refine br_i (fun h => ?_) (fun h => ?_) | refine xi (pv_bool fun _ => eqv23 _ _ _ _ _ _ _) ?_) | refine zg ?_ | refine zi ?_)
      all_goals conv => whnf
      all_goals rfl
end Go.Proofs.YtnhljlihchegjaaGreat

/- OracleNames answers true. No condition. -/
namespace Go.Proofs.YtnhljlihchegjaaGreat
open Go.RowKit Go.ChangeShapes Go.WideShapes Go.ChangeAt Sx
theorem oracleNames_own : ownKnob Tryz.prog.godebug = none := by kernel_rfl
set_option maxRecDepth 100000 in
theorem oracleNames_lifted (os : Os) (started : os.Started) (H : Type) (enc : TypeId × Value → H) :
    ReturnsInHanded {} Tryz.checked os 5 .any (Rows.oracleNamesSpec.pre6 enc Tryz.prog Tryz.f5 Rows.oracleNamesRow.domain false) (Rows.oracleNamesSpec.post enc Tryz.prog Tryz.f5 false true false false) := by
  refine returnsInHanded_of_change (C := Tryz.checked) oracleNames_own started (by kernel_rfl) Tryz.func5
    (ChangeSpec.witness6 (enc := enc) (C := Tryz.checked) false ⟨#[], #[], []⟩ 12 (by kernel_rfl) (by kernel_rfl) (by kernel_rfl) (by kernel_rfl)) ?_
  intro W base args ds gs before hval0 hW hcnd _
  have hval : ∀ (j : Nat) t v, Tryz.f5.params[j]? = some t → args[j]? = some v → Value.okWide Tryz.prog W .any base t v := hval0
  have hW' := hW
  obtain ⟨p, q, hA0, hV, rfl, hfz, hnd⟩ := hW
  have hA : DataW.TrodAll enc Tryz.prog W 0 (fun _ => true) true Tryz.f5.params.toList args.toList ds p := hA0
  rw [Tryz.params5] at hA hval
  obtain ⟨rfl, rfl, rfl⟩ := trodAll_none hA
  refine (law_of_fn (vs := []) (fun _ _ => Tryz.call5 _ _) (LONames_fn) trivial).mono fun e W' ⟨he, hb⟩ => ?_
  subst he
  exact ⟨_, rfl, law_post (by kernel_rfl) (by kernel_rfl) rfl Tryz.underlying4 rfl hW' ⟨rfl, rfl, rfl⟩ hb⟩
theorem oracleNames_over : Rows.oracleNamesRow.holds Tryz.pinned (OpenSpec.ofChange Rows.oracleNamesSpec) :=
  OpenClaim.holds_of_wide 5 Tryz.f5 rfl rfl rfl rfl rfl rfl rfl ⟨rfl, rfl, rfl, rfl, rfl⟩ rfl rfl rfl rfl rfl (by kernel_rfl) Tryz.func5 (by kernel_rfl)
    (of_decide_eq_true (by kernel_rfl)) (by unfold Func.isWrapper; rw [if_neg (of_decide_eq_false (by kernel_rfl))]; exact ⟨rfl, rfl⟩)
    (fun os started H enc _ => oracleNames_lifted os started H enc)
/-- the statement -/
theorem oracleNames_proved : Rows.OracleNamesSaid := oracleNames_over
#print axioms oracleNames_proved
end Go.Proofs.YtnhljlihchegjaaGreat
