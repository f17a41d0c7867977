import Derived.Test.YtepmgbmnghiaoaaGreatGcAZ
import Derived.Test.YtepmgbmnghiaoaaGreatGcBA
import Derived.Test.YtepmgbmnghiaoaaGreatRows
import Derived.Test.YtepmgbmnghiaoaaGreatGcAB
set_option linter.all false
namespace Go.Proofs.YtepmgbmnghiaoaaGreat
open Go Go.RowKit Go.Sort Sx
theorem ldP_eq {l : List Pt} {n m : Int} {p : Pt} (hp : p ∈ l) (h : ∀ q ∈ l, q ≠ p → ldr n m p q) : ldP l n m = p := by
  have h1 := srt_sorted n m l
  have h2 := (srt_perm n m l).mem_iff (a := p)
  have h3 := fun x => (srt_perm n m l).mem_iff (a := x)
  unfold ldP
  cases hs : srt n m l with
  | nil => rw [hs] at h2; exact absurd (h2.2 hp) (by simp)
  | cons x r =>
    rw [hs] at h1 h2 h3
    show x = p
    by_cases e : x = p
    · exact e
    · exfalso
      have hx := h x ((h3 x).1 (List.mem_cons_self ..)) e
      rcases List.mem_cons.1 (h2.2 hp) with rfl | hr
      · exact e rfl
      · exact (List.pairwise_cons.1 h1).1 p hr hx
theorem askV_lead {m : Md} {p : Pt} (h : m.l.length ≠ 0) (hp : ldP m.l m.n m.d = p) : askV m ⟨5, ⟨0, 0, 0⟩, 0, 0, 0⟩ = (m, ⟨0, p.id, 0, (plc p m.n m.d).1, (plc p m.n m.d).2, []⟩) := by
  unfold askV
  rw [if_pos (by decide), if_neg (by decide), if_neg (by decide), if_neg (by decide), if_neg (by decide), if_pos rfl, if_neg h, hp]
def P3 : List Pt := [⟨1, 0, 2⟩, ⟨2, 6, -1⟩, ⟨5, 0, 0⟩]
end Go.Proofs.YtepmgbmnghiaoaaGreat

namespace Go.Proofs.YtepmgbmnghiaoaaGreat
open Go Go.RowKit Go.Sort Sx
abbrev gxM : Md := ⟨0, 1, []⟩
abbrev gxN : Md := ⟨0, 1, [⟨1, 0, 0⟩]⟩
abbrev gxL : List Ak := [⟨1, ⟨1, 0, 0⟩, 0, 0, 0⟩, ⟨5, ⟨0, 0, 0⟩, 0, 0, 0⟩]
abbrev gxR : List Rp := [rp0, ⟨0, 1, 0, 0, 1, []⟩]
theorem gx_put : askV gxM ⟨1, ⟨1, 0, 0⟩, 0, 0, 0⟩ = (gxN, rp0) := by decide
theorem gx_lead : askV gxN ⟨5, ⟨0, 0, 0⟩, 0, 0, 0⟩ = (gxN, ⟨0, 1, 0, 0, 1, []⟩) := by
  rw [askV_lead (p := ⟨1, 0, 0⟩) (by decide) (ldP_eq (by decide) (by decide))]
  decide
theorem gx_run : runs gxM gxL = (gxN, gxR) := by
  simp only [gxL, runs, gx_put, gx_lead]
theorem gx_rec : recV gxM gxL = (⟨gxM, gxL, gxR⟩, 0) := by
  unfold recV
  rw [if_pos (by decide), if_neg (by decide), gx_run]
theorem gx_chk : lchk ⟨gxM, gxL, gxR⟩ = 0 := by
  have := lchk_mk (m := gxM) (l := gxL) (by decide) (by decide)
  rw [gx_run] at this
  exact this
theorem gx_at1 : latV ⟨gxM, gxL, gxR⟩ 1 = (gxN, 0) := by
  unfold latV
  rw [if_pos gx_chk, if_neg (by decide)]
  show ((runs gxM [⟨1, ⟨1, 0, 0⟩, 0, 0, 0⟩]).1, 0) = _
  simp only [runs, gx_put]
theorem gx_at2 : latV ⟨gxM, gxL, gxR⟩ 2 = (gxN, 0) := by
  unfold latV
  rw [if_pos gx_chk, if_neg (by decide)]
  show ((runs gxM gxL).1, 0) = _
  rw [gx_run]
theorem gx_wrg : wrg gxM gxL [rp0, ⟨0, 2, 0, 0, 1, []⟩] = some 1 := by
  simp only [gxL, wrg, gx_put, gx_lead]
  rw [if_pos trivial, if_neg (by decide)]
  rfl
theorem gx_wrong : wrongV ⟨gxM, gxL, [rp0, ⟨0, 2, 0, 0, 1, []⟩]⟩ = (1, 0) := by
  unfold wrongV
  rw [if_pos (by decide)]
  unfold wrgI
  rw [gx_wrg]
  rfl
theorem gx_wchk : lchk ⟨gxM, gxL, [rp0, ⟨0, 2, 0, 0, 1, []⟩]⟩ = 36 := by
  unfold lchk
  rw [if_pos (by decide), gx_wrg]
  rfl
theorem GLat_fn (n : Int) : FnOK Tryz.prog 53 [.one (i64 n)] (.c (rat n 1)) := by
  refine fn_ok (by kernel_rfl) ty_ok Tryz.func53 rfl (fun _ _ => Tryz.call53 _ _) rfl ?_
  intro hw
  clear hw
  exact zw
theorem GLgiven_fn : FnOK Tryz.prog 52 [] (.tup [gxM.dc, .one (aks gxL)]) := by
  have A1 := GLat_fn 0
  refine fn_ok (by kernel_rfl) ty_ok Tryz.func52 rfl (fun _ _ => Tryz.call52 _ _) rfl ?_
  intro hw
  clear hw
  exact zw
set_option maxRecDepth 100000 in
set_option maxHeartbeats 8000000 in
theorem GLalive_fn : FnOK Tryz.prog 39 [] (.c (.one (bol true))) := by
  have A1 := GLat_fn 0
  have A2 := GLgiven_fn
  have B := gRecord_fn gxM gxL
  rw [gx_rec] at B
  have T := rgTwin_own ⟨gxM, gxL, gxR⟩ (by decide) (by decide) (by decide) (by decide)
  have W1 := gWrong_fn ⟨gxM, gxL, [rp0, ⟨0, 2, 0, 0, 1, []⟩]⟩
  rw [gx_wrong] at W1
  have W2 := gCheck_fn ⟨gxM, gxL, [rp0, ⟨0, 2, 0, 0, 1, []⟩]⟩
  rw [gx_wchk] at W2
  have C1 := gAt_fn ⟨gxM, gxL, gxR⟩ 1
  rw [gx_at1] at C1
  have C2 := gAt_fn ⟨gxM, gxL, gxR⟩ 2
  rw [gx_at2] at C2
  have S1 := rgSame_fn ⟨gxM, gxL, gxR⟩ ⟨gxM, gxL, gxR⟩
  have S2 := roSameModel_fn gxN gxN
  simp only [decide_true, retG, ret2, Lg.dc, Md.dc, aks, rps, pts, List.map_cons, List.map_nil, Ak.c, Rp.c, Pt.c, rp0, mts] at A2 B T W1 W2 C1 C2 S1 S2
  refine fn_ok (by kernel_rfl) (ty_okK [31] [] [] []) Tryz.func39 rfl (fun _ _ => Tryz.call39 _ _) rfl ?_
  intro hw
  clear hw
  repeat' ((conv => whnf); first | (with_reducible first | refine br_t ?_ | refine br_f ?_ | refine za ?_ | refine zg ?_ | refine zo ?_) | refine ⟨_, ⟨rfl, Nat.le_of_ble_eq_true rfl⟩, ?_⟩ | refine zl ?_ | refine zp ?_ | refine zq ?_ | (with_reducible first | refine bc (fun h => ?_) (fun h => ?_) | refine zt ?_ | refine zf ?_ | refine br_i (fun h => ?_) (fun h => ?_)) | refine zg ?_ | refine zi ?_ | refine zb ?_ | refine zl ?_)
  all_goals conv => whnf
  all_goals rfl
theorem GLfit_fn (m : Md) (l : List Ak) : FnOK Tryz.prog 40 [m.dc, .one (aks l)] (.c (.one (bol (!(great m.l || decide (20 < l.length ∧ l.length ≤ 120 ∨ 130 < l.length)) && decide (l.length ≤ 20) && decide (mchk m = 0))))) := by
  have H0 := rqGreat_fn m l
  have H1 := roCheck_fn m
  have hal : (l.map Ak.c).length = l.length := List.length_map ..
  generalize (great m.l || decide (20 < l.length ∧ l.length ≤ 120 ∨ 130 < l.length)) = g at *
  cases g
  · by_cases hl : l.length ≤ 20
    · rw [decide_eq_true hl]
      by_cases h : mchk m = 0
      · rw [h] at H1 ⊢
        refine fn_ok (by kernel_rfl) ty_ok Tryz.func40 rfl (fun _ _ => Tryz.call40 _ _) rfl ?_
        intro hw
        clear hw
        repeat' ((conv => whnf); first | (with_reducible first | refine br_t ?_ | refine br_f ?_ | refine za ?_ | refine zg ?_) | rw [hal] | refine zp ?_ | refine zq ?_ | (with_reducible first | refine bc (fun h => ?_) (fun h => ?_) | refine zt ?_ | refine zf ?_ | refine br_i (fun h => ?_) (fun h => ?_)) | refine zg ?_ | refine zi ?_ | refine zb ?_)
        all_goals conv => whnf
        all_goals rfl
      · rw [decide_eq_false h]
        rw [(mchk_08 m).resolve_left h] at H1
        refine fn_ok (by kernel_rfl) ty_ok Tryz.func40 rfl (fun _ _ => Tryz.call40 _ _) rfl ?_
        intro hw
        clear hw
        repeat' ((conv => whnf); first | (with_reducible first | refine br_t ?_ | refine br_f ?_ | refine za ?_ | refine zg ?_) | rw [hal] | refine zp ?_ | refine zq ?_ | (with_reducible first | refine bc (fun h => ?_) (fun h => ?_) | refine zt ?_ | refine zf ?_ | refine br_i (fun h => ?_) (fun h => ?_)) | refine zg ?_ | refine zi ?_ | refine zb ?_)
        all_goals conv => whnf
        all_goals rfl
    · rw [decide_eq_false hl]
      clear H1
      refine fn_ok (by kernel_rfl) ty_ok Tryz.func40 rfl (fun _ _ => Tryz.call40 _ _) rfl ?_
      intro hw
      simp only [WDCs, WDC, WDs] at hw
      have w1 := wd_aks hw.2.1
      clear hw
      repeat' ((conv => whnf); first | (with_reducible first | refine br_t ?_ | refine br_f ?_ | refine za ?_ | refine zg ?_) | rw [hal] | refine zp ?_ | refine zq ?_ | (with_reducible first | refine bc (fun h => ?_) (fun h => ?_) | refine zt ?_ | refine zf ?_ | refine br_i (fun h => ?_) (fun h => ?_)) | refine zg ?_ | refine zi ?_ | refine zb ?_)
      all_goals conv => whnf
      all_goals rfl
  · clear H1
    refine fn_ok (by kernel_rfl) ty_ok Tryz.func40 rfl (fun _ _ => Tryz.call40 _ _) rfl ?_
    intro hw
    clear hw
    exact zw
end Go.Proofs.YtepmgbmnghiaoaaGreat

namespace Go.Proofs.YtepmgbmnghiaoaaGreat
open Go.RowKit Go.Sort Sx
structure Dis (l : List Pt) : Prop where
  ok : ∀ p ∈ l, p.chk = 0
  ne : l.Pairwise fun p q => p.id ≠ q.id
end Go.Proofs.YtepmgbmnghiaoaaGreat

namespace Go.Proofs.YtepmgbmnghiaoaaGreat
open Go.RowKit Go.Sort Sx
structure Uk where
  k : Int
  id : Int
  deriving DecidableEq, Inhabited
def Uk.c (u : Uk) : List D := [u8 u.k, i64 u.id]
abbrev Uk.dc (u : Uk) : DC := .agg [u8 u.k, i64 u.id]
structure Un where
  k : Int
  id : Int
  p : Pt
  deriving DecidableEq, Inhabited
def Un.c (u : Un) : List D := [u8 u.k, i64 u.id, i64 u.p.id, i64 u.p.a, i64 u.p.b]
def Un.u (u : Un) : Uk := ⟨u.k, u.id⟩
def lk (l : List Pt) (id : Int) : Option Pt := l.find? fun p => p.id == id
def Uk.turn (u : Uk) : Uk := if u.k = 2 then ⟨3, u.id⟩ else if u.k = 3 then ⟨2, u.id⟩ else u
end Go.Proofs.YtepmgbmnghiaoaaGreat

namespace Go.Proofs.YtepmgbmnghiaoaaGreat
open Go.RowKit Go.Sort Sx
end Go.Proofs.YtepmgbmnghiaoaaGreat

namespace Go.Proofs.YtepmgbmnghiaoaaGreat
open Go.RowKit Go.Sort Sx
theorem runs_get {m : Md} {l : List Ak} {i : Nat} (h : i < l.length) (h' : i < (runs m l).2.length) : (runs m l).2[i] = (askV (runs m (l.take i)).1 l[i]).2 := by
  have e := runs_drop m l i
  rw [List.drop_eq_getElem_cons h, List.drop_eq_getElem_cons h', runs] at e
  injection e with e1 _
  exact e1.symm
end Go.Proofs.YtepmgbmnghiaoaaGreat

namespace Go.Proofs.YtepmgbmnghiaoaaGreat
open Go.RowKit Go.Sort Sx
theorem lat_rec {m : Md} {l : List Ak} (hm : mchk m = 0) (hl : l.length ≤ 120) {n : Int} (h0 : 0 ≤ n) (h1 : n ≤ l.length) : latV ⟨m, l, (runs m l).2⟩ n = ((runs m (l.take n.toNat)).1, 0) := by
  unfold latV
  rw [if_pos (lchk_mk hm hl), if_neg (by dsimp only; omega)]
theorem wrong_rec {m : Md} {l : List Ak} (hm : mchk m = 0) (hl : l.length ≤ 120) : wrongV ⟨m, l, (runs m l).2⟩ = (0, 6) := by
  unfold wrongV
  have hf : formL ⟨m, l, (runs m l).2⟩ = 0 := by
    unfold formL
    rw [if_neg (show ¬ 120 < l.length by omega), if_pos ⟨hm, runs_len m l⟩]
  rw [if_pos hf]
  unfold wrgI
  rw [(wrg_none _ _ _ (runs_len m l)).2 rfl]
set_option maxRecDepth 100000 in
set_option maxHeartbeats 8000000 in
theorem LGReplays_fn (m : Md) (l : List Ak) : FnOK Tryz.prog 6 [m.dc, .one (aks l)] (.c (.one (bol true))) := by
  have HA := GLalive_fn
  have HF := GLfit_fn m l
  have hal : (l.map Ak.c).length = l.length := List.length_map ..
  generalize hfit : (!(great m.l || decide (20 < l.length ∧ l.length ≤ 120 ∨ 130 < l.length)) && decide (l.length ≤ 20) && decide (mchk m = 0)) = F at *
  cases F
  · refine fn_ok (by kernel_rfl) ty_ok Tryz.func6 rfl (fun _ _ => Tryz.call6 _ _) rfl ?_
    intro hw
    clear hw
    exact zw
  · simp only [Bool.and_eq_true, decide_eq_true_eq] at hfit
    obtain ⟨⟨_, hl⟩, hm⟩ := hfit
    have hl2 : l.length ≤ 120 := by omega
    have E1 := gRecord_fn m l
    unfold recV at E1
    rw [if_pos hm, if_neg (by omega)] at E1
    have E2 := gWrong_fn ⟨m, l, (runs m l).2⟩
    rw [wrong_rec hm hl2] at E2
    have E3 := gCheck_fn ⟨m, l, (runs m l).2⟩
    rw [lchk_mk hm hl2] at E3
    have E4 := oRun_fn m l
    unfold runV at E4
    rw [if_pos hm, if_neg (by omega)] at E4
    have E5 := gAt_fn ⟨m, l, (runs m l).2⟩ 0
    rw [lat_rec hm hl2 (by omega) (by omega)] at E5
    have S1 := r36SameAsks_fn l l
    have S2 := roSameAll_fn (runs m l).2 (runs m l).2
    have S3 := roSameModel_fn m m
    have S4 := roSameModel_fn (runs m l).1 (runs m l).1
    simp only [decide_true] at S1 S2 S3 S4
    have EA : ∀ i : Nat, i < l.length → FnOK Tryz.prog 43 [Lg.dc ⟨m, l, (runs m l).2⟩, .one (i64 (IntKind.i64.wrap ((i : Int) + 1)))] (.tup [(runs m (l.take (i + 1))).1.dc, .one (i64 0)]) := fun i hi => by
      have := gAt_fn ⟨m, l, (runs m l).2⟩ (IntKind.i64.wrap ((i : Int) + 1))
      have e1 : IntKind.i64.wrap ((i : Int) + 1) = ((i + 1 : Nat) : Int) := by rw [IntWalk.i64_in _ (by omega)]; omega
      rw [lat_rec hm hl2 (by omega) (by omega)] at this
      rw [show (IntKind.i64.wrap ((i : Int) + 1)).toNat = i + 1 by rw [e1]; rfl] at this
      exact this
    have hrl : ((runs m l).2.map Rp.c).length = l.length := by rw [List.length_map, runs_len]
    have hget : ∀ i : Nat, (h : i < l.length) → ((runs m l).2.map Rp.c)[((i : Nat) : Int).toNat]? = some [i64 (askV (runs m (l.take i)).1 l[i]).2.e, i64 (askV (runs m (l.take i)).1 l[i]).2.i, i64 (askV (runs m (l.take i)).1 l[i]).2.j, i64 (askV (runs m (l.take i)).1 l[i]).2.n, i64 (askV (runs m (l.take i)).1 l[i]).2.d, mts (askV (runs m (l.take i)).1 l[i]).2.ms] := fun i h => by
      have := rps_get (l := (runs m l).2) (i := i) (by rw [runs_len]; exact h)
      have h' : i < (runs m l).2.length := by rw [runs_len]; exact h
      rw [this]
      rw [runs_get h h']
    have hT : ∀ i : Nat, (h : i < l.length) → (runs m (l.take (i + 1))).1 = (askV (runs m (l.take i)).1 l[i]).1 := fun i h => congrArg Prod.fst (runs_succ h)
    have hOK : ∀ i : Nat, mchk (runs m (l.take i)).1 = 0 := fun i => runs_ok _ hm
    have hlast : (runs m (l.take l.length)).1 = (runs m l).1 := by rw [List.take_length]
    simp only [retG, retR, ret2, Int.toNat_zero, List.take_zero, runs] at E1 E2 E3 E4 E5
    generalize (runs m l).2 = r at *
    generalize (runs m l).1 = z at *
    refine fn_ok (by kernel_rfl) ty_ok Tryz.func6 rfl (fun _ _ => Tryz.call6 _ _) rfl ?_
    intro hw
    clear hw
    repeat' ((conv => whnf); first | (with_reducible first | refine br_t ?_ | refine br_f ?_ | refine za ?_ | refine zg ?_) | rw [hrl] | rw [hal] | refine zp ?_ | refine zq ?_ | (with_reducible first | refine bc (fun h => ?_) (fun h => ?_) | refine zt ?_ | refine zf ?_ | refine br_i (fun h => ?_) (fun h => ?_)) | refine zg ?_ | refine zi ?_ | refine zb ?_)
    clear HA HF E1 E2 E3 E4 E5 S1 S2 S3
    refine loop_J (by kernel_rfl) ty_ok (σ := Nat) (fun i => [(15, sV (.int .i64 i))]) (fun i => [(13, .own [.d (i64 (runs m (l.take i)).1.n), .d (i64 (runs m (l.take i)).1.d), .d (pts (runs m (l.take i)).1.l)])]) (fun i => i ≤ l.length) (fun i => l.length - i) 0 (Nat.zero_le _) ?_ ?_
    · (conv => whnf); refine ⟨by repeat' (first | with_reducible exact zE0 | with_reducible refine zE1 ?_ ?_ | rfl | assumption | (rfl) | exact zi1 | exact zb1), by repeat' (first | with_reducible exact zH0 | with_reducible refine zH1 ?_ ?_ | rfl | assumption | (rfl)), rfl⟩
    intro i hi
    rcases Nat.lt_or_ge i l.length with hlt | hge
    · have g1 := aks_get hlt
      have g2 := hget i hlt
      have E6 := EA i hlt
      have E7 := oDo_fn (runs m (l.take i)).1 l[i]
      unfold doV at E7
      rw [if_pos (hOK i)] at E7
      have hT1 := hT i hlt
      rw [hT1] at E6
      have S5 := roSameModel_fn (askV (runs m (l.take i)).1 l[i]).1 (askV (runs m (l.take i)).1 l[i]).1
      have S6 := roSame_fn (askV (runs m (l.take i)).1 l[i]).2 (askV (runs m (l.take i)).1 l[i]).2
      simp only [decide_true] at S5 S6
      simp only [retD] at E7
      clear hget EA hT hOK hlast
      generalize (runs m (l.take i)).1 = u at *
      generalize l[i] = a at *
      generalize askV u a = x at *
      obtain ⟨x1, x2⟩ := x
      dsimp only at g2 E6 E7 hT1 S5 S6
      repeat' ((conv => whnf); first | (with_reducible first | refine br_t ?_ | refine br_f ?_ | refine za ?_ | refine zg ?_) | rw [hal] | rw [hrl] | refine zp ?_ | refine zq ?_ | (with_reducible first | refine bc (fun h => ?_) (fun h => ?_) | refine zt ?_ | refine zf ?_ | refine br_i (fun h => ?_) (fun h => ?_)) | refine zg ?_ | refine zi ?_ | refine zb ?_)
      all_goals conv => whnf
      refine ⟨i + 1, by omega, ?_, by omega⟩
      rw [hT1]
      (conv => whnf); refine ⟨by repeat' (first | with_reducible exact zE0 | with_reducible refine zE1 ?_ ?_ | rfl | assumption | (rfl) | exact zi1 | exact zb1), by repeat' (first | with_reducible exact zH0 | with_reducible refine zH1 ?_ ?_ | rfl | assumption | (rfl)), rfl⟩
    · obtain rfl : i = l.length := by omega
      rw [hlast]
      repeat' ((conv => whnf); first | (with_reducible first | refine br_t ?_ | refine br_f ?_ | refine za ?_ | refine zg ?_) | rw [hal] | refine zp ?_ | refine zq ?_ | (with_reducible first | refine bc (fun h => ?_) (fun h => ?_) | refine zt ?_ | refine zf ?_ | refine br_i (fun h => ?_) (fun h => ?_)) | refine zg ?_ | refine zi ?_ | refine zb ?_)
      all_goals conv => whnf
      all_goals first | rfl | exact r_bool (by simp)
end Go.Proofs.YtepmgbmnghiaoaaGreat

namespace Go.Proofs.YtepmgbmnghiaoaaGreat
open Go.RowKit Go.ChangeShapes Go.WideShapes Go.ChangeAt Sx
theorem ledgerReplays_own : ownKnob Tryz.prog.godebug = none := by kernel_rfl
set_option maxRecDepth 100000 in
theorem ledgerReplays_lifted (os : Os) (started : os.Started) (H : Type) (enc : TypeId × Value → H) :
    ReturnsInHanded {} Tryz.checked os 6 .any (Rows.ledgerReplaysSpec.pre6 enc Tryz.prog Tryz.f6 Rows.ledgerReplaysRow.domain false) (Rows.ledgerReplaysSpec.post enc Tryz.prog Tryz.f6 false true false false) := by
  refine returnsInHanded_of_change (C := Tryz.checked) ledgerReplays_own started (by kernel_rfl) Tryz.func6
    (ChangeSpec.witness6 (enc := enc) (C := Tryz.checked) false ⟨#[], #[.agg #[.int .i64 0, .int .i64 0, .slice none 0 0], .slice none 0 0], []⟩ 12 (by kernel_rfl) (by kernel_rfl) (by kernel_rfl) (by kernel_rfl)) ?_
  intro W base args ds gs before hval0 hW hcnd _
  have hval : ∀ (j : Nat) t v, Tryz.f6.params[j]? = some t → args[j]? = some v → Value.okWide Tryz.prog W .any base t v := hval0
  have hW' := hW
  obtain ⟨p, q, hA0, hV, rfl, hfz, hnd⟩ := hW
  have hA : DataW.TrodAll enc Tryz.prog W 0 (fun _ => true) true Tryz.f6.params.toList args.toList ds p := hA0
  rw [Tryz.params6] at hA hval
  obtain ⟨v0, vs0, d0, ds0, p0, q0, hargs, rfl, rfl, h0, r0⟩ := trodAll_cons hA
  obtain ⟨v1, vs1, d1, ds1, p1, q1, rfl, rfl, rfl, h1, r1⟩ := trodAll_cons r0
  obtain ⟨rfl, rfl, rfl⟩ := trodAll_nil r1
  obtain rfl : args = #[v0, v1] := by cases args; simp_all
  obtain ⟨e0, hd0, hf0⟩ := arg_data (tyB_ok (s := shModel) (by kernel_rfl)) (hval 0 28 v0 rfl rfl) h0
  obtain ⟨x0, rfl⟩ := fit_model hf0
  obtain ⟨e1, hd1, hf1⟩ := arg_data (tyB_ok (s := shAsks) (by kernel_rfl)) (hval 1 33 v1 rfl rfl) h1
  obtain ⟨x1, rfl⟩ := fit_asks hf1
  refine (law_of_fn (vs := [v0, v1]) (fun _ _ => Tryz.call6 _ _) (LGReplays_fn x0 x1) ⟨hd0, hd1, trivial⟩).mono fun e W' ⟨he, hb⟩ => ?_
  subst he
  exact ⟨_, rfl, law_post (by kernel_rfl) (by kernel_rfl) rfl Tryz.underlying4 rfl hW' ⟨rfl, rfl, rfl⟩ hb⟩
theorem ledgerReplays_over : Rows.ledgerReplaysRow.holds Tryz.pinned (OpenSpec.ofChange Rows.ledgerReplaysSpec) :=
  OpenClaim.holds_of_wide 6 Tryz.f6 rfl rfl rfl rfl rfl rfl rfl ⟨rfl, rfl, rfl, rfl, rfl⟩ rfl rfl rfl rfl rfl (by kernel_rfl) Tryz.func6 (by kernel_rfl)
    (of_decide_eq_true (by kernel_rfl)) (by unfold Func.isWrapper; rw [if_neg (of_decide_eq_false (by kernel_rfl))]; exact ⟨rfl, rfl⟩)
    (fun os started H enc _ => ledgerReplays_lifted os started H enc)
theorem ledgerReplays_proved : Rows.LedgerReplaysSaid := ledgerReplays_over
#print axioms ledgerReplays_proved
end Go.Proofs.YtepmgbmnghiaoaaGreat
