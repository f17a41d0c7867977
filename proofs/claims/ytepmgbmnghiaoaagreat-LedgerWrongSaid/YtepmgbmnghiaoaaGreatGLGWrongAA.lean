import Derived.Test.YtepmgbmnghiaoaaGreatGcAK
import Derived.Test.YtepmgbmnghiaoaaGreatGcAB
import Derived.Deep.Slices
import Derived.Deep.Strs
import Derived.ChangeSame
import Derived.Test.YtepmgbmnghiaoaaGreatGcAT
import Derived.Test.YtepmgbmnghiaoaaGreatGcAZ
import Derived.Test.YtepmgbmnghiaoaaGreatGcBA
import Derived.Test.YtepmgbmnghiaoaaGreatRows
set_option linter.all false
namespace Go.Proofs.YtepmgbmnghiaoaaGreat
open Go Go.RowKit Go.ChangeShapes Go.WideShapes Go.Deep Go.Proofs.YtepmgbmnghiaoaaGreat.Sx
namespace Sx
section
variable {H : Type} {enc : TypeId × Value → H} {P : Program} {w : World} {base : Nat} {spare : Nat → Bool} {held : Bool}
end
theorem fit_int {c : DC} (h : FitC shInt c) : ∃ n : Int, c = .one (.v (.int .i64 n)) := by
  obtain ⟨d, rfl, n, e⟩ := h
  simp only [List.cons.injEq, and_true] at e
  exact ⟨n, by rw [e]⟩
end Sx
end Go.Proofs.YtepmgbmnghiaoaaGreat

namespace Go.Proofs.YtepmgbmnghiaoaaGreat
open Go Go.RowKit Sx
namespace Sx
end Sx
theorem fit_reply {c : DC} (h : FitC shReply c) : ∃ a : Rp, c = a.dc := by
  obtain ⟨ds, rfl, h⟩ := h
  obtain ⟨a, rfl⟩ := fits_reply h
  exact ⟨a, rfl⟩
end Go.Proofs.YtepmgbmnghiaoaaGreat

namespace Go.Proofs.YtepmgbmnghiaoaaGreat
open Go Go.RowKit
namespace Sx
variable {P : Program} {sz : Nat} {E : Env} {H : Hp}
def kpE (ks : List Nat) : List Nat → Env → Env
  | _, [] => []
  | D, (t, x) :: r => match memB t D with
    | true => kpE ks D r
    | false => match memB t ks with | true => (t, x) :: kpE ks (t :: D) r | false => kpE ks (t :: D) r
theorem look_kpE {ks : List Nat} : ∀ {E : Env} {D : List Nat} {t : Nat} {x : SV}, look (kpE ks D E) t = some x → t ∉ D ∧ look E t = some x
  | [], D, t, x, h => by simp [kpE, look] at h
  | (u, y) :: r, D, t, x, h => by
    unfold kpE at h
    rw [look_cons]
    split at h
    · rename_i hm
      obtain ⟨h1, h2⟩ := look_kpE h
      exact ⟨h1, by rw [if_neg (by rintro rfl; exact h1 (memB_iff.1 hm))]; exact h2⟩
    · rename_i hm
      have hm' : u ∉ D := fun h' => by rw [memB_iff.2 h'] at hm; cases hm
      split at h
      · rw [look_cons] at h
        split at h
        · rename_i e
          injection h with h
          subst e h
          exact ⟨hm', by rw [if_pos rfl]⟩
        · obtain ⟨h1, h2⟩ := look_kpE h
          refine ⟨fun h' => h1 (List.mem_cons_of_mem _ h'), ?_⟩
          rename_i e
          rw [if_neg e]; exact h2
      · obtain ⟨h1, h2⟩ := look_kpE h
        exact ⟨fun h' => h1 (List.mem_cons_of_mem _ h'), by rw [if_neg (by rintro rfl; exact h1 (List.mem_cons_self ..))]; exact h2⟩
theorem loop_keep (ks : List Nat) {dm : Bool} {body : Code} {k : Exit → Env → Hp → Prop} (h : frcEnv (kpE ks [] E) fun E1 => LoopP P sz dm body E1 H k) : LoopP P sz dm body E H k :=
  ⟨fun C M0 w0 ρ a w Q hdm R hQ => ((frcEnv_iff _ _).1 h).run C M0 w0 ρ a w Q hdm (R.same (fun t x hx => (look_kpE hx).2) fun _ => rfl) hQ⟩
end Sx
end Go.Proofs.YtepmgbmnghiaoaaGreat

namespace Go.Proofs.YtepmgbmnghiaoaaGreat
open Go Go.RowKit Go.Sort Sx
theorem ldP_eq {l : List Pt} {n m : Int} {p : Pt} (hp : p ∈ l) (h : ∀ q ∈ l, q ≠ p → ldr n m p q) : ldP l n m = p := by
  have h1 := srt_sorted n m l
  have h2 := (srt_perm n m l).mem_iff (a := p)
  have h3 := fun x => (srt_perm n m l).mem_iff (a := x)
  unfold ldP
  cases hs : srt n m l with
  | nil => rw [hs] at h2; exact absurd (h2.2 hp) (by simp)
  | cons x r =>
    rw [hs] at h1 h2 h3
    show x = p
    by_cases e : x = p
    · exact e
    · exfalso
      have hx := h x ((h3 x).1 (List.mem_cons_self ..)) e
      rcases List.mem_cons.1 (h2.2 hp) with rfl | hr
      · exact e rfl
      · exact (List.pairwise_cons.1 h1).1 p hr hx
theorem askV_lead {m : Md} {p : Pt} (h : m.l.length ≠ 0) (hp : ldP m.l m.n m.d = p) : askV m ⟨5, ⟨0, 0, 0⟩, 0, 0, 0⟩ = (m, ⟨0, p.id, 0, (plc p m.n m.d).1, (plc p m.n m.d).2, []⟩) := by
  unfold askV
  rw [if_pos (by decide), if_neg (by decide), if_neg (by decide), if_neg (by decide), if_neg (by decide), if_pos rfl, if_neg h, hp]
end Go.Proofs.YtepmgbmnghiaoaaGreat

namespace Go.Proofs.YtepmgbmnghiaoaaGreat
open Go Go.RowKit Go.Sort Sx
abbrev gxM : Md := ⟨0, 1, []⟩
abbrev gxN : Md := ⟨0, 1, [⟨1, 0, 0⟩]⟩
abbrev gxL : List Ak := [⟨1, ⟨1, 0, 0⟩, 0, 0, 0⟩, ⟨5, ⟨0, 0, 0⟩, 0, 0, 0⟩]
abbrev gxR : List Rp := [rp0, ⟨0, 1, 0, 0, 1, []⟩]
theorem gx_put : askV gxM ⟨1, ⟨1, 0, 0⟩, 0, 0, 0⟩ = (gxN, rp0) := by decide
theorem gx_lead : askV gxN ⟨5, ⟨0, 0, 0⟩, 0, 0, 0⟩ = (gxN, ⟨0, 1, 0, 0, 1, []⟩) := by
  rw [askV_lead (p := ⟨1, 0, 0⟩) (by decide) (ldP_eq (by decide) (by decide))]
  decide
theorem gx_run : runs gxM gxL = (gxN, gxR) := by
  simp only [gxL, runs, gx_put, gx_lead]
theorem gx_rec : recV gxM gxL = (⟨gxM, gxL, gxR⟩, 0) := by
  unfold recV
  rw [if_pos (by decide), if_neg (by decide), gx_run]
theorem gx_chk : lchk ⟨gxM, gxL, gxR⟩ = 0 := by
  have := lchk_mk (m := gxM) (l := gxL) (by decide) (by decide)
  rw [gx_run] at this
  exact this
theorem gx_at1 : latV ⟨gxM, gxL, gxR⟩ 1 = (gxN, 0) := by
  unfold latV
  rw [if_pos gx_chk, if_neg (by decide)]
  show ((runs gxM [⟨1, ⟨1, 0, 0⟩, 0, 0, 0⟩]).1, 0) = _
  simp only [runs, gx_put]
theorem gx_at2 : latV ⟨gxM, gxL, gxR⟩ 2 = (gxN, 0) := by
  unfold latV
  rw [if_pos gx_chk, if_neg (by decide)]
  show ((runs gxM gxL).1, 0) = _
  rw [gx_run]
theorem gx_wrg : wrg gxM gxL [rp0, ⟨0, 2, 0, 0, 1, []⟩] = some 1 := by
  simp only [gxL, wrg, gx_put, gx_lead]
  rw [if_pos trivial, if_neg (by decide)]
  rfl
theorem gx_wrong : wrongV ⟨gxM, gxL, [rp0, ⟨0, 2, 0, 0, 1, []⟩]⟩ = (1, 0) := by
  unfold wrongV
  rw [if_pos (by decide)]
  unfold wrgI
  rw [gx_wrg]
  rfl
theorem gx_wchk : lchk ⟨gxM, gxL, [rp0, ⟨0, 2, 0, 0, 1, []⟩]⟩ = 36 := by
  unfold lchk
  rw [if_pos (by decide), gx_wrg]
  rfl
theorem GLat_fn (n : Int) : FnOK Tryz.prog 53 [.one (i64 n)] (.c (rat n 1)) := by
  refine fn_ok (by kernel_rfl) ty_ok Tryz.func53 rfl (fun _ _ => Tryz.call53 _ _) rfl ?_
  intro hw
  clear hw
  exact zw
theorem GLgiven_fn : FnOK Tryz.prog 52 [] (.tup [gxM.dc, .one (aks gxL)]) := by
  have A1 := GLat_fn 0
  refine fn_ok (by kernel_rfl) ty_ok Tryz.func52 rfl (fun _ _ => Tryz.call52 _ _) rfl ?_
  intro hw
  clear hw
  exact zw
set_option maxRecDepth 100000 in
set_option maxHeartbeats 8000000 in
theorem GLalive_fn : FnOK Tryz.prog 39 [] (.c (.one (bol true))) := by
  have A1 := GLat_fn 0
  have A2 := GLgiven_fn
  have B := gRecord_fn gxM gxL
  rw [gx_rec] at B
  have T := rgTwin_own ⟨gxM, gxL, gxR⟩ (by decide) (by decide) (by decide) (by decide)
  have W1 := gWrong_fn ⟨gxM, gxL, [rp0, ⟨0, 2, 0, 0, 1, []⟩]⟩
  rw [gx_wrong] at W1
  have W2 := gCheck_fn ⟨gxM, gxL, [rp0, ⟨0, 2, 0, 0, 1, []⟩]⟩
  rw [gx_wchk] at W2
  have C1 := gAt_fn ⟨gxM, gxL, gxR⟩ 1
  rw [gx_at1] at C1
  have C2 := gAt_fn ⟨gxM, gxL, gxR⟩ 2
  rw [gx_at2] at C2
  have S1 := rgSame_fn ⟨gxM, gxL, gxR⟩ ⟨gxM, gxL, gxR⟩
  have S2 := roSameModel_fn gxN gxN
  simp only [decide_true, retG, ret2, Lg.dc, Md.dc, aks, rps, pts, List.map_cons, List.map_nil, Ak.c, Rp.c, Pt.c, rp0, mts] at A2 B T W1 W2 C1 C2 S1 S2
  refine fn_ok (by kernel_rfl) (ty_okK [31] [] [] []) Tryz.func39 rfl (fun _ _ => Tryz.call39 _ _) rfl ?_
  intro hw
  clear hw
  repeat' ((conv => whnf); first | (with_reducible first | refine br_t ?_ | refine br_f ?_ | refine za ?_ | refine zg ?_ | refine zo ?_) | refine ⟨_, ⟨rfl, Nat.le_of_ble_eq_true rfl⟩, ?_⟩ | refine zl ?_ | refine zp ?_ | refine zq ?_ | (with_reducible first | refine bc (fun h => ?_) (fun h => ?_) | refine zt ?_ | refine zf ?_ | refine br_i (fun h => ?_) (fun h => ?_)) | refine zg ?_ | refine zi ?_ | refine zb ?_ | refine zl ?_)
  all_goals conv => whnf
  all_goals rfl
theorem GLfit_fn (m : Md) (l : List Ak) : FnOK Tryz.prog 40 [m.dc, .one (aks l)] (.c (.one (bol (!(great m.l || decide (20 < l.length ∧ l.length ≤ 120 ∨ 130 < l.length)) && decide (l.length ≤ 20) && decide (mchk m = 0))))) := by
  have H0 := rqGreat_fn m l
  have H1 := roCheck_fn m
  have hal : (l.map Ak.c).length = l.length := List.length_map ..
  generalize (great m.l || decide (20 < l.length ∧ l.length ≤ 120 ∨ 130 < l.length)) = g at *
  cases g
  · by_cases hl : l.length ≤ 20
    · rw [decide_eq_true hl]
      by_cases h : mchk m = 0
      · rw [h] at H1 ⊢
        refine fn_ok (by kernel_rfl) ty_ok Tryz.func40 rfl (fun _ _ => Tryz.call40 _ _) rfl ?_
        intro hw
        clear hw
        repeat' ((conv => whnf); first | (with_reducible first | refine br_t ?_ | refine br_f ?_ | refine za ?_ | refine zg ?_) | rw [hal] | refine zp ?_ | refine zq ?_ | (with_reducible first | refine bc (fun h => ?_) (fun h => ?_) | refine zt ?_ | refine zf ?_ | refine br_i (fun h => ?_) (fun h => ?_)) | refine zg ?_ | refine zi ?_ | refine zb ?_)
        all_goals conv => whnf
        all_goals rfl
      · rw [decide_eq_false h]
        rw [(mchk_08 m).resolve_left h] at H1
        refine fn_ok (by kernel_rfl) ty_ok Tryz.func40 rfl (fun _ _ => Tryz.call40 _ _) rfl ?_
        intro hw
        clear hw
        repeat' ((conv => whnf); first | (with_reducible first | refine br_t ?_ | refine br_f ?_ | refine za ?_ | refine zg ?_) | rw [hal] | refine zp ?_ | refine zq ?_ | (with_reducible first | refine bc (fun h => ?_) (fun h => ?_) | refine zt ?_ | refine zf ?_ | refine br_i (fun h => ?_) (fun h => ?_)) | refine zg ?_ | refine zi ?_ | refine zb ?_)
        all_goals conv => whnf
        all_goals rfl
    · rw [decide_eq_false hl]
      clear H1
      refine fn_ok (by kernel_rfl) ty_ok Tryz.func40 rfl (fun _ _ => Tryz.call40 _ _) rfl ?_
      intro hw
      simp only [WDCs, WDC, WDs] at hw
      have w1 := wd_aks hw.2.1
      clear hw
      repeat' ((conv => whnf); first | (with_reducible first | refine br_t ?_ | refine br_f ?_ | refine za ?_ | refine zg ?_) | rw [hal] | refine zp ?_ | refine zq ?_ | (with_reducible first | refine bc (fun h => ?_) (fun h => ?_) | refine zt ?_ | refine zf ?_ | refine br_i (fun h => ?_) (fun h => ?_)) | refine zg ?_ | refine zi ?_ | refine zb ?_)
      all_goals conv => whnf
      all_goals rfl
  · clear H1
    refine fn_ok (by kernel_rfl) ty_ok Tryz.func40 rfl (fun _ _ => Tryz.call40 _ _) rfl ?_
    intro hw
    clear hw
    exact zw
end Go.Proofs.YtepmgbmnghiaoaaGreat

namespace Go.Proofs.YtepmgbmnghiaoaaGreat
open Go Go.RowKit Go.Sort Sx
theorem oRun_own {m : Md} (h : mchk m = 0) (l : List Ak) (h1 : ¬ 120 < l.length) : FnOwn Tryz.prog 41 [m.dc, .one (aks l)] ⟨.tup [(runs m l).1.dc, .one (rps (runs m l).2), .one (i64 0)], 1, 0, 6, (runs m l).2.map Rp.c⟩ := by
  have H := oCheck_fn m
  rw [h] at H
  obtain ⟨g1, g2⟩ := mchk_ok h
  obtain ⟨k1, k2, k3⟩ := fchk_ok g2
  have HC := ok_of_own (clonePt_own (m.l.map Pt.c) (by simp; omega))
  refine fn_own (by kernel_rfl) (ty_okK [9, 48] [] [] []) Tryz.func41 rfl (fun _ _ => Tryz.call41 _ _) rfl ?_
  intro hw
  clear hw
  repeat' ((conv => whnf); first | (with_reducible first | refine br_t ?_ | refine br_f ?_ | refine za ?_ | refine zg ?_ | refine zo ?_) | rw [List.length_map] | refine zp ?_ | refine zq ?_ | (with_reducible first | refine bc (fun h => ?_) (fun h => ?_) | refine zt ?_ | refine zf ?_ | refine br_i (fun h => ?_) (fun h => ?_)) | refine zg ?_ | refine zi ?_ | refine zb ?_ | refine zl ?_)
  refine loop_J (by kernel_rfl) (ty_okK [9, 48] [] [] []) (σ := Nat × Md × List Rp) (fun s => [(34, sV (.int .i64 s.1)), (9, .c (.at (.osl 9 0)))]) (fun s => [(8, .own [.d (i64 s.2.1.n), .d (i64 s.2.1.d), .d (pts s.2.1.l)]), (9, .row 6 (s.2.2.map Rp.c) 0)]) (fun s => s.1 ≤ l.length ∧ mchk s.2.1 = 0 ∧ runs m (l.take s.1) = s.2) (fun s => l.length - s.1) (0, m, []) ⟨by omega, h, rfl⟩ ?_ ?_
  · (conv => whnf); exact zent
  rintro ⟨i, u, o⟩ ⟨hi, hu, hI⟩
  dsimp only at hi hu hI
  have hol : (o.map Rp.c).length = o.length := List.length_map ..
  have hoi : o.length = (l.take i).length := by have := runs_len m (l.take i); rw [hI] at this; exact this
  rw [List.length_take] at hoi
  rcases Nat.lt_or_ge i l.length with hlt | hge
  · have hel := aks_get hlt
    have HA := oask_fn hu l[i]
    have hn := runs_succ (m := m) hlt
    have hv := askV_ok hu l[i]
    rw [hI] at hn
    dsimp only at hn
    generalize askV u l[i] = x at *
    obtain ⟨y, r⟩ := x
    dsimp only at hn hv
    simp only [retA] at HA
    have hs : o.map Rp.c ++ [[i64 r.e, i64 r.i, i64 r.j, i64 r.n, i64 r.d, mts r.ms]] = (o ++ [r]).map Rp.c := by rw [List.map_append]; rfl
    generalize l[i] = a at *
    repeat' ((conv => whnf); first | (with_reducible first | refine br_t ?_ | refine br_f ?_ | refine za ?_ | refine zg ?_ | refine zo ?_) | rw [hol] | rw [List.length_map] | refine zp ?_ | refine zq ?_ | (with_reducible first | refine bc (fun h => ?_) (fun h => ?_) | refine zt ?_ | refine zf ?_ | refine br_i (fun h => ?_) (fun h => ?_)) | refine zg ?_ | refine zi ?_ | refine zb ?_ | refine zl ?_)
    all_goals conv => whnf
    refine ⟨(i + 1, y, o ++ [r]), ⟨by omega, hv, hn⟩, ?_, by simp only; omega⟩
    (conv => whnf); refine ⟨by repeat' (first | with_reducible exact zE0 | with_reducible refine zE1 ?_ ?_ | rfl | assumption | ((exact congrArg (fun x => some (Blk.row 6 x 0)) hs)) | exact zi1 | exact zb1), by repeat' (first | with_reducible exact zH0 | with_reducible refine zH1 ?_ ?_ | rfl | assumption | ((exact congrArg (fun x => some (Blk.row 6 x 0)) hs))), rfl⟩
  · obtain rfl : i = l.length := by omega
    rw [List.take_of_length_le (Nat.le_refl _)] at hI
    rw [hI]
    repeat' ((conv => whnf); first | (with_reducible first | refine br_t ?_ | refine br_f ?_ | refine za ?_ | refine zg ?_ | refine zo ?_) | rw [hol] | rw [List.length_map] | refine zp ?_ | refine zq ?_ | (with_reducible first | refine bc (fun h => ?_) (fun h => ?_) | refine zt ?_ | refine zf ?_ | refine br_i (fun h => ?_) (fun h => ?_)) | refine zg ?_ | refine zi ?_ | refine zb ?_ | refine zl ?_)
    all_goals conv => whnf
    exact .inl ⟨9, 0, _, rfl, rfl, rfl⟩
theorem gRecord_own {m : Md} (h : mchk m = 0) (l : List Ak) (h1 : ¬ 120 < l.length) : FnOwn Tryz.prog 32 [m.dc, .one (aks l)] ⟨.tup [Lg.dc ⟨m, l, (runs m l).2⟩, .one (i64 0)], 0, 4, 6, (runs m l).2.map Rp.c⟩ := by
  obtain ⟨g1, g2⟩ := mchk_ok h
  obtain ⟨k1, k2, k3⟩ := fchk_ok g2
  have H1 := oRun_own h l h1
  have H2 := gmodeled_fn m (by omega)
  have H3 := ok_of_own (cloneAk_own (l.map Ak.c) (by simp; omega))
  generalize (runs m l).2 = r at *
  generalize (runs m l).1 = z at *
  refine fn_own (by kernel_rfl) (ty_okK [12] [] [] []) Tryz.func32 rfl (fun _ _ => Tryz.call32 _ _) rfl ?_
  intro hw
  clear hw
  repeat' ((conv => whnf); first | (with_reducible first | refine br_t ?_ | refine br_f ?_ | refine za ?_ | refine zg ?_ | refine zo ?_) | refine zp ?_ | refine zq ?_ | (with_reducible first | refine bc (fun h => ?_) (fun h => ?_) | refine zt ?_ | refine zf ?_ | refine br_i (fun h => ?_) (fun h => ?_)) | refine zg ?_ | refine zi ?_ | refine zb ?_ | refine zl ?_)
  all_goals conv => whnf
  exact .inl ⟨12, 0, _, rfl, rfl, rfl⟩
theorem set_fill {rs : List Rp} {r : Rp} {n i : Nat} (hn : n ≤ i) (hi : i < rs.length) : (rs.take n ++ List.replicate (i - n) r ++ rs.drop i).set i r = rs.take n ++ List.replicate (i + 1 - n) r ++ rs.drop (i + 1) := by
  have h1 : (rs.take n ++ List.replicate (i - n) r).length = i := by simp; omega
  rw [List.set_append_right _ _ (by omega), h1, Nat.sub_self, List.drop_eq_getElem_cons hi, List.set_cons_zero]
  rw [show i + 1 - n = i - n + 1 by omega, List.replicate_succ']
  simp
def fillR (rs : List Rp) (r : Rp) (n : Nat) : List Rp := rs.take n ++ List.replicate (rs.length - n) r
theorem fill_len {rs : List Rp} {r : Rp} {n : Nat} (h : n ≤ rs.length) : (fillR rs r n).length = rs.length := by unfold fillR; simp; omega
theorem fill_lt {rs : List Rp} {r : Rp} {n j : Nat} (h : n ≤ rs.length) (hj : j < n) (k1 : j < (fillR rs r n).length) : (fillR rs r n)[j] = rs[j] := by
  simp only [fillR]
  rw [List.getElem_append_left (by simp; omega), List.getElem_take]
theorem fill_ge {rs : List Rp} {r : Rp} {n j : Nat} (hj : n ≤ j) (k1 : j < (fillR rs r n).length) (h : n ≤ rs.length) : (fillR rs r n)[j] = r := by
  simp only [fillR]
  rw [List.getElem_append_right (by simp; omega), List.getElem_replicate]
theorem fill_ne {m : Md} {l : List Ak} {r : Rp} {n : Nat} (hn : n < (runs m l).2.length) (h : (runs m l).2[n] ≠ r) : wrg m l (fillR (runs m l).2 r n) = some n := by
  have hl := runs_len m l
  have hf := fill_len (rs := (runs m l).2) (r := r) (n := n) (by omega)
  refine (wrg_some m l _ n (by omega)).2 ⟨hn, by omega, ?_, fun j k1 k2 hj => (fill_lt (by omega) hj k2).symm⟩
  rw [fill_ge (Nat.le_refl _) (by omega) (by omega)]
  exact h
theorem fill_eq {m : Md} {l : List Ak} {r : Rp} {n : Nat} (hn : n < (runs m l).2.length) (h : (runs m l).2[n] = r) : wrg m l (fillR (runs m l).2 r n) = none ∨ ∃ i : Nat, wrg m l (fillR (runs m l).2 r n) = some i ∧ n < i ∧ i < l.length := by
  have hl := runs_len m l
  have hf := fill_len (rs := (runs m l).2) (r := r) (n := n) (by omega)
  cases hw : wrg m l (fillR (runs m l).2 r n) with
  | none => exact .inl rfl
  | some i =>
    obtain ⟨h1, h2, h3, h4⟩ := (wrg_some m l _ i (by omega)).1 hw
    refine .inr ⟨i, rfl, ?_, by omega⟩
    rcases Nat.lt_trichotomy n i with g | g | g
    · exact g
    · subst g
      exfalso
      apply h3
      rw [fill_ge (Nat.le_refl _) h2 (by omega)]
      exact h
    · exfalso
      apply h3
      exact (fill_lt (by omega) g h2).symm
end Go.Proofs.YtepmgbmnghiaoaaGreat

namespace Go.Proofs.YtepmgbmnghiaoaaGreat
open Go.RowKit Go.Sort Sx
set_option maxRecDepth 100000 in
set_option maxHeartbeats 8000000 in
theorem LGWrong_fn (m : Md) (l : List Ak) (n : Int) (r : Rp) : FnOK Tryz.prog 7 [m.dc, .one (aks l), .one (i64 n), r.dc] (.c (.one (bol true))) := by
  have HA := GLalive_fn
  have HF := GLfit_fn m l
  have hal : (l.map Ak.c).length = l.length := List.length_map ..
  have hml : (r.ms.map Mt.c).length = r.ms.length := List.length_map ..
  generalize hfit : (!(great m.l || decide (20 < l.length ∧ l.length ≤ 120 ∨ 130 < l.length)) && decide (l.length ≤ 20) && decide (mchk m = 0)) = F at *
  cases F
  · refine fn_ok (by kernel_rfl) ty_ok Tryz.func7 rfl (fun _ _ => Tryz.call7 _ _) rfl ?_
    intro hw
    clear hw
    exact zw
  · simp only [Bool.and_eq_true, decide_eq_true_eq] at hfit
    obtain ⟨⟨_, hl⟩, hm⟩ := hfit
    by_cases hn : n < 0 ∨ (l.length : Int) ≤ n ∨ 300 < r.ms.length
    · refine fn_ok (by kernel_rfl) ty_ok Tryz.func7 rfl (fun _ _ => Tryz.call7 _ _) rfl ?_
      intro hw
      simp only [WDCs, WDC, WDs] at hw
      have w1 : r.ms.length ≤ 9223372036854775807 := by
        obtain ⟨h1, _, _⟩ := WD_list.1 hw.2.2.2.1.2.2.2.2.2.1
        simpa using h1
      clear hw
      repeat' ((conv => whnf); first | (with_reducible first | refine br_t ?_ | refine br_f ?_ | refine za ?_ | refine zg ?_) | rw [hal] | rw [hml] | refine zp ?_ | refine zq ?_ | (with_reducible first | refine bc (fun h => ?_) (fun h => ?_) | refine zt ?_ | refine zf ?_ | refine br_i (fun h => ?_) (fun h => ?_)) | refine zg ?_ | refine zi ?_ | refine zb ?_)
      all_goals conv => whnf
      all_goals rfl
    · obtain ⟨k, rfl⟩ : ∃ k : Nat, n = (k : Int) := ⟨n.toNat, by omega⟩
      have hk : k < l.length := by omega
      obtain ⟨o, ho⟩ : ∃ o, o = (runs m l).2 := ⟨_, rfl⟩
      have hrl : o.length = l.length := by rw [ho]; exact runs_len m l
      have E1 := gRecord_own hm l (by omega)
      rw [← ho] at E1
      have hko : k < o.length := by omega
      have hget := rps_get hko
      have S := roSame_fn o[k] r
      have hne : o[k] ≠ r → wrg m l (fillR o r k) = some k := by subst ho; exact fun h => fill_ne hko h
      have heq : o[k] = r → wrg m l (fillR o r k) = none ∨ ∃ i : Nat, wrg m l (fillR o r k) = some i ∧ k < i ∧ i < l.length := by subst ho; exact fun h => fill_eq hko h
      clear ho
      have hfl := fill_len (rs := o) (r := r) (n := k) (by omega)
      have hform : formL ⟨m, l, fillR o r k⟩ = 0 := by
        unfold formL
        rw [if_neg (show ¬ 120 < l.length by omega), if_pos ⟨hm, by show (fillR o r k).length = l.length; omega⟩]
      have E2 := gWrong_fn ⟨m, l, fillR o r k⟩
      have E3 := gCheck_fn ⟨m, l, fillR o r k⟩
      have E4 := gAt_fn ⟨m, l, fillR o r k⟩ 0
      unfold wrongV wrgI at E2
      unfold latV at E4
      have hck : lchk ⟨m, l, fillR o r k⟩ = if wrg m l (fillR o r k) = none then 0 else 36 := by unfold lchk; rw [if_pos hform]
      rw [if_pos hform] at E2
      dsimp only at E2
      rw [hck] at E3 E4
      clear hck hform
      have hend : o.take k ++ List.replicate (o.length - k) r ++ o.drop o.length = fillR o r k := by
        unfold fillR; simp
      have hol : (o.map Rp.c).length = o.length := List.length_map ..
      have hst : (o.map Rp.c) = (o.take k ++ List.replicate (k - k) r ++ o.drop k).map Rp.c := by simp
      have hset : ∀ i, k ≤ i → i < o.length → ((o.take k ++ List.replicate (i - k) r ++ o.drop i).map Rp.c).set ((i : Nat) : Int).toNat [i64 r.e, i64 r.i, i64 r.j, i64 r.n, i64 r.d, mts r.ms] = (o.take k ++ List.replicate (i + 1 - k) r ++ o.drop (i + 1)).map Rp.c := fun i h1 h2 => by
        rw [← set_fill h1 h2, List.map_set]; rfl
      have hrowl : ∀ i, k ≤ i → i ≤ o.length → ((o.take k ++ List.replicate (i - k) r ++ o.drop i).map Rp.c).length = o.length := fun i h1 h2 => by simp; omega
      simp only [ret2, Lg.dc] at E2 E3 E4
      have E5 : FnOK Tryz.prog 43 [.agg [i64 m.n, i64 m.d, pts m.l, aks l, rps (fillR o r k)], .one (i64 0)] (.tup [Md.dc (if (if wrg m l (fillR o r k) = none then (0 : Int) else 36) = 0 then (runs m (l.take 0)).1 else md0), .one (i64 (if wrg m l (fillR o r k) = none then 0 else 36))]) := by
        have e : (if (if wrg m l (fillR o r k) = none then (0 : Int) else 36) = 0 then (if (0 : Int) < 0 ∨ ((l.length : Nat) : Int) < 0 then (md0, 2) else ((runs m (l.take (0 : Int).toNat)).1, 0)) else (md0, (if wrg m l (fillR o r k) = none then (0 : Int) else 36)) : Md × Int) = ((if (if wrg m l (fillR o r k) = none then (0 : Int) else 36) = 0 then (runs m (l.take 0)).1 else md0), (if wrg m l (fillR o r k) = none then 0 else 36)) := by
          rw [if_neg (by omega : ¬ ((0 : Int) < 0 ∨ ((l.length : Nat) : Int) < 0))]
          split <;> simp_all
        rw [e] at E4
        exact E4
      clear E4
      have hs0 : wrg m l (fillR o r k) = wrg m l (fillR o r k) := rfl
      by_cases c : o[k] = r
      · rw [decide_eq_true c] at S
        have heq := heq c
        clear hne c hs0
        generalize wrg m l (fillR o r k) = W at *
        rcases heq with rfl | ⟨j, rfl, hj1, hj2⟩
        · simp only [if_pos] at E2 E3 E5
          refine fn_ok (by kernel_rfl) (ty_okK [47] [] [] []) Tryz.func7 rfl (fun _ _ => Tryz.call7 _ _) rfl ?_
          intro hw
          clear hw
          repeat' ((conv => whnf); first | (with_reducible first | refine br_t ?_ | refine br_f ?_ | refine za ?_ | refine zg ?_ | refine zo ?_) | rw [hal] | rw [hml] | rw [hol] | refine zp ?_ | refine zq ?_ | (with_reducible first | refine bc (fun h => ?_) (fun h => ?_) | refine zt ?_ | refine zf ?_ | refine br_i (fun h => ?_) (fun h => ?_)) | refine zg ?_ | refine zi ?_ | refine zb ?_ | refine zl ?_)
          all_goals conv => whnf
          clear E1 HA HF S hget hal hml
          refine loop_keep [1, 2, 4, 7, 8, 9, 10, 11, 12, 13] ?_
          conv => whnf
          refine loop_J (by kernel_rfl) (ty_okK [47] [] [] []) (σ := Nat) (fun i => [(13, sV (.int .i64 i)), (10, .c (.at (.ptr 10 0)))]) (fun i => [(10, .own [.d (i64 m.n), .d (i64 m.d), .d (pts m.l), .d (aks l), .osl 47 0]), (47, .row 6 ((o.take k ++ List.replicate (i - k) r ++ o.drop i).map Rp.c) 0)]) (fun i => k ≤ i ∧ i ≤ o.length) (fun i => o.length - i) k ⟨Nat.le_refl _, by omega⟩ ?_ ?_
          · (conv => whnf); refine ⟨by repeat' (first | with_reducible exact zE0 | with_reducible refine zE1 ?_ ?_ | rfl | assumption | ((exact congrArg (fun x => some (Blk.row 6 x 0)) hst)) | exact zi1 | exact zb1), by repeat' (first | with_reducible exact zH0 | with_reducible refine zH1 ?_ ?_ | rfl | assumption | ((exact congrArg (fun x => some (Blk.row 6 x 0)) hst))), rfl⟩
          rintro i ⟨h1, h2⟩
          have hL := hrowl i h1 h2
          rcases Nat.lt_or_ge i o.length with hlt | hge
          · have hs := hset i h1 hlt
            obtain ⟨y, hx⟩ : ∃ y : Rp, ((o.take k ++ List.replicate (i - k) r ++ o.drop i).map Rp.c)[((i : Nat) : Int).toNat]? = some [i64 y.e, i64 y.i, i64 y.j, i64 y.n, i64 y.d, mts y.ms] := ⟨_, rps_get (by rw [List.length_map] at hL; omega)⟩
            generalize ((o.take k ++ List.replicate (i - k) r ++ o.drop i).map Rp.c) = L at hL hs hx ⊢
            repeat' ((conv => whnf); first | (with_reducible first | refine br_t ?_ | refine br_f ?_ | refine za ?_ | refine zg ?_ | refine zo ?_) | rw [hL] | refine zp ?_ | refine zq ?_ | (with_reducible first | refine bc (fun h => ?_) (fun h => ?_) | refine zt ?_ | refine zf ?_ | refine br_i (fun h => ?_) (fun h => ?_)) | refine zg ?_ | refine zi ?_ | refine zb ?_ | refine zl ?_)
            all_goals conv => whnf
            refine ⟨i + 1, ⟨by omega, by omega⟩, ?_, by omega⟩
            (conv => whnf); refine ⟨by repeat' (first | with_reducible exact zE0 | with_reducible refine zE1 ?_ ?_ | rfl | assumption | ((exact congrArg (fun x => some (Blk.row 6 x 0)) hs)) | exact zi1 | exact zb1), by repeat' (first | with_reducible exact zH0 | with_reducible refine zH1 ?_ ?_ | rfl | assumption | ((exact congrArg (fun x => some (Blk.row 6 x 0)) hs))), rfl⟩
          · obtain rfl : i = o.length := by omega
            rw [hend] at hL ⊢
            repeat' ((conv => whnf); first | (with_reducible first | refine br_t ?_ | refine br_f ?_ | refine za ?_ | refine zg ?_ | refine zo ?_) | rw [hL] | refine zp ?_ | refine zq ?_ | (with_reducible first | refine bc (fun h => ?_) (fun h => ?_) | refine zt ?_ | refine zf ?_ | refine br_i (fun h => ?_) (fun h => ?_)) | refine zg ?_ | refine zi ?_ | refine zb ?_ | refine zl ?_)
            all_goals conv => whnf
            all_goals first | rfl | exact r_bool (by simp; omega)
        · simp only [reduceCtorEq, if_false] at E2 E3 E5
          refine fn_ok (by kernel_rfl) (ty_okK [47] [] [] []) Tryz.func7 rfl (fun _ _ => Tryz.call7 _ _) rfl ?_
          intro hw
          clear hw
          repeat' ((conv => whnf); first | (with_reducible first | refine br_t ?_ | refine br_f ?_ | refine za ?_ | refine zg ?_ | refine zo ?_) | rw [hal] | rw [hml] | rw [hol] | refine zp ?_ | refine zq ?_ | (with_reducible first | refine bc (fun h => ?_) (fun h => ?_) | refine zt ?_ | refine zf ?_ | refine br_i (fun h => ?_) (fun h => ?_)) | refine zg ?_ | refine zi ?_ | refine zb ?_ | refine zl ?_)
          all_goals conv => whnf
          clear E1 HA HF S hget hal hml
          refine loop_keep [1, 2, 4, 7, 8, 9, 10, 11, 12, 13] ?_
          conv => whnf
          refine loop_J (by kernel_rfl) (ty_okK [47] [] [] []) (σ := Nat) (fun i => [(13, sV (.int .i64 i)), (10, .c (.at (.ptr 10 0)))]) (fun i => [(10, .own [.d (i64 m.n), .d (i64 m.d), .d (pts m.l), .d (aks l), .osl 47 0]), (47, .row 6 ((o.take k ++ List.replicate (i - k) r ++ o.drop i).map Rp.c) 0)]) (fun i => k ≤ i ∧ i ≤ o.length) (fun i => o.length - i) k ⟨Nat.le_refl _, by omega⟩ ?_ ?_
          · (conv => whnf); refine ⟨by repeat' (first | with_reducible exact zE0 | with_reducible refine zE1 ?_ ?_ | rfl | assumption | ((exact congrArg (fun x => some (Blk.row 6 x 0)) hst)) | exact zi1 | exact zb1), by repeat' (first | with_reducible exact zH0 | with_reducible refine zH1 ?_ ?_ | rfl | assumption | ((exact congrArg (fun x => some (Blk.row 6 x 0)) hst))), rfl⟩
          rintro i ⟨h1, h2⟩
          have hL := hrowl i h1 h2
          rcases Nat.lt_or_ge i o.length with hlt | hge
          · have hs := hset i h1 hlt
            obtain ⟨y, hx⟩ : ∃ y : Rp, ((o.take k ++ List.replicate (i - k) r ++ o.drop i).map Rp.c)[((i : Nat) : Int).toNat]? = some [i64 y.e, i64 y.i, i64 y.j, i64 y.n, i64 y.d, mts y.ms] := ⟨_, rps_get (by rw [List.length_map] at hL; omega)⟩
            generalize ((o.take k ++ List.replicate (i - k) r ++ o.drop i).map Rp.c) = L at hL hs hx ⊢
            repeat' ((conv => whnf); first | (with_reducible first | refine br_t ?_ | refine br_f ?_ | refine za ?_ | refine zg ?_ | refine zo ?_) | rw [hL] | refine zp ?_ | refine zq ?_ | (with_reducible first | refine bc (fun h => ?_) (fun h => ?_) | refine zt ?_ | refine zf ?_ | refine br_i (fun h => ?_) (fun h => ?_)) | refine zg ?_ | refine zi ?_ | refine zb ?_ | refine zl ?_)
            all_goals conv => whnf
            refine ⟨i + 1, ⟨by omega, by omega⟩, ?_, by omega⟩
            (conv => whnf); refine ⟨by repeat' (first | with_reducible exact zE0 | with_reducible refine zE1 ?_ ?_ | rfl | assumption | ((exact congrArg (fun x => some (Blk.row 6 x 0)) hs)) | exact zi1 | exact zb1), by repeat' (first | with_reducible exact zH0 | with_reducible refine zH1 ?_ ?_ | rfl | assumption | ((exact congrArg (fun x => some (Blk.row 6 x 0)) hs))), rfl⟩
          · obtain rfl : i = o.length := by omega
            rw [hend] at hL ⊢
            repeat' ((conv => whnf); first | (with_reducible first | refine br_t ?_ | refine br_f ?_ | refine za ?_ | refine zg ?_ | refine zo ?_) | rw [hL] | refine zp ?_ | refine zq ?_ | (with_reducible first | refine bc (fun h => ?_) (fun h => ?_) | refine zt ?_ | refine zf ?_ | refine br_i (fun h => ?_) (fun h => ?_)) | refine zg ?_ | refine zi ?_ | refine zb ?_ | refine zl ?_)
            all_goals conv => whnf
            all_goals first | rfl | exact r_bool (by simp; omega)
      · rw [decide_eq_false c] at S
        have hne := hne c
        clear heq c hs0
        rw [hne] at E2 E3 E5
        clear hne
        simp only [reduceCtorEq, if_false] at E2 E3 E5
        rw [if_neg (by omega)] at E5
        refine fn_ok (by kernel_rfl) (ty_okK [47] [] [] []) Tryz.func7 rfl (fun _ _ => Tryz.call7 _ _) rfl ?_
        intro hw
        clear hw
        repeat' ((conv => whnf); first | (with_reducible first | refine br_t ?_ | refine br_f ?_ | refine za ?_ | refine zg ?_ | refine zo ?_) | rw [hal] | rw [hml] | rw [hol] | refine zp ?_ | refine zq ?_ | (with_reducible first | refine bc (fun h => ?_) (fun h => ?_) | refine zt ?_ | refine zf ?_ | refine br_i (fun h => ?_) (fun h => ?_)) | refine zg ?_ | refine zi ?_ | refine zb ?_ | refine zl ?_)
        all_goals conv => whnf
        clear E1 HA HF S hget hal hml
        refine loop_keep [1, 2, 4, 7, 8, 9, 10, 11, 12, 13] ?_
        conv => whnf
        refine loop_J (by kernel_rfl) (ty_okK [47] [] [] []) (σ := Nat) (fun i => [(13, sV (.int .i64 i)), (10, .c (.at (.ptr 10 0)))]) (fun i => [(10, .own [.d (i64 m.n), .d (i64 m.d), .d (pts m.l), .d (aks l), .osl 47 0]), (47, .row 6 ((o.take k ++ List.replicate (i - k) r ++ o.drop i).map Rp.c) 0)]) (fun i => k ≤ i ∧ i ≤ o.length) (fun i => o.length - i) k ⟨Nat.le_refl _, by omega⟩ ?_ ?_
        · (conv => whnf); refine ⟨by repeat' (first | with_reducible exact zE0 | with_reducible refine zE1 ?_ ?_ | rfl | assumption | ((exact congrArg (fun x => some (Blk.row 6 x 0)) hst)) | exact zi1 | exact zb1), by repeat' (first | with_reducible exact zH0 | with_reducible refine zH1 ?_ ?_ | rfl | assumption | ((exact congrArg (fun x => some (Blk.row 6 x 0)) hst))), rfl⟩
        rintro i ⟨h1, h2⟩
        have hL := hrowl i h1 h2
        rcases Nat.lt_or_ge i o.length with hlt | hge
        · have hs := hset i h1 hlt
          obtain ⟨y, hx⟩ : ∃ y : Rp, ((o.take k ++ List.replicate (i - k) r ++ o.drop i).map Rp.c)[((i : Nat) : Int).toNat]? = some [i64 y.e, i64 y.i, i64 y.j, i64 y.n, i64 y.d, mts y.ms] := ⟨_, rps_get (by rw [List.length_map] at hL; omega)⟩
          generalize ((o.take k ++ List.replicate (i - k) r ++ o.drop i).map Rp.c) = L at hL hs hx ⊢
          repeat' ((conv => whnf); first | (with_reducible first | refine br_t ?_ | refine br_f ?_ | refine za ?_ | refine zg ?_ | refine zo ?_) | rw [hL] | refine zp ?_ | refine zq ?_ | (with_reducible first | refine bc (fun h => ?_) (fun h => ?_) | refine zt ?_ | refine zf ?_ | refine br_i (fun h => ?_) (fun h => ?_)) | refine zg ?_ | refine zi ?_ | refine zb ?_ | refine zl ?_)
          all_goals conv => whnf
          refine ⟨i + 1, ⟨by omega, by omega⟩, ?_, by omega⟩
          (conv => whnf); refine ⟨by repeat' (first | with_reducible exact zE0 | with_reducible refine zE1 ?_ ?_ | rfl | assumption | ((exact congrArg (fun x => some (Blk.row 6 x 0)) hs)) | exact zi1 | exact zb1), by repeat' (first | with_reducible exact zH0 | with_reducible refine zH1 ?_ ?_ | rfl | assumption | ((exact congrArg (fun x => some (Blk.row 6 x 0)) hs))), rfl⟩
        · obtain rfl : i = o.length := by omega
          rw [hend] at hL ⊢
          repeat' ((conv => whnf); first | (with_reducible first | refine br_t ?_ | refine br_f ?_ | refine za ?_ | refine zg ?_ | refine zo ?_) | rw [hL] | refine zp ?_ | refine zq ?_ | (with_reducible first | refine bc (fun h => ?_) (fun h => ?_) | refine zt ?_ | refine zf ?_ | refine br_i (fun h => ?_) (fun h => ?_)) | refine zg ?_ | refine zi ?_ | refine zb ?_ | refine zl ?_)
          all_goals conv => whnf
          all_goals first | rfl | exact r_bool (by simp; omega)
end Go.Proofs.YtepmgbmnghiaoaaGreat

namespace Go.Proofs.YtepmgbmnghiaoaaGreat
open Go.RowKit Go.ChangeShapes Go.WideShapes Go.ChangeAt Sx
theorem ledgerWrong_own : ownKnob Tryz.prog.godebug = none := by kernel_rfl
set_option maxRecDepth 100000 in
theorem ledgerWrong_lifted (os : Os) (started : os.Started) (H : Type) (enc : TypeId × Value → H) :
    ReturnsInHanded {} Tryz.checked os 7 .any (Rows.ledgerWrongSpec.pre6 enc Tryz.prog Tryz.f7 Rows.ledgerWrongRow.domain false) (Rows.ledgerWrongSpec.post enc Tryz.prog Tryz.f7 false true false false) := by
  refine returnsInHanded_of_change (C := Tryz.checked) ledgerWrong_own started (by kernel_rfl) Tryz.func7
    (ChangeSpec.witness6 (enc := enc) (C := Tryz.checked) false ⟨#[], #[.agg #[.int .i64 0, .int .i64 0, .slice none 0 0], .slice none 0 0, .int .i64 0, .agg #[.int .i64 0, .int .i64 0, .int .i64 0, .int .i64 0, .int .i64 0, .slice none 0 0]], []⟩ 12 (by kernel_rfl) (by kernel_rfl) (by kernel_rfl) (by kernel_rfl)) ?_
  intro W base args ds gs before hval0 hW hcnd _
  have hval : ∀ (j : Nat) t v, Tryz.f7.params[j]? = some t → args[j]? = some v → Value.okWide Tryz.prog W .any base t v := hval0
  have hW' := hW
  obtain ⟨p, q, hA0, hV, rfl, hfz, hnd⟩ := hW
  have hA : DataW.TrodAll enc Tryz.prog W 0 (fun _ => true) true Tryz.f7.params.toList args.toList ds p := hA0
  rw [Tryz.params7] at hA hval
  obtain ⟨v0, vs0, d0, ds0, p0, q0, hargs, rfl, rfl, h0, r0⟩ := trodAll_cons hA
  obtain ⟨v1, vs1, d1, ds1, p1, q1, rfl, rfl, rfl, h1, r1⟩ := trodAll_cons r0
  obtain ⟨v2, vs2, d2, ds2, p2, q2, rfl, rfl, rfl, h2, r2⟩ := trodAll_cons r1
  obtain ⟨v3, vs3, d3, ds3, p3, q3, rfl, rfl, rfl, h3, r3⟩ := trodAll_cons r2
  obtain ⟨rfl, rfl, rfl⟩ := trodAll_nil r3
  obtain rfl : args = #[v0, v1, v2, v3] := by cases args; simp_all
  obtain ⟨e0, hd0, hf0⟩ := arg_data (tyB_ok (s := shModel) (by kernel_rfl)) (hval 0 28 v0 rfl rfl) h0
  obtain ⟨x0, rfl⟩ := fit_model hf0
  obtain ⟨e1, hd1, hf1⟩ := arg_data (tyB_ok (s := shAsks) (by kernel_rfl)) (hval 1 33 v1 rfl rfl) h1
  obtain ⟨x1, rfl⟩ := fit_asks hf1
  obtain ⟨e2, hd2, hf2⟩ := arg_data (tyB_ok (s := shInt) (by kernel_rfl)) (hval 2 3 v2 rfl rfl) h2
  obtain ⟨n, rfl⟩ := fit_int hf2
  obtain ⟨e3, hd3, hf3⟩ := arg_data (tyB_ok (s := shReply) (by kernel_rfl)) (hval 3 84 v3 rfl rfl) h3
  obtain ⟨r, rfl⟩ := fit_reply hf3
  refine (law_of_fn (vs := [v0, v1, v2, v3]) (fun _ _ => Tryz.call7 _ _) (LGWrong_fn x0 x1 n r) ⟨hd0, hd1, hd2, hd3, trivial⟩).mono fun e W' ⟨he, hb⟩ => ?_
  subst he
  exact ⟨_, rfl, law_post (by kernel_rfl) (by kernel_rfl) rfl Tryz.underlying4 rfl hW' ⟨rfl, rfl, rfl⟩ hb⟩
theorem ledgerWrong_over : Rows.ledgerWrongRow.holds Tryz.pinned (OpenSpec.ofChange Rows.ledgerWrongSpec) :=
  OpenClaim.holds_of_wide 7 Tryz.f7 rfl rfl rfl rfl rfl rfl rfl ⟨rfl, rfl, rfl, rfl, rfl⟩ rfl rfl rfl rfl rfl (by kernel_rfl) Tryz.func7 (by kernel_rfl)
    (of_decide_eq_true (by kernel_rfl)) (by unfold Func.isWrapper; rw [if_neg (of_decide_eq_false (by kernel_rfl))]; exact ⟨rfl, rfl⟩)
    (fun os started H enc _ => ledgerWrong_lifted os started H enc)
theorem ledgerWrong_proved : Rows.LedgerWrongSaid := ledgerWrong_over
#print axioms ledgerWrong_proved
end Go.Proofs.YtepmgbmnghiaoaaGreat
