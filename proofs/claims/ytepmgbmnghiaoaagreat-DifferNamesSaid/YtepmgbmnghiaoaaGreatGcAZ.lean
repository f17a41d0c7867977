import Derived.Test.YtepmgbmnghiaoaaGreatGcAY
import Derived.Test.YtepmgbmnghiaoaaGreatGcAT
import Derived.Test.YtepmgbmnghiaoaaGreatGcAK
import Derived.Test.YtepmgbmnghiaoaaGreatGcAV
import Derived.Lib.AppendZeros
set_option linter.all false
namespace Go.Proofs.YtepmgbmnghiaoaaGreat
open Go Go.RowKit Go.Sort Sx
abbrev aks (l : List Ak) : D := .list 7 (l.map Ak.c)
abbrev rps (l : List Rp) : D := .list 6 (l.map Rp.c)
def md0 : Md := ⟨0, 0, []⟩
theorem aks_get {l : List Ak} {i : Nat} (h : i < l.length) : (l.map Ak.c)[((i : Nat) : Int).toNat]? = some [u8 l[i].k, i64 l[i].p.id, i64 l[i].p.a, i64 l[i].p.b, i64 l[i].id, i64 l[i].n, i64 l[i].d] := by
  rw [Int.toNat_natCast, List.getElem?_map, List.getElem?_eq_getElem h]; rfl
theorem rps_get {l : List Rp} {i : Nat} (h : i < l.length) : (l.map Rp.c)[((i : Nat) : Int).toNat]? = some [i64 l[i].e, i64 l[i].i, i64 l[i].j, i64 l[i].n, i64 l[i].d, mts l[i].ms] := by
  rw [Int.toNat_natCast, List.getElem?_map, List.getElem?_eq_getElem h]; rfl
theorem Rp.eq_iff {p q : Rp} : p = q ↔ p.e = q.e ∧ p.i = q.i ∧ p.j = q.j ∧ (p.n = q.n ∧ p.d = q.d) ∧ p.ms = q.ms := by
  cases p; cases q; simp [and_assoc]
theorem wd_rps {l : List Rp} (h : WD (rps l)) : l.length ≤ 9223372036854775807 := by
  obtain ⟨h1, _, h3⟩ := WD_list.1 h
  simpa using h1
theorem wd_aks {l : List Ak} (h : WD (aks l)) : l.length ≤ 9223372036854775807 := by
  obtain ⟨h1, _, h3⟩ := WD_list.1 h
  simpa using h1
def doV (m : Md) (a : Ak) : Md × Rp × Int := if mchk m = 0 then ((askV m a).1, (askV m a).2, 0) else (md0, rp0, 8)
abbrev retD (x : Md × Rp × Int) : DV := .tup [x.1.dc, x.2.1.dc, .one (i64 x.2.2)]
theorem oDo_fn (m : Md) (a : Ak) : FnOK Tryz.prog 44 [m.dc, a.dc] (retD (doV m a)) := by
  have H := oCheck_fn m
  unfold doV
  by_cases h : mchk m = 0
  · rw [if_pos h]
    have H1 := oask_fn h a
    rw [h] at H
    generalize askV m a = x at *
    simp only [retA] at H1
    refine fn_ok (by kernel_rfl) ty_ok Tryz.func44 rfl (fun _ _ => Tryz.call44 _ _) rfl ?_
    intro hw
    clear hw
    exact zw
  · rw [if_neg h]
    have h8 := (mchk_08 m).resolve_left h
    rw [h8] at H
    refine fn_ok (by kernel_rfl) ty_ok Tryz.func44 rfl (fun _ _ => Tryz.call44 _ _) rfl ?_
    intro hw
    clear hw
    exact zw
theorem oSame_fn (a b : Rp) : FnOK Tryz.prog 72 [a.dc, b.dc] (.c (.one (bol (decide (a = b))))) := by
  have H := eqMt_fn a.ms b.ms
  have e := Rp.eq_iff (p := a) (q := b)
  by_cases c : a.ms = b.ms
  · rw [decide_eq_true c] at H
    simp only [c, and_true] at e
    refine fn_ok (by kernel_rfl) ty_ok Tryz.func72 rfl (fun _ _ => Tryz.call72 _ _) rfl ?_
    intro hw
    clear hw
    repeat' ((conv => whnf); first | (with_reducible first | refine br_t ?_ | refine br_f ?_ | refine za ?_ | refine zg ?_) | refine zp ?_ | refine zq ?_ | (with_reducible first | refine bc (fun h => ?_) (fun h => ?_) | refine zt ?_ | refine zf ?_ | refine br_i (fun h => ?_) (fun h => ?_) | refine xi (pv_bool fun _ => eqv23 _ _ _ _ _ _ _) ?_) | refine zg ?_ | refine zi ?_ | refine zb ?_)
    all_goals conv => whnf
    all_goals
      refine r_bool ?_
      rw [Bool.eq_iff_iff]
      rw [decide_eq_true_eq, e]
      first | (refine iff_of_true rfl ?_; omega) | (refine iff_of_false (by decide) ?_; omega)
  · rw [decide_eq_false c] at H
    simp only [c, and_false, iff_false] at e
    rw [decide_eq_false e]
    refine fn_ok (by kernel_rfl) ty_ok Tryz.func72 rfl (fun _ _ => Tryz.call72 _ _) rfl ?_
    intro hw
    clear hw
    repeat' ((conv => whnf); first | (with_reducible first | refine br_t ?_ | refine br_f ?_ | refine za ?_ | refine zg ?_) | refine zp ?_ | refine zq ?_ | (with_reducible first | refine bc (fun h => ?_) (fun h => ?_) | refine zt ?_ | refine zf ?_ | refine br_i (fun h => ?_) (fun h => ?_) | refine xi (pv_bool fun _ => eqv23 _ _ _ _ _ _ _) ?_) | refine zg ?_ | refine zi ?_ | refine zb ?_)
    all_goals conv => whnf
    all_goals rfl
theorem roSame_fn (a b : Rp) : FnOK Tryz.prog 45 [a.dc, b.dc] (.c (.one (bol (decide (a = b))))) := by
  have H := rmSame_fn a.ms b.ms
  have e := Rp.eq_iff (p := a) (q := b)
  by_cases c : a.ms = b.ms
  · rw [decide_eq_true c] at H
    simp only [c, and_true] at e
    refine fn_ok (by kernel_rfl) ty_ok Tryz.func45 rfl (fun _ _ => Tryz.call45 _ _) rfl ?_
    intro hw
    clear hw
    repeat' ((conv => whnf); first | (with_reducible first | refine br_t ?_ | refine br_f ?_ | refine za ?_ | refine zg ?_) | refine zp ?_ | refine zq ?_ | (with_reducible first | refine bc (fun h => ?_) (fun h => ?_) | refine zt ?_ | refine zf ?_ | refine br_i (fun h => ?_) (fun h => ?_) | refine xi (pv_bool fun _ => eqv23 _ _ _ _ _ _ _) ?_) | refine zg ?_ | refine zi ?_ | refine zb ?_)
    all_goals conv => whnf
    all_goals
      refine r_bool ?_
      rw [Bool.eq_iff_iff]
      rw [decide_eq_true_eq, e]
      first | (refine iff_of_true rfl ?_; omega) | (refine iff_of_false (by decide) ?_; omega)
  · rw [decide_eq_false c] at H
    simp only [c, and_false, iff_false] at e
    rw [decide_eq_false e]
    refine fn_ok (by kernel_rfl) ty_ok Tryz.func45 rfl (fun _ _ => Tryz.call45 _ _) rfl ?_
    intro hw
    clear hw
    repeat' ((conv => whnf); first | (with_reducible first | refine br_t ?_ | refine br_f ?_ | refine za ?_ | refine zg ?_) | refine zp ?_ | refine zq ?_ | (with_reducible first | refine bc (fun h => ?_) (fun h => ?_) | refine zt ?_ | refine zf ?_ | refine br_i (fun h => ?_) (fun h => ?_) | refine xi (pv_bool fun _ => eqv23 _ _ _ _ _ _ _) ?_) | refine zg ?_ | refine zi ?_ | refine zb ?_)
    all_goals conv => whnf
    all_goals rfl
theorem roSameAll_fn (a b : List Rp) : FnOK Tryz.prog 42 [.one (rps a), .one (rps b)] (.c (.one (bol (decide (a = b))))) := by
  refine fn_ok (by kernel_rfl) ty_ok Tryz.func42 rfl (fun _ _ => Tryz.call42 _ _) rfl ?_
  intro hw
  simp only [WDCs, WDC, WDs] at hw
  have w1 := wd_rps hw.1
  have w2 := wd_rps hw.2.1
  clear hw
  by_cases h0 : a.length = b.length
  · repeat' ((conv => whnf); first | (with_reducible first | refine br_t ?_ | refine br_f ?_ | refine za ?_ | refine zg ?_) | rw [List.length_map] | refine zp ?_ | refine zq ?_ | (with_reducible first | refine bc (fun h => ?_) (fun h => ?_) | refine zt ?_ | refine zf ?_ | refine br_i (fun h => ?_) (fun h => ?_)) | refine zg ?_ | refine zi ?_ | refine zb ?_)
    refine loop_J (by kernel_rfl) ty_ok (σ := Nat) (fun i => [(5, sV (.int .i64 i))]) (fun _ => []) (fun i => i ≤ a.length ∧ a.take i = b.take i) (fun i => a.length - i) 0 ⟨by omega, rfl⟩ ?_ ?_
    · (conv => whnf); exact zent
    rintro i ⟨hi, hI⟩
    rcases Nat.lt_or_ge i a.length with hlt | hge
    · have hb : i < b.length := by omega
      have he1 := rps_get hlt
      have he2 := rps_get hb
      have H := roSame_fn a[i] b[i]
      by_cases hc : a[i] = b[i]
      · rw [decide_eq_true hc] at H
        have hn := take_succ_eq hI hlt hb hc
        clear hc
        repeat' ((conv => whnf); first | (with_reducible first | refine br_t ?_ | refine br_f ?_ | refine za ?_ | refine zg ?_) | rw [List.length_map] | refine zp ?_ | refine zq ?_ | (with_reducible first | refine bc (fun h => ?_) (fun h => ?_) | refine zt ?_ | refine zf ?_ | refine br_i (fun h => ?_) (fun h => ?_)) | refine zg ?_ | refine zi ?_ | refine zb ?_)
        all_goals conv => whnf
        refine ⟨i + 1, ⟨by omega, hn⟩, ?_, by omega⟩
        (conv => whnf); exact zent
      · rw [decide_eq_false hc] at H
        rw [decide_eq_false (ne_of_get hlt hb hc)]
        clear hc
        repeat' ((conv => whnf); first | (with_reducible first | refine br_t ?_ | refine br_f ?_ | refine za ?_ | refine zg ?_) | rw [List.length_map] | refine zp ?_ | refine zq ?_ | (with_reducible first | refine bc (fun h => ?_) (fun h => ?_) | refine zt ?_ | refine zf ?_ | refine br_i (fun h => ?_) (fun h => ?_)) | refine zg ?_ | refine zi ?_ | refine zb ?_)
        all_goals conv => whnf
        all_goals rfl
    · rw [decide_eq_true (take_all_eq hI h0 hge)]
      repeat' ((conv => whnf); first | (with_reducible first | refine br_t ?_ | refine br_f ?_ | refine za ?_ | refine zg ?_) | rw [List.length_map] | refine zp ?_ | refine zq ?_ | (with_reducible first | refine bc (fun h => ?_) (fun h => ?_) | refine zt ?_ | refine zf ?_ | refine br_i (fun h => ?_) (fun h => ?_)) | refine zg ?_ | refine zi ?_ | refine zb ?_)
      all_goals conv => whnf
      all_goals rfl
  · rw [decide_eq_false (fun h => h0 (congrArg List.length h))]
    repeat' ((conv => whnf); first | (with_reducible first | refine br_t ?_ | refine br_f ?_ | refine za ?_ | refine zg ?_) | rw [List.length_map] | refine zp ?_ | refine zq ?_ | (with_reducible first | refine bc (fun h => ?_) (fun h => ?_) | refine zt ?_ | refine zf ?_ | refine br_i (fun h => ?_) (fun h => ?_)) | refine zg ?_ | refine zi ?_ | refine zb ?_)
    all_goals conv => whnf
    all_goals rfl
end Go.Proofs.YtepmgbmnghiaoaaGreat

namespace Go.Proofs.YtepmgbmnghiaoaaGreat
open Go Go.RowKit Sx
namespace Sx
def shAsk : Sh := .st (.fc 1 (.int .u8) (.fc 3 shPoint (.fc 1 shInt (.fc 2 shRatio .f0))))
def shAsks : Sh := .sl 7 shAsk
def shMeeting : Sh := .st (.fc 2 shRatio (.fc 1 shInt (.fc 1 shInt .f0)))
def shReply : Sh := .st (.fc 1 shInt (.fc 1 shInt (.fc 1 shInt (.fc 2 shRatio (.fc 1 (.sl 4 shMeeting) .f0)))))
def shReplies : Sh := .sl 6 shReply
end Sx
theorem fits_ask {ds : List D} (h : Fits shAsk ds) : ∃ a : Ak, ds = a.c := by
  obtain ⟨_, _, rfl, ⟨k, rfl⟩, _, _, rfl, h2, _, _, rfl, ⟨i, rfl⟩, _, _, rfl, h3, rfl⟩ := h
  obtain ⟨p, rfl⟩ := fits_point h2
  obtain ⟨n, d, rfl⟩ := fits_ratio h3
  exact ⟨⟨k, p, i, n, d⟩, rfl⟩
theorem fit_asks {c : DC} (h : FitC shAsks c) : ∃ l : List Ak, c = .one (aks l) := by
  obtain ⟨d, rfl, l, e, h2⟩ := h
  injection e with e
  subst e
  obtain ⟨l', rfl⟩ := exists_map (f := Ak.c) fun x hx => fits_ask (h2 x hx)
  exact ⟨l', rfl⟩
theorem fits_meeting {ds : List D} (h : Fits shMeeting ds) : ∃ a : Mt, ds = a.c := by
  obtain ⟨_, _, rfl, h3, _, _, rfl, ⟨i, rfl⟩, _, _, rfl, ⟨j, rfl⟩, rfl⟩ := h
  obtain ⟨n, d, rfl⟩ := fits_ratio h3
  exact ⟨⟨n, d, i, j⟩, rfl⟩
theorem fits_reply {ds : List D} (h : Fits shReply ds) : ∃ a : Rp, ds = a.c := by
  obtain ⟨_, _, rfl, ⟨e, rfl⟩, _, _, rfl, ⟨i, rfl⟩, _, _, rfl, ⟨j, rfl⟩, _, _, rfl, h3, _, _, rfl, ⟨l, rfl, h4⟩, rfl⟩ := h
  obtain ⟨n, d, rfl⟩ := fits_ratio h3
  obtain ⟨l', rfl⟩ := exists_map (f := Mt.c) fun x hx => fits_meeting (h4 x hx)
  exact ⟨⟨e, i, j, n, d, l'⟩, rfl⟩
end Go.Proofs.YtepmgbmnghiaoaaGreat

namespace Go.Proofs.YtepmgbmnghiaoaaGreat
open Go Go.RowKit Go.Sort Sx
def runs : Md → List Ak → Md × List Rp
  | m, [] => (m, [])
  | m, a :: l => ((runs (askV m a).1 l).1, (askV m a).2 :: (runs (askV m a).1 l).2)
theorem runs_append : ∀ (m : Md) (l r : List Ak), runs m (l ++ r) = ((runs (runs m l).1 r).1, (runs m l).2 ++ (runs (runs m l).1 r).2)
  | m, [], r => rfl
  | m, a :: l, r => by
    simp only [List.cons_append, runs, runs_append (askV m a).1 l r]
theorem runs_snoc (m : Md) (l : List Ak) (a : Ak) : runs m (l ++ [a]) = ((askV (runs m l).1 a).1, (runs m l).2 ++ [(askV (runs m l).1 a).2]) := by
  rw [runs_append]; rfl
theorem runs_ok : ∀ {m : Md} (l : List Ak), mchk m = 0 → mchk (runs m l).1 = 0
  | _, [], h => h
  | _, a :: l, h => runs_ok l (askV_ok h a)
theorem runs_len : ∀ (m : Md) (l : List Ak), (runs m l).2.length = l.length
  | _, [] => rfl
  | m, a :: l => by simp only [runs, List.length_cons, runs_len]
theorem runs_succ {m : Md} {l : List Ak} {i : Nat} (h : i < l.length) : runs m (l.take (i + 1)) = ((askV (runs m (l.take i)).1 l[i]).1, (runs m (l.take i)).2 ++ [(askV (runs m (l.take i)).1 l[i]).2]) := by
  rw [List.take_succ_eq_append_getElem h, runs_snoc]
def runV (m : Md) (l : List Ak) : Md × List Rp × Int := if mchk m = 0 then (if 120 < l.length then (md0, [], 4) else ((runs m l).1, (runs m l).2, 0)) else (md0, [], 8)
abbrev retR (x : Md × List Rp × Int) : DV := .tup [x.1.dc, .one (rps x.2.1), .one (i64 x.2.2)]
theorem oRun_fn (m : Md) (l : List Ak) : FnOK Tryz.prog 41 [m.dc, .one (aks l)] (retR (runV m l)) := by
  have H := oCheck_fn m
  unfold runV
  by_cases h : mchk m = 0
  · rw [if_pos h]
    rw [h] at H
    obtain ⟨g1, g2⟩ := mchk_ok h
    obtain ⟨k1, k2, k3⟩ := fchk_ok g2
    have HC := ok_of_own (clonePt_own (m.l.map Pt.c) (by simp; omega))
    by_cases h1 : 120 < l.length
    · rw [if_pos h1]
      refine fn_ok (by kernel_rfl) (ty_okK [9, 48] [] [] []) Tryz.func41 rfl (fun _ _ => Tryz.call41 _ _) rfl ?_
      intro hw
      simp only [WDCs, WDC, WDs] at hw
      have w1 := wd_aks hw.2.1
      clear hw
      repeat' ((conv => whnf); first | (with_reducible first | refine br_t ?_ | refine br_f ?_ | refine za ?_ | refine zg ?_ | refine zo ?_) | rw [List.length_map] | refine zp ?_ | refine zq ?_ | (with_reducible first | refine bc (fun h => ?_) (fun h => ?_) | refine zt ?_ | refine zf ?_ | refine br_i (fun h => ?_) (fun h => ?_)) | refine zg ?_ | refine zi ?_ | refine zb ?_ | refine zl ?_)
      all_goals conv => whnf
      all_goals rfl
    · rw [if_neg h1]
      refine fn_ok (by kernel_rfl) (ty_okK [9, 48] [] [] []) Tryz.func41 rfl (fun _ _ => Tryz.call41 _ _) rfl ?_
      intro hw
      clear hw
      repeat' ((conv => whnf); first | (with_reducible first | refine br_t ?_ | refine br_f ?_ | refine za ?_ | refine zg ?_ | refine zo ?_) | rw [List.length_map] | refine zp ?_ | refine zq ?_ | (with_reducible first | refine bc (fun h => ?_) (fun h => ?_) | refine zt ?_ | refine zf ?_ | refine br_i (fun h => ?_) (fun h => ?_)) | refine zg ?_ | refine zi ?_ | refine zb ?_ | refine zl ?_)
      refine loop_J (by kernel_rfl) (ty_okK [9, 48] [] [] []) (σ := Nat × Md × List Rp) (fun s => [(34, sV (.int .i64 s.1)), (9, .c (.at (.osl 9 0)))]) (fun s => [(8, .own [.d (i64 s.2.1.n), .d (i64 s.2.1.d), .d (pts s.2.1.l)]), (9, .row 6 (s.2.2.map Rp.c) 0)]) (fun s => s.1 ≤ l.length ∧ mchk s.2.1 = 0 ∧ runs m (l.take s.1) = s.2) (fun s => l.length - s.1) (0, m, []) ⟨by omega, h, rfl⟩ ?_ ?_
      · (conv => whnf); exact zent
      rintro ⟨i, u, o⟩ ⟨hi, hu, hI⟩
      dsimp only at hi hu hI
      have hol : (o.map Rp.c).length = o.length := List.length_map ..
      have hoi : o.length = (l.take i).length := by have := runs_len m (l.take i); rw [hI] at this; exact this
      rw [List.length_take] at hoi
      rcases Nat.lt_or_ge i l.length with hlt | hge
      · have hel := aks_get hlt
        have HA := oask_fn hu l[i]
        have hn := runs_succ (m := m) hlt
        have hv := askV_ok hu l[i]
        rw [hI] at hn
        dsimp only at hn
        generalize askV u l[i] = x at *
        obtain ⟨y, r⟩ := x
        dsimp only at hn hv
        simp only [retA] at HA
        have hs : o.map Rp.c ++ [[i64 r.e, i64 r.i, i64 r.j, i64 r.n, i64 r.d, mts r.ms]] = (o ++ [r]).map Rp.c := by rw [List.map_append]; rfl
        generalize l[i] = a at *
        repeat' ((conv => whnf); first | (with_reducible first | refine br_t ?_ | refine br_f ?_ | refine za ?_ | refine zg ?_ | refine zo ?_) | rw [hol] | rw [List.length_map] | refine zp ?_ | refine zq ?_ | (with_reducible first | refine bc (fun h => ?_) (fun h => ?_) | refine zt ?_ | refine zf ?_ | refine br_i (fun h => ?_) (fun h => ?_)) | refine zg ?_ | refine zi ?_ | refine zb ?_ | refine zl ?_)
        all_goals conv => whnf
        refine ⟨(i + 1, y, o ++ [r]), ⟨by omega, hv, hn⟩, ?_, by simp only; omega⟩
        (conv => whnf); refine ⟨by repeat' (first | with_reducible exact zE0 | with_reducible refine zE1 ?_ ?_ | rfl | assumption | ((exact congrArg (fun x => some (Blk.row 6 x 0)) hs)) | exact zi1 | exact zb1), by repeat' (first | with_reducible exact zH0 | with_reducible refine zH1 ?_ ?_ | rfl | assumption | ((exact congrArg (fun x => some (Blk.row 6 x 0)) hs))), rfl⟩
      · obtain rfl : i = l.length := by omega
        rw [List.take_of_length_le (Nat.le_refl _)] at hI
        rw [hI]
        repeat' ((conv => whnf); first | (with_reducible first | refine br_t ?_ | refine br_f ?_ | refine za ?_ | refine zg ?_ | refine zo ?_) | rw [hol] | rw [List.length_map] | refine zp ?_ | refine zq ?_ | (with_reducible first | refine bc (fun h => ?_) (fun h => ?_) | refine zt ?_ | refine zf ?_ | refine br_i (fun h => ?_) (fun h => ?_)) | refine zg ?_ | refine zi ?_ | refine zb ?_ | refine zl ?_)
        all_goals conv => whnf
        all_goals rfl
  · rw [if_neg h]
    have h8 := (mchk_08 m).resolve_left h
    rw [h8] at H
    refine fn_ok (by kernel_rfl) (ty_okK [9, 48] [] [] []) Tryz.func41 rfl (fun _ _ => Tryz.call41 _ _) rfl ?_
    intro hw
    clear hw
    exact zw
end Go.Proofs.YtepmgbmnghiaoaaGreat

namespace Go.Proofs.YtepmgbmnghiaoaaGreat
open Go.RowKit Go.Sort Sx
def kept : Md → List Ak → List Ak
  | _, [] => []
  | m, a :: l => if (askV m a).2.e = 0 then a :: kept (askV m a).1 l else kept (askV m a).1 l
end Go.Proofs.YtepmgbmnghiaoaaGreat

namespace Go.Proofs.YtepmgbmnghiaoaaGreat
open Go.RowKit Go.Sort Sx
structure Lg where
  s : Md
  al : List Ak
  rs : List Rp
  deriving DecidableEq, Inhabited
abbrev Lg.dc (x : Lg) : DC := .agg [i64 x.s.n, i64 x.s.d, pts x.s.l, aks x.al, rps x.rs]
def lg0 : Lg := ⟨md0, [], []⟩
def recV (m : Md) (l : List Ak) : Lg × Int := if mchk m = 0 then (if 120 < l.length then (lg0, 4) else (⟨m, l, (runs m l).2⟩, 0)) else (lg0, 8)
def wrg : Md → List Ak → List Rp → Option Nat
  | m, a :: l, r :: rs => if (askV m a).2 = r then (wrg (askV m a).1 l rs).map (· + 1) else some 0
  | _, _, _ => none
def wrgI (m : Md) (l : List Ak) (rs : List Rp) : Int × Int := match wrg m l rs with | none => (0, 6) | some i => ((i : Int), 0)
def formL (x : Lg) : Int := if 120 < x.al.length then 4 else if mchk x.s = 0 ∧ x.rs.length = x.al.length then 0 else 8
def wrongV (x : Lg) : Int × Int := if formL x = 0 then wrgI x.s x.al x.rs else (0, formL x)
def lchk (x : Lg) : Int := if formL x = 0 then (if wrg x.s x.al x.rs = none then 0 else 36) else formL x
theorem wrg_none : ∀ (m : Md) (l : List Ak) (rs : List Rp), rs.length = l.length → (wrg m l rs = none ↔ (runs m l).2 = rs)
  | m, [], rs, h => by
    obtain rfl := List.eq_nil_of_length_eq_zero h
    exact iff_of_true rfl rfl
  | m, a :: l, [], h => by simp at h
  | m, a :: l, r :: rs, h => by
    rw [wrg, runs]
    by_cases c : (askV m a).2 = r
    · rw [if_pos c, Option.map_eq_none_iff, wrg_none _ l rs (by simpa using h), c]
      simp
    · rw [if_neg c]
      simp [c]
theorem wrg_some : ∀ (m : Md) (l : List Ak) (rs : List Rp) (i : Nat), rs.length = l.length → (wrg m l rs = some i ↔ ∃ (h1 : i < (runs m l).2.length) (h2 : i < rs.length), (runs m l).2[i] ≠ rs[i] ∧ ∀ j (k1 : j < (runs m l).2.length) (k2 : j < rs.length), j < i → (runs m l).2[j] = rs[j])
  | m, [], rs, i, h => by
    obtain rfl := List.eq_nil_of_length_eq_zero h
    simp [wrg, runs]
  | m, a :: l, [], i, h => by simp at h
  | m, a :: l, r :: rs, i, h => by
    rw [wrg]
    have ih := fun i => wrg_some (askV m a).1 l rs i (by simpa using h)
    have er : (runs m (a :: l)).2 = (askV m a).2 :: (runs (askV m a).1 l).2 := rfl
    rw [er]
    by_cases c : (askV m a).2 = r
    · rw [if_pos c, Option.map_eq_some_iff]
      constructor
      · rintro ⟨k, hk, rfl⟩
        obtain ⟨h1, h2, h3, h4⟩ := (ih k).1 hk
        refine ⟨by simpa using h1, by simpa using h2, by simpa using h3, fun j k1 k2 hj => ?_⟩
        cases j with
        | zero => exact c
        | succ j => exact h4 j (by simpa using k1) (by simpa using k2) (by omega)
      · rintro ⟨h1, h2, h3, h4⟩
        cases i with
        | zero => exact absurd c h3
        | succ i => exact ⟨i, (ih i).2 ⟨by simpa using h1, by simpa using h2, by simpa using h3, fun j k1 k2 hj => h4 (j + 1) (by simpa using k1) (by simpa using k2) (by omega)⟩, rfl⟩
    · rw [if_neg c]
      constructor
      · intro e
        injection e with e
        subst e
        exact ⟨by simp, by simp, c, fun j _ _ hj => by omega⟩
      · rintro ⟨h1, h2, h3, h4⟩
        cases i with
        | zero => rfl
        | succ i => exact absurd (h4 0 (by simp) (by simp) (by omega)) c
theorem runs_drop (m : Md) (l : List Ak) (k : Nat) : (runs (runs m (l.take k)).1 (l.drop k)).2 = (runs m l).2.drop k := by
  have h := runs_append m (l.take k) (l.drop k)
  rw [List.take_append_drop] at h
  rw [h]
  dsimp only
  by_cases hk : k ≤ l.length
  · have e1 : (runs m (l.take k)).2.length = k := by rw [runs_len, List.length_take]; omega
    rw [List.drop_append_of_le_length (by omega), List.drop_of_length_le (Nat.le_of_eq e1), List.nil_append]
  · rw [List.take_of_length_le (l := l) (by omega), List.drop_of_length_le (l := l) (by omega)]
    simp only [runs, List.append_nil]
    rw [List.drop_of_length_le (by rw [runs_len]; omega)]
def latV (x : Lg) (n : Int) : Md × Int := if lchk x = 0 then (if n < 0 ∨ (x.al.length : Int) < n then (md0, 2) else ((runs x.s (x.al.take n.toNat)).1, 0)) else (md0, lchk x)
theorem lchk_ok {x : Lg} (h : lchk x = 0) : x.al.length ≤ 120 ∧ mchk x.s = 0 ∧ x.rs = (runs x.s x.al).2 := by
  unfold lchk at h
  split at h
  · rename_i hf
    split at h
    · rename_i hw
      unfold formL at hf
      split at hf
      · simp at hf
      · split at hf
        · rename_i h1 h2
          exact ⟨by omega, h2.1, ((wrg_none _ _ _ h2.2).1 hw).symm⟩
        · simp at hf
    · simp at h
  · rename_i hf; exact absurd h hf
theorem lchk_mk {m : Md} {l : List Ak} (hm : mchk m = 0) (hl : l.length ≤ 120) : lchk ⟨m, l, (runs m l).2⟩ = 0 := by
  have hf : formL ⟨m, l, (runs m l).2⟩ = 0 := by
    unfold formL
    rw [if_neg (show ¬ 120 < l.length by omega), if_pos ⟨hm, runs_len m l⟩]
  unfold lchk
  rw [if_pos hf, if_pos ((wrg_none _ _ _ (runs_len m l)).2 rfl)]
end Go.Proofs.YtepmgbmnghiaoaaGreat

namespace Go.Proofs.YtepmgbmnghiaoaaGreat
open Go Go.RowKit
namespace Sx
variable {P : Program} {sz : Nat} {E : Env} {H : Hp}
end Sx
end Go.Proofs.YtepmgbmnghiaoaaGreat

namespace Go.Proofs.YtepmgbmnghiaoaaGreat
open Go Go.RowKit Go.Sort Sx
end Go.Proofs.YtepmgbmnghiaoaaGreat

namespace Go.Proofs.YtepmgbmnghiaoaaGreat
open Go.RowKit Go.Sort Sx
theorem clonePt_fn (l : List (List D)) (hl : l.length ≤ 1000000) : FnOK Tryz.prog 80 [.one (.list 3 l)] (.c (.one (.list 3 l))) := ok_of_own (clonePt_own l hl)
structure Pa where
  n : Int
  d : Int
  ms : List Md
  deriving DecidableEq, Inhabited
abbrev mos (l : List Md) : D := .list 3 (l.map Md.c)
abbrev Pa.dc (p : Pa) : DC := .agg [i64 p.n, i64 p.d, mos p.ms]
end Go.Proofs.YtepmgbmnghiaoaaGreat

namespace Go.Proofs.YtepmgbmnghiaoaaGreat
open Go Go.RowKit Go.Sort Sx
theorem cloneAk_own (l : List (List D)) (hl : l.length ≤ 1000000) : FnOwn Tryz.prog 75 [.one (.list 7 l)] (ownL 7 l) := by
  cases l with
  | nil =>
    refine own_list ?_ ?_
    · refine fn_own (by kernel_rfl) (ty_okK [7] [] [] []) Tryz.func75 rfl (fun _ _ => Tryz.call75 _ _) rfl ?_
      intro hw
      repeat' ((conv => whnf); first | (with_reducible first | refine br_t ?_ | refine br_f ?_ | refine za ?_ | refine zg ?_ | refine zo ?_) | refine zp ?_ | refine zq ?_ | (with_reducible first | refine bc (fun h => ?_) (fun h => ?_) | refine zt ?_ | refine zf ?_ | refine br_i (fun h => ?_) (fun h => ?_)) | refine zg ?_ | refine zi ?_ | refine zb ?_ | refine zl ?_)
      all_goals conv => whnf
      exact .inr ⟨100, _, _, rfl, rfl, rfl, rfl, rfl⟩
    · refine fn_own (by kernel_rfl) (ty_okK [7] [] [] []) Tryz.func75 rfl (fun _ _ => Tryz.call75 _ _) rfl ?_
      intro hw
      repeat' ((conv => whnf); first | (with_reducible first | refine br_t ?_ | refine br_f ?_ | refine za ?_ | refine zg ?_ | refine zo ?_) | refine zp ?_ | refine zq ?_ | (with_reducible first | refine bc (fun h => ?_) (fun h => ?_) | refine zt ?_ | refine zf ?_ | refine br_i (fun h => ?_) (fun h => ?_)) | refine zg ?_ | refine zi ?_ | refine zb ?_ | refine zl ?_)
      all_goals conv => whnf
      exact .inl ⟨5, 1, _, rfl, rfl, rfl⟩
  | cons x xs =>
    refine fn_own (by kernel_rfl) (ty_okK [7] [] [] []) Tryz.func75 rfl (fun _ _ => Tryz.call75 _ _) rfl ?_
    intro hw
    simp only [List.length_cons] at hl
    repeat' ((conv => whnf); first | (with_reducible first | refine br_t ?_ | refine br_f ?_ | refine za ?_ | refine zg ?_ | refine zo ?_) | refine zp ?_ | refine zq ?_ | (with_reducible first | refine bc (fun h => ?_) (fun h => ?_) | refine zt ?_ | refine zf ?_ | refine br_i (fun h => ?_) (fun h => ?_)) | refine zg ?_ | refine zi ?_ | refine zb ?_ | refine zl ?_)
    all_goals conv => whnf
    exact .inl ⟨5, 1, _, rfl, rfl, rfl⟩
theorem gmodeled_fn (m : Md) (hl : m.l.length ≤ 1000000) : FnOK Tryz.prog 74 [m.dc] (.c m.dc) := by
  have H := clonePt_fn (m.l.map Pt.c) (by simpa using hl)
  refine fn_ok (by kernel_rfl) ty_ok Tryz.func74 rfl (fun _ _ => Tryz.call74 _ _) rfl ?_
  intro hw
  clear hw
  exact zw
abbrev retG (x : Lg × Int) : DV := .tup [x.1.dc, .one (i64 x.2)]
theorem gRecord_fn (m : Md) (l : List Ak) : FnOK Tryz.prog 32 [m.dc, .one (aks l)] (retG (recV m l)) := by
  have H1 := oRun_fn m l
  unfold recV
  unfold runV at H1
  by_cases h : mchk m = 0
  · rw [if_pos h] at H1 ⊢
    obtain ⟨g1, g2⟩ := mchk_ok h
    obtain ⟨k1, k2, k3⟩ := fchk_ok g2
    have H2 := gmodeled_fn m (by omega)
    by_cases h1 : 120 < l.length
    · rw [if_pos h1] at H1 ⊢
      simp only [retR] at H1
      clear H2
      refine fn_ok (by kernel_rfl) ty_ok Tryz.func32 rfl (fun _ _ => Tryz.call32 _ _) rfl ?_
      intro hw
      clear hw
      exact zw
    · rw [if_neg h1] at H1 ⊢
      have H3 := ok_of_own (cloneAk_own (l.map Ak.c) (by simp; omega))
      generalize (runs m l).2 = r at *
      generalize (runs m l).1 = z at *
      simp only [retR] at H1
      refine fn_ok (by kernel_rfl) ty_ok Tryz.func32 rfl (fun _ _ => Tryz.call32 _ _) rfl ?_
      intro hw
      clear hw
      exact zw
  · rw [if_neg h] at H1 ⊢
    simp only [retR] at H1
    refine fn_ok (by kernel_rfl) ty_ok Tryz.func32 rfl (fun _ _ => Tryz.call32 _ _) rfl ?_
    intro hw
    clear hw
    exact zw
theorem ggoes1_mem {m : Md} (hm : mchk m = 0) (a : Ak) (r : Rp) : FnMem Tryz.prog 112 [a.dc, r.dc] [[i64 m.n, i64 m.d, pts m.l]] (.c (.one (bol (decide ((askV m a).2 = r))))) [[i64 (askV m a).1.n, i64 (askV m a).1.d, pts (askV m a).1.l]] := by
  have H1 := oDo_fn m a
  unfold doV at H1
  rw [if_pos hm] at H1
  generalize askV m a = x at *
  obtain ⟨y, s⟩ := x
  have H2 := oSame_fn s r
  simp only [retD] at H1
  dsimp only
  generalize decide (s = r) = z at *
  refine fn_mem (by kernel_rfl) ty_ok Tryz.func112 rfl (fun _ _ => Tryz.call112 _ _) rfl rfl ?_
  intro hw
  clear hw
  exact zw
theorem ggoes_clo (m : Md) : FnClo Tryz.prog 77 [m.dc] 112 [i64 m.n, i64 m.d, pts m.l] := by
  intro w M vs hM hd
  match vs, hd with
  | [v], hd =>
    obtain ⟨us, rfl, hD⟩ := (show ∃ us : List Value, v = .agg us.toArray ∧ DsR w M [i64 m.n, i64 m.d, pts m.l] us from hd.1)
    match us, hD with
    | [u1, u2, u3], hD =>
      refine ⟨77, Tryz.call77 _ _, ?_⟩
      go_enter Tryz.func77, Tryz.ntmps77
      go_wp2
      go_ret
      refine ⟨w.heap.size, rfl, below_alloc (Below.refl _ _) _, Nat.le_refl _, by simp, [u1, u2, u3], ⟨28, heap_alloc_new w _⟩, ?_⟩
      exact hD.mono (Holds.of_below (below_alloc (Below.refl _ _) _)) fun b hb h => h.resolve_right fun e => by omega
theorem wrg_lt {u : Md} {l : List Ak} {rs : List Rp} {i : Nat} (h1 : i < l.length) (h2 : i < rs.length) : wrg u (l.drop i) (rs.drop i) = if (askV u l[i]).2 = rs[i] then (wrg (askV u l[i]).1 (l.drop (i + 1)) (rs.drop (i + 1))).map (· + 1) else some 0 := by
  rw [List.drop_eq_getElem_cons h1, List.drop_eq_getElem_cons h2, wrg]
set_option maxRecDepth 100000 in
set_option maxHeartbeats 4000000 in
theorem gWrong_fn (x : Lg) : FnOK Tryz.prog 34 [x.dc] (ret2 (wrongV x)) := by
  have H1 := oCheck_fn x.s
  have hal : (x.al.map Ak.c).length = x.al.length := List.length_map ..
  have hrl : (x.rs.map Rp.c).length = x.rs.length := List.length_map ..
  unfold wrongV
  by_cases h1 : 120 < x.al.length
  · have hf : formL x = 4 := by unfold formL; rw [if_pos h1]
    rw [if_neg (by omega), hf]
    refine fn_ok (by kernel_rfl) ty_ok Tryz.func34 rfl (fun _ _ => Tryz.call34 _ _) rfl ?_
    intro hw
    simp only [WDCs, WDC, WDs] at hw
    have w1 : x.al.length ≤ 9223372036854775807 := wd_aks hw.1.2.2.2.1
    clear hw H1
    repeat' ((conv => whnf); first | (with_reducible first | refine br_t ?_ | refine br_f ?_ | refine za ?_ | refine zg ?_) | rw [hal] | refine zp ?_ | refine zq ?_ | (with_reducible first | refine bc (fun h => ?_) (fun h => ?_) | refine zt ?_ | refine zf ?_ | refine br_i (fun h => ?_) (fun h => ?_)) | refine zg ?_ | refine zi ?_ | refine zb ?_)
    all_goals conv => whnf
    all_goals rfl
  · by_cases h2 : mchk x.s = 0
    · rw [h2] at H1
      by_cases h3 : x.rs.length = x.al.length
      · have hf : formL x = 0 := by unfold formL; rw [if_neg h1, if_pos ⟨h2, h3⟩]
        rw [if_pos hf]
        clear hf
        have HG := ggoes_clo x.s
        refine fn_ok (by kernel_rfl) (ty_okK [] [] [] [77, 112]) Tryz.func34 rfl (fun _ _ => Tryz.call34 _ _) rfl ?_
        intro hw
        clear hw
        repeat' ((conv => whnf); first | (with_reducible first | refine br_t ?_ | refine br_f ?_ | refine za ?_ | refine zg ?_ | refine ze ?_ | refine zk ?_) | rw [hal] | rw [hrl] | refine zp ?_ | refine zq ?_ | (with_reducible first | refine bc (fun h => ?_) (fun h => ?_) | refine zt ?_ | refine zf ?_ | refine br_i (fun h => ?_) (fun h => ?_)) | refine zg ?_ | refine zi ?_ | refine zb ?_ | refine zl ?_)
        clear H1 HG
        refine loop_J (by kernel_rfl) (ty_okK [] [] [] [77, 112]) (σ := Nat × Md) (fun s => [(30, sV (.int .i64 s.1))]) (fun s => [(26, .own [.d (i64 s.2.n), .d (i64 s.2.d), .d (pts s.2.l)])]) (fun s => s.1 ≤ x.al.length ∧ mchk s.2 = 0 ∧ (wrg s.2 (x.al.drop s.1) (x.rs.drop s.1)).map (· + s.1) = wrg x.s x.al x.rs) (fun s => x.al.length - s.1) (0, x.s) ⟨Nat.zero_le _, h2, by simp⟩ ?_ ?_
        · (conv => whnf); exact zent
        rintro ⟨i, u⟩ ⟨hi, hu, hI⟩
        dsimp only at hi hu hI
        rcases Nat.lt_or_ge i x.al.length with hlt | hge
        · have hlt2 : i < x.rs.length := by omega
          have g1 := aks_get hlt
          have g2 := rps_get hlt2
          have HM := ggoes1_mem hu x.al[i] x.rs[i]
          have hv := askV_ok hu x.al[i]
          rw [wrg_lt hlt hlt2] at hI
          by_cases hc : (askV u x.al[i]).2 = x.rs[i]
          · rw [if_pos hc, Option.map_map] at hI
            rw [decide_eq_true hc] at HM
            clear hc
            generalize x.rs[i] = r at *
            generalize x.al[i] = a at *
            generalize (askV u a).1 = y at *
            repeat' ((conv => whnf); first | (with_reducible first | refine br_t ?_ | refine br_f ?_ | refine za ?_ | refine zg ?_ | refine ze ?_ | refine zk ?_) | rw [hal] | rw [hrl] | refine zp ?_ | refine zq ?_ | (with_reducible first | refine bc (fun h => ?_) (fun h => ?_) | refine zt ?_ | refine zf ?_ | refine br_i (fun h => ?_) (fun h => ?_)) | refine zg ?_ | refine zi ?_ | refine zb ?_ | refine zl ?_)
            all_goals conv => whnf
            refine ⟨(i + 1, y), ⟨by omega, hv, ?_⟩, ?_, by simp only; omega⟩
            · rw [← hI]
              congr 1
              funext n
              simp only [Function.comp]
              omega
            · (conv => whnf); exact zent
          · rw [if_neg hc] at hI
            rw [decide_eq_false hc] at HM
            have e : wrgI x.s x.al x.rs = ((i : Int), 0) := by unfold wrgI; rw [← hI]; simp
            rw [e]
            clear hc hI
            generalize x.rs[i] = r at *
            generalize x.al[i] = a at *
            generalize (askV u a).1 = y at *
            repeat' ((conv => whnf); first | (with_reducible first | refine br_t ?_ | refine br_f ?_ | refine za ?_ | refine zg ?_ | refine ze ?_ | refine zk ?_) | rw [hal] | rw [hrl] | refine zp ?_ | refine zq ?_ | (with_reducible first | refine bc (fun h => ?_) (fun h => ?_) | refine zt ?_ | refine zf ?_ | refine br_i (fun h => ?_) (fun h => ?_)) | refine zg ?_ | refine zi ?_ | refine zb ?_ | refine zl ?_)
            all_goals conv => whnf
            all_goals rfl
        · have e : wrgI x.s x.al x.rs = (0, 6) := by
            unfold wrgI
            rw [← hI, List.drop_of_length_le hge]
            rfl
          rw [e]
          repeat' ((conv => whnf); first | (with_reducible first | refine br_t ?_ | refine br_f ?_ | refine za ?_ | refine zg ?_ | refine ze ?_ | refine zk ?_) | rw [hal] | rw [hrl] | refine zp ?_ | refine zq ?_ | (with_reducible first | refine bc (fun h => ?_) (fun h => ?_) | refine zt ?_ | refine zf ?_ | refine br_i (fun h => ?_) (fun h => ?_)) | refine zg ?_ | refine zi ?_ | refine zb ?_ | refine zl ?_)
          all_goals conv => whnf
          all_goals rfl
      · have hf : formL x = 8 := by unfold formL; rw [if_neg h1, if_neg (fun h => h3 h.2)]
        rw [if_neg (by omega), hf]
        refine fn_ok (by kernel_rfl) ty_ok Tryz.func34 rfl (fun _ _ => Tryz.call34 _ _) rfl ?_
        intro hw
        simp only [WDCs, WDC, WDs] at hw
        have w2 : x.rs.length ≤ 9223372036854775807 := wd_rps hw.1.2.2.2.2.1
        clear hw
        repeat' ((conv => whnf); first | (with_reducible first | refine br_t ?_ | refine br_f ?_ | refine za ?_ | refine zg ?_) | rw [hal] | rw [hrl] | refine zp ?_ | refine zq ?_ | (with_reducible first | refine bc (fun h => ?_) (fun h => ?_) | refine zt ?_ | refine zf ?_ | refine br_i (fun h => ?_) (fun h => ?_)) | refine zg ?_ | refine zi ?_ | refine zb ?_)
        all_goals conv => whnf
        all_goals rfl
    · have hf : formL x = 8 := by unfold formL; rw [if_neg h1, if_neg (fun h => h2 h.1)]
      rw [if_neg (by omega), hf]
      rw [(mchk_08 _).resolve_left h2] at H1
      refine fn_ok (by kernel_rfl) ty_ok Tryz.func34 rfl (fun _ _ => Tryz.call34 _ _) rfl ?_
      intro hw
      clear hw
      repeat' ((conv => whnf); first | (with_reducible first | refine br_t ?_ | refine br_f ?_ | refine za ?_ | refine zg ?_) | rw [hal] | rw [hrl] | refine zp ?_ | refine zq ?_ | (with_reducible first | refine bc (fun h => ?_) (fun h => ?_) | refine zt ?_ | refine zf ?_ | refine br_i (fun h => ?_) (fun h => ?_)) | refine zg ?_ | refine zi ?_ | refine zb ?_)
      all_goals conv => whnf
      all_goals rfl
theorem formL_c (x : Lg) : formL x = 0 ∨ formL x = 4 ∨ formL x = 8 := by unfold formL; (repeat' split) <;> simp
theorem gCheck_fn (x : Lg) : FnOK Tryz.prog 37 [x.dc] (ret1 (lchk x)) := by
  have H := gWrong_fn x
  unfold wrongV at H
  unfold lchk
  by_cases h : formL x = 0
  · rw [if_pos h] at H ⊢
    unfold wrgI at H
    cases hw : wrg x.s x.al x.rs with
    | none =>
      rw [hw] at H
      simp only at H
      rw [if_pos rfl]
      refine fn_ok (by kernel_rfl) ty_ok Tryz.func37 rfl (fun _ _ => Tryz.call37 _ _) rfl ?_
      intro hw
      clear hw
      exact zw
    | some i =>
      rw [hw] at H
      simp only at H
      rw [if_neg (by simp)]
      refine fn_ok (by kernel_rfl) ty_ok Tryz.func37 rfl (fun _ _ => Tryz.call37 _ _) rfl ?_
      intro hw
      clear hw
      exact zw
  · rw [if_neg h] at H ⊢
    rcases (formL_c x).resolve_left h with e | e
    all_goals
      rw [e] at H ⊢
      refine fn_ok (by kernel_rfl) ty_ok Tryz.func37 rfl (fun _ _ => Tryz.call37 _ _) rfl ?_
      intro hw
      clear hw
      exact zw
theorem gAt_fn (x : Lg) (n : Int) : FnOK Tryz.prog 43 [x.dc, .one (i64 n)] (.tup [(latV x n).1.dc, .one (i64 (latV x n).2)]) := by
  have H := gCheck_fn x
  have hal : (x.al.map Ak.c).length = x.al.length := List.length_map ..
  unfold latV
  by_cases h : lchk x = 0
  · rw [if_pos h]
    rw [h] at H
    obtain ⟨k1, k2, k3⟩ := lchk_ok h
    by_cases h1 : n < 0 ∨ (x.al.length : Int) < n
    · rw [if_pos h1]
      refine fn_ok (by kernel_rfl) ty_ok Tryz.func43 rfl (fun _ _ => Tryz.call43 _ _) rfl ?_
      intro hw
      clear hw
      repeat' ((conv => whnf); first | (with_reducible first | refine br_t ?_ | refine br_f ?_ | refine za ?_ | refine zg ?_) | rw [hal] | refine zp ?_ | refine zq ?_ | (with_reducible first | refine bc (fun h => ?_) (fun h => ?_) | refine zt ?_ | refine zf ?_ | refine br_i (fun h => ?_) (fun h => ?_)) | refine zg ?_ | refine zi ?_ | refine zb ?_)
      all_goals conv => whnf
      all_goals rfl
    · rw [if_neg h1]
      have HR := oRun_fn x.s (x.al.take n.toNat)
      unfold runV at HR
      rw [if_pos k2, if_neg (by rw [List.length_take]; omega), aks, List.map_take] at HR
      simp only [retR] at HR
      have HR' : FnOK Tryz.prog 41 [x.s.dc, .one (.list 7 (((x.al.map Ak.c).take n.toNat).drop (0 : Int).toNat))] _ := HR
      generalize (runs x.s (x.al.take n.toNat)).1 = y at *
      generalize (runs x.s (x.al.take n.toNat)).2 = z at *
      refine fn_ok (by kernel_rfl) ty_ok Tryz.func43 rfl (fun _ _ => Tryz.call43 _ _) rfl ?_
      intro hw
      clear hw
      repeat' ((conv => whnf); first | (with_reducible first | refine br_t ?_ | refine br_f ?_ | refine za ?_ | refine zg ?_) | rw [hal] | refine zp ?_ | refine zq ?_ | (with_reducible first | refine bc (fun h => ?_) (fun h => ?_) | refine zt ?_ | refine zf ?_ | refine br_i (fun h => ?_) (fun h => ?_)) | refine zg ?_ | refine zi ?_ | refine zb ?_)
      all_goals conv => whnf
      all_goals rfl
  · rw [if_neg h]
    generalize lchk x = z at *
    refine fn_ok (by kernel_rfl) ty_ok Tryz.func43 rfl (fun _ _ => Tryz.call43 _ _) rfl ?_
    intro hw
    clear hw
    exact zw
end Go.Proofs.YtepmgbmnghiaoaaGreat

namespace Go.Proofs.YtepmgbmnghiaoaaGreat
open Go Go.RowKit Go.Sort Sx
end Go.Proofs.YtepmgbmnghiaoaaGreat

namespace Go.Proofs.YtepmgbmnghiaoaaGreat
open Go Go.RowKit Go.Sort Sx
end Go.Proofs.YtepmgbmnghiaoaaGreat

namespace Go.Proofs.YtepmgbmnghiaoaaGreat
open Go Go.RowKit Go.Sort Sx
theorem rqGreat_fn (m : Md) (l : List Ak) : FnOK Tryz.prog 14 [m.dc, .one (aks l)] (.c (.one (bol (great m.l || decide (20 < l.length ∧ l.length ≤ 120 ∨ 130 < l.length))))) := by
  have H := rfGreat_fn m.l
  have hal : (l.map Ak.c).length = l.length := List.length_map ..
  cases hg : great m.l
  · rw [hg] at H
    refine fn_ok (by kernel_rfl) ty_ok Tryz.func14 rfl (fun _ _ => Tryz.call14 _ _) rfl ?_
    intro hw
    simp only [WDCs, WDC, WDs] at hw
    have w1 := wd_aks hw.2.1
    clear hw
    repeat' ((conv => whnf); first | (with_reducible first | refine br_t ?_ | refine br_f ?_ | refine za ?_ | refine zg ?_) | rw [hal] | refine zp ?_ | refine zq ?_ | (with_reducible first | refine bc (fun h => ?_) (fun h => ?_) | refine zt ?_ | refine zf ?_ | refine br_i (fun h => ?_) (fun h => ?_)) | refine zg ?_ | refine zi ?_ | refine zb ?_)
    all_goals conv => whnf
    all_goals
      refine r_bool ?_
      rw [Bool.eq_iff_iff]
      simp only [Bool.false_or, decide_eq_true_eq, Bool.false_eq_true, false_iff, iff_false, true_iff, iff_true]
      first | omega | (rw [iff_comm]; omega) | trivial
  · rw [hg] at H
    refine fn_ok (by kernel_rfl) ty_ok Tryz.func14 rfl (fun _ _ => Tryz.call14 _ _) rfl ?_
    intro hw
    clear hw
    exact zw
theorem Ak.eq_iff {a b : Ak} : a = b ↔ a.k = b.k ∧ (a.p.id = b.p.id ∧ a.p.a = b.p.a ∧ a.p.b = b.p.b) ∧ a.id = b.id ∧ a.n = b.n ∧ a.d = b.d := by
  obtain ⟨k, ⟨i, x, y⟩, j, n, d⟩ := a
  obtain ⟨k', ⟨i', x', y'⟩, j', n', d'⟩ := b
  simp [and_assoc]
theorem r36SameAsks_fn (a b : List Ak) : FnOK Tryz.prog 25 [.one (aks a), .one (aks b)] (.c (.one (bol (decide (a = b))))) := by
  have hla : (a.map Ak.c).length = a.length := List.length_map ..
  have hlb : (b.map Ak.c).length = b.length := List.length_map ..
  refine fn_ok (by kernel_rfl) ty_ok Tryz.func25 rfl (fun _ _ => Tryz.call25 _ _) rfl ?_
  intro hw
  simp only [WDCs, WDC, WDs] at hw
  have w1 := wd_aks hw.1
  have w2 := wd_aks hw.2.1
  clear hw
  by_cases h0 : a.length = b.length
  · repeat' ((conv => whnf); first | (with_reducible first | refine br_t ?_ | refine br_f ?_ | refine za ?_ | refine zg ?_) | rw [hla] | rw [hlb] | refine zp ?_ | refine zq ?_ | (with_reducible first | refine bc (fun h => ?_) (fun h => ?_) | refine zt ?_ | refine zf ?_ | refine br_i (fun h => ?_) (fun h => ?_) | refine xi (pv_bool fun _ => nev32 _ _ _ _ _ _ _ _ _ _ _ _ _ _ _ _ _) ?_) | refine zg ?_ | refine zi ?_ | refine zb ?_)
    refine loop_J (by kernel_rfl) ty_ok (σ := Nat) (fun i => [(5, sV (.int .i64 i))]) (fun _ => []) (fun i => i ≤ a.length ∧ a.take i = b.take i) (fun i => a.length - i) 0 ⟨by omega, rfl⟩ ?_ ?_
    · (conv => whnf); exact zent
    rintro i ⟨hi, hI⟩
    rcases Nat.lt_or_ge i a.length with hlt | hge
    · have hb : i < b.length := by omega
      have he1 := aks_get hlt
      have he2 := aks_get hb
      have hq := Ak.eq_iff (a := a[i]) (b := b[i])
      by_cases hc : a[i] = b[i]
      · have hn := take_succ_eq hI hlt hb hc
        have hq := hq.1 hc
        clear hc
        repeat' ((conv => whnf); first | (with_reducible first | refine br_t ?_ | refine br_f ?_ | refine za ?_ | refine zg ?_) | rw [hla] | rw [hlb] | refine zp ?_ | refine zq ?_ | (with_reducible first | refine bc (fun h => ?_) (fun h => ?_) | refine zt ?_ | refine zf ?_ | refine br_i (fun h => ?_) (fun h => ?_) | refine xi (pv_bool fun _ => nev32 _ _ _ _ _ _ _ _ _ _ _ _ _ _ _ _ _) ?_) | refine zg ?_ | refine zi ?_ | refine zb ?_)
        all_goals conv => whnf
        refine ⟨i + 1, ⟨by omega, hn⟩, ?_, by omega⟩
        (conv => whnf); exact zent
      · rw [decide_eq_false (ne_of_get hlt hb hc)]
        have hq : ¬ _ := fun h => hc (hq.2 h)
        clear hc
        repeat' ((conv => whnf); first | (with_reducible first | refine br_t ?_ | refine br_f ?_ | refine za ?_ | refine zg ?_) | rw [hla] | rw [hlb] | refine zp ?_ | refine zq ?_ | (with_reducible first | refine bc (fun h => ?_) (fun h => ?_) | refine zt ?_ | refine zf ?_ | refine br_i (fun h => ?_) (fun h => ?_) | refine xi (pv_bool fun _ => nev32 _ _ _ _ _ _ _ _ _ _ _ _ _ _ _ _ _) ?_) | refine zg ?_ | refine zi ?_ | refine zb ?_)
        all_goals conv => whnf
        all_goals rfl
    · rw [decide_eq_true (take_all_eq hI h0 hge)]
      repeat' ((conv => whnf); first | (with_reducible first | refine br_t ?_ | refine br_f ?_ | refine za ?_ | refine zg ?_) | rw [hla] | rw [hlb] | refine zp ?_ | refine zq ?_ | (with_reducible first | refine bc (fun h => ?_) (fun h => ?_) | refine zt ?_ | refine zf ?_ | refine br_i (fun h => ?_) (fun h => ?_) | refine xi (pv_bool fun _ => nev32 _ _ _ _ _ _ _ _ _ _ _ _ _ _ _ _ _) ?_) | refine zg ?_ | refine zi ?_ | refine zb ?_)
      all_goals conv => whnf
      all_goals rfl
  · rw [decide_eq_false (fun h => h0 (congrArg List.length h))]
    repeat' ((conv => whnf); first | (with_reducible first | refine br_t ?_ | refine br_f ?_ | refine za ?_ | refine zg ?_) | rw [hla] | rw [hlb] | refine zp ?_ | refine zq ?_ | (with_reducible first | refine bc (fun h => ?_) (fun h => ?_) | refine zt ?_ | refine zf ?_ | refine br_i (fun h => ?_) (fun h => ?_) | refine xi (pv_bool fun _ => nev32 _ _ _ _ _ _ _ _ _ _ _ _ _ _ _ _ _) ?_) | refine zg ?_ | refine zi ?_ | refine zb ?_)
    all_goals conv => whnf
    all_goals rfl
end Go.Proofs.YtepmgbmnghiaoaaGreat
