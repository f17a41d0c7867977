import Derived.Test.YtnhljlihchegjaaGreatGbAZ
import Derived.Test.YtnhljlihchegjaaGreatGbAT
set_option linter.all false
/- The past: comparing, copies, what is great. No conditions. -/
namespace Go.Proofs.YtnhljlihchegjaaGreat
open Go.RowKit Go.Sort Sx
theorem Md.eq_iff {p q : Md} : p = q ↔ (p.n = q.n ∧ p.d = q.d) ∧ p.l = q.l := by
  cases p; cases q; simp [and_assoc]
theorem Pa.eq_iff {p q : Pa} : p = q ↔ (p.n = q.n ∧ p.d = q.d) ∧ p.ms = q.ms := by
  cases p; cases q; simp [and_assoc]
theorem rpSameMoments_fn (a b : List Md) : FnOK Tryz.prog 65 [.one (mos a), .one (mos b)] (.c (.one (bol (decide (a = b))))) := by
  refine fn_ok (by kernel_rfl) ty_ok Tryz.func65 rfl (fun _ _ => Tryz.call65 _ _) rfl ?_
  intro hw
  simp only [WDCs, WDC, WDs] at hw
  have w1 := wd_mos hw.1
  have w2 := wd_mos hw.2.1
  clear hw
  have hl1 : (a.map Md.c).length = a.length := List.length_map ..
  have hl2 : (b.map Md.c).length = b.length := List.length_map ..
  by_cases h0 : a.length = b.length
  · repeat' ((conv => whnf); first | (with_reducible first | refine br_t ?_ | refine br_f ?_ | refine za ?_ | refine zg ?_ | refine zo ?_ | refine zb ?_ | refine zm ?_ | refine zc ?_ | refine ze ?_) | ((with_reducible refine bc_t ?_ ?_); (first | omega | decide)) | ((with_reducible refine bc_f ?_ ?_); (first | omega | decide)) | (with_reducible first | refine bc (fun h => ?_) (fun h => ?_) | refine zt ?_ | refine zf ?_ | refine br_i (fun h => ?_) (fun h => ?_) | refine xi (pv_bool fun _ => nev23 _ _ _ _ _ _ _) ?_) | refine zg ?_ | refine zi ?_)
    refine loop_J (by kernel_rfl) ty_ok (σ := Nat) (fun i => [(5, sV (.int .i64 i))]) (fun _ => []) (fun i => i ≤ a.length ∧ a.take i = b.take i) (fun i => a.length - i) 0 ⟨by omega, rfl⟩ ?_ ?_
    · (conv => whnf); exact zent
    rintro i ⟨hi, hI⟩
    rcases Nat.lt_or_ge i a.length with hlt | hge
    · have hb : i < b.length := by omega
      have he1 := mos_get hlt
      have he2 := mos_get hb
      have H := rfSame_fn a[i].l b[i].l
      by_cases hc : a[i] = b[i]
      · obtain ⟨hq, hq2⟩ := Md.eq_iff.1 hc
        rw [decide_eq_true hq2] at H
        repeat' ((conv => whnf); first | (with_reducible first | refine br_t ?_ | refine br_f ?_ | refine za ?_ | refine zg ?_ | refine zo ?_ | refine zb ?_ | refine zm ?_ | refine zc ?_ | refine ze ?_) | ((with_reducible refine bc_t ?_ ?_); (first | omega | decide)) | ((with_reducible refine bc_f ?_ ?_); (first | omega | decide)) | (with_reducible first | refine bc (fun h => ?_) (fun h => ?_) | refine zt ?_ | refine zf ?_ | refine br_i (fun h => ?_) (fun h => ?_) | refine xi (pv_bool fun _ => nev23 _ _ _ _ _ _ _) ?_) | refine zg ?_ | refine zi ?_)
        all_goals conv => whnf
        refine ⟨i + 1, ⟨by omega, take_succ_eq hI hlt hb hc⟩, ?_, by omega⟩
        (conv => whnf); exact zent
      · rw [decide_eq_false (ne_of_get hlt hb hc)]
        by_cases hq : a[i].n = b[i].n ∧ a[i].d = b[i].d
        · rw [decide_eq_false (fun h => hc (Md.eq_iff.2 ⟨hq, h⟩))] at H
          repeat' ((conv => whnf); first | (with_reducible first | refine br_t ?_ | refine br_f ?_ | refine za ?_ | refine zg ?_ | refine zo ?_ | refine zb ?_ | refine zm ?_ | refine zc ?_ | refine ze ?_) | ((with_reducible refine bc_t ?_ ?_); (first | omega | decide)) | ((with_reducible refine bc_f ?_ ?_); (first | omega | decide)) | (with_reducible first | refine bc (fun h => ?_) (fun h => ?_) | refine zt ?_ | refine zf ?_ | refine br_i (fun h => ?_) (fun h => ?_) | refine xi (pv_bool fun _ => nev23 _ _ _ _ _ _ _) ?_) | refine zg ?_ | refine zi ?_)
          all_goals conv => whnf
          all_goals rfl
        · repeat' ((conv => whnf); first | (with_reducible first | refine br_t ?_ | refine br_f ?_ | refine za ?_ | refine zg ?_ | refine zo ?_ | refine zb ?_ | refine zm ?_ | refine zc ?_ | refine ze ?_) | ((with_reducible refine bc_t ?_ ?_); (first | omega | decide)) | ((with_reducible refine bc_f ?_ ?_); (first | omega | decide)) | (with_reducible first | refine bc (fun h => ?_) (fun h => ?_) | refine zt ?_ | refine zf ?_ | refine br_i (fun h => ?_) (fun h => ?_) | refine xi (pv_bool fun _ => nev23 _ _ _ _ _ _ _) ?_) | refine zg ?_ | refine zi ?_)
          all_goals conv => whnf
          all_goals rfl
    · rw [decide_eq_true (take_all_eq hI h0 hge)]
      repeat' ((conv => whnf); first | (with_reducible first | refine br_t ?_ | refine br_f ?_ | refine za ?_ | refine zg ?_ | refine zo ?_ | refine zb ?_ | refine zm ?_ | refine zc ?_ | refine ze ?_) | ((with_reducible refine bc_t ?_ ?_); (first | omega | decide)) | ((with_reducible refine bc_f ?_ ?_); (first | omega | decide)) | (with_reducible first | refine bc (fun h => ?_) (fun h => ?_) | refine zt ?_ | refine zf ?_ | refine br_i (fun h => ?_) (fun h => ?_) | refine xi (pv_bool fun _ => nev23 _ _ _ _ _ _ _) ?_) | refine zg ?_ | refine zi ?_)
      all_goals conv => whnf
      all_goals rfl
  · rw [decide_eq_false (fun h => h0 (congrArg List.length h))]
    repeat' ((conv => whnf); first | (with_reducible first | refine br_t ?_ | refine br_f ?_ | refine za ?_ | refine zg ?_ | refine zo ?_ | refine zb ?_ | refine zm ?_ | refine zc ?_ | refine ze ?_) | ((with_reducible refine bc_t ?_ ?_); (first | omega | decide)) | ((with_reducible refine bc_f ?_ ?_); (first | omega | decide)) | (with_reducible first | refine bc (fun h => ?_) (fun h => ?_) | refine zt ?_ | refine zf ?_ | refine br_i (fun h => ?_) (fun h => ?_) | refine xi (pv_bool fun _ => nev23 _ _ _ _ _ _ _) ?_) | refine zg ?_ | refine zi ?_)
    all_goals conv => whnf
    all_goals rfl
theorem rpSame_fn (p q : Pa) : FnOK Tryz.prog 48 [p.dc, q.dc] (.c (.one (bol (decide (p = q))))) := by
  refine fn_ok (by kernel_rfl) ty_ok Tryz.func48 rfl (fun _ _ => Tryz.call48 _ _) rfl ?_
  intro hw
  clear hw
  have H := rpSameMoments_fn p.ms q.ms
  rw [show decide (p = q) = decide ((p.n = q.n ∧ p.d = q.d) ∧ p.ms = q.ms) from decide_eq_decide.2 Pa.eq_iff]
  by_cases h : p.n = q.n ∧ p.d = q.d
  all_goals
    cases hz : decide (p.ms = q.ms)
    all_goals
      rw [hz] at H
      repeat' ((conv => whnf); first | (with_reducible first | refine br_t ?_ | refine br_f ?_ | refine za ?_ | refine zg ?_ | refine zo ?_ | refine zb ?_ | refine zm ?_ | refine zc ?_ | refine ze ?_) | ((with_reducible refine bc_t ?_ ?_); (first | omega | decide)) | ((with_reducible refine bc_f ?_ ?_); (first | omega | decide)) | (with_reducible first | refine bc (fun h => ?_) (fun h => ?_) | refine zt ?_ | refine zf ?_ | refine br_i (fun h => ?_) (fun h => ?_) | refine xi (pv_bool fun _ => eqv23 _ _ _ _ _ _ _) ?_) | refine zg ?_ | refine zi ?_)
      all_goals conv => whnf
      all_goals simp at hz
      all_goals simp [h, hz]
def gr32 (l : List Pt) : Bool := decide (16 < l.length ∧ l.length ≤ 64 ∨ 70 < l.length)
theorem r32Great_fn (l : List Pt) : FnOK Tryz.prog 45 [fld l] (.c (.one (bol (gr32 l)))) := by
  refine fn_ok (by kernel_rfl) ty_ok Tryz.func45 rfl (fun _ _ => Tryz.call45 _ _) rfl ?_
  intro hw
  simp only [WDCs, WDC, WDs] at hw
  obtain ⟨w1, w2⟩ := wd_pts hw.1.1
  unfold gr32
  repeat' ((conv => whnf); first | (with_reducible first | refine br_t ?_ | refine br_f ?_ | refine za ?_ | refine zg ?_ | refine zo ?_ | refine zb ?_ | refine zm ?_ | refine zc ?_ | refine ze ?_) | rw [List.length_map] | ((with_reducible refine bc_t ?_ ?_); (first | omega | decide)) | ((with_reducible refine bc_f ?_ ?_); (first | omega | decide)) | (with_reducible first | refine bc (fun h => ?_) (fun h => ?_) | refine zt ?_ | refine zf ?_ | refine br_i (fun h => ?_) (fun h => ?_)) | refine zg ?_ | refine zi ?_)
  all_goals conv => whnf
  all_goals
    refine r_bool ?_
    first
    | rfl
    | (simp only [decide_eq_decide, Bool.true_eq, Bool.false_eq, decide_eq_true_eq, decide_eq_false_iff_not]; omega)
    | (rw [eq_comm]; simp only [decide_eq_decide, decide_eq_true_eq, decide_eq_false_iff_not]; omega)
theorem gr32_len {l : List Pt} (h : gr32 l = false) : l.length ≤ 70 := by
  have := of_decide_eq_false h
  omega
def pgreat (p : Pa) : Bool := (p.ms.take 46).any (fun m => gr32 m.l) || decide (45 < p.ms.length)
theorem any_take_succ {l : List Md} {f : Md → Bool} {i : Nat} (h : i < l.length) : (l.take (i + 1)).any f = ((l.take i).any f || f l[i]) := by
  rw [List.take_succ_eq_append_getElem h, List.any_append]; simp
theorem any_take_mono {l : List Md} {f : Md → Bool} {i j : Nat} (hij : i ≤ j) (h : (l.take i).any f = true) : (l.take j).any f = true := by
  rw [List.any_eq_true] at *
  obtain ⟨x, hx, hf⟩ := h
  exact ⟨x, List.take_subset_take_left l hij hx, hf⟩
theorem rpGreat_fn (p : Pa) : FnOK Tryz.prog 50 [p.dc] (.c (.one (bol (pgreat p)))) := by
  obtain ⟨n, d, l⟩ := p
  show FnOK _ _ [.agg [i64 n, i64 d, mos l]] _
  refine fn_ok (by kernel_rfl) ty_ok Tryz.func50 rfl (fun _ _ => Tryz.call50 _ _) rfl ?_
  intro hw
  simp only [WDCs, WDC, WDs] at hw
  have w1 := wd_mos hw.1.2.2.1
  clear hw
  have hln : (l.map Md.c).length = l.length := List.length_map ..
  unfold pgreat
  simp only
  repeat' ((conv => whnf); first | (with_reducible first | refine br_t ?_ | refine br_f ?_ | refine za ?_ | refine zg ?_ | refine zo ?_ | refine zb ?_ | refine zm ?_ | refine zc ?_ | refine ze ?_) | ((with_reducible refine bc_t ?_ ?_); (first | omega | decide)) | ((with_reducible refine bc_f ?_ ?_); (first | omega | decide)) | (with_reducible first | refine bc (fun h => ?_) (fun h => ?_) | refine zt ?_ | refine zf ?_ | refine br_i (fun h => ?_) (fun h => ?_)) | refine zg ?_ | refine zi ?_)
  refine loop_J (by kernel_rfl) ty_ok (σ := Nat) (fun i => [(3, sV (.int .i64 i))]) (fun _ => []) (fun i => i ≤ l.length ∧ i ≤ 46 ∧ (l.take i).any (fun m => gr32 m.l) = false) (fun i => l.length - i) 0 ⟨by omega, by omega, rfl⟩ ?_ ?_
  · (conv => whnf); exact zent
  rintro i ⟨hi, hi2, hI⟩
  by_cases hlt : i < l.length ∧ i ≤ 45
  · obtain ⟨hlt, h45⟩ := hlt
    have he1 := mos_get hlt
    have H := r32Great_fn l[i].l
    cases hg : gr32 l[i].l
    · rw [hg] at H
      repeat' ((conv => whnf); first | (with_reducible first | refine br_t ?_ | refine br_f ?_ | refine za ?_ | refine zg ?_ | refine zo ?_ | refine zb ?_ | refine zm ?_ | refine zc ?_ | refine ze ?_) | ((with_reducible refine bc_t ?_ ?_); (first | omega | decide)) | ((with_reducible refine bc_f ?_ ?_); (first | omega | decide)) | (with_reducible first | refine bc (fun h => ?_) (fun h => ?_) | refine zt ?_ | refine zf ?_ | refine br_i (fun h => ?_) (fun h => ?_)) | refine zg ?_ | refine zi ?_)
      all_goals conv => whnf
      refine ⟨i + 1, ⟨by omega, by omega, by rw [any_take_succ hlt, hI, hg]; rfl⟩, ?_, by omega⟩
      (conv => whnf); exact zent
    · rw [hg] at H
      have : (l.take 46).any (fun m => gr32 m.l) = true := any_take_mono (i := i + 1) (by omega) (by rw [any_take_succ hlt, hI, hg]; rfl)
      rw [this]
      exact zw
  · have : (l.take 46).any (fun m => gr32 m.l) = false := by
      rcases Nat.lt_or_ge i l.length with h | h
      · have : i = 46 := by omega
        subst this; exact hI
      · rw [List.take_of_length_le (by omega)]; rw [List.take_of_length_le h] at hI; exact hI
    rw [this, Bool.false_or]
    rcases (show l.length ≤ i ∨ i < l.length ∧ 45 < i by omega) with h1 | ⟨h1, h2⟩
    all_goals
      repeat' ((conv => whnf); first | (with_reducible first | refine br_t ?_ | refine br_f ?_ | refine za ?_ | refine zg ?_ | refine zo ?_ | refine zb ?_ | refine zm ?_ | refine zc ?_ | refine ze ?_) | ((with_reducible refine bc_t ?_ ?_); (first | omega | decide)) | ((with_reducible refine bc_f ?_ ?_); (first | omega | decide)) | (with_reducible first | refine bc (fun h => ?_) (fun h => ?_) | refine zt ?_ | refine zf ?_ | refine br_i (fun h => ?_) (fun h => ?_)) | refine zg ?_ | refine zi ?_)
      all_goals conv => whnf
      all_goals
        refine r_bool ?_
        simp only [hln, decide_eq_decide, gt_iff_lt]
        omega
set_option maxHeartbeats 1000000 in
theorem rpTwin_own (p : Pa) (h1 : p.ms.length ≤ 1000000) (h2 : ∀ m ∈ p.ms, m.l.length ≤ 1000000) : FnOwn Tryz.prog 131 [p.dc] ⟨.c p.dc, 0, 2, 3, p.ms.map Md.c⟩ := by
  obtain ⟨n, d, l⟩ := p
  show FnOwn _ _ [.agg [i64 n, i64 d, mos l]] ⟨.c (.agg [i64 n, i64 d, mos l]), 0, 2, 3, l.map Md.c⟩
  simp only at h1 h2
  refine fn_own (by kernel_rfl) (ty_okK [32] [] [] []) Tryz.func131 rfl (fun _ _ => Tryz.call131 _ _) rfl ?_
  intro hw
  clear hw
  have hln : (l.map Md.c).length = l.length := List.length_map ..
  repeat' ((conv => whnf); first | (with_reducible first | refine br_t ?_ | refine br_f ?_ | refine za ?_ | refine zg ?_ | refine zo ?_ | refine zb ?_ | refine zm ?_ | refine zc ?_ | refine ze ?_) | ((with_reducible refine bc_t ?_ ?_); (first | omega | decide)) | ((with_reducible refine bc_f ?_ ?_); (first | omega | decide)) | (with_reducible first | refine bc (fun h => ?_) (fun h => ?_) | refine zt ?_ | refine zf ?_ | refine br_i (fun h => ?_) (fun h => ?_)) | refine zg ?_ | refine zi ?_)
  refine loop_nameH 3 2 100 rfl rfl rfl ?_
  refine loop_J (by kernel_rfl) (ty_okK [32] [] [] []) (σ := Nat) (fun i => [(4, sV (.int .i64 i))]) (fun i => [(3, .own [.d (i64 n), .d (i64 d), .osl 100 0]), (100, .row 3 ((l.take i).map Md.c) 0)]) (fun i => i ≤ l.length) (fun i => l.length - i) 0 (Nat.zero_le _) ?_ ?_
  · (conv => whnf); exact zent
  intro i hi
  rcases Nat.lt_or_ge i l.length with hlt | hge
  · have he1 := mos_get hlt
    have H := rfTwin_fn l[i].l (h2 _ (List.getElem_mem hlt))
    have ha : (l.take i).map Md.c ++ [l[i].mo] = (l.take (i + 1)).map Md.c := by
      rw [List.take_succ_eq_append_getElem hlt, List.map_append]; rfl
    have hlt2 : ((l.take i).map Md.c).length = i := by simp; omega
    repeat' ((conv => whnf); first | (with_reducible first | refine br_t ?_ | refine br_f ?_ | refine za ?_ | refine zg ?_ | refine zo ?_ | refine zb ?_ | refine zm ?_ | refine zc ?_ | refine ze ?_) | ((with_reducible refine bc_t ?_ ?_); (first | omega | decide)) | ((with_reducible refine bc_f ?_ ?_); (first | omega | decide)) | (with_reducible first | refine bc (fun h => ?_) (fun h => ?_) | refine zt ?_ | refine zf ?_ | refine br_i (fun h => ?_) (fun h => ?_)) | refine zg ?_ | refine zi ?_)
    all_goals conv => whnf
    refine ⟨i + 1, by omega, ?_, by omega⟩
    (conv => whnf); refine ⟨by repeat' (first | with_reducible exact zE0 | with_reducible refine zE1 ?_ ?_ | rfl | assumption | (exact congrArg (fun x => some (Blk.row 3 x 0)) ha) | (refine ent_i ?_; (first | omega | (rw [IntWalk.i64_in _ (by omega)]; omega) | (simp; done))) | (refine ent_b ?_; (first | omega | (rw [IntWalk.i64_in _ (by omega)]; omega) | (simp; done)))), by repeat' (first | with_reducible exact zH0 | with_reducible refine zH1 ?_ ?_ | rfl | assumption | (exact congrArg (fun x => some (Blk.row 3 x 0)) ha)), rfl⟩
  · rw [List.take_of_length_le hge]
    repeat' ((conv => whnf); first | (with_reducible first | refine br_t ?_ | refine br_f ?_ | refine za ?_ | refine zg ?_ | refine zo ?_ | refine zb ?_ | refine zm ?_ | refine zc ?_ | refine ze ?_) | ((with_reducible refine bc_t ?_ ?_); (first | omega | decide)) | ((with_reducible refine bc_f ?_ ?_); (first | omega | decide)) | (with_reducible first | refine bc (fun h => ?_) (fun h => ?_) | refine zt ?_ | refine zf ?_ | refine br_i (fun h => ?_) (fun h => ?_)) | refine zg ?_ | refine zi ?_)
    all_goals conv => whnf
    exact .inl ⟨100, 0, _, rfl, rfl, rfl⟩
end Go.Proofs.YtnhljlihchegjaaGreat

/- The past: New and Go. No conditions. -/
namespace Go.Proofs.YtnhljlihchegjaaGreat
open Go.RowKit Go.Sort Sx
abbrev retP (x : Pa × Int) : DV := .tup [x.1.dc, .one (i64 x.2)]
def pNewV (m : Md) : Pa × Int := if mchk m = 0 then (⟨m.n, m.d, [m]⟩, 0) else (⟨0, 0, []⟩, 8)
theorem mchk_len {m : Md} (h : mchk m = 0) : m.l.length ≤ 64 := (fchk_ok (mchk_ok h).2).1
theorem pNew_fn (m : Md) : FnOK Tryz.prog 61 [m.dc] (retP (pNewV m)) := by
  refine fn_ok (by kernel_rfl) ty_ok Tryz.func61 rfl (fun _ _ => Tryz.call61 _ _) rfl ?_
  intro hw
  clear hw
  have H := oCheck_fn m
  unfold pNewV
  by_cases h : mchk m = 0
  · rw [if_pos h]
    rw [h] at H
    have H2 := pcopied_fn m.l (by have := mchk_len h; omega)
    exact zw
  · rw [if_neg h]
    have h8 : mchk m = 8 := (mchk_08 m).resolve_left h
    rw [h8] at H
    exact zw
theorem rpNew_fn (m : Md) : FnOK Tryz.prog 93 [m.dc] (retP (pNewV m)) := by
  refine fn_ok (by kernel_rfl) ty_ok Tryz.func93 rfl (fun _ _ => Tryz.call93 _ _) rfl ?_
  intro hw
  clear hw
  have H := roCheck_fn m
  unfold pNewV
  by_cases h : mchk m = 0
  · rw [if_pos h]
    rw [h] at H
    have H2 := rfTwin_fn m.l (by have := mchk_len h; omega)
    exact zw
  · rw [if_neg h]
    have h8 : mchk m = 8 := (mchk_08 m).resolve_left h
    rw [h8] at H
    exact zw
def Pa.last (p : Pa) : Md := p.ms[p.ms.length - 1]?.getD default
def pGoV (p : Pa) (m : Md) : Pa × Int :=
  if pchk p = 0 then (if mchk m = 0 then (if m.n * p.d < p.n * m.d then (⟨0, 0, []⟩, 44) else
    if p.last.l = m.l then (⟨m.n, m.d, p.ms⟩, 0) else if p.last.n = m.n ∧ p.last.d = m.d then (⟨m.n, m.d, p.ms.set (p.ms.length - 1) m⟩, 0) else if p.ms.length = 40 then (⟨0, 0, []⟩, 18) else (⟨m.n, m.d, p.ms ++ [m]⟩, 0))
    else (⟨0, 0, []⟩, 8)) else (⟨0, 0, []⟩, 8)
theorem pchk_ok {p : Pa} (h : pchk p = 0) : 1 ≤ p.ms.length ∧ p.ms.length ≤ 40 ∧ askd p.n p.d = 0 ∧ pgo p.n p.d p.ms = true ∧ ∀ m ∈ p.ms, mchk m = 0 := by
  unfold pchk at h
  split at h
  · rename_i h1
    obtain ⟨h1, h2, h3, h4⟩ := h1
    have := (pgo_iff (n := p.n) (d := p.d) (l := p.ms) (i := 0) rfl (by omega)).1 (by rw [List.drop_zero]; exact h4)
    refine ⟨h1, h2, h3, h4, fun m hm => ?_⟩
    obtain ⟨i, hi, rfl⟩ := List.getElem_of_mem hm
    exact this.1 i hi (Nat.zero_le _)
  · omega
set_option maxHeartbeats 4000000 in
theorem pGo_fn (p : Pa) (m : Md) : FnOK Tryz.prog 52 [p.dc, m.dc] (retP (pGoV p m)) := by
  have H1 := pCheck_fn p
  have H2 := oCheck_fn m
  unfold pGoV
  by_cases h1 : pchk p = 0
  · rw [if_pos h1]
    rw [h1] at H1
    by_cases h2 : mchk m = 0
    · rw [if_pos h2]
      rw [h2] at H2
      obtain ⟨k1, k2, k3, k4, k5⟩ := pchk_ok h1
      have H3 := cmp_chk (askd_chk (mchk_ok h2).1) (askd_chk k3)
      by_cases h3 : m.n * p.d < p.n * m.d
      · rw [if_pos h3]
        have e3 : cmpN (m.n * p.d) (p.n * m.d) = -1 := if_pos h3
        rw [e3] at H3
        refine fn_ok (by kernel_rfl) ty_ok Tryz.func52 rfl (fun _ _ => Tryz.call52 _ _) rfl ?_
        intro hw
        clear hw h3 e3
        repeat' ((conv => whnf); first | (with_reducible first | refine br_t ?_ | refine br_f ?_ | refine za ?_ | refine zg ?_ | refine zo ?_ | refine zb ?_ | refine zm ?_ | refine zc ?_ | refine ze ?_) | ((with_reducible refine bc_t ?_ ?_); (first | omega | decide)) | ((with_reducible refine bc_f ?_ ?_); (first | omega | decide)) | (with_reducible first | refine bc (fun h => ?_) (fun h => ?_) | refine zt ?_ | refine zf ?_ | refine br_i (fun h => ?_) (fun h => ?_) | refine xi (pv_bool fun _ => eqv23 _ _ _ _ _ _ _) ?_) | refine zg ?_ | refine zi ?_)
        all_goals conv => whnf
        all_goals rfl
      · rw [if_neg h3]
        have e3 : 0 ≤ cmpN (m.n * p.d) (p.n * m.d) := by unfold cmpN; rw [if_neg h3]; split <;> omega
        generalize cmpN (m.n * p.d) (p.n * m.d) = z at H3 e3
        clear h3 h1
        obtain ⟨n, d, l⟩ := p
        have k5 : ∀ m ∈ l, mchk m = 0 := k5
        have hln : (l.map Md.c).length = l.length := List.length_map ..
        simp only at k1 k2
        have hlast : (⟨n, d, l⟩ : Pa).last = l[l.length - 1] := by unfold Pa.last; simp only; rw [List.getElem?_eq_getElem (by omega)]; rfl
        rw [hlast]
        have H4 := pcopied_fn m.l (by have := mchk_len h2; omega)
        have H5 := psame_fn l[l.length - 1].l m.l
        have ew : IntKind.i64.wrap ((l.length : Int) - 1) = ((l.length - 1 : Nat) : Int) := by rw [IntWalk.i64_in _ (by omega)]; omega
        show FnOK _ _ [.agg [i64 n, i64 d, mos l], .agg [i64 m.n, i64 m.d, pts m.l]] _
        simp only [Md.dc, Pa.dc] at H1 H2
        refine fn_ok (by kernel_rfl) (ty_okK [56, 75] [] [] []) Tryz.func52 rfl (fun _ _ => Tryz.call52 _ _) rfl ?_
        intro hw
        clear hw
        repeat' ((conv => whnf); first | (with_reducible first | refine br_t ?_ | refine br_f ?_ | refine za ?_ | refine zg ?_ | refine zo ?_ | refine zb ?_ | refine zm ?_ | refine zc ?_ | refine ze ?_) | ((with_reducible refine bc_t ?_ ?_); (first | omega | decide)) | ((with_reducible refine bc_f ?_ ?_); (first | omega | decide)) | (with_reducible first | refine bc (fun h => ?_) (fun h => ?_) | refine zt ?_ | refine zf ?_ | refine br_i (fun h => ?_) (fun h => ?_) | refine xi (pv_bool fun _ => eqv23 _ _ _ _ _ _ _) ?_) | refine zg ?_ | refine zi ?_)
        refine loop_nameH 10 2 100 rfl rfl rfl ?_
        refine loop_J (by kernel_rfl) (ty_okK [56, 75] [] [] []) (σ := Nat) (fun i => [(43, sV (.int .i64 i))]) (fun i => [(10, .own [.d (i64 m.n), .d (i64 m.d), .osl 100 0]), (100, .row 3 ((l.take i).map Md.c) 0)]) (fun i => i ≤ l.length) (fun i => l.length - i) 0 (Nat.zero_le _) ?_ ?_
        · (conv => whnf); exact zent
        intro i hi
        rcases Nat.lt_or_ge i l.length with hlt | hge
        · have he1 := mos_get hlt
          have H := pcopied_fn l[i].l (by have := mchk_len (k5 _ (List.getElem_mem hlt)); omega)
          have ha : (l.take i).map Md.c ++ [l[i].mo] = (l.take (i + 1)).map Md.c := by
            rw [List.take_succ_eq_append_getElem hlt, List.map_append]; rfl
          have hlt2 : ((l.take i).map Md.c).length = i := by simp; omega
          repeat' ((conv => whnf); first | (with_reducible first | refine br_t ?_ | refine br_f ?_ | refine za ?_ | refine zg ?_ | refine zo ?_ | refine zb ?_ | refine zm ?_ | refine zc ?_ | refine ze ?_) | ((with_reducible refine bc_t ?_ ?_); (first | omega | decide)) | ((with_reducible refine bc_f ?_ ?_); (first | omega | decide)) | (with_reducible first | refine bc (fun h => ?_) (fun h => ?_) | refine zt ?_ | refine zf ?_ | refine br_i (fun h => ?_) (fun h => ?_) | refine xi (pv_bool fun _ => eqv23 _ _ _ _ _ _ _) ?_) | refine zg ?_ | refine zi ?_)
          all_goals conv => whnf
          refine ⟨i + 1, by omega, ?_, by omega⟩
          (conv => whnf); refine ⟨by repeat' (first | with_reducible exact zE0 | with_reducible refine zE1 ?_ ?_ | rfl | assumption | (exact congrArg (fun x => some (Blk.row 3 x 0)) ha) | (refine ent_i ?_; (first | omega | (rw [IntWalk.i64_in _ (by omega)]; omega) | (simp; done))) | (refine ent_b ?_; (first | omega | (rw [IntWalk.i64_in _ (by omega)]; omega) | (simp; done)))), by repeat' (first | with_reducible exact zH0 | with_reducible refine zH1 ?_ ?_ | rfl | assumption | (exact congrArg (fun x => some (Blk.row 3 x 0)) ha)), rfl⟩
        · rw [List.take_of_length_le hge]
          have hl1 : l.length - 1 < l.length := by omega
          have he1 := mos_get' (l := l) (i := l.length - 1) (j := IntKind.i64.wrap ((l.length : Int) - 1)) hl1 (by rw [ew]; omega)
          by_cases c1 : l[l.length - 1].l = m.l
          · rw [decide_eq_true c1] at H5
            rw [if_pos c1]
            clear c1
            repeat' ((conv => whnf); first | (with_reducible first | refine br_t ?_ | refine br_f ?_ | refine za ?_ | refine zg ?_ | refine zo ?_ | refine zb ?_ | refine zm ?_ | refine zc ?_ | refine ze ?_) | rw [hln] | ((with_reducible refine bc_t ?_ ?_); (first | omega | decide)) | ((with_reducible refine bc_f ?_ ?_); (first | omega | decide)) | (with_reducible first | refine bc (fun h => ?_) (fun h => ?_) | refine zt ?_ | refine zf ?_ | refine br_i (fun h => ?_) (fun h => ?_) | refine xi (pv_bool fun _ => eqv23 _ _ _ _ _ _ _) ?_) | refine zg ?_ | refine zi ?_)
            all_goals conv => whnf
            all_goals rfl
          · rw [decide_eq_false c1] at H5
            rw [if_neg c1]
            clear c1
            by_cases c2 : l[l.length - 1].n = m.n ∧ l[l.length - 1].d = m.d
            · rw [if_pos c2]
              have hset : (l.map Md.c).set (IntKind.i64.wrap ((l.length : Int) - 1)).toNat [i64 l[l.length - 1].n, i64 l[l.length - 1].d, pts m.l] = (l.set (l.length - 1) m).map Md.c := by
                rw [ew, Int.toNat_natCast, List.map_set, c2.1, c2.2]; rfl
              repeat' ((conv => whnf); first | (with_reducible first | refine br_t ?_ | refine br_f ?_ | refine za ?_ | refine zg ?_ | refine zo ?_ | refine zb ?_ | refine zm ?_ | refine zc ?_ | refine ze ?_) | rw [hln] | ((with_reducible refine bc_t ?_ ?_); (first | omega | decide)) | ((with_reducible refine bc_f ?_ ?_); (first | omega | decide)) | (with_reducible first | refine bc (fun h => ?_) (fun h => ?_) | refine zt ?_ | refine zf ?_ | refine br_i (fun h => ?_) (fun h => ?_) | refine xi (pv_bool fun _ => eqv23 _ _ _ _ _ _ _) ?_) | refine zg ?_ | refine zi ?_)
              all_goals conv => whnf
              all_goals exact congrArg (fun x => DV.tup [.agg [i64 m.n, i64 m.d, .list 3 x], .one (i64 0)]) hset
            · rw [if_neg c2]
              by_cases c3 : l.length = 40
              · rw [if_pos c3]
                repeat' ((conv => whnf); first | (with_reducible first | refine br_t ?_ | refine br_f ?_ | refine za ?_ | refine zg ?_ | refine zo ?_ | refine zb ?_ | refine zm ?_ | refine zc ?_ | refine ze ?_) | rw [hln] | ((with_reducible refine bc_t ?_ ?_); (first | omega | decide)) | ((with_reducible refine bc_f ?_ ?_); (first | omega | decide)) | (with_reducible first | refine bc (fun h => ?_) (fun h => ?_) | refine zt ?_ | refine zf ?_ | refine br_i (fun h => ?_) (fun h => ?_) | refine xi (pv_bool fun _ => eqv23 _ _ _ _ _ _ _) ?_) | refine zg ?_ | refine zi ?_)
                all_goals conv => whnf
                all_goals rfl
              · rw [if_neg c3]
                have ha : l.map Md.c ++ [m.mo] = (l ++ [m]).map Md.c := by rw [List.map_append]; rfl
                repeat' ((conv => whnf); first | (with_reducible first | refine br_t ?_ | refine br_f ?_ | refine za ?_ | refine zg ?_ | refine zo ?_ | refine zb ?_ | refine zm ?_ | refine zc ?_ | refine ze ?_) | rw [hln] | ((with_reducible refine bc_t ?_ ?_); (first | omega | decide)) | ((with_reducible refine bc_f ?_ ?_); (first | omega | decide)) | (with_reducible first | refine bc (fun h => ?_) (fun h => ?_) | refine zt ?_ | refine zf ?_ | refine br_i (fun h => ?_) (fun h => ?_) | refine xi (pv_bool fun _ => eqv23 _ _ _ _ _ _ _) ?_) | refine zg ?_ | refine zi ?_)
                all_goals conv => whnf
                all_goals exact congrArg (fun x => DV.tup [.agg [i64 m.n, i64 m.d, .list 3 x], .one (i64 0)]) ha
    · rw [if_neg h2]
      have h8 : mchk m = 8 := (mchk_08 m).resolve_left h2
      rw [h8] at H2
      refine fn_ok (by kernel_rfl) ty_ok Tryz.func52 rfl (fun _ _ => Tryz.call52 _ _) rfl ?_
      intro hw
      clear hw
      repeat' ((conv => whnf); first | (with_reducible first | refine br_t ?_ | refine br_f ?_ | refine za ?_ | refine zg ?_ | refine zo ?_ | refine zb ?_ | refine zm ?_ | refine zc ?_ | refine ze ?_) | ((with_reducible refine bc_t ?_ ?_); (first | omega | decide)) | ((with_reducible refine bc_f ?_ ?_); (first | omega | decide)) | (with_reducible first | refine bc (fun h => ?_) (fun h => ?_) | refine zt ?_ | refine zf ?_ | refine br_i (fun h => ?_) (fun h => ?_) | refine xi (pv_bool fun _ => eqv23 _ _ _ _ _ _ _) ?_) | refine zg ?_ | refine zi ?_)
      all_goals conv => whnf
      all_goals rfl
  · rw [if_neg h1]
    have h8 : pchk p = 8 := (pchk_08 p).resolve_left h1
    rw [h8] at H1
    refine fn_ok (by kernel_rfl) ty_ok Tryz.func52 rfl (fun _ _ => Tryz.call52 _ _) rfl ?_
    intro hw
    clear hw
    repeat' ((conv => whnf); first | (with_reducible first | refine br_t ?_ | refine br_f ?_ | refine za ?_ | refine zg ?_ | refine zo ?_ | refine zb ?_ | refine zm ?_ | refine zc ?_ | refine ze ?_) | ((with_reducible refine bc_t ?_ ?_); (first | omega | decide)) | ((with_reducible refine bc_f ?_ ?_); (first | omega | decide)) | (with_reducible first | refine bc (fun h => ?_) (fun h => ?_) | refine zt ?_ | refine zf ?_ | refine br_i (fun h => ?_) (fun h => ?_) | refine xi (pv_bool fun _ => eqv23 _ _ _ _ _ _ _) ?_) | refine zg ?_ | refine zi ?_)
    all_goals conv => whnf
    all_goals rfl
set_option maxHeartbeats 4000000 in
theorem rpGo_fn (p : Pa) (m : Md) : FnOK Tryz.prog 94 [p.dc, m.dc] (retP (pGoV p m)) := by
  have H1 := rpCheck_fn p
  have H2 := roCheck_fn m
  unfold pGoV
  by_cases h1 : pchk p = 0
  · rw [if_pos h1]
    rw [h1] at H1
    by_cases h2 : mchk m = 0
    · rw [if_pos h2]
      rw [h2] at H2
      obtain ⟨k1, k2, k3, k4, k5⟩ := pchk_ok h1
      have H3 := rcompare_fn m.n m.d p.n p.d
      by_cases h3 : m.n * p.d < p.n * m.d
      · rw [if_pos h3]
        have e3 : cmpN (m.n * p.d) (p.n * m.d) = -1 := if_pos h3
        rw [e3] at H3
        refine fn_ok (by kernel_rfl) ty_ok Tryz.func94 rfl (fun _ _ => Tryz.call94 _ _) rfl ?_
        intro hw
        clear hw h3 e3
        repeat' ((conv => whnf); first | (with_reducible first | refine br_t ?_ | refine br_f ?_ | refine za ?_ | refine zg ?_ | refine zo ?_ | refine zb ?_ | refine zm ?_ | refine zc ?_ | refine ze ?_) | ((with_reducible refine bc_t ?_ ?_); (first | omega | decide)) | ((with_reducible refine bc_f ?_ ?_); (first | omega | decide)) | (with_reducible first | refine bc (fun h => ?_) (fun h => ?_) | refine zt ?_ | refine zf ?_ | refine br_i (fun h => ?_) (fun h => ?_) | refine xi (pv_bool fun _ => eqv23 _ _ _ _ _ _ _) ?_) | refine zg ?_ | refine zi ?_)
        all_goals conv => whnf
        all_goals rfl
      · rw [if_neg h3]
        have e3 : 0 ≤ cmpN (m.n * p.d) (p.n * m.d) := by unfold cmpN; rw [if_neg h3]; split <;> omega
        generalize cmpN (m.n * p.d) (p.n * m.d) = z at H3 e3
        have HT := rpTwin_own p (by omega) (fun x hx => by have := mchk_len (k5 x hx); omega)
        clear h3 h1
        obtain ⟨n, d, l⟩ := p
        have k5 : ∀ m ∈ l, mchk m = 0 := k5
        have hln : (l.map Md.c).length = l.length := List.length_map ..
        simp only at k1 k2
        have hlast : (⟨n, d, l⟩ : Pa).last = l[l.length - 1] := by unfold Pa.last; simp only; rw [List.getElem?_eq_getElem (by omega)]; rfl
        rw [hlast]
        have H4 := rfTwin_fn m.l (by have := mchk_len h2; omega)
        have H5 := rfSame_fn l[l.length - 1].l m.l
        have ew : IntKind.i64.wrap ((l.length : Int) - 1) = ((l.length - 1 : Nat) : Int) := by rw [IntWalk.i64_in _ (by omega)]; omega
        have hl1 : l.length - 1 < l.length := by omega
        have he1 := mos_get' (l := l) (i := l.length - 1) (j := IntKind.i64.wrap ((l.length : Int) - 1)) hl1 (by rw [ew]; omega)
        have he2 := mos_get (l := l) (i := l.length - 1) hl1
        show FnOK _ _ [.agg [i64 n, i64 d, mos l], .agg [i64 m.n, i64 m.d, pts m.l]] _
        simp only [Md.dc, Pa.dc] at H1 H2 HT
        by_cases c1 : l[l.length - 1].l = m.l
        · rw [decide_eq_true c1] at H5
          rw [if_pos c1]
          refine fn_ok (by kernel_rfl) (ty_okK [30, 78] [] [] []) Tryz.func94 rfl (fun _ _ => Tryz.call94 _ _) rfl ?_
          intro hw
          clear hw c1
          repeat' ((conv => whnf); first | (with_reducible first | refine br_t ?_ | refine br_f ?_ | refine za ?_ | refine zg ?_ | refine zo ?_ | refine zb ?_ | refine zm ?_ | refine zc ?_ | refine ze ?_) | rw [hln] | ((with_reducible refine bc_t ?_ ?_); (first | omega | decide)) | ((with_reducible refine bc_f ?_ ?_); (first | omega | decide)) | (with_reducible first | refine bc (fun h => ?_) (fun h => ?_) | refine zt ?_ | refine zf ?_ | refine br_i (fun h => ?_) (fun h => ?_) | refine xi (pv_bool fun _ => eqv23 _ _ _ _ _ _ _) ?_) | refine zg ?_ | refine zi ?_)
          all_goals conv => whnf
          all_goals rfl
        · rw [decide_eq_false c1] at H5
          rw [if_neg c1]
          clear c1
          by_cases c2 : l[l.length - 1].n = m.n ∧ l[l.length - 1].d = m.d
          · rw [if_pos c2]
            have hset : (l.map Md.c).set (IntKind.i64.wrap ((l.length : Int) - 1)).toNat [i64 m.n, i64 m.d, pts m.l] = (l.set (l.length - 1) m).map Md.c := by
              rw [ew, Int.toNat_natCast, List.map_set]; rfl
            refine fn_ok (by kernel_rfl) (ty_okK [30, 78] [] [] []) Tryz.func94 rfl (fun _ _ => Tryz.call94 _ _) rfl ?_
            intro hw
            clear hw
            repeat' ((conv => whnf); first | (with_reducible first | refine br_t ?_ | refine br_f ?_ | refine za ?_ | refine zg ?_ | refine zo ?_ | refine zb ?_ | refine zm ?_ | refine zc ?_ | refine ze ?_) | rw [hln] | ((with_reducible refine bc_t ?_ ?_); (first | omega | decide)) | ((with_reducible refine bc_f ?_ ?_); (first | omega | decide)) | (with_reducible first | refine bc (fun h => ?_) (fun h => ?_) | refine zt ?_ | refine zf ?_ | refine br_i (fun h => ?_) (fun h => ?_) | refine xi (pv_bool fun _ => eqv23 _ _ _ _ _ _ _) ?_) | refine zg ?_ | refine zi ?_)
            all_goals conv => whnf
            all_goals exact congrArg (fun x => DV.tup [.agg [i64 m.n, i64 m.d, .list 3 x], .one (i64 0)]) hset
          · rw [if_neg c2]
            by_cases c3 : l.length = 40
            · rw [if_pos c3]
              refine fn_ok (by kernel_rfl) (ty_okK [30, 78] [] [] []) Tryz.func94 rfl (fun _ _ => Tryz.call94 _ _) rfl ?_
              intro hw
              clear hw
              repeat' ((conv => whnf); first | (with_reducible first | refine br_t ?_ | refine br_f ?_ | refine za ?_ | refine zg ?_ | refine zo ?_ | refine zb ?_ | refine zm ?_ | refine zc ?_ | refine ze ?_) | rw [hln] | ((with_reducible refine bc_t ?_ ?_); (first | omega | decide)) | ((with_reducible refine bc_f ?_ ?_); (first | omega | decide)) | (with_reducible first | refine bc (fun h => ?_) (fun h => ?_) | refine zt ?_ | refine zf ?_ | refine br_i (fun h => ?_) (fun h => ?_) | refine xi (pv_bool fun _ => eqv23 _ _ _ _ _ _ _) ?_) | refine zg ?_ | refine zi ?_)
              all_goals conv => whnf
              all_goals rfl
            · rw [if_neg c3]
              have ha : l.map Md.c ++ [m.mo] = (l ++ [m]).map Md.c := by rw [List.map_append]; rfl
              refine fn_ok (by kernel_rfl) (ty_okK [30, 78] [] [] []) Tryz.func94 rfl (fun _ _ => Tryz.call94 _ _) rfl ?_
              intro hw
              clear hw
              repeat' ((conv => whnf); first | (with_reducible first | refine br_t ?_ | refine br_f ?_ | refine za ?_ | refine zg ?_ | refine zo ?_ | refine zb ?_ | refine zm ?_ | refine zc ?_ | refine ze ?_) | rw [hln] | ((with_reducible refine bc_t ?_ ?_); (first | omega | decide)) | ((with_reducible refine bc_f ?_ ?_); (first | omega | decide)) | (with_reducible first | refine bc (fun h => ?_) (fun h => ?_) | refine zt ?_ | refine zf ?_ | refine br_i (fun h => ?_) (fun h => ?_) | refine xi (pv_bool fun _ => eqv23 _ _ _ _ _ _ _) ?_) | refine zg ?_ | refine zi ?_)
              all_goals conv => whnf
              all_goals exact congrArg (fun x => DV.tup [.agg [i64 m.n, i64 m.d, .list 3 x], .one (i64 0)]) ha
    · rw [if_neg h2]
      have h8 : mchk m = 8 := (mchk_08 m).resolve_left h2
      rw [h8] at H2
      refine fn_ok (by kernel_rfl) ty_ok Tryz.func94 rfl (fun _ _ => Tryz.call94 _ _) rfl ?_
      intro hw
      clear hw
      repeat' ((conv => whnf); first | (with_reducible first | refine br_t ?_ | refine br_f ?_ | refine za ?_ | refine zg ?_ | refine zo ?_ | refine zb ?_ | refine zm ?_ | refine zc ?_ | refine ze ?_) | ((with_reducible refine bc_t ?_ ?_); (first | omega | decide)) | ((with_reducible refine bc_f ?_ ?_); (first | omega | decide)) | (with_reducible first | refine bc (fun h => ?_) (fun h => ?_) | refine zt ?_ | refine zf ?_ | refine br_i (fun h => ?_) (fun h => ?_) | refine xi (pv_bool fun _ => eqv23 _ _ _ _ _ _ _) ?_) | refine zg ?_ | refine zi ?_)
      all_goals conv => whnf
      all_goals rfl
  · rw [if_neg h1]
    have h8 : pchk p = 8 := (pchk_08 p).resolve_left h1
    rw [h8] at H1
    refine fn_ok (by kernel_rfl) ty_ok Tryz.func94 rfl (fun _ _ => Tryz.call94 _ _) rfl ?_
    intro hw
    clear hw
    repeat' ((conv => whnf); first | (with_reducible first | refine br_t ?_ | refine br_f ?_ | refine za ?_ | refine zg ?_ | refine zo ?_ | refine zb ?_ | refine zm ?_ | refine zc ?_ | refine ze ?_) | ((with_reducible refine bc_t ?_ ?_); (first | omega | decide)) | ((with_reducible refine bc_f ?_ ?_); (first | omega | decide)) | (with_reducible first | refine bc (fun h => ?_) (fun h => ?_) | refine zt ?_ | refine zf ?_ | refine br_i (fun h => ?_) (fun h => ?_) | refine xi (pv_bool fun _ => eqv23 _ _ _ _ _ _ _) ?_) | refine zg ?_ | refine zi ?_)
    all_goals conv => whnf
    all_goals rfl
end Go.Proofs.YtnhljlihchegjaaGreat

/- The past: what there is at a time. No conditions. -/
namespace Go.Proofs.YtnhljlihchegjaaGreat
open Go.RowKit Go.Sort Sx
theorem qv_lt {p q r t : Int} (h1 : chk p q = 0) (h2 : chk r t = 0) : qv p q < qv r t ↔ p * t < r * q := by
  have e1 := Rat.lt_iff (qv p q) (qv r t)
  rw [qv_num h1, qv_num h2, qv_den h1, qv_den h2] at e1
  exact e1
theorem rlt_trans {a b c : Rat} (h1 : a < b) (h2 : b < c) : a < c := Std.lt_trans h1 h2
/-- how many moments are before a time -/
def tpos : List Md → Int → Int → Nat
  | [], _, _ => 0
  | m :: l, n, e => if m.n * e < n * m.d then tpos l n e + 1 else 0
theorem tpos_eq : ∀ {l : List Md} {n e : Int} {i : Nat}, i ≤ l.length → (∀ k (h : k < l.length), k < i → l[k].n * e < n * l[k].d) → (∀ k (h : k < l.length), i ≤ k → n * l[k].d ≤ l[k].n * e) → tpos l n e = i
  | [], n, e, i, hi, _, _ => by simp at hi; simp [tpos, hi]
  | m :: l, n, e, 0, hi, h1, h2 => by
    have := h2 0 (by simp) (Nat.le_refl _)
    simp at this
    rw [tpos, if_neg (by omega)]
  | m :: l, n, e, i + 1, hi, h1, h2 => by
    have := h1 0 (by simp) (by omega)
    simp at this
    rw [tpos, if_pos this, tpos_eq (by simpa using hi) (fun k h hk => h1 (k + 1) (by simpa using h) (by omega)) (fun k h hk => h2 (k + 1) (by simpa using h) (by omega))]
def tcmp (m : Md) (n e : Int) : Int := cmpN (m.n * e) (n * m.d)
def tfnd (l : List Md) (n e : Int) : Bool := match l[tpos l n e]? with | some m => decide (tcmp m n e = 0) | none => false
/-- moments of a valid past: their times go up -/
structure Ups (l : List Md) : Prop where
  ok : ∀ i (h : i < l.length), chk l[i].n l[i].d = 0
  up : ∀ j i (hj : j < l.length) (hij : i < j), qv l[i].n l[i].d < qv l[j].n l[j].d
theorem ups_of {p : Pa} (h : pchk p = 0) : Ups p.ms := by
  obtain ⟨h1, h2, h3, h4, h5⟩ := pchk_ok h
  have hok : ∀ i (h : i < p.ms.length), chk p.ms[i].n p.ms[i].d = 0 := fun i hi => askd_chk (mchk_ok (h5 _ (List.getElem_mem hi))).1
  refine ⟨hok, fun j => ?_⟩
  have hadj := ((pgo_iff (n := p.n) (d := p.d) (l := p.ms) (i := 0) rfl (by omega)).1 (by rw [List.drop_zero]; exact h4)).2.1
  induction j with
  | zero => intro i _ h; omega
  | succ j ih =>
    intro i hj hij
    have h6 := (qv_lt (hok j (by omega)) (hok (j + 1) hj)).2 (hadj j hj (Nat.zero_le _))
    rcases Nat.lt_or_ge i j with h | h
    · exact rlt_trans (ih i (by omega) h) h6
    · have : i = j := by omega
      subst this; exact h6
theorem pWhat1_fn (m : Md) (n e : Int) (h1 : chk m.n m.d = 0) (h2 : chk n e = 0) : FnOK Tryz.prog 98 [m.dc, rat n e] (ret1 (tcmp m n e)) := by
  refine fn_ok (by kernel_rfl) ty_ok Tryz.func98 rfl (fun _ _ => Tryz.call98 _ _) rfl ?_
  intro hw
  clear hw
  have H := cmp_chk h1 h2
  unfold tcmp
  generalize cmpN (m.n * e) (n * m.d) = z at *
  exact zw
theorem bsMo_fn (l : List Md) (n e : Int) (hs : Ups l) (ht : chk n e = 0) (hl : l.length ≤ 1000000) : FnOK Tryz.prog 97 [.one (mos l), rat n e, .one (.clo 98 [])] (.tup [.one (i64 (tpos l n e : Nat)), .one (bol (tfnd l n e))]) := by
  refine fn_ok (by kernel_rfl) ty_ok Tryz.func97 rfl (fun _ _ => Tryz.call97 _ _) rfl ?_
  intro hw
  clear hw
  have hln : (l.map Md.c).length = l.length := List.length_map ..
  repeat' ((conv => whnf); first | (with_reducible first | refine br_t ?_ | refine br_f ?_ | refine za ?_ | refine zg ?_ | refine zo ?_ | refine zb ?_ | refine zm ?_ | refine zc ?_ | refine ze ?_) | ((with_reducible refine bc_t ?_ ?_); (first | omega | decide)) | ((with_reducible refine bc_f ?_ ?_); (first | omega | decide)) | (with_reducible first | refine bc (fun h => ?_) (fun h => ?_) | refine zt ?_ | refine zf ?_ | refine br_i (fun h => ?_) (fun h => ?_)) | refine zg ?_ | refine zi ?_)
  refine loop_J (by kernel_rfl) ty_ok (σ := Nat × Nat) (fun s => [(9, sV (.int .i64 s.1)), (10, sV (.int .i64 s.2))]) (fun _ => [])
    (fun s => s.1 ≤ s.2 ∧ s.2 ≤ l.length ∧ (∀ k (h : k < l.length), k < s.1 → l[k].n * e < n * l[k].d) ∧ ∀ k (h : k < l.length), s.2 ≤ k → n * l[k].d ≤ l[k].n * e) (fun s => s.2 - s.1) (0, l.length) ⟨by omega, by omega, fun k h hk => absurd hk (Nat.not_lt_zero _), fun k h hk => absurd h (by show ¬ k < l.length; exact Nat.not_lt.2 hk)⟩ ?_ ?_
  · (conv => whnf); exact zent
  rintro ⟨i, j⟩ ⟨h1, h2, h3, h4⟩
  simp only at h1 h2 h3 h4
  rcases Nat.lt_or_ge i j with hlt | hge
  · have hm : (i + j) / 2 < l.length := by omega
    have hmid := mid_eq i j (by omega)
    have hel := mos_get hm
    have HC := pWhat1_fn l[(i + j) / 2] n e (hs.ok _ hm) ht
    unfold tcmp at HC
    have q0 := qv_lt (hs.ok _ hm) ht
    rcases (show l[(i + j) / 2].n * e < n * l[(i + j) / 2].d ∨ n * l[(i + j) / 2].d ≤ l[(i + j) / 2].n * e by omega) with hc | hc
    · have ec : cmpN (l[(i + j) / 2].n * e) (n * l[(i + j) / 2].d) = -1 := if_pos hc
      rw [ec] at HC
      have hN : ∀ k (h : k < l.length), k < (i + j) / 2 + 1 → l[k].n * e < n * l[k].d := fun k h hk => by
        rcases Nat.lt_or_ge k ((i + j) / 2) with h5 | h5
        · exact (qv_lt (hs.ok k h) ht).1 (rlt_trans (hs.up _ _ hm h5) (q0.2 hc))
        · have : k = (i + j) / 2 := by omega
          subst this; exact hc
      clear hc ec q0
      repeat' ((conv => whnf); first | (with_reducible first | refine br_t ?_ | refine br_f ?_ | refine za ?_ | refine zg ?_ | refine zo ?_ | refine zb ?_ | refine zm ?_ | refine zc ?_ | refine ze ?_) | rw [hmid] | ((with_reducible refine bc_t ?_ ?_); (first | omega | decide)) | ((with_reducible refine bc_f ?_ ?_); (first | omega | decide)) | (with_reducible first | refine bc (fun h => ?_) (fun h => ?_) | refine zt ?_ | refine zf ?_ | refine br_i (fun h => ?_) (fun h => ?_)) | refine zg ?_ | refine zi ?_)
      all_goals conv => whnf
      refine ⟨((i + j) / 2 + 1, j), ⟨by show _ ≤ _; omega, h2, hN, h4⟩, ?_, by show _ - _ < _ - _; omega⟩
      (conv => whnf); exact zent
    · have ec : 0 ≤ cmpN (l[(i + j) / 2].n * e) (n * l[(i + j) / 2].d) := by unfold cmpN; split <;> (try split) <;> omega
      have hN : ∀ k (h : k < l.length), (i + j) / 2 ≤ k → n * l[k].d ≤ l[k].n * e := fun k h hk => by
        rcases Nat.lt_or_ge ((i + j) / 2) k with h5 | h5
        · have h6 := hs.up k _ h h5
          have h7 : ¬ qv l[k].n l[k].d < qv n e := fun h8 => by
            have := q0.1 (rlt_trans h6 h8); omega
          rw [qv_lt (hs.ok k h) ht] at h7; omega
        · have : k = (i + j) / 2 := by omega
          subst this; exact hc
      generalize cmpN (l[(i + j) / 2].n * e) (n * l[(i + j) / 2].d) = c at HC ec
      clear hc q0
      repeat' ((conv => whnf); first | (with_reducible first | refine br_t ?_ | refine br_f ?_ | refine za ?_ | refine zg ?_ | refine zo ?_ | refine zb ?_ | refine zm ?_ | refine zc ?_ | refine ze ?_) | rw [hmid] | ((with_reducible refine bc_t ?_ ?_); (first | omega | decide)) | ((with_reducible refine bc_f ?_ ?_); (first | omega | decide)) | (with_reducible first | refine bc (fun h => ?_) (fun h => ?_) | refine zt ?_ | refine zf ?_ | refine br_i (fun h => ?_) (fun h => ?_)) | refine zg ?_ | refine zi ?_)
      all_goals conv => whnf
      refine ⟨(i, (i + j) / 2), ⟨by show _ ≤ _; omega, by show _ ≤ _; omega, h3, hN⟩, ?_, by show _ - _ < _ - _; omega⟩
      (conv => whnf); exact zent
  · have eij : i = j := by omega
    subst eij
    have hp := tpos_eq h2 h3 h4
    unfold tfnd
    rw [hp]
    clear h3 h4
    rcases Nat.lt_or_ge i l.length with hlt | hge2
    · have hel := mos_get hlt
      have HC := pWhat1_fn l[i] n e (hs.ok i hlt) ht
      rw [List.getElem?_eq_getElem hlt]
      simp only
      generalize tcmp l[i] n e = c at HC
      by_cases hc : c = 0
      all_goals
        repeat' ((conv => whnf); first | (with_reducible first | refine br_t ?_ | refine br_f ?_ | refine za ?_ | refine zg ?_ | refine zo ?_ | refine zb ?_ | refine zm ?_ | refine zc ?_ | refine ze ?_) | ((with_reducible refine bc_t ?_ ?_); (first | omega | decide)) | ((with_reducible refine bc_f ?_ ?_); (first | omega | decide)) | (with_reducible first | refine bc (fun h => ?_) (fun h => ?_) | refine zt ?_ | refine zf ?_ | refine br_i (fun h => ?_) (fun h => ?_)) | refine zg ?_ | refine zi ?_)
        all_goals conv => whnf
        all_goals simp [hc]
    · rw [List.getElem?_eq_none hge2]
      exact zw
end Go.Proofs.YtnhljlihchegjaaGreat

/- The past: What, Leader, Order. No conditions. -/
namespace Go.Proofs.YtnhljlihchegjaaGreat
open Go.RowKit Go.Sort Sx
def wcnt (l : List Md) (n e : Int) : Nat := tpos l n e + if tfnd l n e then 1 else 0
def whatV (p : Pa) (n e : Int) : List Pt × Int :=
  if pchk p = 0 then (if askd n e = 0 then (if p.n * e < n * p.d then ([], 6) else if wcnt p.ms n e = 0 then ([], 6) else ((p.ms[wcnt p.ms n e - 1]?.getD default).l, 0)) else ([], 8)) else ([], 8)
abbrev retW (x : List Pt × Int) : DV := .tup [fld x.1, .one (i64 x.2)]
theorem tpos_le : ∀ (l : List Md) (n e : Int), tpos l n e ≤ l.length
  | [], _, _ => Nat.le_refl _
  | m :: l, n, e => by rw [tpos]; split <;> simp [tpos_le l n e]
theorem tpos_spec : ∀ {l : List Md} {n e : Int}, (∀ k (h : k < l.length), k < tpos l n e → l[k].n * e < n * l[k].d) ∧ ∀ (h : tpos l n e < l.length), ¬ l[tpos l n e].n * e < n * l[tpos l n e].d
  | [], n, e => ⟨fun k h => by simp at h, fun h => by simp at h⟩
  | m :: l, n, e => by
    by_cases hp : m.n * e < n * m.d
    · obtain ⟨h1, h2⟩ := tpos_spec (l := l) (n := n) (e := e)
      have et : tpos (m :: l) n e = tpos l n e + 1 := by rw [tpos, if_pos hp]
      refine ⟨fun k h hk => ?_, fun h => ?_⟩
      · cases k with
        | zero => exact hp
        | succ k => simpa using h1 k (by simpa using h) (by omega)
      · have := h2 (by simp only [et, List.length_cons] at h; omega)
        simp only [et, List.getElem_cons_succ]
        exact this
    · have et : tpos (m :: l) n e = 0 := by rw [tpos, if_neg hp]
      refine ⟨fun k h hk => by omega, fun h => ?_⟩
      simp only [et, List.getElem_cons_zero]
      exact hp
theorem tfnd_lt {l : List Md} {n e : Int} (h : tfnd l n e = true) : ∃ h : tpos l n e < l.length, tcmp l[tpos l n e] n e = 0 := by
  unfold tfnd at h
  split at h
  · rename_i m hm
    obtain ⟨h1, rfl⟩ := List.getElem?_eq_some_iff.1 hm
    exact ⟨h1, of_decide_eq_true h⟩
  · cases h
theorem wcnt_le (l : List Md) (n e : Int) : wcnt l n e ≤ l.length := by
  unfold wcnt
  have := tpos_le l n e
  cases h : tfnd l n e
  · simpa using this
  · obtain ⟨h1, _⟩ := tfnd_lt h
    simp; omega
theorem wcnt_iff {l : List Md} {n e : Int} (hs : Ups l) (ht : chk n e = 0) {i : Nat} (hi : i < l.length) : cmpN (l[i].n * e) (n * l[i].d) ≤ 0 ↔ i < wcnt l n e := by
  obtain ⟨h1, h2⟩ := tpos_spec (l := l) (n := n) (e := e)
  have hq := qv_lt (hs.ok i hi) ht
  rcases Nat.lt_trichotomy i (tpos l n e) with h | h | h
  · have := h1 i hi h
    have k : cmpN (l[i].n * e) (n * l[i].d) = -1 := if_pos this
    rw [k]
    unfold wcnt
    constructor
    · intro _; omega
    · intro _; omega
  · have hlt : tpos l n e < l.length := by omega
    have h3 := h2 hlt
    have h5 : tfnd l n e = decide (tcmp l[tpos l n e] n e = 0) := by unfold tfnd; rw [List.getElem?_eq_getElem hlt]
    have h6 : 0 ≤ tcmp l[tpos l n e] n e := by unfold tcmp cmpN; rw [if_neg h3]; split <;> omega
    have h7 : cmpN (l[i].n * e) (n * l[i].d) = tcmp l[tpos l n e] n e := by unfold tcmp; simp only [h]
    rw [h7]
    unfold wcnt
    rw [h5]
    by_cases hc : tcmp l[tpos l n e] n e = 0
    · simp [hc]; omega
    · simp [hc]; omega
  · have hlt : tpos l n e < l.length := by omega
    have h3 := h2 hlt
    have h4 := hs.up i (tpos l n e) hi h
    have q2 := qv_lt (hs.ok _ hlt) ht
    have q3 := qv_lt ht (hs.ok i hi)
    have h5 : n * l[i].d < l[i].n * e := by
      rcases Int.lt_or_le (n * l[i].d) (l[i].n * e) with h6 | h6
      · exact h6
      · exfalso
        have h7 : ¬ qv n e < qv l[i].n l[i].d := fun h8 => by have := q3.1 h8; omega
        have h8 : qv l[i].n l[i].d ≤ qv n e := Rat.not_lt.1 h7
        exact h3 (q2.1 (Std.lt_of_lt_of_le h4 h8))
    have k : cmpN (l[i].n * e) (n * l[i].d) = 1 := by unfold cmpN; rw [if_neg (by omega), if_pos h5]
    rw [k]
    unfold wcnt
    constructor
    · intro h; omega
    · intro h6; split at h6 <;> omega
set_option maxHeartbeats 2000000 in
theorem pWhat_fn (p : Pa) (n e : Int) : FnOK Tryz.prog 53 [p.dc, rat n e] (retW (whatV p n e)) := by
  have H1 := pCheck_fn p
  have H2 := asked_fn n e
  unfold whatV
  by_cases h1 : pchk p = 0
  · rw [if_pos h1]
    rw [h1] at H1
    by_cases h2 : askd n e = 0
    · rw [if_pos h2]
      rw [h2] at H2
      have ht := askd_chk h2
      obtain ⟨k1, k2, k3, k4, k5⟩ := pchk_ok h1
      have hu := ups_of h1
      have H3 := cmp_chk ht (askd_chk k3)
      by_cases h3 : p.n * e < n * p.d
      · rw [if_pos h3]
        have e3 : cmpN (n * p.d) (p.n * e) = 1 := by unfold cmpN; rw [if_neg (by omega), if_pos h3]
        rw [e3] at H3
        refine fn_ok (by kernel_rfl) ty_ok Tryz.func53 rfl (fun _ _ => Tryz.call53 _ _) rfl ?_
        intro hw
        clear hw h3 e3
        exact zw
      · rw [if_neg h3]
        have e3 : cmpN (n * p.d) (p.n * e) ≤ 0 := by unfold cmpN; split <;> (try split) <;> omega
        generalize cmpN (n * p.d) (p.n * e) = z at H3 e3
        clear h3
        have H4 := bsMo_fn p.ms n e hu ht (by omega)
        have hle := tpos_le p.ms n e
        have hln : (p.ms.map Md.c).length = p.ms.length := List.length_map ..
        cases hf : tfnd p.ms n e
        · have ew : wcnt p.ms n e = tpos p.ms n e := by unfold wcnt; rw [hf]; rfl
          rw [ew]
          rw [hf] at H4
          by_cases h0 : tpos p.ms n e = 0
          · rw [if_pos h0]
            rw [h0] at H4
            refine fn_ok (by kernel_rfl) ty_ok Tryz.func53 rfl (fun _ _ => Tryz.call53 _ _) rfl ?_
            intro hw
            clear hw
            exact zw
          · rw [if_neg h0]
            have hlt : tpos p.ms n e - 1 < p.ms.length := by omega
            generalize tpos p.ms n e = k at *
            have ewr : IntKind.i64.wrap ((k : Int) - 1) = ((k - 1 : Nat) : Int) := by rw [IntWalk.i64_in _ (by omega)]; omega
            have hel := mos_get' (l := p.ms) (i := k - 1) (j := IntKind.i64.wrap ((k : Int) - 1)) hlt (by rw [ewr]; omega)
            rw [List.getElem?_eq_getElem hlt]
            have H5 := pcopied_fn p.ms[k - 1].l (by have := mchk_len (k5 _ (List.getElem_mem hlt)); omega)
            refine fn_ok (by kernel_rfl) ty_ok Tryz.func53 rfl (fun _ _ => Tryz.call53 _ _) rfl ?_
            intro hw
            clear hw
            exact zw
        · obtain ⟨hlt, _⟩ := tfnd_lt hf
          have ew : wcnt p.ms n e = tpos p.ms n e + 1 := by unfold wcnt; rw [hf]; rfl
          rw [ew, if_neg (by omega), Nat.add_sub_cancel]
          rw [hf] at H4
          have hel := mos_get hlt
          rw [List.getElem?_eq_getElem hlt]
          have H5 := pcopied_fn p.ms[tpos p.ms n e].l (by have := mchk_len (k5 _ (List.getElem_mem hlt)); omega)
          refine fn_ok (by kernel_rfl) ty_ok Tryz.func53 rfl (fun _ _ => Tryz.call53 _ _) rfl ?_
          intro hw
          clear hw
          exact zw
    · rw [if_neg h2]
      generalize askd n e = z at *
      refine fn_ok (by kernel_rfl) ty_ok Tryz.func53 rfl (fun _ _ => Tryz.call53 _ _) rfl ?_
      intro hw
      clear hw
      exact zw
  · rw [if_neg h1]
    have h8 : pchk p = 8 := (pchk_08 p).resolve_left h1
    rw [h8] at H1
    refine fn_ok (by kernel_rfl) ty_ok Tryz.func53 rfl (fun _ _ => Tryz.call53 _ _) rfl ?_
    intro hw
    clear hw
    exact zw
end Go.Proofs.YtnhljlihchegjaaGreat

/- The past: the reference's What, Leader, Order. No conditions. -/
namespace Go.Proofs.YtnhljlihchegjaaGreat
open Go.RowKit Go.Sort Sx
/-- what is answered at what there was -/
def pleadV (p : Pa) (n e : Int) : Int × Int := if (whatV p n e).2 = 0 then leadV (whatV p n e).1 n e else (0, (whatV p n e).2)
theorem pLeader_fn (p : Pa) (n e : Int) : FnOK Tryz.prog 56 [p.dc, rat n e] (ret2 (pleadV p n e)) := by
  have H1 := pWhat_fn p n e
  unfold pleadV
  generalize whatV p n e = w at *
  obtain ⟨l, r⟩ := w
  simp only [retW] at *
  have H2 := fLeader_fn l n e
  by_cases h : r = 0
  · rw [if_pos h]
    generalize leadV l n e = y at *
    obtain ⟨u, v⟩ := y
    simp only [ret2] at *
    refine fn_ok (by kernel_rfl) ty_ok Tryz.func56 rfl (fun _ _ => Tryz.call56 _ _) rfl ?_
    intro hw
    clear hw
    exact zw
  · rw [if_neg h]
    refine fn_ok (by kernel_rfl) ty_ok Tryz.func56 rfl (fun _ _ => Tryz.call56 _ _) rfl ?_
    intro hw
    clear hw
    exact zw
def pordV (p : Pa) (n e : Int) : List Int × Int := if (whatV p n e).2 = 0 then orderV (whatV p n e).1 n e else ([], (whatV p n e).2)
theorem pOrder_fn (p : Pa) (n e : Int) : FnOK Tryz.prog 57 [p.dc, rat n e] (retO (pordV p n e)) := by
  have H1 := pWhat_fn p n e
  unfold pordV
  generalize whatV p n e = w at *
  obtain ⟨l, r⟩ := w
  simp only [retW] at *
  have H2 := fOrder_fn l n e
  by_cases h : r = 0
  · rw [if_pos h]
    generalize orderV l n e = y at *
    obtain ⟨u, v⟩ := y
    simp only [retO] at *
    refine fn_ok (by kernel_rfl) ty_ok Tryz.func57 rfl (fun _ _ => Tryz.call57 _ _) rfl ?_
    intro hw
    clear hw
    exact zw
  · rw [if_neg h]
    refine fn_ok (by kernel_rfl) ty_ok Tryz.func57 rfl (fun _ _ => Tryz.call57 _ _) rfl ?_
    intro hw
    clear hw
    exact zw
end Go.Proofs.YtnhljlihchegjaaGreat

/- The past: when a point was there. No conditions. -/
namespace Go.Proofs.YtnhljlihchegjaaGreat
open Go.RowKit Go.Sort Sx
def aln (l : List Pt) (id : Int) : List Pt := if has l id then [l[pos l id]?.getD default] else []
def wasL : List Md → Int → List Pt → List Md
  | [], _, _ => []
  | m :: l, id, b => (if b = aln m.l id then [] else [⟨m.n, m.d, aln m.l id⟩]) ++ wasL l id (aln m.l id)
theorem wasL_lt {l : List Md} {id : Int} {b : List Pt} {i : Nat} (h : i < l.length) : wasL (l.drop i) id b = (if b = aln l[i].l id then [] else [⟨l[i].n, l[i].d, aln l[i].l id⟩]) ++ wasL (l.drop (i + 1)) id (aln l[i].l id) := by
  rw [List.drop_eq_getElem_cons h, wasL]
theorem wasL_ge {l : List Md} {id : Int} {b : List Pt} {i : Nat} (h : l.length ≤ i) : wasL (l.drop i) id b = [] := by
  rw [List.drop_eq_nil_of_le h, wasL]
def wasV (p : Pa) (id : Int) : List Md × Int := if pchk p = 0 then (wasL p.ms id [], 0) else ([], 8)
abbrev retM (x : List Md × Int) : DV := .tup [.one (mos x.1), .one (i64 x.2)]
end Go.Proofs.YtnhljlihchegjaaGreat
