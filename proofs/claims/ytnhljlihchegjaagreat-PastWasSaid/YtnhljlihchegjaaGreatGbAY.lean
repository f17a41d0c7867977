import Derived.Test.YtnhljlihchegjaaGreatGbAX
import Derived.Test.YtnhljlihchegjaaGreatGbAS
set_option linter.all false
/- Meetings: the reference's Between and Same, slices.Equal at meetings. No conditions. -/
namespace Go.Proofs.YtnhljlihchegjaaGreat
open Go Go.RowKit Go.Sort Sx
theorem wd_mts {l : List Mt} (h : WD (mts l)) : l.length ≤ 9223372036854775807 := by
  obtain ⟨h1, _, h3⟩ := WD_list.1 h
  simpa using h1
theorem Mt.eq_iff {p q : Mt} : p = q ↔ p.n = q.n ∧ p.d = q.d ∧ p.i = q.i ∧ p.j = q.j := by
  cases p; cases q; simp
theorem bcnt_ge {l : List Mt} (hs : Asc l) {n e : Int} (h1 : chk n e = 0) {k : Nat} (h : k < l.length) (hk : bcnt l n e ≤ k) : n * l[k].d < l[k].n * e := by
  have hb : bcnt l n e < l.length := by omega
  have q1 := (qv_ltM h1 (hs.ok _ hb)).2 (bcnt_at hb)
  refine (qv_ltM h1 (hs.ok _ h)).1 ?_
  rcases Nat.eq_or_lt_of_le hk with e | hlt
  · subst e; exact q1
  · exact Std.lt_of_lt_of_le q1 (hs.up k _ h hlt)
def inT (n e r t : Int) (m : Mt) : Bool := decide (n * m.d < m.n * e) && !decide (r * m.d < m.n * t)
theorem btw_filter {l : List Mt} (hs : Asc l) {n e r t : Int} (h1 : chk n e = 0) (h2 : chk r t = 0) (h : ¬ r * e < n * t) : l.filter (inT n e r t) = btw l n e r t := by
  have hm := bcnt_mono hs h1 h2 h
  have hb := bcnt_le l r t
  have g1 := fun k (hk : k < l.length) => bcnt_lt (n := n) (e := e) hk
  have g2 := fun k (hk : k < l.length) => bcnt_lt (n := r) (e := t) hk
  have g3 := fun k (hk : k < l.length) => bcnt_ge hs h1 hk
  have g4 := fun k (hk : k < l.length) => bcnt_ge hs h2 hk
  unfold btw
  generalize bcnt l n e = a at *
  generalize bcnt l r t = b at *
  have e1 : l = l.take a ++ ((l.take b).drop a ++ l.drop b) := by
    conv => lhs; rw [← List.take_append_drop a l, ← List.take_append_drop (b - a) (l.drop a)]
    rw [List.drop_take, List.drop_drop, show a + (b - a) = b by omega]
  conv => lhs; rw [e1]
  rw [List.filter_append, List.filter_append, List.filter_eq_nil_iff.2, List.filter_eq_self.2, List.filter_eq_nil_iff.2, List.append_nil, List.nil_append]
  · intro m hm
    obtain ⟨k, hk, rfl⟩ := List.mem_iff_getElem.1 hm
    rw [List.getElem_drop]
    simp only [List.length_drop] at hk
    unfold inT
    rw [decide_eq_true (g4 _ (by omega) (by omega))]
    simp
  · intro m hm
    obtain ⟨k, hk, rfl⟩ := List.mem_iff_getElem.1 hm
    simp only [List.length_drop, List.length_take] at hk
    rw [List.getElem_drop, List.getElem_take]
    unfold inT
    rw [decide_eq_true (g3 _ (by omega) (by omega)), decide_eq_false (g2 _ (by omega) (by omega))]
    rfl
  · intro m hm
    obtain ⟨k, hk, rfl⟩ := List.mem_iff_getElem.1 hm
    simp only [List.length_take] at hk
    rw [List.getElem_take]
    unfold inT
    rw [decide_eq_false (g1 _ (by omega) (by omega))]
    simp
theorem filt_succ {α : Type} {l : List α} {f : α → Bool} {i : Nat} (h : i < l.length) : (l.take (i + 1)).filter f = (l.take i).filter f ++ if f l[i] then [l[i]] else [] := by
  rw [List.take_succ_eq_append_getElem h, List.filter_append, List.filter_cons, List.filter_nil]
theorem rmBetween_fn {l : List Pt} (hv : fchk l = 0) {n e r t : Int} (h1 : chk n e = 0) (h2 : chk r t = 0) (h3 : ¬ r * e < n * t) : FnOK Tryz.prog 138 [fld l, rat n e, rat r t] (.c (.one (mts (btw (allM l) n e r t)))) := by
  have H1 := rmPairs_fn hv
  have hasc := allM_asc hv
  have hlen : (allM l).length ≤ 4096 := by rw [msrt_len]; exact outs_len2 (fchk_ok hv).1
  have hok := hasc.ok
  rw [← btw_filter hasc h1 h2 h3]
  clear hasc h3
  generalize allM l = L at *
  have hll : (L.map Mt.c).length = L.length := List.length_map ..
  refine fn_ok (by kernel_rfl) (ty_okK [7, 42] [] [] []) Tryz.func138 rfl (fun _ _ => Tryz.call138 _ _) rfl ?_
  intro hw
  clear hw
  have hfl : ∀ i, ((L.take i).filter (inT n e r t)).length ≤ L.length := fun i => by
    refine Nat.le_trans (List.length_filter_le ..) ?_
    simp; omega
  repeat' ((conv => whnf); first | (with_reducible first | refine br_t ?_ | refine br_f ?_ | refine za ?_ | refine zg ?_ | refine zo ?_ | refine zb ?_ | refine zm ?_ | refine zc ?_ | refine ze ?_) | ((with_reducible refine bc_t ?_ ?_); (first | omega | decide)) | ((with_reducible refine bc_f ?_ ?_); (first | omega | decide)) | (with_reducible first | refine bc (fun h => ?_) (fun h => ?_) | refine zt ?_ | refine zf ?_ | refine br_i (fun h => ?_) (fun h => ?_)) | refine zg ?_ | refine zi ?_)
  refine loop_J (by kernel_rfl) (ty_okK [7, 42] [] [] []) (σ := Nat) (fun i => [(9, sV (.int .i64 i)), (7, .c (.at (.osl 7 0)))]) (fun i => [(7, .row 4 (((L.take i).filter (inT n e r t)).map Mt.c) 0)]) (fun i => i ≤ L.length) (fun i => L.length - i) 0 (Nat.zero_le _) ?_ ?_
  · (conv => whnf); exact zent
  intro i hi
  rcases Nat.lt_or_ge i L.length with hlt | hge
  · have hel := mts_get hlt
    have hs := filt_succ (f := inT n e r t) hlt
    have C1 := rcompare_fn L[i].n L[i].d n e
    have C2 := rcompare_fn L[i].n L[i].d r t
    have hfi := hfl i
    have hfi1 := hfl (i + 1)
    have hol : (((L.take i).filter (inT n e r t)).map Mt.c).length = ((L.take i).filter (inT n e r t)).length := List.length_map ..
    by_cases c1 : n * L[i].d < L[i].n * e
    · by_cases c2 : r * L[i].d < L[i].n * t
      · have e1 : cmpN (L[i].n * t) (r * L[i].d) = 1 := by unfold cmpN; rw [if_neg (by omega), if_pos c2]
        have e2 : cmpN (L[i].n * e) (n * L[i].d) = 1 := by unfold cmpN; rw [if_neg (by omega), if_pos c1]
        rw [e2] at C1
        rw [e1] at C2
        simp only [ret1] at C1 C2
        rw [inT, decide_eq_true c1, decide_eq_true c2] at hs
        generalize L[i] = m at *
        repeat' ((conv => whnf); first | (with_reducible first | refine br_t ?_ | refine br_f ?_ | refine za ?_ | refine zg ?_ | refine zo ?_ | refine zb ?_ | refine zm ?_ | refine zc ?_ | refine ze ?_) | ((with_reducible refine bc_t ?_ ?_); (first | omega | decide)) | ((with_reducible refine bc_f ?_ ?_); (first | omega | decide)) | (with_reducible first | refine bc (fun h => ?_) (fun h => ?_) | refine zt ?_ | refine zf ?_ | refine br_i (fun h => ?_) (fun h => ?_)) | refine zg ?_ | refine zi ?_)
        all_goals conv => whnf
        refine ⟨i + 1, hlt, ?_, by omega⟩
        (conv => whnf); refine ⟨by repeat' (first | with_reducible exact zE0 | with_reducible refine zE1 ?_ ?_ | rfl | assumption | ((exact congrArg (fun x => some (Blk.row 4 (x.map Mt.c) 0)) (hs.trans (List.append_nil _)).symm)) | (refine ent_i ?_; (first | omega | (rw [IntWalk.i64_in _ (by omega)]; omega) | (simp; done))) | (refine ent_b ?_; (first | omega | (rw [IntWalk.i64_in _ (by omega)]; omega) | (simp; done)))), by repeat' (first | with_reducible exact zH0 | with_reducible refine zH1 ?_ ?_ | rfl | assumption | ((exact congrArg (fun x => some (Blk.row 4 (x.map Mt.c) 0)) (hs.trans (List.append_nil _)).symm))), rfl⟩
      · have e1 : cmpN (L[i].n * t) (r * L[i].d) ≤ 0 := by unfold cmpN; split <;> (try split) <;> omega
        have e2 : cmpN (L[i].n * e) (n * L[i].d) = 1 := by unfold cmpN; rw [if_neg (by omega), if_pos c1]
        rw [e2] at C1
        generalize cmpN (L[i].n * t) (r * L[i].d) = z at *
        simp only [ret1] at C1 C2
        rw [inT, decide_eq_true c1, decide_eq_false c2] at hs
        generalize L[i] = m at *
        have hs2 : ((L.take i).filter (inT n e r t)).map Mt.c ++ [[i64 m.n, i64 m.d, i64 m.i, i64 m.j]] = ((L.take (i + 1)).filter (inT n e r t)).map Mt.c := by rw [hs, List.map_append]; rfl
        repeat' ((conv => whnf); first | (with_reducible first | refine br_t ?_ | refine br_f ?_ | refine za ?_ | refine zg ?_ | refine zo ?_ | refine zb ?_ | refine zm ?_ | refine zc ?_ | refine ze ?_) | rw [hol] | ((with_reducible refine bc_t ?_ ?_); (first | omega | decide)) | ((with_reducible refine bc_f ?_ ?_); (first | omega | decide)) | (with_reducible first | refine bc (fun h => ?_) (fun h => ?_) | refine zt ?_ | refine zf ?_ | refine br_i (fun h => ?_) (fun h => ?_)) | refine zg ?_ | refine zi ?_)
        all_goals conv => whnf
        refine ⟨i + 1, hlt, ?_, by omega⟩
        (conv => whnf); refine ⟨by repeat' (first | with_reducible exact zE0 | with_reducible refine zE1 ?_ ?_ | rfl | assumption | ((exact congrArg (fun x => some (Blk.row 4 x 0)) hs2)) | (refine ent_i ?_; (first | omega | (rw [IntWalk.i64_in _ (by omega)]; omega) | (simp; done))) | (refine ent_b ?_; (first | omega | (rw [IntWalk.i64_in _ (by omega)]; omega) | (simp; done)))), by repeat' (first | with_reducible exact zH0 | with_reducible refine zH1 ?_ ?_ | rfl | assumption | ((exact congrArg (fun x => some (Blk.row 4 x 0)) hs2))), rfl⟩
    · have e2 : cmpN (L[i].n * e) (n * L[i].d) ≤ 0 := by unfold cmpN; split <;> (try split) <;> omega
      generalize cmpN (L[i].n * e) (n * L[i].d) = z at *
      simp only [ret1] at C1 C2
      rw [inT, decide_eq_false c1] at hs
      generalize L[i] = m at *
      repeat' ((conv => whnf); first | (with_reducible first | refine br_t ?_ | refine br_f ?_ | refine za ?_ | refine zg ?_ | refine zo ?_ | refine zb ?_ | refine zm ?_ | refine zc ?_ | refine ze ?_) | ((with_reducible refine bc_t ?_ ?_); (first | omega | decide)) | ((with_reducible refine bc_f ?_ ?_); (first | omega | decide)) | (with_reducible first | refine bc (fun h => ?_) (fun h => ?_) | refine zt ?_ | refine zf ?_ | refine br_i (fun h => ?_) (fun h => ?_)) | refine zg ?_ | refine zi ?_)
      all_goals conv => whnf
      refine ⟨i + 1, hlt, ?_, by omega⟩
      (conv => whnf); refine ⟨by repeat' (first | with_reducible exact zE0 | with_reducible refine zE1 ?_ ?_ | rfl | assumption | ((exact congrArg (fun x => some (Blk.row 4 (x.map Mt.c) 0)) (hs.trans (List.append_nil _)).symm)) | (refine ent_i ?_; (first | omega | (rw [IntWalk.i64_in _ (by omega)]; omega) | (simp; done))) | (refine ent_b ?_; (first | omega | (rw [IntWalk.i64_in _ (by omega)]; omega) | (simp; done)))), by repeat' (first | with_reducible exact zH0 | with_reducible refine zH1 ?_ ?_ | rfl | assumption | ((exact congrArg (fun x => some (Blk.row 4 (x.map Mt.c) 0)) (hs.trans (List.append_nil _)).symm))), rfl⟩
  · obtain rfl : i = L.length := by omega
    rw [List.take_of_length_le (Nat.le_refl _)] at *
    exact zw
theorem eqMt_fn (a b : List Mt) : FnOK Tryz.prog 92 [.one (mts a), .one (mts b)] (.c (.one (bol (decide (a = b))))) := by
  refine fn_ok (by kernel_rfl) ty_ok Tryz.func92 rfl (fun _ _ => Tryz.call92 _ _) rfl ?_
  intro hw
  simp only [WDCs, WDC, WDs] at hw
  have w1 := wd_mts hw.1
  have w2 := wd_mts hw.2.1
  clear hw
  by_cases h0 : a.length = b.length
  · repeat' ((conv => whnf); first | (with_reducible first | refine br_t ?_ | refine br_f ?_ | refine za ?_ | refine zg ?_ | refine zo ?_ | refine zb ?_ | refine zm ?_ | refine zc ?_ | refine ze ?_) | rw [List.length_map] | ((with_reducible refine bc_t ?_ ?_); (first | omega | decide)) | ((with_reducible refine bc_f ?_ ?_); (first | omega | decide)) | (with_reducible first | refine bc (fun h => ?_) (fun h => ?_) | refine zt ?_ | refine zf ?_ | refine br_i (fun h => ?_) (fun h => ?_) | refine xi (pv_bool fun _ => nev128 _ _ _ _ _ _ _ _ _ _ _) ?_) | refine zg ?_ | refine zi ?_)
    refine loop_J (by kernel_rfl) ty_ok (σ := Nat) (fun i => [(13, sV (.int .i64 i))]) (fun _ => []) (fun i => i ≤ a.length ∧ a.take i = b.take i) (fun i => a.length - i) 0 ⟨by omega, rfl⟩ ?_ ?_
    · (conv => whnf); exact zent
    rintro i ⟨hi, hI⟩
    rcases Nat.lt_or_ge i a.length with hlt | hge
    · have hb : i < b.length := by omega
      have he1 := mts_get hlt
      have he2 := mts_get hb
      by_cases hc : a[i] = b[i]
      · have hq := Mt.eq_iff.1 hc
        repeat' ((conv => whnf); first | (with_reducible first | refine br_t ?_ | refine br_f ?_ | refine za ?_ | refine zg ?_ | refine zo ?_ | refine zb ?_ | refine zm ?_ | refine zc ?_ | refine ze ?_) | rw [List.length_map] | ((with_reducible refine bc_t ?_ ?_); (first | omega | decide)) | ((with_reducible refine bc_f ?_ ?_); (first | omega | decide)) | (with_reducible first | refine bc (fun h => ?_) (fun h => ?_) | refine zt ?_ | refine zf ?_ | refine br_i (fun h => ?_) (fun h => ?_) | refine xi (pv_bool fun _ => nev128 _ _ _ _ _ _ _ _ _ _ _) ?_) | refine zg ?_ | refine zi ?_)
        all_goals conv => whnf
        refine ⟨i + 1, ⟨by omega, take_succ_eq hI hlt hb hc⟩, ?_, by omega⟩
        (conv => whnf); exact zent
      · have hq := mt Mt.eq_iff.2 hc
        rw [decide_eq_false (ne_of_get hlt hb hc)]
        repeat' ((conv => whnf); first | (with_reducible first | refine br_t ?_ | refine br_f ?_ | refine za ?_ | refine zg ?_ | refine zo ?_ | refine zb ?_ | refine zm ?_ | refine zc ?_ | refine ze ?_) | rw [List.length_map] | ((with_reducible refine bc_t ?_ ?_); (first | omega | decide)) | ((with_reducible refine bc_f ?_ ?_); (first | omega | decide)) | (with_reducible first | refine bc (fun h => ?_) (fun h => ?_) | refine zt ?_ | refine zf ?_ | refine br_i (fun h => ?_) (fun h => ?_) | refine xi (pv_bool fun _ => nev128 _ _ _ _ _ _ _ _ _ _ _) ?_) | refine zg ?_ | refine zi ?_)
        all_goals conv => whnf
        all_goals rfl
    · rw [decide_eq_true (take_all_eq hI h0 hge)]
      repeat' ((conv => whnf); first | (with_reducible first | refine br_t ?_ | refine br_f ?_ | refine za ?_ | refine zg ?_ | refine zo ?_ | refine zb ?_ | refine zm ?_ | refine zc ?_ | refine ze ?_) | rw [List.length_map] | ((with_reducible refine bc_t ?_ ?_); (first | omega | decide)) | ((with_reducible refine bc_f ?_ ?_); (first | omega | decide)) | (with_reducible first | refine bc (fun h => ?_) (fun h => ?_) | refine zt ?_ | refine zf ?_ | refine br_i (fun h => ?_) (fun h => ?_) | refine xi (pv_bool fun _ => nev128 _ _ _ _ _ _ _ _ _ _ _) ?_) | refine zg ?_ | refine zi ?_)
      all_goals conv => whnf
      all_goals rfl
  · rw [decide_eq_false (fun h => h0 (congrArg List.length h))]
    repeat' ((conv => whnf); first | (with_reducible first | refine br_t ?_ | refine br_f ?_ | refine za ?_ | refine zg ?_ | refine zo ?_ | refine zb ?_ | refine zm ?_ | refine zc ?_ | refine ze ?_) | rw [List.length_map] | ((with_reducible refine bc_t ?_ ?_); (first | omega | decide)) | ((with_reducible refine bc_f ?_ ?_); (first | omega | decide)) | (with_reducible first | refine bc (fun h => ?_) (fun h => ?_) | refine zt ?_ | refine zf ?_ | refine br_i (fun h => ?_) (fun h => ?_) | refine xi (pv_bool fun _ => nev128 _ _ _ _ _ _ _ _ _ _ _) ?_) | refine zg ?_ | refine zi ?_)
    all_goals conv => whnf
    all_goals rfl
theorem rmSame_fn (a b : List Mt) : FnOK Tryz.prog 37 [.one (mts a), .one (mts b)] (.c (.one (bol (decide (a = b))))) := by
  refine fn_ok (by kernel_rfl) ty_ok Tryz.func37 rfl (fun _ _ => Tryz.call37 _ _) rfl ?_
  intro hw
  simp only [WDCs, WDC, WDs] at hw
  have w1 := wd_mts hw.1
  have w2 := wd_mts hw.2.1
  clear hw
  by_cases h0 : a.length = b.length
  · repeat' ((conv => whnf); first | (with_reducible first | refine br_t ?_ | refine br_f ?_ | refine za ?_ | refine zg ?_ | refine zo ?_ | refine zb ?_ | refine zm ?_ | refine zc ?_ | refine ze ?_) | rw [List.length_map] | ((with_reducible refine bc_t ?_ ?_); (first | omega | decide)) | ((with_reducible refine bc_f ?_ ?_); (first | omega | decide)) | (with_reducible first | refine bc (fun h => ?_) (fun h => ?_) | refine zt ?_ | refine zf ?_ | refine br_i (fun h => ?_) (fun h => ?_) | refine xi (pv_bool fun _ => nev128 _ _ _ _ _ _ _ _ _ _ _) ?_) | refine zg ?_ | refine zi ?_)
    refine loop_J (by kernel_rfl) ty_ok (σ := Nat) (fun i => [(5, sV (.int .i64 i))]) (fun _ => []) (fun i => i ≤ a.length ∧ a.take i = b.take i) (fun i => a.length - i) 0 ⟨by omega, rfl⟩ ?_ ?_
    · (conv => whnf); exact zent
    rintro i ⟨hi, hI⟩
    rcases Nat.lt_or_ge i a.length with hlt | hge
    · have hb : i < b.length := by omega
      have he1 := mts_get hlt
      have he2 := mts_get hb
      by_cases hc : a[i] = b[i]
      · have hq := Mt.eq_iff.1 hc
        repeat' ((conv => whnf); first | (with_reducible first | refine br_t ?_ | refine br_f ?_ | refine za ?_ | refine zg ?_ | refine zo ?_ | refine zb ?_ | refine zm ?_ | refine zc ?_ | refine ze ?_) | rw [List.length_map] | ((with_reducible refine bc_t ?_ ?_); (first | omega | decide)) | ((with_reducible refine bc_f ?_ ?_); (first | omega | decide)) | (with_reducible first | refine bc (fun h => ?_) (fun h => ?_) | refine zt ?_ | refine zf ?_ | refine br_i (fun h => ?_) (fun h => ?_) | refine xi (pv_bool fun _ => nev128 _ _ _ _ _ _ _ _ _ _ _) ?_) | refine zg ?_ | refine zi ?_)
        all_goals conv => whnf
        refine ⟨i + 1, ⟨by omega, take_succ_eq hI hlt hb hc⟩, ?_, by omega⟩
        (conv => whnf); exact zent
      · have hq := mt Mt.eq_iff.2 hc
        rw [decide_eq_false (ne_of_get hlt hb hc)]
        repeat' ((conv => whnf); first | (with_reducible first | refine br_t ?_ | refine br_f ?_ | refine za ?_ | refine zg ?_ | refine zo ?_ | refine zb ?_ | refine zm ?_ | refine zc ?_ | refine ze ?_) | rw [List.length_map] | ((with_reducible refine bc_t ?_ ?_); (first | omega | decide)) | ((with_reducible refine bc_f ?_ ?_); (first | omega | decide)) | (with_reducible first | refine bc (fun h => ?_) (fun h => ?_) | refine zt ?_ | refine zf ?_ | refine br_i (fun h => ?_) (fun h => ?_) | refine xi (pv_bool fun _ => nev128 _ _ _ _ _ _ _ _ _ _ _) ?_) | refine zg ?_ | refine zi ?_)
        all_goals conv => whnf
        all_goals rfl
    · rw [decide_eq_true (take_all_eq hI h0 hge)]
      repeat' ((conv => whnf); first | (with_reducible first | refine br_t ?_ | refine br_f ?_ | refine za ?_ | refine zg ?_ | refine zo ?_ | refine zb ?_ | refine zm ?_ | refine zc ?_ | refine ze ?_) | rw [List.length_map] | ((with_reducible refine bc_t ?_ ?_); (first | omega | decide)) | ((with_reducible refine bc_f ?_ ?_); (first | omega | decide)) | (with_reducible first | refine bc (fun h => ?_) (fun h => ?_) | refine zt ?_ | refine zf ?_ | refine br_i (fun h => ?_) (fun h => ?_) | refine xi (pv_bool fun _ => nev128 _ _ _ _ _ _ _ _ _ _ _) ?_) | refine zg ?_ | refine zi ?_)
      all_goals conv => whnf
      all_goals rfl
  · rw [decide_eq_false (fun h => h0 (congrArg List.length h))]
    repeat' ((conv => whnf); first | (with_reducible first | refine br_t ?_ | refine br_f ?_ | refine za ?_ | refine zg ?_ | refine zo ?_ | refine zb ?_ | refine zm ?_ | refine zc ?_ | refine ze ?_) | rw [List.length_map] | ((with_reducible refine bc_t ?_ ?_); (first | omega | decide)) | ((with_reducible refine bc_f ?_ ?_); (first | omega | decide)) | (with_reducible first | refine bc (fun h => ?_) (fun h => ?_) | refine zt ?_ | refine zf ?_ | refine br_i (fun h => ?_) (fun h => ?_) | refine xi (pv_bool fun _ => nev128 _ _ _ _ _ _ _ _ _ _ _) ?_) | refine zg ?_ | refine zi ?_)
    all_goals conv => whnf
    all_goals rfl
end Go.Proofs.YtnhljlihchegjaaGreat

/- What an ask does on a valid model: the reference's. No conditions. -/
namespace Go.Proofs.YtnhljlihchegjaaGreat
open Go Go.RowKit Go.Sort Sx
def chgF (m : Md) (a : Ak) : List Pt × Int := if a.k = 1 then putV m.l a.p else if a.k = 2 then takeV m.l a.id else changeV m.l a.p
theorem rochanged_fn {m : Md} (hl : m.l.length ≤ 1000000) (a : Ak) : FnOK Tryz.prog 112 [m.dc, a.dc] (.tup [Md.dc (if (chgF m a).2 = 0 then ⟨m.n, m.d, (chgF m a).1⟩ else m), .one (i64 (chgF m a).2)]) := by
  have HT := roTwin_fn m hl
  unfold chgF
  by_cases c1 : a.k = 1
  · rw [if_pos c1]
    have H := rfPut_fn m.l a.p
    generalize putV m.l a.p = x at *
    obtain ⟨f, e⟩ := x
    simp only [retFl] at H
    dsimp only
    by_cases h0 : e = 0
    · rw [if_pos h0]
      subst h0
      refine fn_ok (by kernel_rfl) ty_ok Tryz.func112 rfl (fun _ _ => Tryz.call112 _ _) rfl ?_
      intro hw
      clear hw
      exact zw
    · rw [if_neg h0]
      refine fn_ok (by kernel_rfl) ty_ok Tryz.func112 rfl (fun _ _ => Tryz.call112 _ _) rfl ?_
      intro hw
      clear hw
      exact zw
  · rw [if_neg c1]
    by_cases c2 : a.k = 2
    · rw [if_pos c2]
      have H := rfTake_fn m.l a.id
      generalize takeV m.l a.id = x at *
      obtain ⟨f, e⟩ := x
      simp only [retFl] at H
      dsimp only
      by_cases h0 : e = 0
      · rw [if_pos h0]
        subst h0
        refine fn_ok (by kernel_rfl) ty_ok Tryz.func112 rfl (fun _ _ => Tryz.call112 _ _) rfl ?_
        intro hw
        clear hw
        exact zw
      · rw [if_neg h0]
        refine fn_ok (by kernel_rfl) ty_ok Tryz.func112 rfl (fun _ _ => Tryz.call112 _ _) rfl ?_
        intro hw
        clear hw
        exact zw
    · rw [if_neg c2]
      have H := rfChange_fn m.l a.p
      generalize changeV m.l a.p = x at *
      obtain ⟨f, e⟩ := x
      simp only [retFl] at H
      dsimp only
      by_cases h0 : e = 0
      · rw [if_pos h0]
        subst h0
        refine fn_ok (by kernel_rfl) ty_ok Tryz.func112 rfl (fun _ _ => Tryz.call112 _ _) rfl ?_
        intro hw
        clear hw
        exact zw
      · rw [if_neg h0]
        refine fn_ok (by kernel_rfl) ty_ok Tryz.func112 rfl (fun _ _ => Tryz.call112 _ _) rfl ?_
        intro hw
        clear hw
        exact zw
def movV (m : Md) (a : Ak) : Md × Rp := if askd a.n a.d = 0 then (if a.n * m.d ≤ m.n * a.d then (m, rpE 44) else (⟨a.n, a.d, m.l⟩, ⟨0, 0, 0, 0, 0, btw (allM m.l) m.n m.d a.n a.d⟩)) else (m, rpE (askd a.n a.d))
theorem romoved_fn {m : Md} (hm : mchk m = 0) (a : Ak) : FnOK Tryz.prog 107 [m.dc, a.dc] (retA (movV m a)) := by
  obtain ⟨g1, g2⟩ := mchk_ok hm
  obtain ⟨k1, k2, k3⟩ := fchk_ok g2
  obtain ⟨t1, _, _, _, _⟩ := askd_ok g1
  have HT := roTwin_fn m (by omega)
  have H1 := rasked_fn a.n a.d
  unfold movV
  by_cases h1 : askd a.n a.d = 0
  · rw [if_pos h1]
    rw [h1] at H1
    have t2 := (askd_ok h1).1
    have H2 := rcompare_fn a.n a.d m.n m.d
    by_cases h2 : a.n * m.d ≤ m.n * a.d
    · rw [if_pos h2]
      have h3 : cmpN (a.n * m.d) (m.n * a.d) ≤ 0 := by unfold cmpN; (repeat' split) <;> omega
      generalize cmpN (a.n * m.d) (m.n * a.d) = z at *
      refine fn_ok (by kernel_rfl) ty_ok Tryz.func107 rfl (fun _ _ => Tryz.call107 _ _) rfl ?_
      intro hw
      clear hw
      exact zw
    · rw [if_neg h2]
      have h3 : ¬ cmpN (a.n * m.d) (m.n * a.d) ≤ 0 := by unfold cmpN; (repeat' split) <;> omega
      have H3 := rmBetween_fn g2 t1 t2 (by omega)
      generalize btw (allM m.l) m.n m.d a.n a.d = L at *
      generalize cmpN (a.n * m.d) (m.n * a.d) = z at *
      refine fn_ok (by kernel_rfl) ty_ok Tryz.func107 rfl (fun _ _ => Tryz.call107 _ _) rfl ?_
      intro hw
      clear hw
      exact zw
  · rw [if_neg h1]
    generalize askd a.n a.d = z at *
    refine fn_ok (by kernel_rfl) ty_ok Tryz.func107 rfl (fun _ _ => Tryz.call107 _ _) rfl ?_
    intro hw
    clear hw
    exact zw
theorem roDid_fn {m : Md} (hm : mchk m = 0) (a : Ak) : FnOK Tryz.prog 69 [m.dc, a.dc] (retA (askV m a)) := by
  obtain ⟨g1, g2⟩ := mchk_ok hm
  obtain ⟨k1, k2, k3⟩ := fchk_ok g2
  obtain ⟨t1, _, _, _, _⟩ := askd_ok g1
  have HT := roTwin_fn m (by omega)
  have H0 := roFormed_fn a
  have hk : formV a = true → a.k = 1 ∨ a.k = 2 ∨ a.k = 3 ∨ a.k = 4 ∨ a.k = 5 ∨ a.k = 6 := fun h => by
    unfold formV at h
    have := of_decide_eq_true h
    omega
  cases hf : formV a
  · rw [hf] at H0
    unfold askV
    rw [hf, if_neg (by decide)]
    refine fn_ok (by kernel_rfl) ty_ok Tryz.func69 rfl (fun _ _ => Tryz.call69 _ _) rfl ?_
    intro hw
    clear hw
    exact zw
  rw [hf] at H0
  have hk := hk hf
  by_cases h4 : a.k = 4
  · have H1 := romoved_fn hm a
    have e : askV m a = movV m a := by
      unfold askV movV
      rw [hf, if_pos rfl, if_neg (by omega), if_neg (by omega), if_neg (by omega), if_pos h4]
    rw [e]
    generalize movV m a = x at *
    simp only [retA] at H1
    refine fn_ok (by kernel_rfl) ty_ok Tryz.func69 rfl (fun _ _ => Tryz.call69 _ _) rfl ?_
    intro hw
    clear hw
    exact zw
  by_cases h5 : a.k = 5
  · unfold askV
    rw [hf, if_pos rfl, if_neg (by omega), if_neg (by omega), if_neg (by omega), if_neg (by omega), if_pos h5]
    have H1 := rfOrdered_fn (n := m.n) (m := m.d) k2 k3 (by omega)
    by_cases h1 : m.l.length = 0
    · rw [if_pos h1]
      refine fn_ok (by kernel_rfl) ty_ok Tryz.func69 rfl (fun _ _ => Tryz.call69 _ _) rfl ?_
      intro hw
      clear hw
      repeat' ((conv => whnf); first | (with_reducible first | refine br_t ?_ | refine br_f ?_ | refine za ?_ | refine zg ?_ | refine zo ?_ | refine zb ?_ | refine zm ?_ | refine zc ?_ | refine ze ?_) | rw [List.length_map] | ((with_reducible refine bc_t ?_ ?_); (first | omega | decide)) | ((with_reducible refine bc_f ?_ ?_); (first | omega | decide)) | (with_reducible first | refine bc (fun h => ?_) (fun h => ?_) | refine zt ?_ | refine zf ?_ | refine br_i (fun h => ?_) (fun h => ?_)) | refine zg ?_ | refine zi ?_)
      all_goals conv => whnf
      all_goals rfl
    · rw [if_neg h1]
      have hmem := ldP_mem (n := m.n) (m := m.d) h1
      obtain ⟨p1, p2⟩ := pos_mem k3 hmem
      have hps := (has_pos k3).1 p1
      obtain ⟨hlt, _⟩ := hps
      have H2 := rfAt_fn m.l (ldP m.l m.n m.d).id
      rw [at1_has k3, p1, if_pos rfl] at H2
      have hel := pts_get hlt
      rw [List.getElem?_eq_getElem hlt] at p2
      have p2 : m.l[pos m.l (ldP m.l m.n m.d).id] = ldP m.l m.n m.d := p2
      rw [p2] at hel
      have H3 := roPlace_fn (k2 _ hmem) g1
      have ho : ((ordV m.l m.n m.d).map fun i => [i64 i])[(0 : Int).toNat]? = some [i64 (ldP m.l m.n m.d).id] := by
        have h0 : 0 < (srt m.n m.d m.l).length := by rw [srt_len]; omega
        unfold ordV ldP
        rw [List.map_map, Int.toNat_zero, List.getElem?_map, List.getElem?_eq_getElem h0]
        rfl
      have hol : ((ordV m.l m.n m.d).map fun i => [i64 i]).length = m.l.length := by unfold ordV; simp [srt_len]
      generalize ordV m.l m.n m.d = O at *
      generalize pos m.l (ldP m.l m.n m.d).id = q at *
      generalize ldP m.l m.n m.d = p at *
      refine fn_ok (by kernel_rfl) ty_ok Tryz.func69 rfl (fun _ _ => Tryz.call69 _ _) rfl ?_
      intro hw
      clear hw
      repeat' ((conv => whnf); first | (with_reducible first | refine br_t ?_ | refine br_f ?_ | refine za ?_ | refine zg ?_ | refine zo ?_ | refine zb ?_ | refine zm ?_ | refine zc ?_ | refine ze ?_) | rw [hol] | rw [List.length_map] | ((with_reducible refine bc_t ?_ ?_); (first | omega | decide)) | ((with_reducible refine bc_f ?_ ?_); (first | omega | decide)) | (with_reducible first | refine bc (fun h => ?_) (fun h => ?_) | refine zt ?_ | refine zf ?_ | refine br_i (fun h => ?_) (fun h => ?_)) | refine zg ?_ | refine zi ?_)
      all_goals conv => whnf
      all_goals rfl
  by_cases h6 : a.k = 6
  · unfold askV
    rw [hf, if_pos rfl, if_neg (by omega), if_neg (by omega), if_neg (by omega), if_neg (by omega), if_neg (by omega)]
    unfold closV
    rw [if_pos g2, if_pos g1]
    by_cases h2 : m.l.length < 2
    · rw [if_pos h2]
      refine fn_ok (by kernel_rfl) ty_ok Tryz.func69 rfl (fun _ _ => Tryz.call69 _ _) rfl ?_
      intro hw
      clear hw
      repeat' ((conv => whnf); first | (with_reducible first | refine br_t ?_ | refine br_f ?_ | refine za ?_ | refine zg ?_ | refine zo ?_ | refine zb ?_ | refine zm ?_ | refine zc ?_ | refine ze ?_) | rw [List.length_map] | ((with_reducible refine bc_t ?_ ?_); (first | omega | decide)) | ((with_reducible refine bc_f ?_ ?_); (first | omega | decide)) | (with_reducible first | refine bc (fun h => ?_) (fun h => ?_) | refine zt ?_ | refine zf ?_ | refine br_i (fun h => ?_) (fun h => ?_)) | refine zg ?_ | refine zi ?_)
      all_goals conv => whnf
      all_goals rfl
    · rw [if_neg h2]
      have H1 := roPair_fn k2 g1 (by omega) (by omega)
      generalize pairC m.l m.n m.d = x at *
      generalize (m.l[x.1]?.getD default).id = u at *
      generalize (m.l[x.2.1]?.getD default).id = v at *
      refine fn_ok (by kernel_rfl) ty_ok Tryz.func69 rfl (fun _ _ => Tryz.call69 _ _) rfl ?_
      intro hw
      clear hw
      repeat' ((conv => whnf); first | (with_reducible first | refine br_t ?_ | refine br_f ?_ | refine za ?_ | refine zg ?_ | refine zo ?_ | refine zb ?_ | refine zm ?_ | refine zc ?_ | refine ze ?_) | rw [List.length_map] | ((with_reducible refine bc_t ?_ ?_); (first | omega | decide)) | ((with_reducible refine bc_f ?_ ?_); (first | omega | decide)) | (with_reducible first | refine bc (fun h => ?_) (fun h => ?_) | refine zt ?_ | refine zf ?_ | refine br_i (fun h => ?_) (fun h => ?_)) | refine zg ?_ | refine zi ?_)
      all_goals conv => whnf
      all_goals rfl
  · have H1 := rochanged_fn (m := m) (by omega) a
    have e : askV m a = if (chgF m a).2 = 0 then (⟨m.n, m.d, (chgF m a).1⟩, rp0) else (m, rpE (chgF m a).2) := by
      unfold askV chgF
      rw [hf, if_pos rfl, if_neg h4, if_neg h5]
      rcases hk with h | h | h | h | h | h
      · simp only [if_pos h]
      · simp only [if_neg (show ¬ a.k = 1 by omega), if_pos h]
      · simp only [if_neg (show ¬ a.k = 1 by omega), if_neg (show ¬ a.k = 2 by omega), if_pos h]
      all_goals omega
    rw [e]
    generalize chgF m a = x at *
    obtain ⟨f, z⟩ := x
    dsimp only at H1 ⊢
    by_cases h0 : z = 0
    · rw [if_pos h0] at H1 ⊢
      simp only [Md.dc] at H1
      subst h0
      refine fn_ok (by kernel_rfl) ty_ok Tryz.func69 rfl (fun _ _ => Tryz.call69 _ _) rfl ?_
      intro hw
      clear hw
      exact zw
    · rw [if_neg h0] at H1 ⊢
      refine fn_ok (by kernel_rfl) ty_ok Tryz.func69 rfl (fun _ _ => Tryz.call69 _ _) rfl ?_
      intro hw
      clear hw
      exact zw
end Go.Proofs.YtnhljlihchegjaaGreat

/- Models stay valid. No conditions. -/
namespace Go.Proofs.YtnhljlihchegjaaGreat
open Go Go.RowKit Go.Sort Sx
theorem incr_pw {l : List Pt} : incr l = true ↔ l.Pairwise fun p q => p.id < q.id := by
  rw [List.pairwise_iff_getElem]
  refine ⟨fun h i j hi hj hij => incr_lt h j i hj hij, fun h => incr_iff.2 fun i hi => h i (i + 1) (by omega) hi (by omega)⟩
theorem fchk_mk {l : List Pt} (h1 : l.length ≤ 64) (h2 : ∀ p ∈ l, p.chk = 0) (h3 : incr l = true) : fchk l = 0 := by
  unfold fchk
  rw [if_neg (by omega), if_pos (List.all_eq_true.2 fun p hp => by simpa using h2 p hp), if_pos h3]
theorem incr_insP {l : List Pt} {p : Pt} (h : incr l = true) (hn : has l p.id = false) : incr (insP l p) = true := by
  obtain ⟨h1, h2⟩ := pos_spec (id := p.id) h
  have hne : ∀ q ∈ l, q.id ≠ p.id := fun q hq e => by
    have : has l p.id = true := List.any_eq_true.2 ⟨q, hq, by simp [e]⟩
    rw [hn] at this; cases this
  rw [incr_pw] at h ⊢
  unfold insP
  refine List.pairwise_append.2 ⟨h.sublist (List.take_sublist ..), List.pairwise_cons.2 ⟨fun q hq => ?_, h.sublist (List.drop_sublist ..)⟩, fun a ha b hb => ?_⟩
  · obtain ⟨k, hk, rfl⟩ := List.mem_iff_getElem.1 hq
    rw [List.getElem_drop]
    rw [List.length_drop] at hk
    have := h2 (pos l p.id + k) (by omega) (by omega)
    have := hne _ (List.getElem_mem (show pos l p.id + k < l.length by omega))
    omega
  · have ha' : a.id < p.id := by
      obtain ⟨k, hk, rfl⟩ := List.mem_iff_getElem.1 ha
      rw [List.getElem_take]
      rw [List.length_take] at hk
      exact h1 k (by omega) (by omega)
    rcases List.mem_cons.1 hb with rfl | hb
    · exact ha'
    · obtain ⟨k, hk, rfl⟩ := List.mem_iff_getElem.1 hb
      rw [List.getElem_drop]
      rw [List.length_drop] at hk
      have := h2 (pos l p.id + k) (by omega) (by omega)
      omega
theorem putV_ok {l : List Pt} {p : Pt} (h : (putV l p).2 = 0) : fchk (putV l p).1 = 0 := by
  unfold putV at h ⊢
  split at h
  · rename_i h0
    rw [if_pos h0]
    split at h
    · rename_i h1
      rw [if_pos h1]
      split at h
      · simp at h
      · rename_i h2
        rw [if_neg h2]
        split at h
        · simp at h
        · rename_i h3
          rw [if_neg h3]
          obtain ⟨k1, k2, k3⟩ := fchk_ok h0
          refine fchk_mk ?_ (fun q hq => ?_) (incr_insP k3 (by simpa using h2))
          · show (insP l p).length ≤ 64
            unfold insP
            simp only [List.length_append, List.length_cons, List.length_take, List.length_drop]
            omega
          · have hq : q ∈ insP l p := hq
            unfold insP at hq
            rcases List.mem_append.1 hq with hq | hq
            · exact k2 q (List.mem_of_mem_take hq)
            · rcases List.mem_cons.1 hq with rfl | hq
              · exact h1
              · exact k2 q (List.mem_of_mem_drop hq)
    · simp at h
  · rename_i h0; exact absurd h h0
theorem takeV_ok {l : List Pt} {id : Int} (h : (takeV l id).2 = 0) : fchk (takeV l id).1 = 0 := by
  unfold takeV at h ⊢
  split at h
  · rename_i h0
    rw [if_pos h0]
    split at h
    · rename_i h1
      rw [if_pos h1]
      obtain ⟨k1, k2, k3⟩ := fchk_ok h0
      show fchk (without l id) = 0
      unfold without
      exact fchk_mk (Nat.le_trans (List.length_filter_le ..) k1) (fun q hq => k2 q (List.mem_filter.1 hq).1) (incr_pw.2 ((incr_pw.1 k3).filter _))
    · simp at h
  · rename_i h0; exact absurd h h0
theorem changeV_ok {l : List Pt} {p : Pt} (h : (changeV l p).2 = 0) : fchk (changeV l p).1 = 0 := by
  unfold changeV at h ⊢
  split at h
  · rename_i h0
    rw [if_pos h0]
    split at h
    · rename_i h1
      rw [if_pos h1]
      split at h
      · rename_i h2
        rw [if_pos h2]
        obtain ⟨k1, k2, k3⟩ := fchk_ok h0
        obtain ⟨hlt, he⟩ := (has_pos k3).1 h2
        show fchk (l.set (pos l p.id) p) = 0
        refine fchk_mk (by simpa using k1) (fun q hq => ?_) (incr_pw.2 (List.pairwise_iff_getElem.2 fun i j hi hj hij => ?_))
        · rcases List.mem_or_eq_of_mem_set hq with hq | rfl
          · exact k2 q hq
          · exact h1
        · have key : ∀ k (hk : k < (l.set (pos l p.id) p).length), (l.set (pos l p.id) p)[k].id = (l[k]'(by simpa using hk)).id := fun k hk => by
            rw [List.getElem_set]
            split
            · rename_i e; subst e; exact he.symm
            · rfl
          rw [key, key]
          exact incr_lt k3 j i (by simpa using hj) hij
      · simp at h
    · simp at h
  · rename_i h0; exact absurd h h0
theorem mchk_mk {m : Md} (h1 : askd m.n m.d = 0) (h2 : fchk m.l = 0) : mchk m = 0 := by
  rw [mchk_orN, h1, h2]; rfl
theorem askV_ok {m : Md} (hm : mchk m = 0) (a : Ak) : mchk (askV m a).1 = 0 := by
  obtain ⟨g1, g2⟩ := mchk_ok hm
  unfold askV
  split
  · split
    · split
      · exact mchk_mk g1 (putV_ok (by assumption))
      · exact hm
    · split
      · split
        · exact mchk_mk g1 (takeV_ok (by assumption))
        · exact hm
      · split
        · split
          · exact mchk_mk g1 (changeV_ok (by assumption))
          · exact hm
        · split
          · split
            · split
              · exact hm
              · exact mchk_mk (by assumption) g2
            · exact hm
          · split
            · split <;> exact hm
            · exact hm
  · exact hm
end Go.Proofs.YtnhljlihchegjaaGreat

/- New, Do, Same of oracle and the reference's. No conditions. -/
namespace Go.Proofs.YtnhljlihchegjaaGreat
open Go Go.RowKit Go.Sort Sx
abbrev aks (l : List Ak) : D := .list 7 (l.map Ak.c)
abbrev rps (l : List Rp) : D := .list 6 (l.map Rp.c)
def md0 : Md := ⟨0, 0, []⟩
theorem aks_get {l : List Ak} {i : Nat} (h : i < l.length) : (l.map Ak.c)[((i : Nat) : Int).toNat]? = some [u8 l[i].k, i64 l[i].p.id, i64 l[i].p.a, i64 l[i].p.b, i64 l[i].id, i64 l[i].n, i64 l[i].d] := by
  rw [Int.toNat_natCast, List.getElem?_map, List.getElem?_eq_getElem h]; rfl
theorem rps_get {l : List Rp} {i : Nat} (h : i < l.length) : (l.map Rp.c)[((i : Nat) : Int).toNat]? = some [i64 l[i].e, i64 l[i].i, i64 l[i].j, i64 l[i].n, i64 l[i].d, mts l[i].ms] := by
  rw [Int.toNat_natCast, List.getElem?_map, List.getElem?_eq_getElem h]; rfl
theorem Rp.eq_iff {p q : Rp} : p = q ↔ p.e = q.e ∧ p.i = q.i ∧ p.j = q.j ∧ (p.n = q.n ∧ p.d = q.d) ∧ p.ms = q.ms := by
  cases p; cases q; simp [and_assoc]
theorem wd_rps {l : List Rp} (h : WD (rps l)) : l.length ≤ 9223372036854775807 := by
  obtain ⟨h1, _, h3⟩ := WD_list.1 h
  simpa using h1
theorem wd_aks {l : List Ak} (h : WD (aks l)) : l.length ≤ 9223372036854775807 := by
  obtain ⟨h1, _, h3⟩ := WD_list.1 h
  simpa using h1
def newV (n d : Int) : Md × Int := if askd n d = 0 then (⟨n, d, []⟩, 0) else (md0, askd n d)
abbrev retN (x : Md × Int) : DV := .tup [x.1.dc, .one (i64 x.2)]
theorem oNew_fn (n d : Int) : FnOK Tryz.prog 17 [rat n d] (retN (newV n d)) := by
  have H := asked_fn n d
  unfold newV
  by_cases h : askd n d = 0
  · rw [if_pos h]
    rw [h] at H
    refine fn_ok (by kernel_rfl) ty_ok Tryz.func17 rfl (fun _ _ => Tryz.call17 _ _) rfl ?_
    intro hw
    clear hw
    exact zw
  · rw [if_neg h]
    generalize askd n d = z at *
    refine fn_ok (by kernel_rfl) ty_ok Tryz.func17 rfl (fun _ _ => Tryz.call17 _ _) rfl ?_
    intro hw
    clear hw
    exact zw
theorem roNew_fn (n d : Int) : FnOK Tryz.prog 18 [rat n d] (retN (newV n d)) := by
  have H := rasked_fn n d
  unfold newV
  by_cases h : askd n d = 0
  · rw [if_pos h]
    rw [h] at H
    refine fn_ok (by kernel_rfl) ty_ok Tryz.func18 rfl (fun _ _ => Tryz.call18 _ _) rfl ?_
    intro hw
    clear hw
    exact zw
  · rw [if_neg h]
    generalize askd n d = z at *
    refine fn_ok (by kernel_rfl) ty_ok Tryz.func18 rfl (fun _ _ => Tryz.call18 _ _) rfl ?_
    intro hw
    clear hw
    exact zw
def doV (m : Md) (a : Ak) : Md × Rp × Int := if mchk m = 0 then ((askV m a).1, (askV m a).2, 0) else (md0, rp0, 8)
abbrev retD (x : Md × Rp × Int) : DV := .tup [x.1.dc, x.2.1.dc, .one (i64 x.2.2)]
theorem oDo_fn (m : Md) (a : Ak) : FnOK Tryz.prog 19 [m.dc, a.dc] (retD (doV m a)) := by
  have H := oCheck_fn m
  unfold doV
  by_cases h : mchk m = 0
  · rw [if_pos h]
    have H1 := oask_fn h a
    rw [h] at H
    generalize askV m a = x at *
    simp only [retA] at H1
    refine fn_ok (by kernel_rfl) ty_ok Tryz.func19 rfl (fun _ _ => Tryz.call19 _ _) rfl ?_
    intro hw
    clear hw
    exact zw
  · rw [if_neg h]
    have h8 := (mchk_08 m).resolve_left h
    rw [h8] at H
    refine fn_ok (by kernel_rfl) ty_ok Tryz.func19 rfl (fun _ _ => Tryz.call19 _ _) rfl ?_
    intro hw
    clear hw
    exact zw
theorem roDo_fn (m : Md) (a : Ak) : FnOK Tryz.prog 20 [m.dc, a.dc] (retD (doV m a)) := by
  have H := roCheck_fn m
  unfold doV
  by_cases h : mchk m = 0
  · rw [if_pos h]
    have H1 := roDid_fn h a
    rw [h] at H
    generalize askV m a = x at *
    simp only [retA] at H1
    refine fn_ok (by kernel_rfl) ty_ok Tryz.func20 rfl (fun _ _ => Tryz.call20 _ _) rfl ?_
    intro hw
    clear hw
    exact zw
  · rw [if_neg h]
    have h8 := (mchk_08 m).resolve_left h
    rw [h8] at H
    refine fn_ok (by kernel_rfl) ty_ok Tryz.func20 rfl (fun _ _ => Tryz.call20 _ _) rfl ?_
    intro hw
    clear hw
    exact zw
theorem oSame_fn (a b : Rp) : FnOK Tryz.prog 44 [a.dc, b.dc] (.c (.one (bol (decide (a = b))))) := by
  have H := eqMt_fn a.ms b.ms
  have e := Rp.eq_iff (p := a) (q := b)
  by_cases c : a.ms = b.ms
  · rw [decide_eq_true c] at H
    simp only [c, and_true] at e
    refine fn_ok (by kernel_rfl) ty_ok Tryz.func44 rfl (fun _ _ => Tryz.call44 _ _) rfl ?_
    intro hw
    clear hw
    repeat' ((conv => whnf); first | (with_reducible first | refine br_t ?_ | refine br_f ?_ | refine za ?_ | refine zg ?_ | refine zo ?_ | refine zb ?_ | refine zm ?_ | refine zc ?_ | refine ze ?_) | ((with_reducible refine bc_t ?_ ?_); (first | omega | decide)) | ((with_reducible refine bc_f ?_ ?_); (first | omega | decide)) | (with_reducible first | refine bc (fun h => ?_) (fun h => ?_) | refine zt ?_ | refine zf ?_ | refine br_i (fun h => ?_) (fun h => ?_) | refine xi (pv_bool fun _ => eqv23 _ _ _ _ _ _ _) ?_) | refine zg ?_ | refine zi ?_)
    all_goals conv => whnf
    all_goals
      refine r_bool ?_
      rw [Bool.eq_iff_iff]
      rw [decide_eq_true_eq, e]
      first | (refine iff_of_true rfl ?_; omega) | (refine iff_of_false (by decide) ?_; omega)
  · rw [decide_eq_false c] at H
    simp only [c, and_false, iff_false] at e
    rw [decide_eq_false e]
    refine fn_ok (by kernel_rfl) ty_ok Tryz.func44 rfl (fun _ _ => Tryz.call44 _ _) rfl ?_
    intro hw
    clear hw
    repeat' ((conv => whnf); first | (with_reducible first | refine br_t ?_ | refine br_f ?_ | refine za ?_ | refine zg ?_ | refine zo ?_ | refine zb ?_ | refine zm ?_ | refine zc ?_ | refine ze ?_) | ((with_reducible refine bc_t ?_ ?_); (first | omega | decide)) | ((with_reducible refine bc_f ?_ ?_); (first | omega | decide)) | (with_reducible first | refine bc (fun h => ?_) (fun h => ?_) | refine zt ?_ | refine zf ?_ | refine br_i (fun h => ?_) (fun h => ?_) | refine xi (pv_bool fun _ => eqv23 _ _ _ _ _ _ _) ?_) | refine zg ?_ | refine zi ?_)
    all_goals conv => whnf
    all_goals rfl
theorem roSame_fn (a b : Rp) : FnOK Tryz.prog 24 [a.dc, b.dc] (.c (.one (bol (decide (a = b))))) := by
  have H := rmSame_fn a.ms b.ms
  have e := Rp.eq_iff (p := a) (q := b)
  by_cases c : a.ms = b.ms
  · rw [decide_eq_true c] at H
    simp only [c, and_true] at e
    refine fn_ok (by kernel_rfl) ty_ok Tryz.func24 rfl (fun _ _ => Tryz.call24 _ _) rfl ?_
    intro hw
    clear hw
    repeat' ((conv => whnf); first | (with_reducible first | refine br_t ?_ | refine br_f ?_ | refine za ?_ | refine zg ?_ | refine zo ?_ | refine zb ?_ | refine zm ?_ | refine zc ?_ | refine ze ?_) | ((with_reducible refine bc_t ?_ ?_); (first | omega | decide)) | ((with_reducible refine bc_f ?_ ?_); (first | omega | decide)) | (with_reducible first | refine bc (fun h => ?_) (fun h => ?_) | refine zt ?_ | refine zf ?_ | refine br_i (fun h => ?_) (fun h => ?_) | refine xi (pv_bool fun _ => eqv23 _ _ _ _ _ _ _) ?_) | refine zg ?_ | refine zi ?_)
    all_goals conv => whnf
    all_goals
      refine r_bool ?_
      rw [Bool.eq_iff_iff]
      rw [decide_eq_true_eq, e]
      first | (refine iff_of_true rfl ?_; omega) | (refine iff_of_false (by decide) ?_; omega)
  · rw [decide_eq_false c] at H
    simp only [c, and_false, iff_false] at e
    rw [decide_eq_false e]
    refine fn_ok (by kernel_rfl) ty_ok Tryz.func24 rfl (fun _ _ => Tryz.call24 _ _) rfl ?_
    intro hw
    clear hw
    repeat' ((conv => whnf); first | (with_reducible first | refine br_t ?_ | refine br_f ?_ | refine za ?_ | refine zg ?_ | refine zo ?_ | refine zb ?_ | refine zm ?_ | refine zc ?_ | refine ze ?_) | ((with_reducible refine bc_t ?_ ?_); (first | omega | decide)) | ((with_reducible refine bc_f ?_ ?_); (first | omega | decide)) | (with_reducible first | refine bc (fun h => ?_) (fun h => ?_) | refine zt ?_ | refine zf ?_ | refine br_i (fun h => ?_) (fun h => ?_) | refine xi (pv_bool fun _ => eqv23 _ _ _ _ _ _ _) ?_) | refine zg ?_ | refine zi ?_)
    all_goals conv => whnf
    all_goals rfl
theorem roSameAll_fn (a b : List Rp) : FnOK Tryz.prog 29 [.one (rps a), .one (rps b)] (.c (.one (bol (decide (a = b))))) := by
  refine fn_ok (by kernel_rfl) ty_ok Tryz.func29 rfl (fun _ _ => Tryz.call29 _ _) rfl ?_
  intro hw
  simp only [WDCs, WDC, WDs] at hw
  have w1 := wd_rps hw.1
  have w2 := wd_rps hw.2.1
  clear hw
  by_cases h0 : a.length = b.length
  · repeat' ((conv => whnf); first | (with_reducible first | refine br_t ?_ | refine br_f ?_ | refine za ?_ | refine zg ?_ | refine zo ?_ | refine zb ?_ | refine zm ?_ | refine zc ?_ | refine ze ?_) | rw [List.length_map] | ((with_reducible refine bc_t ?_ ?_); (first | omega | decide)) | ((with_reducible refine bc_f ?_ ?_); (first | omega | decide)) | (with_reducible first | refine bc (fun h => ?_) (fun h => ?_) | refine zt ?_ | refine zf ?_ | refine br_i (fun h => ?_) (fun h => ?_)) | refine zg ?_ | refine zi ?_)
    refine loop_J (by kernel_rfl) ty_ok (σ := Nat) (fun i => [(5, sV (.int .i64 i))]) (fun _ => []) (fun i => i ≤ a.length ∧ a.take i = b.take i) (fun i => a.length - i) 0 ⟨by omega, rfl⟩ ?_ ?_
    · (conv => whnf); exact zent
    rintro i ⟨hi, hI⟩
    rcases Nat.lt_or_ge i a.length with hlt | hge
    · have hb : i < b.length := by omega
      have he1 := rps_get hlt
      have he2 := rps_get hb
      have H := roSame_fn a[i] b[i]
      by_cases hc : a[i] = b[i]
      · rw [decide_eq_true hc] at H
        have hn := take_succ_eq hI hlt hb hc
        clear hc
        repeat' ((conv => whnf); first | (with_reducible first | refine br_t ?_ | refine br_f ?_ | refine za ?_ | refine zg ?_ | refine zo ?_ | refine zb ?_ | refine zm ?_ | refine zc ?_ | refine ze ?_) | rw [List.length_map] | ((with_reducible refine bc_t ?_ ?_); (first | omega | decide)) | ((with_reducible refine bc_f ?_ ?_); (first | omega | decide)) | (with_reducible first | refine bc (fun h => ?_) (fun h => ?_) | refine zt ?_ | refine zf ?_ | refine br_i (fun h => ?_) (fun h => ?_)) | refine zg ?_ | refine zi ?_)
        all_goals conv => whnf
        refine ⟨i + 1, ⟨by omega, hn⟩, ?_, by omega⟩
        (conv => whnf); exact zent
      · rw [decide_eq_false hc] at H
        rw [decide_eq_false (ne_of_get hlt hb hc)]
        clear hc
        repeat' ((conv => whnf); first | (with_reducible first | refine br_t ?_ | refine br_f ?_ | refine za ?_ | refine zg ?_ | refine zo ?_ | refine zb ?_ | refine zm ?_ | refine zc ?_ | refine ze ?_) | rw [List.length_map] | ((with_reducible refine bc_t ?_ ?_); (first | omega | decide)) | ((with_reducible refine bc_f ?_ ?_); (first | omega | decide)) | (with_reducible first | refine bc (fun h => ?_) (fun h => ?_) | refine zt ?_ | refine zf ?_ | refine br_i (fun h => ?_) (fun h => ?_)) | refine zg ?_ | refine zi ?_)
        all_goals conv => whnf
        all_goals rfl
    · rw [decide_eq_true (take_all_eq hI h0 hge)]
      repeat' ((conv => whnf); first | (with_reducible first | refine br_t ?_ | refine br_f ?_ | refine za ?_ | refine zg ?_ | refine zo ?_ | refine zb ?_ | refine zm ?_ | refine zc ?_ | refine ze ?_) | rw [List.length_map] | ((with_reducible refine bc_t ?_ ?_); (first | omega | decide)) | ((with_reducible refine bc_f ?_ ?_); (first | omega | decide)) | (with_reducible first | refine bc (fun h => ?_) (fun h => ?_) | refine zt ?_ | refine zf ?_ | refine br_i (fun h => ?_) (fun h => ?_)) | refine zg ?_ | refine zi ?_)
      all_goals conv => whnf
      all_goals rfl
  · rw [decide_eq_false (fun h => h0 (congrArg List.length h))]
    repeat' ((conv => whnf); first | (with_reducible first | refine br_t ?_ | refine br_f ?_ | refine za ?_ | refine zg ?_ | refine zo ?_ | refine zb ?_ | refine zm ?_ | refine zc ?_ | refine ze ?_) | rw [List.length_map] | ((with_reducible refine bc_t ?_ ?_); (first | omega | decide)) | ((with_reducible refine bc_f ?_ ?_); (first | omega | decide)) | (with_reducible first | refine bc (fun h => ?_) (fun h => ?_) | refine zt ?_ | refine zf ?_ | refine br_i (fun h => ?_) (fun h => ?_)) | refine zg ?_ | refine zi ?_)
    all_goals conv => whnf
    all_goals rfl
end Go.Proofs.YtnhljlihchegjaaGreat

/- A law's arguments: asks and replies. No conditions of its own. -/
namespace Go.Proofs.YtnhljlihchegjaaGreat
open Go Go.RowKit Sx
namespace Sx
def shAsk : Sh := .st (.fc 1 (.int .u8) (.fc 3 shPoint (.fc 1 shInt (.fc 2 shRatio .f0))))
def shAsks : Sh := .sl 7 shAsk
def shMeeting : Sh := .st (.fc 2 shRatio (.fc 1 shInt (.fc 1 shInt .f0)))
def shReply : Sh := .st (.fc 1 shInt (.fc 1 shInt (.fc 1 shInt (.fc 2 shRatio (.fc 1 (.sl 4 shMeeting) .f0)))))
def shPoints : Sh := .sl 3 shPoint
end Sx
theorem fits_ask {ds : List D} (h : Fits shAsk ds) : ∃ a : Ak, ds = a.c := by
  obtain ⟨_, _, rfl, ⟨k, rfl⟩, _, _, rfl, h2, _, _, rfl, ⟨i, rfl⟩, _, _, rfl, h3, rfl⟩ := h
  obtain ⟨p, rfl⟩ := fits_point h2
  obtain ⟨n, d, rfl⟩ := fits_ratio h3
  exact ⟨⟨k, p, i, n, d⟩, rfl⟩
theorem fit_ask {c : DC} (h : FitC shAsk c) : ∃ a : Ak, c = a.dc := by
  obtain ⟨ds, rfl, h⟩ := h
  obtain ⟨a, rfl⟩ := fits_ask h
  exact ⟨a, rfl⟩
theorem fit_asks {c : DC} (h : FitC shAsks c) : ∃ l : List Ak, c = .one (aks l) := by
  obtain ⟨d, rfl, l, e, h2⟩ := h
  injection e with e
  subst e
  obtain ⟨l', rfl⟩ := exists_map (f := Ak.c) fun x hx => fits_ask (h2 x hx)
  exact ⟨l', rfl⟩
theorem fits_meeting {ds : List D} (h : Fits shMeeting ds) : ∃ a : Mt, ds = a.c := by
  obtain ⟨_, _, rfl, h3, _, _, rfl, ⟨i, rfl⟩, _, _, rfl, ⟨j, rfl⟩, rfl⟩ := h
  obtain ⟨n, d, rfl⟩ := fits_ratio h3
  exact ⟨⟨n, d, i, j⟩, rfl⟩
theorem fits_reply {ds : List D} (h : Fits shReply ds) : ∃ a : Rp, ds = a.c := by
  obtain ⟨_, _, rfl, ⟨e, rfl⟩, _, _, rfl, ⟨i, rfl⟩, _, _, rfl, ⟨j, rfl⟩, _, _, rfl, h3, _, _, rfl, ⟨l, rfl, h4⟩, rfl⟩ := h
  obtain ⟨n, d, rfl⟩ := fits_ratio h3
  obtain ⟨l', rfl⟩ := exists_map (f := Mt.c) fun x hx => fits_meeting (h4 x hx)
  exact ⟨⟨e, i, j, n, d, l'⟩, rfl⟩
theorem fit_reply {c : DC} (h : FitC shReply c) : ∃ a : Rp, c = a.dc := by
  obtain ⟨ds, rfl, h⟩ := h
  obtain ⟨a, rfl⟩ := fits_reply h
  exact ⟨a, rfl⟩
theorem fit_points {c : DC} (h : FitC shPoints c) : ∃ l : List Pt, c = .one (pts l) := by
  obtain ⟨d, rfl, h⟩ := h
  obtain ⟨l, e⟩ := fits_pts h
  injection e with e
  subst e
  exact ⟨l, rfl⟩
end Go.Proofs.YtnhljlihchegjaaGreat
