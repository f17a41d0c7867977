import Derived.Test.YtnjgfhgpicmklaaGreatGQAT
set_option linter.all false
namespace Go.Proofs.YtnjgfhgpicmklaaGreat
open Go Go.RowKit Go.Sort Sx
theorem incr_nodup {l : List Pt} (h : incr l = true) : (l.map Pt.id).Nodup := by
  rw [List.nodup_iff_pairwise_ne, List.pairwise_map, List.pairwise_iff_getElem]
  intro i j hi hj hij
  have := incr_lt h j i hj hij
  omega
theorem srt_perm (n m : Int) (l : List Pt) : (srt n m l).Perm l := List.mergeSort_perm l _
theorem srt_len (n m : Int) (l : List Pt) : (srt n m l).length = l.length := List.length_mergeSort _
theorem srt_sorted (n m : Int) (l : List Pt) : (srt n m l).Pairwise fun x y => ¬ ldr n m y x := by
  have h := List.pairwise_mergeSort (le := fun x y => !decide (ldr n m y x)) (fun a b c h1 h2 => by
    simp at *
    unfold ldr at *
    omega) (fun a b => by
    simp only [Bool.or_eq_true, Bool.not_eq_true', decide_eq_false_iff_not]
    unfold ldr
    omega) l
  exact h.imp fun h => by simpa using h
theorem srt_ids {n m : Int} {l : List Pt} (h : incr l = true) {i j : Nat} (hi : i < (srt n m l).length) (hj : j < (srt n m l).length) (hne : i ≠ j) : (srt n m l)[i].id ≠ (srt n m l)[j].id := by
  have hN : ((srt n m l).map Pt.id).Nodup := ((srt_perm n m l).map Pt.id).nodup_iff.2 (incr_nodup h)
  intro e
  have := (List.getElem_inj (xs := (srt n m l).map Pt.id) (i := i) (j := j) (h₀ := by simpa using hi) (h₁ := by simpa using hj) hN).1 (by simpa using e)
  exact hne this
theorem rnk_srt {n m : Int} {l : List Pt} (h : incr l = true) {r : Nat} (hr : r < (srt n m l).length) : rnk l n m (srt n m l)[r] = r := by
  have hp := (srt_perm n m l).countP_eq (fun q => decide (q.id ≠ (srt n m l)[r].id ∧ ldr n m q (srt n m l)[r]))
  have hs := List.pairwise_iff_getElem.1 (srt_sorted n m l)
  have hi := fun i hi => srt_ids (n := n) (m := m) h (i := i) (j := r) hi hr
  unfold rnk
  rw [← hp]
  generalize srt n m l = s at *
  have e : s = s.take r ++ s[r] :: s.drop (r + 1) := by rw [← List.drop_eq_getElem_cons hr, List.take_append_drop]
  have c1 : (s.take r).countP (fun q => decide (q.id ≠ s[r].id ∧ ldr n m q s[r])) = r := by
    rw [List.countP_eq_length.2 (fun q hq => ?_), List.length_take]
    · omega
    · obtain ⟨j, hj, rfl⟩ := List.getElem_of_mem hq
      rw [List.length_take] at hj
      rw [List.getElem_take]
      have k1 := hs j r (by omega) hr (by omega)
      have k2 := hi j (by omega) (by omega)
      rw [decide_eq_true_eq]
      refine ⟨k2, ?_⟩
      unfold ldr at *
      omega
  have c2 : (s.drop (r + 1)).countP (fun q => decide (q.id ≠ s[r].id ∧ ldr n m q s[r])) = 0 := by
    rw [List.countP_eq_zero]
    intro q hq
    obtain ⟨j, hj, rfl⟩ := List.getElem_of_mem hq
    rw [List.length_drop] at hj
    rw [List.getElem_drop]
    have k1 := hs r (r + 1 + j) hr (by omega) (by omega)
    simp only [decide_eq_true_eq, not_and]
    exact fun _ => k1
  conv => lhs; arg 2; rw [e]
  rw [List.countP_append, List.countP_cons, c1, c2]
  simp
theorem rnk_lt {n m : Int} {l : List Pt} (h : incr l = true) {p : Pt} (hp : p ∈ l) : rnk l n m p < l.length := by
  obtain ⟨r, hr, rfl⟩ := List.getElem_of_mem ((srt_perm n m l).mem_iff.2 hp)
  rw [rnk_srt h hr, ← srt_len n m l]; exact hr
theorem srt_rnk {n m : Int} {l : List Pt} (h : incr l = true) {p : Pt} (hp : p ∈ l) : (srt n m l)[rnk l n m p]? = some p := by
  obtain ⟨r, hr, rfl⟩ := List.getElem_of_mem ((srt_perm n m l).mem_iff.2 hp)
  rw [rnk_srt h hr, List.getElem?_eq_getElem hr]
abbrev ints (l : List Int) : D := .list 1 (l.map fun i => [i64 i])
def ordV (l : List Pt) (n m : Int) : List Int := (srt n m l).map Pt.id
set_option maxHeartbeats 1000000 in
theorem rfOrdered_fn {l : List Pt} {n m : Int} (hl : ∀ p ∈ l, p.chk = 0) (hs : incr l = true) (hsz : l.length ≤ 1000000) : FnOK Tryz.prog 103 [fld l, rat n m] (.c (.one (ints (ordV l n m)))) := by
  refine fn_ok (by kernel_rfl) (ty_okK [10] [] [] []) Tryz.func103 rfl (fun _ _ => Tryz.call103 _ _) rfl ?_
  intro hw
  clear hw
  repeat' ((conv => whnf); first | (with_reducible first | refine br_t ?_ | refine br_f ?_ | refine za ?_ | refine zg ?_ | refine zo ?_) | rw [List.length_map] | refine zp ?_ | refine zq ?_ | (with_reducible first | refine bc (fun h => ?_) (fun h => ?_) | refine zt ?_ | refine zf ?_ | refine br_i (fun h => ?_) (fun h => ?_)) | refine zg ?_ | refine zi ?_ | refine zb ?_ | refine zl ?_)
  refine loop_J (by kernel_rfl) (ty_okK [10] [] [] []) (σ := Nat × List (List D)) (fun s => [(6, sV (.int .i64 s.1))]) (fun s => [(10, .row 1 s.2 0)]) (fun s => s.1 ≤ l.length ∧ s.2.length = l.length ∧ (∀ e ∈ s.2, e.length = 1) ∧ ∀ j (h : j < l.length), j < s.1 → s.2[rnk l n m l[j]]? = some [i64 l[j].id]) (fun s => l.length - s.1)
    (0, List.replicate l.length [i64 0]) ⟨Nat.zero_le _, by simp, fun e he => by simp at he; rw [he.2]; rfl, fun j _ h => absurd h (Nat.not_lt_zero _)⟩ ?_ ?_
  · (conv => whnf); exact zent
  rintro ⟨i, o⟩ ⟨h1, h2, h3, h4⟩
  simp only at h1 h2 h3 h4
  rcases Nat.lt_or_ge i l.length with hlt | hge
  · have hel := pts_get hlt
    have H := rfRanked_fn (n := n) (m := m) hl (hl _ (List.getElem_mem hlt))
    have hr := rnk_lt (n := n) (m := m) hs (List.getElem_mem hlt)
    generalize hrr : rnk l n m l[i] = r at *
    obtain ⟨e0, he0⟩ : ∃ e, o[r]? = some e := ⟨_, List.getElem?_eq_getElem (by omega)⟩
    have hlen0 : e0.length = 1 := h3 _ (List.mem_of_getElem? he0)
    match e0, hlen0 with
    | [z], _ =>
      have hel2 : o[((r : Nat) : Int).toNat]? = some [z] := by rw [Int.toNat_natCast]; exact he0
      repeat' ((conv => whnf); first | (with_reducible first | refine br_t ?_ | refine br_f ?_ | refine za ?_ | refine zg ?_ | refine zo ?_) | rw [List.length_map] | refine zp ?_ | refine zq ?_ | (with_reducible first | refine bc (fun h => ?_) (fun h => ?_) | refine zt ?_ | refine zf ?_ | refine br_i (fun h => ?_) (fun h => ?_)) | refine zg ?_ | refine zi ?_ | refine zb ?_ | refine zl ?_)
      all_goals conv => whnf
      refine ⟨(i + 1, o.set r [i64 l[i].id]), ⟨by show _ ≤ _; omega, by simpa using h2, fun e he => ?_, fun j hj hji => ?_⟩, ?_, by show _ - _ < _ - _; omega⟩
      · rcases List.mem_or_eq_of_mem_set he with h | h
        · exact h3 e h
        · rw [h]; rfl
      · rcases Nat.lt_or_ge j i with h | h
        · have hne : r ≠ rnk l n m l[j] := fun e => by
            have k1 := srt_rnk (n := n) (m := m) hs (List.getElem_mem hj)
            have k2 := srt_rnk (n := n) (m := m) hs (List.getElem_mem hlt)
            rw [hrr, e, k1] at k2
            injection k2 with k2
            have := incr_lt hs i j hlt h
            rw [k2] at this; omega
          show (o.set r _)[_]? = _
          rw [List.getElem?_set_ne hne]
          exact h4 j hj h
        · have : j = i := by simp only at hji; omega
          subst this
          show (o.set r _)[_]? = _
          rw [hrr, List.getElem?_set_self (by omega)]
      · (conv => whnf); exact zent
  · have e : o = (ordV l n m).map fun i => [i64 i] := by
      refine List.ext_getElem? fun r => ?_
      rcases Nat.lt_or_ge r l.length with h | h
      · have hr : r < (srt n m l).length := by rw [srt_len]; exact h
        obtain ⟨j, hj, e⟩ := List.getElem_of_mem ((srt_perm n m l).mem_iff.1 (List.getElem_mem hr))
        have := h4 j hj (by omega)
        rw [e, rnk_srt hs hr] at this
        rw [this, ordV, List.map_map, List.getElem?_map, List.getElem?_eq_getElem hr]
        rfl
      · rw [List.getElem?_eq_none (by omega), List.getElem?_eq_none (by simp [ordV, srt_len]; omega)]
    rw [e]
    repeat' ((conv => whnf); first | (with_reducible first | refine br_t ?_ | refine br_f ?_ | refine za ?_ | refine zg ?_ | refine zo ?_) | rw [List.length_map] | refine zp ?_ | refine zq ?_ | (with_reducible first | refine bc (fun h => ?_) (fun h => ?_) | refine zt ?_ | refine zf ?_ | refine br_i (fun h => ?_) (fun h => ?_)) | refine zg ?_ | refine zi ?_ | refine zb ?_ | refine zl ?_)
    all_goals conv => whnf
    all_goals rfl
end Go.Proofs.YtnjgfhgpicmklaaGreat

namespace Go.Proofs.YtnjgfhgpicmklaaGreat
open Go Go.RowKit Go.Sort Sx
theorem ints_get {l : List Int} {i : Nat} (h : i < l.length) : (l.map fun i => [i64 i])[((i : Nat) : Int).toNat]? = some [i64 l[i]] := by
  rw [Int.toNat_natCast, List.getElem?_map, List.getElem?_eq_getElem h]; rfl
def findV (l : List Pt) (id : Int) : Pt × Int := if fchk l = 0 then (if has l id then (l[pos l id]?.getD default, 0) else (⟨0, 0, 0⟩, 6)) else (⟨0, 0, 0⟩, fchk l)
abbrev retPt (x : Pt × Int) : DV := .tup [x.1.dc, .one (i64 x.2)]
theorem fFind_fn (l : List Pt) (id : Int) : FnOK Tryz.prog 87 [fld l, .one (i64 id)] (retPt (findV l id)) := by
  refine fn_ok (by kernel_rfl) ty_ok Tryz.func87 rfl (fun _ _ => Tryz.call87 _ _) rfl ?_
  intro hw
  clear hw
  have H := fplace_fn l id
  unfold findV
  unfold placeV at H
  by_cases h0 : fchk l = 0
  · obtain ⟨k1, k2, k3⟩ := fchk_ok h0
    rw [if_pos h0] at H ⊢
    cases hh : has l id
    · rw [hh, if_neg (by decide)] at H
      repeat' ((conv => whnf); first | (with_reducible first | refine br_t ?_ | refine br_f ?_ | refine za ?_ | refine zg ?_) | rw [List.length_map] | refine zp ?_ | refine zq ?_ | (with_reducible first | refine bc (fun h => ?_) (fun h => ?_) | refine zt ?_ | refine zf ?_ | refine br_i (fun h => ?_) (fun h => ?_)) | refine zg ?_ | refine zi ?_ | refine zb ?_)
      all_goals conv => whnf
      all_goals rfl
    · rw [hh, if_pos rfl] at H
      obtain ⟨hlt, _⟩ := (has_pos k3).1 hh
      have hel := pts_get hlt
      rw [if_pos rfl, List.getElem?_eq_getElem hlt]
      repeat' ((conv => whnf); first | (with_reducible first | refine br_t ?_ | refine br_f ?_ | refine za ?_ | refine zg ?_) | rw [List.length_map] | refine zp ?_ | refine zq ?_ | (with_reducible first | refine bc (fun h => ?_) (fun h => ?_) | refine zt ?_ | refine zf ?_ | refine br_i (fun h => ?_) (fun h => ?_)) | refine zg ?_ | refine zi ?_ | refine zb ?_)
      all_goals conv => whnf
      all_goals rfl
  · rw [if_neg h0] at H ⊢
    generalize fchk l = z at *
    exact zw
theorem at1_has {l : List Pt} {id : Int} (hs : incr l = true) : at1 l id 0 = if has l id then (pos l id : Int) else -1 := by
  obtain ⟨h1, h2⟩ := pos_spec (id := id) hs
  have h3 := has_pos (id := id) hs
  have hne : ∀ k (h : k < l.length), k < pos l id → l[k].id ≠ id := fun k h hk => by have := h1 k h hk; omega
  cases hh : has l id
  · rw [if_neg (by decide)]
    have hn : ∀ k (h : k < l.length), k < l.length → l[k].id ≠ id := fun k h _ e => by
      have : has l id = true := by unfold has; exact List.any_eq_true.2 ⟨_, List.getElem_mem h, by simpa using e⟩
      rw [hh] at this; cases this
    rw [at1_drop rfl (Nat.le_refl _) hn, List.drop_eq_nil_of_le (Nat.le_refl _), at1]
  · obtain ⟨hlt, he⟩ := h3.1 hh
    rw [if_pos rfl, at1_drop rfl (by omega) hne, List.drop_eq_getElem_cons hlt, at1, if_pos he]
end Go.Proofs.YtnjgfhgpicmklaaGreat

namespace Go.Proofs.YtnjgfhgpicmklaaGreat
open Go Go.RowKit Go.Sort Sx
abbrev retFl (x : List Pt × Int) : DV := .tup [fld x.1, .one (i64 x.2)]
def changeV (l : List Pt) (p : Pt) : List Pt × Int := if fchk l = 0 then (if p.chk = 0 then (if has l p.id then (l.set (pos l p.id) p, 0) else ([], 6)) else ([], 8)) else ([], fchk l)
theorem fChange_fn (l : List Pt) (p : Pt) : FnOK Tryz.prog 83 [fld l, p.dc] (retFl (changeV l p)) := by
  have H1 := fCheck_fn l
  have H2 := kCheck_fn p.id p.a p.b
  have H3 := fplace_fn l p.id
  unfold placeV at H3
  unfold changeV
  by_cases h1 : fchk l = 0
  · obtain ⟨k1, k2, k3⟩ := fchk_ok h1
    rw [if_pos h1] at H3 ⊢
    rw [h1] at H1
    by_cases h2 : p.chk = 0
    · rw [if_pos h2]
      unfold Pt.chk at h2
      rw [h2] at H2
      cases hh : has l p.id
      · rw [hh, if_neg (by decide)] at H3
        refine fn_ok (by kernel_rfl) ty_ok Tryz.func83 rfl (fun _ _ => Tryz.call83 _ _) rfl ?_
        intro hw
        clear hw
        exact zw
      · rw [hh, if_pos rfl] at H3
        obtain ⟨hlt, _⟩ := (has_pos k3).1 hh
        have hel := pts_get hlt
        have H4 := clonePt_own (l.map Pt.c) (by simp; omega)
        rw [if_pos rfl]
        have hset : (l.map Pt.c).set ((pos l p.id : Nat) : Int).toNat p.c = (l.set (pos l p.id) p).map Pt.c := by rw [Int.toNat_natCast, List.map_set]
        refine fn_ok (by kernel_rfl) (ty_okK [36] [] [] []) Tryz.func83 rfl (fun _ _ => Tryz.call83 _ _) rfl ?_
        intro hw
        clear hw
        repeat' ((conv => whnf); first | (with_reducible first | refine br_t ?_ | refine br_f ?_ | refine za ?_ | refine zg ?_ | refine zo ?_) | rw [List.length_map] | refine zp ?_ | refine zq ?_ | (with_reducible first | refine bc (fun h => ?_) (fun h => ?_) | refine zt ?_ | refine zf ?_ | refine br_i (fun h => ?_) (fun h => ?_)) | refine zg ?_ | refine zi ?_ | refine zb ?_ | refine zl ?_)
        all_goals conv => whnf
        all_goals exact congrArg (fun x => DV.tup [.agg [.list 3 x], .one (i64 0)]) hset
    · rw [if_neg h2]
      have h8 : cpt p.id p.a p.b = 8 := (cpt_08 p.id p.a p.b).resolve_left h2
      rw [h8] at H2
      refine fn_ok (by kernel_rfl) ty_ok Tryz.func83 rfl (fun _ _ => Tryz.call83 _ _) rfl ?_
      intro hw
      clear hw
      exact zw
  · rw [if_neg h1]
    generalize fchk l = z at *
    refine fn_ok (by kernel_rfl) ty_ok Tryz.func83 rfl (fun _ _ => Tryz.call83 _ _) rfl ?_
    intro hw
    clear hw
    exact zw
theorem rfChange_fn (l : List Pt) (p : Pt) : FnOK Tryz.prog 149 [fld l, p.dc] (retFl (changeV l p)) := by
  have H1 := rfCheck_fn l
  have H2 := kkCheck_fn p.id p.a p.b
  have H3 := rfAt_fn l p.id
  unfold changeV
  by_cases h1 : fchk l = 0
  · obtain ⟨k1, k2, k3⟩ := fchk_ok h1
    rw [if_pos h1]
    rw [h1] at H1
    rw [at1_has k3] at H3
    by_cases h2 : p.chk = 0
    · rw [if_pos h2]
      unfold Pt.chk at h2
      rw [h2] at H2
      cases hh : has l p.id
      · rw [hh, if_neg (by decide)] at H3
        refine fn_ok (by kernel_rfl) ty_ok Tryz.func149 rfl (fun _ _ => Tryz.call149 _ _) rfl ?_
        intro hw
        clear hw
        exact zw
      · rw [hh, if_pos rfl] at H3
        obtain ⟨hlt, _⟩ := (has_pos k3).1 hh
        have hel := pts_get hlt
        have H4 := rfTwin_own l (by omega)
        rw [if_pos rfl]
        have hset : (l.map Pt.c).set ((pos l p.id : Nat) : Int).toNat p.c = (l.set (pos l p.id) p).map Pt.c := by rw [Int.toNat_natCast, List.map_set]
        refine fn_ok (by kernel_rfl) (ty_okK [27] [] [] []) Tryz.func149 rfl (fun _ _ => Tryz.call149 _ _) rfl ?_
        intro hw
        clear hw
        repeat' ((conv => whnf); first | (with_reducible first | refine br_t ?_ | refine br_f ?_ | refine za ?_ | refine zg ?_ | refine zo ?_) | rw [List.length_map] | refine zp ?_ | refine zq ?_ | (with_reducible first | refine bc (fun h => ?_) (fun h => ?_) | refine zt ?_ | refine zf ?_ | refine br_i (fun h => ?_) (fun h => ?_)) | refine zg ?_ | refine zi ?_ | refine zb ?_ | refine zl ?_)
        all_goals conv => whnf
        all_goals exact congrArg (fun x => DV.tup [.agg [.list 3 x], .one (i64 0)]) hset
    · rw [if_neg h2]
      have h8 : cpt p.id p.a p.b = 8 := (cpt_08 p.id p.a p.b).resolve_left h2
      rw [h8] at H2
      refine fn_ok (by kernel_rfl) ty_ok Tryz.func149 rfl (fun _ _ => Tryz.call149 _ _) rfl ?_
      intro hw
      clear hw
      exact zw
  · rw [if_neg h1]
    generalize fchk l = z at *
    refine fn_ok (by kernel_rfl) ty_ok Tryz.func149 rfl (fun _ _ => Tryz.call149 _ _) rfl ?_
    intro hw
    clear hw
    exact zw
def without (l : List Pt) (id : Int) : List Pt := l.filter fun p => decide (p.id ≠ id)
theorem rfWithout_fn (l : List Pt) (id : Int) (hl : l.length ≤ 1000000) : FnOK Tryz.prog 191 [fld l, .one (i64 id)] (.c (fld (without l id))) := by
  refine fn_ok (by kernel_rfl) (ty_okK [30] [] [] []) Tryz.func191 rfl (fun _ _ => Tryz.call191 _ _) rfl ?_
  intro hw
  clear hw
  repeat' ((conv => whnf); first | (with_reducible first | refine br_t ?_ | refine br_f ?_ | refine za ?_ | refine zg ?_ | refine zo ?_) | rw [List.length_map] | refine zp ?_ | refine zq ?_ | (with_reducible first | refine bc (fun h => ?_) (fun h => ?_) | refine zt ?_ | refine zf ?_ | refine br_i (fun h => ?_) (fun h => ?_)) | refine zg ?_ | refine zi ?_ | refine zb ?_ | refine zl ?_)
  refine loop_nameH 5 0 100 rfl rfl rfl ?_
  refine loop_J (by kernel_rfl) (ty_okK [30] [] [] []) (σ := Nat) (fun i => [(6, sV (.int .i64 i))]) (fun i => [(5, .own [.osl 100 0]), (100, .row 3 ((without (l.take i) id).map Pt.c) 0)]) (fun i => i ≤ l.length) (fun i => l.length - i) 0 (Nat.zero_le _) ?_ ?_
  · (conv => whnf); exact zent
  intro i hi
  have hlen : (without (l.take i) id).length ≤ i := by unfold without; refine Nat.le_trans (List.length_filter_le ..) ?_; simp; omega
  rcases Nat.lt_or_ge i l.length with hlt | hge
  · have hel := pts_get hlt
    have hN : without (l.take (i + 1)) id = without (l.take i) id ++ if l[i].id ≠ id then [l[i]] else [] := by
      unfold without
      rw [List.take_succ_eq_append_getElem hlt, List.filter_append]
      by_cases h : l[i].id = id <;> simp [h]
    generalize without (l.take i) id = o at *
    have ho : (o.map Pt.c).length = o.length := List.length_map ..
    by_cases hc : l[i].id = id
    · rw [if_neg (by simp [hc]), List.append_nil] at hN
      repeat' ((conv => whnf); first | (with_reducible first | refine br_t ?_ | refine br_f ?_ | refine za ?_ | refine zg ?_ | refine zo ?_) | rw [List.length_map] | refine zp ?_ | refine zq ?_ | (with_reducible first | refine bc (fun h => ?_) (fun h => ?_) | refine zt ?_ | refine zf ?_ | refine br_i (fun h => ?_) (fun h => ?_)) | refine zg ?_ | refine zi ?_ | refine zb ?_ | refine zl ?_)
      all_goals conv => whnf
      refine ⟨i + 1, by omega, ?_, by omega⟩
      (conv => whnf); refine ⟨by repeat' (first | with_reducible exact zE0 | with_reducible refine zE1 ?_ ?_ | rfl | assumption | (exact congrArg (fun x => some (Blk.row 3 (List.map Pt.c x) 0)) hN.symm) | exact zi1 | exact zb1), by repeat' (first | with_reducible exact zH0 | with_reducible refine zH1 ?_ ?_ | rfl | assumption | (exact congrArg (fun x => some (Blk.row 3 (List.map Pt.c x) 0)) hN.symm)), rfl⟩
    · rw [if_pos hc] at hN
      have ha : o.map Pt.c ++ [l[i].c] = (without (l.take (i + 1)) id).map Pt.c := by rw [hN, List.map_append]; rfl
      repeat' ((conv => whnf); first | (with_reducible first | refine br_t ?_ | refine br_f ?_ | refine za ?_ | refine zg ?_ | refine zo ?_) | rw [List.length_map] | refine zp ?_ | refine zq ?_ | (with_reducible first | refine bc (fun h => ?_) (fun h => ?_) | refine zt ?_ | refine zf ?_ | refine br_i (fun h => ?_) (fun h => ?_)) | refine zg ?_ | refine zi ?_ | refine zb ?_ | refine zl ?_)
      all_goals conv => whnf
      refine ⟨i + 1, by omega, ?_, by omega⟩
      (conv => whnf); refine ⟨by repeat' (first | with_reducible exact zE0 | with_reducible refine zE1 ?_ ?_ | rfl | assumption | (exact congrArg (fun x => some (Blk.row 3 x 0)) ha) | exact zi1 | exact zb1), by repeat' (first | with_reducible exact zH0 | with_reducible refine zH1 ?_ ?_ | rfl | assumption | (exact congrArg (fun x => some (Blk.row 3 x 0)) ha)), rfl⟩
  · rw [List.take_of_length_le hge]
    repeat' ((conv => whnf); first | (with_reducible first | refine br_t ?_ | refine br_f ?_ | refine za ?_ | refine zg ?_ | refine zo ?_) | rw [List.length_map] | refine zp ?_ | refine zq ?_ | (with_reducible first | refine bc (fun h => ?_) (fun h => ?_) | refine zt ?_ | refine zf ?_ | refine br_i (fun h => ?_) (fun h => ?_)) | refine zg ?_ | refine zi ?_ | refine zb ?_ | refine zl ?_)
    all_goals conv => whnf
    all_goals rfl
def takeV (l : List Pt) (id : Int) : List Pt × Int := if fchk l = 0 then (if has l id then (without l id, 0) else ([], 6)) else ([], fchk l)
theorem rfTake_fn (l : List Pt) (id : Int) : FnOK Tryz.prog 148 [fld l, .one (i64 id)] (retFl (takeV l id)) := by
  have H1 := rfCheck_fn l
  have H3 := rfAt_fn l id
  unfold takeV
  by_cases h1 : fchk l = 0
  · obtain ⟨k1, k2, k3⟩ := fchk_ok h1
    rw [if_pos h1]
    rw [h1] at H1
    rw [at1_has k3] at H3
    have H4 := rfWithout_fn l id (by omega)
    cases hh : has l id
    · rw [hh, if_neg (by decide)] at H3
      refine fn_ok (by kernel_rfl) ty_ok Tryz.func148 rfl (fun _ _ => Tryz.call148 _ _) rfl ?_
      intro hw
      clear hw
      exact zw
    · rw [hh, if_pos rfl] at H3
      rw [if_pos rfl]
      refine fn_ok (by kernel_rfl) ty_ok Tryz.func148 rfl (fun _ _ => Tryz.call148 _ _) rfl ?_
      intro hw
      clear hw
      exact zw
  · rw [if_neg h1]
    generalize fchk l = z at *
    refine fn_ok (by kernel_rfl) ty_ok Tryz.func148 rfl (fun _ _ => Tryz.call148 _ _) rfl ?_
    intro hw
    clear hw
    exact zw
end Go.Proofs.YtnjgfhgpicmklaaGreat

namespace Go.Proofs.YtnjgfhgpicmklaaGreat
open Go Go.RowKit Go.Sort Sx
def insP (l : List Pt) (p : Pt) : List Pt := l.take (pos l p.id) ++ p :: l.drop (pos l p.id)
def putV (l : List Pt) (p : Pt) : List Pt × Int := if fchk l = 0 then (if p.chk = 0 then (if has l p.id then ([], 14) else if l.length = 64 then ([], 18) else (insP l p, 0)) else ([], 8)) else ([], fchk l)
def outP (l : List Pt) (p : Pt) (k i : Nat) : List Pt := if i ≤ k then l.take i else l.take k ++ p :: (l.take i).drop k
theorem outP_succ {l : List Pt} {p : Pt} {k i : Nat} (hk : k ≤ l.length) (hi : i < l.length) (hne : i ≠ k) : outP l p k i ++ [l[i]] = outP l p k (i + 1) := by
  unfold outP
  rcases Nat.lt_or_ge i k with h | h
  · rw [if_pos (by omega), if_pos (by omega), List.take_succ_eq_append_getElem hi]
  · rw [if_neg (by omega), if_neg (by omega), List.take_succ_eq_append_getElem hi, List.drop_append_of_le_length (by simp; omega)]
    simp
theorem outP_mid {l : List Pt} {p : Pt} {k : Nat} (hk : k < l.length) : outP l p k k ++ [p] ++ [l[k]] = outP l p k (k + 1) := by
  unfold outP
  rw [if_pos (Nat.le_refl _), if_neg (by omega), List.take_succ_eq_append_getElem hk, List.drop_append_of_le_length (by simp; omega)]
  simp
theorem outP_len (l : List Pt) (p : Pt) (k i : Nat) : (outP l p k i).length ≤ l.length + 1 := by
  unfold outP
  split
  · simp; omega
  · simp; omega
set_option maxHeartbeats 2000000 in
theorem rfPut_fn (l : List Pt) (p : Pt) : FnOK Tryz.prog 147 [fld l, p.dc] (retFl (putV l p)) := by
  have H1 := rfCheck_fn l
  have H2 := kkCheck_fn p.id p.a p.b
  have H3 := rfAt_fn l p.id
  unfold putV
  by_cases h1 : fchk l = 0
  · obtain ⟨k1, k2, k3⟩ := fchk_ok h1
    rw [if_pos h1]
    rw [h1] at H1
    rw [at1_has k3] at H3
    by_cases h2 : p.chk = 0
    · rw [if_pos h2]
      unfold Pt.chk at h2
      rw [h2] at H2
      cases hh : has l p.id
      · rw [hh, if_neg (by decide)] at H3
        rw [if_neg (by decide)]
        by_cases h64 : l.length = 64
        · rw [if_pos h64]
          refine fn_ok (by kernel_rfl) ty_ok Tryz.func147 rfl (fun _ _ => Tryz.call147 _ _) rfl ?_
          intro hw
          clear hw
          repeat' ((conv => whnf); first | (with_reducible first | refine br_t ?_ | refine br_f ?_ | refine za ?_ | refine zg ?_) | rw [List.length_map] | refine zp ?_ | refine zq ?_ | (with_reducible first | refine bc (fun h => ?_) (fun h => ?_) | refine zt ?_ | refine zf ?_ | refine br_i (fun h => ?_) (fun h => ?_)) | refine zg ?_ | refine zi ?_ | refine zb ?_)
          all_goals conv => whnf
          all_goals rfl
        · rw [if_neg h64]
          obtain ⟨s1, s2⟩ := pos_spec (id := p.id) k3
          have hple := pos_le l p.id
          have hgt : ∀ j (h : j < l.length), pos l p.id ≤ j → p.id < l[j].id := fun j h hj => by
            have := s2 j h hj
            have hne : l[j].id ≠ p.id := fun e => by
              have : has l p.id = true := by unfold has; exact List.any_eq_true.2 ⟨_, List.getElem_mem h, by simpa using e⟩
              rw [hh] at this; cases this
            omega
          unfold insP
          generalize pos l p.id = k at *
          have hl := outP_len l p k
          refine fn_ok (by kernel_rfl) (ty_okK [55, 65, 73] [] [] []) Tryz.func147 rfl (fun _ _ => Tryz.call147 _ _) rfl ?_
          intro hw
          clear hw
          repeat' ((conv => whnf); first | (with_reducible first | refine br_t ?_ | refine br_f ?_ | refine za ?_ | refine zg ?_ | refine zo ?_) | rw [List.length_map] | refine zp ?_ | refine zq ?_ | (with_reducible first | refine bc (fun h => ?_) (fun h => ?_) | refine zt ?_ | refine zf ?_ | refine br_i (fun h => ?_) (fun h => ?_)) | refine zg ?_ | refine zi ?_ | refine zb ?_ | refine zl ?_)
          refine loop_nameH 7 0 100 rfl rfl rfl ?_
          refine loop_J (by kernel_rfl) (ty_okK [55, 65, 73] [] [] []) (σ := Nat) (fun i => [(9, sV (.int .i64 i)), (8, sV (.bool (decide (k < i))))]) (fun i => [(7, .own [.osl 100 0]), (100, .row 3 ((outP l p k i).map Pt.c) 0)]) (fun i => i ≤ l.length) (fun i => l.length - i) 0 (Nat.zero_le _) ?_ ?_
          · (conv => whnf); refine ⟨by repeat' (first | with_reducible exact zE0 | with_reducible refine zE1 ?_ ?_ | rfl | assumption | (first | exact congrArg (fun x => some (sV (.bool x))) (decide_eq_false (Nat.not_lt_zero _)).symm | (simp [outP]; done) | (unfold outP; rw [if_pos (Nat.zero_le _)]; rfl)) | exact zi1 | exact zb1), by repeat' (first | with_reducible exact zH0 | with_reducible refine zH1 ?_ ?_ | rfl | assumption | (first | exact congrArg (fun x => some (sV (.bool x))) (decide_eq_false (Nat.not_lt_zero _)).symm | (simp [outP]; done) | (unfold outP; rw [if_pos (Nat.zero_le _)]; rfl))), rfl⟩
          intro i hi
          have hli := hl i
          rcases Nat.lt_or_ge i l.length with hlt | hge
          · have hel := pts_get hlt
            have hoi : ((outP l p k i).map Pt.c).length = (outP l p k i).length := List.length_map ..
            rcases Nat.lt_trichotomy i k with h | h | h
            · have hs := outP_succ (p := p) hple hlt (by omega)
              have hid := s1 i hlt h
              have ha : (outP l p k i).map Pt.c ++ [l[i].c] = (outP l p k (i + 1)).map Pt.c := by rw [← hs, List.map_append]; rfl
              rw [show decide (k < i) = false from decide_eq_false (by omega)]
              repeat' ((conv => whnf); first | (with_reducible first | refine br_t ?_ | refine br_f ?_ | refine za ?_ | refine zg ?_ | refine zo ?_) | rw [List.length_map] | refine zp ?_ | refine zq ?_ | (with_reducible first | refine bc (fun h => ?_) (fun h => ?_) | refine zt ?_ | refine zf ?_ | refine br_i (fun h => ?_) (fun h => ?_)) | refine zg ?_ | refine zi ?_ | refine zb ?_ | refine zl ?_)
              all_goals conv => whnf
              refine ⟨i + 1, by omega, ?_, by omega⟩
              (conv => whnf); refine ⟨by repeat' (first | with_reducible exact zE0 | with_reducible refine zE1 ?_ ?_ | rfl | assumption | (first | exact congrArg (fun x => some (Blk.row 3 x 0)) ha | exact congrArg (fun x => some (sV (.bool x))) (decide_eq_false (by omega)).symm) | exact zi1 | exact zb1), by repeat' (first | with_reducible exact zH0 | with_reducible refine zH1 ?_ ?_ | rfl | assumption | (first | exact congrArg (fun x => some (Blk.row 3 x 0)) ha | exact congrArg (fun x => some (sV (.bool x))) (decide_eq_false (by omega)).symm)), rfl⟩
            · subst h
              have hs := outP_mid (p := p) hlt
              have hid := hgt i hlt (Nat.le_refl _)
              have ha : (outP l p i i).map Pt.c ++ [p.c] ++ [l[i].c] = (outP l p i (i + 1)).map Pt.c := by rw [← hs, List.map_append, List.map_append]; rfl
              rw [show decide (i < i) = false from decide_eq_false (by omega)]
              repeat' ((conv => whnf); first | (with_reducible first | refine br_t ?_ | refine br_f ?_ | refine za ?_ | refine zg ?_ | refine zo ?_) | rw [List.length_map] | refine zp ?_ | refine zq ?_ | (with_reducible first | refine bc (fun h => ?_) (fun h => ?_) | refine zt ?_ | refine zf ?_ | refine br_i (fun h => ?_) (fun h => ?_)) | refine zg ?_ | refine zi ?_ | refine zb ?_ | refine zl ?_)
              all_goals conv => whnf
              refine ⟨i + 1, by omega, ?_, by omega⟩
              (conv => whnf); refine ⟨by repeat' (first | with_reducible exact zE0 | with_reducible refine zE1 ?_ ?_ | rfl | assumption | (first | exact congrArg (fun x => some (Blk.row 3 x 0)) ha | exact congrArg (fun x => some (sV (.bool x))) (decide_eq_true (by omega)).symm) | exact zi1 | exact zb1), by repeat' (first | with_reducible exact zH0 | with_reducible refine zH1 ?_ ?_ | rfl | assumption | (first | exact congrArg (fun x => some (Blk.row 3 x 0)) ha | exact congrArg (fun x => some (sV (.bool x))) (decide_eq_true (by omega)).symm)), rfl⟩
            · have hs := outP_succ (p := p) hple hlt (by omega)
              have ha : (outP l p k i).map Pt.c ++ [l[i].c] = (outP l p k (i + 1)).map Pt.c := by rw [← hs, List.map_append]; rfl
              rw [show decide (k < i) = true from decide_eq_true (by omega)]
              repeat' ((conv => whnf); first | (with_reducible first | refine br_t ?_ | refine br_f ?_ | refine za ?_ | refine zg ?_ | refine zo ?_) | rw [List.length_map] | refine zp ?_ | refine zq ?_ | (with_reducible first | refine bc (fun h => ?_) (fun h => ?_) | refine zt ?_ | refine zf ?_ | refine br_i (fun h => ?_) (fun h => ?_)) | refine zg ?_ | refine zi ?_ | refine zb ?_ | refine zl ?_)
              all_goals conv => whnf
              refine ⟨i + 1, by omega, ?_, by omega⟩
              (conv => whnf); refine ⟨by repeat' (first | with_reducible exact zE0 | with_reducible refine zE1 ?_ ?_ | rfl | assumption | (first | exact congrArg (fun x => some (Blk.row 3 x 0)) ha | exact congrArg (fun x => some (sV (.bool x))) (decide_eq_true (by omega)).symm) | exact zi1 | exact zb1), by repeat' (first | with_reducible exact zH0 | with_reducible refine zH1 ?_ ?_ | rfl | assumption | (first | exact congrArg (fun x => some (Blk.row 3 x 0)) ha | exact congrArg (fun x => some (sV (.bool x))) (decide_eq_true (by omega)).symm)), rfl⟩
          · obtain rfl : i = l.length := by omega
            have hoi : ((outP l p k l.length).map Pt.c).length = (outP l p k l.length).length := List.length_map ..
            by_cases hk : k < l.length
            · have e : outP l p k l.length = l.take k ++ p :: l.drop k := by unfold outP; rw [if_neg (by omega), List.take_length]
              rw [decide_eq_true hk, e]
              repeat' ((conv => whnf); first | (with_reducible first | refine br_t ?_ | refine br_f ?_ | refine za ?_ | refine zg ?_ | refine zo ?_) | rw [List.length_map] | refine zp ?_ | refine zq ?_ | (with_reducible first | refine bc (fun h => ?_) (fun h => ?_) | refine zt ?_ | refine zf ?_ | refine br_i (fun h => ?_) (fun h => ?_)) | refine zg ?_ | refine zi ?_ | refine zb ?_ | refine zl ?_)
              all_goals conv => whnf
              all_goals rfl
            · have hke : k = l.length := by omega
              have e : (outP l p k l.length).map Pt.c ++ [p.c] = (l.take k ++ p :: l.drop k).map Pt.c := by unfold outP; rw [if_pos (by omega), hke]; simp
              rw [decide_eq_false hk]
              repeat' ((conv => whnf); first | (with_reducible first | refine br_t ?_ | refine br_f ?_ | refine za ?_ | refine zg ?_ | refine zo ?_) | rw [List.length_map] | refine zp ?_ | refine zq ?_ | (with_reducible first | refine bc (fun h => ?_) (fun h => ?_) | refine zt ?_ | refine zf ?_ | refine br_i (fun h => ?_) (fun h => ?_)) | refine zg ?_ | refine zi ?_ | refine zb ?_ | refine zl ?_)
              all_goals conv => whnf
              all_goals exact congrArg (fun x => DV.tup [.agg [.list 3 x], .one (i64 0)]) e
      · rw [hh, if_pos rfl] at H3
        rw [if_pos rfl]
        refine fn_ok (by kernel_rfl) ty_ok Tryz.func147 rfl (fun _ _ => Tryz.call147 _ _) rfl ?_
        intro hw
        clear hw
        exact zw
    · rw [if_neg h2]
      have h8 : cpt p.id p.a p.b = 8 := (cpt_08 p.id p.a p.b).resolve_left h2
      rw [h8] at H2
      refine fn_ok (by kernel_rfl) ty_ok Tryz.func147 rfl (fun _ _ => Tryz.call147 _ _) rfl ?_
      intro hw
      clear hw
      exact zw
  · rw [if_neg h1]
    generalize fchk l = z at *
    refine fn_ok (by kernel_rfl) ty_ok Tryz.func147 rfl (fun _ _ => Tryz.call147 _ _) rfl ?_
    intro hw
    clear hw
    exact zw
end Go.Proofs.YtnjgfhgpicmklaaGreat

namespace Go.Proofs.YtnjgfhgpicmklaaGreat
open Go Go.RowKit Go.Sort Sx
structure Mt where
  n : Int
  d : Int
  i : Int
  j : Int
  deriving DecidableEq, Inhabited
def Mt.c (m : Mt) : List D := [i64 m.n, i64 m.d, i64 m.i, i64 m.j]
abbrev Mt.dc (m : Mt) : DC := .agg [i64 m.n, i64 m.d, i64 m.i, i64 m.j]
abbrev mts (l : List Mt) : D := .list 4 (l.map Mt.c)
theorem mlater_fnd {p q r t : Int} (h1 : chk p q = 0) (h2 : chk r t = 0) : FnD Tryz.prog 161 (rat2 p q r t) (ret1 (cmpN (p * t) (r * q))) := by
  refine fn_okD (by kernel_rfl) ty_okD rfl Tryz.func161 rfl (fun _ _ => Tryz.call161 _ _) rfl ?_
  intro hw
  clear hw
  have H := cmp_fnd p q r t
  unfold cmpV bth at H
  rw [if_pos (by rw [h1, if_pos rfl, h2])] at H
  simp only [ret2] at H
  generalize cmpN (p * t) (r * q) = z at *
  repeat' ((conv => whnf); first | (with_reducible first | refine br_t ?_ | refine br_f ?_ | refine zd ?_ | refine za ?_ | refine zg ?_) | refine zp ?_ | refine zq ?_ | (with_reducible first | refine bc (fun h => ?_) (fun h => ?_) | refine zt ?_ | refine zf ?_ | refine br_i (fun h => ?_) (fun h => ?_)) | refine zg ?_ | refine zi ?_ | refine zb ?_)
  all_goals conv => whnf
  all_goals rfl
def orL : List Int → Int
  | [] => 0
  | x :: l => if x = 0 then orL l else x
theorem orL_drop {l : List Int} : ∀ {i : Nat}, i ≤ l.length → (∀ k (h : k < l.length), k < i → l[k] = 0) → orL l = orL (l.drop i)
  | 0, _, _ => rfl
  | i + 1, hi, h => by
    rw [orL_drop (i := i) (by omega) (fun k hk hki => h k hk (by omega)), List.drop_eq_getElem_cons (show i < l.length by omega), orL, if_pos (h i (by omega) (by omega))]
theorem cmporL_fnd (l : List Int) (hl : l.length ≤ 1000000) : FnD Tryz.prog 200 [.one (ints l)] (ret1 (orL l)) := by
  refine fn_okD (by kernel_rfl) ty_okD rfl Tryz.func200 rfl (fun _ _ => Tryz.call200 _ _) rfl ?_
  intro hw
  clear hw
  have hll : (l.map fun i => [i64 i]).length = l.length := List.length_map ..
  repeat' ((conv => whnf); first | (with_reducible first | refine br_t ?_ | refine br_f ?_ | refine zd ?_ | refine za ?_ | refine zg ?_) | refine zp ?_ | refine zq ?_ | (with_reducible first | refine bc (fun h => ?_) (fun h => ?_) | refine zt ?_ | refine zf ?_ | refine br_i (fun h => ?_) (fun h => ?_)) | refine zg ?_ | refine zi ?_ | refine zb ?_)
  refine loop_J (by kernel_rfl) ty_okD (σ := Nat) (fun i => [(8, sV (.int .i64 i))]) (fun _ => []) (fun i => i ≤ l.length ∧ ∀ k (h : k < l.length), k < i → l[k] = 0) (fun i => l.length - i) 0 ⟨Nat.zero_le _, fun k _ h => absurd h (Nat.not_lt_zero _)⟩ ?_ ?_
  · (conv => whnf); exact zent
  rintro i ⟨hi, hI⟩
  rcases Nat.lt_or_ge i l.length with hlt | hge
  · have hel := ints_get hlt
    by_cases hc : l[i] = 0
    · repeat' ((conv => whnf); first | (with_reducible first | refine br_t ?_ | refine br_f ?_ | refine zd ?_ | refine za ?_ | refine zg ?_) | refine zp ?_ | refine zq ?_ | (with_reducible first | refine bc (fun h => ?_) (fun h => ?_) | refine zt ?_ | refine zf ?_ | refine br_i (fun h => ?_) (fun h => ?_)) | refine zg ?_ | refine zi ?_ | refine zb ?_)
      all_goals conv => whnf
      refine ⟨i + 1, ⟨by omega, fun k hk hki => ?_⟩, ?_, by omega⟩
      · rcases Nat.lt_or_ge k i with h | h
        · exact hI k hk h
        · have : k = i := by omega
          subst this; exact hc
      · (conv => whnf); exact zent
    · rw [orL_drop hi hI, List.drop_eq_getElem_cons hlt, orL, if_neg hc]
      repeat' ((conv => whnf); first | (with_reducible first | refine br_t ?_ | refine br_f ?_ | refine zd ?_ | refine za ?_ | refine zg ?_) | refine zp ?_ | refine zq ?_ | (with_reducible first | refine bc (fun h => ?_) (fun h => ?_) | refine zt ?_ | refine zf ?_ | refine br_i (fun h => ?_) (fun h => ?_)) | refine zg ?_ | refine zi ?_ | refine zb ?_)
      all_goals conv => whnf
      all_goals rfl
  · rw [orL_drop hi hI, List.drop_eq_nil_of_le hge, orL]
    repeat' ((conv => whnf); first | (with_reducible first | refine br_t ?_ | refine br_f ?_ | refine zd ?_ | refine za ?_ | refine zg ?_) | refine zp ?_ | refine zq ?_ | (with_reducible first | refine bc (fun h => ?_) (fun h => ?_) | refine zt ?_ | refine zf ?_ | refine br_i (fun h => ?_) (fun h => ?_)) | refine zg ?_ | refine zi ?_ | refine zb ?_)
    all_goals conv => whnf
    all_goals rfl
def cfM (a b : Mt) : Int := orL [cmpN (a.n * b.d) (b.n * a.d), cmpN a.i b.i, cmpN a.j b.j]
theorem morder_fnd {a b : Mt} (h1 : chk a.n a.d = 0) (h2 : chk b.n b.d = 0) : FnD Tryz.prog 165 [a.dc, b.dc] (ret1 (cfM a b)) := by
  have H1 := mlater_fnd h1 h2
  have H2 := cmpint_fnd a.i b.i
  have H3 := cmpint_fnd a.j b.j
  unfold cfM
  have H4 := cmporL_fnd [cmpN (a.n * b.d) (b.n * a.d), cmpN a.i b.i, cmpN a.j b.j] (by simp)
  generalize orL [cmpN (a.n * b.d) (b.n * a.d), cmpN a.i b.i, cmpN a.j b.j] = z at *
  generalize cmpN (a.n * b.d) (b.n * a.d) = x at *
  generalize cmpN a.i b.i = y at *
  generalize cmpN a.j b.j = u at *
  change FnD _ _ [.one (.list 1 [[i64 x], [i64 y], [i64 u]])] _ at H4
  refine fn_okD (by kernel_rfl) ty_okD rfl Tryz.func165 rfl (fun _ _ => Tryz.call165 _ _) rfl ?_
  intro hw
  clear hw
  repeat' ((conv => whnf); first | (with_reducible first | refine br_t ?_ | refine br_f ?_ | refine zd ?_ | refine za ?_ | refine zg ?_) | refine zp ?_ | refine zq ?_ | (with_reducible first | refine bc (fun h => ?_) (fun h => ?_) | refine zt ?_ | refine zf ?_ | refine br_i (fun h => ?_) (fun h => ?_)) | refine zg ?_ | refine zi ?_ | refine zb ?_)
  all_goals conv => whnf
  all_goals rfl
end Go.Proofs.YtnjgfhgpicmklaaGreat

namespace Go.Proofs.YtnjgfhgpicmklaaGreat
open Go Go.RowKit Go.Sort Sx
def Mt.ok (m : Mt) : Prop := chk m.n m.d = 0 ∧ (-9223372036854775808 ≤ m.n ∧ m.n ≤ 9223372036854775807) ∧ m.d ≤ 9223372036854775807 ∧ (-9223372036854775808 ≤ m.i ∧ m.i ≤ 9223372036854775807) ∧ -9223372036854775808 ≤ m.j ∧ m.j ≤ 9223372036854775807
def mlt (a b : Mt) : Prop := qv a.n a.d < qv b.n b.d ∨ qv a.n a.d = qv b.n b.d ∧ (a.i < b.i ∨ a.i = b.i ∧ a.j < b.j)
instance (a b : Mt) : Decidable (mlt a b) := by unfold mlt; infer_instance
def msrt (l : List Mt) : List Mt := l.mergeSort fun x y => !decide (mlt y x)
theorem qv_ltM {p q r t : Int} (h1 : chk p q = 0) (h2 : chk r t = 0) : qv p q < qv r t ↔ p * t < r * q := by
  have e1 := Rat.lt_iff (qv p q) (qv r t)
  rw [qv_num h1, qv_num h2, qv_den h1, qv_den h2] at e1
  exact e1
theorem lt_cfM {a b : Mt} (h1 : a.ok) (h2 : b.ok) : ltOf cfM a b = decide (mlt a b) := by
  have q1 := qv_ltM h1.1 h2.1
  have q2 := qv_ltM h2.1 h1.1
  unfold ltOf
  rw [decide_eq_decide]
  unfold cfM orL orL orL orL mlt cmpN
  generalize qv a.n a.d = x at *
  generalize qv b.n b.d = y at *
  generalize a.n * b.d = u at *
  generalize b.n * a.d = v at *
  have tri : (u < v ∧ x < y) ∨ (v < u ∧ y < x) ∨ (u = v ∧ x = y) := by
    rcases Int.lt_trichotomy u v with h | h | h
    · exact .inl ⟨h, q1.2 h⟩
    · refine .inr (.inr ⟨h, ?_⟩)
      have k1 : ¬ x < y := fun k => by have := q1.1 k; omega
      have k2 : ¬ y < x := fun k => by have := q2.1 k; omega
      exact Rat.le_antisymm (Rat.not_lt.1 k2) (Rat.not_lt.1 k1)
    · exact .inr (.inl ⟨h, q2.2 h⟩)
  rcases tri with ⟨h, k⟩ | ⟨h, k⟩ | ⟨h, k⟩
  · simp [h, k]
  · have k1 : ¬ x < y := fun e => by have := q1.1 e; omega
    have k2 : x ≠ y := fun e => by rw [e] at k; exact absurd k Rat.lt_irrefl
    have k3 : ¬ u < v := by omega
    simp [h, k1, k2, k3]
  · subst h k
    simp [Rat.lt_irrefl]
    (repeat' split) <;> omega
theorem mlt_irrefl (a : Mt) : ¬ mlt a a := by
  unfold mlt
  simp [Rat.lt_irrefl]
theorem mlt_trans {a b c : Mt} (h1 : mlt a b) (h2 : mlt b c) : mlt a c := by
  unfold mlt at *
  rcases h1 with h1 | ⟨e1, h1⟩ <;> rcases h2 with h2 | ⟨e2, h2⟩
  · exact .inl (Std.lt_trans h1 h2)
  · exact .inl (by rw [← e2]; exact h1)
  · exact .inl (by rw [e1]; exact h2)
  · exact .inr ⟨e1.trans e2, by omega⟩
theorem mlt_tri (a b : Mt) : mlt a b ∨ mlt b a ∨ (qv a.n a.d = qv b.n b.d ∧ a.i = b.i ∧ a.j = b.j) := by
  unfold mlt
  by_cases h1 : qv a.n a.d < qv b.n b.d
  · exact .inl (.inl h1)
  · by_cases h2 : qv b.n b.d < qv a.n a.d
    · exact .inr (.inl (.inl h2))
    · have e : qv a.n a.d = qv b.n b.d := Rat.le_antisymm (Rat.not_lt.1 h2) (Rat.not_lt.1 h1)
      rw [e]
      simp only [true_and]
      have := Rat.lt_irrefl (a := qv b.n b.d)
      simp only [this, false_or]
      omega
theorem mlt_eq {a b : Mt} (h1 : chk a.n a.d = 0) (h2 : chk b.n b.d = 0) (k1 : ¬ mlt a b) (k2 : ¬ mlt b a) : a = b := by
  rcases mlt_tri a b with h | h | ⟨h, hi, hj⟩
  · exact absurd h k1
  · exact absurd h k2
  · obtain ⟨e1, e2⟩ := (qv_inj h1 h2).1 h
    cases a; cases b
    simp_all
theorem sortMt_mu {l : List Mt} (hl : ∀ m ∈ l, m.ok) (hsz : l.length ≤ 1000000) : FnMu Tryz.prog 164 4 (l.map Mt.c) [.one (.clo 165 [])] ((msrt l).map Mt.c) := by
  have hnil : ∀ (m : Mt), m.ok → FnMu Tryz.prog 164 4 [] [.one (.clo 165 [])] [] := fun m hm => by
    have := sort_mu (P := Tryz.prog) (ρ := Tryz.sortMt_ren) (α := Unit) (k := 4) Tryz.sortMt (by decide) Tryz.isAgg67 Tryz.sizeOf67 (fun _ => [.int .i64 0, .int .i64 1, .int .i64 0, .int .i64 0]) (fun _ => rfl) (fun _ v hv => by simp at hv; rcases hv with rfl | rfl | rfl <;> exact ⟨rfl, WD_v.1 (wd_i64.2 (by omega))⟩) (fun _ _ => 0)
      ⟨fun _ => rfl, fun _ _ _ h => by simp [ltOf] at h, fun _ _ _ _ _ => rfl⟩ (fun _ _ _ _ => rfl) (g := 165) (caps := []) (fun _ _ => Tryz.call165 _ _) (fun _ _ => Tryz.call164 _ _)
      (fun _ _ => by
        have := morder_fnd (a := ⟨0, 1, 0, 0⟩) (b := ⟨0, 1, 0, 0⟩) (by decide) (by decide)
        exact this) [] (by decide)
    simp only [List.map_nil, List.mergeSort_nil] at this
    exact this
  cases l with
  | nil =>
    rw [show msrt [] = [] by simp [msrt]]
    exact hnil ⟨0, 1, 0, 0⟩ ⟨by decide, by decide, by decide, by decide, by decide⟩
  | cons y ys =>
    generalize hd : y :: ys = l at *
    have : Inhabited {p : Mt // p ∈ l} := ⟨⟨y, by rw [← hd]; exact List.mem_cons_self ..⟩⟩
    have key := sort_mu (P := Tryz.prog) (ρ := Tryz.sortMt_ren) (α := {p : Mt // p ∈ l}) (k := 4) Tryz.sortMt (by decide) Tryz.isAgg67 Tryz.sizeOf67 (fun p => [.int .i64 p.1.n, .int .i64 p.1.d, .int .i64 p.1.i, .int .i64 p.1.j]) (fun _ => rfl) (fun p v hv => by
        obtain ⟨hc, h2, h3, h4, h5⟩ := hl p.1 p.2
        have h6 := ((chk_iff _ _).1 hc).1
        simp at hv
        rcases hv with rfl | rfl | rfl | rfl
        all_goals exact ⟨rfl, WD_v.1 (wd_i64.2 (by omega))⟩) (fun p q => cfM p.1 q.1)
      ⟨fun p => ?_, fun p q r h1 h2 => ?_, fun p q r h1 h2 => ?_⟩ (fun p q h1 h2 => ?_) (g := 165) (caps := []) (fun _ _ => Tryz.call165 _ _) (fun _ _ => Tryz.call164 _ _)
      (fun p q => morder_fnd (hl p.1 p.2).1 (hl q.1 q.2).1) l.attach (by simp; omega)
    · have e1 : (l.attach.map fun p => ([.int .i64 p.1.n, .int .i64 p.1.d, .int .i64 p.1.i, .int .i64 p.1.j] : List Value).map D.v) = l.map Mt.c := by
        rw [show (fun p : {p : Mt // p ∈ l} => ([.int .i64 p.1.n, .int .i64 p.1.d, .int .i64 p.1.i, .int .i64 p.1.j] : List Value).map D.v) = Mt.c ∘ Subtype.val from rfl, ← List.map_map, List.attach_map_subtype_val]
      have e2 : ((l.attach.mergeSort fun x y => !(ltOf fun p q : {p : Mt // p ∈ l} => cfM p.1 q.1) y x).map fun p => ([.int .i64 p.1.n, .int .i64 p.1.d, .int .i64 p.1.i, .int .i64 p.1.j] : List Value).map D.v) = (msrt l).map Mt.c := by
        rw [show (fun p : {p : Mt // p ∈ l} => ([.int .i64 p.1.n, .int .i64 p.1.d, .int .i64 p.1.i, .int .i64 p.1.j] : List Value).map D.v) = Mt.c ∘ Subtype.val from rfl, ← List.map_map]
        rw [List.map_mergeSort (s := fun x y => !decide (mlt y x)) (fun a _ b _ => by
          have := lt_cfM (hl b.1 b.2) (hl a.1 a.2)
          unfold ltOf at this ⊢
          rw [this]), List.attach_map_subtype_val]
        rfl
      rw [e1, e2] at key
      exact key
    · exact (lt_cfM (hl p.1 p.2) (hl p.1 p.2)).trans (decide_eq_false (mlt_irrefl _))
    · have k1 := of_decide_eq_true ((lt_cfM (hl p.1 p.2) (hl q.1 q.2)).symm.trans h1)
      have k2 := of_decide_eq_true ((lt_cfM (hl q.1 q.2) (hl r.1 r.2)).symm.trans h2)
      exact (lt_cfM (hl p.1 p.2) (hl r.1 r.2)).trans (decide_eq_true (mlt_trans k1 k2))
    · have k1 := of_decide_eq_false ((lt_cfM (hl p.1 p.2) (hl q.1 q.2)).symm.trans h1)
      have k2 := of_decide_eq_false ((lt_cfM (hl q.1 q.2) (hl r.1 r.2)).symm.trans h2)
      refine (lt_cfM (hl p.1 p.2) (hl r.1 r.2)).trans (decide_eq_false fun k3 => ?_)
      rcases mlt_tri q.1 p.1 with h | h | h
      · exact k2 (mlt_trans h k3)
      · exact k1 h
      · exact k2 (by rw [mlt_eq (hl q.1 q.2).1 (hl p.1 p.2).1 (fun h' => k2 (mlt_trans h' k3)) k1]; exact k3)
    · have k1 := of_decide_eq_false ((lt_cfM (hl p.1 p.2) (hl q.1 q.2)).symm.trans h1)
      have k2 := of_decide_eq_false ((lt_cfM (hl q.1 q.2) (hl p.1 p.2)).symm.trans h2)
      exact Subtype.ext (mlt_eq (hl p.1 p.2).1 (hl q.1 q.2).1 k1 k2)
end Go.Proofs.YtnjgfhgpicmklaaGreat

namespace Go.Proofs.YtnjgfhgpicmklaaGreat
open Go Go.RowKit Go.Sort Sx
theorem mts_get {l : List Mt} {i : Nat} (h : i < l.length) : (l.map Mt.c)[((i : Nat) : Int).toNat]? = some [i64 l[i].n, i64 l[i].d, i64 l[i].i, i64 l[i].j] := by
  rw [Int.toNat_natCast, List.getElem?_map, List.getElem?_eq_getElem h]; rfl
theorem mbehind1_fn (m : Mt) (n e : Int) (h1 : chk m.n m.d = 0) (h2 : chk n e = 0) : FnOK Tryz.prog 167 [m.dc, rat n e] (ret1 (if n * m.d < m.n * e then 1 else -1)) := by
  have H := (mlater_fnd h1 h2).ok
  by_cases h : n * m.d < m.n * e
  · rw [if_pos h]
    have e1 : cmpN (m.n * e) (n * m.d) = 1 := by unfold cmpN; rw [if_neg (by omega), if_pos h]
    rw [e1] at H
    refine fn_ok (by kernel_rfl) ty_ok Tryz.func167 rfl (fun _ _ => Tryz.call167 _ _) rfl ?_
    intro hw
    clear hw h e1
    exact zw
  · rw [if_neg h]
    have e1 : cmpN (m.n * e) (n * m.d) ≤ 0 := by unfold cmpN; split <;> (try split) <;> omega
    generalize cmpN (m.n * e) (n * m.d) = z at *
    refine fn_ok (by kernel_rfl) ty_ok Tryz.func167 rfl (fun _ _ => Tryz.call167 _ _) rfl ?_
    intro hw
    clear hw h
    exact zw
def bcnt : List Mt → Int → Int → Nat
  | [], _, _ => 0
  | m :: l, n, e => if n * m.d < m.n * e then 0 else bcnt l n e + 1
theorem bcnt_eq : ∀ {l : List Mt} {n e : Int} {i : Nat}, i ≤ l.length → (∀ k (h : k < l.length), k < i → l[k].n * e ≤ n * l[k].d) → (∀ k (h : k < l.length), i ≤ k → n * l[k].d < l[k].n * e) → bcnt l n e = i
  | [], n, e, i, hi, _, _ => by simp at hi; simp [bcnt, hi]
  | m :: l, n, e, 0, hi, h1, h2 => by
    have := h2 0 (by simp) (Nat.le_refl _)
    simp at this
    rw [bcnt, if_pos this]
  | m :: l, n, e, i + 1, hi, h1, h2 => by
    have := h1 0 (by simp) (by omega)
    simp at this
    rw [bcnt, if_neg (by omega), bcnt_eq (by simpa using hi) (fun k h hk => h1 (k + 1) (by simpa using h) (by omega)) (fun k h hk => h2 (k + 1) (by simpa using h) (by omega))]
structure Asc (l : List Mt) : Prop where
  ok : ∀ i (h : i < l.length), chk l[i].n l[i].d = 0
  up : ∀ j i (hj : j < l.length) (hij : i < j), qv l[i].n l[i].d ≤ qv l[j].n l[j].d
theorem bsMt_fn (l : List Mt) (n e : Int) (hs : Asc l) (ht : chk n e = 0) (hl : l.length ≤ 1000000) : FnOK Tryz.prog 166 [.one (mts l), rat n e, .one (.clo 167 [])] (.tup [.one (i64 (bcnt l n e : Nat)), .one (bol false)]) := by
  refine fn_ok (by kernel_rfl) ty_ok Tryz.func166 rfl (fun _ _ => Tryz.call166 _ _) rfl ?_
  intro hw
  clear hw
  have hln : (l.map Mt.c).length = l.length := List.length_map ..
  repeat' ((conv => whnf); first | (with_reducible first | refine br_t ?_ | refine br_f ?_ | refine za ?_ | refine zg ?_) | refine zp ?_ | refine zq ?_ | (with_reducible first | refine bc (fun h => ?_) (fun h => ?_) | refine zt ?_ | refine zf ?_ | refine br_i (fun h => ?_) (fun h => ?_)) | refine zg ?_ | refine zi ?_ | refine zb ?_)
  refine loop_J (by kernel_rfl) ty_ok (σ := Nat × Nat) (fun s => [(9, sV (.int .i64 s.1)), (10, sV (.int .i64 s.2))]) (fun _ => [])
    (fun s => s.1 ≤ s.2 ∧ s.2 ≤ l.length ∧ (∀ k (h : k < l.length), k < s.1 → l[k].n * e ≤ n * l[k].d) ∧ ∀ k (h : k < l.length), s.2 ≤ k → n * l[k].d < l[k].n * e) (fun s => s.2 - s.1) (0, l.length) ⟨by omega, by omega, fun k h hk => absurd hk (Nat.not_lt_zero _), fun k h hk => absurd h (by show ¬ k < l.length; exact Nat.not_lt.2 hk)⟩ ?_ ?_
  · (conv => whnf); exact zent
  rintro ⟨i, j⟩ ⟨h1, h2, h3, h4⟩
  simp only at h1 h2 h3 h4
  rcases Nat.lt_or_ge i j with hlt | hge
  · have hm : (i + j) / 2 < l.length := by omega
    have hmid := mid_eq i j (by omega)
    have hel := mts_get hm
    have HC := mbehind1_fn l[(i + j) / 2] n e (hs.ok _ hm) ht
    have q0 := qv_ltM ht (hs.ok _ hm)
    by_cases hc : n * l[(i + j) / 2].d < l[(i + j) / 2].n * e
    · rw [if_pos hc] at HC
      have hN : ∀ k (h : k < l.length), (i + j) / 2 ≤ k → n * l[k].d < l[k].n * e := fun k h hk => by
        rcases Nat.lt_or_ge ((i + j) / 2) k with h5 | h5
        · exact (qv_ltM ht (hs.ok k h)).1 (Std.lt_of_lt_of_le (q0.2 hc) (hs.up k _ h h5))
        · have : k = (i + j) / 2 := by omega
          subst this; exact hc
      clear hc q0
      repeat' ((conv => whnf); first | (with_reducible first | refine br_t ?_ | refine br_f ?_ | refine za ?_ | refine zg ?_) | rw [hmid] | refine zp ?_ | refine zq ?_ | (with_reducible first | refine bc (fun h => ?_) (fun h => ?_) | refine zt ?_ | refine zf ?_ | refine br_i (fun h => ?_) (fun h => ?_)) | refine zg ?_ | refine zi ?_ | refine zb ?_)
      all_goals conv => whnf
      refine ⟨(i, (i + j) / 2), ⟨by show _ ≤ _; omega, by show _ ≤ _; omega, h3, hN⟩, ?_, by show _ - _ < _ - _; omega⟩
      (conv => whnf); exact zent
    · rw [if_neg hc] at HC
      have hN : ∀ k (h : k < l.length), k < (i + j) / 2 + 1 → l[k].n * e ≤ n * l[k].d := fun k h hk => by
        rcases Nat.lt_or_ge k ((i + j) / 2) with h5 | h5
        · have h6 := hs.up _ k hm h5
          have h7 : ¬ qv n e < qv l[k].n l[k].d := fun h8 => hc (q0.1 (Std.lt_of_lt_of_le h8 h6))
          rw [qv_ltM ht (hs.ok k h)] at h7; omega
        · have : k = (i + j) / 2 := by omega
          subst this; omega
      clear hc q0
      repeat' ((conv => whnf); first | (with_reducible first | refine br_t ?_ | refine br_f ?_ | refine za ?_ | refine zg ?_) | rw [hmid] | refine zp ?_ | refine zq ?_ | (with_reducible first | refine bc (fun h => ?_) (fun h => ?_) | refine zt ?_ | refine zf ?_ | refine br_i (fun h => ?_) (fun h => ?_)) | refine zg ?_ | refine zi ?_ | refine zb ?_)
      all_goals conv => whnf
      refine ⟨((i + j) / 2 + 1, j), ⟨by show _ ≤ _; omega, h2, hN, h4⟩, ?_, by show _ - _ < _ - _; omega⟩
      (conv => whnf); exact zent
  · have eij : i = j := by omega
    subst eij
    have hp := bcnt_eq h2 h3 h4
    rw [hp]
    rcases Nat.lt_or_ge i l.length with hlt | hge2
    · have hel := mts_get hlt
      have HC := mbehind1_fn l[i] n e (hs.ok i hlt) ht
      rw [if_pos (h4 i hlt (Nat.le_refl _))] at HC
      clear h3 h4
      exact zw
    · clear h3 h4
      exact zw
theorem mbehind_fn (l : List Mt) (n e : Int) (hs : Asc l) (ht : chk n e = 0) (hl : l.length ≤ 1000000) : FnOK Tryz.prog 118 [.one (mts l), rat n e] (ret1 (bcnt l n e : Nat)) := by
  refine fn_ok (by kernel_rfl) ty_ok Tryz.func118 rfl (fun _ _ => Tryz.call118 _ _) rfl ?_
  intro hw
  clear hw
  have H := bsMt_fn l n e hs ht hl
  exact zw
end Go.Proofs.YtnjgfhgpicmklaaGreat

namespace Go.Proofs.YtnjgfhgpicmklaaGreat
open Go Go.RowKit Go.Sort Sx
def mchk2 (l : List Pt) (n e r t : Int) : Int := if fchk l = 0 then (if chk n e = 0 then (if chk r t = 0 then (if r * e < n * t then 2 else 0) else 8) else 8) else fchk l
theorem mcheck_fn (l : List Pt) (n e r t : Int) : FnOK Tryz.prog 116 [fld l, .one (.list 2 [[i64 n, i64 e], [i64 r, i64 t]])] (ret1 (mchk2 l n e r t)) := by
  have H1 := fCheck_fn l
  have H2 := check_fn n e
  have H3 := check_fn r t
  have hel0 : ([[i64 n, i64 e], [i64 r, i64 t]] : List (List D))[((0 : Nat) : Int).toNat]? = some [i64 n, i64 e] := rfl
  have hel1 : ([[i64 n, i64 e], [i64 r, i64 t]] : List (List D))[((1 : Nat) : Int).toNat]? = some [i64 r, i64 t] := rfl
  have hlen : ([[i64 n, i64 e], [i64 r, i64 t]] : List (List D)).length = 2 := rfl
  unfold mchk2
  by_cases h1 : fchk l = 0
  · rw [if_pos h1]
    rw [h1] at H1
    refine fn_ok (by kernel_rfl) ty_ok Tryz.func116 rfl (fun _ _ => Tryz.call116 _ _) rfl ?_
    intro hw
    clear hw
    repeat' ((conv => whnf); first | (with_reducible first | refine br_t ?_ | refine br_f ?_ | refine za ?_ | refine zg ?_) | refine zp ?_ | refine zq ?_ | (with_reducible first | refine bc (fun h => ?_) (fun h => ?_) | refine zt ?_ | refine zf ?_ | refine br_i (fun h => ?_) (fun h => ?_)) | refine zg ?_ | refine zi ?_ | refine zb ?_)
    refine loop_J (by kernel_rfl) ty_ok (σ := Nat) (fun i => [(16, sV (.int .i64 i))]) (fun _ => []) (fun i => i = 0 ∨ (i = 1 ∧ chk n e = 0) ∨ (i = 2 ∧ chk n e = 0 ∧ chk r t = 0)) (fun i => 2 - i) 0 (.inl rfl) ?_ ?_
    · (conv => whnf); exact zent
    intro i hi
    rcases hi with rfl | ⟨rfl, h2⟩ | ⟨rfl, h2, h3⟩
    · by_cases h2 : chk n e = 0
      · rw [h2] at H2
        repeat' ((conv => whnf); first | (with_reducible first | refine br_t ?_ | refine br_f ?_ | refine za ?_ | refine zg ?_) | refine zp ?_ | refine zq ?_ | (with_reducible first | refine bc (fun h => ?_) (fun h => ?_) | refine zt ?_ | refine zf ?_ | refine br_i (fun h => ?_) (fun h => ?_)) | refine zg ?_ | refine zi ?_ | refine zb ?_)
        all_goals conv => whnf
        refine ⟨1, .inr (.inl ⟨rfl, h2⟩), ?_, by show 2 - 1 < 2 - 0; decide⟩
        (conv => whnf); exact zent
      · rw [if_neg h2]
        have h8 : chk n e = 8 := (chk_08 n e).resolve_left h2
        rw [h8] at H2
        exact zw
    · rw [if_pos h2]
      by_cases h3 : chk r t = 0
      · rw [h3] at H3
        repeat' ((conv => whnf); first | (with_reducible first | refine br_t ?_ | refine br_f ?_ | refine za ?_ | refine zg ?_) | refine zp ?_ | refine zq ?_ | (with_reducible first | refine bc (fun h => ?_) (fun h => ?_) | refine zt ?_ | refine zf ?_ | refine br_i (fun h => ?_) (fun h => ?_)) | refine zg ?_ | refine zi ?_ | refine zb ?_)
        all_goals conv => whnf
        refine ⟨2, .inr (.inr ⟨rfl, h2, h3⟩), ?_, by show 2 - 2 < 2 - 1; decide⟩
        (conv => whnf); exact zent
      · rw [if_neg h3]
        have h8 : chk r t = 8 := (chk_08 r t).resolve_left h3
        rw [h8] at H3
        exact zw
    · rw [if_pos h2, if_pos h3]
      have H4 := (mlater_fnd h2 h3).ok
      by_cases hc : r * e < n * t
      · rw [if_pos hc]
        have e1 : cmpN (n * t) (r * e) = 1 := by unfold cmpN; rw [if_neg (by omega), if_pos hc]
        rw [e1] at H4
        clear hc e1
        exact zw
      · rw [if_neg hc]
        have e1 : cmpN (n * t) (r * e) ≤ 0 := by unfold cmpN; split <;> (try split) <;> omega
        generalize cmpN (n * t) (r * e) = z at *
        clear hc
        exact zw
  · rw [if_neg h1]
    generalize fchk l = z at *
    refine fn_ok (by kernel_rfl) ty_ok Tryz.func116 rfl (fun _ _ => Tryz.call116 _ _) rfl ?_
    intro hw
    clear hw
    exact zw
end Go.Proofs.YtnjgfhgpicmklaaGreat
