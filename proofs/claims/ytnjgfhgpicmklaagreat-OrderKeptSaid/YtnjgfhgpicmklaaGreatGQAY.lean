import Derived.Test.YtnjgfhgpicmklaaGreatGQAW
import Derived.Test.YtnjgfhgpicmklaaGreatGQAT
import Derived.Test.YtnjgfhgpicmklaaGreatGQAX
import Derived.Lib.SlKeysI
set_option linter.all false
namespace Go.Proofs.YtnjgfhgpicmklaaGreat
open Go Go.RowKit Go.Sort Sx
theorem rmBefore_fn {a b : Mt} (h1 : chk a.n a.d = 0) (h2 : chk b.n b.d = 0) : FnOK Tryz.prog 209 [a.dc, b.dc] (.c (.one (bol (decide (mlt a b))))) := by
  have H := rcompare_fn a.n a.d b.n b.d
  have q1 := qv_ltM h1 h2
  have q2 := qv_ltM h2 h1
  have e : cmpN (a.n * b.d) (b.n * a.d) = -1 ∧ mlt a b ∨ cmpN (a.n * b.d) (b.n * a.d) = 1 ∧ ¬ mlt a b ∨ cmpN (a.n * b.d) (b.n * a.d) = 0 ∧ (mlt a b ↔ (a.i < b.i ∨ a.i = b.i ∧ a.j < b.j)) := by
    unfold cmpN mlt
    by_cases c1 : a.n * b.d < b.n * a.d
    · exact .inl ⟨if_pos c1, .inl (q1.2 c1)⟩
    · by_cases c2 : a.n * b.d > b.n * a.d
      · have k := q2.2 c2
        exact .inr (.inl ⟨by rw [if_neg c1, if_pos c2], fun h => h.elim (fun h => c1 (q1.1 h)) fun h => by rw [h.1] at k; exact Rat.lt_irrefl k⟩)
      · have k : qv a.n a.d = qv b.n b.d := Rat.le_antisymm (Rat.not_lt.1 fun h => c2 (q2.1 h)) (Rat.not_lt.1 fun h => c1 (q1.1 h))
        refine .inr (.inr ⟨by rw [if_neg c1, if_neg c2], ?_⟩)
        rw [k]
        have := Rat.lt_irrefl (a := qv b.n b.d)
        simp only [this, false_or, true_and]
  generalize cmpN (a.n * b.d) (b.n * a.d) = z at *
  simp only [ret1] at H
  rcases e with ⟨rfl, e⟩ | ⟨rfl, e⟩ | ⟨rfl, e⟩
  · rw [decide_eq_true e]
    refine fn_ok (by kernel_rfl) ty_ok Tryz.func209 rfl (fun _ _ => Tryz.call209 _ _) rfl ?_
    intro hw
    clear hw q1 q2
    exact zw
  · rw [decide_eq_false e]
    refine fn_ok (by kernel_rfl) ty_ok Tryz.func209 rfl (fun _ _ => Tryz.call209 _ _) rfl ?_
    intro hw
    clear hw q1 q2
    exact zw
  · refine fn_ok (by kernel_rfl) ty_ok Tryz.func209 rfl (fun _ _ => Tryz.call209 _ _) rfl ?_
    intro hw
    clear hw q1 q2
    repeat' ((conv => whnf); first | (with_reducible first | refine br_t ?_ | refine br_f ?_ | refine za ?_ | refine zg ?_) | refine zp ?_ | refine zq ?_ | (with_reducible first | refine bc (fun h => ?_) (fun h => ?_) | refine zt ?_ | refine zf ?_ | refine br_i (fun h => ?_) (fun h => ?_)) | refine zg ?_ | refine zi ?_ | refine zb ?_)
    all_goals conv => whnf
    all_goals
      refine r_bool ?_
      rw [decide_eq_decide, e]
      omega
def inP (l : List Pt) (i k : Nat) (h : i < l.length) : List (Pt × Pt) := preP l i ++ ((l.drop (i + 1)).take (k - (i + 1))).map (fun q => (l[i], q))
theorem inP_next {l : List Pt} {i k : Nat} (h : i < l.length) (hk : k < l.length) (hik : i < k) : inP l i (k + 1) h = inP l i k h ++ [(l[i], l[k])] := by
  unfold inP
  rw [List.append_assoc]
  congr 1
  rw [show k + 1 - (i + 1) = (k - (i + 1)) + 1 by omega, List.take_succ_eq_append_getElem (by rw [List.length_drop]; omega), List.map_append, List.getElem_drop]
  simp only [List.map_cons, List.map_nil, show i + 1 + (k - (i + 1)) = k by omega]
theorem inP_len {l : List Pt} {i k : Nat} (h : i < l.length) (hl : l.length ≤ 64) : (outs (inP l i k h)).length ≤ 10000 := by
  refine Nat.le_trans (outs_len _) ?_
  have h1 := preP_split (l := l) (i := i + 1) (by omega)
  have h2 := pairs_len l
  have h3 : l.length * l.length ≤ 64 * 64 := Nat.mul_le_mul hl hl
  have h4 := congrArg List.length h1
  rw [preP_succ h] at h4
  unfold inP
  simp only [List.length_append, List.length_map, List.length_take, List.length_drop] at *
  omega
structure InsO (L0 : List Mt) (i : Nat) (L : List Mt) : Prop where
  p : L.Perm L0
  o : ∀ a b (h : a < b) (hb : b < L.length), b < i → ¬ mlt L[b] L[a]
structure InsI (L0 : List Mt) (i k : Nat) (L : List Mt) : Prop where
  p : L.Perm L0
  hk : k ≤ i
  hi : i < L.length
  o : ∀ a b (h : a < b) (hb : b < L.length), b ≤ i → b ≠ k → ¬ mlt L[b] L[a]
def swp (L : List Mt) (k : Nat) (h : k < L.length) : List Mt := (L.set k L[k - 1]).set (k - 1) L[k]
theorem swp_len {L : List Mt} {k : Nat} (h : k < L.length) : (swp L k h).length = L.length := by simp [swp]
theorem swp_get {L : List Mt} {k : Nat} (h : k < L.length) (h0 : 0 < k) {b : Nat} (hb : b < (swp L k h).length) :
    (swp L k h)[b] = if b = k - 1 then L[k] else if b = k then L[k - 1] else L[b]'(by rw [swp_len] at hb; exact hb) := by
  simp only [swp, List.getElem_set, eq_comm (b := b)]
theorem swap_at {x y : Mt} {l r : List Mt} : (l ++ y :: x :: r).Perm (l ++ x :: y :: r) := List.Perm.append_left l (List.Perm.swap ..)
theorem swp_perm {L : List Mt} {k : Nat} (h : k < L.length) (h0 : 0 < k) : (swp L k h).Perm L := by
  obtain ⟨j, rfl⟩ : ∃ j, k = j + 1 := ⟨k - 1, by omega⟩
  have e1 : L = L.take j ++ L[j] :: L[j + 1] :: L.drop (j + 2) := by
    rw [← List.drop_eq_getElem_cons h, ← List.drop_eq_getElem_cons (by omega), List.take_append_drop]
  have e2 : swp L (j + 1) h = L.take j ++ L[j + 1] :: L[j] :: L.drop (j + 2) := by
    refine List.ext_getElem (by rw [swp_len]; simp; omega) fun b h1 h2 => ?_
    rw [swp_get h h0]
    rw [swp_len] at h1
    simp only [Nat.add_sub_cancel]
    rcases Nat.lt_trichotomy b j with c | c | c
    · rw [if_neg (by omega), if_neg (by omega), List.getElem_append_left (by simp; omega), List.getElem_take]
    · subst c
      have hm : min b L.length = b := Nat.min_eq_left (by omega)
      rw [if_pos rfl, List.getElem_append_right (by rw [List.length_take]; omega)]
      simp only [List.length_take, hm, Nat.sub_self, List.getElem_cons_zero]
    · rw [if_neg (by omega), List.getElem_append_right (by simp; omega)]
      by_cases c1 : b = j + 1
      · subst c1
        have key : ∀ q, q = 1 → ∀ (hq : q < (L[j + 1] :: L[j] :: List.drop (j + 2) L).length), (L[j + 1] :: L[j] :: List.drop (j + 2) L)[q] = L[j] := by rintro _ rfl _; rfl
        rw [if_pos rfl]
        exact (key _ (by rw [List.length_take]; omega) _).symm
      · obtain ⟨d, rfl⟩ : ∃ d, b = j + (d + 2) := ⟨b - j - 2, by omega⟩
        rw [if_neg c1]
        simp only [List.length_take, Nat.min_eq_left (show j ≤ L.length by omega), Nat.add_sub_cancel_left, List.getElem_cons_succ, List.getElem_drop]
        exact getElem_congr rfl (by omega) _
  rw [e2]
  conv => rhs; rw [e1]
  exact swap_at
theorem InsI.start {L0 L : List Mt} {i : Nat} (H : InsO L0 i L) (h : i < L.length) : InsI L0 i i L := ⟨H.p, Nat.le_refl _, h, fun a b h hb h1 h2 => H.o a b h hb (by omega)⟩
theorem InsI.stop0 {L0 L : List Mt} {i : Nat} (H : InsI L0 i 0 L) : InsO L0 (i + 1) L := ⟨H.p, fun a b h hb h1 => H.o a b h hb (by omega) (by omega)⟩
theorem InsI.stop {L0 L : List Mt} {i k : Nat} (H : InsI L0 i k L) (h0 : 0 < k) (hn : ¬ mlt (L[k]'(Nat.lt_of_le_of_lt H.hk H.hi)) (L[k - 1]'(by have := H.hk; have := H.hi; omega))) : InsO L0 (i + 1) L := by
  refine ⟨H.p, fun a b h hb h1 => ?_⟩
  by_cases hbk : b = k
  · subst hbk
    by_cases ha : a = b - 1
    · subst ha; exact hn
    · exact mlt_neg (H.o a (b - 1) (by omega) (by omega) (by omega) (by omega)) hn
  · exact H.o a b h hb (by omega) hbk
theorem InsI.next {L0 L : List Mt} {i k : Nat} (H : InsI L0 i k L) (h0 : 0 < k) (hl : mlt (L[k]'(Nat.lt_of_le_of_lt H.hk H.hi)) (L[k - 1]'(by have := H.hk; have := H.hi; omega))) : InsI L0 i (k - 1) (swp L k (Nat.lt_of_le_of_lt H.hk H.hi)) := by
  have hk := H.hk
  have hi := H.hi
  refine ⟨(List.Perm.trans ?_ H.p), by omega, by rw [swp_len]; exact hi, fun a b h hb h1 h2 => ?_⟩
  · exact swp_perm _ h0
  · have hb' := hb
    rw [swp_len] at hb'
    rw [swp_get _ h0, swp_get _ h0]
    rw [if_neg h2]
    by_cases c1 : b = k
    · rw [if_pos c1]
      by_cases c2 : a = k - 1
      · rw [if_pos c2]; exact fun h => mlt_asymm h hl
      · rw [if_neg c2, if_neg (by omega)]
        exact H.o a (k - 1) (by omega) (by omega) (by omega) (by omega)
    · rw [if_neg c1]
      by_cases c2 : a = k - 1
      · rw [if_pos c2]
        exact H.o k b (by omega) hb' h1 c1
      · rw [if_neg c2]
        by_cases c3 : a = k
        · rw [if_pos c3]
          exact H.o (k - 1) b (by omega) hb' h1 c1
        · rw [if_neg c3]
          exact H.o a b h hb' h1 c1
theorem InsO.done {L0 L : List Mt} {i : Nat} (H : InsO L0 i L) (hok : ∀ m ∈ L0, chk m.n m.d = 0) (hi : L.length ≤ i) : L = msrt L0 := by
  refine List.Perm.eq_of_pairwise (le := fun a b => ¬ mlt b a) (fun a b ha hb h1 h2 => ?_) ?_ (msrt_sorted L0) (H.p.trans (msrt_perm L0).symm)
  · exact mlt_eq (hok a (H.p.mem_iff.1 ha)) (hok b (msrt_mem.1 hb)) h2 h1
  · exact List.pairwise_iff_getElem.2 fun a b ha hb h => H.o a b h hb (by omega)
set_option maxHeartbeats 2000000 in
theorem rmPairs_fn {l : List Pt} (hv : fchk l = 0) : FnOK Tryz.prog 184 [fld l] (.c (.one (mts (allM l)))) := by
  obtain ⟨k1, k2, k3⟩ := fchk_ok hv
  refine fn_ok (by kernel_rfl) (ty_okK [3, 51] [] [] []) Tryz.func184 rfl (fun _ _ => Tryz.call184 _ _) rfl ?_
  intro hw
  clear hw
  repeat' ((conv => whnf); first | (with_reducible first | refine br_t ?_ | refine br_f ?_ | refine za ?_ | refine zg ?_ | refine zo ?_) | rw [List.length_map] | refine zp ?_ | refine zq ?_ | (with_reducible first | refine bc (fun h => ?_) (fun h => ?_) | refine zt ?_ | refine zf ?_ | refine br_i (fun h => ?_) (fun h => ?_)) | refine zg ?_ | refine zi ?_ | refine zb ?_ | refine zl ?_)
  refine loop_J (by kernel_rfl) (ty_okK [3, 51] [] [] []) (σ := Nat) (fun i => [(4, sV (.int .i64 i)), (3, .c (.at (.osl 3 0)))]) (fun i => [(3, .row 4 ((outs (preP l i)).map Mt.c) 0)]) (fun i => i ≤ l.length) (fun i => l.length - i) 0 (Nat.zero_le _) ?_ ?_
  · (conv => whnf); refine ⟨by repeat' (first | with_reducible exact zE0 | with_reducible refine zE1 ?_ ?_ | rfl | assumption | ((cases l <;> rfl)) | exact zi1 | exact zb1), by repeat' (first | with_reducible exact zH0 | with_reducible refine zH1 ?_ ?_ | rfl | assumption | ((cases l <;> rfl))), rfl⟩
  intro i hi
  rcases Nat.lt_or_ge i l.length with hlt | hge
  · have hel := pts_get hlt
    repeat' ((conv => whnf); first | (with_reducible first | refine br_t ?_ | refine br_f ?_ | refine za ?_ | refine zg ?_ | refine zo ?_) | rw [List.length_map] | refine zp ?_ | refine zq ?_ | (with_reducible first | refine bc (fun h => ?_) (fun h => ?_) | refine zt ?_ | refine zf ?_ | refine br_i (fun h => ?_) (fun h => ?_)) | refine zg ?_ | refine zi ?_ | refine zb ?_ | refine zl ?_)
    refine loop_J (by kernel_rfl) (ty_okK [3, 51] [] [] []) (σ := Nat) (fun k => [(5, sV (.int .i64 k)), (3, .c (.at (.osl 3 0)))]) (fun k => [(3, .row 4 ((outs (inP l i k hlt)).map Mt.c) 0)]) (fun k => i < k ∧ k ≤ l.length) (fun k => l.length - k) (i + 1) ⟨Nat.lt_succ_self _, hlt⟩ ?_ ?_
    · have e0 : inP l i (i + 1) hlt = preP l i := by unfold inP; simp
      (conv => whnf); refine ⟨by repeat' (first | with_reducible exact zE0 | with_reducible refine zE1 ?_ ?_ | rfl | assumption | ((exact congrArg (fun x => some (Blk.row 4 ((outs x).map Mt.c) 0)) e0.symm)) | exact zi1 | exact zb1), by repeat' (first | with_reducible exact zH0 | with_reducible refine zH1 ?_ ?_ | rfl | assumption | ((exact congrArg (fun x => some (Blk.row 4 ((outs x).map Mt.c) 0)) e0.symm))), rfl⟩
    rintro k ⟨hik, hk⟩
    rcases Nat.lt_or_ge k l.length with hklt | hkge
    · have hel2 := pts_get hklt
      have hlen := inP_len (k := k) hlt k1
      have hsn : outs (inP l i (k + 1) hlt) = outs (inP l i k hlt) ++ (meet1 (l[i], l[k])).toList := by rw [inP_next hlt hklt hik, outs_snoc]
      have hne : l[i].id ≠ l[k].id := by have := incr_lt k3 k i hklt hik; omega
      have HM := kkMet_fn l[i].id l[i].a l[i].b l[k].id l[k].a l[k].b (k2 _ (List.getElem_mem hlt)) (k2 _ (List.getElem_mem hklt))
      rcases meet_cases (k2 _ (List.getElem_mem hlt)) (k2 _ (List.getElem_mem hklt)) hne with ⟨hb, e⟩ | ⟨hb, e, _⟩
      · rw [e] at hsn
        clear HM
        repeat' ((conv => whnf); first | (with_reducible first | refine br_t ?_ | refine br_f ?_ | refine za ?_ | refine zg ?_ | refine zo ?_) | rw [List.length_map] | refine zp ?_ | refine zq ?_ | (with_reducible first | refine bc (fun h => ?_) (fun h => ?_) | refine zt ?_ | refine zf ?_ | refine br_i (fun h => ?_) (fun h => ?_)) | refine zg ?_ | refine zi ?_ | refine zb ?_ | refine zl ?_)
        all_goals conv => whnf
        refine ⟨k + 1, ⟨by omega, by omega⟩, ?_, by omega⟩
        (conv => whnf); refine ⟨by repeat' (first | with_reducible exact zE0 | with_reducible refine zE1 ?_ ?_ | rfl | assumption | ((exact congrArg (fun x => some (Blk.row 4 (x.map Mt.c) 0)) (hsn.trans (List.append_nil _)).symm)) | exact zi1 | exact zb1), by repeat' (first | with_reducible exact zH0 | with_reducible refine zH1 ?_ ?_ | rfl | assumption | ((exact congrArg (fun x => some (Blk.row 4 (x.map Mt.c) 0)) (hsn.trans (List.append_nil _)).symm))), rfl⟩
      · rw [e] at hsn
        generalize makeV (l[i].a - l[k].a) (l[k].b - l[i].b) = mv at *
        have ha : (outs (inP l i k hlt)).map Mt.c ++ [[i64 mv.1, i64 mv.2.1, i64 l[i].id, i64 l[k].id]] = (outs (inP l i (k + 1) hlt)).map Mt.c := by rw [hsn, List.map_append]; rfl
        generalize outs (inP l i k hlt) = o at *
        have hol : (o.map Mt.c).length = o.length := List.length_map ..
        repeat' ((conv => whnf); first | (with_reducible first | refine br_t ?_ | refine br_f ?_ | refine za ?_ | refine zg ?_ | refine zo ?_) | rw [List.length_map] | refine zp ?_ | refine zq ?_ | (with_reducible first | refine bc (fun h => ?_) (fun h => ?_) | refine zt ?_ | refine zf ?_ | refine br_i (fun h => ?_) (fun h => ?_)) | refine zg ?_ | refine zi ?_ | refine zb ?_ | refine zl ?_)
        all_goals conv => whnf
        refine ⟨k + 1, ⟨by omega, by omega⟩, ?_, by omega⟩
        (conv => whnf); refine ⟨by repeat' (first | with_reducible exact zE0 | with_reducible refine zE1 ?_ ?_ | rfl | assumption | ((exact congrArg (fun x => some (Blk.row 4 x 0)) ha)) | exact zi1 | exact zb1), by repeat' (first | with_reducible exact zH0 | with_reducible refine zH1 ?_ ?_ | rfl | assumption | ((exact congrArg (fun x => some (Blk.row 4 x 0)) ha))), rfl⟩
    · obtain rfl : k = l.length := by omega
      repeat' ((conv => whnf); first | (with_reducible first | refine br_t ?_ | refine br_f ?_ | refine za ?_ | refine zg ?_ | refine zo ?_) | rw [List.length_map] | refine zp ?_ | refine zq ?_ | (with_reducible first | refine bc (fun h => ?_) (fun h => ?_) | refine zt ?_ | refine zf ?_ | refine br_i (fun h => ?_) (fun h => ?_)) | refine zg ?_ | refine zi ?_ | refine zb ?_ | refine zl ?_)
      all_goals conv => whnf
      refine ⟨i + 1, hlt, ?_, by omega⟩
      have e : inP l i l.length hlt = preP l (i + 1) := by
        rw [preP_succ hlt]; unfold inP; rw [List.take_of_length_le (by rw [List.length_drop]; omega)]
      (conv => whnf); refine ⟨by repeat' (first | with_reducible exact zE0 | with_reducible refine zE1 ?_ ?_ | rfl | assumption | ((exact congrArg (fun x => some (Blk.row 4 ((outs x).map Mt.c) 0)) e)) | exact zi1 | exact zb1), by repeat' (first | with_reducible exact zH0 | with_reducible refine zH1 ?_ ?_ | rfl | assumption | ((exact congrArg (fun x => some (Blk.row 4 ((outs x).map Mt.c) 0)) e))), rfl⟩
  · obtain rfl : i = l.length := by omega
    rw [preP_all]
    have hok : ∀ m ∈ outs (pairsOf l), chk m.n m.d = 0 := fun m hm => (outs_ok hv m hm).1.1
    have hln := outs_len2 k1
    unfold allM
    generalize outs (pairsOf l) = L0 at *
    have hol : (L0.map Mt.c).length = L0.length := List.length_map ..
    repeat' ((conv => whnf); first | (with_reducible first | refine br_t ?_ | refine br_f ?_ | refine za ?_ | refine zg ?_ | refine zo ?_) | rw [List.length_map] | refine zp ?_ | refine zq ?_ | (with_reducible first | refine bc (fun h => ?_) (fun h => ?_) | refine zt ?_ | refine zf ?_ | refine br_i (fun h => ?_) (fun h => ?_)) | refine zg ?_ | refine zi ?_ | refine zb ?_ | refine zl ?_)
    refine loop_J (by kernel_rfl) (ty_okK [3, 51] [] [] []) (σ := Nat × List Mt) (fun s => [(8, sV (.int .i64 s.1)), (3, .c (.at (.osl 3 0)))]) (fun s => [(3, .row 4 (s.2.map Mt.c) 0)]) (fun s => 1 ≤ s.1 ∧ s.1 ≤ L0.length + 1 ∧ InsO L0 s.1 s.2) (fun s => L0.length + 1 - s.1) (1, L0) ⟨Nat.le_refl _, Nat.le_add_left .., .refl _, fun a b h hb h1 => by omega⟩ ?_ ?_
    · (conv => whnf); exact zent
    rintro ⟨i, L⟩ ⟨hi1, hi2, HI⟩
    dsimp only at hi1 hi2 HI
    have hLl : L.length = L0.length := HI.p.length_eq
    have hLl2 : ((i, L) : Nat × List Mt).snd.length = L0.length := hLl
    have hLl3 : (L.map Mt.c).length = L0.length := (List.length_map ..).trans hLl
    rcases Nat.lt_or_ge i L.length with hlt | hge
    · repeat' ((conv => whnf); first | (with_reducible first | refine br_t ?_ | refine br_f ?_ | refine za ?_ | refine zg ?_ | refine zo ?_) | rw [List.length_map] | refine zp ?_ | refine zq ?_ | (with_reducible first | refine bc (fun h => ?_) (fun h => ?_) | refine zt ?_ | refine zf ?_ | refine br_i (fun h => ?_) (fun h => ?_)) | refine zg ?_ | refine zi ?_ | refine zb ?_ | refine zl ?_)
      refine loop_J (by kernel_rfl) (ty_okK [3, 51] [] [] []) (σ := Nat × List Mt) (fun s => [(9, sV (.int .i64 s.1)), (3, .c (.at (.osl 3 0)))]) (fun s => [(3, .row 4 (s.2.map Mt.c) 0)]) (fun s => InsI L0 i s.1 s.2) (fun s => s.1) (i, L) (InsI.start HI hlt) ?_ ?_
      · (conv => whnf); exact zent
      rintro ⟨k, M⟩ HK
      dsimp only at HK
      have hMl : M.length = L0.length := HK.p.length_eq
      have hMl2 : ((k, M) : Nat × List Mt).snd.length = L0.length := hMl
      have hki := HK.hk
      rcases Nat.eq_zero_or_pos k with rfl | h0
      · repeat' ((conv => whnf); first | (with_reducible first | refine br_t ?_ | refine br_f ?_ | refine za ?_ | refine zg ?_ | refine zo ?_) | rw [List.length_map] | refine zp ?_ | refine zq ?_ | (with_reducible first | refine bc (fun h => ?_) (fun h => ?_) | refine zt ?_ | refine zf ?_ | refine br_i (fun h => ?_) (fun h => ?_)) | refine zg ?_ | refine zi ?_ | refine zb ?_ | refine zl ?_)
        all_goals conv => whnf
        refine ⟨(i + 1, M), ⟨by omega, by omega, HK.stop0⟩, ?_, by simp only; omega⟩
        (conv => whnf); exact zent
      · have hkM : k < M.length := by omega
        have hel1 := mts_get hkM
        have ew : IntKind.i64.wrap ((k : Int) - 1) = ((k - 1 : Nat) : Int) := by rw [IntWalk.i64_in _ (by omega)]; omega
        have hel2 : (M.map Mt.c)[(IntKind.i64.wrap ((k : Int) - 1)).toNat]? = some [i64 M[k - 1].n, i64 M[k - 1].d, i64 M[k - 1].i, i64 M[k - 1].j] := by
          rw [ew]; exact (mts_get (l := M) (i := k - 1) (by omega))
        have HB := rmBefore_fn (hok _ (HK.p.mem_iff.1 (List.getElem_mem hkM))) (hok _ (HK.p.mem_iff.1 (List.getElem_mem (show k - 1 < M.length by omega))))
        by_cases hm : mlt M[k] M[k - 1]
        · have HN := HK.next h0 hm
          rw [decide_eq_true hm] at HB
          have hset : ((M.map Mt.c).set ((k : Nat) : Int).toNat [i64 M[k - 1].n, i64 M[k - 1].d, i64 M[k - 1].i, i64 M[k - 1].j]).set (IntKind.i64.wrap ((k : Int) - 1)).toNat [i64 M[k].n, i64 M[k].d, i64 M[k].i, i64 M[k].j] = (swp M k hkM).map Mt.c := by
            rw [ew, Int.toNat_natCast, Int.toNat_natCast]
            unfold swp
            rw [List.map_set, List.map_set]
            rfl
          generalize M[k] = mk, M[k - 1] = mj at *
          have hel3 : ((M.map Mt.c).set ((k : Nat) : Int).toNat [i64 mj.n, i64 mj.d, i64 mj.i, i64 mj.j])[(IntKind.i64.wrap ((k : Int) - 1)).toNat]? = some [i64 mj.n, i64 mj.d, i64 mj.i, i64 mj.j] := by
            rw [List.getElem?_set_ne (by rw [ew]; omega)]; exact hel2
          repeat' ((conv => whnf); first | (with_reducible first | refine br_t ?_ | refine br_f ?_ | refine za ?_ | refine zg ?_ | refine zo ?_) | refine And.intro (by rw [ew]; omega) ?_ | refine ⟨_, ⟨hel3, by decide⟩, ?_⟩ | simp only [List.length_map, List.length_set] | refine zp ?_ | refine zq ?_ | (with_reducible first | refine bc (fun h => ?_) (fun h => ?_) | refine zt ?_ | refine zf ?_ | refine br_i (fun h => ?_) (fun h => ?_)) | refine zg ?_ | refine zi ?_ | refine zb ?_ | refine zl ?_)
          all_goals conv => whnf
          refine ⟨(k - 1, swp M k hkM), HN, ?_, by simp only; omega⟩
          (conv => whnf); refine ⟨by repeat' (first | with_reducible exact zE0 | with_reducible refine zE1 ?_ ?_ | rfl | assumption | ((exact congrArg (fun x => some (Blk.row 4 x 0)) hset)) | exact zi1 | exact zb1), by repeat' (first | with_reducible exact zH0 | with_reducible refine zH1 ?_ ?_ | rfl | assumption | ((exact congrArg (fun x => some (Blk.row 4 x 0)) hset))), rfl⟩
        · have HN := HK.stop h0 hm
          rw [decide_eq_false hm] at HB
          generalize M[k] = mk, M[k - 1] = mj at *
          repeat' ((conv => whnf); first | (with_reducible first | refine br_t ?_ | refine br_f ?_ | refine za ?_ | refine zg ?_ | refine zo ?_) | refine And.intro (by rw [ew]; omega) ?_ | rw [List.length_map] | refine zp ?_ | refine zq ?_ | (with_reducible first | refine bc (fun h => ?_) (fun h => ?_) | refine zt ?_ | refine zf ?_ | refine br_i (fun h => ?_) (fun h => ?_)) | refine zg ?_ | refine zi ?_ | refine zb ?_ | refine zl ?_)
          all_goals conv => whnf
          refine ⟨(i + 1, M), ⟨by omega, by omega, HN⟩, ?_, by simp only; omega⟩
          (conv => whnf); exact zent
    · have e := HI.done hok hge
      subst e
      repeat' ((conv => whnf); first | (with_reducible first | refine br_t ?_ | refine br_f ?_ | refine za ?_ | refine zg ?_ | refine zo ?_) | rw [List.length_map] | refine zp ?_ | refine zq ?_ | (with_reducible first | refine bc (fun h => ?_) (fun h => ?_) | refine zt ?_ | refine zf ?_ | refine br_i (fun h => ?_) (fun h => ?_)) | refine zg ?_ | refine zi ?_ | refine zb ?_ | refine zl ?_)
      all_goals conv => whnf
      all_goals rfl
end Go.Proofs.YtnjgfhgpicmklaaGreat

namespace Go.Proofs.YtnjgfhgpicmklaaGreat
open Go Go.RowKit Go.Sort Sx
theorem wd_mts {l : List Mt} (h : WD (mts l)) : l.length ≤ 9223372036854775807 := by
  obtain ⟨h1, _, h3⟩ := WD_list.1 h
  simpa using h1
theorem Mt.eq_iff {p q : Mt} : p = q ↔ p.n = q.n ∧ p.d = q.d ∧ p.i = q.i ∧ p.j = q.j := by
  cases p; cases q; simp
theorem bcnt_ge {l : List Mt} (hs : Asc l) {n e : Int} (h1 : chk n e = 0) {k : Nat} (h : k < l.length) (hk : bcnt l n e ≤ k) : n * l[k].d < l[k].n * e := by
  have hb : bcnt l n e < l.length := by omega
  have q1 := (qv_ltM h1 (hs.ok _ hb)).2 (bcnt_at hb)
  refine (qv_ltM h1 (hs.ok _ h)).1 ?_
  rcases Nat.eq_or_lt_of_le hk with e | hlt
  · subst e; exact q1
  · exact Std.lt_of_lt_of_le q1 (hs.up k _ h hlt)
def inT (n e r t : Int) (m : Mt) : Bool := decide (n * m.d < m.n * e) && !decide (r * m.d < m.n * t)
theorem btw_filter {l : List Mt} (hs : Asc l) {n e r t : Int} (h1 : chk n e = 0) (h2 : chk r t = 0) (h : ¬ r * e < n * t) : l.filter (inT n e r t) = btw l n e r t := by
  have hm := bcnt_mono hs h1 h2 h
  have hb := bcnt_le l r t
  have g1 := fun k (hk : k < l.length) => bcnt_lt (n := n) (e := e) hk
  have g2 := fun k (hk : k < l.length) => bcnt_lt (n := r) (e := t) hk
  have g3 := fun k (hk : k < l.length) => bcnt_ge hs h1 hk
  have g4 := fun k (hk : k < l.length) => bcnt_ge hs h2 hk
  unfold btw
  generalize bcnt l n e = a at *
  generalize bcnt l r t = b at *
  have e1 : l = l.take a ++ ((l.take b).drop a ++ l.drop b) := by
    conv => lhs; rw [← List.take_append_drop a l, ← List.take_append_drop (b - a) (l.drop a)]
    rw [List.drop_take, List.drop_drop, show a + (b - a) = b by omega]
  conv => lhs; rw [e1]
  rw [List.filter_append, List.filter_append, List.filter_eq_nil_iff.2, List.filter_eq_self.2, List.filter_eq_nil_iff.2, List.append_nil, List.nil_append]
  · intro m hm
    obtain ⟨k, hk, rfl⟩ := List.mem_iff_getElem.1 hm
    rw [List.getElem_drop]
    simp only [List.length_drop] at hk
    unfold inT
    rw [decide_eq_true (g4 _ (by omega) (by omega))]
    simp
  · intro m hm
    obtain ⟨k, hk, rfl⟩ := List.mem_iff_getElem.1 hm
    simp only [List.length_drop, List.length_take] at hk
    rw [List.getElem_drop, List.getElem_take]
    unfold inT
    rw [decide_eq_true (g3 _ (by omega) (by omega)), decide_eq_false (g2 _ (by omega) (by omega))]
    rfl
  · intro m hm
    obtain ⟨k, hk, rfl⟩ := List.mem_iff_getElem.1 hm
    simp only [List.length_take] at hk
    rw [List.getElem_take]
    unfold inT
    rw [decide_eq_false (g1 _ (by omega) (by omega))]
    simp
theorem filt_succ {α : Type} {l : List α} {f : α → Bool} {i : Nat} (h : i < l.length) : (l.take (i + 1)).filter f = (l.take i).filter f ++ if f l[i] then [l[i]] else [] := by
  rw [List.take_succ_eq_append_getElem h, List.filter_append, List.filter_cons, List.filter_nil]
theorem rmBetween_fn {l : List Pt} (hv : fchk l = 0) {n e r t : Int} (h1 : chk n e = 0) (h2 : chk r t = 0) (h3 : ¬ r * e < n * t) : FnOK Tryz.prog 143 [fld l, rat n e, rat r t] (.c (.one (mts (btw (allM l) n e r t)))) := by
  have H1 := rmPairs_fn hv
  have hasc := allM_asc hv
  have hlen : (allM l).length ≤ 4096 := by rw [msrt_len]; exact outs_len2 (fchk_ok hv).1
  have hok := hasc.ok
  rw [← btw_filter hasc h1 h2 h3]
  clear hasc h3
  generalize allM l = L at *
  have hll : (L.map Mt.c).length = L.length := List.length_map ..
  refine fn_ok (by kernel_rfl) (ty_okK [7, 42] [] [] []) Tryz.func143 rfl (fun _ _ => Tryz.call143 _ _) rfl ?_
  intro hw
  clear hw
  have hfl : ∀ i, ((L.take i).filter (inT n e r t)).length ≤ L.length := fun i => by
    refine Nat.le_trans (List.length_filter_le ..) ?_
    simp; omega
  repeat' ((conv => whnf); first | (with_reducible first | refine br_t ?_ | refine br_f ?_ | refine za ?_ | refine zg ?_ | refine zo ?_) | refine zp ?_ | refine zq ?_ | (with_reducible first | refine bc (fun h => ?_) (fun h => ?_) | refine zt ?_ | refine zf ?_ | refine br_i (fun h => ?_) (fun h => ?_)) | refine zg ?_ | refine zi ?_ | refine zb ?_ | refine zl ?_)
  refine loop_J (by kernel_rfl) (ty_okK [7, 42] [] [] []) (σ := Nat) (fun i => [(9, sV (.int .i64 i)), (7, .c (.at (.osl 7 0)))]) (fun i => [(7, .row 4 (((L.take i).filter (inT n e r t)).map Mt.c) 0)]) (fun i => i ≤ L.length) (fun i => L.length - i) 0 (Nat.zero_le _) ?_ ?_
  · (conv => whnf); exact zent
  intro i hi
  rcases Nat.lt_or_ge i L.length with hlt | hge
  · have hel := mts_get hlt
    have hs := filt_succ (f := inT n e r t) hlt
    have C1 := rcompare_fn L[i].n L[i].d n e
    have C2 := rcompare_fn L[i].n L[i].d r t
    have hfi := hfl i
    have hfi1 := hfl (i + 1)
    have hol : (((L.take i).filter (inT n e r t)).map Mt.c).length = ((L.take i).filter (inT n e r t)).length := List.length_map ..
    by_cases c1 : n * L[i].d < L[i].n * e
    · by_cases c2 : r * L[i].d < L[i].n * t
      · have e1 : cmpN (L[i].n * t) (r * L[i].d) = 1 := by unfold cmpN; rw [if_neg (by omega), if_pos c2]
        have e2 : cmpN (L[i].n * e) (n * L[i].d) = 1 := by unfold cmpN; rw [if_neg (by omega), if_pos c1]
        rw [e2] at C1
        rw [e1] at C2
        simp only [ret1] at C1 C2
        rw [inT, decide_eq_true c1, decide_eq_true c2] at hs
        generalize L[i] = m at *
        repeat' ((conv => whnf); first | (with_reducible first | refine br_t ?_ | refine br_f ?_ | refine za ?_ | refine zg ?_ | refine zo ?_) | refine zp ?_ | refine zq ?_ | (with_reducible first | refine bc (fun h => ?_) (fun h => ?_) | refine zt ?_ | refine zf ?_ | refine br_i (fun h => ?_) (fun h => ?_)) | refine zg ?_ | refine zi ?_ | refine zb ?_ | refine zl ?_)
        all_goals conv => whnf
        refine ⟨i + 1, hlt, ?_, by omega⟩
        (conv => whnf); refine ⟨by repeat' (first | with_reducible exact zE0 | with_reducible refine zE1 ?_ ?_ | rfl | assumption | ((exact congrArg (fun x => some (Blk.row 4 (x.map Mt.c) 0)) (hs.trans (List.append_nil _)).symm)) | exact zi1 | exact zb1), by repeat' (first | with_reducible exact zH0 | with_reducible refine zH1 ?_ ?_ | rfl | assumption | ((exact congrArg (fun x => some (Blk.row 4 (x.map Mt.c) 0)) (hs.trans (List.append_nil _)).symm))), rfl⟩
      · have e1 : cmpN (L[i].n * t) (r * L[i].d) ≤ 0 := by unfold cmpN; split <;> (try split) <;> omega
        have e2 : cmpN (L[i].n * e) (n * L[i].d) = 1 := by unfold cmpN; rw [if_neg (by omega), if_pos c1]
        rw [e2] at C1
        generalize cmpN (L[i].n * t) (r * L[i].d) = z at *
        simp only [ret1] at C1 C2
        rw [inT, decide_eq_true c1, decide_eq_false c2] at hs
        generalize L[i] = m at *
        have hs2 : ((L.take i).filter (inT n e r t)).map Mt.c ++ [[i64 m.n, i64 m.d, i64 m.i, i64 m.j]] = ((L.take (i + 1)).filter (inT n e r t)).map Mt.c := by rw [hs, List.map_append]; rfl
        repeat' ((conv => whnf); first | (with_reducible first | refine br_t ?_ | refine br_f ?_ | refine za ?_ | refine zg ?_ | refine zo ?_) | rw [hol] | refine zp ?_ | refine zq ?_ | (with_reducible first | refine bc (fun h => ?_) (fun h => ?_) | refine zt ?_ | refine zf ?_ | refine br_i (fun h => ?_) (fun h => ?_)) | refine zg ?_ | refine zi ?_ | refine zb ?_ | refine zl ?_)
        all_goals conv => whnf
        refine ⟨i + 1, hlt, ?_, by omega⟩
        (conv => whnf); refine ⟨by repeat' (first | with_reducible exact zE0 | with_reducible refine zE1 ?_ ?_ | rfl | assumption | ((exact congrArg (fun x => some (Blk.row 4 x 0)) hs2)) | exact zi1 | exact zb1), by repeat' (first | with_reducible exact zH0 | with_reducible refine zH1 ?_ ?_ | rfl | assumption | ((exact congrArg (fun x => some (Blk.row 4 x 0)) hs2))), rfl⟩
    · have e2 : cmpN (L[i].n * e) (n * L[i].d) ≤ 0 := by unfold cmpN; split <;> (try split) <;> omega
      generalize cmpN (L[i].n * e) (n * L[i].d) = z at *
      simp only [ret1] at C1 C2
      rw [inT, decide_eq_false c1] at hs
      generalize L[i] = m at *
      repeat' ((conv => whnf); first | (with_reducible first | refine br_t ?_ | refine br_f ?_ | refine za ?_ | refine zg ?_ | refine zo ?_) | refine zp ?_ | refine zq ?_ | (with_reducible first | refine bc (fun h => ?_) (fun h => ?_) | refine zt ?_ | refine zf ?_ | refine br_i (fun h => ?_) (fun h => ?_)) | refine zg ?_ | refine zi ?_ | refine zb ?_ | refine zl ?_)
      all_goals conv => whnf
      refine ⟨i + 1, hlt, ?_, by omega⟩
      (conv => whnf); refine ⟨by repeat' (first | with_reducible exact zE0 | with_reducible refine zE1 ?_ ?_ | rfl | assumption | ((exact congrArg (fun x => some (Blk.row 4 (x.map Mt.c) 0)) (hs.trans (List.append_nil _)).symm)) | exact zi1 | exact zb1), by repeat' (first | with_reducible exact zH0 | with_reducible refine zH1 ?_ ?_ | rfl | assumption | ((exact congrArg (fun x => some (Blk.row 4 (x.map Mt.c) 0)) (hs.trans (List.append_nil _)).symm))), rfl⟩
  · obtain rfl : i = L.length := by omega
    rw [List.take_of_length_le (Nat.le_refl _)] at *
    exact zw
theorem rmSame_fn (a b : List Mt) : FnOK Tryz.prog 57 [.one (mts a), .one (mts b)] (.c (.one (bol (decide (a = b))))) := by
  refine fn_ok (by kernel_rfl) ty_ok Tryz.func57 rfl (fun _ _ => Tryz.call57 _ _) rfl ?_
  intro hw
  simp only [WDCs, WDC, WDs] at hw
  have w1 := wd_mts hw.1
  have w2 := wd_mts hw.2.1
  clear hw
  by_cases h0 : a.length = b.length
  · repeat' ((conv => whnf); first | (with_reducible first | refine br_t ?_ | refine br_f ?_ | refine za ?_ | refine zg ?_) | rw [List.length_map] | refine zp ?_ | refine zq ?_ | (with_reducible first | refine bc (fun h => ?_) (fun h => ?_) | refine zt ?_ | refine zf ?_ | refine br_i (fun h => ?_) (fun h => ?_) | refine xi (pv_bool fun _ => nev67 _ _ _ _ _ _ _ _ _ _ _) ?_) | refine zg ?_ | refine zi ?_ | refine zb ?_)
    refine loop_J (by kernel_rfl) ty_ok (σ := Nat) (fun i => [(5, sV (.int .i64 i))]) (fun _ => []) (fun i => i ≤ a.length ∧ a.take i = b.take i) (fun i => a.length - i) 0 ⟨by omega, rfl⟩ ?_ ?_
    · (conv => whnf); exact zent
    rintro i ⟨hi, hI⟩
    rcases Nat.lt_or_ge i a.length with hlt | hge
    · have hb : i < b.length := by omega
      have he1 := mts_get hlt
      have he2 := mts_get hb
      by_cases hc : a[i] = b[i]
      · have hq := Mt.eq_iff.1 hc
        repeat' ((conv => whnf); first | (with_reducible first | refine br_t ?_ | refine br_f ?_ | refine za ?_ | refine zg ?_) | rw [List.length_map] | refine zp ?_ | refine zq ?_ | (with_reducible first | refine bc (fun h => ?_) (fun h => ?_) | refine zt ?_ | refine zf ?_ | refine br_i (fun h => ?_) (fun h => ?_) | refine xi (pv_bool fun _ => nev67 _ _ _ _ _ _ _ _ _ _ _) ?_) | refine zg ?_ | refine zi ?_ | refine zb ?_)
        all_goals conv => whnf
        refine ⟨i + 1, ⟨by omega, take_succ_eq hI hlt hb hc⟩, ?_, by omega⟩
        (conv => whnf); exact zent
      · have hq := mt Mt.eq_iff.2 hc
        rw [decide_eq_false (ne_of_get hlt hb hc)]
        repeat' ((conv => whnf); first | (with_reducible first | refine br_t ?_ | refine br_f ?_ | refine za ?_ | refine zg ?_) | rw [List.length_map] | refine zp ?_ | refine zq ?_ | (with_reducible first | refine bc (fun h => ?_) (fun h => ?_) | refine zt ?_ | refine zf ?_ | refine br_i (fun h => ?_) (fun h => ?_) | refine xi (pv_bool fun _ => nev67 _ _ _ _ _ _ _ _ _ _ _) ?_) | refine zg ?_ | refine zi ?_ | refine zb ?_)
        all_goals conv => whnf
        all_goals rfl
    · rw [decide_eq_true (take_all_eq hI h0 hge)]
      repeat' ((conv => whnf); first | (with_reducible first | refine br_t ?_ | refine br_f ?_ | refine za ?_ | refine zg ?_) | rw [List.length_map] | refine zp ?_ | refine zq ?_ | (with_reducible first | refine bc (fun h => ?_) (fun h => ?_) | refine zt ?_ | refine zf ?_ | refine br_i (fun h => ?_) (fun h => ?_) | refine xi (pv_bool fun _ => nev67 _ _ _ _ _ _ _ _ _ _ _) ?_) | refine zg ?_ | refine zi ?_ | refine zb ?_)
      all_goals conv => whnf
      all_goals rfl
  · rw [decide_eq_false (fun h => h0 (congrArg List.length h))]
    repeat' ((conv => whnf); first | (with_reducible first | refine br_t ?_ | refine br_f ?_ | refine za ?_ | refine zg ?_) | rw [List.length_map] | refine zp ?_ | refine zq ?_ | (with_reducible first | refine bc (fun h => ?_) (fun h => ?_) | refine zt ?_ | refine zf ?_ | refine br_i (fun h => ?_) (fun h => ?_) | refine xi (pv_bool fun _ => nev67 _ _ _ _ _ _ _ _ _ _ _) ?_) | refine zg ?_ | refine zi ?_ | refine zb ?_)
    all_goals conv => whnf
    all_goals rfl
end Go.Proofs.YtnjgfhgpicmklaaGreat

namespace Go.Proofs.YtnjgfhgpicmklaaGreat
open Go Go.RowKit Go.Sort Sx
def chgF (m : Md) (a : Ak) : List Pt × Int := if a.k = 1 then putV m.l a.p else if a.k = 2 then takeV m.l a.id else changeV m.l a.p
theorem rochanged_fn {m : Md} (hl : m.l.length ≤ 1000000) (a : Ak) : FnOK Tryz.prog 106 [m.dc, a.dc] (.tup [Md.dc (if (chgF m a).2 = 0 then ⟨m.n, m.d, (chgF m a).1⟩ else m), .one (i64 (chgF m a).2)]) := by
  have HT := roTwin_fn m hl
  unfold chgF
  by_cases c1 : a.k = 1
  · rw [if_pos c1]
    have H := rfPut_fn m.l a.p
    generalize putV m.l a.p = x at *
    obtain ⟨f, e⟩ := x
    simp only [retFl] at H
    dsimp only
    by_cases h0 : e = 0
    · rw [if_pos h0]
      subst h0
      refine fn_ok (by kernel_rfl) ty_ok Tryz.func106 rfl (fun _ _ => Tryz.call106 _ _) rfl ?_
      intro hw
      clear hw
      exact zw
    · rw [if_neg h0]
      refine fn_ok (by kernel_rfl) ty_ok Tryz.func106 rfl (fun _ _ => Tryz.call106 _ _) rfl ?_
      intro hw
      clear hw
      exact zw
  · rw [if_neg c1]
    by_cases c2 : a.k = 2
    · rw [if_pos c2]
      have H := rfTake_fn m.l a.id
      generalize takeV m.l a.id = x at *
      obtain ⟨f, e⟩ := x
      simp only [retFl] at H
      dsimp only
      by_cases h0 : e = 0
      · rw [if_pos h0]
        subst h0
        refine fn_ok (by kernel_rfl) ty_ok Tryz.func106 rfl (fun _ _ => Tryz.call106 _ _) rfl ?_
        intro hw
        clear hw
        exact zw
      · rw [if_neg h0]
        refine fn_ok (by kernel_rfl) ty_ok Tryz.func106 rfl (fun _ _ => Tryz.call106 _ _) rfl ?_
        intro hw
        clear hw
        exact zw
    · rw [if_neg c2]
      have H := rfChange_fn m.l a.p
      generalize changeV m.l a.p = x at *
      obtain ⟨f, e⟩ := x
      simp only [retFl] at H
      dsimp only
      by_cases h0 : e = 0
      · rw [if_pos h0]
        subst h0
        refine fn_ok (by kernel_rfl) ty_ok Tryz.func106 rfl (fun _ _ => Tryz.call106 _ _) rfl ?_
        intro hw
        clear hw
        exact zw
      · rw [if_neg h0]
        refine fn_ok (by kernel_rfl) ty_ok Tryz.func106 rfl (fun _ _ => Tryz.call106 _ _) rfl ?_
        intro hw
        clear hw
        exact zw
def movV (m : Md) (a : Ak) : Md × Rp := if askd a.n a.d = 0 then (if a.n * m.d ≤ m.n * a.d then (m, rpE 44) else (⟨a.n, a.d, m.l⟩, ⟨0, 0, 0, 0, 0, btw (allM m.l) m.n m.d a.n a.d⟩)) else (m, rpE (askd a.n a.d))
theorem romoved_fn {m : Md} (hm : mchk m = 0) (a : Ak) : FnOK Tryz.prog 102 [m.dc, a.dc] (retA (movV m a)) := by
  obtain ⟨g1, g2⟩ := mchk_ok hm
  obtain ⟨k1, k2, k3⟩ := fchk_ok g2
  obtain ⟨t1, _, _, _, _⟩ := askd_ok g1
  have HT := roTwin_fn m (by omega)
  have H1 := rasked_fn a.n a.d
  unfold movV
  by_cases h1 : askd a.n a.d = 0
  · rw [if_pos h1]
    rw [h1] at H1
    have t2 := (askd_ok h1).1
    have H2 := rcompare_fn a.n a.d m.n m.d
    by_cases h2 : a.n * m.d ≤ m.n * a.d
    · rw [if_pos h2]
      have h3 : cmpN (a.n * m.d) (m.n * a.d) ≤ 0 := by unfold cmpN; (repeat' split) <;> omega
      generalize cmpN (a.n * m.d) (m.n * a.d) = z at *
      refine fn_ok (by kernel_rfl) ty_ok Tryz.func102 rfl (fun _ _ => Tryz.call102 _ _) rfl ?_
      intro hw
      clear hw
      exact zw
    · rw [if_neg h2]
      have h3 : ¬ cmpN (a.n * m.d) (m.n * a.d) ≤ 0 := by unfold cmpN; (repeat' split) <;> omega
      have H3 := rmBetween_fn g2 t1 t2 (by omega)
      generalize btw (allM m.l) m.n m.d a.n a.d = L at *
      generalize cmpN (a.n * m.d) (m.n * a.d) = z at *
      refine fn_ok (by kernel_rfl) ty_ok Tryz.func102 rfl (fun _ _ => Tryz.call102 _ _) rfl ?_
      intro hw
      clear hw
      exact zw
  · rw [if_neg h1]
    generalize askd a.n a.d = z at *
    refine fn_ok (by kernel_rfl) ty_ok Tryz.func102 rfl (fun _ _ => Tryz.call102 _ _) rfl ?_
    intro hw
    clear hw
    exact zw
theorem roDid_fn {m : Md} (hm : mchk m = 0) (a : Ak) : FnOK Tryz.prog 70 [m.dc, a.dc] (retA (askV m a)) := by
  obtain ⟨g1, g2⟩ := mchk_ok hm
  obtain ⟨k1, k2, k3⟩ := fchk_ok g2
  obtain ⟨t1, _, _, _, _⟩ := askd_ok g1
  have HT := roTwin_fn m (by omega)
  have H0 := roFormed_fn a
  have hk : formV a = true → a.k = 1 ∨ a.k = 2 ∨ a.k = 3 ∨ a.k = 4 ∨ a.k = 5 ∨ a.k = 6 := fun h => by
    unfold formV at h
    have := of_decide_eq_true h
    omega
  cases hf : formV a
  · rw [hf] at H0
    unfold askV
    rw [hf, if_neg (by decide)]
    refine fn_ok (by kernel_rfl) ty_ok Tryz.func70 rfl (fun _ _ => Tryz.call70 _ _) rfl ?_
    intro hw
    clear hw
    exact zw
  rw [hf] at H0
  have hk := hk hf
  by_cases h4 : a.k = 4
  · have H1 := romoved_fn hm a
    have e : askV m a = movV m a := by
      unfold askV movV
      rw [hf, if_pos rfl, if_neg (by omega), if_neg (by omega), if_neg (by omega), if_pos h4]
    rw [e]
    generalize movV m a = x at *
    simp only [retA] at H1
    refine fn_ok (by kernel_rfl) ty_ok Tryz.func70 rfl (fun _ _ => Tryz.call70 _ _) rfl ?_
    intro hw
    clear hw
    exact zw
  by_cases h5 : a.k = 5
  · unfold askV
    rw [hf, if_pos rfl, if_neg (by omega), if_neg (by omega), if_neg (by omega), if_neg (by omega), if_pos h5]
    have H1 := rfOrdered_fn (n := m.n) (m := m.d) k2 k3 (by omega)
    by_cases h1 : m.l.length = 0
    · rw [if_pos h1]
      refine fn_ok (by kernel_rfl) ty_ok Tryz.func70 rfl (fun _ _ => Tryz.call70 _ _) rfl ?_
      intro hw
      clear hw
      repeat' ((conv => whnf); first | (with_reducible first | refine br_t ?_ | refine br_f ?_ | refine za ?_ | refine zg ?_) | rw [List.length_map] | refine zp ?_ | refine zq ?_ | (with_reducible first | refine bc (fun h => ?_) (fun h => ?_) | refine zt ?_ | refine zf ?_ | refine br_i (fun h => ?_) (fun h => ?_)) | refine zg ?_ | refine zi ?_ | refine zb ?_)
      all_goals conv => whnf
      all_goals rfl
    · rw [if_neg h1]
      have hmem := ldP_mem (n := m.n) (m := m.d) h1
      obtain ⟨p1, p2⟩ := pos_mem k3 hmem
      have hps := (has_pos k3).1 p1
      obtain ⟨hlt, _⟩ := hps
      have H2 := rfAt_fn m.l (ldP m.l m.n m.d).id
      rw [at1_has k3, p1, if_pos rfl] at H2
      have hel := pts_get hlt
      rw [List.getElem?_eq_getElem hlt] at p2
      have p2 : m.l[pos m.l (ldP m.l m.n m.d).id] = ldP m.l m.n m.d := p2
      rw [p2] at hel
      have H3 := roPlace_fn (k2 _ hmem) g1
      have ho : ((ordV m.l m.n m.d).map fun i => [i64 i])[(0 : Int).toNat]? = some [i64 (ldP m.l m.n m.d).id] := by
        have h0 : 0 < (srt m.n m.d m.l).length := by rw [srt_len]; omega
        unfold ordV ldP
        rw [List.map_map, Int.toNat_zero, List.getElem?_map, List.getElem?_eq_getElem h0]
        rfl
      have hol : ((ordV m.l m.n m.d).map fun i => [i64 i]).length = m.l.length := by unfold ordV; simp [srt_len]
      generalize ordV m.l m.n m.d = O at *
      generalize pos m.l (ldP m.l m.n m.d).id = q at *
      generalize ldP m.l m.n m.d = p at *
      refine fn_ok (by kernel_rfl) ty_ok Tryz.func70 rfl (fun _ _ => Tryz.call70 _ _) rfl ?_
      intro hw
      clear hw
      repeat' ((conv => whnf); first | (with_reducible first | refine br_t ?_ | refine br_f ?_ | refine za ?_ | refine zg ?_) | rw [hol] | rw [List.length_map] | refine zp ?_ | refine zq ?_ | (with_reducible first | refine bc (fun h => ?_) (fun h => ?_) | refine zt ?_ | refine zf ?_ | refine br_i (fun h => ?_) (fun h => ?_)) | refine zg ?_ | refine zi ?_ | refine zb ?_)
      all_goals conv => whnf
      all_goals rfl
  by_cases h6 : a.k = 6
  · unfold askV
    rw [hf, if_pos rfl, if_neg (by omega), if_neg (by omega), if_neg (by omega), if_neg (by omega), if_neg (by omega)]
    unfold closV
    rw [if_pos g2, if_pos g1]
    by_cases h2 : m.l.length < 2
    · rw [if_pos h2]
      refine fn_ok (by kernel_rfl) ty_ok Tryz.func70 rfl (fun _ _ => Tryz.call70 _ _) rfl ?_
      intro hw
      clear hw
      repeat' ((conv => whnf); first | (with_reducible first | refine br_t ?_ | refine br_f ?_ | refine za ?_ | refine zg ?_) | rw [List.length_map] | refine zp ?_ | refine zq ?_ | (with_reducible first | refine bc (fun h => ?_) (fun h => ?_) | refine zt ?_ | refine zf ?_ | refine br_i (fun h => ?_) (fun h => ?_)) | refine zg ?_ | refine zi ?_ | refine zb ?_)
      all_goals conv => whnf
      all_goals rfl
    · rw [if_neg h2]
      have H1 := roPair_fn k2 g1 (by omega) (by omega)
      generalize pairC m.l m.n m.d = x at *
      generalize (m.l[x.1]?.getD default).id = u at *
      generalize (m.l[x.2.1]?.getD default).id = v at *
      refine fn_ok (by kernel_rfl) ty_ok Tryz.func70 rfl (fun _ _ => Tryz.call70 _ _) rfl ?_
      intro hw
      clear hw
      repeat' ((conv => whnf); first | (with_reducible first | refine br_t ?_ | refine br_f ?_ | refine za ?_ | refine zg ?_) | rw [List.length_map] | refine zp ?_ | refine zq ?_ | (with_reducible first | refine bc (fun h => ?_) (fun h => ?_) | refine zt ?_ | refine zf ?_ | refine br_i (fun h => ?_) (fun h => ?_)) | refine zg ?_ | refine zi ?_ | refine zb ?_)
      all_goals conv => whnf
      all_goals rfl
  · have H1 := rochanged_fn (m := m) (by omega) a
    have e : askV m a = if (chgF m a).2 = 0 then (⟨m.n, m.d, (chgF m a).1⟩, rp0) else (m, rpE (chgF m a).2) := by
      unfold askV chgF
      rw [hf, if_pos rfl, if_neg h4, if_neg h5]
      rcases hk with h | h | h | h | h | h
      · simp only [if_pos h]
      · simp only [if_neg (show ¬ a.k = 1 by omega), if_pos h]
      · simp only [if_neg (show ¬ a.k = 1 by omega), if_neg (show ¬ a.k = 2 by omega), if_pos h]
      all_goals omega
    rw [e]
    generalize chgF m a = x at *
    obtain ⟨f, z⟩ := x
    dsimp only at H1 ⊢
    by_cases h0 : z = 0
    · rw [if_pos h0] at H1 ⊢
      simp only [Md.dc] at H1
      subst h0
      refine fn_ok (by kernel_rfl) ty_ok Tryz.func70 rfl (fun _ _ => Tryz.call70 _ _) rfl ?_
      intro hw
      clear hw
      exact zw
    · rw [if_neg h0] at H1 ⊢
      refine fn_ok (by kernel_rfl) ty_ok Tryz.func70 rfl (fun _ _ => Tryz.call70 _ _) rfl ?_
      intro hw
      clear hw
      exact zw
end Go.Proofs.YtnjgfhgpicmklaaGreat

namespace Go.Proofs.YtnjgfhgpicmklaaGreat
open Go Go.RowKit Go.Sort Sx
theorem incr_pw {l : List Pt} : incr l = true ↔ l.Pairwise fun p q => p.id < q.id := by
  rw [List.pairwise_iff_getElem]
  refine ⟨fun h i j hi hj hij => incr_lt h j i hj hij, fun h => incr_iff.2 fun i hi => h i (i + 1) (by omega) hi (by omega)⟩
theorem fchk_mk {l : List Pt} (h1 : l.length ≤ 64) (h2 : ∀ p ∈ l, p.chk = 0) (h3 : incr l = true) : fchk l = 0 := by
  unfold fchk
  rw [if_neg (by omega), if_pos (List.all_eq_true.2 fun p hp => by simpa using h2 p hp), if_pos h3]
theorem incr_insP {l : List Pt} {p : Pt} (h : incr l = true) (hn : has l p.id = false) : incr (insP l p) = true := by
  obtain ⟨h1, h2⟩ := pos_spec (id := p.id) h
  have hne : ∀ q ∈ l, q.id ≠ p.id := fun q hq e => by
    have : has l p.id = true := List.any_eq_true.2 ⟨q, hq, by simp [e]⟩
    rw [hn] at this; cases this
  rw [incr_pw] at h ⊢
  unfold insP
  refine List.pairwise_append.2 ⟨h.sublist (List.take_sublist ..), List.pairwise_cons.2 ⟨fun q hq => ?_, h.sublist (List.drop_sublist ..)⟩, fun a ha b hb => ?_⟩
  · obtain ⟨k, hk, rfl⟩ := List.mem_iff_getElem.1 hq
    rw [List.getElem_drop]
    rw [List.length_drop] at hk
    have := h2 (pos l p.id + k) (by omega) (by omega)
    have := hne _ (List.getElem_mem (show pos l p.id + k < l.length by omega))
    omega
  · have ha' : a.id < p.id := by
      obtain ⟨k, hk, rfl⟩ := List.mem_iff_getElem.1 ha
      rw [List.getElem_take]
      rw [List.length_take] at hk
      exact h1 k (by omega) (by omega)
    rcases List.mem_cons.1 hb with rfl | hb
    · exact ha'
    · obtain ⟨k, hk, rfl⟩ := List.mem_iff_getElem.1 hb
      rw [List.getElem_drop]
      rw [List.length_drop] at hk
      have := h2 (pos l p.id + k) (by omega) (by omega)
      omega
theorem putV_ok {l : List Pt} {p : Pt} (h : (putV l p).2 = 0) : fchk (putV l p).1 = 0 := by
  unfold putV at h ⊢
  split at h
  · rename_i h0
    rw [if_pos h0]
    split at h
    · rename_i h1
      rw [if_pos h1]
      split at h
      · simp at h
      · rename_i h2
        rw [if_neg h2]
        split at h
        · simp at h
        · rename_i h3
          rw [if_neg h3]
          obtain ⟨k1, k2, k3⟩ := fchk_ok h0
          refine fchk_mk ?_ (fun q hq => ?_) (incr_insP k3 (by simpa using h2))
          · show (insP l p).length ≤ 64
            unfold insP
            simp only [List.length_append, List.length_cons, List.length_take, List.length_drop]
            omega
          · have hq : q ∈ insP l p := hq
            unfold insP at hq
            rcases List.mem_append.1 hq with hq | hq
            · exact k2 q (List.mem_of_mem_take hq)
            · rcases List.mem_cons.1 hq with rfl | hq
              · exact h1
              · exact k2 q (List.mem_of_mem_drop hq)
    · simp at h
  · rename_i h0; exact absurd h h0
theorem takeV_ok {l : List Pt} {id : Int} (h : (takeV l id).2 = 0) : fchk (takeV l id).1 = 0 := by
  unfold takeV at h ⊢
  split at h
  · rename_i h0
    rw [if_pos h0]
    split at h
    · rename_i h1
      rw [if_pos h1]
      obtain ⟨k1, k2, k3⟩ := fchk_ok h0
      show fchk (without l id) = 0
      unfold without
      exact fchk_mk (Nat.le_trans (List.length_filter_le ..) k1) (fun q hq => k2 q (List.mem_filter.1 hq).1) (incr_pw.2 ((incr_pw.1 k3).filter _))
    · simp at h
  · rename_i h0; exact absurd h h0
theorem changeV_ok {l : List Pt} {p : Pt} (h : (changeV l p).2 = 0) : fchk (changeV l p).1 = 0 := by
  unfold changeV at h ⊢
  split at h
  · rename_i h0
    rw [if_pos h0]
    split at h
    · rename_i h1
      rw [if_pos h1]
      split at h
      · rename_i h2
        rw [if_pos h2]
        obtain ⟨k1, k2, k3⟩ := fchk_ok h0
        obtain ⟨hlt, he⟩ := (has_pos k3).1 h2
        show fchk (l.set (pos l p.id) p) = 0
        refine fchk_mk (by simpa using k1) (fun q hq => ?_) (incr_pw.2 (List.pairwise_iff_getElem.2 fun i j hi hj hij => ?_))
        · rcases List.mem_or_eq_of_mem_set hq with hq | rfl
          · exact k2 q hq
          · exact h1
        · have key : ∀ k (hk : k < (l.set (pos l p.id) p).length), (l.set (pos l p.id) p)[k].id = (l[k]'(by simpa using hk)).id := fun k hk => by
            rw [List.getElem_set]
            split
            · rename_i e; subst e; exact he.symm
            · rfl
          rw [key, key]
          exact incr_lt k3 j i (by simpa using hj) hij
      · simp at h
    · simp at h
  · rename_i h0; exact absurd h h0
theorem mchk_mk {m : Md} (h1 : askd m.n m.d = 0) (h2 : fchk m.l = 0) : mchk m = 0 := by
  rw [mchk_orN, h1, h2]; rfl
theorem askV_ok {m : Md} (hm : mchk m = 0) (a : Ak) : mchk (askV m a).1 = 0 := by
  obtain ⟨g1, g2⟩ := mchk_ok hm
  unfold askV
  split
  · split
    · split
      · exact mchk_mk g1 (putV_ok (by assumption))
      · exact hm
    · split
      · split
        · exact mchk_mk g1 (takeV_ok (by assumption))
        · exact hm
      · split
        · split
          · exact mchk_mk g1 (changeV_ok (by assumption))
          · exact hm
        · split
          · split
            · split
              · exact hm
              · exact mchk_mk (by assumption) g2
            · exact hm
          · split
            · split <;> exact hm
            · exact hm
  · exact hm
end Go.Proofs.YtnjgfhgpicmklaaGreat

namespace Go.Proofs.YtnjgfhgpicmklaaGreat
open Go Go.RowKit Go.Sort Sx
abbrev aks (l : List Ak) : D := .list 7 (l.map Ak.c)
abbrev rps (l : List Rp) : D := .list 6 (l.map Rp.c)
def md0 : Md := ⟨0, 0, []⟩
theorem aks_get {l : List Ak} {i : Nat} (h : i < l.length) : (l.map Ak.c)[((i : Nat) : Int).toNat]? = some [u8 l[i].k, i64 l[i].p.id, i64 l[i].p.a, i64 l[i].p.b, i64 l[i].id, i64 l[i].n, i64 l[i].d] := by
  rw [Int.toNat_natCast, List.getElem?_map, List.getElem?_eq_getElem h]; rfl
theorem rps_get {l : List Rp} {i : Nat} (h : i < l.length) : (l.map Rp.c)[((i : Nat) : Int).toNat]? = some [i64 l[i].e, i64 l[i].i, i64 l[i].j, i64 l[i].n, i64 l[i].d, mts l[i].ms] := by
  rw [Int.toNat_natCast, List.getElem?_map, List.getElem?_eq_getElem h]; rfl
theorem Rp.eq_iff {p q : Rp} : p = q ↔ p.e = q.e ∧ p.i = q.i ∧ p.j = q.j ∧ (p.n = q.n ∧ p.d = q.d) ∧ p.ms = q.ms := by
  cases p; cases q; simp [and_assoc]
theorem wd_aks {l : List Ak} (h : WD (aks l)) : l.length ≤ 9223372036854775807 := by
  obtain ⟨h1, _, h3⟩ := WD_list.1 h
  simpa using h1
abbrev retD (x : Md × Rp × Int) : DV := .tup [x.1.dc, x.2.1.dc, .one (i64 x.2.2)]
theorem roSame_fn (a b : Rp) : FnOK Tryz.prog 28 [a.dc, b.dc] (.c (.one (bol (decide (a = b))))) := by
  have H := rmSame_fn a.ms b.ms
  have e := Rp.eq_iff (p := a) (q := b)
  by_cases c : a.ms = b.ms
  · rw [decide_eq_true c] at H
    simp only [c, and_true] at e
    refine fn_ok (by kernel_rfl) ty_ok Tryz.func28 rfl (fun _ _ => Tryz.call28 _ _) rfl ?_
    intro hw
    clear hw
    repeat' ((conv => whnf); first | (with_reducible first | refine br_t ?_ | refine br_f ?_ | refine za ?_ | refine zg ?_) | refine zp ?_ | refine zq ?_ | (with_reducible first | refine bc (fun h => ?_) (fun h => ?_) | refine zt ?_ | refine zf ?_ | refine br_i (fun h => ?_) (fun h => ?_) | refine xi (pv_bool fun _ => eqv23 _ _ _ _ _ _ _) ?_) | refine zg ?_ | refine zi ?_ | refine zb ?_)
    all_goals conv => whnf
    all_goals
      refine r_bool ?_
      rw [Bool.eq_iff_iff]
      rw [decide_eq_true_eq, e]
      first | (refine iff_of_true rfl ?_; omega) | (refine iff_of_false (by decide) ?_; omega)
  · rw [decide_eq_false c] at H
    simp only [c, and_false, iff_false] at e
    rw [decide_eq_false e]
    refine fn_ok (by kernel_rfl) ty_ok Tryz.func28 rfl (fun _ _ => Tryz.call28 _ _) rfl ?_
    intro hw
    clear hw
    repeat' ((conv => whnf); first | (with_reducible first | refine br_t ?_ | refine br_f ?_ | refine za ?_ | refine zg ?_) | refine zp ?_ | refine zq ?_ | (with_reducible first | refine bc (fun h => ?_) (fun h => ?_) | refine zt ?_ | refine zf ?_ | refine br_i (fun h => ?_) (fun h => ?_) | refine xi (pv_bool fun _ => eqv23 _ _ _ _ _ _ _) ?_) | refine zg ?_ | refine zi ?_ | refine zb ?_)
    all_goals conv => whnf
    all_goals rfl
end Go.Proofs.YtnjgfhgpicmklaaGreat

namespace Go.Proofs.YtnjgfhgpicmklaaGreat
open Go Go.RowKit Sx
namespace Sx
def shAsk : Sh := .st (.fc 1 (.int .u8) (.fc 3 shPoint (.fc 1 shInt (.fc 2 shRatio .f0))))
def shAsks : Sh := .sl 7 shAsk
end Sx
theorem fits_ask {ds : List D} (h : Fits shAsk ds) : ∃ a : Ak, ds = a.c := by
  obtain ⟨_, _, rfl, ⟨k, rfl⟩, _, _, rfl, h2, _, _, rfl, ⟨i, rfl⟩, _, _, rfl, h3, rfl⟩ := h
  obtain ⟨p, rfl⟩ := fits_point h2
  obtain ⟨n, d, rfl⟩ := fits_ratio h3
  exact ⟨⟨k, p, i, n, d⟩, rfl⟩
theorem fit_asks {c : DC} (h : FitC shAsks c) : ∃ l : List Ak, c = .one (aks l) := by
  obtain ⟨d, rfl, l, e, h2⟩ := h
  injection e with e
  subst e
  obtain ⟨l', rfl⟩ := exists_map (f := Ak.c) fun x hx => fits_ask (h2 x hx)
  exact ⟨l', rfl⟩
end Go.Proofs.YtnjgfhgpicmklaaGreat

namespace Go.Proofs.YtnjgfhgpicmklaaGreat
open Go.RowKit Go.Sort Sx Go.Maps
def cntTo (es : List Int) (n : Nat) : List (Int × Int) := ((List.range n).filter fun k : Nat => decide (0 < es.count (k : Int))).map fun k : Nat => ((k : Int), (es.count (k : Int) : Int))
def cnts (es : List Int) : List (Int × Int) := cntTo es 100
abbrev prc (l : List (Int × Int)) : List (List Sx.D) := l.map fun p => [i64 p.1, i64 p.2]
theorem cntTo_succ (es : List Int) (n : Nat) : cntTo es (n + 1) = cntTo es n ++ if 0 < es.count (n : Int) then [((n : Int), (es.count (n : Int) : Int))] else [] := by
  unfold cntTo
  rw [List.range_succ, List.filter_append, List.map_append]
  congr 1
  by_cases h : 0 < es.count (n : Int)
  · rw [if_pos h, List.filter_cons_of_pos (by simpa using h)]; rfl
  · rw [if_neg h, List.filter_cons_of_neg (by simpa using h)]; rfl
theorem cntTo_len (es : List Int) (n : Nat) : (cntTo es n).length ≤ n := by
  unfold cntTo
  rw [List.length_map]
  exact Nat.le_trans (List.length_filter_le ..) (by rw [List.length_range]; exact Nat.le_refl _)
theorem count_take_succ {es : List Int} {x : Int} {i : Nat} (h : i < es.length) : (es.take (i + 1)).count x = (es.take i).count x + if es[i] = x then 1 else 0 := by
  rw [List.take_succ_eq_append_getElem h, List.count_append]
  congr 1
  rw [List.count_singleton]
  by_cases c : es[i] = x <;> simp [c]
theorem count_take_le (es : List Int) (x : Int) (i : Nat) : (es.take i).count x ≤ es.length := by
  have h := List.count_le_length (a := x) (l := es.take i)
  rw [List.length_take] at h
  omega
def keysS (es : List Int) : List Int := ((List.range 100).filter fun k : Nat => decide (0 < es.count (k : Int))).map fun k : Nat => (k : Int)
theorem cnts_keys (es : List Int) : (keysS es).map (fun x => (x, (es.count x : Int))) = cnts es := by
  unfold keysS cnts cntTo
  rw [List.map_map]; rfl
theorem keysS_asc (es : List Int) : (keysS es).Pairwise (· < ·) := by
  unfold keysS
  rw [List.pairwise_map]
  refine List.Pairwise.imp (R := fun a b : Nat => a < b) (fun h => by omega) ?_
  exact List.Pairwise.filter _ List.pairwise_lt_range
theorem keysS_mem {es : List Int} (h : ∀ e ∈ es, 0 ≤ e ∧ e < 100) (x : Int) : x ∈ keysS es ↔ x ∈ es := by
  unfold keysS
  rw [List.mem_map]
  constructor
  · rintro ⟨k, hk, rfl⟩
    rw [List.mem_filter, decide_eq_true_eq] at hk
    exact List.count_pos_iff.1 hk.2
  · intro hx
    obtain ⟨h1, h2⟩ := h x hx
    refine ⟨x.toNat, ?_, by omega⟩
    rw [List.mem_filter, decide_eq_true_eq, List.mem_range]
    refine ⟨by omega, ?_⟩
    rw [show ((x.toNat : Nat) : Int) = x by omega]
    exact List.count_pos_iff.2 hx
theorem keysS_len (es : List Int) : (keysS es).length ≤ 100 := by
  unfold keysS
  rw [List.length_map]
  exact Nat.le_trans (List.length_filter_le ..) (by rw [List.length_range]; exact Nat.le_refl _)
def Cnt (D : DataW Unit) (l : List Int) : Prop := (∀ x : Int, D.atKey (.int .i64 x) (.lit (.int .i64 0)) = .lit (.int .i64 (l.count x : Nat))) ∧ ∀ x : Int, Maps.has D (.int .i64 x) = decide (x ∈ l)
theorem cnt_nil : Cnt (.map []) [] := ⟨fun x => Maps.atKey_of_not_has rfl _, fun x => rfl⟩
theorem cnt_snoc {D : DataW Unit} {l : List Int} (h : Cnt D l) (hm : Maps.IsMap D) (x : Int) (c : Int) (hc : c = l.count x) : Cnt (D.put (.int .i64 x) (.lit (.int .i64 (c + 1)))) (l ++ [x]) := by
  subst hc
  have hk : WideAt.IsKeyLit (.int .i64 x) := by first | exact trivial | exact rfl | constructor
  refine ⟨fun y => ?_, fun y => ?_⟩
  · rw [List.count_append, List.count_singleton]
    by_cases e : y = x
    · subst e
      rw [Maps.atKey_put_same hm hk, beq_self_eq_true, if_pos rfl]; rfl
    · rw [Maps.atKey_put_other (by simpa using e), h.1 y]
      have : (x == y) = false := by simpa using fun h => e h.symm
      rw [this]; simp
  · by_cases e : y = x
    · subst e
      rw [Maps.has_put_same hm hk]; simp
    · rw [Maps.has_put_other (by simpa using e), h.2 y]
      simp [e]
theorem keys_sorted {es ss : List Int} {P : Program} {k : TypeId} {R : Value → Option (DataW Unit × List MemPlace)} {w : World} {b n : Nat} {D : DataW Unit} (hown : w.ownsMap P k R b n D) (K : Keyed P k) (hk : P.underlying k = some (.int .i64)) (hc : Cnt D es) (h : ∀ e ∈ es, 0 ≤ e ∧ e < 100) (hs : ss.Perm (intKeys D)) : ss.mergeSort (fun x y => decide (x ≤ y)) = keysS es ∧ ss.length = (keysS es).length := by
  have hcol : CollectedI D (fun _ => false) (keysS es) := ⟨(keysS_asc es).imp (fun h => by omega), fun x => by rw [keysS_mem h, hc.2]; simp⟩
  have hp := hcol.perm hown K hk (fun _ => rfl)
  have hp2 := hs.trans hp.symm
  refine ⟨?_, hp2.length_eq⟩
  have e := mergeSort_of_perm_i hp2
  unfold leI at e
  rw [e]
  exact List.mergeSort_of_pairwise ((keysS_asc es).imp fun h => by simp only [decide_eq_true_eq]; omega)
theorem size_le {P : Program} {k : TypeId} {R : Value → Option (DataW Unit × List MemPlace)} {w : World} {b n : Nat} {D : DataW Unit} (hown : w.ownsMap P k R b n D) : Maps.size D ≤ n := by
  obtain ⟨es, clock, _, _, hs, rfl⟩ := hown
  show ((es.toList.map _).foldr DataW.insert []).length ≤ n
  rw [length_sorted]
  simpa using hs
end Go.Proofs.YtnjgfhgpicmklaaGreat
