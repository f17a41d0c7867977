import Derived.Test.YtnjgfhgpicmklaaGLDFindsAM
import Derived.Test.YtnjgfhgpicmklaaGLDFindsAN
set_option linter.all false
namespace Go.Proofs.Ytnjgfhgpicmklaa
open Go.RowKit Go.Sort Sx
theorem nmd_dropA {a b : List Pt} {i k : Nat} (hi : i < a.length) (h : b.length ≤ k ∨ ∃ hk : k < b.length, a[i].id < b[k].id) : nmd (a.drop i) (b.drop k) = a[i].id :: nmd (a.drop (i + 1)) (b.drop k) := by
  rw [List.drop_eq_getElem_cons hi]
  apply nmd_a
  rcases h with h | ⟨hk, h⟩
  · exact .inl (List.drop_eq_nil_of_le h)
  · exact .inr ⟨_, _, List.drop_eq_getElem_cons hk, h⟩
theorem nmd_dropB {a b : List Pt} {i k : Nat} (hk : k < b.length) (h : a.length ≤ i ∨ ∃ hi : i < a.length, b[k].id < a[i].id) : nmd (a.drop i) (b.drop k) = b[k].id :: nmd (a.drop i) (b.drop (k + 1)) := by
  rw [List.drop_eq_getElem_cons hk]
  apply nmd_b
  rcases h with h | ⟨hi, h⟩
  · exact .inl (List.drop_eq_nil_of_le h)
  · exact .inr ⟨_, _, List.drop_eq_getElem_cons hi, h⟩
theorem nmd_dropE {a b : List Pt} {i k : Nat} (hi : i < a.length) (hk : k < b.length) (h : a[i].id = b[k].id) : nmd (a.drop i) (b.drop k) = a[i].id :: nmd (a.drop (i + 1)) (b.drop (k + 1)) := by
  rw [List.drop_eq_getElem_cons hi, List.drop_eq_getElem_cons hk]
  exact nmd_e h
theorem nmd_end {a b : List Pt} {i k : Nat} (hi : a.length ≤ i) (hk : b.length ≤ k) : nmd (a.drop i) (b.drop k) = [] := by
  rw [List.drop_eq_nil_of_le hi, List.drop_eq_nil_of_le hk, nmd_nn]
theorem nmd_len : ∀ (a b : List Pt), (nmd a b).length ≤ a.length + b.length := by
  refine mrg_ind ?_ ?_ ?_ ?_
  · rw [nmd_nn]; exact Nat.le_refl _
  · intro p a b hb ih
    rw [nmd_a hb]; simp only [List.length_cons]; omega
  · intro q a b ha ih
    rw [nmd_b ha]; simp only [List.length_cons]; omega
  · intro p q a b e ih
    rw [nmd_e e]; simp only [List.length_cons]; omega
def lkp (l : List Pt) (id : Int) : Pt := l[pos l id]?.getD default
def prtG (n : Md) (k : Int) (u : Uk) : Ak := if k = 2 then ⟨2, ⟨0, 0, 0⟩, u.id, 0, 0⟩ else if k = 4 then ⟨3, lkp n.l u.id, 0, 0, 0⟩ else if k = 3 then ⟨1, lkp n.l u.id, 0, 0, 0⟩ else ⟨4, ⟨0, 0, 0⟩, 0, n.n, n.d⟩
def prt (l : List Uk) (k : Int) (n : Md) : List Ak := (l.filter fun u => decide (u.k = k)).map (prtG n k)
theorem prt_now {m n : Md} {k : Int} (h : k ≠ 1) : prt (allU m n) k n = prt ((mrg m.l n.l).map Un.u) k n := by
  unfold prt allU
  rw [List.filter_append, List.map_append]
  have : (nowU m n).filter (fun u => decide (u.k = k)) = [] := by
    unfold nowU
    split
    · rfl
    · rw [List.filter_cons_of_neg (by simpa using fun e => h e.symm)]; rfl
  rw [this]; rfl
theorem prt_map (U : List Un) (k : Int) (n : Md) : prt (U.map Un.u) k n = (U.filter fun u => decide (u.k = k)).map fun u => prtG n k u.u := by
  unfold prt
  rw [List.filter_map, List.map_map]; rfl
theorem prt_2 (m n : Md) : prt (allU m n) 2 n = tkA (mrg m.l n.l) := by
  rw [prt_now (by decide), prt_map]; rfl
theorem lkp_mem {l : List Pt} {p : Pt} (hs : incr l = true) (h : p ∈ l) : lkp l p.id = p := (pos_mem hs h).2
theorem prt_4 {m n : Md} (hs : incr n.l = true) : prt (allU m n) 4 n = chA (mrg m.l n.l) := by
  rw [prt_now (by decide), prt_map]
  unfold chA
  apply List.map_congr_left
  intro u hu
  rw [List.mem_filter, decide_eq_true_eq] at hu
  obtain ⟨h1, h2⟩ := mrg_mem _ _ u hu.1
  have hm : u.p ∈ n.l := by
    rcases h1 with ⟨e, _⟩ | ⟨_, h⟩
    · have := hu.2; omega
    · exact h
  show prtG n 4 ⟨u.k, u.id⟩ = _
  unfold prtG
  rw [if_neg (by decide), if_pos rfl]
  show (⟨3, lkp n.l u.id, 0, 0, 0⟩ : Ak) = _
  rw [← h2, lkp_mem hs hm]
theorem prt_3 {m n : Md} (hs : incr n.l = true) : prt (allU m n) 3 n = ptA (mrg m.l n.l) := by
  rw [prt_now (by decide), prt_map]
  unfold ptA
  apply List.map_congr_left
  intro u hu
  rw [List.mem_filter, decide_eq_true_eq] at hu
  obtain ⟨h1, h2⟩ := mrg_mem _ _ u hu.1
  have hm : u.p ∈ n.l := by
    rcases h1 with ⟨e, _⟩ | ⟨_, h⟩
    · have := hu.2; omega
    · exact h
  show prtG n 3 ⟨u.k, u.id⟩ = _
  unfold prtG
  rw [if_neg (by decide), if_neg (by decide), if_pos rfl]
  show (⟨1, lkp n.l u.id, 0, 0, 0⟩ : Ak) = _
  rw [← h2, lkp_mem hs hm]
theorem prt_1 (m n : Md) : prt (allU m n) 1 n = mvA m n := by
  unfold prt allU
  rw [List.filter_append, List.map_append]
  have h : ((mrg m.l n.l).map Un.u).filter (fun u => decide (u.k = 1)) = [] := by
    rw [List.filter_eq_nil_iff]
    intro u hu
    obtain ⟨v, hv, rfl⟩ := List.mem_map.1 hu
    have hk := mrg_kinds hv
    rw [decide_eq_true_eq]
    show ¬ v.k = 1
    omega
  rw [h]
  unfold nowU mvA
  split
  · rfl
  · rfl
theorem prt_all {m n : Md} (hs : incr n.l = true) : prt (allU m n) 2 n ++ prt (allU m n) 4 n ++ prt (allU m n) 3 n ++ prt (allU m n) 1 n = asksL m n := by
  rw [prt_2, prt_4 hs, prt_3 hs, prt_1]; rfl
theorem at1_none {l : List Pt} {id : Int} (hs : incr l = true) (h : lk l id = none) : at1 l id 0 = -1 := by
  rw [at1_has hs, if_neg (by rw [has_lk, h]; decide)]
theorem at1_some {l : List Pt} {id : Int} {p : Pt} (hs : incr l = true) (h : lk l id = some p) : ∃ j : Nat, at1 l id 0 = (j : Int) ∧ ∃ hj : j < l.length, l[j] = p := by
  have hh : has l id = true := by rw [has_lk, h]; rfl
  have e := pos_lk hs hh
  rw [h] at e
  obtain ⟨hlt, he⟩ := (has_pos hs).1 hh
  refine ⟨pos l id, by rw [at1_has hs, if_pos hh], hlt, ?_⟩
  rw [List.getElem?_eq_getElem hlt] at e
  exact e
theorem fm_succ {E : List Int} {g : Int → List Uk} {i : Nat} (h : i < E.length) : (E.take (i + 1)).flatMap g = (E.take i).flatMap g ++ g E[i] := by
  rw [List.take_succ_eq_append_getElem h, List.flatMap_append]; simp
theorem fm_len {E : List Int} {a b : List Pt} (i : Nat) : ((E.take i).flatMap fun id => ukG (lk a id) (lk b id) id).length ≤ E.length := by
  have h1 : ∀ (L : List Int), (L.flatMap fun id => ukG (lk a id) (lk b id) id).length ≤ L.length := fun L => by
    induction L with
    | nil => exact Nat.le_refl _
    | cons x L ih =>
      rw [List.flatMap_cons, List.length_append, List.length_cons]
      have : (ukG (lk a x) (lk b x) x).length ≤ 1 := by
        unfold ukG
        split
        · exact Nat.le_refl _
        · split
          · exact Nat.le_refl _
          · split
            · exact Nat.zero_le _
            · exact Nat.le_refl _
      omega
  have := h1 (E.take i)
  rw [List.length_take] at this
  omega
theorem allU_fm {m n : Md} (hm : incr m.l = true) (hn : incr n.l = true) : nowU m n ++ (nmd m.l n.l).flatMap (fun id => ukG (lk m.l id) (lk n.l id) id) = allU m n := by
  unfold allU; rw [named_mrg hm hn]
theorem pt_id {p : Pt} (h : p.chk = 0) : p.id < 65536 := by have := (cpt_ok (i := p.id) (a := p.a) (b := p.b) h).2.1; omega
theorem both_in {m n : Md} (h : bothV m n = 0) : incr m.l = true ∧ incr n.l = true ∧ (∀ p ∈ m.l, p.id < 65536) ∧ ∀ p ∈ n.l, p.id < 65536 := by
  obtain ⟨h1, h2⟩ := both_ok h
  obtain ⟨a1, a2, a3⟩ := fchk_ok (mchk_ok h1).2
  obtain ⟨b1, b2, b3⟩ := fchk_ok (mchk_ok h2).2
  exact ⟨a3, b3, fun p hp => pt_id (a2 p hp), fun p hp => pt_id (b2 p hp)⟩
theorem lk_mem {l : List Pt} {p : Pt} (hs : incr l = true) (hp : p ∈ l) : lk l p.id = some p := by
  obtain ⟨h1, h2⟩ := pos_mem hs hp
  have h3 := h1
  rw [has_lk] at h3
  obtain ⟨q, hq⟩ := Option.isSome_iff_exists.1 h3
  have e := pos_lk hs h1
  rw [hq, h2] at e
  rw [hq, e]; rfl
theorem at1_mem {l : List Pt} {p : Pt} (hs : incr l = true) (hp : p ∈ l) : ∃ j : Nat, at1 l p.id 0 = (j : Int) ∧ ∃ hj : j < l.length, l[j] = p := at1_some hs (lk_mem hs hp)
theorem prt_succ {l : List Uk} {k : Int} {n : Md} {i : Nat} (h : i < l.length) : prt (l.take (i + 1)) k n = prt (l.take i) k n ++ if l[i].k = k then [prtG n k l[i]] else [] := by
  unfold prt
  rw [List.take_succ_eq_append_getElem h, List.filter_append, List.map_append]
  by_cases c : l[i].k = k <;> simp [c]
theorem prt_len (l : List Uk) (k : Int) (n : Md) (i : Nat) : (prt (l.take i) k n).length ≤ l.length := by
  unfold prt
  rw [List.length_map]
  exact Nat.le_trans (List.length_filter_le ..) (by rw [List.length_take]; omega)
theorem uk_pt {m n : Md} {u : Uk} (h : u ∈ allU m n) (hk : u.k = 3 ∨ u.k = 4) : ∃ p ∈ n.l, p.id = u.id := by
  unfold allU nowU at h
  rcases List.mem_append.1 h with h | h
  · split at h
    · cases h
    · rw [List.mem_singleton] at h
      subst h
      rcases hk with hk | hk <;> cases hk
  · obtain ⟨v, hv, rfl⟩ := List.mem_map.1 h
    obtain ⟨h1, h2⟩ := mrg_mem _ _ v hv
    rcases h1 with ⟨e, _⟩ | ⟨_, h1⟩
    · have hk : v.k = 3 ∨ v.k = 4 := hk
      omega
    · exact ⟨v.p, h1, h2⟩
end Go.Proofs.Ytnjgfhgpicmklaa

namespace Go.Proofs.Ytnjgfhgpicmklaa
open Go Go.RowKit Go.Sort Sx
abbrev idc (l : List Int) : List (List D) := l.map fun x => [i64 x]
set_option maxRecDepth 100000 in
set_option maxHeartbeats 8000000 in
theorem rdnamed_fn (m n : Md) (h1 : m.l.length ≤ 64) (h2 : n.l.length ≤ 64) (h3 : ∀ p ∈ n.l, p.id < 65536) (h4 : ∀ p ∈ m.l, p.id < 65536) : FnOK Try.prog 54 [m.dc, n.dc] (.c (.one (.list 1 (idc (nmd m.l n.l))))) := by
  have hlen := nmd_len m.l n.l
  obtain ⟨mn, md, a⟩ := m
  obtain ⟨nn, nd, b⟩ := n
  simp only [Md.dc] at *
  have hal : (a.map Pt.c).length = a.length := List.length_map ..
  have hbl : (b.map Pt.c).length = b.length := List.length_map ..
  refine fn_ok (by kernel_rfl) (ty_okK [5, 57] [] [] []) Try.func54 rfl (fun _ _ => Try.call54 _ _) rfl ?_
  intro hw
  clear hw
  repeat' ((conv => whnf); first | (with_reducible first | refine br_t ?_ | refine br_f ?_ | refine za ?_ | refine zg ?_ | refine zo ?_) | refine zp ?_ | refine zq ?_ | (with_reducible first | refine bc (fun h => ?_) (fun h => ?_) | refine zt ?_ | refine zf ?_ | refine br_i (fun h => ?_) (fun h => ?_)) | refine zg ?_ | refine zi ?_ | refine zb ?_ | refine zl ?_)
  all_goals conv => whnf
  refine loop_J (by kernel_rfl) (ty_okK [5, 57] [] [] []) (σ := Nat × Nat × List Int) (fun s => [(6, sV (.int .i64 s.1)), (7, sV (.int .i64 s.2.1)), (5, .c (.at (.osl 5 0)))]) (fun s => [(5, .row 1 (idc s.2.2) 0)]) (fun s => s.1 ≤ a.length ∧ s.2.1 ≤ b.length ∧ s.2.2 ++ nmd (a.drop s.1) (b.drop s.2.1) = nmd a b) (fun s => a.length + b.length - s.1 - s.2.1) (0, 0, []) ⟨Nat.zero_le _, Nat.zero_le _, rfl⟩ ?_ ?_
  · (conv => whnf); refine ⟨by repeat' (first | with_reducible exact zE0 | with_reducible refine zE1 ?_ ?_ | rfl | assumption | (rfl) | exact zi1 | exact zb1), by repeat' (first | with_reducible exact zH0 | with_reducible refine zH1 ?_ ?_ | rfl | assumption | (rfl)), rfl⟩
  rintro ⟨i, k, o⟩ ⟨hi, hk, hI⟩
  dsimp only at hi hk hI
  have ek : ((i, k, o) : Nat × Nat × List Int).snd.fst = k := rfl
  have ei : ((i, k, o) : Nat × Nat × List Int).fst = i := rfl
  have ew : IntKind.i64.wrap ((k : Int) + 1) = ((k + 1 : Nat) : Int) := by rw [IntWalk.i64_in _ (by omega)]; omega
  have ewi : IntKind.i64.wrap ((i : Int) + 1) = ((i + 1 : Nat) : Int) := by rw [IntWalk.i64_in _ (by omega)]; omega
  have hol : (idc o).length = o.length := List.length_map ..
  have hoL : o.length ≤ a.length + b.length := by have := congrArg List.length hI; rw [List.length_append] at this; omega
  have hs : ∀ x : Int, idc o ++ [[i64 x]] = idc (o ++ [x]) := fun x => by rw [idc, idc, List.map_append]; rfl
  have hb : ∀ x : Int, (idc o ++ [[i64 x]]).length ≤ 1000000 := fun x => by rw [List.length_append, hol]; simp only [List.length_cons, List.length_nil]; omega
  rcases Nat.lt_or_ge i a.length with hia | hia
  · have ea := pts_get hia
    have qa := h4 _ (List.getElem_mem hia)
    rcases Nat.lt_or_ge k b.length with hkb | hkb
    · have eb := pts_get hkb
      have qb := h3 _ (List.getElem_mem hkb)
      rcases (show a[i].id < b[k].id ∨ b[k].id < a[i].id ∨ a[i].id = b[k].id by omega) with c | c | c
      · rw [nmd_dropA hia (.inr ⟨hkb, c⟩)] at hI
        have hs := hs a[i].id
        have hb := hb a[i].id
        generalize a[i] = p at *
        generalize b[k] = q at *
        repeat' ((conv => whnf); first | (with_reducible first | refine br_t ?_ | refine br_f ?_ | refine za ?_ | refine zg ?_ | refine zo ?_) | rw [hal] | rw [hbl] | exact hb | refine zp ?_ | refine zq ?_ | (with_reducible first | refine bc (fun h => ?_) (fun h => ?_) | refine zt ?_ | refine zf ?_ | refine br_i (fun h => ?_) (fun h => ?_)) | refine zg ?_ | refine zi ?_ | refine zb ?_ | refine zl ?_)
        all_goals conv => whnf
        refine ⟨(i + 1, k, o ++ [p.id]), ⟨by dsimp only; omega, by dsimp only; omega, by rw [List.append_assoc]; exact hI⟩, ?_, by dsimp only; omega⟩
        (conv => whnf); refine ⟨by repeat' (first | with_reducible exact zE0 | with_reducible refine zE1 ?_ ?_ | rfl | assumption | (first | exact congrArg (fun x => some (Blk.row 1 x 0)) hs | exact congrArg (fun x => some (sV (.int .i64 x))) ew | exact congrArg (fun x => some (sV (.int .i64 x))) ewi) | exact zi1 | exact zb1), by repeat' (first | with_reducible exact zH0 | with_reducible refine zH1 ?_ ?_ | rfl | assumption | (first | exact congrArg (fun x => some (Blk.row 1 x 0)) hs | exact congrArg (fun x => some (sV (.int .i64 x))) ew | exact congrArg (fun x => some (sV (.int .i64 x))) ewi)), rfl⟩
      · rw [nmd_dropB hkb (.inr ⟨hia, c⟩)] at hI
        have hs := hs b[k].id
        have hb := hb b[k].id
        generalize a[i] = p at *
        generalize b[k] = q at *
        repeat' ((conv => whnf); first | (with_reducible first | refine br_t ?_ | refine br_f ?_ | refine za ?_ | refine zg ?_ | refine zo ?_) | rw [hal] | rw [hbl] | exact hb | refine zp ?_ | refine zq ?_ | (with_reducible first | refine bc (fun h => ?_) (fun h => ?_) | refine zt ?_ | refine zf ?_ | refine br_i (fun h => ?_) (fun h => ?_)) | refine zg ?_ | refine zi ?_ | refine zb ?_ | refine zl ?_)
        all_goals conv => whnf
        refine ⟨(i, k + 1, o ++ [q.id]), ⟨by dsimp only; omega, by dsimp only; omega, by rw [List.append_assoc]; exact hI⟩, ?_, by dsimp only; omega⟩
        (conv => whnf); refine ⟨by repeat' (first | with_reducible exact zE0 | with_reducible refine zE1 ?_ ?_ | rfl | assumption | (first | exact congrArg (fun x => some (Blk.row 1 x 0)) hs | exact congrArg (fun x => some (sV (.int .i64 x))) ew | exact congrArg (fun x => some (sV (.int .i64 x))) ewi) | exact zi1 | exact zb1), by repeat' (first | with_reducible exact zH0 | with_reducible refine zH1 ?_ ?_ | rfl | assumption | (first | exact congrArg (fun x => some (Blk.row 1 x 0)) hs | exact congrArg (fun x => some (sV (.int .i64 x))) ew | exact congrArg (fun x => some (sV (.int .i64 x))) ewi)), rfl⟩
      · rw [nmd_dropE hia hkb c] at hI
        have hs := hs a[i].id
        have hb := hb a[i].id
        generalize a[i] = p at *
        generalize b[k] = q at *
        repeat' ((conv => whnf); first | (with_reducible first | refine br_t ?_ | refine br_f ?_ | refine za ?_ | refine zg ?_ | refine zo ?_) | rw [hal] | rw [hbl] | exact hb | refine zp ?_ | refine zq ?_ | (with_reducible first | refine bc (fun h => ?_) (fun h => ?_) | refine zt ?_ | refine zf ?_ | refine br_i (fun h => ?_) (fun h => ?_)) | refine zg ?_ | refine zi ?_ | refine zb ?_ | refine zl ?_)
        all_goals conv => whnf
        refine ⟨(i + 1, k + 1, o ++ [p.id]), ⟨by dsimp only; omega, by dsimp only; omega, by rw [List.append_assoc]; exact hI⟩, ?_, by dsimp only; omega⟩
        (conv => whnf); refine ⟨by repeat' (first | with_reducible exact zE0 | with_reducible refine zE1 ?_ ?_ | rfl | assumption | (first | exact congrArg (fun x => some (Blk.row 1 x 0)) hs | exact congrArg (fun x => some (sV (.int .i64 x))) ew | exact congrArg (fun x => some (sV (.int .i64 x))) ewi) | exact zi1 | exact zb1), by repeat' (first | with_reducible exact zH0 | with_reducible refine zH1 ?_ ?_ | rfl | assumption | (first | exact congrArg (fun x => some (Blk.row 1 x 0)) hs | exact congrArg (fun x => some (sV (.int .i64 x))) ew | exact congrArg (fun x => some (sV (.int .i64 x))) ewi)), rfl⟩
    · rw [nmd_dropA hia (.inl hkb)] at hI
      have hs := hs a[i].id
      have hb := hb a[i].id
      generalize a[i] = p at *
      repeat' ((conv => whnf); first | (with_reducible first | refine br_t ?_ | refine br_f ?_ | refine za ?_ | refine zg ?_ | refine zo ?_) | rw [hal] | rw [hbl] | exact hb | refine zp ?_ | refine zq ?_ | (with_reducible first | refine bc (fun h => ?_) (fun h => ?_) | refine zt ?_ | refine zf ?_ | refine br_i (fun h => ?_) (fun h => ?_)) | refine zg ?_ | refine zi ?_ | refine zb ?_ | refine zl ?_)
      all_goals conv => whnf
      refine ⟨(i + 1, k, o ++ [p.id]), ⟨by dsimp only; omega, by dsimp only; omega, by rw [List.append_assoc]; exact hI⟩, ?_, by dsimp only; omega⟩
      (conv => whnf); refine ⟨by repeat' (first | with_reducible exact zE0 | with_reducible refine zE1 ?_ ?_ | rfl | assumption | (first | exact congrArg (fun x => some (Blk.row 1 x 0)) hs | exact congrArg (fun x => some (sV (.int .i64 x))) ew | exact congrArg (fun x => some (sV (.int .i64 x))) ewi) | exact zi1 | exact zb1), by repeat' (first | with_reducible exact zH0 | with_reducible refine zH1 ?_ ?_ | rfl | assumption | (first | exact congrArg (fun x => some (Blk.row 1 x 0)) hs | exact congrArg (fun x => some (sV (.int .i64 x))) ew | exact congrArg (fun x => some (sV (.int .i64 x))) ewi)), rfl⟩
  · rcases Nat.lt_or_ge k b.length with hkb | hkb
    · have eb := pts_get hkb
      have qb := h3 _ (List.getElem_mem hkb)
      rw [nmd_dropB hkb (.inl hia)] at hI
      have hs := hs b[k].id
      have hb := hb b[k].id
      generalize b[k] = q at *
      repeat' ((conv => whnf); first | (with_reducible first | refine br_t ?_ | refine br_f ?_ | refine za ?_ | refine zg ?_ | refine zo ?_) | rw [hal] | rw [hbl] | exact hb | refine zp ?_ | refine zq ?_ | (with_reducible first | refine bc (fun h => ?_) (fun h => ?_) | refine zt ?_ | refine zf ?_ | refine br_i (fun h => ?_) (fun h => ?_)) | refine zg ?_ | refine zi ?_ | refine zb ?_ | refine zl ?_)
      all_goals conv => whnf
      refine ⟨(i, k + 1, o ++ [q.id]), ⟨by dsimp only; omega, by dsimp only; omega, by rw [List.append_assoc]; exact hI⟩, ?_, by dsimp only; omega⟩
      (conv => whnf); refine ⟨by repeat' (first | with_reducible exact zE0 | with_reducible refine zE1 ?_ ?_ | rfl | assumption | (first | exact congrArg (fun x => some (Blk.row 1 x 0)) hs | exact congrArg (fun x => some (sV (.int .i64 x))) ew | exact congrArg (fun x => some (sV (.int .i64 x))) ewi) | exact zi1 | exact zb1), by repeat' (first | with_reducible exact zH0 | with_reducible refine zH1 ?_ ?_ | rfl | assumption | (first | exact congrArg (fun x => some (Blk.row 1 x 0)) hs | exact congrArg (fun x => some (sV (.int .i64 x))) ew | exact congrArg (fun x => some (sV (.int .i64 x))) ewi)), rfl⟩
    · rw [nmd_end hia hkb, List.append_nil] at hI
      subst hI
      repeat' ((conv => whnf); first | (with_reducible first | refine br_t ?_ | refine br_f ?_ | refine za ?_ | refine zg ?_ | refine zo ?_) | rw [hal] | rw [hbl] | refine zp ?_ | refine zq ?_ | (with_reducible first | refine bc (fun h => ?_) (fun h => ?_) | refine zt ?_ | refine zf ?_ | refine br_i (fun h => ?_) (fun h => ?_)) | refine zg ?_ | refine zi ?_ | refine zb ?_ | refine zl ?_)
      all_goals conv => whnf
      all_goals rfl
end Go.Proofs.Ytnjgfhgpicmklaa

namespace Go.Proofs.Ytnjgfhgpicmklaa
open Go Go.RowKit Go.Sort Sx
theorem uk_snoc (U X : List Uk) (u : Uk) : (U ++ X).map Uk.c ++ [u.c] = (U ++ (X ++ [u])).map Uk.c := by simp
set_option maxRecDepth 100000 in
set_option maxHeartbeats 8000000 in
theorem rdall_fn (m n : Md) (h : bothV m n = 0) : FnOK Try.prog 37 [m.dc, n.dc] (.c (.one (uks (allU m n)))) := by
  obtain ⟨b1, b2⟩ := both_len h
  obtain ⟨s1, s2, q1, q2⟩ := both_in h
  have HN := rdnamed_fn m n b1 b2 q2 q1
  have hE := nmd_len m.l n.l
  rw [← allU_fm s1 s2]
  have HA := fun id => rfAt_fn m.l id
  have HB := fun id => rfAt_fn n.l id
  have hfm := fun i => fm_len (E := nmd m.l n.l) (a := m.l) (b := n.l) i
  have hsc := fun i (hi : i < (nmd m.l n.l).length) => fm_succ (g := fun id => ukG (lk m.l id) (lk n.l id) id) hi
  generalize nmd m.l n.l = E at *
  have hel : (idc E).length = E.length := List.length_map ..
  have lm : (m.l.map Pt.c).length = m.l.length := List.length_map ..
  have ln : (n.l.map Pt.c).length = n.l.length := List.length_map ..
  unfold nowU
  by_cases c : m.n = n.n ∧ m.d = n.d
  · rw [if_pos c]
    · refine fn_ok (by kernel_rfl) (ty_okK [5, 19, 47, 54, 72] [] [] []) Try.func37 rfl (fun _ _ => Try.call37 _ _) rfl ?_
      intro hw
      clear hw
      repeat' ((conv => whnf); first | (with_reducible first | refine br_t ?_ | refine br_f ?_ | refine za ?_ | refine zg ?_ | refine zo ?_) | rw [hel] | refine zp ?_ | refine zq ?_ | (with_reducible first | refine bc (fun h => ?_) (fun h => ?_) | refine zt ?_ | refine zf ?_ | refine br_i (fun h => ?_) (fun h => ?_) | refine xi (pv_bool fun _ => nev23 _ _ _ _ _ _ _) ?_ | refine xi (pv_bool fun _ => nev57 _ _ _ _ _ _ _ _ _) ?_) | refine zg ?_ | refine zi ?_ | refine zb ?_ | refine zl ?_)
      all_goals conv => whnf
      refine loop_J (by kernel_rfl) (ty_okK [5, 19, 47, 54, 72] [] [] []) (σ := Nat) (fun i => [(7, sV (.int .i64 i)), (5, .c (.at (.osl 5 0)))]) (fun i => [(5, .row 2 ((([] : List Uk) ++ (E.take i).flatMap fun id => ukG (lk m.l id) (lk n.l id) id).map Uk.c) 0)]) (fun i => i ≤ E.length) (fun i => E.length - i) 0 (Nat.zero_le _) ?_ ?_
      · (conv => whnf); refine ⟨by repeat' (first | with_reducible exact zE0 | with_reducible refine zE1 ?_ ?_ | rfl | assumption | (rfl) | exact zi1 | exact zb1), by repeat' (first | with_reducible exact zH0 | with_reducible refine zH1 ?_ ?_ | rfl | assumption | (rfl)), rfl⟩
      intro i hi
      have hfi := hfm i
      have hol : ((([] : List Uk) ++ (E.take i).flatMap fun id => ukG (lk m.l id) (lk n.l id) id).map Uk.c).length ≤ 130 := by rw [List.length_map, List.length_append]; simp only [List.length_cons, List.length_nil]; omega
      rcases Nat.lt_or_ge i E.length with hlt | hge
      · have hg := ints_get hlt
        have hs := hsc i hlt
        have HAi := HA E[i]
        have HBi := HB E[i]
        clear HA HB hfm hsc HN
        generalize E[i] = id at *
        cases hq : lk n.l id with
        | none =>
          rw [at1_none s2 hq] at HBi
          have hu : ukG (lk m.l id) (lk n.l id) id = [⟨2, id⟩] := by rw [hq]; rfl
          rw [hu] at hs
          have hs : (([] : List Uk) ++ (E.take i).flatMap fun id => ukG (lk m.l id) (lk n.l id) id).map Uk.c ++ [[u8 2, i64 id]] = (([] : List Uk) ++ (E.take (i + 1)).flatMap fun id => ukG (lk m.l id) (lk n.l id) id).map Uk.c := by rw [hs]; exact uk_snoc _ _ ⟨2, id⟩
          generalize at1 m.l id 0 = z at *
          generalize (([] : List Uk) ++ (E.take i).flatMap fun id => ukG (lk m.l id) (lk n.l id) id).map Uk.c = o at *
          repeat' ((conv => whnf); first | (with_reducible first | refine br_t ?_ | refine br_f ?_ | refine za ?_ | refine zg ?_ | refine zo ?_) | rw [hel] | refine zp ?_ | refine zq ?_ | (with_reducible first | refine bc (fun h => ?_) (fun h => ?_) | refine zt ?_ | refine zf ?_ | refine br_i (fun h => ?_) (fun h => ?_) | refine xi (pv_bool fun _ => nev23 _ _ _ _ _ _ _) ?_ | refine xi (pv_bool fun _ => nev57 _ _ _ _ _ _ _ _ _) ?_) | refine zg ?_ | refine zi ?_ | refine zb ?_ | refine zl ?_)
          all_goals conv => whnf
          refine ⟨i + 1, by omega, ?_, by omega⟩
          (conv => whnf); refine ⟨by repeat' (first | with_reducible exact zE0 | with_reducible refine zE1 ?_ ?_ | rfl | assumption | ((exact congrArg (fun x => some (Blk.row 2 x 0)) hs)) | exact zi1 | exact zb1), by repeat' (first | with_reducible exact zH0 | with_reducible refine zH1 ?_ ?_ | rfl | assumption | ((exact congrArg (fun x => some (Blk.row 2 x 0)) hs))), rfl⟩
        | some q =>
          obtain ⟨kb, ekb, hkb, hqq⟩ := at1_some s2 hq
          rw [ekb] at HBi
          have gb := pts_get hkb
          rw [hqq] at gb
          cases hp : lk m.l id with
          | none =>
            rw [at1_none s1 hp] at HAi
            have hu : ukG (lk m.l id) (lk n.l id) id = [⟨3, id⟩] := by rw [hq, hp]; rfl
            rw [hu] at hs
            have hs : (([] : List Uk) ++ (E.take i).flatMap fun id => ukG (lk m.l id) (lk n.l id) id).map Uk.c ++ [[u8 3, i64 id]] = (([] : List Uk) ++ (E.take (i + 1)).flatMap fun id => ukG (lk m.l id) (lk n.l id) id).map Uk.c := by rw [hs]; exact uk_snoc _ _ ⟨3, id⟩
            generalize (([] : List Uk) ++ (E.take i).flatMap fun id => ukG (lk m.l id) (lk n.l id) id).map Uk.c = o at *
            repeat' ((conv => whnf); first | (with_reducible first | refine br_t ?_ | refine br_f ?_ | refine za ?_ | refine zg ?_ | refine zo ?_) | rw [hel] | refine zp ?_ | refine zq ?_ | (with_reducible first | refine bc (fun h => ?_) (fun h => ?_) | refine zt ?_ | refine zf ?_ | refine br_i (fun h => ?_) (fun h => ?_) | refine xi (pv_bool fun _ => nev23 _ _ _ _ _ _ _) ?_ | refine xi (pv_bool fun _ => nev57 _ _ _ _ _ _ _ _ _) ?_) | refine zg ?_ | refine zi ?_ | refine zb ?_ | refine zl ?_)
            all_goals conv => whnf
            refine ⟨i + 1, by omega, ?_, by omega⟩
            (conv => whnf); refine ⟨by repeat' (first | with_reducible exact zE0 | with_reducible refine zE1 ?_ ?_ | rfl | assumption | ((exact congrArg (fun x => some (Blk.row 2 x 0)) hs)) | exact zi1 | exact zb1), by repeat' (first | with_reducible exact zH0 | with_reducible refine zH1 ?_ ?_ | rfl | assumption | ((exact congrArg (fun x => some (Blk.row 2 x 0)) hs))), rfl⟩
          | some p =>
            obtain ⟨ka, eka, hka, hpp⟩ := at1_some s1 hp
            rw [eka] at HAi
            have ga := pts_get hka
            rw [hpp] at ga
            have hee := Pt.eq_iff (p := p) (q := q)
            by_cases c : p = q
            · have hu : ukG (lk m.l id) (lk n.l id) id = [] := by rw [hq, hp]; show (if p = q then _ else _) = _; rw [if_pos c]
              rw [hu, List.append_nil] at hs
              have hs : (([] : List Uk) ++ (E.take i).flatMap fun id => ukG (lk m.l id) (lk n.l id) id).map Uk.c = (([] : List Uk) ++ (E.take (i + 1)).flatMap fun id => ukG (lk m.l id) (lk n.l id) id).map Uk.c := by rw [hs]
              have hee := hee.1 c
              generalize (([] : List Uk) ++ (E.take i).flatMap fun id => ukG (lk m.l id) (lk n.l id) id).map Uk.c = o at *
              clear c
              repeat' ((conv => whnf); first | (with_reducible first | refine br_t ?_ | refine br_f ?_ | refine za ?_ | refine zg ?_ | refine zo ?_) | rw [hel] | rw [lm] | rw [ln] | refine zp ?_ | refine zq ?_ | (with_reducible first | refine bc (fun h => ?_) (fun h => ?_) | refine zt ?_ | refine zf ?_ | refine br_i (fun h => ?_) (fun h => ?_) | refine xi (pv_bool fun _ => nev23 _ _ _ _ _ _ _) ?_ | refine xi (pv_bool fun _ => nev57 _ _ _ _ _ _ _ _ _) ?_) | refine zg ?_ | refine zi ?_ | refine zb ?_ | refine zl ?_)
              all_goals conv => whnf
              refine ⟨i + 1, by omega, ?_, by omega⟩
              (conv => whnf); refine ⟨by repeat' (first | with_reducible exact zE0 | with_reducible refine zE1 ?_ ?_ | rfl | assumption | ((exact congrArg (fun x => some (Blk.row 2 x 0)) hs)) | exact zi1 | exact zb1), by repeat' (first | with_reducible exact zH0 | with_reducible refine zH1 ?_ ?_ | rfl | assumption | ((exact congrArg (fun x => some (Blk.row 2 x 0)) hs))), rfl⟩
            · have hu : ukG (lk m.l id) (lk n.l id) id = [⟨4, id⟩] := by rw [hq, hp]; show (if p = q then _ else _) = _; rw [if_neg c]
              rw [hu] at hs
              have hs : (([] : List Uk) ++ (E.take i).flatMap fun id => ukG (lk m.l id) (lk n.l id) id).map Uk.c ++ [[u8 4, i64 id]] = (([] : List Uk) ++ (E.take (i + 1)).flatMap fun id => ukG (lk m.l id) (lk n.l id) id).map Uk.c := by rw [hs]; exact uk_snoc _ _ ⟨4, id⟩
              have hee : ¬ _ := fun h => c (hee.2 h)
              generalize (([] : List Uk) ++ (E.take i).flatMap fun id => ukG (lk m.l id) (lk n.l id) id).map Uk.c = o at *
              clear c
              repeat' ((conv => whnf); first | (with_reducible first | refine br_t ?_ | refine br_f ?_ | refine za ?_ | refine zg ?_ | refine zo ?_) | rw [hel] | rw [lm] | rw [ln] | refine zp ?_ | refine zq ?_ | (with_reducible first | refine bc (fun h => ?_) (fun h => ?_) | refine zt ?_ | refine zf ?_ | refine br_i (fun h => ?_) (fun h => ?_) | refine xi (pv_bool fun _ => nev23 _ _ _ _ _ _ _) ?_ | refine xi (pv_bool fun _ => nev57 _ _ _ _ _ _ _ _ _) ?_) | refine zg ?_ | refine zi ?_ | refine zb ?_ | refine zl ?_)
              all_goals conv => whnf
              refine ⟨i + 1, by omega, ?_, by omega⟩
              (conv => whnf); refine ⟨by repeat' (first | with_reducible exact zE0 | with_reducible refine zE1 ?_ ?_ | rfl | assumption | ((exact congrArg (fun x => some (Blk.row 2 x 0)) hs)) | exact zi1 | exact zb1), by repeat' (first | with_reducible exact zH0 | with_reducible refine zH1 ?_ ?_ | rfl | assumption | ((exact congrArg (fun x => some (Blk.row 2 x 0)) hs))), rfl⟩
      · obtain rfl : i = E.length := by omega
        rw [List.take_length] at *
        repeat' ((conv => whnf); first | (with_reducible first | refine br_t ?_ | refine br_f ?_ | refine za ?_ | refine zg ?_ | refine zo ?_) | rw [hel] | refine zp ?_ | refine zq ?_ | (with_reducible first | refine bc (fun h => ?_) (fun h => ?_) | refine zt ?_ | refine zf ?_ | refine br_i (fun h => ?_) (fun h => ?_) | refine xi (pv_bool fun _ => nev23 _ _ _ _ _ _ _) ?_ | refine xi (pv_bool fun _ => nev57 _ _ _ _ _ _ _ _ _) ?_) | refine zg ?_ | refine zi ?_ | refine zb ?_ | refine zl ?_)
        all_goals conv => whnf
        all_goals rfl
  · rw [if_neg c]
    · refine fn_ok (by kernel_rfl) (ty_okK [5, 19, 47, 54, 72] [] [] []) Try.func37 rfl (fun _ _ => Try.call37 _ _) rfl ?_
      intro hw
      clear hw
      repeat' ((conv => whnf); first | (with_reducible first | refine br_t ?_ | refine br_f ?_ | refine za ?_ | refine zg ?_ | refine zo ?_) | rw [hel] | refine zp ?_ | refine zq ?_ | (with_reducible first | refine bc (fun h => ?_) (fun h => ?_) | refine zt ?_ | refine zf ?_ | refine br_i (fun h => ?_) (fun h => ?_) | refine xi (pv_bool fun _ => nev23 _ _ _ _ _ _ _) ?_ | refine xi (pv_bool fun _ => nev57 _ _ _ _ _ _ _ _ _) ?_) | refine zg ?_ | refine zi ?_ | refine zb ?_ | refine zl ?_)
      refine loop_keep [2, 3, 4, 5, 6, 7] ?_
      all_goals conv => whnf
      refine loop_J (by kernel_rfl) (ty_okK [5, 19, 47, 54, 72] [] [] []) (σ := Nat) (fun i => [(7, sV (.int .i64 i)), (5, .c (.at (.osl 5 0)))]) (fun i => [(5, .row 2 ((([⟨1, 0⟩] : List Uk) ++ (E.take i).flatMap fun id => ukG (lk m.l id) (lk n.l id) id).map Uk.c) 0)]) (fun i => i ≤ E.length) (fun i => E.length - i) 0 (Nat.zero_le _) ?_ ?_
      · (conv => whnf); refine ⟨by repeat' (first | with_reducible exact zE0 | with_reducible refine zE1 ?_ ?_ | rfl | assumption | (rfl) | exact zi1 | exact zb1), by repeat' (first | with_reducible exact zH0 | with_reducible refine zH1 ?_ ?_ | rfl | assumption | (rfl)), rfl⟩
      intro i hi
      have hfi := hfm i
      have hol : ((([⟨1, 0⟩] : List Uk) ++ (E.take i).flatMap fun id => ukG (lk m.l id) (lk n.l id) id).map Uk.c).length ≤ 130 := by rw [List.length_map, List.length_append]; simp only [List.length_cons, List.length_nil]; omega
      rcases Nat.lt_or_ge i E.length with hlt | hge
      · have hg := ints_get hlt
        have hs := hsc i hlt
        have HAi := HA E[i]
        have HBi := HB E[i]
        clear HA HB hfm hsc HN
        generalize E[i] = id at *
        cases hq : lk n.l id with
        | none =>
          rw [at1_none s2 hq] at HBi
          have hu : ukG (lk m.l id) (lk n.l id) id = [⟨2, id⟩] := by rw [hq]; rfl
          rw [hu] at hs
          have hs : (([⟨1, 0⟩] : List Uk) ++ (E.take i).flatMap fun id => ukG (lk m.l id) (lk n.l id) id).map Uk.c ++ [[u8 2, i64 id]] = (([⟨1, 0⟩] : List Uk) ++ (E.take (i + 1)).flatMap fun id => ukG (lk m.l id) (lk n.l id) id).map Uk.c := by rw [hs]; exact uk_snoc _ _ ⟨2, id⟩
          generalize at1 m.l id 0 = z at *
          generalize (([⟨1, 0⟩] : List Uk) ++ (E.take i).flatMap fun id => ukG (lk m.l id) (lk n.l id) id).map Uk.c = o at *
          repeat' ((conv => whnf); first | (with_reducible first | refine br_t ?_ | refine br_f ?_ | refine za ?_ | refine zg ?_ | refine zo ?_) | rw [hel] | refine zp ?_ | refine zq ?_ | (with_reducible first | refine bc (fun h => ?_) (fun h => ?_) | refine zt ?_ | refine zf ?_ | refine br_i (fun h => ?_) (fun h => ?_) | refine xi (pv_bool fun _ => nev23 _ _ _ _ _ _ _) ?_ | refine xi (pv_bool fun _ => nev57 _ _ _ _ _ _ _ _ _) ?_) | refine zg ?_ | refine zi ?_ | refine zb ?_ | refine zl ?_)
          all_goals conv => whnf
          refine ⟨i + 1, by omega, ?_, by omega⟩
          (conv => whnf); refine ⟨by repeat' (first | with_reducible exact zE0 | with_reducible refine zE1 ?_ ?_ | rfl | assumption | ((exact congrArg (fun x => some (Blk.row 2 x 0)) hs)) | exact zi1 | exact zb1), by repeat' (first | with_reducible exact zH0 | with_reducible refine zH1 ?_ ?_ | rfl | assumption | ((exact congrArg (fun x => some (Blk.row 2 x 0)) hs))), rfl⟩
        | some q =>
          obtain ⟨kb, ekb, hkb, hqq⟩ := at1_some s2 hq
          rw [ekb] at HBi
          have gb := pts_get hkb
          rw [hqq] at gb
          cases hp : lk m.l id with
          | none =>
            rw [at1_none s1 hp] at HAi
            have hu : ukG (lk m.l id) (lk n.l id) id = [⟨3, id⟩] := by rw [hq, hp]; rfl
            rw [hu] at hs
            have hs : (([⟨1, 0⟩] : List Uk) ++ (E.take i).flatMap fun id => ukG (lk m.l id) (lk n.l id) id).map Uk.c ++ [[u8 3, i64 id]] = (([⟨1, 0⟩] : List Uk) ++ (E.take (i + 1)).flatMap fun id => ukG (lk m.l id) (lk n.l id) id).map Uk.c := by rw [hs]; exact uk_snoc _ _ ⟨3, id⟩
            generalize (([⟨1, 0⟩] : List Uk) ++ (E.take i).flatMap fun id => ukG (lk m.l id) (lk n.l id) id).map Uk.c = o at *
            repeat' ((conv => whnf); first | (with_reducible first | refine br_t ?_ | refine br_f ?_ | refine za ?_ | refine zg ?_ | refine zo ?_) | rw [hel] | refine zp ?_ | refine zq ?_ | (with_reducible first | refine bc (fun h => ?_) (fun h => ?_) | refine zt ?_ | refine zf ?_ | refine br_i (fun h => ?_) (fun h => ?_) | refine xi (pv_bool fun _ => nev23 _ _ _ _ _ _ _) ?_ | refine xi (pv_bool fun _ => nev57 _ _ _ _ _ _ _ _ _) ?_) | refine zg ?_ | refine zi ?_ | refine zb ?_ | refine zl ?_)
            all_goals conv => whnf
            refine ⟨i + 1, by omega, ?_, by omega⟩
            (conv => whnf); refine ⟨by repeat' (first | with_reducible exact zE0 | with_reducible refine zE1 ?_ ?_ | rfl | assumption | ((exact congrArg (fun x => some (Blk.row 2 x 0)) hs)) | exact zi1 | exact zb1), by repeat' (first | with_reducible exact zH0 | with_reducible refine zH1 ?_ ?_ | rfl | assumption | ((exact congrArg (fun x => some (Blk.row 2 x 0)) hs))), rfl⟩
          | some p =>
            obtain ⟨ka, eka, hka, hpp⟩ := at1_some s1 hp
            rw [eka] at HAi
            have ga := pts_get hka
            rw [hpp] at ga
            have hee := Pt.eq_iff (p := p) (q := q)
            by_cases c : p = q
            · have hu : ukG (lk m.l id) (lk n.l id) id = [] := by rw [hq, hp]; show (if p = q then _ else _) = _; rw [if_pos c]
              rw [hu, List.append_nil] at hs
              have hs : (([⟨1, 0⟩] : List Uk) ++ (E.take i).flatMap fun id => ukG (lk m.l id) (lk n.l id) id).map Uk.c = (([⟨1, 0⟩] : List Uk) ++ (E.take (i + 1)).flatMap fun id => ukG (lk m.l id) (lk n.l id) id).map Uk.c := by rw [hs]
              have hee := hee.1 c
              generalize (([⟨1, 0⟩] : List Uk) ++ (E.take i).flatMap fun id => ukG (lk m.l id) (lk n.l id) id).map Uk.c = o at *
              clear c
              repeat' ((conv => whnf); first | (with_reducible first | refine br_t ?_ | refine br_f ?_ | refine za ?_ | refine zg ?_ | refine zo ?_) | rw [hel] | rw [lm] | rw [ln] | refine zp ?_ | refine zq ?_ | (with_reducible first | refine bc (fun h => ?_) (fun h => ?_) | refine zt ?_ | refine zf ?_ | refine br_i (fun h => ?_) (fun h => ?_) | refine xi (pv_bool fun _ => nev23 _ _ _ _ _ _ _) ?_ | refine xi (pv_bool fun _ => nev57 _ _ _ _ _ _ _ _ _) ?_) | refine zg ?_ | refine zi ?_ | refine zb ?_ | refine zl ?_)
              all_goals conv => whnf
              refine ⟨i + 1, by omega, ?_, by omega⟩
              (conv => whnf); refine ⟨by repeat' (first | with_reducible exact zE0 | with_reducible refine zE1 ?_ ?_ | rfl | assumption | ((exact congrArg (fun x => some (Blk.row 2 x 0)) hs)) | exact zi1 | exact zb1), by repeat' (first | with_reducible exact zH0 | with_reducible refine zH1 ?_ ?_ | rfl | assumption | ((exact congrArg (fun x => some (Blk.row 2 x 0)) hs))), rfl⟩
            · have hu : ukG (lk m.l id) (lk n.l id) id = [⟨4, id⟩] := by rw [hq, hp]; show (if p = q then _ else _) = _; rw [if_neg c]
              rw [hu] at hs
              have hs : (([⟨1, 0⟩] : List Uk) ++ (E.take i).flatMap fun id => ukG (lk m.l id) (lk n.l id) id).map Uk.c ++ [[u8 4, i64 id]] = (([⟨1, 0⟩] : List Uk) ++ (E.take (i + 1)).flatMap fun id => ukG (lk m.l id) (lk n.l id) id).map Uk.c := by rw [hs]; exact uk_snoc _ _ ⟨4, id⟩
              have hee : ¬ _ := fun h => c (hee.2 h)
              generalize (([⟨1, 0⟩] : List Uk) ++ (E.take i).flatMap fun id => ukG (lk m.l id) (lk n.l id) id).map Uk.c = o at *
              clear c
              repeat' ((conv => whnf); first | (with_reducible first | refine br_t ?_ | refine br_f ?_ | refine za ?_ | refine zg ?_ | refine zo ?_) | rw [hel] | rw [lm] | rw [ln] | refine zp ?_ | refine zq ?_ | (with_reducible first | refine bc (fun h => ?_) (fun h => ?_) | refine zt ?_ | refine zf ?_ | refine br_i (fun h => ?_) (fun h => ?_) | refine xi (pv_bool fun _ => nev23 _ _ _ _ _ _ _) ?_ | refine xi (pv_bool fun _ => nev57 _ _ _ _ _ _ _ _ _) ?_) | refine zg ?_ | refine zi ?_ | refine zb ?_ | refine zl ?_)
              all_goals conv => whnf
              refine ⟨i + 1, by omega, ?_, by omega⟩
              (conv => whnf); refine ⟨by repeat' (first | with_reducible exact zE0 | with_reducible refine zE1 ?_ ?_ | rfl | assumption | ((exact congrArg (fun x => some (Blk.row 2 x 0)) hs)) | exact zi1 | exact zb1), by repeat' (first | with_reducible exact zH0 | with_reducible refine zH1 ?_ ?_ | rfl | assumption | ((exact congrArg (fun x => some (Blk.row 2 x 0)) hs))), rfl⟩
      · obtain rfl : i = E.length := by omega
        rw [List.take_length] at *
        repeat' ((conv => whnf); first | (with_reducible first | refine br_t ?_ | refine br_f ?_ | refine za ?_ | refine zg ?_ | refine zo ?_) | rw [hel] | refine zp ?_ | refine zq ?_ | (with_reducible first | refine bc (fun h => ?_) (fun h => ?_) | refine zt ?_ | refine zf ?_ | refine br_i (fun h => ?_) (fun h => ?_) | refine xi (pv_bool fun _ => nev23 _ _ _ _ _ _ _) ?_ | refine xi (pv_bool fun _ => nev57 _ _ _ _ _ _ _ _ _) ?_) | refine zg ?_ | refine zi ?_ | refine zb ?_ | refine zl ?_)
        all_goals conv => whnf
        all_goals rfl
end Go.Proofs.Ytnjgfhgpicmklaa

namespace Go.Proofs.Ytnjgfhgpicmklaa
open Go Go.RowKit Go.Sort Sx
set_option maxRecDepth 100000 in
set_option maxHeartbeats 8000000 in
theorem rdpart_own (l : List Uk) (k : Int) (n : Md) (hs : incr n.l = true) (hl : l.length ≤ 1000) (hk : k = 1 ∨ k = 2 ∨ k = 3 ∨ k = 4) (hp : ∀ u ∈ l, u.k = 3 ∨ u.k = 4 → ∃ p ∈ n.l, p.id = u.id) : FnOwn Try.prog 42 [.one (uks l), .one (u8 k), n.dc] (ownL 7 ((prt l k n).map Ak.c)) := by
  have hul : (l.map Uk.c).length = l.length := List.length_map ..
  have lln : (n.l.map Pt.c).length = n.l.length := List.length_map ..
  have HA := fun id => rfAt_fn n.l id
  rcases hk with rfl | rfl | rfl | rfl
  · refine fn_own (by kernel_rfl) (ty_okK [7, 33, 52, 71, 79] [] [] []) Try.func42 rfl (fun _ _ => Try.call42 _ _) rfl ?_
    intro hw
    clear hw
    repeat' ((conv => whnf); first | (with_reducible first | refine br_t ?_ | refine br_f ?_ | refine za ?_ | refine zg ?_ | refine zo ?_) | rw [hul] | refine zp ?_ | refine zq ?_ | (with_reducible first | refine bc (fun h => ?_) (fun h => ?_) | refine zt ?_ | refine zf ?_ | refine br_i (fun h => ?_) (fun h => ?_)) | refine zg ?_ | refine zi ?_ | refine zb ?_ | refine zl ?_)
    all_goals conv => whnf
    refine loop_J (by kernel_rfl) (ty_okK [7, 33, 52, 71, 79] [] [] []) (σ := Nat) (fun i => [(8, sV (.int .i64 i)), (7, .c (.at (.osl 7 0)))]) (fun i => [(7, .row 7 ((prt (l.take i) 1 n).map Ak.c) 0)]) (fun i => i ≤ l.length) (fun i => l.length - i) 0 (Nat.zero_le _) ?_ ?_
    · (conv => whnf); refine ⟨by repeat' (first | with_reducible exact zE0 | with_reducible refine zE1 ?_ ?_ | rfl | assumption | (rfl) | exact zi1 | exact zb1), by repeat' (first | with_reducible exact zH0 | with_reducible refine zH1 ?_ ?_ | rfl | assumption | (rfl)), rfl⟩
    intro i hi
    have hpl := prt_len l 1 n i
    have hol : ((prt (l.take i) 1 n).map Ak.c).length = (prt (l.take i) 1 n).length := List.length_map ..
    rcases Nat.lt_or_ge i l.length with hlt | hge
    · have g1 := uks_get hlt
      have hsc := prt_succ (k := 1) (n := n) hlt
      by_cases c : l[i].k = 1
      · rw [if_pos c] at hsc
        · skip
          have he : (prtG n 1 l[i]).c = [u8 4, i64 0, i64 0, i64 0, i64 0, i64 n.n, i64 n.d] := rfl
          have hss : (prt (l.take i) 1 n).map Ak.c ++ [[u8 4, i64 0, i64 0, i64 0, i64 0, i64 n.n, i64 n.d]] = (prt (l.take (i + 1)) 1 n).map Ak.c := by rw [hsc, List.map_append, ← he]; rfl
          generalize prt (l.take i) 1 n = o at *
          rw [c] at g1
          clear HA hp
          repeat' ((conv => whnf); first | (with_reducible first | refine br_t ?_ | refine br_f ?_ | refine za ?_ | refine zg ?_ | refine zo ?_) | rw [hul] | rw [hol] | rw [lln] | refine zp ?_ | refine zq ?_ | (with_reducible first | refine bc (fun h => ?_) (fun h => ?_) | refine zt ?_ | refine zf ?_ | refine br_i (fun h => ?_) (fun h => ?_)) | refine zg ?_ | refine zi ?_ | refine zb ?_ | refine zl ?_)
          all_goals conv => whnf
          refine ⟨i + 1, by omega, ?_, by omega⟩
          (conv => whnf); refine ⟨by repeat' (first | with_reducible exact zE0 | with_reducible refine zE1 ?_ ?_ | rfl | assumption | ((exact congrArg (fun x => some (Blk.row 7 x 0)) hss)) | exact zi1 | exact zb1), by repeat' (first | with_reducible exact zH0 | with_reducible refine zH1 ?_ ?_ | rfl | assumption | ((exact congrArg (fun x => some (Blk.row 7 x 0)) hss))), rfl⟩
      · rw [if_neg c, List.append_nil] at hsc
        have hss : (prt (l.take i) 1 n).map Ak.c = (prt (l.take (i + 1)) 1 n).map Ak.c := by rw [hsc]
        clear HA hp
        repeat' ((conv => whnf); first | (with_reducible first | refine br_t ?_ | refine br_f ?_ | refine za ?_ | refine zg ?_ | refine zo ?_) | rw [hul] | rw [hol] | refine zp ?_ | refine zq ?_ | (with_reducible first | refine bc (fun h => ?_) (fun h => ?_) | refine zt ?_ | refine zf ?_ | refine br_i (fun h => ?_) (fun h => ?_)) | refine zg ?_ | refine zi ?_ | refine zb ?_ | refine zl ?_)
        all_goals conv => whnf
        refine ⟨i + 1, by omega, ?_, by omega⟩
        (conv => whnf); refine ⟨by repeat' (first | with_reducible exact zE0 | with_reducible refine zE1 ?_ ?_ | rfl | assumption | ((exact congrArg (fun x => some (Blk.row 7 x 0)) hss)) | exact zi1 | exact zb1), by repeat' (first | with_reducible exact zH0 | with_reducible refine zH1 ?_ ?_ | rfl | assumption | ((exact congrArg (fun x => some (Blk.row 7 x 0)) hss))), rfl⟩
    · obtain rfl : i = l.length := by omega
      rw [List.take_length]
      repeat' ((conv => whnf); first | (with_reducible first | refine br_t ?_ | refine br_f ?_ | refine za ?_ | refine zg ?_ | refine zo ?_) | rw [hul] | refine zp ?_ | refine zq ?_ | (with_reducible first | refine bc (fun h => ?_) (fun h => ?_) | refine zt ?_ | refine zf ?_ | refine br_i (fun h => ?_) (fun h => ?_)) | refine zg ?_ | refine zi ?_ | refine zb ?_ | refine zl ?_)
      all_goals conv => whnf
      exact .inl ⟨7, 0, _, rfl, rfl, rfl⟩
  · refine fn_own (by kernel_rfl) (ty_okK [7, 33, 52, 71, 79] [] [] []) Try.func42 rfl (fun _ _ => Try.call42 _ _) rfl ?_
    intro hw
    clear hw
    repeat' ((conv => whnf); first | (with_reducible first | refine br_t ?_ | refine br_f ?_ | refine za ?_ | refine zg ?_ | refine zo ?_) | rw [hul] | refine zp ?_ | refine zq ?_ | (with_reducible first | refine bc (fun h => ?_) (fun h => ?_) | refine zt ?_ | refine zf ?_ | refine br_i (fun h => ?_) (fun h => ?_)) | refine zg ?_ | refine zi ?_ | refine zb ?_ | refine zl ?_)
    all_goals conv => whnf
    refine loop_J (by kernel_rfl) (ty_okK [7, 33, 52, 71, 79] [] [] []) (σ := Nat) (fun i => [(8, sV (.int .i64 i)), (7, .c (.at (.osl 7 0)))]) (fun i => [(7, .row 7 ((prt (l.take i) 2 n).map Ak.c) 0)]) (fun i => i ≤ l.length) (fun i => l.length - i) 0 (Nat.zero_le _) ?_ ?_
    · (conv => whnf); refine ⟨by repeat' (first | with_reducible exact zE0 | with_reducible refine zE1 ?_ ?_ | rfl | assumption | (rfl) | exact zi1 | exact zb1), by repeat' (first | with_reducible exact zH0 | with_reducible refine zH1 ?_ ?_ | rfl | assumption | (rfl)), rfl⟩
    intro i hi
    have hpl := prt_len l 2 n i
    have hol : ((prt (l.take i) 2 n).map Ak.c).length = (prt (l.take i) 2 n).length := List.length_map ..
    rcases Nat.lt_or_ge i l.length with hlt | hge
    · have g1 := uks_get hlt
      have hsc := prt_succ (k := 2) (n := n) hlt
      by_cases c : l[i].k = 2
      · rw [if_pos c] at hsc
        · skip
          have he : (prtG n 2 l[i]).c = [u8 2, i64 0, i64 0, i64 0, i64 l[i].id, i64 0, i64 0] := rfl
          have hss : (prt (l.take i) 2 n).map Ak.c ++ [[u8 2, i64 0, i64 0, i64 0, i64 l[i].id, i64 0, i64 0]] = (prt (l.take (i + 1)) 2 n).map Ak.c := by rw [hsc, List.map_append, ← he]; rfl
          generalize prt (l.take i) 2 n = o at *
          rw [c] at g1
          clear HA hp
          repeat' ((conv => whnf); first | (with_reducible first | refine br_t ?_ | refine br_f ?_ | refine za ?_ | refine zg ?_ | refine zo ?_) | rw [hul] | rw [hol] | rw [lln] | refine zp ?_ | refine zq ?_ | (with_reducible first | refine bc (fun h => ?_) (fun h => ?_) | refine zt ?_ | refine zf ?_ | refine br_i (fun h => ?_) (fun h => ?_)) | refine zg ?_ | refine zi ?_ | refine zb ?_ | refine zl ?_)
          all_goals conv => whnf
          refine ⟨i + 1, by omega, ?_, by omega⟩
          (conv => whnf); refine ⟨by repeat' (first | with_reducible exact zE0 | with_reducible refine zE1 ?_ ?_ | rfl | assumption | ((exact congrArg (fun x => some (Blk.row 7 x 0)) hss)) | exact zi1 | exact zb1), by repeat' (first | with_reducible exact zH0 | with_reducible refine zH1 ?_ ?_ | rfl | assumption | ((exact congrArg (fun x => some (Blk.row 7 x 0)) hss))), rfl⟩
      · rw [if_neg c, List.append_nil] at hsc
        have hss : (prt (l.take i) 2 n).map Ak.c = (prt (l.take (i + 1)) 2 n).map Ak.c := by rw [hsc]
        clear HA hp
        repeat' ((conv => whnf); first | (with_reducible first | refine br_t ?_ | refine br_f ?_ | refine za ?_ | refine zg ?_ | refine zo ?_) | rw [hul] | rw [hol] | refine zp ?_ | refine zq ?_ | (with_reducible first | refine bc (fun h => ?_) (fun h => ?_) | refine zt ?_ | refine zf ?_ | refine br_i (fun h => ?_) (fun h => ?_)) | refine zg ?_ | refine zi ?_ | refine zb ?_ | refine zl ?_)
        all_goals conv => whnf
        refine ⟨i + 1, by omega, ?_, by omega⟩
        (conv => whnf); refine ⟨by repeat' (first | with_reducible exact zE0 | with_reducible refine zE1 ?_ ?_ | rfl | assumption | ((exact congrArg (fun x => some (Blk.row 7 x 0)) hss)) | exact zi1 | exact zb1), by repeat' (first | with_reducible exact zH0 | with_reducible refine zH1 ?_ ?_ | rfl | assumption | ((exact congrArg (fun x => some (Blk.row 7 x 0)) hss))), rfl⟩
    · obtain rfl : i = l.length := by omega
      rw [List.take_length]
      repeat' ((conv => whnf); first | (with_reducible first | refine br_t ?_ | refine br_f ?_ | refine za ?_ | refine zg ?_ | refine zo ?_) | rw [hul] | refine zp ?_ | refine zq ?_ | (with_reducible first | refine bc (fun h => ?_) (fun h => ?_) | refine zt ?_ | refine zf ?_ | refine br_i (fun h => ?_) (fun h => ?_)) | refine zg ?_ | refine zi ?_ | refine zb ?_ | refine zl ?_)
      all_goals conv => whnf
      exact .inl ⟨7, 0, _, rfl, rfl, rfl⟩
  · refine fn_own (by kernel_rfl) (ty_okK [7, 33, 52, 71, 79] [] [] []) Try.func42 rfl (fun _ _ => Try.call42 _ _) rfl ?_
    intro hw
    clear hw
    repeat' ((conv => whnf); first | (with_reducible first | refine br_t ?_ | refine br_f ?_ | refine za ?_ | refine zg ?_ | refine zo ?_) | rw [hul] | refine zp ?_ | refine zq ?_ | (with_reducible first | refine bc (fun h => ?_) (fun h => ?_) | refine zt ?_ | refine zf ?_ | refine br_i (fun h => ?_) (fun h => ?_)) | refine zg ?_ | refine zi ?_ | refine zb ?_ | refine zl ?_)
    all_goals conv => whnf
    refine loop_J (by kernel_rfl) (ty_okK [7, 33, 52, 71, 79] [] [] []) (σ := Nat) (fun i => [(8, sV (.int .i64 i)), (7, .c (.at (.osl 7 0)))]) (fun i => [(7, .row 7 ((prt (l.take i) 3 n).map Ak.c) 0)]) (fun i => i ≤ l.length) (fun i => l.length - i) 0 (Nat.zero_le _) ?_ ?_
    · (conv => whnf); refine ⟨by repeat' (first | with_reducible exact zE0 | with_reducible refine zE1 ?_ ?_ | rfl | assumption | (rfl) | exact zi1 | exact zb1), by repeat' (first | with_reducible exact zH0 | with_reducible refine zH1 ?_ ?_ | rfl | assumption | (rfl)), rfl⟩
    intro i hi
    have hpl := prt_len l 3 n i
    have hol : ((prt (l.take i) 3 n).map Ak.c).length = (prt (l.take i) 3 n).length := List.length_map ..
    rcases Nat.lt_or_ge i l.length with hlt | hge
    · have g1 := uks_get hlt
      have hsc := prt_succ (k := 3) (n := n) hlt
      by_cases c : l[i].k = 3
      · rw [if_pos c] at hsc
        · skip
          obtain ⟨p, hp1, hp2⟩ := hp l[i] (List.getElem_mem hlt) (by omega)
          have hlk : lkp n.l l[i].id = p := by rw [← hp2]; exact lkp_mem hs hp1
          obtain ⟨kb, ekb, hkb, hqq⟩ := at1_mem hs hp1
          have HAi := HA l[i].id
          rw [← hp2, ekb] at HAi
          have gb := pts_get hkb
          rw [hqq] at gb
          have he : (prtG n 3 l[i]).c = [u8 1, i64 p.id, i64 p.a, i64 p.b, i64 0, i64 0, i64 0] := by rw [show prtG n 3 l[i] = ⟨1, p, 0, 0, 0⟩ by rw [← hlk]; rfl]; rfl
          rw [← hp2] at g1
          have hss : (prt (l.take i) 3 n).map Ak.c ++ [[u8 1, i64 p.id, i64 p.a, i64 p.b, i64 0, i64 0, i64 0]] = (prt (l.take (i + 1)) 3 n).map Ak.c := by rw [hsc, List.map_append, ← he]; rfl
          generalize prt (l.take i) 3 n = o at *
          rw [c] at g1
          clear HA hp
          repeat' ((conv => whnf); first | (with_reducible first | refine br_t ?_ | refine br_f ?_ | refine za ?_ | refine zg ?_ | refine zo ?_) | rw [hul] | rw [hol] | rw [lln] | refine zp ?_ | refine zq ?_ | (with_reducible first | refine bc (fun h => ?_) (fun h => ?_) | refine zt ?_ | refine zf ?_ | refine br_i (fun h => ?_) (fun h => ?_)) | refine zg ?_ | refine zi ?_ | refine zb ?_ | refine zl ?_)
          all_goals conv => whnf
          refine ⟨i + 1, by omega, ?_, by omega⟩
          (conv => whnf); refine ⟨by repeat' (first | with_reducible exact zE0 | with_reducible refine zE1 ?_ ?_ | rfl | assumption | ((exact congrArg (fun x => some (Blk.row 7 x 0)) hss)) | exact zi1 | exact zb1), by repeat' (first | with_reducible exact zH0 | with_reducible refine zH1 ?_ ?_ | rfl | assumption | ((exact congrArg (fun x => some (Blk.row 7 x 0)) hss))), rfl⟩
      · rw [if_neg c, List.append_nil] at hsc
        have hss : (prt (l.take i) 3 n).map Ak.c = (prt (l.take (i + 1)) 3 n).map Ak.c := by rw [hsc]
        clear HA hp
        repeat' ((conv => whnf); first | (with_reducible first | refine br_t ?_ | refine br_f ?_ | refine za ?_ | refine zg ?_ | refine zo ?_) | rw [hul] | rw [hol] | refine zp ?_ | refine zq ?_ | (with_reducible first | refine bc (fun h => ?_) (fun h => ?_) | refine zt ?_ | refine zf ?_ | refine br_i (fun h => ?_) (fun h => ?_)) | refine zg ?_ | refine zi ?_ | refine zb ?_ | refine zl ?_)
        all_goals conv => whnf
        refine ⟨i + 1, by omega, ?_, by omega⟩
        (conv => whnf); refine ⟨by repeat' (first | with_reducible exact zE0 | with_reducible refine zE1 ?_ ?_ | rfl | assumption | ((exact congrArg (fun x => some (Blk.row 7 x 0)) hss)) | exact zi1 | exact zb1), by repeat' (first | with_reducible exact zH0 | with_reducible refine zH1 ?_ ?_ | rfl | assumption | ((exact congrArg (fun x => some (Blk.row 7 x 0)) hss))), rfl⟩
    · obtain rfl : i = l.length := by omega
      rw [List.take_length]
      repeat' ((conv => whnf); first | (with_reducible first | refine br_t ?_ | refine br_f ?_ | refine za ?_ | refine zg ?_ | refine zo ?_) | rw [hul] | refine zp ?_ | refine zq ?_ | (with_reducible first | refine bc (fun h => ?_) (fun h => ?_) | refine zt ?_ | refine zf ?_ | refine br_i (fun h => ?_) (fun h => ?_)) | refine zg ?_ | refine zi ?_ | refine zb ?_ | refine zl ?_)
      all_goals conv => whnf
      exact .inl ⟨7, 0, _, rfl, rfl, rfl⟩
  · refine fn_own (by kernel_rfl) (ty_okK [7, 33, 52, 71, 79] [] [] []) Try.func42 rfl (fun _ _ => Try.call42 _ _) rfl ?_
    intro hw
    clear hw
    repeat' ((conv => whnf); first | (with_reducible first | refine br_t ?_ | refine br_f ?_ | refine za ?_ | refine zg ?_ | refine zo ?_) | rw [hul] | refine zp ?_ | refine zq ?_ | (with_reducible first | refine bc (fun h => ?_) (fun h => ?_) | refine zt ?_ | refine zf ?_ | refine br_i (fun h => ?_) (fun h => ?_)) | refine zg ?_ | refine zi ?_ | refine zb ?_ | refine zl ?_)
    all_goals conv => whnf
    refine loop_J (by kernel_rfl) (ty_okK [7, 33, 52, 71, 79] [] [] []) (σ := Nat) (fun i => [(8, sV (.int .i64 i)), (7, .c (.at (.osl 7 0)))]) (fun i => [(7, .row 7 ((prt (l.take i) 4 n).map Ak.c) 0)]) (fun i => i ≤ l.length) (fun i => l.length - i) 0 (Nat.zero_le _) ?_ ?_
    · (conv => whnf); refine ⟨by repeat' (first | with_reducible exact zE0 | with_reducible refine zE1 ?_ ?_ | rfl | assumption | (rfl) | exact zi1 | exact zb1), by repeat' (first | with_reducible exact zH0 | with_reducible refine zH1 ?_ ?_ | rfl | assumption | (rfl)), rfl⟩
    intro i hi
    have hpl := prt_len l 4 n i
    have hol : ((prt (l.take i) 4 n).map Ak.c).length = (prt (l.take i) 4 n).length := List.length_map ..
    rcases Nat.lt_or_ge i l.length with hlt | hge
    · have g1 := uks_get hlt
      have hsc := prt_succ (k := 4) (n := n) hlt
      by_cases c : l[i].k = 4
      · rw [if_pos c] at hsc
        · skip
          obtain ⟨p, hp1, hp2⟩ := hp l[i] (List.getElem_mem hlt) (by omega)
          have hlk : lkp n.l l[i].id = p := by rw [← hp2]; exact lkp_mem hs hp1
          obtain ⟨kb, ekb, hkb, hqq⟩ := at1_mem hs hp1
          have HAi := HA l[i].id
          rw [← hp2, ekb] at HAi
          have gb := pts_get hkb
          rw [hqq] at gb
          have he : (prtG n 4 l[i]).c = [u8 3, i64 p.id, i64 p.a, i64 p.b, i64 0, i64 0, i64 0] := by rw [show prtG n 4 l[i] = ⟨3, p, 0, 0, 0⟩ by rw [← hlk]; rfl]; rfl
          rw [← hp2] at g1
          have hss : (prt (l.take i) 4 n).map Ak.c ++ [[u8 3, i64 p.id, i64 p.a, i64 p.b, i64 0, i64 0, i64 0]] = (prt (l.take (i + 1)) 4 n).map Ak.c := by rw [hsc, List.map_append, ← he]; rfl
          generalize prt (l.take i) 4 n = o at *
          rw [c] at g1
          clear HA hp
          repeat' ((conv => whnf); first | (with_reducible first | refine br_t ?_ | refine br_f ?_ | refine za ?_ | refine zg ?_ | refine zo ?_) | rw [hul] | rw [hol] | rw [lln] | refine zp ?_ | refine zq ?_ | (with_reducible first | refine bc (fun h => ?_) (fun h => ?_) | refine zt ?_ | refine zf ?_ | refine br_i (fun h => ?_) (fun h => ?_)) | refine zg ?_ | refine zi ?_ | refine zb ?_ | refine zl ?_)
          all_goals conv => whnf
          refine ⟨i + 1, by omega, ?_, by omega⟩
          (conv => whnf); refine ⟨by repeat' (first | with_reducible exact zE0 | with_reducible refine zE1 ?_ ?_ | rfl | assumption | ((exact congrArg (fun x => some (Blk.row 7 x 0)) hss)) | exact zi1 | exact zb1), by repeat' (first | with_reducible exact zH0 | with_reducible refine zH1 ?_ ?_ | rfl | assumption | ((exact congrArg (fun x => some (Blk.row 7 x 0)) hss))), rfl⟩
      · rw [if_neg c, List.append_nil] at hsc
        have hss : (prt (l.take i) 4 n).map Ak.c = (prt (l.take (i + 1)) 4 n).map Ak.c := by rw [hsc]
        clear HA hp
        repeat' ((conv => whnf); first | (with_reducible first | refine br_t ?_ | refine br_f ?_ | refine za ?_ | refine zg ?_ | refine zo ?_) | rw [hul] | rw [hol] | refine zp ?_ | refine zq ?_ | (with_reducible first | refine bc (fun h => ?_) (fun h => ?_) | refine zt ?_ | refine zf ?_ | refine br_i (fun h => ?_) (fun h => ?_)) | refine zg ?_ | refine zi ?_ | refine zb ?_ | refine zl ?_)
        all_goals conv => whnf
        refine ⟨i + 1, by omega, ?_, by omega⟩
        (conv => whnf); refine ⟨by repeat' (first | with_reducible exact zE0 | with_reducible refine zE1 ?_ ?_ | rfl | assumption | ((exact congrArg (fun x => some (Blk.row 7 x 0)) hss)) | exact zi1 | exact zb1), by repeat' (first | with_reducible exact zH0 | with_reducible refine zH1 ?_ ?_ | rfl | assumption | ((exact congrArg (fun x => some (Blk.row 7 x 0)) hss))), rfl⟩
    · obtain rfl : i = l.length := by omega
      rw [List.take_length]
      repeat' ((conv => whnf); first | (with_reducible first | refine br_t ?_ | refine br_f ?_ | refine za ?_ | refine zg ?_ | refine zo ?_) | rw [hul] | refine zp ?_ | refine zq ?_ | (with_reducible first | refine bc (fun h => ?_) (fun h => ?_) | refine zt ?_ | refine zf ?_ | refine br_i (fun h => ?_) (fun h => ?_)) | refine zg ?_ | refine zi ?_ | refine zb ?_ | refine zl ?_)
      all_goals conv => whnf
      exact .inl ⟨7, 0, _, rfl, rfl, rfl⟩
end Go.Proofs.Ytnjgfhgpicmklaa
