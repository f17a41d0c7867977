import Derived.Test.YtnhljlihchegjaaGreatGLPNamesAT
import Derived.Test.YtnhljlihchegjaaGreatGLPNamesAQ
import Derived.Test.YtnhljlihchegjaaGreatGLPNamesAO
import Derived.Test.YtnhljlihchegjaaGreatGLPNamesAP
import Derived.Test.YtnhljlihchegjaaGreatGLPNamesAJ
set_option linter.all false
/- Runs of asks. No conditions. -/
namespace Go.Proofs.YtnhljlihchegjaaGreat
open Go Go.RowKit Go.Sort Sx
def runs : Md → List Ak → Md × List Rp
  | m, [] => (m, [])
  | m, a :: l => ((runs (askV m a).1 l).1, (askV m a).2 :: (runs (askV m a).1 l).2)
theorem runs_append : ∀ (m : Md) (l r : List Ak), runs m (l ++ r) = ((runs (runs m l).1 r).1, (runs m l).2 ++ (runs (runs m l).1 r).2)
  | m, [], r => rfl
  | m, a :: l, r => by
    simp only [List.cons_append, runs, runs_append (askV m a).1 l r]
theorem runs_snoc (m : Md) (l : List Ak) (a : Ak) : runs m (l ++ [a]) = ((askV (runs m l).1 a).1, (runs m l).2 ++ [(askV (runs m l).1 a).2]) := by
  rw [runs_append]; rfl
theorem runs_len : ∀ (m : Md) (l : List Ak), (runs m l).2.length = l.length
  | _, [] => rfl
  | m, a :: l => by simp only [runs, List.length_cons, runs_len]
theorem runs_succ {m : Md} {l : List Ak} {i : Nat} (h : i < l.length) : runs m (l.take (i + 1)) = ((askV (runs m (l.take i)).1 l[i]).1, (runs m (l.take i)).2 ++ [(askV (runs m (l.take i)).1 l[i]).2]) := by
  rw [List.take_succ_eq_append_getElem h, runs_snoc]
def runV (m : Md) (l : List Ak) : Md × List Rp × Int := if mchk m = 0 then (if 120 < l.length then (md0, [], 4) else ((runs m l).1, (runs m l).2, 0)) else (md0, [], 8)
abbrev retR (x : Md × List Rp × Int) : DV := .tup [x.1.dc, .one (rps x.2.1), .one (i64 x.2.2)]
theorem oRun_fn (m : Md) (l : List Ak) : FnOK Tryz.prog 28 [m.dc, .one (aks l)] (retR (runV m l)) := by
  have H := oCheck_fn m
  unfold runV
  by_cases h : mchk m = 0
  · rw [if_pos h]
    rw [h] at H
    obtain ⟨g1, g2⟩ := mchk_ok h
    obtain ⟨k1, k2, k3⟩ := fchk_ok g2
    have HC := ok_of_own (clonePt_own (m.l.map Pt.c) (by simp; omega))
    by_cases h1 : 120 < l.length
    · rw [if_pos h1]
      refine fn_ok (by kernel_rfl) (ty_okK [9, 48] [] [] []) Tryz.func28 rfl (fun _ _ => Tryz.call28 _ _) rfl ?_
      intro hw
      simp only [WDCs, WDC, WDs] at hw
      have w1 := wd_aks hw.2.1
      clear hw
      repeat' ((conv => whnf); first | (with_reducible first | refine br_t ?_ | refine br_f ?_ | refine za ?_ | refine zg ?_ | refine zo ?_ | refine zb ?_ | refine zm ?_ | refine zc ?_ | refine ze ?_) | rw [List.length_map] | ((with_reducible refine bc_t ?_ ?_); (first | omega | decide)) | ((with_reducible refine bc_f ?_ ?_); (first | omega | decide)) | (with_reducible first | refine bc (fun h => ?_) (fun h => ?_) | refine zt ?_ | refine zf ?_ | refine br_i (fun h => ?_) (fun h => ?_)) | refine zg ?_ | refine zi ?_)
      all_goals conv => whnf
      all_goals rfl
    · rw [if_neg h1]
      refine fn_ok (by kernel_rfl) (ty_okK [9, 48] [] [] []) Tryz.func28 rfl (fun _ _ => Tryz.call28 _ _) rfl ?_
      intro hw
      clear hw
      repeat' ((conv => whnf); first | (with_reducible first | refine br_t ?_ | refine br_f ?_ | refine za ?_ | refine zg ?_ | refine zo ?_ | refine zb ?_ | refine zm ?_ | refine zc ?_ | refine ze ?_) | rw [List.length_map] | ((with_reducible refine bc_t ?_ ?_); (first | omega | decide)) | ((with_reducible refine bc_f ?_ ?_); (first | omega | decide)) | (with_reducible first | refine bc (fun h => ?_) (fun h => ?_) | refine zt ?_ | refine zf ?_ | refine br_i (fun h => ?_) (fun h => ?_)) | refine zg ?_ | refine zi ?_)
      refine loop_J (by kernel_rfl) (ty_okK [9, 48] [] [] []) (σ := Nat × Md × List Rp) (fun s => [(34, sV (.int .i64 s.1)), (9, .c (.at (.osl 9 0)))]) (fun s => [(8, .own [.d (i64 s.2.1.n), .d (i64 s.2.1.d), .d (pts s.2.1.l)]), (9, .row 6 (s.2.2.map Rp.c) 0)]) (fun s => s.1 ≤ l.length ∧ mchk s.2.1 = 0 ∧ runs m (l.take s.1) = s.2) (fun s => l.length - s.1) (0, m, []) ⟨by omega, h, rfl⟩ ?_ ?_
      · (conv => whnf); exact zent
      rintro ⟨i, u, o⟩ ⟨hi, hu, hI⟩
      dsimp only at hi hu hI
      have hol : (o.map Rp.c).length = o.length := List.length_map ..
      have hoi : o.length = (l.take i).length := by have := runs_len m (l.take i); rw [hI] at this; exact this
      rw [List.length_take] at hoi
      rcases Nat.lt_or_ge i l.length with hlt | hge
      · have hel := aks_get hlt
        have HA := oask_fn hu l[i]
        have hn := runs_succ (m := m) hlt
        have hv := askV_ok hu l[i]
        rw [hI] at hn
        dsimp only at hn
        generalize askV u l[i] = x at *
        obtain ⟨y, r⟩ := x
        dsimp only at hn hv
        simp only [retA] at HA
        have hs : o.map Rp.c ++ [[i64 r.e, i64 r.i, i64 r.j, i64 r.n, i64 r.d, mts r.ms]] = (o ++ [r]).map Rp.c := by rw [List.map_append]; rfl
        generalize l[i] = a at *
        repeat' ((conv => whnf); first | (with_reducible first | refine br_t ?_ | refine br_f ?_ | refine za ?_ | refine zg ?_ | refine zo ?_ | refine zb ?_ | refine zm ?_ | refine zc ?_ | refine ze ?_) | rw [hol] | rw [List.length_map] | ((with_reducible refine bc_t ?_ ?_); (first | omega | decide)) | ((with_reducible refine bc_f ?_ ?_); (first | omega | decide)) | (with_reducible first | refine bc (fun h => ?_) (fun h => ?_) | refine zt ?_ | refine zf ?_ | refine br_i (fun h => ?_) (fun h => ?_)) | refine zg ?_ | refine zi ?_)
        all_goals conv => whnf
        refine ⟨(i + 1, y, o ++ [r]), ⟨by omega, hv, hn⟩, ?_, by simp only; omega⟩
        (conv => whnf); refine ⟨by repeat' (first | with_reducible exact zE0 | with_reducible refine zE1 ?_ ?_ | rfl | assumption | ((exact congrArg (fun x => some (Blk.row 6 x 0)) hs)) | (refine ent_i ?_; (first | omega | (rw [IntWalk.i64_in _ (by omega)]; omega) | (simp; done))) | (refine ent_b ?_; (first | omega | (rw [IntWalk.i64_in _ (by omega)]; omega) | (simp; done)))), by repeat' (first | with_reducible exact zH0 | with_reducible refine zH1 ?_ ?_ | rfl | assumption | ((exact congrArg (fun x => some (Blk.row 6 x 0)) hs))), rfl⟩
      · obtain rfl : i = l.length := by omega
        rw [List.take_of_length_le (Nat.le_refl _)] at hI
        rw [hI]
        repeat' ((conv => whnf); first | (with_reducible first | refine br_t ?_ | refine br_f ?_ | refine za ?_ | refine zg ?_ | refine zo ?_ | refine zb ?_ | refine zm ?_ | refine zc ?_ | refine ze ?_) | rw [hol] | rw [List.length_map] | ((with_reducible refine bc_t ?_ ?_); (first | omega | decide)) | ((with_reducible refine bc_f ?_ ?_); (first | omega | decide)) | (with_reducible first | refine bc (fun h => ?_) (fun h => ?_) | refine zt ?_ | refine zf ?_ | refine br_i (fun h => ?_) (fun h => ?_)) | refine zg ?_ | refine zi ?_)
        all_goals conv => whnf
        all_goals rfl
  · rw [if_neg h]
    have h8 := (mchk_08 m).resolve_left h
    rw [h8] at H
    refine fn_ok (by kernel_rfl) (ty_okK [9, 48] [] [] []) Tryz.func28 rfl (fun _ _ => Tryz.call28 _ _) rfl ?_
    intro hw
    clear hw
    exact zw
end Go.Proofs.YtnhljlihchegjaaGreat

/- The past: replaying, and when a point was there. No program is named. -/
namespace Go.Proofs.YtnhljlihchegjaaGreat
open Go.RowKit Go.Sort Sx
def pa0 : Pa := ⟨0, 0, []⟩
/-- going on, ask by ask -/
def rpl : Pa → Md → List Ak → Pa × Int
  | p, _, [] => (p, 0)
  | p, m, a :: l => if (pGoV p (askV m a).1).2 = 0 then rpl (pGoV p (askV m a).1).1 (askV m a).1 l else (pa0, (pGoV p (askV m a).1).2)
theorem rpl_lt {p : Pa} {m : Md} {l : List Ak} {i : Nat} (h : i < l.length) : rpl p m (l.drop i) = if (pGoV p (askV m l[i]).1).2 = 0 then rpl (pGoV p (askV m l[i]).1).1 (askV m l[i]).1 (l.drop (i + 1)) else (pa0, (pGoV p (askV m l[i]).1).2) := by
  rw [List.drop_eq_getElem_cons h, rpl]
theorem rpl_ge {p : Pa} {m : Md} {l : List Ak} {i : Nat} (h : l.length ≤ i) : rpl p m (l.drop i) = (p, 0) := by
  rw [List.drop_eq_nil_of_le h, rpl]
def replayV (m : Md) (l : List Ak) : Pa × List Rp × Int :=
  if mchk m = 0 then (if 120 < l.length then (pa0, [], 4) else if (rpl (pNewV m).1 m l).2 = 0 then ((rpl (pNewV m).1 m l).1, (runs m l).2, 0) else (pa0, [], (rpl (pNewV m).1 m l).2)) else (pa0, [], 8)
theorem askV_now {m : Md} (hm : mchk m = 0) (a : Ak) : ¬ (askV m a).1.n * m.d < m.n * (askV m a).1.d := by
  obtain ⟨g1, g2⟩ := mchk_ok hm
  have hr : ¬ m.n * m.d < m.n * m.d := Int.lt_irrefl _
  unfold askV
  split
  · split
    · split <;> exact hr
    · split
      · split <;> exact hr
      · split
        · split <;> exact hr
        · split
          · split
            · split
              · exact hr
              · rename_i h; show ¬ a.n * m.d < m.n * a.d; omega
            · exact hr
          · split
            · split <;> exact hr
            · exact hr
  · exact hr
/-- a past that has come to a model -/
structure Atp (p : Pa) (m : Md) : Prop where
  ok : pchk p = 0
  mok : mchk m = 0
  now : p.n = m.n ∧ p.d = m.d
  is : whatV p m.n m.d = (m.l, 0)
theorem at_new {m : Md} (hm : mchk m = 0) : Atp (pNewV m).1 m ∧ (pNewV m).1.ms.length = 1 ∧ (pNewV m).2 = 0 := by
  obtain ⟨g1, g2⟩ := mchk_ok hm
  unfold pNewV
  rw [if_pos hm]
  have hs : Ups [m] := ⟨fun i hi => by simp only [List.getElem_singleton]; exact askd_chk g1, fun j i hj hij => by simp at hj; omega⟩
  have hok : pchk ⟨m.n, m.d, [m]⟩ = 0 := pchk_mk (Nat.le_refl _) (by simp) g1 (fun x hx => by rw [List.mem_singleton.1 hx]; exact hm) hs Rat.le_refl
  exact ⟨⟨hok, hm, ⟨rfl, rfl⟩, what_last hok⟩, rfl, rfl⟩
theorem at_go {p : Pa} {m : Md} (h : Atp p m) (a : Ak) (hl : p.ms.length < 40) : ∃ q, pGoV p (askV m a).1 = (q, 0) ∧ Atp q (askV m a).1 ∧ q.ms.length ≤ p.ms.length + 1 ∧
    ∀ n e, askd n e = 0 → qv n e ≤ qv m.n m.d → qv n e < qv (askV m a).1.n (askV m a).1.d → whatV q n e = whatV p n e := by
  have hm := askV_ok h.mok a
  have hn := askV_now h.mok a
  have he : (pGoV p (askV m a).1).2 = 0 := by
    unfold pGoV
    rw [if_pos h.ok, if_pos hm, h.now.1, h.now.2, if_neg hn]
    split
    · rfl
    · split
      · rfl
      · rw [if_neg (by omega)]
  generalize hq : pGoV p (askV m a).1 = x at *
  obtain ⟨q, e⟩ := x
  dsimp only at he
  subst he
  have hg := goes h.ok hm hq
  exact ⟨q, rfl, ⟨hg.ok, hm, hg.now, hg.is⟩, hg.len, fun n e h1 h2 h3 => hg.was n e h1 (by rw [h.now.1, h.now.2]; exact h2) h3⟩
/-- few asks: no error, and what was at a time stays as long as nothing changes then -/
theorem rpl_ok : ∀ (l : List Ak) {p : Pa} {m : Md} (n e : Int), Atp p m → p.ms.length + l.length ≤ 40 → askd n e = 0 → qv n e ≤ qv m.n m.d → whatV p n e = whatV p n e →
    (∀ i, i ≤ l.length → (runs m (l.take i)).1.n = n ∧ (runs m (l.take i)).1.d = e → whatV p n e = ((runs m (l.take i)).1.l, 0)) →
    (rpl p m l).2 = 0 ∧ whatV (rpl p m l).1 n e = whatV p n e ∧ Atp (rpl p m l).1 (runs m l).1
  | [], p, m, n, e, h, _, _, _, _, _ => ⟨rfl, rfl, h⟩
  | a :: l, p, m, n, e, h, hl, ht, hle, _, hsame => by
    simp only [List.length_cons] at hl
    obtain ⟨q, hq, hAt, hlen, hw⟩ := at_go h a (by omega)
    have hnow : qv m.n m.d ≤ qv (askV m a).1.n (askV m a).1.d := Rat.not_lt.1 fun hh => askV_now h.mok a ((qv_lt (askd_chk (mchk_ok hAt.mok).1) (askd_chk (mchk_ok h.mok).1)).1 hh)
    have hkeep : whatV q n e = whatV p n e := by
      by_cases hlt : qv n e < qv (askV m a).1.n (askV m a).1.d
      · exact hw n e ht hle hlt
      · have heq : qv (askV m a).1.n (askV m a).1.d = qv n e := Rat.le_antisymm (Rat.not_lt.1 hlt) (Rat.le_trans hle hnow)
        have hne := (qv_inj (askd_chk (mchk_ok hAt.mok).1) (askd_chk ht)).1 heq
        have h1 := hsame 1 (by simp) hne
        have h2 := hAt.is
        rw [hne.1, hne.2] at h2
        rw [h2]
        exact h1.symm
    obtain ⟨r1, r2, r3⟩ := rpl_ok l n e hAt (by omega) ht (Rat.le_trans hle hnow) rfl (fun i hi hni => by
      rw [hkeep]
      exact hsame (i + 1) (by simpa using hi) hni)
    rw [rpl, hq]
    dsimp only
    rw [if_pos rfl]
    exact ⟨r1, r2.trans hkeep, r3⟩
theorem rpl_append : ∀ (l r : List Ak) {p : Pa} {m : Md}, (rpl p m l).2 = 0 → rpl p m (l ++ r) = rpl (rpl p m l).1 (runs m l).1 r
  | [], r, p, m, _ => rfl
  | a :: l, r, p, m, h => by
    rw [rpl] at h
    split at h
    · rename_i h0
      rw [List.cons_append, rpl, if_pos h0, rpl, if_pos h0, runs]
      exact rpl_append l r h
    · rename_i h0; exact absurd h h0
theorem rpl_len : ∀ (l : List Ak) {p : Pa} {m : Md}, Atp p m → p.ms.length + l.length ≤ 40 → (rpl p m l).1.ms.length ≤ p.ms.length + l.length
  | [], p, m, _, _ => Nat.le_refl _
  | a :: l, p, m, h, hl => by
    simp only [List.length_cons] at hl
    obtain ⟨q, hq, hAt, hlen, _⟩ := at_go h a (by omega)
    have := rpl_len l hAt (by omega)
    rw [rpl, hq]
    dsimp only
    rw [if_pos rfl]
    simp only [List.length_cons]
    omega
theorem rpl_at : ∀ (l : List Ak) {p : Pa} {m : Md}, Atp p m → p.ms.length + l.length ≤ 40 → (rpl p m l).2 = 0 ∧ Atp (rpl p m l).1 (runs m l).1
  | [], p, m, h, _ => ⟨rfl, h⟩
  | a :: l, p, m, h, hl => by
    simp only [List.length_cons] at hl
    obtain ⟨q, hq, hAt, hlen, _⟩ := at_go h a (by omega)
    have := rpl_at l hAt (by omega)
    rw [rpl, hq]
    dsimp only
    rw [if_pos rfl]
    exact this
/-- a question about the past has the answer it had -/
theorem answers {m : Md} (hm : mchk m = 0) {l : List Ak} (hl : l.length ≤ 30) {k : Nat} (hk : k ≤ l.length)
    (hsame : ∀ i, k < i → i ≤ l.length → (runs m (l.take i)).1.n = (runs m (l.take k)).1.n ∧ (runs m (l.take i)).1.d = (runs m (l.take k)).1.d → (runs m (l.take i)).1.l = (runs m (l.take k)).1.l) :
    (rpl (pNewV m).1 m l).2 = 0 ∧ whatV (rpl (pNewV m).1 m l).1 (runs m (l.take k)).1.n (runs m (l.take k)).1.d = ((runs m (l.take k)).1.l, 0) := by
  obtain ⟨hA, hL, _⟩ := at_new hm
  have hlt : (l.take k).length = k := by rw [List.length_take]; omega
  have hld : (l.drop k).length = l.length - k := List.length_drop
  obtain ⟨r1, r2⟩ := rpl_at (l.take k) hA (by rw [hL, hlt]; omega)
  have r3 := rpl_len (l.take k) hA (by rw [hL, hlt]; omega)
  rw [hL, hlt] at r3
  have he := rpl_append (l.take k) (l.drop k) r1
  rw [List.take_append_drop] at he
  obtain ⟨s1, s2, _⟩ := rpl_ok (l.drop k) (runs m (l.take k)).1.n (runs m (l.take k)).1.d r2 (by omega) (mchk_ok r2.mok).1 Rat.le_refl rfl (fun i hi hni => by
    rw [r2.is]
    rcases Nat.eq_zero_or_pos i with rfl | h0
    · rfl
    · have ht := runs_append m (l.take k) ((l.drop k).take i)
      rw [← List.take_add] at ht
      have := hsame (k + i) (by omega) (by omega)
      rw [ht] at this
      exact congrArg (fun x => (x, (0 : Int))) (this hni).symm)
  rw [he]
  exact ⟨s1, s2.trans r2.is⟩
theorem Ups.tail {m : Md} {l : List Md} (h : Ups (m :: l)) : Ups l :=
  ⟨fun i hi => h.ok (i + 1) (by simpa using hi), fun j i hj hij => h.up (j + 1) (i + 1) (by simpa using hj) (by omega)⟩
end Go.Proofs.YtnhljlihchegjaaGreat

/- The past: Replay. No conditions. -/
namespace Go.Proofs.YtnhljlihchegjaaGreat
open Go.RowKit Go.Sort Sx
abbrev retY (x : Pa × List Rp × Int) : DV := .tup [x.1.dc, .one (rps x.2.1), .one (i64 x.2.2)]
theorem pNewV_ok {m : Md} (h : mchk m = 0) : pNewV m = (⟨m.n, m.d, [m]⟩, 0) := by unfold pNewV; rw [if_pos h]
set_option maxRecDepth 100000 in
set_option maxHeartbeats 4000000 in
theorem pReplay_fn (m : Md) (l : List Ak) : FnOK Tryz.prog 46 [m.dc, .one (aks l)] (retY (replayV m l)) := by
  have H1 := oRun_fn m l
  unfold replayV
  unfold runV at H1
  by_cases h : mchk m = 0
  · rw [if_pos h] at H1 ⊢
    have H2 := pNew_fn m
    rw [pNewV_ok h] at H2 ⊢
    by_cases h1 : 120 < l.length
    · rw [if_pos h1] at H1 ⊢
      refine fn_ok (by kernel_rfl) ty_ok Tryz.func46 rfl (fun _ _ => Tryz.call46 _ _) rfl ?_
      intro hw
      clear hw
      exact zw
    · rw [if_neg h1] at H1 ⊢
      generalize (runs m l).2 = r at *
      generalize (runs m l).1 = z at *
      have hal : (l.map Ak.c).length = l.length := List.length_map ..
      dsimp only
      generalize hX : rpl ⟨m.n, m.d, [m]⟩ m l = X
      simp only [retR] at H1
      simp only [retP] at H2
      refine fn_ok (by kernel_rfl) ty_ok Tryz.func46 rfl (fun _ _ => Tryz.call46 _ _) rfl ?_
      intro hw
      clear hw
      repeat' ((conv => whnf); first | (with_reducible first | refine br_t ?_ | refine br_f ?_ | refine za ?_ | refine zg ?_ | refine zo ?_ | refine zb ?_ | refine zm ?_ | refine zc ?_ | refine ze ?_) | ((with_reducible refine bc_t ?_ ?_); (first | omega | decide)) | ((with_reducible refine bc_f ?_ ?_); (first | omega | decide)) | (with_reducible first | refine bc (fun h => ?_) (fun h => ?_) | refine zt ?_ | refine zf ?_ | refine br_i (fun h => ?_) (fun h => ?_)) | refine zg ?_ | refine zi ?_)
      refine loop_J (by kernel_rfl) ty_ok (σ := Nat × Md × Pa) (fun s => [(32, sV (.int .i64 s.1)), (9, sV (.int .i64 0))]) (fun s => [(2, .own [.d (i64 s.2.1.n), .d (i64 s.2.1.d), .d (pts s.2.1.l)]), (10, .own [.d (i64 s.2.2.n), .d (i64 s.2.2.d), .d (mos s.2.2.ms)])]) (fun s => s.1 ≤ l.length ∧ mchk s.2.1 = 0 ∧ rpl s.2.2 s.2.1 (l.drop s.1) = X) (fun s => l.length - s.1) (0, m, ⟨m.n, m.d, [m]⟩) ⟨by omega, h, hX⟩ ?_ ?_
      · (conv => whnf); exact zent
      rintro ⟨i, u, p⟩ ⟨hi, hu, hI⟩
      clear H1 H2 hX
      dsimp only at hi hu hI
      rcases Nat.lt_or_ge i l.length with hlt | hge
      · have hel := aks_get hlt
        have HA := oDo_fn u l[i]
        unfold doV at HA
        rw [if_pos hu] at HA
        have hv := askV_ok hu l[i]
        rw [rpl_lt hlt] at hI
        generalize l[i] = a at *
        generalize askV u a = x at *
        obtain ⟨y, rr⟩ := x
        have HG := pGo_fn p y
        dsimp only at hI hv
        generalize pGoV p y = g at *
        obtain ⟨q, e⟩ := g
        simp only [retD] at HA
        simp only [retP] at HG
        dsimp only at hI
        by_cases he : e = 0
        · subst he
          rw [if_pos rfl] at hI
          repeat' ((conv => whnf); first | (with_reducible first | refine br_t ?_ | refine br_f ?_ | refine za ?_ | refine zg ?_ | refine zo ?_ | refine zb ?_ | refine zm ?_ | refine zc ?_ | refine ze ?_) | ((with_reducible refine bc_t ?_ ?_); (first | omega | decide)) | ((with_reducible refine bc_f ?_ ?_); (first | omega | decide)) | (with_reducible first | refine bc (fun h => ?_) (fun h => ?_) | refine zt ?_ | refine zf ?_ | refine br_i (fun h => ?_) (fun h => ?_)) | refine zg ?_ | refine zi ?_)
          all_goals conv => whnf
          refine ⟨(i + 1, y, q), ⟨by show _ ≤ _; omega, hv, hI⟩, ?_, by show _ - _ < _ - _; omega⟩
          (conv => whnf); exact zent
        · rw [if_neg he] at hI
          subst hI
          dsimp only
          rw [if_neg he]
          exact zw
      · rw [rpl_ge hge] at hI
        subst hI
        exact zw
  · rw [if_neg h] at H1 ⊢
    simp only [retR] at H1
    refine fn_ok (by kernel_rfl) ty_ok Tryz.func46 rfl (fun _ _ => Tryz.call46 _ _) rfl ?_
    intro hw
    clear hw
    exact zw
end Go.Proofs.YtnhljlihchegjaaGreat

/- The chapter's examples hold; asks of a law. No conditions. -/
namespace Go.Proofs.YtnhljlihchegjaaGreat
open Go Go.RowKit Go.Sort Sx
theorem btw_one {l : List Pt} (hv : fchk l = 0) {n e r t : Int} (h1 : chk n e = 0) (h2 : chk r t = 0) (h3 : ¬ r * e < n * t) {L : List Mt} (hL : (outs (pairsOf l)).filter (inT n e r t) = L) (hl : L.length ≤ 1) : btw (allM l) n e r t = L := by
  rw [← btw_filter (allM_asc hv) h1 h2 h3]
  have hp : ((allM l).filter (inT n e r t)).Perm L := by rw [← hL]; exact (msrt_perm _).filter _
  match L, hl with
  | [], _ => exact List.perm_nil.1 hp
  | [x], _ => exact List.perm_singleton.1 hp
theorem askV_move {m : Md} {n d : Int} (h1 : askd n d = 0) (h2 : ¬ n * m.d ≤ m.n * d) : askV m ⟨4, ⟨0, 0, 0⟩, 0, n, d⟩ = (⟨n, d, m.l⟩, ⟨0, 0, 0, 0, 0, btw (allM m.l) m.n m.d n d⟩) := by
  unfold askV
  rw [if_pos (show formV ⟨4, ⟨0, 0, 0⟩, 0, n, d⟩ = true by unfold formV; simp), if_neg (by simp), if_neg (by simp), if_neg (by simp), if_pos rfl, if_pos h1, if_neg h2]
end Go.Proofs.YtnhljlihchegjaaGreat

/- The chapter's examples hold. No conditions. -/
namespace Go.Proofs.YtnhljlihchegjaaGreat
open Go.RowKit Go.Sort Sx
abbrev exM : Md := ⟨0, 1, [⟨1, 0, 0⟩]⟩
abbrev exL : List Ak := [⟨4, ⟨0, 0, 0⟩, 0, 2, 1⟩, ⟨2, ⟨0, 0, 0⟩, 1, 0, 0⟩, ⟨1, ⟨2, 0, 0⟩, 0, 0, 0⟩]
abbrev exP : Pa := ⟨2, 1, [⟨0, 1, [⟨1, 0, 0⟩]⟩, ⟨2, 1, [⟨2, 0, 0⟩]⟩]⟩
theorem ex_move : askV exM ⟨4, ⟨0, 0, 0⟩, 0, 2, 1⟩ = (⟨2, 1, [⟨1, 0, 0⟩]⟩, rp0) := by
  rw [askV_move (by decide) (by decide), btw_one (L := []) (by decide) (by decide) (by decide) (by decide) (by decide) (by decide)]
  rfl
theorem ex_take : askV ⟨2, 1, [⟨1, 0, 0⟩]⟩ ⟨2, ⟨0, 0, 0⟩, 1, 0, 0⟩ = (⟨2, 1, []⟩, rp0) := by decide
theorem ex_put : askV ⟨2, 1, []⟩ ⟨1, ⟨2, 0, 0⟩, 0, 0, 0⟩ = (⟨2, 1, [⟨2, 0, 0⟩]⟩, rp0) := by decide
theorem ex_run : runs exM exL = (⟨2, 1, [⟨2, 0, 0⟩]⟩, [rp0, rp0, rp0]) := by
  simp only [exL, runs, ex_move, ex_take, ex_put]
theorem ex_go1 : pGoV ⟨0, 1, [exM]⟩ ⟨2, 1, [⟨1, 0, 0⟩]⟩ = (⟨2, 1, [exM]⟩, 0) := by decide
theorem ex_go2 : pGoV ⟨2, 1, [exM]⟩ ⟨2, 1, []⟩ = (⟨2, 1, [exM, ⟨2, 1, []⟩]⟩, 0) := by decide
theorem ex_go3 : pGoV ⟨2, 1, [exM, ⟨2, 1, []⟩]⟩ ⟨2, 1, [⟨2, 0, 0⟩]⟩ = (exP, 0) := by decide
theorem ex_replay : replayV exM exL = (exP, [rp0, rp0, rp0], 0) := by
  unfold replayV
  rw [if_pos (by decide), if_neg (by decide), pNewV_ok (by decide), ex_run]
  have : rpl ⟨0, 1, [exM]⟩ exM exL = (exP, 0) := by
    simp only [exL, rpl, ex_move, ex_take, ex_put, ex_go1, ex_go2, ex_go3, if_true]
  dsimp only
  rw [this]
  rfl
theorem Plwhole_fn (n : Int) : FnOK Tryz.prog 62 [.one (i64 n)] (.c (rat n 1)) := by
  refine fn_ok (by kernel_rfl) ty_ok Tryz.func62 rfl (fun _ _ => Tryz.call62 _ _) rfl ?_
  intro hw
  clear hw
  exact zw
theorem Plexample_fn : FnOK Tryz.prog 60 [] (.tup [exM.dc, .one (aks exL)]) := by
  have A1 := Plwhole_fn 0
  have A2 := Plwhole_fn 2
  refine fn_ok (by kernel_rfl) ty_ok Tryz.func60 rfl (fun _ _ => Tryz.call60 _ _) rfl ?_
  intro hw
  clear hw
  exact zw
set_option maxRecDepth 100000 in
set_option maxHeartbeats 4000000 in
theorem Plalive_fn : FnOK Tryz.prog 49 [] (.c (.one (bol true))) := by
  have A0 := Plwhole_fn 0
  have A1 := Plwhole_fn 1
  have A2 := Plwhole_fn 2
  have B := Plexample_fn
  have C := pReplay_fn exM exL
  rw [ex_replay] at C
  have D1 := pWhat_fn exP 1 1
  rw [show whatV exP 1 1 = ([⟨1, 0, 0⟩], 0) by decide] at D1
  have D2 := pWhat_fn exP 2 1
  rw [show whatV exP 2 1 = ([⟨2, 0, 0⟩], 0) by decide] at D2
  have S0 := rpSameMoments_fn exP.ms exP.ms
  have S1 := rfSame_fn [⟨1, 0, 0⟩] [⟨1, 0, 0⟩]
  have S2 := rfSame_fn [⟨2, 0, 0⟩] [⟨2, 0, 0⟩]
  simp only [decide_true, retY, exP, exM, exL, Pa.dc, Md.dc, mos, aks, pts, rps, List.map_cons, List.map_nil, Rp.c, Md.c, Ak.c, Pt.c, mts, rp0, retW, fld] at B C D1 D2 S0 S1 S2
  refine fn_ok (by kernel_rfl) ty_ok Tryz.func49 rfl (fun _ _ => Tryz.call49 _ _) rfl ?_
  intro hw
  clear hw
  exact zw
end Go.Proofs.YtnhljlihchegjaaGreat

/- The past: rows of moments, and many asks. No conditions. -/
namespace Go.Proofs.YtnhljlihchegjaaGreat
open Go.RowKit Go.Sort Sx
def rowL (n : Nat) : List Md := (List.range n).map fun i : Nat => (⟨(i : Int), 1, [⟨100 + (i : Int), 0, 0⟩]⟩ : Md)
theorem rowL_succ (n : Nat) : rowL (n + 1) = rowL n ++ [⟨n, 1, [⟨100 + (n : Int), 0, 0⟩]⟩] := by
  unfold rowL
  rw [List.range_succ, List.map_append]; rfl
theorem rowL_len (n : Nat) : (rowL n).length = n := by simp [rowL]
set_option maxHeartbeats 2000000 in
theorem Plrow_fn (n : Nat) (hn : n ≤ 1000) : FnOK Tryz.prog 63 [.one (i64 n)] (.c (.one (mos (rowL n)))) := by
  refine fn_ok (by kernel_rfl) (ty_okK [3, 20] [] [] []) Tryz.func63 rfl (fun _ _ => Tryz.call63 _ _) rfl ?_
  intro hw
  clear hw
  repeat' ((conv => whnf); first | (with_reducible first | refine br_t ?_ | refine br_f ?_ | refine za ?_ | refine zg ?_ | refine zo ?_ | refine zb ?_ | refine zm ?_ | refine zc ?_ | refine ze ?_) | ((with_reducible refine bc_t ?_ ?_); (first | omega | decide)) | ((with_reducible refine bc_f ?_ ?_); (first | omega | decide)) | (with_reducible first | refine bc (fun h => ?_) (fun h => ?_) | refine zt ?_ | refine zf ?_ | refine br_i (fun h => ?_) (fun h => ?_)) | refine zg ?_ | refine zi ?_)
  refine loop_J (by kernel_rfl) (ty_okK [3, 20] [] [] []) (σ := Nat) (fun i => [(4, sV (.int .i64 i)), (3, .c (.at (.osl 3 0)))]) (fun i => [(3, .row 3 ((rowL i).map Md.c) 0)]) (fun i => i ≤ n) (fun i => n - i) 0 (Nat.zero_le _) ?_ ?_
  · (conv => whnf); exact zent
  intro i hi
  have hl : ((rowL i).map Md.c).length = i := by rw [List.length_map, rowL_len]
  have hl2 := rowL_len i
  rcases Nat.lt_or_ge i n with hlt | hge
  · have W := Plwhole_fn i
    have ew : IntKind.i64.wrap (100 + (i : Int)) = 100 + (i : Int) := by rw [IntWalk.i64_in _ (by omega)]
    have hs : (rowL i).map Md.c ++ [[i64 i, i64 1, .list 3 [[i64 (IntKind.i64.wrap (100 + (i : Int))), i64 0, i64 0]]]] = (rowL (i + 1)).map Md.c := by
      rw [rowL_succ, List.map_append, ew]; rfl
    repeat' ((conv => whnf); first | (with_reducible first | refine br_t ?_ | refine br_f ?_ | refine za ?_ | refine zg ?_ | refine zo ?_ | refine zb ?_ | refine zm ?_ | refine zc ?_ | refine ze ?_) | (rw [hl]; omega) | ((with_reducible refine bc_t ?_ ?_); (first | omega | decide)) | ((with_reducible refine bc_f ?_ ?_); (first | omega | decide)) | (with_reducible first | refine bc (fun h => ?_) (fun h => ?_) | refine zt ?_ | refine zf ?_ | refine br_i (fun h => ?_) (fun h => ?_)) | refine zg ?_ | refine zi ?_)
    all_goals conv => whnf
    refine ⟨i + 1, by omega, ?_, by omega⟩
    (conv => whnf); refine ⟨by repeat' (first | with_reducible exact zE0 | with_reducible refine zE1 ?_ ?_ | rfl | assumption | ((exact congrArg (fun x => some (Blk.row 3 x 0)) hs)) | (refine ent_i ?_; (first | omega | (rw [IntWalk.i64_in _ (by omega)]; omega) | (simp; done))) | (refine ent_b ?_; (first | omega | (rw [IntWalk.i64_in _ (by omega)]; omega) | (simp; done)))), by repeat' (first | with_reducible exact zH0 | with_reducible refine zH1 ?_ ?_ | rfl | assumption | ((exact congrArg (fun x => some (Blk.row 3 x 0)) hs))), rfl⟩
  · obtain rfl : i = n := by omega
    exact zw
abbrev P1 : List Pt := [⟨1, 0, 0⟩]
def four (i : Nat) : List Ak := [⟨4, ⟨0, 0, 0⟩, 0, 2 * (i : Int) + 1, 1⟩, ⟨2, ⟨0, 0, 0⟩, 1, 0, 0⟩, ⟨4, ⟨0, 0, 0⟩, 0, 2 * (i : Int) + 2, 1⟩, ⟨1, ⟨1, 0, 0⟩, 0, 0, 0⟩]
def rL : Nat → List Ak
  | 0 => []
  | i + 1 => rL i ++ four i
theorem rL_len : ∀ i, (rL i).length = 4 * i
  | 0 => rfl
  | i + 1 => by rw [rL, List.length_append, rL_len i]; show _ + 4 = _; omega
theorem askd_one {t : Int} (h0 : 0 ≤ t) (h1 : t ≤ 1000) : askd t 1 = 0 := by
  have hc : chk t 1 = 0 := by
    unfold chk
    rw [if_neg]
    simp
    omega
  unfold askd
  rw [if_neg (by simp [hc]), if_neg (by omega)]
theorem mv_a {t u : Int} {l : List Pt} (h0 : 0 ≤ t) (h1 : t < u) (h2 : u ≤ 1000) : (askV ⟨t, 1, l⟩ ⟨4, ⟨0, 0, 0⟩, 0, u, 1⟩).1 = ⟨u, 1, l⟩ := by
  rw [askV_move (askd_one (by omega) h2) (by simp; omega)]
theorem tk_a {t : Int} : (askV ⟨t, 1, P1⟩ ⟨2, ⟨0, 0, 0⟩, 1, 0, 0⟩).1 = ⟨t, 1, []⟩ := by
  unfold askV
  rw [if_pos (by decide), if_neg (by decide), if_pos rfl]
  dsimp only
  rw [show takeV P1 1 = ([], 0) by decide, if_pos rfl]
theorem pt_a {t : Int} : (askV ⟨t, 1, []⟩ ⟨1, ⟨1, 0, 0⟩, 0, 0, 0⟩).1 = ⟨t, 1, P1⟩ := by
  unfold askV
  rw [if_pos (by decide), if_pos rfl]
  dsimp only
  rw [show putV [] ⟨1, 0, 0⟩ = (P1, 0) by decide, if_pos rfl]
theorem m_ok {t : Int} {l : List Pt} (h0 : 0 ≤ t) (h1 : t ≤ 1000) (h : fchk l = 0) : mchk ⟨t, 1, l⟩ = 0 := by
  unfold mchk
  rw [if_pos ⟨askd_one h0 h1, h⟩]
structure Pl (p : Pa) (t : Int) (l : List Pt) (c : Nat) : Prop where
  ok : pchk p = 0
  n : p.n = t
  d : p.d = 1
  l : p.last.l = l
  le : p.last.n ≤ t
  ld : p.last.d = 1
  c : p.ms.length = c
theorem pl_mv {p : Pa} {t u : Int} {l : List Pt} {c : Nat} (h : Pl p t l c) (h1 : t < u) (hm : mchk ⟨u, 1, l⟩ = 0) : ∃ q, pGoV p ⟨u, 1, l⟩ = (q, 0) ∧ Pl q u l c ∧ q.last.n < u := by
  have e : pGoV p ⟨u, 1, l⟩ = (⟨u, 1, p.ms⟩, 0) := by
    unfold pGoV
    rw [if_pos h.ok, if_pos hm, if_neg (by rw [h.n, h.d]; simp; omega), if_pos h.l]
  have hg := goes h.ok hm e
  exact ⟨_, e, ⟨hg.ok, rfl, rfl, h.l, Int.le_of_lt (Int.lt_of_le_of_lt h.le h1), h.ld, h.c⟩, Int.lt_of_le_of_lt h.le h1⟩
theorem last_app (n d : Int) (ms : List Md) (m : Md) : (⟨n, d, ms ++ [m]⟩ : Pa).last = m := by
  unfold Pa.last
  simp
theorem pl_ch {p : Pa} {t : Int} {l l' : List Pt} {c : Nat} (h : Pl p t l c) (h1 : p.last.n < t) (hl : l ≠ l') (hm : mchk ⟨t, 1, l'⟩ = 0) (hc : c < 40) : ∃ q, pGoV p ⟨t, 1, l'⟩ = (q, 0) ∧ Pl q t l' (c + 1) := by
  have e : pGoV p ⟨t, 1, l'⟩ = (⟨t, 1, p.ms ++ [⟨t, 1, l'⟩]⟩, 0) := by
    unfold pGoV
    rw [if_pos h.ok, if_pos hm, if_neg (by rw [h.n, h.d]; simp), if_neg (by rw [h.l]; exact hl), if_neg (by dsimp only; omega), if_neg (by rw [h.c]; omega)]
  have hg := goes h.ok hm e
  refine ⟨_, e, ⟨hg.ok, rfl, rfl, ?_, ?_, ?_, ?_⟩⟩
  · rw [last_app]
  · rw [last_app]; exact Int.le_refl _
  · rw [last_app]
  · simp [h.c]
theorem pl_full {p : Pa} {t : Int} {l l' : List Pt} (h : Pl p t l 40) (h1 : p.last.n < t) (hl : l ≠ l') (hm : mchk ⟨t, 1, l'⟩ = 0) : pGoV p ⟨t, 1, l'⟩ = (pa0, 18) := by
  unfold pGoV
  rw [if_pos h.ok, if_pos hm, if_neg (by rw [h.n, h.d]; simp), if_neg (by rw [h.l]; exact hl), if_neg (by dsimp only; omega), if_pos h.c]
  rfl
theorem pl_three {p : Pa} {t : Int} {c : Nat} (h : Pl p t P1 c) (h0 : 0 ≤ t) (h1 : t ≤ 900) (hc : c < 40) (r : List Ak) :
    ∃ q, rpl p ⟨t, 1, P1⟩ (⟨4, ⟨0, 0, 0⟩, 0, t + 1, 1⟩ :: ⟨2, ⟨0, 0, 0⟩, 1, 0, 0⟩ :: r) = rpl q ⟨t + 1, 1, []⟩ r ∧ Pl q (t + 1) [] (c + 1) := by
  obtain ⟨q, e1, p1, p2⟩ := pl_mv (u := t + 1) h (by omega) (m_ok (by omega) (by omega) (by decide))
  obtain ⟨s, e2, p3⟩ := pl_ch (l' := []) p1 p2 (by decide) (m_ok (by omega) (by omega) (by decide)) hc
  refine ⟨s, ?_, p3⟩
  rw [rpl, mv_a h0 (by omega) (by omega), e1]
  dsimp only
  rw [if_pos rfl, rpl, tk_a, e2]
  dsimp only
  rw [if_pos rfl]
theorem pl_four {p : Pa} {t : Int} {c : Nat} (h : Pl p t [] c) (h0 : 0 ≤ t) (h1 : t ≤ 900) (hc : c < 40) :
    ∃ q, rpl p ⟨t, 1, []⟩ [⟨4, ⟨0, 0, 0⟩, 0, t + 1, 1⟩, ⟨1, ⟨1, 0, 0⟩, 0, 0, 0⟩] = (q, 0) ∧ Pl q (t + 1) P1 (c + 1) := by
  obtain ⟨q, e1, p1, p2⟩ := pl_mv (u := t + 1) h (by omega) (m_ok (by omega) (by omega) (by decide))
  obtain ⟨s, e2, p3⟩ := pl_ch (l' := P1) p1 p2 (by decide) (m_ok (by omega) (by omega) (by decide)) hc
  refine ⟨s, ?_, p3⟩
  rw [rpl, mv_a h0 (by omega) (by omega), e1]
  dsimp only
  rw [if_pos rfl, rpl, pt_a, e2]
  dsimp only
  rw [if_pos rfl, rpl]
theorem pl_over {p : Pa} {t : Int} (h : Pl p t [] 40) (h0 : 0 ≤ t) (h1 : t ≤ 900) :
    rpl p ⟨t, 1, []⟩ [⟨4, ⟨0, 0, 0⟩, 0, t + 1, 1⟩, ⟨1, ⟨1, 0, 0⟩, 0, 0, 0⟩] = (pa0, 18) := by
  obtain ⟨q, e1, p1, p2⟩ := pl_mv (u := t + 1) h (by omega) (m_ok (by omega) (by omega) (by decide))
  have e2 := pl_full (l' := P1) p1 p2 (by decide) (m_ok (by omega) (by omega) (by decide))
  rw [rpl, mv_a h0 (by omega) (by omega), e1]
  dsimp only
  rw [if_pos rfl, rpl, pt_a, e2]
  dsimp only
  rw [if_neg (by decide)]
abbrev goodP : Pa := ⟨0, 1, [exM]⟩
theorem runs_four {t : Int} (h0 : 0 ≤ t) (h1 : t ≤ 900) : (runs ⟨t, 1, P1⟩ [⟨4, ⟨0, 0, 0⟩, 0, t + 1, 1⟩, ⟨2, ⟨0, 0, 0⟩, 1, 0, 0⟩, ⟨4, ⟨0, 0, 0⟩, 0, t + 1 + 1, 1⟩, ⟨1, ⟨1, 0, 0⟩, 0, 0, 0⟩]).1 = ⟨t + 1 + 1, 1, P1⟩ := by
  simp only [runs]
  rw [mv_a h0 (by omega) (by omega), tk_a, mv_a (by omega) (by omega) (by omega), pt_a]
theorem four_eq (i : Nat) : four i = [⟨4, ⟨0, 0, 0⟩, 0, 2 * (i : Int) + 1, 1⟩, ⟨2, ⟨0, 0, 0⟩, 1, 0, 0⟩, ⟨4, ⟨0, 0, 0⟩, 0, 2 * (i : Int) + 1 + 1, 1⟩, ⟨1, ⟨1, 0, 0⟩, 0, 0, 0⟩] := by
  unfold four
  rw [show (2 : Int) * i + 2 = 2 * i + 1 + 1 by omega]
theorem many_ok : ∀ i : Nat, i ≤ 19 → (rpl goodP exM (rL i)).2 = 0 ∧ Pl (rpl goodP exM (rL i)).1 (2 * (i : Int)) P1 (1 + 2 * i) ∧ (runs exM (rL i)).1 = ⟨2 * (i : Int), 1, P1⟩
  | 0, _ => ⟨rfl, ⟨by decide, rfl, rfl, rfl, by decide, rfl, rfl⟩, rfl⟩
  | i + 1, hi => by
    obtain ⟨h1, h2, h3⟩ := many_ok i (by omega)
    have e := rpl_append (rL i) (four i) h1
    rw [h3, four_eq] at e
    obtain ⟨q, e1, p1⟩ := pl_three h2 (by omega) (by omega) (by omega) [⟨4, ⟨0, 0, 0⟩, 0, 2 * (i : Int) + 1 + 1, 1⟩, ⟨1, ⟨1, 0, 0⟩, 0, 0, 0⟩]
    obtain ⟨s, e2, p2⟩ := pl_four p1 (by omega) (by omega) (by omega)
    have er := runs_append exM (rL i) (four i)
    rw [h3, four_eq] at er
    have er1 := congrArg Prod.fst er
    dsimp only at er1
    rw [runs_four (by omega) (by omega)] at er1
    rw [rL, four_eq, e, e1, e2]
    refine ⟨rfl, ?_, ?_⟩
    · have e3 : (2 : Int) * ((i + 1 : Nat) : Int) = 2 * i + 1 + 1 := by omega
      have e4 : 1 + 2 * (i + 1) = 1 + 2 * i + 1 + 1 := by omega
      rw [e3, e4]
      exact p2
    · rw [er1, show (2 : Int) * i + 1 + 1 = 2 * ((i + 1 : Nat) : Int) by omega]
theorem many_full : (rpl goodP exM (rL 20)).2 = 18 := by
  obtain ⟨h1, h2, h3⟩ := many_ok 19 (by omega)
  have e := rpl_append (rL 19) (four 19) h1
  rw [h3, four_eq] at e
  obtain ⟨q, e1, p1⟩ := pl_three h2 (by omega) (by omega) (by omega) [⟨4, ⟨0, 0, 0⟩, 0, 2 * ((19 : Nat) : Int) + 1 + 1, 1⟩, ⟨1, ⟨1, 0, 0⟩, 0, 0, 0⟩]
  rw [rL, four_eq, e, e1, pl_over p1 (by omega) (by omega)]
theorem many_78 : (rpl goodP exM ((rL 20).take 78)).2 = 0 := by
  obtain ⟨h1, h2, h3⟩ := many_ok 19 (by omega)
  have et : (rL 20).take 78 = rL 19 ++ [⟨4, ⟨0, 0, 0⟩, 0, 2 * ((19 : Nat) : Int) + 1, 1⟩, ⟨2, ⟨0, 0, 0⟩, 1, 0, 0⟩] := by
    rw [rL, List.take_append, rL_len, List.take_of_length_le (by rw [rL_len]; omega)]
    rfl
  have e := rpl_append (rL 19) [⟨4, ⟨0, 0, 0⟩, 0, 2 * ((19 : Nat) : Int) + 1, 1⟩, ⟨2, ⟨0, 0, 0⟩, 1, 0, 0⟩] h1
  rw [h3] at e
  obtain ⟨q, e1, p1⟩ := pl_three h2 (by omega) (by omega) (by omega) []
  rw [et, e, e1, rpl]
theorem bad_check {p : Pa} (h : pchk p = 8) : FnOK Tryz.prog 64 [p.dc] (.c (.one (i64 8))) := by
  have := pCheck_fn p
  rw [h] at this
  exact this
theorem bad_go {p : Pa} (m : Md) (h : pchk p = 8) : FnOK Tryz.prog 52 [p.dc, m.dc] (.tup [.agg [i64 0, i64 0, .list 3 []], .one (i64 8)]) := by
  have := pGo_fn p m
  unfold pGoV at this
  rw [if_neg (by rw [h]; decide)] at this
  exact this
theorem bad_w {p : Pa} (h : pchk p = 8) (n e : Int) : whatV p n e = ([], 8) := by
  unfold whatV
  rw [if_neg (by rw [h]; decide)]
theorem bad_what {p : Pa} (n e : Int) (h : pchk p = 8) : FnOK Tryz.prog 53 [p.dc, rat n e] (.tup [.agg [.list 3 []], .one (i64 8)]) := by
  have := pWhat_fn p n e
  rw [bad_w h] at this
  exact this
theorem bad_lead {p : Pa} (n e : Int) (h : pchk p = 8) : FnOK Tryz.prog 56 [p.dc, rat n e] (.tup [.one (i64 0), .one (i64 8)]) := by
  have := pLeader_fn p n e
  unfold pleadV at this
  rw [bad_w h, if_neg (by decide)] at this
  exact this
theorem bad_order {p : Pa} (n e : Int) (h : pchk p = 8) : FnOK Tryz.prog 57 [p.dc, rat n e] (.tup [.one (.list 1 []), .one (i64 8)]) := by
  have := pOrder_fn p n e
  unfold pordV at this
  rw [bad_w h, if_neg (by decide)] at this
  exact this
theorem bad_was {p : Pa} (id : Int) (h : pchk p = 8) : FnOK Tryz.prog 55 [p.dc, .one (i64 id)] (.tup [.one (.list 3 []), .one (i64 8)]) := by
  have := pWas_fn p id
  unfold wasV at this
  rw [if_neg (by rw [h]; decide)] at this
  exact this
theorem row_many : pchk ⟨50, 1, rowL 41⟩ = 8 := by
  unfold pchk
  rw [if_neg]
  rintro ⟨_, h, _⟩
  rw [rowL_len] at h
  omega
theorem replay_make (m : Md) (k : Nat) : FnOK Tryz.prog 46 [m.dc, .one (.list 7 (List.replicate k [u8 0, i64 0, i64 0, i64 0, i64 0, i64 0, i64 0]))] (retY (replayV m (List.replicate k ⟨0, ⟨0, 0, 0⟩, 0, 0, 0⟩))) := by
  have h := pReplay_fn m (List.replicate k ⟨0, ⟨0, 0, 0⟩, 0, 0, 0⟩)
  rw [aks, List.map_replicate] at h
  exact h
theorem replay_ok {l : List Ak} (hl : l.length ≤ 120) (h : (rpl goodP exM l).2 = 0) : replayV exM l = ((rpl goodP exM l).1, (runs exM l).2, 0) := by
  unfold replayV
  rw [if_pos (by decide), if_neg (by omega), pNewV_ok (by decide)]
  dsimp only
  rw [if_pos h]
theorem replay_err {l : List Ak} {e : Int} (hl : l.length ≤ 120) (h : (rpl goodP exM l).2 = e) (he : e ≠ 0) : replayV exM l = (pa0, [], e) := by
  unfold replayV
  rw [if_pos (by decide), if_neg (by omega), pNewV_ok (by decide)]
  dsimp only
  rw [if_neg (by rw [h]; exact he), h]
theorem fn_nil2 {P : Program} {f k : Nat} {a : DC} {r : DV} (h : FnOK P f [a, .one (.list k [])] r) : FnOK P f [a, .one (.v (.slice none 0 0))] r := by
  intro w M vs hM hd
  match vs, hd with
  | [v1, v2], hd =>
    refine h w M [v1, v2] hM ⟨hd.1, ?_, trivial⟩
    have h2 : Rep w M (.v (.slice none 0 0)) v2 := hd.2.1
    cases h2
    exact Rep.nil k none 0 (by omega) (fun _ => rfl)
end Go.Proofs.YtnhljlihchegjaaGreat

/- A symbolic walk: ahead of a loop, what no longer matters is left out. No conditions. -/
namespace Go.Proofs.YtnhljlihchegjaaGreat
open Go Go.RowKit
namespace Sx
variable {P : Program} {sz : Nat} {E : Env} {H : Hp}
/-- the slots of a list alone -/
def kpE (ks : List Nat) : List Nat → Env → Env
  | _, [] => []
  | D, (t, x) :: r => match memB t D with
    | true => kpE ks D r
    | false => match memB t ks with | true => (t, x) :: kpE ks (t :: D) r | false => kpE ks (t :: D) r
theorem look_kpE {ks : List Nat} : ∀ {E : Env} {D : List Nat} {t : Nat} {x : SV}, look (kpE ks D E) t = some x → t ∉ D ∧ look E t = some x
  | [], D, t, x, h => by simp [kpE, look] at h
  | (u, y) :: r, D, t, x, h => by
    unfold kpE at h
    rw [look_cons]
    split at h
    · rename_i hm
      obtain ⟨h1, h2⟩ := look_kpE h
      exact ⟨h1, by rw [if_neg (by rintro rfl; exact h1 (memB_iff.1 hm))]; exact h2⟩
    · rename_i hm
      have hm' : u ∉ D := fun h' => by rw [memB_iff.2 h'] at hm; cases hm
      split at h
      · rw [look_cons] at h
        split at h
        · rename_i e
          injection h with h
          subst e h
          exact ⟨hm', by rw [if_pos rfl]⟩
        · obtain ⟨h1, h2⟩ := look_kpE h
          refine ⟨fun h' => h1 (List.mem_cons_of_mem _ h'), ?_⟩
          rename_i e
          rw [if_neg e]; exact h2
      · obtain ⟨h1, h2⟩ := look_kpE h
        exact ⟨fun h' => h1 (List.mem_cons_of_mem _ h'), by rw [if_neg (by rintro rfl; exact h1 (List.mem_cons_self ..))]; exact h2⟩
theorem loop_keep (ks : List Nat) {dm : Bool} {body : Code} {k : Exit → Env → Hp → Prop} (h : frcEnv (kpE ks [] E) fun E1 => LoopP P sz dm body E1 H k) : LoopP P sz dm body E H k :=
  ⟨fun C M0 w0 ρ a w Q hdm R hQ => ((frcEnv_iff _ _).1 h).run C M0 w0 ρ a w Q hdm (R.same (fun t x hx => (look_kpE hx).2) fun _ => rfl) hQ⟩
end Sx
end Go.Proofs.YtnhljlihchegjaaGreat
