import Derived.Test.YtnjgfhgpicmklaaGQAN
set_option linter.all false
namespace Go.Proofs.Ytnjgfhgpicmklaa
open Go Go.RowKit Go.Sort Sx
theorem qformed_fn (a : Ak) : FnOK Try.prog 66 [a.dc] (.c (.one (bol (formV a)))) := by
  unfold formV
  refine fn_ok (by kernel_rfl) ty_ok Try.func66 rfl (fun _ _ => Try.call66 _ _) rfl ?_
  intro hw
  clear hw
  repeat' ((conv => whnf); first | (with_reducible first | refine br_t ?_ | refine br_f ?_ | refine za ?_ | refine zg ?_) | refine zp ?_ | refine zq ?_ | (with_reducible first | refine bc (fun h => ?_) (fun h => ?_) | refine zt ?_ | refine zf ?_ | refine br_i (fun h => ?_) (fun h => ?_) | refine xi (pv_bool fun _ => eqv60 _ _ _ _ _ _ _ _ _ _ _ _ _ _ _ _ _) ?_) | refine zg ?_ | refine zi ?_ | refine zb ?_)
  all_goals conv => whnf
  all_goals
    refine r_bool ?_
    rw [Bool.eq_iff_iff]
    simp only [Bool.and_eq_true, beq_iff_eq, decide_eq_true_eq, Bool.false_eq_true, true_and, and_true, false_iff]
    omega
theorem qthere1_fn (p : Pt) (id : Int) : FnOK Try.prog 86 [p.dc, .one (.ref [i64 id])] (.c (.one (bol (p.id == id)))) := by
  refine fn_ok (by kernel_rfl) ty_ok Try.func86 rfl (fun _ _ => Try.call86 _ _) rfl ?_
  intro hw
  clear hw
  repeat' ((conv => whnf); first | (with_reducible first | refine br_t ?_ | refine br_f ?_ | refine za ?_ | refine zg ?_) | refine ⟨_, ⟨rfl, Nat.le_of_ble_eq_true rfl⟩, ?_⟩ | refine zp ?_ | refine zq ?_ | (with_reducible first | refine bc (fun h => ?_) (fun h => ?_) | refine zt ?_ | refine zf ?_ | refine br_i (fun h => ?_) (fun h => ?_)) | refine zg ?_ | refine zi ?_ | refine zb ?_)
  all_goals conv => whnf
  all_goals rfl
theorem ixPt_fn (l : List Pt) (id : Int) (hl : l.length ≤ 1000000) : FnOK Try.prog 100 [.one (pts l), .one (.clo 86 [[i64 id]])] (ret1 (at1 l id 0)) := by
  refine fn_ok (by kernel_rfl) ty_ok Try.func100 rfl (fun _ _ => Try.call100 _ _) rfl ?_
  intro hw
  clear hw
  repeat' ((conv => whnf); first | (with_reducible first | refine br_t ?_ | refine br_f ?_ | refine za ?_ | refine zg ?_) | rw [List.length_map] | refine zp ?_ | refine zq ?_ | (with_reducible first | refine bc (fun h => ?_) (fun h => ?_) | refine zt ?_ | refine zf ?_ | refine br_i (fun h => ?_) (fun h => ?_)) | refine zg ?_ | refine zi ?_ | refine zb ?_)
  refine loop_J (by kernel_rfl) ty_ok (σ := Nat) (fun i => [(8, sV (.int .i64 i))]) (fun _ => []) (fun i => i ≤ l.length ∧ ∀ k (h : k < l.length), k < i → l[k].id ≠ id) (fun i => l.length - i) 0 ⟨by omega, fun k _ h => absurd h (Nat.not_lt_zero _)⟩ ?_ ?_
  · (conv => whnf); exact zent
  rintro i ⟨hi, hI⟩
  rcases Nat.lt_or_ge i l.length with hlt | hge
  · have hel := pts_get hlt
    have HC := qthere1_fn l[i] id
    by_cases hc : l[i].id = id
    · have e : at1 l id 0 = i := by rw [at1_drop rfl hi hI, List.drop_eq_getElem_cons hlt, at1, if_pos hc]
      rw [e]
      rw [show (l[i].id == id) = true by simp [hc]] at HC
      repeat' ((conv => whnf); first | (with_reducible first | refine br_t ?_ | refine br_f ?_ | refine za ?_ | refine zg ?_) | rw [List.length_map] | refine zp ?_ | refine zq ?_ | (with_reducible first | refine bc (fun h => ?_) (fun h => ?_) | refine zt ?_ | refine zf ?_ | refine br_i (fun h => ?_) (fun h => ?_)) | refine zg ?_ | refine zi ?_ | refine zb ?_)
      all_goals conv => whnf
      all_goals rfl
    · rw [show (l[i].id == id) = false by simp [hc]] at HC
      repeat' ((conv => whnf); first | (with_reducible first | refine br_t ?_ | refine br_f ?_ | refine za ?_ | refine zg ?_) | rw [List.length_map] | refine zp ?_ | refine zq ?_ | (with_reducible first | refine bc (fun h => ?_) (fun h => ?_) | refine zt ?_ | refine zf ?_ | refine br_i (fun h => ?_) (fun h => ?_)) | refine zg ?_ | refine zi ?_ | refine zb ?_)
      all_goals conv => whnf
      refine ⟨i + 1, ⟨by omega, fun k hk hki => ?_⟩, ?_, by omega⟩
      · rcases Nat.lt_or_ge k i with h1 | h1
        · exact hI k hk h1
        · have : k = i := by omega
          subst this; exact hc
      · (conv => whnf); exact zent
  · have e : at1 l id 0 = -1 := by rw [at1_drop rfl hi hI, List.drop_eq_nil_of_le hge, at1]
    rw [e]
    repeat' ((conv => whnf); first | (with_reducible first | refine br_t ?_ | refine br_f ?_ | refine za ?_ | refine zg ?_) | rw [List.length_map] | refine zp ?_ | refine zq ?_ | (with_reducible first | refine bc (fun h => ?_) (fun h => ?_) | refine zt ?_ | refine zf ?_ | refine br_i (fun h => ?_) (fun h => ?_)) | refine zg ?_ | refine zi ?_ | refine zb ?_)
    all_goals conv => whnf
    all_goals rfl
theorem ctPt_fn {l : List Pt} (id : Int) (hs : incr l = true) (hl : l.length ≤ 1000000) : FnOK Try.prog 85 [.one (pts l), .one (.clo 86 [[i64 id]])] (.c (.one (bol (has l id)))) := by
  have H := ixPt_fn l id hl
  rw [at1_has hs] at H
  cases hh : has l id
  · rw [hh, if_neg (by decide)] at H
    refine fn_ok (by kernel_rfl) ty_ok Try.func85 rfl (fun _ _ => Try.call85 _ _) rfl ?_
    intro hw
    clear hw
    exact zw
  · rw [hh, if_pos rfl] at H
    refine fn_ok (by kernel_rfl) ty_ok Try.func85 rfl (fun _ _ => Try.call85 _ _) rfl ?_
    intro hw
    clear hw
    exact zwb
theorem qthere_fn {l : List Pt} (id : Int) (hs : incr l = true) (hl : l.length ≤ 1000000) : FnOK Try.prog 68 [fld l, .one (i64 id)] (.c (.one (bol (has l id)))) := by
  have H := ctPt_fn id hs hl
  generalize has l id = h at *
  refine fn_ok (by kernel_rfl) ty_ok Try.func68 rfl (fun _ _ => Try.call68 _ _) rfl ?_
  intro hw
  clear hw
  repeat' ((conv => whnf); first | (with_reducible first | refine br_t ?_ | refine br_f ?_ | refine za ?_ | refine zg ?_) | refine zb ?_ | refine zp ?_ | refine zq ?_ | (with_reducible first | refine bc (fun h => ?_) (fun h => ?_) | refine zt ?_ | refine zf ?_ | refine br_i (fun h => ?_) (fun h => ?_)) | refine zg ?_ | refine zi ?_ | refine zb ?_)
  all_goals conv => whnf
  all_goals rfl
def lateV (n d r t : Int) : Int := if askd r t = 0 then (if r * d ≤ n * t then 44 else 0) else askd r t
theorem qlate_fn {n d : Int} (hn : askd n d = 0) (r t : Int) : FnOK Try.prog 67 [rat n d, rat r t] (ret1 (lateV n d r t)) := by
  have H1 := asked_fn r t
  unfold lateV
  by_cases h1 : askd r t = 0
  · rw [if_pos h1]
    rw [h1] at H1
    have H2 := cmp_chk (askd_chk h1) (askd_chk hn)
    by_cases h2 : r * d ≤ n * t
    · rw [if_pos h2]
      have h3 : cmpN (r * d) (n * t) ≤ 0 := by unfold cmpN; (repeat' split) <;> omega
      generalize cmpN (r * d) (n * t) = z at *
      refine fn_ok (by kernel_rfl) ty_ok Try.func67 rfl (fun _ _ => Try.call67 _ _) rfl ?_
      intro hw
      clear hw
      exact zw
    · rw [if_neg h2]
      have h3 : ¬ cmpN (r * d) (n * t) ≤ 0 := by unfold cmpN; (repeat' split) <;> omega
      generalize cmpN (r * d) (n * t) = z at *
      refine fn_ok (by kernel_rfl) ty_ok Try.func67 rfl (fun _ _ => Try.call67 _ _) rfl ?_
      intro hw
      clear hw
      exact zw
  · rw [if_neg h1]
    generalize askd r t = z at *
    refine fn_ok (by kernel_rfl) ty_ok Try.func67 rfl (fun _ _ => Try.call67 _ _) rfl ?_
    intro hw
    clear hw
    exact zw
theorem qwrong_fn {m : Md} (hm : mchk m = 0) (a : Ak) : FnOK Try.prog 45 [m.dc, a.dc] (ret1 (askV m a).2.e) := by
  obtain ⟨g1, g2⟩ := mchk_ok hm
  obtain ⟨k1, k2, k3⟩ := fchk_ok g2
  have hlen : (m.l.map Pt.c).length = m.l.length := List.length_map ..
  have H0 := qformed_fn a
  have hk : formV a = true → a.k = 1 ∨ a.k = 2 ∨ a.k = 3 ∨ a.k = 4 ∨ a.k = 5 ∨ a.k = 6 := fun h => by
    unfold formV at h
    have := of_decide_eq_true h
    omega
  unfold askV
  cases hf : formV a
  · rw [hf] at H0
    rw [if_neg (by decide)]
    refine fn_ok (by kernel_rfl) ty_ok Try.func45 rfl (fun _ _ => Try.call45 _ _) rfl ?_
    intro hw
    clear hw
    exact zw
  · rw [hf] at H0
    rw [if_pos rfl]
    rcases hk hf with h | h | h | h | h | h
    · rw [if_pos h]
      have H1 := kCheck_fn a.p.id a.p.a a.p.b
      have H2 := qthere_fn a.p.id k3 (by omega)
      by_cases h2 : a.p.chk = 0
      · have h2' := h2
        unfold Pt.chk at h2'
        rw [h2'] at H1
        cases hh : has m.l a.p.id
        · rw [hh] at H2
          by_cases h64 : m.l.length = 64
          · have e : putV m.l a.p = ([], 18) := by unfold putV; rw [if_pos g2, if_pos h2, if_neg (by rw [hh]; decide), if_pos h64]
            rw [e, if_neg (by decide)]
            refine fn_ok (by kernel_rfl) ty_ok Try.func45 rfl (fun _ _ => Try.call45 _ _) rfl ?_
            intro hw
            clear hw
            repeat' ((conv => whnf); first | (with_reducible first | refine br_t ?_ | refine br_f ?_ | refine za ?_ | refine zg ?_) | rw [hlen] | refine zp ?_ | refine zq ?_ | (with_reducible first | refine bc (fun h => ?_) (fun h => ?_) | refine zt ?_ | refine zf ?_ | refine br_i (fun h => ?_) (fun h => ?_)) | refine zg ?_ | refine zi ?_ | refine zb ?_)
            all_goals conv => whnf
            all_goals rfl
          · have e : putV m.l a.p = (insP m.l a.p, 0) := by unfold putV; rw [if_pos g2, if_pos h2, if_neg (by rw [hh]; decide), if_neg h64]
            rw [e, if_pos rfl]
            refine fn_ok (by kernel_rfl) ty_ok Try.func45 rfl (fun _ _ => Try.call45 _ _) rfl ?_
            intro hw
            clear hw
            repeat' ((conv => whnf); first | (with_reducible first | refine br_t ?_ | refine br_f ?_ | refine za ?_ | refine zg ?_) | rw [hlen] | refine zp ?_ | refine zq ?_ | (with_reducible first | refine bc (fun h => ?_) (fun h => ?_) | refine zt ?_ | refine zf ?_ | refine br_i (fun h => ?_) (fun h => ?_)) | refine zg ?_ | refine zi ?_ | refine zb ?_)
            all_goals conv => whnf
            all_goals rfl
        · rw [hh] at H2
          have e : putV m.l a.p = ([], 14) := by unfold putV; rw [if_pos g2, if_pos h2, if_pos hh]
          rw [e, if_neg (by decide)]
          refine fn_ok (by kernel_rfl) ty_ok Try.func45 rfl (fun _ _ => Try.call45 _ _) rfl ?_
          intro hw
          clear hw
          repeat' ((conv => whnf); first | (with_reducible first | refine br_t ?_ | refine br_f ?_ | refine za ?_ | refine zg ?_) | rw [hlen] | refine zp ?_ | refine zq ?_ | (with_reducible first | refine bc (fun h => ?_) (fun h => ?_) | refine zt ?_ | refine zf ?_ | refine br_i (fun h => ?_) (fun h => ?_)) | refine zg ?_ | refine zi ?_ | refine zb ?_)
          all_goals conv => whnf
          all_goals rfl
      · have e : putV m.l a.p = ([], 8) := by unfold putV; rw [if_pos g2, if_neg h2]
        rw [e, if_neg (by decide)]
        have h8 : cpt a.p.id a.p.a a.p.b = 8 := (cpt_08 _ _ _).resolve_left h2
        rw [h8] at H1
        clear H2
        refine fn_ok (by kernel_rfl) ty_ok Try.func45 rfl (fun _ _ => Try.call45 _ _) rfl ?_
        intro hw
        clear hw
        exact zw
    · rw [if_neg (by omega), if_pos h]
      have H2 := qthere_fn a.id k3 (by omega)
      cases hh : has m.l a.id
      · rw [hh] at H2
        have e : takeV m.l a.id = ([], 6) := by unfold takeV; rw [if_pos g2, if_neg (by rw [hh]; decide)]
        rw [e, if_neg (by decide)]
        refine fn_ok (by kernel_rfl) ty_ok Try.func45 rfl (fun _ _ => Try.call45 _ _) rfl ?_
        intro hw
        clear hw
        exact zw
      · rw [hh] at H2
        have e : takeV m.l a.id = (without m.l a.id, 0) := by unfold takeV; rw [if_pos g2, if_pos hh]
        rw [e, if_pos rfl]
        refine fn_ok (by kernel_rfl) ty_ok Try.func45 rfl (fun _ _ => Try.call45 _ _) rfl ?_
        intro hw
        clear hw
        exact zw
    · rw [if_neg (by omega), if_neg (by omega), if_pos h]
      have H1 := kCheck_fn a.p.id a.p.a a.p.b
      have H2 := qthere_fn a.p.id k3 (by omega)
      by_cases h2 : a.p.chk = 0
      · have h2' := h2
        unfold Pt.chk at h2'
        rw [h2'] at H1
        cases hh : has m.l a.p.id
        · rw [hh] at H2
          have e : changeV m.l a.p = ([], 6) := by unfold changeV; rw [if_pos g2, if_pos h2, if_neg (by rw [hh]; decide)]
          rw [e, if_neg (by decide)]
          refine fn_ok (by kernel_rfl) ty_ok Try.func45 rfl (fun _ _ => Try.call45 _ _) rfl ?_
          intro hw
          clear hw
          repeat' ((conv => whnf); first | (with_reducible first | refine br_t ?_ | refine br_f ?_ | refine za ?_ | refine zg ?_) | rw [hlen] | refine zp ?_ | refine zq ?_ | (with_reducible first | refine bc (fun h => ?_) (fun h => ?_) | refine zt ?_ | refine zf ?_ | refine br_i (fun h => ?_) (fun h => ?_)) | refine zg ?_ | refine zi ?_ | refine zb ?_)
          all_goals conv => whnf
          all_goals rfl
        · rw [hh] at H2
          have e : changeV m.l a.p = (m.l.set (pos m.l a.p.id) a.p, 0) := by unfold changeV; rw [if_pos g2, if_pos h2, if_pos hh]
          rw [e, if_pos rfl]
          refine fn_ok (by kernel_rfl) ty_ok Try.func45 rfl (fun _ _ => Try.call45 _ _) rfl ?_
          intro hw
          clear hw
          repeat' ((conv => whnf); first | (with_reducible first | refine br_t ?_ | refine br_f ?_ | refine za ?_ | refine zg ?_) | rw [hlen] | refine zp ?_ | refine zq ?_ | (with_reducible first | refine bc (fun h => ?_) (fun h => ?_) | refine zt ?_ | refine zf ?_ | refine br_i (fun h => ?_) (fun h => ?_)) | refine zg ?_ | refine zi ?_ | refine zb ?_)
          all_goals conv => whnf
          all_goals rfl
      · have e : changeV m.l a.p = ([], 8) := by unfold changeV; rw [if_pos g2, if_neg h2]
        rw [e, if_neg (by decide)]
        have h8 : cpt a.p.id a.p.a a.p.b = 8 := (cpt_08 _ _ _).resolve_left h2
        rw [h8] at H1
        clear H2
        refine fn_ok (by kernel_rfl) ty_ok Try.func45 rfl (fun _ _ => Try.call45 _ _) rfl ?_
        intro hw
        clear hw
        exact zw
    · rw [if_neg (by omega), if_neg (by omega), if_neg (by omega), if_pos h]
      have H1 := qlate_fn g1 a.n a.d
      have e : (if askd a.n a.d = 0 then (if a.n * m.d ≤ m.n * a.d then (m, rpE 44) else (⟨a.n, a.d, m.l⟩, ⟨0, 0, 0, 0, 0, btw (allM m.l) m.n m.d a.n a.d⟩)) else (m, rpE (askd a.n a.d)) : Md × Rp).2.e = lateV m.n m.d a.n a.d := by
        unfold lateV
        split
        · split <;> rfl
        · rfl
      rw [e]
      generalize lateV m.n m.d a.n a.d = z at *
      refine fn_ok (by kernel_rfl) ty_ok Try.func45 rfl (fun _ _ => Try.call45 _ _) rfl ?_
      intro hw
      clear hw
      exact zw
    · rw [if_neg (by omega), if_neg (by omega), if_neg (by omega), if_neg (by omega), if_pos h]
      by_cases h1 : m.l.length = 0
      · rw [if_pos h1]
        refine fn_ok (by kernel_rfl) ty_ok Try.func45 rfl (fun _ _ => Try.call45 _ _) rfl ?_
        intro hw
        clear hw
        repeat' ((conv => whnf); first | (with_reducible first | refine br_t ?_ | refine br_f ?_ | refine za ?_ | refine zg ?_) | rw [hlen] | refine zp ?_ | refine zq ?_ | (with_reducible first | refine bc (fun h => ?_) (fun h => ?_) | refine zt ?_ | refine zf ?_ | refine br_i (fun h => ?_) (fun h => ?_)) | refine zg ?_ | refine zi ?_ | refine zb ?_)
        all_goals conv => whnf
        all_goals rfl
      · rw [if_neg h1]
        refine fn_ok (by kernel_rfl) ty_ok Try.func45 rfl (fun _ _ => Try.call45 _ _) rfl ?_
        intro hw
        clear hw
        repeat' ((conv => whnf); first | (with_reducible first | refine br_t ?_ | refine br_f ?_ | refine za ?_ | refine zg ?_) | rw [hlen] | refine zp ?_ | refine zq ?_ | (with_reducible first | refine bc (fun h => ?_) (fun h => ?_) | refine zt ?_ | refine zf ?_ | refine br_i (fun h => ?_) (fun h => ?_)) | refine zg ?_ | refine zi ?_ | refine zb ?_)
        all_goals conv => whnf
        all_goals rfl
    · rw [if_neg (by omega), if_neg (by omega), if_neg (by omega), if_neg (by omega), if_neg (by omega)]
      unfold closV
      rw [if_pos g2, if_pos g1]
      by_cases h1 : m.l.length < 2
      · rw [if_pos h1]
        refine fn_ok (by kernel_rfl) ty_ok Try.func45 rfl (fun _ _ => Try.call45 _ _) rfl ?_
        intro hw
        clear hw
        repeat' ((conv => whnf); first | (with_reducible first | refine br_t ?_ | refine br_f ?_ | refine za ?_ | refine zg ?_) | rw [hlen] | refine zp ?_ | refine zq ?_ | (with_reducible first | refine bc (fun h => ?_) (fun h => ?_) | refine zt ?_ | refine zf ?_ | refine br_i (fun h => ?_) (fun h => ?_)) | refine zg ?_ | refine zi ?_ | refine zb ?_)
        all_goals conv => whnf
        all_goals rfl
      · rw [if_neg h1]
        refine fn_ok (by kernel_rfl) ty_ok Try.func45 rfl (fun _ _ => Try.call45 _ _) rfl ?_
        intro hw
        clear hw
        repeat' ((conv => whnf); first | (with_reducible first | refine br_t ?_ | refine br_f ?_ | refine za ?_ | refine zg ?_) | rw [hlen] | refine zp ?_ | refine zq ?_ | (with_reducible first | refine bc (fun h => ?_) (fun h => ?_) | refine zt ?_ | refine zf ?_ | refine br_i (fun h => ?_) (fun h => ?_)) | refine zg ?_ | refine zi ?_ | refine zb ?_)
        all_goals conv => whnf
        all_goals rfl
theorem qthen_fn {m : Md} (hm : mchk m = 0) {a : Ak} (h : (askV m a).2.e = 0) : FnOK Try.prog 46 [m.dc, a.dc] (.tup [(askV m a).1.dc, .one (i64 0)]) := by
  obtain ⟨g1, g2⟩ := mchk_ok hm
  have hk : formV a = true → a.k = 1 ∨ a.k = 2 ∨ a.k = 3 ∨ a.k = 4 ∨ a.k = 5 ∨ a.k = 6 := fun h => by
    unfold formV at h
    have := of_decide_eq_true h
    omega
  unfold askV at h ⊢
  by_cases hf : formV a = true
  · rw [if_pos hf] at h ⊢
    rcases hk hf with k | k | k | k | k | k
    · rw [if_pos k] at h ⊢
      have H := fPut_fn m.l a.p
      simp only [retFl] at H
      by_cases h0 : (putV m.l a.p).2 = 0
      · rw [if_pos h0]
        rw [h0] at H
        generalize (putV m.l a.p).1 = f at *
        refine fn_ok (by kernel_rfl) ty_ok Try.func46 rfl (fun _ _ => Try.call46 _ _) rfl ?_
        intro hw
        clear hw
        exact zw
      · rw [if_neg h0] at h; exact absurd h h0
    · rw [if_neg (by omega), if_pos k] at h ⊢
      have H := fTake_fn m.l a.id
      simp only [retFl] at H
      by_cases h0 : (takeV m.l a.id).2 = 0
      · rw [if_pos h0]
        rw [h0] at H
        generalize (takeV m.l a.id).1 = f at *
        refine fn_ok (by kernel_rfl) ty_ok Try.func46 rfl (fun _ _ => Try.call46 _ _) rfl ?_
        intro hw
        clear hw
        exact zw
      · rw [if_neg h0] at h; exact absurd h h0
    · rw [if_neg (by omega), if_neg (by omega), if_pos k] at h ⊢
      have H := fChange_fn m.l a.p
      simp only [retFl] at H
      by_cases h0 : (changeV m.l a.p).2 = 0
      · rw [if_pos h0]
        rw [h0] at H
        generalize (changeV m.l a.p).1 = f at *
        refine fn_ok (by kernel_rfl) ty_ok Try.func46 rfl (fun _ _ => Try.call46 _ _) rfl ?_
        intro hw
        clear hw
        exact zw
      · rw [if_neg h0] at h; exact absurd h h0
    · rw [if_neg (by omega), if_neg (by omega), if_neg (by omega), if_pos k] at h ⊢
      by_cases h1 : askd a.n a.d = 0
      · rw [if_pos h1] at h ⊢
        by_cases h2 : a.n * m.d ≤ m.n * a.d
        · rw [if_pos h2] at h; simp [rpE] at h
        · rw [if_neg h2]
          refine fn_ok (by kernel_rfl) ty_ok Try.func46 rfl (fun _ _ => Try.call46 _ _) rfl ?_
          intro hw
          clear hw
          exact zw
      · rw [if_neg h1] at h; exact absurd h h1
    · rw [if_neg (by omega), if_neg (by omega), if_neg (by omega), if_neg (by omega), if_pos k] at h ⊢
      by_cases h1 : m.l.length = 0
      · rw [if_pos h1] at h; simp [rpE] at h
      · rw [if_neg h1]
        refine fn_ok (by kernel_rfl) ty_ok Try.func46 rfl (fun _ _ => Try.call46 _ _) rfl ?_
        intro hw
        clear hw
        exact zw
    · rw [if_neg (by omega), if_neg (by omega), if_neg (by omega), if_neg (by omega), if_neg (by omega)]
      refine fn_ok (by kernel_rfl) ty_ok Try.func46 rfl (fun _ _ => Try.call46 _ _) rfl ?_
      intro hw
      clear hw
      exact zw
  · rw [if_neg hf] at h; simp [rpE] at h
theorem qError_fn (m : Md) (a : Ak) : FnOK Try.prog 23 [m.dc, a.dc] (ret2 (errV m a)) := by
  have H := oCheck_fn m
  unfold errV
  by_cases h : mchk m = 0
  · rw [if_pos h]
    rw [h] at H
    have H1 := qwrong_fn h a
    generalize (askV m a).2.e = z at *
    refine fn_ok (by kernel_rfl) ty_ok Try.func23 rfl (fun _ _ => Try.call23 _ _) rfl ?_
    intro hw
    clear hw
    exact zw
  · rw [if_neg h]
    have h8 := (mchk_08 m).resolve_left h
    rw [h8] at H
    refine fn_ok (by kernel_rfl) ty_ok Try.func23 rfl (fun _ _ => Try.call23 _ _) rfl ?_
    intro hw
    clear hw
    exact zw
end Go.Proofs.Ytnjgfhgpicmklaa

namespace Go.Proofs.Ytnjgfhgpicmklaa
open Go Go.RowKit Go.Sort Sx
abbrev retI (x : List Int × Int) : DV := .tup [.one (ints x.1), .one (i64 x.2)]
abbrev retK (x : List Ak × Int) : DV := .tup [.one (aks x.1), .one (i64 x.2)]
theorem errs_succ {m : Md} {l : List Ak} {i : Nat} (h : i < l.length) : errsV m (l.take (i + 1)) = errsV m (l.take i) ++ [(askV (runs m (l.take i)).1 l[i]).2.e] := by
  unfold errsV; rw [runs_succ h]; simp
theorem qErrors_fn (m : Md) (l : List Ak) : FnOK Try.prog 24 [m.dc, .one (aks l)] (retI (errorsV m l)) := by
  have H := oCheck_fn m
  unfold errorsV
  by_cases h : mchk m = 0
  · rw [if_pos h]
    rw [h] at H
    by_cases h1 : 120 < l.length
    · rw [if_pos h1]
      refine fn_ok (by kernel_rfl) (ty_okK [7, 33] [] [] []) Try.func24 rfl (fun _ _ => Try.call24 _ _) rfl ?_
      intro hw
      simp only [WDCs, WDC, WDs] at hw
      have w1 := wd_aks hw.2.1
      clear hw
      repeat' ((conv => whnf); first | (with_reducible first | refine br_t ?_ | refine br_f ?_ | refine za ?_ | refine zg ?_ | refine zo ?_) | rw [List.length_map] | refine zp ?_ | refine zq ?_ | (with_reducible first | refine bc (fun h => ?_) (fun h => ?_) | refine zt ?_ | refine zf ?_ | refine br_i (fun h => ?_) (fun h => ?_)) | refine zg ?_ | refine zi ?_ | refine zb ?_ | refine zl ?_)
      all_goals conv => whnf
      all_goals rfl
    · rw [if_neg h1]
      refine fn_ok (by kernel_rfl) (ty_okK [7, 33] [] [] []) Try.func24 rfl (fun _ _ => Try.call24 _ _) rfl ?_
      intro hw
      clear hw
      repeat' ((conv => whnf); first | (with_reducible first | refine br_t ?_ | refine br_f ?_ | refine za ?_ | refine zg ?_ | refine zo ?_) | rw [List.length_map] | refine zp ?_ | refine zq ?_ | (with_reducible first | refine bc (fun h => ?_) (fun h => ?_) | refine zt ?_ | refine zf ?_ | refine br_i (fun h => ?_) (fun h => ?_)) | refine zg ?_ | refine zi ?_ | refine zb ?_ | refine zl ?_)
      refine loop_J (by kernel_rfl) (ty_okK [7, 33] [] [] []) (σ := Nat × Md × List Int) (fun s => [(23, sV (.int .i64 s.1)), (7, .c (.at (.osl 7 0)))]) (fun s => [(2, .own [.d (i64 s.2.1.n), .d (i64 s.2.1.d), .d (pts s.2.1.l)]), (7, .row 1 (s.2.2.map fun i => [i64 i]) 0)]) (fun s => s.1 ≤ l.length ∧ mchk s.2.1 = 0 ∧ (runs m (l.take s.1)).1 = s.2.1 ∧ errsV m (l.take s.1) = s.2.2) (fun s => l.length - s.1) (0, m, []) ⟨by omega, h, rfl, rfl⟩ ?_ ?_
      · (conv => whnf); exact zent
      rintro ⟨i, u, o⟩ ⟨hi, hu, hI, hJ⟩
      dsimp only at hi hu hI hJ
      have hol : (o.map fun i => [i64 i]).length = o.length := List.length_map ..
      have hoi : o.length = (l.take i).length := by rw [← hJ, errs_len]
      rw [List.length_take] at hoi
      rcases Nat.lt_or_ge i l.length with hlt | hge
      · have hel := aks_get hlt
        have HA := qwrong_fn hu l[i]
        have hn := runs_succ (m := m) hlt
        have hn2 := errs_succ (m := m) hlt
        have hv := askV_ok hu l[i]
        rw [hI] at hn hn2
        rw [hJ] at hn2
        have hs : (o.map fun i => [i64 i]) ++ [[i64 (askV u l[i]).2.e]] = (o ++ [(askV u l[i]).2.e]).map fun i => [i64 i] := by rw [List.map_append]; rfl
        by_cases he : (askV u l[i]).2.e = 0
        · have HT := qthen_fn hu he
          generalize askV u l[i] = x at *
          obtain ⟨y, r⟩ := x
          dsimp only at hn hn2 hv HA HT hs he
          generalize l[i] = a at *
          rw [he] at HA hs hn2
          repeat' ((conv => whnf); first | (with_reducible first | refine br_t ?_ | refine br_f ?_ | refine za ?_ | refine zg ?_ | refine zo ?_) | rw [hol] | rw [List.length_map] | refine zp ?_ | refine zq ?_ | (with_reducible first | refine bc (fun h => ?_) (fun h => ?_) | refine zt ?_ | refine zf ?_ | refine br_i (fun h => ?_) (fun h => ?_)) | refine zg ?_ | refine zi ?_ | refine zb ?_ | refine zl ?_)
          all_goals conv => whnf
          refine ⟨(i + 1, y, o ++ [0]), ⟨by omega, hv, congrArg Prod.fst hn, hn2⟩, ?_, by simp only; omega⟩
          (conv => whnf); refine ⟨by repeat' (first | with_reducible exact zE0 | with_reducible refine zE1 ?_ ?_ | rfl | assumption | ((exact congrArg (fun x => some (Blk.row 1 x 0)) hs)) | exact zi1 | exact zb1), by repeat' (first | with_reducible exact zH0 | with_reducible refine zH1 ?_ ?_ | rfl | assumption | ((exact congrArg (fun x => some (Blk.row 1 x 0)) hs))), rfl⟩
        · have hq := askV_err he
          generalize askV u l[i] = x at *
          obtain ⟨y, r⟩ := x
          dsimp only at hn hn2 hv HA hs he hq
          generalize l[i] = a at *
          subst hq
          generalize r.e = z at *
          repeat' ((conv => whnf); first | (with_reducible first | refine br_t ?_ | refine br_f ?_ | refine za ?_ | refine zg ?_ | refine zo ?_) | rw [hol] | rw [List.length_map] | refine zp ?_ | refine zq ?_ | (with_reducible first | refine bc (fun h => ?_) (fun h => ?_) | refine zt ?_ | refine zf ?_ | refine br_i (fun h => ?_) (fun h => ?_)) | refine zg ?_ | refine zi ?_ | refine zb ?_ | refine zl ?_)
          all_goals conv => whnf
          refine ⟨(i + 1, y, o ++ [z]), ⟨by omega, hv, congrArg Prod.fst hn, hn2⟩, ?_, by simp only; omega⟩
          (conv => whnf); refine ⟨by repeat' (first | with_reducible exact zE0 | with_reducible refine zE1 ?_ ?_ | rfl | assumption | ((exact congrArg (fun x => some (Blk.row 1 x 0)) hs)) | exact zi1 | exact zb1), by repeat' (first | with_reducible exact zH0 | with_reducible refine zH1 ?_ ?_ | rfl | assumption | ((exact congrArg (fun x => some (Blk.row 1 x 0)) hs))), rfl⟩
      · obtain rfl : i = l.length := by omega
        rw [List.take_of_length_le (Nat.le_refl _)] at hI hJ
        rw [hJ]
        repeat' ((conv => whnf); first | (with_reducible first | refine br_t ?_ | refine br_f ?_ | refine za ?_ | refine zg ?_ | refine zo ?_) | rw [hol] | rw [List.length_map] | refine zp ?_ | refine zq ?_ | (with_reducible first | refine bc (fun h => ?_) (fun h => ?_) | refine zt ?_ | refine zf ?_ | refine br_i (fun h => ?_) (fun h => ?_)) | refine zg ?_ | refine zi ?_ | refine zb ?_ | refine zl ?_)
        all_goals conv => whnf
        all_goals rfl
  · rw [if_neg h]
    have h8 := (mchk_08 m).resolve_left h
    rw [h8] at H
    refine fn_ok (by kernel_rfl) (ty_okK [7, 33] [] [] []) Try.func24 rfl (fun _ _ => Try.call24 _ _) rfl ?_
    intro hw
    clear hw
    exact zw
theorem qFirst1_fn (e : Int) : FnOK Try.prog 48 [.one (i64 e)] (.c (.one (bol (e != 0)))) := by
  refine fn_ok (by kernel_rfl) ty_ok Try.func48 rfl (fun _ _ => Try.call48 _ _) rfl ?_
  intro hw
  clear hw
  exact zw
def ix0 (l : List Int) : Int := match fst0 l with | none => -1 | some i => i
theorem ixEr_fn (l : List Int) (hl : l.length ≤ 1000000) : FnOK Try.prog 47 [.one (ints l), .one (.clo 48 [])] (ret1 (ix0 l)) := by
  have hll : (l.map fun i => [i64 i]).length = l.length := List.length_map ..
  refine fn_ok (by kernel_rfl) ty_ok Try.func47 rfl (fun _ _ => Try.call47 _ _) rfl ?_
  intro hw
  clear hw
  repeat' ((conv => whnf); first | (with_reducible first | refine br_t ?_ | refine br_f ?_ | refine za ?_ | refine zg ?_) | rw [hll] | refine zp ?_ | refine zq ?_ | (with_reducible first | refine bc (fun h => ?_) (fun h => ?_) | refine zt ?_ | refine zf ?_ | refine br_i (fun h => ?_) (fun h => ?_)) | refine zg ?_ | refine zi ?_ | refine zb ?_)
  refine loop_J (by kernel_rfl) ty_ok (σ := Nat) (fun i => [(8, sV (.int .i64 i))]) (fun _ => []) (fun i => i ≤ l.length ∧ ∀ k (h : k < l.length), k < i → l[k] = 0) (fun i => l.length - i) 0 ⟨by omega, fun k _ h => absurd h (Nat.not_lt_zero _)⟩ ?_ ?_
  · (conv => whnf); exact zent
  rintro i ⟨hi, hI⟩
  rcases Nat.lt_or_ge i l.length with hlt | hge
  · have hel := ints_get hlt
    have HC := qFirst1_fn l[i]
    by_cases hc : l[i] = 0
    · rw [show (l[i] != 0) = false by simp [hc]] at HC
      have hn : ∀ k (h : k < l.length), k < i + 1 → l[k] = 0 := fun k hk hki => by
        rcases Nat.lt_or_ge k i with h1 | h1
        · exact hI k hk h1
        · have : k = i := by omega
          subst this; exact hc
      generalize l[i] = e at *
      repeat' ((conv => whnf); first | (with_reducible first | refine br_t ?_ | refine br_f ?_ | refine za ?_ | refine zg ?_) | rw [hll] | refine zp ?_ | refine zq ?_ | (with_reducible first | refine bc (fun h => ?_) (fun h => ?_) | refine zt ?_ | refine zf ?_ | refine br_i (fun h => ?_) (fun h => ?_)) | refine zg ?_ | refine zi ?_ | refine zb ?_)
      all_goals conv => whnf
      refine ⟨i + 1, ⟨by omega, hn⟩, ?_, by omega⟩
      (conv => whnf); exact zent
    · have e : ix0 l = i := by unfold ix0; rw [fst0_some.2 ⟨hlt, hc, hI⟩]
      rw [e]
      rw [show (l[i] != 0) = true by simp [hc]] at HC
      clear hI
      generalize l[i] = e at *
      repeat' ((conv => whnf); first | (with_reducible first | refine br_t ?_ | refine br_f ?_ | refine za ?_ | refine zg ?_) | rw [hll] | refine zp ?_ | refine zq ?_ | (with_reducible first | refine bc (fun h => ?_) (fun h => ?_) | refine zt ?_ | refine zf ?_ | refine br_i (fun h => ?_) (fun h => ?_)) | refine zg ?_ | refine zi ?_ | refine zb ?_)
      all_goals conv => whnf
      all_goals rfl
  · have e : ix0 l = -1 := by
      unfold ix0
      rw [fst0_none.2 fun e he => by
        obtain ⟨k, hk, rfl⟩ := List.getElem_of_mem he
        exact hI k hk (by omega)]
    rw [e]
    repeat' ((conv => whnf); first | (with_reducible first | refine br_t ?_ | refine br_f ?_ | refine za ?_ | refine zg ?_) | rw [hll] | refine zp ?_ | refine zq ?_ | (with_reducible first | refine bc (fun h => ?_) (fun h => ?_) | refine zt ?_ | refine zf ?_ | refine br_i (fun h => ?_) (fun h => ?_)) | refine zg ?_ | refine zi ?_ | refine zb ?_)
    all_goals conv => whnf
    all_goals rfl
theorem qFirst_fn (m : Md) (l : List Ak) : FnOK Try.prog 25 [m.dc, .one (aks l)] (ret2 (ofirstV m l)) := by
  have H := qErrors_fn m l
  unfold ofirstV
  unfold errorsV at H
  by_cases h : mchk m = 0
  · rw [if_pos h] at H ⊢
    by_cases h1 : 120 < l.length
    · rw [if_pos h1] at H ⊢
      simp only [retI] at H
      refine fn_ok (by kernel_rfl) ty_ok Try.func25 rfl (fun _ _ => Try.call25 _ _) rfl ?_
      intro hw
      clear hw
      exact zw
    · rw [if_neg h1] at H ⊢
      simp only [retI] at H
      have HI := ixEr_fn (errsV m l) (by rw [errs_len]; omega)
      unfold firstE
      unfold ix0 at HI
      cases hf : fst0 (errsV m l) with
      | none =>
        rw [hf] at HI
        simp only at HI
        generalize errsV m l = es at *
        refine fn_ok (by kernel_rfl) ty_ok Try.func25 rfl (fun _ _ => Try.call25 _ _) rfl ?_
        intro hw
        clear hw
        exact zw
      | some i =>
        rw [hf] at HI
        simp only at HI
        generalize errsV m l = es at *
        refine fn_ok (by kernel_rfl) ty_ok Try.func25 rfl (fun _ _ => Try.call25 _ _) rfl ?_
        intro hw
        clear hw
        exact zw
  · rw [if_neg h] at H ⊢
    simp only [retI] at H
    refine fn_ok (by kernel_rfl) ty_ok Try.func25 rfl (fun _ _ => Try.call25 _ _) rfl ?_
    intro hw
    clear hw
    exact zw
theorem qKept_fn (m : Md) (l : List Ak) : FnOK Try.prog 26 [m.dc, .one (aks l)] (retK (keptV m l)) := by
  have H := qErrors_fn m l
  unfold keptV
  unfold errorsV at H
  have hal : (l.map Ak.c).length = l.length := List.length_map ..
  by_cases h : mchk m = 0
  · rw [if_pos h] at H ⊢
    by_cases h1 : 120 < l.length
    · rw [if_pos h1] at H ⊢
      simp only [retI] at H
      refine fn_ok (by kernel_rfl) (ty_okK [8, 35] [] [] []) Try.func26 rfl (fun _ _ => Try.call26 _ _) rfl ?_
      intro hw
      clear hw
      exact zw
    · rw [if_neg h1] at H ⊢
      simp only [retI] at H
      have hE := errs_len m l
      have hX := keepE_kept m l
      generalize kept m l = X at *
      generalize errsV m l = es at *
      have hel : (es.map fun i => [i64 i]).length = es.length := List.length_map ..
      refine fn_ok (by kernel_rfl) (ty_okK [8, 35] [] [] []) Try.func26 rfl (fun _ _ => Try.call26 _ _) rfl ?_
      intro hw
      clear hw
      repeat' ((conv => whnf); first | (with_reducible first | refine br_t ?_ | refine br_f ?_ | refine za ?_ | refine zg ?_ | refine zo ?_) | rw [hal] | refine zp ?_ | refine zq ?_ | (with_reducible first | refine bc (fun h => ?_) (fun h => ?_) | refine zt ?_ | refine zf ?_ | refine br_i (fun h => ?_) (fun h => ?_)) | refine zg ?_ | refine zi ?_ | refine zb ?_ | refine zl ?_)
      refine loop_J (by kernel_rfl) (ty_okK [8, 35] [] [] []) (σ := Nat × List Ak) (fun s => [(22, sV (.int .i64 s.1)), (8, .c (.at (.osl 8 0)))]) (fun s => [(8, .row 7 (s.2.map Ak.c) 0)]) (fun s => s.1 ≤ l.length ∧ s.2.length ≤ s.1 ∧ s.2 ++ keepE (l.drop s.1) (es.drop s.1) = X) (fun s => l.length - s.1) (0, []) ⟨by omega, Nat.le_refl _, hX⟩ ?_ ?_
      · (conv => whnf); exact zent
      rintro ⟨i, o⟩ ⟨hi, hb, hI⟩
      dsimp only at hi hb hI
      have hol : (o.map Ak.c).length = o.length := List.length_map ..
      rcases Nat.lt_or_ge i l.length with hlt | hge
      · have h2 : i < es.length := by omega
        have g1 := aks_get hlt
        have g2 := ints_get h2
        rw [keepE_lt hlt h2, ← List.append_assoc] at hI
        by_cases hc : es[i] = 0
        · rw [if_pos hc] at hI
          rw [hc] at g2
          have hs : o.map Ak.c ++ [l[i].c] = (o ++ [l[i]]).map Ak.c := by rw [List.map_append]; rfl
          clear hc
          repeat' ((conv => whnf); first | (with_reducible first | refine br_t ?_ | refine br_f ?_ | refine za ?_ | refine zg ?_ | refine zo ?_) | rw [hol] | rw [hal] | rw [hel] | refine zp ?_ | refine zq ?_ | (with_reducible first | refine bc (fun h => ?_) (fun h => ?_) | refine zt ?_ | refine zf ?_ | refine br_i (fun h => ?_) (fun h => ?_)) | refine zg ?_ | refine zi ?_ | refine zb ?_ | refine zl ?_)
          all_goals conv => whnf
          refine ⟨(i + 1, o ++ [l[i]]), ⟨by omega, by simp; omega, hI⟩, ?_, by simp only; omega⟩
          (conv => whnf); refine ⟨by repeat' (first | with_reducible exact zE0 | with_reducible refine zE1 ?_ ?_ | rfl | assumption | ((exact congrArg (fun x => some (Blk.row 7 x 0)) hs)) | exact zi1 | exact zb1), by repeat' (first | with_reducible exact zH0 | with_reducible refine zH1 ?_ ?_ | rfl | assumption | ((exact congrArg (fun x => some (Blk.row 7 x 0)) hs))), rfl⟩
        · rw [if_neg hc, List.append_nil] at hI
          generalize es[i] = z at *
          repeat' ((conv => whnf); first | (with_reducible first | refine br_t ?_ | refine br_f ?_ | refine za ?_ | refine zg ?_ | refine zo ?_) | rw [hol] | rw [hal] | rw [hel] | refine zp ?_ | refine zq ?_ | (with_reducible first | refine bc (fun h => ?_) (fun h => ?_) | refine zt ?_ | refine zf ?_ | refine br_i (fun h => ?_) (fun h => ?_)) | refine zg ?_ | refine zi ?_ | refine zb ?_ | refine zl ?_)
          all_goals conv => whnf
          refine ⟨(i + 1, o), ⟨by omega, by dsimp only; omega, hI⟩, ?_, by simp only; omega⟩
          (conv => whnf); exact zent
      · rw [keepE_ge hge, List.append_nil] at hI
        subst hI
        repeat' ((conv => whnf); first | (with_reducible first | refine br_t ?_ | refine br_f ?_ | refine za ?_ | refine zg ?_ | refine zo ?_) | rw [hol] | rw [hal] | refine zp ?_ | refine zq ?_ | (with_reducible first | refine bc (fun h => ?_) (fun h => ?_) | refine zt ?_ | refine zf ?_ | refine br_i (fun h => ?_) (fun h => ?_)) | refine zg ?_ | refine zi ?_ | refine zb ?_ | refine zl ?_)
        all_goals conv => whnf
        all_goals rfl
  · rw [if_neg h] at H ⊢
    simp only [retI] at H
    refine fn_ok (by kernel_rfl) (ty_okK [8, 35] [] [] []) Try.func26 rfl (fun _ _ => Try.call26 _ _) rfl ?_
    intro hw
    clear hw
    exact zw
theorem qFree_fn (m : Md) : FnOK Try.prog 22 [m.dc] (ret2 (freeV m)) := by
  have H := oCheck_fn m
  have hlen : (m.l.map Pt.c).length = m.l.length := List.length_map ..
  unfold freeV
  by_cases h : mchk m = 0
  · rw [if_pos h]
    rw [h] at H
    obtain ⟨g1, g2⟩ := mchk_ok h
    obtain ⟨k1, k2, k3⟩ := fchk_ok g2
    by_cases h1 : m.l.length = 64
    · rw [if_pos h1]
      refine fn_ok (by kernel_rfl) ty_ok Try.func22 rfl (fun _ _ => Try.call22 _ _) rfl ?_
      intro hw
      clear hw
      repeat' ((conv => whnf); first | (with_reducible first | refine br_t ?_ | refine br_f ?_ | refine za ?_ | refine zg ?_) | rw [hlen] | refine zp ?_ | refine zq ?_ | (with_reducible first | refine bc (fun h => ?_) (fun h => ?_) | refine zt ?_ | refine zf ?_ | refine br_i (fun h => ?_) (fun h => ?_)) | refine zg ?_ | refine zi ?_ | refine zb ?_)
      all_goals conv => whnf
      all_goals rfl
    · rw [if_neg h1]
      refine fn_ok (by kernel_rfl) ty_ok Try.func22 rfl (fun _ _ => Try.call22 _ _) rfl ?_
      intro hw
      clear hw
      repeat' ((conv => whnf); first | (with_reducible first | refine br_t ?_ | refine br_f ?_ | refine za ?_ | refine zg ?_) | rw [hlen] | refine zp ?_ | refine zq ?_ | (with_reducible first | refine bc (fun h => ?_) (fun h => ?_) | refine zt ?_ | refine zf ?_ | refine br_i (fun h => ?_) (fun h => ?_)) | refine zg ?_ | refine zi ?_ | refine zb ?_)
      refine loop_J (by kernel_rfl) ty_ok (σ := Nat) (fun i => [(21, sV (.int .i64 i))]) (fun _ => []) (fun i => i ≤ m.l.length ∧ lstF (m.l.drop i) i = lstF m.l 0) (fun i => m.l.length - i) 0 ⟨by omega, rfl⟩ ?_ ?_
      · (conv => whnf); exact zent
      rintro i ⟨hi, hI⟩
      rcases Nat.lt_or_ge i m.l.length with hlt | hge
      · have hel := pts_get hlt
        rw [lstF_lt hlt] at hI
        by_cases hc : m.l[i].id = i
        · rw [if_pos hc] at hI
          repeat' ((conv => whnf); first | (with_reducible first | refine br_t ?_ | refine br_f ?_ | refine za ?_ | refine zg ?_) | rw [hlen] | refine zp ?_ | refine zq ?_ | (with_reducible first | refine bc (fun h => ?_) (fun h => ?_) | refine zt ?_ | refine zf ?_ | refine br_i (fun h => ?_) (fun h => ?_)) | refine zg ?_ | refine zi ?_ | refine zb ?_)
          all_goals conv => whnf
          refine ⟨i + 1, ⟨by omega, hI⟩, ?_, by omega⟩
          (conv => whnf); exact zent
        · rw [if_neg hc] at hI
          rw [← hI]
          repeat' ((conv => whnf); first | (with_reducible first | refine br_t ?_ | refine br_f ?_ | refine za ?_ | refine zg ?_) | rw [hlen] | refine zp ?_ | refine zq ?_ | (with_reducible first | refine bc (fun h => ?_) (fun h => ?_) | refine zt ?_ | refine zf ?_ | refine br_i (fun h => ?_) (fun h => ?_)) | refine zg ?_ | refine zi ?_ | refine zb ?_)
          all_goals conv => whnf
          all_goals rfl
      · rw [lstF_ge hge] at hI
        obtain rfl : i = m.l.length := by omega
        rw [← hI]
        repeat' ((conv => whnf); first | (with_reducible first | refine br_t ?_ | refine br_f ?_ | refine za ?_ | refine zg ?_) | rw [hlen] | refine zp ?_ | refine zq ?_ | (with_reducible first | refine bc (fun h => ?_) (fun h => ?_) | refine zt ?_ | refine zf ?_ | refine br_i (fun h => ?_) (fun h => ?_)) | refine zg ?_ | refine zi ?_ | refine zb ?_)
        all_goals conv => whnf
        all_goals exact r_int (by rw [hlen])
  · rw [if_neg h]
    have h8 := (mchk_08 m).resolve_left h
    rw [h8] at H
    refine fn_ok (by kernel_rfl) ty_ok Try.func22 rfl (fun _ _ => Try.call22 _ _) rfl ?_
    intro hw
    clear hw
    exact zw
end Go.Proofs.Ytnjgfhgpicmklaa

namespace Go.Proofs.Ytnjgfhgpicmklaa
open Go Go.RowKit Go.Sort Sx
theorem rqGreat_fn (m : Md) (l : List Ak) : FnOK Try.prog 52 [m.dc, .one (aks l)] (.c (.one (bol (great m.l || decide (20 < l.length ∧ l.length ≤ 120 ∨ 130 < l.length))))) := by
  have H := rfGreat_fn m.l
  have hal : (l.map Ak.c).length = l.length := List.length_map ..
  cases hg : great m.l
  · rw [hg] at H
    refine fn_ok (by kernel_rfl) ty_ok Try.func52 rfl (fun _ _ => Try.call52 _ _) rfl ?_
    intro hw
    simp only [WDCs, WDC, WDs] at hw
    have w1 := wd_aks hw.2.1
    clear hw
    repeat' ((conv => whnf); first | (with_reducible first | refine br_t ?_ | refine br_f ?_ | refine za ?_ | refine zg ?_) | rw [hal] | refine zp ?_ | refine zq ?_ | (with_reducible first | refine bc (fun h => ?_) (fun h => ?_) | refine zt ?_ | refine zf ?_ | refine br_i (fun h => ?_) (fun h => ?_)) | refine zg ?_ | refine zi ?_ | refine zb ?_)
    all_goals conv => whnf
    all_goals
      refine r_bool ?_
      rw [Bool.eq_iff_iff]
      simp only [Bool.false_or, decide_eq_true_eq, Bool.false_eq_true, false_iff, iff_false, true_iff, iff_true]
      first | omega | (rw [iff_comm]; omega) | trivial
  · rw [hg] at H
    refine fn_ok (by kernel_rfl) ty_ok Try.func52 rfl (fun _ _ => Try.call52 _ _) rfl ?_
    intro hw
    clear hw
    exact zw
theorem rqSame_fn (a b : List Int) : FnOK Try.prog 51 [.one (ints a), .one (ints b)] (.c (.one (bol (decide (a = b))))) := by
  refine fn_ok (by kernel_rfl) ty_ok Try.func51 rfl (fun _ _ => Try.call51 _ _) rfl ?_
  intro hw
  simp only [WDCs, WDC, WDs] at hw
  have w1 : a.length ≤ 9223372036854775807 := by
    obtain ⟨h1, _, _⟩ := WD_list.1 hw.1
    simpa using h1
  have w2 : b.length ≤ 9223372036854775807 := by
    obtain ⟨h1, _, _⟩ := WD_list.1 hw.2.1
    simpa using h1
  clear hw
  have hla : (a.map fun i => [i64 i]).length = a.length := List.length_map ..
  have hlb : (b.map fun i => [i64 i]).length = b.length := List.length_map ..
  by_cases h0 : a.length = b.length
  · repeat' ((conv => whnf); first | (with_reducible first | refine br_t ?_ | refine br_f ?_ | refine za ?_ | refine zg ?_) | rw [hla] | rw [hlb] | refine zp ?_ | refine zq ?_ | (with_reducible first | refine bc (fun h => ?_) (fun h => ?_) | refine zt ?_ | refine zf ?_ | refine br_i (fun h => ?_) (fun h => ?_)) | refine zg ?_ | refine zi ?_ | refine zb ?_)
    refine loop_J (by kernel_rfl) ty_ok (σ := Nat) (fun i => [(5, sV (.int .i64 i))]) (fun _ => []) (fun i => i ≤ a.length ∧ a.take i = b.take i) (fun i => a.length - i) 0 ⟨by omega, rfl⟩ ?_ ?_
    · (conv => whnf); exact zent
    rintro i ⟨hi, hI⟩
    rcases Nat.lt_or_ge i a.length with hlt | hge
    · have hb : i < b.length := by omega
      have he1 := ints_get hlt
      have he2 := ints_get hb
      by_cases hc : a[i] = b[i]
      · have hn := take_succ_eq hI hlt hb hc
        repeat' ((conv => whnf); first | (with_reducible first | refine br_t ?_ | refine br_f ?_ | refine za ?_ | refine zg ?_) | rw [hla] | rw [hlb] | refine zp ?_ | refine zq ?_ | (with_reducible first | refine bc (fun h => ?_) (fun h => ?_) | refine zt ?_ | refine zf ?_ | refine br_i (fun h => ?_) (fun h => ?_)) | refine zg ?_ | refine zi ?_ | refine zb ?_)
        all_goals conv => whnf
        refine ⟨i + 1, ⟨by omega, hn⟩, ?_, by omega⟩
        (conv => whnf); exact zent
      · rw [decide_eq_false (ne_of_get hlt hb hc)]
        repeat' ((conv => whnf); first | (with_reducible first | refine br_t ?_ | refine br_f ?_ | refine za ?_ | refine zg ?_) | rw [hla] | rw [hlb] | refine zp ?_ | refine zq ?_ | (with_reducible first | refine bc (fun h => ?_) (fun h => ?_) | refine zt ?_ | refine zf ?_ | refine br_i (fun h => ?_) (fun h => ?_)) | refine zg ?_ | refine zi ?_ | refine zb ?_)
        all_goals conv => whnf
        all_goals rfl
    · rw [decide_eq_true (take_all_eq hI h0 hge)]
      repeat' ((conv => whnf); first | (with_reducible first | refine br_t ?_ | refine br_f ?_ | refine za ?_ | refine zg ?_) | rw [hla] | rw [hlb] | refine zp ?_ | refine zq ?_ | (with_reducible first | refine bc (fun h => ?_) (fun h => ?_) | refine zt ?_ | refine zf ?_ | refine br_i (fun h => ?_) (fun h => ?_)) | refine zg ?_ | refine zi ?_ | refine zb ?_)
      all_goals conv => whnf
      all_goals rfl
  · rw [decide_eq_false (fun h => h0 (congrArg List.length h))]
    repeat' ((conv => whnf); first | (with_reducible first | refine br_t ?_ | refine br_f ?_ | refine za ?_ | refine zg ?_) | rw [hla] | rw [hlb] | refine zp ?_ | refine zq ?_ | (with_reducible first | refine bc (fun h => ?_) (fun h => ?_) | refine zt ?_ | refine zf ?_ | refine br_i (fun h => ?_) (fun h => ?_)) | refine zg ?_ | refine zi ?_ | refine zb ?_)
    all_goals conv => whnf
    all_goals rfl
theorem Ak.eq_iff {a b : Ak} : a = b ↔ a.k = b.k ∧ (a.p.id = b.p.id ∧ a.p.a = b.p.a ∧ a.p.b = b.p.b) ∧ a.id = b.id ∧ a.n = b.n ∧ a.d = b.d := by
  obtain ⟨k, ⟨i, x, y⟩, j, n, d⟩ := a
  obtain ⟨k', ⟨i', x', y'⟩, j', n', d'⟩ := b
  simp [and_assoc]
theorem r36SameAsks_fn (a b : List Ak) : FnOK Try.prog 17 [.one (aks a), .one (aks b)] (.c (.one (bol (decide (a = b))))) := by
  have hla : (a.map Ak.c).length = a.length := List.length_map ..
  have hlb : (b.map Ak.c).length = b.length := List.length_map ..
  refine fn_ok (by kernel_rfl) ty_ok Try.func17 rfl (fun _ _ => Try.call17 _ _) rfl ?_
  intro hw
  simp only [WDCs, WDC, WDs] at hw
  have w1 := wd_aks hw.1
  have w2 := wd_aks hw.2.1
  clear hw
  by_cases h0 : a.length = b.length
  · repeat' ((conv => whnf); first | (with_reducible first | refine br_t ?_ | refine br_f ?_ | refine za ?_ | refine zg ?_) | rw [hla] | rw [hlb] | refine zp ?_ | refine zq ?_ | (with_reducible first | refine bc (fun h => ?_) (fun h => ?_) | refine zt ?_ | refine zf ?_ | refine br_i (fun h => ?_) (fun h => ?_) | refine xi (pv_bool fun _ => nev60 _ _ _ _ _ _ _ _ _ _ _ _ _ _ _ _ _) ?_) | refine zg ?_ | refine zi ?_ | refine zb ?_)
    refine loop_J (by kernel_rfl) ty_ok (σ := Nat) (fun i => [(5, sV (.int .i64 i))]) (fun _ => []) (fun i => i ≤ a.length ∧ a.take i = b.take i) (fun i => a.length - i) 0 ⟨by omega, rfl⟩ ?_ ?_
    · (conv => whnf); exact zent
    rintro i ⟨hi, hI⟩
    rcases Nat.lt_or_ge i a.length with hlt | hge
    · have hb : i < b.length := by omega
      have he1 := aks_get hlt
      have he2 := aks_get hb
      have hq := Ak.eq_iff (a := a[i]) (b := b[i])
      by_cases hc : a[i] = b[i]
      · have hn := take_succ_eq hI hlt hb hc
        have hq := hq.1 hc
        clear hc
        repeat' ((conv => whnf); first | (with_reducible first | refine br_t ?_ | refine br_f ?_ | refine za ?_ | refine zg ?_) | rw [hla] | rw [hlb] | refine zp ?_ | refine zq ?_ | (with_reducible first | refine bc (fun h => ?_) (fun h => ?_) | refine zt ?_ | refine zf ?_ | refine br_i (fun h => ?_) (fun h => ?_) | refine xi (pv_bool fun _ => nev60 _ _ _ _ _ _ _ _ _ _ _ _ _ _ _ _ _) ?_) | refine zg ?_ | refine zi ?_ | refine zb ?_)
        all_goals conv => whnf
        refine ⟨i + 1, ⟨by omega, hn⟩, ?_, by omega⟩
        (conv => whnf); exact zent
      · rw [decide_eq_false (ne_of_get hlt hb hc)]
        have hq : ¬ _ := fun h => hc (hq.2 h)
        clear hc
        repeat' ((conv => whnf); first | (with_reducible first | refine br_t ?_ | refine br_f ?_ | refine za ?_ | refine zg ?_) | rw [hla] | rw [hlb] | refine zp ?_ | refine zq ?_ | (with_reducible first | refine bc (fun h => ?_) (fun h => ?_) | refine zt ?_ | refine zf ?_ | refine br_i (fun h => ?_) (fun h => ?_) | refine xi (pv_bool fun _ => nev60 _ _ _ _ _ _ _ _ _ _ _ _ _ _ _ _ _) ?_) | refine zg ?_ | refine zi ?_ | refine zb ?_)
        all_goals conv => whnf
        all_goals rfl
    · rw [decide_eq_true (take_all_eq hI h0 hge)]
      repeat' ((conv => whnf); first | (with_reducible first | refine br_t ?_ | refine br_f ?_ | refine za ?_ | refine zg ?_) | rw [hla] | rw [hlb] | refine zp ?_ | refine zq ?_ | (with_reducible first | refine bc (fun h => ?_) (fun h => ?_) | refine zt ?_ | refine zf ?_ | refine br_i (fun h => ?_) (fun h => ?_) | refine xi (pv_bool fun _ => nev60 _ _ _ _ _ _ _ _ _ _ _ _ _ _ _ _ _) ?_) | refine zg ?_ | refine zi ?_ | refine zb ?_)
      all_goals conv => whnf
      all_goals rfl
  · rw [decide_eq_false (fun h => h0 (congrArg List.length h))]
    repeat' ((conv => whnf); first | (with_reducible first | refine br_t ?_ | refine br_f ?_ | refine za ?_ | refine zg ?_) | rw [hla] | rw [hlb] | refine zp ?_ | refine zq ?_ | (with_reducible first | refine bc (fun h => ?_) (fun h => ?_) | refine zt ?_ | refine zf ?_ | refine br_i (fun h => ?_) (fun h => ?_) | refine xi (pv_bool fun _ => nev60 _ _ _ _ _ _ _ _ _ _ _ _ _ _ _ _ _) ?_) | refine zg ?_ | refine zi ?_ | refine zb ?_)
    all_goals conv => whnf
    all_goals rfl
end Go.Proofs.Ytnjgfhgpicmklaa

namespace Go.Proofs.Ytnjgfhgpicmklaa
open Go Go.RowKit Go.Sort Sx
def countsV (m : Md) (l : List Ak) : List (Int × Int) × Int := if mchk m = 0 then (if 120 < l.length then ([], 4) else (cnts (errsV m l), 0)) else ([], 8)
abbrev retCn (x : List (Int × Int) × Int) : DV := .tup [.one (.list 2 (prc x.1)), .one (i64 x.2)]
theorem prc_get {l : List (Int × Int)} {i : Nat} (h : i < l.length) : (prc l)[((i : Nat) : Int).toNat]? = some [i64 l[i].1, i64 l[i].2] := by
  rw [Int.toNat_natCast, List.getElem?_map, List.getElem?_eq_getElem h]; rfl
theorem rqSameCounts_fn (a b : List (Int × Int)) : FnOK Try.prog 28 [.one (.list 2 (prc a)), .one (.list 2 (prc b))] (.c (.one (bol (decide (a = b))))) := by
  have hla : (prc a).length = a.length := List.length_map ..
  have hlb : (prc b).length = b.length := List.length_map ..
  refine fn_ok (by kernel_rfl) ty_ok Try.func28 rfl (fun _ _ => Try.call28 _ _) rfl ?_
  intro hw
  simp only [WDCs, WDC, WDs] at hw
  have w1 : a.length ≤ 9223372036854775807 := by
    obtain ⟨h1, _, _⟩ := WD_list.1 hw.1
    simpa using h1
  have w2 : b.length ≤ 9223372036854775807 := by
    obtain ⟨h1, _, _⟩ := WD_list.1 hw.2.1
    simpa using h1
  clear hw
  by_cases h0 : a.length = b.length
  · repeat' ((conv => whnf); first | (with_reducible first | refine br_t ?_ | refine br_f ?_ | refine za ?_ | refine zg ?_) | rw [hla] | rw [hlb] | refine zp ?_ | refine zq ?_ | (with_reducible first | refine bc (fun h => ?_) (fun h => ?_) | refine zt ?_ | refine zf ?_ | refine br_i (fun h => ?_) (fun h => ?_) | refine xi (pv_bool fun _ => nev75 _ _ _ _ _ _ _) ?_) | refine zg ?_ | refine zi ?_ | refine zb ?_)
    refine loop_J (by kernel_rfl) ty_ok (σ := Nat) (fun i => [(5, sV (.int .i64 i))]) (fun _ => []) (fun i => i ≤ a.length ∧ a.take i = b.take i) (fun i => a.length - i) 0 ⟨by omega, rfl⟩ ?_ ?_
    · (conv => whnf); exact zent
    rintro i ⟨hi, hI⟩
    rcases Nat.lt_or_ge i a.length with hlt | hge
    · have hb : i < b.length := by omega
      have he1 := prc_get hlt
      have he2 := prc_get hb
      have hq : a[i] = b[i] ↔ a[i].1 = b[i].1 ∧ a[i].2 = b[i].2 := Prod.ext_iff
      by_cases hc : a[i] = b[i]
      · have hn := take_succ_eq hI hlt hb hc
        have hq := hq.1 hc
        clear hc
        repeat' ((conv => whnf); first | (with_reducible first | refine br_t ?_ | refine br_f ?_ | refine za ?_ | refine zg ?_) | rw [hla] | rw [hlb] | refine zp ?_ | refine zq ?_ | (with_reducible first | refine bc (fun h => ?_) (fun h => ?_) | refine zt ?_ | refine zf ?_ | refine br_i (fun h => ?_) (fun h => ?_) | refine xi (pv_bool fun _ => nev75 _ _ _ _ _ _ _) ?_) | refine zg ?_ | refine zi ?_ | refine zb ?_)
        all_goals conv => whnf
        refine ⟨i + 1, ⟨by omega, hn⟩, ?_, by omega⟩
        (conv => whnf); exact zent
      · rw [decide_eq_false (ne_of_get hlt hb hc)]
        have hq : ¬ _ := fun h => hc (hq.2 h)
        clear hc
        repeat' ((conv => whnf); first | (with_reducible first | refine br_t ?_ | refine br_f ?_ | refine za ?_ | refine zg ?_) | rw [hla] | rw [hlb] | refine zp ?_ | refine zq ?_ | (with_reducible first | refine bc (fun h => ?_) (fun h => ?_) | refine zt ?_ | refine zf ?_ | refine br_i (fun h => ?_) (fun h => ?_) | refine xi (pv_bool fun _ => nev75 _ _ _ _ _ _ _) ?_) | refine zg ?_ | refine zi ?_ | refine zb ?_)
        all_goals conv => whnf
        all_goals rfl
    · rw [decide_eq_true (take_all_eq hI h0 hge)]
      repeat' ((conv => whnf); first | (with_reducible first | refine br_t ?_ | refine br_f ?_ | refine za ?_ | refine zg ?_) | rw [hla] | rw [hlb] | refine zp ?_ | refine zq ?_ | (with_reducible first | refine bc (fun h => ?_) (fun h => ?_) | refine zt ?_ | refine zf ?_ | refine br_i (fun h => ?_) (fun h => ?_) | refine xi (pv_bool fun _ => nev75 _ _ _ _ _ _ _) ?_) | refine zg ?_ | refine zi ?_ | refine zb ?_)
      all_goals conv => whnf
      all_goals rfl
  · rw [decide_eq_false (fun h => h0 (congrArg List.length h))]
    repeat' ((conv => whnf); first | (with_reducible first | refine br_t ?_ | refine br_f ?_ | refine za ?_ | refine zg ?_) | rw [hla] | rw [hlb] | refine zp ?_ | refine zq ?_ | (with_reducible first | refine bc (fun h => ?_) (fun h => ?_) | refine zt ?_ | refine zf ?_ | refine br_i (fun h => ?_) (fun h => ?_) | refine xi (pv_bool fun _ => nev75 _ _ _ _ _ _ _) ?_) | refine zg ?_ | refine zi ?_ | refine zb ?_)
    all_goals conv => whnf
    all_goals rfl
end Go.Proofs.Ytnjgfhgpicmklaa

namespace Go.Proofs.Ytnjgfhgpicmklaa
open Go.RowKit Go.Sort Sx
def sumC (l : List (Int × Int)) : Int := (l.map (·.2)).sum
theorem sumC_snoc (l : List (Int × Int)) (p : Int × Int) : sumC (l ++ [p]) = sumC l + p.2 := by
  unfold sumC; rw [List.map_append, List.sum_append]; simp
theorem sumC_succ {l : List (Int × Int)} {i : Nat} (h : i < l.length) : sumC (l.take (i + 1)) = sumC (l.take i) + l[i].2 := by
  rw [List.take_succ_eq_append_getElem h, sumC_snoc]
theorem below_succ (es : List Int) (n : Nat) : es.countP (fun e => decide (0 ≤ e ∧ e < ((n + 1 : Nat) : Int))) = es.countP (fun e => decide (0 ≤ e ∧ e < (n : Int))) + es.count (n : Int) := by
  induction es with
  | nil => rfl
  | cons e es ih =>
    rw [List.countP_cons, List.countP_cons, List.count_cons, ih]
    by_cases h1 : e = (n : Int)
    · subst h1
      rw [if_pos (by simp; omega), if_neg (by simp), if_pos (by simp)]; omega
    · rw [if_neg (c := (e == (n : Int)) = true) (by simpa using h1)]
      by_cases h2 : 0 ≤ e ∧ e < (n : Int)
      · rw [if_pos (by simp; omega), if_pos (by simpa using h2)]; omega
      · rw [if_neg (by simp; omega), if_neg (by simpa using h2)]; omega
theorem sum_cntTo (es : List Int) : ∀ n : Nat, sumC (cntTo es n) = (es.countP (fun e => decide (0 ≤ e ∧ e < (n : Int))) : Nat)
  | 0 => by
    have h : es.countP (fun e => decide (0 ≤ e ∧ e < ((0 : Nat) : Int))) = 0 := by
      rw [List.countP_eq_zero]
      intro e _
      simp only [decide_eq_true_eq]; omega
    rw [h]; rfl
  | n + 1 => by
    rw [below_succ, cntTo_succ]
    by_cases h : 0 < es.count (n : Int)
    · rw [if_pos h, sumC_snoc, sum_cntTo es n]
      exact (Int.natCast_add ..).symm
    · rw [if_neg h, List.append_nil, sum_cntTo es n]
      congr 1; omega
theorem sum_cnts {es : List Int} (h : ∀ e ∈ es, 0 ≤ e ∧ e < 100) : sumC (cnts es) = es.length := by
  unfold cnts
  rw [sum_cntTo]
  congr 1
  rw [List.countP_eq_length]
  intro e he
  have := h e he
  simp; omega
theorem cnts_get {es : List Int} {i : Nat} (h : i < (cnts es).length) : 1 ≤ (cnts es)[i].2 ∧ (cnts es)[i].2 ≤ es.length := by
  have hm : (cnts es)[i] ∈ (keysS es).map fun x => (x, (es.count x : Int)) := by rw [cnts_keys]; exact List.getElem_mem h
  obtain ⟨x, hx, e⟩ := List.mem_map.1 hm
  rw [← e]
  unfold keysS at hx
  obtain ⟨k, hk, rfl⟩ := List.mem_map.1 hx
  rw [List.mem_filter, decide_eq_true_eq] at hk
  have := List.count_le_length (a := (k : Int)) (l := es)
  dsimp only
  omega
theorem cnts_asc {es : List Int} {i j : Nat} (hi : i < (cnts es).length) (hj : j < (cnts es).length) (hij : i < j) : (cnts es)[i].1 < (cnts es)[j].1 := by
  have hl : (cnts es).length = (keysS es).length := by rw [← cnts_keys, List.length_map]
  have hg : ∀ k (h : k < (cnts es).length), (cnts es)[k].1 = (keysS es)[k]'(by omega) := fun k h => by
    have e : (cnts es)[k]? = some ((keysS es)[k]'(by omega), (es.count ((keysS es)[k]'(by omega)) : Int)) := by
      rw [← cnts_keys, List.getElem?_map, List.getElem?_eq_getElem (by omega)]; rfl
    rw [List.getElem?_eq_getElem h] at e
    injection e with e
    rw [e]
  rw [hg i (by omega), hg j hj]
  exact List.pairwise_iff_getElem.1 (keysS_asc es) i j _ _ hij
theorem sumC_rng {es : List Int} (i : Nat) : 0 ≤ sumC ((cnts es).take i) ∧ sumC ((cnts es).take i) ≤ i * es.length := by
  induction i with
  | zero => simp [sumC]
  | succ i ih =>
    rcases Nat.lt_or_ge i (cnts es).length with h | h
    · rw [sumC_succ h]
      have := cnts_get h
      rw [show ((i + 1 : Nat) : Int) * (es.length : Int) = (i : Int) * es.length + es.length by rw [Int.natCast_add, Int.add_mul]; simp]
      omega
    · rw [List.take_of_length_le (by omega)]
      rw [List.take_of_length_le h] at ih
      refine ⟨ih.1, Int.le_trans ih.2 ?_⟩
      exact Int.mul_le_mul_of_nonneg_right (by omega) (by omega)
theorem ask_put {m : Md} (hm : mchk m = 0) {i : Int} (h0 : 0 ≤ i) (h1 : i ≤ 65535) : (askV m ⟨1, ⟨i, 0, 0⟩, 0, 0, 0⟩).2.e = if has m.l i then 14 else if m.l.length = 64 then 18 else 0 := by
  obtain ⟨g1, g2⟩ := mchk_ok hm
  have hc : (⟨i, 0, 0⟩ : Pt).chk = 0 := by
    unfold Pt.chk cpt
    first | (rw [if_pos (by omega)]) | (simp; omega)
  have hp : putV m.l ⟨i, 0, 0⟩ = if has m.l i then ([], 14) else if m.l.length = 64 then ([], 18) else (insP m.l ⟨i, 0, 0⟩, 0) := by
    unfold putV; rw [if_pos g2, if_pos hc]
  unfold askV
  rw [if_pos (by rfl), if_pos rfl]
  dsimp only
  rw [hp]
  cases has m.l i
  · by_cases h : m.l.length = 64
    · simp [h, rpE]
    · simp [h, rp0]
  · simp [rpE]
theorem err_put {m : Md} (hm : mchk m = 0) {i : Int} (h0 : 0 ≤ i) (h1 : i ≤ 65535) : errV m ⟨1, ⟨i, 0, 0⟩, 0, 0, 0⟩ = (if has m.l i then 14 else if m.l.length = 64 then 18 else 0, 0) := by
  unfold errV; rw [if_pos hm, ask_put hm h0 h1]
theorem free_ok {m : Md} (hm : mchk m = 0) : (m.l.length = 64 ∧ freeV m = (0, 18)) ∨ ∃ n : Nat, m.l.length ≠ 64 ∧ freeV m = ((n : Int), 0) ∧ n ≤ m.l.length ∧ m.l.length ≤ 64 ∧ (∀ j : Nat, j < n → has m.l j = true) ∧ has m.l n = false := by
  obtain ⟨g1, g2⟩ := mchk_ok hm
  obtain ⟨k1, k2, k3⟩ := fchk_ok g2
  unfold freeV
  rw [if_pos hm]
  by_cases h : m.l.length = 64
  · exact .inl ⟨h, by rw [if_pos h]⟩
  · rw [if_neg h]
    obtain ⟨n, e, e1, e2, e3, e4⟩ := lstF_ok k3 (fun p hp => (Pt.chk_ok (k2 p hp)).1) m.l.length 0 rfl (Nat.zero_le _) (fun j _ h => absurd h (Nat.not_lt_zero _))
    have e : lstF m.l 0 = n := e
    exact .inr ⟨n, h, by rw [e], e2, k1, e3, e4⟩
def qfit (m : Md) (l : List Ak) : Bool := !great m.l && decide (l.length ≤ 20) && decide (mchk m = 0)
theorem qfit_ok {m : Md} {l : List Ak} (h : qfit m l = true) : l.length ≤ 20 ∧ mchk m = 0 := by
  unfold qfit at h
  simp only [Bool.and_eq_true, decide_eq_true_eq] at h
  exact ⟨h.1.2, h.2⟩
end Go.Proofs.Ytnjgfhgpicmklaa
