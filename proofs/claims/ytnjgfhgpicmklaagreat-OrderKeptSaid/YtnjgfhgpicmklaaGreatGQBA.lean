import Derived.Test.YtnjgfhgpicmklaaGreatGQAZ
set_option linter.all false
namespace Go.Proofs.YtnjgfhgpicmklaaGreat
open Go Go.RowKit Go.Sort Sx
theorem qformed_fn (a : Ak) : FnOK Tryz.prog 90 [a.dc] (.c (.one (bol (formV a)))) := by
  unfold formV
  refine fn_ok (by kernel_rfl) ty_ok Tryz.func90 rfl (fun _ _ => Tryz.call90 _ _) rfl ?_
  intro hw
  clear hw
  repeat' ((conv => whnf); first | (with_reducible first | refine br_t ?_ | refine br_f ?_ | refine za ?_ | refine zg ?_) | refine zp ?_ | refine zq ?_ | (with_reducible first | refine bc (fun h => ?_) (fun h => ?_) | refine zt ?_ | refine zf ?_ | refine br_i (fun h => ?_) (fun h => ?_) | refine xi (pv_bool fun _ => eqv62 _ _ _ _ _ _ _ _ _ _ _ _ _ _ _ _ _) ?_) | refine zg ?_ | refine zi ?_ | refine zb ?_)
  all_goals conv => whnf
  all_goals
    refine r_bool ?_
    rw [Bool.eq_iff_iff]
    simp only [Bool.and_eq_true, beq_iff_eq, decide_eq_true_eq, Bool.false_eq_true, true_and, and_true, false_iff]
    omega
theorem qthere1_fn (p : Pt) (id : Int) : FnOK Tryz.prog 126 [p.dc, .one (.ref [i64 id])] (.c (.one (bol (p.id == id)))) := by
  refine fn_ok (by kernel_rfl) ty_ok Tryz.func126 rfl (fun _ _ => Tryz.call126 _ _) rfl ?_
  intro hw
  clear hw
  repeat' ((conv => whnf); first | (with_reducible first | refine br_t ?_ | refine br_f ?_ | refine za ?_ | refine zg ?_) | refine ⟨_, ⟨rfl, Nat.le_of_ble_eq_true rfl⟩, ?_⟩ | refine zp ?_ | refine zq ?_ | (with_reducible first | refine bc (fun h => ?_) (fun h => ?_) | refine zt ?_ | refine zf ?_ | refine br_i (fun h => ?_) (fun h => ?_)) | refine zg ?_ | refine zi ?_ | refine zb ?_)
  all_goals conv => whnf
  all_goals rfl
theorem ixPt_fn (l : List Pt) (id : Int) (hl : l.length ≤ 1000000) : FnOK Tryz.prog 174 [.one (pts l), .one (.clo 126 [[i64 id]])] (ret1 (at1 l id 0)) := by
  refine fn_ok (by kernel_rfl) ty_ok Tryz.func174 rfl (fun _ _ => Tryz.call174 _ _) rfl ?_
  intro hw
  clear hw
  repeat' ((conv => whnf); first | (with_reducible first | refine br_t ?_ | refine br_f ?_ | refine za ?_ | refine zg ?_) | rw [List.length_map] | refine zp ?_ | refine zq ?_ | (with_reducible first | refine bc (fun h => ?_) (fun h => ?_) | refine zt ?_ | refine zf ?_ | refine br_i (fun h => ?_) (fun h => ?_)) | refine zg ?_ | refine zi ?_ | refine zb ?_)
  refine loop_J (by kernel_rfl) ty_ok (σ := Nat) (fun i => [(8, sV (.int .i64 i))]) (fun _ => []) (fun i => i ≤ l.length ∧ ∀ k (h : k < l.length), k < i → l[k].id ≠ id) (fun i => l.length - i) 0 ⟨by omega, fun k _ h => absurd h (Nat.not_lt_zero _)⟩ ?_ ?_
  · (conv => whnf); exact zent
  rintro i ⟨hi, hI⟩
  rcases Nat.lt_or_ge i l.length with hlt | hge
  · have hel := pts_get hlt
    have HC := qthere1_fn l[i] id
    by_cases hc : l[i].id = id
    · have e : at1 l id 0 = i := by rw [at1_drop rfl hi hI, List.drop_eq_getElem_cons hlt, at1, if_pos hc]
      rw [e]
      rw [show (l[i].id == id) = true by simp [hc]] at HC
      repeat' ((conv => whnf); first | (with_reducible first | refine br_t ?_ | refine br_f ?_ | refine za ?_ | refine zg ?_) | rw [List.length_map] | refine zp ?_ | refine zq ?_ | (with_reducible first | refine bc (fun h => ?_) (fun h => ?_) | refine zt ?_ | refine zf ?_ | refine br_i (fun h => ?_) (fun h => ?_)) | refine zg ?_ | refine zi ?_ | refine zb ?_)
      all_goals conv => whnf
      all_goals rfl
    · rw [show (l[i].id == id) = false by simp [hc]] at HC
      repeat' ((conv => whnf); first | (with_reducible first | refine br_t ?_ | refine br_f ?_ | refine za ?_ | refine zg ?_) | rw [List.length_map] | refine zp ?_ | refine zq ?_ | (with_reducible first | refine bc (fun h => ?_) (fun h => ?_) | refine zt ?_ | refine zf ?_ | refine br_i (fun h => ?_) (fun h => ?_)) | refine zg ?_ | refine zi ?_ | refine zb ?_)
      all_goals conv => whnf
      refine ⟨i + 1, ⟨by omega, fun k hk hki => ?_⟩, ?_, by omega⟩
      · rcases Nat.lt_or_ge k i with h1 | h1
        · exact hI k hk h1
        · have : k = i := by omega
          subst this; exact hc
      · (conv => whnf); exact zent
  · have e : at1 l id 0 = -1 := by rw [at1_drop rfl hi hI, List.drop_eq_nil_of_le hge, at1]
    rw [e]
    repeat' ((conv => whnf); first | (with_reducible first | refine br_t ?_ | refine br_f ?_ | refine za ?_ | refine zg ?_) | rw [List.length_map] | refine zp ?_ | refine zq ?_ | (with_reducible first | refine bc (fun h => ?_) (fun h => ?_) | refine zt ?_ | refine zf ?_ | refine br_i (fun h => ?_) (fun h => ?_)) | refine zg ?_ | refine zi ?_ | refine zb ?_)
    all_goals conv => whnf
    all_goals rfl
theorem ctPt_fn {l : List Pt} (id : Int) (hs : incr l = true) (hl : l.length ≤ 1000000) : FnOK Tryz.prog 125 [.one (pts l), .one (.clo 126 [[i64 id]])] (.c (.one (bol (has l id)))) := by
  have H := ixPt_fn l id hl
  rw [at1_has hs] at H
  cases hh : has l id
  · rw [hh, if_neg (by decide)] at H
    refine fn_ok (by kernel_rfl) ty_ok Tryz.func125 rfl (fun _ _ => Tryz.call125 _ _) rfl ?_
    intro hw
    clear hw
    exact zw
  · rw [hh, if_pos rfl] at H
    refine fn_ok (by kernel_rfl) ty_ok Tryz.func125 rfl (fun _ _ => Tryz.call125 _ _) rfl ?_
    intro hw
    clear hw
    exact zwb
theorem qthere_fn {l : List Pt} (id : Int) (hs : incr l = true) (hl : l.length ≤ 1000000) : FnOK Tryz.prog 92 [fld l, .one (i64 id)] (.c (.one (bol (has l id)))) := by
  have H := ctPt_fn id hs hl
  generalize has l id = h at *
  refine fn_ok (by kernel_rfl) ty_ok Tryz.func92 rfl (fun _ _ => Tryz.call92 _ _) rfl ?_
  intro hw
  clear hw
  repeat' ((conv => whnf); first | (with_reducible first | refine br_t ?_ | refine br_f ?_ | refine za ?_ | refine zg ?_) | refine zb ?_ | refine zp ?_ | refine zq ?_ | (with_reducible first | refine bc (fun h => ?_) (fun h => ?_) | refine zt ?_ | refine zf ?_ | refine br_i (fun h => ?_) (fun h => ?_)) | refine zg ?_ | refine zi ?_ | refine zb ?_)
  all_goals conv => whnf
  all_goals rfl
def lateV (n d r t : Int) : Int := if askd r t = 0 then (if r * d ≤ n * t then 44 else 0) else askd r t
theorem qlate_fn {n d : Int} (hn : askd n d = 0) (r t : Int) : FnOK Tryz.prog 91 [rat n d, rat r t] (ret1 (lateV n d r t)) := by
  have H1 := asked_fn r t
  unfold lateV
  by_cases h1 : askd r t = 0
  · rw [if_pos h1]
    rw [h1] at H1
    have H2 := cmp_chk (askd_chk h1) (askd_chk hn)
    by_cases h2 : r * d ≤ n * t
    · rw [if_pos h2]
      have h3 : cmpN (r * d) (n * t) ≤ 0 := by unfold cmpN; (repeat' split) <;> omega
      generalize cmpN (r * d) (n * t) = z at *
      refine fn_ok (by kernel_rfl) ty_ok Tryz.func91 rfl (fun _ _ => Tryz.call91 _ _) rfl ?_
      intro hw
      clear hw
      exact zw
    · rw [if_neg h2]
      have h3 : ¬ cmpN (r * d) (n * t) ≤ 0 := by unfold cmpN; (repeat' split) <;> omega
      generalize cmpN (r * d) (n * t) = z at *
      refine fn_ok (by kernel_rfl) ty_ok Tryz.func91 rfl (fun _ _ => Tryz.call91 _ _) rfl ?_
      intro hw
      clear hw
      exact zw
  · rw [if_neg h1]
    generalize askd r t = z at *
    refine fn_ok (by kernel_rfl) ty_ok Tryz.func91 rfl (fun _ _ => Tryz.call91 _ _) rfl ?_
    intro hw
    clear hw
    exact zw
theorem qwrong_fn {m : Md} (hm : mchk m = 0) (a : Ak) : FnOK Tryz.prog 58 [m.dc, a.dc] (ret1 (askV m a).2.e) := by
  obtain ⟨g1, g2⟩ := mchk_ok hm
  obtain ⟨k1, k2, k3⟩ := fchk_ok g2
  have hlen : (m.l.map Pt.c).length = m.l.length := List.length_map ..
  have H0 := qformed_fn a
  have hk : formV a = true → a.k = 1 ∨ a.k = 2 ∨ a.k = 3 ∨ a.k = 4 ∨ a.k = 5 ∨ a.k = 6 := fun h => by
    unfold formV at h
    have := of_decide_eq_true h
    omega
  unfold askV
  cases hf : formV a
  · rw [hf] at H0
    rw [if_neg (by decide)]
    refine fn_ok (by kernel_rfl) ty_ok Tryz.func58 rfl (fun _ _ => Tryz.call58 _ _) rfl ?_
    intro hw
    clear hw
    exact zw
  · rw [hf] at H0
    rw [if_pos rfl]
    rcases hk hf with h | h | h | h | h | h
    · rw [if_pos h]
      have H1 := kCheck_fn a.p.id a.p.a a.p.b
      have H2 := qthere_fn a.p.id k3 (by omega)
      by_cases h2 : a.p.chk = 0
      · have h2' := h2
        unfold Pt.chk at h2'
        rw [h2'] at H1
        cases hh : has m.l a.p.id
        · rw [hh] at H2
          by_cases h64 : m.l.length = 64
          · have e : putV m.l a.p = ([], 18) := by unfold putV; rw [if_pos g2, if_pos h2, if_neg (by rw [hh]; decide), if_pos h64]
            rw [e, if_neg (by decide)]
            refine fn_ok (by kernel_rfl) ty_ok Tryz.func58 rfl (fun _ _ => Tryz.call58 _ _) rfl ?_
            intro hw
            clear hw
            repeat' ((conv => whnf); first | (with_reducible first | refine br_t ?_ | refine br_f ?_ | refine za ?_ | refine zg ?_) | rw [hlen] | refine zp ?_ | refine zq ?_ | (with_reducible first | refine bc (fun h => ?_) (fun h => ?_) | refine zt ?_ | refine zf ?_ | refine br_i (fun h => ?_) (fun h => ?_)) | refine zg ?_ | refine zi ?_ | refine zb ?_)
            all_goals conv => whnf
            all_goals rfl
          · have e : putV m.l a.p = (insP m.l a.p, 0) := by unfold putV; rw [if_pos g2, if_pos h2, if_neg (by rw [hh]; decide), if_neg h64]
            rw [e, if_pos rfl]
            refine fn_ok (by kernel_rfl) ty_ok Tryz.func58 rfl (fun _ _ => Tryz.call58 _ _) rfl ?_
            intro hw
            clear hw
            repeat' ((conv => whnf); first | (with_reducible first | refine br_t ?_ | refine br_f ?_ | refine za ?_ | refine zg ?_) | rw [hlen] | refine zp ?_ | refine zq ?_ | (with_reducible first | refine bc (fun h => ?_) (fun h => ?_) | refine zt ?_ | refine zf ?_ | refine br_i (fun h => ?_) (fun h => ?_)) | refine zg ?_ | refine zi ?_ | refine zb ?_)
            all_goals conv => whnf
            all_goals rfl
        · rw [hh] at H2
          have e : putV m.l a.p = ([], 14) := by unfold putV; rw [if_pos g2, if_pos h2, if_pos hh]
          rw [e, if_neg (by decide)]
          refine fn_ok (by kernel_rfl) ty_ok Tryz.func58 rfl (fun _ _ => Tryz.call58 _ _) rfl ?_
          intro hw
          clear hw
          repeat' ((conv => whnf); first | (with_reducible first | refine br_t ?_ | refine br_f ?_ | refine za ?_ | refine zg ?_) | rw [hlen] | refine zp ?_ | refine zq ?_ | (with_reducible first | refine bc (fun h => ?_) (fun h => ?_) | refine zt ?_ | refine zf ?_ | refine br_i (fun h => ?_) (fun h => ?_)) | refine zg ?_ | refine zi ?_ | refine zb ?_)
          all_goals conv => whnf
          all_goals rfl
      · have e : putV m.l a.p = ([], 8) := by unfold putV; rw [if_pos g2, if_neg h2]
        rw [e, if_neg (by decide)]
        have h8 : cpt a.p.id a.p.a a.p.b = 8 := (cpt_08 _ _ _).resolve_left h2
        rw [h8] at H1
        clear H2
        refine fn_ok (by kernel_rfl) ty_ok Tryz.func58 rfl (fun _ _ => Tryz.call58 _ _) rfl ?_
        intro hw
        clear hw
        exact zw
    · rw [if_neg (by omega), if_pos h]
      have H2 := qthere_fn a.id k3 (by omega)
      cases hh : has m.l a.id
      · rw [hh] at H2
        have e : takeV m.l a.id = ([], 6) := by unfold takeV; rw [if_pos g2, if_neg (by rw [hh]; decide)]
        rw [e, if_neg (by decide)]
        refine fn_ok (by kernel_rfl) ty_ok Tryz.func58 rfl (fun _ _ => Tryz.call58 _ _) rfl ?_
        intro hw
        clear hw
        exact zw
      · rw [hh] at H2
        have e : takeV m.l a.id = (without m.l a.id, 0) := by unfold takeV; rw [if_pos g2, if_pos hh]
        rw [e, if_pos rfl]
        refine fn_ok (by kernel_rfl) ty_ok Tryz.func58 rfl (fun _ _ => Tryz.call58 _ _) rfl ?_
        intro hw
        clear hw
        exact zw
    · rw [if_neg (by omega), if_neg (by omega), if_pos h]
      have H1 := kCheck_fn a.p.id a.p.a a.p.b
      have H2 := qthere_fn a.p.id k3 (by omega)
      by_cases h2 : a.p.chk = 0
      · have h2' := h2
        unfold Pt.chk at h2'
        rw [h2'] at H1
        cases hh : has m.l a.p.id
        · rw [hh] at H2
          have e : changeV m.l a.p = ([], 6) := by unfold changeV; rw [if_pos g2, if_pos h2, if_neg (by rw [hh]; decide)]
          rw [e, if_neg (by decide)]
          refine fn_ok (by kernel_rfl) ty_ok Tryz.func58 rfl (fun _ _ => Tryz.call58 _ _) rfl ?_
          intro hw
          clear hw
          repeat' ((conv => whnf); first | (with_reducible first | refine br_t ?_ | refine br_f ?_ | refine za ?_ | refine zg ?_) | rw [hlen] | refine zp ?_ | refine zq ?_ | (with_reducible first | refine bc (fun h => ?_) (fun h => ?_) | refine zt ?_ | refine zf ?_ | refine br_i (fun h => ?_) (fun h => ?_)) | refine zg ?_ | refine zi ?_ | refine zb ?_)
          all_goals conv => whnf
          all_goals rfl
        · rw [hh] at H2
          have e : changeV m.l a.p = (m.l.set (pos m.l a.p.id) a.p, 0) := by unfold changeV; rw [if_pos g2, if_pos h2, if_pos hh]
          rw [e, if_pos rfl]
          refine fn_ok (by kernel_rfl) ty_ok Tryz.func58 rfl (fun _ _ => Tryz.call58 _ _) rfl ?_
          intro hw
          clear hw
          repeat' ((conv => whnf); first | (with_reducible first | refine br_t ?_ | refine br_f ?_ | refine za ?_ | refine zg ?_) | rw [hlen] | refine zp ?_ | refine zq ?_ | (with_reducible first | refine bc (fun h => ?_) (fun h => ?_) | refine zt ?_ | refine zf ?_ | refine br_i (fun h => ?_) (fun h => ?_)) | refine zg ?_ | refine zi ?_ | refine zb ?_)
          all_goals conv => whnf
          all_goals rfl
      · have e : changeV m.l a.p = ([], 8) := by unfold changeV; rw [if_pos g2, if_neg h2]
        rw [e, if_neg (by decide)]
        have h8 : cpt a.p.id a.p.a a.p.b = 8 := (cpt_08 _ _ _).resolve_left h2
        rw [h8] at H1
        clear H2
        refine fn_ok (by kernel_rfl) ty_ok Tryz.func58 rfl (fun _ _ => Tryz.call58 _ _) rfl ?_
        intro hw
        clear hw
        exact zw
    · rw [if_neg (by omega), if_neg (by omega), if_neg (by omega), if_pos h]
      have H1 := qlate_fn g1 a.n a.d
      have e : (if askd a.n a.d = 0 then (if a.n * m.d ≤ m.n * a.d then (m, rpE 44) else (⟨a.n, a.d, m.l⟩, ⟨0, 0, 0, 0, 0, btw (allM m.l) m.n m.d a.n a.d⟩)) else (m, rpE (askd a.n a.d)) : Md × Rp).2.e = lateV m.n m.d a.n a.d := by
        unfold lateV
        split
        · split <;> rfl
        · rfl
      rw [e]
      generalize lateV m.n m.d a.n a.d = z at *
      refine fn_ok (by kernel_rfl) ty_ok Tryz.func58 rfl (fun _ _ => Tryz.call58 _ _) rfl ?_
      intro hw
      clear hw
      exact zw
    · rw [if_neg (by omega), if_neg (by omega), if_neg (by omega), if_neg (by omega), if_pos h]
      by_cases h1 : m.l.length = 0
      · rw [if_pos h1]
        refine fn_ok (by kernel_rfl) ty_ok Tryz.func58 rfl (fun _ _ => Tryz.call58 _ _) rfl ?_
        intro hw
        clear hw
        repeat' ((conv => whnf); first | (with_reducible first | refine br_t ?_ | refine br_f ?_ | refine za ?_ | refine zg ?_) | rw [hlen] | refine zp ?_ | refine zq ?_ | (with_reducible first | refine bc (fun h => ?_) (fun h => ?_) | refine zt ?_ | refine zf ?_ | refine br_i (fun h => ?_) (fun h => ?_)) | refine zg ?_ | refine zi ?_ | refine zb ?_)
        all_goals conv => whnf
        all_goals rfl
      · rw [if_neg h1]
        refine fn_ok (by kernel_rfl) ty_ok Tryz.func58 rfl (fun _ _ => Tryz.call58 _ _) rfl ?_
        intro hw
        clear hw
        repeat' ((conv => whnf); first | (with_reducible first | refine br_t ?_ | refine br_f ?_ | refine za ?_ | refine zg ?_) | rw [hlen] | refine zp ?_ | refine zq ?_ | (with_reducible first | refine bc (fun h => ?_) (fun h => ?_) | refine zt ?_ | refine zf ?_ | refine br_i (fun h => ?_) (fun h => ?_)) | refine zg ?_ | refine zi ?_ | refine zb ?_)
        all_goals conv => whnf
        all_goals rfl
    · rw [if_neg (by omega), if_neg (by omega), if_neg (by omega), if_neg (by omega), if_neg (by omega)]
      unfold closV
      rw [if_pos g2, if_pos g1]
      by_cases h1 : m.l.length < 2
      · rw [if_pos h1]
        refine fn_ok (by kernel_rfl) ty_ok Tryz.func58 rfl (fun _ _ => Tryz.call58 _ _) rfl ?_
        intro hw
        clear hw
        repeat' ((conv => whnf); first | (with_reducible first | refine br_t ?_ | refine br_f ?_ | refine za ?_ | refine zg ?_) | rw [hlen] | refine zp ?_ | refine zq ?_ | (with_reducible first | refine bc (fun h => ?_) (fun h => ?_) | refine zt ?_ | refine zf ?_ | refine br_i (fun h => ?_) (fun h => ?_)) | refine zg ?_ | refine zi ?_ | refine zb ?_)
        all_goals conv => whnf
        all_goals rfl
      · rw [if_neg h1]
        refine fn_ok (by kernel_rfl) ty_ok Tryz.func58 rfl (fun _ _ => Tryz.call58 _ _) rfl ?_
        intro hw
        clear hw
        repeat' ((conv => whnf); first | (with_reducible first | refine br_t ?_ | refine br_f ?_ | refine za ?_ | refine zg ?_) | rw [hlen] | refine zp ?_ | refine zq ?_ | (with_reducible first | refine bc (fun h => ?_) (fun h => ?_) | refine zt ?_ | refine zf ?_ | refine br_i (fun h => ?_) (fun h => ?_)) | refine zg ?_ | refine zi ?_ | refine zb ?_)
        all_goals conv => whnf
        all_goals rfl
theorem qthen_fn {m : Md} (hm : mchk m = 0) {a : Ak} (h : (askV m a).2.e = 0) : FnOK Tryz.prog 59 [m.dc, a.dc] (.tup [(askV m a).1.dc, .one (i64 0)]) := by
  obtain ⟨g1, g2⟩ := mchk_ok hm
  have hk : formV a = true → a.k = 1 ∨ a.k = 2 ∨ a.k = 3 ∨ a.k = 4 ∨ a.k = 5 ∨ a.k = 6 := fun h => by
    unfold formV at h
    have := of_decide_eq_true h
    omega
  unfold askV at h ⊢
  by_cases hf : formV a = true
  · rw [if_pos hf] at h ⊢
    rcases hk hf with k | k | k | k | k | k
    · rw [if_pos k] at h ⊢
      have H := fPut_fn m.l a.p
      simp only [retFl] at H
      by_cases h0 : (putV m.l a.p).2 = 0
      · rw [if_pos h0]
        rw [h0] at H
        generalize (putV m.l a.p).1 = f at *
        refine fn_ok (by kernel_rfl) ty_ok Tryz.func59 rfl (fun _ _ => Tryz.call59 _ _) rfl ?_
        intro hw
        clear hw
        exact zw
      · rw [if_neg h0] at h; exact absurd h h0
    · rw [if_neg (by omega), if_pos k] at h ⊢
      have H := fTake_fn m.l a.id
      simp only [retFl] at H
      by_cases h0 : (takeV m.l a.id).2 = 0
      · rw [if_pos h0]
        rw [h0] at H
        generalize (takeV m.l a.id).1 = f at *
        refine fn_ok (by kernel_rfl) ty_ok Tryz.func59 rfl (fun _ _ => Tryz.call59 _ _) rfl ?_
        intro hw
        clear hw
        exact zw
      · rw [if_neg h0] at h; exact absurd h h0
    · rw [if_neg (by omega), if_neg (by omega), if_pos k] at h ⊢
      have H := fChange_fn m.l a.p
      simp only [retFl] at H
      by_cases h0 : (changeV m.l a.p).2 = 0
      · rw [if_pos h0]
        rw [h0] at H
        generalize (changeV m.l a.p).1 = f at *
        refine fn_ok (by kernel_rfl) ty_ok Tryz.func59 rfl (fun _ _ => Tryz.call59 _ _) rfl ?_
        intro hw
        clear hw
        exact zw
      · rw [if_neg h0] at h; exact absurd h h0
    · rw [if_neg (by omega), if_neg (by omega), if_neg (by omega), if_pos k] at h ⊢
      by_cases h1 : askd a.n a.d = 0
      · rw [if_pos h1] at h ⊢
        by_cases h2 : a.n * m.d ≤ m.n * a.d
        · rw [if_pos h2] at h; simp [rpE] at h
        · rw [if_neg h2]
          refine fn_ok (by kernel_rfl) ty_ok Tryz.func59 rfl (fun _ _ => Tryz.call59 _ _) rfl ?_
          intro hw
          clear hw
          exact zw
      · rw [if_neg h1] at h; exact absurd h h1
    · rw [if_neg (by omega), if_neg (by omega), if_neg (by omega), if_neg (by omega), if_pos k] at h ⊢
      by_cases h1 : m.l.length = 0
      · rw [if_pos h1] at h; simp [rpE] at h
      · rw [if_neg h1]
        refine fn_ok (by kernel_rfl) ty_ok Tryz.func59 rfl (fun _ _ => Tryz.call59 _ _) rfl ?_
        intro hw
        clear hw
        exact zw
    · rw [if_neg (by omega), if_neg (by omega), if_neg (by omega), if_neg (by omega), if_neg (by omega)]
      refine fn_ok (by kernel_rfl) ty_ok Tryz.func59 rfl (fun _ _ => Tryz.call59 _ _) rfl ?_
      intro hw
      clear hw
      exact zw
  · rw [if_neg hf] at h; simp [rpE] at h
theorem qError_fn (m : Md) (a : Ak) : FnOK Tryz.prog 31 [m.dc, a.dc] (ret2 (errV m a)) := by
  have H := oCheck_fn m
  unfold errV
  by_cases h : mchk m = 0
  · rw [if_pos h]
    rw [h] at H
    have H1 := qwrong_fn h a
    generalize (askV m a).2.e = z at *
    refine fn_ok (by kernel_rfl) ty_ok Tryz.func31 rfl (fun _ _ => Tryz.call31 _ _) rfl ?_
    intro hw
    clear hw
    exact zw
  · rw [if_neg h]
    have h8 := (mchk_08 m).resolve_left h
    rw [h8] at H
    refine fn_ok (by kernel_rfl) ty_ok Tryz.func31 rfl (fun _ _ => Tryz.call31 _ _) rfl ?_
    intro hw
    clear hw
    exact zw
end Go.Proofs.YtnjgfhgpicmklaaGreat

namespace Go.Proofs.YtnjgfhgpicmklaaGreat
open Go Go.RowKit Go.Sort Sx
abbrev retI (x : List Int × Int) : DV := .tup [.one (ints x.1), .one (i64 x.2)]
abbrev retK (x : List Ak × Int) : DV := .tup [.one (aks x.1), .one (i64 x.2)]
theorem errs_succ {m : Md} {l : List Ak} {i : Nat} (h : i < l.length) : errsV m (l.take (i + 1)) = errsV m (l.take i) ++ [(askV (runs m (l.take i)).1 l[i]).2.e] := by
  unfold errsV; rw [runs_succ h]; simp
theorem qErrors_fn (m : Md) (l : List Ak) : FnOK Tryz.prog 29 [m.dc, .one (aks l)] (retI (errorsV m l)) := by
  have H := oCheck_fn m
  unfold errorsV
  by_cases h : mchk m = 0
  · rw [if_pos h]
    rw [h] at H
    by_cases h1 : 120 < l.length
    · rw [if_pos h1]
      refine fn_ok (by kernel_rfl) (ty_okK [7, 33] [] [] []) Tryz.func29 rfl (fun _ _ => Tryz.call29 _ _) rfl ?_
      intro hw
      simp only [WDCs, WDC, WDs] at hw
      have w1 := wd_aks hw.2.1
      clear hw
      repeat' ((conv => whnf); first | (with_reducible first | refine br_t ?_ | refine br_f ?_ | refine za ?_ | refine zg ?_ | refine zo ?_) | rw [List.length_map] | refine zp ?_ | refine zq ?_ | (with_reducible first | refine bc (fun h => ?_) (fun h => ?_) | refine zt ?_ | refine zf ?_ | refine br_i (fun h => ?_) (fun h => ?_)) | refine zg ?_ | refine zi ?_ | refine zb ?_ | refine zl ?_)
      all_goals conv => whnf
      all_goals rfl
    · rw [if_neg h1]
      refine fn_ok (by kernel_rfl) (ty_okK [7, 33] [] [] []) Tryz.func29 rfl (fun _ _ => Tryz.call29 _ _) rfl ?_
      intro hw
      clear hw
      repeat' ((conv => whnf); first | (with_reducible first | refine br_t ?_ | refine br_f ?_ | refine za ?_ | refine zg ?_ | refine zo ?_) | rw [List.length_map] | refine zp ?_ | refine zq ?_ | (with_reducible first | refine bc (fun h => ?_) (fun h => ?_) | refine zt ?_ | refine zf ?_ | refine br_i (fun h => ?_) (fun h => ?_)) | refine zg ?_ | refine zi ?_ | refine zb ?_ | refine zl ?_)
      refine loop_J (by kernel_rfl) (ty_okK [7, 33] [] [] []) (σ := Nat × Md × List Int) (fun s => [(23, sV (.int .i64 s.1)), (7, .c (.at (.osl 7 0)))]) (fun s => [(2, .own [.d (i64 s.2.1.n), .d (i64 s.2.1.d), .d (pts s.2.1.l)]), (7, .row 1 (s.2.2.map fun i => [i64 i]) 0)]) (fun s => s.1 ≤ l.length ∧ mchk s.2.1 = 0 ∧ (runs m (l.take s.1)).1 = s.2.1 ∧ errsV m (l.take s.1) = s.2.2) (fun s => l.length - s.1) (0, m, []) ⟨by omega, h, rfl, rfl⟩ ?_ ?_
      · (conv => whnf); exact zent
      rintro ⟨i, u, o⟩ ⟨hi, hu, hI, hJ⟩
      dsimp only at hi hu hI hJ
      have hol : (o.map fun i => [i64 i]).length = o.length := List.length_map ..
      have hoi : o.length = (l.take i).length := by rw [← hJ, errs_len]
      rw [List.length_take] at hoi
      rcases Nat.lt_or_ge i l.length with hlt | hge
      · have hel := aks_get hlt
        have HA := qwrong_fn hu l[i]
        have hn := runs_succ (m := m) hlt
        have hn2 := errs_succ (m := m) hlt
        have hv := askV_ok hu l[i]
        rw [hI] at hn hn2
        rw [hJ] at hn2
        have hs : (o.map fun i => [i64 i]) ++ [[i64 (askV u l[i]).2.e]] = (o ++ [(askV u l[i]).2.e]).map fun i => [i64 i] := by rw [List.map_append]; rfl
        by_cases he : (askV u l[i]).2.e = 0
        · have HT := qthen_fn hu he
          generalize askV u l[i] = x at *
          obtain ⟨y, r⟩ := x
          dsimp only at hn hn2 hv HA HT hs he
          generalize l[i] = a at *
          rw [he] at HA hs hn2
          repeat' ((conv => whnf); first | (with_reducible first | refine br_t ?_ | refine br_f ?_ | refine za ?_ | refine zg ?_ | refine zo ?_) | rw [hol] | rw [List.length_map] | refine zp ?_ | refine zq ?_ | (with_reducible first | refine bc (fun h => ?_) (fun h => ?_) | refine zt ?_ | refine zf ?_ | refine br_i (fun h => ?_) (fun h => ?_)) | refine zg ?_ | refine zi ?_ | refine zb ?_ | refine zl ?_)
          all_goals conv => whnf
          refine ⟨(i + 1, y, o ++ [0]), ⟨by omega, hv, congrArg Prod.fst hn, hn2⟩, ?_, by simp only; omega⟩
          (conv => whnf); refine ⟨by repeat' (first | with_reducible exact zE0 | with_reducible refine zE1 ?_ ?_ | rfl | assumption | ((exact congrArg (fun x => some (Blk.row 1 x 0)) hs)) | exact zi1 | exact zb1), by repeat' (first | with_reducible exact zH0 | with_reducible refine zH1 ?_ ?_ | rfl | assumption | ((exact congrArg (fun x => some (Blk.row 1 x 0)) hs))), rfl⟩
        · have hq := askV_err he
          generalize askV u l[i] = x at *
          obtain ⟨y, r⟩ := x
          dsimp only at hn hn2 hv HA hs he hq
          generalize l[i] = a at *
          subst hq
          generalize r.e = z at *
          repeat' ((conv => whnf); first | (with_reducible first | refine br_t ?_ | refine br_f ?_ | refine za ?_ | refine zg ?_ | refine zo ?_) | rw [hol] | rw [List.length_map] | refine zp ?_ | refine zq ?_ | (with_reducible first | refine bc (fun h => ?_) (fun h => ?_) | refine zt ?_ | refine zf ?_ | refine br_i (fun h => ?_) (fun h => ?_)) | refine zg ?_ | refine zi ?_ | refine zb ?_ | refine zl ?_)
          all_goals conv => whnf
          refine ⟨(i + 1, y, o ++ [z]), ⟨by omega, hv, congrArg Prod.fst hn, hn2⟩, ?_, by simp only; omega⟩
          (conv => whnf); refine ⟨by repeat' (first | with_reducible exact zE0 | with_reducible refine zE1 ?_ ?_ | rfl | assumption | ((exact congrArg (fun x => some (Blk.row 1 x 0)) hs)) | exact zi1 | exact zb1), by repeat' (first | with_reducible exact zH0 | with_reducible refine zH1 ?_ ?_ | rfl | assumption | ((exact congrArg (fun x => some (Blk.row 1 x 0)) hs))), rfl⟩
      · obtain rfl : i = l.length := by omega
        rw [List.take_of_length_le (Nat.le_refl _)] at hI hJ
        rw [hJ]
        repeat' ((conv => whnf); first | (with_reducible first | refine br_t ?_ | refine br_f ?_ | refine za ?_ | refine zg ?_ | refine zo ?_) | rw [hol] | rw [List.length_map] | refine zp ?_ | refine zq ?_ | (with_reducible first | refine bc (fun h => ?_) (fun h => ?_) | refine zt ?_ | refine zf ?_ | refine br_i (fun h => ?_) (fun h => ?_)) | refine zg ?_ | refine zi ?_ | refine zb ?_ | refine zl ?_)
        all_goals conv => whnf
        all_goals rfl
  · rw [if_neg h]
    have h8 := (mchk_08 m).resolve_left h
    rw [h8] at H
    refine fn_ok (by kernel_rfl) (ty_okK [7, 33] [] [] []) Tryz.func29 rfl (fun _ _ => Tryz.call29 _ _) rfl ?_
    intro hw
    clear hw
    exact zw
theorem qFirst1_fn (e : Int) : FnOK Tryz.prog 61 [.one (i64 e)] (.c (.one (bol (e != 0)))) := by
  refine fn_ok (by kernel_rfl) ty_ok Tryz.func61 rfl (fun _ _ => Tryz.call61 _ _) rfl ?_
  intro hw
  clear hw
  exact zw
def ix0 (l : List Int) : Int := match fst0 l with | none => -1 | some i => i
theorem ixEr_fn (l : List Int) (hl : l.length ≤ 1000000) : FnOK Tryz.prog 60 [.one (ints l), .one (.clo 61 [])] (ret1 (ix0 l)) := by
  have hll : (l.map fun i => [i64 i]).length = l.length := List.length_map ..
  refine fn_ok (by kernel_rfl) ty_ok Tryz.func60 rfl (fun _ _ => Tryz.call60 _ _) rfl ?_
  intro hw
  clear hw
  repeat' ((conv => whnf); first | (with_reducible first | refine br_t ?_ | refine br_f ?_ | refine za ?_ | refine zg ?_) | rw [hll] | refine zp ?_ | refine zq ?_ | (with_reducible first | refine bc (fun h => ?_) (fun h => ?_) | refine zt ?_ | refine zf ?_ | refine br_i (fun h => ?_) (fun h => ?_)) | refine zg ?_ | refine zi ?_ | refine zb ?_)
  refine loop_J (by kernel_rfl) ty_ok (σ := Nat) (fun i => [(8, sV (.int .i64 i))]) (fun _ => []) (fun i => i ≤ l.length ∧ ∀ k (h : k < l.length), k < i → l[k] = 0) (fun i => l.length - i) 0 ⟨by omega, fun k _ h => absurd h (Nat.not_lt_zero _)⟩ ?_ ?_
  · (conv => whnf); exact zent
  rintro i ⟨hi, hI⟩
  rcases Nat.lt_or_ge i l.length with hlt | hge
  · have hel := ints_get hlt
    have HC := qFirst1_fn l[i]
    by_cases hc : l[i] = 0
    · rw [show (l[i] != 0) = false by simp [hc]] at HC
      have hn : ∀ k (h : k < l.length), k < i + 1 → l[k] = 0 := fun k hk hki => by
        rcases Nat.lt_or_ge k i with h1 | h1
        · exact hI k hk h1
        · have : k = i := by omega
          subst this; exact hc
      generalize l[i] = e at *
      repeat' ((conv => whnf); first | (with_reducible first | refine br_t ?_ | refine br_f ?_ | refine za ?_ | refine zg ?_) | rw [hll] | refine zp ?_ | refine zq ?_ | (with_reducible first | refine bc (fun h => ?_) (fun h => ?_) | refine zt ?_ | refine zf ?_ | refine br_i (fun h => ?_) (fun h => ?_)) | refine zg ?_ | refine zi ?_ | refine zb ?_)
      all_goals conv => whnf
      refine ⟨i + 1, ⟨by omega, hn⟩, ?_, by omega⟩
      (conv => whnf); exact zent
    · have e : ix0 l = i := by unfold ix0; rw [fst0_some.2 ⟨hlt, hc, hI⟩]
      rw [e]
      rw [show (l[i] != 0) = true by simp [hc]] at HC
      clear hI
      generalize l[i] = e at *
      repeat' ((conv => whnf); first | (with_reducible first | refine br_t ?_ | refine br_f ?_ | refine za ?_ | refine zg ?_) | rw [hll] | refine zp ?_ | refine zq ?_ | (with_reducible first | refine bc (fun h => ?_) (fun h => ?_) | refine zt ?_ | refine zf ?_ | refine br_i (fun h => ?_) (fun h => ?_)) | refine zg ?_ | refine zi ?_ | refine zb ?_)
      all_goals conv => whnf
      all_goals rfl
  · have e : ix0 l = -1 := by
      unfold ix0
      rw [fst0_none.2 fun e he => by
        obtain ⟨k, hk, rfl⟩ := List.getElem_of_mem he
        exact hI k hk (by omega)]
    rw [e]
    repeat' ((conv => whnf); first | (with_reducible first | refine br_t ?_ | refine br_f ?_ | refine za ?_ | refine zg ?_) | rw [hll] | refine zp ?_ | refine zq ?_ | (with_reducible first | refine bc (fun h => ?_) (fun h => ?_) | refine zt ?_ | refine zf ?_ | refine br_i (fun h => ?_) (fun h => ?_)) | refine zg ?_ | refine zi ?_ | refine zb ?_)
    all_goals conv => whnf
    all_goals rfl
theorem qFirst_fn (m : Md) (l : List Ak) : FnOK Tryz.prog 30 [m.dc, .one (aks l)] (ret2 (ofirstV m l)) := by
  have H := qErrors_fn m l
  unfold ofirstV
  unfold errorsV at H
  by_cases h : mchk m = 0
  · rw [if_pos h] at H ⊢
    by_cases h1 : 120 < l.length
    · rw [if_pos h1] at H ⊢
      simp only [retI] at H
      refine fn_ok (by kernel_rfl) ty_ok Tryz.func30 rfl (fun _ _ => Tryz.call30 _ _) rfl ?_
      intro hw
      clear hw
      exact zw
    · rw [if_neg h1] at H ⊢
      simp only [retI] at H
      have HI := ixEr_fn (errsV m l) (by rw [errs_len]; omega)
      unfold firstE
      unfold ix0 at HI
      cases hf : fst0 (errsV m l) with
      | none =>
        rw [hf] at HI
        simp only at HI
        generalize errsV m l = es at *
        refine fn_ok (by kernel_rfl) ty_ok Tryz.func30 rfl (fun _ _ => Tryz.call30 _ _) rfl ?_
        intro hw
        clear hw
        exact zw
      | some i =>
        rw [hf] at HI
        simp only at HI
        generalize errsV m l = es at *
        refine fn_ok (by kernel_rfl) ty_ok Tryz.func30 rfl (fun _ _ => Tryz.call30 _ _) rfl ?_
        intro hw
        clear hw
        exact zw
  · rw [if_neg h] at H ⊢
    simp only [retI] at H
    refine fn_ok (by kernel_rfl) ty_ok Tryz.func30 rfl (fun _ _ => Tryz.call30 _ _) rfl ?_
    intro hw
    clear hw
    exact zw
theorem qKept_fn (m : Md) (l : List Ak) : FnOK Tryz.prog 25 [m.dc, .one (aks l)] (retK (keptV m l)) := by
  have H := qErrors_fn m l
  unfold keptV
  unfold errorsV at H
  have hal : (l.map Ak.c).length = l.length := List.length_map ..
  by_cases h : mchk m = 0
  · rw [if_pos h] at H ⊢
    by_cases h1 : 120 < l.length
    · rw [if_pos h1] at H ⊢
      simp only [retI] at H
      refine fn_ok (by kernel_rfl) (ty_okK [8, 35] [] [] []) Tryz.func25 rfl (fun _ _ => Tryz.call25 _ _) rfl ?_
      intro hw
      clear hw
      exact zw
    · rw [if_neg h1] at H ⊢
      simp only [retI] at H
      have hE := errs_len m l
      have hX := keepE_kept m l
      generalize kept m l = X at *
      generalize errsV m l = es at *
      have hel : (es.map fun i => [i64 i]).length = es.length := List.length_map ..
      refine fn_ok (by kernel_rfl) (ty_okK [8, 35] [] [] []) Tryz.func25 rfl (fun _ _ => Tryz.call25 _ _) rfl ?_
      intro hw
      clear hw
      repeat' ((conv => whnf); first | (with_reducible first | refine br_t ?_ | refine br_f ?_ | refine za ?_ | refine zg ?_ | refine zo ?_) | rw [hal] | refine zp ?_ | refine zq ?_ | (with_reducible first | refine bc (fun h => ?_) (fun h => ?_) | refine zt ?_ | refine zf ?_ | refine br_i (fun h => ?_) (fun h => ?_)) | refine zg ?_ | refine zi ?_ | refine zb ?_ | refine zl ?_)
      refine loop_J (by kernel_rfl) (ty_okK [8, 35] [] [] []) (σ := Nat × List Ak) (fun s => [(22, sV (.int .i64 s.1)), (8, .c (.at (.osl 8 0)))]) (fun s => [(8, .row 7 (s.2.map Ak.c) 0)]) (fun s => s.1 ≤ l.length ∧ s.2.length ≤ s.1 ∧ s.2 ++ keepE (l.drop s.1) (es.drop s.1) = X) (fun s => l.length - s.1) (0, []) ⟨by omega, Nat.le_refl _, hX⟩ ?_ ?_
      · (conv => whnf); exact zent
      rintro ⟨i, o⟩ ⟨hi, hb, hI⟩
      dsimp only at hi hb hI
      have hol : (o.map Ak.c).length = o.length := List.length_map ..
      rcases Nat.lt_or_ge i l.length with hlt | hge
      · have h2 : i < es.length := by omega
        have g1 := aks_get hlt
        have g2 := ints_get h2
        rw [keepE_lt hlt h2, ← List.append_assoc] at hI
        by_cases hc : es[i] = 0
        · rw [if_pos hc] at hI
          rw [hc] at g2
          have hs : o.map Ak.c ++ [l[i].c] = (o ++ [l[i]]).map Ak.c := by rw [List.map_append]; rfl
          clear hc
          repeat' ((conv => whnf); first | (with_reducible first | refine br_t ?_ | refine br_f ?_ | refine za ?_ | refine zg ?_ | refine zo ?_) | rw [hol] | rw [hal] | rw [hel] | refine zp ?_ | refine zq ?_ | (with_reducible first | refine bc (fun h => ?_) (fun h => ?_) | refine zt ?_ | refine zf ?_ | refine br_i (fun h => ?_) (fun h => ?_)) | refine zg ?_ | refine zi ?_ | refine zb ?_ | refine zl ?_)
          all_goals conv => whnf
          refine ⟨(i + 1, o ++ [l[i]]), ⟨by omega, by simp; omega, hI⟩, ?_, by simp only; omega⟩
          (conv => whnf); refine ⟨by repeat' (first | with_reducible exact zE0 | with_reducible refine zE1 ?_ ?_ | rfl | assumption | ((exact congrArg (fun x => some (Blk.row 7 x 0)) hs)) | exact zi1 | exact zb1), by repeat' (first | with_reducible exact zH0 | with_reducible refine zH1 ?_ ?_ | rfl | assumption | ((exact congrArg (fun x => some (Blk.row 7 x 0)) hs))), rfl⟩
        · rw [if_neg hc, List.append_nil] at hI
          generalize es[i] = z at *
          repeat' ((conv => whnf); first | (with_reducible first | refine br_t ?_ | refine br_f ?_ | refine za ?_ | refine zg ?_ | refine zo ?_) | rw [hol] | rw [hal] | rw [hel] | refine zp ?_ | refine zq ?_ | (with_reducible first | refine bc (fun h => ?_) (fun h => ?_) | refine zt ?_ | refine zf ?_ | refine br_i (fun h => ?_) (fun h => ?_)) | refine zg ?_ | refine zi ?_ | refine zb ?_ | refine zl ?_)
          all_goals conv => whnf
          refine ⟨(i + 1, o), ⟨by omega, by dsimp only; omega, hI⟩, ?_, by simp only; omega⟩
          (conv => whnf); exact zent
      · rw [keepE_ge hge, List.append_nil] at hI
        subst hI
        repeat' ((conv => whnf); first | (with_reducible first | refine br_t ?_ | refine br_f ?_ | refine za ?_ | refine zg ?_ | refine zo ?_) | rw [hol] | rw [hal] | refine zp ?_ | refine zq ?_ | (with_reducible first | refine bc (fun h => ?_) (fun h => ?_) | refine zt ?_ | refine zf ?_ | refine br_i (fun h => ?_) (fun h => ?_)) | refine zg ?_ | refine zi ?_ | refine zb ?_ | refine zl ?_)
        all_goals conv => whnf
        all_goals rfl
  · rw [if_neg h] at H ⊢
    simp only [retI] at H
    refine fn_ok (by kernel_rfl) (ty_okK [8, 35] [] [] []) Tryz.func25 rfl (fun _ _ => Tryz.call25 _ _) rfl ?_
    intro hw
    clear hw
    exact zw
theorem qFree_fn (m : Md) : FnOK Tryz.prog 8 [m.dc] (ret2 (freeV m)) := by
  have H := oCheck_fn m
  have hlen : (m.l.map Pt.c).length = m.l.length := List.length_map ..
  unfold freeV
  by_cases h : mchk m = 0
  · rw [if_pos h]
    rw [h] at H
    obtain ⟨g1, g2⟩ := mchk_ok h
    obtain ⟨k1, k2, k3⟩ := fchk_ok g2
    by_cases h1 : m.l.length = 64
    · rw [if_pos h1]
      refine fn_ok (by kernel_rfl) ty_ok Tryz.func8 rfl (fun _ _ => Tryz.call8 _ _) rfl ?_
      intro hw
      clear hw
      repeat' ((conv => whnf); first | (with_reducible first | refine br_t ?_ | refine br_f ?_ | refine za ?_ | refine zg ?_) | rw [hlen] | refine zp ?_ | refine zq ?_ | (with_reducible first | refine bc (fun h => ?_) (fun h => ?_) | refine zt ?_ | refine zf ?_ | refine br_i (fun h => ?_) (fun h => ?_)) | refine zg ?_ | refine zi ?_ | refine zb ?_)
      all_goals conv => whnf
      all_goals rfl
    · rw [if_neg h1]
      refine fn_ok (by kernel_rfl) ty_ok Tryz.func8 rfl (fun _ _ => Tryz.call8 _ _) rfl ?_
      intro hw
      clear hw
      repeat' ((conv => whnf); first | (with_reducible first | refine br_t ?_ | refine br_f ?_ | refine za ?_ | refine zg ?_) | rw [hlen] | refine zp ?_ | refine zq ?_ | (with_reducible first | refine bc (fun h => ?_) (fun h => ?_) | refine zt ?_ | refine zf ?_ | refine br_i (fun h => ?_) (fun h => ?_)) | refine zg ?_ | refine zi ?_ | refine zb ?_)
      refine loop_J (by kernel_rfl) ty_ok (σ := Nat) (fun i => [(21, sV (.int .i64 i))]) (fun _ => []) (fun i => i ≤ m.l.length ∧ lstF (m.l.drop i) i = lstF m.l 0) (fun i => m.l.length - i) 0 ⟨by omega, rfl⟩ ?_ ?_
      · (conv => whnf); exact zent
      rintro i ⟨hi, hI⟩
      rcases Nat.lt_or_ge i m.l.length with hlt | hge
      · have hel := pts_get hlt
        rw [lstF_lt hlt] at hI
        by_cases hc : m.l[i].id = i
        · rw [if_pos hc] at hI
          repeat' ((conv => whnf); first | (with_reducible first | refine br_t ?_ | refine br_f ?_ | refine za ?_ | refine zg ?_) | rw [hlen] | refine zp ?_ | refine zq ?_ | (with_reducible first | refine bc (fun h => ?_) (fun h => ?_) | refine zt ?_ | refine zf ?_ | refine br_i (fun h => ?_) (fun h => ?_)) | refine zg ?_ | refine zi ?_ | refine zb ?_)
          all_goals conv => whnf
          refine ⟨i + 1, ⟨by omega, hI⟩, ?_, by omega⟩
          (conv => whnf); exact zent
        · rw [if_neg hc] at hI
          rw [← hI]
          repeat' ((conv => whnf); first | (with_reducible first | refine br_t ?_ | refine br_f ?_ | refine za ?_ | refine zg ?_) | rw [hlen] | refine zp ?_ | refine zq ?_ | (with_reducible first | refine bc (fun h => ?_) (fun h => ?_) | refine zt ?_ | refine zf ?_ | refine br_i (fun h => ?_) (fun h => ?_)) | refine zg ?_ | refine zi ?_ | refine zb ?_)
          all_goals conv => whnf
          all_goals rfl
      · rw [lstF_ge hge] at hI
        obtain rfl : i = m.l.length := by omega
        rw [← hI]
        repeat' ((conv => whnf); first | (with_reducible first | refine br_t ?_ | refine br_f ?_ | refine za ?_ | refine zg ?_) | rw [hlen] | refine zp ?_ | refine zq ?_ | (with_reducible first | refine bc (fun h => ?_) (fun h => ?_) | refine zt ?_ | refine zf ?_ | refine br_i (fun h => ?_) (fun h => ?_)) | refine zg ?_ | refine zi ?_ | refine zb ?_)
        all_goals conv => whnf
        all_goals exact r_int (by rw [hlen])
  · rw [if_neg h]
    have h8 := (mchk_08 m).resolve_left h
    rw [h8] at H
    refine fn_ok (by kernel_rfl) ty_ok Tryz.func8 rfl (fun _ _ => Tryz.call8 _ _) rfl ?_
    intro hw
    clear hw
    exact zw
end Go.Proofs.YtnjgfhgpicmklaaGreat

namespace Go.Proofs.YtnjgfhgpicmklaaGreat
open Go Go.RowKit Go.Sort Sx
def askedV (m : Md) (l : List Ak) : Int := if mchk m = 0 then (if 120 < l.length then 4 else 0) else 8
theorem rqasked_fn (m : Md) (l : List Ak) : FnOK Tryz.prog 38 [m.dc, .one (aks l)] (ret1 (askedV m l)) := by
  have H := roCheck_fn m
  have hal : (l.map Ak.c).length = l.length := List.length_map ..
  unfold askedV
  by_cases h : mchk m = 0
  · rw [if_pos h]
    rw [h] at H
    by_cases h1 : 120 < l.length
    · rw [if_pos h1]
      refine fn_ok (by kernel_rfl) ty_ok Tryz.func38 rfl (fun _ _ => Tryz.call38 _ _) rfl ?_
      intro hw
      simp only [WDCs, WDC, WDs] at hw
      have w1 := wd_aks hw.2.1
      clear hw
      repeat' ((conv => whnf); first | (with_reducible first | refine br_t ?_ | refine br_f ?_ | refine za ?_ | refine zg ?_) | rw [hal] | refine zp ?_ | refine zq ?_ | (with_reducible first | refine bc (fun h => ?_) (fun h => ?_) | refine zt ?_ | refine zf ?_ | refine br_i (fun h => ?_) (fun h => ?_)) | refine zg ?_ | refine zi ?_ | refine zb ?_)
      all_goals conv => whnf
      all_goals rfl
    · rw [if_neg h1]
      refine fn_ok (by kernel_rfl) ty_ok Tryz.func38 rfl (fun _ _ => Tryz.call38 _ _) rfl ?_
      intro hw
      clear hw
      repeat' ((conv => whnf); first | (with_reducible first | refine br_t ?_ | refine br_f ?_ | refine za ?_ | refine zg ?_) | rw [hal] | refine zp ?_ | refine zq ?_ | (with_reducible first | refine bc (fun h => ?_) (fun h => ?_) | refine zt ?_ | refine zf ?_ | refine br_i (fun h => ?_) (fun h => ?_)) | refine zg ?_ | refine zi ?_ | refine zb ?_)
      all_goals conv => whnf
      all_goals rfl
  · rw [if_neg h]
    have h8 := (mchk_08 m).resolve_left h
    rw [h8] at H
    refine fn_ok (by kernel_rfl) ty_ok Tryz.func38 rfl (fun _ _ => Tryz.call38 _ _) rfl ?_
    intro hw
    clear hw
    exact zw
theorem rqerrors_fn {m : Md} (h : mchk m = 0) (l : List Ak) (h1 : l.length ≤ 1000) : FnOK Tryz.prog 39 [m.dc, .one (aks l)] (.c (.one (ints (errsV m l)))) := by
  have hal : (l.map Ak.c).length = l.length := List.length_map ..
  refine fn_ok (by kernel_rfl) (ty_okK [5, 29] [] [] []) Tryz.func39 rfl (fun _ _ => Tryz.call39 _ _) rfl ?_
  intro hw
  clear hw
  repeat' ((conv => whnf); first | (with_reducible first | refine br_t ?_ | refine br_f ?_ | refine za ?_ | refine zg ?_ | refine zo ?_) | rw [hal] | refine zp ?_ | refine zq ?_ | (with_reducible first | refine bc (fun h => ?_) (fun h => ?_) | refine zt ?_ | refine zf ?_ | refine br_i (fun h => ?_) (fun h => ?_)) | refine zg ?_ | refine zi ?_ | refine zb ?_ | refine zl ?_)
  refine loop_J (by kernel_rfl) (ty_okK [5, 29] [] [] []) (σ := Nat × Md × List Int) (fun s => [(6, sV (.int .i64 s.1)), (5, .c (.at (.osl 5 0)))]) (fun s => [(2, .own [.d (i64 s.2.1.n), .d (i64 s.2.1.d), .d (pts s.2.1.l)]), (5, .row 1 (s.2.2.map fun i => [i64 i]) 0)]) (fun s => s.1 ≤ l.length ∧ mchk s.2.1 = 0 ∧ (runs m (l.take s.1)).1 = s.2.1 ∧ errsV m (l.take s.1) = s.2.2) (fun s => l.length - s.1) (0, m, []) ⟨by omega, h, rfl, rfl⟩ ?_ ?_
  · (conv => whnf); exact zent
  rintro ⟨i, u, o⟩ ⟨hi, hu, hI, hJ⟩
  dsimp only at hi hu hI hJ
  have hol : (o.map fun i => [i64 i]).length = o.length := List.length_map ..
  have hoi : o.length = (l.take i).length := by rw [← hJ, errs_len]
  rw [List.length_take] at hoi
  rcases Nat.lt_or_ge i l.length with hlt | hge
  · have hel := aks_get hlt
    have HA := roDid_fn hu l[i]
    have hn := runs_succ (m := m) hlt
    have hn2 := errs_succ (m := m) hlt
    have hv := askV_ok hu l[i]
    rw [hI] at hn hn2
    rw [hJ] at hn2
    have hs : (o.map fun i => [i64 i]) ++ [[i64 (askV u l[i]).2.e]] = (o ++ [(askV u l[i]).2.e]).map fun i => [i64 i] := by rw [List.map_append]; rfl
    generalize askV u l[i] = x at *
    obtain ⟨y, r⟩ := x
    dsimp only at hn hn2 hv hs
    simp only [retA] at HA
    generalize l[i] = a at *
    repeat' ((conv => whnf); first | (with_reducible first | refine br_t ?_ | refine br_f ?_ | refine za ?_ | refine zg ?_ | refine zo ?_) | rw [hol] | rw [hal] | refine zp ?_ | refine zq ?_ | (with_reducible first | refine bc (fun h => ?_) (fun h => ?_) | refine zt ?_ | refine zf ?_ | refine br_i (fun h => ?_) (fun h => ?_)) | refine zg ?_ | refine zi ?_ | refine zb ?_ | refine zl ?_)
    all_goals conv => whnf
    refine ⟨(i + 1, y, o ++ [r.e]), ⟨by omega, hv, congrArg Prod.fst hn, hn2⟩, ?_, by simp only; omega⟩
    (conv => whnf); refine ⟨by repeat' (first | with_reducible exact zE0 | with_reducible refine zE1 ?_ ?_ | rfl | assumption | ((exact congrArg (fun x => some (Blk.row 1 x 0)) hs)) | exact zi1 | exact zb1), by repeat' (first | with_reducible exact zH0 | with_reducible refine zH1 ?_ ?_ | rfl | assumption | ((exact congrArg (fun x => some (Blk.row 1 x 0)) hs))), rfl⟩
  · obtain rfl : i = l.length := by omega
    rw [List.take_of_length_le (Nat.le_refl _)] at hI hJ
    rw [hJ]
    repeat' ((conv => whnf); first | (with_reducible first | refine br_t ?_ | refine br_f ?_ | refine za ?_ | refine zg ?_ | refine zo ?_) | rw [hol] | rw [hal] | refine zp ?_ | refine zq ?_ | (with_reducible first | refine bc (fun h => ?_) (fun h => ?_) | refine zt ?_ | refine zf ?_ | refine br_i (fun h => ?_) (fun h => ?_)) | refine zg ?_ | refine zi ?_ | refine zb ?_ | refine zl ?_)
    all_goals conv => whnf
    all_goals rfl
theorem rqFree_fn (m : Md) : FnOK Tryz.prog 9 [m.dc] (ret2 (freeV m)) := by
  have H := roCheck_fn m
  have hlen : (m.l.map Pt.c).length = m.l.length := List.length_map ..
  unfold freeV
  by_cases h : mchk m = 0
  · rw [if_pos h]
    rw [h] at H
    obtain ⟨g1, g2⟩ := mchk_ok h
    obtain ⟨k1, k2, k3⟩ := fchk_ok g2
    by_cases h1 : m.l.length = 64
    · rw [if_pos h1]
      refine fn_ok (by kernel_rfl) ty_ok Tryz.func9 rfl (fun _ _ => Tryz.call9 _ _) rfl ?_
      intro hw
      clear hw
      repeat' ((conv => whnf); first | (with_reducible first | refine br_t ?_ | refine br_f ?_ | refine za ?_ | refine zg ?_) | rw [hlen] | refine zp ?_ | refine zq ?_ | (with_reducible first | refine bc (fun h => ?_) (fun h => ?_) | refine zt ?_ | refine zf ?_ | refine br_i (fun h => ?_) (fun h => ?_)) | refine zg ?_ | refine zi ?_ | refine zb ?_)
      all_goals conv => whnf
      all_goals rfl
    · rw [if_neg h1]
      obtain ⟨n, e, e1, e2, e3, e4⟩ := lstF_ok k3 (fun p hp => (Pt.chk_ok (k2 p hp)).1) m.l.length 0 rfl (Nat.zero_le _) (fun j _ h => absurd h (Nat.not_lt_zero _))
      have e : lstF m.l 0 = n := e
      rw [e]
      refine fn_ok (by kernel_rfl) ty_ok Tryz.func9 rfl (fun _ _ => Tryz.call9 _ _) rfl ?_
      intro hw
      clear hw
      repeat' ((conv => whnf); first | (with_reducible first | refine br_t ?_ | refine br_f ?_ | refine za ?_ | refine zg ?_) | rw [hlen] | refine zp ?_ | refine zq ?_ | (with_reducible first | refine bc (fun h => ?_) (fun h => ?_) | refine zt ?_ | refine zf ?_ | refine br_i (fun h => ?_) (fun h => ?_)) | refine zg ?_ | refine zi ?_ | refine zb ?_)
      refine loop_J (by kernel_rfl) ty_ok (σ := Nat) (fun i => [(5, sV (.int .i64 i))]) (fun _ => []) (fun i => i ≤ n) (fun i => n - i) 0 (Nat.zero_le _) ?_ ?_
      · (conv => whnf); exact zent
      intro i hi
      have HA := rfAt_fn m.l i
      rw [at1_has k3] at HA
      rcases Nat.lt_or_ge i n with hlt | hge
      · rw [e3 i hlt, if_pos rfl] at HA
        repeat' ((conv => whnf); first | (with_reducible first | refine br_t ?_ | refine br_f ?_ | refine za ?_ | refine zg ?_) | rw [hlen] | refine zp ?_ | refine zq ?_ | (with_reducible first | refine bc (fun h => ?_) (fun h => ?_) | refine zt ?_ | refine zf ?_ | refine br_i (fun h => ?_) (fun h => ?_)) | refine zg ?_ | refine zi ?_ | refine zb ?_)
        all_goals conv => whnf
        refine ⟨i + 1, by omega, ?_, by omega⟩
        (conv => whnf); exact zent
      · obtain rfl : i = n := by omega
        rw [e4, if_neg (by decide)] at HA
        repeat' ((conv => whnf); first | (with_reducible first | refine br_t ?_ | refine br_f ?_ | refine za ?_ | refine zg ?_) | rw [hlen] | refine zp ?_ | refine zq ?_ | (with_reducible first | refine bc (fun h => ?_) (fun h => ?_) | refine zt ?_ | refine zf ?_ | refine br_i (fun h => ?_) (fun h => ?_)) | refine zg ?_ | refine zi ?_ | refine zb ?_)
        all_goals conv => whnf
        all_goals rfl
  · rw [if_neg h]
    have h8 := (mchk_08 m).resolve_left h
    rw [h8] at H
    refine fn_ok (by kernel_rfl) ty_ok Tryz.func9 rfl (fun _ _ => Tryz.call9 _ _) rfl ?_
    intro hw
    clear hw
    exact zw
theorem rqGreat_fn (m : Md) (l : List Ak) : FnOK Tryz.prog 7 [m.dc, .one (aks l)] (.c (.one (bol (great m.l || decide (20 < l.length ∧ l.length ≤ 120 ∨ 130 < l.length))))) := by
  have H := rfGreat_fn m.l
  have hal : (l.map Ak.c).length = l.length := List.length_map ..
  cases hg : great m.l
  · rw [hg] at H
    refine fn_ok (by kernel_rfl) ty_ok Tryz.func7 rfl (fun _ _ => Tryz.call7 _ _) rfl ?_
    intro hw
    simp only [WDCs, WDC, WDs] at hw
    have w1 := wd_aks hw.2.1
    clear hw
    repeat' ((conv => whnf); first | (with_reducible first | refine br_t ?_ | refine br_f ?_ | refine za ?_ | refine zg ?_) | rw [hal] | refine zp ?_ | refine zq ?_ | (with_reducible first | refine bc (fun h => ?_) (fun h => ?_) | refine zt ?_ | refine zf ?_ | refine br_i (fun h => ?_) (fun h => ?_)) | refine zg ?_ | refine zi ?_ | refine zb ?_)
    all_goals conv => whnf
    all_goals
      refine r_bool ?_
      rw [Bool.eq_iff_iff]
      simp only [Bool.false_or, decide_eq_true_eq, Bool.false_eq_true, false_iff, iff_false, true_iff, iff_true]
      first | omega | (rw [iff_comm]; omega) | trivial
  · rw [hg] at H
    refine fn_ok (by kernel_rfl) ty_ok Tryz.func7 rfl (fun _ _ => Tryz.call7 _ _) rfl ?_
    intro hw
    clear hw
    exact zw
theorem rqSame_fn (a b : List Int) : FnOK Tryz.prog 54 [.one (ints a), .one (ints b)] (.c (.one (bol (decide (a = b))))) := by
  refine fn_ok (by kernel_rfl) ty_ok Tryz.func54 rfl (fun _ _ => Tryz.call54 _ _) rfl ?_
  intro hw
  simp only [WDCs, WDC, WDs] at hw
  have w1 : a.length ≤ 9223372036854775807 := by
    obtain ⟨h1, _, _⟩ := WD_list.1 hw.1
    simpa using h1
  have w2 : b.length ≤ 9223372036854775807 := by
    obtain ⟨h1, _, _⟩ := WD_list.1 hw.2.1
    simpa using h1
  clear hw
  have hla : (a.map fun i => [i64 i]).length = a.length := List.length_map ..
  have hlb : (b.map fun i => [i64 i]).length = b.length := List.length_map ..
  by_cases h0 : a.length = b.length
  · repeat' ((conv => whnf); first | (with_reducible first | refine br_t ?_ | refine br_f ?_ | refine za ?_ | refine zg ?_) | rw [hla] | rw [hlb] | refine zp ?_ | refine zq ?_ | (with_reducible first | refine bc (fun h => ?_) (fun h => ?_) | refine zt ?_ | refine zf ?_ | refine br_i (fun h => ?_) (fun h => ?_)) | refine zg ?_ | refine zi ?_ | refine zb ?_)
    refine loop_J (by kernel_rfl) ty_ok (σ := Nat) (fun i => [(5, sV (.int .i64 i))]) (fun _ => []) (fun i => i ≤ a.length ∧ a.take i = b.take i) (fun i => a.length - i) 0 ⟨by omega, rfl⟩ ?_ ?_
    · (conv => whnf); exact zent
    rintro i ⟨hi, hI⟩
    rcases Nat.lt_or_ge i a.length with hlt | hge
    · have hb : i < b.length := by omega
      have he1 := ints_get hlt
      have he2 := ints_get hb
      by_cases hc : a[i] = b[i]
      · have hn := take_succ_eq hI hlt hb hc
        repeat' ((conv => whnf); first | (with_reducible first | refine br_t ?_ | refine br_f ?_ | refine za ?_ | refine zg ?_) | rw [hla] | rw [hlb] | refine zp ?_ | refine zq ?_ | (with_reducible first | refine bc (fun h => ?_) (fun h => ?_) | refine zt ?_ | refine zf ?_ | refine br_i (fun h => ?_) (fun h => ?_)) | refine zg ?_ | refine zi ?_ | refine zb ?_)
        all_goals conv => whnf
        refine ⟨i + 1, ⟨by omega, hn⟩, ?_, by omega⟩
        (conv => whnf); exact zent
      · rw [decide_eq_false (ne_of_get hlt hb hc)]
        repeat' ((conv => whnf); first | (with_reducible first | refine br_t ?_ | refine br_f ?_ | refine za ?_ | refine zg ?_) | rw [hla] | rw [hlb] | refine zp ?_ | refine zq ?_ | (with_reducible first | refine bc (fun h => ?_) (fun h => ?_) | refine zt ?_ | refine zf ?_ | refine br_i (fun h => ?_) (fun h => ?_)) | refine zg ?_ | refine zi ?_ | refine zb ?_)
        all_goals conv => whnf
        all_goals rfl
    · rw [decide_eq_true (take_all_eq hI h0 hge)]
      repeat' ((conv => whnf); first | (with_reducible first | refine br_t ?_ | refine br_f ?_ | refine za ?_ | refine zg ?_) | rw [hla] | rw [hlb] | refine zp ?_ | refine zq ?_ | (with_reducible first | refine bc (fun h => ?_) (fun h => ?_) | refine zt ?_ | refine zf ?_ | refine br_i (fun h => ?_) (fun h => ?_)) | refine zg ?_ | refine zi ?_ | refine zb ?_)
      all_goals conv => whnf
      all_goals rfl
  · rw [decide_eq_false (fun h => h0 (congrArg List.length h))]
    repeat' ((conv => whnf); first | (with_reducible first | refine br_t ?_ | refine br_f ?_ | refine za ?_ | refine zg ?_) | rw [hla] | rw [hlb] | refine zp ?_ | refine zq ?_ | (with_reducible first | refine bc (fun h => ?_) (fun h => ?_) | refine zt ?_ | refine zf ?_ | refine br_i (fun h => ?_) (fun h => ?_)) | refine zg ?_ | refine zi ?_ | refine zb ?_)
    all_goals conv => whnf
    all_goals rfl
theorem Ak.eq_iff {a b : Ak} : a = b ↔ a.k = b.k ∧ (a.p.id = b.p.id ∧ a.p.a = b.p.a ∧ a.p.b = b.p.b) ∧ a.id = b.id ∧ a.n = b.n ∧ a.d = b.d := by
  obtain ⟨k, ⟨i, x, y⟩, j, n, d⟩ := a
  obtain ⟨k', ⟨i', x', y'⟩, j', n', d'⟩ := b
  simp [and_assoc]
theorem r36SameAsks_fn (a b : List Ak) : FnOK Tryz.prog 27 [.one (aks a), .one (aks b)] (.c (.one (bol (decide (a = b))))) := by
  have hla : (a.map Ak.c).length = a.length := List.length_map ..
  have hlb : (b.map Ak.c).length = b.length := List.length_map ..
  refine fn_ok (by kernel_rfl) ty_ok Tryz.func27 rfl (fun _ _ => Tryz.call27 _ _) rfl ?_
  intro hw
  simp only [WDCs, WDC, WDs] at hw
  have w1 := wd_aks hw.1
  have w2 := wd_aks hw.2.1
  clear hw
  by_cases h0 : a.length = b.length
  · repeat' ((conv => whnf); first | (with_reducible first | refine br_t ?_ | refine br_f ?_ | refine za ?_ | refine zg ?_) | rw [hla] | rw [hlb] | refine zp ?_ | refine zq ?_ | (with_reducible first | refine bc (fun h => ?_) (fun h => ?_) | refine zt ?_ | refine zf ?_ | refine br_i (fun h => ?_) (fun h => ?_) | refine xi (pv_bool fun _ => nev62 _ _ _ _ _ _ _ _ _ _ _ _ _ _ _ _ _) ?_) | refine zg ?_ | refine zi ?_ | refine zb ?_)
    refine loop_J (by kernel_rfl) ty_ok (σ := Nat) (fun i => [(5, sV (.int .i64 i))]) (fun _ => []) (fun i => i ≤ a.length ∧ a.take i = b.take i) (fun i => a.length - i) 0 ⟨by omega, rfl⟩ ?_ ?_
    · (conv => whnf); exact zent
    rintro i ⟨hi, hI⟩
    rcases Nat.lt_or_ge i a.length with hlt | hge
    · have hb : i < b.length := by omega
      have he1 := aks_get hlt
      have he2 := aks_get hb
      have hq := Ak.eq_iff (a := a[i]) (b := b[i])
      by_cases hc : a[i] = b[i]
      · have hn := take_succ_eq hI hlt hb hc
        have hq := hq.1 hc
        clear hc
        repeat' ((conv => whnf); first | (with_reducible first | refine br_t ?_ | refine br_f ?_ | refine za ?_ | refine zg ?_) | rw [hla] | rw [hlb] | refine zp ?_ | refine zq ?_ | (with_reducible first | refine bc (fun h => ?_) (fun h => ?_) | refine zt ?_ | refine zf ?_ | refine br_i (fun h => ?_) (fun h => ?_) | refine xi (pv_bool fun _ => nev62 _ _ _ _ _ _ _ _ _ _ _ _ _ _ _ _ _) ?_) | refine zg ?_ | refine zi ?_ | refine zb ?_)
        all_goals conv => whnf
        refine ⟨i + 1, ⟨by omega, hn⟩, ?_, by omega⟩
        (conv => whnf); exact zent
      · rw [decide_eq_false (ne_of_get hlt hb hc)]
        have hq : ¬ _ := fun h => hc (hq.2 h)
        clear hc
        repeat' ((conv => whnf); first | (with_reducible first | refine br_t ?_ | refine br_f ?_ | refine za ?_ | refine zg ?_) | rw [hla] | rw [hlb] | refine zp ?_ | refine zq ?_ | (with_reducible first | refine bc (fun h => ?_) (fun h => ?_) | refine zt ?_ | refine zf ?_ | refine br_i (fun h => ?_) (fun h => ?_) | refine xi (pv_bool fun _ => nev62 _ _ _ _ _ _ _ _ _ _ _ _ _ _ _ _ _) ?_) | refine zg ?_ | refine zi ?_ | refine zb ?_)
        all_goals conv => whnf
        all_goals rfl
    · rw [decide_eq_true (take_all_eq hI h0 hge)]
      repeat' ((conv => whnf); first | (with_reducible first | refine br_t ?_ | refine br_f ?_ | refine za ?_ | refine zg ?_) | rw [hla] | rw [hlb] | refine zp ?_ | refine zq ?_ | (with_reducible first | refine bc (fun h => ?_) (fun h => ?_) | refine zt ?_ | refine zf ?_ | refine br_i (fun h => ?_) (fun h => ?_) | refine xi (pv_bool fun _ => nev62 _ _ _ _ _ _ _ _ _ _ _ _ _ _ _ _ _) ?_) | refine zg ?_ | refine zi ?_ | refine zb ?_)
      all_goals conv => whnf
      all_goals rfl
  · rw [decide_eq_false (fun h => h0 (congrArg List.length h))]
    repeat' ((conv => whnf); first | (with_reducible first | refine br_t ?_ | refine br_f ?_ | refine za ?_ | refine zg ?_) | rw [hla] | rw [hlb] | refine zp ?_ | refine zq ?_ | (with_reducible first | refine bc (fun h => ?_) (fun h => ?_) | refine zt ?_ | refine zf ?_ | refine br_i (fun h => ?_) (fun h => ?_) | refine xi (pv_bool fun _ => nev62 _ _ _ _ _ _ _ _ _ _ _ _ _ _ _ _ _) ?_) | refine zg ?_ | refine zi ?_ | refine zb ?_)
    all_goals conv => whnf
    all_goals rfl
end Go.Proofs.YtnjgfhgpicmklaaGreat
