import Derived.Test.YtgdpogdgpfjnoaaGreatDoorGLTRepliesAR
import Derived.Test.YtgdpogdgpfjnoaaGreatDoorGLTRepliesAQ
import Derived.Test.YtgdpogdgpfjnoaaGreatDoorGLTRepliesAN
import Derived.Test.YtgdpogdgpfjnoaaGreatDoorGLTRepliesAP
import Derived.Test.YtgdpogdgpfjnoaaGreatDoorGLTRepliesAM
set_option linter.all false
namespace Go.Proofs.YtgdpogdgpfjnoaaGreatDoor
open Go Go.RowKit Go.Sort Sx
theorem nmd_iff {i : Int} : nmd i = true ↔ 0 ≤ i ∧ i ≤ 65535 := by unfold nmd; simp
set_option maxRecDepth 100000 in
set_option maxHeartbeats 4000000 in
theorem tCheck_fn (r : Rp) (hl0 : r.ms.length ≤ 1000000) : FnOK Tryz.prog 12 [r.dc] (ret1 (rchk r)) := by
  obtain ⟨e, i, j, n, d, l⟩ := r
  simp only at hl0
  have hll : (l.map Mt.c).length = l.length := List.length_map ..
  unfold rchk
  simp only [Rp.dc]
  by_cases he : e = 0
  · rw [if_neg (by simp [he])]
    subst he
    by_cases hl : l = []
    · subst hl
      rw [if_neg (by simp)]
      by_cases hd : d = 0
      · rw [if_neg (by simp [hd])]
        subst hd
        have S := oSame_fn ⟨0, i, j, n, 0, []⟩ rp0
        by_cases hz : (⟨0, i, j, n, 0, []⟩ : Rp) = rp0
        · rw [decide_eq_true hz] at S
          rw [if_pos hz]
          simp only [Rp.dc, rp0] at S
          replace S : FnOK Tryz.prog 46 [.agg [i64 0, i64 i, i64 j, i64 n, i64 0, .list 4 []], .agg [i64 0, i64 0, i64 0, i64 0, i64 0, .list 4 []]] (.c (.one (bol true))) := S
          show FnOK Tryz.prog 12 [.agg [i64 0, i64 i, i64 j, i64 n, i64 0, .list 4 []]] _
          refine fn_ok (by kernel_rfl) ty_ok Tryz.func12 rfl (fun _ _ => Tryz.call12 _ _) rfl ?_
          intro hw
          clear hw
          exact zw
        · rw [decide_eq_false hz] at S
          rw [if_neg hz]
          simp only [Rp.dc, rp0] at S
          replace S : FnOK Tryz.prog 46 [.agg [i64 0, i64 i, i64 j, i64 n, i64 0, .list 4 []], .agg [i64 0, i64 0, i64 0, i64 0, i64 0, .list 4 []]] (.c (.one (bol false))) := S
          show FnOK Tryz.prog 12 [.agg [i64 0, i64 i, i64 j, i64 n, i64 0, .list 4 []]] _
          refine fn_ok (by kernel_rfl) ty_ok Tryz.func12 rfl (fun _ _ => Tryz.call12 _ _) rfl ?_
          intro hw
          clear hw
          exact zw
      · rw [if_pos (by simpa using hd)]
        have S := oSame_fn ⟨0, i, j, n, d, []⟩ ⟨0, i, j, n, d, []⟩
        rw [decide_eq_true rfl] at S
        simp only [Rp.dc] at S
        replace S : FnOK Tryz.prog 46 [.agg [i64 0, i64 i, i64 j, i64 n, i64 d, .list 4 []], .agg [i64 0, i64 i, i64 j, i64 n, i64 d, .list 4 []]] (.c (.one (bol true))) := S
        have Hc := check_fn n d
        have Hi := tnamed_fn i
        have Hj := tnamed_fn j
        by_cases c1 : chk n d = 0
        · rw [c1] at Hc
          by_cases c2 : nmd i = true
          · rw [c2] at Hi
            by_cases c3 : j = 0
            · rw [if_pos ⟨c1, c2, .inl c3⟩]
              subst c3
              show FnOK Tryz.prog 12 [.agg [i64 0, i64 i, i64 0, i64 n, i64 d, .list 4 []]] _
              refine fn_ok (by kernel_rfl) ty_ok Tryz.func12 rfl (fun _ _ => Tryz.call12 _ _) rfl ?_
              intro hw
              clear hw
              exact zw
            · by_cases c4 : i < j
              · by_cases c5 : nmd j = true
                · rw [c5] at Hj
                  by_cases c6 : 0 ≤ n
                  · rw [if_pos ⟨c1, c2, .inr ⟨c4, c5, c6⟩⟩]
                    show FnOK Tryz.prog 12 [.agg [i64 0, i64 i, i64 j, i64 n, i64 d, .list 4 []]] _
                    refine fn_ok (by kernel_rfl) ty_ok Tryz.func12 rfl (fun _ _ => Tryz.call12 _ _) rfl ?_
                    intro hw
                    clear hw
                    exact zw
                  · rw [if_neg (fun h => c6 (h.2.2.resolve_left c3).2.2)]
                    show FnOK Tryz.prog 12 [.agg [i64 0, i64 i, i64 j, i64 n, i64 d, .list 4 []]] _
                    refine fn_ok (by kernel_rfl) ty_ok Tryz.func12 rfl (fun _ _ => Tryz.call12 _ _) rfl ?_
                    intro hw
                    clear hw
                    exact zw
                · rw [if_neg (fun h => c5 (h.2.2.resolve_left c3).2.1)]
                  rw [show nmd j = false by simpa using c5] at Hj
                  show FnOK Tryz.prog 12 [.agg [i64 0, i64 i, i64 j, i64 n, i64 d, .list 4 []]] _
                  refine fn_ok (by kernel_rfl) ty_ok Tryz.func12 rfl (fun _ _ => Tryz.call12 _ _) rfl ?_
                  intro hw
                  clear hw
                  exact zw
              · rw [if_neg (fun h => c4 (h.2.2.resolve_left c3).1)]
                show FnOK Tryz.prog 12 [.agg [i64 0, i64 i, i64 j, i64 n, i64 d, .list 4 []]] _
                refine fn_ok (by kernel_rfl) ty_ok Tryz.func12 rfl (fun _ _ => Tryz.call12 _ _) rfl ?_
                intro hw
                clear hw
                exact zw
          · rw [if_neg (fun h => c2 h.2.1)]
            rw [show nmd i = false by simpa using c2] at Hi
            show FnOK Tryz.prog 12 [.agg [i64 0, i64 i, i64 j, i64 n, i64 d, .list 4 []]] _
            refine fn_ok (by kernel_rfl) ty_ok Tryz.func12 rfl (fun _ _ => Tryz.call12 _ _) rfl ?_
            intro hw
            clear hw
            exact zw
        · rw [if_neg (fun h => c1 h.1)]
          generalize chk n d = z at *
          show FnOK Tryz.prog 12 [.agg [i64 0, i64 i, i64 j, i64 n, i64 d, .list 4 []]] _
          refine fn_ok (by kernel_rfl) ty_ok Tryz.func12 rfl (fun _ _ => Tryz.call12 _ _) rfl ?_
          intro hw
          clear hw
          exact zw
    · rw [if_pos (by simpa using hl)]
      have hp : 0 < l.length := List.length_pos_iff.2 hl
      have M := tmeetings_fn l hl0
      have S := oSame_fn ⟨0, i, j, n, d, l⟩ ⟨0, 0, 0, 0, 0, l⟩
      simp only [Rp.dc] at S ⊢
      by_cases c1 : mtR l = true
      · rw [c1] at M
        by_cases c2 : (⟨0, i, j, n, d, l⟩ : Rp) = ⟨0, 0, 0, 0, 0, l⟩
        · rw [if_pos ⟨c1, c2⟩]
          rw [decide_eq_true c2] at S
          refine fn_ok (by kernel_rfl) ty_ok Tryz.func12 rfl (fun _ _ => Tryz.call12 _ _) rfl ?_
          intro hw
          clear hw
          exact zw
        · rw [if_neg (fun h => c2 h.2)]
          rw [decide_eq_false c2] at S
          refine fn_ok (by kernel_rfl) ty_ok Tryz.func12 rfl (fun _ _ => Tryz.call12 _ _) rfl ?_
          intro hw
          clear hw
          exact zw
      · rw [if_neg (fun h => c1 h.1)]
        rw [show mtR l = false by simpa using c1] at M
        refine fn_ok (by kernel_rfl) ty_ok Tryz.func12 rfl (fun _ _ => Tryz.call12 _ _) rfl ?_
        intro hw
        clear hw
        exact zw
  · rw [if_pos (by simpa using he)]
    have S := oSame_fn ⟨e, i, j, n, d, l⟩ (rpE e)
    replace S : FnOK Tryz.prog 46 [.agg [i64 e, i64 i, i64 j, i64 n, i64 d, mts l], .agg [i64 e, i64 0, i64 0, i64 0, i64 0, .list 4 []]] (.c (.one (bol (decide ((⟨e, i, j, n, d, l⟩ : Rp) = rpE e))))) := S
    by_cases c1 : 1 ≤ e
    · by_cases c2 : e ≤ 99
      · by_cases c3 : (⟨e, i, j, n, d, l⟩ : Rp) = rpE e
        · rw [if_pos ⟨c1, c2, c3⟩]
          rw [decide_eq_true c3] at S
          refine fn_ok (by kernel_rfl) ty_ok Tryz.func12 rfl (fun _ _ => Tryz.call12 _ _) rfl ?_
          intro hw
          clear hw
          exact zw
        · rw [if_neg (fun h => c3 h.2.2)]
          rw [decide_eq_false c3] at S
          refine fn_ok (by kernel_rfl) ty_ok Tryz.func12 rfl (fun _ _ => Tryz.call12 _ _) rfl ?_
          intro hw
          clear hw
          exact zw
      · rw [if_neg (fun h => c2 h.2.1)]
        refine fn_ok (by kernel_rfl) ty_ok Tryz.func12 rfl (fun _ _ => Tryz.call12 _ _) rfl ?_
        intro hw
        clear hw
        exact zw
    · rw [if_neg (fun h => c1 h.1)]
      refine fn_ok (by kernel_rfl) ty_ok Tryz.func12 rfl (fun _ _ => Tryz.call12 _ _) rfl ?_
      intro hw
      clear hw
      exact zw
set_option maxRecDepth 100000 in
set_option maxHeartbeats 4000000 in
theorem rtmeetings_fn (l : List Mt) (hl0 : l.length ≤ 1000000) : FnOK Tryz.prog 64 [.one (mts l)] (.c (.one (bol (decide (l ≠ []) && mtR l)))) := by
  have hll : (l.map Mt.c).length = l.length := List.length_map ..
  by_cases h1 : l = []
  · subst h1
    refine fn_ok (by kernel_rfl) ty_ok Tryz.func64 rfl (fun _ _ => Tryz.call64 _ _) rfl ?_
    intro hw
    clear hw
    exact zw
  have hp : 0 < l.length := List.length_pos_iff.2 h1
  rw [show decide (l ≠ []) = true from decide_eq_true h1, Bool.true_and]
  unfold mtR
  by_cases h2 : l.length ≤ 2016
  · rw [decide_eq_true h2, Bool.and_true]
    rw [show mRun none l = mRun (prev l 0) (l.drop 0) from rfl]
    obtain ⟨V, hV⟩ : ∃ V, V = mRun (prev l 0) (l.drop 0) := ⟨_, rfl⟩
    rw [← hV]
    refine fn_ok (by kernel_rfl) ty_ok Tryz.func64 rfl (fun _ _ => Tryz.call64 _ _) rfl ?_
    intro hw
    clear hw
    repeat' ((conv => whnf); first | (with_reducible first | refine br_t ?_ | refine br_f ?_ | refine za ?_ | refine zg ?_) | refine zp ?_ | refine zq ?_ | (with_reducible first | refine bc (fun h => ?_) (fun h => ?_) | refine zt ?_ | refine zf ?_ | refine br_i (fun h => ?_) (fun h => ?_)) | refine zg ?_ | refine zi ?_ | refine zb ?_)
    refine loop_J (by kernel_rfl) ty_ok (σ := Nat) (fun i => [(3, sV (.int .i64 (i : Nat)))]) (fun _ => []) (fun i => i ≤ l.length ∧ V = mRun (prev l i) (l.drop i) ∧ (0 < i → ∀ h : i - 1 < l.length, mOk l[i - 1] = true)) (fun i => l.length - i) 0 ⟨Nat.zero_le _, hV, fun h => absurd h (Nat.lt_irrefl _)⟩ ?_ ?_
    · (conv => whnf); exact zent
    rintro i ⟨hi, hI, hP⟩
    rcases Nat.lt_or_ge i l.length with hlt | hge
    · have hel := mts_get hlt
      have ew : IntKind.i64.wrap ((i : Int) + 1) = ((i + 1 : Nat) : Int) := by rw [IntWalk.i64_in _ (by omega)]; omega
      have Hc := rcheck_fn l[i].n l[i].d
      rcases mRun_at hlt with ⟨e1, e2⟩ | ⟨e1, e2, h0, e3⟩ | ⟨e1, e2, e3⟩
      · rw [e1] at hI
        subst hI
        have hb : ¬ (chk l[i].n l[i].d = 0 ∧ 0 ≤ l[i].i ∧ l[i].i < l[i].j ∧ l[i].j ≤ 65535) := fun h => by rw [mOk_i.2 h] at e2; cases e2
        clear e1 e2 hP hV
        generalize l[i] = m at *
        obtain ⟨m1, m2, m3, m4⟩ := m
        simp only at hel Hc hb
        generalize chk m1 m2 = z at *
        by_cases h1 : z = 0
        · subst h1
          by_cases h2 : 0 ≤ m3
          · by_cases h3 : m3 < m4
            · have h4 : ¬ m4 ≤ 65535 := fun h => hb ⟨rfl, h2, h3, h⟩
              exact zw
            · exact zw
          · exact zw
        · exact zw
      · rw [e2] at hI
        subst hI
        obtain ⟨c1, c2, c3, c4⟩ := mOk_i.1 e1
        have hpk := hP h0 (by omega)
        obtain ⟨d1, d2, d3, d4⟩ := mOk_i.1 hpk
        have Hb := rmBefore_fn d1 c1
        rw [← cfM_lt d1 c1, decide_eq_false e3] at Hb
        have ew2 : IntKind.i64.wrap ((i : Int) - 1) = ((i - 1 : Nat) : Int) := by rw [IntWalk.i64_in _ (by omega)]; omega
        have hel2 : (l.map Mt.c)[(IntKind.i64.wrap ((i : Int) - 1)).toNat]? = some [i64 (l[i - 1]'(by omega)).n, i64 (l[i - 1]'(by omega)).d, i64 (l[i - 1]'(by omega)).i, i64 (l[i - 1]'(by omega)).j] := by rw [ew2]; exact mts_get (by omega)
        rw [c1] at Hc
        clear e1 e2 e3 hP hV d1 d2 d3 d4 hpk c1
        generalize l[i - 1]'(by omega) = q at *
        generalize l[i] = m at *
        obtain ⟨m1, m2, m3, m4⟩ := m
        obtain ⟨q1, q2, q3, q4⟩ := q
        simp only [Mt.dc] at hel hel2 Hc Hb c2 c3 c4
        exact zw
      · obtain ⟨c1, c2, c3, c4⟩ := mOk_i.1 e1
        rw [c1] at Hc
        have hN : i + 1 ≤ l.length ∧ V = mRun (prev l (i + 1)) (l.drop (i + 1)) ∧ (0 < i + 1 → ∀ h : i + 1 - 1 < l.length, mOk l[i + 1 - 1] = true) := ⟨hlt, by rw [hI, e2], fun _ h => by simpa using e1⟩
        by_cases h0 : 0 < i
        · have hpk := hP h0 (by omega)
          obtain ⟨d1, d2, d3, d4⟩ := mOk_i.1 hpk
          have Hb := rmBefore_fn d1 c1
          rw [← cfM_lt d1 c1, decide_eq_true (e3 h0)] at Hb
          have ew2 : IntKind.i64.wrap ((i : Int) - 1) = ((i - 1 : Nat) : Int) := by rw [IntWalk.i64_in _ (by omega)]; omega
          have hel2 : (l.map Mt.c)[(IntKind.i64.wrap ((i : Int) - 1)).toNat]? = some [i64 (l[i - 1]'(by omega)).n, i64 (l[i - 1]'(by omega)).d, i64 (l[i - 1]'(by omega)).i, i64 (l[i - 1]'(by omega)).j] := by rw [ew2]; exact mts_get (by omega)
          clear e1 e2 e3 hP hV hI d1 d2 d3 d4 hpk c1
          generalize l[i - 1]'(by omega) = q at *
          obtain ⟨m, hm⟩ : ∃ m, m = l[i] := ⟨_, rfl⟩
          rw [← hm] at hel Hc Hb c2 c3 c4
          clear hm
          obtain ⟨m1, m2, m3, m4⟩ := m
          obtain ⟨q1, q2, q3, q4⟩ := q
          simp only [Mt.dc] at hel hel2 Hc Hb c2 c3 c4
          repeat' ((conv => whnf); first | (with_reducible first | refine br_t ?_ | refine br_f ?_ | refine za ?_ | refine zg ?_) | refine zp ?_ | refine zq ?_ | (with_reducible first | refine bc (fun h => ?_) (fun h => ?_) | refine zt ?_ | refine zf ?_ | refine br_i (fun h => ?_) (fun h => ?_)) | refine zg ?_ | refine zi ?_ | refine zb ?_)
          all_goals conv => whnf
          refine ⟨i + 1, hN, ?_, by omega⟩
          rw [← ew]
          (conv => whnf); exact zent
        · clear e1 e2 e3 hP hV hI c1
          obtain ⟨m, hm⟩ : ∃ m, m = l[i] := ⟨_, rfl⟩
          rw [← hm] at hel Hc c2 c3 c4
          clear hm
          obtain ⟨m1, m2, m3, m4⟩ := m
          simp only at hel Hc c2 c3 c4
          repeat' ((conv => whnf); first | (with_reducible first | refine br_t ?_ | refine br_f ?_ | refine za ?_ | refine zg ?_) | refine zp ?_ | refine zq ?_ | (with_reducible first | refine bc (fun h => ?_) (fun h => ?_) | refine zt ?_ | refine zf ?_ | refine br_i (fun h => ?_) (fun h => ?_)) | refine zg ?_ | refine zi ?_ | refine zb ?_)
          all_goals conv => whnf
          refine ⟨i + 1, hN, ?_, by omega⟩
          rw [← ew]
          (conv => whnf); exact zent
    · obtain rfl : i = l.length := by omega
      rw [List.drop_length] at hI
      have hVt : V = true := by rw [hI]; cases prev l l.length <;> rfl
      subst hVt
      exact zw
  · rw [decide_eq_false h2, Bool.and_false]
    refine fn_ok (by kernel_rfl) ty_ok Tryz.func64 rfl (fun _ _ => Tryz.call64 _ _) rfl ?_
    intro hw
    clear hw
    exact zw
set_option maxRecDepth 100000 in
set_option maxHeartbeats 4000000 in
theorem rtCheck_fn (r : Rp) (hl0 : r.ms.length ≤ 1000000) : FnOK Tryz.prog 30 [r.dc] (ret1 (rchk r)) := by
  obtain ⟨e, i, j, n, d, l⟩ := r
  simp only at hl0
  have hll : (l.map Mt.c).length = l.length := List.length_map ..
  unfold rchk
  simp only [Rp.dc]
  by_cases he : e = 0
  · rw [if_neg (by simp [he])]
    subst he
    by_cases hl : l = []
    · subst hl
      rw [if_neg (by simp)]
      by_cases hd : d = 0
      · rw [if_neg (by simp [hd])]
        subst hd
        have S := roSame_fn ⟨0, i, j, n, 0, []⟩ rp0
        by_cases hz : (⟨0, i, j, n, 0, []⟩ : Rp) = rp0
        · rw [decide_eq_true hz] at S
          rw [if_pos hz]
          simp only [Rp.dc, rp0] at S
          replace S : FnOK Tryz.prog 20 [.agg [i64 0, i64 i, i64 j, i64 n, i64 0, .list 4 []], .agg [i64 0, i64 0, i64 0, i64 0, i64 0, .list 4 []]] (.c (.one (bol true))) := S
          show FnOK Tryz.prog 30 [.agg [i64 0, i64 i, i64 j, i64 n, i64 0, .list 4 []]] _
          refine fn_ok (by kernel_rfl) ty_ok Tryz.func30 rfl (fun _ _ => Tryz.call30 _ _) rfl ?_
          intro hw
          clear hw
          repeat' ((conv => whnf); first | (with_reducible first | refine br_t ?_ | refine br_f ?_ | refine za ?_ | refine zg ?_) | refine zp ?_ | refine zq ?_ | (with_reducible first | refine bc (fun h => ?_) (fun h => ?_) | refine zt ?_ | refine zf ?_ | refine br_i (fun h => ?_) (fun h => ?_)) | refine zg ?_ | refine zi ?_ | refine zb ?_)
          all_goals conv => whnf
          all_goals first | rfl | (exfalso; omega)
        · rw [decide_eq_false hz] at S
          rw [if_neg hz]
          simp only [Rp.dc, rp0] at S
          replace S : FnOK Tryz.prog 20 [.agg [i64 0, i64 i, i64 j, i64 n, i64 0, .list 4 []], .agg [i64 0, i64 0, i64 0, i64 0, i64 0, .list 4 []]] (.c (.one (bol false))) := S
          show FnOK Tryz.prog 30 [.agg [i64 0, i64 i, i64 j, i64 n, i64 0, .list 4 []]] _
          refine fn_ok (by kernel_rfl) ty_ok Tryz.func30 rfl (fun _ _ => Tryz.call30 _ _) rfl ?_
          intro hw
          clear hw
          repeat' ((conv => whnf); first | (with_reducible first | refine br_t ?_ | refine br_f ?_ | refine za ?_ | refine zg ?_) | refine zp ?_ | refine zq ?_ | (with_reducible first | refine bc (fun h => ?_) (fun h => ?_) | refine zt ?_ | refine zf ?_ | refine br_i (fun h => ?_) (fun h => ?_)) | refine zg ?_ | refine zi ?_ | refine zb ?_)
          all_goals conv => whnf
          all_goals first | rfl | (exfalso; omega)
      · rw [if_pos (by simpa using hd)]
        have S := roSame_fn ⟨0, i, j, n, d, []⟩ ⟨0, i, j, n, d, []⟩
        rw [decide_eq_true rfl] at S
        simp only [Rp.dc] at S
        replace S : FnOK Tryz.prog 20 [.agg [i64 0, i64 i, i64 j, i64 n, i64 d, .list 4 []], .agg [i64 0, i64 i, i64 j, i64 n, i64 d, .list 4 []]] (.c (.one (bol true))) := S
        have Hc := rcheck_fn n d
        by_cases c1 : chk n d = 0
        · rw [c1] at Hc
          by_cases c2 : nmd i = true
          · obtain ⟨g1, g2⟩ := nmd_iff.1 c2
            by_cases c3 : j = 0
            · rw [if_pos ⟨c1, c2, .inl c3⟩]
              subst c3
              show FnOK Tryz.prog 30 [.agg [i64 0, i64 i, i64 0, i64 n, i64 d, .list 4 []]] _
              refine fn_ok (by kernel_rfl) ty_ok Tryz.func30 rfl (fun _ _ => Tryz.call30 _ _) rfl ?_
              intro hw
              clear hw
              repeat' ((conv => whnf); first | (with_reducible first | refine br_t ?_ | refine br_f ?_ | refine za ?_ | refine zg ?_) | refine zp ?_ | refine zq ?_ | (with_reducible first | refine bc (fun h => ?_) (fun h => ?_) | refine zt ?_ | refine zf ?_ | refine br_i (fun h => ?_) (fun h => ?_)) | refine zg ?_ | refine zi ?_ | refine zb ?_)
              all_goals conv => whnf
              all_goals first | rfl | (exfalso; omega)
            · by_cases c4 : i < j
              · by_cases c5 : nmd j = true
                · obtain ⟨g3, g4⟩ := nmd_iff.1 c5
                  by_cases c6 : 0 ≤ n
                  · rw [if_pos ⟨c1, c2, .inr ⟨c4, c5, c6⟩⟩]
                    show FnOK Tryz.prog 30 [.agg [i64 0, i64 i, i64 j, i64 n, i64 d, .list 4 []]] _
                    refine fn_ok (by kernel_rfl) ty_ok Tryz.func30 rfl (fun _ _ => Tryz.call30 _ _) rfl ?_
                    intro hw
                    clear hw
                    repeat' ((conv => whnf); first | (with_reducible first | refine br_t ?_ | refine br_f ?_ | refine za ?_ | refine zg ?_) | refine zp ?_ | refine zq ?_ | (with_reducible first | refine bc (fun h => ?_) (fun h => ?_) | refine zt ?_ | refine zf ?_ | refine br_i (fun h => ?_) (fun h => ?_)) | refine zg ?_ | refine zi ?_ | refine zb ?_)
                    all_goals conv => whnf
                    all_goals first | rfl | (exfalso; omega)
                  · rw [if_neg (fun h => c6 (h.2.2.resolve_left c3).2.2)]
                    show FnOK Tryz.prog 30 [.agg [i64 0, i64 i, i64 j, i64 n, i64 d, .list 4 []]] _
                    refine fn_ok (by kernel_rfl) ty_ok Tryz.func30 rfl (fun _ _ => Tryz.call30 _ _) rfl ?_
                    intro hw
                    clear hw
                    repeat' ((conv => whnf); first | (with_reducible first | refine br_t ?_ | refine br_f ?_ | refine za ?_ | refine zg ?_) | refine zp ?_ | refine zq ?_ | (with_reducible first | refine bc (fun h => ?_) (fun h => ?_) | refine zt ?_ | refine zf ?_ | refine br_i (fun h => ?_) (fun h => ?_)) | refine zg ?_ | refine zi ?_ | refine zb ?_)
                    all_goals conv => whnf
                    all_goals first | rfl | (exfalso; omega)
                · rw [if_neg (fun h => c5 (h.2.2.resolve_left c3).2.1)]
                  have g3 : ¬ j ≤ 65535 := fun h => c5 (nmd_iff.2 ⟨by omega, h⟩)
                  show FnOK Tryz.prog 30 [.agg [i64 0, i64 i, i64 j, i64 n, i64 d, .list 4 []]] _
                  refine fn_ok (by kernel_rfl) ty_ok Tryz.func30 rfl (fun _ _ => Tryz.call30 _ _) rfl ?_
                  intro hw
                  clear hw
                  repeat' ((conv => whnf); first | (with_reducible first | refine br_t ?_ | refine br_f ?_ | refine za ?_ | refine zg ?_) | refine zp ?_ | refine zq ?_ | (with_reducible first | refine bc (fun h => ?_) (fun h => ?_) | refine zt ?_ | refine zf ?_ | refine br_i (fun h => ?_) (fun h => ?_)) | refine zg ?_ | refine zi ?_ | refine zb ?_)
                  all_goals conv => whnf
                  all_goals first | rfl | (exfalso; omega)
              · rw [if_neg (fun h => c4 (h.2.2.resolve_left c3).1)]
                show FnOK Tryz.prog 30 [.agg [i64 0, i64 i, i64 j, i64 n, i64 d, .list 4 []]] _
                refine fn_ok (by kernel_rfl) ty_ok Tryz.func30 rfl (fun _ _ => Tryz.call30 _ _) rfl ?_
                intro hw
                clear hw
                repeat' ((conv => whnf); first | (with_reducible first | refine br_t ?_ | refine br_f ?_ | refine za ?_ | refine zg ?_) | refine zp ?_ | refine zq ?_ | (with_reducible first | refine bc (fun h => ?_) (fun h => ?_) | refine zt ?_ | refine zf ?_ | refine br_i (fun h => ?_) (fun h => ?_)) | refine zg ?_ | refine zi ?_ | refine zb ?_)
                all_goals conv => whnf
                all_goals first | rfl | (exfalso; omega)
          · rw [if_neg (fun h => c2 h.2.1)]
            have g1 : ¬ (0 ≤ i ∧ i ≤ 65535) := fun h => c2 (nmd_iff.2 h)
            by_cases g2 : 0 ≤ i
            · have g3 : ¬ i ≤ 65535 := fun h => g1 ⟨g2, h⟩
              by_cases g4 : j = 0
              · subst g4
                show FnOK Tryz.prog 30 [.agg [i64 0, i64 i, i64 0, i64 n, i64 d, .list 4 []]] _
                refine fn_ok (by kernel_rfl) ty_ok Tryz.func30 rfl (fun _ _ => Tryz.call30 _ _) rfl ?_
                intro hw
                clear hw
                repeat' ((conv => whnf); first | (with_reducible first | refine br_t ?_ | refine br_f ?_ | refine za ?_ | refine zg ?_) | refine zp ?_ | refine zq ?_ | (with_reducible first | refine bc (fun h => ?_) (fun h => ?_) | refine zt ?_ | refine zf ?_ | refine br_i (fun h => ?_) (fun h => ?_)) | refine zg ?_ | refine zi ?_ | refine zb ?_)
                all_goals conv => whnf
                all_goals first | rfl | (exfalso; omega)
              · by_cases g5 : 0 ≤ n
                · by_cases g6 : i < j
                  · have g7 : ¬ j ≤ 65535 := by omega
                    show FnOK Tryz.prog 30 [.agg [i64 0, i64 i, i64 j, i64 n, i64 d, .list 4 []]] _
                    refine fn_ok (by kernel_rfl) ty_ok Tryz.func30 rfl (fun _ _ => Tryz.call30 _ _) rfl ?_
                    intro hw
                    clear hw
                    repeat' ((conv => whnf); first | (with_reducible first | refine br_t ?_ | refine br_f ?_ | refine za ?_ | refine zg ?_) | refine zp ?_ | refine zq ?_ | (with_reducible first | refine bc (fun h => ?_) (fun h => ?_) | refine zt ?_ | refine zf ?_ | refine br_i (fun h => ?_) (fun h => ?_)) | refine zg ?_ | refine zi ?_ | refine zb ?_)
                    all_goals conv => whnf
                    all_goals first | rfl | (exfalso; omega)
                  · skip
                    show FnOK Tryz.prog 30 [.agg [i64 0, i64 i, i64 j, i64 n, i64 d, .list 4 []]] _
                    refine fn_ok (by kernel_rfl) ty_ok Tryz.func30 rfl (fun _ _ => Tryz.call30 _ _) rfl ?_
                    intro hw
                    clear hw
                    repeat' ((conv => whnf); first | (with_reducible first | refine br_t ?_ | refine br_f ?_ | refine za ?_ | refine zg ?_) | refine zp ?_ | refine zq ?_ | (with_reducible first | refine bc (fun h => ?_) (fun h => ?_) | refine zt ?_ | refine zf ?_ | refine br_i (fun h => ?_) (fun h => ?_)) | refine zg ?_ | refine zi ?_ | refine zb ?_)
                    all_goals conv => whnf
                    all_goals first | rfl | (exfalso; omega)
                · skip
                  show FnOK Tryz.prog 30 [.agg [i64 0, i64 i, i64 j, i64 n, i64 d, .list 4 []]] _
                  refine fn_ok (by kernel_rfl) ty_ok Tryz.func30 rfl (fun _ _ => Tryz.call30 _ _) rfl ?_
                  intro hw
                  clear hw
                  repeat' ((conv => whnf); first | (with_reducible first | refine br_t ?_ | refine br_f ?_ | refine za ?_ | refine zg ?_) | refine zp ?_ | refine zq ?_ | (with_reducible first | refine bc (fun h => ?_) (fun h => ?_) | refine zt ?_ | refine zf ?_ | refine br_i (fun h => ?_) (fun h => ?_)) | refine zg ?_ | refine zi ?_ | refine zb ?_)
                  all_goals conv => whnf
                  all_goals first | rfl | (exfalso; omega)
            · by_cases g4 : j = 0
              · subst g4
                show FnOK Tryz.prog 30 [.agg [i64 0, i64 i, i64 0, i64 n, i64 d, .list 4 []]] _
                refine fn_ok (by kernel_rfl) ty_ok Tryz.func30 rfl (fun _ _ => Tryz.call30 _ _) rfl ?_
                intro hw
                clear hw
                repeat' ((conv => whnf); first | (with_reducible first | refine br_t ?_ | refine br_f ?_ | refine za ?_ | refine zg ?_) | refine zp ?_ | refine zq ?_ | (with_reducible first | refine bc (fun h => ?_) (fun h => ?_) | refine zt ?_ | refine zf ?_ | refine br_i (fun h => ?_) (fun h => ?_)) | refine zg ?_ | refine zi ?_ | refine zb ?_)
                all_goals conv => whnf
                all_goals first | rfl | (exfalso; omega)
              · by_cases g5 : 0 ≤ n
                · skip
                  show FnOK Tryz.prog 30 [.agg [i64 0, i64 i, i64 j, i64 n, i64 d, .list 4 []]] _
                  refine fn_ok (by kernel_rfl) ty_ok Tryz.func30 rfl (fun _ _ => Tryz.call30 _ _) rfl ?_
                  intro hw
                  clear hw
                  repeat' ((conv => whnf); first | (with_reducible first | refine br_t ?_ | refine br_f ?_ | refine za ?_ | refine zg ?_) | refine zp ?_ | refine zq ?_ | (with_reducible first | refine bc (fun h => ?_) (fun h => ?_) | refine zt ?_ | refine zf ?_ | refine br_i (fun h => ?_) (fun h => ?_)) | refine zg ?_ | refine zi ?_ | refine zb ?_)
                  all_goals conv => whnf
                  all_goals first | rfl | (exfalso; omega)
                · skip
                  show FnOK Tryz.prog 30 [.agg [i64 0, i64 i, i64 j, i64 n, i64 d, .list 4 []]] _
                  refine fn_ok (by kernel_rfl) ty_ok Tryz.func30 rfl (fun _ _ => Tryz.call30 _ _) rfl ?_
                  intro hw
                  clear hw
                  repeat' ((conv => whnf); first | (with_reducible first | refine br_t ?_ | refine br_f ?_ | refine za ?_ | refine zg ?_) | refine zp ?_ | refine zq ?_ | (with_reducible first | refine bc (fun h => ?_) (fun h => ?_) | refine zt ?_ | refine zf ?_ | refine br_i (fun h => ?_) (fun h => ?_)) | refine zg ?_ | refine zi ?_ | refine zb ?_)
                  all_goals conv => whnf
                  all_goals first | rfl | (exfalso; omega)
        · rw [if_neg (fun h => c1 h.1)]
          generalize chk n d = z at *
          by_cases g4 : j = 0
          · subst g4
            show FnOK Tryz.prog 30 [.agg [i64 0, i64 i, i64 0, i64 n, i64 d, .list 4 []]] _
            refine fn_ok (by kernel_rfl) ty_ok Tryz.func30 rfl (fun _ _ => Tryz.call30 _ _) rfl ?_
            intro hw
            clear hw
            repeat' ((conv => whnf); first | (with_reducible first | refine br_t ?_ | refine br_f ?_ | refine za ?_ | refine zg ?_) | refine zp ?_ | refine zq ?_ | (with_reducible first | refine bc (fun h => ?_) (fun h => ?_) | refine zt ?_ | refine zf ?_ | refine br_i (fun h => ?_) (fun h => ?_)) | refine zg ?_ | refine zi ?_ | refine zb ?_)
            all_goals conv => whnf
            all_goals first | rfl | (exfalso; omega)
          show FnOK Tryz.prog 30 [.agg [i64 0, i64 i, i64 j, i64 n, i64 d, .list 4 []]] _
          refine fn_ok (by kernel_rfl) ty_ok Tryz.func30 rfl (fun _ _ => Tryz.call30 _ _) rfl ?_
          intro hw
          clear hw
          repeat' ((conv => whnf); first | (with_reducible first | refine br_t ?_ | refine br_f ?_ | refine za ?_ | refine zg ?_) | refine zp ?_ | refine zq ?_ | (with_reducible first | refine bc (fun h => ?_) (fun h => ?_) | refine zt ?_ | refine zf ?_ | refine br_i (fun h => ?_) (fun h => ?_)) | refine zg ?_ | refine zi ?_ | refine zb ?_)
          all_goals conv => whnf
          all_goals first | rfl | (exfalso; omega)
    · rw [if_pos (by simpa using hl)]
      have hp : 0 < l.length := List.length_pos_iff.2 hl
      have M := rtmeetings_fn l hl0
      rw [decide_eq_true hl, Bool.true_and] at M
      have S := roSame_fn ⟨0, i, j, n, d, l⟩ ⟨0, 0, 0, 0, 0, l⟩
      simp only [Rp.dc] at S ⊢
      by_cases c1 : mtR l = true
      · rw [c1] at M
        by_cases c2 : (⟨0, i, j, n, d, l⟩ : Rp) = ⟨0, 0, 0, 0, 0, l⟩
        · rw [if_pos ⟨c1, c2⟩]
          rw [decide_eq_true c2] at S
          refine fn_ok (by kernel_rfl) ty_ok Tryz.func30 rfl (fun _ _ => Tryz.call30 _ _) rfl ?_
          intro hw
          clear hw
          repeat' ((conv => whnf); first | (with_reducible first | refine br_t ?_ | refine br_f ?_ | refine za ?_ | refine zg ?_) | refine zp ?_ | refine zq ?_ | (with_reducible first | refine bc (fun h => ?_) (fun h => ?_) | refine zt ?_ | refine zf ?_ | refine br_i (fun h => ?_) (fun h => ?_)) | refine zg ?_ | refine zi ?_ | refine zb ?_)
          all_goals conv => whnf
          all_goals first | rfl | (exfalso; omega)
        · rw [if_neg (fun h => c2 h.2)]
          rw [decide_eq_false c2] at S
          refine fn_ok (by kernel_rfl) ty_ok Tryz.func30 rfl (fun _ _ => Tryz.call30 _ _) rfl ?_
          intro hw
          clear hw
          repeat' ((conv => whnf); first | (with_reducible first | refine br_t ?_ | refine br_f ?_ | refine za ?_ | refine zg ?_) | refine zp ?_ | refine zq ?_ | (with_reducible first | refine bc (fun h => ?_) (fun h => ?_) | refine zt ?_ | refine zf ?_ | refine br_i (fun h => ?_) (fun h => ?_)) | refine zg ?_ | refine zi ?_ | refine zb ?_)
          all_goals conv => whnf
          all_goals first | rfl | (exfalso; omega)
      · rw [if_neg (fun h => c1 h.1)]
        rw [show mtR l = false by simpa using c1] at M
        refine fn_ok (by kernel_rfl) ty_ok Tryz.func30 rfl (fun _ _ => Tryz.call30 _ _) rfl ?_
        intro hw
        clear hw
        repeat' ((conv => whnf); first | (with_reducible first | refine br_t ?_ | refine br_f ?_ | refine za ?_ | refine zg ?_) | refine zp ?_ | refine zq ?_ | (with_reducible first | refine bc (fun h => ?_) (fun h => ?_) | refine zt ?_ | refine zf ?_ | refine br_i (fun h => ?_) (fun h => ?_)) | refine zg ?_ | refine zi ?_ | refine zb ?_)
        all_goals conv => whnf
        all_goals first | rfl | (exfalso; omega)
  · rw [if_pos (by simpa using he)]
    have S := roSame_fn ⟨e, i, j, n, d, l⟩ (rpE e)
    replace S : FnOK Tryz.prog 20 [.agg [i64 e, i64 i, i64 j, i64 n, i64 d, mts l], .agg [i64 e, i64 0, i64 0, i64 0, i64 0, .list 4 []]] (.c (.one (bol (decide ((⟨e, i, j, n, d, l⟩ : Rp) = rpE e))))) := S
    by_cases c1 : 1 ≤ e
    · by_cases c2 : e ≤ 99
      · by_cases c3 : (⟨e, i, j, n, d, l⟩ : Rp) = rpE e
        · rw [if_pos ⟨c1, c2, c3⟩]
          rw [decide_eq_true c3] at S
          refine fn_ok (by kernel_rfl) ty_ok Tryz.func30 rfl (fun _ _ => Tryz.call30 _ _) rfl ?_
          intro hw
          clear hw
          repeat' ((conv => whnf); first | (with_reducible first | refine br_t ?_ | refine br_f ?_ | refine za ?_ | refine zg ?_) | refine zp ?_ | refine zq ?_ | (with_reducible first | refine bc (fun h => ?_) (fun h => ?_) | refine zt ?_ | refine zf ?_ | refine br_i (fun h => ?_) (fun h => ?_)) | refine zg ?_ | refine zi ?_ | refine zb ?_)
          all_goals conv => whnf
          all_goals first | rfl | (exfalso; omega)
        · rw [if_neg (fun h => c3 h.2.2)]
          rw [decide_eq_false c3] at S
          refine fn_ok (by kernel_rfl) ty_ok Tryz.func30 rfl (fun _ _ => Tryz.call30 _ _) rfl ?_
          intro hw
          clear hw
          repeat' ((conv => whnf); first | (with_reducible first | refine br_t ?_ | refine br_f ?_ | refine za ?_ | refine zg ?_) | refine zp ?_ | refine zq ?_ | (with_reducible first | refine bc (fun h => ?_) (fun h => ?_) | refine zt ?_ | refine zf ?_ | refine br_i (fun h => ?_) (fun h => ?_)) | refine zg ?_ | refine zi ?_ | refine zb ?_)
          all_goals conv => whnf
          all_goals first | rfl | (exfalso; omega)
      · rw [if_neg (fun h => c2 h.2.1)]
        refine fn_ok (by kernel_rfl) ty_ok Tryz.func30 rfl (fun _ _ => Tryz.call30 _ _) rfl ?_
        intro hw
        clear hw
        repeat' ((conv => whnf); first | (with_reducible first | refine br_t ?_ | refine br_f ?_ | refine za ?_ | refine zg ?_) | refine zp ?_ | refine zq ?_ | (with_reducible first | refine bc (fun h => ?_) (fun h => ?_) | refine zt ?_ | refine zf ?_ | refine br_i (fun h => ?_) (fun h => ?_)) | refine zg ?_ | refine zi ?_ | refine zb ?_)
        all_goals conv => whnf
        all_goals first | rfl | (exfalso; omega)
    · rw [if_neg (fun h => c1 h.1)]
      refine fn_ok (by kernel_rfl) ty_ok Tryz.func30 rfl (fun _ _ => Tryz.call30 _ _) rfl ?_
      intro hw
      clear hw
      repeat' ((conv => whnf); first | (with_reducible first | refine br_t ?_ | refine br_f ?_ | refine za ?_ | refine zg ?_) | refine zp ?_ | refine zq ?_ | (with_reducible first | refine bc (fun h => ?_) (fun h => ?_) | refine zt ?_ | refine zf ?_ | refine br_i (fun h => ?_) (fun h => ?_)) | refine zg ?_ | refine zi ?_ | refine zb ?_)
      all_goals conv => whnf
      all_goals first | rfl | (exfalso; omega)
end Go.Proofs.YtgdpogdgpfjnoaaGreatDoor

namespace Go.Proofs.YtgdpogdgpfjnoaaGreatDoor
open Go Go.RowKit Go.Sort Sx
open Go.Lib hiding intOf
end Go.Proofs.YtgdpogdgpfjnoaaGreatDoor

namespace Go.Proofs.YtgdpogdgpfjnoaaGreatDoor
open Go Go.RowKit Go.Sort Sx
open Go.Lib hiding intOf
theorem back_cases (s : Str) (n d : Int) : (chk n d = 0 ∧ wrtV n d = s ∧ backV s n d = ((n, d), 0)) ∨ (chk n d = 0 ∧ wrtV n d ≠ s ∧ backV s n d = ((0, 0), 12)) ∨ (chk n d = 8 ∧ backV s n d = ((0, 0), 12)) := by
  by_cases h : chk n d = 0
  · by_cases e : wrtV n d = s
    · exact .inl ⟨h, e, backV_yes h e⟩
    · exact .inr (.inl ⟨h, e, backV_ne e⟩)
  · exact .inr (.inr ⟨(chk_08 n d).resolve_left h, backV_nc h⟩)
theorem fit1 : fitI 1 := ⟨by decide, by decide⟩
theorem rcReadNumber_fn (s : Str) (hs : s.length ≤ 100000) : FnOK Tryz.prog 68 [.one (str s)] (retR3 (readR s)) := by
  have Hs : FnOK Tryz.prog 36 [.one (str s), .one (.v (.int .u8 47))] (.c (.one (strs (spl 47 s)))) := rcCut_fn s 47 hs
  have hl2 := spl_each 47 s
  unfold readR
  cases hL : spl 47 s with
  | nil => exact absurd hL (spl_ne 47 s)
  | cons w0 t =>
    rw [hL] at Hs hl2
    have Ha := rcWhole_fn w0 (Nat.le_trans (hl2 w0 (by simp)) (by omega))
    have hfa : (wholeR w0).2 = true → fitI (wholeR w0).1 := fun h => (wholeR_ok h).1
    have gl : ((w0 :: t).map fun s => [str s]).length = t.length + 1 := by simp
    have g0 : ((w0 :: t).map fun s => [str s])[(0 : Int).toNat]? = some [str w0] := rfl
    simp only [List.getElem?_cons_zero, Option.getD_some, List.length_cons]
    generalize wholeR w0 = p at *
    obtain ⟨pn, pb⟩ := p
    simp only [retWr] at Ha hfa ⊢
    cases t with
    | nil =>
      have gl : ([w0].map fun s => [str s]).length = 1 := rfl
      simp only [List.length_nil, Nat.zero_add, Nat.lt_irrefl, false_implies, and_true, if_false]
      refine fn_ok (by kernel_rfl) ty_ok Tryz.func68 rfl (fun _ _ => Tryz.call68 _ _) rfl ?_
      intro hw
      clear hw
      cases pb
      · rw [if_neg (by decide)]
        repeat' ((conv => whnf); first | (with_reducible first | refine br_t ?_ | refine br_f ?_ | refine za ?_ | refine zg ?_) | refine zsl ?_ | refine zsg ?_ | refine zss ?_ | refine zs1 ?_ | refine zse ?_ | refine zsn ?_ | refine zsc ?_ | (with_reducible first | refine zpa ?_ | refine zqa ?_) | refine zp ?_ | refine zq ?_ | (with_reducible first | refine bc (fun h => ?_) (fun h => ?_) | refine zt ?_ | refine zf ?_ | refine br_i (fun h => ?_) (fun h => ?_)) | refine zg ?_ | refine zi ?_ | refine zb ?_)
        all_goals conv => whnf
        all_goals rfl
      · rw [if_pos rfl]
        have Hn := rcwritten_fn (hfa rfl) fit1
        have Hc := rcheck_fn pn 1
        rcases back_cases s pn 1 with ⟨h, e, b⟩ | ⟨h, e, b⟩ | ⟨h, b⟩
        all_goals rw [h] at Hc
        all_goals rw [b]
        all_goals clear h b
        repeat' ((conv => whnf); first | (with_reducible first | refine br_t ?_ | refine br_f ?_ | refine za ?_ | refine zg ?_) | refine zsl ?_ | refine zsg ?_ | refine zss ?_ | refine zs1 ?_ | refine zse ?_ | refine zsn ?_ | refine zsc ?_ | (with_reducible first | refine zpa ?_ | refine zqa ?_) | refine zp ?_ | refine zq ?_ | (with_reducible first | refine bc (fun h => ?_) (fun h => ?_) | refine zt ?_ | refine zf ?_ | refine br_i (fun h => ?_) (fun h => ?_)) | refine zg ?_ | refine zi ?_ | refine zb ?_)
        all_goals conv => whnf
        all_goals first | rfl | contradiction
    | cons w1 t =>
      have Hb := rcWhole_fn w1 (Nat.le_trans (hl2 w1 (by simp)) (by omega))
      have hfb : (wholeR w1).2 = true → fitI (wholeR w1).1 := fun h => (wholeR_ok h).1
      have g1 : ((w0 :: w1 :: t).map fun s => [str s])[(1 : Int).toNat]? = some [str w1] := rfl
      rw [List.length_cons] at gl
      simp only [List.length_cons, List.getElem?_cons_succ, List.getElem?_cons_zero, Option.getD_some, show 1 < t.length + 1 + 1 from by omega, true_implies, if_true]
      generalize wholeR w1 = q at *
      obtain ⟨qn, qb⟩ := q
      simp only [retWr] at Hb hfb ⊢
      refine fn_ok (by kernel_rfl) ty_ok Tryz.func68 rfl (fun _ _ => Tryz.call68 _ _) rfl ?_
      intro hw
      clear hw
      cases pb
      · rw [if_neg (by simp)]
        repeat' ((conv => whnf); first | (with_reducible first | refine br_t ?_ | refine br_f ?_ | refine za ?_ | refine zg ?_) | refine zsl ?_ | refine zsg ?_ | refine zss ?_ | refine zs1 ?_ | refine zse ?_ | refine zsn ?_ | refine zsc ?_ | (with_reducible first | refine zpa ?_ | refine zqa ?_) | refine zp ?_ | refine zq ?_ | (with_reducible first | refine bc (fun h => ?_) (fun h => ?_) | refine zt ?_ | refine zf ?_ | refine br_i (fun h => ?_) (fun h => ?_)) | refine zg ?_ | refine zi ?_ | refine zb ?_)
        all_goals conv => whnf
        all_goals rfl
      · cases qb
        · rw [if_neg (by simp)]
          repeat' ((conv => whnf); first | (with_reducible first | refine br_t ?_ | refine br_f ?_ | refine za ?_ | refine zg ?_) | refine zsl ?_ | refine zsg ?_ | refine zss ?_ | refine zs1 ?_ | refine zse ?_ | refine zsn ?_ | refine zsc ?_ | (with_reducible first | refine zpa ?_ | refine zqa ?_) | refine zp ?_ | refine zq ?_ | (with_reducible first | refine bc (fun h => ?_) (fun h => ?_) | refine zt ?_ | refine zf ?_ | refine br_i (fun h => ?_) (fun h => ?_)) | refine zg ?_ | refine zi ?_ | refine zb ?_)
          all_goals conv => whnf
          all_goals rfl
        · rw [if_pos ⟨rfl, rfl⟩]
          have Hn := rcwritten_fn (hfa rfl) (hfb rfl)
          have Hc := rcheck_fn pn qn
          rcases back_cases s pn qn with ⟨h, e, b⟩ | ⟨h, e, b⟩ | ⟨h, b⟩
          all_goals rw [h] at Hc
          all_goals rw [b]
          all_goals clear h b
          repeat' ((conv => whnf); first | (with_reducible first | refine br_t ?_ | refine br_f ?_ | refine za ?_ | refine zg ?_) | refine zsl ?_ | refine zsg ?_ | refine zss ?_ | refine zs1 ?_ | refine zse ?_ | refine zsn ?_ | refine zsc ?_ | (with_reducible first | refine zpa ?_ | refine zqa ?_) | refine zp ?_ | refine zq ?_ | (with_reducible first | refine bc (fun h => ?_) (fun h => ?_) | refine zt ?_ | refine zf ?_ | refine br_i (fun h => ?_) (fun h => ?_)) | refine zg ?_ | refine zi ?_ | refine zb ?_)
          all_goals conv => whnf
          all_goals first | rfl | contradiction
end Go.Proofs.YtgdpogdgpfjnoaaGreatDoor

namespace Go.Proofs.YtgdpogdgpfjnoaaGreatDoor
open Go Go.RowKit Go.Sort Sx
open Go.Lib hiding intOf
theorem rtnumber_fn (n d : Int) : FnOK Tryz.prog 114 [.agg [i64 n, i64 d]] (.c (.one (str (numV n d).1))) := by
  have H := rcNumber_fn n d
  obtain ⟨S, hS⟩ : ∃ S, S = (numV n d).1 := ⟨_, rfl⟩
  obtain ⟨E, hE⟩ : ∃ E, E = (numV n d).2 := ⟨_, rfl⟩
  unfold retS at H
  rw [← hS, ← hE] at H
  rw [← hS]
  clear hS hE
  refine fn_ok (by kernel_rfl) ty_ok Tryz.func114 rfl (fun _ _ => Tryz.call114 _ _) rfl ?_
  intro hw
  clear hw
  repeat' ((conv => whnf); first | (with_reducible first | refine br_t ?_ | refine br_f ?_ | refine za ?_ | refine zg ?_) | refine zsl ?_ | refine zsg ?_ | refine zss ?_ | refine zs1 ?_ | refine zse ?_ | refine zsn ?_ | refine zsc ?_ | (with_reducible first | refine zpa ?_ | refine zqa ?_) | refine zp ?_ | refine zq ?_ | (with_reducible first | refine bc (fun h => ?_) (fun h => ?_) | refine zt ?_ | refine zf ?_ | refine br_i (fun h => ?_) (fun h => ?_)) | refine zg ?_ | refine zi ?_ | refine zb ?_)
  all_goals conv => whnf
  all_goals rfl
theorem rtwhole_fn {n : Int} (h : fitI n) : FnOK Tryz.prog 112 [.one (i64 n)] (.c (.one (str (itoa n)))) := by
  have H := rcDecimal_fn n h
  obtain ⟨h1, h2⟩ := h
  refine fn_ok (by kernel_rfl) ty_ok Tryz.func112 rfl (fun _ _ => Tryz.call112 _ _) rfl ?_
  intro hw
  clear hw
  repeat' ((conv => whnf); first | (with_reducible first | refine br_t ?_ | refine br_f ?_ | refine za ?_ | refine zg ?_) | refine zsl ?_ | refine zsg ?_ | refine zss ?_ | refine zs1 ?_ | refine zse ?_ | refine zsn ?_ | refine zsc ?_ | (with_reducible first | refine zpa ?_ | refine zqa ?_) | refine zp ?_ | refine zq ?_ | (with_reducible first | refine bc (fun h => ?_) (fun h => ?_) | refine zt ?_ | refine zf ?_ | refine br_i (fun h => ?_) (fun h => ?_)) | refine zg ?_ | refine zi ?_ | refine zb ?_)
  all_goals conv => whnf
  all_goals rfl
def mText (m : Mt) : Str := joinS (mWords m)
theorem mText_is (m : Mt) : mText m = (((numV m.n m.d).1 ++ [32]) ++ itoa m.i ++ [32]) ++ itoa m.j := by
  unfold mText mWords
  show (numV m.n m.d).1 ++ 32 :: (itoa m.i ++ 32 :: itoa m.j) = _
  simp
theorem numV_len {n d : Int} (h1 : in64 n) (h2 : in64 d) : (numV n d).1.length ≤ 43 := by
  unfold numV
  split
  · exact wrtV_le h1 h2
  · simp
theorem mText_len {m : Mt} (h1 : in64 m.n) (h2 : in64 m.d) (h3 : 0 ≤ m.i) (h4 : m.i < m.j) (h5 : m.j ≤ 65535) : (mText m).length ≤ 87 := by
  rw [mText_is]
  have a := numV_len h1 h2
  have b := itoa_le (n := m.i) ⟨by omega, by omega⟩
  have c := itoa_le (n := m.j) ⟨by omega, by omega⟩
  simp only [List.length_append, List.length_cons, List.length_nil]
  omega
theorem rtthree_fn {m : Mt} (h1 : in64 m.n) (h2 : in64 m.d) (h3 : 0 ≤ m.i) (h4 : m.i < m.j) (h5 : m.j ≤ 65535) : FnOK Tryz.prog 113 [m.dc] (.c (.one (str (mText m)))) := by
  have Hn := rtnumber_fn m.n m.d
  have Hi := rtwhole_fn (n := m.i) ⟨by omega, by omega⟩
  have Hj := rtwhole_fn (n := m.j) ⟨by omega, by omega⟩
  have ln := numV_len h1 h2
  have li := itoa_le (n := m.i) ⟨by omega, by omega⟩
  have lj := itoa_le (n := m.j) ⟨by omega, by omega⟩
  rw [mText_is]
  obtain ⟨S, hS⟩ : ∃ S, S = (numV m.n m.d).1 := ⟨_, rfl⟩
  rw [← hS] at Hn ln ⊢
  clear hS
  obtain ⟨n, d, i, j⟩ := m
  simp only at *
  simp only [Mt.dc]
  refine fn_ok (by kernel_rfl) ty_ok Tryz.func113 rfl (fun _ _ => Tryz.call113 _ _) rfl ?_
  intro hw
  clear hw
  repeat' ((conv => whnf); first | (with_reducible first | refine br_t ?_ | refine br_f ?_ | refine za ?_ | refine zg ?_) | refine zsl ?_ | refine zsg ?_ | refine zss ?_ | refine zs1 ?_ | refine zse ?_ | refine zsn ?_ | refine zsc ?_ | (with_reducible first | refine zpa ?_ | refine zqa ?_) | refine zp ?_ | refine zq ?_ | (with_reducible first | refine bc (fun h => ?_) (fun h => ?_) | refine zt ?_ | refine zf ?_ | refine br_i (fun h => ?_) (fun h => ?_)) | refine zg ?_ | refine zi ?_ | refine zb ?_)
  all_goals conv => whnf
  all_goals rfl
def mtK (l : List Mt) (k : Nat) : Str := wMeet ++ (l.take k).flatMap fun m => 32 :: mText m
theorem mtK_succ {l : List Mt} {k : Nat} (h : k < l.length) : mtK l (k + 1) = mtK l k ++ ([32] ++ mText l[k]) := by
  unfold mtK
  rw [List.take_succ_eq_append_getElem h, List.flatMap_append, List.append_assoc]
  simp
theorem joinS_cons (a : Str) {l : List Str} (h : l ≠ []) : joinS (a :: l) = a ++ 32 :: joinS l := by
  cases l with
  | nil => exact absurd rfl h
  | cons b l => rfl
theorem joinS_words : ∀ (w : Str) (l : List Mt), joinS (w :: l.flatMap mWords) = w ++ l.flatMap fun m => 32 :: mText m
  | w, [] => by simp [joinS]
  | w, m :: l => by
    have ih := joinS_words (itoa m.j) l
    rw [List.flatMap_cons, List.flatMap_cons]
    show joinS (w :: (numV m.n m.d).1 :: itoa m.i :: itoa m.j :: l.flatMap mWords) = _
    rw [joinS_cons w (by simp), joinS_cons _ (by simp), joinS_cons _ (by simp), ih, mText_is]
    simp
theorem mtK_all {l : List Mt} (h : l ≠ []) : mtK l l.length = rText ⟨0, 0, 0, 0, 0, l⟩ := by
  unfold mtK rText
  rw [List.take_length, words_m h, joinS_words]
theorem mtK_len {l : List Mt} (h : ∀ m ∈ l, (mText m).length ≤ 87) : ∀ k ≤ l.length, (mtK l k).length ≤ 8 + 88 * k
  | 0, _ => by simp [mtK, wMeet]
  | k + 1, hk => by
    have ih := mtK_len h k (by omega)
    have := h l[k] (List.getElem_mem _)
    rw [mtK_succ (by omega)]
    simp only [List.length_append, List.length_cons, List.length_nil]
    omega
set_option maxRecDepth 100000 in
set_option maxHeartbeats 4000000 in
theorem rttext_fn (r : Rp) (h0 : rchk r = 0) : FnOK Tryz.prog 62 [r.dc] (.c (.one (str (rText r)))) := by
  rcases rchk_cases h0 with ⟨h1, h2, h3⟩ | ⟨h1, h2, h3⟩ | ⟨h0, h1, h2, h3, h4⟩ | ⟨h0, h1, h2, h3, h4, h5, h6⟩ | h1
  · have hE : rText (rpE r.e) = [101, 114, 114, 111, 114, 32] ++ itoa r.e := by unfold rText; rw [words_e (by omega)]; rfl
    rw [h3]
    simp only [rpE] at hE ⊢
    rw [hE]
    clear h3 h0 hE
    have hx := rtwhole_fn (n := r.e) ⟨by omega, by omega⟩
    have hl := itoa_le (n := r.e) ⟨by omega, by omega⟩
    generalize r.e = e at *
    show FnOK Tryz.prog 62 [.agg [i64 e, i64 0, i64 0, i64 0, i64 0, .list 4 []]] _
    refine fn_ok (by kernel_rfl) ty_ok Tryz.func62 rfl (fun _ _ => Tryz.call62 _ _) rfl ?_
    intro hw
    clear hw
    repeat' ((conv => whnf); first | (with_reducible first | refine br_t ?_ | refine br_f ?_ | refine za ?_ | refine zg ?_) | refine zsl ?_ | refine zsg ?_ | refine zss ?_ | refine zs1 ?_ | refine zse ?_ | refine zsn ?_ | refine zsc ?_ | (with_reducible first | refine zpa ?_ | refine zqa ?_) | refine zp ?_ | refine zq ?_ | (with_reducible first | refine bc (fun h => ?_) (fun h => ?_) | refine zt ?_ | refine zf ?_ | refine br_i (fun h => ?_) (fun h => ?_)) | refine zg ?_ | refine zi ?_ | refine zb ?_)
    all_goals conv => whnf
    all_goals rfl
  · have hp : 0 < r.ms.length := List.length_pos_iff.2 h1
    have hll : (r.ms.map Mt.c).length = r.ms.length := List.length_map ..
    have hle : r.ms.length ≤ 2016 := by unfold mtR at h2; simp only [Bool.and_eq_true, decide_eq_true_eq] at h2; exact h2.2
    have hmo := mRun_ok (p := none) (l := r.ms) (by unfold mtR at h2; simp only [Bool.and_eq_true] at h2; exact h2.1)
    have hT := mtK_all h1
    rw [h3, ← hT]
    clear h3 h0 hT h2
    generalize r.ms = l at *
    simp only [Rp.dc]
    refine fn_ok (by kernel_rfl) ty_ok Tryz.func62 rfl (fun _ _ => Tryz.call62 _ _) rfl ?_
    intro hw
    have hwl : ∀ m ∈ l, in64 m.n ∧ in64 m.d := fun m hm => by
      have h := hw.1.2.2.2.2.2.1
      obtain ⟨_, _, h3⟩ := WD_list.1 h
      have h4 := h3 m.c (List.mem_map_of_mem hm)
      exact ⟨wd_i64.1 (h4 _ (by simp [Mt.c])), wd_i64.1 (h4 _ (by simp [Mt.c]))⟩
    clear hw
    have hml : ∀ m ∈ l, (mText m).length ≤ 87 := fun m hm => by
      obtain ⟨c1, c2, c3, c4⟩ := mOk_i.1 (hmo m hm)
      exact mText_len (hwl m hm).1 (hwl m hm).2 c2 c3 c4
    have hlk := mtK_len hml
    have e0 : mtK l 0 = [109, 101, 101, 116, 105, 110, 103, 115] := by unfold mtK; simp [wMeet]
    repeat' ((conv => whnf); first | (with_reducible first | refine br_t ?_ | refine br_f ?_ | refine za ?_ | refine zg ?_) | refine zsl ?_ | refine zsg ?_ | refine zss ?_ | refine zs1 ?_ | refine zse ?_ | refine zsn ?_ | refine zsc ?_ | (with_reducible first | refine zpa ?_ | refine zqa ?_) | refine zp ?_ | refine zq ?_ | (with_reducible first | refine bc (fun h => ?_) (fun h => ?_) | refine zt ?_ | refine zf ?_ | refine br_i (fun h => ?_) (fun h => ?_)) | refine zg ?_ | refine zi ?_ | refine zb ?_)
    all_goals conv => whnf
    refine loop_J (by kernel_rfl) ty_ok (σ := Nat) (fun i => [(4, sV (.int .i64 (i : Nat))), (3, sD (str (mtK l i)))]) (fun _ => []) (fun i => i ≤ l.length) (fun i => l.length - i) 0 (Nat.zero_le _) ?_ ?_
    · rw [e0]
      (conv => whnf); exact zent
    intro i hi
    have hTi := hlk i hi
    rcases Nat.lt_or_ge i l.length with hlt | hge
    · have hel := mts_get hlt
      have hs := mtK_succ hlt
      have hlS := hml _ (List.getElem_mem hlt)
      have h3 : FnOK Tryz.prog 113 [(l[i]).dc] (.c (.one (str (mText l[i])))) := by
        obtain ⟨c1, c2, c3, c4⟩ := mOk_i.1 (hmo _ (List.getElem_mem hlt))
        obtain ⟨g1, g2⟩ := hwl _ (List.getElem_mem hlt)
        exact rtthree_fn g1 g2 c2 c3 c4
      clear hmo hwl hml hlk
      generalize mText l[i] = S at *
      generalize l[i] = m at *
      obtain ⟨m1, m2, m3, m4⟩ := m
      simp only [Mt.dc] at h3
      simp only at hel
      have ew : IntKind.i64.wrap ((i : Int) + 1) = ((i + 1 : Nat) : Int) := by rw [IntWalk.i64_in _ (by omega)]; omega
      repeat' ((conv => whnf); first | (with_reducible first | refine br_t ?_ | refine br_f ?_ | refine za ?_ | refine zg ?_) | refine zsl ?_ | refine zsg ?_ | refine zss ?_ | refine zs1 ?_ | refine zse ?_ | refine zsn ?_ | refine zsc ?_ | (with_reducible first | refine zpa ?_ | refine zqa ?_) | refine zp ?_ | refine zq ?_ | (with_reducible first | refine bc (fun h => ?_) (fun h => ?_) | refine zt ?_ | refine zf ?_ | refine br_i (fun h => ?_) (fun h => ?_)) | refine zg ?_ | refine zi ?_ | refine zb ?_)
      all_goals conv => whnf
      refine ⟨i + 1, by omega, ?_, by omega⟩
      rw [hs, ← ew]
      (conv => whnf); exact zent
    · obtain rfl : i = l.length := by omega
      repeat' ((conv => whnf); first | (with_reducible first | refine br_t ?_ | refine br_f ?_ | refine za ?_ | refine zg ?_) | refine zsl ?_ | refine zsg ?_ | refine zss ?_ | refine zs1 ?_ | refine zse ?_ | refine zsn ?_ | refine zsc ?_ | (with_reducible first | refine zpa ?_ | refine zqa ?_) | refine zp ?_ | refine zq ?_ | (with_reducible first | refine bc (fun h => ?_) (fun h => ?_) | refine zt ?_ | refine zf ?_ | refine br_i (fun h => ?_) (fun h => ?_)) | refine zg ?_ | refine zi ?_ | refine zb ?_)
      all_goals conv => whnf
      all_goals rfl
  · have hE : in64 r.n → in64 r.d → rText ⟨0, r.i, 0, r.n, r.d, []⟩ = (([108, 101, 97, 100, 101, 114, 32] ++ itoa r.i) ++ [32]) ++ (numV r.n r.d).1 := fun _ _ => by unfold rText; rw [words_l h0]; show wLeader ++ 32 :: (itoa r.i ++ 32 :: _) = _; simp [wLeader, joinS]
    rw [h4]
    clear h4
    have hx := rtwhole_fn (n := r.i) ⟨by omega, by omega⟩
    have hl := itoa_le (n := r.i) ⟨by omega, by omega⟩
    have hn := rtnumber_fn r.n r.d
    have ln := @numV_len r.n r.d
    generalize (numV r.n r.d).1 = S at *
    generalize rText ⟨0, r.i, 0, r.n, r.d, []⟩ = T at *
    generalize r.i = i at *
    generalize r.n = n at *
    generalize r.d = d at *
    show FnOK Tryz.prog 62 [.agg [i64 0, i64 i, i64 0, i64 n, i64 d, .list 4 []]] _
    refine fn_ok (by kernel_rfl) ty_ok Tryz.func62 rfl (fun _ _ => Tryz.call62 _ _) rfl ?_
    intro hw
    have hw1 : in64 n ∧ in64 d := by
      simp only [WDCs, WDC, WDs, wd_i64] at hw
      unfold in64; omega
    clear hw
    have ln := ln hw1.1 hw1.2
    rw [hE hw1.1 hw1.2]
    clear hE
    repeat' ((conv => whnf); first | (with_reducible first | refine br_t ?_ | refine br_f ?_ | refine za ?_ | refine zg ?_) | refine zsl ?_ | refine zsg ?_ | refine zss ?_ | refine zs1 ?_ | refine zse ?_ | refine zsn ?_ | refine zsc ?_ | (with_reducible first | refine zpa ?_ | refine zqa ?_) | refine zp ?_ | refine zq ?_ | (with_reducible first | refine bc (fun h => ?_) (fun h => ?_) | refine zt ?_ | refine zf ?_ | refine br_i (fun h => ?_) (fun h => ?_)) | refine zg ?_ | refine zi ?_ | refine zb ?_)
    all_goals conv => whnf
    all_goals rfl
  · have hE : in64 r.n → in64 r.d → rText ⟨0, r.i, r.j, r.n, r.d, []⟩ = (([112, 97, 105, 114, 32] ++ itoa r.i) ++ [32] ++ itoa r.j ++ [32]) ++ (numV r.n r.d).1 := fun _ _ => by unfold rText; rw [words_p h0 (by omega)]; show wPair ++ 32 :: (itoa r.i ++ 32 :: (itoa r.j ++ 32 :: _)) = _; simp [wPair, joinS]
    rw [h6]
    clear h6
    have hx := rtwhole_fn (n := r.i) ⟨by omega, by omega⟩
    have hl := itoa_le (n := r.i) ⟨by omega, by omega⟩
    have hx2 := rtwhole_fn (n := r.j) ⟨by omega, by omega⟩
    have hl2 := itoa_le (n := r.j) ⟨by omega, by omega⟩
    have hn := rtnumber_fn r.n r.d
    have ln := @numV_len r.n r.d
    generalize (numV r.n r.d).1 = S at *
    generalize rText ⟨0, r.i, r.j, r.n, r.d, []⟩ = T at *
    generalize r.i = i at *
    generalize r.j = j at *
    generalize r.n = n at *
    generalize r.d = d at *
    show FnOK Tryz.prog 62 [.agg [i64 0, i64 i, i64 j, i64 n, i64 d, .list 4 []]] _
    refine fn_ok (by kernel_rfl) ty_ok Tryz.func62 rfl (fun _ _ => Tryz.call62 _ _) rfl ?_
    intro hw
    have hw1 : in64 n ∧ in64 d := by
      simp only [WDCs, WDC, WDs, wd_i64] at hw
      unfold in64; omega
    clear hw
    have ln := ln hw1.1 hw1.2
    rw [hE hw1.1 hw1.2]
    clear hE
    repeat' ((conv => whnf); first | (with_reducible first | refine br_t ?_ | refine br_f ?_ | refine za ?_ | refine zg ?_) | refine zsl ?_ | refine zsg ?_ | refine zss ?_ | refine zs1 ?_ | refine zse ?_ | refine zsn ?_ | refine zsc ?_ | (with_reducible first | refine zpa ?_ | refine zqa ?_) | refine zp ?_ | refine zq ?_ | (with_reducible first | refine bc (fun h => ?_) (fun h => ?_) | refine zt ?_ | refine zf ?_ | refine br_i (fun h => ?_) (fun h => ?_)) | refine zg ?_ | refine zi ?_ | refine zb ?_)
    all_goals conv => whnf
    all_goals rfl
  · subst h1
    show FnOK Tryz.prog 62 [.agg [i64 0, i64 0, i64 0, i64 0, i64 0, .list 4 []]] (.c (.one (str [100, 111, 110, 101])))
    refine fn_ok (by kernel_rfl) ty_ok Tryz.func62 rfl (fun _ _ => Tryz.call62 _ _) rfl ?_
    intro hw
    clear hw
    repeat' ((conv => whnf); first | (with_reducible first | refine br_t ?_ | refine br_f ?_ | refine za ?_ | refine zg ?_) | refine zsl ?_ | refine zsg ?_ | refine zss ?_ | refine zs1 ?_ | refine zse ?_ | refine zsn ?_ | refine zsc ?_ | (with_reducible first | refine zpa ?_ | refine zqa ?_) | refine zp ?_ | refine zq ?_ | (with_reducible first | refine bc (fun h => ?_) (fun h => ?_) | refine zt ?_ | refine zf ?_ | refine br_i (fun h => ?_) (fun h => ?_)) | refine zg ?_ | refine zi ?_ | refine zb ?_)
    all_goals conv => whnf
    all_goals rfl
theorem rtReply_fn (r : Rp) (hl0 : r.ms.length ≤ 1000000) : FnOK Tryz.prog 28 [r.dc] (retS (replyV r)) := by
  have Hc := rtCheck_fn r hl0
  unfold replyV
  by_cases h0 : rchk r = 0
  · rw [if_pos h0]
    rw [h0] at Hc
    have Ht := rttext_fn r h0
    obtain ⟨T, hT⟩ : ∃ T, T = rText r := ⟨_, rfl⟩
    rw [← hT] at Ht ⊢
    obtain ⟨e, i, j, n, d, l⟩ := r
    simp only [Rp.dc] at *
    refine fn_ok (by kernel_rfl) ty_ok Tryz.func28 rfl (fun _ _ => Tryz.call28 _ _) rfl ?_
    intro hw
    clear hw
    repeat' ((conv => whnf); first | (with_reducible first | refine br_t ?_ | refine br_f ?_ | refine za ?_ | refine zg ?_) | refine zsl ?_ | refine zsg ?_ | refine zss ?_ | refine zs1 ?_ | refine zse ?_ | refine zsn ?_ | refine zsc ?_ | (with_reducible first | refine zpa ?_ | refine zqa ?_) | refine zp ?_ | refine zq ?_ | (with_reducible first | refine bc (fun h => ?_) (fun h => ?_) | refine zt ?_ | refine zf ?_ | refine br_i (fun h => ?_) (fun h => ?_)) | refine zg ?_ | refine zi ?_ | refine zb ?_)
    all_goals conv => whnf
    all_goals rfl
  · rw [if_neg h0]
    rw [(rchk_08 r).resolve_left h0] at Hc
    obtain ⟨e, i, j, n, d, l⟩ := r
    simp only [Rp.dc] at *
    refine fn_ok (by kernel_rfl) ty_ok Tryz.func28 rfl (fun _ _ => Tryz.call28 _ _) rfl ?_
    intro hw
    clear hw
    repeat' ((conv => whnf); first | (with_reducible first | refine br_t ?_ | refine br_f ?_ | refine za ?_ | refine zg ?_) | refine zsl ?_ | refine zsg ?_ | refine zss ?_ | refine zs1 ?_ | refine zse ?_ | refine zsn ?_ | refine zsc ?_ | (with_reducible first | refine zpa ?_ | refine zqa ?_) | refine zp ?_ | refine zq ?_ | (with_reducible first | refine bc (fun h => ?_) (fun h => ?_) | refine zt ?_ | refine zf ?_ | refine br_i (fun h => ?_) (fun h => ?_)) | refine zg ?_ | refine zi ?_ | refine zb ?_)
    all_goals conv => whnf
    all_goals rfl
end Go.Proofs.YtgdpogdgpfjnoaaGreatDoor
