/- A symbolic walk: one operation, whatever it is. No conditions beyond what the types' table says. -/
import Derived.Test.YtkobebnijkanhaaSxE
namespace Go.Proofs.Ytkobebnijkanhaa
open Go Go.RowKit

set_option linter.unusedVariables false
namespace Sx
section
variable {P : Program} {M0 : Nat → Prop} {w0 w : World} {sz : Nat} {ρ : Nat → Nat} {E : Env} {H : Hp} {a : Act} {o : Oper} {x : Eff}

theorem run_places' {P : Program} (w : World) : ∀ (F : List Field) (fs : List (Nat × Nat × Bool)), F.length = fs.length →
    (∀ (i : Nat) (x : Nat × Nat × Bool), fs[i]? = some x → ∃ f : Field, F[i]? = some f ∧ f.offset = x.1 ∧ (∀ w, (sizeOf f.type).run P w = .ok x.2.1 w) ∧ (∀ w, (isAgg f.type).run P w = .ok x.2.2 w)) →
    (F.mapM (fun f => do pure (f.offset, ← sizeOf f.type) : Field → Sem (Nat × Nat))).run P w = .ok (fs.map fun x => (x.1, x.2.1)) w
  | [], [], _, _ => rfl
  | f :: F, x :: fs, hl, h => by
    obtain ⟨f', h1, h2, h3, _⟩ := h 0 x rfl
    have h1 : f = f' := by simpa using h1
    subst h1
    have ih := run_places' (P := P) w F fs (by simpa using hl) (fun i y hy => by simpa using h (i + 1) y (by simpa using hy))
    simp only [List.mapM_cons, Sem.run_bind, h3, Result.andThen_ok, Sem.run_pure, ih, List.map_cons, h2]
  | [], _ :: _, hl, _ => by simp at hl
  | _ :: _, [], hl, _ => by simp at hl

theorem st_build (R : Rel M0 w0 sz ρ E H a w) {t n : Nat} {z : List D} {fs : List (Nat × Nat × Bool)} (ht : TyOK P t (.st n z fs)) {ps : Array (Nat × Operand)} (ho : o.op = .build t ps) {l : List At}
    (hb : stepV.buildA fs (z.map .d) (ps.toList.map (·.1)) (ps.toList.map fun p => ev (look E) p.2) = some l) (h : (retD sz o.dst (.c (.agg l))).has x) : StepOK P M0 w0 sz E H o x a w := by
  obtain ⟨d, hd, hlt, rfl⟩ := retD_has h
  obtain ⟨zv, hz, hD⟩ := ht.2.2.1
  obtain ⟨F, hF, hFl, hfs⟩ := ht.2.2.2
  have hpl := run_places' (P := P) w F.toList fs (by simpa using hFl) (by simpa using hfs)
  obtain ⟨cs', e1, e2, e3⟩ := fill_ok (place := fun i => (fs.map fun x => (x.1, x.2.1)).toArray[i]?) (fs := fs) (fun i x hx => by simp [hx]) ps.toList (z.map .d) zv.cells l (by simp [names_map_d]) R (DsR.ats.1 (hD _ _)) hb
  refine ok_val R (v := .agg cs') ?_ hd hlt ⟨cs'.toList, by simp, e2⟩ e3
  have hp : (ps.map fun (i, x) => (i, a.eval x)).toList = ps.toList.map fun p => (p.1, a.eval p.2) := by simp
  simp only [execOp, ho, Sem.run_bind, Instr.build, hz, Result.andThen_ok, run_underlying_of hF, Array.mapM_eq_mapM_toList, Sem.run_map, hpl, hp, e1, Sem.run_pure]

variable {Γ : List (Nat × TD)}

/-- the symbolic step of one operation is what it does -/
theorem step_sound (hΓ : ∀ t td, look Γ t = some td → TyOK P t td) (R : Rel M0 w0 sz ρ E H a w) (h : (stepF P Γ sz o (look E) (look H)).has x) : StepOK P M0 w0 sz E H o x a w := by
  unfold stepF at h
  have honly : ∀ n b, onlyN (look H) (namesO (valsOf (look E) o)) n = some b → look H n = some b := fun n b hb => by
    unfold onlyN at hb
    split at hb
    · exact hb
    · cases hb
  have hfresh : ∀ d, o.dst = some d → freshB (look H) o.dst = true → look H d = none := fun d hd hf => by
    rw [hd] at hf
    simpa [freshB] using hf
  generalize onlyN (look H) (namesO (valsOf (look E) o)) = hh at h honly
  generalize freshB (look H) o.dst = fr at h hfresh
  have hvals : valsOf (look E) o = o.op.operands.toList.map (ev (look E)) := rfl
  generalize valsOf (look E) o = vals at h hvals
  unfold stepV at h
  split at h
  · rename_i y s ho
    rw [ho] at hvals
    exact st_move R (.inl ho) (by simpa [Op.operands, eq_comm] using hvals) h
  · rename_i y s ho
    rw [ho] at hvals
    exact st_move R (.inr ho) (by simpa [Op.operands, eq_comm] using hvals) h
  · rename_i yc ya yb b sx sy ho
    rw [ho] at hvals
    simp only [Op.operands, List.map_cons, List.map_nil, List.cons.injEq, and_true] at hvals
    split at h
    · rename_i x1 x2
      obtain ⟨d, hd, hlt, h⟩ := guardD_has h
      have hc : Rep w (Mof M0 ρ H) (.v (.bool b)) (a.eval yc) := (ev_ok R hvals.1.symm).1
      generalize hcv : a.eval yc = u at hc
      cases hc
      rcases h with ⟨hb, h⟩ | ⟨hb, h⟩
      · have h : Eff.val _ = x := h
        subst h hb
        have k := ev_ok R hvals.2.1.symm
        exact ok_val R (v := a.eval ya) (by simp [execOp, ho, hcv, asBool]) hd hlt k.1 k.2
      · have h : Eff.val _ = x := h
        subst h hb
        have k := ev_ok R hvals.2.2.symm
        exact ok_val R (v := a.eval yb) (by simp [execOp, ho, hcv, asBool]) hd hlt k.1 k.2
    · exact h.elim
  · rename_i t ho
    split at h
    · rename_i td d ht hd
      obtain ⟨d', hd', hlt, h⟩ := guardD_has h
      have : d' = d := by rw [hd'] at hd; injection hd
      subst this
      have h : Eff.new _ _ _ = x := h
      subst h
      exact st_alloc R (hΓ _ _ ht) ho hd' hlt (hfresh _ hd' rfl)
    · exact h.elim
  · rename_i t y s ho
    rw [ho] at hvals
    split at h
    · rename_i d hd
      obtain ⟨d', hd', hlt, h⟩ := guardD_has h
      have : d' = d := by rw [hd'] at hd; injection hd
      subst this
      have h : Eff.new _ _ _ = x := h
      subst h
      exact st_box R ho (by simpa [Op.operands, eq_comm] using hvals) hd' hlt (hfresh _ hd' rfl)
    · exact h.elim
  · rename_i t y n off ho
    rw [ho] at hvals
    split at h
    · rename_i td cs ht hb
      split at h
      · rename_i s hp
        exact st_load R (hΓ _ _ ht) ho (by simpa [Op.operands, eq_comm] using hvals) (honly _ _ hb) hp h
      · exact h.elim
    · exact h.elim
  · rename_i t y k l i off ho
    rw [ho] at hvals
    split at h
    · rename_i td ht
      obtain ⟨d, hd, hlt, e, ⟨h1, h2⟩, rfl⟩ := guardD_has h
      exact st_loadEl R (hΓ _ _ ht) ho (by simpa [Op.operands, eq_comm] using hvals) h1 h2 hd hlt
    · exact h.elim
  · rename_i t y z n off s ho
    rw [ho] at hvals
    simp only [Op.operands, List.map_cons, List.map_nil, List.cons.injEq, and_true] at hvals
    split at h
    · rename_i td cs ht hb hd
      split at h
      · rename_i h1 h2
        have h : Eff.put _ _ = x := h
        subst h
        exact st_store R (hΓ _ _ ht) ho hvals.1.symm hvals.2.symm (honly _ _ hb) hd (by simpa using h1) (by simpa using h2)
      · exact h.elim
    · exact h.elim
  · rename_i t y i n off ho
    rw [ho] at hvals
    split at h
    · rename_i n' z fs ht
      split at h
      · rename_i fo fz fa hf
        split at h
        · rename_i hz
          exact st_fieldAddr R (hΓ _ _ ht) ho (by simpa [Op.operands, eq_comm] using hvals) hf (by rintro rfl; exact absurd hz (by decide)) h
        · exact h.elim
      · exact h.elim
    · exact h.elim
  · rename_i t y i k l j off ho
    rw [ho] at hvals
    split at h
    · rename_i n' z fs ht
      split at h
      · rename_i fo fz fa hf
        split at h
        · rename_i hz
          exact st_fieldAddrEl R (hΓ _ _ ht) ho (by simpa [Op.operands, eq_comm] using hvals) hf (by rintro rfl; exact absurd hz (by decide)) h
        · exact h.elim
      · exact h.elim
    · exact h.elim
  · rename_i t y i l ho
    rw [ho] at hvals
    split at h
    · rename_i n' z fs ht
      split at h
      · rename_i fo fz fa hf
        split at h
        · rename_i s hp
          exact st_field R (hΓ _ _ ht) ho (by simpa [Op.operands, eq_comm] using hvals) hf hp h
        · exact h.elim
      · exact h.elim
    · exact h.elim
  · rename_i y n off ho
    rw [ho] at hvals
    exact st_nil R ho (by simpa [Op.operands, eq_comm] using hvals) h
  · rename_i y k l i off ho
    rw [ho] at hvals
    exact st_nilEl R ho (by simpa [Op.operands, eq_comm] using hvals) h
  · rename_i op t y z ty vy vz ho
    rw [ho] at hvals
    simp only [Op.operands, List.map_cons, List.map_nil, List.cons.injEq, and_true] at hvals
    have ey := ev_ok R hvals.1.symm
    have ez := ev_ok R hvals.2.symm
    split at h
    · rename_i k m k' n hm hn
      have hy := svV_rel hm ey.1
      have hz := svV_rel hn ez.1
      have wm : inK k m := svV_wf hm ey.1
      have wn : inK k' n := svV_wf hn ez.1
      have fin : ∀ r, (binOp op t (.int k m) (.int k' n)).run P w = .ok r w → r.oneCell' = true ∧ wfV r → ∀ d, o.dst = some d → d < sz → StepOK P M0 w0 sz E H o (.val (sV r)) a w := fun r hr h1 d hd hlt =>
        st_pure R (run_op_bin ho hy hz (run_bin_int hr)) h1.1 h1.2 hd hlt
      split at h
      · rename_i hk
        have := sameK_eq hk
        subst this
        split at h
        · obtain ⟨d, hd, hlt, h1, h⟩ := guardD_has h
          have h : Eff.val _ = x := h
          subst h
          exact fin _ (run_quo h1) ⟨rfl, inK_wrap _ _⟩ d hd hlt
        · obtain ⟨d, hd, hlt, h1, h⟩ := guardD_has h
          have h : Eff.val _ = x := h
          subst h
          exact fin _ (run_rem h1) ⟨rfl, wf_tmod (wm) (wn) h1⟩ d hd hlt
        · obtain ⟨d, hd, hlt, h1, h⟩ := guardD_has h
          have h : Eff.val _ = x := h
          subst h
          exact fin _ (run_shl h1) ⟨rfl, inK_wrap _ _⟩ d hd hlt
        · obtain ⟨d, hd, hlt, h1, h⟩ := guardD_has h
          have h : Eff.val _ = x := h
          subst h
          exact fin _ (run_shr h1) ⟨rfl, wf_fdiv _ wm⟩ d hd hlt
        · split at h
          · rename_i v hv
            obtain ⟨d, hd, hlt, rfl⟩ := retD_has h
            have := run_binI (P := P) (w := w) (t := t) hv
            exact fin _ this.1 this.2 d hd hlt
          · exact h.elim
      · split at h
        · obtain ⟨d, hd, hlt, h1, h⟩ := guardD_has h
          have h : Eff.val _ = x := h
          subst h
          exact fin _ (run_shl h1) ⟨rfl, inK_wrap _ _⟩ d hd hlt
        · obtain ⟨d, hd, hlt, h1, h⟩ := guardD_has h
          have h : Eff.val _ = x := h
          subst h
          exact fin _ (run_shr h1) ⟨rfl, wf_fdiv _ wm⟩ d hd hlt
        · exact h.elim
    · rename_i p q hm hn
      have hy := svV_rel hm ey.1
      have hz := svV_rel hn ez.1
      split at h
      · rename_i ht
        obtain ⟨d, hd, hlt, rfl⟩ := retD_has h
        exact st_pure R (run_op_bin ho hy hz (run_bin_bool (run_eql_bool w t p q (hΓ _ _ ht).2.2.2))) rfl trivial hd hlt
      · rename_i ht
        obtain ⟨d, hd, hlt, rfl⟩ := retD_has h
        exact st_pure R (run_op_bin ho hy hz (run_bin_bool (run_neq_bool w t p q (hΓ _ _ ht).2.2.2))) rfl trivial hd hlt
      · exact h.elim
    · rename_i u v _ _ hm hn
      have hy := svV_rel hm ey.1
      have hz := svV_rel hn ez.1
      obtain ⟨d, hd, hlt, r, ⟨h1, hw, h2⟩, h⟩ := guardD_has h
      have h : Eff.val _ = x := h
      subst h
      exact st_pure R (run_op_bin ho hy hz (h2 w)) h1 hw hd hlt
    · exact h.elim
  · rename_i op ty y v ho
    rw [ho] at hvals
    split at h
    · rename_i r hr
      exact st_un R ho (by simpa [Op.operands, eq_comm] using hvals) hr h
    · exact h.elim
  · rename_i s t y v ho
    rw [ho] at hvals
    have ey := ev_ok R (show ev (look E) y = some (sV v) by simpa [Op.operands, eq_comm, sV] using hvals)
    have hy : Rep w (Mof M0 ρ H) (.v v) (a.eval y) := ey.1
    generalize hyv : a.eval y = u at hy
    cases hy
    split at h
    · rename_i k0 k1 k2 n hs ht _ _
      obtain ⟨d, hd, hlt, rfl⟩ := retD_has h
      refine st_pure R ?_ rfl (inK_wrap _ _) hd hlt
      simp only [execOp, ho, hyv, convert, Sem.run_bind, run_underlying_of (hΓ _ _ hs).2.2.2, run_underlying_of (hΓ _ _ ht).2.2.2, Result.andThen_ok, Conv.intToInt, Sem.run_pure]
    · obtain ⟨d, hd, hlt, r, ⟨h1, hw, h2⟩, h⟩ := guardD_has h
      have h : Eff.val _ = x := h
      subst h
      refine st_pure R ?_ h1 hw hd hlt
      simp only [execOp, ho, hyv, Sem.run_bind, h2, Result.andThen_ok, Sem.run_pure]
  · rename_i y i l ho
    rw [ho] at hvals
    split at h
    · rename_i s r hl
      exact st_extract R ho (by simpa [Op.operands, eq_comm] using hvals) hl h
    · exact h.elim
  · rename_i t ps ho
    rw [ho] at hvals
    split at h
    · rename_i n z fs ht
      split at h
      · rename_i l hl
        refine st_build R (hΓ _ _ ht) ho ?_ h
        rw [hvals] at hl
        simpa [Op.operands, Function.comp_def] using hl
      · exact h.elim
    · exact h.elim
  · rename_i fo args ts f vs ho
    rw [ho] at hvals
    simp only [Op.operands, Call.operands] at hvals
    split at h
    · rename_i ar har
      obtain ⟨d, hd, hlt, r, h1, h⟩ := guardD_has h
      have h : Eff.val _ = x := h
      subst h
      simp only [Array.toList_append, List.map_cons, List.cons_append, List.nil_append, List.cons.injEq] at hvals
      rw [hvals.2] at har
      exact st_call R (c := ⟨.value fo, args, ts⟩) ho rfl hvals.1.symm har h1 hd hlt
    · exact h.elim
  · rename_i args ts k l ho
    rw [ho] at hvals
    simp only [Op.operands, Call.operands] at hvals
    split at h
    · rename_i ek ea ht
      split at h
      · rename_i hts
        have hts : 0 < ts.size := by simpa using hts
        simp only [Array.toList_append, List.nil_append] at hvals
        obtain ⟨y, hy⟩ : ∃ y, args.toList = [y] := by
          have := congrArg List.length hvals
          simp at this
          exact List.length_eq_one_iff.1 (by simpa using this.symm)
        rw [hy] at hvals
        refine st_len R (c := ⟨.builtin .len, args, ts⟩) (hΓ _ _ ht) ho rfl ?_ hy (by simpa [eq_comm] using hvals) h
        simp [Array.getElem?_eq_getElem hts]
      · exact h.elim
    · exact h.elim
  · rename_i t y z k l ik i ho
    rw [ho] at hvals
    simp only [Op.operands, List.map_cons, List.map_nil, List.cons.injEq, and_true] at hvals
    split at h
    · rename_i ek ea ht
      split at h
      · rename_i hk
        have hk : ek = k := by simpa using hk
        subst hk
        obtain ⟨d, hd, hlt, h1, h⟩ := guardD_has h
        have h : Eff.val _ = x := h
        subst h
        exact st_index R (hΓ _ _ ht) ho hvals.1.symm hvals.2.symm h1 hd hlt
      · exact h.elim
    · exact h.elim
  · exact h.elim
end
end Sx
end Go.Proofs.Ytkobebnijkanhaa
