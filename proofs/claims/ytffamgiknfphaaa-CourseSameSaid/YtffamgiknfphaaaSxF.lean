/- A symbolic walk: one operation, whatever it is. No conditions beyond what the types' table says. -/
import Derived.Test.YtffamgiknfphaaaSxE
namespace Go.Proofs.Ytffamgiknfphaaa
open Go Go.RowKit

set_option linter.unusedVariables false
namespace Sx
section
variable {P : Program} {M0 : Nat → Prop} {w0 w : World} {sz : Nat} {ρ : Nat → Nat} {E : Env} {H : Hp} {a : Act} {o : Oper} {x : Eff}

theorem run_places' {P : Program} (w : World) : ∀ (F : List Field) (fs : List (Nat × Nat × Bool)), F.length = fs.length →
    (∀ (i : Nat) (x : Nat × Nat × Bool), fs[i]? = some x → ∃ f : Field, F[i]? = some f ∧ f.offset = x.1 ∧ (∀ w, (sizeOf f.type).run P w = .ok x.2.1 w) ∧ (∀ w, (isAgg f.type).run P w = .ok x.2.2 w)) →
    (F.mapM (fun f => do pure (f.offset, ← sizeOf f.type) : Field → Sem (Nat × Nat))).run P w = .ok (fs.map fun x => (x.1, x.2.1)) w
  | [], [], _, _ => rfl
  | f :: F, x :: fs, hl, h => by
    obtain ⟨f', h1, h2, h3, _⟩ := h 0 x rfl
    have h1 : f = f' := by simpa using h1
    subst h1
    have ih := run_places' (P := P) w F fs (by simpa using hl) (fun i y hy => by simpa using h (i + 1) y (by simpa using hy))
    simp only [List.mapM_cons, Sem.run_bind, h3, Result.andThen_ok, Sem.run_pure, ih, List.map_cons, h2]
  | [], _ :: _, hl, _ => by simp at hl
  | _ :: _, [], hl, _ => by simp at hl

theorem st_build (R : Rel M0 w0 sz ρ E H a w) {t n : Nat} {z : List D} {fs : List (Nat × Nat × Bool)} (ht : TyOK P t (.st n z fs)) {ps : Array (Nat × Operand)} (ho : o.op = .build t ps) {l : List At}
    (hb : stepV.buildA fs (z.map .d) (ps.toList.map (·.1)) (ps.toList.map fun p => ev (look E) p.2) = some l) (h : (retD sz o.dst (.c (.agg l))).has x) : StepOK P M0 w0 sz E H o x a w := by
  obtain ⟨d, hd, hlt, rfl⟩ := retD_has h
  obtain ⟨zv, hz, hD⟩ := ht.2.2.1
  obtain ⟨F, hF, hFl, hfs⟩ := ht.2.2.2
  have hpl := run_places' (P := P) w F.toList fs (by simpa using hFl) (by simpa using hfs)
  obtain ⟨cs', e1, e2, e3⟩ := fill_ok (place := fun i => (fs.map fun x => (x.1, x.2.1)).toArray[i]?) (fs := fs) (fun i x hx => by simp [hx]) ps.toList (z.map .d) zv.cells l (by simp [names_map_d]) R (DsR.ats.1 (hD _ _)) hb
  refine ok_val R (v := .agg cs') ?_ hd hlt ⟨cs'.toList, by simp, e2⟩ e3
  have hp : (ps.map fun (i, x) => (i, a.eval x)).toList = ps.toList.map fun p => (p.1, a.eval p.2) := by simp
  simp only [execOp, ho, Sem.run_bind, Instr.build, hz, Result.andThen_ok, run_underlying_of hF, Array.mapM_eq_mapM_toList, Sem.run_map, hpl, hp, e1, Sem.run_pure]

theorem st_buildArr (R : Rel M0 w0 sz ρ E H a w) {t n len ek : Nat} {z : List D} {ea : Bool} (ht : TyOK P t (.ar n z len ek ea)) {ps : Array (Nat × Operand)} (ho : o.op = .build t ps) {l : List At}
    (hb : stepV.buildA ((List.range len).map fun i => (i * ek, ek, ea)) (z.map .d) (ps.toList.map (·.1)) (ps.toList.map fun p => ev (look E) p.2) = some l) (h : (retD sz o.dst (.c (.agg l))).has x) : StepOK P M0 w0 sz E H o x a w := by
  obtain ⟨d, hd, hlt, rfl⟩ := retD_has h
  obtain ⟨zv, hz, hD⟩ := ht.2.2.1
  obtain ⟨e, he, hsz, _⟩ := ht.2.2.2
  obtain ⟨cs', e1, e2, e3⟩ := fill_ok (place := fun i => some (i * ek, ek)) (fs := (List.range len).map fun i => (i * ek, ek, ea)) (fun i x hx => by
    rw [List.getElem?_map] at hx
    cases hr : (List.range len)[i]? with
    | none => rw [hr] at hx; cases hx
    | some j =>
      rw [hr] at hx
      have : j = i := by
        have := List.getElem?_eq_some_iff.1 hr
        obtain ⟨h1, h2⟩ := this
        simpa using h2.symm
      subst this
      injection hx with hx
      subst hx
      rfl) ps.toList (z.map .d) zv.cells l (by simp [names_map_d]) R (DsR.ats.1 (hD _ _)) hb
  refine ok_val R (v := .agg cs') ?_ hd hlt ⟨cs'.toList, by simp, e2⟩ e3
  have hp : (ps.map fun (i, x) => (i, a.eval x)).toList = ps.toList.map fun p => (p.1, a.eval p.2) := by simp
  simp only [execOp, ho, Sem.run_bind, Instr.build, hz, Result.andThen_ok, run_underlying_of he, hsz, hp, e1, Sem.run_pure]

theorem setL_eq {α : Type} : ∀ (l : List α) (o : Nat) (xs : List α), o + xs.length ≤ l.length → setL l o xs = l.take o ++ xs ++ l.drop (o + xs.length)
  | l, o, [], _ => by cases l <;> simp [setL]
  | [], o, x :: xs, h => by simp at h
  | c :: cs, 0, x :: xs, h => by
    simp only [setL, setL_eq cs 0 xs (by simpa using h)]
    simp
  | c :: cs, o + 1, x :: xs, h => by
    simp only [setL, setL_eq cs o (x :: xs) (by simp at h ⊢; omega)]
    rw [show o + 1 + (x :: xs).length = (o + (x :: xs).length) + 1 by omega]
    simp

theorem flatten_get {α : Type} {k : Nat} : ∀ {l : List (List α)}, (∀ x ∈ l, x.length = k) → ∀ (i j : Nat) (hi : i < l.length), j < k → l.flatten[i * k + j]? = (l[i])[j]?
  | [], _, i, j, hi, _ => by simp at hi
  | x :: l, h, 0, j, hi, hj => by
    have := h x (List.mem_cons_self ..)
    simp [List.getElem?_append_left (by omega : j < x.length)]
  | x :: l, h, i + 1, j, hi, hj => by
    have hx := h x (List.mem_cons_self ..)
    have ih := flatten_get (l := l) (fun y hy => h y (List.mem_cons_of_mem _ hy)) i j (by simpa using hi) hj
    rw [List.flatten_cons, List.getElem?_append_right (by rw [hx, Nat.add_mul]; omega)]
    rw [hx, show (i + 1) * k + j - k = i * k + j by rw [Nat.add_mul]; omega]
    simpa using ih
theorem flatten_len {α : Type} {k : Nat} : ∀ {l : List (List α)}, (∀ x ∈ l, x.length = k) → l.flatten.length = l.length * k
  | [], _ => by simp
  | x :: l, h => by
    rw [List.flatten_cons, List.length_append, h x (List.mem_cons_self ..), flatten_len fun y hy => h y (List.mem_cons_of_mem _ hy), List.length_cons, Nat.add_mul]
    omega

theorem DsR.length {M : Nat → Prop} : ∀ {a : List D} {v : List Value}, DsR w M a v → v.length = a.length
  | [], [], _ => rfl
  | a :: l, v :: vs, h => by simp [DsR.length h.2]
  | [], _ :: _, h => h.elim
  | _ :: _, [], h => h.elim
theorem DsR.get {M : Nat → Prop} : ∀ {a : List D} {v : List Value}, DsR w M a v → ∀ (i : Nat) (x : D), a[i]? = some x → ∃ u, v[i]? = some u ∧ Rep w M x u
  | [], [], _, i, x, h => by simp at h
  | a :: l, v :: vs, h, 0, x, hx => by simp at hx; subst hx; exact ⟨v, rfl, h.1⟩
  | a :: l, v :: vs, h, i + 1, x, hx => by simpa using DsR.get h.2 i x (by simpa using hx)
  | [], _ :: _, h, _, _, _ => h.elim
  | _ :: _, [], h, _, _, _ => h.elim
theorem DsR.append {M : Nat → Prop} : ∀ {a b : List D} {u v : List Value}, DsR w M a u → DsR w M b v → DsR w M (a ++ b) (u ++ v)
  | [], b, [], v, _, k => k
  | a :: l, b, u :: us, v, h, k => ⟨h.1, DsR.append h.2 k⟩
  | [], _, _ :: _, _, h, _ => h.elim
  | _ :: _, _, [], _, h, _ => h.elim

/-- a row of cells is a slice's data -/
theorem rep_of_row {M : Nat → Prop} {b off cap k : Nat} {l : List (List D)} {us : List Value} (hk : ∀ x ∈ l, x.length = k) (hD : DsR w M l.flatten us) (hcell : ∀ i, i < us.length → w.cell? ⟨b, off + i, none⟩ = us[i]?)
    (hc : l.length ≤ cap) (hm : cap ≤ 9223372036854775807) (hM : ¬ M b) (hb : b < w.heap.size) : Rep w M (.list k l) (.slice (some ⟨b, off, none⟩) l.length cap) := by
  have hlen : us.length = l.length * k := by rw [hD.length, flatten_len hk]
  have hin : ∀ i j, i < l.length → j < k → i * k + j < us.length := fun i j hi hj => by
    rw [hlen]
    have : (i + 1) * k ≤ l.length * k := Nat.mul_le_mul_right _ hi
    rw [Nat.add_mul] at this
    omega
  refine .list (fun i j => us.getD (i * k + j) undef) hc hm hM hb hk (fun i j hi hj => ?_) fun i j hi hj => ?_
  · have h1 := hin i j hi hj
    rw [Nat.add_assoc, hcell _ h1]
    simp [List.getElem?_eq_getElem h1]
  · have hj' : j < k := by rw [← hk l[i] (List.getElem_mem hi)]; exact hj
    have hf := flatten_get hk i j hi hj'
    rw [List.getElem?_eq_getElem hj] at hf
    obtain ⟨u, hu, hr⟩ := hD.get _ _ hf
    have : us.getD (i * k + j) undef = u := by rw [List.getD_eq_getElem?_getD, hu]; rfl
    rw [this]
    exact hr

theorem fill_list {ek : Nat} (R : Rel M0 w0 sz ρ E H a w) : ∀ (ps : List (Nat × Operand)) (j : Nat) (cs : Array Value) (l : List (List D)), stepV.buildL ek j (ps.map (·.1)) (ps.map fun p => ev (look E) p.2) = some l → (j + l.length) * ek ≤ cs.size →
    ∃ (cs' : Array Value) (us : List Value), Instr.fill (fun i => some (i * ek, ek)) cs (ps.map fun p => (p.1, a.eval p.2)) = some cs' ∧ cs'.toList = cs.toList.take (j * ek) ++ us ++ cs.toList.drop ((j + l.length) * ek) ∧ DsR w (Mof M0 ρ H) l.flatten us ∧ us.length = l.length * ek ∧ ∀ x ∈ l, x.length = ek
  | [], j, cs, l, h, hsz => by
    simp only [List.map_nil, stepV.buildL, Option.some.injEq] at h
    subst h
    exact ⟨cs, [], rfl, by simp, trivial, by simp, by simp⟩
  | (i, y) :: ps, j, cs, l, h, hsz => by
    simp only [List.map_cons] at h
    cases hy : ev (look E) y with
    | none => rw [hy] at h; simp [stepV.buildL] at h
    | some s =>
      cases s with
      | tup l => rw [hy] at h; simp [stepV.buildL] at h
      | c s =>
        rw [hy] at h
        simp only [stepV.buildL] at h
        split at h
        · rename_i d h1 h2 h3
          split at h
          · rename_i r hr
            injection h with h
            subst h
            have hij : i = j := by simpa using h1
            subst hij
            have h3 : (cellsC s).length = ek := by simpa using h3
            have kc := SCR.cells (ev_ok R hy).1
            have kD := atsD_rel h2 kc
            have klen := kc.length
            simp only [List.length_cons] at hsz
            have hmul : (i + (r.length + 1)) * ek = i * ek + ek + r.length * ek := by rw [Nat.add_mul, Nat.add_mul]; omega
            have hys : (a.eval y).cells.toList.length = ek := by rw [klen, h3]
            have hsize : (a.eval y).cells.size = ek := by simpa using hys
            have hset : ((a.eval y).cells.zipIdx.foldl (fun cs (p : Value × Nat) => cs.setIfInBounds (i * ek + p.2) p.1) cs).toList = cs.toList.take (i * ek) ++ (a.eval y).cells.toList ++ cs.toList.drop (i * ek + ek) := by
              have := foldl_set (a.eval y).cells.toList (i * ek) 0 cs
              rw [Nat.add_zero] at this
              rw [← Array.foldl_toList, Array.toList_zipIdx, this, setL_eq _ _ _ (by rw [hys]; simp; omega), hys]
            have hsz2 : ((a.eval y).cells.zipIdx.foldl (fun cs (p : Value × Nat) => cs.setIfInBounds (i * ek + p.2) p.1) cs).size = cs.size := by
              have := congrArg List.length hset
              simp only [List.length_append, List.length_take, List.length_drop, Array.length_toList] at this
              rw [this, hsize]; omega
            obtain ⟨cs', us, e1, e2, e3, e4, e5⟩ := fill_list R ps (i + 1) _ r hr (by rw [hsz2]; rw [show i + 1 + r.length = i + (r.length + 1) by omega]; exact hsz)
            refine ⟨cs', (a.eval y).cells.toList ++ us, ?_, ?_, ?_, ?_, ?_⟩
            · simp only [List.map_cons, Instr.fill]
              rw [if_neg (by simp only [hsize, ne_eq, not_true, decide_false, Bool.false_or, gt_iff_lt, decide_eq_true_eq]; omega)]
              exact e1
            · have l1 : (cs.toList.take (i * ek) ++ (a.eval y).cells.toList).length = (i + 1) * ek := by
                rw [List.length_append, List.length_take, hys, Array.length_toList, Nat.add_mul]; omega
              rw [e2, hset, show (i + 1) * ek = (cs.toList.take (i * ek) ++ (a.eval y).cells.toList).length from l1.symm, List.take_left]
              rw [List.drop_append, l1, show (i + 1 + r.length) * ek - (i + 1) * ek = r.length * ek by rw [Nat.add_mul (i + 1)]; omega]
              rw [List.drop_eq_nil_of_le (by rw [l1, Nat.add_mul (i + 1)]; omega), List.drop_drop]
              simp only [List.nil_append, List.append_assoc, List.length_cons]
              rw [show i * ek + ek + r.length * ek = (i + (r.length + 1)) * ek from hmul.symm]
            · exact kD.append e3
            · rw [List.length_append, hys, e4, List.length_cons, Nat.add_mul]; omega
            · intro x hx
              rcases List.mem_cons.1 hx with rfl | hx
              · have := DsR.length kD; rw [← this, klen, h3]
              · exact e5 x hx
          · cases h
        · cases h

theorem st_buildSlice (R : Rel M0 w0 sz ρ E H a w) {t len ek : Nat} {ea : Bool} (ht : TyOK P t (.sl ek ea)) {ps : Array (Nat × Operand)} (ho : o.op = .buildSlice t len ps) {l : List (List D)}
    (hb : stepV.buildL ek 0 (ps.toList.map (·.1)) (ps.toList.map fun p => ev (look E) p.2) = some l) (hl : l.length = len) (h1 : 1 ≤ len) (h2 : 1 ≤ ek) (h3 : len * ek ≤ 16777216) (h : (retD sz o.dst (sD (.list ek l))).has x) : StepOK P M0 w0 sz E H o x a w := by
  obtain ⟨d, hd, hlt, rfl⟩ := retD_has h
  obtain ⟨e, he, hsz, _, z, hz, hzs⟩ := ht.2.2.2
  subst hl
  obtain ⟨cs', us, e1, e2, e3, e4, e5⟩ := fill_list R ps.toList 0 ((Array.range (l.length * ek)).map (z.cells[· % z.cells.size]!)) l hb (by simp)
  have e2 : cs'.toList = us := by
    rw [e2]
    simp
  have hp : (ps.map fun (i, x) => (i, a.eval x)).toList = ps.toList.map fun p => (p.1, a.eval p.2) := by simp
  have hpos : ¬ l.length * ek = 0 := by
    have := Nat.mul_pos (show 0 < l.length by omega) (show 0 < ek by omega); omega
  have hrun : (execOp a.eval o).run P w = .ok (.value (.slice (some ⟨w.heap.size, 0, none⟩) l.length l.length)) (w.alloc (.cells cs' e)) := by
    have hsm : ¬ l.length * ek > 2 ^ 24 := by omega
    simp only [execOp, ho, Sem.run_bind, Instr.buildSlice, run_underlying_of he, hsz, Result.andThen_ok, if_neg hsm, if_neg hpos, hz, Sem.run_pure, hp, e1, newRow, run_newObj_alloc]
  have hbl : Below w.heap.size w (w.alloc (.cells cs' e)) := (Below.refl _ _).alloc (Nat.le_refl _) _
  have hMlt : ∀ b, Mof M0 ρ H b → b < w.heap.size := fun b hb => by
    rcases hb with hb | ⟨n, hn, rfl⟩
    · exact Nat.lt_of_lt_of_le (R.out b hb) R.below.size
    · obtain ⟨b, hb⟩ := Option.isSome_iff_exists.1 hn
      exact R.hi n b hb
  refine ok_run (x := .val (sD (.list ek l))) hrun ((R.grow hbl).val (fun d' h => by rw [hd] at h; injection h with h; omega) ?_ (fun n hn => by simp [sD, SV.names, SC.names, At.names] at hn))
  refine rep_of_row e5 (e3.mono (.of_below hbl) fun _ _ h => h) (fun i hi => ?_) (Nat.le_refl _) ?_ (fun hm => by have := hMlt _ hm; omega) (by simp)
  · rw [Nat.zero_add]
    have : (w.alloc (.cells cs' e)).cell? ⟨w.heap.size, i, none⟩ = cs'[i]? := by simp
    rw [this, ← e2]; simp
  · have : l.length ≤ l.length * ek := Nat.le_mul_of_pos_right _ (by omega)
    omega

variable {Γ : List (Nat × TD)}

/-- the symbolic step of one operation is what it does -/
theorem step_sound (hΓ : ∀ t td, look Γ t = some td → TyOK P t td) (R : Rel M0 w0 sz ρ E H a w) (h : (stepF P Γ sz o (look E) (look H)).has x) : StepOK P M0 w0 sz E H o x a w := by
  unfold stepF at h
  have honly : ∀ n b, onlyN (look H) (namesO (valsOf (look E) o)) n = some b → look H n = some b := fun n b hb => by
    unfold onlyN at hb
    split at hb
    · exact hb
    · cases hb
  have hfresh : ∀ d, o.dst = some d → freshB (look H) o.dst = true → look H d = none := fun d hd hf => by
    rw [hd] at hf
    simpa [freshB] using hf
  generalize onlyN (look H) (namesO (valsOf (look E) o)) = hh at h honly
  generalize freshB (look H) o.dst = fr at h hfresh
  have hvals : valsOf (look E) o = o.op.operands.toList.map (ev (look E)) := rfl
  generalize valsOf (look E) o = vals at h hvals
  unfold stepV at h
  split at h
  · rename_i y s ho
    rw [ho] at hvals
    exact st_move R (.inl ho) (by simpa [Op.operands, eq_comm] using hvals) h
  · rename_i y s ho
    rw [ho] at hvals
    exact st_move R (.inr ho) (by simpa [Op.operands, eq_comm] using hvals) h
  · rename_i yc ya yb b sx sy ho
    rw [ho] at hvals
    simp only [Op.operands, List.map_cons, List.map_nil, List.cons.injEq, and_true] at hvals
    split at h
    · rename_i x1 x2
      obtain ⟨d, hd, hlt, h⟩ := guardD_has h
      have hc : Rep w (Mof M0 ρ H) (.v (.bool b)) (a.eval yc) := (ev_ok R hvals.1.symm).1
      generalize hcv : a.eval yc = u at hc
      cases hc
      rcases h with ⟨hb, h⟩ | ⟨hb, h⟩
      · have h : Eff.val _ = x := h
        subst h hb
        have k := ev_ok R hvals.2.1.symm
        exact ok_val R (v := a.eval ya) (by simp [execOp, ho, hcv, asBool]) hd hlt k.1 k.2
      · have h : Eff.val _ = x := h
        subst h hb
        have k := ev_ok R hvals.2.2.symm
        exact ok_val R (v := a.eval yb) (by simp [execOp, ho, hcv, asBool]) hd hlt k.1 k.2
    · exact h.elim
  · rename_i t ho
    split at h
    · rename_i td d ht hd
      obtain ⟨d', hd', hlt, h⟩ := guardD_has h
      have : d' = d := by rw [hd'] at hd; injection hd
      subst this
      have h : Eff.new _ _ _ = x := h
      subst h
      exact st_alloc R (hΓ _ _ ht) ho hd' hlt (hfresh _ hd' rfl)
    · exact h.elim
  · rename_i t y s ho
    rw [ho] at hvals
    split at h
    · rename_i d hd
      obtain ⟨d', hd', hlt, h⟩ := guardD_has h
      have : d' = d := by rw [hd'] at hd; injection hd
      subst this
      have h : Eff.new _ _ _ = x := h
      subst h
      exact st_box R ho (by simpa [Op.operands, eq_comm] using hvals) hd' hlt (hfresh _ hd' rfl)
    · exact h.elim
  · rename_i t y n off ho
    rw [ho] at hvals
    split at h
    · rename_i td cs ht hb
      split at h
      · rename_i s hp
        exact st_load R (hΓ _ _ ht) ho (by simpa [Op.operands, eq_comm] using hvals) (honly _ _ hb) hp h
      · exact h.elim
    · exact h.elim
  · rename_i t y k l i off ho
    rw [ho] at hvals
    split at h
    · rename_i td ht
      obtain ⟨d, hd, hlt, e, ⟨h1, h2⟩, rfl⟩ := guardD_has h
      exact st_loadEl R (hΓ _ _ ht) ho (by simpa [Op.operands, eq_comm] using hvals) h1 h2 hd hlt
    · exact h.elim
  · rename_i t y z n off s ho
    rw [ho] at hvals
    simp only [Op.operands, List.map_cons, List.map_nil, List.cons.injEq, and_true] at hvals
    split at h
    · rename_i td cs ht hb hd
      split at h
      · rename_i h1 h2
        have h : Eff.put _ _ = x := h
        subst h
        exact st_store R (hΓ _ _ ht) ho hvals.1.symm hvals.2.symm (honly _ _ hb) hd (by simpa using h1) (by simpa using h2)
      · exact h.elim
    · exact h.elim
  · rename_i t y i n off ho
    rw [ho] at hvals
    split at h
    · rename_i n' z fs ht
      split at h
      · rename_i fo fz fa hf
        split at h
        · rename_i hz
          exact st_fieldAddr R (hΓ _ _ ht) ho (by simpa [Op.operands, eq_comm] using hvals) hf (by rintro rfl; exact absurd hz (by decide)) h
        · exact h.elim
      · exact h.elim
    · exact h.elim
  · rename_i t y i k l j off ho
    rw [ho] at hvals
    split at h
    · rename_i n' z fs ht
      split at h
      · rename_i fo fz fa hf
        split at h
        · rename_i hz
          exact st_fieldAddrEl R (hΓ _ _ ht) ho (by simpa [Op.operands, eq_comm] using hvals) hf (by rintro rfl; exact absurd hz (by decide)) h
        · exact h.elim
      · exact h.elim
    · exact h.elim
  · rename_i t y i l ho
    rw [ho] at hvals
    split at h
    · rename_i n' z fs ht
      split at h
      · rename_i fo fz fa hf
        split at h
        · rename_i s hp
          exact st_field R (hΓ _ _ ht) ho (by simpa [Op.operands, eq_comm] using hvals) hf hp h
        · exact h.elim
      · exact h.elim
    · exact h.elim
  · rename_i t y z l ik i ho
    rw [ho] at hvals
    simp only [Op.operands, List.map_cons, List.map_nil, List.cons.injEq, and_true] at hvals
    split at h
    · rename_i n z' len ek ea ht
      split at h
      · rename_i s hp
        obtain ⟨d, hd, hlt, h1, h⟩ := guardD_has h
        have h : Eff.val _ = x := h
        subst h
        exact st_indexArr R (hΓ _ _ ht) ho hvals.1.symm hvals.2.symm hp h1 hd hlt
      · exact h.elim
    · exact h.elim
  · rename_i y n off ho
    rw [ho] at hvals
    exact st_nil R ho (by simpa [Op.operands, eq_comm] using hvals) h
  · rename_i y k l i off ho
    rw [ho] at hvals
    exact st_nilEl R ho (by simpa [Op.operands, eq_comm] using hvals) h
  · rename_i op t y z ty vy vz ho
    rw [ho] at hvals
    simp only [Op.operands, List.map_cons, List.map_nil, List.cons.injEq, and_true] at hvals
    have ey := ev_ok R hvals.1.symm
    have ez := ev_ok R hvals.2.symm
    split at h
    · rename_i k m k' n hm hn
      have hy := svV_rel hm ey.1
      have hz := svV_rel hn ez.1
      have wm : inK k m := svV_wf hm ey.1
      have wn : inK k' n := svV_wf hn ez.1
      have fin : ∀ r, (binOp op t (.int k m) (.int k' n)).run P w = .ok r w → r.oneCell' = true ∧ wfV r → ∀ d, o.dst = some d → d < sz → StepOK P M0 w0 sz E H o (.val (sV r)) a w := fun r hr h1 d hd hlt =>
        st_pure R (run_op_bin ho hy hz (run_bin_int hr)) h1.1 h1.2 hd hlt
      split at h
      · rename_i hk
        have := sameK_eq hk
        subst this
        split at h
        · obtain ⟨d, hd, hlt, h1, h⟩ := guardD_has h
          have h : Eff.val _ = x := h
          subst h
          exact fin _ (run_quo h1) ⟨rfl, inK_wrap _ _⟩ d hd hlt
        · obtain ⟨d, hd, hlt, h1, h⟩ := guardD_has h
          have h : Eff.val _ = x := h
          subst h
          exact fin _ (run_rem h1) ⟨rfl, wf_tmod (wm) (wn) h1⟩ d hd hlt
        · obtain ⟨d, hd, hlt, h1, h⟩ := guardD_has h
          have h : Eff.val _ = x := h
          subst h
          exact fin _ (run_shl h1) ⟨rfl, inK_wrap _ _⟩ d hd hlt
        · obtain ⟨d, hd, hlt, h1, h⟩ := guardD_has h
          have h : Eff.val _ = x := h
          subst h
          exact fin _ (run_shr h1) ⟨rfl, wf_fdiv _ wm⟩ d hd hlt
        · split at h
          · rename_i v hv
            obtain ⟨d, hd, hlt, rfl⟩ := retD_has h
            have := run_binI (P := P) (w := w) (t := t) hv
            exact fin _ this.1 this.2 d hd hlt
          · exact h.elim
      · split at h
        · obtain ⟨d, hd, hlt, h1, h⟩ := guardD_has h
          have h : Eff.val _ = x := h
          subst h
          exact fin _ (run_shl h1) ⟨rfl, inK_wrap _ _⟩ d hd hlt
        · obtain ⟨d, hd, hlt, h1, h⟩ := guardD_has h
          have h : Eff.val _ = x := h
          subst h
          exact fin _ (run_shr h1) ⟨rfl, wf_fdiv _ wm⟩ d hd hlt
        · exact h.elim
    · rename_i p q hm hn
      have hy := svV_rel hm ey.1
      have hz := svV_rel hn ez.1
      split at h
      · rename_i ht
        obtain ⟨d, hd, hlt, rfl⟩ := retD_has h
        exact st_pure R (run_op_bin ho hy hz (run_bin_bool (run_eql_bool w t p q (hΓ _ _ ht).2.2.2))) rfl trivial hd hlt
      · rename_i ht
        obtain ⟨d, hd, hlt, rfl⟩ := retD_has h
        exact st_pure R (run_op_bin ho hy hz (run_bin_bool (run_neq_bool w t p q (hΓ _ _ ht).2.2.2))) rfl trivial hd hlt
      · exact h.elim
    · rename_i u v _ _ hm hn
      have hy := svV_rel hm ey.1
      have hz := svV_rel hn ez.1
      obtain ⟨d, hd, hlt, r, ⟨h1, hw, h2⟩, h⟩ := guardD_has h
      have h : Eff.val _ = x := h
      subst h
      exact st_pure R (run_op_bin ho hy hz (h2 w)) h1 hw hd hlt
    · exact h.elim
  · rename_i op ty y v ho
    rw [ho] at hvals
    split at h
    · rename_i r hr
      exact st_un R ho (by simpa [Op.operands, eq_comm] using hvals) hr h
    · exact h.elim
  · rename_i s t y v ho
    rw [ho] at hvals
    have ey := ev_ok R (show ev (look E) y = some (sV v) by simpa [Op.operands, eq_comm, sV] using hvals)
    have hy : Rep w (Mof M0 ρ H) (.v v) (a.eval y) := ey.1
    generalize hyv : a.eval y = u at hy
    cases hy
    split at h
    · rename_i k0 k1 k2 n hs ht _ _
      obtain ⟨d, hd, hlt, rfl⟩ := retD_has h
      refine st_pure R ?_ rfl (inK_wrap _ _) hd hlt
      simp only [execOp, ho, hyv, convert, Sem.run_bind, run_underlying_of (hΓ _ _ hs).2.2.2, run_underlying_of (hΓ _ _ ht).2.2.2, Result.andThen_ok, Conv.intToInt, Sem.run_pure]
    · obtain ⟨d, hd, hlt, r, ⟨h1, hw, h2⟩, h⟩ := guardD_has h
      have h : Eff.val _ = x := h
      subst h
      refine st_pure R ?_ h1 hw hd hlt
      simp only [execOp, ho, hyv, Sem.run_bind, h2, Result.andThen_ok, Sem.run_pure]
  · rename_i y i l ho
    rw [ho] at hvals
    split at h
    · rename_i s r hl
      exact st_extract R ho (by simpa [Op.operands, eq_comm] using hvals) hl h
    · exact h.elim
  · rename_i t len ps ho
    rw [ho] at hvals
    split at h
    · rename_i ek ea ht
      split at h
      · rename_i l hl
        split at h
        · rename_i h1 h2 h3 h4
          refine st_buildSlice R (hΓ _ _ ht) ho (l := l) ?_ (by simpa using h1) (by simpa using h2) (by simpa using h3) (by simpa using h4) h
          rw [hvals] at hl
          simpa [Op.operands, Function.comp_def] using hl
        · exact h.elim
      · exact h.elim
    · exact h.elim
  · rename_i t ps ho
    rw [ho] at hvals
    split at h
    · rename_i n z len ek ea ht
      split at h
      · rename_i l hl
        refine st_buildArr R (hΓ _ _ ht) ho ?_ h
        rw [hvals] at hl
        simpa [Op.operands, Function.comp_def] using hl
      · exact h.elim
    · rename_i n z fs ht
      split at h
      · rename_i l hl
        refine st_build R (hΓ _ _ ht) ho ?_ h
        rw [hvals] at hl
        simpa [Op.operands, Function.comp_def] using hl
      · exact h.elim
    · exact h.elim
  · rename_i fo args ts f vs ho
    rw [ho] at hvals
    simp only [Op.operands, Call.operands] at hvals
    split at h
    · rename_i ar har
      obtain ⟨d, hd, hlt, r, h1, h⟩ := guardD_has h
      have h : Eff.val _ = x := h
      subst h
      simp only [Array.toList_append, List.map_cons, List.cons_append, List.nil_append, List.cons.injEq] at hvals
      rw [hvals.2] at har
      exact st_call R (c := ⟨.value fo, args, ts⟩) ho rfl hvals.1.symm har h1 hd hlt
    · exact h.elim
  · rename_i args ts k l ho
    rw [ho] at hvals
    simp only [Op.operands, Call.operands] at hvals
    split at h
    · rename_i ek ea ht
      split at h
      · rename_i hts
        have hts : 0 < ts.size := by simpa using hts
        simp only [Array.toList_append, List.nil_append] at hvals
        obtain ⟨y, hy⟩ : ∃ y, args.toList = [y] := by
          have := congrArg List.length hvals
          simp at this
          exact List.length_eq_one_iff.1 (by simpa using this.symm)
        rw [hy] at hvals
        refine st_len R (c := ⟨.builtin .len, args, ts⟩) (hΓ _ _ ht) ho rfl ?_ hy (by simpa [eq_comm] using hvals) h
        simp [Array.getElem?_eq_getElem hts]
      · exact h.elim
    · exact h.elim
  · rename_i args ts k a1 k' a2 ho
    rw [ho] at hvals
    simp only [Op.operands, Call.operands, Array.toList_append, List.nil_append] at hvals
    split at h
    · rename_i hk
      have := sameK_eq hk
      subst this
      obtain ⟨d, hd, hlt, rfl⟩ := retD_has h
      obtain ⟨y1, y2, hy⟩ : ∃ y1 y2, args.toList = [y1, y2] := by
        have := congrArg List.length hvals
        simp at this
        match hx : args.toList, this with
        | [y1, y2], _ => exact ⟨y1, y2, rfl⟩
        | [], h => simp [← Array.length_toList, hx] at h
        | [_], h => simp [← Array.length_toList, hx] at h
        | _ :: _ :: _ :: _, h => simp [← Array.length_toList, hx] at h
      rw [hy] at hvals
      simp only [List.map_cons, List.map_nil, List.cons.injEq, and_true] at hvals
      obtain ⟨e1, w1⟩ := rep_int (show Rep w (Mof M0 ρ H) (.v (.int k a1)) (a.eval y1) from (ev_ok R hvals.1.symm).1)
      obtain ⟨e2, w2⟩ := rep_int (show Rep w (Mof M0 ρ H) (.v (.int k a2)) (a.eval y2) from (ev_ok R hvals.2.symm).1)
      refine st_builtin R ho rfl (fun ts t cs => ?_) rfl (inK_max w1 w2) hd hlt
      simp only [hy, List.map_cons, List.map_nil, e1, e2, builtin]
      simp [Builtin.max_, Builtin.max2, maxI]
    · exact h.elim
  · rename_i args ts k a1 k' a2 k'' a3 ho
    rw [ho] at hvals
    simp only [Op.operands, Call.operands, Array.toList_append, List.nil_append] at hvals
    split at h
    · rename_i hk hk2
      have := sameK_eq hk
      subst this
      have := sameK_eq hk2
      subst this
      obtain ⟨d, hd, hlt, rfl⟩ := retD_has h
      obtain ⟨y1, y2, y3, hy⟩ : ∃ y1 y2 y3, args.toList = [y1, y2, y3] := by
        have := congrArg List.length hvals
        simp at this
        match hx : args.toList, this with
        | [y1, y2, y3], _ => exact ⟨y1, y2, y3, rfl⟩
        | [], h => simp [← Array.length_toList, hx] at h
        | [_], h => simp [← Array.length_toList, hx] at h
        | [_, _], h => simp [← Array.length_toList, hx] at h
        | _ :: _ :: _ :: _ :: _, h => simp [← Array.length_toList, hx] at h
      rw [hy] at hvals
      simp only [List.map_cons, List.map_nil, List.cons.injEq, and_true] at hvals
      obtain ⟨e1, w1⟩ := rep_int (show Rep w (Mof M0 ρ H) (.v (.int k a1)) (a.eval y1) from (ev_ok R hvals.1.symm).1)
      obtain ⟨e2, w2⟩ := rep_int (show Rep w (Mof M0 ρ H) (.v (.int k a2)) (a.eval y2) from (ev_ok R hvals.2.1.symm).1)
      obtain ⟨e3, w3⟩ := rep_int (show Rep w (Mof M0 ρ H) (.v (.int k a3)) (a.eval y3) from (ev_ok R hvals.2.2.symm).1)
      refine st_builtin R ho rfl (fun ts t cs => ?_) rfl (inK_max (inK_max w1 w2) w3) hd hlt
      simp only [hy, List.map_cons, List.map_nil, e1, e2, e3, builtin]
      simp [Builtin.max_, Builtin.max2, maxI]
    · exact h.elim
  · rename_i args ts k a1 k' a2 ho
    rw [ho] at hvals
    simp only [Op.operands, Call.operands, Array.toList_append, List.nil_append] at hvals
    split at h
    · rename_i hk
      have := sameK_eq hk
      subst this
      obtain ⟨d, hd, hlt, rfl⟩ := retD_has h
      obtain ⟨y1, y2, hy⟩ : ∃ y1 y2, args.toList = [y1, y2] := by
        have := congrArg List.length hvals
        simp at this
        match hx : args.toList, this with
        | [y1, y2], _ => exact ⟨y1, y2, rfl⟩
        | [], h => simp [← Array.length_toList, hx] at h
        | [_], h => simp [← Array.length_toList, hx] at h
        | _ :: _ :: _ :: _, h => simp [← Array.length_toList, hx] at h
      rw [hy] at hvals
      simp only [List.map_cons, List.map_nil, List.cons.injEq, and_true] at hvals
      obtain ⟨e1, w1⟩ := rep_int (show Rep w (Mof M0 ρ H) (.v (.int k a1)) (a.eval y1) from (ev_ok R hvals.1.symm).1)
      obtain ⟨e2, w2⟩ := rep_int (show Rep w (Mof M0 ρ H) (.v (.int k a2)) (a.eval y2) from (ev_ok R hvals.2.symm).1)
      refine st_builtin R ho rfl (fun ts t cs => ?_) rfl (inK_min w1 w2) hd hlt
      simp only [hy, List.map_cons, List.map_nil, e1, e2, builtin]
      simp [Builtin.min_, Builtin.min2, minI]
    · exact h.elim
  · rename_i t y z k l ik i ho
    rw [ho] at hvals
    simp only [Op.operands, List.map_cons, List.map_nil, List.cons.injEq, and_true] at hvals
    split at h
    · rename_i ek ea ht
      split at h
      · rename_i hk
        have hk : ek = k := by simpa using hk
        subst hk
        obtain ⟨d, hd, hlt, h1, h⟩ := guardD_has h
        have h : Eff.val _ = x := h
        subst h
        exact st_index R (hΓ _ _ ht) ho hvals.1.symm hvals.2.symm h1 hd hlt
      · exact h.elim
    · exact h.elim
  · rename_i t y z n off ik i ho
    rw [ho] at hvals
    simp only [Op.operands, List.map_cons, List.map_nil, List.cons.injEq, and_true] at hvals
    split at h
    · rename_i n' z' len ek ea ht
      obtain ⟨d, hd, hlt, h1, h⟩ := guardD_has h
      have h : Eff.val _ = x := h
      subst h
      exact st_indexPtr R (hΓ _ _ ht) ho hvals.1.symm hvals.2.symm h1 hd hlt
    · exact h.elim
  · exact h.elim
end
end Sx
end Go.Proofs.Ytffamgiknfphaaa
