import Derived.Test.YtjbnfoipjnkjdaaGLGoesD
import Derived.Deep.AppendSrc
set_option linter.all false
/- A symbolic walk: calls (of closures; whose result is memory of the callee's own; that turn a row), append, slice expressions, nil. Plain lemmas. No conditions. -/
namespace Go.Proofs.Ytjbnfoipjnkjdaa
open Go Go.RowKit

namespace Sx
section
variable {P : Program} {C M0 : Nat → Prop} {w0 w : World} {sz : Nat} {ρ : Nat → Nm} {E : Env} {H : Hp} {a : Act} {o : Oper} {x : Eff} {Γ : Cfg}

/-! ### values without memory -/
theorem flatL_rel {w w' : World} {M M' : Nat → Prop} : ∀ {l : List D} {us : List Value}, flatL l = true → DsR w M l us → DsR w' M' l us
  | [], [], _, _ => trivial
  | .v y :: l, u :: us, h, k => by
    refine ⟨?_, flatL_rel (by simpa [flatL] using h) k.2⟩
    have := k.1
    cases this with
    | v _ h1 h2 => exact .v _ h1 h2
  | .nil _ :: l, _ :: us, h, _ => by simp [flatL] at h
  | .emp _ :: l, _ :: us, h, _ => by simp [flatL] at h
  | .list _ _ :: l, _ :: us, h, _ => by simp [flatL] at h
  | .ref _ :: l, _ :: us, h, _ => by simp [flatL] at h
  | .clo _ _ :: l, _ :: us, h, _ => by simp [flatL] at h
  | [], _ :: _, _, k => k.elim
  | _ :: _, [], _, k => k.elim
theorem flatC_rel {w w' : World} {M M' : Nat → Prop} {c : DC} {v : Value} (h : flatC c = true) (k : DCR w M c v) : DCR w' M' c v := by
  cases c with
  | one y =>
    have : DsR w M [y] [v] := ⟨k, trivial⟩
    exact (flatL_rel (w' := w') (M' := M') h this).1
  | agg l => obtain ⟨vs, e, k⟩ := k; exact ⟨vs, e, flatL_rel h k⟩
theorem flatCs_rel {w w' : World} {M M' : Nat → Prop} : ∀ {l : List DC} {us : List Value}, flatCs l = true → DCsR w M l us → DCsR w' M' l us
  | [], [], _, _ => trivial
  | c :: l, u :: us, h, k => by
    simp only [flatCs] at h
    split at h
    · rename_i hc; exact ⟨flatC_rel hc k.1, flatCs_rel h k.2⟩
    · cases h
  | [], _ :: _, _, k => k.elim
  | _ :: _, [], _, k => k.elim
theorem flatV_rel {w w' : World} {M M' : Nat → Prop} {r : DV} {v : Value} (h : flatV r = true) (k : DVR w M r v) : DVR w' M' r v := by
  cases r with
  | c c => exact flatC_rel h k
  | tup l => obtain ⟨vs, e, k⟩ := k; exact ⟨vs, e, flatCs_rel h k⟩

theorem Rel.Mlt (R : Rel C M0 w0 sz ρ E H a w) : ∀ b, Mof M0 ρ H b → b < w.heap.size := fun b hb => by
  rcases hb with hb | ⟨n, x, hn, hr, rfl⟩
  · exact Nat.lt_of_lt_of_le (R.out b hb) R.below.size
  · exact R.hi n x hn hr

/-! ### arguments -/
theorem caps_rel (R : Rel C M0 w0 sz ρ E H a w) {M' : Nat → Prop} (h1 : ∀ b, b < w.heap.size → M' b → Mof M0 ρ H b) (h2 : ∀ n cs, look H n = some (.own cs) → ¬ M' (ρ n).b) {h : Nat → Option Blk} (hh : ∀ n b, h n = some b → look H n = some b) :
    ∀ {caps : List Nat} {cs : List (List D)}, capsD h caps = some cs → ∀ i, (hi : i < cs.length) → ∃ n, caps[i]? = some n ∧ Rep w M' (.ref cs[i]) (.pointer (some ⟨(ρ n).b, 0, none⟩))
  | [], cs, hc => by simp [capsD] at hc; subst hc; intro i hi; simp at hi
  | n :: r, cs, hc => by
    simp only [capsD] at hc
    split at hc
    · rename_i cells hn
      split at hc
      · rename_i ds rs hds hrs
        injection hc with hc
        subst hc
        intro i hi
        cases i with
        | zero =>
          refine ⟨n, rfl, ?_⟩
          have hl := hh _ _ hn
          obtain ⟨us, hc, hR⟩ := (R.blk n _ hl).2 rfl
          have hR : AtsR ρ w (Mof M0 ρ H) cells us := hR
          have hD := (atsD_rel' hds hR).mono (.refl _ w) h1
          refine .ref (fun j => us.getD j undef) (h2 n _ hl) (R.hi n _ hl rfl) (fun j hj => ?_) (fun j hj => ?_)
          · have : j < us.length := by rw [hD.length]; exact hj
            rw [Nat.zero_add, cell_of hc]
            simp [List.getElem?_eq_getElem this]
          · obtain ⟨u, hu, hr⟩ := hD.get j _ (List.getElem?_eq_getElem hj)
            have : us.getD j undef = u := by rw [List.getD_eq_getElem?_getD, hu]; rfl
            rw [this]; exact hr
        | succ i =>
          obtain ⟨m, e, hr⟩ := caps_rel R h1 h2 hh hrs i (by simpa using hi)
          exact ⟨m, by simpa using e, by simpa using hr⟩
      · cases hc
    · cases hc
theorem caps_len {h : Nat → Option Blk} : ∀ {caps : List Nat} {cs : List (List D)}, capsD h caps = some cs → cs.length = caps.length
  | [], cs, hc => by simp [capsD] at hc; subst hc; rfl
  | n :: r, cs, hc => by
    simp only [capsD] at hc
    split at hc
    · split at hc
      · rename_i ds rs hds hrs
        injection hc with hc
        subst hc
        simp [caps_len hrs]
      · cases hc
    · cases hc
theorem clo_rel (R : Rel C M0 w0 sz ρ E H a w) {M' : Nat → Prop} (h1 : ∀ b, b < w.heap.size → M' b → Mof M0 ρ H b) {f : Nat} {caps : List Nat} (h2 : caps ≠ [] → ∀ n cs, look H n = some (.own cs) → ¬ M' (ρ n).b) {h : Nat → Option Blk} (hh : ∀ n b, h n = some b → look H n = some b)
    {cs : List (List D)} (hc : capsD h caps = some cs) {v : Value} (hv : AtR ρ w (Mof M0 ρ H) (.fn f caps) v) : Rep w M' (.clo f cs) v := by
  obtain ⟨_, rfl⟩ := hv
  have hl := caps_len hc
  have := Rep.clo (w := w) (M := M') (g := f) (caps := cs) (fun i => match caps[i]? with | some n => .pointer (some ⟨(ρ n).b, 0, none⟩) | none => undef) (fun i hi => by
    have hne : caps ≠ [] := by rintro rfl; simp at hl; subst hl; simp at hi
    obtain ⟨n, e, hr⟩ := caps_rel R h1 (h2 hne) hh hc i hi
    rw [e]; exact hr)
  have e : (List.map (fun i => match caps[i]? with | some n => Value.pointer (some ⟨(ρ n).b, 0, none⟩) | none => undef) (List.range cs.length)) = caps.map fun n => Value.pointer (some ⟨(ρ n).b, 0, none⟩) := by
    rw [hl]
    apply List.ext_getElem
    · simp
    · intro i h1 h2
      simp at h1 h2
      simp [List.getElem?_eq_getElem h1]
  rw [e] at this
  exact this
theorem refs_rel (R : Rel C M0 w0 sz ρ E H a w) {M' : Nat → Prop} (h1 : ∀ b, b < w.heap.size → M' b → Mof M0 ρ H b) {caps : List Nat} (h2 : caps ≠ [] → ∀ n cs, look H n = some (.own cs) → ¬ M' (ρ n).b) {h : Nat → Option Blk} (hh : ∀ n b, h n = some b → look H n = some b) :
    ∀ {l : List Nat} {cs : List (List D)}, (l ≠ [] → caps ≠ []) → capsD h l = some cs → DCsR w M' (refsC cs) (l.map fun n => Value.pointer (some ⟨(ρ n).b, 0, none⟩)) := by
  intro l
  induction l with
  | nil => intro cs _ hc; simp [capsD] at hc; subst hc; trivial
  | cons n r ih =>
    intro cs hne hc
    have hc0 := hc
    simp only [capsD] at hc
    split at hc
    · split at hc
      · rename_i ds rs hds hrs
        injection hc with hc
        subst hc
        obtain ⟨m, e, hr⟩ := caps_rel R h1 (h2 (hne (by simp))) hh hc0 0 (by simp)
        simp at e
        subst e
        exact ⟨hr, ih (fun _ => hne (by simp)) hrs⟩
      · cases hc
    · cases hc
theorem crefs_rel {M' : Nat → Prop} {f : Nat} {cs : List (List D)} {v : Value} (hv : Rep w M' (.clo f cs) v) : ∃ ps : List Value, v = .func (.func f) #[] ps.toArray ∧ DCsR w M' (refsC cs) ps := by
  cases hv with
  | clo ps hr =>
    refine ⟨_, rfl, ?_⟩
    have key : ∀ (cs : List (List D)) (k : Nat) (ps : Nat → Value), (∀ i, (hi : i < cs.length) → Rep w M' (.ref cs[i]) (ps (k + i))) → DCsR w M' (refsC cs) ((List.range' k cs.length).map ps) := by
      intro cs
      induction cs with
      | nil => intros; trivial
      | cons c cs ih =>
        intro k ps hr
        rw [List.length_cons, List.range'_succ, List.map_cons]
        refine ⟨show Rep w M' (.ref c) (ps k) from hr 0 (Nat.succ_pos _), ih (k + 1) ps fun i hi => ?_⟩
        have := hr (i + 1) (by simp; omega)
        rw [show k + (i + 1) = k + 1 + i by omega] at this
        simpa using this
    have := key cs 0 ps (fun i hi => by rw [Nat.zero_add]; exact hr i hi)
    rwa [← List.range_eq_range'] at this
theorem argOf_rel (R : Rel C M0 w0 sz ρ E H a w) {M' : Nat → Prop} (h1 : ∀ b, b < w.heap.size → M' b → Mof M0 ρ H b) {h : Nat → Option Blk} (hh : ∀ n b, h n = some b → look H n = some b) {s : SV} (h2 : lendB [some s] = true → ∀ n cs, look H n = some (.own cs) → ¬ M' (ρ n).b)
    {c : DC} {v : Value} (hs : argOf h s = some c) (k : SVR ρ w (Mof M0 ρ H) s v) : DCR w M' c v := by
  unfold argOf at hs
  split at hs
  · rename_i y
    have hr : Rep w M' (normD y) v := Rep.norm (Rep.mono k (.refl _ w) h1)
    split at hs <;> (injection hs with hs; subst hs; exact hr)
  · rename_i n v0
    split at hs
    · rename_i k0 v' hb
      split at hs
      · rename_i hv
        injection hs with hs; subst hs
        have hv : v0 = v' := by simpa using hv
        subst hv
        obtain ⟨e1, e2, e3, e4⟩ := k
        obtain ⟨⟨k1, k2, k3, k4, k5⟩, hreal⟩ := R.blk n _ (hh _ _ hb)
        obtain ⟨z, rfl, hz⟩ := e4 (by omega)
        rw [← k2]
        refine .nil k0 z _ ?_ (fun h => by
          rcases Nat.eq_zero_or_pos (ρ n).cap with h0 | h0
          · exact h0
          · rw [hz h0] at h; cases h)
        rcases Nat.eq_zero_or_pos (ρ n).cap with h | h
        · omega
        · obtain ⟨cs, _, c1, c2, _⟩ := hreal (by simpa [Blk.real] using h)
          exact c2
      · cases hs
    · cases hs
  · rename_i f caps
    split at hs
    · rename_i cs hc
      injection hs with hs; subst hs
      refine clo_rel R h1 (fun hne => h2 ?_) hh hc k
      cases caps with
      | nil => exact absurd rfl hne
      | cons n r => rfl
    · cases hs
  · split at hs
    · rename_i l r hr
      injection hs with hs; subst hs
      obtain ⟨us, rfl, k⟩ := k
      exact ⟨us, rfl, (atsD_rel' hr k).mono (.refl _ w) h1⟩
    · cases hs
  · cases hs
theorem lendB_cons {y : Option SV} {l : List (Option SV)} : lendB (y :: l) = (lendB [y] || lendB l) := by
  simp only [lendB]
  cases lend1 y <;> rfl
theorem argsOf_rel (R : Rel C M0 w0 sz ρ E H a w) {M' : Nat → Prop} (h1 : ∀ b, b < w.heap.size → M' b → Mof M0 ρ H b) {h : Nat → Option Blk} (hh : ∀ n b, h n = some b → look H n = some b) :
    ∀ {ys : List Operand} {args : List DC}, (lendB (ys.map (ev (look E))) = true → ∀ n cs, look H n = some (.own cs) → ¬ M' (ρ n).b) → argsOf h (ys.map (ev (look E))) = some args → DCsR w M' args (ys.map a.eval)
  | [], args, h2, hs => by simp [argsOf] at hs; subst hs; trivial
  | y :: ys, args, h2, hs => by
    simp only [List.map_cons] at hs h2
    rw [lendB_cons] at h2
    cases hy : ev (look E) y with
    | none => rw [hy] at hs; simp [argsOf] at hs
    | some s =>
      rw [hy] at hs h2
      simp only [argsOf] at hs
      split at hs
      · rename_i c r hc hr
        injection hs with hs
        subst hs
        exact ⟨argOf_rel R h1 hh (fun hl => h2 (by rw [hl]; rfl)) hc (ev_ok R hy).1, argsOf_rel R h1 hh (fun hl => h2 (by rw [hl]; simp)) hr⟩
      · cases hs

theorem refL_eq : ∀ {cs : List (List D)} {r : List DC}, refL cs = some r → r = refsC cs
  | [], r, h => by simp [refL] at h; subst h; rfl
  | c :: cs, r, h => by
    simp only [refL] at h
    split at h
    · rename_i r' hr; injection h with h; subst h; rw [refL_eq hr]; rfl
    · cases h
theorem catL_eq : ∀ {l : List DC} {cs : List (List D)} {r : List DC}, catL l cs = some r → r = l ++ refsC cs
  | [], cs, r, h => by rw [refL_eq h]; rfl
  | a :: l, cs, r, h => by
    simp only [catL] at h
    split at h
    · rename_i r' hr; injection h with h; subst h; rw [catL_eq hr]; rfl
    · cases h
/-! ### calls -/
theorem exec_call {c : Call} {f : Nat} {fo : Operand} {cb : List Value} (ho : o.op = .call c) (hc : c.callee = .value fo) (hfv : a.eval fo = .func (.func f) #[] cb.toArray) : (execOp a.eval o).run P w = (callFunc f (c.args.toList.map a.eval ++ cb).toArray).run P w := by
  have hargs : (c.args.map a.eval) = (c.args.toList.map a.eval).toArray := by apply Array.ext'; simp
  have h1 : (resolve a.eval c o.type) = pure { target := .fn (.func f) cb.toArray, args := (c.args.toList.map a.eval).toArray } := by
    unfold resolve
    simp only [hc, hfv, Deferred.ofValue, hargs]
    congr 2
    apply Array.ext'
    simp
  simp only [execOp, ho, Sem.run_bind, h1, Sem.run_pure, Result.andThen_ok, invoke]
  rw [show ((c.args.toList.map a.eval).toArray ++ cb.toArray : Array Value) = (c.args.toList.map a.eval ++ cb).toArray by simp]

theorem st_fn (R : Rel C M0 w0 sz ρ E H a w) {M' : Nat → Prop} (hM' : ∀ b, M' b → b < w.heap.size) {f : Nat} {vs : List Value} {args : List DC} {r : DV} (hrun : (execOp a.eval o).run P w = (callFunc f vs.toArray).run P w) (ha : DCsR w M' args vs) (hr : FnOK P f args r)
    (hback : ∀ w' v, DVR w' M' r v → DVR w' (Mof M0 ρ H) r v) {d : Nat} (hd : o.dst = some d) (hlt : d < sz) : StepOK P C M0 w0 sz E H o (.val (embV r)) a w := by
  intro next Q hn
  unfold Oper.wp
  rw [hrun]
  rcases hr w M' _ hM' ha with ⟨g, hg, hr⟩ | ⟨v, hg, hv⟩
  · rw [hg, Oper.upon_enter]
    refine hr.mono ?_
    rintro e w' ⟨v, rfl, hv, hb⟩
    exact hn ρ v w' ((R.grow hb).val (dst := o.dst) (fun d' h => by rw [hd] at h; injection h with h; omega) (DVR.emb (hback _ _ hv)) embV_names)
  · rw [hg, Oper.upon_value]
    exact hn ρ v w (R.val (dst := o.dst) (fun d' h => by rw [hd] at h; injection h with h; omega) (DVR.emb (hback _ _ hv)) embV_names)

/-- a static function: data -/
theorem st_call (R : Rel C M0 w0 sz ρ E H a w) {c : Call} {f : Nat} {fo : Operand} {args : List DC} {r : DV} {h : Nat → Option Blk} (hh : ∀ n b, h n = some b → look H n = some b) (ho : o.op = .call c) (hc : c.callee = .value fo) (hf : ev (look E) fo = some (.c (.at (.fn f []))))
    (hl : lendB (c.args.toList.map (ev (look E))) = false) (ha : argsOf h (c.args.toList.map (ev (look E))) = some args) (hr : FnOK P f args r) {d : Nat} (hd : o.dst = some d) (hlt : d < sz) : StepOK P C M0 w0 sz E H o (.val (embV r)) a w := by
  have hfv : a.eval fo = .func (.func f) #[] ([] : List Value).toArray := by
    have := (ev_ok R hf).1.2
    simpa using this
  refine st_fn R R.Mlt (exec_call ho hc hfv) ?_ hr (fun _ _ h => h) hd hlt
  rw [List.append_nil]
  exact argsOf_rel R (fun _ _ h => h) hh (fun h => by rw [hl] at h; cases h) ha
theorem DCsR.append {M : Nat → Prop} : ∀ {a b : List DC} {u v : List Value}, DCsR w M a u → DCsR w M b v → DCsR w M (a ++ b) (u ++ v)
  | [], b, [], v, _, h => h
  | x :: a, b, y :: u, v, h, k => ⟨h.1, DCsR.append h.2 k⟩
  | [], _, _ :: _, _, h, _ => h.elim
  | _ :: _, _, [], _, h, _ => h.elim
/-- a function that is lent memory of the call's own, or is a closure of the call's own -/
theorem st_callB (R : Rel C M0 w0 sz ρ E H a w) {c : Call} {f : Nat} {fo : Operand} {caps : List Nat} {cs : List (List D)} {args : List DC} {r : DV} {h : Nat → Option Blk} (hh : ∀ n b, h n = some b → look H n = some b) (ho : o.op = .call c) (hc : c.callee = .value fo) (hf : ev (look E) fo = some (.c (.at (.fn f caps))))
    (hcs : capsD h caps = some cs) (ha : argsOf h (c.args.toList.map (ev (look E))) = some args) (hr : FnB P f (args ++ refsC cs) r) {d : Nat} (hd : o.dst = some d) (hlt : d < sz) : StepOK P C M0 w0 sz E H o (.val (embV r)) a w := by
  have hfv := (ev_ok R hf).1.2
  refine st_fn R (M' := fun _ => False) (fun _ h => h.elim) (exec_call ho hc (cb := caps.map fun n => Value.pointer (some ⟨(ρ n).b, 0, none⟩)) hfv) ?_ hr.2 (fun _ _ h => flatV_rel hr.1 h) hd hlt
  exact (argsOf_rel R (fun _ _ h => h.elim) hh (fun _ _ _ _ h => h) ha).append (refs_rel R (fun _ _ h => h.elim) (caps := caps) (fun _ _ _ _ h => h) hh (fun h => h) hcs)
theorem st_callC (R : Rel C M0 w0 sz ρ E H a w) {c : Call} {f : Nat} {fo : Operand} {cs : List (List D)} {args : List DC} {r : DV} {h : Nat → Option Blk} (hh : ∀ n b, h n = some b → look H n = some b) (ho : o.op = .call c) (hc : c.callee = .value fo) (hf : ev (look E) fo = some (.c (.at (.d (.clo f cs)))))
    (hl : lendB (c.args.toList.map (ev (look E))) = false) (ha : argsOf h (c.args.toList.map (ev (look E))) = some args) (hr : FnOK P f (args ++ refsC cs) r) {d : Nat} (hd : o.dst = some d) (hlt : d < sz) : StepOK P C M0 w0 sz E H o (.val (embV r)) a w := by
  obtain ⟨ps, hfv, hps⟩ := crefs_rel (show Rep w (Mof M0 ρ H) (.clo f cs) (a.eval fo) from (ev_ok R hf).1)
  exact st_fn R R.Mlt (exec_call ho hc hfv) ((argsOf_rel R (fun _ _ h => h) hh (fun h => by rw [hl] at h; cases h) ha).append hps) hr (fun _ _ h => h) hd hlt
theorem st_callCB (R : Rel C M0 w0 sz ρ E H a w) {c : Call} {f : Nat} {fo : Operand} {cs : List (List D)} {args : List DC} {r : DV} {h : Nat → Option Blk} (hh : ∀ n b, h n = some b → look H n = some b) (ho : o.op = .call c) (hc : c.callee = .value fo) (hf : ev (look E) fo = some (.c (.at (.d (.clo f cs)))))
    (ha : argsOf h (c.args.toList.map (ev (look E))) = some args) (hr : FnB P f (args ++ refsC cs) r) {d : Nat} (hd : o.dst = some d) (hlt : d < sz) : StepOK P C M0 w0 sz E H o (.val (embV r)) a w := by
  obtain ⟨ps, hfv, hps⟩ := crefs_rel ((show Rep w (Mof M0 ρ H) (.clo f cs) (a.eval fo) from (ev_ok R hf).1).mono (.refl _ w) (M' := fun _ => False) fun _ _ h => h.elim)
  exact st_fn R (M' := fun _ => False) (fun _ h => h.elim) (exec_call ho hc hfv) ((argsOf_rel R (fun _ _ h => h.elim) hh (fun _ _ _ _ h => h) ha).append hps) hr.2 (fun _ _ h => flatV_rel hr.1 h) hd hlt

theorem setAt_len {α : Type} : ∀ (l : List α) (n : Nat) (x : α), (setAt l n x).length = l.length
  | [], _, _ => rfl
  | _ :: _, 0, _ => rfl
  | y :: l, n + 1, x => by simp [setAt, setAt_len l n x]
theorem AtsR.osl {ρ' : Nat → Nm} {M M' : Nat → Prop} {d e0 : Nat} (h0 : ρ' d = ρ e0) (hM : ∀ b, b < w.heap.size → M' b → M b) : ∀ {l : List D} {j : Nat} {vs : List Value}, AtsR ρ w M (setAt (l.map .d) j (.osl e0 0)) vs → AtsR ρ' w M' (setAt (l.map .d) j (.osl d 0)) vs
  | [], j, vs, h => by cases vs <;> exact h
  | y :: l, 0, v :: vs, h => by
    refine ⟨?_, ?_⟩
    · have := h.1
      simp only [AtR] at this ⊢
      rw [h0]; exact this
    · exact DsR.ats.1 ((DsR.ats.2 h.2).mono (.refl _ w) hM)
  | y :: l, 0, [], h => h.elim
  | y :: l, j + 1, v :: vs, h => ⟨Rep.mono h.1 (.refl _ w) hM, AtsR.osl h0 hM h.2⟩
  | y :: l, j + 1, [], h => h.elim
theorem SCR.osl {ρ' : Nat → Nm} {M M' : Nat → Prop} {d e0 : Nat} (h0 : ρ' d = ρ e0) (hM : ∀ b, b < w.heap.size → M' b → M b) {c : DC} {j : Nat} {v : Value} (h : SCR ρ w M (embOC e0 c j) v) : SCR ρ' w M' (embOC d c j) v := by
  cases c with
  | one y =>
    simp only [embOC, SCR, AtR] at h ⊢
    rw [h0]; exact h
  | agg l =>
    obtain ⟨vs, e, h⟩ := h
    exact ⟨vs, e, AtsR.osl h0 hM h⟩
theorem SCR.emb_mono {ρ' : Nat → Nm} {M M' : Nat → Prop} (hM : ∀ b, b < w.heap.size → M' b → M b) {c : DC} {v : Value} (h : SCR ρ w M (embC c) v) : SCR ρ' w M' (embC c) v :=
  SCR.rename (fun n hn => by rw [names_embC] at hn; cases hn) (SCR.mono (.refl _ w) hM h)
theorem SCsR.emb_mono {ρ' : Nat → Nm} {M M' : Nat → Prop} (hM : ∀ b, b < w.heap.size → M' b → M b) : ∀ {l : List DC} {vs : List Value}, SCsR ρ w M (l.map embC) vs → SCsR ρ' w M' (l.map embC) vs
  | [], [], h => h
  | c :: l, v :: vs, h => ⟨SCR.emb_mono hM h.1, SCsR.emb_mono hM h.2⟩
  | [], _ :: _, h => h.elim
  | _ :: _, [], h => h.elim
theorem SCsR.osl {ρ' : Nat → Nm} {M M' : Nat → Prop} {d e0 : Nat} (h0 : ρ' d = ρ e0) (hM : ∀ b, b < w.heap.size → M' b → M b) : ∀ {l : List DC} {i j : Nat} {c : DC} {vs : List Value}, SCsR ρ w M (setAt (l.map embC) i (embOC e0 c j)) vs → SCsR ρ' w M' (setAt (l.map embC) i (embOC d c j)) vs
  | [], i, j, c, vs, h => by cases vs <;> exact h
  | y :: l, 0, j, c, v :: vs, h => ⟨SCR.osl h0 hM h.1, SCsR.emb_mono hM h.2⟩
  | y :: l, 0, j, c, [], h => h.elim
  | y :: l, i + 1, j, c, v :: vs, h => ⟨SCR.emb_mono hM h.1, SCsR.osl h0 hM h.2⟩
  | y :: l, i + 1, j, c, [], h => h.elim
theorem SVR.osl {ρ' : Nat → Nm} {M M' : Nat → Prop} {d e0 : Nat} (h0 : ρ' d = ρ e0) (hM : ∀ b, b < w.heap.size → M' b → M b) {q : OwnR} {v : Value} (h : SVR ρ w M (embO e0 q) v) : SVR ρ' w M' (embO d q) v := by
  unfold embO at *
  split at h
  · rename_i c hc
    exact SCR.osl h0 hM h
  · rename_i l hl
    split at h
    · rename_i c hc
      obtain ⟨vs, e, h⟩ := h
      exact ⟨vs, e, SCsR.osl h0 hM h⟩
    · obtain ⟨vs, e, h⟩ := h
      refine ⟨vs, e, ?_⟩
      cases vs <;> exact h
theorem names_setAt {d j : Nat} : ∀ {l : List D}, ∀ m ∈ namesA (setAt (l.map .d) j (.osl d 0)), m = d := by
  intro l
  induction l generalizing j with
  | nil => intro m hm; simp [setAt, namesA] at hm
  | cons y l ih =>
    intro m hm
    cases j with
    | zero =>
      have e : namesA (At.osl d 0 :: List.map At.d l) = d :: namesA (List.map At.d l) := rfl
      rw [List.map_cons, setAt, e, names_map_d] at hm
      simpa using hm
    | succ j => exact ih m (by simpa [setAt, namesA, At.names] using hm)
theorem names_embOC {d j : Nat} {c : DC} : ∀ m ∈ (embOC d c j).names, m = d := by
  cases c with
  | one y => intro m hm; simpa [embOC, SC.names, At.names] using hm
  | agg l => exact names_setAt
theorem names_setAtC {d i j : Nat} {c : DC} : ∀ {l : List DC}, ∀ m ∈ namesC (setAt (l.map embC) i (embOC d c j)), m = d := by
  intro l
  induction l generalizing i with
  | nil => intro m hm; simp [setAt, namesC] at hm
  | cons y l ih =>
    intro m hm
    cases i with
    | zero =>
      simp only [List.map_cons, setAt, namesC, List.flatMap_cons, List.mem_append, List.mem_flatMap, List.mem_map] at hm
      rcases hm with hm | ⟨_, ⟨z, _, rfl⟩, hm⟩
      · exact names_embOC m hm
      · rw [names_embC] at hm; cases hm
    | succ i =>
      simp only [List.map_cons, setAt, namesC, List.flatMap_cons, List.mem_append] at hm
      rcases hm with hm | hm
      · rw [names_embC] at hm; cases hm
      · exact ih m hm
theorem names_embO {d : Nat} {q : OwnR} : ∀ m ∈ (embO d q).names, m = d := by
  unfold embO
  split
  · exact names_embOC
  · split
    · exact names_setAtC
    · intro m hm; simp [SV.names, namesC] at hm
theorem st_callO (R : Rel C M0 w0 sz ρ E H a w) {c : Call} {f : Nat} {fo : Operand} {args : List DC} {q : OwnR} {h : Nat → Option Blk} (hh : ∀ n b, h n = some b → look H n = some b) (ho : o.op = .call c) (hc : c.callee = .value fo) (hf : ev (look E) fo = some (.c (.at (.fn f []))))
    (hl : lendB (c.args.toList.map (ev (look E))) = false) (ha : argsOf h (c.args.toList.map (ev (look E))) = some args) (hr : FnOwn P f args q) {d : Nat} (hd : o.dst = some d) (hlt : d < sz) (hfr : look H d = none) : StepOK P C M0 w0 sz E H o (.new d (.row q.k q.l 0) (embO d q)) a w := by
  have hfv : a.eval fo = .func (.func f) #[] ([] : List Value).toArray := by
    have := (ev_ok R hf).1.2
    simpa using this
  have hargs := argsOf_rel R (fun _ _ h => h) hh (fun h => by rw [hl] at h; cases h) ha
  intro next Q hn
  unfold Oper.wp
  rw [exec_call ho hc hfv, List.append_nil]
  obtain ⟨g, hg, hr⟩ := hr w _ _ R.Mlt hargs
  rw [hg, Oper.upon_enter]
  refine hr.mono ?_
  rintro e w' ⟨v, m, rfl, hb, hown, hver, hpos, hS, hB⟩
  have hreal : (Blk.row q.k q.l 0).real m = true → 0 < m.cap := fun h => by simpa [Blk.real] using h
  have hMM : ∀ b, b < w'.heap.size → Mof M0 (upd ρ d m) ((d, .row q.k q.l 0) :: H) b → Mof M0 ρ H b ∨ 0 < m.cap ∧ b = m.b := by
    rintro b _ (h | ⟨j, z, hj, hz, e⟩)
    · exact .inl (.inl h)
    · by_cases hjd : j = d
      · subst hjd
        rw [look_cons, if_pos rfl] at hj
        injection hj with hj
        subst hj
        rw [upd_same] at hz e
        exact .inr ⟨hreal hz, e.symm⟩
      · rw [look_cons, if_neg (fun e => hjd e.symm)] at hj
        rw [upd_other hjd] at hz e
        exact .inl (.inr ⟨j, z, hj, hz, e⟩)
  have R' := R.fresh (n := d) (b := .row q.k q.l 0) (m := m) hfr hb.os hb.tape hb.output hb.size (fun k hk => hb.block k hk) (fun h => hpos (hreal h))
    (fun h1 h2 h3 => by
      obtain ⟨k1, k2⟩ := hB
      refine ⟨k1.mono (.refl _ w') hMM, fun hr => ?_⟩
      obtain ⟨cs, hcs, hC⟩ := k2 hr
      exact ⟨cs, hcs, (hC.mono (.refl _ w') hMM).rename (ρ' := upd ρ d m) (fun n hn => by simp [Blk.names] at hn)⟩) (by simp [Blk.names])
  refine hn (upd ρ d m) v w' ?_
  rw [hd]
  refine R'.val (dst := some d) (x := embO d q) (fun d' h => by injection h with h; omega) ?_ (fun n hn => ?_)
  · exact SVR.osl (ρ := fun _ => m) (by rw [upd_same]) hMM hS
  · rw [names_embO n hn, look_cons, if_pos rfl]; rfl
theorem flat_flatten : ∀ {l : List (List D)}, (∀ e ∈ l, flatL e = true) → flatL l.flatten = true := by
  intro l
  induction l with
  | nil => intro _; rfl
  | cons e l ih =>
    intro h
    have h1 := h e (List.mem_cons_self ..)
    have h2 := ih fun z hz => h z (List.mem_cons_of_mem _ hz)
    rw [List.flatten_cons]
    have app : ∀ p q : List D, flatL p = true → flatL q = true → flatL (p ++ q) = true := by
      intro p
      induction p with
      | nil => intro q _ h; exact h
      | cons z p ihp =>
        intro q hp hq
        cases z <;> simp [flatL] at hp ⊢
        exact ihp q hp hq
    exact app _ _ h1 h2
theorem st_callM (R : Rel C M0 w0 sz ρ E H a w) {c : Call} {f : Nat} {fo y : Operand} {ys : List Operand} {n v k : Nat} {l l' : List (List D)} {args : List DC} {h : Nat → Option Blk} (hh : ∀ n b, h n = some b → look H n = some b) (ho : o.op = .call c) (hc : c.callee = .value fo)
    (hf : ev (look E) fo = some (.c (.at (.fn f [])))) (hys : c.args.toList = y :: ys) (hy : ev (look E) y = some (.c (.at (.osl n v)))) (hb : look H n = some (.row k l v)) (ha : argsOf h (ys.map (ev (look E))) = some args) (hmu : FnMu P f k l args l') {d : Nat} (hd : o.dst = some d) (hlt : d < sz) :
    StepOK P C M0 w0 sz E H o (.new n (.row k l' v) (.tup [])) a w := by
  have hfv : a.eval fo = .func (.func f) #[] ([] : List Value).toArray := by
    have := (ev_ok R hf).1.2
    simpa using this
  obtain ⟨x, e1, e2, e3, e4, e5, e6, e7⟩ := osl_val R hy hb
  have hB := R.blk n _ hb
  have hreal : ∀ l, (Blk.row k l v).real (ρ n) = true → 0 < (ρ n).cap := fun l h => by simpa [Blk.real] using h
  have hreal' : ∀ l, 0 < (ρ n).cap → (Blk.row k l v).real (ρ n) = true := fun l h => by simpa [Blk.real] using h
  have hsub : ∀ b, b < w.heap.size → (0 < (ρ n).cap ∧ b = (ρ n).b) → Mof M0 ρ H b := fun b _ h => .inr ⟨n, _, hb, hreal' _ h.1, h.2.symm⟩
  have hargs := argsOf_rel R (M' := fun b => 0 < (ρ n).cap ∧ b = (ρ n).b) hsub hh (fun _ m cs hm he => by
    have : m = n := R.inj m n _ _ hm hb rfl (hreal' _ he.1) he.2
    subst this
    rw [hb] at hm; cases hm) ha
  intro next Q hn
  unfold Oper.wp
  rw [exec_call ho hc hfv, List.append_nil, hys, List.map_cons, e1]
  obtain ⟨g, hg, hcall⟩ := hmu.2 w (fun b => 0 < (ρ n).cap ∧ b = (ρ n).b) (.slice x l.length (ρ n).cap) _ (ρ n) (fun b h => by rw [h.2]; exact R.hi n _ hb (hreal' _ h.1)) (fun h => ⟨h, rfl⟩) hargs
    (by
      obtain ⟨k1, k2⟩ := hB
      rw [e7]
      refine ⟨k1.mono (.refl _ w) hsub, fun hr => ?_⟩
      obtain ⟨cs, hcs, hC⟩ := k2 hr
      exact ⟨cs, hcs, (hC.mono (.refl _ w) hsub).rename (ρ' := fun _ => ρ n) (fun n hn => by simp [Blk.names] at hn)⟩) ⟨x, by rw [e3], e2⟩
  rw [hg, Oper.upon_enter]
  refine hcall.mono ?_
  rintro e w' ⟨rfl, hBel, hB'⟩
  refine hn (upd ρ n (ρ n)) (.tuple #[]) w' ?_
  have R' := R.known (n := n) (b0 := .row k l v) (b := .row k l' v) (m := ρ n) (w' := w') hb (.inl rfl) hBel.os hBel.tape hBel.output hBel.size
    (fun k hk h => hBel.block k hk fun ⟨h1, h2⟩ => h (hreal' _ h1) h2) (fun hr => .inl ⟨hreal' _ (hreal _ hr), rfl⟩)
    (fun h1 h2 => by
      obtain ⟨k1, k2⟩ := hB'
      rw [e7] at k1 k2
      refine ⟨k1, fun hr => ?_⟩
      obtain ⟨cs, hcs, c1, c2, c3, vs, rest, c4, c5⟩ := k2 hr
      exact ⟨cs, hcs, c1, c2, c3, vs, rest, c4, flatL_rel (by
        have key : ∀ l : List (List D), (∀ e ∈ l, flatL e = true) → flatL l.flatten = true := by
          intro l
          induction l with
          | nil => intro _; rfl
          | cons e l ih =>
            intro h
            have h1 := h e (List.mem_cons_self ..)
            have h2 := ih fun z hz => h z (List.mem_cons_of_mem _ hz)
            rw [List.flatten_cons]
            have app : ∀ p q : List D, flatL p = true → flatL q = true → flatL (p ++ q) = true := by
              intro p
              induction p with
              | nil => intro q _ h; exact h
              | cons z p ihp =>
                intro q hp hq
                cases z <;> simp [flatL] at hp ⊢
                exact ihp q hp hq
            exact app _ _ h1 h2
        exact key l' hmu.1) c5⟩) (by simp [Blk.names])
  rw [hd]
  exact R'.val (dst := some d) (x := .tup []) (fun d' h => by injection h with h; omega) ⟨[], rfl, trivial⟩ (fun m hm => by simp [SV.names, namesC] at hm)
theorem st_callK (R : Rel C M0 w0 sz ρ E H a w) {c : Call} {f : Nat} {fo y : Operand} {ys : List Operand} {n v k : Nat} {l l' : List (List D)} {args : List DC} {h : Nat → Option Blk} (hh : ∀ n b, h n = some b → look H n = some b) (ho : o.op = .call c) (hc : c.callee = .value fo)
    (hf : ev (look E) fo = some (.c (.at (.fn f [])))) (hys : c.args.toList = y :: ys) (hy : ev (look E) y = some (.c (.at (.osl n v)))) (hb : look H n = some (.row k l v)) (ha : argsOf h (ys.map (ev (look E))) = some args) (hmu : FnCon P f k l args l') {d : Nat} (hd : o.dst = some d) (hlt : d < sz) :
    StepOK P C M0 w0 sz E H o (.new n (.row k l' (v + 1)) (.c (.at (.osl n (v + 1))))) a w := by
  have hfv : a.eval fo = .func (.func f) #[] ([] : List Value).toArray := by
    have := (ev_ok R hf).1.2
    simpa using this
  obtain ⟨x, e1, e2, e3, e4, e5, e6, e7⟩ := osl_val R hy hb
  have hB := R.blk n _ hb
  have hreal' : ∀ l, 0 < (ρ n).cap → (Blk.row k l v).real (ρ n) = true := fun l h => by simpa [Blk.real] using h
  have hsub : ∀ b, b < w.heap.size → (0 < (ρ n).cap ∧ b = (ρ n).b) → Mof M0 ρ H b := fun b _ h => .inr ⟨n, _, hb, hreal' _ h.1, h.2.symm⟩
  have hargs := argsOf_rel R (M' := fun b => 0 < (ρ n).cap ∧ b = (ρ n).b) hsub hh (fun _ m cs hm he => by
    have : m = n := R.inj m n _ _ hm hb rfl (hreal' _ he.1) he.2
    subst this
    rw [hb] at hm; cases hm) ha
  intro next Q hn
  unfold Oper.wp
  rw [exec_call ho hc hfv, List.append_nil, hys, List.map_cons, e1]
  obtain ⟨g, hg, hcall⟩ := hmu.2 w (fun b => 0 < (ρ n).cap ∧ b = (ρ n).b) (.slice x l.length (ρ n).cap) _ (ρ n) (fun b h => by rw [h.2]; exact R.hi n _ hb (hreal' _ h.1)) (fun h => ⟨h, rfl⟩) hargs
    (by
      obtain ⟨k1, k2⟩ := hB
      rw [e7]
      refine ⟨k1.mono (.refl _ w) hsub, fun hr => ?_⟩
      obtain ⟨cs, hcs, hC⟩ := k2 hr
      exact ⟨cs, hcs, (hC.mono (.refl _ w) hsub).rename (ρ' := fun _ => ρ n) (fun n hn => by simp [Blk.names] at hn)⟩) ⟨x, by rw [e3], e2⟩
  rw [hg, Oper.upon_enter]
  refine hcall.mono ?_
  rintro e w' ⟨u, m', rfl, hown, hBel, hnew, hB', hu⟩
  refine hn (upd ρ n { m' with ver := v + 1 }) u w' ?_
  have R' := R.known (n := n) (b0 := .row k l v) (b := .row k l' (v + 1)) (m := { m' with ver := v + 1 }) (w' := w') hb (.inr ⟨e6, hown, by show (ρ n).ver < v + 1; omega⟩) hBel.os hBel.tape hBel.output hBel.size
    (fun k hk h => hBel.block k hk fun ⟨h1, h2⟩ => h (hreal' _ h1) h2) (fun hr => by
      rcases hnew (by simpa [Blk.real] using hr) with ⟨h1, h2⟩ | h
      · exact .inl ⟨hreal' _ h1, h2⟩
      · exact .inr h)
    (fun h1 h2 => by
      obtain ⟨⟨k1, k2, k3, k4, k5⟩, k6⟩ := hB'
      refine ⟨⟨k1, k2, k3, rfl, k5⟩, fun hr => ?_⟩
      obtain ⟨cs, hcs, c1, c2, c3, vs, rest, c4, c5⟩ := k6 (by simpa [Blk.real] using hr)
      exact ⟨cs, hcs, c1, c2, c3, vs, rest, c4, flatL_rel (flat_flatten hmu.1) c5⟩) (by simp [Blk.names])
  rw [hd]
  refine R'.val (dst := some d) (x := .c (.at (.osl n (v + 1)))) (fun d' h => by injection h with h; omega) ?_ (fun m hm => ?_)
  · refine ⟨by rw [upd_same]; exact hown, by obtain ⟨z, rfl, _⟩ := hu; rfl, by rw [upd_same]; exact Nat.le_refl _, fun _ => by rw [upd_same]; exact hu⟩
  · have : m = n := by simpa [SV.names, SC.names, At.names] using hm
    rw [this, look_cons, if_pos rfl]; rfl
end
end Sx
end Go.Proofs.Ytjbnfoipjnkjdaa

/- A symbolic walk: append, slice expressions, nil, closures that are made. Plain lemmas. No conditions. -/
namespace Go.Proofs.Ytjbnfoipjnkjdaa
open Go Go.RowKit

namespace Sx
section
variable {P : Program} {C M0 : Nat → Prop} {w0 w : World} {sz : Nat} {ρ : Nat → Nm} {E : Env} {H : Hp} {a : Act} {o : Oper} {x : Eff} {Γ : Cfg}

theorem Rep.one {M : Nat → Prop} {d : D} {v : Value} (h : Rep w M d v) : v.oneCell' = true := At.oneCell (ρ := fun _ => default) (a := .d d) h
theorem DsR.one {M : Nat → Prop} : ∀ {l : List D} {us : List Value}, DsR w M l us → ∀ u ∈ us, u.oneCell' = true
  | [], [], _, u, hu => by cases hu
  | d :: l, v :: us, h, u, hu => by
    rcases List.mem_cons.1 hu with rfl | hu
    · exact Rep.one h.1
    · exact DsR.one h.2 u hu
  | [], _ :: _, h, _, _ => h.elim
  | _ :: _, [], h, _, _ => h.elim
theorem DsR.of_get {M : Nat → Prop} : ∀ {l : List D} {us : List Value}, l.length = us.length → (∀ (i : Nat) (x : D) (u : Value), l[i]? = some x → us[i]? = some u → Rep w M x u) → DsR w M l us
  | [], [], _, _ => trivial
  | x :: l, u :: us, h, k => ⟨k 0 x u rfl rfl, DsR.of_get (by simpa using h) fun i y v h1 h2 => k (i + 1) y v (by simpa using h1) (by simpa using h2)⟩
  | [], _ :: _, h, _ => by simp at h
  | _ :: _, [], h, _ => by simp at h

/-- what an append takes of data -/
theorem src_list {M : Nat → Prop} {k tx e' : Nat} (hk : P.underlying tx = some (.slice e')) {l : List (List D)} {u : Value} (h : Rep w M (.list k l) u) : ∃ news, Src P k tx u l.length news w ∧ DsR w M l.flatten news ∧ (∀ e ∈ l, e.length = k) := by
  cases h with
  | nil k x c hm =>
    refine ⟨[], ?_, trivial, by simp⟩
    cases x with
    | none => exact Src.ofNil w hk c
    | some ad => exact Src.ofSlice w hk ad 0 c [] (by simp) (by simp) (by simp)
  | @list b off cap k l vs hc hm hM hb hkk hv hr =>
    rcases Nat.eq_zero_or_pos k with hk0 | hk0
    · subst hk0
      have hf : l.flatten = [] := List.eq_nil_of_length_eq_zero (by rw [flatten_len hkk]; simp)
      exact ⟨[], Src.ofSlice w hk _ _ _ [] (by simp) (by simp) (by simp), by rw [hf]; trivial, hkk⟩
    have hdm : ∀ p, p < l.length * k → p / k < l.length ∧ p % k < k ∧ p / k * k + p % k = p := fun p hp => ⟨Nat.div_lt_of_lt_mul (by rw [Nat.mul_comm]; exact hp), Nat.mod_lt _ hk0, by rw [Nat.mul_comm]; exact Nat.div_add_mod p k⟩
    have hD : DsR w M l.flatten ((List.range (l.length * k)).map fun p => vs (p / k) (p % k)) := by
      refine DsR.of_get (by rw [flatten_len hkk]; simp) fun i y u h1 h2 => ?_
      have hi : i < l.length * k := by have := (List.getElem?_eq_some_iff.1 h2).1; simpa using this
      obtain ⟨d1, d2, d3⟩ := hdm i hi
      have hj : i % k < l[i / k].length := by rw [hkk _ (List.getElem_mem d1)]; exact d2
      have e1 := flatten_get hkk (i / k) (i % k) d1 d2
      rw [d3, h1, List.getElem?_eq_getElem hj] at e1
      injection e1 with e1
      subst e1
      rw [List.getElem?_map, List.getElem?_range hi] at h2
      simp at h2
      subst h2
      exact hr _ _ d1 hj
    refine ⟨_, Src.ofSlice w hk _ _ _ _ (by simp) (fun j u hj => ?_) hD.one, hD, hkk⟩
    have hi : j < l.length * k := by have := (List.getElem?_eq_some_iff.1 hj).1; simpa using this
    obtain ⟨d1, d2, d3⟩ := hdm j hi
    rw [List.getElem?_map, List.getElem?_range hi] at hj
    simp at hj
    subst hj
    rw [add_plain, ← hv _ _ d1 d2, Nat.add_assoc, d3]
theorem src_ok (R : Rel C M0 w0 sz ρ E H a w) {h : Nat → Option Blk} (hh : ∀ n b, h n = some b → look H n = some b) {k tx : Nat} {kx : Nat} {ea : Bool} {zl : List D} (htx : TyOK P tx (.sl kx ea zl)) {s : SV} {l : List (List D)} {u : Value} (hs : srcL k h s = some l) (hu : SVR ρ w (Mof M0 ρ H) s u) :
    ∃ news, Src P k tx u l.length news w ∧ DsR w (Mof M0 ρ H) l.flatten news ∧ (∀ e ∈ l, e.length = k) := by
  obtain ⟨e', hk, _⟩ := htx.2.2.2
  unfold srcL at hs
  split at hs
  · rename_i k' l'
    split at hs
    · rename_i hkk
      injection hs with hs; subst hs
      have hkk : k' = k := by simpa using hkk
      subst hkk
      exact src_list hk hu
    · cases hs
  · injection hs with hs; subst hs
    have hu : Rep w (Mof M0 ρ H) (.nil _) u := hu
    cases hu
    exact ⟨[], Src.ofNil w hk 0, trivial, by simp⟩
  · injection hs with hs; subst hs
    have hu : Rep w (Mof M0 ρ H) (.emp _) u := hu
    cases hu with
    | em _ x c hm => exact ⟨[], Src.ofSlice w hk x 0 c [] (by simp) (by simp) (by simp), trivial, by simp⟩
  · injection hs with hs; subst hs
    have hu : Rep w (Mof M0 ρ H) (.v (.slice none 0 0)) u := hu
    cases hu
    exact ⟨[], Src.ofNil w hk 0, trivial, by simp⟩
  · rename_i n v
    split at hs
    · rename_i k' l' v' hb
      split at hs
      · rename_i hv hkk
        injection hs with hs; subst hs
        have hkk : k' = k := by simpa using hkk
        have hv : v = v' := by simpa using hv
        subst hkk hv
        obtain ⟨e1, e2, e3, e4⟩ := hu
        obtain ⟨⟨k1, k2, k3, k4, k5⟩, hreal⟩ := R.blk n _ (hh _ _ hb)
        obtain ⟨z, rfl, hz⟩ := e4 (by omega)
        rw [← k2]
        rcases Nat.eq_zero_or_pos (ρ n).cap with h0 | h0
        · have := k3 h0
          subst this
          refine ⟨[], ?_, trivial, by simp⟩
          cases z with
          | none => exact Src.ofNil w hk _
          | some ad => exact Src.ofSlice w hk ad 0 _ [] (by simp) (by simp) (by simp)
        · obtain ⟨cs, hcs, c1, c2, c3, vs, rest, hvr, hD⟩ := hreal (by simpa [Blk.real] using h0)
          rw [hz h0]
          refine ⟨vs, Src.ofSlice w hk _ _ _ vs (by rw [hD.length, flatten_len k1]) (fun j u hj => ?_) hD.one, hD, k1⟩
          rw [add_plain, Nat.zero_add, cell_of hcs, hvr, List.getElem?_append_left (List.getElem?_eq_some_iff.1 hj).1]
          exact hj
      · cases hs
    · cases hs
  · cases hs

/-- nothing is appended -/
theorem run_append_zero {t tx ty e : Nat} {i : TypeInfo} (ht : P.underlying t = some (.slice e)) (hi : P.info? e = some i) {base : Option Addr} {sLen sCap : Nat} (hle : sLen ≤ sCap) {u : Value} (hs : Src P i.size tx u 0 [] w) :
    (Builtin.append_ #[t, tx] ty #[.slice base sLen sCap, u]).run P w = .ok (.slice base sLen sCap) w := by
  rcases hs.kind with ⟨e', hk⟩ | hk <;> cases base <;> simp [Builtin.append_, run_underlying ht, run_underlying hk, sizeOf, typeInfo, hi, hs.len, hle, hs.cells, storeCells]

theorem exec_append {c : Call} {s y : Operand} {t tx : Nat} (ho : o.op = .call c) (hc : c.callee = .builtin .append) (hts : c.argTypes = #[t, tx]) (hargs : c.args.toList = [s, y]) {v : Value} {w' : World} (hr : (Builtin.append_ #[t, tx] o.type #[a.eval s, a.eval y]).run P w = .ok v w') :
    (execOp a.eval o).run P w = .ok (.value v) w' := by
  have hargs' : c.args.map a.eval = #[a.eval s, a.eval y] := by apply Array.ext'; simp [hargs]
  simp only [execOp, ho, resolve, hc, Sem.run_bind, Sem.run_pure, Result.andThen_ok, invoke, builtin, hargs', hts, hr]

theorem growfits {need old bytes : Nat} (h : old < need) (h1 : need ≤ 1000000) (hb : bytes ≤ 65536) : Builtin.nextslicecap need old * bytes ≤ 281474976710656 :=
  growslice_fits h (by have := Nat.mul_le_mul h1 hb; omega)

/-- the row that an append lays -/
theorem grown_row {M : Nat → Prop} {k : Nat} {e : TypeId} {z : Value} {l xs : List (List D)} {olds news : List Value} {old : Nat} (hz : z.cells.size = k) (h1 : DsR w M l.flatten olds) (h2 : DsR w M xs.flatten news) (k1 : ∀ e ∈ l, e.length = k) (k2 : ∀ e ∈ xs, e.length = k)
    (hlt : (l ++ xs).length ≤ 1000000) : ∃ cs : List Value, w.drew.alloc (.cells ((olds ++ news).toArray ++ Builtin.zeroCells z.cells (grownCap w (l.length + xs.length) old e - (l.length + xs.length))) e) = w.drew.alloc (.cells cs.toArray e) ∧
      BlkC ρ w M cs (.row k (l ++ xs) 0) ⟨false, w.heap.size, grownCap w (l.length + xs.length) old e, (l ++ xs).length, 0⟩ := by
  have hge := grownCap_ge w (l.length + xs.length) old e
  have hle := grownCap_le_maxLen w (l.length + xs.length) old e (by simp only [maxLen]; simp at hlt; omega)
  refine ⟨(olds ++ news) ++ (Builtin.zeroCells z.cells (grownCap w (l.length + xs.length) old e - (l.length + xs.length))).toList, ?_, by simpa using hge, ?_, ?_, olds ++ news, _, rfl, ?_⟩
  · congr 2
    apply Array.ext'
    simp
  · simp only [maxLen] at hle; exact hle
  · simp only [List.length_append, Array.length_toList, size_zeroCells, hz, h1.length, h2.length, flatten_len k1, flatten_len k2, ← Nat.add_mul]
    congr 1
    omega
  · rw [List.flatten_append]
    exact h1.append h2

theorem below_drew_alloc (w : World) (x : Obj) : Below w.heap.size w (w.drew.alloc x) :=
  (⟨rfl, rfl, rfl, Nat.le_refl _, fun _ _ => rfl⟩ : Below w.heap.size w w.drew).trans ((Below.refl w.heap.size w.drew).alloc (Nat.le_refl _) _)
theorem st_appendNil (R : Rel C M0 w0 sz ρ E H a w) {h : Nat → Option Blk} (hh : ∀ n b, h n = some b → look H n = some b) {c : Call} {s y : Operand} {t tx k kx : Nat} {ea ex : Bool} {zl zx : List D} (ht : TyOK P t (.sl k ea zl)) (htx : TyOK P tx (.sl kx ex zx))
    (ho : o.op = .call c) (hc : c.callee = .builtin .append) (hts : c.argTypes = #[t, tx]) (hargs : c.args.toList = [s, y]) {ss sy : SV} (hs : ev (look E) s = some ss) (hn : nilS ss = true) (hy : ev (look E) y = some sy) {xs : List (List D)} (hx : srcL k h sy = some xs) (hlen : xs.length ≤ 1000000)
    {d : Nat} (hd : o.dst = some d) (hlt : d < sz) :
    (look H d = none → StepOK P C M0 w0 sz E H o (.new d (.row k xs 0) (.c (.at (.osl d 0)))) a w) ∧ StepOK P C M0 w0 sz E H o (.val (sD (.list k xs))) a w := by
  obtain ⟨e, he, _, _, _, i, z, hi, hsz, hzero, hzs, _, hby⟩ := ht.2.2.2
  have hsv : a.eval s = .slice none 0 0 := by
    have h1 := (ev_ok R hs).1
    unfold nilS at hn
    split at hn
    · have h1 : Rep w (Mof M0 ρ H) (.nil _) (a.eval s) := h1
      generalize a.eval s = u at h1
      cases h1; rfl
    · have h1 : Rep w (Mof M0 ρ H) (.v (.slice none 0 0)) (a.eval s) := h1
      generalize a.eval s = u at h1
      cases h1; rfl
    · cases hn
  obtain ⟨news, hS, hD, hk⟩ := src_ok R hh htx hx (ev_ok R hy).1
  rcases Nat.eq_zero_or_pos xs.length with h0 | h0
  · have hx0 : xs = [] := List.eq_nil_of_length_eq_zero h0
    subst hx0
    have hnil : news = [] := List.eq_nil_of_length_eq_zero (by rw [hD.length]; rfl)
    subst hnil
    have hr := exec_append (P := P) (w := w) (a := a) ho hc hts hargs (by rw [hsv]; exact run_append_zero (P := P) (ty := o.type) he hi (base := none) (Nat.le_refl 0) (by rw [hsz]; exact hS))
    refine ⟨fun hf => ?_, ?_⟩
    · refine ok_run (ρ' := upd ρ d ⟨false, 0, 0, 0, 0⟩) hr ?_
      have R' := R.fresh (b := .row k [] 0) (m := ⟨false, 0, 0, 0, 0⟩) hf rfl rfl rfl (Nat.le_refl _) (fun _ _ => rfl) (fun h => by simp [Blk.real] at h)
        (fun _ _ _ => ⟨⟨by simp, rfl, fun _ => rfl, rfl, rfl⟩, fun h => by simp [Blk.real] at h⟩) (by simp [Blk.names])
      rw [hd]
      refine R'.val (dst := some d) (x := .c (.at (.osl d 0))) (fun d' h => by injection h with h; omega) ?_ (fun m hm => ?_)
      · exact ⟨by rw [upd_same], rfl, by rw [upd_same]; exact Nat.le_refl _, fun _ => ⟨none, by rw [upd_same], fun h => by rw [upd_same] at h; exact absurd h (Nat.lt_irrefl _)⟩⟩
      · have : m = d := by simpa [SV.names, SC.names, At.names] using hm
        rw [this, look_cons, if_pos rfl]; rfl
    · exact ok_val R hr hd hlt (show Rep _ _ (.list k []) _ from .nil k none 0 (by omega) (fun _ => rfl)) (fun n hn => by simp [sD, SV.names, SC.names, At.names] at hn)
  · have hg := run_append_grow_src (P := P) w t tx o.type e i z he hi hzero none 0 0 [] (run_firstCells_none w.drew i.size 0 0 0) (a.eval y) xs.length news (by rw [hsz]; exact hS) (by omega) (by omega) (growfits (by omega) (by omega) hby)
    obtain ⟨cs, hcs, hC⟩ := grown_row (ρ := ρ) (M := Mof M0 ρ H) (k := k) (e := e) (l := []) (xs := xs) (olds := []) (old := 0) hzs (show DsR w _ [] [] from trivial) hD (by simp) hk (by simpa using hlen)
    simp only [List.length_nil] at hcs hC
    rw [hcs] at hg
    have hr := exec_append (P := P) (w := w) (a := a) ho hc hts hargs (by rw [hsv]; exact hg)
    have hbl : Below w.heap.size w (w.drew.alloc (.cells cs.toArray e)) := below_drew_alloc w _
    have hnew : (w.drew.alloc (.cells cs.toArray e)).heap[w.heap.size]? = some (.cells cs.toArray e (0, 0)) := heap_alloc_new w.drew _
    have hge := grownCap_ge w (0 + xs.length) 0 e
    have hMl := R.Mlt
    refine ⟨fun hf => ?_, ?_⟩
    · refine ok_run (ρ' := upd ρ d ⟨false, w.heap.size, grownCap w (0 + xs.length) 0 e, xs.length, 0⟩) hr ?_
      have R' := R.fresh (b := .row k xs 0) (m := ⟨false, w.heap.size, grownCap w (0 + xs.length) 0 e, xs.length, 0⟩) hf hbl.os hbl.tape hbl.output hbl.size (fun k hk => hbl.block k hk) (fun _ => ⟨Nat.le_refl _, by simp⟩)
        (fun h1 h2 h3 => ⟨⟨hk, rfl, fun h => absurd h (by show ¬ grownCap w (0 + xs.length) 0 e = 0; omega), rfl, rfl⟩, fun _ => ⟨cs, ⟨e, hnew⟩, (hC.mono h1 h2).rename (fun n hn => by simp [Blk.names] at hn)⟩⟩) (by simp [Blk.names])
      rw [hd]
      refine R'.val (dst := some d) (x := .c (.at (.osl d 0))) (fun d' h => by injection h with h; omega) ?_ (fun m hm => ?_)
      · refine ⟨by rw [upd_same], rfl, by rw [upd_same]; exact Nat.le_refl _, fun _ => ⟨_, ?_, fun _ => by rw [upd_same]⟩⟩
        rw [upd_same, Nat.zero_add]
      · have : m = d := by simpa [SV.names, SC.names, At.names] using hm
        rw [this, look_cons, if_pos rfl]; rfl
    · refine ok_run (ρ' := ρ) hr ((R.grow hbl).val (fun d' h => by rw [hd] at h; injection h with h; omega) ?_ (fun n hn => by simp [sD, SV.names, SC.names, At.names] at hn))
      obtain ⟨c1, c2, c3, vs, rest, c4, c5⟩ := hC.mono (Holds.of_below hbl) (fun _ _ h => h)
      rw [Nat.zero_add]
      refine rep_of_row hk c5 (fun i hi => ?_) (by simpa using hge) (by rw [Nat.zero_add] at c2; exact c2) (fun hm => by have := hMl _ hm; omega) (by simp)
      rw [Nat.zero_add]
      have : (w.drew.alloc (.cells cs.toArray e)).cell? ⟨w.heap.size, i, none⟩ = cs[i]? := cell_of ⟨e, hnew⟩ i
      rw [this, c4, List.getElem?_append_left hi]

/-- data of a row that is the call's own no more -/
theorem row_data {M M' : Nat → Prop} {m : Nm} {k v : Nat} {l : List (List D)} {u : Value} (hb : BlkR ρ w M m (.row k l v)) (hu : ∃ x, u = .slice x m.len m.cap ∧ (0 < m.cap → x = some ⟨m.b, 0, none⟩)) (hM : ∀ b, b < w.heap.size → M' b → M b) (hnot : 0 < m.cap → ¬ M' m.b)
    (hlt : 0 < m.cap → m.b < w.heap.size) : Rep w M' (.list k l) u := by
  obtain ⟨⟨k1, k2, k3, k4, k5⟩, hreal⟩ := hb
  obtain ⟨x, rfl, hx⟩ := hu
  rw [← k2]
  rcases Nat.eq_zero_or_pos m.cap with h0 | h0
  · have := k3 h0
    subst this
    exact .nil k x _ (by omega) (fun _ => h0)
  · obtain ⟨cs, hcs, c1, c2, c3, vs, rest, c4, c5⟩ := hreal (by simpa [Blk.real] using h0)
    rw [hx h0]
    refine rep_of_row k1 (c5.mono (.refl _ w) hM) (fun i hi => ?_) c1 c2 (hnot h0) (hlt h0)
    rw [Nat.zero_add, cell_of hcs, c4, List.getElem?_append_left hi]

/-- a row, made longer -/
theorem row_append (R : Rel C M0 w0 sz ρ E H a w) {h : Nat → Option Blk} (hh : ∀ n b, h n = some b → look H n = some b) {c : Call} {s y : Operand} {t tx k kx n v : Nat} {ea ex : Bool} {zl zx : List D} (ht : TyOK P t (.sl k ea zl)) (htx : TyOK P tx (.sl kx ex zx))
    (ho : o.op = .call c) (hc : c.callee = .builtin .append) (hts : c.argTypes = #[t, tx]) (hargs : c.args.toList = [s, y]) (hs : ev (look E) s = some (.c (.at (.osl n v)))) {l : List (List D)} (hb : look H n = some (.row k l v)) {sy : SV} (hy : ev (look E) y = some sy) {xs : List (List D)} (hx : srcL k h sy = some xs) (hlen : (l ++ xs).length ≤ 1000000) :
    ∃ w' u m, (execOp a.eval o).run P w = .ok (.value u) w' ∧ m.ver = v + 1 ∧ m.own = false ∧ Rel C M0 w0 sz (upd ρ n m) E ((n, .row k (l ++ xs) (v + 1)) :: H) a w' ∧ (∃ x, u = .slice x m.len m.cap ∧ (0 < m.cap → x = some ⟨m.b, 0, none⟩)) := by
  obtain ⟨e, he, _, _, _, i, z, hi, hsz, hzero, hzs, _, hby⟩ := ht.2.2.2
  obtain ⟨x, e1, e2, e3, e4, e5, e6, e7⟩ := osl_val R hs hb
  obtain ⟨news, hS, hD, hk⟩ := src_ok R hh htx hx (ev_ok R hy).1
  have hB := R.blk n _ hb
  obtain ⟨⟨k1, k2, k3, k4, k5⟩, hreal⟩ := id hB
  have hkk : ∀ z ∈ l ++ xs, z.length = k := fun z hz => by
    rcases List.mem_append.1 hz with hz | hz
    · exact k1 z hz
    · exact hk z hz
  have hll : (l ++ xs).length = l.length + xs.length := List.length_append ..
  have rl : ∀ l v, 0 < (ρ n).cap → (Blk.row k l v).real (ρ n) = true := fun l v h => by simpa [Blk.real] using h
  have lr : ∀ l v m, (Blk.row k l v).real m = true → 0 < m.cap := fun l v m h => by simpa [Blk.real] using h
  have hlate : ∀ b cap len, Later (ρ n) ⟨false, b, cap, len, v + 1⟩ := fun b cap len => .inr ⟨e6, rfl, by show (ρ n).ver < v + 1; omega⟩
  rcases Nat.eq_zero_or_pos xs.length with h0 | h0
  · have hx0 : xs = [] := List.eq_nil_of_length_eq_zero h0
    subst hx0
    have hnil : news = [] := List.eq_nil_of_length_eq_zero (by rw [hD.length]; rfl)
    subst hnil
    have hle : l.length ≤ (ρ n).cap := by
      rcases Nat.eq_zero_or_pos (ρ n).cap with h | h
      · rw [k3 h]; exact Nat.zero_le _
      · obtain ⟨_, _, c1, _⟩ := hreal (rl l v h); exact c1
    have hr := exec_append (P := P) (w := w) (a := a) ho hc hts hargs (by rw [e1]; exact run_append_zero (P := P) (ty := o.type) he hi (base := x) hle (by rw [hsz]; exact hS))
    refine ⟨w, _, ⟨false, (ρ n).b, (ρ n).cap, l.length, v + 1⟩, hr, rfl, rfl, ?_, x, rfl, e2⟩
    refine R.known hb (hlate _ _ _) rfl rfl rfl (Nat.le_refl _) (fun _ _ _ => rfl) (fun h => .inl ⟨rl l v (lr _ (v + 1) ⟨false, (ρ n).b, (ρ n).cap, l.length, v + 1⟩ h), rfl⟩) (fun h1 h2 => ⟨⟨by simpa using k1, by simp, fun h => by simpa using k3 h, rfl, rfl⟩, fun hr => ?_⟩) (by simp [Blk.names])
    obtain ⟨cs, hcs, c1, c2, c3, vs, rest, c4, c5⟩ := hreal (rl l v (lr _ (v + 1) ⟨false, (ρ n).b, (ρ n).cap, l.length, v + 1⟩ hr))
    exact ⟨cs, hcs, by simpa using c1, c2, c3, vs, rest, c4, by simpa using c5.mono h1 h2⟩
  by_cases hroom : l.length + xs.length ≤ (ρ n).cap
  · have hc0 : 0 < (ρ n).cap := by omega
    obtain ⟨cs, hcs, c1, c2, c3, vs, rest, c4, c5⟩ := hreal (rl l v hc0)
    have hxx := e2 hc0
    subst hxx
    have hvl : vs.length = l.length * k := by rw [c5.length, flatten_len k1]
    have hnl : news.length = xs.length * k := by rw [hD.length, flatten_len hk]
    have hfit : l.length * k + news.length ≤ cs.length := by rw [hnl, c3, ← Nat.add_mul]; exact Nat.mul_le_mul_right _ hroom
    obtain ⟨T, hT⟩ := id hcs
    have hg := run_append_room_src (P := P) w t tx o.type e i he hi (ρ n).b 0 l.length (ρ n).cap (a.eval y) xs.length news (by rw [hsz]; exact hS) hroom
      (fun j hj => by rw [hsz, Nat.zero_add, cell_of hcs, List.getElem?_eq_getElem (by omega)]; rfl) (fun j hj => frozen_of_row w (ρ n).b _ cs.toArray T hT)
    obtain ⟨w', hrn, q1, q2, q3, q4, q5, q6⟩ := run_storeOwn (P := P) news w cs (l.length * k) 0 hcs hD.one (by omega)
    have hw' : w.setCells (ρ n).b (0 + l.length * i.size) news = w' := by
      have := run_storeCells_cells (P := P) (ρ n).b (l.length * k) news 0 w (fun j hj => by rw [Nat.add_zero, cell_of hcs, List.getElem?_eq_getElem (by omega)]; rfl) (fun j hj => frozen_of_row w (ρ n).b _ cs.toArray T hT) hD.one
      rw [hrn] at this
      injection this with _ this
      rw [hsz, Nat.zero_add, this, Nat.add_zero]
    rw [hw'] at hg
    have hr := exec_append (P := P) (w := w) (a := a) ho hc hts hargs (by rw [e1]; exact hg)
    refine ⟨w', _, ⟨false, (ρ n).b, (ρ n).cap, (l ++ xs).length, v + 1⟩, hr, rfl, rfl, ?_, _, by rw [hll], fun _ => rfl⟩
    refine R.known hb (hlate _ _ _) q1 q2 q3 (by omega) (fun b _ h => q5 b (h (rl l v hc0))) (fun h => .inl ⟨rl l v hc0, rfl⟩) (fun h1 h2 => ⟨⟨hkk, rfl, fun h => absurd h (by show ¬ (ρ n).cap = 0; omega), rfl, rfl⟩, fun _ => ?_⟩) (by simp [Blk.names])
    refine ⟨_, q6, by rw [hll]; exact hroom, c2, by rw [setL_length]; exact c3, vs ++ news, rest.drop news.length, ?_, ?_⟩
    · rw [Nat.add_zero, setL_eq _ _ _ (by omega), c4, ← hvl, List.take_left, List.drop_append, List.drop_eq_nil_of_le (by omega)]
      simp
    · rw [List.flatten_append]
      exact (c5.mono h1 h2).append (hD.mono h1 h2)
  · have hold : ∃ olds, (Builtin.firstCells i.size l.length (.slice x l.length (ρ n).cap)).run P w.drew = .ok olds.toArray w.drew ∧ DsR w (Mof M0 ρ H) l.flatten olds := by
      rcases Nat.eq_zero_or_pos (ρ n).cap with h | h
      · have := k3 h
        subst this
        refine ⟨[], ?_, trivial⟩
        cases x with
        | none => exact run_firstCells_none w.drew i.size 0 0 _
        | some ad => exact run_firstCells_some w.drew i.size 0 ad 0 _ [] (by simp) (by simp)
      · obtain ⟨cs, hcs, c1, c2, c3, vs, rest, c4, c5⟩ := hreal (rl l v h)
        rw [e2 h]
        refine ⟨vs, run_firstCells_some w.drew i.size l.length _ _ _ vs (by rw [hsz, c5.length, flatten_len k1]) (fun j u hj => ?_), c5⟩
        rw [add_plain, Nat.zero_add]
        have : w.drew.cell? ⟨(ρ n).b, j, none⟩ = w.cell? ⟨(ρ n).b, j, none⟩ := by simp
        rw [this, cell_of hcs, c4, List.getElem?_append_left (List.getElem?_eq_some_iff.1 hj).1]
        exact hj
    obtain ⟨olds, hold, hDo⟩ := hold
    have hg := run_append_grow_src (P := P) w t tx o.type e i z he hi hzero x l.length (ρ n).cap olds hold (a.eval y) xs.length news (by rw [hsz]; exact hS) (by omega) (by omega) (growfits (by omega) (by omega) hby)
    obtain ⟨cs, hcs, hC⟩ := grown_row (ρ := ρ) (M := Mof M0 ρ H) (k := k) (e := e) (l := l) (xs := xs) (olds := olds) (old := (ρ n).cap) hzs hDo hD k1 hk hlen
    rw [hcs] at hg
    have hr := exec_append (P := P) (w := w) (a := a) ho hc hts hargs (by rw [e1]; exact hg)
    have hbl : Below w.heap.size w (w.drew.alloc (.cells cs.toArray e)) := below_drew_alloc w _
    have hnew : (w.drew.alloc (.cells cs.toArray e)).heap[w.heap.size]? = some (.cells cs.toArray e (0, 0)) := heap_alloc_new w.drew _
    have hge := grownCap_ge w (l.length + xs.length) (ρ n).cap e
    refine ⟨_, _, ⟨false, w.heap.size, grownCap w (l.length + xs.length) (ρ n).cap e, (l ++ xs).length, v + 1⟩, hr, rfl, rfl, ?_, _, by rw [hll], fun _ => rfl⟩
    refine R.known hb (hlate _ _ _) hbl.os hbl.tape hbl.output hbl.size (fun b hb' _ => hbl.block b hb') (fun h => .inr ⟨Nat.le_refl _, by simp⟩) (fun h1 h2 => ⟨⟨hkk, rfl, fun h => absurd h (by show ¬ grownCap w (l.length + xs.length) (ρ n).cap e = 0; omega), rfl, rfl⟩, fun _ => ?_⟩) (by simp [Blk.names])
    obtain ⟨c1, c2, c3, vs, rest, c4, c5⟩ := hC
    exact ⟨cs, ⟨e, hnew⟩, c1, c2, c3, vs, rest, c4, c5.mono h1 h2⟩

theorem st_appendRow (R : Rel C M0 w0 sz ρ E H a w) {h : Nat → Option Blk} (hh : ∀ n b, h n = some b → look H n = some b) {c : Call} {s y : Operand} {t tx k kx n v : Nat} {ea ex : Bool} {zl zx : List D} (ht : TyOK P t (.sl k ea zl)) (htx : TyOK P tx (.sl kx ex zx))
    (ho : o.op = .call c) (hc : c.callee = .builtin .append) (hts : c.argTypes = #[t, tx]) (hargs : c.args.toList = [s, y]) (hs : ev (look E) s = some (.c (.at (.osl n v)))) {l : List (List D)} (hb : look H n = some (.row k l v)) {sy : SV} (hy : ev (look E) y = some sy) {xs : List (List D)} (hx : srcL k h sy = some xs) (hlen : (l ++ xs).length ≤ 1000000)
    {d : Nat} (hd : o.dst = some d) (hlt : d < sz) :
    StepOK P C M0 w0 sz E H o (.new n (.row k (l ++ xs) (v + 1)) (.c (.at (.osl n (v + 1))))) a w ∧ StepOK P C M0 w0 sz E H o (.new n .frz (sD (.list k (l ++ xs)))) a w := by
  obtain ⟨w', u, m, hr, m1, m2, R', hu⟩ := row_append R hh ht htx ho hc hts hargs hs hb hy hx hlen
  have hB := R'.blk n _ (by rw [look_cons, if_pos rfl])
  have hone : u.oneCell' = true := by obtain ⟨x, rfl, _⟩ := hu; rfl
  constructor
  · refine ok_run (ρ' := upd ρ n m) hr ?_
    rw [hd]
    refine R'.val (dst := some d) (x := .c (.at (.osl n (v + 1)))) (fun d' h => by injection h with h; omega) ?_ (fun j hj => ?_)
    · exact ⟨by rw [upd_same]; exact m2, hone, by rw [upd_same, m1]; exact Nat.le_refl _, fun _ => by rw [upd_same]; exact hu⟩
    · have : j = n := by simpa [SV.names, SC.names, At.names] using hj
      rw [this, look_cons, if_pos rfl]; rfl
  · refine ok_run (ρ' := upd (upd ρ n m) n m) hr ?_
    have hlk : look ((n, Blk.row k (l ++ xs) (v + 1)) :: H) n = some (.row k (l ++ xs) (v + 1)) := by rw [look_cons, if_pos rfl]
    have R2 := R'.known (b := .frz) (m := m) (w' := w') hlk (.inl (by rw [upd_same])) rfl rfl rfl (Nat.le_refl _) (fun _ _ _ => rfl) (fun h => by simp [Blk.real] at h) (fun _ _ => ⟨trivial, fun h => by simp [Blk.real] at h⟩) (by simp [Blk.names])
    have R3 := R2.same (E' := E) (H' := (n, .frz) :: H) (fun t x hx => hx) (fun j => by
      simp only [look_cons]
      split
      · rfl
      · rename_i hj; rfl)
    rw [hd]
    refine R3.val (dst := some d) (x := sD (.list k (l ++ xs))) (fun d' h => by injection h with h; omega) ?_ (fun j hj => by simp [sD, SV.names, SC.names, At.names] at hj)
    rw [upd_same] at hB
    have hreal : 0 < m.cap → (Blk.row k (l ++ xs) (v + 1)).real (upd ρ n m n) = true := fun h => by rw [upd_same]; simpa [Blk.real] using h
    have hbm : 0 < m.cap → w0.heap.size ≤ m.b := fun h => by
      have := R'.lo n _ hlk (hreal h)
      rw [upd_same, m2] at this
      rcases this with h | h
      · exact h
      · cases h.2
    have hnM : 0 < m.cap → ¬ Mof M0 (upd (upd ρ n m) n m) ((n, .frz) :: H) m.b := fun h => by
      rintro (h1 | ⟨j, z, hj, hz, e⟩)
      · have := R.out _ h1; have := hbm h; omega
      · by_cases hjn : j = n
        · subst hjn
          rw [look_cons, if_pos rfl] at hj
          injection hj with hj; subst hj
          simp [Blk.real] at hz
        · rw [look_cons, if_neg (fun e => hjn e.symm)] at hj
          rw [upd_other hjn] at hz e
          exact hjn (R'.inj j n z _ (by rw [look_cons, if_neg (fun e => hjn e.symm)]; exact hj) hlk hz (hreal h) (by rw [upd_same]; exact e))
    refine row_data (ρ := upd ρ n m) hB hu (fun b _ hM => ?_) hnM (fun h => by have := R'.hi n _ hlk (hreal h); rwa [upd_same] at this)
    rcases hM with h1 | ⟨j, z, hj, hz, e⟩
    · exact .inl h1
    · by_cases hjn : j = n
      · subst hjn
        rw [look_cons, if_pos rfl] at hj
        injection hj with hj; subst hj
        simp [Blk.real] at hz
      · rw [look_cons, if_neg (fun e => hjn e.symm)] at hj
        rw [upd_other hjn] at hz e
        exact .inr ⟨j, z, by rw [look_cons, if_neg (fun e => hjn e.symm)]; exact hj, hz, e⟩
end
end Sx
end Go.Proofs.Ytjbnfoipjnkjdaa
