/- A symbolic walk: arithmetic, calls, and what else an operation may be. No conditions beyond what the types' table says. -/
import Derived.Test.YtffamgiknfphaaaSxD
namespace Go.Proofs.Ytffamgiknfphaaa
open Go Go.RowKit

set_option linter.unusedVariables false
namespace Sx
section
variable {P : Program} {M0 : Nat → Prop} {w0 w : World} {sz : Nat} {ρ : Nat → Nat} {E : Env} {H : Hp} {a : Act} {o : Oper} {x : Eff}

theorem atsV_rel {M : Nat → Prop} : ∀ {l : List At} {vs us : List Value}, atsV? l = some vs → AtsR ρ w M l us → us = vs
  | [], vs, [], h, _ => by simp [atsV?] at h; exact h.symm ▸ rfl
  | .d (.v x) :: l, vs, u :: us, h, k => by
    simp only [atsV?] at h
    split at h
    · rename_i r hr
      injection h with h
      subst h
      have k1 : Rep w M (.v x) u := k.1
      cases k1
      rw [atsV_rel hr k.2]
    · cases h
  | .d (.list _ _) :: l, vs, us, h, _ => by simp [atsV?] at h
  | .ptr .. :: l, vs, us, h, _ => by simp [atsV?] at h
  | .osl .. :: l, vs, us, h, _ => by simp [atsV?] at h
  | .ep .. :: l, vs, us, h, _ => by simp [atsV?] at h
  | .fn .. :: l, vs, us, h, _ => by simp [atsV?] at h
  | [], _, _ :: _, _, k => k.elim
  | _ :: _, _, [], _, k => k.elim

theorem svV_rel {M : Nat → Prop} {s : SV} {v u : Value} (h : svV? s = some v) (k : SVR ρ w M s u) : u = v := by
  unfold svV? at h
  split at h
  · injection h with h
    subst h
    have k : Rep w M (.v _) u := k
    cases k
    rfl
  · split at h
    · rename_i r hr
      injection h with h
      subst h
      obtain ⟨us, rfl, k⟩ := k
      rw [atsV_rel hr k]
    · cases h
  · cases h

theorem sameK_eq {k k' : IntKind} (h : sameK k k' = true) : k = k' := by cases k <;> cases k' <;> first | rfl | (simp [sameK] at h)

theorem run_guard_int (op : BinOp) (t : Nat) (x y : Operand) (k k' : IntKind) (m n : Int) : (eqGuard op t x y (.int k m) (.int k' n)).run P w = .ok () w := by
  unfold eqGuard
  cases op <;> rfl

theorem run_binI {op : BinOp} {t : Nat} {k : IntKind} {m n : Int} {v : Value} (h : binI op k m n = some v) : (binOp op t (.int k m) (.int k n)).run P w = .ok v w ∧ v.oneCell' = true ∧ wfV v := by
  cases op <;> simp only [binI, Option.some.injEq, reduceCtorEq] at h <;> subst h <;> refine ⟨?_, rfl, ?_⟩ <;> first | exact inK_wrap _ _ | trivial | simp [binOp, Op.intArith, Op.intCmp, Op.intBits]

theorem st_pure (R : Rel M0 w0 sz ρ E H a w) {v : Value} (hr : (execOp a.eval o).run P w = .ok (.value v) w) (hv : v.oneCell' = true) (hw : wfV v) {d : Nat} (hd : o.dst = some d) (hlt : d < sz) : StepOK P M0 w0 sz E H o (.val (sV v)) a w :=
  ok_val R hr hd hlt (Rep.v v hv hw) sV_names

theorem run_op_bin {op : BinOp} {t ty : Nat} {y z : Operand} {u v r : Value} (ho : o.op = .binOp op t y z ty) (hy : a.eval y = u) (hz : a.eval z = v) (h : (do eqGuard op t y z u v; binOp op t u v : Sem Value).run P w = .ok r w) :
    (execOp a.eval o).run P w = .ok (.value r) w := by
  subst hy hz
  simp only [execOp, ho, Sem.run_bind, h, Result.andThen_ok, Sem.run_pure]

theorem run_bin_int {op : BinOp} {t : Nat} {y z : Operand} {k k' : IntKind} {m n : Int} {r : Value} (h : (binOp op t (.int k m) (.int k' n)).run P w = .ok r w) : (do eqGuard op t y z (.int k m) (.int k' n); binOp op t (.int k m) (.int k' n) : Sem Value).run P w = .ok r w := by
  simp only [Sem.run_bind, run_guard_int, Result.andThen_ok, h]

theorem Rep.len {M : Nat → Prop} {k : Nat} {l : List (List D)} {v : Value} (h : Rep w M (.list k l) v) : wfV (.int .i64 l.length) := by
  cases h with
  | nil => exact ⟨by decide, by decide⟩
  | list vs hc hm => exact ⟨by omega, by omega⟩
theorem wf_tmod {k : IntKind} {m n : Int} (h : inK k m) (h' : inK k n) (hn : n ≠ 0) : inK k (m.tmod n) := by
  have hb : (m.tmod n).natAbs ≤ m.natAbs := by rw [Int.natAbs_tmod]; exact Nat.mod_le _ _
  rcases Int.le_total 0 m with h0 | h0
  · have h1 := Int.tmod_nonneg n h0
    cases k <;> simp only [inK] at * <;> omega
  · have h1 : m.tmod n ≤ 0 := by
      have := Int.tmod_nonneg n (a := -m) (by omega)
      rw [Int.neg_tmod] at this
      omega
    cases k <;> simp only [inK] at * <;> omega
theorem wf_fdiv {k : IntKind} {m : Int} (e : Nat) (h : inK k m) : inK k (m.fdiv (2 ^ e)) := by
  have hp : (0 : Int) < 2 ^ e := Int.pow_pos (by decide)
  rw [Int.fdiv_eq_ediv_of_nonneg _ (by omega)]
  rcases Int.lt_or_le m 0 with h0 | h0
  · have h1 : m ≤ m / 2 ^ e := (Int.le_ediv_iff_mul_le hp).2 (by
      have : m * 2 ^ e ≤ m * 1 := Int.mul_le_mul_of_nonpos_left (by omega) (by omega)
      omega)
    have h2 := Int.ediv_neg_of_neg_of_pos h0 hp
    cases k <;> simp only [inK] at * <;> omega
  · have h1 := Int.ediv_le_self (2 ^ e) h0
    have h2 := Int.ediv_nonneg h0 (Int.le_of_lt hp)
    cases k <;> simp only [inK] at * <;> omega
theorem svV_wf {M : Nat → Prop} {s : SV} {k : IntKind} {m : Int} {u : Value} (h : svV? s = some (.int k m)) (hs : SVR ρ w M s u) : inK k m := by
  unfold svV? at h
  split at h
  · injection h with h
    subst h
    have hs : Rep w M (.v (.int k m)) u := hs
    cases hs with
    | v x h hw => exact hw
  · split at h
    · injection h with h; cases h
    · cases h
  · cases h
theorem run_quo {t : Nat} {k : IntKind} {m n : Int} (h : n ≠ 0) : (binOp .quo t (.int k m) (.int k n)).run P w = .ok (.int k (k.wrap (m.tdiv n))) w := by simp [binOp, Op.intDiv, h]
theorem run_rem {t : Nat} {k : IntKind} {m n : Int} (h : n ≠ 0) : (binOp .rem t (.int k m) (.int k n)).run P w = .ok (.int k (m.tmod n)) w := by simp [binOp, Op.intDiv, h]
theorem run_shl {t : Nat} {k k' : IntKind} {m n : Int} (h : 0 ≤ n) : (binOp .shl t (.int k m) (.int k' n)).run P w = .ok (.int k (k.wrap (m * 2 ^ (min n.toNat k.bits)))) w := by
  have : ¬ n < 0 := by omega
  simp [binOp, Op.shift, this]
theorem run_shr {t : Nat} {k k' : IntKind} {m n : Int} (h : 0 ≤ n) : (binOp .shr t (.int k m) (.int k' n)).run P w = .ok (.int k (m.fdiv (2 ^ (min n.toNat k.bits)))) w := by
  have : ¬ n < 0 := by omega
  simp [binOp, Op.shift, this]

theorem run_bin_bool {op : BinOp} {t : Nat} {y z : Operand} {p q : Bool} {r : Value} (h : (binOp op t (.bool p) (.bool q)).run P w = .ok r w) : (do eqGuard op t y z (.bool p) (.bool q); binOp op t (.bool p) (.bool q) : Sem Value).run P w = .ok r w := by
  have : (eqGuard op t y z (.bool p) (.bool q)).run P w = .ok () w := by unfold eqGuard; cases op <;> rfl
  simp only [Sem.run_bind, this, Result.andThen_ok, h]

theorem atsD_rel {M : Nat → Prop} : ∀ {l : List At} {r : List D} {us : List Value}, atsD? l = some r → AtsR ρ w M l us → DsR w M r us
  | [], r, [], h, k => by simp [atsD?] at h; subst h; trivial
  | [], r, _ :: _, h, k => k.elim
  | .d y :: l, r, [], h, k => k.elim
  | .d y :: l, r, u :: us, h, k => by
    simp only [atsD?] at h
    split at h
    · rename_i r' hr'
      injection h with h
      subst h
      exact ⟨k.1, atsD_rel hr' k.2⟩
    · cases h
  | .ptr .. :: l, r, us, h, _ => by simp [atsD?] at h
  | .osl .. :: l, r, us, h, _ => by simp [atsD?] at h
  | .ep .. :: l, r, us, h, _ => by simp [atsD?] at h
  | .fn .. :: l, r, us, h, _ => by simp [atsD?] at h
theorem argOf_rel {M : Nat → Prop} {s : SV} {c : DC} {v : Value} (h : argOf s = some c) (k : SVR ρ w M s v) : DCR w M c v := by
  unfold argOf at h
  split at h
  · injection h with h; subst h; exact k
  · split at h
    · rename_i l r hr
      injection h with h
      subst h
      obtain ⟨us, rfl, k⟩ := k
      exact ⟨us, rfl, atsD_rel hr k⟩
    · cases h
  · cases h

theorem argsOf_rel (R : Rel M0 w0 sz ρ E H a w) : ∀ {ys : List Operand} {args : List DC}, argsOf (ys.map (ev (look E))) = some args → DCsR w (Mof M0 ρ H) args (ys.map a.eval)
  | [], args, h => by simp [argsOf] at h; subst h; trivial
  | y :: ys, args, h => by
    simp only [List.map_cons] at h
    cases hy : ev (look E) y with
    | none => rw [hy] at h; simp [argsOf] at h
    | some s =>
      rw [hy] at h
      simp only [argsOf] at h
      split at h
      · rename_i c r hc hr
        injection h with h
        subst h
        exact ⟨argOf_rel hc (ev_ok R hy).1, argsOf_rel R hr⟩
      · cases h

theorem st_call (R : Rel M0 w0 sz ρ E H a w) {c : Call} {f : Nat} {fo : Operand} {args : List DC} {r : DV} (ho : o.op = .call c) (hc : c.callee = .value fo) (hf : ev (look E) fo = some (.c (.at (.fn f [])))) (ha : argsOf (c.args.toList.map (ev (look E))) = some args)
    (hr : FnOK P f args r) {d : Nat} (hd : o.dst = some d) (hlt : d < sz) : StepOK P M0 w0 sz E H o (.val (embV r)) a w := by
  intro next Q hn
  have hfv : a.eval fo = .func (.func f) #[] #[] := by
    have := (ev_ok R hf).1
    simpa [SVR, SCR, AtR] using this
  have hargs : (c.args.map a.eval) = (c.args.toList.map a.eval).toArray := by apply Array.ext'; simp
  have hrun : (execOp a.eval o).run P w = (callFunc f (c.args.toList.map a.eval).toArray).run P w := by
    have h1 : (resolve a.eval c o.type) = pure { target := .fn (.func f) #[], args := (c.args.toList.map a.eval).toArray } := by
      unfold resolve
      simp only [hc, hfv, Deferred.ofValue, hargs]
      congr 2
      apply Array.ext'
      simp
    simp only [execOp, ho, Sem.run_bind, h1, Sem.run_pure, Result.andThen_ok, invoke]
    rw [show ((c.args.toList.map a.eval).toArray ++ #[] : Array Value) = (c.args.toList.map a.eval).toArray by simp]
  have hM : ∀ b, Mof M0 ρ H b → b < w.heap.size := fun b hb => by
    rcases hb with hb | ⟨n, hn, rfl⟩
    · exact Nat.lt_of_lt_of_le (R.out b hb) R.below.size
    · obtain ⟨b, hb⟩ := Option.isSome_iff_exists.1 hn
      exact R.hi n b hb
  unfold Oper.wp
  rw [hrun]
  rcases hr w (Mof M0 ρ H) _ hM (argsOf_rel R ha) with ⟨g, hg, hr⟩ | ⟨v, hg, hv⟩
  · rw [hg, Oper.upon_enter]
    refine hr.mono ?_
    rintro e w' ⟨v, rfl, hv, hb⟩
    exact hn ρ v w' ((R.grow hb).val (dst := o.dst) (fun d' h => by rw [hd] at h; injection h with h; omega) (DVR.emb.1 hv) embV_names)
  · rw [hg, Oper.upon_value]
    exact hn ρ v w (R.val (dst := o.dst) (fun d' h => by rw [hd] at h; injection h with h; omega) (DVR.emb.1 hv) embV_names)

theorem st_len (R : Rel M0 w0 sz ρ E H a w) {c : Call} {y : Operand} {k ek : Nat} {ea : Bool} {l : List (List D)} {t : Nat} (ht : TyOK P t (.sl ek ea)) (ho : o.op = .call c) (hc : c.callee = .builtin .len) (hts : c.argTypes[0]? = some t) (hargs : c.args.toList = [y])
    (he : ev (look E) y = some (.c (.at (.d (.list k l))))) (h : (retD sz o.dst (sV (.int .i64 l.length))).has x) : StepOK P M0 w0 sz E H o x a w := by
  obtain ⟨d, hd, hlt, rfl⟩ := retD_has h
  obtain ⟨e, he2, _⟩ := ht.2.2.2
  have h1 : Rep w (Mof M0 ρ H) (.list k l) (a.eval y) := (ev_ok R he).1
  refine st_pure R (v := .int .i64 l.length) ?_ rfl (h1.len) hd hlt
  have hargs' : c.args.map a.eval = #[a.eval y] := by apply Array.ext'; simp [hargs]
  have hlen : (Builtin.len_ c.argTypes o.type #[a.eval y]).run P w = .ok (.int .i64 l.length) w := by
    have h0 : (#[a.eval y])[0]? = some (a.eval y) := rfl
    simp only [Builtin.len_, hts, h0, Sem.run_bind, run_underlying_of he2, Result.andThen_ok]
    generalize a.eval y = v at h1
    cases h1 <;> simp [goInt]
  simp only [execOp, ho, resolve, hc, Sem.run_bind, Sem.run_pure, Result.andThen_ok, invoke, builtin, hargs', hlen]

theorem inK_max {k : IntKind} {a b : Int} (h : inK k a) (h' : inK k b) : inK k (maxI a b) := by unfold maxI; split <;> assumption
theorem inK_min {k : IntKind} {a b : Int} (h : inK k a) (h' : inK k b) : inK k (minI a b) := by unfold minI; split <;> assumption
theorem rep_int {M : Nat → Prop} {k : IntKind} {n : Int} {v : Value} (h : Rep w M (.v (.int k n)) v) : v = .int k n ∧ inK k n := by
  cases h with | v x h hw => exact ⟨rfl, hw⟩
theorem st_builtin (R : Rel M0 w0 sz ρ E H a w) {c : Call} {b : Builtin} (ho : o.op = .call c) (hc : c.callee = .builtin b) {v : Value} (hb : ∀ ts t cs, (builtin b ts t cs (c.args.toList.map a.eval).toArray).run P w = .ok (.value v) w) (h1 : v.oneCell' = true) (hw : wfV v)
    {d : Nat} (hd : o.dst = some d) (hlt : d < sz) : StepOK P M0 w0 sz E H o (.val (sV v)) a w := by
  refine st_pure R ?_ h1 hw hd hlt
  have hargs : (c.args.map a.eval) = (c.args.toList.map a.eval).toArray := by apply Array.ext'; simp
  simp only [execOp, ho, resolve, hc, Sem.run_bind, Sem.run_pure, Result.andThen_ok, invoke, hargs, hb]

theorem st_index (R : Rel M0 w0 sz ρ E H a w) {t k : Nat} {ea : Bool} {l : List (List D)} {y z : Operand} {ik : IntKind} {i : Int} (ht : TyOK P t (.sl k ea)) (ho : o.op = .indexAddr t y z) (he : ev (look E) y = some (.c (.at (.d (.list k l)))))
    (hz : ev (look E) z = some (.c (.at (.d (.v (.int ik i)))))) (hi : 0 ≤ i ∧ i < l.length) {d : Nat} (hd : o.dst = some d) (hlt : d < sz) : StepOK P M0 w0 sz E H o (.val (.c (.at (.ep k l i.toNat 0)))) a w := by
  obtain ⟨e, he2, hsz, _, _⟩ := ht.2.2.2
  have h1 : Rep w (Mof M0 ρ H) (.list k l) (a.eval y) := (ev_ok R he).1
  have h2 : Rep w (Mof M0 ρ H) (.v (.int ik i)) (a.eval z) := (ev_ok R hz).1
  generalize hyv : a.eval y = v at h1
  generalize hzv : a.eval z = u at h2
  cases h2
  cases h1 with
  | nil => simp at hi; omega
  | @list b off cap _ _ vs hc hm hM hb hkk hcv hr =>
    refine ok_val R (v := .pointer (some ⟨b, off + i.toNat * k + 0, none⟩)) ?_ hd hlt ⟨b, off, rfl, cap, .list vs hc hm hM hb hkk hcv hr⟩ (fun n hn => by simp [SV.names, SC.names, At.names] at hn)
    simp [execOp, ho, hyv, hzv, Instr.indexAt, asIntOf, run_underlying_of he2, hi, hsz, add_plain]

theorem st_indexArr (R : Rel M0 w0 sz ρ E H a w) {t n ek len : Nat} {z : List D} {ea : Bool} {l : List At} {y u : Operand} {ik : IntKind} {i : Int} {s : SC} (ht : TyOK P t (.ar n z len ek ea)) (ho : o.op = .index t y u) (he : ev (look E) y = some (.c (.agg l)))
    (hz : ev (look E) u = some (.c (.at (.d (.v (.int ik i)))))) (hp : partA ea l (i.toNat * ek) ek = some s) (hi : 0 ≤ i ∧ i < len) {d : Nat} (hd : o.dst = some d) (hlt : d < sz) : StepOK P M0 w0 sz E H o (.val (.c s)) a w := by
  obtain ⟨e, he2, hsz, hag⟩ := ht.2.2.2
  obtain ⟨⟨vs, hv, hR⟩, h2⟩ := ev_ok R he
  have h2' : Rep w (Mof M0 ρ H) (.v (.int ik i)) (a.eval u) := (ev_ok R hz).1
  generalize hzv : a.eval u = uv at h2'
  cases h2'
  obtain ⟨v, hr, hs⟩ := run_part hag hsz hR hp w
  refine ok_val R (v := v) ?_ hd hlt hs (fun m hm => h2 m (partA_names hp m hm))
  simp [execOp, ho, hv, hzv, Instr.index, asIntOf, run_underlying_of he2, hi, hsz, hr]

theorem st_indexPtr (R : Rel M0 w0 sz ρ E H a w) {t n' ek len : Nat} {z : List D} {ea : Bool} {n off : Nat} {y u : Operand} {ik : IntKind} {i : Int} (ht : TyOK P t (.ar n' z len ek ea)) (ho : o.op = .indexAddr t y u) (he : ev (look E) y = some (.c (.at (.ptr n off))))
    (hz : ev (look E) u = some (.c (.at (.d (.v (.int ik i)))))) (hi : 0 ≤ i ∧ i < len) {d : Nat} (hd : o.dst = some d) (hlt : d < sz) : StepOK P M0 w0 sz E H o (.val (.c (.at (.ptr n (off + i.toNat * ek))))) a w := by
  obtain ⟨e, he2, hsz, hag⟩ := ht.2.2.2
  obtain ⟨h1, h2⟩ := ev_ok R he
  have hv : a.eval y = .pointer (some ⟨ρ n, off, none⟩) := h1
  have h2' : Rep w (Mof M0 ρ H) (.v (.int ik i)) (a.eval u) := (ev_ok R hz).1
  generalize hzv : a.eval u = uv at h2'
  cases h2'
  refine ok_val R (v := .pointer (some ⟨ρ n, off + i.toNat * ek, none⟩)) ?_ hd hlt rfl h2
  simp [execOp, ho, hv, hzv, Instr.indexAt, Instr.sureAddr, asIntOf, run_underlying_of he2, hi, hsz, add_plain]

theorem st_extract (R : Rel M0 w0 sz ρ E H a w) {y : Operand} {i : Nat} {l r : List SC} {s : SC} (ho : o.op = .extract y i) (he : ev (look E) y = some (.tup l)) (hl : l.drop i = s :: r) (h : (retD sz o.dst (.c s)).has x) : StepOK P M0 w0 sz E H o x a w := by
  obtain ⟨d, hd, hlt, rfl⟩ := retD_has h
  obtain ⟨⟨vs, hv, hR⟩, h2⟩ := ev_ok R he
  have hs : l[i]? = some s := by have := congrArg (·[0]?) hl; simpa using this
  obtain ⟨v, h3, h4⟩ := hR.get i s hs
  refine ok_val R (v := v) ?_ hd hlt h4 (fun m hm => h2 m ?_)
  · simp [execOp, ho, hv, Instr.extract, h3]
  · simp only [SV.names, namesC, List.mem_flatMap]
    exact ⟨s, List.mem_of_getElem? hs, hm⟩

theorem st_un (R : Rel M0 w0 sz ρ E H a w) {op : UnOp} {ty : Nat} {y : Operand} {v r : Value} (ho : o.op = .unOp op ty y) (he : ev (look E) y = some (.c (.at (.d (.v v))))) (hu : unD op v = some r) (h : (retD sz o.dst (sV r)).has x) : StepOK P M0 w0 sz E H o x a w := by
  obtain ⟨d, hd, hlt, rfl⟩ := retD_has h
  have h2 : Rep w (Mof M0 ρ H) (.v v) (a.eval y) := (ev_ok R he).1
  generalize hyv : a.eval y = u at h2
  cases h2
  unfold unD at hu
  split at hu
  · injection hu with hu; subst hu
    exact st_pure R (by simp [execOp, ho, hyv, Op.unary, Op.intArith]) rfl (inK_wrap _ _) hd hlt
  · injection hu with hu; subst hu
    exact st_pure R (by simp [execOp, ho, hyv, Op.unary]) rfl trivial hd hlt
  · cases hu

theorem foldl_set : ∀ (us : List Value) (off j : Nat) (cs : Array Value), ((us.zipIdx j).foldl (fun cs (p : Value × Nat) => cs.setIfInBounds (off + p.2) p.1) cs).toList = setL cs.toList (off + j) us
  | [], off, j, cs => by cases h : cs.toList <;> simp [setL, h]
  | u :: us, off, j, cs => by
    rw [List.zipIdx_cons, List.foldl_cons, foldl_set us off (j + 1), setL_toList]
    simp [Nat.add_assoc]

theorem fill_ok {fs : List (Nat × Nat × Bool)} {place : Nat → Option (Nat × Nat)} (hp : ∀ i x, fs[i]? = some x → place i = some (x.1, x.2.1)) :
    ∀ (ps : List (Nat × Operand)) (zs : List At) (cs : Array Value) (l : List At), (∀ n ∈ namesA zs, (look H n).isSome = true) → Rel M0 w0 sz ρ E H a w → AtsR ρ w (Mof M0 ρ H) zs cs.toList →
      stepV.buildA fs zs (ps.map (·.1)) (ps.map fun p => ev (look E) p.2) = some l →
      ∃ cs', Instr.fill place cs (ps.map fun p => (p.1, a.eval p.2)) = some cs' ∧ AtsR ρ w (Mof M0 ρ H) l cs'.toList ∧ (∀ n ∈ namesA l, (look H n).isSome = true)
  | [], zs, cs, l, hn, R, hz, h => by
    simp only [List.map_nil, stepV.buildA, Option.some.injEq] at h
    subst h
    exact ⟨cs, rfl, hz, hn⟩
  | (i, y) :: ps, zs, cs, l, hn, R, hz, h => by
    simp only [List.map_cons] at h ⊢
    cases hy : ev (look E) y with
    | none => rw [hy] at h; simp [stepV.buildA] at h
    | some s =>
      cases s with
      | tup l => rw [hy] at h; simp [stepV.buildA] at h
      | c s =>
        rw [hy] at h
        simp only [stepV.buildA] at h
        split at h
        · rename_i fo fz fa hf
          split at h
          · rename_i h1 h2
            have h1 : (cellsC s).length = fz := by simpa using h1
            have h2 : fo + fz ≤ zs.length := by simpa using h2
            obtain ⟨k1, k2⟩ := ev_ok R hy
            have kc := SCR.cells k1
            have klen := kc.length
            have kl := hz.length
            have hsize : (a.eval y).cells.size = fz := by rw [← h1, ← klen]; simp
            have hnew : AtsR ρ w (Mof M0 ρ H) (setL zs fo (cellsC s)) ((a.eval y).cells.zipIdx.foldl (fun cs (p : Value × Nat) => cs.setIfInBounds (fo + p.2) p.1) cs).toList := by
              have := foldl_set (a.eval y).cells.toList fo 0 cs
              rw [Nat.add_zero] at this
              rw [← Array.foldl_toList, Array.toList_zipIdx, this]
              exact hz.setL fo kc
            have hnn : ∀ n ∈ namesA (setL zs fo (cellsC s)), (look H n).isSome = true := fun n hm => by
              simp only [namesA, List.mem_flatMap] at hm
              obtain ⟨y', hy', hm⟩ := hm
              rcases setL_mem _ _ _ _ hy' with hy' | hy'
              · exact hn n (by simp only [namesA, List.mem_flatMap]; exact ⟨y', hy', hm⟩)
              · refine k2 n ?_
                cases s with
                | «at» b => simp only [cellsC, List.mem_singleton] at hy'; subst hy'; exact hm
                | agg q => simp only [SV.names, SC.names, namesA, List.mem_flatMap]; exact ⟨y', hy', hm⟩
            obtain ⟨cs', e1, e2, e3⟩ := fill_ok hp ps _ _ l hnn R hnew h
            refine ⟨cs', ?_, e2, e3⟩
            have hcs : cs.size = zs.length := by rw [← kl]; simp
            simp only [Instr.fill, hp i _ hf]
            rw [if_neg (by simp only [hsize, ne_eq, not_true, decide_false, Bool.false_or, gt_iff_lt, decide_eq_true_eq]; omega)]
            exact e1
          · cases h
        · cases h
end
end Sx
end Go.Proofs.Ytffamgiknfphaaa
