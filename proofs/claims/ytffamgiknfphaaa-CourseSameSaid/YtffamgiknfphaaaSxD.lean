/- A symbolic walk: each operation does to the world what the symbolic step says. No conditions beyond what the types' table says. -/
import Derived.Test.YtffamgiknfphaaaSxC
namespace Go.Proofs.Ytffamgiknfphaaa
open Go Go.RowKit

set_option linter.unusedVariables false
namespace Sx

def TyOK (P : Program) (t : Nat) (td : TD) : Prop :=
  (∀ w, (sizeOf t).run P w = .ok td.size w) ∧ (∀ w, (isAgg t).run P w = .ok td.agg w) ∧
  (∃ z, (∀ w, (zeroValue t).run P w = .ok z w) ∧ ∀ w M, DsR w M td.zero z.cells.toList) ∧
  match td with
  | .st _ _ fs => ∃ F : Array Field, P.underlying t = some (.struct F) ∧ F.size = fs.length ∧ ∀ (i : Nat) (x : Nat × Nat × Bool), fs[i]? = some x → ∃ f : Field, F[i]? = some f ∧ f.offset = x.1 ∧ (∀ w, (sizeOf f.type).run P w = .ok x.2.1 w) ∧ (∀ w, (isAgg f.type).run P w = .ok x.2.2 w)
  | .int k => P.underlying t = some (.int k)
  | .bool => P.underlying t = some .bool
  | .sl ek ea => ∃ e, P.underlying t = some (.slice e) ∧ (∀ w, (sizeOf e).run P w = .ok ek w) ∧ (∀ w, (isAgg e).run P w = .ok ea w) ∧ ∃ z, (∀ w, (zeroValue e).run P w = .ok z w) ∧ z.cells.size = ek
  | .ar _ _ len ek ea => ∃ e, P.underlying t = some (.array len e) ∧ (∀ w, (sizeOf e).run P w = .ok ek w) ∧ (∀ w, (isAgg e).run P w = .ok ea w)
  | .sc _ => True

theorem run_underlying_of {P : Program} {t : Nat} {d : TypeDesc} (h : P.underlying t = some d) (w : World) : (underlying t).run P w = .ok d w := by
  simp [underlying, h]

theorem retD_has {sz : Nat} {dst : Option Nat} {s : SV} {x : Eff} (h : (retD sz dst s).has x) : ∃ d, dst = some d ∧ d < sz ∧ x = .val s := by
  unfold retD at h
  cases dst with
  | none => exact h.elim
  | some d =>
    simp only at h
    cases hb : Nat.blt d sz with
    | false => rw [hb] at h; exact h.elim
    | true => rw [hb] at h; exact ⟨d, rfl, by simpa using hb, h.symm⟩
theorem guardD_has {sz : Nat} {dst : Option Nat} {r : SR} {x : Eff} (h : (guardD sz dst r).has x) : ∃ d, dst = some d ∧ d < sz ∧ r.has x := by
  unfold guardD at h
  cases dst with
  | none => exact h.elim
  | some d =>
    simp only at h
    cases hb : Nat.blt d sz with
    | false => rw [hb] at h; exact h.elim
    | true => rw [hb] at h; exact ⟨d, rfl, by simpa using hb, h⟩

section
variable {P : Program} {M0 : Nat → Prop} {w0 w : World} {sz : Nat} {ρ : Nat → Nat} {E : Env} {H : Hp} {a : Act} {o : Oper} {x : Eff}
  {next : Act → World → Prop} {Q : Exit → Act → World → Prop}

/-- what is asked of a step -/
def StepOK (P : Program) (M0 : Nat → Prop) (w0 : World) (sz : Nat) (E : Env) (H : Hp) (o : Oper) (x : Eff) (a : Act) (w : World) : Prop :=
  ∀ (next : Act → World → Prop) (Q : Exit → Act → World → Prop),
    (∀ ρ' v w', Rel M0 w0 sz ρ' (apE o.dst x E) (apH x H) (a.put o.dst v) w' → next (a.put o.dst v) w') → o.wp P a w next Q

theorem ok_run {v : Value} {w' : World} {ρ' : Nat → Nat} (hr : (execOp a.eval o).run P w = .ok (.value v) w')
    (R : Rel M0 w0 sz ρ' (apE o.dst x E) (apH x H) (a.put o.dst v) w') : StepOK P M0 w0 sz E H o x a w := by
  intro next Q hn
  unfold Oper.wp
  rw [hr]
  exact hn _ _ _ R
theorem ok_skip {w' : World} {ρ' : Nat → Nat} (hr : (execOp a.eval o).run P w = .ok .skip w')
    (R : Rel M0 w0 sz ρ' (apE o.dst x E) (apH x H) (a.put o.dst undef) w') : StepOK P M0 w0 sz E H o x a w := by
  intro next Q hn
  unfold Oper.wp
  rw [hr]
  exact hn _ _ _ R
theorem ok_val {v : Value} {s : SV} (R : Rel M0 w0 sz ρ E H a w) (hr : (execOp a.eval o).run P w = .ok (.value v) w) {d : Nat} (hd : o.dst = some d) (hlt : d < sz)
    (hx : SVR ρ w (Mof M0 ρ H) s v) (hn : ∀ n ∈ s.names, (look H n).isSome = true) : StepOK P M0 w0 sz E H o (.val s) a w :=
  ok_run (x := .val s) hr (R.val (fun d' h => by rw [hd] at h; injection h with h; omega) hx hn)

theorem ev_ok (R : Rel M0 w0 sz ρ E H a w) {y : Operand} {s : SV} (h : ev (look E) y = some s) : SVR ρ w (Mof M0 ρ H) s (a.eval y) ∧ ∀ n ∈ s.names, (look H n).isSome = true := by
  cases y with
  | tmp t => exact ⟨R.env t s h, R.clE t s h⟩
  | const v =>
    simp only [ev] at h
    split at h
    · rename_i hw
      have hw := wfB_iff hw
      cases v <;> simp only [Option.some.injEq, reduceCtorEq] at h <;> subst h <;> exact ⟨Rep.v _ rfl hw, fun n hn => by simp [sV, SV.names, SC.names, At.names] at hn⟩
    · cases h
  | global g => simp [ev] at h
  | func f =>
    simp only [ev, Option.some.injEq] at h
    subst h
    exact ⟨rfl, fun n hn => by simp [SV.names, SC.names, At.names] at hn⟩

theorem sV_names {v : Value} {p : Nat → Prop} : (∀ n ∈ (sV v).names, p n) := fun n hn => by simp [sV, SV.names, SC.names, At.names] at hn
theorem embV_names {v : DV} {p : Nat → Prop} : (∀ n ∈ (embV v).names, p n) := fun n hn => by rw [names_embV] at hn; cases hn

theorem st_move (R : Rel M0 w0 sz ρ E H a w) {y : Operand} {s : SV} (ho : o.op = .move y ∨ o.op = .assign y) (he : ev (look E) y = some s) (h : (retD sz o.dst s).has x) : StepOK P M0 w0 sz E H o x a w := by
  obtain ⟨d, hd, hlt, rfl⟩ := retD_has h
  obtain ⟨h1, h2⟩ := ev_ok R he
  refine ok_val R (v := a.eval y) ?_ hd hlt h1 h2
  rcases ho with ho | ho <;> simp [execOp, ho]

theorem st_alloc (R : Rel M0 w0 sz ρ E H a w) {t : Nat} {td : TD} (ht : TyOK P t td) (ho : o.op = .alloc t) {d : Nat} (hd : o.dst = some d) (hlt : d < sz) (hf : look H d = none) :
    StepOK P M0 w0 sz E H o (.new d (.own (td.zero.map .d)) (.c (.at (.ptr d 0)))) a w := by
  obtain ⟨z, hz, hD⟩ := ht.2.2.1
  have hr : (execOp a.eval o).run P w = .ok (.value (.pointer (some ⟨w.heap.size, 0, none⟩))) (w.alloc (.cells z.cells.toList.toArray t)) := by
    simp [execOp, ho, Instr.alloc, newVar, newRow, hz]
  refine ok_run (ρ' := upd ρ d w.heap.size) hr ?_
  rw [hd]
  exact R.new hlt hf (DsR.ats.1 (hD _ _)) (by simp [Blk.names, names_map_d]) (fun ρ' w' M' e => by simp [SVR, SCR, AtR, e]) (fun m hm => by simpa [SV.names, SC.names, At.names] using hm)

theorem st_box (R : Rel M0 w0 sz ρ E H a w) {t : Nat} {y : Operand} {s : SC} (ho : o.op = .box t y) (he : ev (look E) y = some (.c s)) {d : Nat} (hd : o.dst = some d) (hlt : d < sz) (hf : look H d = none) :
    StepOK P M0 w0 sz E H o (.new d (.own (cellsC s)) (.c (.at (.ptr d 0)))) a w := by
  obtain ⟨h1, h2⟩ := ev_ok R he
  have hr : (execOp a.eval o).run P w = .ok (.value (.pointer (some ⟨w.heap.size, 0, none⟩))) (w.alloc (.cells (a.eval y).cells.toList.toArray t)) := by
    simp [execOp, ho, Instr.box, newVar, newRow]
  refine ok_run (ρ' := upd ρ d w.heap.size) hr ?_
  rw [hd]
  refine R.new hlt hf (SCR.cells h1) (fun m hm => h2 m ?_) (fun ρ' w' M' e => by simp [SVR, SCR, AtR, e]) (fun m hm => by simpa [SV.names, SC.names, At.names] using hm)
  cases s <;> simpa [Blk.names, cellsC, SV.names, SC.names, namesA] using hm

theorem add_plain (b o j : Nat) : (⟨b, o, none⟩ : Addr).add j = ⟨b, o + j, none⟩ := by
  unfold Addr.add
  split
  · rename_i h; subst h; rfl
  · rfl

theorem cell_of {w : World} {b : Nat} {cs : List Value} (h : CellsAt w b cs) (j : Nat) : w.cell? ⟨b, j, none⟩ = cs[j]? := by
  obtain ⟨T, h⟩ := h
  rw [cell_of_row w b j cs.toArray T _ h]
  simp

theorem namesA_sub {l l' : List At} (h : ∀ a ∈ l', a ∈ l) : ∀ n ∈ namesA l', n ∈ namesA l := fun n hn => by
  simp only [namesA, List.mem_flatMap] at *
  obtain ⟨a, h1, h2⟩ := hn
  exact ⟨a, h a h1, h2⟩

/-- the part of a row of cells, as 'partA' has it -/
theorem partA_some {agg : Bool} {l : List At} {off n : Nat} {s : SC} (h : partA agg l off n = some s) :
    (agg = true ∧ off + n ≤ l.length ∧ s = .agg ((l.drop off).take n)) ∨ (agg = false ∧ ∃ y, l[off]? = some y ∧ s = .at y) := by
  unfold partA at h
  cases agg with
  | true =>
    simp only [if_true] at h
    split at h
    · rename_i hb
      injection h with h
      exact .inl ⟨rfl, by simpa using hb, h.symm⟩
    · cases h
  | false =>
    simp only [Bool.false_eq_true, if_false] at h
    split at h
    · rename_i y r hd
      injection h with h
      exact .inr ⟨rfl, y, by have := congrArg (·[0]?) hd; simpa using this, h.symm⟩
    · cases h
theorem partA_names {agg : Bool} {l : List At} {off n : Nat} {s : SC} (h : partA agg l off n = some s) : ∀ m ∈ s.names, m ∈ namesA l := by
  rcases partA_some h with ⟨_, _, rfl⟩ | ⟨_, y, hy, rfl⟩
  · exact namesA_sub fun y hy => List.mem_of_mem_drop (List.mem_of_mem_take hy)
  · intro m hm
    simp only [namesA, List.mem_flatMap]
    exact ⟨y, List.mem_of_getElem? hy, hm⟩

theorem st_load (R : Rel M0 w0 sz ρ E H a w) {t : Nat} {td : TD} (ht : TyOK P t td) {y : Operand} {n off : Nat} (ho : o.op = .load t y) (he : ev (look E) y = some (.c (.at (.ptr n off))))
    {cs : List At} (hb : look H n = some (.own cs)) {s : SC} (hp : partA td.agg cs off td.size = some s) (h : (retD sz o.dst (.c s)).has x) : StepOK P M0 w0 sz E H o x a w := by
  obtain ⟨d, hd, hlt, rfl⟩ := retD_has h
  obtain ⟨h1, h2⟩ := ev_ok R he
  have hv : a.eval y = .pointer (some ⟨ρ n, off, none⟩) := h1
  obtain ⟨us, hc, hR⟩ := R.blk n _ hb
  have hR : AtsR ρ w (Mof M0 ρ H) cs us := hR
  have hnames : ∀ m ∈ s.names, (look H m).isSome = true := fun m hm => R.clH n _ hb m (partA_names hp m hm)
  rcases partA_some hp with ⟨ha, hl, rfl⟩ | ⟨ha, u, hu, rfl⟩
  · refine ok_val R (v := .agg ((us.drop off).take td.size).toArray) ?_ hd hlt ⟨_, rfl, (hR.drop off).take _⟩ hnames
    have hlen : ((us.drop off).take td.size).length = td.size := by have := hR.length; simp; omega
    have hrun : (loadCells ⟨ρ n, off, none⟩ td.size).run P w = .ok ((us.drop off).take td.size).toArray w := by
      have := run_loadCells_list (P := P) w ⟨ρ n, off, none⟩ ((us.drop off).take td.size) (fun j v hj => by
        rw [add_plain, cell_of hc]
        rw [List.getElem?_take] at hj
        split at hj
        · rw [List.getElem?_drop] at hj; exact hj
        · cases hj)
      rwa [hlen] at this
    simp [execOp, ho, hv, Instr.loadAt, Instr.sureAddr, loadVar, ht.2.1, ha, ht.1, hrun]
  · obtain ⟨v, hv1, hv2⟩ := hR.get off u hu
    refine ok_val R (v := v) ?_ hd hlt hv2 hnames
    simp [execOp, ho, hv, Instr.loadAt, Instr.sureAddr, loadVar, ht.2.1, ha, run_load, cell_of hc, hv1]

theorem AtsR.of_get {ρ : Nat → Nat} {w : World} {M : Nat → Prop} : ∀ {a : List At} {v : List Value}, a.length = v.length → (∀ (i : Nat) (x : At) (u : Value), a[i]? = some x → v[i]? = some u → AtR ρ w M x u) → AtsR ρ w M a v
  | [], [], _, _ => trivial
  | a :: l, v :: vs, h, k => ⟨k 0 a v rfl rfl, AtsR.of_get (by simpa using h) fun i x u h1 h2 => k (i + 1) x u (by simpa using h1) (by simpa using h2)⟩
  | [], _ :: _, h, _ => by simp at h
  | _ :: _, [], h, _ => by simp at h

theorem st_loadEl (R : Rel M0 w0 sz ρ E H a w) {t : Nat} {td : TD} (ht : TyOK P t td) {y : Operand} {k i off : Nat} {l : List (List D)} (ho : o.op = .load t y) (he : ev (look E) y = some (.c (.at (.ep k l i off))))
    {e : List D} (hl : l[i]? = some e) (hk : off + td.size ≤ e.length) {d : Nat} (hd : o.dst = some d) (hlt : d < sz) :
    StepOK P M0 w0 sz E H o (.val (.c (match td.agg with | true => .agg ((((e.map At.d).drop off).take td.size)) | false => .at ((e.map At.d)[off]?.getD default)))) a w := by
  obtain ⟨h1, h2⟩ := ev_ok R he
  obtain ⟨b, off0, hv, cap, hrep⟩ := h1
  have hi : i < l.length := by
    rcases Nat.lt_or_ge i l.length with h | h
    · exact h
    · rw [List.getElem?_eq_none h] at hl; cases hl
  have hei : l[i] = e := by rw [List.getElem?_eq_getElem hi] at hl; injection hl
  generalize hsl : Value.slice (some ⟨b, off0, none⟩) l.length cap = sl at hrep
  cases hrep with
  | nil => cases hsl
  | @list b' off' cap' _ _ vs hc hm hM hb hkk hcv hr =>
    injection hsl with e1 e2 e3
    injection e1 with e1
    injection e1 with e1 e4
    subst e1 e4
    have hek : e.length = k := hkk e (List.mem_of_getElem? hl)
    have hcell : ∀ j, j < k → w.cell? ⟨b, off0 + i * k + j, none⟩ = some (vs i j) := fun j hj => hcv i j hi hj
    have hrep2 : ∀ j (hj : j < e.length), Rep w (Mof M0 ρ H) e[j] (vs i j) := fun j hj => by
      have := hr i j hi (by rw [hei]; exact hj)
      simpa [hei] using this
    cases ha : td.agg with
    | true =>
      simp only
      have hsz : ∀ j, j < td.size → off + j < k := fun j hj => by omega
      refine ok_val R (v := .agg (((List.range td.size).map fun j => vs i (off + j)).toArray)) ?_ hd hlt ⟨_, rfl, AtsR.of_get ?_ ?_⟩ ?_
      · have := run_loadCells (P := P) w ⟨b, off0 + i * k + off, none⟩ td.size (fun j => vs i (off + j)) (fun j hj => by rw [add_plain, Nat.add_assoc (off0 + i * k)]; exact hcell _ (hsz j hj))
        simp [execOp, ho, hv, Instr.loadAt, Instr.sureAddr, loadVar, ht.2.1, ha, ht.1, this]
      · simp; omega
      · intro j x u h1 h2
        rw [List.getElem?_take] at h1
        split at h1
        · rename_i hj
          have hx : off + j < e.length := by omega
          rw [List.getElem?_drop, List.getElem?_map, List.getElem?_eq_getElem hx] at h1
          simp at h1
          simp [List.getElem?_range hj] at h2
          subst h1 h2
          exact hrep2 _ hx
        · cases h1
      · intro n hn
        have : n ∈ namesA (e.map At.d) := namesA_sub (fun y hy => List.mem_of_mem_drop (List.mem_of_mem_take hy)) n hn
        rw [names_map_d] at this
        cases this
    | false =>
      have hs1 : td.size = 1 := by cases td <;> simp [TD.agg] at ha <;> rfl
      have hx : off < e.length := by omega
      simp only
      have he2 : (e.map At.d)[off]?.getD default = At.d e[off] := by simp [hx]
      rw [he2]
      refine ok_val R (v := vs i off) ?_ hd hlt (hrep2 off hx) (fun n hn => by simp [SV.names, SC.names, At.names] at hn)
      simp [execOp, ho, hv, Instr.loadAt, Instr.sureAddr, loadVar, ht.2.1, ha, run_load, hcell off (by omega)]

theorem setL_toList : ∀ (cs : List Value) (o : Nat) (v : Value) (vs : List Value), setL cs o (v :: vs) = setL (cs.set o v) (o + 1) vs
  | [], o, v, vs => by cases vs <;> simp [setL]
  | c :: cs, 0, v, vs => by
    cases vs with
    | nil => cases cs <;> simp [setL]
    | cons u us => simp [setL]
  | c :: cs, o + 1, v, vs => by
    simp only [setL, List.set_cons_succ, setL_toList cs o v vs]
    cases vs <;> simp [setL]

/-- storing a row of values into a block of the call's own -/
theorem run_storeOwn {P : Program} {b : Nat} : ∀ (vs : List Value) (w : World) (cs : List Value) (off i : Nat), CellsAt w b cs → (∀ v ∈ vs, v.oneCell' = true) → off + i + vs.length ≤ cs.length →
    ∃ w', (storeCells ⟨b, off, none⟩ vs i).run P w = .ok () w' ∧ w'.os = w.os ∧ w'.tape = w.tape ∧ w'.output = w.output ∧ w'.heap.size = w.heap.size ∧ (∀ k, k ≠ b → w'.heap[k]? = w.heap[k]?) ∧ CellsAt w' b (setL cs (off + i) vs)
  | [], w, cs, off, i, h, _, _ => ⟨w, rfl, rfl, rfl, rfl, rfl, fun _ _ => rfl, by cases cs <;> exact h⟩
  | v :: vs, w, cs, off, i, h, h1, hl => by
    simp only [List.length_cons] at hl
    obtain ⟨T, hT⟩ := id h
    have hcell : w.cell? ⟨b, off + i, none⟩ = some (cs[off + i]'(by omega)) := by rw [cell_of h, List.getElem?_eq_getElem]
    have hfz := frozen_of_row w b (off + i) cs.toArray T hT
    have hset : CellsAt (w.setCell ⟨b, off + i, none⟩ v) b (cs.set (off + i) v) := ⟨T, by rw [heap_setCell_same w b (off + i) cs.toArray T v hT]; simp⟩
    obtain ⟨w', hr, h2, h3, h4, h5, h6, h7⟩ := run_storeOwn (P := P) vs (w.setCell ⟨b, off + i, none⟩ v) (cs.set (off + i) v) off (i + 1) hset (fun u hu => h1 u (List.mem_cons_of_mem _ hu)) (by simp; omega)
    refine ⟨w', ?_, h2, h3, h4, by rw [h5]; simp, fun k hk => ?_, ?_⟩
    · simp only [storeCells, Sem.run_bind, add_plain, run_store P w _ v _ (h1 v (List.mem_cons_self ..)), hcell, hfz]
      simpa using hr
    · rw [h6 k hk, heap_setCell_other _ _ _ _ hk]
    · rw [setL_toList]; exact h7

theorem setL_length {α : Type} : ∀ (l : List α) (o : Nat) (xs : List α), (setL l o xs).length = l.length
  | l, _, [] => by cases l <;> simp [setL]
  | [], _, _ :: _ => by simp [setL]
  | c :: cs, 0, x :: xs => by simp [setL, setL_length cs 0 xs]
  | c :: cs, n + 1, x :: xs => by simp [setL, setL_length cs n (x :: xs)]
theorem setL_mem {α : Type} : ∀ (l : List α) (o : Nat) (xs : List α) (y : α), y ∈ setL l o xs → y ∈ l ∨ y ∈ xs
  | l, _, [], y, h => by cases l <;> simp [setL] at h <;> simp [h]
  | [], _, _ :: _, y, h => by simp [setL] at h
  | c :: cs, 0, x :: xs, y, h => by
    simp only [setL, List.mem_cons] at h
    rcases h with h | h
    · exact .inr (by simp [h])
    · rcases setL_mem cs 0 xs y h with h | h
      · exact .inl (by simp [h])
      · exact .inr (by simp [h])
  | c :: cs, n + 1, x :: xs, y, h => by
    simp only [setL, List.mem_cons] at h
    rcases h with h | h
    · exact .inl (by simp [h])
    · rcases setL_mem cs n (x :: xs) y h with h | h
      · exact .inl (by simp [h])
      · exact .inr h

theorem AtsR.one {ρ : Nat → Nat} {w : World} {M : Nat → Prop} : ∀ {a : List At} {v : List Value}, AtsR ρ w M a v → ∀ u ∈ v, u.oneCell' = true
  | [], [], _, u, h => by cases h
  | a :: l, v :: vs, h, u, hu => by
    rcases List.mem_cons.1 hu with rfl | hu
    · exact At.oneCell h.1
    · exact AtsR.one h.2 u hu
  | [], _ :: _, h, _, _ => h.elim
  | _ :: _, [], h, _, _ => h.elim

theorem st_store (R : Rel M0 w0 sz ρ E H a w) {t : Nat} {td : TD} (ht : TyOK P t td) {y z : Operand} {n off : Nat} {s : SC} (ho : o.op = .store t y z) (he : ev (look E) y = some (.c (.at (.ptr n off)))) (hz : ev (look E) z = some (.c s))
    {cs : List At} (hb : look H n = some (.own cs)) (hd : o.dst = none) (hs : (cellsC s).length = td.size) (hl : off + td.size ≤ cs.length) :
    StepOK P M0 w0 sz E H o (.put n (.own (setL cs off (cellsC s)))) a w := by
  obtain ⟨h1, h2⟩ := ev_ok R he
  obtain ⟨h3, h4⟩ := ev_ok R hz
  have hv : a.eval y = .pointer (some ⟨ρ n, off, none⟩) := h1
  obtain ⟨us, hc, hR⟩ := R.blk n _ hb
  have hR : AtsR ρ w (Mof M0 ρ H) cs us := hR
  have hcz := SCR.cells h3
  have hlen := hcz.length
  have hlen2 := hR.length
  obtain ⟨w', hr, e1, e2, e3, e4, e5, e6⟩ := run_storeOwn (P := P) (a.eval z).cells.toList w us off 0 hc (AtsR.one hcz) (by omega)
  rw [Nat.add_zero] at e6
  have hrun : (execOp a.eval o).run P w = .ok .skip w' := by
    have hsz : (a.eval z).cells.size = td.size := by rw [← hs, ← hlen]; simp
    simp [execOp, ho, hv, Instr.storeAt, Instr.sureAddr, storeVar, ht.1, hsz, hr]
  refine ok_skip (ρ' := ρ) hrun ?_
  have : apE o.dst (.put n (.own (setL cs off (cellsC s)))) E = E := by simp [apE]
  rw [this, hd]
  refine R.put hb e1 e2 e3 e4 e5 e6 (AtsR.setL off hR hcz) (fun m hm => ?_)
  simp only [Blk.names, namesA, List.mem_flatMap] at hm
  obtain ⟨y', hy, hm⟩ := hm
  rcases setL_mem _ _ _ _ hy with hy | hy
  · exact R.clH n _ hb m (by simp only [Blk.names, namesA, List.mem_flatMap]; exact ⟨y', hy, hm⟩)
  · refine h4 m ?_
    cases s with
    | «at» a => simp only [cellsC, List.mem_singleton] at hy; subst hy; exact hm
    | agg l => simp only [SV.names, SC.names, namesA, List.mem_flatMap]; exact ⟨y', hy, hm⟩

theorem run_fieldAt {P : Program} {t b off i : Nat} {n : Nat} {z : List D} {fs : List (Nat × Nat × Bool)} (ht : TyOK P t (.st n z fs)) {fo fz : Nat} {fa : Bool} (hf : fs[i]? = some (fo, fz, fa)) (hz : fz ≠ 0) (w : World) :
    (Instr.fieldAt t (.pointer (some ⟨b, off, none⟩)) i).run P w = .ok (.pointer (some ⟨b, off + fo, none⟩)) w := by
  obtain ⟨F, hF, _, hfs⟩ := ht.2.2.2
  obtain ⟨f, hf1, hf2, hf3, _⟩ := hfs i _ hf
  simp [Instr.fieldAt, run_underlying_of hF, hf1, Instr.sureAddr, fieldPlace, hf3, hz, add_plain, hf2]

theorem st_fieldAddr (R : Rel M0 w0 sz ρ E H a w) {t : Nat} {n' : Nat} {z : List D} {fs : List (Nat × Nat × Bool)} (ht : TyOK P t (.st n' z fs)) {y : Operand} {n off i : Nat} (ho : o.op = .fieldAddr t y i)
    (he : ev (look E) y = some (.c (.at (.ptr n off)))) {fo fz : Nat} {fa : Bool} (hf : fs[i]? = some (fo, fz, fa)) (hz : fz ≠ 0) (h : (retD sz o.dst (.c (.at (.ptr n (off + fo))))).has x) : StepOK P M0 w0 sz E H o x a w := by
  obtain ⟨d, hd, hlt, rfl⟩ := retD_has h
  obtain ⟨h1, h2⟩ := ev_ok R he
  have hv : a.eval y = .pointer (some ⟨ρ n, off, none⟩) := h1
  refine ok_val R (v := .pointer (some ⟨ρ n, off + fo, none⟩)) ?_ hd hlt rfl h2
  simp [execOp, ho, hv, run_fieldAt ht hf hz]
theorem st_fieldAddrEl (R : Rel M0 w0 sz ρ E H a w) {t : Nat} {n' : Nat} {z : List D} {fs : List (Nat × Nat × Bool)} (ht : TyOK P t (.st n' z fs)) {y : Operand} {k j off i : Nat} {l : List (List D)} (ho : o.op = .fieldAddr t y i)
    (he : ev (look E) y = some (.c (.at (.ep k l j off)))) {fo fz : Nat} {fa : Bool} (hf : fs[i]? = some (fo, fz, fa)) (hz : fz ≠ 0) (h : (retD sz o.dst (.c (.at (.ep k l j (off + fo))))).has x) : StepOK P M0 w0 sz E H o x a w := by
  obtain ⟨d, hd, hlt, rfl⟩ := retD_has h
  obtain ⟨⟨b, off0, hv, hrow⟩, h2⟩ := ev_ok R he
  refine ok_val R (v := .pointer (some ⟨b, off0 + j * k + (off + fo), none⟩)) ?_ hd hlt ⟨b, off0, rfl, hrow⟩ (fun n hn => by simp [SV.names, SC.names, At.names] at hn)
  rw [← Nat.add_assoc]
  simp [execOp, ho, hv, run_fieldAt ht hf hz]

theorem run_part {P : Program} {t : Nat} {agg : Bool} {n off : Nat} {us : List Value} {l : List At} {ρ : Nat → Nat} {M : Nat → Prop} {s : SC} {w' : World} (h1 : ∀ w, (isAgg t).run P w = .ok agg w) (h2 : ∀ w, (sizeOf t).run P w = .ok n w)
    (hR : AtsR ρ w' M l us) (hp : partA agg l off n = some s) (w : World) : ∃ v, (part t us.toArray off).run P w = .ok v w ∧ SCR ρ w' M s v := by
  rcases partA_some hp with ⟨ha, hl, rfl⟩ | ⟨ha, u, hu, rfl⟩
  · refine ⟨.agg ((us.drop off).take n).toArray, ?_, _, rfl, (hR.drop off).take _⟩
    simp only [part, Sem.run_bind, h1, ha, Result.andThen_ok, if_true, h2, Sem.run_pure]
    congr 2
    apply Array.ext'
    simp [List.extract_eq_take_drop]
  · obtain ⟨v, hv1, hv2⟩ := hR.get off u hu
    refine ⟨v, ?_, hv2⟩
    simp [part, h1, ha, hv1]

theorem st_field (R : Rel M0 w0 sz ρ E H a w) {t : Nat} {n' : Nat} {z : List D} {fs : List (Nat × Nat × Bool)} (ht : TyOK P t (.st n' z fs)) {y : Operand} {i : Nat} {l : List At} (ho : o.op = .field t y i)
    (he : ev (look E) y = some (.c (.agg l))) {fo fz : Nat} {fa : Bool} (hf : fs[i]? = some (fo, fz, fa)) {s : SC} (hp : partA fa l fo fz = some s) (h : (retD sz o.dst (.c s)).has x) : StepOK P M0 w0 sz E H o x a w := by
  obtain ⟨d, hd, hlt, rfl⟩ := retD_has h
  obtain ⟨⟨vs, hv, hR⟩, h2⟩ := ev_ok R he
  obtain ⟨F, hF, _, hfs⟩ := ht.2.2.2
  obtain ⟨f, hf1, hf2, hf3, hf4⟩ := hfs i _ hf
  obtain ⟨v, hr, hs⟩ := run_part hf4 hf3 hR hp w
  refine ok_val R (v := v) ?_ hd hlt hs (fun m hm => h2 m (partA_names hp m hm))
  simp [execOp, ho, hv, Instr.field, run_underlying_of hF, hf1, asAgg, hf2, hr]

theorem st_nil (R : Rel M0 w0 sz ρ E H a w) {y : Operand} {n off : Nat} (ho : o.op = .nilCheck y) (he : ev (look E) y = some (.c (.at (.ptr n off)))) (h : (retD sz o.dst (.c (.at (.ptr n off)))).has x) : StepOK P M0 w0 sz E H o x a w := by
  obtain ⟨d, hd, hlt, rfl⟩ := retD_has h
  obtain ⟨h1, h2⟩ := ev_ok R he
  have hv : a.eval y = .pointer (some ⟨ρ n, off, none⟩) := h1
  refine ok_val R (v := a.eval y) ?_ hd hlt h1 h2
  simp [execOp, ho, hv]
theorem st_nilEl (R : Rel M0 w0 sz ρ E H a w) {y : Operand} {k i off : Nat} {l : List (List D)} (ho : o.op = .nilCheck y) (he : ev (look E) y = some (.c (.at (.ep k l i off)))) (h : (retD sz o.dst (.c (.at (.ep k l i off)))).has x) : StepOK P M0 w0 sz E H o x a w := by
  obtain ⟨d, hd, hlt, rfl⟩ := retD_has h
  obtain ⟨h1, h2⟩ := ev_ok R he
  obtain ⟨b, off0, hv, hrow⟩ := id h1
  refine ok_val R (v := a.eval y) ?_ hd hlt h1 h2
  simp [execOp, ho, hv]

end
end Sx
end Go.Proofs.Ytffamgiknfphaaa
