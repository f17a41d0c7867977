/- A symbolic walk: whole functions, loops, and contracts that were proved otherwise. No conditions beyond the types' table. -/
import Derived.Test.YtffamgiknfphaaaSxI
namespace Go.Proofs.Ytffamgiknfphaaa
open Go Go.RowKit

set_option linter.unusedVariables false
namespace Sx

def argE : Nat → List DC → Env
  | _, [] => []
  | i, a :: l => (i, .c (embC a)) :: argE (i + 1) l

def dcOf : SC → Option DC
  | .at (.d x) => some (.one x)
  | .agg l => match atsD? l with | some r => some (.agg r) | none => none
  | _ => none
def resC (Γ : List (Nat × TD)) (E : Env) (H : Hp) : ResultVar → Option DC
  | .tmp t => match look E t with | some (.c x) => dcOf x | _ => none
  | .cell t ty => match look E t, look Γ ty with
    | some (.c (.at (.ptr n off))), some td => match look H n with
      | some (.own cs) => match partA td.agg cs off td.size with | some x => dcOf x | none => none
      | _ => none
    | _, _ => none
def resL (Γ : List (Nat × TD)) (E : Env) (H : Hp) : List ResultVar → Option (List DC)
  | [] => some []
  | v :: l => match resC Γ E H v, resL Γ E H l with | some x, some r => some (x :: r) | _, _ => none
def RetP (Γ : List (Nat × TD)) (E : Env) (H : Hp) (rs : List ResultVar) (Q : DV → Prop) : Prop :=
  match resL Γ E H rs with
  | some [x] => Q (.c x)
  | some l => Q (.tup l)
  | none => False
def FinP (Γ : List (Nat × TD)) (rs : List ResultVar) (Q : DV → Prop) (ex : Exit) (E : Env) (H : Hp) : Prop :=
  match ex with
  | .normal => RetP Γ E H rs Q
  | .ret => RetP Γ E H rs Q
  | _ => False

section
variable {P : Program} {M0 : Nat → Prop} {w0 w : World} {sz : Nat} {ρ : Nat → Nat} {E : Env} {H : Hp} {a : Act} {Γ : List (Nat × TD)}

theorem dcOf_rel {M : Nat → Prop} {s : SC} {c : DC} {v : Value} (h : dcOf s = some c) (k : SCR ρ w M s v) : DCR w M c v := by
  refine argOf_rel (ρ := ρ) (s := .c s) ?_ k
  unfold dcOf at h
  unfold argOf
  split at h
  · exact h
  · exact h
  · cases h

theorem DCR.mono {w' : World} {M M' : Nat → Prop} (hw : Holds M w w') (hM : ∀ b, b < w.heap.size → M' b → M b) : ∀ {a : DC} {v : Value}, DCR w M a v → DCR w' M' a v
  | .one x, v, h => Rep.mono h hw hM
  | .agg l, v, ⟨vs, e, h⟩ => ⟨vs, e, h.mono hw hM⟩
theorem DCsR.mono {w' : World} {M M' : Nat → Prop} (hw : Holds M w w') (hM : ∀ b, b < w.heap.size → M' b → M b) : ∀ {a : List DC} {v : List Value}, DCsR w M a v → DCsR w' M' a v
  | [], [], _ => trivial
  | a :: l, v :: vs, h => ⟨h.1.mono hw hM, DCsR.mono hw hM h.2⟩
  | [], _ :: _, h => h.elim
  | _ :: _, [], h => h.elim
theorem DVR.mono {w' : World} {M M' : Nat → Prop} (hw : Holds M w w') (hM : ∀ b, b < w.heap.size → M' b → M b) : ∀ {a : DV} {v : Value}, DVR w M a v → DVR w' M' a v
  | .c x, v, h => DCR.mono hw hM h
  | .tup l, v, ⟨vs, e, h⟩ => ⟨vs, e, h.mono hw hM⟩

theorem resC_ok (hΓ : ∀ t td, look Γ t = some td → TyOK P t td) (R : Rel M0 w0 sz ρ E H a w) {v : ResultVar} {c : DC} (h : resC Γ E H v = some c) :
    ∃ u, ((match v with | .tmp t => pure (a.tmps.getD t undef) | .cell p t => do loadVar t (← asAddr (a.tmps.getD p undef))) : Sem Value).run P w = .ok u w ∧ DCR w M0 c u := by
  have hM : Holds (Mof M0 ρ H) w w := .refl _ _
  unfold resC at h
  split at h
  · rename_i t
    split at h
    · rename_i x hx
      exact ⟨_, rfl, (dcOf_rel h (R.env t _ hx)).mono hM fun b _ hb => .inl hb⟩
    · cases h
  · rename_i t ty
    split at h
    · rename_i n off td hx ht
      split at h
      · rename_i cs hb
        split at h
        · rename_i x hp
          have T := hΓ _ _ ht
          have hv : a.tmps.getD t undef = .pointer (some ⟨ρ n, off, none⟩) := R.env t _ hx
          obtain ⟨us, hc, hR⟩ := R.blk n _ hb
          have hR : AtsR ρ w (Mof M0 ρ H) cs us := hR
          simp only [hv]
          rcases partA_some hp with ⟨ha, hl, rfl⟩ | ⟨ha, u, hu, rfl⟩
          · refine ⟨.agg ((us.drop off).take td.size).toArray, ?_, (dcOf_rel (ρ := ρ) h ⟨_, rfl, (hR.drop off).take _⟩).mono hM fun b _ hb => .inl hb⟩
            have hlen : ((us.drop off).take td.size).length = td.size := by have := hR.length; simp; omega
            have hrun : (loadCells ⟨ρ n, off, none⟩ td.size).run P w = .ok ((us.drop off).take td.size).toArray w := by
              have := run_loadCells_list (P := P) w ⟨ρ n, off, none⟩ ((us.drop off).take td.size) (fun j v hj => by
                rw [add_plain, cell_of hc]
                rw [List.getElem?_take] at hj
                split at hj
                · rw [List.getElem?_drop] at hj; exact hj
                · cases hj)
              rwa [hlen] at this
            simp [asAddr, loadVar, T.2.1, ha, T.1, hrun]
          · obtain ⟨v, hv1, hv2⟩ := hR.get off u hu
            refine ⟨v, ?_, (dcOf_rel (ρ := ρ) h hv2).mono hM fun b _ hb => .inl hb⟩
            simp [asAddr, loadVar, T.2.1, ha, run_load, cell_of hc, hv1]
        · cases h
      · cases h
    · cases h

theorem resL_ok (hΓ : ∀ t td, look Γ t = some td → TyOK P t td) (R : Rel M0 w0 sz ρ E H a w) : ∀ {l : List ResultVar} {cs : List DC}, resL Γ E H l = some cs →
    ∃ us : List Value, (l.mapM (fun v => match v with | .tmp t => pure (a.tmps.getD t undef) | .cell p t => do loadVar t (← asAddr (a.tmps.getD p undef)) : ResultVar → Sem Value)).run P w = .ok us w ∧ DCsR w M0 cs us
  | [], cs, h => by simp [resL] at h; subst h; exact ⟨[], rfl, trivial⟩
  | v :: l, cs, h => by
    simp only [resL] at h
    split at h
    · rename_i x r hx hr
      injection h with h
      subst h
      obtain ⟨u, h1, h2⟩ := resC_ok hΓ R hx
      obtain ⟨us, h3, h4⟩ := resL_ok hΓ R hr
      refine ⟨u :: us, ?_, h2, h4⟩
      simp only [List.mapM_cons, Sem.run_bind, h1, Result.andThen_ok, h3, Sem.run_pure]
    · cases h

theorem DCsR.length : ∀ {a : List DC} {v : List Value} {M : Nat → Prop}, DCsR w M a v → v.length = a.length
  | [], [], _, _ => rfl
  | a :: l, v :: vs, M, h => by simp [DCsR.length h.2]
  | [], _ :: _, _, h => h.elim
  | _ :: _, [], _, h => h.elim
theorem DCsR.get : ∀ {a : List DC} {v : List Value} {M : Nat → Prop}, DCsR w M a v → ∀ (i : Nat) (x : DC), a[i]? = some x → ∃ u, v[i]? = some u ∧ DCR w M x u
  | [], [], _, _, i, x, h => by simp at h
  | a :: l, v :: vs, _, h, 0, x, hx => by simp at hx; subst hx; exact ⟨v, rfl, h.1⟩
  | a :: l, v :: vs, _, h, i + 1, x, hx => by simpa using DCsR.get h.2 i x (by simpa using hx)
  | [], _ :: _, _, h, _, _, _ => h.elim
  | _ :: _, [], _, h, _, _, _ => h.elim

theorem ret_ok (hΓ : ∀ t td, look Γ t = some td → TyOK P t td) (R : Rel M0 w0 sz ρ E H a w) {fn : Func} {Q : DV → Prop} (h : RetP Γ E H fn.results.toList Q) : ∃ v r, (results fn a.tmps).run P w = .ok v w ∧ DVR w M0 r v ∧ Q r := by
  unfold RetP at h
  have run : ∀ us : List Value, (fn.results.toList.mapM (fun v => match v with | .tmp t => pure (a.tmps.getD t undef) | .cell p t => do loadVar t (← asAddr (a.tmps.getD p undef)) : ResultVar → Sem Value)).run P w = .ok us w →
      (results fn a.tmps).run P w = .ok (if h : us.toArray.size = 1 then us.toArray[0] else .tuple us.toArray) w := fun us hus => by
    unfold results
    simp only [Array.mapM_eq_mapM_toList, Sem.run_bind, Sem.run_map]
    erw [hus]
    rfl
  split at h
  · rename_i x hx
    obtain ⟨us, h1, h2⟩ := resL_ok hΓ R hx
    match us, h2 with
    | [u], h2 => exact ⟨u, .c x, run _ h1, h2.1, h⟩
  · rename_i l hne hl
    obtain ⟨us, h1, h2⟩ := resL_ok hΓ R hl
    refine ⟨.tuple us.toArray, .tup l, ?_, ⟨us, rfl, h2⟩, h⟩
    rw [run _ h1]
    have : us.toArray.size ≠ 1 := fun e => by
      have hlen := h2.length
      simp at e
      rw [e] at hlen
      obtain ⟨y, rfl⟩ := List.length_eq_one_iff.1 hlen.symm
      exact hne y rfl
    rw [dif_neg this]
  · exact h.elim

theorem look_argE : ∀ {l : List DC} {i t : Nat} {x : SV}, look (argE i l) t = some x → i ≤ t ∧ ∃ c, l[t - i]? = some c ∧ x = .c (embC c)
  | [], i, t, x, h => by simp [argE, look] at h
  | a :: l, i, t, x, h => by
    simp only [argE, look_cons] at h
    split at h
    · rename_i e
      injection h with h
      subst e h
      exact ⟨Nat.le_refl _, a, by simp, rfl⟩
    · obtain ⟨h1, c, h2, h3⟩ := look_argE h
      refine ⟨by omega, c, ?_, h3⟩
      rw [show t - i = (t - (i + 1)) + 1 by omega]
      simpa using h2

/-- data that some value may stand for -/
inductive WD : D → Prop where
  | v {x : Value} (h : wfV x) : WD (.v x)
  | list {k : Nat} {l : List (List D)} (h1 : l.length ≤ 9223372036854775807) (h2 : ∀ e ∈ l, e.length = k) (h3 : ∀ e ∈ l, ∀ d ∈ e, WD d) : WD (.list k l)
theorem WD_v {x : Value} : WD (.v x) ↔ wfV x := ⟨fun h => (by cases h; assumption), .v⟩
theorem WD_list {k : Nat} {l : List (List D)} : WD (.list k l) ↔ l.length ≤ 9223372036854775807 ∧ (∀ e ∈ l, e.length = k) ∧ ∀ e ∈ l, ∀ d ∈ e, WD d :=
  ⟨fun h => (by cases h with | list h1 h2 h3 => exact ⟨h1, h2, h3⟩), fun h => .list h.1 h.2.1 h.2.2⟩
theorem Rep.wd {M : Nat → Prop} {d : D} {v : Value} (h : Rep w M d v) : WD d := by
  induction h with
  | v x h hw => exact .v hw
  | nil k => exact .list (by simp) (by simp) (by simp)
  | list vs hc hm hM hb hk hv hr ih =>
    refine .list (by omega) hk fun e he d hd => ?_
    obtain ⟨i, hi, rfl⟩ := List.getElem_of_mem he
    obtain ⟨j, hj, rfl⟩ := List.getElem_of_mem hd
    exact ih i j hi hj
def WDs : List D → Prop
  | [] => True
  | d :: l => WD d ∧ WDs l
def WDC : DC → Prop
  | .one d => WD d
  | .agg l => WDs l
def WDCs : List DC → Prop
  | [] => True
  | a :: l => WDC a ∧ WDCs l
def WDV : DV → Prop
  | .c x => WDC x
  | .tup l => WDCs l
theorem DsR.wd {M : Nat → Prop} : ∀ {l : List D} {vs : List Value}, DsR w M l vs → WDs l
  | [], [], _ => trivial
  | d :: l, v :: vs, h => ⟨Rep.wd h.1, DsR.wd h.2⟩
  | [], _ :: _, h => h.elim
  | _ :: _, [], h => h.elim
theorem DCR.wd {M : Nat → Prop} : ∀ {c : DC} {v : Value}, DCR w M c v → WDC c
  | .one d, v, h => Rep.wd h
  | .agg l, v, ⟨vs, _, h⟩ => h.wd
theorem DCsR.wd {M : Nat → Prop} : ∀ {l : List DC} {vs : List Value}, DCsR w M l vs → WDCs l
  | [], [], _ => trivial
  | d :: l, v :: vs, h => ⟨DCR.wd h.1, DCsR.wd h.2⟩
  | [], _ :: _, h => h.elim
  | _ :: _, [], h => h.elim

/-- **a whole function** -/
theorem fn_ok (hm : P.follows .mixedOrders = true) (hΓ : ∀ t td, look Γ t = some td → TyOK P t td) {f : Nat} {fn : Func} {c : Code} (hf : P.funcs[f]? = some fn) (hb : fn.body = some c) (hcall : ∀ (vs : Array Value) (w : World), (callFunc f vs).run P w = .ok (.enter f vs) w)
    {args : List DC} (hn : Nat.ble args.length fn.ntmps = true) {r : DV} (h : WDCs args → code P Γ fn.ntmps c (argE 0 args) [] (FinP Γ fn.results.toList (fun d => d = r))) : FnOK P f args r := by
  refine fun w M vs hM hvs => .inl ⟨f, hcall _ _, calls_of_wp hf hb ?_⟩
  have hlen := hvs.length
  have hn : args.length ≤ fn.ntmps := by simpa using hn
  have R : Rel M w fn.ntmps (fun _ => 0) (argE 0 args) [] { tmps := vs.toArray ++ Array.replicate (fn.ntmps - vs.toArray.size) undef, defers := [] } w := by
    have hMof : ∀ b, Mof M (fun _ => 0) [] b → M b := by
      rintro b (h | ⟨n, h, _⟩)
      · exact h
      · simp [look] at h
    refine ⟨.refl _ _, hM, fun t x hx => ?_, fun n b h => by simp [look] at h, fun n b h => by simp [look] at h, fun n b h => by simp [look] at h, fun n n' h => by simp [look] at h, rfl, by simp; omega, fun t x hx n hn => ?_, fun n b h => by simp [look] at h⟩
    · obtain ⟨_, c, hc, rfl⟩ := look_argE hx
      rw [Nat.sub_zero] at hc
      obtain ⟨u, hu, hd⟩ := hvs.get t c hc
      have ht : t < vs.length := (List.getElem?_eq_some_iff.1 hu).1
      have hg : (vs.toArray ++ Array.replicate (fn.ntmps - vs.toArray.size) undef).getD t undef = u := by
        rw [Array.getD_eq_getD_getElem?, Array.getElem?_append_left (by simpa using ht)]
        simp [hu]
      rw [hg]
      exact DCR.emb.1 (hd.mono (.refl _ _) fun b _ hb => hMof b hb)
    · obtain ⟨_, c, hc, rfl⟩ := look_argE hx
      simp only [SV.names, names_embC] at hn
      cases hn
  refine code_sound hm hΓ c _ _ _ (h hvs.wd) _ _ w _ R fun ex E' H' ρ' a' w' hk R' => ?_
  have fin : RetP Γ E' H' fn.results.toList (fun d => d = r) → a'.defers = [] ∧ ∃ v, (results fn a'.tmps).run P w' = .ok v w' ∧ (∃ u, Ending.returned v = .returned u ∧ DVR w' M r u ∧ Below w.heap.size w w') := fun hr => by
    obtain ⟨v, d, h1, h2, h3⟩ := ret_ok hΓ R' hr
    subst h3
    exact ⟨R'.defers, v, h1, v, rfl, h2, R'.below⟩
  cases ex <;> first | exact fin hk | exact hk.elim

/-! ### loops -/
theorem wp_loopG {c : Code} {Q : Exit → Act → World → Prop} (I : Nat → Act → World → Prop) {n : Nat} (h₀ : I n a w)
    (round : ∀ n a w, I n a w → c.wp P (Exit.then (fun a' w' => ∃ m, m < n ∧ I m a' w') Q) a w) : (Code.loop c).wp P Q a w := by
  intro b k cs
  have key : ∀ n a w, I n a w → ∃ e a' w', Q e a' w' ∧ Arrives P (lone (b.at a (.code c :: .inLoop c :: k)) cs w) b k cs e a' w' := by
    intro n
    induction n using Nat.strongRecOn with
    | _ n ih =>
      intro a w hI
      obtain ⟨e, a₁, w₁, hq, harr⟩ := round n a w hI b (.inLoop c :: k) cs
      cases e with
      | normal =>
        obtain ⟨m, hlt, hI₁⟩ := hq
        obtain ⟨e₂, a₂, w₂, hq₂, harr₂⟩ := ih m hlt a₁ w₁ hI₁
        exact ⟨e₂, a₂, w₂, hq₂, .of_steps (Steps.trans harr (.one step_inLoop)) harr₂⟩
      | exit id => exact ⟨_, a₁, w₁, hq, .pass (x := .inLoop c) rfl (fun _ _ => .inl (by simp)) harr⟩
      | goto l => exact ⟨_, a₁, w₁, hq, .pass (x := .inLoop c) rfl (fun _ _ => .inl (by simp)) harr⟩
      | ret => exact ⟨_, a₁, w₁, hq, .pass (x := .inLoop c) rfl (fun _ _ => .inl (by simp)) harr⟩
      | panic ch => exact ⟨_, a₁, w₁, hq, .pass (x := .inLoop c) rfl (fun _ _ => .inl (by simp)) harr⟩
      | outgrown => exact ⟨_, a₁, w₁, hq, .pass (x := .inLoop c) rfl (fun _ _ => .inl (by simp)) harr⟩
  obtain ⟨e, a', w', hq, harr⟩ := key _ a w h₀
  exact ⟨e, a', w', hq, .of_steps (.one step_loop) harr⟩

def entE (E : Env) : Env → Prop
  | [] => True
  | (t, x) :: r => look E t = some x ∧ entE E r
def entH (H : Hp) : Hp → Prop
  | [] => True
  | (n, b) :: r => look H n = some b ∧ entH H r
def keysB (H : Hp) (l : List Nat) : Bool := l.all fun n => (look H n).isSome
def clB (E : Env) (H : Hp) : Bool := (E.all fun p => keysB H p.2.names) && (H.all fun p => keysB H p.2.names)
structure Ent (E : Env) (H : Hp) (E' : Env) (H' : Hp) : Prop where
  env : entE E E'
  hp : entH H H'
  cl : clB E' H' = true
theorem look_mem {α : Type} : ∀ {l : List (Nat × α)} {t : Nat} {x : α}, look l t = some x → (t, x) ∈ l
  | [], t, x, h => by simp [look] at h
  | (k, y) :: r, t, x, h => by
    rw [look_cons] at h
    split at h
    · rename_i e; injection h with h; subst e h; exact List.mem_cons_self ..
    · exact List.mem_cons_of_mem _ (look_mem h)
theorem entE_look {E : Env} : ∀ {E' : Env}, entE E E' → ∀ t x, look E' t = some x → look E t = some x
  | [], _, t, x, h => by simp [look] at h
  | (k, y) :: r, he, t, x, h => by
    rw [look_cons] at h
    split at h
    · rename_i e; injection h with h; subst e h; exact he.1
    · exact entE_look he.2 t x h
theorem entH_look {H : Hp} : ∀ {H' : Hp}, entH H H' → ∀ t x, look H' t = some x → look H t = some x
  | [], _, t, x, h => by simp [look] at h
  | (k, y) :: r, he, t, x, h => by
    rw [look_cons] at h
    split at h
    · rename_i e; injection h with h; subst e h; exact he.1
    · exact entH_look he.2 t x h
theorem Rel.ent {E' : Env} {H' : Hp} (R : Rel M0 w0 sz ρ E H a w) (h : Ent E H E' H') : Rel M0 w0 sz ρ E' H' a w := by
  have hc := h.cl
  simp only [clB, Bool.and_eq_true, List.all_eq_true, keysB] at hc
  exact R.less (entE_look h.env) (entH_look h.hp) (fun t x hx n hn => hc.1 (t, x) (look_mem hx) n hn) (fun n b hb m hm => hc.2 (n, b) (look_mem hb) m hm)

theorem loop_rule (hm : P.follows .mixedOrders = true) (hΓ : ∀ t td, look Γ t = some td → TyOK P t td) {σ : Type} (st : σ → Env × Hp) (μ : σ → Nat) {body : Code} {k : Exit → Env → Hp → Prop} (s0 : σ) (h0 : Ent E H (st s0).1 (st s0).2)
    (hr : ∀ s, code P Γ sz body (st s).1 (st s).2 (fun ex E' H' => match ex with | .normal => ∃ s', Ent E' H' (st s').1 (st s').2 ∧ μ s' < μ s | ex => k ex E' H')) : LoopP P sz body E H k := by
  refine ⟨fun M0 w0 ρ a w Q R hQ => ?_⟩
  refine wp_loopG (fun n a w => ∃ s ρ, μ s = n ∧ Rel M0 w0 sz ρ (st s).1 (st s).2 a w) (n := μ s0) ⟨s0, ρ, rfl, R.ent h0⟩ ?_
  rintro n a w ⟨s, ρ, rfl, R⟩
  refine code_sound hm hΓ body _ _ _ (hr s) ρ a w _ R fun ex E' H' ρ' a' w' hk R' => ?_
  cases ex with
  | normal =>
    obtain ⟨s', h1, h2⟩ := hk
    exact ⟨_, h2, s', ρ', rfl, R'.ent h1⟩
  | _ => exact hQ _ _ _ _ _ _ hk R'

/-! ### contracts that were proved otherwise, and back -/
def dvs? : List D → Option (List Value)
  | [] => some []
  | .v x :: l => match x.oneCell', dvs? l with | true, some r => some (x :: r) | _, _ => none
  | _ :: _ => none
def dc? : DC → Option Value
  | .one (.v x) => match x.oneCell' with | true => some x | false => none
  | .agg l => match dvs? l with | some r => some (.agg r.toArray) | none => none
  | _ => none
def dcs? : List DC → Option (List Value)
  | [] => some []
  | a :: l => match dc? a, dcs? l with | some x, some r => some (x :: r) | _, _ => none
def dv? : DV → Option Value
  | .c x => dc? x
  | .tup l => match dcs? l with | some r => some (.tuple r.toArray) | none => none
theorem dvs_rel {M : Nat → Prop} : ∀ {l : List D} {vs us : List Value}, dvs? l = some vs → (DsR w M l us ↔ us = vs ∧ WDs l)
  | [], vs, us, h => by
    simp only [dvs?, Option.some.injEq] at h; subst h
    cases us <;> simp [DsR, WDs]
  | .v x :: l, vs, us, h => by
    simp only [dvs?] at h
    split at h
    · rename_i r h1 h2
      injection h with h
      subst h
      cases us with
      | nil => simp [DsR]
      | cons u us =>
        simp only [DsR, dvs_rel h2, List.cons.injEq, WDs]
        constructor
        · rintro ⟨h3, h4, h5⟩; have := Rep.wd h3; cases h3; exact ⟨⟨rfl, h4⟩, this, h5⟩
        · rintro ⟨⟨rfl, h4⟩, h5, h6⟩; exact ⟨.v _ h1 (WD_v.1 h5), h4, h6⟩
    · cases h
  | .list _ _ :: l, vs, us, h => by simp [dvs?] at h
theorem dc_rel {M : Nat → Prop} {c : DC} {v u : Value} (h : dc? c = some v) : DCR w M c u ↔ u = v ∧ WDC c := by
  unfold dc? at h
  split at h
  · split at h
    · rename_i h1
      injection h with h
      subst h
      exact ⟨fun h => (by have := Rep.wd h; cases (show Rep w M _ _ from h); exact ⟨rfl, this⟩), fun ⟨h, h2⟩ => (by subst h; exact Rep.v _ h1 (WD_v.1 h2))⟩
    · cases h
  · split at h
    · rename_i r hr
      injection h with h
      subst h
      simp only [DCR, dvs_rel hr, WDC]
      exact ⟨fun ⟨vs, e, h⟩ => ⟨(by rw [e, h.1]), h.2⟩, fun h => ⟨_, h.1, rfl, h.2⟩⟩
    · cases h
  · cases h
theorem dcs_rel {M : Nat → Prop} : ∀ {l : List DC} {vs us : List Value}, dcs? l = some vs → (DCsR w M l us ↔ us = vs ∧ WDCs l)
  | [], vs, us, h => by
    simp only [dcs?, Option.some.injEq] at h; subst h
    cases us <;> simp [DCsR, WDCs]
  | a :: l, vs, us, h => by
    simp only [dcs?] at h
    split at h
    · rename_i x r h1 h2
      injection h with h
      subst h
      cases us with
      | nil => simp [DCsR]
      | cons u us =>
        simp only [DCsR, dc_rel h1, dcs_rel h2, List.cons.injEq, WDCs]
        exact ⟨fun ⟨⟨a, b⟩, c, d⟩ => ⟨⟨a, c⟩, b, d⟩, fun ⟨⟨a, c⟩, b, d⟩ => ⟨⟨a, b⟩, c, d⟩⟩
    · cases h
theorem dv_rel {M : Nat → Prop} {c : DV} {v u : Value} (h : dv? c = some v) : DVR w M c u ↔ u = v ∧ WDV c := by
  cases c with
  | c x => exact dc_rel h
  | tup l =>
    simp only [dv?] at h
    split at h
    · rename_i r hr
      injection h with h
      subst h
      simp only [DVR, dcs_rel hr, WDV]
      exact ⟨fun ⟨vs, e, h⟩ => ⟨(by rw [e, h.1]), h.2⟩, fun h => ⟨_, h.1, rfl, h.2⟩⟩
    · cases h

theorem fn_of_calls {f : Nat} {args : List DC} {vals : List Value} {r : DV} {v : Value} (hcall : ∀ (vs : Array Value) (w : World), (callFunc f vs).run P w = .ok (.enter f vs) w) (ha : dcs? args = some vals) (hr : dv? r = some v)
    (hw : WDCs args → WDV r) (h : WDCs args → ∀ w, Calls P f vals.toArray w fun e w' => e = .returned v ∧ Below w.heap.size w w') : FnOK P f args r := by
  refine fun w M vs hM hvs => .inl ⟨f, hcall _ _, ?_⟩
  obtain ⟨h1, h2⟩ := (dcs_rel ha).1 hvs
  subst h1
  exact (h h2 w).mono fun e w' ⟨he, hb⟩ => ⟨v, he, (dv_rel hr).2 ⟨rfl, hw h2⟩, hb⟩
theorem calls_of_fn {f : Nat} {args : List DC} {vals : List Value} {r : DV} {v : Value} (hcall : ∀ (vs : Array Value) (w : World), (callFunc f vs).run P w = .ok (.enter f vs) w) (ha : dcs? args = some vals) (hr : dv? r = some v) (hwd : WDCs args) (h : FnOK P f args r) (w : World) :
    Calls P f vals.toArray w fun e w' => e = .returned v ∧ Below w.heap.size w w' := by
  rcases h w (fun _ => False) vals (fun _ h => h.elim) ((dcs_rel ha).2 ⟨rfl, hwd⟩) with ⟨g, hg, hc⟩ | ⟨u, hg, _⟩
  · have : g = f := by
      rw [hcall] at hg
      injection hg with h1
      injection h1 with h1
      exact h1.symm
    subst this
    refine hc.mono ?_
    rintro e w' ⟨u, rfl, hu, hb⟩
    rw [dv_rel hr] at hu
    rw [hu.1]
    exact ⟨rfl, hb⟩
  · rw [hcall] at hg
    injection hg with h1
    cases h1
/-- a function of the machine's own -/
theorem fn_of_run {f : Nat} {args : List DC} {vals : List Value} {r : DV} {v : Value} (ha : dcs? args = some vals) (hr : dv? r = some v) (hw : WDCs args → WDV r)
    (h : WDCs args → ∀ w, (callFunc f vals.toArray).run P w = .ok (.value v) w) : FnOK P f args r := by
  refine fun w M vs hM hvs => .inr ⟨v, ?_⟩
  obtain ⟨h1, h2⟩ := (dcs_rel ha).1 hvs
  subst h1
  exact ⟨h h2 w, (dv_rel hr).2 ⟨rfl, hw h2⟩⟩
end
end Sx
end Go.Proofs.Ytffamgiknfphaaa
