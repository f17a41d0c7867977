import Derived.Test.YtgdpogdgpfjnoaaGreatDoorGLTRepliesAH
set_option linter.all false
namespace Go.Proofs.YtgdpogdgpfjnoaaGreatDoor
open Go Go.RowKit
namespace Sx
def argE : Nat → List DC → Env
  | _, [] => []
  | i, a :: l => (i, .c (embC a)) :: argE (i + 1) l
def retA (H : Hp) : At → Option D
  | .d x => match x with
    | .nil k => some (.list k [])
    | .emp k => some (.list k [])
    | .v y => some (.v y)
    | .list k y => some (.list k y)
    | .ref y => some (.ref y)
    | .clo f y => some (.clo f y)
  | .osl n v => match look H n with
    | some (.row k l v') => match Nat.beq v v' with | true => some (.list k l) | false => none
    | _ => none
  | _ => none
def retAs (H : Hp) : List At → Option (List D)
  | [] => some []
  | a :: l => match retA H a, retAs H l with | some x, some r => some (x :: r) | _, _ => none
def dcOf (H : Hp) : SC → Option DC
  | .at a => match retA H a with | some x => some (.one x) | none => none
  | .agg l => match retAs H l with | some r => some (.agg r) | none => none
def resR (Γ : Cfg) (E : Env) (H : Hp) : ResultVar → Option SC
  | .tmp t => match look E t with | some (.c x) => some x | _ => none
  | .cell t ty => match look E t, look Γ.ty ty with
    | some (.c (.at (.ptr n off))), some td => match look H n with
      | some (.own cs) => partA td.agg cs off td.size
      | _ => none
    | _, _ => none
def resC (Γ : Cfg) (E : Env) (H : Hp) (v : ResultVar) : Option DC := match resR Γ E H v with | some x => dcOf H x | none => none
def nmA : List At → Nat → Nat → Option (Nat × List At)
  | .d (.nil k) :: l, 0, n => some (k, .osl n 0 :: l)
  | a :: l, j + 1, n => match nmA l j n with | some (k, l') => some (k, a :: l') | none => none
  | _, _, _ => none
def resL (Γ : Cfg) (E : Env) (H : Hp) : List ResultVar → Option (List DC)
  | [] => some []
  | v :: l => match resC Γ E H v, resL Γ E H l with | some x, some r => some (x :: r) | _, _ => none
def RetP (Γ : Cfg) (E : Env) (H : Hp) (rs : List ResultVar) (Q : DV → Prop) : Prop :=
  match resL Γ E H rs with
  | some [x] => Q (.c x)
  | some l => Q (.tup l)
  | none => False
def FinP (Γ : Cfg) (rs : List ResultVar) (Q : DV → Prop) (ex : Exit) (E : Env) (H : Hp) : Prop :=
  match ex with
  | .normal => RetP Γ E H rs Q
  | .ret => RetP Γ E H rs Q
  | _ => False
section
variable {P : Program} {C M0 : Nat → Prop} {w0 w : World} {sz : Nat} {ρ : Nat → Nm} {E : Env} {H : Hp} {a : Act} {Γ : Cfg}
theorem retA_rel (R : Rel C M0 w0 sz ρ E H a w) {s : At} {d : D} {v : Value} (h : retA H s = some d) (k : AtR ρ w (Mof M0 ρ H) s v) : Rep w M0 d v := by
  unfold retA at h
  split at h
  · rename_i y
    have h1 : Rep w M0 (normD y) v := (Rep.norm k).mono (.refl _ w) fun b _ hb => .inl hb
    split at h <;> (injection h with h; subst h; exact h1)
  · rename_i n ver
    split at h
    · rename_i kk l v' hb
      split at h
      · rename_i hv
        injection h with h; subst h
        have hv : ver = v' := by simpa using hv
        subst hv
        obtain ⟨e1, e2, e3, e4⟩ := k
        have hB := R.blk n _ hb
        have hreal : 0 < (ρ n).cap → (Blk.row kk l ver).real (ρ n) = true := fun h => by simpa [Blk.real] using h
        refine row_data hB (e4 hB.1.2.2.2.1.symm) (fun b _ h => .inl h) (fun h hm => ?_) (fun h => R.hi n _ hb (hreal h))
        have h1 := R.out _ hm
        rcases R.lo n _ hb (hreal h) with h2 | h2
        · omega
        · rw [e1] at h2; cases h2.2
      · cases h
    · cases h
  · cases h
theorem retAs_rel (R : Rel C M0 w0 sz ρ E H a w) : ∀ {l : List At} {r : List D} {us : List Value}, retAs H l = some r → AtsR ρ w (Mof M0 ρ H) l us → DsR w M0 r us
  | [], r, [], h, k => by simp [retAs] at h; subst h; trivial
  | s :: l, r, u :: us, h, k => by
    simp only [retAs] at h
    split at h
    · rename_i x r' hx hr
      injection h with h; subst h
      exact ⟨retA_rel R hx k.1, retAs_rel R hr k.2⟩
    · cases h
  | [], _, _ :: _, _, k => k.elim
  | _ :: _, _, [], _, k => k.elim
theorem dcOf_rel (R : Rel C M0 w0 sz ρ E H a w) {s : SC} {c : DC} {v : Value} (h : dcOf H s = some c) (k : SCR ρ w (Mof M0 ρ H) s v) : DCR w M0 c v := by
  unfold dcOf at h
  split at h
  · split at h
    · rename_i x hx
      injection h with h; subst h
      exact retA_rel R hx k
    · cases h
  · split at h
    · rename_i r hr
      injection h with h; subst h
      obtain ⟨us, rfl, k⟩ := k
      exact ⟨us, rfl, retAs_rel R hr k⟩
    · cases h
def zv (m : Nm) : Nm := { m with ver := 0 }
theorem DCR.mono {w' : World} {M M' : Nat → Prop} (hw : Holds M w w') (hM : ∀ b, b < w.heap.size → M' b → M b) : ∀ {a : DC} {v : Value}, DCR w M a v → DCR w' M' a v
  | .one x, v, h => Rep.mono h hw hM
  | .agg l, v, ⟨vs, e, h⟩ => ⟨vs, e, h.mono hw hM⟩
theorem DCsR.mono {w' : World} {M M' : Nat → Prop} (hw : Holds M w w') (hM : ∀ b, b < w.heap.size → M' b → M b) : ∀ {a : List DC} {v : List Value}, DCsR w M a v → DCsR w' M' a v
  | [], [], _ => trivial
  | a :: l, v :: vs, h => ⟨h.1.mono hw hM, DCsR.mono hw hM h.2⟩
  | [], _ :: _, h => h.elim
  | _ :: _, [], h => h.elim
theorem DVR.mono {w' : World} {M M' : Nat → Prop} (hw : Holds M w w') (hM : ∀ b, b < w.heap.size → M' b → M b) : ∀ {a : DV} {v : Value}, DVR w M a v → DVR w' M' a v
  | .c x, v, h => DCR.mono hw hM h
  | .tup l, v, ⟨vs, e, h⟩ => ⟨vs, e, h.mono hw hM⟩
theorem resR_ok (hΓ : ΓOK P Γ) (R : Rel C M0 w0 sz ρ E H a w) {v : ResultVar} {c : SC} (h : resR Γ E H v = some c) :
    ∃ u, ((match v with | .tmp t => pure (a.tmps.getD t undef) | .cell p t => do loadVar t (← asAddr (a.tmps.getD p undef))) : Sem Value).run P w = .ok u w ∧ SCR ρ w (Mof M0 ρ H) c u := by
  unfold resR at h
  split at h
  · rename_i t
    split at h
    · rename_i x hx
      injection h with h; subst h
      exact ⟨_, rfl, R.env t _ hx⟩
    · cases h
  · rename_i t ty
    split at h
    · rename_i n off td hx ht
      split at h
      · rename_i cs hb
        have T := hΓ _ _ ht
        have hv : a.tmps.getD t undef = .pointer (some ⟨(ρ n).b, off, none⟩) := (R.env t _ hx).2
        obtain ⟨us, hc, hR⟩ := (R.blk n _ hb).2 rfl
        have hR : AtsR ρ w (Mof M0 ρ H) cs us := hR
        simp only [hv]
        rcases partA_some h with ⟨ha, hl, rfl⟩ | ⟨ha, u, hu, rfl⟩
        · refine ⟨.agg ((us.drop off).take td.size).toArray, ?_, ⟨_, rfl, (hR.drop off).take _⟩⟩
          have hlen : ((us.drop off).take td.size).length = td.size := by have := hR.length; simp; omega
          have hrun : (loadCells ⟨(ρ n).b, off, none⟩ td.size).run P w = .ok ((us.drop off).take td.size).toArray w := by
            have := run_loadCells_list (P := P) w ⟨(ρ n).b, off, none⟩ ((us.drop off).take td.size) (fun j v hj => by
              rw [add_plain, cell_of hc]
              rw [List.getElem?_take] at hj
              split at hj
              · rw [List.getElem?_drop] at hj; exact hj
              · cases hj)
            rwa [hlen] at this
          simp [asAddr, loadVar, T.2.1, ha, T.1, hrun]
        · obtain ⟨v, hv1, hv2⟩ := hR.get off u hu
          refine ⟨v, ?_, hv2⟩
          simp [asAddr, loadVar, T.2.1, ha, run_load, cell_of hc, hv1]
      · cases h
    · cases h
theorem resC_ok (hΓ : ΓOK P Γ) (R : Rel C M0 w0 sz ρ E H a w) {v : ResultVar} {c : DC} (h : resC Γ E H v = some c) :
    ∃ u, ((match v with | .tmp t => pure (a.tmps.getD t undef) | .cell p t => do loadVar t (← asAddr (a.tmps.getD p undef))) : Sem Value).run P w = .ok u w ∧ DCR w M0 c u := by
  unfold resC at h
  split at h
  · rename_i x hx
    obtain ⟨u, h1, h2⟩ := resR_ok hΓ R hx
    exact ⟨u, h1, dcOf_rel R h h2⟩
  · cases h
theorem nmA_rel {ρ : Nat → Nm} {M : Nat → Prop} : ∀ {l l' : List At} {j n k : Nat} {vs : List Value}, nmA l j n = some (k, l') → ρ n = ⟨false, 0, 0, 0, 0⟩ → AtsR ρ w M l vs → AtsR ρ w M l' vs ∧ ∀ m ∈ namesA l', m ∈ namesA l ∨ m = n
  | .d (.nil k0) :: l, l', 0, n, k, v :: vs, h, hn, hR => by
    simp only [nmA, Option.some.injEq, Prod.mk.injEq] at h
    obtain ⟨rfl, rfl⟩ := h
    refine ⟨⟨?_, hR.2⟩, fun m hm => ?_⟩
    · have h1 : Rep w M (.nil k0) v := hR.1
      cases h1
      refine ⟨by rw [hn], rfl, by rw [hn]; exact Nat.le_refl _, fun _ => ⟨none, by rw [hn], fun h => by rw [hn] at h; exact absurd h (Nat.lt_irrefl _)⟩⟩
    · simp only [namesA, List.flatMap_cons, At.names, List.nil_append, List.mem_append, List.mem_singleton, List.mem_flatMap] at hm ⊢
      rcases hm with hm | hm
      · exact .inr hm
      · exact .inl hm
  | a :: l, l', j + 1, n, k, v :: vs, h, hn, hR => by
    simp only [nmA] at h
    split at h
    · rename_i k1 l1 h1
      simp only [Option.some.injEq, Prod.mk.injEq] at h
      obtain ⟨rfl, rfl⟩ := h
      obtain ⟨h2, h3⟩ := nmA_rel h1 hn hR.2
      refine ⟨⟨hR.1, h2⟩, fun m hm => ?_⟩
      simp only [namesA, List.flatMap_cons, List.mem_append] at hm ⊢
      rcases hm with hm | hm
      · exact .inl (.inl hm)
      · rcases h3 m hm with h | h
        · exact .inl (.inr h)
        · exact .inr h
    · cases h
  | [], _, _, _, _, _ :: _, _, _, hR => hR.elim
  | _ :: _, _, _, _, _, [], _, _, hR => hR.elim
  | [], _, 0, _, _, [], h, _, _ => by simp [nmA] at h
  | [], _, _ + 1, _, _, [], h, _, _ => by simp [nmA] at h
  | .d (.v _) :: _, _, 0, _, _, _ :: _, h, _, _ => by simp [nmA] at h
  | .d (.emp _) :: _, _, 0, _, _, _ :: _, h, _, _ => by simp [nmA] at h
  | .d (.list _ _) :: _, _, 0, _, _, _ :: _, h, _, _ => by simp [nmA] at h
  | .d (.ref _) :: _, _, 0, _, _, _ :: _, h, _, _ => by simp [nmA] at h
  | .d (.clo _ _) :: _, _, 0, _, _, _ :: _, h, _, _ => by simp [nmA] at h
  | .ptr _ _ :: _, _, 0, _, _, _ :: _, h, _, _ => by simp [nmA] at h
  | .osl _ _ :: _, _, 0, _, _, _ :: _, h, _, _ => by simp [nmA] at h
  | .rp _ _ _ _ _ :: _, _, 0, _, _, _ :: _, h, _, _ => by simp [nmA] at h
  | .ep _ _ _ _ :: _, _, 0, _, _, _ :: _, h, _, _ => by simp [nmA] at h
  | .fn _ _ :: _, _, 0, _, _, _ :: _, h, _, _ => by simp [nmA] at h
theorem Rel.nameRow (R : Rel C M0 w0 sz ρ E H a w) {n k : Nat} (hf : look H n = none) (hlt : n < sz ∨ n < 1000 ∨ ∀ b, ¬ Pin C w0.heap.size n b) : Rel C M0 w0 sz (upd ρ n ⟨false, 0, 0, 0, 0⟩) E ((n, .row k [] 0) :: H) a w :=
  R.fresh (b := .row k [] 0) (m := ⟨false, 0, 0, 0, 0⟩) hf hlt rfl rfl rfl (Nat.le_refl _) (.inr (Nat.le_refl _)) (fun _ _ => rfl) (fun h => by simp [Blk.real] at h)
    (fun _ _ _ => ⟨⟨by simp, rfl, fun _ => rfl, rfl, rfl⟩, fun h => by simp [Blk.real] at h⟩) (by simp [Blk.names])
theorem resL_ok (hΓ : ΓOK P Γ) (R : Rel C M0 w0 sz ρ E H a w) : ∀ {l : List ResultVar} {cs : List DC}, resL Γ E H l = some cs →
    ∃ us : List Value, (l.mapM (fun v => match v with | .tmp t => pure (a.tmps.getD t undef) | .cell p t => do loadVar t (← asAddr (a.tmps.getD p undef)) : ResultVar → Sem Value)).run P w = .ok us w ∧ DCsR w M0 cs us
  | [], cs, h => by simp [resL] at h; subst h; exact ⟨[], rfl, trivial⟩
  | v :: l, cs, h => by
    simp only [resL] at h
    split at h
    · rename_i x r hx hr
      injection h with h
      subst h
      obtain ⟨u, h1, h2⟩ := resC_ok hΓ R hx
      obtain ⟨us, h3, h4⟩ := resL_ok hΓ R hr
      refine ⟨u :: us, ?_, h2, h4⟩
      simp only [List.mapM_cons, Sem.run_bind, h1, Result.andThen_ok, h3, Sem.run_pure]
    · cases h
theorem DCsR.length : ∀ {a : List DC} {v : List Value} {M : Nat → Prop}, DCsR w M a v → v.length = a.length
  | [], [], _, _ => rfl
  | a :: l, v :: vs, M, h => by simp [DCsR.length h.2]
  | [], _ :: _, _, h => h.elim
  | _ :: _, [], _, h => h.elim
theorem DCsR.get : ∀ {a : List DC} {v : List Value} {M : Nat → Prop}, DCsR w M a v → ∀ (i : Nat) (x : DC), a[i]? = some x → ∃ u, v[i]? = some u ∧ DCR w M x u
  | [], [], _, _, i, x, h => by simp at h
  | a :: l, v :: vs, _, h, 0, x, hx => by simp at hx; subst hx; exact ⟨v, rfl, h.1⟩
  | a :: l, v :: vs, _, h, i + 1, x, hx => by simpa using DCsR.get h.2 i x (by simpa using hx)
  | [], _ :: _, _, h, _, _, _ => h.elim
  | _ :: _, [], _, h, _, _, _ => h.elim
theorem ret_ok (hΓ : ΓOK P Γ) (R : Rel C M0 w0 sz ρ E H a w) {fn : Func} {Q : DV → Prop} (h : RetP Γ E H fn.results.toList Q) : ∃ v r, (results fn a.tmps).run P w = .ok v w ∧ DVR w M0 r v ∧ Q r := by
  unfold RetP at h
  have run : ∀ us : List Value, (fn.results.toList.mapM (fun v => match v with | .tmp t => pure (a.tmps.getD t undef) | .cell p t => do loadVar t (← asAddr (a.tmps.getD p undef)) : ResultVar → Sem Value)).run P w = .ok us w →
      (results fn a.tmps).run P w = .ok (if h : us.toArray.size = 1 then us.toArray[0] else .tuple us.toArray) w := fun us hus => by
    unfold results
    simp only [Array.mapM_eq_mapM_toList, Sem.run_bind, Sem.run_map]
    erw [hus]
    rfl
  split at h
  · rename_i x hx
    obtain ⟨us, h1, h2⟩ := resL_ok hΓ R hx
    match us, h2 with
    | [u], h2 => exact ⟨u, .c x, run _ h1, h2.1, h⟩
  · rename_i l hne hl
    obtain ⟨us, h1, h2⟩ := resL_ok hΓ R hl
    refine ⟨.tuple us.toArray, .tup l, ?_, ⟨us, rfl, h2⟩, h⟩
    rw [run _ h1]
    have : us.toArray.size ≠ 1 := fun e => by
      have hlen := h2.length
      simp at e
      rw [e] at hlen
      obtain ⟨y, rfl⟩ := List.length_eq_one_iff.1 hlen.symm
      exact hne y rfl
    rw [dif_neg this]
  · exact h.elim
theorem SCsR.length {ρ : Nat → Nm} {M : Nat → Prop} : ∀ {a : List SC} {v : List Value}, SCsR ρ w M a v → v.length = a.length
  | [], [], _ => rfl
  | a :: l, v :: vs, h => by simp [SCsR.length h.2]
  | [], _ :: _, h => h.elim
  | _ :: _, [], h => h.elim
theorem look_argE : ∀ {l : List DC} {i t : Nat} {x : SV}, look (argE i l) t = some x → i ≤ t ∧ ∃ c, l[t - i]? = some c ∧ x = .c (embC c)
  | [], i, t, x, h => by simp [argE, look] at h
  | a :: l, i, t, x, h => by
    simp only [argE, look_cons] at h
    split at h
    · rename_i e
      injection h with h
      subst e h
      exact ⟨Nat.le_refl _, a, by simp, rfl⟩
    · obtain ⟨h1, c, h2, h3⟩ := look_argE h
      refine ⟨by omega, c, ?_, h3⟩
      rw [show t - i = (t - (i + 1)) + 1 by omega]
      simpa using h2
inductive WD : D → Prop where
  | v {x : Value} (h : wfV x) : WD (.v x)
  | nl {k : Nat} : WD (.nil k)
  | em {k : Nat} : WD (.emp k)
  | ref {l : List D} (h : ∀ d ∈ l, WD d) : WD (.ref l)
  | clo {g : Nat} {caps : List (List D)} (h : ∀ c ∈ caps, ∀ d ∈ c, WD d) : WD (.clo g caps)
  | list {k : Nat} {l : List (List D)} (h1 : l.length ≤ 9223372036854775807) (h2 : ∀ e ∈ l, e.length = k) (h3 : ∀ e ∈ l, ∀ d ∈ e, WD d) : WD (.list k l)
theorem WD_v {x : Value} : WD (.v x) ↔ wfV x := ⟨fun h => (by cases h; assumption), .v⟩
theorem WD_list {k : Nat} {l : List (List D)} : WD (.list k l) ↔ l.length ≤ 9223372036854775807 ∧ (∀ e ∈ l, e.length = k) ∧ ∀ e ∈ l, ∀ d ∈ e, WD d :=
  ⟨fun h => (by cases h with | list h1 h2 h3 => exact ⟨h1, h2, h3⟩), fun h => .list h.1 h.2.1 h.2.2⟩
theorem Rep.wd {M : Nat → Prop} {d : D} {v : Value} (h : Rep w M d v) : WD d := by
  induction h with
  | v x h hw => exact .v hw
  | nil k x c hm => exact .list (by simp) (by simp) (by simp)
  | nl k => exact .nl
  | em k x c hm => exact .em
  | ref vs hM hb hv hr ih =>
    refine .ref fun d hd => ?_
    obtain ⟨j, hj, rfl⟩ := List.getElem_of_mem hd
    exact ih j hj
  | clo ps hr ih =>
    refine .clo fun c hc d hd => ?_
    obtain ⟨i, hi, rfl⟩ := List.getElem_of_mem hc
    have := ih i hi
    cases this with
    | ref h => exact h d hd
  | list vs hc hm hM hb hk hv hr ih =>
    refine .list (by omega) hk fun e he d hd => ?_
    obtain ⟨i, hi, rfl⟩ := List.getElem_of_mem he
    obtain ⟨j, hj, rfl⟩ := List.getElem_of_mem hd
    exact ih i j hi hj
def WDs : List D → Prop
  | [] => True
  | d :: l => WD d ∧ WDs l
def WDC : DC → Prop
  | .one d => WD d
  | .agg l => WDs l
def WDCs : List DC → Prop
  | [] => True
  | a :: l => WDC a ∧ WDCs l
def WDV : DV → Prop
  | .c x => WDC x
  | .tup l => WDCs l
theorem DsR.wd {M : Nat → Prop} : ∀ {l : List D} {vs : List Value}, DsR w M l vs → WDs l
  | [], [], _ => trivial
  | d :: l, v :: vs, h => ⟨Rep.wd h.1, DsR.wd h.2⟩
  | [], _ :: _, h => h.elim
  | _ :: _, [], h => h.elim
theorem DCR.wd {M : Nat → Prop} : ∀ {c : DC} {v : Value}, DCR w M c v → WDC c
  | .one d, v, h => Rep.wd h
  | .agg l, v, ⟨vs, _, h⟩ => h.wd
theorem DCsR.wd {M : Nat → Prop} : ∀ {l : List DC} {vs : List Value}, DCsR w M l vs → WDCs l
  | [], [], _ => trivial
  | d :: l, v :: vs, h => ⟨DCR.wd h.1, DCsR.wd h.2⟩
  | [], _ :: _, h => h.elim
  | _ :: _, [], h => h.elim
theorem rel_start {C M : Nat → Prop} {vs : List Value} {args : List DC} {n : Nat} (hnp : ∀ n b, ¬ Pin C w.heap.size n b) (hM : Lo w M) (hvs : DCsR w M args vs) (hn : args.length ≤ n) (hgc : ∀ b, C b → gl ≤ b) :
    Rel C M w n (fun _ => default) (argE 0 args) [] { tmps := vs.toArray ++ Array.replicate (n - vs.toArray.size) undef, defers := [] } w := by
  have hlen := hvs.length
  have hMof : ∀ b, Mof M (fun _ => default) [] b → M b := by
    rintro b (h | ⟨n, x, h, _⟩)
    · exact h
    · simp [look] at h
  refine ⟨.refl _ _ _, ⟨hM.lt, hM.gd, hM.ge, hgc⟩, fun t x hx => ?_, fun n b h => by simp [look] at h, fun n b h => by simp [look] at h, fun n b h => by simp [look] at h, fun n n' b b' h => by simp [look] at h, rfl, by simp; omega, fun n b h => absurd h (hnp n b), fun t x hx n hn => ?_, fun n b h => by simp [look] at h⟩
  · obtain ⟨_, c, hc, rfl⟩ := look_argE hx
    rw [Nat.sub_zero] at hc
    obtain ⟨u, hu, hd⟩ := hvs.get t c hc
    have ht : t < vs.length := (List.getElem?_eq_some_iff.1 hu).1
    have hg : (vs.toArray ++ Array.replicate (n - vs.toArray.size) undef).getD t undef = u := by
      rw [Array.getD_eq_getD_getElem?, Array.getElem?_append_left (by simpa using ht)]
      simp [hu]
    rw [hg]
    exact DCR.emb (hd.mono (.refl _ _) fun b _ hb => hMof b hb)
  · obtain ⟨_, c, hc, rfl⟩ := look_argE hx
    simp only [SV.names, names_embC] at hn
    cases hn
theorem fn_ok (hm : P.follows .mixedOrders = true) (hΓ : ΓOK P Γ) {f : Nat} {fn : Func} {c : Code} (hf : P.funcs[f]? = some fn) (hb : fn.body = some c) (hcall : ∀ (vs : Array Value) (w : World), (callFunc f vs).run P w = .ok (.enter f vs) w)
    {args : List DC} (hn : Nat.ble args.length fn.ntmps = true) {r : DV} (h : WDCs args → code P Γ fn.ntmps c (argE 0 args) [] (FinP Γ fn.results.toList (fun d => d = r))) : FnOK P f args r := by
  refine fun w M vs hM hvs => .inl ⟨f, hcall _ _, calls_of_wp hf hb ?_⟩
  have R := rel_start (C := fun b => b = w.heap.size) (n := fn.ntmps) (fun n b h => by obtain ⟨x, h1, h2⟩ := h.gt; omega) hM hvs (by simpa using hn) (fun b h => by have := gd_size hM.gd; omega)
  refine code_sound (C := fun b => b = w.heap.size) (w0 := w) hm hΓ (fun _ => rfl) c _ _ _ (h hvs.wd) _ _ w _ R fun ex E' H' ρ' a' w' hk R' => ?_
  have fin : RetP Γ E' H' fn.results.toList (fun d => d = r) → a'.defers = [] ∧ ∃ v, (results fn a'.tmps).run P w' = .ok v w' ∧ (∃ u, Ending.returned v = .returned u ∧ DVR w' M r u ∧ Below w.heap.size w w') := fun hr => by
    obtain ⟨v, d, h1, h2, h3⟩ := ret_ok hΓ R' hr
    subst h3
    exact ⟨R'.defers, v, h1, v, rfl, h2, R'.below.below fun k hk e => by omega⟩
  cases ex <;> first | exact fin hk | exact hk.elim
theorem fn_okD (hm : P.follows .mixedOrders = true) (hΓ : ΓOK P Γ) (hd : Γ.dm = true) {f : Nat} {fn : Func} {c : Code} (hf : P.funcs[f]? = some fn) (hb : fn.body = some c) (hcall : ∀ (vs : Array Value) (w : World), (callFunc f vs).run P w = .ok (.enter f vs) w)
    {args : List DC} (hn : Nat.ble args.length fn.ntmps = true) {r : DV} (h : WDCs args → code P Γ fn.ntmps c (argE 0 args) [] (FinP Γ fn.results.toList (fun d => d = r))) : FnD P f args r := by
  refine fun w M vs hM hvs => .inl ⟨f, hcall _ _, calls_of_wp hf hb ?_⟩
  have R := rel_start (C := fun _ => False) (n := fn.ntmps) (fun n b h => h.2) hM hvs (by simpa using hn) (fun b h => h.elim)
  refine code_sound (C := fun _ => False) (w0 := w) hm hΓ (fun h => by rw [hd] at h; cases h) c _ _ _ (h hvs.wd) _ _ w _ R fun ex E' H' ρ' a' w' hk R' => ?_
  have fin : RetP Γ E' H' fn.results.toList (fun d => d = r) → a'.defers = [] ∧ ∃ v, (results fn a'.tmps).run P w' = .ok v w' ∧ (∃ u, Ending.returned v = .returned u ∧ DVR w' M r u ∧ Below w.heap.size w w' ∧ w.drawn ≤ w'.drawn) := fun hr => by
    obtain ⟨v, d, h1, h2, h3⟩ := ret_ok hΓ R' hr
    subst h3
    exact ⟨R'.defers, v, h1, v, rfl, h2, R'.below.below fun k hk e => e, R'.below.drawn.elim False.elim fun h => h⟩
  cases ex <;> first | exact fin hk | exact hk.elim
theorem wp_loopG {c : Code} {Q : Exit → Act → World → Prop} (I : Nat → Act → World → Prop) {n : Nat} (h₀ : I n a w)
    (round : ∀ n a w, I n a w → c.wp P (Exit.then (fun a' w' => ∃ m, m < n ∧ I m a' w') Q) a w) : (Code.loop c).wp P Q a w := by
  intro b k cs
  have key : ∀ n a w, I n a w → ∃ e a' w', Q e a' w' ∧ Arrives P (lone (b.at a (.code c :: .inLoop c :: k)) cs w) b k cs e a' w' := by
    intro n
    induction n using Nat.strongRecOn with
    | _ n ih =>
      intro a w hI
      obtain ⟨e, a₁, w₁, hq, harr⟩ := round n a w hI b (.inLoop c :: k) cs
      cases e with
      | normal =>
        obtain ⟨m, hlt, hI₁⟩ := hq
        obtain ⟨e₂, a₂, w₂, hq₂, harr₂⟩ := ih m hlt a₁ w₁ hI₁
        exact ⟨e₂, a₂, w₂, hq₂, .of_steps (Steps.trans harr (.one step_inLoop)) harr₂⟩
      | exit id => exact ⟨_, a₁, w₁, hq, .pass (x := .inLoop c) rfl (fun _ _ => .inl (by simp)) harr⟩
      | goto l => exact ⟨_, a₁, w₁, hq, .pass (x := .inLoop c) rfl (fun _ _ => .inl (by simp)) harr⟩
      | ret => exact ⟨_, a₁, w₁, hq, .pass (x := .inLoop c) rfl (fun _ _ => .inl (by simp)) harr⟩
      | panic ch => exact ⟨_, a₁, w₁, hq, .pass (x := .inLoop c) rfl (fun _ _ => .inl (by simp)) harr⟩
      | outgrown => exact ⟨_, a₁, w₁, hq, .pass (x := .inLoop c) rfl (fun _ _ => .inl (by simp)) harr⟩
  obtain ⟨e, a', w', hq, harr⟩ := key _ a w h₀
  exact ⟨e, a', w', hq, .of_steps (.one step_loop) harr⟩
def entE (E : Env) : Env → Prop
  | [] => True
  | (t, x) :: r => look E t = some x ∧ entE E r
def entH (H : Hp) : Hp → Prop
  | [] => True
  | (n, b) :: r => look H n = some b ∧ entH H r
def keysB (H : Hp) (l : List Nat) : Bool := l.all fun n => (look H n).isSome
def clB (E : Env) (H : Hp) : Bool := (E.all fun p => keysB H p.2.names) && (H.all fun p => keysB H p.2.names)
structure Ent (E : Env) (H : Hp) (E' : Env) (H' : Hp) : Prop where
  env : entE E E'
  hp : entH H H'
  cl : clB E' H' = true
theorem look_mem {α : Type} : ∀ {l : List (Nat × α)} {t : Nat} {x : α}, look l t = some x → (t, x) ∈ l
  | [], t, x, h => by simp [look] at h
  | (k, y) :: r, t, x, h => by
    rw [look_cons] at h
    split at h
    · rename_i e; injection h with h; subst e h; exact List.mem_cons_self ..
    · exact List.mem_cons_of_mem _ (look_mem h)
def dvs? : List D → Option (List Value)
  | [] => some []
  | .v x :: l => match x.oneCell', dvs? l with | true, some r => some (x :: r) | _, _ => none
  | _ :: _ => none
def dc? : DC → Option Value
  | .one (.v x) => match x.oneCell' with | true => some x | false => none
  | .agg l => match dvs? l with | some r => some (.agg r.toArray) | none => none
  | _ => none
def dcs? : List DC → Option (List Value)
  | [] => some []
  | a :: l => match dc? a, dcs? l with | some x, some r => some (x :: r) | _, _ => none
def dv? : DV → Option Value
  | .c x => dc? x
  | .tup l => match dcs? l with | some r => some (.tuple r.toArray) | none => none
theorem dvs_rel {M : Nat → Prop} : ∀ {l : List D} {vs us : List Value}, dvs? l = some vs → (DsR w M l us ↔ us = vs ∧ WDs l)
  | [], vs, us, h => by
    simp only [dvs?, Option.some.injEq] at h; subst h
    cases us <;> simp [DsR, WDs]
  | .v x :: l, vs, us, h => by
    simp only [dvs?] at h
    split at h
    · rename_i r h1 h2
      injection h with h
      subst h
      cases us with
      | nil => simp [DsR]
      | cons u us =>
        simp only [DsR, dvs_rel h2, List.cons.injEq, WDs]
        constructor
        · rintro ⟨h3, h4, h5⟩; have := Rep.wd h3; cases h3; exact ⟨⟨rfl, h4⟩, this, h5⟩
        · rintro ⟨⟨rfl, h4⟩, h5, h6⟩; exact ⟨.v _ h1 (WD_v.1 h5), h4, h6⟩
    · cases h
  | .list _ _ :: l, vs, us, h => by simp [dvs?] at h
  | .nil _ :: l, vs, us, h => by simp [dvs?] at h
  | .emp _ :: l, vs, us, h => by simp [dvs?] at h
  | .ref _ :: l, vs, us, h => by simp [dvs?] at h
  | .clo _ _ :: l, vs, us, h => by simp [dvs?] at h
theorem dc_rel {M : Nat → Prop} {c : DC} {v u : Value} (h : dc? c = some v) : DCR w M c u ↔ u = v ∧ WDC c := by
  unfold dc? at h
  split at h
  · split at h
    · rename_i h1
      injection h with h
      subst h
      exact ⟨fun h => (by have := Rep.wd h; cases (show Rep w M _ _ from h); exact ⟨rfl, this⟩), fun ⟨h, h2⟩ => (by subst h; exact Rep.v _ h1 (WD_v.1 h2))⟩
    · cases h
  · split at h
    · rename_i r hr
      injection h with h
      subst h
      simp only [DCR, dvs_rel hr, WDC]
      exact ⟨fun ⟨vs, e, h⟩ => ⟨(by rw [e, h.1]), h.2⟩, fun h => ⟨_, h.1, rfl, h.2⟩⟩
    · cases h
  · cases h
theorem dcs_rel {M : Nat → Prop} : ∀ {l : List DC} {vs us : List Value}, dcs? l = some vs → (DCsR w M l us ↔ us = vs ∧ WDCs l)
  | [], vs, us, h => by
    simp only [dcs?, Option.some.injEq] at h; subst h
    cases us <;> simp [DCsR, WDCs]
  | a :: l, vs, us, h => by
    simp only [dcs?] at h
    split at h
    · rename_i x r h1 h2
      injection h with h
      subst h
      cases us with
      | nil => simp [DCsR]
      | cons u us =>
        simp only [DCsR, dc_rel h1, dcs_rel h2, List.cons.injEq, WDCs]
        exact ⟨fun ⟨⟨a, b⟩, c, d⟩ => ⟨⟨a, c⟩, b, d⟩, fun ⟨⟨a, c⟩, b, d⟩ => ⟨⟨a, b⟩, c, d⟩⟩
    · cases h
theorem dv_rel {M : Nat → Prop} {c : DV} {v u : Value} (h : dv? c = some v) : DVR w M c u ↔ u = v ∧ WDV c := by
  cases c with
  | c x => exact dc_rel h
  | tup l =>
    simp only [dv?] at h
    split at h
    · rename_i r hr
      injection h with h
      subst h
      simp only [DVR, dcs_rel hr, WDV]
      exact ⟨fun ⟨vs, e, h⟩ => ⟨(by rw [e, h.1]), h.2⟩, fun h => ⟨_, h.1, rfl, h.2⟩⟩
    · cases h
theorem fn_of_calls {f : Nat} {args : List DC} {vals : List Value} {r : DV} {v : Value} (hcall : ∀ (vs : Array Value) (w : World), (callFunc f vs).run P w = .ok (.enter f vs) w) (ha : dcs? args = some vals) (hr : dv? r = some v)
    (hw : WDCs args → WDV r) (h : WDCs args → ∀ w, Calls P f vals.toArray w fun e w' => e = .returned v ∧ Below w.heap.size w w') : FnOK P f args r := by
  refine fun w M vs hM hvs => .inl ⟨f, hcall _ _, ?_⟩
  obtain ⟨h1, h2⟩ := (dcs_rel ha).1 hvs
  subst h1
  exact (h h2 w).mono fun e w' ⟨he, hb⟩ => ⟨v, he, (dv_rel hr).2 ⟨rfl, hw h2⟩, hb⟩
theorem fn_of_callsG {f : Nat} {args : List DC} {vals : List Value} {r : DV} {v : Value} (hcall : ∀ (vs : Array Value) (w : World), (callFunc f vs).run P w = .ok (.enter f vs) w) (ha : dcs? args = some vals) (hr : dv? r = some v)
    (hw : WDCs args → WDV r) (h : WDCs args → ∀ w, Gd w → Calls P f vals.toArray w fun e w' => e = .returned v ∧ Below w.heap.size w w') : FnOK P f args r := by
  refine fun w M vs hM hvs => .inl ⟨f, hcall _ _, ?_⟩
  obtain ⟨h1, h2⟩ := (dcs_rel ha).1 hvs
  subst h1
  exact (h h2 w hM.gd).mono fun e w' ⟨he, hb⟩ => ⟨v, he, (dv_rel hr).2 ⟨rfl, hw h2⟩, hb⟩
theorem fnD_of_calls {f : Nat} {args : List DC} {vals : List Value} {r : DV} {v : Value} (hcall : ∀ (vs : Array Value) (w : World), (callFunc f vs).run P w = .ok (.enter f vs) w) (ha : dcs? args = some vals) (hr : dv? r = some v)
    (hw : WDCs args → WDV r) (h : WDCs args → ∀ w, Calls P f vals.toArray w fun e w' => e = .returned v ∧ Below w.heap.size w w' ∧ w.drawn ≤ w'.drawn) : FnD P f args r := by
  refine fun w M vs hM hvs => .inl ⟨f, hcall _ _, ?_⟩
  obtain ⟨h1, h2⟩ := (dcs_rel ha).1 hvs
  subst h1
  exact (h h2 w).mono fun e w' ⟨he, hb⟩ => ⟨v, he, (dv_rel hr).2 ⟨rfl, hw h2⟩, hb⟩
end
end Sx
end Go.Proofs.YtgdpogdgpfjnoaaGreatDoor

namespace Go.Proofs.YtgdpogdgpfjnoaaGreatDoor
open Go Go.RowKit
namespace Sx
theorem pv_bool {f : World → Result Value} {b : Bool} (h : ∀ w, f w = .ok (.bool b) w) : (Value.bool b).oneCell' = true ∧ wfV (.bool b) ∧ ∀ w, f w = .ok (.bool b) w := ⟨rfl, trivial, h⟩
theorem r_int {k : IntKind} {a b : Int} (h : a = b) : (DV.c (.one (.v (.int k a)))) = .c (.one (.v (.int k b))) := by rw [h]
theorem r_bool {a b : Bool} (h : a = b) : (DV.c (.one (.v (.bool a)))) = .c (.one (.v (.bool b))) := by rw [h]
def FieldsOK (P : Program) : List Field → List (Nat × Nat × Bool) → Prop
  | [], [] => True
  | f :: F, x :: fs => f.offset = x.1 ∧ (∀ w, (sizeOf f.type).run P w = .ok x.2.1 w) ∧ (∀ w, (isAgg f.type).run P w = .ok x.2.2 w) ∧ FieldsOK P F fs
  | _, _ => False
theorem fields_get {P : Program} : ∀ {F : List Field} {fs : List (Nat × Nat × Bool)}, FieldsOK P F fs → F.length = fs.length ∧ ∀ (i : Nat) (x : Nat × Nat × Bool), fs[i]? = some x →
    ∃ f : Field, F[i]? = some f ∧ f.offset = x.1 ∧ (∀ w, (sizeOf f.type).run P w = .ok x.2.1 w) ∧ (∀ w, (isAgg f.type).run P w = .ok x.2.2 w)
  | [], [], _ => ⟨rfl, fun i x h => by simp at h⟩
  | f :: F, y :: fs, ⟨h1, h2, h3, h4⟩ => by
    obtain ⟨k1, k2⟩ := fields_get h4
    refine ⟨by simp [k1], fun i x h => ?_⟩
    cases i with
    | zero => simp at h; subst h; exact ⟨f, rfl, h1, h2, h3⟩
    | succ i => simpa using k2 i x (by simpa using h)
  | [], _ :: _, h => h.elim
  | _ :: _, [], h => h.elim
theorem st_ty {P : Program} {t : Nat} {F : Array Field} {fs : List (Nat × Nat × Bool)} (h1 : P.underlying t = some (.struct F)) {l : List Field} (h2 : F.toList = l) (h3 : FieldsOK P l fs) :
    ∃ F : Array Field, P.underlying t = some (.struct F) ∧ F.size = fs.length ∧ ∀ (i : Nat) (x : Nat × Nat × Bool), fs[i]? = some x → ∃ f : Field, F[i]? = some f ∧ f.offset = x.1 ∧ (∀ w, (sizeOf f.type).run P w = .ok x.2.1 w) ∧ (∀ w, (isAgg f.type).run P w = .ok x.2.2 w) := by
  subst h2
  obtain ⟨k1, k2⟩ := fields_get h3
  exact ⟨F, h1, by simpa using k1, fun i x h => by simpa using k2 i x h⟩
theorem sl_ty {P : Program} {t e ek : Nat} {ea : Bool} {zl : List D} {i : TypeInfo} {z z' : Value} (h1 : P.underlying t = some (.slice e)) (h2 : ∀ w, (sizeOf e).run P w = .ok ek w) (h3 : ∀ w, (isAgg e).run P w = .ok ea w) (h4 : ∀ w, (zeroValue e).run P w = .ok z w) (h5 : z.cells.size = ek)
    (h6 : P.info? e = some i) (h7 : i.size = ek) (h8 : i.zero = some z') (h9 : z'.cells.size = ek) (h10 : ∀ w M, DsR w M zl z'.cells.toList) (h11 : Nat.ble i.bytes 65536 = true) :
    ∃ e, P.underlying t = some (.slice e) ∧ (∀ w, (sizeOf e).run P w = .ok ek w) ∧ (∀ w, (isAgg e).run P w = .ok ea w) ∧ (∃ z, (∀ w, (zeroValue e).run P w = .ok z w) ∧ z.cells.size = ek) ∧
    ∃ i z, P.info? e = some i ∧ i.size = ek ∧ i.zero = some z ∧ z.cells.size = ek ∧ (∀ w M, DsR w M zl z.cells.toList) ∧ i.bytes ≤ 65536 :=
  ⟨e, h1, h2, h3, ⟨z, h4, h5⟩, i, z', h6, h7, h8, h9, h10, Nat.le_of_ble_eq_true h11⟩
def TysOK (P : Program) : List (Nat × TD) → Prop
  | [] => True
  | (t, td) :: r => TyOK P t td ∧ TysOK P r
theorem tys_ok {P : Program} : ∀ {l : List (Nat × TD)}, TysOK P l → ∀ t td, look l t = some td → TyOK P t td
  | [], _, t, td, h => by simp [look] at h
  | (k, y) :: r, h0, t, td, h => by
    rw [look_cons] at h
    split at h
    · rename_i e; injection h with h; subst e h; exact h0.1
    · exact tys_ok h0.2 t td h
end Sx
end Go.Proofs.YtgdpogdgpfjnoaaGreatDoor

namespace Go.Proofs.YtgdpogdgpfjnoaaGreatDoor
open Go Go.RowKit
namespace Sx
section
variable {P : Program} {C M0 : Nat → Prop} {w0 w : World} {sz : Nat} {ρ : Nat → Nm} {E : Env} {H : Hp} {a : Act} {Γ : Cfg}
def curA (H : Hp) : At → Bool
  | .osl n v => match look H n with | some (.row _ _ v') => Nat.beq v v' | _ => false
  | .rp n v _ _ _ => match look H n with | some (.row _ _ v') => Nat.beq v v' | _ => false
  | _ => true
def curAs (H : Hp) : List At → Bool
  | [] => true
  | a :: l => match curA H a with | true => curAs H l | false => false
def curC (H : Hp) : SC → Bool
  | .at a => curA H a
  | .agg l => curAs H l
def curCs (H : Hp) : List SC → Bool
  | [] => true
  | a :: l => match curC H a with | true => curCs H l | false => false
def curS (H : Hp) : SV → Bool
  | .c x => curC H x
  | .tup l => curCs H l
def zA : At → At
  | .osl n _ => .osl n 0
  | .rp n _ k i o => .rp n 0 k i o
  | .d x => .d x
  | .ptr n o => .ptr n o
  | .ep a b c d => .ep a b c d
  | .fn f c => .fn f c
def zC : SC → SC
  | .at a => .at (zA a)
  | .agg l => .agg (l.map zA)
def zS : SV → SV
  | .c x => .c (zC x)
  | .tup l => .tup (l.map zC)
def curB (H : Hp) : Blk → Bool
  | .own cells => curAs H cells
  | _ => true
def zB : Blk → Blk
  | .own cells => .own (cells.map zA)
  | .row k l _ => .row k l 0
  | .frz => .frz
def lookZ (H : Hp) (E : Env) (t : Nat) : Option SV := match look E t with | some x => (match curS H x with | true => some (zS x) | false => none) | none => none
def lookZH (H : Hp) (n : Nat) : Option Blk := match look H n with | some x => (match curB H x with | true => some (zB x) | false => none) | none => none
def entZE (H : Hp) (E : Env) : Env → Prop
  | [] => True
  | (t, x) :: r => lookZ H E t = some x ∧ entZE H E r
def entZH (H : Hp) : Hp → Prop
  | [] => True
  | (n, b) :: r => lookZH H n = some b ∧ entZH H r
structure EntZ (E : Env) (H : Hp) (E' : Env) (H' : Hp) : Prop where
  env : entZE H E E'
  hp : entZH H H'
  cl : clB E' H' = true
theorem entZE_look {H : Hp} {E : Env} : ∀ {E' : Env}, entZE H E E' → ∀ t x, look E' t = some x → lookZ H E t = some x
  | [], _, t, x, h => by simp [look] at h
  | (k, y) :: r, he, t, x, h => by
    rw [look_cons] at h
    split at h
    · rename_i e; injection h with h; subst e h; exact he.1
    · exact entZE_look he.2 t x h
theorem entZH_look {H : Hp} : ∀ {H' : Hp}, entZH H H' → ∀ t x, look H' t = some x → lookZH H t = some x
  | [], _, t, x, h => by simp [look] at h
  | (k, y) :: r, he, t, x, h => by
    rw [look_cons] at h
    split at h
    · rename_i e; injection h with h; subst e h; exact he.1
    · exact entZH_look he.2 t x h
theorem curA_rel (R : Rel C M0 w0 sz ρ E H a w) {M' : Nat → Prop} (hM : ∀ b, b < w.heap.size → M' b → Mof M0 ρ H b) {s : At} {v : Value} (h : curA H s = true) (k : AtR ρ w (Mof M0 ρ H) s v) : AtR (fun n => zv (ρ n)) w M' (zA s) v := by
  cases s with
  | d x => exact Rep.mono k (.refl _ w) hM
  | ptr n o => exact k
  | ep a b c d => exact AtR.mono (a := .ep a b c d) (.refl _ w) hM k
  | fn f c => exact k
  | osl n ver =>
    simp only [curA] at h
    split at h
    · rename_i kk l v' hb
      have hv : ver = v' := by simpa using h
      subst hv
      obtain ⟨e1, e2, e3, e4⟩ := k
      exact ⟨e1, e2, Nat.le_refl _, fun _ => e4 (R.blk n _ hb).1.2.2.2.1.symm⟩
    · cases h
  | rp n ver kk i o =>
    simp only [curA] at h
    split at h
    · rename_i k' l v' hb
      have hv : ver = v' := by simpa using h
      subst hv
      obtain ⟨e1, e2, e3, e4⟩ := k
      exact ⟨e1, e2, Nat.le_refl _, fun _ => e4 (R.blk n _ hb).1.2.2.2.1.symm⟩
    · cases h
theorem curAs_rel (R : Rel C M0 w0 sz ρ E H a w) {M' : Nat → Prop} (hM : ∀ b, b < w.heap.size → M' b → Mof M0 ρ H b) : ∀ {l : List At} {vs : List Value}, curAs H l = true → AtsR ρ w (Mof M0 ρ H) l vs → AtsR (fun n => zv (ρ n)) w M' (l.map zA) vs
  | [], [], _, _ => trivial
  | s :: l, v :: vs, h, k => by
    simp only [curAs] at h
    split at h
    · rename_i hs; exact ⟨curA_rel R hM hs k.1, curAs_rel R hM h k.2⟩
    · cases h
  | [], _ :: _, _, k => k.elim
  | _ :: _, [], _, k => k.elim
theorem curC_rel (R : Rel C M0 w0 sz ρ E H a w) {M' : Nat → Prop} (hM : ∀ b, b < w.heap.size → M' b → Mof M0 ρ H b) {s : SC} {v : Value} (h : curC H s = true) (k : SCR ρ w (Mof M0 ρ H) s v) : SCR (fun n => zv (ρ n)) w M' (zC s) v := by
  cases s with
  | «at» s => exact curA_rel R hM h k
  | agg l => obtain ⟨vs, e, k⟩ := k; exact ⟨vs, e, curAs_rel R hM h k⟩
theorem curCs_rel (R : Rel C M0 w0 sz ρ E H a w) {M' : Nat → Prop} (hM : ∀ b, b < w.heap.size → M' b → Mof M0 ρ H b) : ∀ {l : List SC} {vs : List Value}, curCs H l = true → SCsR ρ w (Mof M0 ρ H) l vs → SCsR (fun n => zv (ρ n)) w M' (l.map zC) vs
  | [], [], _, _ => trivial
  | s :: l, v :: vs, h, k => by
    simp only [curCs] at h
    split at h
    · rename_i hs; exact ⟨curC_rel R hM hs k.1, curCs_rel R hM h k.2⟩
    · cases h
  | [], _ :: _, _, k => k.elim
  | _ :: _, [], _, k => k.elim
theorem curS_rel (R : Rel C M0 w0 sz ρ E H a w) {M' : Nat → Prop} (hM : ∀ b, b < w.heap.size → M' b → Mof M0 ρ H b) {s : SV} {v : Value} (h : curS H s = true) (k : SVR ρ w (Mof M0 ρ H) s v) : SVR (fun n => zv (ρ n)) w M' (zS s) v := by
  cases s with
  | c s => exact curC_rel R hM h k
  | tup l => obtain ⟨vs, e, k⟩ := k; exact ⟨vs, e, curCs_rel R hM h k⟩
theorem real_z {b : Blk} {m : Nm} : (zB b).real (zv m) = b.real m := by cases b <;> rfl
theorem Rel.entZ {E' : Env} {H' : Hp} (R : Rel C M0 w0 sz ρ E H a w) (h : EntZ E H E' H') : Rel C M0 w0 sz (fun n => zv (ρ n)) E' H' a w := by
  have hc := h.cl
  simp only [clB, Bool.and_eq_true, List.all_eq_true, keysB] at hc
  have hE : ∀ t x, look E' t = some x → ∃ x0, look E t = some x0 ∧ curS H x0 = true ∧ zS x0 = x := fun t x hx => by
    have := entZE_look h.env t x hx
    unfold lookZ at this
    split at this
    · rename_i x0 h0
      split at this
      · rename_i hcur; injection this with this; exact ⟨x0, h0, hcur, this⟩
      · cases this
    · cases this
  have hH : ∀ n b, look H' n = some b → ∃ b0, look H n = some b0 ∧ curB H b0 = true ∧ zB b0 = b := fun n b hb => by
    have := entZH_look h.hp n b hb
    unfold lookZH at this
    split at this
    · rename_i x0 h0
      split at this
      · rename_i hcur; injection this with this; exact ⟨x0, h0, hcur, this⟩
      · cases this
    · cases this
  have hM : ∀ k, k < w.heap.size → Mof M0 (fun n => zv (ρ n)) H' k → Mof M0 ρ H k := by
    rintro k _ (h | ⟨m, x, hm, hr, e⟩)
    · exact .inl h
    · obtain ⟨b0, h1, _, rfl⟩ := hH m x hm
      exact .inr ⟨m, b0, h1, by rw [← real_z]; exact hr, e⟩
  refine ⟨R.below, R.out, fun t y hy => ?_, fun m c hm hr => ?_, fun m c hm hr => ?_, fun m c hm => ?_, fun m m' c c' hm hm' hr hr' e => ?_, R.defers, R.size, R.pin, fun t x hx n hn => hc.1 (t, x) (look_mem hx) n hn, fun n b hb m hm => hc.2 (n, b) (look_mem hb) m hm⟩
  · obtain ⟨x0, h1, h2, rfl⟩ := hE t y hy
    exact curS_rel R hM h2 (R.env t x0 h1)
  · obtain ⟨b0, h1, _, rfl⟩ := hH m c hm
    exact R.lo m b0 h1 (by rw [← real_z]; exact hr)
  · obtain ⟨b0, h1, _, rfl⟩ := hH m c hm
    exact R.hi m b0 h1 (by rw [← real_z]; exact hr)
  · obtain ⟨b0, h1, h2, rfl⟩ := hH m c hm
    obtain ⟨hs, hcl⟩ := R.blk m b0 h1
    cases b0 with
    | own cells =>
      refine ⟨trivial, fun _ => ?_⟩
      obtain ⟨cs, h3, h4⟩ := hcl rfl
      exact ⟨cs, h3, curAs_rel R hM h2 h4⟩
    | row k l v =>
      obtain ⟨k1, k2, k3, k4, k5⟩ := hs
      refine ⟨⟨k1, k2, k3, rfl, k5⟩, fun hr => ?_⟩
      obtain ⟨cs, h3, c1, c2, c3, vs, rest, c4, c5⟩ := hcl hr
      exact ⟨cs, h3, c1, c2, c3, vs, rest, c4, c5.mono (.refl _ w) hM⟩
    | frz => exact ⟨trivial, fun hr => by simp [Blk.real, zB] at hr⟩
  · obtain ⟨b0, h1, _, rfl⟩ := hH m c hm
    obtain ⟨b1, h2, _, rfl⟩ := hH m' c' hm'
    exact R.inj m m' b0 b1 h1 h2 (by rw [← real_z]; exact hr) (by rw [← real_z]; exact hr') e
section
variable {ns : List Nat} {M' : Nat → Prop}
end
def frcEnv : Env → (Env → Prop) → Prop
  | [], k => k []
  | (t, x) :: r, k => frcS x fun x => frcEnv r fun r => k ((t, x) :: r)
theorem frcEnv_iff : ∀ (E : Env) (k : Env → Prop), frcEnv E k ↔ k E
  | [], k => Iff.rfl
  | (t, x) :: r, k => by simp only [frcEnv]; rw [frcS_iff, frcEnv_iff r]
def nmB : Blk → Nat → Nat → Option (Nat × Blk)
  | .own l, j, n => match nmA l j n with | some (k, l') => some (k, .own l') | none => none
  | _, _, _ => none
theorem loop_nameH (m j n : Nat) {dm : Bool} {body : Code} {k : Exit → Env → Hp → Prop} {b b' : Blk} {kk : Nat} (hx : look H m = some b) (hn : nmB b j n = some (kk, b')) (hf : look H n = none) (h : LoopP P sz dm body E ((m, b') :: (n, .row kk [] 0) :: H) k) (hlt : Nat.ble (n + 1) 1000 = true := by rfl) : LoopP P sz dm body E H k := by
  refine ⟨fun C M0 w0 ρ a w Q hdm R hQ => h.run C M0 w0 (upd ρ n ⟨false, 0, 0, 0, 0⟩) a w Q hdm ?_ hQ⟩
  have R1 := R.nameRow (k := kk) hf (.inr (.inl (Nat.le_of_ble_eq_true hlt)))
  have hmn : m ≠ n := fun e => by rw [e, hf] at hx; cases hx
  have hlk : look ((n, Blk.row kk [] 0) :: H) m = some b := by rw [look_cons, if_neg (fun e => hmn e.symm)]; exact hx
  unfold nmB at hn
  split at hn
  · rename_i l
    split at hn
    · rename_i k1 l1 h2
      simp only [Option.some.injEq, Prod.mk.injEq] at hn
      obtain ⟨rfl, rfl⟩ := hn
      obtain ⟨cs, hcs, hC⟩ := (R1.blk m _ hlk).2 rfl
      obtain ⟨h3, h4⟩ := nmA_rel (w := w) h2 (upd_same _ _ _) hC
      have hMeq : ∀ b, Mof M0 (upd ρ n ⟨false, 0, 0, 0, 0⟩) ((m, .own l1) :: (n, .row k1 [] 0) :: H) b → Mof M0 (upd ρ n ⟨false, 0, 0, 0, 0⟩) ((n, .row k1 [] 0) :: H) b := by
        rintro b (h | ⟨i, x, hi, hr, e⟩)
        · exact .inl h
        · rw [look_cons] at hi
          split at hi
          · rename_i e'; subst e'; exact .inr ⟨m, _, hlk, rfl, e⟩
          · exact .inr ⟨i, x, hi, hr, e⟩
      have hR := R1.known (b := .own l1) (m := upd ρ n ⟨false, 0, 0, 0, 0⟩ m) (w' := w) hlk (.inl rfl) rfl rfl rfl (Nat.le_refl _) (.inr (Nat.le_refl _)) (fun _ _ _ => rfl) (fun _ => .inl ⟨rfl, rfl⟩)
        (fun g1 g2 => ⟨trivial, fun _ => ⟨cs, hcs, by rw [upd_self]; exact AtsR.mono (.refl _ w) (fun b _ => hMeq b) h3⟩⟩) (fun i hi => by
          rcases h4 i hi with h | h
          · exact R1.clH m _ hlk i h
          · rw [h, look_cons, if_pos rfl]; rfl)
      rwa [upd_self] at hR
    · cases hn
  · cases hn
structure RoundsP (P : Program) (sz n : Nat) (dm : Bool) (body : Code) (E : Env) (H : Hp) (k : Exit → Env → Hp → Prop) : Prop where
  run : ∀ (C M0 : Nat → Prop) (w0 : World) (ρ : Nat → Nm) (a : Act) (w : World) (Q : Exit → Act → World → Prop), (dm = false → C w0.heap.size) → Rel C M0 w0 sz ρ E H a w →
    (∀ ex E' H' ρ' a' w', k ex E' H' → Rel C M0 w0 sz ρ' E' H' a' w' → Q ex a' w') → Code.rounds P body Q n a w
def allB (K : List Nat) : List Nat → Bool
  | [] => true
  | n :: l => match memB n K with | true => allB K l | false => false
def fE (K : List Nat) : List Nat → Env → Env
  | _, [] => []
  | D, (t, x) :: r => match memB t D with
    | true => fE K D r
    | false => match allB K x.names with | true => (t, x) :: fE K (t :: D) r | false => fE K (t :: D) r
def fH (K : List Nat) : List Nat → Hp → Hp
  | _, [] => []
  | D, (t, x) :: r => match memB t D with
    | true => fH K D r
    | false => match memB t K && allB K x.names with | true => (t, x) :: fH K (t :: D) r | false => fH K (t :: D) r
theorem fE_look (K : List Nat) : ∀ (E : Env) (D : List Nat) (t : Nat) (x : SV), look (fE K D E) t = some x → t ∉ D ∧ look E t = some x
  | [], D, t, x, h => by simp [fE, look] at h
  | (k, y) :: r, D, t, x, h => by
    simp only [fE] at h
    split at h
    · rename_i hm
      obtain ⟨h1, h2⟩ := fE_look K r D t x h
      refine ⟨h1, ?_⟩
      rw [look_cons, if_neg (by rintro rfl; exact h1 (memB_iff.1 hm))]
      exact h2
    · rename_i hm
      have hm' : k ∉ D := fun h' => by rw [memB_iff.2 h'] at hm; cases hm
      split at h
      · rw [look_cons] at h
        split at h
        · rename_i e
          subst e
          injection h with h
          subst h
          exact ⟨hm', by rw [look_cons, if_pos rfl]⟩
        · rename_i e
          obtain ⟨h1, h2⟩ := fE_look K r _ t x h
          exact ⟨fun h' => h1 (List.mem_cons_of_mem _ h'), by rw [look_cons, if_neg e]; exact h2⟩
      · obtain ⟨h1, h2⟩ := fE_look K r _ t x h
        refine ⟨fun h' => h1 (List.mem_cons_of_mem _ h'), ?_⟩
        rw [look_cons, if_neg (by rintro rfl; exact h1 (List.mem_cons_self ..))]
        exact h2
theorem fH_look (K : List Nat) : ∀ (E : Hp) (D : List Nat) (t : Nat) (x : Blk), look (fH K D E) t = some x → t ∉ D ∧ look E t = some x
  | [], D, t, x, h => by simp [fH, look] at h
  | (k, y) :: r, D, t, x, h => by
    simp only [fH] at h
    split at h
    · rename_i hm
      obtain ⟨h1, h2⟩ := fH_look K r D t x h
      refine ⟨h1, ?_⟩
      rw [look_cons, if_neg (by rintro rfl; exact h1 (memB_iff.1 hm))]
      exact h2
    · rename_i hm
      have hm' : k ∉ D := fun h' => by rw [memB_iff.2 h'] at hm; cases hm
      split at h
      · rw [look_cons] at h
        split at h
        · rename_i e
          subst e
          injection h with h
          subst h
          exact ⟨hm', by rw [look_cons, if_pos rfl]⟩
        · rename_i e
          obtain ⟨h1, h2⟩ := fH_look K r _ t x h
          exact ⟨fun h' => h1 (List.mem_cons_of_mem _ h'), by rw [look_cons, if_neg e]; exact h2⟩
      · obtain ⟨h1, h2⟩ := fH_look K r _ t x h
        refine ⟨fun h' => h1 (List.mem_cons_of_mem _ h'), ?_⟩
        rw [look_cons, if_neg (by rintro rfl; exact h1 (List.mem_cons_self ..))]
        exact h2
theorem Rel.keep (R : Rel C M0 w0 sz ρ E H a w) (K : List Nat) (h : clB (fE K [] E) (fH K [] H) = true) : Rel C M0 w0 sz ρ (fE K [] E) (fH K [] H) a w := by
  simp only [clB, Bool.and_eq_true, List.all_eq_true, keysB] at h
  exact R.less (fun t x hx => (fE_look K E [] t x hx).2) (fun n b hb => (fH_look K H [] n b hb).2) (fun t x hx n hn => h.1 (t, x) (look_mem hx) n hn) (fun n b hb m hm => h.2 (n, b) (look_mem hb) m hm)
structure CodeP (P : Program) (sz : Nat) (dm : Bool) (c : Code) (E : Env) (H : Hp) (k : Exit → Env → Hp → Prop) : Prop where
  run : ∀ (C M0 : Nat → Prop) (w0 : World) (ρ : Nat → Nm) (a : Act) (w : World) (Q : Exit → Act → World → Prop), (dm = false → C w0.heap.size) → Rel C M0 w0 sz ρ E H a w →
    (∀ ex E' H' ρ' a' w', k ex E' H' → Rel C M0 w0 sz ρ' E' H' a' w' → Q ex a' w') → c.wp P Q a w
end
end Sx
end Go.Proofs.YtgdpogdgpfjnoaaGreatDoor
