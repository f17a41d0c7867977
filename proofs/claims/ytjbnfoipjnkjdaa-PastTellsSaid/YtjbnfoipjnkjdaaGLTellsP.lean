import Derived.Test.YtjbnfoipjnkjdaaGLTellsO
set_option linter.all false



/- Fields, layer 3: copies, looking up. No conditions. -/
namespace Go.Proofs.Ytjbnfoipjnkjdaa
open Go.RowKit Go.Sort Sx
abbrev ownL (k : Nat) (l : List (List D)) : OwnR := ⟨.c (.one (.list k l)), 0, 0, k, l⟩
theorem ok_of_own {P : Program} {f k : Nat} {args : List DC} {l : List (List D)} (h : FnOwn P f args (ownL k l)) : FnOK P f args (.c (.one (.list k l))) := by
  intro w M vs hM hvs
  obtain ⟨g, hg, hc⟩ := h w M vs hM hvs
  refine .inl ⟨g, hg, hc.mono ?_⟩
  rintro e w' ⟨v, m, rfl, hb, h1, h2, h3, h4, h5⟩
  refine ⟨v, rfl, ?_, hb⟩
  have h4 : AtR (fun _ => m) w' (fun b => M b ∨ 0 < m.cap ∧ b = m.b) (.osl 0 0) v := h4
  obtain ⟨_, _, _, k4⟩ := h4
  exact row_data h5 (k4 h2.symm) (fun b _ h => .inl h) (fun h hm => by have := hM _ hm; have := (h3 h).1; omega) (fun h => (h3 h).2)
theorem ats_own {ρ : Nat → Nm} {w : World} {M M' : Nat → Prop} {k : Nat} {l : List (List D)} (key : ∀ v, AtR ρ w M' (.osl 0 0) v → Rep w M (.list k l) v) (hM : ∀ b, M b → M' b) :
    ∀ {ds : List D} {j : Nat} {vs : List Value}, ds[j]? = some (.list k l) → AtsR ρ w M' (setAt (ds.map At.d) j (.osl 0 0)) vs → DsR w M ds vs
  | [], _, _, h, _ => by simp at h
  | x :: ds, 0, [], h, h2 => h2.elim
  | x :: ds, 0, v :: vs, h, h2 => by
    have h : x = .list k l := by simpa using h
    subst h
    have h2 : AtR ρ w M' (.osl 0 0) v ∧ AtsR ρ w M' (ds.map At.d) vs := h2
    have : ∀ {ds : List D} {vs : List Value}, AtsR ρ w M' (ds.map At.d) vs → DsR w M ds vs := by
      intro ds
      induction ds with
      | nil => intro vs h; cases vs with
        | nil => trivial
        | cons v vs => exact h.elim
      | cons d ds ih => intro vs h; cases vs with
        | nil => exact h.elim
        | cons v vs => exact ⟨Rep.mono h.1 (.refl _ w) fun b _ hb => hM b hb, ih h.2⟩
    exact ⟨key v h2.1, this h2.2⟩
  | x :: ds, j + 1, [], h, h2 => h2.elim
  | x :: ds, j + 1, v :: vs, h, h2 => by
    have h2 : AtR ρ w M' (.d x) v ∧ AtsR ρ w M' (setAt (ds.map At.d) j (.osl 0 0)) vs := h2
    exact ⟨Rep.mono h2.1 (.refl _ w) fun b _ hb => hM b hb, ats_own key hM (by simpa using h) h2.2⟩
theorem ok_of_ownA {P : Program} {f j k : Nat} {args : List DC} {ds : List D} {l : List (List D)} (hj : ds[j]? = some (.list k l)) (h : FnOwn P f args ⟨.c (.agg ds), 0, j, k, l⟩) : FnOK P f args (.c (.agg ds)) := by
  intro w M vs hM hvs
  obtain ⟨g, hg, hc⟩ := h w M vs hM hvs
  refine .inl ⟨g, hg, hc.mono ?_⟩
  rintro e w' ⟨v, m, rfl, hb, h1, h2, h3, h4, h5⟩
  refine ⟨v, rfl, ?_, hb⟩
  have h4 : ∃ us : List Value, v = .agg us.toArray ∧ AtsR (fun _ => m) w' (fun b => M b ∨ 0 < m.cap ∧ b = m.b) (setAt (ds.map At.d) j (.osl 0 0)) us := h4
  obtain ⟨us, e, h4⟩ := h4
  refine ⟨us, e, ats_own (fun v k4 => ?_) (fun b hb => .inl hb) hj h4⟩
  obtain ⟨_, _, _, k4⟩ := k4
  exact row_data h5 (k4 h2.symm) (fun b _ h => .inl h) (fun h hm => by have := hM _ hm; have := (h3 h).1; omega) (fun h => (h3 h).2)
theorem clonePt_own (l : List (List D)) (hl : l.length ≤ 1000000) : FnOwn Try.prog 48 [.one (.list 3 l)] (ownL 3 l) := by
  cases l with
  | nil =>
    refine own_list ?_ ?_
    · refine fn_own (by kernel_rfl) (ty_okK [7] [] []) Try.func48 rfl (fun _ _ => Try.call48 _ _) rfl ?_
      intro hw
      repeat' ((conv => whnf); first | (with_reducible first | refine br_t ?_ | refine br_f ?_ | refine xa (by assumption) ?_ | refine xg (by assumption) rfl ?_ | refine xo (by assumption) ?_ | refine xb (by assumption) rfl ?_ | refine xm (by assumption) ?_ | refine xc (by assumption) ?_) | ((with_reducible refine bc_t ?_ ?_); (first | omega | decide)) | ((with_reducible refine bc_f ?_ ?_); (first | omega | decide)) | (with_reducible first | refine bc (fun h => ?_) (fun h => ?_) | refine br_t' (by assumption) ?_ | refine br_f' (by assumption) ?_ | refine br_i (fun h => ?_) (fun h => ?_)) | refine xg (by assumption) rfl ?_ | refine And.intro (by first | kernel_rfl | omega | (simp only [List.length_append, List.length_cons, List.length_nil, List.length_map, List.length_take, List.length_replicate]; omega) | decide) ?_)
      all_goals conv => whnf
      exact .inr ⟨100, _, _, rfl, rfl, rfl, rfl, rfl⟩
    · refine fn_own (by kernel_rfl) (ty_okK [7] [] []) Try.func48 rfl (fun _ _ => Try.call48 _ _) rfl ?_
      intro hw
      repeat' ((conv => whnf); first | (with_reducible first | refine br_t ?_ | refine br_f ?_ | refine xa (by assumption) ?_ | refine xg (by assumption) rfl ?_ | refine xo (by assumption) ?_ | refine xb (by assumption) rfl ?_ | refine xm (by assumption) ?_ | refine xc (by assumption) ?_) | ((with_reducible refine bc_t ?_ ?_); (first | omega | decide)) | ((with_reducible refine bc_f ?_ ?_); (first | omega | decide)) | (with_reducible first | refine bc (fun h => ?_) (fun h => ?_) | refine br_t' (by assumption) ?_ | refine br_f' (by assumption) ?_ | refine br_i (fun h => ?_) (fun h => ?_)) | refine xg (by assumption) rfl ?_ | refine And.intro (by first | kernel_rfl | omega | (simp only [List.length_append, List.length_cons, List.length_nil, List.length_map, List.length_take, List.length_replicate]; omega) | decide) ?_)
      all_goals conv => whnf
      exact .inl ⟨5, 1, _, rfl, rfl, rfl⟩
  | cons x xs =>
    refine fn_own (by kernel_rfl) (ty_okK [7] [] []) Try.func48 rfl (fun _ _ => Try.call48 _ _) rfl ?_
    intro hw
    simp only [List.length_cons] at hl
    repeat' ((conv => whnf); first | (with_reducible first | refine br_t ?_ | refine br_f ?_ | refine xa (by assumption) ?_ | refine xg (by assumption) rfl ?_ | refine xo (by assumption) ?_ | refine xb (by assumption) rfl ?_ | refine xm (by assumption) ?_ | refine xc (by assumption) ?_) | ((with_reducible refine bc_t ?_ ?_); (first | omega | decide)) | ((with_reducible refine bc_f ?_ ?_); (first | omega | decide)) | (with_reducible first | refine bc (fun h => ?_) (fun h => ?_) | refine br_t' (by assumption) ?_ | refine br_f' (by assumption) ?_ | refine br_i (fun h => ?_) (fun h => ?_)) | refine xg (by assumption) rfl ?_ | refine And.intro (by first | kernel_rfl | omega | (simp only [List.length_append, List.length_cons, List.length_nil, List.length_map, List.length_take, List.length_replicate]; omega) | decide) ?_)
    all_goals conv => whnf
    exact .inl ⟨5, 1, _, rfl, rfl, rfl⟩
theorem rfTwin_own (l : List Pt) (hl : l.length ≤ 1000000) : FnOwn Try.prog 28 [fld l] ⟨.c (fld l), 0, 0, 3, l.map Pt.c⟩ := by
  refine fn_own (by kernel_rfl) (ty_okK [6] [] []) Try.func28 rfl (fun _ _ => Try.call28 _ _) rfl ?_
  intro hw
  repeat' ((conv => whnf); first | (with_reducible first | refine br_t ?_ | refine br_f ?_ | refine xa (by assumption) ?_ | refine xg (by assumption) rfl ?_ | refine xo (by assumption) ?_ | refine xb (by assumption) rfl ?_ | refine xm (by assumption) ?_ | refine xc (by assumption) ?_) | rw [List.length_map] | ((with_reducible refine bc_t ?_ ?_); (first | omega | decide)) | ((with_reducible refine bc_f ?_ ?_); (first | omega | decide)) | (with_reducible first | refine bc (fun h => ?_) (fun h => ?_) | refine br_t' (by assumption) ?_ | refine br_f' (by assumption) ?_ | refine br_i (fun h => ?_) (fun h => ?_)) | refine xg (by assumption) rfl ?_ | refine And.intro (by first | kernel_rfl | omega | (simp only [List.length_append, List.length_cons, List.length_nil, List.length_map, List.length_take, List.length_replicate]; omega) | decide) ?_)
  all_goals conv => whnf
  exact .inl ⟨3, 1, _, rfl, rfl, rfl⟩

/-- how many stand ahead of an ID -/
def pos : List Pt → Int → Nat
  | [], _ => 0
  | p :: l, id => if p.id < id then pos l id + 1 else 0
def has (l : List Pt) (id : Int) : Bool := l.any fun p => p.id == id
theorem incr_lt {l : List Pt} (h : incr l = true) : ∀ (j i : Nat) (hj : j < l.length) (hij : i < j), l[i].id < l[j].id := by
  intro j
  induction j with
  | zero => intro i _ h; omega
  | succ j ih =>
    intro i hj hij
    have h1 := incr_iff.1 h j hj
    rcases Nat.lt_or_ge i j with h2 | h2
    · have := ih i (by omega) h2; omega
    · have : i = j := by omega
      subst this; exact h1
theorem incr_tail {p : Pt} {l : List Pt} (h : incr (p :: l) = true) : incr l = true := by
  cases l with
  | nil => rfl
  | cons q l => rw [incr, Bool.and_eq_true] at h; exact h.2
theorem pos_le : ∀ (l : List Pt) (id : Int), pos l id ≤ l.length
  | [], _ => Nat.le_refl _
  | p :: l, id => by rw [pos]; split <;> simp [pos_le l id]
theorem pos_eq : ∀ {l : List Pt} {id : Int} {i : Nat}, i ≤ l.length → (∀ k (h : k < l.length), k < i → l[k].id < id) → (∀ k (h : k < l.length), i ≤ k → id ≤ l[k].id) → pos l id = i
  | [], id, i, hi, _, _ => by simp at hi; simp [pos, hi]
  | p :: l, id, 0, hi, h1, h2 => by
    have := h2 0 (by simp) (Nat.le_refl _)
    simp at this
    rw [pos, if_neg (by omega)]
  | p :: l, id, i + 1, hi, h1, h2 => by
    have := h1 0 (by simp) (by omega)
    simp at this
    rw [pos, if_pos this, pos_eq (by simpa using hi) (fun k h hk => h1 (k + 1) (by simpa using h) (by omega)) (fun k h hk => h2 (k + 1) (by simpa using h) (by omega))]
theorem pos_spec : ∀ {l : List Pt} {id : Int}, incr l = true → (∀ k (h : k < l.length), k < pos l id → l[k].id < id) ∧ ∀ k (h : k < l.length), pos l id ≤ k → id ≤ l[k].id
  | [], id, _ => ⟨fun k h => by simp at h, fun k h => by simp at h⟩
  | p :: l, id, hs => by
    rw [pos]
    split
    · rename_i hp
      obtain ⟨h1, h2⟩ := pos_spec (id := id) (incr_tail hs)
      refine ⟨fun k h hk => ?_, fun k h hk => ?_⟩
      · cases k with
        | zero => exact hp
        | succ k => simpa using h1 k (by simpa using h) (by omega)
      · cases k with
        | zero => omega
        | succ k => simpa using h2 k (by simpa using h) (by omega)
    · rename_i hp
      refine ⟨fun k h hk => by omega, fun k h hk => ?_⟩
      cases k with
      | zero => simp; omega
      | succ k =>
        have := incr_lt hs (k + 1) 0 h (by omega)
        simp at this ⊢; omega
theorem has_pos {l : List Pt} {id : Int} (hs : incr l = true) : has l id = true ↔ ∃ h : pos l id < l.length, l[pos l id].id = id := by
  unfold has
  rw [List.any_eq_true]
  obtain ⟨h1, h2⟩ := pos_spec (id := id) hs
  constructor
  · rintro ⟨p, hp, he⟩
    obtain ⟨k, hk, rfl⟩ := List.getElem_of_mem hp
    have he : l[k].id = id := by simpa using he
    have hle : pos l id ≤ k := by
      rcases Nat.lt_or_ge k (pos l id) with h | h
      · have := h1 k hk h; omega
      · exact h
    have hlt : pos l id < l.length := by omega
    refine ⟨hlt, ?_⟩
    have := h2 (pos l id) hlt (Nat.le_refl _)
    rcases Nat.eq_or_lt_of_le hle with h | h
    · rw [getElem_congr rfl h]; exact he
    · have := incr_lt hs k (pos l id) hk h; omega
  · rintro ⟨h, he⟩
    exact ⟨_, List.getElem_mem h, by simpa using he⟩

theorem mid_eq (i j : Nat) (h : i + j ≤ 9223372036854775807) : IntKind.i64.wrap ((IntKind.u64.wrap (IntKind.i64.wrap ((i : Int) + (j : Int)))).fdiv (2 ^ (min (Int.toNat 1) (IntKind.bits .u64)))) = (((i + j) / 2 : Nat) : Int) := by
  have e1 : (2 : Int) ^ (min (Int.toNat 1) (IntKind.bits .u64)) = 2 := rfl
  have e2 : IntKind.u64.wrap (((i + j : Nat) : Int)) = ((i + j : Nat) : Int) := by rw [IntKind.wrap_u64]; omega
  have e3 : IntKind.i64.wrap ((i : Int) + (j : Int)) = ((i + j : Nat) : Int) := by rw [IntWalk.i64_in _ (by omega)]; omega
  rw [e3, e2, e1, Int.fdiv_eq_ediv_of_nonneg _ (by omega)]
  have e4 : ((i + j : Nat) : Int) / 2 = (((i + j) / 2 : Nat) : Int) := by omega
  rw [e4, IntWalk.i64_in _ (by omega)]
theorem ffind1_fn (p : Pt) (id : Int) : FnOK Try.prog 87 [p.dc, .one (i64 id)] (ret1 (cmpN p.id id)) := by
  refine fn_ok (by kernel_rfl) ty_ok Try.func87 rfl (fun _ _ => Try.call87 _ _) rfl ?_
  intro hw
  repeat' ((conv => whnf); first | (with_reducible first | refine br_t ?_ | refine br_f ?_ | refine xa (by assumption) ?_ | refine xg (by assumption) rfl ?_ | refine xo (by assumption) ?_ | refine xb (by assumption) rfl ?_ | refine xm (by assumption) ?_ | refine xc (by assumption) ?_ | refine xi (cmpint_fn _ _) ?_) | ((with_reducible refine bc_t ?_ ?_); (first | omega | decide)) | ((with_reducible refine bc_f ?_ ?_); (first | omega | decide)) | (with_reducible first | refine bc (fun h => ?_) (fun h => ?_) | refine br_t' (by assumption) ?_ | refine br_f' (by assumption) ?_ | refine br_i (fun h => ?_) (fun h => ?_)) | refine xg (by assumption) rfl ?_ | refine And.intro (by first | kernel_rfl | omega | (simp only [List.length_append, List.length_cons, List.length_nil, List.length_map, List.length_take, List.length_replicate]; omega) | decide) ?_)
  all_goals conv => whnf
  all_goals rfl
theorem bsPt_fn (l : List Pt) (id : Int) (hs : incr l = true) (hl : l.length ≤ 1000000) : FnOK Try.prog 86 [.one (pts l), .one (i64 id), .one (.clo 87 [])] (.tup [.one (i64 (pos l id : Nat)), .one (bol (has l id))]) := by
  refine fn_ok (by kernel_rfl) ty_ok Try.func86 rfl (fun _ _ => Try.call86 _ _) rfl ?_
  intro hw
  repeat' ((conv => whnf); first | (with_reducible first | refine br_t ?_ | refine br_f ?_ | refine xa (by assumption) ?_ | refine xg (by assumption) rfl ?_ | refine xo (by assumption) ?_ | refine xb (by assumption) rfl ?_ | refine xm (by assumption) ?_ | refine xc (by assumption) ?_) | rw [List.length_map] | ((with_reducible refine bc_t ?_ ?_); (first | omega | decide)) | ((with_reducible refine bc_f ?_ ?_); (first | omega | decide)) | (with_reducible first | refine bc (fun h => ?_) (fun h => ?_) | refine br_t' (by assumption) ?_ | refine br_f' (by assumption) ?_ | refine br_i (fun h => ?_) (fun h => ?_)) | refine xg (by assumption) rfl ?_ | refine And.intro (by first | kernel_rfl | omega | (simp only [List.length_append, List.length_cons, List.length_nil, List.length_map, List.length_take, List.length_replicate]; omega) | decide) ?_)
  refine loop_J (by kernel_rfl) ty_ok (σ := Nat × Nat) (fun s => [(9, sV (.int .i64 s.1)), (10, sV (.int .i64 s.2))]) (fun _ => [])
    (fun s => s.1 ≤ s.2 ∧ s.2 ≤ l.length ∧ (∀ k (h : k < l.length), k < s.1 → l[k].id < id) ∧ ∀ k (h : k < l.length), s.2 ≤ k → id ≤ l[k].id) (fun s => s.2 - s.1) (0, l.length) ⟨by omega, by omega, fun k h hk => absurd hk (Nat.not_lt_zero _), fun k h hk => absurd h (by show ¬ k < l.length; exact Nat.not_lt.2 hk)⟩ ?_ ?_
  · (conv => whnf); refine ⟨by repeat' (first | with_reducible exact zE0 | with_reducible refine zE1 ?_ ?_ | rfl | assumption | (refine ent_i ?_; (first | omega | (rw [IntWalk.i64_in _ (by omega)]; omega) | (simp; done))) | (refine ent_b ?_; (first | omega | (rw [IntWalk.i64_in _ (by omega)]; omega) | (simp; done)))), by repeat' (first | with_reducible exact zH0 | with_reducible refine zH1 ?_ ?_ | rfl | assumption), rfl⟩
  rintro ⟨i, j⟩ ⟨h1, h2, h3, h4⟩
  simp only at h1 h2 h3 h4
  rcases Nat.lt_or_ge i j with hlt | hge
  · have hm : (i + j) / 2 < l.length := by omega
    have hmid := mid_eq i j (by omega)
    have hel := pts_get hm
    have HC := ffind1_fn l[(i + j) / 2] id
    rcases (show l[(i + j) / 2].id < id ∨ id ≤ l[(i + j) / 2].id by omega) with hc | hc
    · have e : cmpN l[(i + j) / 2].id id = -1 := by unfold cmpN; rw [if_pos hc]
      rw [e] at HC
      repeat' ((conv => whnf); first | (with_reducible first | refine br_t ?_ | refine br_f ?_ | refine xa (by assumption) ?_ | refine xg (by assumption) rfl ?_ | refine xo (by assumption) ?_ | refine xb (by assumption) rfl ?_ | refine xm (by assumption) ?_ | refine xc (by assumption) ?_) | rw [List.length_map] | rw [hmid] | ((with_reducible refine bc_t ?_ ?_); (first | omega | decide)) | ((with_reducible refine bc_f ?_ ?_); (first | omega | decide)) | (with_reducible first | refine bc (fun h => ?_) (fun h => ?_) | refine br_t' (by assumption) ?_ | refine br_f' (by assumption) ?_ | refine br_i (fun h => ?_) (fun h => ?_)) | refine xg (by assumption) rfl ?_ | refine And.intro (by first | kernel_rfl | omega | (simp only [List.length_append, List.length_cons, List.length_nil, List.length_map, List.length_take, List.length_replicate]; omega) | decide) ?_)
      all_goals conv => whnf
      refine ⟨((i + j) / 2 + 1, j), ⟨by show _ ≤ _; omega, h2, fun k h hk => ?_, h4⟩, ?_, by show _ - _ < _ - _; omega⟩
      · rcases Nat.lt_or_ge k ((i + j) / 2) with h5 | h5
        · have := incr_lt hs _ _ hm h5; omega
        · have : k = (i + j) / 2 := by show k = _; simp only at hk; omega
          subst this; exact hc
      · (conv => whnf); refine ⟨by repeat' (first | with_reducible exact zE0 | with_reducible refine zE1 ?_ ?_ | rfl | assumption | (refine ent_i ?_; (first | omega | (rw [IntWalk.i64_in _ (by omega)]; omega) | (simp; done))) | (refine ent_b ?_; (first | omega | (rw [IntWalk.i64_in _ (by omega)]; omega) | (simp; done)))), by repeat' (first | with_reducible exact zH0 | with_reducible refine zH1 ?_ ?_ | rfl | assumption), rfl⟩
    · have e : 0 ≤ cmpN l[(i + j) / 2].id id := by unfold cmpN; split <;> (try split) <;> omega
      generalize cmpN l[(i + j) / 2].id id = c at HC e
      repeat' ((conv => whnf); first | (with_reducible first | refine br_t ?_ | refine br_f ?_ | refine xa (by assumption) ?_ | refine xg (by assumption) rfl ?_ | refine xo (by assumption) ?_ | refine xb (by assumption) rfl ?_ | refine xm (by assumption) ?_ | refine xc (by assumption) ?_) | rw [List.length_map] | rw [hmid] | ((with_reducible refine bc_t ?_ ?_); (first | omega | decide)) | ((with_reducible refine bc_f ?_ ?_); (first | omega | decide)) | (with_reducible first | refine bc (fun h => ?_) (fun h => ?_) | refine br_t' (by assumption) ?_ | refine br_f' (by assumption) ?_ | refine br_i (fun h => ?_) (fun h => ?_)) | refine xg (by assumption) rfl ?_ | refine And.intro (by first | kernel_rfl | omega | (simp only [List.length_append, List.length_cons, List.length_nil, List.length_map, List.length_take, List.length_replicate]; omega) | decide) ?_)
      all_goals conv => whnf
      refine ⟨(i, (i + j) / 2), ⟨by show _ ≤ _; omega, by show _ ≤ _; omega, h3, fun k h hk => ?_⟩, ?_, by show _ - _ < _ - _; omega⟩
      · rcases Nat.lt_or_ge ((i + j) / 2) k with h5 | h5
        · have := incr_lt hs k _ h h5; omega
        · have : k = (i + j) / 2 := by simp only at hk; omega
          subst this; exact hc
      · (conv => whnf); refine ⟨by repeat' (first | with_reducible exact zE0 | with_reducible refine zE1 ?_ ?_ | rfl | assumption | (refine ent_i ?_; (first | omega | (rw [IntWalk.i64_in _ (by omega)]; omega) | (simp; done))) | (refine ent_b ?_; (first | omega | (rw [IntWalk.i64_in _ (by omega)]; omega) | (simp; done)))), by repeat' (first | with_reducible exact zH0 | with_reducible refine zH1 ?_ ?_ | rfl | assumption), rfl⟩
  · have e : i = j := by omega
    subst e
    have hp := pos_eq (id := id) h2 h3 h4
    rw [hp]
    have hh := has_pos (id := id) hs
    rcases Nat.lt_or_ge i l.length with hlt | hge2
    · have hel := pts_get hlt
      have HC := ffind1_fn l[i] id
      have e2 : has l id = decide (cmpN l[i].id id = 0) := by
        rw [Bool.eq_iff_iff, hh, decide_eq_true_eq]
        have e3 : cmpN l[i].id id = 0 ↔ l[i].id = id := by
          unfold cmpN
          split
          · exact ⟨fun h => by omega, fun h => by omega⟩
          · split
            · exact ⟨fun h => by omega, fun h => by omega⟩
            · exact ⟨fun h => by omega, fun h => rfl⟩
        rw [e3]
        constructor
        · rintro ⟨h, e⟩; exact (congrArg Pt.id (getElem_congr rfl hp.symm _)).trans e
        · intro e; exact ⟨by omega, (congrArg Pt.id (getElem_congr rfl hp _)).trans e⟩
      rw [e2]
      generalize cmpN l[i].id id = c at HC
      by_cases hc : c = 0
      all_goals
        repeat' ((conv => whnf); first | (with_reducible first | refine br_t ?_ | refine br_f ?_ | refine xa (by assumption) ?_ | refine xg (by assumption) rfl ?_ | refine xo (by assumption) ?_ | refine xb (by assumption) rfl ?_ | refine xm (by assumption) ?_ | refine xc (by assumption) ?_) | rw [List.length_map] | ((with_reducible refine bc_t ?_ ?_); (first | omega | decide)) | ((with_reducible refine bc_f ?_ ?_); (first | omega | decide)) | (with_reducible first | refine bc (fun h => ?_) (fun h => ?_) | refine br_t' (by assumption) ?_ | refine br_f' (by assumption) ?_ | refine br_i (fun h => ?_) (fun h => ?_)) | refine xg (by assumption) rfl ?_ | refine And.intro (by first | kernel_rfl | omega | (simp only [List.length_append, List.length_cons, List.length_nil, List.length_map, List.length_take, List.length_replicate]; omega) | decide) ?_)
        all_goals conv => whnf
        all_goals simp [hc]
    · have e2 : has l id = false := by
        rw [Bool.eq_false_iff, ne_eq, hh]
        rintro ⟨h, _⟩; omega
      rw [e2]
      repeat' ((conv => whnf); first | (with_reducible first | refine br_t ?_ | refine br_f ?_ | refine xa (by assumption) ?_ | refine xg (by assumption) rfl ?_ | refine xo (by assumption) ?_ | refine xb (by assumption) rfl ?_ | refine xm (by assumption) ?_ | refine xc (by assumption) ?_) | rw [List.length_map] | ((with_reducible refine bc_t ?_ ?_); (first | omega | decide)) | ((with_reducible refine bc_f ?_ ?_); (first | omega | decide)) | (with_reducible first | refine bc (fun h => ?_) (fun h => ?_) | refine br_t' (by assumption) ?_ | refine br_f' (by assumption) ?_ | refine br_i (fun h => ?_) (fun h => ?_)) | refine xg (by assumption) rfl ?_ | refine And.intro (by first | kernel_rfl | omega | (simp only [List.length_append, List.length_cons, List.length_nil, List.length_map, List.length_take, List.length_replicate]; omega) | decide) ?_)
      all_goals conv => whnf
      all_goals rfl
end Go.Proofs.Ytjbnfoipjnkjdaa




/- Fields, layer 3: find, place, Find, the reference's At, Great, Same. No conditions. -/
namespace Go.Proofs.Ytjbnfoipjnkjdaa
open Go.RowKit Go.Sort Sx
abbrev retIB (i : Int) (b : Bool) : DV := .tup [.one (i64 i), .one (bol b)]
theorem fchk_ok {l : List Pt} (h : fchk l = 0) : l.length ≤ 64 ∧ (∀ p ∈ l, p.chk = 0) ∧ incr l = true := by
  unfold fchk at h
  split at h
  · omega
  · split at h
    · rename_i h1 h2
      split at h
      · rename_i h3
        exact ⟨by omega, fun p hp => by simpa using List.all_eq_true.1 h2 p hp, h3⟩
      · omega
    · omega
theorem fchk_cases (l : List Pt) : fchk l = 0 ∨ fchk l = 4 ∨ fchk l = 8 ∨ fchk l = 32 := by
  unfold fchk; split <;> (try split) <;> (try split) <;> simp
theorem ffind_fn (l : List Pt) (id : Int) (hs : incr l = true) (hl : l.length ≤ 1000000) : FnOK Try.prog 79 [fld l, .one (i64 id)] (retIB (pos l id : Nat) (has l id)) := by
  refine fn_ok (by kernel_rfl) ty_ok Try.func79 rfl (fun _ _ => Try.call79 _ _) rfl ?_
  intro hw
  have HC := bsPt_fn l id hs hl
  repeat' ((conv => whnf); first | (with_reducible first | refine br_t ?_ | refine br_f ?_ | refine xa (by assumption) ?_ | refine xg (by assumption) rfl ?_ | refine xo (by assumption) ?_ | refine xb (by assumption) rfl ?_ | refine xm (by assumption) ?_ | refine xc (by assumption) ?_) | ((with_reducible refine bc_t ?_ ?_); (first | omega | decide)) | ((with_reducible refine bc_f ?_ ?_); (first | omega | decide)) | (with_reducible first | refine bc (fun h => ?_) (fun h => ?_) | refine br_t' (by assumption) ?_ | refine br_f' (by assumption) ?_ | refine br_i (fun h => ?_) (fun h => ?_)) | refine xg (by assumption) rfl ?_ | refine And.intro (by first | kernel_rfl | omega | (simp only [List.length_append, List.length_cons, List.length_nil, List.length_map, List.length_take, List.length_replicate]; omega) | decide) ?_)
  all_goals conv => whnf
  all_goals rfl
def placeV (l : List Pt) (id : Int) : Int × Int := if fchk l = 0 then (if has l id then ((pos l id : Nat), 0) else (0, 6)) else (0, fchk l)
theorem fplace_fn (l : List Pt) (id : Int) : FnOK Try.prog 65 [fld l, .one (i64 id)] (ret2 (placeV l id)) := by
  refine fn_ok (by kernel_rfl) ty_ok Try.func65 rfl (fun _ _ => Try.call65 _ _) rfl ?_
  intro hw
  have H1 := fCheck_fn l
  unfold placeV
  by_cases h0 : fchk l = 0
  · obtain ⟨k1, k2, k3⟩ := fchk_ok h0
    have H2 := ffind_fn l id k3 (by omega)
    rw [h0] at H1
    rw [if_pos h0]
    cases hh : has l id <;> rw [hh] at H2
    all_goals
      repeat' ((conv => whnf); first | (with_reducible first | refine br_t ?_ | refine br_f ?_ | refine xa (by assumption) ?_ | refine xg (by assumption) rfl ?_ | refine xo (by assumption) ?_ | refine xb (by assumption) rfl ?_ | refine xm (by assumption) ?_ | refine xc (by assumption) ?_) | ((with_reducible refine bc_t ?_ ?_); (first | omega | decide)) | ((with_reducible refine bc_f ?_ ?_); (first | omega | decide)) | (with_reducible first | refine bc (fun h => ?_) (fun h => ?_) | refine br_t' (by assumption) ?_ | refine br_f' (by assumption) ?_ | refine br_i (fun h => ?_) (fun h => ?_)) | refine xg (by assumption) rfl ?_ | refine And.intro (by first | kernel_rfl | omega | (simp only [List.length_append, List.length_cons, List.length_nil, List.length_map, List.length_take, List.length_replicate]; omega) | decide) ?_)
      all_goals conv => whnf
      all_goals rfl
  · rw [if_neg h0]
    repeat' ((conv => whnf); first | (with_reducible first | refine br_t ?_ | refine br_f ?_ | refine xa (by assumption) ?_ | refine xg (by assumption) rfl ?_ | refine xo (by assumption) ?_ | refine xb (by assumption) rfl ?_ | refine xm (by assumption) ?_ | refine xc (by assumption) ?_) | ((with_reducible refine bc_t ?_ ?_); (first | omega | decide)) | ((with_reducible refine bc_f ?_ ?_); (first | omega | decide)) | (with_reducible first | refine bc (fun h => ?_) (fun h => ?_) | refine br_t' (by assumption) ?_ | refine br_f' (by assumption) ?_ | refine br_i (fun h => ?_) (fun h => ?_)) | refine xg (by assumption) rfl ?_ | refine And.intro (by first | kernel_rfl | omega | (simp only [List.length_append, List.length_cons, List.length_nil, List.length_map, List.length_take, List.length_replicate]; omega) | decide) ?_)
    all_goals conv => whnf
    all_goals rfl
/-- Go's reference: where the point with an ID stands, or -1 -/
def at1 : List Pt → Int → Int → Int
  | [], _, _ => -1
  | p :: l, id, i => if p.id = id then i else at1 l id (i + 1)
theorem at1_drop {l : List Pt} {id : Int} : ∀ {n i : Nat}, n = l.length - i → i ≤ l.length → (∀ k (h : k < l.length), k < i → l[k].id ≠ id) → at1 l id 0 = at1 (l.drop i) id i := by
  intro n i
  induction i generalizing n with
  | zero => intro _ _ _; rfl
  | succ i ih =>
    intro hn hi h
    have hlt : i < l.length := by omega
    rw [ih (n := n + 1) (by omega) (by omega) (fun k hk hki => h k hk (by omega)), List.drop_eq_getElem_cons hlt, at1, if_neg (h i hlt (by omega))]
    rfl
theorem rfAt_fn (l : List Pt) (id : Int) : FnOK Try.prog 66 [fld l, .one (i64 id)] (ret1 (at1 l id 0)) := by
  refine fn_ok (by kernel_rfl) ty_ok Try.func66 rfl (fun _ _ => Try.call66 _ _) rfl ?_
  intro hw
  simp only [WDCs, WDC, WDs] at hw
  obtain ⟨w1, w2⟩ := wd_pts hw.1.1
  repeat' ((conv => whnf); first | (with_reducible first | refine br_t ?_ | refine br_f ?_ | refine xa (by assumption) ?_ | refine xg (by assumption) rfl ?_ | refine xo (by assumption) ?_ | refine xb (by assumption) rfl ?_ | refine xm (by assumption) ?_ | refine xc (by assumption) ?_) | ((with_reducible refine bc_t ?_ ?_); (first | omega | decide)) | ((with_reducible refine bc_f ?_ ?_); (first | omega | decide)) | (with_reducible first | refine bc (fun h => ?_) (fun h => ?_) | refine br_t' (by assumption) ?_ | refine br_f' (by assumption) ?_ | refine br_i (fun h => ?_) (fun h => ?_)) | refine xg (by assumption) rfl ?_ | refine And.intro (by first | kernel_rfl | omega | (simp only [List.length_append, List.length_cons, List.length_nil, List.length_map, List.length_take, List.length_replicate]; omega) | decide) ?_)
  refine loop_J (by kernel_rfl) ty_ok (σ := Nat) (fun i => [(5, sV (.int .i64 i))]) (fun _ => []) (fun i => i ≤ l.length ∧ ∀ k (h : k < l.length), k < i → l[k].id ≠ id) (fun i => l.length - i) 0 ⟨by omega, fun k _ h => absurd h (Nat.not_lt_zero _)⟩ ?_ ?_
  · (conv => whnf); refine ⟨by repeat' (first | with_reducible exact zE0 | with_reducible refine zE1 ?_ ?_ | rfl | assumption | (refine ent_i ?_; (first | omega | (rw [IntWalk.i64_in _ (by omega)]; omega) | (simp; done))) | (refine ent_b ?_; (first | omega | (rw [IntWalk.i64_in _ (by omega)]; omega) | (simp; done)))), by repeat' (first | with_reducible exact zH0 | with_reducible refine zH1 ?_ ?_ | rfl | assumption), rfl⟩
  rintro i ⟨hi, hI⟩
  rcases Nat.lt_or_ge i l.length with hlt | hge
  · have hel := pts_get hlt
    by_cases hc : l[i].id = id
    · have e : at1 l id 0 = i := by rw [at1_drop rfl hi hI, List.drop_eq_getElem_cons hlt, at1, if_pos hc]
      rw [e]
      repeat' ((conv => whnf); first | (with_reducible first | refine br_t ?_ | refine br_f ?_ | refine xa (by assumption) ?_ | refine xg (by assumption) rfl ?_ | refine xo (by assumption) ?_ | refine xb (by assumption) rfl ?_ | refine xm (by assumption) ?_ | refine xc (by assumption) ?_) | rw [List.length_map] | ((with_reducible refine bc_t ?_ ?_); (first | omega | decide)) | ((with_reducible refine bc_f ?_ ?_); (first | omega | decide)) | (with_reducible first | refine bc (fun h => ?_) (fun h => ?_) | refine br_t' (by assumption) ?_ | refine br_f' (by assumption) ?_ | refine br_i (fun h => ?_) (fun h => ?_)) | refine xg (by assumption) rfl ?_ | refine And.intro (by first | kernel_rfl | omega | (simp only [List.length_append, List.length_cons, List.length_nil, List.length_map, List.length_take, List.length_replicate]; omega) | decide) ?_)
      all_goals conv => whnf
      all_goals rfl
    · repeat' ((conv => whnf); first | (with_reducible first | refine br_t ?_ | refine br_f ?_ | refine xa (by assumption) ?_ | refine xg (by assumption) rfl ?_ | refine xo (by assumption) ?_ | refine xb (by assumption) rfl ?_ | refine xm (by assumption) ?_ | refine xc (by assumption) ?_) | rw [List.length_map] | ((with_reducible refine bc_t ?_ ?_); (first | omega | decide)) | ((with_reducible refine bc_f ?_ ?_); (first | omega | decide)) | (with_reducible first | refine bc (fun h => ?_) (fun h => ?_) | refine br_t' (by assumption) ?_ | refine br_f' (by assumption) ?_ | refine br_i (fun h => ?_) (fun h => ?_)) | refine xg (by assumption) rfl ?_ | refine And.intro (by first | kernel_rfl | omega | (simp only [List.length_append, List.length_cons, List.length_nil, List.length_map, List.length_take, List.length_replicate]; omega) | decide) ?_)
      all_goals conv => whnf
      refine ⟨i + 1, ⟨by omega, fun k hk hki => ?_⟩, ?_, by omega⟩
      · rcases Nat.lt_or_ge k i with h1 | h1
        · exact hI k hk h1
        · have : k = i := by omega
          subst this; exact hc
      · (conv => whnf); refine ⟨by repeat' (first | with_reducible exact zE0 | with_reducible refine zE1 ?_ ?_ | rfl | assumption | (refine ent_i ?_; (first | omega | (rw [IntWalk.i64_in _ (by omega)]; omega) | (simp; done))) | (refine ent_b ?_; (first | omega | (rw [IntWalk.i64_in _ (by omega)]; omega) | (simp; done)))), by repeat' (first | with_reducible exact zH0 | with_reducible refine zH1 ?_ ?_ | rfl | assumption), rfl⟩
  · have e : at1 l id 0 = -1 := by rw [at1_drop rfl hi hI, List.drop_eq_nil_of_le hge, at1]
    rw [e]
    repeat' ((conv => whnf); first | (with_reducible first | refine br_t ?_ | refine br_f ?_ | refine xa (by assumption) ?_ | refine xg (by assumption) rfl ?_ | refine xo (by assumption) ?_ | refine xb (by assumption) rfl ?_ | refine xm (by assumption) ?_ | refine xc (by assumption) ?_) | rw [List.length_map] | ((with_reducible refine bc_t ?_ ?_); (first | omega | decide)) | ((with_reducible refine bc_f ?_ ?_); (first | omega | decide)) | (with_reducible first | refine bc (fun h => ?_) (fun h => ?_) | refine br_t' (by assumption) ?_ | refine br_f' (by assumption) ?_ | refine br_i (fun h => ?_) (fun h => ?_)) | refine xg (by assumption) rfl ?_ | refine And.intro (by first | kernel_rfl | omega | (simp only [List.length_append, List.length_cons, List.length_nil, List.length_map, List.length_take, List.length_replicate]; omega) | decide) ?_)
    all_goals conv => whnf
    all_goals rfl
def great (l : List Pt) : Bool := decide (16 < l.length ∧ l.length < 64 ∨ 70 < l.length)
end Go.Proofs.Ytjbnfoipjnkjdaa





/- Models: checks, copies, comparing. No conditions. -/
namespace Go.Proofs.Ytjbnfoipjnkjdaa
open Go.RowKit Go.Sort Sx
theorem Pt.eq_iff {p q : Pt} : p = q ↔ p.id = q.id ∧ p.a = q.a ∧ p.b = q.b := by
  cases p; cases q; simp
theorem take_all_eq {α : Type} {a b : List α} {i : Nat} (h : a.take i = b.take i) (hl : a.length = b.length) (hi : a.length ≤ i) : a = b := by
  rw [List.take_of_length_le hi, List.take_of_length_le (by omega)] at h; exact h
theorem take_succ_eq {α : Type} {a b : List α} {i : Nat} (h : a.take i = b.take i) (h1 : i < a.length) (h2 : i < b.length) (e : a[i] = b[i]) : a.take (i + 1) = b.take (i + 1) := by
  rw [List.take_succ_eq_append_getElem h1, List.take_succ_eq_append_getElem h2, h, e]
theorem ne_of_get {α : Type} {a b : List α} {i : Nat} (h1 : i < a.length) (h2 : i < b.length) (e : a[i] ≠ b[i]) : a ≠ b := by
  rintro rfl; exact e rfl
/-- a model -/
structure Md where
  n : Int
  d : Int
  l : List Pt
  deriving DecidableEq, Inhabited
def Md.c (m : Md) : List D := [i64 m.n, i64 m.d, pts m.l]
abbrev Md.dc (m : Md) : DC := .agg [i64 m.n, i64 m.d, pts m.l]
abbrev mdl0 : DC := .agg [i64 0, i64 0, .list 3 []]
def mchk (m : Md) : Int := if askd m.n m.d = 0 ∧ fchk m.l = 0 then 0 else 8
theorem mchk_08 (m : Md) : mchk m = 0 ∨ mchk m = 8 := by unfold mchk; split <;> simp
theorem mchk_ok {m : Md} (h : mchk m = 0) : askd m.n m.d = 0 ∧ fchk m.l = 0 := by
  unfold mchk at h
  split at h
  · assumption
  · omega
theorem mchk_orN (m : Md) : mchk m = if orN (askd m.n m.d) (fchk m.l) = 0 then 0 else 8 := by
  unfold mchk orN
  by_cases h : askd m.n m.d = 0 <;> simp [h]
theorem rfSame_fn (a b : List Pt) : FnOK Try.prog 25 [fld a, fld b] (.c (.one (bol (decide (a = b))))) := by
  refine fn_ok (by kernel_rfl) ty_ok Try.func25 rfl (fun _ _ => Try.call25 _ _) rfl ?_
  intro hw
  simp only [WDCs, WDC, WDs] at hw
  obtain ⟨w1, _⟩ := wd_pts hw.1.1
  obtain ⟨w2, _⟩ := wd_pts hw.2.1.1
  clear hw
  by_cases h0 : a.length = b.length
  · repeat' ((conv => whnf); first | (with_reducible first | refine br_t ?_ | refine br_f ?_ | refine xa (by assumption) ?_ | refine xg (by assumption) rfl ?_ | refine xo (by assumption) ?_ | refine xb (by assumption) rfl ?_ | refine xm (by assumption) ?_ | refine xc (by assumption) ?_) | rw [List.length_map] | ((with_reducible refine bc_t ?_ ?_); (first | omega | decide)) | ((with_reducible refine bc_f ?_ ?_); (first | omega | decide)) | (with_reducible first | refine bc (fun h => ?_) (fun h => ?_) | refine br_t' (by assumption) ?_ | refine br_f' (by assumption) ?_ | refine br_i (fun h => ?_) (fun h => ?_) | refine xi (pv_bool fun _ => nev89 _ _ _ _ _ _ _ _ _) ?_) | refine xg (by assumption) rfl ?_ | refine And.intro (by first | kernel_rfl | omega | (simp only [List.length_append, List.length_cons, List.length_nil, List.length_map, List.length_take, List.length_replicate]; omega) | decide) ?_)
    refine loop_J (by kernel_rfl) ty_ok (σ := Nat) (fun i => [(5, sV (.int .i64 i))]) (fun _ => []) (fun i => i ≤ a.length ∧ a.take i = b.take i) (fun i => a.length - i) 0 ⟨by omega, rfl⟩ ?_ ?_
    · (conv => whnf); refine ⟨by repeat' (first | with_reducible exact zE0 | with_reducible refine zE1 ?_ ?_ | rfl | assumption | (refine ent_i ?_; (first | omega | (rw [IntWalk.i64_in _ (by omega)]; omega) | (simp; done))) | (refine ent_b ?_; (first | omega | (rw [IntWalk.i64_in _ (by omega)]; omega) | (simp; done)))), by repeat' (first | with_reducible exact zH0 | with_reducible refine zH1 ?_ ?_ | rfl | assumption), rfl⟩
    rintro i ⟨hi, hI⟩
    rcases Nat.lt_or_ge i a.length with hlt | hge
    · have hb : i < b.length := by omega
      have he1 := pts_get hlt
      have he2 := pts_get hb
      by_cases hc : a[i] = b[i]
      · have hq := Pt.eq_iff.1 hc
        repeat' ((conv => whnf); first | (with_reducible first | refine br_t ?_ | refine br_f ?_ | refine xa (by assumption) ?_ | refine xg (by assumption) rfl ?_ | refine xo (by assumption) ?_ | refine xb (by assumption) rfl ?_ | refine xm (by assumption) ?_ | refine xc (by assumption) ?_) | rw [List.length_map] | ((with_reducible refine bc_t ?_ ?_); (first | omega | decide)) | ((with_reducible refine bc_f ?_ ?_); (first | omega | decide)) | (with_reducible first | refine bc (fun h => ?_) (fun h => ?_) | refine br_t' (by assumption) ?_ | refine br_f' (by assumption) ?_ | refine br_i (fun h => ?_) (fun h => ?_) | refine xi (pv_bool fun _ => nev89 _ _ _ _ _ _ _ _ _) ?_) | refine xg (by assumption) rfl ?_ | refine And.intro (by first | kernel_rfl | omega | (simp only [List.length_append, List.length_cons, List.length_nil, List.length_map, List.length_take, List.length_replicate]; omega) | decide) ?_)
        all_goals conv => whnf
        refine ⟨i + 1, ⟨by omega, take_succ_eq hI hlt hb hc⟩, ?_, by omega⟩
        (conv => whnf); refine ⟨by repeat' (first | with_reducible exact zE0 | with_reducible refine zE1 ?_ ?_ | rfl | assumption | (refine ent_i ?_; (first | omega | (rw [IntWalk.i64_in _ (by omega)]; omega) | (simp; done))) | (refine ent_b ?_; (first | omega | (rw [IntWalk.i64_in _ (by omega)]; omega) | (simp; done)))), by repeat' (first | with_reducible exact zH0 | with_reducible refine zH1 ?_ ?_ | rfl | assumption), rfl⟩
      · have hq := mt Pt.eq_iff.2 hc
        rw [decide_eq_false (ne_of_get hlt hb hc)]
        repeat' ((conv => whnf); first | (with_reducible first | refine br_t ?_ | refine br_f ?_ | refine xa (by assumption) ?_ | refine xg (by assumption) rfl ?_ | refine xo (by assumption) ?_ | refine xb (by assumption) rfl ?_ | refine xm (by assumption) ?_ | refine xc (by assumption) ?_) | rw [List.length_map] | ((with_reducible refine bc_t ?_ ?_); (first | omega | decide)) | ((with_reducible refine bc_f ?_ ?_); (first | omega | decide)) | (with_reducible first | refine bc (fun h => ?_) (fun h => ?_) | refine br_t' (by assumption) ?_ | refine br_f' (by assumption) ?_ | refine br_i (fun h => ?_) (fun h => ?_) | refine xi (pv_bool fun _ => nev89 _ _ _ _ _ _ _ _ _) ?_) | refine xg (by assumption) rfl ?_ | refine And.intro (by first | kernel_rfl | omega | (simp only [List.length_append, List.length_cons, List.length_nil, List.length_map, List.length_take, List.length_replicate]; omega) | decide) ?_)
        all_goals conv => whnf
        all_goals rfl
    · rw [decide_eq_true (take_all_eq hI h0 hge)]
      repeat' ((conv => whnf); first | (with_reducible first | refine br_t ?_ | refine br_f ?_ | refine xa (by assumption) ?_ | refine xg (by assumption) rfl ?_ | refine xo (by assumption) ?_ | refine xb (by assumption) rfl ?_ | refine xm (by assumption) ?_ | refine xc (by assumption) ?_) | rw [List.length_map] | ((with_reducible refine bc_t ?_ ?_); (first | omega | decide)) | ((with_reducible refine bc_f ?_ ?_); (first | omega | decide)) | (with_reducible first | refine bc (fun h => ?_) (fun h => ?_) | refine br_t' (by assumption) ?_ | refine br_f' (by assumption) ?_ | refine br_i (fun h => ?_) (fun h => ?_) | refine xi (pv_bool fun _ => nev89 _ _ _ _ _ _ _ _ _) ?_) | refine xg (by assumption) rfl ?_ | refine And.intro (by first | kernel_rfl | omega | (simp only [List.length_append, List.length_cons, List.length_nil, List.length_map, List.length_take, List.length_replicate]; omega) | decide) ?_)
      all_goals conv => whnf
      all_goals rfl
  · rw [decide_eq_false (fun h => h0 (congrArg List.length h))]
    repeat' ((conv => whnf); first | (with_reducible first | refine br_t ?_ | refine br_f ?_ | refine xa (by assumption) ?_ | refine xg (by assumption) rfl ?_ | refine xo (by assumption) ?_ | refine xb (by assumption) rfl ?_ | refine xm (by assumption) ?_ | refine xc (by assumption) ?_) | rw [List.length_map] | ((with_reducible refine bc_t ?_ ?_); (first | omega | decide)) | ((with_reducible refine bc_f ?_ ?_); (first | omega | decide)) | (with_reducible first | refine bc (fun h => ?_) (fun h => ?_) | refine br_t' (by assumption) ?_ | refine br_f' (by assumption) ?_ | refine br_i (fun h => ?_) (fun h => ?_) | refine xi (pv_bool fun _ => nev89 _ _ _ _ _ _ _ _ _) ?_) | refine xg (by assumption) rfl ?_ | refine And.intro (by first | kernel_rfl | omega | (simp only [List.length_append, List.length_cons, List.length_nil, List.length_map, List.length_take, List.length_replicate]; omega) | decide) ?_)
    all_goals conv => whnf
    all_goals rfl
theorem ofirst_fn (a b : Int) : FnOK Try.prog 47 [.one (.list 1 [[i64 a], [i64 b]])] (ret1 (orN a b)) := by
  refine fn_ok (by kernel_rfl) ty_ok Try.func47 rfl (fun _ _ => Try.call47 _ _) rfl ?_
  intro hw
  repeat' ((conv => whnf); first | (with_reducible first | refine br_t ?_ | refine br_f ?_ | refine xa (by assumption) ?_ | refine xg (by assumption) rfl ?_ | refine xo (by assumption) ?_ | refine xb (by assumption) rfl ?_ | refine xm (by assumption) ?_ | refine xc (by assumption) ?_) | ((with_reducible refine bc_t ?_ ?_); (first | omega | decide)) | ((with_reducible refine bc_f ?_ ?_); (first | omega | decide)) | (with_reducible first | refine bc (fun h => ?_) (fun h => ?_) | refine br_t' (by assumption) ?_ | refine br_f' (by assumption) ?_ | refine br_i (fun h => ?_) (fun h => ?_)) | refine xg (by assumption) rfl ?_ | refine And.intro (by first | kernel_rfl | omega | (simp only [List.length_append, List.length_cons, List.length_nil, List.length_map, List.length_take, List.length_replicate]; omega) | decide) ?_)
  refine loop_J (by kernel_rfl) ty_ok (σ := Nat) (fun i => [(7, sV (.int .i64 i))]) (fun _ => []) (fun i => i = 0 ∨ (i = 1 ∧ a = 0) ∨ (i = 2 ∧ a = 0 ∧ b = 0)) (fun i => 2 - i) 0 (.inl rfl) ?_ ?_
  · (conv => whnf); refine ⟨by repeat' (first | with_reducible exact zE0 | with_reducible refine zE1 ?_ ?_ | rfl | assumption | (refine ent_i ?_; (first | omega | (rw [IntWalk.i64_in _ (by omega)]; omega) | (simp; done))) | (refine ent_b ?_; (first | omega | (rw [IntWalk.i64_in _ (by omega)]; omega) | (simp; done)))), by repeat' (first | with_reducible exact zH0 | with_reducible refine zH1 ?_ ?_ | rfl | assumption), rfl⟩
  intro i hi
  have hlen : ([[i64 a], [i64 b]] : List (List D)).length = 2 := rfl
  have hel0 : ([[i64 a], [i64 b]] : List (List D))[((0 : Nat) : Int).toNat]? = some [i64 a] := rfl
  have hel1 : ([[i64 a], [i64 b]] : List (List D))[((1 : Nat) : Int).toNat]? = some [i64 b] := rfl
  have q0 : 0 ≤ ((0 : Nat) : Int) ∧ ((0 : Nat) : Int) < (([[i64 a], [i64 b]] : List (List D)).length : Int) := ⟨by omega, by simp⟩
  have q1 : 0 ≤ ((1 : Nat) : Int) ∧ ((1 : Nat) : Int) < (([[i64 a], [i64 b]] : List (List D)).length : Int) := ⟨by omega, by simp⟩
  rcases hi with rfl | ⟨rfl, h1⟩ | ⟨rfl, h1, h2⟩
  · repeat' ((conv => whnf); first | (with_reducible first | refine br_t ?_ | refine br_f ?_ | refine xa (by assumption) ?_ | refine xg (by assumption) rfl ?_ | refine xo (by assumption) ?_ | refine xb (by assumption) rfl ?_ | refine xm (by assumption) ?_ | refine xc (by assumption) ?_) | first | (refine (Exists.intro _ (And.intro (And.intro hel0 (Nat.le_of_ble_eq_true rfl)) ?_))) | (refine And.intro q0 ?_) | ((with_reducible refine bc_t ?_ ?_); (first | omega | decide)) | ((with_reducible refine bc_f ?_ ?_); (first | omega | decide)) | (with_reducible first | refine bc (fun h => ?_) (fun h => ?_) | refine br_t' (by assumption) ?_ | refine br_f' (by assumption) ?_ | refine br_i (fun h => ?_) (fun h => ?_)) | refine xg (by assumption) rfl ?_ | refine And.intro (by first | kernel_rfl | omega | (simp only [List.length_append, List.length_cons, List.length_nil, List.length_map, List.length_take, List.length_replicate]; omega) | decide) ?_)
    all_goals conv => whnf
    · refine r_int ?_
      unfold orN; rw [if_neg (by assumption)]
    · refine ⟨1, .inr (.inl ⟨rfl, by omega⟩), ?_, by show 2 - 1 < 2 - 0; decide⟩
      (conv => whnf); refine ⟨by repeat' (first | with_reducible exact zE0 | with_reducible refine zE1 ?_ ?_ | rfl | assumption | (refine ent_i ?_; (first | omega | (rw [IntWalk.i64_in _ (by omega)]; omega) | (simp; done))) | (refine ent_b ?_; (first | omega | (rw [IntWalk.i64_in _ (by omega)]; omega) | (simp; done)))), by repeat' (first | with_reducible exact zH0 | with_reducible refine zH1 ?_ ?_ | rfl | assumption), rfl⟩
  · repeat' ((conv => whnf); first | (with_reducible first | refine br_t ?_ | refine br_f ?_ | refine xa (by assumption) ?_ | refine xg (by assumption) rfl ?_ | refine xo (by assumption) ?_ | refine xb (by assumption) rfl ?_ | refine xm (by assumption) ?_ | refine xc (by assumption) ?_) | first | (refine (Exists.intro _ (And.intro (And.intro hel1 (Nat.le_of_ble_eq_true rfl)) ?_))) | (refine And.intro q1 ?_) | ((with_reducible refine bc_t ?_ ?_); (first | omega | decide)) | ((with_reducible refine bc_f ?_ ?_); (first | omega | decide)) | (with_reducible first | refine bc (fun h => ?_) (fun h => ?_) | refine br_t' (by assumption) ?_ | refine br_f' (by assumption) ?_ | refine br_i (fun h => ?_) (fun h => ?_)) | refine xg (by assumption) rfl ?_ | refine And.intro (by first | kernel_rfl | omega | (simp only [List.length_append, List.length_cons, List.length_nil, List.length_map, List.length_take, List.length_replicate]; omega) | decide) ?_)
    all_goals conv => whnf
    · refine r_int ?_
      unfold orN; rw [if_pos h1]
    · refine ⟨2, .inr (.inr ⟨rfl, h1, by omega⟩), ?_, by show 2 - 2 < 2 - 1; decide⟩
      (conv => whnf); refine ⟨by repeat' (first | with_reducible exact zE0 | with_reducible refine zE1 ?_ ?_ | rfl | assumption | (refine ent_i ?_; (first | omega | (rw [IntWalk.i64_in _ (by omega)]; omega) | (simp; done))) | (refine ent_b ?_; (first | omega | (rw [IntWalk.i64_in _ (by omega)]; omega) | (simp; done)))), by repeat' (first | with_reducible exact zH0 | with_reducible refine zH1 ?_ ?_ | rfl | assumption), rfl⟩
  · repeat' ((conv => whnf); first | (with_reducible first | refine br_t ?_ | refine br_f ?_ | refine xa (by assumption) ?_ | refine xg (by assumption) rfl ?_ | refine xo (by assumption) ?_ | refine xb (by assumption) rfl ?_ | refine xm (by assumption) ?_ | refine xc (by assumption) ?_) | ((with_reducible refine bc_t ?_ ?_); (first | omega | decide)) | ((with_reducible refine bc_f ?_ ?_); (first | omega | decide)) | (with_reducible first | refine bc (fun h => ?_) (fun h => ?_) | refine br_t' (by assumption) ?_ | refine br_f' (by assumption) ?_ | refine br_i (fun h => ?_) (fun h => ?_)) | refine xg (by assumption) rfl ?_ | refine And.intro (by first | kernel_rfl | omega | (simp only [List.length_append, List.length_cons, List.length_nil, List.length_map, List.length_take, List.length_replicate]; omega) | decide) ?_)
    all_goals conv => whnf
    refine r_int ?_
    unfold orN; rw [if_pos h1]; exact h2.symm
theorem oCheck_fn (m : Md) : FnOK Try.prog 29 [m.dc] (ret1 (mchk m)) := by
  refine fn_ok (by kernel_rfl) ty_ok Try.func29 rfl (fun _ _ => Try.call29 _ _) rfl ?_
  intro hw
  clear hw
  rw [mchk_orN]
  have H := ofirst_fn (askd m.n m.d) (fchk m.l)
  generalize orN (askd m.n m.d) (fchk m.l) = z at *
  by_cases h : z = 0
  all_goals
    repeat' ((conv => whnf); first | (with_reducible first | refine br_t ?_ | refine br_f ?_ | refine xa (by assumption) ?_ | refine xg (by assumption) rfl ?_ | refine xo (by assumption) ?_ | refine xb (by assumption) rfl ?_ | refine xm (by assumption) ?_ | refine xc (by assumption) ?_ | refine xi (asked_fn _ _) ?_ | refine xi (fCheck_fn _) ?_) | ((with_reducible refine bc_t ?_ ?_); (first | omega | decide)) | ((with_reducible refine bc_f ?_ ?_); (first | omega | decide)) | (with_reducible first | refine bc (fun h => ?_) (fun h => ?_) | refine br_t' (by assumption) ?_ | refine br_f' (by assumption) ?_ | refine br_i (fun h => ?_) (fun h => ?_)) | refine xg (by assumption) rfl ?_ | refine And.intro (by first | kernel_rfl | omega | (simp only [List.length_append, List.length_cons, List.length_nil, List.length_map, List.length_take, List.length_replicate]; omega) | decide) ?_)
    all_goals conv => whnf
    all_goals simp [h]
theorem roCheck_fn (m : Md) : FnOK Try.prog 31 [m.dc] (ret1 (mchk m)) := by
  refine fn_ok (by kernel_rfl) ty_ok Try.func31 rfl (fun _ _ => Try.call31 _ _) rfl ?_
  intro hw
  clear hw
  unfold mchk
  have H1 := rasked_fn m.n m.d
  have H2 := rfCheck_fn m.l
  generalize askd m.n m.d = z at *
  generalize fchk m.l = y at *
  by_cases h : z = 0 <;> by_cases h' : y = 0
  all_goals
    repeat' ((conv => whnf); first | (with_reducible first | refine br_t ?_ | refine br_f ?_ | refine xa (by assumption) ?_ | refine xg (by assumption) rfl ?_ | refine xo (by assumption) ?_ | refine xb (by assumption) rfl ?_ | refine xm (by assumption) ?_ | refine xc (by assumption) ?_) | ((with_reducible refine bc_t ?_ ?_); (first | omega | decide)) | ((with_reducible refine bc_f ?_ ?_); (first | omega | decide)) | (with_reducible first | refine bc (fun h => ?_) (fun h => ?_) | refine br_t' (by assumption) ?_ | refine br_f' (by assumption) ?_ | refine br_i (fun h => ?_) (fun h => ?_)) | refine xg (by assumption) rfl ?_ | refine And.intro (by first | kernel_rfl | omega | (simp only [List.length_append, List.length_cons, List.length_nil, List.length_map, List.length_take, List.length_replicate]; omega) | decide) ?_)
    all_goals conv => whnf
    all_goals simp [h, h']
theorem rfTwin_fn (l : List Pt) (hl : l.length ≤ 1000000) : FnOK Try.prog 28 [fld l] (.c (fld l)) := by
  refine fn_ok (by kernel_rfl) (ty_okK [6] [] []) Try.func28 rfl (fun _ _ => Try.call28 _ _) rfl ?_
  intro hw
  repeat' ((conv => whnf); first | (with_reducible first | refine br_t ?_ | refine br_f ?_ | refine xa (by assumption) ?_ | refine xg (by assumption) rfl ?_ | refine xo (by assumption) ?_ | refine xb (by assumption) rfl ?_ | refine xm (by assumption) ?_ | refine xc (by assumption) ?_) | rw [List.length_map] | ((with_reducible refine bc_t ?_ ?_); (first | omega | decide)) | ((with_reducible refine bc_f ?_ ?_); (first | omega | decide)) | (with_reducible first | refine bc (fun h => ?_) (fun h => ?_) | refine br_t' (by assumption) ?_ | refine br_f' (by assumption) ?_ | refine br_i (fun h => ?_) (fun h => ?_)) | refine xg (by assumption) rfl ?_ | refine And.intro (by first | kernel_rfl | omega | (simp only [List.length_append, List.length_cons, List.length_nil, List.length_map, List.length_take, List.length_replicate]; omega) | decide) ?_)
  all_goals conv => whnf
  all_goals rfl
theorem roTwin_fn (m : Md) (hl : m.l.length ≤ 1000000) : FnOK Try.prog 8 [m.dc] (.c m.dc) := by
  refine fn_ok (by kernel_rfl) ty_ok Try.func8 rfl (fun _ _ => Try.call8 _ _) rfl ?_
  intro hw
  have H := rfTwin_fn m.l hl
  repeat' ((conv => whnf); first | (with_reducible first | refine br_t ?_ | refine br_f ?_ | refine xa (by assumption) ?_ | refine xg (by assumption) rfl ?_ | refine xo (by assumption) ?_ | refine xb (by assumption) rfl ?_ | refine xm (by assumption) ?_ | refine xc (by assumption) ?_) | ((with_reducible refine bc_t ?_ ?_); (first | omega | decide)) | ((with_reducible refine bc_f ?_ ?_); (first | omega | decide)) | (with_reducible first | refine bc (fun h => ?_) (fun h => ?_) | refine br_t' (by assumption) ?_ | refine br_f' (by assumption) ?_ | refine br_i (fun h => ?_) (fun h => ?_)) | refine xg (by assumption) rfl ?_ | refine And.intro (by first | kernel_rfl | omega | (simp only [List.length_append, List.length_cons, List.length_nil, List.length_map, List.length_take, List.length_replicate]; omega) | decide) ?_)
  all_goals conv => whnf
  all_goals rfl
theorem roSameModel_fn (m n : Md) : FnOK Try.prog 16 [m.dc, n.dc] (.c (.one (bol (decide (m = n))))) := by
  refine fn_ok (by kernel_rfl) ty_ok Try.func16 rfl (fun _ _ => Try.call16 _ _) rfl ?_
  intro hw
  clear hw
  have H := rfSame_fn m.l n.l
  have he : (m = n) ↔ (m.n = n.n ∧ m.d = n.d) ∧ m.l = n.l := by cases m; cases n; simp [and_assoc]
  rw [show decide (m = n) = decide ((m.n = n.n ∧ m.d = n.d) ∧ m.l = n.l) from decide_eq_decide.2 he]
  by_cases h : m.n = n.n ∧ m.d = n.d
  all_goals
    cases hz : decide (m.l = n.l)
    all_goals
      rw [hz] at H
      repeat' ((conv => whnf); first | (with_reducible first | refine br_t ?_ | refine br_f ?_ | refine xa (by assumption) ?_ | refine xg (by assumption) rfl ?_ | refine xo (by assumption) ?_ | refine xb (by assumption) rfl ?_ | refine xm (by assumption) ?_ | refine xc (by assumption) ?_) | ((with_reducible refine bc_t ?_ ?_); (first | omega | decide)) | ((with_reducible refine bc_f ?_ ?_); (first | omega | decide)) | (with_reducible first | refine bc (fun h => ?_) (fun h => ?_) | refine br_t' (by assumption) ?_ | refine br_f' (by assumption) ?_ | refine br_i (fun h => ?_) (fun h => ?_) | refine xi (pv_bool fun _ => eqv23 _ _ _ _ _ _ _) ?_) | refine xg (by assumption) rfl ?_ | refine And.intro (by first | kernel_rfl | omega | (simp only [List.length_append, List.length_cons, List.length_nil, List.length_map, List.length_take, List.length_replicate]; omega) | decide) ?_)
      all_goals conv => whnf
      all_goals simp at hz
      all_goals simp [h, hz]
end Go.Proofs.Ytjbnfoipjnkjdaa

/- A law's arguments: models. No conditions of its own. -/
namespace Go.Proofs.Ytjbnfoipjnkjdaa
open Go Go.RowKit Sx
namespace Sx
def shModel : Sh := .st (.fc 2 shRatio (.fc 1 shField .f0))
end Sx
theorem fits_model {ds : List D} (h : Fits shModel ds) : ∃ m : Md, ds = m.c := by
  obtain ⟨_, _, rfl, h1, _, _, rfl, h2, rfl⟩ := h
  obtain ⟨n, d, rfl⟩ := fits_ratio h1
  obtain ⟨l, rfl⟩ := fits_field h2
  exact ⟨⟨n, d, l⟩, rfl⟩
theorem fit_model {c : DC} (h : FitC shModel c) : ∃ m : Md, c = m.dc := by
  obtain ⟨ds, rfl, h⟩ := h
  obtain ⟨m, rfl⟩ := fits_model h
  exact ⟨m, rfl⟩
end Go.Proofs.Ytjbnfoipjnkjdaa
