/- A symbolic walk: how the tie between the symbolic state and the world goes on. Plain lemmas. No conditions. -/
import Derived.Test.YtffamgiknfphaaaSxB
namespace Go.Proofs.Ytffamgiknfphaaa
open Go Go.RowKit

set_option linter.unusedVariables false
namespace Sx

theorem look_cons {α : Type} (k : Nat) (x : α) (r : List (Nat × α)) (t : Nat) : look ((k, x) :: r) t = if k = t then some x else look r t := rfl

theorem At.oneCell {ρ : Nat → Nat} {w : World} {M : Nat → Prop} : ∀ {a : At} {v : Value}, AtR ρ w M a v → v.oneCell' = true
  | .d x, v, h => by
    have h : Rep w M x v := h
    cases h <;> first | rfl | assumption
  | .ptr n o, v, h => by simp only [AtR] at h; subst h; rfl
  | .osl n len cap, v, h => by simp only [AtR] at h; subst h; rfl
  | .ep k l i o, v, ⟨b, off, e, _⟩ => by subst e; rfl
  | .fn f caps, v, h => by simp only [AtR] at h; subst h; rfl

theorem cells_oneCell {v : Value} (h : v.oneCell' = true) : v.cells = #[v] := by
  cases v <;> first | rfl | (simp [Value.oneCell'] at h)

theorem AtsR.length {ρ : Nat → Nat} {w : World} {M : Nat → Prop} : ∀ {a : List At} {v : List Value}, AtsR ρ w M a v → v.length = a.length
  | [], [], _ => rfl
  | a :: l, v :: vs, h => by simp [AtsR.length h.2]
  | [], _ :: _, h => h.elim
  | _ :: _, [], h => h.elim
theorem AtsR.get {ρ : Nat → Nat} {w : World} {M : Nat → Prop} : ∀ {a : List At} {v : List Value}, AtsR ρ w M a v → ∀ (i : Nat) (x : At), a[i]? = some x → ∃ u, v[i]? = some u ∧ AtR ρ w M x u
  | [], [], _, i, x, h => by simp at h
  | a :: l, v :: vs, h, 0, x, hx => by simp at hx; subst hx; exact ⟨v, rfl, h.1⟩
  | a :: l, v :: vs, h, i + 1, x, hx => by simpa using AtsR.get h.2 i x (by simpa using hx)
  | [], _ :: _, h, _, _, _ => h.elim
  | _ :: _, [], h, _, _, _ => h.elim
theorem AtsR.drop {ρ : Nat → Nat} {w : World} {M : Nat → Prop} : ∀ (n : Nat) {a : List At} {v : List Value}, AtsR ρ w M a v → AtsR ρ w M (a.drop n) (v.drop n)
  | 0, _, _, h => h
  | n + 1, [], [], h => h
  | n + 1, a :: l, v :: vs, h => AtsR.drop n h.2
  | n + 1, [], _ :: _, h => h.elim
  | n + 1, _ :: _, [], h => h.elim
theorem AtsR.take {ρ : Nat → Nat} {w : World} {M : Nat → Prop} : ∀ (n : Nat) {a : List At} {v : List Value}, AtsR ρ w M a v → AtsR ρ w M (a.take n) (v.take n)
  | 0, _, _, h => trivial
  | n + 1, [], [], h => h
  | n + 1, a :: l, v :: vs, h => ⟨h.1, AtsR.take n h.2⟩
  | n + 1, [], _ :: _, h => h.elim
  | n + 1, _ :: _, [], h => h.elim
theorem AtsR.setL {ρ : Nat → Nat} {w : World} {M : Nat → Prop} : ∀ (o : Nat) {a : List At} {v : List Value} {xs : List At} {us : List Value}, AtsR ρ w M a v → AtsR ρ w M xs us → AtsR ρ w M (setL a o xs) (setL v o us)
  | o, a, v, [], [], h, _ => by cases o <;> cases a <;> cases v <;> first | exact h | exact h.elim
  | o, [], [], x :: xs, u :: us, h, _ => by simp only [Sx.setL]; trivial
  | 0, a :: l, v :: vs, x :: xs, u :: us, h, k => ⟨k.1, AtsR.setL 0 h.2 k.2⟩
  | o + 1, a :: l, v :: vs, x :: xs, u :: us, h, k => ⟨h.1, AtsR.setL o h.2 k⟩
  | _, [], _ :: _, _, _, h, _ => h.elim
  | _, _ :: _, [], _, _, h, _ => h.elim
  | _, _, _, [], _ :: _, _, k => k.elim
  | _, _, _, _ :: _, [], _, k => k.elim
theorem SCR.cells {ρ : Nat → Nat} {w : World} {M : Nat → Prop} : ∀ {x : SC} {v : Value}, SCR ρ w M x v → AtsR ρ w M (cellsC x) v.cells.toList
  | .at a, v, h => by rw [cells_oneCell (At.oneCell h)]; exact ⟨h, trivial⟩
  | .agg l, v, ⟨vs, e, h⟩ => by subst e; simpa [Value.cells, cellsC] using h
theorem SCsR.get {ρ : Nat → Nat} {w : World} {M : Nat → Prop} : ∀ {a : List SC} {v : List Value}, SCsR ρ w M a v → ∀ (i : Nat) (x : SC), a[i]? = some x → ∃ u, v[i]? = some u ∧ SCR ρ w M x u
  | [], [], _, i, x, h => by simp at h
  | a :: l, v :: vs, h, 0, x, hx => by simp at hx; subst hx; exact ⟨v, rfl, h.1⟩
  | a :: l, v :: vs, h, i + 1, x, hx => by simpa using SCsR.get h.2 i x (by simpa using hx)
  | [], _ :: _, h, _, _, _ => h.elim
  | _ :: _, [], h, _, _, _ => h.elim
theorem DsR.ats {ρ : Nat → Nat} {w : World} {M : Nat → Prop} : ∀ {a : List D} {v : List Value}, DsR w M a v ↔ AtsR ρ w M (a.map .d) v
  | [], [] => Iff.rfl
  | a :: l, v :: vs => ⟨fun h => ⟨h.1, DsR.ats.1 h.2⟩, fun h => ⟨h.1, DsR.ats.2 h.2⟩⟩
  | [], _ :: _ => Iff.rfl
  | _ :: _, [] => Iff.rfl
theorem DCR.emb {ρ : Nat → Nat} {w : World} {M : Nat → Prop} : ∀ {a : DC} {v : Value}, DCR w M a v ↔ SCR ρ w M (embC a) v
  | .one x, v => Iff.rfl
  | .agg l, v => by simp only [DCR, SCR, embC, DsR.ats (ρ := ρ)]
theorem DCsR.emb {ρ : Nat → Nat} {w : World} {M : Nat → Prop} : ∀ {a : List DC} {v : List Value}, DCsR w M a v ↔ SCsR ρ w M (a.map embC) v
  | [], [] => Iff.rfl
  | a :: l, v :: vs => ⟨fun h => ⟨DCR.emb.1 h.1, DCsR.emb.1 h.2⟩, fun h => ⟨DCR.emb.2 h.1, DCsR.emb.2 h.2⟩⟩
  | [], _ :: _ => Iff.rfl
  | _ :: _, [] => Iff.rfl
theorem DVR.emb {ρ : Nat → Nat} {w : World} {M : Nat → Prop} : ∀ {a : DV} {v : Value}, DVR w M a v ↔ SVR ρ w M (embV a) v
  | .c x, v => DCR.emb
  | .tup l, v => by simp only [DVR, SVR, embV, DCsR.emb (ρ := ρ)]

theorem names_map_d (l : List D) : namesA (l.map .d) = [] := by induction l with
  | nil => rfl
  | cons x l ih => simp [namesA, At.names]
theorem names_embC (x : DC) : (embC x).names = [] := by cases x <;> simp [embC, SC.names, At.names, names_map_d]
theorem names_embV (x : DV) : (embV x).names = [] := by
  cases x with
  | c x => exact names_embC x
  | tup l => simp [embV, SV.names, namesC, names_embC]

/-! ### slots -/
theorem put_other {a : Act} {dst : Option Tmp} {v : Value} {t : Nat} (h : dst ≠ some t) : (a.put dst v).tmps.getD t undef = a.tmps.getD t undef := by
  cases dst with
  | none => rfl
  | some d =>
    have : d ≠ t := fun e => h (by rw [e])
    simp [Act.put, Array.getElem?_setIfInBounds_ne this]
theorem put_same {a : Act} {d : Tmp} {v : Value} (h : d < a.tmps.size) : (a.put (some d) v).tmps.getD d undef = v := by simp [Act.put, h]
theorem put_size {a : Act} {dst : Option Tmp} {v : Value} : (a.put dst v).tmps.size = a.tmps.size := by cases dst <;> simp [Act.put]
theorem put_defers {a : Act} {dst : Option Tmp} {v : Value} : (a.put dst v).defers = a.defers := by cases dst <;> rfl

section
variable {M0 : Nat → Prop} {w0 w w' : World} {sz : Nat} {ρ : Nat → Nat} {E : Env} {H : Hp} {a : Act}

theorem Rel.grow (R : Rel M0 w0 sz ρ E H a w) (hb : Below w.heap.size w w') : Rel M0 w0 sz ρ E H a w' := by
  have hh : Holds (Mof M0 ρ H) w w' := .of_below hb
  refine ⟨R.below.trans (hb.mono R.below.size), R.out, fun t x h => (R.env t x h).mono hh (fun _ _ h => h), R.lo, fun n b h => Nat.lt_of_lt_of_le (R.hi n b h) hb.size, fun n b h => ?_, R.inj, R.defers, R.size, R.clE, R.clH⟩
  obtain ⟨cs, ⟨T, hc⟩, hv⟩ := R.blk n b h
  exact ⟨cs, ⟨T, (hb.block _ (R.hi n b h)).trans hc⟩, hv.mono hh (fun _ _ h => h)⟩

theorem Rel.val (R : Rel M0 w0 sz ρ E H a w) {dst : Option Nat} {x : SV} {v : Value} (hd : ∀ d, dst = some d → d < sz) (hx : SVR ρ w (Mof M0 ρ H) x v) (hn : ∀ n ∈ x.names, (look H n).isSome = true) :
    Rel M0 w0 sz ρ (apE dst (.val x) E) H (a.put dst v) w := by
  cases dst with
  | none => exact R
  | some d =>
    refine ⟨R.below, R.out, fun t y h => ?_, R.lo, R.hi, R.blk, R.inj, by rw [put_defers]; exact R.defers, by rw [put_size]; exact R.size, fun t y h => ?_, R.clH⟩
    · simp only [apE, look_cons] at h
      split at h
      · rename_i e; subst e
        injection h with h; subst h
        rw [put_same (by rw [R.size]; exact hd _ rfl)]
        exact hx
      · rename_i e
        rw [put_other (by simpa using e)]
        exact R.env t y h
    · simp only [apE, look_cons] at h
      split at h
      · injection h with h; subst h; exact hn
      · exact R.clE t y h

def upd (ρ : Nat → Nat) (n b : Nat) : Nat → Nat := fun m => if m = n then b else ρ m
theorem upd_same (ρ : Nat → Nat) (n b : Nat) : upd ρ n b n = b := by simp [upd]
theorem upd_other {ρ : Nat → Nat} {n b m : Nat} (h : m ≠ n) : upd ρ n b m = ρ m := by simp [upd, h]

theorem Rel.new (R : Rel M0 w0 sz ρ E H a w) {d n : Nat} {b : Blk} {cs : List Value} {T : TypeId} {x : SV} {v : Value} (hd : d < sz) (hf : look H n = none)
    (hb : BlkC ρ w (Mof M0 ρ H) cs b) (hbn : ∀ m ∈ b.names, (look H m).isSome = true)
    (hx : ∀ ρ' w' M', ρ' n = w.heap.size → SVR ρ' w' M' x v) (hxn : ∀ m ∈ x.names, m = n) :
    Rel M0 w0 sz (upd ρ n w.heap.size) (apE (some d) (.new n b x) E) (apH (.new n b x) H) (a.put (some d) v) (w.alloc (.cells cs.toArray T)) := by
  have hbl : Below w.heap.size w (w.alloc (.cells cs.toArray T)) := (Below.refl _ _).alloc (Nat.le_refl _) _
  have hne : ∀ m, (look H m).isSome = true → m ≠ n := fun m hm e => by rw [e, hf] at hm; cases hm
  have hρ : ∀ m, (look H m).isSome = true → upd ρ n w.heap.size m = ρ m := fun m hm => upd_other (hne m hm)
  have hlk : ∀ m c, look H m = some c → (look H m).isSome = true := fun m c h => by rw [h]; rfl
  have hM : ∀ k, k < w.heap.size → Mof M0 (upd ρ n w.heap.size) ((n, b) :: H) k → Mof M0 ρ H k := by
    rintro k hk (h | ⟨m, hm, e⟩)
    · exact .inl h
    · by_cases hmn : n = m
      · subst hmn; rw [upd_same] at e; omega
      · rw [look_cons, if_neg hmn] at hm
        exact .inr ⟨m, hm, by rw [← hρ m hm]; exact e⟩
  have hsz : (w.alloc (.cells cs.toArray T)).heap.size = w.heap.size + 1 := by simp
  have hold : Holds (Mof M0 ρ H) w (w.alloc (.cells cs.toArray T)) := .of_below hbl
  have hin : ∀ m, (look H m).isSome = true → (look ((n, b) :: H) m).isSome = true := fun m hm => by
    rw [look_cons]; split
    · rfl
    · exact hm
  refine ⟨R.below.trans (hbl.mono R.below.size), R.out, fun t y h => ?_, fun m c h => ?_, fun m c h => ?_, fun m c h => ?_, fun m m' hm hm' e => ?_, by rw [put_defers]; exact R.defers, by rw [put_size]; exact R.size, fun t y h => ?_, fun m c h => ?_⟩
  · simp only [apE, look_cons] at h
    split at h
    · rename_i e; subst e
      injection h with h; subst h
      rw [put_same (by rw [R.size]; exact hd)]
      exact hx _ _ _ (upd_same _ _ _)
    · rename_i e
      rw [put_other (by simpa using e)]
      exact ((R.env t y h).mono hold hM).rename fun m hm => hρ m (R.clE t y h m hm)
  · simp only [apH, look_cons] at h
    split at h
    · rename_i e; subst e; rw [upd_same]; exact R.below.size
    · rw [hρ m (hlk m c h)]; exact R.lo m c h
  · simp only [apH, look_cons] at h
    split at h
    · rename_i e; subst e; rw [upd_same]; omega
    · rw [hρ m (hlk m c h)]; have := R.hi m c h; omega
  · simp only [apH, look_cons] at h
    split at h
    · rename_i e; subst e
      injection h with h; subst h
      rw [upd_same]
      exact ⟨cs, ⟨T, heap_alloc_new w _⟩, (hb.mono hold hM).rename fun m hm => hρ m (hbn m hm)⟩
    · rw [hρ m (hlk m c h)]
      obtain ⟨us, ⟨T', hc⟩, hv⟩ := R.blk m c h
      exact ⟨us, ⟨T', (hbl.block _ (R.hi m c h)).trans hc⟩, (hv.mono hold hM).rename fun k hk => hρ k (R.clH m c h k hk)⟩
  · simp only [apH, look_cons] at hm hm'
    by_cases h1 : n = m <;> by_cases h2 : n = m'
    · omega
    · rw [if_neg h2] at hm'
      obtain ⟨c, hc⟩ := Option.isSome_iff_exists.1 hm'
      have := R.hi m' c hc
      rw [← h1, upd_same, hρ m' hm'] at e; omega
    · rw [if_neg h1] at hm
      obtain ⟨c, hc⟩ := Option.isSome_iff_exists.1 hm
      have := R.hi m c hc
      rw [← h2, upd_same, hρ m hm] at e; omega
    · rw [if_neg h1] at hm
      rw [if_neg h2] at hm'
      rw [hρ m hm, hρ m' hm'] at e
      exact R.inj m m' hm hm' e
  · simp only [apE, look_cons] at h
    split at h
    · injection h with h; subst h
      intro m hm
      rw [hxn m hm]; simp [apH, look_cons]
    · exact fun m hm => hin m (R.clE t y h m hm)
  · simp only [apH, look_cons] at h
    split at h
    · injection h with h; subst h
      exact fun k hk => hin k (hbn k hk)
    · exact fun k hk => hin k (R.clH m c h k hk)

theorem Rel.put (R : Rel M0 w0 sz ρ E H a w) {n : Nat} {b b' : Blk} {cs : List Value} (hn : look H n = some b')
    (hos : w'.os = w.os) (htape : w'.tape = w.tape) (hout : w'.output = w.output) (hsize : w'.heap.size = w.heap.size) (hother : ∀ k, k ≠ ρ n → w'.heap[k]? = w.heap[k]?) (hat : CellsAt w' (ρ n) cs)
    (hb : BlkC ρ w (Mof M0 ρ H) cs b) (hbn : ∀ m ∈ b.names, (look H m).isSome = true) :
    Rel M0 w0 sz ρ E (apH (.put n b) H) a w' := by
  have hmn : Mof M0 ρ H (ρ n) := .inr ⟨n, by rw [hn]; rfl, rfl⟩
  have hold : Holds (Mof M0 ρ H) w w' := ⟨by omega, fun k _ hk => hother k fun e => hk (by rw [e]; exact hmn)⟩
  have hin : ∀ m, (look ((n, b) :: H) m).isSome = (look H m).isSome := fun m => by
    rw [look_cons]; split
    · rename_i e; subst e; rw [hn]; rfl
    · rfl
  have hM : ∀ k, Mof M0 ρ ((n, b) :: H) k → Mof M0 ρ H k := by
    rintro k (h | ⟨m, hm, e⟩)
    · exact .inl h
    · exact .inr ⟨m, by rw [← hin]; exact hm, e⟩
  have hsm : ∀ m c, look ((n, b) :: H) m = some c → ∃ c', look H m = some c' := fun m c h => by
    have := hin m
    rw [h] at this
    exact Option.isSome_iff_exists.1 this.symm
  refine ⟨R.below.trans ⟨hos, htape, hout, by omega, fun k hk => hother k fun e => ?_⟩, R.out, fun t y h => (R.env t y h).mono hold (fun k _ => hM k), fun m c h => ?_, fun m c h => ?_, fun m c h => ?_, fun m m' hm hm' e => ?_, R.defers, R.size, fun t y h => ?_, fun m c h => ?_⟩
  · have := R.lo n b' hn; omega
  · obtain ⟨c', h'⟩ := hsm m c h; exact R.lo m c' h'
  · obtain ⟨c', h'⟩ := hsm m c h; rw [hsize]; exact R.hi m c' h'
  · simp only [apH, look_cons] at h
    split at h
    · rename_i e; subst e
      injection h with h; subst h
      exact ⟨cs, hat, hb.mono hold (fun k _ => hM k)⟩
    · rename_i e
      obtain ⟨us, ⟨T', hc⟩, hv⟩ := R.blk m c h
      refine ⟨us, ⟨T', (hother _ fun e' => ?_).trans hc⟩, hv.mono hold (fun k _ => hM k)⟩
      exact e (R.inj m n (by rw [h]; rfl) (by rw [hn]; rfl) e').symm
  · simp only [apH, hin] at hm hm'
    exact R.inj m m' hm hm' e
  · simp only [apH, hin]; exact R.clE t y h
  · simp only [apH, hin]
    simp only [apH, look_cons] at h
    split at h
    · injection h with h; subst h; exact hbn
    · exact R.clH m c h

/-- only what is looked up matters -/
theorem Rel.same (R : Rel M0 w0 sz ρ E H a w) {E' : Env} {H' : Hp} (hE : ∀ t x, look E' t = some x → look E t = some x) (hH : ∀ n, look H' n = look H n) : Rel M0 w0 sz ρ E' H' a w := by
  have hM : ∀ k, Mof M0 ρ H' k → Mof M0 ρ H k := by
    rintro k (h | ⟨m, hm, e⟩)
    · exact .inl h
    · exact .inr ⟨m, by rw [← hH]; exact hm, e⟩
  have hold : Holds (Mof M0 ρ H) w w := .refl _ _
  refine ⟨R.below, R.out, fun t y h => (R.env t y (hE t y h)).mono hold (fun k _ => hM k), fun m c h => R.lo m c (by rw [← hH]; exact h), fun m c h => R.hi m c (by rw [← hH]; exact h), fun m c h => ?_, fun m m' hm hm' e => R.inj m m' (by rw [← hH]; exact hm) (by rw [← hH]; exact hm') e, R.defers, R.size, fun t y h n hn => ?_, fun m c h n hn => ?_⟩
  · obtain ⟨cs, hc, hv⟩ := R.blk m c (by rw [← hH]; exact h)
    exact ⟨cs, hc, hv.mono hold (fun k _ => hM k)⟩
  · rw [hH]; exact R.clE t y (hE t y h) n hn
  · rw [hH]; exact R.clH m c (by rw [← hH]; exact h) n hn
/-- names may be let go -/
theorem Rel.less (R : Rel M0 w0 sz ρ E H a w) {E' : Env} {H' : Hp} (hE : ∀ t x, look E' t = some x → look E t = some x) (hH : ∀ n b, look H' n = some b → look H n = some b)
    (hcE : ∀ t x, look E' t = some x → ∀ n ∈ x.names, (look H' n).isSome = true) (hcH : ∀ n b, look H' n = some b → ∀ m ∈ b.names, (look H' m).isSome = true) : Rel M0 w0 sz ρ E' H' a w := by
  have hs : ∀ n, (look H' n).isSome = true → (look H n).isSome = true := fun n h => by
    obtain ⟨b, hb⟩ := Option.isSome_iff_exists.1 h
    rw [hH n b hb]; rfl
  have hM : ∀ k, Mof M0 ρ H' k → Mof M0 ρ H k := by
    rintro k (h | ⟨m, hm, e⟩)
    · exact .inl h
    · exact .inr ⟨m, hs m hm, e⟩
  have hold : Holds (Mof M0 ρ H) w w := .refl _ _
  refine ⟨R.below, R.out, fun t y h => (R.env t y (hE t y h)).mono hold (fun k _ => hM k), fun m c h => R.lo m c (hH m c h), fun m c h => R.hi m c (hH m c h), fun m c h => ?_, fun m m' hm hm' e => R.inj m m' (hs m hm) (hs m' hm') e, R.defers, R.size, hcE, hcH⟩
  obtain ⟨cs, hc, hv⟩ := R.blk m c (hH m c h)
  exact ⟨cs, hc, hv.mono hold (fun k _ => hM k)⟩
end
end Sx
end Go.Proofs.Ytffamgiknfphaaa
