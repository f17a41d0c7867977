/- A symbolic walk: loops whose state keeps a condition; pieces of code taken one by one; what is needed no more is let go. No conditions beyond the types' table. -/
import Derived.Test.YtffamgiknfphaaaSxK
namespace Go.Proofs.Ytffamgiknfphaaa
open Go Go.RowKit
set_option linter.unusedVariables false
namespace Sx
section
variable {P : Program} {M0 : Nat → Prop} {w0 w : World} {sz : Nat} {ρ : Nat → Nat} {E : Env} {H : Hp} {a : Act} {Γ : List (Nat × TD)}

theorem loop_I (hm : P.follows .mixedOrders = true) (hΓ : ∀ t td, look Γ t = some td → TyOK P t td) {σ : Type} (st : σ → Env × Hp) (I : σ → Prop) (μ : σ → Nat) {body : Code} {k : Exit → Env → Hp → Prop} (s0 : σ) (i0 : I s0) (h0 : Ent E H (st s0).1 (st s0).2)
    (hr : ∀ s, I s → code P Γ sz body (st s).1 (st s).2 (fun ex E' H' => match ex with | .normal => ∃ s', I s' ∧ Ent E' H' (st s').1 (st s').2 ∧ μ s' < μ s | ex => k ex E' H')) : LoopP P sz body E H k := by
  refine ⟨fun M0 w0 ρ a w Q R hQ => ?_⟩
  refine wp_loopG (fun n a w => ∃ s ρ, I s ∧ μ s = n ∧ Rel M0 w0 sz ρ (st s).1 (st s).2 a w) (n := μ s0) ⟨s0, ρ, i0, rfl, R.ent h0⟩ ?_
  rintro n a w ⟨s, ρ, hI, rfl, R⟩
  refine code_sound hm hΓ body _ _ _ (hr s hI) ρ a w _ R fun ex E' H' ρ' a' w' hk R' => ?_
  cases ex with
  | normal =>
    obtain ⟨s', h0, h1, h2⟩ := hk
    exact ⟨_, h2, s', ρ', h0, rfl, R'.ent h1⟩
  | _ => exact hQ _ _ _ _ _ _ hk R'

/-- so many rounds of a loop at most -/
structure RoundsP (P : Program) (sz n : Nat) (body : Code) (E : Env) (H : Hp) (k : Exit → Env → Hp → Prop) : Prop where
  run : ∀ (M0 : Nat → Prop) (w0 : World) (ρ : Nat → Nat) (a : Act) (w : World) (Q : Exit → Act → World → Prop), Rel M0 w0 sz ρ E H a w →
    (∀ ex E' H' ρ' a' w', k ex E' H' → Rel M0 w0 sz ρ' E' H' a' w' → Q ex a' w') → Code.rounds P body Q n a w
theorem loop_rounds (n : Nat) {body : Code} {k : Exit → Env → Hp → Prop} (h : RoundsP P sz n body E H k) : LoopP P sz body E H k :=
  ⟨fun M0 w0 ρ a w Q R hQ => wp_loop_rounds n (h.run M0 w0 ρ a w Q R hQ)⟩
def allB (K : List Nat) : List Nat → Bool
  | [] => true
  | n :: l => match memB n K with | true => allB K l | false => false
/-- what names only these -/
def fE (K : List Nat) : List Nat → Env → Env
  | _, [] => []
  | D, (t, x) :: r => match memB t D with
    | true => fE K D r
    | false => match allB K x.names with | true => (t, x) :: fE K (t :: D) r | false => fE K (t :: D) r
def fH (K : List Nat) : List Nat → Hp → Hp
  | _, [] => []
  | D, (t, x) :: r => match memB t D with
    | true => fH K D r
    | false => match memB t K && allB K x.names with | true => (t, x) :: fH K (t :: D) r | false => fH K (t :: D) r
def kE (K : List Nat) : List Nat → Env → (Env → Prop) → Prop
  | _, [], k => k []
  | D, (t, x) :: r, k => match memB t D with
    | true => kE K D r k
    | false => match allB K x.names with | true => kE K (t :: D) r fun r' => k ((t, x) :: r') | false => kE K (t :: D) r k
def kH (K : List Nat) : List Nat → Hp → (Hp → Prop) → Prop
  | _, [], k => k []
  | D, (t, x) :: r, k => match memB t D with
    | true => kH K D r k
    | false => match memB t K && allB K x.names with | true => kH K (t :: D) r fun r' => k ((t, x) :: r') | false => kH K (t :: D) r k
theorem kE_iff (K : List Nat) : ∀ (E : Env) (D : List Nat) (k : Env → Prop), kE K D E k ↔ k (fE K D E)
  | [], D, k => Iff.rfl
  | (t, x) :: r, D, k => by
    simp only [kE, fE]
    split
    · exact kE_iff K r D k
    · split
      · exact kE_iff K r _ _
      · exact kE_iff K r _ _
theorem kH_iff (K : List Nat) : ∀ (E : Hp) (D : List Nat) (k : Hp → Prop), kH K D E k ↔ k (fH K D E)
  | [], D, k => Iff.rfl
  | (t, x) :: r, D, k => by
    simp only [kH, fH]
    split
    · exact kH_iff K r D k
    · split
      · exact kH_iff K r _ _
      · exact kH_iff K r _ _
theorem fE_look (K : List Nat) : ∀ (E : Env) (D : List Nat) (t : Nat) (x : SV), look (fE K D E) t = some x → t ∉ D ∧ look E t = some x
  | [], D, t, x, h => by simp [fE, look] at h
  | (k, y) :: r, D, t, x, h => by
    simp only [fE] at h
    split at h
    · rename_i hm
      obtain ⟨h1, h2⟩ := fE_look K r D t x h
      refine ⟨h1, ?_⟩
      rw [look_cons, if_neg (by rintro rfl; exact h1 (memB_iff.1 hm))]
      exact h2
    · rename_i hm
      have hm' : k ∉ D := fun h' => by rw [memB_iff.2 h'] at hm; cases hm
      split at h
      · rw [look_cons] at h
        split at h
        · rename_i e
          subst e
          injection h with h
          subst h
          exact ⟨hm', by rw [look_cons, if_pos rfl]⟩
        · rename_i e
          obtain ⟨h1, h2⟩ := fE_look K r _ t x h
          exact ⟨fun h' => h1 (List.mem_cons_of_mem _ h'), by rw [look_cons, if_neg e]; exact h2⟩
      · obtain ⟨h1, h2⟩ := fE_look K r _ t x h
        refine ⟨fun h' => h1 (List.mem_cons_of_mem _ h'), ?_⟩
        rw [look_cons, if_neg (by rintro rfl; exact h1 (List.mem_cons_self ..))]
        exact h2
theorem fH_look (K : List Nat) : ∀ (E : Hp) (D : List Nat) (t : Nat) (x : Blk), look (fH K D E) t = some x → t ∉ D ∧ look E t = some x
  | [], D, t, x, h => by simp [fH, look] at h
  | (k, y) :: r, D, t, x, h => by
    simp only [fH] at h
    split at h
    · rename_i hm
      obtain ⟨h1, h2⟩ := fH_look K r D t x h
      refine ⟨h1, ?_⟩
      rw [look_cons, if_neg (by rintro rfl; exact h1 (memB_iff.1 hm))]
      exact h2
    · rename_i hm
      have hm' : k ∉ D := fun h' => by rw [memB_iff.2 h'] at hm; cases hm
      split at h
      · rw [look_cons] at h
        split at h
        · rename_i e
          subst e
          injection h with h
          subst h
          exact ⟨hm', by rw [look_cons, if_pos rfl]⟩
        · rename_i e
          obtain ⟨h1, h2⟩ := fH_look K r _ t x h
          exact ⟨fun h' => h1 (List.mem_cons_of_mem _ h'), by rw [look_cons, if_neg e]; exact h2⟩
      · obtain ⟨h1, h2⟩ := fH_look K r _ t x h
        refine ⟨fun h' => h1 (List.mem_cons_of_mem _ h'), ?_⟩
        rw [look_cons, if_neg (by rintro rfl; exact h1 (List.mem_cons_self ..))]
        exact h2
/-- all but what these names need is let go -/
theorem Rel.keep (R : Rel M0 w0 sz ρ E H a w) (K : List Nat) (h : clB (fE K [] E) (fH K [] H) = true) : Rel M0 w0 sz ρ (fE K [] E) (fH K [] H) a w := by
  simp only [clB, Bool.and_eq_true, List.all_eq_true, keysB] at h
  exact R.less (fun t x hx => (fE_look K E [] t x hx).2) (fun n b hb => (fH_look K H [] n b hb).2) (fun t x hx n hn => h.1 (t, x) (look_mem hx) n hn) (fun n b hb m hm => h.2 (n, b) (look_mem hb) m hm)

theorem rounds_step (K : List Nat) (hm : P.follows .mixedOrders = true) (hΓ : ∀ t td, look Γ t = some td → TyOK P t td) {n : Nat} {body : Code} {k : Exit → Env → Hp → Prop}
    (h : code P Γ sz body E H (fun ex E' H' => match ex with | .normal => kE K [] E' fun E1 => kH K [] H' fun H1 => clB E1 H1 = true ∧ RoundsP P sz n body E1 H1 k | ex => k ex E' H')) : RoundsP P sz (n + 1) body E H k := by
  refine ⟨fun M0 w0 ρ a w Q R hQ => ?_⟩
  rw [rounds_succ]
  refine code_sound hm hΓ body _ _ _ h ρ a w _ R fun ex E' H' ρ' a' w' hk R' => ?_
  cases ex with
  | normal =>
    have hk : kE K [] E' fun E1 => kH K [] H' fun H1 => clB E1 H1 = true ∧ RoundsP P sz n body E1 H1 k := hk
    rw [kE_iff, kH_iff] at hk
    exact hk.2.run _ _ _ _ _ _ (R'.keep K hk.1) hQ
  | _ => exact hQ _ _ _ _ _ _ hk R'

/-- a piece of code, what is asked of it -/
structure CodeP (P : Program) (sz : Nat) (c : Code) (E : Env) (H : Hp) (k : Exit → Env → Hp → Prop) : Prop where
  run : ∀ (M0 : Nat → Prop) (w0 : World) (ρ : Nat → Nat) (a : Act) (w : World) (Q : Exit → Act → World → Prop), Rel M0 w0 sz ρ E H a w →
    (∀ ex E' H' ρ' a' w', k ex E' H' → Rel M0 w0 sz ρ' E' H' a' w' → Q ex a' w') → c.wp P Q a w
theorem codeP_of (hm : P.follows .mixedOrders = true) (hΓ : ∀ t td, look Γ t = some td → TyOK P t td) {c : Code} {k : Exit → Env → Hp → Prop} (h : code P Γ sz c E H k) : CodeP P sz c E H k :=
  ⟨fun M0 w0 ρ a w Q R hQ => code_sound hm hΓ c E H k h ρ a w Q R hQ⟩
theorem codeP_seq (hm : P.follows .mixedOrders = true) (hΓ : ∀ t td, look Γ t = some td → TyOK P t td) {c d : Code} {k : Exit → Env → Hp → Prop}
    (h : code P Γ sz c E H (fun ex E' H' => match ex with | .normal => CodeP P sz d E' H' k | ex => k ex E' H')) : CodeP P sz (.seq c d) E H k := by
  refine ⟨fun M0 w0 ρ a w Q R hQ => wp_seq (code_sound hm hΓ c E H _ h ρ a w _ R fun ex E' H' ρ' a' w' hk R' => ?_)⟩
  cases ex <;> first
  | exact hk.run _ _ _ _ _ _ R' hQ
  | exact hQ _ _ _ _ _ _ hk R'
theorem codeP_ent {c : Code} {k : Exit → Env → Hp → Prop} {E1 : Env} {H1 : Hp} (h : CodeP P sz c E1 H1 k) (he : Ent E H E1 H1) : CodeP P sz c E H k :=
  ⟨fun M0 w0 ρ a w Q R hQ => h.run _ _ _ _ _ _ (R.ent he) hQ⟩
theorem brb_tt {A B : Prop} (h : A) : br (true == true) A B := br_t h
theorem brb_ff {A B : Prop} (h : A) : br (false == false) A B := br_t h
theorem brb_tf {A B : Prop} (h : B) : br (true == false) A B := br_f h
theorem brb_ft {A B : Prop} (h : B) : br (false == true) A B := br_f h
theorem bnb_tt {A B : Prop} (h : B) : br (true != true) A B := br_f h
theorem bnb_ff {A B : Prop} (h : B) : br (false != false) A B := br_f h
theorem bnb_tf {A B : Prop} (h : A) : br (true != false) A B := br_t h
theorem bnb_ft {A B : Prop} (h : A) : br (false != true) A B := br_t h
end
end Sx
end Go.Proofs.Ytffamgiknfphaaa
