/- A symbolic walk: loops whose state keeps a condition; pieces of code taken one by one; what is needed no more is let go. No conditions beyond the types' table. -/
import Derived.Test.YtkobebnijkanhaaSxK
namespace Go.Proofs.Ytkobebnijkanhaa
open Go Go.RowKit
set_option linter.unusedVariables false
namespace Sx
section
variable {P : Program} {M0 : Nat → Prop} {w0 w : World} {sz : Nat} {ρ : Nat → Nat} {E : Env} {H : Hp} {a : Act} {Γ : List (Nat × TD)}

theorem loop_I (hm : P.follows .mixedOrders = true) (hΓ : ∀ t td, look Γ t = some td → TyOK P t td) {σ : Type} (st : σ → Env × Hp) (I : σ → Prop) (μ : σ → Nat) {body : Code} {k : Exit → Env → Hp → Prop} (s0 : σ) (i0 : I s0) (h0 : Ent E H (st s0).1 (st s0).2)
    (hr : ∀ s, I s → code P Γ sz body (st s).1 (st s).2 (fun ex E' H' => match ex with | .normal => ∃ s', I s' ∧ Ent E' H' (st s').1 (st s').2 ∧ μ s' < μ s | ex => k ex E' H')) : LoopP P sz body E H k := by
  refine ⟨fun M0 w0 ρ a w Q R hQ => ?_⟩
  refine wp_loopG (fun n a w => ∃ s ρ, I s ∧ μ s = n ∧ Rel M0 w0 sz ρ (st s).1 (st s).2 a w) (n := μ s0) ⟨s0, ρ, i0, rfl, R.ent h0⟩ ?_
  rintro n a w ⟨s, ρ, hI, rfl, R⟩
  refine code_sound hm hΓ body _ _ _ (hr s hI) ρ a w _ R fun ex E' H' ρ' a' w' hk R' => ?_
  cases ex with
  | normal =>
    obtain ⟨s', h0, h1, h2⟩ := hk
    exact ⟨_, h2, s', ρ', h0, rfl, R'.ent h1⟩
  | _ => exact hQ _ _ _ _ _ _ hk R'

/-- a piece of code, what is asked of it -/
structure CodeP (P : Program) (sz : Nat) (c : Code) (E : Env) (H : Hp) (k : Exit → Env → Hp → Prop) : Prop where
  run : ∀ (M0 : Nat → Prop) (w0 : World) (ρ : Nat → Nat) (a : Act) (w : World) (Q : Exit → Act → World → Prop), Rel M0 w0 sz ρ E H a w →
    (∀ ex E' H' ρ' a' w', k ex E' H' → Rel M0 w0 sz ρ' E' H' a' w' → Q ex a' w') → c.wp P Q a w
theorem codeP_of (hm : P.follows .mixedOrders = true) (hΓ : ∀ t td, look Γ t = some td → TyOK P t td) {c : Code} {k : Exit → Env → Hp → Prop} (h : code P Γ sz c E H k) : CodeP P sz c E H k :=
  ⟨fun M0 w0 ρ a w Q R hQ => code_sound hm hΓ c E H k h ρ a w Q R hQ⟩
theorem codeP_seq (hm : P.follows .mixedOrders = true) (hΓ : ∀ t td, look Γ t = some td → TyOK P t td) {c d : Code} {k : Exit → Env → Hp → Prop}
    (h : code P Γ sz c E H (fun ex E' H' => match ex with | .normal => CodeP P sz d E' H' k | ex => k ex E' H')) : CodeP P sz (.seq c d) E H k := by
  refine ⟨fun M0 w0 ρ a w Q R hQ => wp_seq (code_sound hm hΓ c E H _ h ρ a w _ R fun ex E' H' ρ' a' w' hk R' => ?_)⟩
  cases ex <;> first
  | exact hk.run _ _ _ _ _ _ R' hQ
  | exact hQ _ _ _ _ _ _ hk R'
theorem codeP_ent {c : Code} {k : Exit → Env → Hp → Prop} {E1 : Env} {H1 : Hp} (h : CodeP P sz c E1 H1 k) (he : Ent E H E1 H1) : CodeP P sz c E H k :=
  ⟨fun M0 w0 ρ a w Q R hQ => h.run _ _ _ _ _ _ (R.ent he) hQ⟩
end
end Sx
end Go.Proofs.Ytkobebnijkanhaa
