/- A symbolic walk: words for the table of types. No conditions. -/
import Derived.Test.YtffamgiknfphaaaSxJ
namespace Go.Proofs.Ytffamgiknfphaaa
open Go Go.RowKit
set_option linter.unusedVariables false
namespace Sx
theorem pv_bool {f : World → Result Value} {b : Bool} (h : ∀ w, f w = .ok (.bool b) w) : (Value.bool b).oneCell' = true ∧ wfV (.bool b) ∧ ∀ w, f w = .ok (.bool b) w := ⟨rfl, trivial, h⟩
theorem pv_int {f : World → Result Value} {k : IntKind} {n : Int} (hw : inK k n) (h : ∀ w, f w = .ok (.int k n) w) : (Value.int k n).oneCell' = true ∧ wfV (.int k n) ∧ ∀ w, f w = .ok (.int k n) w := ⟨rfl, hw, h⟩
theorem pv_str {f : World → Result Value} {s : ByteArray} (h : ∀ w, f w = .ok (.string s) w) : (Value.string s).oneCell' = true ∧ wfV (.string s) ∧ ∀ w, f w = .ok (.string s) w := ⟨rfl, trivial, h⟩
theorem r_int {k : IntKind} {a b : Int} (h : a = b) : (DV.c (.one (.v (.int k a)))) = .c (.one (.v (.int k b))) := by rw [h]
theorem r_bool {a b : Bool} (h : a = b) : (DV.c (.one (.v (.bool a)))) = .c (.one (.v (.bool b))) := by rw [h]
def FieldsOK (P : Program) : List Field → List (Nat × Nat × Bool) → Prop
  | [], [] => True
  | f :: F, x :: fs => f.offset = x.1 ∧ (∀ w, (sizeOf f.type).run P w = .ok x.2.1 w) ∧ (∀ w, (isAgg f.type).run P w = .ok x.2.2 w) ∧ FieldsOK P F fs
  | _, _ => False
theorem fields_get {P : Program} : ∀ {F : List Field} {fs : List (Nat × Nat × Bool)}, FieldsOK P F fs → F.length = fs.length ∧ ∀ (i : Nat) (x : Nat × Nat × Bool), fs[i]? = some x →
    ∃ f : Field, F[i]? = some f ∧ f.offset = x.1 ∧ (∀ w, (sizeOf f.type).run P w = .ok x.2.1 w) ∧ (∀ w, (isAgg f.type).run P w = .ok x.2.2 w)
  | [], [], _ => ⟨rfl, fun i x h => by simp at h⟩
  | f :: F, y :: fs, ⟨h1, h2, h3, h4⟩ => by
    obtain ⟨k1, k2⟩ := fields_get h4
    refine ⟨by simp [k1], fun i x h => ?_⟩
    cases i with
    | zero => simp at h; subst h; exact ⟨f, rfl, h1, h2, h3⟩
    | succ i => simpa using k2 i x (by simpa using h)
  | [], _ :: _, h => h.elim
  | _ :: _, [], h => h.elim
theorem st_ty {P : Program} {t : Nat} {F : Array Field} {fs : List (Nat × Nat × Bool)} (h1 : P.underlying t = some (.struct F)) {l : List Field} (h2 : F.toList = l) (h3 : FieldsOK P l fs) :
    ∃ F : Array Field, P.underlying t = some (.struct F) ∧ F.size = fs.length ∧ ∀ (i : Nat) (x : Nat × Nat × Bool), fs[i]? = some x → ∃ f : Field, F[i]? = some f ∧ f.offset = x.1 ∧ (∀ w, (sizeOf f.type).run P w = .ok x.2.1 w) ∧ (∀ w, (isAgg f.type).run P w = .ok x.2.2 w) := by
  subst h2
  obtain ⟨k1, k2⟩ := fields_get h3
  exact ⟨F, h1, by simpa using k1, fun i x h => by simpa using k2 i x h⟩
def TysOK (P : Program) : List (Nat × TD) → Prop
  | [] => True
  | (t, td) :: r => TyOK P t td ∧ TysOK P r
theorem tys_ok {P : Program} : ∀ {l : List (Nat × TD)}, TysOK P l → ∀ t td, look l t = some td → TyOK P t td
  | [], _, t, td, h => by simp [look] at h
  | (k, y) :: r, h0, t, td, h => by
    rw [look_cons] at h
    split at h
    · rename_i e; injection h with h; subst e h; exact h0.1
    · exact tys_ok h0.2 t td h
end Sx
end Go.Proofs.Ytffamgiknfphaaa
