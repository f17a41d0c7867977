/- Small lemmas on worlds that have grown, used by all walks of this seat. No conditions: they are plain lemmas over the model. -/
import Derived.WalkKit
import Derived.Lib.Hide
import Derived.BigQuiet
import Derived.Lib.QuietBelow
import Derived.Test.YtffamgiknfphaaaQTwo
namespace Go.Proofs.Ytffamgiknfphaaa
open Go.RowKit Go.Sort

attribute [go_sem] Nat.add_assoc Nat.add_pos_iff_pos_or_pos
@[go_sem] theorem lt_lit (a b c : Nat) (h : a < b) : a < b + c := Nat.lt_of_lt_of_le h (Nat.le_add_right _ _)
@[go_sem] theorem size_redrawn (W : World) (d : Nat) : (redrawn W d).heap.size = W.heap.size := rfl
@[go_sem] theorem cell_reg (W : World) (d : Nat) (os : Array Obj) (b o : Nat) (h : b < W.heap.size) : (grow (redrawn W d) os).cell? ⟨b, o, none⟩ = W.cell? ⟨b, o, none⟩ :=
  (below_regrown W d os).cell (p := ⟨b, o, none⟩) h
@[go_sem] theorem frozen_reg (W : World) (d : Nat) (os : Array Obj) (b o : Nat) (h : b < W.heap.size) : (grow (redrawn W d) os).frozen? ⟨b, o, none⟩ = W.frozen? ⟨b, o, none⟩ :=
  (below_regrown W d os).frozen (p := ⟨b, o, none⟩) h
@[go_sem] theorem set_reg (W : World) (d : Nat) (os : Array Obj) (b o : Nat) (v : Value) (h : b < W.heap.size) :
    (grow (redrawn W d) os).setCell ⟨b, o, none⟩ v = grow (redrawn (W.setCell ⟨b, o, none⟩ v) d) os := by
  unfold World.setCell grow redrawn
  simp only
  congr 1
  exact modify_append_left _ _ _ _ h

theorem below_drewN {B : Nat} {a w : World} (h : Below B a w) (n : Nat) : Below B a (w.drewN n) := ⟨h.os, h.tape, h.output, h.size, h.block⟩
theorem below_reg {a W : World} (h : Below a.heap.size a W) (d : Nat) (os : Array Obj) : Below a.heap.size a (grow (redrawn W d) os) :=
  h.trans ((below_regrown W d os).mono h.size)
theorem below_alloc {a W : World} (h : Below a.heap.size a W) (o : Obj) : Below a.heap.size a (W.alloc o) := h.alloc h.size o
theorem below_then {a W w' : World} (h : Below a.heap.size a W) (k : Below W.heap.size W w') : Below a.heap.size a w' := h.trans (k.mono h.size)

theorem cmono {P : Program} {f : FuncId} {args : Array Value} {w : World} {v : Value} {R : Ending → World → Prop}
    (k : ∀ e w', e = .returned v ∧ Below w.heap.size w w' → R e w') (h : Calls P f args w fun e w' => e = .returned v ∧ Below w.heap.size w w') : Calls P f args w R := h.mono k
theorem cast0 : ((0 : Nat) : Int) = 0 := rfl
theorem ret_int {k : IntKind} {a b : Int} (h : a = b) : Ending.returned (.int k a) = .returned (.int k b) := by rw [h]
theorem ret_bool {a b : Bool} (h : a = b) : Ending.returned (.bool a) = .returned (.bool b) := by rw [h]
theorem ret_of {a b : Value} (h : a = b) : Ending.returned a = .returned b := by rw [h]

end Go.Proofs.Ytffamgiknfphaaa
