/- A symbolic walk: data that a value stands for, the symbolic frame and heap, and what ties them to a frame and a world. No conditions: definitions and plain lemmas over the model. -/
import Derived.WalkKit
import Derived.Lib.Hide

namespace Go.Proofs.Ytffamgiknfphaaa
open Go Go.RowKit

set_option linter.unusedVariables false
namespace Sx

/-- data: a value of one cell, or a slice by its elements' cells -/
inductive D where
  | v (x : Value)
  | list (k : Nat) (l : List (List D))
  deriving Inhabited

/-- a number is of its kind -/
def inK : IntKind → Int → Prop
  | .i8, n => -128 ≤ n ∧ n ≤ 127
  | .i16, n => -32768 ≤ n ∧ n ≤ 32767
  | .i32, n => -2147483648 ≤ n ∧ n ≤ 2147483647
  | .i64, n => -9223372036854775808 ≤ n ∧ n ≤ 9223372036854775807
  | .u8, n => 0 ≤ n ∧ n ≤ 255
  | .u16, n => 0 ≤ n ∧ n ≤ 65535
  | .u32, n => 0 ≤ n ∧ n ≤ 4294967295
  | .u64, n => 0 ≤ n ∧ n ≤ 18446744073709551615
instance (k : IntKind) (n : Int) : Decidable (inK k n) := by cases k <;> unfold inK <;> infer_instance
theorem inK_iff (k : IntKind) (n : Int) : inK k n ↔ k.min ≤ n ∧ n ≤ k.max := by
  cases k <;> simp [inK, IntKind.min, IntKind.max, IntKind.signed, IntKind.bits]
theorem inK_wrap (k : IntKind) (n : Int) : inK k (k.wrap n) := (inK_iff k _).2 (wrap_within k n)
/-- a value's numbers are of their kinds -/
def wfV : Value → Prop
  | .int k n => inK k n
  | _ => True
def wfB : Value → Bool
  | .int k n => decide (inK k n)
  | _ => true
theorem wfB_iff {v : Value} (h : wfB v = true) : wfV v := by
  cases v <;> first | trivial | exact of_decide_eq_true (p := inK _ _) h

/-- a value stands for data, in a world, outside of the blocks in M -/
inductive Rep (w : World) (M : Nat → Prop) : D → Value → Prop where
  | v (x : Value) (h : x.oneCell' = true) (hw : wfV x) : Rep w M (.v x) x
  | nil (k : Nat) : Rep w M (.list k []) (.slice none 0 0)
  | list {b off cap k : Nat} {l : List (List D)} (vs : Nat → Nat → Value) (hc : l.length ≤ cap) (hm : cap ≤ 9223372036854775807) (hM : ¬ M b) (hb : b < w.heap.size) (hk : ∀ x ∈ l, x.length = k)
      (hv : ∀ i j, (hi : i < l.length) → j < k → w.cell? ⟨b, off + i * k + j, none⟩ = some (vs i j))
      (hr : ∀ i j, (hi : i < l.length) → (hj : j < l[i].length) → Rep w M l[i][j] (vs i j)) :
      Rep w M (.list k l) (.slice (some ⟨b, off, none⟩) l.length cap)

/-- w' holds what w held, outside of M -/
structure Holds (M : Nat → Prop) (w w' : World) : Prop where
  size : w.heap.size ≤ w'.heap.size
  block : ∀ b, b < w.heap.size → ¬ M b → w'.heap[b]? = w.heap[b]?

theorem Holds.refl (M : Nat → Prop) (w : World) : Holds M w w := ⟨Nat.le_refl _, fun _ _ _ => rfl⟩
theorem Holds.of_below {M : Nat → Prop} {w w' : World} (h : Below w.heap.size w w') : Holds M w w' := ⟨h.size, fun b hb _ => h.block b hb⟩

theorem Rep.mono {w w' : World} {M M' : Nat → Prop} {d : D} {v : Value} (h : Rep w M d v) (hw : Holds M w w') (hM : ∀ b, b < w.heap.size → M' b → M b) : Rep w' M' d v := by
  induction h with
  | v x h hw => exact .v x h hw
  | nil k => exact .nil k
  | @list b off cap k l vs hc hm hMb hb hk hv hr ih =>
    refine .list vs hc hm (fun h => hMb (hM b hb h)) (Nat.lt_of_lt_of_le hb hw.size) hk (fun i j hi hj => ?_) ih
    have := hv i j hi hj
    rw [World.cell?_of_block (w := w) (hw.block b hb hMb)]
    exact this

/-- symbolic atoms (one cell each) -/
inductive At where
  | d (x : D)
  | ptr (n o : Nat)
  | osl (n len cap : Nat)
  | ep (k : Nat) (l : List (List D)) (i o : Nat)
  | fn (f : Nat) (caps : List Nat)
  deriving Inhabited
inductive SC where
  | at (a : At)
  | agg (l : List At)
  deriving Inhabited
inductive SV where
  | c (x : SC)
  | tup (l : List SC)
  deriving Inhabited

/-- where the elements of a slice lie -/
def RowAt (w : World) (M : Nat → Prop) (b off k : Nat) (l : List (List D)) : Prop :=
  ∃ cap, Rep w M (.list k l) (.slice (some ⟨b, off, none⟩) l.length cap)

def AtR (ρ : Nat → Nat) (w : World) (M : Nat → Prop) : At → Value → Prop
  | .d x, v => Rep w M x v
  | .ptr n o, v => v = .pointer (some ⟨ρ n, o, none⟩)
  | .osl n len cap, v => v = .slice (some ⟨ρ n, 0, none⟩) len cap
  | .ep k l i o, v => ∃ b off, v = .pointer (some ⟨b, off + i * k + o, none⟩) ∧ RowAt w M b off k l
  | .fn f caps, v => v = .func (.func f) #[] (caps.map fun n => Value.pointer (some ⟨ρ n, 0, none⟩)).toArray

def AtsR (ρ : Nat → Nat) (w : World) (M : Nat → Prop) : List At → List Value → Prop
  | [], [] => True
  | a :: l, v :: vs => AtR ρ w M a v ∧ AtsR ρ w M l vs
  | _, _ => False
def SCR (ρ : Nat → Nat) (w : World) (M : Nat → Prop) : SC → Value → Prop
  | .at a, v => AtR ρ w M a v
  | .agg l, v => ∃ vs : List Value, v = .agg vs.toArray ∧ AtsR ρ w M l vs
def SCsR (ρ : Nat → Nat) (w : World) (M : Nat → Prop) : List SC → List Value → Prop
  | [], [] => True
  | a :: l, v :: vs => SCR ρ w M a v ∧ SCsR ρ w M l vs
  | _, _ => False
def SVR (ρ : Nat → Nat) (w : World) (M : Nat → Prop) : SV → Value → Prop
  | .c x, v => SCR ρ w M x v
  | .tup l, v => ∃ vs : List Value, v = .tuple vs.toArray ∧ SCsR ρ w M l vs

/-- blocks of the call's own -/
inductive Blk where
  | own (cells : List At)
  | row (k : Nat) (l : List (List D)) (cap : Nat)
  deriving Inhabited

def DsR (w : World) (M : Nat → Prop) : List D → List Value → Prop
  | [], [] => True
  | a :: l, v :: vs => Rep w M a v ∧ DsR w M l vs
  | _, _ => False

/-- block b is of cells, not frozen -/
def CellsAt (w : World) (b : Nat) (cs : List Value) : Prop := ∃ T, w.heap[b]? = some (.cells cs.toArray T (0, 0))

def BlkC (ρ : Nat → Nat) (w : World) (M : Nat → Prop) (cs : List Value) : Blk → Prop
  | .own cells => AtsR ρ w M cells cs
  | .row k l cap => (∀ x ∈ l, x.length = k) ∧ l.length ≤ cap ∧ cap ≤ 9223372036854775807 ∧ cs.length = cap * k ∧ ∃ vs rest : List Value, cs = vs ++ rest ∧ DsR w M l.flatten vs
def BlkR (ρ : Nat → Nat) (w : World) (M : Nat → Prop) (b : Nat) (x : Blk) : Prop := ∃ cs, CellsAt w b cs ∧ BlkC ρ w M cs x

abbrev Env := List (Nat × SV)
abbrev Hp := List (Nat × Blk)
def look {α : Type} : List (Nat × α) → Nat → Option α
  | [], _ => none
  | (k, x) :: r, t => if k = t then some x else look r t

def Mof (M0 : Nat → Prop) (ρ : Nat → Nat) (H : Hp) (b : Nat) : Prop := M0 b ∨ ∃ n, (look H n).isSome = true ∧ ρ n = b

/-- the names that stand in it -/
def At.names : At → List Nat
  | .ptr n _ | .osl n _ _ => [n]
  | .fn _ caps => caps
  | _ => []
def namesA (l : List At) : List Nat := l.flatMap At.names
def SC.names : SC → List Nat
  | .at a => a.names
  | .agg l => namesA l
def namesC (l : List SC) : List Nat := l.flatMap SC.names
def SV.names : SV → List Nat
  | .c x => x.names
  | .tup l => namesC l
def Blk.names : Blk → List Nat
  | .own cells => namesA cells
  | .row _ _ _ => []

/-- the tie -/
structure Rel (M0 : Nat → Prop) (w0 : World) (sz : Nat) (ρ : Nat → Nat) (E : Env) (H : Hp) (a : Act) (w : World) : Prop where
  below : Below w0.heap.size w0 w
  out : ∀ b, M0 b → b < w0.heap.size
  env : ∀ t x, look E t = some x → SVR ρ w (Mof M0 ρ H) x (a.tmps.getD t undef)
  lo : ∀ n b, look H n = some b → w0.heap.size ≤ ρ n
  hi : ∀ n b, look H n = some b → ρ n < w.heap.size
  blk : ∀ n b, look H n = some b → BlkR ρ w (Mof M0 ρ H) (ρ n) b
  inj : ∀ n n', (look H n).isSome = true → (look H n').isSome = true → ρ n = ρ n' → n = n'
  defers : a.defers = []
  size : a.tmps.size = sz
  clE : ∀ t x, look E t = some x → ∀ n ∈ x.names, (look H n).isSome = true
  clH : ∀ n b, look H n = some b → ∀ m ∈ b.names, (look H m).isSome = true

/-! ### what persists -/
section
variable {ρ : Nat → Nat} {w w' : World} {M M' : Nat → Prop}
theorem AtR.mono (hw : Holds M w w') (hM : ∀ b, b < w.heap.size → M' b → M b) : ∀ {a : At} {v : Value}, AtR ρ w M a v → AtR ρ w' M' a v
  | .d x, v, h => Rep.mono h hw hM
  | .ptr n o, v, h => h
  | .osl n len cap, v, h => h
  | .ep k l i o, v, ⟨b, off, e, cap, h⟩ => ⟨b, off, e, cap, h.mono hw hM⟩
  | .fn f caps, v, h => h
theorem AtsR.mono (hw : Holds M w w') (hM : ∀ b, b < w.heap.size → M' b → M b) : ∀ {a : List At} {v : List Value}, AtsR ρ w M a v → AtsR ρ w' M' a v
  | [], [], _ => trivial
  | a :: l, v :: vs, h => ⟨h.1.mono hw hM, AtsR.mono hw hM h.2⟩
  | [], _ :: _, h => h.elim
  | _ :: _, [], h => h.elim
theorem SCR.mono (hw : Holds M w w') (hM : ∀ b, b < w.heap.size → M' b → M b) : ∀ {a : SC} {v : Value}, SCR ρ w M a v → SCR ρ w' M' a v
  | .at a, v, h => AtR.mono hw hM h
  | .agg l, v, ⟨vs, e, h⟩ => ⟨vs, e, h.mono hw hM⟩
theorem SCsR.mono (hw : Holds M w w') (hM : ∀ b, b < w.heap.size → M' b → M b) : ∀ {a : List SC} {v : List Value}, SCsR ρ w M a v → SCsR ρ w' M' a v
  | [], [], _ => trivial
  | a :: l, v :: vs, h => ⟨h.1.mono hw hM, SCsR.mono hw hM h.2⟩
  | [], _ :: _, h => h.elim
  | _ :: _, [], h => h.elim
theorem SVR.mono (hw : Holds M w w') (hM : ∀ b, b < w.heap.size → M' b → M b) : ∀ {a : SV} {v : Value}, SVR ρ w M a v → SVR ρ w' M' a v
  | .c a, v, h => SCR.mono hw hM h
  | .tup l, v, ⟨vs, e, h⟩ => ⟨vs, e, h.mono hw hM⟩
theorem DsR.mono (hw : Holds M w w') (hM : ∀ b, b < w.heap.size → M' b → M b) : ∀ {a : List D} {v : List Value}, DsR w M a v → DsR w' M' a v
  | [], [], _ => trivial
  | a :: l, v :: vs, h => ⟨h.1.mono hw hM, DsR.mono hw hM h.2⟩
  | [], _ :: _, h => h.elim
  | _ :: _, [], h => h.elim

variable {ρ' : Nat → Nat}
theorem AtR.rename : ∀ {a : At} {v : Value}, (∀ n ∈ a.names, ρ' n = ρ n) → AtR ρ w M a v → AtR ρ' w M a v
  | .d x, v, _, h => h
  | .ptr n o, v, hn, h => by simp only [AtR] at *; rw [hn n (by simp [At.names])]; exact h
  | .osl n len cap, v, hn, h => by simp only [AtR] at *; rw [hn n (by simp [At.names])]; exact h
  | .ep k l i o, v, _, h => h
  | .fn f caps, v, hn, h => by
    simp only [AtR] at *
    rw [h]; congr 2
    exact List.map_congr_left fun n hx => by rw [hn n hx]
theorem AtsR.rename : ∀ {a : List At} {v : List Value}, (∀ n ∈ namesA a, ρ' n = ρ n) → AtsR ρ w M a v → AtsR ρ' w M a v
  | [], [], _, _ => trivial
  | a :: l, v :: vs, hn, h => ⟨h.1.rename fun n hx => hn n (by simp [namesA]; exact .inl hx), AtsR.rename (fun n hx => hn n (by simp [namesA] at *; exact .inr hx)) h.2⟩
  | [], _ :: _, _, h => h.elim
  | _ :: _, [], _, h => h.elim
theorem SCR.rename : ∀ {a : SC} {v : Value}, (∀ n ∈ a.names, ρ' n = ρ n) → SCR ρ w M a v → SCR ρ' w M a v
  | .at a, v, hn, h => AtR.rename hn h
  | .agg l, v, hn, ⟨vs, e, h⟩ => ⟨vs, e, h.rename hn⟩
theorem SCsR.rename : ∀ {a : List SC} {v : List Value}, (∀ n ∈ namesC a, ρ' n = ρ n) → SCsR ρ w M a v → SCsR ρ' w M a v
  | [], [], _, _ => trivial
  | a :: l, v :: vs, hn, h => ⟨h.1.rename fun n hx => hn n (by simp [namesC]; exact .inl hx), SCsR.rename (fun n hx => hn n (by simp [namesC] at *; exact .inr hx)) h.2⟩
  | [], _ :: _, _, h => h.elim
  | _ :: _, [], _, h => h.elim
theorem SVR.rename : ∀ {a : SV} {v : Value}, (∀ n ∈ a.names, ρ' n = ρ n) → SVR ρ w M a v → SVR ρ' w M a v
  | .c a, v, hn, h => SCR.rename hn h
  | .tup l, v, hn, ⟨vs, e, h⟩ => ⟨vs, e, h.rename hn⟩
theorem BlkC.mono {ρ : Nat → Nat} (hw : Holds M w w') (hM : ∀ b, b < w.heap.size → M' b → M b) {cs : List Value} : ∀ {x : Blk}, BlkC ρ w M cs x → BlkC ρ w' M' cs x
  | .own cells, h => AtsR.mono hw hM h
  | .row k l cap, ⟨h1, h2, h3, h4, vs, rest, h5, h6⟩ => ⟨h1, h2, h3, h4, vs, rest, h5, h6.mono hw hM⟩
theorem BlkC.rename {cs : List Value} : ∀ {x : Blk}, (∀ n ∈ x.names, ρ' n = ρ n) → BlkC ρ w M cs x → BlkC ρ' w M cs x
  | .own cells, hn, h => AtsR.rename hn h
  | .row k l cap, hn, h => h
end
end Sx
end Go.Proofs.Ytffamgiknfphaaa
