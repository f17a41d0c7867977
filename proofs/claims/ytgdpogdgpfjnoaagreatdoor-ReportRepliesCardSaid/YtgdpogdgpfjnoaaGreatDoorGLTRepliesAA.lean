import Derived.WalkKit
import Derived.Lib.LaidTab
import Derived.Lib.ItoaNum
import Derived.Test.YtgdpogdgpfjnoaaGreatDoorProg
import Derived.Lib.Hide
set_option linter.all false
namespace Go.Proofs.YtgdpogdgpfjnoaaGreatDoor
open Go Go.RowKit
namespace Sx
noncomputable def gl : Nat := Tryz.prog.globals.size
structure Gd (w : World) : Prop where
  sz : gl ≤ w.heap.size
  ml : ∃ m, w.cell? ⟨3, 0, none⟩ = some (.int .i64 m)
  tab : Lib.TabIs Tryz.prog w "internal/strconv.uint64pow10" .u64 Lib.pow10Tab
  es : ∃ tp p, w.var? Tryz.prog "strconv.ErrSyntax" = some #[.iface tp p]
  er : ∃ tp p, w.var? Tryz.prog "strconv.ErrRange" = some #[.iface tp p]
theorem gd_size {w : World} (h : Gd w) : gl ≤ w.heap.size := h.sz
theorem ml_lt : 3 < gl := by unfold gl; exact of_decide_eq_true (by kernel_rfl)
theorem var_keep {w w' : World} {x : String} {c : Array Value} (hb : ∀ b, b < gl → w'.heap[b]? = w.heap[b]?) (ht : w.var? Tryz.prog x = some c) : w'.var? Tryz.prog x = some c := by
  unfold World.var? at ht ⊢
  cases hg : Tryz.prog.globalNamed x with
  | none => rw [hg] at ht; cases ht
  | some g =>
    rw [hg] at ht
    have hlt : g < gl := by
      unfold Program.globalNamed at hg
      split at hg
      · rename_i g' e
        injection hg with hg
        subst hg
        have : g' ∈ (List.range Tryz.prog.globals.size).filter fun g => (Tryz.prog.globals[g]?).any (·.name == x) := by rw [e]; exact List.mem_singleton.2 rfl
        exact List.mem_range.1 (List.mem_filter.1 this).1
      · cases hg
    simp only [Option.bind_some] at ht ⊢
    rw [hb g hlt]; exact ht
theorem gd_keep {w w' : World} (hs : w.heap.size ≤ w'.heap.size) (hb : ∀ b, b < gl → w'.heap[b]? = w.heap[b]?) (h : Gd w) : Gd w' := by
  refine ⟨Nat.le_trans h.sz hs, ?_, ?_, ?_, ?_⟩
  · obtain ⟨m, hm⟩ := h.ml
    exact ⟨m, by rw [World.cell?_of_block (w := w) (hb _ ml_lt)]; exact hm⟩
  · have ht := h.tab
    unfold Lib.TabIs at ht ⊢
    exact var_keep hb ht
  · obtain ⟨tp, p, h⟩ := h.es
    exact ⟨tp, p, var_keep hb h⟩
  · obtain ⟨tp, p, h⟩ := h.er
    exact ⟨tp, p, var_keep hb h⟩
end Sx
end Go.Proofs.YtgdpogdgpfjnoaaGreatDoor

namespace Go.Proofs.YtgdpogdgpfjnoaaGreatDoor
open Go Go.RowKit
namespace Sx
inductive D where
  | v (x : Value)
  | nil (k : Nat)
  | emp (k : Nat)
  | list (k : Nat) (l : List (List D))
  | ref (l : List D)
  | clo (g : Nat) (caps : List (List D))
  deriving Inhabited
def inK : IntKind → Int → Prop
  | .i8, n => -128 ≤ n ∧ n ≤ 127
  | .i16, n => -32768 ≤ n ∧ n ≤ 32767
  | .i32, n => -2147483648 ≤ n ∧ n ≤ 2147483647
  | .i64, n => -9223372036854775808 ≤ n ∧ n ≤ 9223372036854775807
  | .u8, n => 0 ≤ n ∧ n ≤ 255
  | .u16, n => 0 ≤ n ∧ n ≤ 65535
  | .u32, n => 0 ≤ n ∧ n ≤ 4294967295
  | .u64, n => 0 ≤ n ∧ n ≤ 18446744073709551615
instance (k : IntKind) (n : Int) : Decidable (inK k n) := by cases k <;> unfold inK <;> infer_instance
theorem inK_iff (k : IntKind) (n : Int) : inK k n ↔ k.min ≤ n ∧ n ≤ k.max := by
  cases k <;> simp [inK, IntKind.min, IntKind.max, IntKind.signed, IntKind.bits]
theorem inK_wrap (k : IntKind) (n : Int) : inK k (k.wrap n) := (inK_iff k _).2 (wrap_within k n)
def wfV : Value → Prop
  | .int k n => inK k n
  | _ => True
def wfB : Value → Bool
  | .int k n => decide (inK k n)
  | _ => true
theorem wfB_iff {v : Value} (h : wfB v = true) : wfV v := by
  cases v <;> first | trivial | exact of_decide_eq_true (p := inK _ _) h
inductive Rep (w : World) (M : Nat → Prop) : D → Value → Prop where
  | v (x : Value) (h : x.oneCell' = true) (hw : wfV x) : Rep w M (.v x) x
  | nl (k : Nat) : Rep w M (.nil k) (.slice none 0 0)
  | em (k : Nat) (x : Addr) (c : Nat) (hm : c ≤ 9223372036854775807) : Rep w M (.emp k) (.slice (some x) 0 c)
  | nil (k : Nat) (x : Option Addr) (c : Nat) (hm : c ≤ 9223372036854775807) (hx : x = none → c = 0) : Rep w M (.list k []) (.slice x 0 c)
  | list {b off cap k : Nat} {l : List (List D)} (vs : Nat → Nat → Value) (hc : l.length ≤ cap) (hm : cap ≤ 9223372036854775807) (hM : ¬ M b) (hb : b < w.heap.size) (hk : ∀ x ∈ l, x.length = k)
      (hv : ∀ i j, (hi : i < l.length) → j < k → w.cell? ⟨b, off + i * k + j, none⟩ = some (vs i j))
      (hr : ∀ i j, (hi : i < l.length) → (hj : j < l[i].length) → Rep w M l[i][j] (vs i j)) :
      Rep w M (.list k l) (.slice (some ⟨b, off, none⟩) l.length cap)
  | ref {b off : Nat} {l : List D} (vs : Nat → Value) (hM : ¬ M b) (hb : b < w.heap.size) (hv : ∀ j, j < l.length → w.cell? ⟨b, off + j, none⟩ = some (vs j)) (hr : ∀ j, (hj : j < l.length) → Rep w M l[j] (vs j)) :
      Rep w M (.ref l) (.pointer (some ⟨b, off, none⟩))
  | clo {g : Nat} {caps : List (List D)} (ps : Nat → Value) (hr : ∀ i, (hi : i < caps.length) → Rep w M (.ref caps[i]) (ps i)) : Rep w M (.clo g caps) (.func (.func g) #[] ((List.range caps.length).map ps).toArray)
structure Holds (M : Nat → Prop) (w w' : World) : Prop where
  size : w.heap.size ≤ w'.heap.size
  block : ∀ b, b < w.heap.size → ¬ M b → (∃ cs T f, w.heap[b]? = some (.cells cs T f)) → w'.heap[b]? = w.heap[b]?
theorem Holds.refl (M : Nat → Prop) (w : World) : Holds M w w := ⟨Nat.le_refl _, fun _ _ _ _ => rfl⟩
theorem Holds.of_below {M : Nat → Prop} {w w' : World} (h : Below w.heap.size w w') : Holds M w w' := ⟨h.size, fun b hb _ _ => h.block b hb⟩
theorem Holds.cell {M : Nat → Prop} {w w' : World} (h : Holds M w w') {b o : Nat} {v : Value} (hb : b < w.heap.size) (hM : ¬ M b) (hc : w.cell? ⟨b, o, none⟩ = some v) : w'.cell? ⟨b, o, none⟩ = some v := by
  have : ∃ cs T f, w.heap[b]? = some (.cells cs T f) := by
    unfold World.cell? at hc
    cases ho : w.heap[b]? with
    | none => simp [ho] at hc
    | some o => cases o <;> first | exact ⟨_, _, _, rfl⟩ | (simp [ho] at hc)
  rw [World.cell?_of_block (w := w) (h.block b hb hM this)]; exact hc
theorem Rep.mono {w w' : World} {M M' : Nat → Prop} {d : D} {v : Value} (h : Rep w M d v) (hw : Holds M w w') (hM : ∀ b, b < w.heap.size → M' b → M b) : Rep w' M' d v := by
  induction h with
  | v x h hw => exact .v x h hw
  | nl k => exact .nl k
  | em k x c hm => exact .em k x c hm
  | nil k x c hm hx => exact .nil k x c hm hx
  | ref vs hMb hb hv hr ih =>
    exact .ref vs (fun h => hMb (hM _ hb h)) (Nat.lt_of_lt_of_le hb hw.size) (fun j hj => hw.cell hb hMb (hv j hj)) ih
  | clo ps hr ih => exact .clo ps ih
  | @list b off cap k l vs hc hm hMb hb hk hv hr ih =>
    exact .list vs hc hm (fun h => hMb (hM b hb h)) (Nat.lt_of_lt_of_le hb hw.size) hk (fun i j hi hj => hw.cell hb hMb (hv i j hi hj)) ih
inductive At where
  | d (x : D)
  | ptr (n o : Nat)
  | osl (n ver : Nat)
  | rp (n ver k i o : Nat)
  | ep (k : Nat) (l : List (List D)) (i o : Nat)
  | fn (f : Nat) (caps : List Nat)
  deriving Inhabited
inductive SC where
  | at (a : At)
  | agg (l : List At)
  deriving Inhabited
inductive SV where
  | c (x : SC)
  | tup (l : List SC)
  deriving Inhabited
structure Nm where
  own : Bool
  b : Nat
  cap : Nat
  len : Nat
  ver : Nat
  deriving Inhabited
def RowAt (w : World) (M : Nat → Prop) (b off k : Nat) (l : List (List D)) : Prop :=
  ∃ cap, Rep w M (.list k l) (.slice (some ⟨b, off, none⟩) l.length cap)
def AtR (ρ : Nat → Nm) (w : World) (M : Nat → Prop) : At → Value → Prop
  | .d x, v => Rep w M x v
  | .ptr n o, v => (ρ n).own = true ∧ v = .pointer (some ⟨(ρ n).b, o, none⟩)
  | .osl n ver, v => (ρ n).own = false ∧ v.oneCell' = true ∧ ver ≤ (ρ n).ver ∧ (ver = (ρ n).ver → ∃ x, v = .slice x (ρ n).len (ρ n).cap ∧ (0 < (ρ n).cap → x = some ⟨(ρ n).b, 0, none⟩))
  | .rp n ver k i o, v => (ρ n).own = false ∧ v.oneCell' = true ∧ ver ≤ (ρ n).ver ∧ (ver = (ρ n).ver → v = .pointer (some ⟨(ρ n).b, i * k + o, none⟩))
  | .ep k l i o, v => ∃ b off, v = .pointer (some ⟨b, off + i * k + o, none⟩) ∧ RowAt w M b off k l
  | .fn f caps, v => (∀ n ∈ caps, (ρ n).own = true) ∧ v = .func (.func f) #[] (caps.map fun n => Value.pointer (some ⟨(ρ n).b, 0, none⟩)).toArray
def AtsR (ρ : Nat → Nm) (w : World) (M : Nat → Prop) : List At → List Value → Prop
  | [], [] => True
  | a :: l, v :: vs => AtR ρ w M a v ∧ AtsR ρ w M l vs
  | _, _ => False
def SCR (ρ : Nat → Nm) (w : World) (M : Nat → Prop) : SC → Value → Prop
  | .at a, v => AtR ρ w M a v
  | .agg l, v => ∃ vs : List Value, v = .agg vs.toArray ∧ AtsR ρ w M l vs
def SCsR (ρ : Nat → Nm) (w : World) (M : Nat → Prop) : List SC → List Value → Prop
  | [], [] => True
  | a :: l, v :: vs => SCR ρ w M a v ∧ SCsR ρ w M l vs
  | _, _ => False
def SVR (ρ : Nat → Nm) (w : World) (M : Nat → Prop) : SV → Value → Prop
  | .c x, v => SCR ρ w M x v
  | .tup l, v => ∃ vs : List Value, v = .tuple vs.toArray ∧ SCsR ρ w M l vs
inductive Blk where
  | own (cells : List At)
  | row (k : Nat) (l : List (List D)) (ver : Nat)
  | frz
  deriving Inhabited
def Blk.real : Blk → Nm → Bool
  | .own _, _ => true
  | .row _ _ _, m => Nat.blt 0 m.cap
  | .frz, _ => false
def DsR (w : World) (M : Nat → Prop) : List D → List Value → Prop
  | [], [] => True
  | a :: l, v :: vs => Rep w M a v ∧ DsR w M l vs
  | _, _ => False
def CellsAt (w : World) (b : Nat) (cs : List Value) : Prop := ∃ T, w.heap[b]? = some (.cells cs.toArray T (0, 0))
def BlkC (ρ : Nat → Nm) (w : World) (M : Nat → Prop) (cs : List Value) : Blk → Nm → Prop
  | .own cells, _ => AtsR ρ w M cells cs
  | .row k l _, m => l.length ≤ m.cap ∧ m.cap ≤ 9223372036854775807 ∧ cs.length = m.cap * k ∧ ∃ vs rest : List Value, cs = vs ++ rest ∧ DsR w M l.flatten vs
  | .frz, _ => True
def BlkS (w : World) (M : Nat → Prop) : Blk → Nm → Prop
  | .own _, _ => True
  | .row k l ver, m => (∀ x ∈ l, x.length = k) ∧ l.length = m.len ∧ (m.cap = 0 → l = []) ∧ m.ver = ver ∧ m.own = false
  | .frz, _ => True
def BlkR (ρ : Nat → Nm) (w : World) (M : Nat → Prop) (m : Nm) (x : Blk) : Prop := BlkS w M x m ∧ (x.real m = true → ∃ cs, CellsAt w m.b cs ∧ BlkC ρ w M cs x m)
abbrev Env := List (Nat × SV)
abbrev Hp := List (Nat × Blk)
def look {α : Type} : List (Nat × α) → Nat → Option α
  | [], _ => none
  | (k, x) :: r, t => if k = t then some x else look r t
def Mof (M0 : Nat → Prop) (ρ : Nat → Nm) (H : Hp) (b : Nat) : Prop := M0 b ∨ ∃ n x, look H n = some x ∧ x.real (ρ n) = true ∧ (ρ n).b = b
def At.names : At → List Nat
  | .ptr n _ | .osl n _ | .rp n _ _ _ _ => [n]
  | .fn _ caps => caps
  | _ => []
def namesA (l : List At) : List Nat := l.flatMap At.names
def SC.names : SC → List Nat
  | .at a => a.names
  | .agg l => namesA l
def namesC (l : List SC) : List Nat := l.flatMap SC.names
def SV.names : SV → List Nat
  | .c x => x.names
  | .tup l => namesC l
def Blk.names : Blk → List Nat
  | .own cells => namesA cells
  | .row _ _ _ | .frz => []
structure BelowC (C : Nat → Prop) (n : Nat) (w w' : World) : Prop where
  os : w'.os = w.os
  tape : w'.tape = w.tape
  output : w'.output = w.output
  size : w.heap.size ≤ w'.heap.size
  block : ∀ k, k < n → ¬ C k → w'.heap[k]? = w.heap[k]?
  drawn : C n ∨ w.drawn ≤ w'.drawn
theorem BelowC.refl (C : Nat → Prop) (n : Nat) (w : World) : BelowC C n w w := ⟨rfl, rfl, rfl, Nat.le_refl _, fun _ _ _ => rfl, .inr (Nat.le_refl _)⟩
theorem BelowC.trans {C : Nat → Prop} {n : Nat} {w w' w'' : World} (h : BelowC C n w w') (k : BelowC C n w' w'') : BelowC C n w w'' :=
  ⟨k.os.trans h.os, k.tape.trans h.tape, k.output.trans h.output, Nat.le_trans h.size k.size, fun b hb hC => (k.block b hb hC).trans (h.block b hb hC), h.drawn.elim .inl fun h1 => k.drawn.elim .inl fun h2 => .inr (Nat.le_trans h1 h2)⟩
theorem BelowC.of_below {C : Nat → Prop} {n m : Nat} {w w' : World} (h : Below m w w') (hn : n ≤ m) (hd : C n ∨ w.drawn ≤ w'.drawn) : BelowC C n w w' := ⟨h.os, h.tape, h.output, h.size, fun k hk _ => h.block k (Nat.lt_of_lt_of_le hk hn), hd⟩
theorem BelowC.below {C : Nat → Prop} {n : Nat} {w w' : World} (h : BelowC C n w w') (hC : ∀ k, k < n → ¬ C k) : Below n w w' := ⟨h.os, h.tape, h.output, h.size, fun k hk => h.block k hk (hC k hk)⟩
def Pin (C : Nat → Prop) (s n b : Nat) : Prop := b < s ∧ C (s + 1 + n * s + b)
theorem Pin.gt {C : Nat → Prop} {s n b : Nat} (h : Pin C s n b) : ∃ x, s < x ∧ C x := ⟨_, by rw [Nat.add_assoc, Nat.add_assoc]; omega, h.2⟩
structure Lo (w : World) (M : Nat → Prop) : Prop where
  lt : ∀ b, M b → b < w.heap.size
  gd : Gd w
  ge : ∀ b, M b → gl ≤ b
instance {w : World} {M : Nat → Prop} : CoeFun (Lo w M) (fun _ => ∀ b, M b → b < w.heap.size) := ⟨Lo.lt⟩
structure LoR (C M0 : Nat → Prop) (w0 : World) : Prop where
  lt : ∀ b, M0 b → b < w0.heap.size
  gd : Gd w0
  ge : ∀ b, M0 b → gl ≤ b
  gc : ∀ b, C b → gl ≤ b
instance {C M : Nat → Prop} {w : World} : CoeFun (LoR C M w) (fun _ => ∀ b, M b → b < w.heap.size) := ⟨LoR.lt⟩
structure Rel (C M0 : Nat → Prop) (w0 : World) (sz : Nat) (ρ : Nat → Nm) (E : Env) (H : Hp) (a : Act) (w : World) : Prop where
  below : BelowC C w0.heap.size w0 w
  out : LoR C M0 w0
  env : ∀ t x, look E t = some x → SVR ρ w (Mof M0 ρ H) x (a.tmps.getD t undef)
  lo : ∀ n b, look H n = some b → b.real (ρ n) = true → w0.heap.size ≤ (ρ n).b ∨ (C (ρ n).b ∧ (ρ n).own = true)
  hi : ∀ n b, look H n = some b → b.real (ρ n) = true → (ρ n).b < w.heap.size
  blk : ∀ n b, look H n = some b → BlkR ρ w (Mof M0 ρ H) (ρ n) b
  inj : ∀ n n' b b', look H n = some b → look H n' = some b' → b.real (ρ n) = true → b'.real (ρ n') = true → (ρ n).b = (ρ n').b → n = n'
  defers : a.defers = []
  size : a.tmps.size = sz
  pin : ∀ n b, Pin C w0.heap.size n b → 1000 ≤ n ∧ sz ≤ 1000 ∧ (ρ n).own = true ∧ (ρ n).b = b
  clE : ∀ t x, look E t = some x → ∀ n ∈ x.names, (look H n).isSome = true
  clH : ∀ n b, look H n = some b → ∀ m ∈ b.names, (look H m).isSome = true
section
variable {ρ : Nat → Nm} {w w' : World} {M M' : Nat → Prop}
theorem AtR.mono (hw : Holds M w w') (hM : ∀ b, b < w.heap.size → M' b → M b) : ∀ {a : At} {v : Value}, AtR ρ w M a v → AtR ρ w' M' a v
  | .d x, v, h => Rep.mono h hw hM
  | .ptr n o, v, h => h
  | .osl n len, v, h => h
  | .rp n len k i o, v, h => h
  | .ep k l i o, v, ⟨b, off, e, cap, h⟩ => ⟨b, off, e, cap, h.mono hw hM⟩
  | .fn f caps, v, h => h
theorem AtsR.mono (hw : Holds M w w') (hM : ∀ b, b < w.heap.size → M' b → M b) : ∀ {a : List At} {v : List Value}, AtsR ρ w M a v → AtsR ρ w' M' a v
  | [], [], _ => trivial
  | a :: l, v :: vs, h => ⟨h.1.mono hw hM, AtsR.mono hw hM h.2⟩
  | [], _ :: _, h => h.elim
  | _ :: _, [], h => h.elim
theorem SCR.mono (hw : Holds M w w') (hM : ∀ b, b < w.heap.size → M' b → M b) : ∀ {a : SC} {v : Value}, SCR ρ w M a v → SCR ρ w' M' a v
  | .at a, v, h => AtR.mono hw hM h
  | .agg l, v, ⟨vs, e, h⟩ => ⟨vs, e, h.mono hw hM⟩
theorem SCsR.mono (hw : Holds M w w') (hM : ∀ b, b < w.heap.size → M' b → M b) : ∀ {a : List SC} {v : List Value}, SCsR ρ w M a v → SCsR ρ w' M' a v
  | [], [], _ => trivial
  | a :: l, v :: vs, h => ⟨h.1.mono hw hM, SCsR.mono hw hM h.2⟩
  | [], _ :: _, h => h.elim
  | _ :: _, [], h => h.elim
theorem SVR.mono (hw : Holds M w w') (hM : ∀ b, b < w.heap.size → M' b → M b) : ∀ {a : SV} {v : Value}, SVR ρ w M a v → SVR ρ w' M' a v
  | .c a, v, h => SCR.mono hw hM h
  | .tup l, v, ⟨vs, e, h⟩ => ⟨vs, e, h.mono hw hM⟩
theorem DsR.mono (hw : Holds M w w') (hM : ∀ b, b < w.heap.size → M' b → M b) : ∀ {a : List D} {v : List Value}, DsR w M a v → DsR w' M' a v
  | [], [], _ => trivial
  | a :: l, v :: vs, h => ⟨h.1.mono hw hM, DsR.mono hw hM h.2⟩
  | [], _ :: _, h => h.elim
  | _ :: _, [], h => h.elim
variable {ρ' : Nat → Nm}
theorem AtR.rename : ∀ {a : At} {v : Value}, (∀ n ∈ a.names, ρ' n = ρ n) → AtR ρ w M a v → AtR ρ' w M a v
  | .d x, v, _, h => h
  | .ptr n o, v, hn, h => by simp only [AtR] at *; rw [hn n (by simp [At.names])]; exact h
  | .osl n len, v, hn, h => by simp only [AtR] at *; rw [hn n (by simp [At.names])]; exact h
  | .rp n len k i o, v, hn, h => by simp only [AtR] at *; rw [hn n (by simp [At.names])]; exact h
  | .ep k l i o, v, _, h => h
  | .fn f caps, v, hn, h => by
    simp only [AtR] at *
    refine ⟨fun n hx => by rw [hn n hx]; exact h.1 n hx, ?_⟩
    rw [h.2]; congr 2
    exact List.map_congr_left fun n hx => by rw [hn n hx]
theorem AtsR.rename : ∀ {a : List At} {v : List Value}, (∀ n ∈ namesA a, ρ' n = ρ n) → AtsR ρ w M a v → AtsR ρ' w M a v
  | [], [], _, _ => trivial
  | a :: l, v :: vs, hn, h => ⟨h.1.rename fun n hx => hn n (by simp [namesA]; exact .inl hx), AtsR.rename (fun n hx => hn n (by simp [namesA] at *; exact .inr hx)) h.2⟩
  | [], _ :: _, _, h => h.elim
  | _ :: _, [], _, h => h.elim
theorem SCR.rename : ∀ {a : SC} {v : Value}, (∀ n ∈ a.names, ρ' n = ρ n) → SCR ρ w M a v → SCR ρ' w M a v
  | .at a, v, hn, h => AtR.rename hn h
  | .agg l, v, hn, ⟨vs, e, h⟩ => ⟨vs, e, h.rename hn⟩
theorem SCsR.rename : ∀ {a : List SC} {v : List Value}, (∀ n ∈ namesC a, ρ' n = ρ n) → SCsR ρ w M a v → SCsR ρ' w M a v
  | [], [], _, _ => trivial
  | a :: l, v :: vs, hn, h => ⟨h.1.rename fun n hx => hn n (by simp [namesC]; exact .inl hx), SCsR.rename (fun n hx => hn n (by simp [namesC] at *; exact .inr hx)) h.2⟩
  | [], _ :: _, _, h => h.elim
  | _ :: _, [], _, h => h.elim
theorem SVR.rename : ∀ {a : SV} {v : Value}, (∀ n ∈ a.names, ρ' n = ρ n) → SVR ρ w M a v → SVR ρ' w M a v
  | .c a, v, hn, h => SCR.rename hn h
  | .tup l, v, hn, ⟨vs, e, h⟩ => ⟨vs, e, h.rename hn⟩
theorem BlkC.mono {ρ : Nat → Nm} (hw : Holds M w w') (hM : ∀ b, b < w.heap.size → M' b → M b) {cs : List Value} {m : Nm} : ∀ {x : Blk}, BlkC ρ w M cs x m → BlkC ρ w' M' cs x m
  | .own cells, h => AtsR.mono hw hM h
  | .row k l _, ⟨h2, h3, h4, vs, rest, h5, h6⟩ => ⟨h2, h3, h4, vs, rest, h5, h6.mono hw hM⟩
  | .frz, _ => trivial
theorem BlkC.rename {cs : List Value} {m : Nm} : ∀ {x : Blk}, (∀ n ∈ x.names, ρ' n = ρ n) → BlkC ρ w M cs x m → BlkC ρ' w M cs x m
  | .own cells, hn, h => AtsR.rename hn h
  | .row k l _, hn, h => h
  | .frz, hn, h => h
theorem BlkS.mono (hw : Holds M w w') (hM : ∀ b, b < w.heap.size → M' b → M b) {m : Nm} : ∀ {x : Blk}, BlkS w M x m → BlkS w' M' x m
  | .own cells, h => trivial
  | .row k l _, h => h
  | .frz, h => h
end
end Sx
end Go.Proofs.YtgdpogdgpfjnoaaGreatDoor
