/- A symbolic walk: what one operation does to the symbolic frame and heap. Definitions. No conditions. -/
import Derived.Test.YtffamgiknfphaaaSxA
namespace Go.Proofs.Ytffamgiknfphaaa
open Go Go.RowKit

set_option linter.unusedVariables false
namespace Sx

/-- what a walk must know of a type -/
inductive TD where
  | sc (z : D)
  | st (n : Nat) (z : List D) (fs : List (Nat × Nat × Bool))
  | ar (n : Nat) (z : List D) (len ek : Nat) (eagg : Bool)
  | sl (ek : Nat) (eagg : Bool)
  | int (k : IntKind)
  | bool
  deriving Inhabited
def TD.size : TD → Nat
  | .sc _ | .sl _ _ | .int _ | .bool => 1
  | .st n _ _ | .ar n _ _ _ _ => n
def TD.agg : TD → Bool
  | .sc _ | .sl _ _ | .int _ | .bool => false
  | .st .. | .ar .. => true
def TD.zero : TD → List D
  | .sc z => [z]
  | .st _ z _ | .ar _ z _ _ _ => z
  | .sl k _ => [.list k []]
  | .int k => [.v (.int k 0)]
  | .bool => [.v (.bool false)]

/-- data that calls take and give -/
inductive DC where
  | one (x : D)
  | agg (l : List D)
  deriving Inhabited
inductive DV where
  | c (x : DC)
  | tup (l : List DC)
  deriving Inhabited
def DCR (w : World) (M : Nat → Prop) : DC → Value → Prop
  | .one x, v => Rep w M x v
  | .agg l, v => ∃ vs : List Value, v = .agg vs.toArray ∧ DsR w M l vs
def DCsR (w : World) (M : Nat → Prop) : List DC → List Value → Prop
  | [], [] => True
  | a :: l, v :: vs => DCR w M a v ∧ DCsR w M l vs
  | _, _ => False
def DVR (w : World) (M : Nat → Prop) : DV → Value → Prop
  | .c x, v => DCR w M x v
  | .tup l, v => ∃ vs : List Value, v = .tuple vs.toArray ∧ DCsR w M l vs
/-- a call of function f, at such arguments, gives this -/
def FnOK (P : Program) (f : Nat) (args : List DC) (r : DV) : Prop :=
  ∀ (w : World) (M : Nat → Prop) (vs : List Value), (∀ b, M b → b < w.heap.size) → DCsR w M args vs →
    (∃ g, (callFunc f vs.toArray).run P w = .ok (.enter g vs.toArray) w ∧ Calls P g vs.toArray w fun e w' => ∃ v, e = .returned v ∧ DVR w' M r v ∧ Below w.heap.size w w') ∨
    (∃ v, (callFunc f vs.toArray).run P w = .ok (.value v) w ∧ DVR w M r v)

structure br (b : Bool) (A B : Prop) : Prop where
  t : b = true → A
  f : b = false → B
theorem br_i {b : Bool} {A B : Prop} (h1 : b = true → A) (h2 : b = false → B) : br b A B := ⟨h1, h2⟩
theorem br_t {A B : Prop} (h : A) : br true A B := ⟨fun _ => h, fun h => (by cases h)⟩
theorem br_f {A B : Prop} (h : B) : br false A B := ⟨fun h => (by cases h), fun _ => h⟩
theorem br_t' {b : Bool} {A B : Prop} (e : b = true) (h : A) : br b A B := ⟨fun _ => h, fun h => (by rw [e] at h; cases h)⟩
theorem br_f' {b : Bool} {A B : Prop} (e : b = false) (h : B) : br b A B := ⟨fun h => (by rw [e] at h; cases h), fun _ => h⟩

theorem brd_t {p : Prop} [Decidable p] {A B : Prop} (e : p) (h : A) : br (decide p) A B := br_t' (decide_eq_true e) h
theorem brd_f {p : Prop} [Decidable p] {A B : Prop} (e : ¬ p) (h : B) : br (decide p) A B := br_f' (decide_eq_false e) h
theorem brd {p : Prop} [Decidable p] {A B : Prop} (h1 : p → A) (h2 : ¬ p → B) : br (decide p) A B := ⟨fun e => h1 (of_decide_eq_true e), fun e => h2 (of_decide_eq_false e)⟩
theorem bre_t {a b : Int} {A B : Prop} (e : a = b) (h : A) : br (a == b) A B := br_t' (beq_iff_eq.2 e) h
theorem bre_f {a b : Int} {A B : Prop} (e : a ≠ b) (h : B) : br (a == b) A B := br_f' (beq_eq_false_iff_ne.2 e) h
theorem bre {a b : Int} {A B : Prop} (h1 : a = b → A) (h2 : a ≠ b → B) : br (a == b) A B := ⟨fun e => h1 (beq_iff_eq.1 e), fun e => h2 (beq_eq_false_iff_ne.1 e)⟩
theorem brn_t {a b : Int} {A B : Prop} (e : a ≠ b) (h : A) : br (a != b) A B := br_t' (bne_iff_ne.2 e) h
theorem brn_f {a b : Int} {A B : Prop} (e : a = b) (h : B) : br (a != b) A B := br_f' (bne_eq_false_iff_eq.2 e) h
theorem brn {a b : Int} {A B : Prop} (h1 : a ≠ b → A) (h2 : a = b → B) : br (a != b) A B := ⟨fun e => h1 (bne_iff_ne.1 e), fun e => h2 (bne_eq_false_iff_eq.1 e)⟩
theorem brnot {b : Bool} {A B : Prop} (h : br b B A) : br (!b) A B := ⟨fun e => h.f (by cases b <;> first | rfl | cases e), fun e => h.t (by cases b <;> first | rfl | cases e)⟩
inductive Eff where
  | val (x : SV)
  | new (n : Nat) (b : Blk) (x : SV)
  | put (n : Nat) (b : Blk)
  deriving Inhabited
inductive SR where
  | fail
  | ret (x : Eff)
  | ob (p : Prop) (x : Eff)
  | exV (p : Value → Prop) (x : Value → Eff)
  | exL (p : List D → Prop) (x : List D → Eff)
  | exD (p : DV → Prop) (x : DV → Eff)
  | spl (b : Bool) (x y : Eff)
def SR.run : SR → (Eff → Prop) → Prop
  | .fail, _ => False
  | .ret x, k => k x
  | .ob p x, k => p ∧ k x
  | .exV p x, k => ∃ a, p a ∧ k (x a)
  | .exL p x, k => ∃ a, p a ∧ k (x a)
  | .exD p x, k => ∃ a, p a ∧ k (x a)
  | .spl b x y, k => br b (k x) (k y)
def SR.has : SR → Eff → Prop
  | .fail, _ => False
  | .ret x, y => x = y
  | .ob p x, y => p ∧ x = y
  | .exV p x, y => ∃ a, p a ∧ x a = y
  | .exL p x, y => ∃ a, p a ∧ x a = y
  | .exD p x, y => ∃ a, p a ∧ x a = y
  | .spl b x y, z => (b = true ∧ x = z) ∨ (b = false ∧ y = z)
theorem SR.run_has {r : SR} {k : Eff → Prop} (h : r.run k) : ∃ x, r.has x ∧ k x := by
  cases r with
  | fail => exact h.elim
  | ret x => exact ⟨x, rfl, h⟩
  | ob p x => exact ⟨x, ⟨h.1, rfl⟩, h.2⟩
  | exV p x => obtain ⟨a, h1, h2⟩ := h; exact ⟨x a, ⟨a, h1, rfl⟩, h2⟩
  | exL p x => obtain ⟨a, h1, h2⟩ := h; exact ⟨x a, ⟨a, h1, rfl⟩, h2⟩
  | exD p x => obtain ⟨a, h1, h2⟩ := h; exact ⟨x a, ⟨a, h1, rfl⟩, h2⟩
  | spl b x y => cases b with
    | true => exact ⟨x, .inl ⟨rfl, rfl⟩, h.t rfl⟩
    | false => exact ⟨y, .inr ⟨rfl, rfl⟩, h.f rfl⟩

def sD (x : D) : SV := .c (.at (.d x))
def sV (x : Value) : SV := .c (.at (.d (.v x)))

def embC : DC → SC
  | .one x => .at (.d x)
  | .agg l => .agg (l.map .d)
def embV : DV → SV
  | .c x => .c (embC x)
  | .tup l => .tup (l.map embC)
def atD? : At → Option D
  | .d x => some x
  | _ => none
def atsD? : List At → Option (List D)
  | [] => some []
  | .d x :: l => match atsD? l with | some r => some (x :: r) | none => none
  | _ :: _ => none
def argOf : SV → Option DC
  | .c (.at (.d x)) => some (.one x)
  | .c (.agg l) => match atsD? l with | some r => some (.agg r) | none => none
  | _ => none
def argsOf : List (Option SV) → Option (List DC)
  | [] => some []
  | some x :: l => match argOf x, argsOf l with | some a, some r => some (a :: r) | _, _ => none
  | none :: _ => none

def cellsC : SC → List At
  | .at a => [a]
  | .agg l => l
/-- the part of a value -/
def partA (agg : Bool) (l : List At) (off n : Nat) : Option SC :=
  if agg then if Nat.ble (off + n) l.length then some (.agg ((l.drop off).take n)) else none
  else match l.drop off with | a :: _ => some (.at a) | [] => none
def setL {α : Type} : List α → Nat → List α → List α
  | l, _, [] => l
  | [], _, _ => []
  | _ :: cs, 0, x :: xs => x :: setL cs 0 xs
  | c :: cs, n + 1, xs => c :: setL cs n xs

/-- values that are no data in memory -/
def dV? : D → Option Value
  | .v x => some x
  | _ => none
def atsV? : List At → Option (List Value)
  | [] => some []
  | .d (.v x) :: l => match atsV? l with | some r => some (x :: r) | none => none
  | _ :: _ => none
def svV? : SV → Option Value
  | .c (.at (.d (.v x))) => some x
  | .c (.agg l) => match atsV? l with | some r => some (.agg r.toArray) | none => none
  | _ => none
def valA (v : Value) : SV := match v with | .agg cs => .c (.agg (cs.toList.map fun x => .d (.v x))) | v => sV v

def binI (op : BinOp) (k : IntKind) (x y : Int) : Option Value :=
  match op with
  | .add => some (.int k (k.wrap (x + y)))
  | .sub => some (.int k (k.wrap (x - y)))
  | .mul => some (.int k (k.wrap (x * y)))
  | .eql => some (.bool (x == y))
  | .neq => some (.bool (x != y))
  | .lss => some (.bool (x < y))
  | .leq => some (.bool (x ≤ y))
  | .gtr => some (.bool (x > y))
  | .geq => some (.bool (x ≥ y))
  | .and => some (.int k (k.wrap (BitVec.ofInt k.bits x &&& BitVec.ofInt k.bits y).toNat))
  | .or => some (.int k (k.wrap (BitVec.ofInt k.bits x ||| BitVec.ofInt k.bits y).toNat))
  | .xor => some (.int k (k.wrap (BitVec.ofInt k.bits x ^^^ BitVec.ofInt k.bits y).toNat))
  | _ => none

def sameK : IntKind → IntKind → Bool
  | .i8, .i8 | .i16, .i16 | .i32, .i32 | .i64, .i64 | .u8, .u8 | .u16, .u16 | .u32, .u32 | .u64, .u64 => true
  | _, _ => false

def maxI (x y : Int) : Int := if y > x then y else x
def minI (x y : Int) : Int := if y < x then y else x

def retD (sz : Nat) (dst : Option Nat) (x : SV) : SR :=
  match dst with
  | some d => match Nat.blt d sz with | true => .ret (.val x) | false => .fail
  | none => .fail
def guardD (sz : Nat) (dst : Option Nat) (r : SR) : SR :=
  match dst with
  | some d => match Nat.blt d sz with | true => r | false => .fail
  | none => .fail
def unD (op : UnOp) (v : Value) : Option Value :=
  match op, v with
  | .neg, .int k n => some (.int k (k.wrap (0 - n)))
  | .not, .bool b => some (.bool !b)
  | _, _ => none

/-- one operation, at its operands' values -/
def stepV (P : Program) (Γ : List (Nat × TD)) (sz : Nat) (o : Oper) (vals : List (Option SV)) (h : Nat → Option Blk) (fresh : Bool) : SR :=
  match o.op, vals with
  | .move _, [some x] => retD sz o.dst x
  | .assign _, [some x] => retD sz o.dst x
  | .pick _ _ _, [some (.c (.at (.d (.v (.bool b))))), x, y] => match x, y with
    | some x, some y => guardD sz o.dst (.spl b (.val x) (.val y))
    | _, _ => .fail
  | .alloc t, _ =>
    match look Γ t, o.dst, fresh with
    | some td, some d, true => guardD sz o.dst (.ret (.new d (.own (td.zero.map .d)) (.c (.at (.ptr d 0)))))
    | _, _, _ => .fail
  | .box _ _, [some (.c x)] =>
    match o.dst, fresh with
    | some d, true => guardD sz o.dst (.ret (.new d (.own (cellsC x)) (.c (.at (.ptr d 0)))))
    | _, _ => .fail
  | .load t _, [some (.c (.at (.ptr n off)))] =>
    match look Γ t, h n with
    | some td, some (.own cs) => match partA td.agg cs off td.size with
      | some x => retD sz o.dst (.c x)
      | none => .fail
    | _, _ => .fail
  | .load t _, [some (.c (.at (.ep k l i off)))] =>
    match look Γ t with
    | some td => guardD sz o.dst (.exL (fun e => l[i]? = some e ∧ off + td.size ≤ e.length)
        fun e => .val (.c (match td.agg with | true => .agg ((((e.map At.d).drop off).take td.size)) | false => .at ((e.map At.d)[off]?.getD default))))
    | none => .fail
  | .store t _ _, [some (.c (.at (.ptr n off))), some (.c x)] =>
    match look Γ t, h n, o.dst with
    | some td, some (.own cs), none => match Nat.beq (cellsC x).length td.size, Nat.ble (off + td.size) cs.length with
      | true, true => .ret (.put n (.own (setL cs off (cellsC x))))
      | _, _ => .fail
    | _, _, _ => .fail
  | .fieldAddr t _ i, [some (.c (.at (.ptr n off)))] =>
    match look Γ t with
    | some (.st _ _ fs) => match fs[i]? with
      | some (fo, fz, _) => match Nat.beq fz 0 with | false => retD sz o.dst (.c (.at (.ptr n (off + fo)))) | true => .fail
      | none => .fail
    | _ => .fail
  | .fieldAddr t _ i, [some (.c (.at (.ep k l j off)))] =>
    match look Γ t with
    | some (.st _ _ fs) => match fs[i]? with
      | some (fo, fz, _) => match Nat.beq fz 0 with | false => retD sz o.dst (.c (.at (.ep k l j (off + fo)))) | true => .fail
      | none => .fail
    | _ => .fail
  | .field t _ i, [some (.c (.agg l))] =>
    match look Γ t with
    | some (.st _ _ fs) => match fs[i]? with
      | some (fo, fz, fa) => match partA fa l fo fz with
        | some x => retD sz o.dst (.c x)
        | none => .fail
      | none => .fail
    | _ => .fail
  | .index t _ _, [some (.c (.agg l)), some (.c (.at (.d (.v (.int _ i)))))] =>
    match look Γ t with
    | some (.ar _ _ len ek ea) => match partA ea l (i.toNat * ek) ek with
      | some x => guardD sz o.dst (.ob (0 ≤ i ∧ i < len) (.val (.c x)))
      | none => .fail
    | _ => .fail
  | .nilCheck _, [some (.c (.at (.ptr n off)))] => retD sz o.dst (.c (.at (.ptr n off)))
  | .nilCheck _, [some (.c (.at (.ep k l i off)))] => retD sz o.dst (.c (.at (.ep k l i off)))
  | .binOp op t x y _, [some vx, some vy] =>
    match svV? vx, svV? vy with
    | some (.int k a), some (.int k' b) =>
      match sameK k k' with
      | true => match op with
        | .quo => guardD sz o.dst (.ob (b ≠ 0) (.val (sV (.int k (k.wrap (a.tdiv b))))))
        | .rem => guardD sz o.dst (.ob (b ≠ 0) (.val (sV (.int k (a.tmod b)))))
        | .shl => guardD sz o.dst (.ob (0 ≤ b) (.val (sV (.int k (k.wrap (a * 2 ^ (min b.toNat k.bits)))))))
        | .shr => guardD sz o.dst (.ob (0 ≤ b) (.val (sV (.int k (a.fdiv (2 ^ (min b.toNat k.bits)))))))
        | op => match binI op k a b with
          | some v => retD sz o.dst (sV v)
          | none => .fail
      | false => match op with
        | .shl => guardD sz o.dst (.ob (0 ≤ b) (.val (sV (.int k (k.wrap (a * 2 ^ (min b.toNat k.bits)))))))
        | .shr => guardD sz o.dst (.ob (0 ≤ b) (.val (sV (.int k (a.fdiv (2 ^ (min b.toNat k.bits)))))))
        | _ => .fail
    | some (.bool a), some (.bool b) =>
      match look Γ t, op with
      | some .bool, .eql => retD sz o.dst (sV (.bool (a == b)))
      | some .bool, .neq => retD sz o.dst (sV (.bool (!(a == b))))
      | _, _ => .fail
    | some a, some b => guardD sz o.dst (.exV (fun v => v.oneCell' = true ∧ wfV v ∧ ∀ w, (do eqGuard op t x y a b; binOp op t a b : Sem Value).run P w = .ok v w) fun v => .val (sV v))
    | _, _ => .fail
  | .unOp op _ _, [some (.c (.at (.d (.v v))))] =>
    match unD op v with
    | some r => retD sz o.dst (sV r)
    | none => .fail
  | .convert s t _, [some (.c (.at (.d (.v v))))] =>
    match look Γ s, look Γ t, v with
    | some (.int _), some (.int k), .int _ n => retD sz o.dst (sV (.int k (k.wrap n)))
    | _, _, _ => guardD sz o.dst (.exV (fun r => r.oneCell' = true ∧ wfV r ∧ ∀ w, (convert s t v).run P w = .ok r w) fun r => .val (sV r))
  | .extract _ i, [some (.tup l)] =>
    match l.drop i with
    | x :: _ => retD sz o.dst (.c x)
    | [] => .fail
  | .buildSlice t len ps, vs =>
    match look Γ t with
    | some (.sl ek _) => match buildL ek 0 (ps.toList.map (·.1)) vs with
      | some l => match Nat.beq l.length len, Nat.ble 1 len, Nat.ble 1 ek, Nat.ble (len * ek) 16777216 with
        | true, true, true, true => retD sz o.dst (sD (.list ek l))
        | _, _, _, _ => .fail
      | none => .fail
    | _ => .fail
  | .build t ps, vs =>
    match look Γ t with
    | some (.ar n z len ek ea) => match buildA ((List.range len).map fun i => (i * ek, ek, ea)) (z.map .d) (ps.toList.map (·.1)) vs with
      | some l => retD sz o.dst (.c (.agg l))
      | none => .fail
    | some (.st n z fs) => match buildA fs (z.map .d) (ps.toList.map (·.1)) vs with
      | some l => retD sz o.dst (.c (.agg l))
      | none => .fail
    | _ => .fail
  | .call { callee := .value _, .. }, some (.c (.at (.fn f []))) :: vs =>
    match argsOf vs with
    | some args => guardD sz o.dst (.exD (fun r => FnOK P f args r) fun r => .val (embV r))
    | none => .fail
  | .call { callee := .builtin .len, argTypes := ts, .. }, [some (.c (.at (.d (.list k l))))] =>
    match look Γ (ts[0]?.getD 0) with
    | some (.sl _ _) => match Nat.blt 0 ts.size with
      | true => retD sz o.dst (sV (.int .i64 l.length))
      | false => .fail
    | _ => .fail
  | .call { callee := .builtin .max, .. }, [some (.c (.at (.d (.v (.int k a))))), some (.c (.at (.d (.v (.int k' b)))))] => match sameK k k' with
    | true => retD sz o.dst (sV (.int k (maxI a b)))
    | false => .fail
  | .call { callee := .builtin .max, .. }, [some (.c (.at (.d (.v (.int k a))))), some (.c (.at (.d (.v (.int k' b))))), some (.c (.at (.d (.v (.int k'' c)))))] => match sameK k k', sameK k k'' with
    | true, true => retD sz o.dst (sV (.int k (maxI (maxI a b) c)))
    | _, _ => .fail
  | .call { callee := .builtin .min, .. }, [some (.c (.at (.d (.v (.int k a))))), some (.c (.at (.d (.v (.int k' b)))))] => match sameK k k' with
    | true => retD sz o.dst (sV (.int k (minI a b)))
    | false => .fail
  | .indexAddr t _ _, [some (.c (.at (.d (.list k l)))), some (.c (.at (.d (.v (.int _ i)))))] =>
    match look Γ t with
    | some (.sl ek _) => match Nat.beq ek k with
      | true => guardD sz o.dst (.ob (0 ≤ i ∧ i < l.length) (.val (.c (.at (.ep k l i.toNat 0)))))
      | false => .fail
    | _ => .fail
  | .indexAddr t _ _, [some (.c (.at (.ptr n off))), some (.c (.at (.d (.v (.int _ i)))))] =>
    match look Γ t with
    | some (.ar _ _ len ek _) => guardD sz o.dst (.ob (0 ≤ i ∧ i < len) (.val (.c (.at (.ptr n (off + i.toNat * ek))))))
    | _ => .fail
  | _, _ => .fail
where
  buildL (ek : Nat) : Nat → List Nat → List (Option SV) → Option (List (List D))
    | _, [], [] => some []
    | j, i :: is, some (.c x) :: vs =>
      match Nat.beq i j, atsD? (cellsC x), Nat.beq (cellsC x).length ek with
      | true, some d, true => match buildL ek (j + 1) is vs with
        | some r => some (d :: r)
        | none => none
      | _, _, _ => none
    | _, _, _ => none
  buildA (fs : List (Nat × Nat × Bool)) : List At → List Nat → List (Option SV) → Option (List At)
    | z, [], _ => some z
    | z, i :: is, some (.c x) :: vs =>
      match fs[i]? with
      | some (fo, fz, _) => match Nat.beq (cellsC x).length fz, Nat.ble (fo + fz) z.length with
        | true, true => buildA fs (setL z fo (cellsC x)) is vs
        | _, _ => none
      | none => none
    | _, _, _ => none

def ev (e : Nat → Option SV) : Operand → Option SV
  | .tmp t => e t
  | .const v => match wfB v with | true => (match v with | .agg _ => none | .tuple _ => none | .func _ _ _ => none | v => some (sV v)) | false => none
  | .global _ => none
  | .func f => some (.c (.at (.fn f [])))

def memB (n : Nat) : List Nat → Bool
  | [] => false
  | m :: l => match Nat.beq n m with | true => true | false => memB n l
def namesO : List (Option SV) → List Nat
  | [] => []
  | some x :: l => x.names ++ namesO l
  | none :: l => namesO l
def onlyN (h : Nat → Option Blk) (l : List Nat) (n : Nat) : Option Blk := match memB n l with | true => h n | false => none

def freshB (h : Nat → Option Blk) : Option Nat → Bool
  | some d => (h d).isNone
  | none => false

def valsOf (e : Nat → Option SV) (o : Oper) : List (Option SV) := o.op.operands.toList.map (ev e)
def stepF (P : Program) (Γ : List (Nat × TD)) (sz : Nat) (o : Oper) (e : Nat → Option SV) (h : Nat → Option Blk) : SR :=
  stepV P Γ sz o (valsOf e o) (onlyN h (namesO (valsOf e o))) (freshB h o.dst)

def apE (dst : Option Nat) (x : Eff) (E : Env) : Env :=
  match x, dst with
  | .val v, some d => (d, v) :: E
  | .new _ _ v, some d => (d, v) :: E
  | _, _ => E
def apH (x : Eff) (H : Hp) : Hp :=
  match x with
  | .new n b _ => (n, b) :: H
  | .put n b => (n, b) :: H
  | .val _ => H
end Sx
end Go.Proofs.Ytffamgiknfphaaa
