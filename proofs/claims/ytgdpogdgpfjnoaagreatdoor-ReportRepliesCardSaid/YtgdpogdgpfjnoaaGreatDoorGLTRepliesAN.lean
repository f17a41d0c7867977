import Derived.Test.YtgdpogdgpfjnoaaGreatDoorGLTRepliesAM
import Derived.Test.YtgdpogdgpfjnoaaGreatDoorRows
import Derived.Test.YtgdpogdgpfjnoaaGreatDoorTie
import Derived.Test.YtgdpogdgpfjnoaaGreatDoorCards
import Derived.Test.YtgdpogdgpfjnoaaGreatDoorGLTRepliesAJ
import Derived.Test.YtgdpogdgpfjnoaaGreatDoorGLTRepliesAL
import Derived.Deep.DeepHandedRow
import Derived.Deep.DeepLaidRun
import Derived.LaidSub
import Derived.SevenTiedAt
import Derived.Stop.LaidErr
import Derived.Shelf.SlSortCmp.WholeK
import Derived.Shelf.SlSortCmp.NoneTotal
import Derived.Ground.SlsfProg
import Derived.Test.YtgdpogdgpfjnoaaGreatDoorProg
import Derived.Test.YtgdpogdgpfjnoaaGreatDoorGLTRepliesAK
import Derived.Lib.AppendZerosOnto
import Derived.Shelf.Spec.SlicesInsert
import Derived.Deep.RegionLaw
import Derived.RangeFuncFrom
import Derived.RangeFuncLeaves
import Derived.WalkKit
import Derived.OwnWalkIn
import Derived.TacticsInMore
import Derived.RegionIn
import Derived.LoopNIn
import Derived.LoopIn
import Derived.RangeFuncCalls
import Derived.RangeFuncBox
import Derived.Lib.ItoaLen
import Derived.Lib.Atoi
set_option linter.all false
namespace Go.Proofs.YtgdpogdgpfjnoaaGreatDoor
open Go Go.RowKit Sx
theorem fit_str {c : DC} (h : FitC .str c) : ∃ s : List UInt8, s.length ≤ 9223372036854775807 ∧ c = .one (str s) := by
  obtain ⟨d, rfl, b, hb, e⟩ := h
  simp only [List.cons.injEq, and_true] at e
  subst e
  refine ⟨b.data.toList, ?_, rfl⟩
  have := Lib.size_eq b
  simp only [maxLen] at hb
  omega
def cells0 : DataW Unit → List Value
  | .lit (.int k n) => [.int k n]
  | _ => []
def cells1 : DataW Unit → List Value
  | .agg l => l.flatMap cells0
  | x => cells0 x
def cells2 : DataW Unit → List Value
  | .agg l => l.flatMap cells1
  | x => cells1 x
def layB (l : List (String × DataW Unit)) (i : Nat) (cs : Array Value) : Array Value := match l[i]? with
  | some x => (cells2 x.2).toArray
  | none => cs
def layO (i : Nat) : Obj → Obj
  | .cells c t f => .cells (layB Rows.reportRepliesRow.laid i c) t f
  | o => o
def layE (b : Nat) : Obj → Obj
  | .cells _ t f => .cells #[.iface 311 (.pointer (some ⟨b, 0, none⟩))] t f
  | o => o
abbrev textR : ByteArray := { data := #[118, 97, 108, 117, 101, 32, 111, 117, 116, 32, 111, 102, 32, 114, 97, 110, 103, 101] }
abbrev textS : ByteArray := { data := #[105, 110, 118, 97, 108, 105, 100, 32, 115, 121, 110, 116, 97, 120] }
noncomputable def lowR : Nat := (World.holding Tryz.prog default ⟨#[], #[], []⟩).heap.size
noncomputable def laidHeap (os : Os) : Array Obj := (((((((World.holding Tryz.prog os ⟨#[.cells #[.string textR] 313, .cells #[.string textS] 313], #[], []⟩).heap.modify 8 (layO 0)).modify 9 (layO 1)).modify 2 (layO 2)).modify 7 (layO 3)).modify 5 (layE lowR)).modify 4 (layE (lowR + 1))).modify 6 (layO 6)
noncomputable def laidWorld (os : Os) : World := { World.holding Tryz.prog os ⟨#[.cells #[.string textR] 313, .cells #[.string textS] 313], #[], []⟩ with heap := laidHeap os }
theorem laid_met (os : Os) (args : Array Value) : laidMet Tryz.prog Rows.reportRepliesRow.laid ((laidWorld os).forCall (fun _ _ => 0) ⟨#[], args, []⟩).memory :=
  laidMet_of_run3 8 (by kernel_rfl) (by kernel_rfl) (by kernel_rfl)
theorem estar : "*" ++ "errors.errorString" = "*errors.errorString" := by decide
theorem erow (u : TypeId) (h : (Tryz.prog).typeName? 3 u = some "*errors.errorString") : u = 311 :=
  typeName_ptr_named (nm := "errors.errorString") (by rw [estar]; kernel_rfl) (by kernel_rfl) (by decide) u (by rw [estar]; exact h)
theorem gd_of {W : World} (hL : laidMetH Tryz.prog Rows.reportRepliesRow.laid W) (hsh : W.ShapedOpen Tryz.prog) : Gd W := by
  refine ⟨?_, ?_, ?_, ?_, ?_⟩
  · have hsome : (((begin Tryz.prog (fun _ _ => 0) default).world.heap[9]?).bind Obj.row?).isSome = true := by kernel_rfl
    obtain ⟨⟨zero, t⟩, h0⟩ := Option.isSome_iff_exists.1 hsome
    obtain ⟨cs, hh, _, _⟩ := hsh.1 9 zero t (of_decide_eq_true (by kernel_rfl)) h0
    have : 9 < W.heap.size := (Array.getElem?_eq_some_iff.1 hh).1
    have e : gl = 10 := by unfold gl; kernel_rfl
    omega
  · exact Tryz.laysM145.s1_3 W hsh
  · have h1 := hL.filter fun x => x.1 == "internal/strconv.uint64pow10"
    have e : (Rows.reportRepliesRow.laid.filter fun x => x.1 == "internal/strconv.uint64pow10") = [("internal/strconv.uint64pow10", Rows.laid_internal_strconv_uint64pow10)] := by kernel_rfl
    rw [e] at h1
    have h2 : laidMet Tryz.prog [("internal/strconv.uint64pow10", Lib.tabData .u64 Lib.pow10Tab)] W := h1
    exact Lib.tabIs_of_head (g := 2) (t := 290) (e := 126) (n := 20) (by kernel_rfl) (by kernel_rfl) (by kernel_rfl) (by kernel_rfl) (by kernel_rfl) (by kernel_rfl) h2
  · have h1 := hL.filter fun x => x.1 == "strconv.ErrSyntax"
    have e : (Rows.reportRepliesRow.laid.filter fun x => x.1 == "strconv.ErrSyntax") = [("strconv.ErrSyntax", Rows.laid_strconv_ErrSyntax)] := by kernel_rfl
    rw [e] at h1
    have h2 : laidMet Tryz.prog [("strconv.ErrSyntax", Rows.laid_strconv_ErrSyntax)] W := h1
    obtain ⟨a, _, h3, _⟩ := laid_sentinel (g := 4) (ti := 147) (ts := 9) h2 (by kernel_rfl) (by kernel_rfl) Tryz.underlying147 erow Tryz.underlying311 Tryz.underlying313 rfl rfl Tryz.underlying9 (by kernel_rfl) (by kernel_rfl)
    exact ⟨_, _, h3⟩
  · have h1 := hL.filter fun x => x.1 == "strconv.ErrRange"
    have e : (Rows.reportRepliesRow.laid.filter fun x => x.1 == "strconv.ErrRange") = [("strconv.ErrRange", Rows.laid_strconv_ErrRange)] := by kernel_rfl
    rw [e] at h1
    have h2 : laidMet Tryz.prog [("strconv.ErrRange", Rows.laid_strconv_ErrRange)] W := h1
    obtain ⟨a, _, h3, _⟩ := laid_sentinel (g := 5) (ti := 147) (ts := 9) h2 (by kernel_rfl) (by kernel_rfl) Tryz.underlying147 erow Tryz.underlying311 Tryz.underlying313 rfl rfl Tryz.underlying9 (by kernel_rfl) (by kernel_rfl)
    exact ⟨_, _, h3⟩
end Go.Proofs.YtgdpogdgpfjnoaaGreatDoor

namespace Go.Proofs
open Go.Shelf
end Go.Proofs

namespace Go.Proofs.YtgdpogdgpfjnoaaGreatDoor
open Go Go.Shelf Go.RowKit Go.Lib Go.Sort Sx
namespace Sx
end Sx
end Go.Proofs.YtgdpogdgpfjnoaaGreatDoor

namespace Go.Proofs.YtgdpogdgpfjnoaaGreatDoor
open Go Go.RowKit Go.Sort Sx
def fx (n m : Int) (p : Pt) : Int := p.a * m + p.b * n
def ldr (n m : Int) (p q : Pt) : Prop := fx n m q < fx n m p ∨ fx n m p = fx n m q ∧ (q.b < p.b ∨ p.b = q.b ∧ p.id < q.id)
instance (n m : Int) (p q : Pt) : Decidable (ldr n m p q) := by unfold ldr; infer_instance
def apart (l : List Pt) : Prop := ∀ p ∈ l, ∀ q ∈ l, p.id = q.id → p = q
end Go.Proofs.YtgdpogdgpfjnoaaGreatDoor

namespace Go.Proofs.YtgdpogdgpfjnoaaGreatDoor
open Go Go.RowKit Go.Sort Sx
end Go.Proofs.YtgdpogdgpfjnoaaGreatDoor

namespace Go.Proofs.YtgdpogdgpfjnoaaGreatDoor
open Go Go.RowKit Go.Sort Sx
abbrev ints (l : List Int) : D := .list 1 (l.map fun i => [i64 i])
end Go.Proofs.YtgdpogdgpfjnoaaGreatDoor

namespace Go.Proofs.YtgdpogdgpfjnoaaGreatDoor
open Go Go.RowKit Go.Sort Sx
theorem ints_get {l : List Int} {i : Nat} (h : i < l.length) : (l.map fun i => [i64 i])[((i : Nat) : Int).toNat]? = some [i64 l[i]] := by
  rw [Int.toNat_natCast, List.getElem?_map, List.getElem?_eq_getElem h]; rfl
end Go.Proofs.YtgdpogdgpfjnoaaGreatDoor

namespace Go.Proofs.YtgdpogdgpfjnoaaGreatDoor
open Go Go.RowKit Go.Sort Sx
def without (l : List Pt) (id : Int) : List Pt := l.filter fun p => decide (p.id ≠ id)
end Go.Proofs.YtgdpogdgpfjnoaaGreatDoor

namespace Go.Proofs.YtgdpogdgpfjnoaaGreatDoor
open Go Go.RowKit Go.Sort Sx
end Go.Proofs.YtgdpogdgpfjnoaaGreatDoor

namespace Go.Proofs.YtgdpogdgpfjnoaaGreatDoor
open Go Go.RowKit Go.Sort Sx
structure Mt where
  n : Int
  d : Int
  i : Int
  j : Int
  deriving DecidableEq, Inhabited
def Mt.c (m : Mt) : List D := [i64 m.n, i64 m.d, i64 m.i, i64 m.j]
abbrev Mt.dc (m : Mt) : DC := .agg [i64 m.n, i64 m.d, i64 m.i, i64 m.j]
abbrev mts (l : List Mt) : D := .list 4 (l.map Mt.c)
def orL : List Int → Int
  | [] => 0
  | x :: l => if x = 0 then orL l else x
theorem orL_drop {l : List Int} : ∀ {i : Nat}, i ≤ l.length → (∀ k (h : k < l.length), k < i → l[k] = 0) → orL l = orL (l.drop i)
  | 0, _, _ => rfl
  | i + 1, hi, h => by
    rw [orL_drop (i := i) (by omega) (fun k hk hki => h k hk (by omega)), List.drop_eq_getElem_cons (show i < l.length by omega), orL, if_pos (h i (by omega) (by omega))]
theorem cmporL_fnd (l : List Int) (hl : l.length ≤ 1000000) : FnD Tryz.prog 138 [.one (ints l)] (ret1 (orL l)) := by
  refine fn_okD (by kernel_rfl) ty_okD rfl Tryz.func138 rfl (fun _ _ => Tryz.call138 _ _) rfl ?_
  intro hw
  clear hw
  have hll : (l.map fun i => [i64 i]).length = l.length := List.length_map ..
  repeat' ((conv => whnf); first | (with_reducible first | refine br_t ?_ | refine br_f ?_ | refine zd ?_ | refine za ?_ | refine zg ?_) | refine zp ?_ | refine zq ?_ | (with_reducible first | refine bc (fun h => ?_) (fun h => ?_) | refine zt ?_ | refine zf ?_ | refine br_i (fun h => ?_) (fun h => ?_)) | refine zg ?_ | refine zi ?_ | refine zb ?_)
  refine loop_J (by kernel_rfl) ty_okD (σ := Nat) (fun i => [(8, sV (.int .i64 i))]) (fun _ => []) (fun i => i ≤ l.length ∧ ∀ k (h : k < l.length), k < i → l[k] = 0) (fun i => l.length - i) 0 ⟨Nat.zero_le _, fun k _ h => absurd h (Nat.not_lt_zero _)⟩ ?_ ?_
  · (conv => whnf); exact zent
  rintro i ⟨hi, hI⟩
  rcases Nat.lt_or_ge i l.length with hlt | hge
  · have hel := ints_get hlt
    by_cases hc : l[i] = 0
    · repeat' ((conv => whnf); first | (with_reducible first | refine br_t ?_ | refine br_f ?_ | refine zd ?_ | refine za ?_ | refine zg ?_) | refine zp ?_ | refine zq ?_ | (with_reducible first | refine bc (fun h => ?_) (fun h => ?_) | refine zt ?_ | refine zf ?_ | refine br_i (fun h => ?_) (fun h => ?_)) | refine zg ?_ | refine zi ?_ | refine zb ?_)
      all_goals conv => whnf
      refine ⟨i + 1, ⟨by omega, fun k hk hki => ?_⟩, ?_, by omega⟩
      · rcases Nat.lt_or_ge k i with h | h
        · exact hI k hk h
        · have : k = i := by omega
          subst this; exact hc
      · (conv => whnf); exact zent
    · rw [orL_drop hi hI, List.drop_eq_getElem_cons hlt, orL, if_neg hc]
      repeat' ((conv => whnf); first | (with_reducible first | refine br_t ?_ | refine br_f ?_ | refine zd ?_ | refine za ?_ | refine zg ?_) | refine zp ?_ | refine zq ?_ | (with_reducible first | refine bc (fun h => ?_) (fun h => ?_) | refine zt ?_ | refine zf ?_ | refine br_i (fun h => ?_) (fun h => ?_)) | refine zg ?_ | refine zi ?_ | refine zb ?_)
      all_goals conv => whnf
      all_goals rfl
  · rw [orL_drop hi hI, List.drop_eq_nil_of_le hge, orL]
    repeat' ((conv => whnf); first | (with_reducible first | refine br_t ?_ | refine br_f ?_ | refine zd ?_ | refine za ?_ | refine zg ?_) | refine zp ?_ | refine zq ?_ | (with_reducible first | refine bc (fun h => ?_) (fun h => ?_) | refine zt ?_ | refine zf ?_ | refine br_i (fun h => ?_) (fun h => ?_)) | refine zg ?_ | refine zi ?_ | refine zb ?_)
    all_goals conv => whnf
    all_goals rfl
def cfM (a b : Mt) : Int := orL [cmpN (a.n * b.d) (b.n * a.d), cmpN a.i b.i, cmpN a.j b.j]
end Go.Proofs.YtgdpogdgpfjnoaaGreatDoor

namespace Go.Proofs.YtgdpogdgpfjnoaaGreatDoor
open Go Go.RowKit Go.Sort Sx
def Mt.ok (m : Mt) : Prop := chk m.n m.d = 0 ∧ (-9223372036854775808 ≤ m.n ∧ m.n ≤ 9223372036854775807) ∧ m.d ≤ 9223372036854775807 ∧ (-9223372036854775808 ≤ m.i ∧ m.i ≤ 9223372036854775807) ∧ -9223372036854775808 ≤ m.j ∧ m.j ≤ 9223372036854775807
def mlt (a b : Mt) : Prop := qv a.n a.d < qv b.n b.d ∨ qv a.n a.d = qv b.n b.d ∧ (a.i < b.i ∨ a.i = b.i ∧ a.j < b.j)
instance (a b : Mt) : Decidable (mlt a b) := by unfold mlt; infer_instance
def msrt (l : List Mt) : List Mt := l.mergeSort fun x y => !decide (mlt y x)
theorem qv_ltM {p q r t : Int} (h1 : chk p q = 0) (h2 : chk r t = 0) : qv p q < qv r t ↔ p * t < r * q := by
  have e1 := Rat.lt_iff (qv p q) (qv r t)
  rw [qv_num h1, qv_num h2, qv_den h1, qv_den h2] at e1
  exact e1
theorem mlt_irrefl (a : Mt) : ¬ mlt a a := by
  unfold mlt
  simp [Rat.lt_irrefl]
theorem mlt_trans {a b c : Mt} (h1 : mlt a b) (h2 : mlt b c) : mlt a c := by
  unfold mlt at *
  rcases h1 with h1 | ⟨e1, h1⟩ <;> rcases h2 with h2 | ⟨e2, h2⟩
  · exact .inl (Std.lt_trans h1 h2)
  · exact .inl (by rw [← e2]; exact h1)
  · exact .inl (by rw [e1]; exact h2)
  · exact .inr ⟨e1.trans e2, by omega⟩
theorem mlt_tri (a b : Mt) : mlt a b ∨ mlt b a ∨ (qv a.n a.d = qv b.n b.d ∧ a.i = b.i ∧ a.j = b.j) := by
  unfold mlt
  by_cases h1 : qv a.n a.d < qv b.n b.d
  · exact .inl (.inl h1)
  · by_cases h2 : qv b.n b.d < qv a.n a.d
    · exact .inr (.inl (.inl h2))
    · have e : qv a.n a.d = qv b.n b.d := Rat.le_antisymm (Rat.not_lt.1 h2) (Rat.not_lt.1 h1)
      rw [e]
      simp only [true_and]
      have := Rat.lt_irrefl (a := qv b.n b.d)
      simp only [this, false_or]
      omega
theorem mlt_eq {a b : Mt} (h1 : chk a.n a.d = 0) (h2 : chk b.n b.d = 0) (k1 : ¬ mlt a b) (k2 : ¬ mlt b a) : a = b := by
  rcases mlt_tri a b with h | h | ⟨h, hi, hj⟩
  · exact absurd h k1
  · exact absurd h k2
  · obtain ⟨e1, e2⟩ := (qv_inj h1 h2).1 h
    cases a; cases b
    simp_all
end Go.Proofs.YtgdpogdgpfjnoaaGreatDoor

namespace Go.Proofs.YtgdpogdgpfjnoaaGreatDoor
open Go Go.RowKit Go.Sort Sx
theorem mts_get {l : List Mt} {i : Nat} (h : i < l.length) : (l.map Mt.c)[((i : Nat) : Int).toNat]? = some [i64 l[i].n, i64 l[i].d, i64 l[i].i, i64 l[i].j] := by
  rw [Int.toNat_natCast, List.getElem?_map, List.getElem?_eq_getElem h]; rfl
structure Asc (l : List Mt) : Prop where
  ok : ∀ i (h : i < l.length), chk l[i].n l[i].d = 0
  up : ∀ j i (hj : j < l.length) (hij : i < j), qv l[i].n l[i].d ≤ qv l[j].n l[j].d
end Go.Proofs.YtgdpogdgpfjnoaaGreatDoor

namespace Go.Proofs.YtgdpogdgpfjnoaaGreatDoor
open Go Go.RowKit Go.Sort Sx
end Go.Proofs.YtgdpogdgpfjnoaaGreatDoor

namespace Go.Proofs.YtgdpogdgpfjnoaaGreatDoor
open Go Go.RowKit Go.Sort Sx
structure Oth (b : Nat) (w w' : World) : Prop where
  os : w'.os = w.os
  tape : w'.tape = w.tape
  output : w'.output = w.output
  size : w'.heap.size = w.heap.size
  other : ∀ k, k ≠ b → w'.heap[k]? = w.heap[k]?
  drawn : w.drawn ≤ w'.drawn
theorem Oth.trans {b : Nat} {w w' w'' : World} (h : Oth b w w') (k : Oth b w' w'') : Oth b w w'' :=
  ⟨k.os.trans h.os, k.tape.trans h.tape, k.output.trans h.output, k.size.trans h.size, fun i hi => (k.other i hi).trans (h.other i hi), Nat.le_trans h.drawn k.drawn⟩
theorem Oth.drew (b : Nat) (w : World) : Oth b w w.drew := ⟨rfl, rfl, rfl, rfl, fun _ _ => rfl, Nat.le_succ _⟩
theorem Oth.cell {b : Nat} {w w' : World} (h : Oth b w w') {a : Addr} (ha : a.block ≠ b) : w'.cell? a = w.cell? a := World.cell?_of_block (h.other _ ha)
section
variable {P : Program}
end
end Go.Proofs.YtgdpogdgpfjnoaaGreatDoor

namespace Go.Proofs.YtgdpogdgpfjnoaaGreatDoor
open Go Go.RowKit Go.Sort Sx
end Go.Proofs.YtgdpogdgpfjnoaaGreatDoor

namespace Go.Proofs.YtgdpogdgpfjnoaaGreatDoor
open Go Go.RowKit Go.Sort Sx
end Go.Proofs.YtgdpogdgpfjnoaaGreatDoor

namespace Go.Proofs.YtgdpogdgpfjnoaaGreatDoor
open Go Go.RowKit Go.Sort Sx
end Go.Proofs.YtgdpogdgpfjnoaaGreatDoor

namespace Go.Proofs.YtgdpogdgpfjnoaaGreatDoor
open Go Go.RowKit Go.Sort Sx
structure KeepT (n0 : Nat) (W W' : World) : Prop where
  size : W.heap.size ≤ W'.heap.size
  low : ∀ k, k < n0 → W'.heap[k]? = W.heap[k]?
  pt : ∀ (k : Nat) (cs : Array Value) (T : TypeId) (fr : Nat × Nat), W.heap[k]? = some (Obj.cells cs T fr) → (T = 43 ∨ T = 39) → W'.heap[k]? = W.heap[k]?
theorem KeepT.refl (n0 : Nat) (W : World) : KeepT n0 W W := ⟨Nat.le_refl _, fun _ _ => rfl, fun _ _ _ _ _ _ => rfl⟩
theorem KeepT.trans {n0 : Nat} {A B C : World} (h : KeepT n0 A B) (k : KeepT n0 B C) : KeepT n0 A C :=
  ⟨Nat.le_trans h.size k.size, fun i hi => (k.low i hi).trans (h.low i hi), fun i cs T fr hi hT => by
    have e := h.pt i cs T fr hi hT
    exact (k.pt i cs T fr (e.trans hi) hT).trans e⟩
theorem KeepT.alloc {n0 : Nat} (W : World) (o : Obj) (hn : n0 ≤ W.heap.size) : KeepT n0 W (W.alloc o) :=
  ⟨by simp, fun k hk => Below.heap_alloc W o k (by omega), fun k cs T fr h _ => Below.heap_alloc W o k (Array.getElem?_eq_some_iff.1 h).1⟩
def Pt.v (p : Pt) : Value := .agg #[.int .i64 p.id, .int .i64 p.a, .int .i64 p.b]
end Go.Proofs.YtgdpogdgpfjnoaaGreatDoor

namespace Go.Proofs.YtgdpogdgpfjnoaaGreatDoor
open Go Go.RowKit Go.Sort Sx
theorem KeepT.putObj {n0 : Nat} {W : World} {l : Nat} {o : Obj} (o' : Obj) (hn : n0 ≤ l) (hl : W.heap[l]? = some o) (ho : o.isCells = false) : KeepT n0 W (W.putObj l o') :=
  ⟨by simp, fun k hk => World.putObj_heap_other (by omega), fun k cs T fr h _ => World.putObj_heap_other fun e => by
    subst e; rw [hl] at h; injection h with h; subst h; cases ho⟩
end Go.Proofs.YtgdpogdgpfjnoaaGreatDoor

namespace Go.Proofs.YtgdpogdgpfjnoaaGreatDoor
open Go Go.RowKit Go.Sort Sx
def Mt.vals (m : Mt) : List Value := [.int .i64 m.n, .int .i64 m.d, .int .i64 m.i, .int .i64 m.j]
theorem KeepT.of_grownBy {n0 : Nat} {W W' : World} {row : Option Nat} (hg : W.grownBy W' row) (hr : ∀ r, row = some r → n0 ≤ r ∧ ∃ cs T fr, W.heap[r]? = some (.cells cs T fr) ∧ T ≠ 43 ∧ T ≠ 39) (hn : n0 ≤ W.heap.size) : KeepT n0 W W' :=
  ⟨hg.size, fun k hk => hg.block k (by omega) fun e => by have := (hr k e.symm).1; omega, fun k cs T fr hk hT => hg.block k (Array.getElem?_eq_some_iff.1 hk).1 fun e => by
    obtain ⟨_, cs', T', fr', h1, h2, h3⟩ := hr k e.symm
    rw [hk] at h1; injection h1 with h1; injection h1 with _ h1 _
    subst h1
    rcases hT with h | h
    · exact h2 h
    · exact h3 h⟩
theorem KeepT.of_below {n0 : Nat} {W W' : World} (h : Below W.heap.size W W') (hn : n0 ≤ W.heap.size) : KeepT n0 W W' :=
  ⟨h.size, fun k hk => h.block k (by omega), fun k cs T fr hk _ => h.block k (Array.getElem?_eq_some_iff.1 hk).1⟩
theorem KeepsOthers.of_below {W W' : World} (h : Below W.heap.size W W') : KeepsOthers W W' :=
  ⟨h.size, fun k o hk _ => (h.block k (Array.getElem?_eq_some_iff.1 hk).1).trans hk⟩
end Go.Proofs.YtgdpogdgpfjnoaaGreatDoor

namespace Go.Proofs.YtgdpogdgpfjnoaaGreatDoor
open Go Go.RowKit Go.Sort Sx
theorem msrt_perm (l : List Mt) : (msrt l).Perm l := List.mergeSort_perm _ _
theorem msrt_mem {l : List Mt} {m : Mt} : m ∈ msrt l ↔ m ∈ l := (msrt_perm l).mem_iff
theorem mlt_asymm {a b : Mt} (h1 : mlt a b) (h2 : mlt b a) : False := mlt_irrefl a (mlt_trans h1 h2)
theorem mlt_neg {a b c : Mt} (h1 : ¬ mlt b a) (h2 : ¬ mlt c b) : ¬ mlt c a := fun h => by
  rcases mlt_tri a b with k | k | ⟨e1, e2, e3⟩
  · exact h2 (mlt_trans h k)
  · exact h1 k
  · apply h2
    unfold mlt at h ⊢
    rw [← e1, ← e2, ← e3]; exact h
theorem msrt_sorted (l : List Mt) : (msrt l).Pairwise fun a b => ¬ mlt b a := by
  have := List.pairwise_mergeSort (le := fun x y : Mt => !decide (mlt y x)) (fun a b c h1 h2 => by
    simp only [Bool.not_eq_true', decide_eq_false_iff_not] at *
    exact mlt_neg h1 h2) (fun a b => by
    simp only [Bool.or_eq_true, Bool.not_eq_true', decide_eq_false_iff_not]
    by_cases h : mlt b a
    · exact .inr fun k => mlt_asymm h k
    · exact .inl h) l
  refine this.imp fun {a b} h => ?_
  simpa using h
end Go.Proofs.YtgdpogdgpfjnoaaGreatDoor

namespace Go.Proofs.YtgdpogdgpfjnoaaGreatDoor
open Go Go.RowKit Go.Sort Sx
structure Rp where
  e : Int
  i : Int
  j : Int
  n : Int
  d : Int
  ms : List Mt
  deriving DecidableEq, Inhabited
def Rp.c (r : Rp) : List D := [i64 r.e, i64 r.i, i64 r.j, i64 r.n, i64 r.d, mts r.ms]
abbrev Rp.dc (r : Rp) : DC := .agg [i64 r.e, i64 r.i, i64 r.j, i64 r.n, i64 r.d, mts r.ms]
def rp0 : Rp := ⟨0, 0, 0, 0, 0, []⟩
def rpE (e : Int) : Rp := ⟨e, 0, 0, 0, 0, []⟩
end Go.Proofs.YtgdpogdgpfjnoaaGreatDoor

namespace Go.Proofs.YtgdpogdgpfjnoaaGreatDoor
open Go.RowKit Go.Sort Sx
def dst (p q : Pt) (n m : Int) : Int × Int := (((outQ (qv ((p.a - q.a) * m + (p.b - q.b) * n) m)).1.natAbs : Int), (outQ (qv ((p.a - q.a) * m + (p.b - q.b) * n) m)).2.1)
end Go.Proofs.YtgdpogdgpfjnoaaGreatDoor

namespace Go.Proofs.YtgdpogdgpfjnoaaGreatDoor
open Go.RowKit Go.Sort Sx
end Go.Proofs.YtgdpogdgpfjnoaaGreatDoor

namespace Go.Proofs.YtgdpogdgpfjnoaaGreatDoor
open Go.RowKit Go.Sort Sx
end Go.Proofs.YtgdpogdgpfjnoaaGreatDoor

namespace Go.Proofs.YtgdpogdgpfjnoaaGreatDoor
open Go.RowKit Go.Sort Sx
end Go.Proofs.YtgdpogdgpfjnoaaGreatDoor

namespace Go.Proofs.YtgdpogdgpfjnoaaGreatDoor
open Go Go.RowKit Go.Sort Sx
abbrev retA (x : Md × Rp) : DV := .tup [x.1.dc, x.2.dc]
end Go.Proofs.YtgdpogdgpfjnoaaGreatDoor

namespace Go.Proofs.YtgdpogdgpfjnoaaGreatDoor
open Go Go.RowKit Go.Sort Sx
theorem rmBefore_fn {a b : Mt} (h1 : chk a.n a.d = 0) (h2 : chk b.n b.d = 0) : FnOK Tryz.prog 117 [a.dc, b.dc] (.c (.one (bol (decide (mlt a b))))) := by
  have H := rcompare_fn a.n a.d b.n b.d
  have q1 := qv_ltM h1 h2
  have q2 := qv_ltM h2 h1
  have e : cmpN (a.n * b.d) (b.n * a.d) = -1 ∧ mlt a b ∨ cmpN (a.n * b.d) (b.n * a.d) = 1 ∧ ¬ mlt a b ∨ cmpN (a.n * b.d) (b.n * a.d) = 0 ∧ (mlt a b ↔ (a.i < b.i ∨ a.i = b.i ∧ a.j < b.j)) := by
    unfold cmpN mlt
    by_cases c1 : a.n * b.d < b.n * a.d
    · exact .inl ⟨if_pos c1, .inl (q1.2 c1)⟩
    · by_cases c2 : a.n * b.d > b.n * a.d
      · have k := q2.2 c2
        exact .inr (.inl ⟨by rw [if_neg c1, if_pos c2], fun h => h.elim (fun h => c1 (q1.1 h)) fun h => by rw [h.1] at k; exact Rat.lt_irrefl k⟩)
      · have k : qv a.n a.d = qv b.n b.d := Rat.le_antisymm (Rat.not_lt.1 fun h => c2 (q2.1 h)) (Rat.not_lt.1 fun h => c1 (q1.1 h))
        refine .inr (.inr ⟨by rw [if_neg c1, if_neg c2], ?_⟩)
        rw [k]
        have := Rat.lt_irrefl (a := qv b.n b.d)
        simp only [this, false_or, true_and]
  generalize cmpN (a.n * b.d) (b.n * a.d) = z at *
  simp only [ret1] at H
  rcases e with ⟨rfl, e⟩ | ⟨rfl, e⟩ | ⟨rfl, e⟩
  · rw [decide_eq_true e]
    refine fn_ok (by kernel_rfl) ty_ok Tryz.func117 rfl (fun _ _ => Tryz.call117 _ _) rfl ?_
    intro hw
    clear hw q1 q2
    exact zw
  · rw [decide_eq_false e]
    refine fn_ok (by kernel_rfl) ty_ok Tryz.func117 rfl (fun _ _ => Tryz.call117 _ _) rfl ?_
    intro hw
    clear hw q1 q2
    exact zw
  · refine fn_ok (by kernel_rfl) ty_ok Tryz.func117 rfl (fun _ _ => Tryz.call117 _ _) rfl ?_
    intro hw
    clear hw q1 q2
    repeat' ((conv => whnf); first | (with_reducible first | refine br_t ?_ | refine br_f ?_ | refine za ?_ | refine zg ?_) | refine zp ?_ | refine zq ?_ | (with_reducible first | refine bc (fun h => ?_) (fun h => ?_) | refine zt ?_ | refine zf ?_ | refine br_i (fun h => ?_) (fun h => ?_)) | refine zg ?_ | refine zi ?_ | refine zb ?_)
    all_goals conv => whnf
    all_goals
      refine r_bool ?_
      rw [decide_eq_decide, e]
      omega
structure InsO (L0 : List Mt) (i : Nat) (L : List Mt) : Prop where
  p : L.Perm L0
  o : ∀ a b (h : a < b) (hb : b < L.length), b < i → ¬ mlt L[b] L[a]
structure InsI (L0 : List Mt) (i k : Nat) (L : List Mt) : Prop where
  p : L.Perm L0
  hk : k ≤ i
  hi : i < L.length
  o : ∀ a b (h : a < b) (hb : b < L.length), b ≤ i → b ≠ k → ¬ mlt L[b] L[a]
def swp (L : List Mt) (k : Nat) (h : k < L.length) : List Mt := (L.set k L[k - 1]).set (k - 1) L[k]
theorem swp_len {L : List Mt} {k : Nat} (h : k < L.length) : (swp L k h).length = L.length := by simp [swp]
theorem swp_get {L : List Mt} {k : Nat} (h : k < L.length) (h0 : 0 < k) {b : Nat} (hb : b < (swp L k h).length) :
    (swp L k h)[b] = if b = k - 1 then L[k] else if b = k then L[k - 1] else L[b]'(by rw [swp_len] at hb; exact hb) := by
  simp only [swp, List.getElem_set, eq_comm (b := b)]
theorem swap_at {x y : Mt} {l r : List Mt} : (l ++ y :: x :: r).Perm (l ++ x :: y :: r) := List.Perm.append_left l (List.Perm.swap ..)
theorem swp_perm {L : List Mt} {k : Nat} (h : k < L.length) (h0 : 0 < k) : (swp L k h).Perm L := by
  obtain ⟨j, rfl⟩ : ∃ j, k = j + 1 := ⟨k - 1, by omega⟩
  have e1 : L = L.take j ++ L[j] :: L[j + 1] :: L.drop (j + 2) := by
    rw [← List.drop_eq_getElem_cons h, ← List.drop_eq_getElem_cons (by omega), List.take_append_drop]
  have e2 : swp L (j + 1) h = L.take j ++ L[j + 1] :: L[j] :: L.drop (j + 2) := by
    refine List.ext_getElem (by rw [swp_len]; simp; omega) fun b h1 h2 => ?_
    rw [swp_get h h0]
    rw [swp_len] at h1
    simp only [Nat.add_sub_cancel]
    rcases Nat.lt_trichotomy b j with c | c | c
    · rw [if_neg (by omega), if_neg (by omega), List.getElem_append_left (by simp; omega), List.getElem_take]
    · subst c
      have hm : min b L.length = b := Nat.min_eq_left (by omega)
      rw [if_pos rfl, List.getElem_append_right (by rw [List.length_take]; omega)]
      simp only [List.length_take, hm, Nat.sub_self, List.getElem_cons_zero]
    · rw [if_neg (by omega), List.getElem_append_right (by simp; omega)]
      by_cases c1 : b = j + 1
      · subst c1
        have key : ∀ q, q = 1 → ∀ (hq : q < (L[j + 1] :: L[j] :: List.drop (j + 2) L).length), (L[j + 1] :: L[j] :: List.drop (j + 2) L)[q] = L[j] := by rintro _ rfl _; rfl
        rw [if_pos rfl]
        exact (key _ (by rw [List.length_take]; omega) _).symm
      · obtain ⟨d, rfl⟩ : ∃ d, b = j + (d + 2) := ⟨b - j - 2, by omega⟩
        rw [if_neg c1]
        simp only [List.length_take, Nat.min_eq_left (show j ≤ L.length by omega), Nat.add_sub_cancel_left, List.getElem_cons_succ, List.getElem_drop]
        exact getElem_congr rfl (by omega) _
  rw [e2]
  conv => rhs; rw [e1]
  exact swap_at
theorem InsI.start {L0 L : List Mt} {i : Nat} (H : InsO L0 i L) (h : i < L.length) : InsI L0 i i L := ⟨H.p, Nat.le_refl _, h, fun a b h hb h1 h2 => H.o a b h hb (by omega)⟩
theorem InsI.next {L0 L : List Mt} {i k : Nat} (H : InsI L0 i k L) (h0 : 0 < k) (hl : mlt (L[k]'(Nat.lt_of_le_of_lt H.hk H.hi)) (L[k - 1]'(by have := H.hk; have := H.hi; omega))) : InsI L0 i (k - 1) (swp L k (Nat.lt_of_le_of_lt H.hk H.hi)) := by
  have hk := H.hk
  have hi := H.hi
  refine ⟨(List.Perm.trans ?_ H.p), by omega, by rw [swp_len]; exact hi, fun a b h hb h1 h2 => ?_⟩
  · exact swp_perm _ h0
  · have hb' := hb
    rw [swp_len] at hb'
    rw [swp_get _ h0, swp_get _ h0]
    rw [if_neg h2]
    by_cases c1 : b = k
    · rw [if_pos c1]
      by_cases c2 : a = k - 1
      · rw [if_pos c2]; exact fun h => mlt_asymm h hl
      · rw [if_neg c2, if_neg (by omega)]
        exact H.o a (k - 1) (by omega) (by omega) (by omega) (by omega)
    · rw [if_neg c1]
      by_cases c2 : a = k - 1
      · rw [if_pos c2]
        exact H.o k b (by omega) hb' h1 c1
      · rw [if_neg c2]
        by_cases c3 : a = k
        · rw [if_pos c3]
          exact H.o (k - 1) b (by omega) hb' h1 c1
        · rw [if_neg c3]
          exact H.o a b h hb' h1 c1
theorem InsO.done {L0 L : List Mt} {i : Nat} (H : InsO L0 i L) (hok : ∀ m ∈ L0, chk m.n m.d = 0) (hi : L.length ≤ i) : L = msrt L0 := by
  refine List.Perm.eq_of_pairwise (le := fun a b => ¬ mlt b a) (fun a b ha hb h1 h2 => ?_) ?_ (msrt_sorted L0) (H.p.trans (msrt_perm L0).symm)
  · exact mlt_eq (hok a (H.p.mem_iff.1 ha)) (hok b (msrt_mem.1 hb)) h2 h1
  · exact List.pairwise_iff_getElem.2 fun a b ha hb h => H.o a b h hb (by omega)
end Go.Proofs.YtgdpogdgpfjnoaaGreatDoor

namespace Go.Proofs.YtgdpogdgpfjnoaaGreatDoor
open Go Go.RowKit Go.Sort Sx
theorem wd_mts {l : List Mt} (h : WD (mts l)) : l.length ≤ 9223372036854775807 := by
  obtain ⟨h1, _, h3⟩ := WD_list.1 h
  simpa using h1
theorem Mt.eq_iff {p q : Mt} : p = q ↔ p.n = q.n ∧ p.d = q.d ∧ p.i = q.i ∧ p.j = q.j := by
  cases p; cases q; simp
theorem eqMt_fn (a b : List Mt) : FnOK Tryz.prog 88 [.one (mts a), .one (mts b)] (.c (.one (bol (decide (a = b))))) := by
  refine fn_ok (by kernel_rfl) ty_ok Tryz.func88 rfl (fun _ _ => Tryz.call88 _ _) rfl ?_
  intro hw
  simp only [WDCs, WDC, WDs] at hw
  have w1 := wd_mts hw.1
  have w2 := wd_mts hw.2.1
  clear hw
  by_cases h0 : a.length = b.length
  · repeat' ((conv => whnf); first | (with_reducible first | refine br_t ?_ | refine br_f ?_ | refine za ?_ | refine zg ?_) | rw [List.length_map] | refine zp ?_ | refine zq ?_ | (with_reducible first | refine bc (fun h => ?_) (fun h => ?_) | refine zt ?_ | refine zf ?_ | refine br_i (fun h => ?_) (fun h => ?_) | refine xi (pv_bool fun _ => nev31 _ _ _ _ _ _ _ _ _ _ _) ?_) | refine zg ?_ | refine zi ?_ | refine zb ?_)
    refine loop_J (by kernel_rfl) ty_ok (σ := Nat) (fun i => [(13, sV (.int .i64 i))]) (fun _ => []) (fun i => i ≤ a.length ∧ a.take i = b.take i) (fun i => a.length - i) 0 ⟨by omega, rfl⟩ ?_ ?_
    · (conv => whnf); exact zent
    rintro i ⟨hi, hI⟩
    rcases Nat.lt_or_ge i a.length with hlt | hge
    · have hb : i < b.length := by omega
      have he1 := mts_get hlt
      have he2 := mts_get hb
      by_cases hc : a[i] = b[i]
      · have hq := Mt.eq_iff.1 hc
        repeat' ((conv => whnf); first | (with_reducible first | refine br_t ?_ | refine br_f ?_ | refine za ?_ | refine zg ?_) | rw [List.length_map] | refine zp ?_ | refine zq ?_ | (with_reducible first | refine bc (fun h => ?_) (fun h => ?_) | refine zt ?_ | refine zf ?_ | refine br_i (fun h => ?_) (fun h => ?_) | refine xi (pv_bool fun _ => nev31 _ _ _ _ _ _ _ _ _ _ _) ?_) | refine zg ?_ | refine zi ?_ | refine zb ?_)
        all_goals conv => whnf
        refine ⟨i + 1, ⟨by omega, take_succ_eq hI hlt hb hc⟩, ?_, by omega⟩
        (conv => whnf); exact zent
      · have hq := mt Mt.eq_iff.2 hc
        rw [decide_eq_false (ne_of_get hlt hb hc)]
        repeat' ((conv => whnf); first | (with_reducible first | refine br_t ?_ | refine br_f ?_ | refine za ?_ | refine zg ?_) | rw [List.length_map] | refine zp ?_ | refine zq ?_ | (with_reducible first | refine bc (fun h => ?_) (fun h => ?_) | refine zt ?_ | refine zf ?_ | refine br_i (fun h => ?_) (fun h => ?_) | refine xi (pv_bool fun _ => nev31 _ _ _ _ _ _ _ _ _ _ _) ?_) | refine zg ?_ | refine zi ?_ | refine zb ?_)
        all_goals conv => whnf
        all_goals rfl
    · rw [decide_eq_true (take_all_eq hI h0 hge)]
      repeat' ((conv => whnf); first | (with_reducible first | refine br_t ?_ | refine br_f ?_ | refine za ?_ | refine zg ?_) | rw [List.length_map] | refine zp ?_ | refine zq ?_ | (with_reducible first | refine bc (fun h => ?_) (fun h => ?_) | refine zt ?_ | refine zf ?_ | refine br_i (fun h => ?_) (fun h => ?_) | refine xi (pv_bool fun _ => nev31 _ _ _ _ _ _ _ _ _ _ _) ?_) | refine zg ?_ | refine zi ?_ | refine zb ?_)
      all_goals conv => whnf
      all_goals rfl
  · rw [decide_eq_false (fun h => h0 (congrArg List.length h))]
    repeat' ((conv => whnf); first | (with_reducible first | refine br_t ?_ | refine br_f ?_ | refine za ?_ | refine zg ?_) | rw [List.length_map] | refine zp ?_ | refine zq ?_ | (with_reducible first | refine bc (fun h => ?_) (fun h => ?_) | refine zt ?_ | refine zf ?_ | refine br_i (fun h => ?_) (fun h => ?_) | refine xi (pv_bool fun _ => nev31 _ _ _ _ _ _ _ _ _ _ _) ?_) | refine zg ?_ | refine zi ?_ | refine zb ?_)
    all_goals conv => whnf
    all_goals rfl
theorem rmSame_fn (a b : List Mt) : FnOK Tryz.prog 57 [.one (mts a), .one (mts b)] (.c (.one (bol (decide (a = b))))) := by
  refine fn_ok (by kernel_rfl) ty_ok Tryz.func57 rfl (fun _ _ => Tryz.call57 _ _) rfl ?_
  intro hw
  simp only [WDCs, WDC, WDs] at hw
  have w1 := wd_mts hw.1
  have w2 := wd_mts hw.2.1
  clear hw
  by_cases h0 : a.length = b.length
  · repeat' ((conv => whnf); first | (with_reducible first | refine br_t ?_ | refine br_f ?_ | refine za ?_ | refine zg ?_) | rw [List.length_map] | refine zp ?_ | refine zq ?_ | (with_reducible first | refine bc (fun h => ?_) (fun h => ?_) | refine zt ?_ | refine zf ?_ | refine br_i (fun h => ?_) (fun h => ?_) | refine xi (pv_bool fun _ => nev31 _ _ _ _ _ _ _ _ _ _ _) ?_) | refine zg ?_ | refine zi ?_ | refine zb ?_)
    refine loop_J (by kernel_rfl) ty_ok (σ := Nat) (fun i => [(5, sV (.int .i64 i))]) (fun _ => []) (fun i => i ≤ a.length ∧ a.take i = b.take i) (fun i => a.length - i) 0 ⟨by omega, rfl⟩ ?_ ?_
    · (conv => whnf); exact zent
    rintro i ⟨hi, hI⟩
    rcases Nat.lt_or_ge i a.length with hlt | hge
    · have hb : i < b.length := by omega
      have he1 := mts_get hlt
      have he2 := mts_get hb
      by_cases hc : a[i] = b[i]
      · have hq := Mt.eq_iff.1 hc
        repeat' ((conv => whnf); first | (with_reducible first | refine br_t ?_ | refine br_f ?_ | refine za ?_ | refine zg ?_) | rw [List.length_map] | refine zp ?_ | refine zq ?_ | (with_reducible first | refine bc (fun h => ?_) (fun h => ?_) | refine zt ?_ | refine zf ?_ | refine br_i (fun h => ?_) (fun h => ?_) | refine xi (pv_bool fun _ => nev31 _ _ _ _ _ _ _ _ _ _ _) ?_) | refine zg ?_ | refine zi ?_ | refine zb ?_)
        all_goals conv => whnf
        refine ⟨i + 1, ⟨by omega, take_succ_eq hI hlt hb hc⟩, ?_, by omega⟩
        (conv => whnf); exact zent
      · have hq := mt Mt.eq_iff.2 hc
        rw [decide_eq_false (ne_of_get hlt hb hc)]
        repeat' ((conv => whnf); first | (with_reducible first | refine br_t ?_ | refine br_f ?_ | refine za ?_ | refine zg ?_) | rw [List.length_map] | refine zp ?_ | refine zq ?_ | (with_reducible first | refine bc (fun h => ?_) (fun h => ?_) | refine zt ?_ | refine zf ?_ | refine br_i (fun h => ?_) (fun h => ?_) | refine xi (pv_bool fun _ => nev31 _ _ _ _ _ _ _ _ _ _ _) ?_) | refine zg ?_ | refine zi ?_ | refine zb ?_)
        all_goals conv => whnf
        all_goals rfl
    · rw [decide_eq_true (take_all_eq hI h0 hge)]
      repeat' ((conv => whnf); first | (with_reducible first | refine br_t ?_ | refine br_f ?_ | refine za ?_ | refine zg ?_) | rw [List.length_map] | refine zp ?_ | refine zq ?_ | (with_reducible first | refine bc (fun h => ?_) (fun h => ?_) | refine zt ?_ | refine zf ?_ | refine br_i (fun h => ?_) (fun h => ?_) | refine xi (pv_bool fun _ => nev31 _ _ _ _ _ _ _ _ _ _ _) ?_) | refine zg ?_ | refine zi ?_ | refine zb ?_)
      all_goals conv => whnf
      all_goals rfl
  · rw [decide_eq_false (fun h => h0 (congrArg List.length h))]
    repeat' ((conv => whnf); first | (with_reducible first | refine br_t ?_ | refine br_f ?_ | refine za ?_ | refine zg ?_) | rw [List.length_map] | refine zp ?_ | refine zq ?_ | (with_reducible first | refine bc (fun h => ?_) (fun h => ?_) | refine zt ?_ | refine zf ?_ | refine br_i (fun h => ?_) (fun h => ?_) | refine xi (pv_bool fun _ => nev31 _ _ _ _ _ _ _ _ _ _ _) ?_) | refine zg ?_ | refine zi ?_ | refine zb ?_)
    all_goals conv => whnf
    all_goals rfl
end Go.Proofs.YtgdpogdgpfjnoaaGreatDoor

namespace Go.Proofs.YtgdpogdgpfjnoaaGreatDoor
open Go Go.RowKit Go.Sort Sx
end Go.Proofs.YtgdpogdgpfjnoaaGreatDoor

namespace Go.Proofs.YtgdpogdgpfjnoaaGreatDoor
open Go Go.RowKit Go.Sort Sx
end Go.Proofs.YtgdpogdgpfjnoaaGreatDoor

namespace Go.Proofs.YtgdpogdgpfjnoaaGreatDoor
open Go Go.RowKit Go.Sort Sx
theorem Rp.eq_iff {p q : Rp} : p = q ↔ p.e = q.e ∧ p.i = q.i ∧ p.j = q.j ∧ (p.n = q.n ∧ p.d = q.d) ∧ p.ms = q.ms := by
  cases p; cases q; simp [and_assoc]
abbrev retD (x : Md × Rp × Int) : DV := .tup [x.1.dc, x.2.1.dc, .one (i64 x.2.2)]
theorem oSame_fn (a b : Rp) : FnOK Tryz.prog 46 [a.dc, b.dc] (.c (.one (bol (decide (a = b))))) := by
  have H := eqMt_fn a.ms b.ms
  have e := Rp.eq_iff (p := a) (q := b)
  by_cases c : a.ms = b.ms
  · rw [decide_eq_true c] at H
    simp only [c, and_true] at e
    refine fn_ok (by kernel_rfl) ty_ok Tryz.func46 rfl (fun _ _ => Tryz.call46 _ _) rfl ?_
    intro hw
    clear hw
    repeat' ((conv => whnf); first | (with_reducible first | refine br_t ?_ | refine br_f ?_ | refine za ?_ | refine zg ?_) | refine zp ?_ | refine zq ?_ | (with_reducible first | refine bc (fun h => ?_) (fun h => ?_) | refine zt ?_ | refine zf ?_ | refine br_i (fun h => ?_) (fun h => ?_) | refine xi (pv_bool fun _ => eqv25 _ _ _ _ _ _ _) ?_) | refine zg ?_ | refine zi ?_ | refine zb ?_)
    all_goals conv => whnf
    all_goals
      refine r_bool ?_
      rw [Bool.eq_iff_iff]
      rw [decide_eq_true_eq, e]
      first | (refine iff_of_true rfl ?_; omega) | (refine iff_of_false (by decide) ?_; omega)
  · rw [decide_eq_false c] at H
    simp only [c, and_false, iff_false] at e
    rw [decide_eq_false e]
    refine fn_ok (by kernel_rfl) ty_ok Tryz.func46 rfl (fun _ _ => Tryz.call46 _ _) rfl ?_
    intro hw
    clear hw
    repeat' ((conv => whnf); first | (with_reducible first | refine br_t ?_ | refine br_f ?_ | refine za ?_ | refine zg ?_) | refine zp ?_ | refine zq ?_ | (with_reducible first | refine bc (fun h => ?_) (fun h => ?_) | refine zt ?_ | refine zf ?_ | refine br_i (fun h => ?_) (fun h => ?_) | refine xi (pv_bool fun _ => eqv25 _ _ _ _ _ _ _) ?_) | refine zg ?_ | refine zi ?_ | refine zb ?_)
    all_goals conv => whnf
    all_goals rfl
theorem roSame_fn (a b : Rp) : FnOK Tryz.prog 20 [a.dc, b.dc] (.c (.one (bol (decide (a = b))))) := by
  have H := rmSame_fn a.ms b.ms
  have e := Rp.eq_iff (p := a) (q := b)
  by_cases c : a.ms = b.ms
  · rw [decide_eq_true c] at H
    simp only [c, and_true] at e
    refine fn_ok (by kernel_rfl) ty_ok Tryz.func20 rfl (fun _ _ => Tryz.call20 _ _) rfl ?_
    intro hw
    clear hw
    repeat' ((conv => whnf); first | (with_reducible first | refine br_t ?_ | refine br_f ?_ | refine za ?_ | refine zg ?_) | refine zp ?_ | refine zq ?_ | (with_reducible first | refine bc (fun h => ?_) (fun h => ?_) | refine zt ?_ | refine zf ?_ | refine br_i (fun h => ?_) (fun h => ?_) | refine xi (pv_bool fun _ => eqv25 _ _ _ _ _ _ _) ?_) | refine zg ?_ | refine zi ?_ | refine zb ?_)
    all_goals conv => whnf
    all_goals
      refine r_bool ?_
      rw [Bool.eq_iff_iff]
      rw [decide_eq_true_eq, e]
      first | (refine iff_of_true rfl ?_; omega) | (refine iff_of_false (by decide) ?_; omega)
  · rw [decide_eq_false c] at H
    simp only [c, and_false, iff_false] at e
    rw [decide_eq_false e]
    refine fn_ok (by kernel_rfl) ty_ok Tryz.func20 rfl (fun _ _ => Tryz.call20 _ _) rfl ?_
    intro hw
    clear hw
    repeat' ((conv => whnf); first | (with_reducible first | refine br_t ?_ | refine br_f ?_ | refine za ?_ | refine zg ?_) | refine zp ?_ | refine zq ?_ | (with_reducible first | refine bc (fun h => ?_) (fun h => ?_) | refine zt ?_ | refine zf ?_ | refine br_i (fun h => ?_) (fun h => ?_) | refine xi (pv_bool fun _ => eqv25 _ _ _ _ _ _ _) ?_) | refine zg ?_ | refine zi ?_ | refine zb ?_)
    all_goals conv => whnf
    all_goals rfl
end Go.Proofs.YtgdpogdgpfjnoaaGreatDoor

namespace Go.Proofs.YtgdpogdgpfjnoaaGreatDoor
open Go Go.RowKit Sx
namespace Sx
def shMeeting : Sh := .st (.fc 2 shRatio (.fc 1 shInt (.fc 1 shInt .f0)))
def shReply : Sh := .st (.fc 1 shInt (.fc 1 shInt (.fc 1 shInt (.fc 2 shRatio (.fc 1 (.sl 4 shMeeting) .f0)))))
end Sx
theorem fits_meeting {ds : List D} (h : Fits shMeeting ds) : ∃ a : Mt, ds = a.c := by
  obtain ⟨_, _, rfl, h3, _, _, rfl, ⟨i, rfl⟩, _, _, rfl, ⟨j, rfl⟩, rfl⟩ := h
  obtain ⟨n, d, rfl⟩ := fits_ratio h3
  exact ⟨⟨n, d, i, j⟩, rfl⟩
theorem fits_reply {ds : List D} (h : Fits shReply ds) : ∃ a : Rp, ds = a.c := by
  obtain ⟨_, _, rfl, ⟨e, rfl⟩, _, _, rfl, ⟨i, rfl⟩, _, _, rfl, ⟨j, rfl⟩, _, _, rfl, h3, _, _, rfl, ⟨l, rfl, h4⟩, rfl⟩ := h
  obtain ⟨n, d, rfl⟩ := fits_ratio h3
  obtain ⟨l', rfl⟩ := exists_map (f := Mt.c) fun x hx => fits_meeting (h4 x hx)
  exact ⟨⟨e, i, j, n, d, l'⟩, rfl⟩
theorem fit_reply {c : DC} (h : FitC shReply c) : ∃ a : Rp, c = a.dc := by
  obtain ⟨ds, rfl, h⟩ := h
  obtain ⟨a, rfl⟩ := fits_reply h
  exact ⟨a, rfl⟩
end Go.Proofs.YtgdpogdgpfjnoaaGreatDoor

namespace Go.Proofs.YtgdpogdgpfjnoaaGreatDoor
open Go.RowKit Go.Sort Sx Go.Lib
abbrev Str := List UInt8
theorem dig_of {k : Nat} (h : k < 10) : digitVal (UInt8.ofNat (48 + k)) = some k := by
  have e : (UInt8.ofNat (48 + k)).toNat = 48 + k := by
    rw [UInt8.toNat_ofNat']; omega
  unfold digitVal
  rw [e, if_pos ⟨by omega, by omega⟩]
  congr 1; omega
def rdP : Nat → Str → Option Nat
  | n, [] => some n
  | n, b :: l => match digitVal b with
    | some d => if 10 * n + d ≤ 9223372036854775807 then rdP (10 * n + d) l else none
    | none => none
theorem rdP_app (n : Nat) (l r : Str) : rdP n (l ++ r) = (rdP n l).bind fun m => rdP m r := by
  induction l generalizing n with
  | nil => rfl
  | cons b l ih =>
    rw [List.cons_append, rdP, rdP]
    cases digitVal b with
    | none => rfl
    | some d =>
      dsimp only
      split
      · exact ih _
      · rfl
theorem rdP_dec : ∀ (u : Nat), u ≤ 9223372036854775807 → rdP 0 (decDigits u) = some u := by
  intro u
  induction u using Nat.strongRecOn with
  | _ u ih =>
    intro hu
    by_cases h : u < 10
    · rw [decDigits, dif_pos h, rdP, dig_of h]
      dsimp only
      rw [if_pos (by omega), rdP]
      congr 1; omega
    · rw [decDigits, dif_neg h, rdP_app, ih (u / 10) (by omega) (by omega)]
      show rdP (u / 10) _ = _
      rw [rdP, dig_of (Nat.mod_lt _ (by decide))]
      dsimp only
      rw [if_pos (by omega), rdP]
      congr 1; omega
theorem decFrom_app (n : Nat) (l r : Str) : decFrom n (l ++ r) = (decFrom n l).bind fun m => decFrom m r := by
  induction l generalizing n with
  | nil => rfl
  | cons b l ih =>
    rw [List.cons_append, decFrom, decFrom]
    cases digitVal b with
    | none => rfl
    | some d => exact ih _
theorem decFrom_dec : ∀ (u : Nat), decFrom 0 (decDigits u) = some u := by
  intro u
  induction u using Nat.strongRecOn with
  | _ u ih =>
    by_cases h : u < 10
    · rw [decDigits, dif_pos h, decFrom, dig_of h]
      dsimp only
      rw [decFrom]
      congr 1; omega
    · rw [decDigits, dif_neg h, decFrom_app, ih (u / 10) (by omega)]
      show decFrom (u / 10) _ = _
      rw [decFrom, dig_of (Nat.mod_lt _ (by decide))]
      dsimp only
      rw [decFrom]
      congr 1; omega
theorem dec_mem : ∀ (u : Nat), ∀ b ∈ decDigits u, 48 ≤ b.toNat ∧ b.toNat ≤ 57 := by
  intro u
  induction u using Nat.strongRecOn with
  | _ u ih =>
    have key : ∀ k : Nat, k < 10 → 48 ≤ (UInt8.ofNat (48 + k)).toNat ∧ (UInt8.ofNat (48 + k)).toNat ≤ 57 := fun k h => by
      rw [UInt8.toNat_ofNat']; omega
    intro b hb
    by_cases h : u < 10
    · rw [decDigits, dif_pos h, List.mem_singleton] at hb
      subst hb; exact key u h
    · rw [decDigits, dif_neg h] at hb
      rcases List.mem_append.1 hb with hb | hb
      · exact ih (u / 10) (by omega) b hb
      · rw [List.mem_singleton] at hb
        subst hb; exact key _ (Nat.mod_lt _ (by decide))
theorem dec_head {u : Nat} {r : Str} : decDigits u ≠ 45 :: r := fun h => by
  have := dec_mem u 45 (by rw [h]; exact List.mem_cons_self ..)
  exact absurd this.1 (by decide)
theorem nDig_19 {u : Nat} (h : u ≤ 9223372036854775807) : nDigits u ≤ 19 := by
  rcases Nat.lt_or_ge 19 (nDigits u) with h1 | h1
  · exfalso
    obtain ⟨k, hk⟩ : ∃ k, nDigits u = k + 1 := ⟨nDigits u - 1, by omega⟩
    have h2 : 10 ^ 19 ≤ u := by
      rcases Nat.lt_or_ge u (10 ^ 19) with h3 | h3
      · exfalso
        rcases Nat.eq_zero_or_pos u with h0 | h0
        · subst h0; rw [nDigits_small (by decide)] at h1; omega
        · have : ∀ j, u < 10 ^ j → nDigits u ≤ j ∨ u = 0 := by
            intro j
            induction j generalizing u with
            | zero => intro h; exact .inr (by simpa using h)
            | succ j ih => 
              intro hj
              exact .inl (by
                have : ∀ (j u : Nat), u < 10 ^ (j + 1) → nDigits u ≤ j + 1 := by
                  intro j
                  induction j with
                  | zero => intro u hu; rw [nDigits_small (by simpa using hu)]; exact Nat.le_refl _
                  | succ j ih2 =>
                    intro u hu
                    by_cases h10 : u < 10
                    · rw [nDigits_small h10]; omega
                    · rw [nDigits_big h10]
                      have := ih2 (u / 10) (by rw [Nat.pow_succ] at hu; omega)
                      omega
                exact this j u hj)
          rcases this 19 h3 with h4 | h4 <;> omega
      · exact h3
    have : (10 : Nat) ^ 19 = 10000000000000000000 := by decide
    omega
  · exact h1
abbrev fitI (n : Int) : Prop := -9223372036854775807 ≤ n ∧ n ≤ 9223372036854775807
def wholeV (s : Str) : Int × Bool := match s with
  | 45 :: r => (match rdP 0 r with | some n => (-(n : Int), decide (itoa (-(n : Int)) = s)) | none => (0, false))
  | _ => (match rdP 0 s with | some n => ((n : Int), decide (itoa (n : Int) = s)) | none => (0, false))
theorem itoa_neg {n : Nat} (h : 0 < n) : itoa (-(n : Int)) = 45 :: decDigits n := by
  unfold itoa
  rw [if_pos (by omega)]
  congr 2; omega
theorem itoa_pos (n : Nat) : itoa (n : Int) = decDigits n := by
  unfold itoa
  rw [if_neg (by omega)]
  congr 1
theorem rdP_le : ∀ {l : Str} {n m : Nat}, n ≤ 9223372036854775807 → rdP n l = some m → m ≤ 9223372036854775807
  | [], n, m, h, e => by rw [rdP] at e; injection e with e; omega
  | b :: l, n, m, h, e => by
    rw [rdP] at e
    split at e
    · split at e
      · rename_i hle; exact rdP_le hle e
      · cases e
    · cases e
theorem whole_ok {s : Str} (h : (wholeV s).2 = true) : fitI (wholeV s).1 ∧ itoa (wholeV s).1 = s := by
  unfold wholeV at h ⊢
  split at h
  · rename_i r
    cases e : rdP 0 r with
    | none => rw [e] at h; cases h
    | some n =>
      rw [e] at h
      have := rdP_le (by omega) e
      exact ⟨⟨by dsimp only; omega, by dsimp only; omega⟩, of_decide_eq_true h⟩
  · cases e : rdP 0 s with
    | none => rw [e] at h; cases h
    | some n =>
      rw [e] at h
      have := rdP_le (by omega) e
      exact ⟨⟨by dsimp only; omega, by dsimp only; omega⟩, of_decide_eq_true h⟩
theorem whole_itoa {n : Int} (h : fitI n) : wholeV (itoa n) = (n, true) := by
  obtain ⟨h1, h2⟩ := h
  rcases Int.lt_or_le n 0 with h0 | h0
  · obtain ⟨k, hk, rfl⟩ : ∃ k : Nat, 0 < k ∧ n = -(k : Int) := ⟨n.natAbs, by omega, by omega⟩
    rw [itoa_neg hk]
    show (match rdP 0 (decDigits k) with | some n => (-(n : Int), decide (itoa (-(n : Int)) = 45 :: decDigits k)) | none => (0, false)) = _
    rw [rdP_dec k (by omega)]
    dsimp only
    rw [itoa_neg hk, decide_eq_true rfl]
  · obtain ⟨k, rfl⟩ : ∃ k : Nat, n = (k : Int) := ⟨n.toNat, by omega⟩
    rw [itoa_pos]
    unfold wholeV
    split
    · rename_i r e; exact absurd e dec_head
    · rw [rdP_dec k (by omega)]
      dsimp only
      rw [itoa_pos, decide_eq_true rfl]
def tl0 (s : Str) : Str := match s with | 45 :: r => r | _ => s
theorem tl0_dec (k : Nat) : tl0 (decDigits k) = decDigits k := by
  unfold tl0
  split
  · rename_i r e; exact absurd e dec_head
  · rfl
def wholeR (s : Str) : Int × Bool :=
  if (tl0 s).length < 1 ∨ 19 < (tl0 s).length then (0, false) else match decFrom 0 (tl0 s) with
  | some n => if 9223372036854775807 < n then (0, false) else
    (if (tl0 s).length < s.length then -(n : Int) else n, decide (itoa (if (tl0 s).length < s.length then -(n : Int) else n) = s))
  | none => (0, false)
theorem wholeR_ok {s : Str} (h : (wholeR s).2 = true) : fitI (wholeR s).1 ∧ itoa (wholeR s).1 = s := by
  unfold wholeR at h ⊢
  by_cases h1 : (tl0 s).length < 1 ∨ 19 < (tl0 s).length
  · rw [if_pos h1] at h; cases h
  · rw [if_neg h1] at h ⊢
    cases e : decFrom 0 (tl0 s) with
    | none => rw [e] at h; cases h
    | some n =>
      rw [e] at h
      dsimp only at h ⊢
      by_cases h2 : 9223372036854775807 < n
      · rw [if_pos h2] at h; cases h
      · rw [if_neg h2] at h ⊢
        refine ⟨?_, of_decide_eq_true h⟩
        dsimp only
        split <;> constructor <;> omega
theorem wholeR_itoa {n : Int} (h : fitI n) : wholeR (itoa n) = (n, true) := by
  obtain ⟨h1, h2⟩ := h
  rcases Int.lt_or_le n 0 with h0 | h0
  · obtain ⟨k, hk, rfl⟩ : ∃ k : Nat, 0 < k ∧ n = -(k : Int) := ⟨n.natAbs, by omega, by omega⟩
    rw [itoa_neg hk]
    have hl := decDigits_length k
    have h19 := nDig_19 (u := k) (by omega)
    have hp := nDigits_pos k
    have et : tl0 (45 :: decDigits k) = decDigits k := rfl
    unfold wholeR
    rw [et, if_neg (by omega), decFrom_dec]
    dsimp only
    rw [if_neg (by omega), if_pos (by simp), itoa_neg hk, decide_eq_true rfl]
  · obtain ⟨k, rfl⟩ : ∃ k : Nat, n = (k : Int) := ⟨n.toNat, by omega⟩
    rw [itoa_pos]
    have hl := decDigits_length k
    have h19 := nDig_19 (u := k) (by omega)
    have hp := nDigits_pos k
    unfold wholeR
    rw [tl0_dec, if_neg (by omega), decFrom_dec]
    dsimp only
    rw [if_neg (by omega), if_neg (by omega), itoa_pos, decide_eq_true rfl]
end Go.Proofs.YtgdpogdgpfjnoaaGreatDoor
