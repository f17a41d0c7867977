import Derived.Test.YtgdpogdgpfjnoaaDoorGLCTextsAL
import Derived.Test.YtgdpogdgpfjnoaaDoorRows
import Derived.Test.YtgdpogdgpfjnoaaDoorTie
import Derived.Test.YtgdpogdgpfjnoaaDoorCards
import Derived.Test.YtgdpogdgpfjnoaaDoorGLCTextsAJ
import Derived.Test.YtgdpogdgpfjnoaaDoorGLCTextsAK
import Derived.Deep.DeepHandedRow
import Derived.Deep.DeepLaidRun
import Derived.LaidSub
import Derived.SevenTiedAt
import Derived.Lib.Builder
import Derived.Lib.AppendStr
import Derived.Lib.Walk
import Derived.WalkKit
import Derived.RangeFuncRecord
import Derived.Lib.ItoaLen
import Derived.Lib.Atoi
import Derived.ScopeJumps
import Derived.WalkMore
import Derived.Lib.Split
import Derived.Lib.Join
import Derived.Lib.CutLaws
set_option linter.all false
namespace Go.Proofs.YtgdpogdgpfjnoaaDoor
open Go Go.RowKit Sx
namespace Sx
end Sx
theorem fit_str {c : DC} (h : FitC .str c) : ∃ s : List UInt8, s.length ≤ 9223372036854775807 ∧ c = .one (str s) := by
  obtain ⟨d, rfl, b, hb, e⟩ := h
  simp only [List.cons.injEq, and_true] at e
  subst e
  refine ⟨b.data.toList, ?_, rfl⟩
  have := Lib.size_eq b
  simp only [maxLen] at hb
  omega
def cells0 : DataW Unit → List Value
  | .lit (.int k n) => [.int k n]
  | _ => []
def cells1 : DataW Unit → List Value
  | .agg l => l.flatMap cells0
  | x => cells0 x
def cells2 : DataW Unit → List Value
  | .agg l => l.flatMap cells1
  | x => cells1 x
def layB (l : List (String × DataW Unit)) (i : Nat) (cs : Array Value) : Array Value := match l[i]? with
  | some x => (cells2 x.2).toArray
  | none => cs
def layO (i : Nat) : Obj → Obj
  | .cells c t f => .cells (layB Rows.configTextsRow.laid i c) t f
  | o => o
noncomputable def laidHeap (os : Os) : Array Obj := (((((World.holding Tryd.prog os ⟨#[], #[], []⟩).heap.modify 4 (layO 0)).modify 5 (layO 1)).modify 0 (layO 2)).modify 3 (layO 3)).modify 2 (layO 4)
noncomputable def laidWorld (os : Os) : World := { World.holding Tryd.prog os ⟨#[], #[], []⟩ with heap := laidHeap os }
theorem laid_met (os : Os) (args : Array Value) : laidMet Tryd.prog Rows.configTextsRow.laid ((laidWorld os).forCall (fun _ _ => 0) ⟨#[], args, []⟩).memory :=
  laidMet_of_run3 8 (by kernel_rfl) (by kernel_rfl) (by kernel_rfl)
theorem gd_of {W : World} (hL : laidMetH Tryd.prog Rows.configTextsRow.laid W) (hsh : W.ShapedOpen Tryd.prog) : Gd W := by
  refine ⟨?_, ?_, ?_⟩
  · have hsome : (((begin Tryd.prog (fun _ _ => 0) default).world.heap[5]?).bind Obj.row?).isSome = true := by kernel_rfl
    obtain ⟨⟨zero, t⟩, h0⟩ := Option.isSome_iff_exists.1 hsome
    obtain ⟨cs, hh, _, _⟩ := hsh.1 5 zero t (of_decide_eq_true (by kernel_rfl)) h0
    have : 5 < W.heap.size := (Array.getElem?_eq_some_iff.1 hh).1
    have e : gl = 6 := by unfold gl; kernel_rfl
    omega
  · exact Tryd.laysM145.s1_3 W hsh
  · have h1 := hL.filter fun x => x.1 == "internal/strconv.uint64pow10"
    have e : (Rows.configTextsRow.laid.filter fun x => x.1 == "internal/strconv.uint64pow10") = [("internal/strconv.uint64pow10", Rows.laid_internal_strconv_uint64pow10)] := by kernel_rfl
    rw [e] at h1
    have h2 : laidMet Tryd.prog [("internal/strconv.uint64pow10", Lib.tabData .u64 Lib.pow10Tab)] W := h1
    exact Lib.tabIs_of_head (g := 0) (t := 129) (e := 100) (n := 20) (by kernel_rfl) (by kernel_rfl) (by kernel_rfl) (by kernel_rfl) (by kernel_rfl) (by kernel_rfl) h2
end Go.Proofs.YtgdpogdgpfjnoaaDoor

namespace Go.Proofs.YtgdpogdgpfjnoaaDoor
open Go Go.RowKit
theorem bld_size : (Tryd.prog.info? 69).map (·.size) = some 2 := by kernel_rfl
theorem bld_lies : liesAt Tryd.prog Tryd.prog.depth 69 (2 / Tryd.prog.cellsOf 69) 0 69 1 = true := by kernel_rfl
set_option maxHeartbeats 1000000 in
set_option maxRecDepth 100000 in
theorem cc_used (b : Nat) (w : World) (h0 : w.cell? ⟨b, 0, none⟩ = some (.pointer (some ⟨b, 0, none⟩))) :
    Calls Tryd.prog 59 #[.pointer (some ⟨b, 0, none⟩)] w fun e w' => e = .returned (.tuple #[]) ∧ w' = w := by
  obtain ⟨j, hj, _⟩ := Option.map_eq_some_iff.1 bld_size
  go_enter Tryd.func59, Tryd.ntmps59
  go_wp2
  rw [Lib.run_neq_ptr_same w _ Tryd.underlying67 hj]
  go_wp2
  go_end0
  exact ⟨rfl, rfl⟩
set_option maxHeartbeats 1000000 in
set_option maxRecDepth 100000 in
theorem cc_fresh (b : Nat) (w : World) (h0 : w.cell? ⟨b, 0, none⟩ = some (.pointer none)) (hsh : w.shape? b = some (69, 2)) (hfz : w.frozen? ⟨b, 0, none⟩ = false) :
    Calls Tryd.prog 59 #[.pointer (some ⟨b, 0, none⟩)] w fun e w' => e = .returned (.tuple #[]) ∧ w' = w.setCell ⟨b, 0, none⟩ (.pointer (some ⟨b, 0, none⟩)) := by
  obtain ⟨j, hj, hjs⟩ := Option.map_eq_some_iff.1 bld_size
  go_enter Tryd.func59, Tryd.ntmps59
  go_wp2
  rw [Lib.run_to_unsafe w ⟨b, 0, none⟩ Tryd.underlying67 Tryd.underlying114 hj (by rw [hjs]; decide) hsh (Nat.zero_lt_succ 1)]
  simp only [Result.andThen]
  rw [Oper.upon_value]
  go_wp2
  rw [run_callFunc_extern Tryd.func75 (by kernel_rfl) (by kernel_rfl) (by kernel_rfl) (e := Extern.AbiNoEscape.same) (by kernel_rfl)]
  rw [Lib.run_noEscape]
  simp only [Result.andThen]
  rw [Oper.upon_value]
  go_wp2
  rw [Lib.run_from_unsafe w ⟨b, 0, none⟩ Tryd.underlying114 Tryd.underlying67 hj hsh bld_lies]
  simp only [Result.andThen]
  rw [Oper.upon_value]
  go_wp2
  go_end0
  exact ⟨rfl, rfl⟩
theorem cc_any (B b : Nat) (bs : List Value) (w : World) (h : Lib.IsBuilder 69 5 B b bs w) :
    Calls Tryd.prog 59 #[.pointer (some ⟨b, 0, none⟩)] w fun e w' => e = .returned (.tuple #[]) ∧ (Lib.BuilderAt 69 5 B b (.pointer (some ⟨b, 0, none⟩)) bs w' ∧ Below B w w') := by
  rcases h with h | h
  · refine (cc_fresh b w h.cell0 h.shape h.frozen0).mono ?_
    rintro e w' ⟨rfl, rfl⟩
    exact ⟨rfl, h.used _, (Below.refl B w).setCell (p := ⟨b, 0, none⟩) h.1 _⟩
  · refine (cc_used b w h.cell0).mono ?_
    rintro e w' ⟨rfl, rfl⟩
    exact ⟨rfl, h, Below.refl B _⟩
theorem byte_info : (Tryd.prog.info? 5).map (fun i => (i.zero, i.size, i.bytes)) = some (some (.int .u8 0), 1, 1) := by kernel_rfl
set_option maxHeartbeats 2000000 in
set_option maxRecDepth 100000 in
theorem write_any (B b : Nat) (bs : List Value) (s : ByteArray) (w : World) (h : Lib.IsBuilder 69 5 B b bs w) (hlen : bs.length + s.size ≤ 140737488355328) (hBw : B ≤ w.heap.size) :
    Calls Tryd.prog 32 #[.pointer (some ⟨b, 0, none⟩), .string s] w fun e w' => e = .returned (.tuple #[.int .i64 s.size, .nilIface]) ∧ (Lib.BuilderAt 69 5 B b (.pointer (some ⟨b, 0, none⟩)) (bs ++ Lib.strCells s) w' ∧ Below B w w') := by
  obtain ⟨i0, hi, hz0, hz1, hz2⟩ := info_parts byte_info
  go_enter Tryd.func32, Tryd.ntmps32
  go_wp2_with (go_at_call 59; refine (cc_any B b bs _ h).mono ?_)
  rintro e w1 ⟨rfl, h1, hb1⟩
  obtain ⟨hB, v, hbk, hown, hne⟩ := h1
  have c0 : w1.cell? ⟨b, 0, none⟩ = some (.pointer (some ⟨b, 0, none⟩)) := by rw [Lib.cell_of_heap hbk]; rfl
  have c1 : w1.cell? ⟨b, 1, none⟩ = some v := by rw [Lib.cell_of_heap hbk]; rfl
  go_wp2_with (at_builtin; refine Lib.wpList_append_own_string _ rfl _ _ 49 9 rfl B 5 i0 Tryd.underlying49 Tryd.underlying9 hi hz0 hz1 hz2 _ _ _ rfl hown s rfl ?c3 ?c4 ?c5 ?_)
  case c3 => unfold maxLen; omega
  case c4 => omega
  case c5 => have := hb1.size; omega
  intro v' w2 hown' hgrow _
  have hlt : b < w1.heap.size := by
    rcases Nat.lt_or_ge b w1.heap.size with h' | h'
    · exact h'
    · simp [Array.getElem?_eq_none h'] at hbk
  have hb2 : w2.heap[b]? = some (.cells #[.pointer (some ⟨b, 0, none⟩), v] 69 (0, 0)) := by
    rw [hgrow.block b hlt (fun e => hne e.symm)]
    exact hbk
  have d0 : w2.cell? ⟨b, 0, none⟩ = some (.pointer (some ⟨b, 0, none⟩)) := by rw [Lib.cell_of_heap hb2]; rfl
  have d1 : w2.cell? ⟨b, 1, none⟩ = some v := by rw [Lib.cell_of_heap hb2]; rfl
  have f1 : w2.frozen? ⟨b, 1, none⟩ = false := Lib.frozen_of_heap hb2 1
  obtain ⟨ao, n', cap, rfl⟩ : ∃ ao n' cap, v' = .slice ao n' cap := by
    rcases hown'.2 with ⟨hv, _⟩ | ⟨g, cap, cur, hv, _⟩
    · exact ⟨_, _, _, hv⟩
    · exact ⟨_, _, _, hv⟩
  go_wp2
  go_ret2
  refine ⟨rfl, ?_, ?_⟩
  · exact Lib.BuilderAt.put (T := 69) (e := 5) hB hb2 (bs' := bs ++ Lib.strCells s) (by simpa [Lib.strCells_length] using hown') (by decide)
  · exact (hb1.grown hgrow (by have := hb1.size; omega) (fun k hk => (hown.lt k hk).1)).setCell (p := ⟨b, 1, none⟩) hB _
theorem write_str (B b : Nat) (l s : List UInt8) (w : World) (h : Lib.IsBuilder 69 5 B b (Lib.byteCells l) w) (hlen : l.length + s.length ≤ 1000000) (hBw : B ≤ w.heap.size) :
    Calls Tryd.prog 32 #[.pointer (some ⟨b, 0, none⟩), .string ⟨s.toArray⟩] w fun e w' => e = .returned (.tuple #[.int .i64 (s.length : Int), .nilIface]) ∧ (Lib.IsBuilder 69 5 B b (Lib.byteCells (l ++ s)) w' ∧ Below B w w') := by
  refine (write_any B b _ ⟨s.toArray⟩ w h (by rw [Lib.byteCells_length]; show l.length + s.length ≤ _; omega) hBw).mono ?_
  rintro e w' ⟨rfl, h1, h2⟩
  refine ⟨rfl, .inr ?_, h2⟩
  have : Lib.byteCells (l ++ s) = Lib.byteCells l ++ Lib.strCells ⟨s.toArray⟩ := by rw [Lib.byteCells_append]; rfl
  rw [this]; exact h1
theorem rowAt_below {w w' : World} {B : Nat} {e : TypeId} {k n : Nat} {v : Value} {xs : List Value} (h : w.ownsRow B e k v n xs) (hb : Below w.heap.size w w') : w'.ownsRow B e k v n xs := by
  obtain ⟨h1, h | ⟨g, cap, cur, hv, hB, hg, h2⟩⟩ := h
  · exact ⟨h1, .inl h⟩
  · exact ⟨h1, .inr ⟨g, cap, cur, hv, hB, by rw [hb.block g (Array.getElem?_eq_some_iff.1 hg).1]; exact hg, h2⟩⟩
theorem bld_below {w w' : World} {T e : TypeId} {B b : Nat} {bs : List Value} (h : Lib.IsBuilder T e B b bs w) (hb : Below w.heap.size w w') : Lib.IsBuilder T e B b bs w' := by
  rcases h with h | h
  · obtain ⟨hB, v, hv, ho, hn⟩ := h
    exact .inl ⟨hB, v, by rw [hb.block b (Array.getElem?_eq_some_iff.1 hv).1]; exact hv, rowAt_below ho hb, hn⟩
  · obtain ⟨hB, v, hv, ho, hn⟩ := h
    exact .inr ⟨hB, v, by rw [hb.block b (Array.getElem?_eq_some_iff.1 hv).1]; exact hv, rowAt_below ho hb, hn⟩
theorem bld_new (w : World) (T e : TypeId) : Lib.IsBuilder T e w.heap.size w.heap.size [] (w.alloc (.cells #[.pointer none, .slice none 0 0] T)) :=
  .inl ⟨Nat.le_refl _, .slice none 0 0, World.alloc_heap_new w _, ⟨rfl, .inl ⟨rfl, rfl⟩⟩, by intro h; cases h⟩
end Go.Proofs.YtgdpogdgpfjnoaaDoor

namespace Go.Proofs.YtgdpogdgpfjnoaaDoor
open Go.RowKit Go.Sort Sx Go.Lib
abbrev Str := List UInt8
theorem dig_of {k : Nat} (h : k < 10) : digitVal (UInt8.ofNat (48 + k)) = some k := by
  have e : (UInt8.ofNat (48 + k)).toNat = 48 + k := by
    rw [UInt8.toNat_ofNat']; omega
  unfold digitVal
  rw [e, if_pos ⟨by omega, by omega⟩]
  congr 1; omega
def rdP : Nat → Str → Option Nat
  | n, [] => some n
  | n, b :: l => match digitVal b with
    | some d => if 10 * n + d ≤ 9223372036854775807 then rdP (10 * n + d) l else none
    | none => none
theorem rdP_app (n : Nat) (l r : Str) : rdP n (l ++ r) = (rdP n l).bind fun m => rdP m r := by
  induction l generalizing n with
  | nil => rfl
  | cons b l ih =>
    rw [List.cons_append, rdP, rdP]
    cases digitVal b with
    | none => rfl
    | some d =>
      dsimp only
      split
      · exact ih _
      · rfl
theorem rdP_dec : ∀ (u : Nat), u ≤ 9223372036854775807 → rdP 0 (decDigits u) = some u := by
  intro u
  induction u using Nat.strongRecOn with
  | _ u ih =>
    intro hu
    by_cases h : u < 10
    · rw [decDigits, dif_pos h, rdP, dig_of h]
      dsimp only
      rw [if_pos (by omega), rdP]
      congr 1; omega
    · rw [decDigits, dif_neg h, rdP_app, ih (u / 10) (by omega) (by omega)]
      show rdP (u / 10) _ = _
      rw [rdP, dig_of (Nat.mod_lt _ (by decide))]
      dsimp only
      rw [if_pos (by omega), rdP]
      congr 1; omega
theorem decFrom_app (n : Nat) (l r : Str) : decFrom n (l ++ r) = (decFrom n l).bind fun m => decFrom m r := by
  induction l generalizing n with
  | nil => rfl
  | cons b l ih =>
    rw [List.cons_append, decFrom, decFrom]
    cases digitVal b with
    | none => rfl
    | some d => exact ih _
theorem decFrom_dec : ∀ (u : Nat), decFrom 0 (decDigits u) = some u := by
  intro u
  induction u using Nat.strongRecOn with
  | _ u ih =>
    by_cases h : u < 10
    · rw [decDigits, dif_pos h, decFrom, dig_of h]
      dsimp only
      rw [decFrom]
      congr 1; omega
    · rw [decDigits, dif_neg h, decFrom_app, ih (u / 10) (by omega)]
      show decFrom (u / 10) _ = _
      rw [decFrom, dig_of (Nat.mod_lt _ (by decide))]
      dsimp only
      rw [decFrom]
      congr 1; omega
theorem dec_mem : ∀ (u : Nat), ∀ b ∈ decDigits u, 48 ≤ b.toNat ∧ b.toNat ≤ 57 := by
  intro u
  induction u using Nat.strongRecOn with
  | _ u ih =>
    have key : ∀ k : Nat, k < 10 → 48 ≤ (UInt8.ofNat (48 + k)).toNat ∧ (UInt8.ofNat (48 + k)).toNat ≤ 57 := fun k h => by
      rw [UInt8.toNat_ofNat']; omega
    intro b hb
    by_cases h : u < 10
    · rw [decDigits, dif_pos h, List.mem_singleton] at hb
      subst hb; exact key u h
    · rw [decDigits, dif_neg h] at hb
      rcases List.mem_append.1 hb with hb | hb
      · exact ih (u / 10) (by omega) b hb
      · rw [List.mem_singleton] at hb
        subst hb; exact key _ (Nat.mod_lt _ (by decide))
theorem dec_head {u : Nat} {r : Str} : decDigits u ≠ 45 :: r := fun h => by
  have := dec_mem u 45 (by rw [h]; exact List.mem_cons_self ..)
  exact absurd this.1 (by decide)
theorem nDig_19 {u : Nat} (h : u ≤ 9223372036854775807) : nDigits u ≤ 19 := by
  rcases Nat.lt_or_ge 19 (nDigits u) with h1 | h1
  · exfalso
    obtain ⟨k, hk⟩ : ∃ k, nDigits u = k + 1 := ⟨nDigits u - 1, by omega⟩
    have h2 : 10 ^ 19 ≤ u := by
      rcases Nat.lt_or_ge u (10 ^ 19) with h3 | h3
      · exfalso
        rcases Nat.eq_zero_or_pos u with h0 | h0
        · subst h0; rw [nDigits_small (by decide)] at h1; omega
        · have : ∀ j, u < 10 ^ j → nDigits u ≤ j ∨ u = 0 := by
            intro j
            induction j generalizing u with
            | zero => intro h; exact .inr (by simpa using h)
            | succ j ih => 
              intro hj
              exact .inl (by
                have : ∀ (j u : Nat), u < 10 ^ (j + 1) → nDigits u ≤ j + 1 := by
                  intro j
                  induction j with
                  | zero => intro u hu; rw [nDigits_small (by simpa using hu)]; exact Nat.le_refl _
                  | succ j ih2 =>
                    intro u hu
                    by_cases h10 : u < 10
                    · rw [nDigits_small h10]; omega
                    · rw [nDigits_big h10]
                      have := ih2 (u / 10) (by rw [Nat.pow_succ] at hu; omega)
                      omega
                exact this j u hj)
          rcases this 19 h3 with h4 | h4 <;> omega
      · exact h3
    have : (10 : Nat) ^ 19 = 10000000000000000000 := by decide
    omega
  · exact h1
abbrev fitI (n : Int) : Prop := -9223372036854775807 ≤ n ∧ n ≤ 9223372036854775807
def wholeV (s : Str) : Int × Bool := match s with
  | 45 :: r => (match rdP 0 r with | some n => (-(n : Int), decide (itoa (-(n : Int)) = s)) | none => (0, false))
  | _ => (match rdP 0 s with | some n => ((n : Int), decide (itoa (n : Int) = s)) | none => (0, false))
theorem itoa_neg {n : Nat} (h : 0 < n) : itoa (-(n : Int)) = 45 :: decDigits n := by
  unfold itoa
  rw [if_pos (by omega)]
  congr 2; omega
theorem itoa_pos (n : Nat) : itoa (n : Int) = decDigits n := by
  unfold itoa
  rw [if_neg (by omega)]
  congr 1
theorem rdP_le : ∀ {l : Str} {n m : Nat}, n ≤ 9223372036854775807 → rdP n l = some m → m ≤ 9223372036854775807
  | [], n, m, h, e => by rw [rdP] at e; injection e with e; omega
  | b :: l, n, m, h, e => by
    rw [rdP] at e
    split at e
    · split at e
      · rename_i hle; exact rdP_le hle e
      · cases e
    · cases e
theorem whole_ok {s : Str} (h : (wholeV s).2 = true) : fitI (wholeV s).1 ∧ itoa (wholeV s).1 = s := by
  unfold wholeV at h ⊢
  split at h
  · rename_i r
    cases e : rdP 0 r with
    | none => rw [e] at h; cases h
    | some n =>
      rw [e] at h
      have := rdP_le (by omega) e
      exact ⟨⟨by dsimp only; omega, by dsimp only; omega⟩, of_decide_eq_true h⟩
  · cases e : rdP 0 s with
    | none => rw [e] at h; cases h
    | some n =>
      rw [e] at h
      have := rdP_le (by omega) e
      exact ⟨⟨by dsimp only; omega, by dsimp only; omega⟩, of_decide_eq_true h⟩
theorem whole_itoa {n : Int} (h : fitI n) : wholeV (itoa n) = (n, true) := by
  obtain ⟨h1, h2⟩ := h
  rcases Int.lt_or_le n 0 with h0 | h0
  · obtain ⟨k, hk, rfl⟩ : ∃ k : Nat, 0 < k ∧ n = -(k : Int) := ⟨n.natAbs, by omega, by omega⟩
    rw [itoa_neg hk]
    show (match rdP 0 (decDigits k) with | some n => (-(n : Int), decide (itoa (-(n : Int)) = 45 :: decDigits k)) | none => (0, false)) = _
    rw [rdP_dec k (by omega)]
    dsimp only
    rw [itoa_neg hk, decide_eq_true rfl]
  · obtain ⟨k, rfl⟩ : ∃ k : Nat, n = (k : Int) := ⟨n.toNat, by omega⟩
    rw [itoa_pos]
    unfold wholeV
    split
    · rename_i r e; exact absurd e dec_head
    · rw [rdP_dec k (by omega)]
      dsimp only
      rw [itoa_pos, decide_eq_true rfl]
def tl0 (s : Str) : Str := match s with | 45 :: r => r | _ => s
theorem tl0_dec (k : Nat) : tl0 (decDigits k) = decDigits k := by
  unfold tl0
  split
  · rename_i r e; exact absurd e dec_head
  · rfl
def wholeR (s : Str) : Int × Bool :=
  if (tl0 s).length < 1 ∨ 19 < (tl0 s).length then (0, false) else match decFrom 0 (tl0 s) with
  | some n => if 9223372036854775807 < n then (0, false) else
    (if (tl0 s).length < s.length then -(n : Int) else n, decide (itoa (if (tl0 s).length < s.length then -(n : Int) else n) = s))
  | none => (0, false)
theorem wholeR_ok {s : Str} (h : (wholeR s).2 = true) : fitI (wholeR s).1 ∧ itoa (wholeR s).1 = s := by
  unfold wholeR at h ⊢
  by_cases h1 : (tl0 s).length < 1 ∨ 19 < (tl0 s).length
  · rw [if_pos h1] at h; cases h
  · rw [if_neg h1] at h ⊢
    cases e : decFrom 0 (tl0 s) with
    | none => rw [e] at h; cases h
    | some n =>
      rw [e] at h
      dsimp only at h ⊢
      by_cases h2 : 9223372036854775807 < n
      · rw [if_pos h2] at h; cases h
      · rw [if_neg h2] at h ⊢
        refine ⟨?_, of_decide_eq_true h⟩
        dsimp only
        split <;> constructor <;> omega
theorem wholeR_itoa {n : Int} (h : fitI n) : wholeR (itoa n) = (n, true) := by
  obtain ⟨h1, h2⟩ := h
  rcases Int.lt_or_le n 0 with h0 | h0
  · obtain ⟨k, hk, rfl⟩ : ∃ k : Nat, 0 < k ∧ n = -(k : Int) := ⟨n.natAbs, by omega, by omega⟩
    rw [itoa_neg hk]
    have hl := decDigits_length k
    have h19 := nDig_19 (u := k) (by omega)
    have hp := nDigits_pos k
    have et : tl0 (45 :: decDigits k) = decDigits k := rfl
    unfold wholeR
    rw [et, if_neg (by omega), decFrom_dec]
    dsimp only
    rw [if_neg (by omega), if_pos (by simp), itoa_neg hk, decide_eq_true rfl]
  · obtain ⟨k, rfl⟩ : ∃ k : Nat, n = (k : Int) := ⟨n.toNat, by omega⟩
    rw [itoa_pos]
    have hl := decDigits_length k
    have h19 := nDig_19 (u := k) (by omega)
    have hp := nDigits_pos k
    unfold wholeR
    rw [tl0_dec, if_neg (by omega), decFrom_dec]
    dsimp only
    rw [if_neg (by omega), if_neg (by omega), itoa_pos, decide_eq_true rfl]
end Go.Proofs.YtgdpogdgpfjnoaaDoor

namespace Go.Proofs.YtgdpogdgpfjnoaaDoor
open Go Go.RowKit Go.Sort Sx
open Go.Lib hiding intOf
theorem fmt_fn {n : Int} : FnOK Tryd.prog 44 [.one (i64 n), .one (i64 10)] (.c (.one (str (itoa n)))) :=
  fn_of_callsG (fun _ _ => Tryd.call44 _ _) rfl rfl (fun _ => .v trivial) (fun h w hg => by
    have hb := wd_i64.1 h.1
    exact (Tryd.strconv_FormatInt_10 n hb.1 hb.2 w hg.tab).mono fun e w' ⟨he, k, os, hw⟩ => ⟨he, by rw [hw]; exact below_regrown w (w.drawn + k) os⟩)
theorem ito_fn {n : Int} : FnOK Tryd.prog 46 [.one (i64 n)] (.c (.one (str (itoa n)))) :=
  fn_of_callsG (fun _ _ => Tryd.call46 _ _) rfl rfl (fun _ => .v trivial) (fun h w hg => by
    have hb := wd_i64.1 h.1
    exact (Tryd.strconv_Itoa n hb.1 hb.2 w hg.tab).mono fun e w' ⟨he, k, os, hw⟩ => ⟨he, by rw [hw]; exact below_regrown w (w.drawn + k) os⟩)
theorem pre_fn {s p : Str} : FnOK Tryd.prog 72 [.one (str s), .one (str p)] (.c (.one (bol (Lib.hasPrefix s p)))) :=
  fn_of_callsG (fun _ _ => Tryd.call72 _ _) rfl rfl (fun _ => .v trivial) (fun h w hg => (Tryd.strings_HasPrefix ⟨s.toArray⟩ ⟨p.toArray⟩ w).mono fun e w' ⟨he, hw⟩ => ⟨he, hw ▸ Below.refl _ _⟩)
def finW (s : Str) (fr : Nat) (R : Option Nat) : Int × Bool := match R with
  | some n => (if fr = 1 then -(n : Int) else n, decide (itoa (if fr = 1 then -(n : Int) else n) = s))
  | none => (0, false)
theorem finW_1 {s : Str} {fr n : Nat} (h : fr = 1) : finW s fr (some n) = (-(n : Int), decide (itoa (-(n : Int)) = s)) := by subst h; rfl
theorem finW_0 {s : Str} {fr n : Nat} (h : fr ≠ 1) : finW s fr (some n) = ((n : Int), decide (itoa (n : Int) = s)) := by unfold finW; dsimp only; rw [if_neg h]
theorem wholeV_fin (s : Str) : wholeV s = finW s (if Lib.hasPrefix s [45] then 1 else 0) (rdP 0 (s.drop (if Lib.hasPrefix s [45] then 1 else 0))) := by
  unfold wholeV Lib.hasPrefix
  split
  · rename_i r
    have e : ([45] : Str).isPrefixOf (45 :: r) = true := rfl
    rw [e]
    simp only [if_true, List.drop_succ_cons, List.drop_zero]
    rfl
  · rename_i h
    have e : ([45] : Str).isPrefixOf s = false := by
      cases s with
      | nil => rfl
      | cons b r =>
        have hb : b ≠ 45 := fun e => h r (by rw [e])
        simp [List.isPrefixOf, Ne.symm hb]
    rw [e]
    rfl
theorem digit_no {b : UInt8} (h : digitVal b = none) : ¬ (48 ≤ b.toNat ∧ b.toNat ≤ 57) := fun k => by
  unfold digitVal at h
  rw [if_pos k] at h; cases h
theorem digit_some {b : UInt8} {d : Nat} (h : digitVal b = some d) : 48 ≤ b.toNat ∧ b.toNat ≤ 57 ∧ d = b.toNat - 48 := digitVal_eq h
theorem byte_no {b : UInt8} (h : digitVal b = none) : IntKind.u8.wrap ((b.toNat : Int) - 48) > 9 := by
  have h1 := digit_no h
  have h2 := b.toNat_lt
  rw [IntKind.wrap_u8]
  omega
theorem byte_some {b : UInt8} {d : Nat} (h : digitVal b = some d) : d ≤ 9 ∧ IntKind.u8.wrap ((b.toNat : Int) - 48) = (d : Int) := by
  have h1 := digit_some h
  rw [IntKind.wrap_u8]
  omega
theorem quo_of {d : Nat} (h : d ≤ 9) : IntKind.i64.wrap ((IntKind.i64.wrap (9223372036854775807 - IntKind.i64.wrap (d : Int))).tdiv 10) = (9223372036854775807 - (d : Int)) / 10 := by
  rw [IntWalk.i64_in (d : Int) (by omega), IntWalk.i64_in (9223372036854775807 - (d : Int)) (by omega), Int.tdiv_eq_ediv_of_nonneg (by omega), IntWalk.i64_in _ (by omega)]
abbrev retWh (x : Int × Bool) : DV := .tup [.one (i64 x.1), .one (bol x.2)]
theorem whole_fn (s : Str) (hs : s.length ≤ 1000000) : FnOK Tryd.prog 54 [.one (str s)] (retWh (wholeV s)) := by
  have hpre := @pre_fn s [45]
  rw [wholeV_fin]
  generalize hp : Lib.hasPrefix s [45] = p at *
  have hfl : (if p = true then 1 else 0) ≤ s.length := by
    cases p with
    | false => exact Nat.zero_le _
    | true =>
      cases s with
      | nil => cases hp
      | cons b r => simp
  have hfr : (if p = true then 1 else 0) = 0 ∨ (if p = true then 1 else 0) = 1 := by cases p <;> simp
  obtain ⟨fr, hfe⟩ : ∃ fr : Nat, fr = if p = true then 1 else 0 := ⟨_, rfl⟩
  rw [← hfe] at hfl hfr ⊢
  generalize hR : rdP 0 (s.drop fr) = R
  have hfm : ∀ n : Int, FnOK Tryd.prog 44 [.one (i64 n), .one (i64 10)] (.c (.one (str (itoa n)))) := fun n => fmt_fn
  refine fn_ok (by kernel_rfl) ty_ok Tryd.func54 rfl (fun _ _ => Tryd.call54 _ _) rfl ?_
  intro hw
  clear hw
  refine scope_J (by kernel_rfl) ty_ok 0 (σ := Nat × Nat) (fun q => [(2, sV (.int .i64 0)), (3, sV (.bool false)), (4, sV (.int .i64 (q.1 : Nat))), (5, sV (.int .i64 (q.2 : Nat))), (6, sV (.int .i64 (fr : Nat)))]) (fun _ => []) (fun q => fr ≤ q.2 ∧ q.2 ≤ s.length ∧ q.1 ≤ 9223372036854775807 ∧ rdP q.1 (s.drop q.2) = R) (fun q => s.length - q.2) rfl ?_ ?_
  · cases p
    · have hfe : fr = 0 := hfe
      subst hfe
      cases hb : s[0]? with
      | none =>
        have hk : 0 = s.length := by
          have := List.getElem?_eq_none_iff.1 hb
          omega
        rw [show s.drop 0 = [] from List.drop_eq_nil_of_le (by omega), rdP] at hR
        subst hR
        have en : IntKind.i64.wrap (0 - 0) = 0 := by rw [IntWalk.i64_in _ (by omega)]; omega
        repeat' ((conv => whnf); first | (with_reducible first | refine br_t ?_ | refine br_f ?_ | refine za ?_ | refine zg ?_) | refine za ?_ fmt_fn | refine zsl ?_ | refine zsg ?_ | refine zss ?_ | refine zs1 ?_ | refine zse ?_ | refine zsn ?_ | refine zsc ?_ | (with_reducible first | refine zpa ?_ | refine zqa ?_) | refine zp ?_ | refine zq ?_ | (with_reducible first | refine bc (fun h => ?_) (fun h => ?_) | refine zt ?_ | refine zf ?_ | refine br_i (fun h => ?_) (fun h => ?_)) | refine zg ?_ | refine zi ?_ | refine zb ?_)
        all_goals conv => whnf
        all_goals (first | (rw [en, finW_1 (by omega)]; rfl) | (rw [finW_0 (by omega)]; rfl))
      | some b =>
        have hk : 0 < s.length := (List.getElem?_eq_some_iff.1 hb).1
        have hg : s[((0 : Int)).toNat]? = some b := by rw [show ((0 : Int)).toNat = 0 from rfl]; exact hb
        have hdr : s.drop 0 = b :: s.drop 1 := by rw [List.drop_eq_getElem_cons hk, (List.getElem?_eq_some_iff.1 hb).2]
        rw [hdr, rdP] at hR
        cases hd : digitVal b with
        | none =>
          rw [hd] at hR
          dsimp only at hR
          subst hR
          have hc := byte_no hd
          repeat' ((conv => whnf); first | (with_reducible first | refine br_t ?_ | refine br_f ?_ | refine za ?_ | refine zg ?_) | refine za ?_ fmt_fn | refine zsl ?_ | refine zsg ?_ | refine zss ?_ | refine zs1 ?_ | refine zse ?_ | refine zsn ?_ | refine zsc ?_ | (with_reducible first | refine zpa ?_ | refine zqa ?_) | refine zp ?_ | refine zq ?_ | (with_reducible first | refine bc (fun h => ?_) (fun h => ?_) | refine zt ?_ | refine zf ?_ | refine br_i (fun h => ?_) (fun h => ?_)) | refine zg ?_ | refine zi ?_ | refine zb ?_)
          all_goals conv => whnf
          all_goals rfl
        | some d =>
          rw [hd] at hR
          simp only [Nat.mul_zero, Nat.zero_add] at hR
          obtain ⟨hd9, hc⟩ := byte_some hd
          have hq := quo_of hd9
          rw [← hc] at hq
          have h4 : d ≤ 9223372036854775807 → IntKind.i64.wrap (IntKind.i64.wrap (10 * 0) + IntKind.i64.wrap (IntKind.u8.wrap ((b.toNat : Int) - 48))) = ((d : Nat) : Int) := fun h => by
            rw [hc, show IntKind.i64.wrap (10 * 0) = 0 from by decide, IntWalk.i64_in (d : Int) (by omega), IntWalk.i64_in _ (by omega)]; omega
          by_cases hle : d ≤ 9223372036854775807
          · rw [if_pos hle] at hR
            have h4 := h4 hle
            repeat' ((conv => whnf); first | (with_reducible first | refine br_t ?_ | refine br_f ?_ | refine za ?_ | refine zg ?_) | refine za ?_ fmt_fn | refine zsl ?_ | refine zsg ?_ | refine zss ?_ | refine zs1 ?_ | refine zse ?_ | refine zsn ?_ | refine zsc ?_ | (with_reducible first | refine zpa ?_ | refine zqa ?_) | refine zp ?_ | refine zq ?_ | (with_reducible first | refine bc (fun h => ?_) (fun h => ?_) | refine zt ?_ | refine zf ?_ | refine br_i (fun h => ?_) (fun h => ?_)) | refine zg ?_ | refine zi ?_ | refine zb ?_)
            all_goals conv => whnf
            refine ⟨(d, 1), ⟨by simp only; omega, by simp only; omega, hle, hR⟩, ?_⟩
            (conv => whnf); exact zent
          · exact absurd (by omega) hle
    · have hfe : fr = 1 := hfe
      subst hfe
      cases hb : s[1]? with
      | none =>
        have hk : 1 = s.length := by
          have := List.getElem?_eq_none_iff.1 hb
          omega
        rw [show s.drop 1 = [] from List.drop_eq_nil_of_le (by omega), rdP] at hR
        subst hR
        have en : IntKind.i64.wrap (0 - 0) = 0 := by rw [IntWalk.i64_in _ (by omega)]; omega
        repeat' ((conv => whnf); first | (with_reducible first | refine br_t ?_ | refine br_f ?_ | refine za ?_ | refine zg ?_) | refine za ?_ fmt_fn | refine zsl ?_ | refine zsg ?_ | refine zss ?_ | refine zs1 ?_ | refine zse ?_ | refine zsn ?_ | refine zsc ?_ | (with_reducible first | refine zpa ?_ | refine zqa ?_) | refine zp ?_ | refine zq ?_ | (with_reducible first | refine bc (fun h => ?_) (fun h => ?_) | refine zt ?_ | refine zf ?_ | refine br_i (fun h => ?_) (fun h => ?_)) | refine zg ?_ | refine zi ?_ | refine zb ?_)
        all_goals conv => whnf
        all_goals (first | (rw [en, finW_1 (by omega)]; rfl) | (rw [finW_0 (by omega)]; rfl))
      | some b =>
        have hk : 1 < s.length := (List.getElem?_eq_some_iff.1 hb).1
        have hg : s[((1 : Int)).toNat]? = some b := by rw [show ((1 : Int)).toNat = 1 from rfl]; exact hb
        have hdr : s.drop 1 = b :: s.drop 2 := by rw [List.drop_eq_getElem_cons hk, (List.getElem?_eq_some_iff.1 hb).2]
        rw [hdr, rdP] at hR
        cases hd : digitVal b with
        | none =>
          rw [hd] at hR
          dsimp only at hR
          subst hR
          have hc := byte_no hd
          repeat' ((conv => whnf); first | (with_reducible first | refine br_t ?_ | refine br_f ?_ | refine za ?_ | refine zg ?_) | refine za ?_ fmt_fn | refine zsl ?_ | refine zsg ?_ | refine zss ?_ | refine zs1 ?_ | refine zse ?_ | refine zsn ?_ | refine zsc ?_ | (with_reducible first | refine zpa ?_ | refine zqa ?_) | refine zp ?_ | refine zq ?_ | (with_reducible first | refine bc (fun h => ?_) (fun h => ?_) | refine zt ?_ | refine zf ?_ | refine br_i (fun h => ?_) (fun h => ?_)) | refine zg ?_ | refine zi ?_ | refine zb ?_)
          all_goals conv => whnf
          all_goals rfl
        | some d =>
          rw [hd] at hR
          simp only [Nat.mul_zero, Nat.zero_add] at hR
          obtain ⟨hd9, hc⟩ := byte_some hd
          have hq := quo_of hd9
          rw [← hc] at hq
          have h4 : d ≤ 9223372036854775807 → IntKind.i64.wrap (IntKind.i64.wrap (10 * 0) + IntKind.i64.wrap (IntKind.u8.wrap ((b.toNat : Int) - 48))) = ((d : Nat) : Int) := fun h => by
            rw [hc, show IntKind.i64.wrap (10 * 0) = 0 from by decide, IntWalk.i64_in (d : Int) (by omega), IntWalk.i64_in _ (by omega)]; omega
          by_cases hle : d ≤ 9223372036854775807
          · rw [if_pos hle] at hR
            have h4 := h4 hle
            repeat' ((conv => whnf); first | (with_reducible first | refine br_t ?_ | refine br_f ?_ | refine za ?_ | refine zg ?_) | refine za ?_ fmt_fn | refine zsl ?_ | refine zsg ?_ | refine zss ?_ | refine zs1 ?_ | refine zse ?_ | refine zsn ?_ | refine zsc ?_ | (with_reducible first | refine zpa ?_ | refine zqa ?_) | refine zp ?_ | refine zq ?_ | (with_reducible first | refine bc (fun h => ?_) (fun h => ?_) | refine zt ?_ | refine zf ?_ | refine br_i (fun h => ?_) (fun h => ?_)) | refine zg ?_ | refine zi ?_ | refine zb ?_)
            all_goals conv => whnf
            refine ⟨(d, 2), ⟨by simp only; omega, by simp only; omega, hle, hR⟩, ?_⟩
            (conv => whnf); exact zent
          · exact absurd (by omega) hle
  · rintro ⟨n, k⟩ ⟨hk1, hk2, hn, hrd⟩
    simp only at hk1 hk2 hn hrd ⊢
    cases hb : s[k]? with
    | none =>
      have hk : k = s.length := by
        have := List.getElem?_eq_none_iff.1 hb
        omega
      subst hk
      rw [List.drop_length, rdP] at hrd
      subst hrd
      have en : IntKind.i64.wrap (0 - (n : Int)) = -(n : Int) := by rw [IntWalk.i64_in _ (by omega)]; omega
      repeat' ((conv => whnf); first | (with_reducible first | refine br_t ?_ | refine br_f ?_ | refine za ?_ | refine zg ?_) | refine za ?_ fmt_fn | refine zsl ?_ | refine zsg ?_ | refine zss ?_ | refine zs1 ?_ | refine zse ?_ | refine zsn ?_ | refine zsc ?_ | (with_reducible first | refine zpa ?_ | refine zqa ?_) | refine zp ?_ | refine zq ?_ | (with_reducible first | refine bc (fun h => ?_) (fun h => ?_) | refine zt ?_ | refine zf ?_ | refine br_i (fun h => ?_) (fun h => ?_)) | refine zg ?_ | refine zi ?_ | refine zb ?_)
      all_goals conv => whnf
      · rw [en, finW_1 (by omega)]
      · rw [finW_0 (by omega)]
    | some b =>
      have hk : k < s.length := (List.getElem?_eq_some_iff.1 hb).1
      have hg : s[(k : Int).toNat]? = some b := by rw [Int.toNat_natCast]; exact hb
      have hdr : s.drop k = b :: s.drop (k + 1) := by rw [List.drop_eq_getElem_cons hk, (List.getElem?_eq_some_iff.1 hb).2]
      rw [hdr, rdP] at hrd
      cases hd : digitVal b with
      | none =>
        rw [hd] at hrd
        dsimp only at hrd
        subst hrd
        have hc := byte_no hd
        repeat' ((conv => whnf); first | (with_reducible first | refine br_t ?_ | refine br_f ?_ | refine za ?_ | refine zg ?_) | refine za ?_ fmt_fn | refine zsl ?_ | refine zsg ?_ | refine zss ?_ | refine zs1 ?_ | refine zse ?_ | refine zsn ?_ | refine zsc ?_ | (with_reducible first | refine zpa ?_ | refine zqa ?_) | refine zp ?_ | refine zq ?_ | (with_reducible first | refine bc (fun h => ?_) (fun h => ?_) | refine zt ?_ | refine zf ?_ | refine br_i (fun h => ?_) (fun h => ?_)) | refine zg ?_ | refine zi ?_ | refine zb ?_)
        all_goals conv => whnf
        all_goals rfl
      | some d =>
        rw [hd] at hrd
        dsimp only at hrd
        obtain ⟨hd9, hc⟩ := byte_some hd
        have hq := quo_of hd9
        rw [← hc] at hq
        have h4 : 10 * n + d ≤ 9223372036854775807 → IntKind.i64.wrap (IntKind.i64.wrap (10 * (n : Int)) + IntKind.i64.wrap (IntKind.u8.wrap ((b.toNat : Int) - 48))) = ((10 * n + d : Nat) : Int) := fun h => by
          rw [hc, IntWalk.i64_in (10 * (n : Int)) (by omega), IntWalk.i64_in (d : Int) (by omega), IntWalk.i64_in _ (by omega)]; omega
        by_cases hle : 10 * n + d ≤ 9223372036854775807
        · rw [if_pos hle] at hrd
          have h4 := h4 hle
          repeat' ((conv => whnf); first | (with_reducible first | refine br_t ?_ | refine br_f ?_ | refine za ?_ | refine zg ?_) | refine za ?_ fmt_fn | refine zsl ?_ | refine zsg ?_ | refine zss ?_ | refine zs1 ?_ | refine zse ?_ | refine zsn ?_ | refine zsc ?_ | (with_reducible first | refine zpa ?_ | refine zqa ?_) | refine zp ?_ | refine zq ?_ | (with_reducible first | refine bc (fun h => ?_) (fun h => ?_) | refine zt ?_ | refine zf ?_ | refine br_i (fun h => ?_) (fun h => ?_)) | refine zg ?_ | refine zi ?_ | refine zb ?_)
          all_goals conv => whnf
          refine ⟨(10 * n + d, k + 1), ⟨by simp only; omega, by simp only; omega, hle, hrd⟩, ?_, by simp only; omega⟩
          (conv => whnf); exact zent
        · rw [if_neg hle] at hrd
          subst hrd
          repeat' ((conv => whnf); first | (with_reducible first | refine br_t ?_ | refine br_f ?_ | refine za ?_ | refine zg ?_) | refine za ?_ fmt_fn | refine zsl ?_ | refine zsg ?_ | refine zss ?_ | refine zs1 ?_ | refine zse ?_ | refine zsn ?_ | refine zsc ?_ | (with_reducible first | refine zpa ?_ | refine zqa ?_) | refine zp ?_ | refine zq ?_ | (with_reducible first | refine bc (fun h => ?_) (fun h => ?_) | refine zt ?_ | refine zf ?_ | refine br_i (fun h => ?_) (fun h => ?_)) | refine zg ?_ | refine zi ?_ | refine zb ?_)
          all_goals conv => whnf
          all_goals rfl
end Go.Proofs.YtgdpogdgpfjnoaaDoor

namespace Go.Proofs.YtgdpogdgpfjnoaaDoor
open Go.RowKit Go.Sort Sx Go.Lib
def spl (c : UInt8) : Str → List Str
  | [] => [[]]
  | b :: l => if b = c then [] :: spl c l else match spl c l with | h :: t => (b :: h) :: t | [] => [[b]]
def cut1 (c : UInt8) : Str → Str × Str × Bool
  | [] => ([], [], false)
  | b :: l => if b = c then ([], l, true) else (b :: (cut1 c l).1, (cut1 c l).2.1, (cut1 c l).2.2)
theorem spl_at {c : UInt8} : ∀ {a : Str} (r : Str), c ∉ a → spl c (a ++ c :: r) = a :: spl c r
  | [], r, _ => by rw [List.nil_append, spl, if_pos rfl]
  | b :: a, r, h => by
    rw [List.cons_append, spl, if_neg (fun e => h (by rw [e]; exact List.mem_cons_self ..)), spl_at r (fun k => h (List.mem_cons_of_mem _ k))]
theorem spl_no {c : UInt8} : ∀ {a : Str}, c ∉ a → spl c a = [a]
  | [], _ => rfl
  | b :: a, h => by
    rw [spl, if_neg (fun e => h (by rw [e]; exact List.mem_cons_self ..)), spl_no (fun k => h (List.mem_cons_of_mem _ k))]
theorem cut1_at {c : UInt8} : ∀ {a : Str} (r : Str), c ∉ a → cut1 c (a ++ c :: r) = (a, r, true)
  | [], r, _ => by rw [List.nil_append, cut1, if_pos rfl]
  | b :: a, r, h => by
    rw [List.cons_append, cut1, if_neg (fun e => h (by rw [e]; exact List.mem_cons_self ..)), cut1_at r (fun k => h (List.mem_cons_of_mem _ k))]
theorem cut1_no {c : UInt8} : ∀ {a : Str}, c ∉ a → cut1 c a = (a, [], false)
  | [], _ => rfl
  | b :: a, h => by
    rw [cut1, if_neg (fun e => h (by rw [e]; exact List.mem_cons_self ..)), cut1_no (fun k => h (List.mem_cons_of_mem _ k))]
theorem spl_ne (c : UInt8) : ∀ s : Str, spl c s ≠ []
  | [] => by simp [spl]
  | b :: l => by
    rw [spl]
    split
    · simp
    · split <;> simp
theorem itoa_mem {n : Int} {b : UInt8} (h : b ∈ itoa n) : b = 45 ∨ (48 ≤ b.toNat ∧ b.toNat ≤ 57) := by
  unfold itoa at h
  split at h
  · rcases List.mem_cons.1 h with h | h
    · exact .inl h
    · exact .inr (dec_mem _ b h)
  · exact .inr (dec_mem _ b h)
theorem itoa_no {n : Int} {c : UInt8} (h1 : c ≠ 45) (h2 : c.toNat < 48 ∨ 57 < c.toNat) : c ∉ itoa n := fun h => by
  rcases itoa_mem h with h | h
  · exact h1 h
  · omega
def wrtV (n d : Int) : Str := if d = 1 then itoa n else itoa n ++ 47 :: itoa d
def numV (n d : Int) : Str × Int := if chk n d = 0 then (wrtV n d, 0) else ([], 8)
def backV (s : Str) (n d : Int) : (Int × Int) × Int := if chk n d = 0 ∧ wrtV n d = s then ((n, d), 0) else ((0, 0), 12)
def readV (s : Str) : (Int × Int) × Int :=
  if (wholeV (cut1 47 s).1).2 = true ∧ ((cut1 47 s).2.2 = true → (wholeV (cut1 47 s).2.1).2 = true) then backV s (wholeV (cut1 47 s).1).1 (if (cut1 47 s).2.2 then (wholeV (cut1 47 s).2.1).1 else 1) else ((0, 0), 12)
def readR (s : Str) : (Int × Int) × Int :=
  if (wholeR ((spl 47 s)[0]?.getD [])).2 = true ∧ (1 < (spl 47 s).length → (wholeR ((spl 47 s)[1]?.getD [])).2 = true) then backV s (wholeR ((spl 47 s)[0]?.getD [])).1 (if 1 < (spl 47 s).length then (wholeR ((spl 47 s)[1]?.getD [])).1 else 1) else ((0, 0), 12)
structure IsRead (f : Str → (Int × Int) × Int) : Prop where
  ok : ∀ s, (f s).2 = 0 → chk (f s).1.1 (f s).1.2 = 0 ∧ wrtV (f s).1.1 (f s).1.2 = s
  no : ∀ s, (f s).2 ≠ 0 → f s = ((0, 0), 12)
  of : ∀ n d, chk n d = 0 → fitI n → fitI d → f (wrtV n d) = ((n, d), 0)
  fit : ∀ s, (f s).2 = 0 → fitI (f s).1.1 ∧ fitI (f s).1.2
theorem IsRead.eq {f g : Str → (Int × Int) × Int} (hf : IsRead f) (hg : IsRead g) (s : Str) : f s = g s := by
  have key : ∀ {f g : Str → (Int × Int) × Int}, IsRead f → IsRead g → (f s).2 = 0 → f s = g s := fun {f g} hf hg h => by
    obtain ⟨a, b⟩ := hf.ok s h
    obtain ⟨c, d⟩ := hf.fit s h
    have := hg.of _ _ a c d
    rw [b] at this
    rw [this, ← h]
  by_cases h : (f s).2 = 0
  · exact key hf hg h
  · by_cases h2 : (g s).2 = 0
    · exact (key hg hf h2).symm
    · rw [hf.no s h, hg.no s h2]
theorem IsRead.cases {f : Str → (Int × Int) × Int} (hf : IsRead f) (s : Str) : (∃ n d, chk n d = 0 ∧ fitI n ∧ fitI d ∧ wrtV n d = s ∧ f s = ((n, d), 0)) ∨ (f s = ((0, 0), 12) ∧ ∀ n d, chk n d = 0 → fitI n → fitI d → wrtV n d ≠ s) := by
  by_cases h : (f s).2 = 0
  · obtain ⟨a, b⟩ := hf.ok s h
    obtain ⟨c, d⟩ := hf.fit s h
    refine .inl ⟨_, _, a, c, d, b, ?_⟩
    rw [← h]
  · refine .inr ⟨hf.no s h, fun n d h1 h2 h3 e => ?_⟩
    have := hf.of n d h1 h2 h3
    rw [e] at this
    rw [this] at h; exact h rfl
theorem backV_ok {s : Str} {n d : Int} (h : (backV s n d).2 = 0) : chk (backV s n d).1.1 (backV s n d).1.2 = 0 ∧ wrtV (backV s n d).1.1 (backV s n d).1.2 = s := by
  unfold backV at h ⊢
  split at h
  · rename_i c; rw [if_pos c]; exact c
  · cases h
theorem backV_fit {s : Str} {n d : Int} (hn : fitI n) (hd : fitI d) : fitI (backV s n d).1.1 ∧ fitI (backV s n d).1.2 := by
  unfold backV
  split
  · exact ⟨hn, hd⟩
  · exact ⟨⟨by decide, by decide⟩, ⟨by decide, by decide⟩⟩
theorem backV_no {s : Str} {n d : Int} (h : (backV s n d).2 ≠ 0) : backV s n d = ((0, 0), 12) := by
  unfold backV at h ⊢
  split at h
  · exact absurd rfl h
  · rename_i c; rw [if_neg c]
theorem readV_is : IsRead readV := by
  refine ⟨fun s h => ?_, fun s h => ?_, fun n d hc hn hd => ?_, fun s h => ?_⟩
  · unfold readV at h ⊢
    split at h
    · rename_i c; rw [if_pos c]; exact backV_ok h
    · cases h
  · unfold readV at h ⊢
    split at h
    · rename_i c; rw [if_pos c]; exact backV_no h
    · rename_i c; rw [if_neg c]
  · have hb : ∀ s, wrtV n d = s → backV s n d = ((n, d), 0) := fun s e => by unfold backV; rw [if_pos ⟨hc, e⟩]
    have hno : (47 : UInt8) ∉ itoa n := itoa_no (by decide) (by decide)
    unfold readV
    by_cases h1 : d = 1
    · have e : wrtV n d = itoa n := by unfold wrtV; rw [if_pos h1]
      rw [e, cut1_no hno]
      dsimp only
      rw [whole_itoa hn, if_pos ⟨rfl, fun h => by cases h⟩]
      dsimp only
      rw [← h1]
      exact hb _ e
    · have e : wrtV n d = itoa n ++ 47 :: itoa d := by unfold wrtV; rw [if_neg h1]
      rw [e, cut1_at _ hno]
      dsimp only
      rw [whole_itoa hn, whole_itoa hd, if_pos ⟨rfl, fun _ => rfl⟩]
      dsimp only
      rw [if_pos rfl]
      exact hb _ e
  · unfold readV at h ⊢
    split at h
    · rename_i c
      rw [if_pos c]
      refine backV_fit (whole_ok c.1).1 ?_
      split
      · rename_i c2; exact (whole_ok (c.2 c2)).1
      · exact ⟨by decide, by decide⟩
    · cases h
theorem readR_is : IsRead readR := by
  refine ⟨fun s h => ?_, fun s h => ?_, fun n d hc hn hd => ?_, fun s h => ?_⟩
  · unfold readR at h ⊢
    split at h
    · rename_i c; rw [if_pos c]; exact backV_ok h
    · cases h
  · unfold readR at h ⊢
    split at h
    · rename_i c; rw [if_pos c]; exact backV_no h
    · rename_i c; rw [if_neg c]
  · have hb : ∀ s, wrtV n d = s → backV s n d = ((n, d), 0) := fun s e => by unfold backV; rw [if_pos ⟨hc, e⟩]
    have hno : (47 : UInt8) ∉ itoa n := itoa_no (by decide) (by decide)
    have hno2 : (47 : UInt8) ∉ itoa d := itoa_no (by decide) (by decide)
    unfold readR
    by_cases h1 : d = 1
    · have e : wrtV n d = itoa n := by unfold wrtV; rw [if_pos h1]
      rw [e, spl_no hno]
      simp only [List.length_cons, List.length_nil, List.getElem?_cons_zero, Option.getD_some]
      rw [wholeR_itoa hn, if_pos ⟨rfl, fun h => by omega⟩]
      dsimp only
      rw [if_neg (by decide), ← h1]
      exact hb _ e
    · have e : wrtV n d = itoa n ++ 47 :: itoa d := by unfold wrtV; rw [if_neg h1]
      rw [e, spl_at _ hno, spl_no hno2]
      simp only [List.length_cons, List.length_nil, List.getElem?_cons_zero, List.getElem?_cons_succ, Option.getD_some]
      rw [wholeR_itoa hn, wholeR_itoa hd, if_pos ⟨rfl, fun _ => rfl⟩]
      dsimp only
      rw [if_pos (by decide)]
      exact hb _ e
  · unfold readR at h ⊢
    split at h
    · rename_i c
      rw [if_pos c]
      refine backV_fit (wholeR_ok c.1).1 ?_
      split
      · rename_i c2; exact (wholeR_ok (c.2 c2)).1
      · exact ⟨by decide, by decide⟩
    · cases h
end Go.Proofs.YtgdpogdgpfjnoaaDoor

namespace Go.Proofs.YtgdpogdgpfjnoaaDoor
open Go.RowKit Go.Sort Sx Go.Lib
theorem idx_cons (c b : UInt8) (l : Str) : Lib.index (b :: l) [c] = if b = c then 0 else if Lib.index l [c] = -1 then -1 else Lib.index l [c] + 1 := by
  rw [Lib.index]
  have e : ([c] : Str).isPrefixOf (b :: l) = (c == b) := by simp [List.isPrefixOf]
  rw [e]
  by_cases h : b = c
  · subst h; simp
  · rw [if_neg h, if_neg (by simpa using fun k => h k.symm)]
    by_cases h2 : Lib.index l [c] = -1
    · rw [if_pos (by rw [h2]; rfl), if_pos h2]
    · rw [if_neg (by simpa using h2), if_neg h2]
theorem spl_idx (c : UInt8) : ∀ s : Str, (Lib.index s [c] = -1 → spl c s = [s] ∧ cut1 c s = (s, [], false)) ∧ ∀ i : Nat, Lib.index s [c] = i → spl c s = s.take i :: spl c (s.drop (i + 1)) ∧ cut1 c s = (s.take i, s.drop (i + 1), true) ∧ i < s.length
  | [] => ⟨fun _ => ⟨rfl, rfl⟩, fun i h => by
      have : Lib.index ([] : Str) [c] = -1 := rfl
      omega⟩
  | b :: l => by
    obtain ⟨h1, h2⟩ := spl_idx c l
    rw [idx_cons]
    by_cases h : b = c
    · rw [if_pos h]
      refine ⟨fun k => by omega, fun i k => ?_⟩
      have : i = 0 := by omega
      subst this
      refine ⟨?_, ?_, by simp⟩
      · rw [spl, if_pos h]; rfl
      · rw [cut1, if_pos h]; rfl
    · rw [if_neg h]
      by_cases h3 : Lib.index l [c] = -1
      · rw [if_pos h3]
        obtain ⟨a, b'⟩ := h1 h3
        refine ⟨fun _ => ⟨?_, ?_⟩, fun i k => by omega⟩
        · rw [spl, if_neg h, a]
        · rw [cut1, if_neg h, b']
      · rw [if_neg h3]
        have hg := Lib.index_ge l [c]
        refine ⟨fun k => by omega, fun i k => ?_⟩
        obtain ⟨j, rfl⟩ : ∃ j, i = j + 1 := ⟨i - 1, by omega⟩
        obtain ⟨a, b', c'⟩ := h2 j (by omega)
        refine ⟨?_, ?_, by simp; omega⟩
        · rw [spl, if_neg h, a]; rfl
        · rw [cut1, if_neg h, b']; rfl
theorem lcut_eq (c : UInt8) (s : Str) : Lib.cut s [c] = cut1 c s := by
  obtain ⟨h1, h2⟩ := spl_idx c s
  have hg := Lib.index_ge s [c]
  unfold Lib.cut
  by_cases h : 0 ≤ Lib.index s [c]
  · rw [if_pos h]
    obtain ⟨i, hi⟩ : ∃ i : Nat, Lib.index s [c] = i := ⟨(Lib.index s [c]).toNat, by omega⟩
    rw [(h2 i hi).2.1, hi, Int.toNat_natCast]; rfl
  · rw [if_neg h, (h1 (by omega)).2]
theorem lsplit_eq (c : UInt8) : ∀ (n : Nat) (s : Str), s.length ≤ n → Lib.splitK [c] 0 (Lib.count s [c]) s = spl c s
  | n, s, hn => by
    obtain ⟨h1, h2⟩ := spl_idx c s
    have hg := Lib.index_ge s [c]
    by_cases h : Lib.index s [c] = -1
    · rw [Lib.count_miss h, (h1 h).1]; rfl
    · obtain ⟨i, hi⟩ : ∃ i : Nat, Lib.index s [c] = i := ⟨(Lib.index s [c]).toNat, by omega⟩
      obtain ⟨a, b, hlt⟩ := h2 i hi
      cases n with
      | zero => omega
      | succ n =>
        have hc : Lib.count s [c] = 1 + Lib.count (s.drop (i + 1)) [c] := Lib.count_hit (by simp) hi
        rw [hc, Nat.add_comm 1, Lib.splitK, if_neg (by simpa using h), hi, Int.toNat_natCast, a]
        have := lsplit_eq c n (s.drop (i + 1)) (by rw [List.length_drop]; omega)
        rw [show i + [c].length = i + 1 from rfl, this, Nat.add_zero]
theorem spl_len (c : UInt8) : ∀ s : Str, (spl c s).length ≤ s.length + 1
  | [] => by simp [spl]
  | b :: l => by
    have := spl_len c l
    have hne := spl_ne c l
    rw [spl]
    split
    · simp only [List.length_cons]; omega
    · split
      · rename_i h t e; rw [e] at this; simp only [List.length_cons] at this ⊢; omega
      · rename_i e; exact absurd e hne
theorem spl_each (c : UInt8) : ∀ (s : Str), ∀ x ∈ spl c s, x.length ≤ s.length
  | [], x, h => by simp [spl] at h; subst h; simp
  | b :: l, x, h => by
    have ih := spl_each c l
    rw [spl] at h
    split at h
    · rcases List.mem_cons.1 h with rfl | h
      · simp
      · have := ih x h; simp only [List.length_cons]; omega
    · split at h
      · rename_i a t e
        rw [e] at ih
        rcases List.mem_cons.1 h with rfl | h
        · have := ih a (List.mem_cons_self ..); simp only [List.length_cons]; omega
        · have := ih x (List.mem_cons_of_mem _ h); simp only [List.length_cons]; omega
      · rename_i e; exact absurd e (spl_ne c l)
theorem cut1_len (c : UInt8) : ∀ s : Str, (cut1 c s).1.length ≤ s.length ∧ (cut1 c s).2.1.length ≤ s.length
  | [] => by simp [cut1]
  | b :: l => by
    have ih := cut1_len c l
    rw [cut1]
    split
    · simp
    · simp only [List.length_cons]; omega
theorem trim_eq (c : UInt8) (s : Str) : Lib.trimSuffix s [c] = if s.getLast? = some c then s.dropLast else s := by
  unfold Lib.trimSuffix Lib.hasSuffix
  have e : ([c] : Str).isSuffixOf s = true ↔ s.getLast? = some c := by
    rw [List.isSuffixOf_iff_suffix]
    constructor
    · rintro ⟨t, rfl⟩; simp
    · intro h
      have hne : s ≠ [] := fun k => by rw [k] at h; cases h
      exact ⟨s.dropLast, by rw [List.getLast?_eq_some_getLast hne] at h; injection h with h; rw [← h]; exact List.dropLast_concat_getLast hne⟩
  by_cases h : s.getLast? = some c
  · rw [if_pos (e.2 h), if_pos h, List.dropLast_eq_take]; rfl
  · rw [if_neg (fun k => h (e.1 k)), if_neg h]
end Go.Proofs.YtgdpogdgpfjnoaaDoor

namespace Go.Proofs.YtgdpogdgpfjnoaaDoor
open Go Go.RowKit Go.Sort Sx
open Go.Lib hiding intOf
abbrev strs (l : List Str) : D := .list 1 (l.map fun s => [str s])
abbrev retS (x : Str × Int) : DV := .tup [.one (str x.1), .one (i64 x.2)]
theorem rep_str {w : World} {M : Nat → Prop} {s : Str} {v : Value} (h : Rep w M (str s) v) : v = bstr s := by cases h; rfl
theorem dr_below (w : World) (n : Nat) : Below w.heap.size w (w.drewN n) := by
  have h := Below.refl w.heap.size w
  exact ⟨h.os, h.tape, h.output, h.size, h.block⟩
theorem cut_fn {s : Str} {c : UInt8} (hs : s.length < 4294967281) : FnOK Tryd.prog 58 [.one (str s), .one (str [c])] (.tup [.one (str (cut1 c s).1), .one (str (cut1 c s).2.1), .one (bol (cut1 c s).2.2)]) :=
  fn_of_callsG (fun _ _ => Tryd.call58 _ _) rfl rfl (fun _ => ⟨.v trivial, .v trivial, .v trivial, trivial⟩) (fun h w hg => by
    obtain ⟨m, hm⟩ := hg.ml
    have H := Tryd.strings_Cut ⟨s.toArray⟩ ⟨[c].toArray⟩ m w hs hm
    simp only [lcut_eq] at H
    exact H.mono fun e w' ⟨he, n, hw⟩ => ⟨he, hw ▸ dr_below w n⟩)
theorem trim_fn {s : Str} {c : UInt8} (hs : s.length ≤ 9223372036854775807) : FnOK Tryd.prog 38 [.one (str s), .one (str [c])] (.c (.one (str (if s.getLast? = some c then s.dropLast else s)))) :=
  fn_of_callsG (fun _ _ => Tryd.call38 _ _) rfl rfl (fun _ => .v trivial) (fun h w hg => by
    have H := Tryd.strings_TrimSuffix ⟨s.toArray⟩ ⟨[c].toArray⟩ w hs
    simp only [trim_eq] at H
    exact H.mono fun e w' ⟨he, hw⟩ => ⟨he, hw ▸ Below.refl _ _⟩)
theorem rep_new {w : World} {M : Nat → Prop} (hM : ∀ b, M b → b < w.heap.size) {l : List Str} {bs : List ByteArray} {T : TypeId} (hb : bs.map (·.data.toList) = l) (hm : l.length ≤ 9223372036854775807) : Rep (w.alloc (.cells (bs.map Value.string).toArray T)) M (strs l) (.slice (some ⟨w.heap.size, 0, none⟩) l.length l.length) := by
  have hl : bs.length = l.length := by rw [← hb, List.length_map]
  have e : l.length = (l.map fun s => [str s]).length := by rw [List.length_map]
  have e1 : ∀ i (hi : i < l.length), (bs[i]'(by omega)).data.toList = l[i] := fun i hi => by subst hb; rw [List.getElem_map]
  have key : Rep (w.alloc (.cells (bs.map Value.string).toArray T)) M (.list 1 (l.map fun s => [str s])) (.slice (some ⟨w.heap.size, 0, none⟩) (l.map fun s => [str s]).length l.length) := by
    refine .list (fun i _ => bstr (l.getD i [])) (by rw [← e]; exact Nat.le_refl _) hm (fun h => absurd (hM _ h) (by omega)) (by simp) (fun x hx => ?_) (fun i j hi hj => ?_) (fun i j hi hj => ?_)
    · obtain ⟨s, _, rfl⟩ := List.mem_map.1 hx; rfl
    · have hi' : i < l.length := by rw [e]; exact hi
      have : j = 0 := by omega
      subst this
      have := e1 i hi'
      have hx : (⟨(l.getD i []).toArray⟩ : ByteArray) = bs[i]'(by omega) := by
        rw [List.getD_eq_getElem?_getD, List.getElem?_eq_getElem hi', Option.getD_some, ← this]
      simp only [Nat.zero_add, Nat.mul_one, Nat.add_zero]
      rw [World.cell?_alloc_new]
      simp [List.getElem?_eq_getElem (show i < bs.length by omega)]
      rw [← hx, List.getD_eq_getElem?_getD]
    · have hi' : i < l.length := by rw [e]; exact hi
      have ee : (l.map fun s => [str s])[i] = [str l[i]] := by rw [List.getElem_map]
      have hj0 : j = 0 := by rw [ee] at hj; simp at hj; omega
      subst hj0
      have : (l.map fun s => [str s])[i][0] = str l[i] := by simp only [ee]; rfl
      rw [this]
      have hx : l.getD i [] = l[i] := by rw [List.getD_eq_getElem?_getD, List.getElem?_eq_getElem hi', Option.getD_some]
      rw [hx]
      exact .v _ rfl trivial
  rw [← e] at key
  exact key
theorem split_fn {s : Str} {c : UInt8} (hs : s.length < 4294967281) : FnOK Tryd.prog 37 [.one (str s), .one (str [c])] (.c (.one (strs (spl c s)))) := by
  refine fun w M vs hM hvs => .inl ⟨37, Tryd.call37 _ _, ?_⟩
  obtain ⟨h1, h2⟩ := (dcs_rel (l := [.one (str s), .one (str [c])]) rfl).1 hvs
  subst h1
  obtain ⟨m, hm⟩ := hM.gd.ml
  have hb : (splitB ⟨[c].toArray⟩ 0 (countB ⟨s.toArray⟩ ⟨[c].toArray⟩) ⟨s.toArray⟩).map (·.data.toList) = spl c s := by
    rw [splitB_data]
    exact lsplit_eq c _ s (Nat.le_refl _)
  have hlen := spl_len c s
  have hcnt : countB ⟨s.toArray⟩ ⟨[c].toArray⟩ + 1 = (spl c s).length := by
    have : ∀ (n : Nat) (s : Str), s.length ≤ n → Lib.count s [c] + 1 = (spl c s).length := by
      intro n
      induction n with
      | zero =>
        intro s hn
        have : s = [] := List.eq_nil_of_length_eq_zero (by omega)
        subst this
        rw [Lib.count_miss (show Lib.index ([] : Str) [c] = -1 from rfl)]; rfl
      | succ n ih =>
        intro s hn
        obtain ⟨h1, h2⟩ := spl_idx c s
        have hg := Lib.index_ge s [c]
        by_cases h : Lib.index s [c] = -1
        · rw [Lib.count_miss h, (h1 h).1]; rfl
        · obtain ⟨i, hi⟩ : ∃ i : Nat, Lib.index s [c] = i := ⟨(Lib.index s [c]).toNat, by omega⟩
          obtain ⟨a, b, hlt⟩ := h2 i hi
          have hc : Lib.count s [c] = 1 + Lib.count (s.drop (i + 1)) [c] := Lib.count_hit (by simp) hi
          have := ih (s.drop (i + 1)) (by rw [List.length_drop]; omega)
          rw [hc, a, List.length_cons]; omega
    exact this _ s (Nat.le_refl _)
  refine (Tryd.strings_Split ⟨s.toArray⟩ ⟨[c].toArray⟩ m w hs hm (Nat.le_refl 1)).mono fun e w' ⟨he, hw⟩ => ⟨_, he, ?_, ?_⟩
  · subst hw
    rw [hcnt]
    exact rep_new hM.lt hb (by omega)
  · subst hw
    exact (Below.refl _ _).alloc (Nat.le_refl _) _
theorem rep_strs {w : World} {M : Nat → Prop} {es : List Str} {v : Value} (h0 : es ≠ []) (h : Rep w M (strs es) v) : ∃ b off cap, v = .slice (some ⟨b, off, none⟩) es.length cap ∧ es.length ≤ cap ∧ b < w.heap.size ∧ (∀ i (hi : i < es.length), w.cell? ⟨b, off + i, none⟩ = some (bstr es[i])) := by
  obtain ⟨l, hl⟩ : ∃ l : List (List Sx.D), l = es.map fun i => [str i] := ⟨_, rfl⟩
  have hll : l.length = es.length := by rw [hl, List.length_map]
  have h' : Rep w M (.list 1 l) v := by rw [hl]; exact h
  clear h
  cases h' with
  | nil k x c hm hx =>
    exact absurd (List.eq_nil_of_length_eq_zero (by rw [← hll]; rfl)) h0
  | @list b off cap k l vs hc hm hMb hb hk hv hr =>
    refine ⟨b, off, cap, by rw [hll], by omega, hb, fun i hi => ?_⟩
    have hi' : i < l.length := by omega
    have h1 := hv i 0 hi' (by decide)
    have e1 : l[i] = [str es[i]] := by subst hl; rw [List.getElem_map]
    have h2 := hr i 0 hi' (by rw [e1]; exact Nat.zero_lt_one)
    have e2 : l[i][0]'(by rw [e1]; exact Nat.zero_lt_one) = str es[i] := by simp only [e1]; rfl
    rw [e2] at h2
    rw [rep_str h2] at h1
    simpa using h1
end Go.Proofs.YtgdpogdgpfjnoaaDoor
