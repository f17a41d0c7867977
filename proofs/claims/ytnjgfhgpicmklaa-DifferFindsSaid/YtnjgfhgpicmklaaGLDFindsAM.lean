import Derived.Test.YtnjgfhgpicmklaaGLDFindsAL
import Derived.Shelf.SlSortCmp.WholeK
import Derived.Shelf.SlSortCmp.NoneTotal
import Derived.Ground.SlsfProg
import Derived.Test.YtnjgfhgpicmklaaProg
import Derived.Test.YtnjgfhgpicmklaaGLDFindsAK
import Derived.Test.YtnjgfhgpicmklaaGLDFindsAA
import Derived.Test.YtnjgfhgpicmklaaGLDFindsAJ
import Derived.Lib.AppendZerosOnto
import Derived.Shelf.Spec.SlicesInsert
import Derived.Deep.RegionLaw
import Derived.RangeFuncFrom
import Derived.RangeFuncLeaves
import Derived.WalkKit
import Derived.OwnWalkIn
import Derived.TacticsInMore
import Derived.RegionIn
import Derived.LoopNIn
import Derived.LoopIn
import Derived.RangeFuncCalls
import Derived.RangeFuncBox
set_option linter.all false
namespace Go.Proofs.Ytnjgfhgpicmklaa
open Go.RowKit Go.Sort Sx
theorem Pt.eq_iff {p q : Pt} : p = q ↔ p.id = q.id ∧ p.a = q.a ∧ p.b = q.b := by
  cases p; cases q; simp
theorem take_all_eq {α : Type} {a b : List α} {i : Nat} (h : a.take i = b.take i) (hl : a.length = b.length) (hi : a.length ≤ i) : a = b := by
  rw [List.take_of_length_le hi, List.take_of_length_le (by omega)] at h; exact h
theorem take_succ_eq {α : Type} {a b : List α} {i : Nat} (h : a.take i = b.take i) (h1 : i < a.length) (h2 : i < b.length) (e : a[i] = b[i]) : a.take (i + 1) = b.take (i + 1) := by
  rw [List.take_succ_eq_append_getElem h1, List.take_succ_eq_append_getElem h2, h, e]
theorem ne_of_get {α : Type} {a b : List α} {i : Nat} (h1 : i < a.length) (h2 : i < b.length) (e : a[i] ≠ b[i]) : a ≠ b := by
  rintro rfl; exact e rfl
structure Md where
  n : Int
  d : Int
  l : List Pt
  deriving DecidableEq, Inhabited
def Md.c (m : Md) : List D := [i64 m.n, i64 m.d, pts m.l]
abbrev Md.dc (m : Md) : DC := .agg [i64 m.n, i64 m.d, pts m.l]
def mchk (m : Md) : Int := if askd m.n m.d = 0 ∧ fchk m.l = 0 then 0 else 8
theorem mchk_08 (m : Md) : mchk m = 0 ∨ mchk m = 8 := by unfold mchk; split <;> simp
theorem mchk_ok {m : Md} (h : mchk m = 0) : askd m.n m.d = 0 ∧ fchk m.l = 0 := by
  unfold mchk at h
  split at h
  · assumption
  · omega
theorem mchk_orN (m : Md) : mchk m = if orN (askd m.n m.d) (fchk m.l) = 0 then 0 else 8 := by
  unfold mchk orN
  by_cases h : askd m.n m.d = 0 <;> simp [h]
theorem rfSame_fn (a b : List Pt) : FnOK Try.prog 43 [fld a, fld b] (.c (.one (bol (decide (a = b))))) := by
  refine fn_ok (by kernel_rfl) ty_ok Try.func43 rfl (fun _ _ => Try.call43 _ _) rfl ?_
  intro hw
  simp only [WDCs, WDC, WDs] at hw
  obtain ⟨w1, _⟩ := wd_pts hw.1.1
  obtain ⟨w2, _⟩ := wd_pts hw.2.1.1
  clear hw
  by_cases h0 : a.length = b.length
  · repeat' ((conv => whnf); first | (with_reducible first | refine br_t ?_ | refine br_f ?_ | refine za ?_ | refine zg ?_) | rw [List.length_map] | refine zp ?_ | refine zq ?_ | (with_reducible first | refine bc (fun h => ?_) (fun h => ?_) | refine zt ?_ | refine zf ?_ | refine br_i (fun h => ?_) (fun h => ?_) | refine xi (pv_bool fun _ => nev57 _ _ _ _ _ _ _ _ _) ?_) | refine zg ?_ | refine zi ?_ | refine zb ?_)
    refine loop_J (by kernel_rfl) ty_ok (σ := Nat) (fun i => [(5, sV (.int .i64 i))]) (fun _ => []) (fun i => i ≤ a.length ∧ a.take i = b.take i) (fun i => a.length - i) 0 ⟨by omega, rfl⟩ ?_ ?_
    · (conv => whnf); exact zent
    rintro i ⟨hi, hI⟩
    rcases Nat.lt_or_ge i a.length with hlt | hge
    · have hb : i < b.length := by omega
      have he1 := pts_get hlt
      have he2 := pts_get hb
      by_cases hc : a[i] = b[i]
      · have hq := Pt.eq_iff.1 hc
        repeat' ((conv => whnf); first | (with_reducible first | refine br_t ?_ | refine br_f ?_ | refine za ?_ | refine zg ?_) | rw [List.length_map] | refine zp ?_ | refine zq ?_ | (with_reducible first | refine bc (fun h => ?_) (fun h => ?_) | refine zt ?_ | refine zf ?_ | refine br_i (fun h => ?_) (fun h => ?_) | refine xi (pv_bool fun _ => nev57 _ _ _ _ _ _ _ _ _) ?_) | refine zg ?_ | refine zi ?_ | refine zb ?_)
        all_goals conv => whnf
        refine ⟨i + 1, ⟨by omega, take_succ_eq hI hlt hb hc⟩, ?_, by omega⟩
        (conv => whnf); exact zent
      · have hq := mt Pt.eq_iff.2 hc
        rw [decide_eq_false (ne_of_get hlt hb hc)]
        repeat' ((conv => whnf); first | (with_reducible first | refine br_t ?_ | refine br_f ?_ | refine za ?_ | refine zg ?_) | rw [List.length_map] | refine zp ?_ | refine zq ?_ | (with_reducible first | refine bc (fun h => ?_) (fun h => ?_) | refine zt ?_ | refine zf ?_ | refine br_i (fun h => ?_) (fun h => ?_) | refine xi (pv_bool fun _ => nev57 _ _ _ _ _ _ _ _ _) ?_) | refine zg ?_ | refine zi ?_ | refine zb ?_)
        all_goals conv => whnf
        all_goals rfl
    · rw [decide_eq_true (take_all_eq hI h0 hge)]
      repeat' ((conv => whnf); first | (with_reducible first | refine br_t ?_ | refine br_f ?_ | refine za ?_ | refine zg ?_) | rw [List.length_map] | refine zp ?_ | refine zq ?_ | (with_reducible first | refine bc (fun h => ?_) (fun h => ?_) | refine zt ?_ | refine zf ?_ | refine br_i (fun h => ?_) (fun h => ?_) | refine xi (pv_bool fun _ => nev57 _ _ _ _ _ _ _ _ _) ?_) | refine zg ?_ | refine zi ?_ | refine zb ?_)
      all_goals conv => whnf
      all_goals rfl
  · rw [decide_eq_false (fun h => h0 (congrArg List.length h))]
    repeat' ((conv => whnf); first | (with_reducible first | refine br_t ?_ | refine br_f ?_ | refine za ?_ | refine zg ?_) | rw [List.length_map] | refine zp ?_ | refine zq ?_ | (with_reducible first | refine bc (fun h => ?_) (fun h => ?_) | refine zt ?_ | refine zf ?_ | refine br_i (fun h => ?_) (fun h => ?_) | refine xi (pv_bool fun _ => nev57 _ _ _ _ _ _ _ _ _) ?_) | refine zg ?_ | refine zi ?_ | refine zb ?_)
    all_goals conv => whnf
    all_goals rfl
theorem ofirst_fn (a b : Int) : FnOK Try.prog 63 [.one (.list 1 [[i64 a], [i64 b]])] (ret1 (orN a b)) := by
  refine fn_ok (by kernel_rfl) ty_ok Try.func63 rfl (fun _ _ => Try.call63 _ _) rfl ?_
  intro hw
  repeat' ((conv => whnf); first | (with_reducible first | refine br_t ?_ | refine br_f ?_ | refine za ?_ | refine zg ?_) | refine zp ?_ | refine zq ?_ | (with_reducible first | refine bc (fun h => ?_) (fun h => ?_) | refine zt ?_ | refine zf ?_ | refine br_i (fun h => ?_) (fun h => ?_)) | refine zg ?_ | refine zi ?_ | refine zb ?_)
  refine loop_J (by kernel_rfl) ty_ok (σ := Nat) (fun i => [(7, sV (.int .i64 i))]) (fun _ => []) (fun i => i = 0 ∨ (i = 1 ∧ a = 0) ∨ (i = 2 ∧ a = 0 ∧ b = 0)) (fun i => 2 - i) 0 (.inl rfl) ?_ ?_
  · (conv => whnf); exact zent
  intro i hi
  have hlen : ([[i64 a], [i64 b]] : List (List D)).length = 2 := rfl
  have hel0 : ([[i64 a], [i64 b]] : List (List D))[((0 : Nat) : Int).toNat]? = some [i64 a] := rfl
  have hel1 : ([[i64 a], [i64 b]] : List (List D))[((1 : Nat) : Int).toNat]? = some [i64 b] := rfl
  have q0 : 0 ≤ ((0 : Nat) : Int) ∧ ((0 : Nat) : Int) < (([[i64 a], [i64 b]] : List (List D)).length : Int) := ⟨by omega, by simp⟩
  have q1 : 0 ≤ ((1 : Nat) : Int) ∧ ((1 : Nat) : Int) < (([[i64 a], [i64 b]] : List (List D)).length : Int) := ⟨by omega, by simp⟩
  rcases hi with rfl | ⟨rfl, h1⟩ | ⟨rfl, h1, h2⟩
  · repeat' ((conv => whnf); first | (with_reducible first | refine br_t ?_ | refine br_f ?_ | refine za ?_ | refine zg ?_) | first | (refine (Exists.intro _ (And.intro (And.intro hel0 (Nat.le_of_ble_eq_true rfl)) ?_))) | (refine And.intro q0 ?_) | refine zp ?_ | refine zq ?_ | (with_reducible first | refine bc (fun h => ?_) (fun h => ?_) | refine zt ?_ | refine zf ?_ | refine br_i (fun h => ?_) (fun h => ?_)) | refine zg ?_ | refine zi ?_ | refine zb ?_)
    all_goals conv => whnf
    · refine r_int ?_
      unfold orN; rw [if_neg (by assumption)]
    · refine ⟨1, .inr (.inl ⟨rfl, by omega⟩), ?_, by show 2 - 1 < 2 - 0; decide⟩
      (conv => whnf); exact zent
  · repeat' ((conv => whnf); first | (with_reducible first | refine br_t ?_ | refine br_f ?_ | refine za ?_ | refine zg ?_) | first | (refine (Exists.intro _ (And.intro (And.intro hel1 (Nat.le_of_ble_eq_true rfl)) ?_))) | (refine And.intro q1 ?_) | refine zp ?_ | refine zq ?_ | (with_reducible first | refine bc (fun h => ?_) (fun h => ?_) | refine zt ?_ | refine zf ?_ | refine br_i (fun h => ?_) (fun h => ?_)) | refine zg ?_ | refine zi ?_ | refine zb ?_)
    all_goals conv => whnf
    · refine r_int ?_
      unfold orN; rw [if_pos h1]
    · refine ⟨2, .inr (.inr ⟨rfl, h1, by omega⟩), ?_, by show 2 - 2 < 2 - 1; decide⟩
      (conv => whnf); exact zent
  · repeat' ((conv => whnf); first | (with_reducible first | refine br_t ?_ | refine br_f ?_ | refine za ?_ | refine zg ?_) | refine zp ?_ | refine zq ?_ | (with_reducible first | refine bc (fun h => ?_) (fun h => ?_) | refine zt ?_ | refine zf ?_ | refine br_i (fun h => ?_) (fun h => ?_)) | refine zg ?_ | refine zi ?_ | refine zb ?_)
    all_goals conv => whnf
    refine r_int ?_
    unfold orN; rw [if_pos h1]; exact h2.symm
theorem oCheck_fn (m : Md) : FnOK Try.prog 44 [m.dc] (ret1 (mchk m)) := by
  refine fn_ok (by kernel_rfl) ty_ok Try.func44 rfl (fun _ _ => Try.call44 _ _) rfl ?_
  intro hw
  clear hw
  rw [mchk_orN]
  have H := ofirst_fn (askd m.n m.d) (fchk m.l)
  generalize orN (askd m.n m.d) (fchk m.l) = z at *
  by_cases h : z = 0
  all_goals
    repeat' ((conv => whnf); first | (with_reducible first | refine br_t ?_ | refine br_f ?_ | refine za ?_ | refine zg ?_ | refine xi (asked_fn _ _) ?_ | refine xi (fCheck_fn _) ?_) | refine zp ?_ | refine zq ?_ | (with_reducible first | refine bc (fun h => ?_) (fun h => ?_) | refine zt ?_ | refine zf ?_ | refine br_i (fun h => ?_) (fun h => ?_)) | refine zg ?_ | refine zi ?_ | refine zb ?_)
    all_goals conv => whnf
    all_goals simp [h]
theorem roCheck_fn (m : Md) : FnOK Try.prog 53 [m.dc] (ret1 (mchk m)) := by
  refine fn_ok (by kernel_rfl) ty_ok Try.func53 rfl (fun _ _ => Try.call53 _ _) rfl ?_
  intro hw
  clear hw
  unfold mchk
  have H1 := rasked_fn m.n m.d
  have H2 := rfCheck_fn m.l
  generalize askd m.n m.d = z at *
  generalize fchk m.l = y at *
  by_cases h : z = 0 <;> by_cases h' : y = 0
  all_goals
    repeat' ((conv => whnf); first | (with_reducible first | refine br_t ?_ | refine br_f ?_ | refine za ?_ | refine zg ?_) | refine zp ?_ | refine zq ?_ | (with_reducible first | refine bc (fun h => ?_) (fun h => ?_) | refine zt ?_ | refine zf ?_ | refine br_i (fun h => ?_) (fun h => ?_)) | refine zg ?_ | refine zi ?_ | refine zb ?_)
    all_goals conv => whnf
    all_goals simp [h, h']
theorem rfTwin_fn (l : List Pt) (hl : l.length ≤ 1000000) : FnOK Try.prog 33 [fld l] (.c (fld l)) := by
  refine fn_ok (by kernel_rfl) (ty_okK [6] [] [] []) Try.func33 rfl (fun _ _ => Try.call33 _ _) rfl ?_
  intro hw
  repeat' ((conv => whnf); first | (with_reducible first | refine br_t ?_ | refine br_f ?_ | refine za ?_ | refine zg ?_ | refine zo ?_) | rw [List.length_map] | refine zp ?_ | refine zq ?_ | (with_reducible first | refine bc (fun h => ?_) (fun h => ?_) | refine zt ?_ | refine zf ?_ | refine br_i (fun h => ?_) (fun h => ?_)) | refine zg ?_ | refine zi ?_ | refine zb ?_ | refine zl ?_)
  all_goals conv => whnf
  all_goals rfl
theorem roTwin_fn (m : Md) (hl : m.l.length ≤ 1000000) : FnOK Try.prog 7 [m.dc] (.c m.dc) := by
  refine fn_ok (by kernel_rfl) ty_ok Try.func7 rfl (fun _ _ => Try.call7 _ _) rfl ?_
  intro hw
  have H := rfTwin_fn m.l hl
  exact zw
theorem roSameModel_fn (m n : Md) : FnOK Try.prog 18 [m.dc, n.dc] (.c (.one (bol (decide (m = n))))) := by
  refine fn_ok (by kernel_rfl) ty_ok Try.func18 rfl (fun _ _ => Try.call18 _ _) rfl ?_
  intro hw
  clear hw
  have H := rfSame_fn m.l n.l
  have he : (m = n) ↔ (m.n = n.n ∧ m.d = n.d) ∧ m.l = n.l := by cases m; cases n; simp [and_assoc]
  rw [show decide (m = n) = decide ((m.n = n.n ∧ m.d = n.d) ∧ m.l = n.l) from decide_eq_decide.2 he]
  by_cases h : m.n = n.n ∧ m.d = n.d
  all_goals
    cases hz : decide (m.l = n.l)
    all_goals
      rw [hz] at H
      repeat' ((conv => whnf); first | (with_reducible first | refine br_t ?_ | refine br_f ?_ | refine za ?_ | refine zg ?_) | refine zp ?_ | refine zq ?_ | (with_reducible first | refine bc (fun h => ?_) (fun h => ?_) | refine zt ?_ | refine zf ?_ | refine br_i (fun h => ?_) (fun h => ?_) | refine xi (pv_bool fun _ => eqv23 _ _ _ _ _ _ _) ?_) | refine zg ?_ | refine zi ?_ | refine zb ?_)
      all_goals conv => whnf
      all_goals simp at hz
      all_goals simp [h, hz]
end Go.Proofs.Ytnjgfhgpicmklaa

namespace Go.Proofs.Ytnjgfhgpicmklaa
open Go Go.RowKit Sx
namespace Sx
def shModel : Sh := .st (.fc 2 shRatio (.fc 1 shField .f0))
end Sx
theorem fits_model {ds : List D} (h : Fits shModel ds) : ∃ m : Md, ds = m.c := by
  obtain ⟨_, _, rfl, h1, _, _, rfl, h2, rfl⟩ := h
  obtain ⟨n, d, rfl⟩ := fits_ratio h1
  obtain ⟨l, rfl⟩ := fits_field h2
  exact ⟨⟨n, d, l⟩, rfl⟩
theorem fit_model {c : DC} (h : FitC shModel c) : ∃ m : Md, c = m.dc := by
  obtain ⟨ds, rfl, h⟩ := h
  obtain ⟨m, rfl⟩ := fits_model h
  exact ⟨m, rfl⟩
end Go.Proofs.Ytnjgfhgpicmklaa

namespace Go.Proofs
open Go.Shelf
end Go.Proofs

namespace Go.Proofs.Ytnjgfhgpicmklaa
open Go Go.Shelf Go.RowKit Go.Lib Go.Sort Sx
namespace Sx
end Sx
end Go.Proofs.Ytnjgfhgpicmklaa

namespace Go.Proofs.Ytnjgfhgpicmklaa
open Go Go.RowKit Go.Sort Sx
def fx (n m : Int) (p : Pt) : Int := p.a * m + p.b * n
def ldr (n m : Int) (p q : Pt) : Prop := fx n m q < fx n m p ∨ fx n m p = fx n m q ∧ (q.b < p.b ∨ p.b = q.b ∧ p.id < q.id)
instance (n m : Int) (p q : Pt) : Decidable (ldr n m p q) := by unfold ldr; infer_instance
def srt (n m : Int) (l : List Pt) : List Pt := l.mergeSort fun x y => !decide (ldr n m y x)
def apart (l : List Pt) : Prop := ∀ p ∈ l, ∀ q ∈ l, p.id = q.id → p = q
end Go.Proofs.Ytnjgfhgpicmklaa

namespace Go.Proofs.Ytnjgfhgpicmklaa
open Go Go.RowKit Go.Sort Sx
end Go.Proofs.Ytnjgfhgpicmklaa

namespace Go.Proofs.Ytnjgfhgpicmklaa
open Go Go.RowKit Go.Sort Sx
end Go.Proofs.Ytnjgfhgpicmklaa

namespace Go.Proofs.Ytnjgfhgpicmklaa
open Go Go.RowKit Go.Sort Sx
theorem ints_get {l : List Int} {i : Nat} (h : i < l.length) : (l.map fun i => [i64 i])[((i : Nat) : Int).toNat]? = some [i64 l[i]] := by
  rw [Int.toNat_natCast, List.getElem?_map, List.getElem?_eq_getElem h]; rfl
theorem at1_has {l : List Pt} {id : Int} (hs : incr l = true) : at1 l id 0 = if has l id then (pos l id : Int) else -1 := by
  obtain ⟨h1, h2⟩ := pos_spec (id := id) hs
  have h3 := has_pos (id := id) hs
  have hne : ∀ k (h : k < l.length), k < pos l id → l[k].id ≠ id := fun k h hk => by have := h1 k h hk; omega
  cases hh : has l id
  · rw [if_neg (by decide)]
    have hn : ∀ k (h : k < l.length), k < l.length → l[k].id ≠ id := fun k h _ e => by
      have : has l id = true := by unfold has; exact List.any_eq_true.2 ⟨_, List.getElem_mem h, by simpa using e⟩
      rw [hh] at this; cases this
    rw [at1_drop rfl (Nat.le_refl _) hn, List.drop_eq_nil_of_le (Nat.le_refl _), at1]
  · obtain ⟨hlt, he⟩ := h3.1 hh
    rw [if_pos rfl, at1_drop rfl (by omega) hne, List.drop_eq_getElem_cons hlt, at1, if_pos he]
end Go.Proofs.Ytnjgfhgpicmklaa

namespace Go.Proofs.Ytnjgfhgpicmklaa
open Go Go.RowKit Go.Sort Sx
def changeV (l : List Pt) (p : Pt) : List Pt × Int := if fchk l = 0 then (if p.chk = 0 then (if has l p.id then (l.set (pos l p.id) p, 0) else ([], 6)) else ([], 8)) else ([], fchk l)
def without (l : List Pt) (id : Int) : List Pt := l.filter fun p => decide (p.id ≠ id)
def takeV (l : List Pt) (id : Int) : List Pt × Int := if fchk l = 0 then (if has l id then (without l id, 0) else ([], 6)) else ([], fchk l)
end Go.Proofs.Ytnjgfhgpicmklaa

namespace Go.Proofs.Ytnjgfhgpicmklaa
open Go Go.RowKit Go.Sort Sx
def insP (l : List Pt) (p : Pt) : List Pt := l.take (pos l p.id) ++ p :: l.drop (pos l p.id)
def putV (l : List Pt) (p : Pt) : List Pt × Int := if fchk l = 0 then (if p.chk = 0 then (if has l p.id then ([], 14) else if l.length = 64 then ([], 18) else (insP l p, 0)) else ([], 8)) else ([], fchk l)
end Go.Proofs.Ytnjgfhgpicmklaa

namespace Go.Proofs.Ytnjgfhgpicmklaa
open Go Go.RowKit Go.Sort Sx
structure Mt where
  n : Int
  d : Int
  i : Int
  j : Int
  deriving DecidableEq, Inhabited
def Mt.c (m : Mt) : List D := [i64 m.n, i64 m.d, i64 m.i, i64 m.j]
abbrev Mt.dc (m : Mt) : DC := .agg [i64 m.n, i64 m.d, i64 m.i, i64 m.j]
abbrev mts (l : List Mt) : D := .list 4 (l.map Mt.c)
end Go.Proofs.Ytnjgfhgpicmklaa

namespace Go.Proofs.Ytnjgfhgpicmklaa
open Go Go.RowKit Go.Sort Sx
def Mt.ok (m : Mt) : Prop := chk m.n m.d = 0 ∧ (-9223372036854775808 ≤ m.n ∧ m.n ≤ 9223372036854775807) ∧ m.d ≤ 9223372036854775807 ∧ (-9223372036854775808 ≤ m.i ∧ m.i ≤ 9223372036854775807) ∧ -9223372036854775808 ≤ m.j ∧ m.j ≤ 9223372036854775807
def mlt (a b : Mt) : Prop := qv a.n a.d < qv b.n b.d ∨ qv a.n a.d = qv b.n b.d ∧ (a.i < b.i ∨ a.i = b.i ∧ a.j < b.j)
instance (a b : Mt) : Decidable (mlt a b) := by unfold mlt; infer_instance
def msrt (l : List Mt) : List Mt := l.mergeSort fun x y => !decide (mlt y x)
theorem qv_ltM {p q r t : Int} (h1 : chk p q = 0) (h2 : chk r t = 0) : qv p q < qv r t ↔ p * t < r * q := by
  have e1 := Rat.lt_iff (qv p q) (qv r t)
  rw [qv_num h1, qv_num h2, qv_den h1, qv_den h2] at e1
  exact e1
theorem mlt_irrefl (a : Mt) : ¬ mlt a a := by
  unfold mlt
  simp [Rat.lt_irrefl]
theorem mlt_trans {a b c : Mt} (h1 : mlt a b) (h2 : mlt b c) : mlt a c := by
  unfold mlt at *
  rcases h1 with h1 | ⟨e1, h1⟩ <;> rcases h2 with h2 | ⟨e2, h2⟩
  · exact .inl (Std.lt_trans h1 h2)
  · exact .inl (by rw [← e2]; exact h1)
  · exact .inl (by rw [e1]; exact h2)
  · exact .inr ⟨e1.trans e2, by omega⟩
theorem mlt_tri (a b : Mt) : mlt a b ∨ mlt b a ∨ (qv a.n a.d = qv b.n b.d ∧ a.i = b.i ∧ a.j = b.j) := by
  unfold mlt
  by_cases h1 : qv a.n a.d < qv b.n b.d
  · exact .inl (.inl h1)
  · by_cases h2 : qv b.n b.d < qv a.n a.d
    · exact .inr (.inl (.inl h2))
    · have e : qv a.n a.d = qv b.n b.d := Rat.le_antisymm (Rat.not_lt.1 h2) (Rat.not_lt.1 h1)
      rw [e]
      simp only [true_and]
      have := Rat.lt_irrefl (a := qv b.n b.d)
      simp only [this, false_or]
      omega
theorem mlt_eq {a b : Mt} (h1 : chk a.n a.d = 0) (h2 : chk b.n b.d = 0) (k1 : ¬ mlt a b) (k2 : ¬ mlt b a) : a = b := by
  rcases mlt_tri a b with h | h | ⟨h, hi, hj⟩
  · exact absurd h k1
  · exact absurd h k2
  · obtain ⟨e1, e2⟩ := (qv_inj h1 h2).1 h
    cases a; cases b
    simp_all
end Go.Proofs.Ytnjgfhgpicmklaa

namespace Go.Proofs.Ytnjgfhgpicmklaa
open Go Go.RowKit Go.Sort Sx
def bcnt : List Mt → Int → Int → Nat
  | [], _, _ => 0
  | m :: l, n, e => if n * m.d < m.n * e then 0 else bcnt l n e + 1
structure Asc (l : List Mt) : Prop where
  ok : ∀ i (h : i < l.length), chk l[i].n l[i].d = 0
  up : ∀ j i (hj : j < l.length) (hij : i < j), qv l[i].n l[i].d ≤ qv l[j].n l[j].d
end Go.Proofs.Ytnjgfhgpicmklaa

namespace Go.Proofs.Ytnjgfhgpicmklaa
open Go Go.RowKit Go.Sort Sx
end Go.Proofs.Ytnjgfhgpicmklaa

namespace Go.Proofs.Ytnjgfhgpicmklaa
open Go Go.RowKit Go.Sort Sx
structure Oth (b : Nat) (w w' : World) : Prop where
  os : w'.os = w.os
  tape : w'.tape = w.tape
  output : w'.output = w.output
  size : w'.heap.size = w.heap.size
  other : ∀ k, k ≠ b → w'.heap[k]? = w.heap[k]?
  drawn : w.drawn ≤ w'.drawn
theorem Oth.trans {b : Nat} {w w' w'' : World} (h : Oth b w w') (k : Oth b w' w'') : Oth b w w'' :=
  ⟨k.os.trans h.os, k.tape.trans h.tape, k.output.trans h.output, k.size.trans h.size, fun i hi => (k.other i hi).trans (h.other i hi), Nat.le_trans h.drawn k.drawn⟩
theorem Oth.drew (b : Nat) (w : World) : Oth b w w.drew := ⟨rfl, rfl, rfl, rfl, fun _ _ => rfl, Nat.le_succ _⟩
theorem Oth.cell {b : Nat} {w w' : World} (h : Oth b w w') {a : Addr} (ha : a.block ≠ b) : w'.cell? a = w.cell? a := World.cell?_of_block (h.other _ ha)
section
variable {P : Program}
end
end Go.Proofs.Ytnjgfhgpicmklaa

namespace Go.Proofs.Ytnjgfhgpicmklaa
open Go Go.RowKit Go.Sort Sx
end Go.Proofs.Ytnjgfhgpicmklaa

namespace Go.Proofs.Ytnjgfhgpicmklaa
open Go Go.RowKit Go.Sort Sx
end Go.Proofs.Ytnjgfhgpicmklaa

namespace Go.Proofs.Ytnjgfhgpicmklaa
open Go Go.RowKit Go.Sort Sx
end Go.Proofs.Ytnjgfhgpicmklaa

namespace Go.Proofs.Ytnjgfhgpicmklaa
open Go Go.RowKit Go.Sort Sx
structure KeepT (n0 : Nat) (W W' : World) : Prop where
  size : W.heap.size ≤ W'.heap.size
  low : ∀ k, k < n0 → W'.heap[k]? = W.heap[k]?
  pt : ∀ (k : Nat) (cs : Array Value) (T : TypeId) (fr : Nat × Nat), W.heap[k]? = some (Obj.cells cs T fr) → (T = 57 ∨ T = 26) → W'.heap[k]? = W.heap[k]?
theorem KeepT.refl (n0 : Nat) (W : World) : KeepT n0 W W := ⟨Nat.le_refl _, fun _ _ => rfl, fun _ _ _ _ _ _ => rfl⟩
theorem KeepT.trans {n0 : Nat} {A B C : World} (h : KeepT n0 A B) (k : KeepT n0 B C) : KeepT n0 A C :=
  ⟨Nat.le_trans h.size k.size, fun i hi => (k.low i hi).trans (h.low i hi), fun i cs T fr hi hT => by
    have e := h.pt i cs T fr hi hT
    exact (k.pt i cs T fr (e.trans hi) hT).trans e⟩
theorem KeepT.alloc {n0 : Nat} (W : World) (o : Obj) (hn : n0 ≤ W.heap.size) : KeepT n0 W (W.alloc o) :=
  ⟨by simp, fun k hk => Below.heap_alloc W o k (by omega), fun k cs T fr h _ => Below.heap_alloc W o k (Array.getElem?_eq_some_iff.1 h).1⟩
def Pt.v (p : Pt) : Value := .agg #[.int .i64 p.id, .int .i64 p.a, .int .i64 p.b]
def pairsOf : List Pt → List (Pt × Pt)
  | [] => []
  | p :: l => l.map (fun q => (p, q)) ++ pairsOf l
end Go.Proofs.Ytnjgfhgpicmklaa

namespace Go.Proofs.Ytnjgfhgpicmklaa
open Go Go.RowKit Go.Sort Sx
end Go.Proofs.Ytnjgfhgpicmklaa

namespace Go.Proofs.Ytnjgfhgpicmklaa
open Go Go.RowKit Go.Sort Sx
def meet1 (pq : Pt × Pt) : Option Mt :=
  let v := meetV pq.1.id pq.1.a pq.1.b pq.2.id pq.2.a pq.2.b
  if v.2.2 = 0 then some ⟨v.1, v.2.1, pq.1.id, pq.2.id⟩ else none
def Mt.vals (m : Mt) : List Value := [.int .i64 m.n, .int .i64 m.d, .int .i64 m.i, .int .i64 m.j]
def outs (l : List (Pt × Pt)) : List Mt := l.filterMap meet1
theorem KeepT.of_below {n0 : Nat} {W W' : World} (h : Below W.heap.size W W') (hn : n0 ≤ W.heap.size) : KeepT n0 W W' :=
  ⟨h.size, fun k hk => h.block k (by omega), fun k cs T fr hk _ => h.block k (Array.getElem?_eq_some_iff.1 hk).1⟩
theorem KeepsOthers.of_below {W W' : World} (h : Below W.heap.size W W') : KeepsOthers W W' :=
  ⟨h.size, fun k o hk _ => (h.block k (Array.getElem?_eq_some_iff.1 hk).1).trans hk⟩
end Go.Proofs.Ytnjgfhgpicmklaa

namespace Go.Proofs.Ytnjgfhgpicmklaa
open Go Go.RowKit Go.Sort Sx
abbrev allM (l : List Pt) : List Mt := msrt (outs (pairsOf l))
theorem msrt_perm (l : List Mt) : (msrt l).Perm l := List.mergeSort_perm _ _
theorem msrt_mem {l : List Mt} {m : Mt} : m ∈ msrt l ↔ m ∈ l := (msrt_perm l).mem_iff
theorem mlt_asymm {a b : Mt} (h1 : mlt a b) (h2 : mlt b a) : False := mlt_irrefl a (mlt_trans h1 h2)
theorem mlt_neg {a b c : Mt} (h1 : ¬ mlt b a) (h2 : ¬ mlt c b) : ¬ mlt c a := fun h => by
  rcases mlt_tri a b with k | k | ⟨e1, e2, e3⟩
  · exact h2 (mlt_trans h k)
  · exact h1 k
  · apply h2
    unfold mlt at h ⊢
    rw [← e1, ← e2, ← e3]; exact h
theorem msrt_sorted (l : List Mt) : (msrt l).Pairwise fun a b => ¬ mlt b a := by
  have := List.pairwise_mergeSort (le := fun x y : Mt => !decide (mlt y x)) (fun a b c h1 h2 => by
    simp only [Bool.not_eq_true', decide_eq_false_iff_not] at *
    exact mlt_neg h1 h2) (fun a b => by
    simp only [Bool.or_eq_true, Bool.not_eq_true', decide_eq_false_iff_not]
    by_cases h : mlt b a
    · exact .inr fun k => mlt_asymm h k
    · exact .inl h) l
  refine this.imp fun {a b} h => ?_
  simpa using h
def btw (l : List Mt) (n e r t : Int) : List Mt := (l.take (bcnt l r t)).drop (bcnt l n e)
end Go.Proofs.Ytnjgfhgpicmklaa

namespace Go.Proofs.Ytnjgfhgpicmklaa
open Go Go.RowKit Go.Sort Sx
abbrev u8 (n : Int) : D := .v (.int .u8 n)
structure Ak where
  k : Int
  p : Pt
  id : Int
  n : Int
  d : Int
  deriving DecidableEq, Inhabited
def Ak.c (a : Ak) : List D := [u8 a.k, i64 a.p.id, i64 a.p.a, i64 a.p.b, i64 a.id, i64 a.n, i64 a.d]
abbrev Ak.dc (a : Ak) : DC := .agg [u8 a.k, i64 a.p.id, i64 a.p.a, i64 a.p.b, i64 a.id, i64 a.n, i64 a.d]
structure Rp where
  e : Int
  i : Int
  j : Int
  n : Int
  d : Int
  ms : List Mt
  deriving DecidableEq, Inhabited
def Rp.c (r : Rp) : List D := [i64 r.e, i64 r.i, i64 r.j, i64 r.n, i64 r.d, mts r.ms]
abbrev Rp.dc (r : Rp) : DC := .agg [i64 r.e, i64 r.i, i64 r.j, i64 r.n, i64 r.d, mts r.ms]
def rp0 : Rp := ⟨0, 0, 0, 0, 0, []⟩
def rpE (e : Int) : Rp := ⟨e, 0, 0, 0, 0, []⟩
def formV (a : Ak) : Bool :=
  decide ((a.k = 1 ∨ a.k = 3) ∧ a.id = 0 ∧ a.n = 0 ∧ a.d = 0 ∨ a.k = 2 ∧ a.p.id = 0 ∧ a.p.a = 0 ∧ a.p.b = 0 ∧ a.n = 0 ∧ a.d = 0 ∨ a.k = 4 ∧ a.p.id = 0 ∧ a.p.a = 0 ∧ a.p.b = 0 ∧ a.id = 0 ∨
    (a.k = 5 ∨ a.k = 6) ∧ a.p.id = 0 ∧ a.p.a = 0 ∧ a.p.b = 0 ∧ a.id = 0 ∧ a.n = 0 ∧ a.d = 0)
end Go.Proofs.Ytnjgfhgpicmklaa

namespace Go.Proofs.Ytnjgfhgpicmklaa
open Go.RowKit Go.Sort Sx
theorem askd_ok {n d : Int} (h : askd n d = 0) : chk n d = 0 ∧ -1073741824 ≤ n ∧ n ≤ 1073741824 ∧ 1 ≤ d ∧ d ≤ 1024 := by
  unfold askd at h
  split at h
  · rename_i h1; exact absurd h h1
  · rename_i h1
    have h1 : chk n d = 0 := by omega
    have := (chk_iff n d).1 h1
    split at h
    · omega
    · exact ⟨h1, by omega⟩
theorem Pt.chk_ok {p : Pt} (h : p.chk = 0) : 0 ≤ p.id ∧ p.id ≤ 65535 ∧ -1048576 ≤ p.a ∧ p.a ≤ 1048576 ∧ -1048576 ≤ p.b ∧ p.b ≤ 1048576 := cpt_ok h
def plc (p : Pt) (n m : Int) : Int × Int := ((outQ (qv (p.a * m + p.b * n) m)).1, (outQ (qv (p.a * m + p.b * n) m)).2.1)
def dst (p q : Pt) (n m : Int) : Int × Int := (((outQ (qv ((p.a - q.a) * m + (p.b - q.b) * n) m)).1.natAbs : Int), (outQ (qv ((p.a - q.a) * m + (p.b - q.b) * n) m)).2.1)
abbrev CSt := Nat × Nat × Int × Int
def cupd (s : CSt) (a b : Nat) (d : Int × Int) : CSt := if s.2.2.2 = 0 ∨ d.1 * s.2.2.2 < s.2.2.1 * d.2 then (a, b, d.1, d.2) else s
def innerC (n m : Int) (p : Pt) (a : Nat) : List Pt → Nat → CSt → CSt
  | [], _, s => s
  | q :: r, b, s => innerC n m p a r (b + 1) (cupd s a b (dst p q n m))
def outerC (n m : Int) : List Pt → Nat → CSt → CSt
  | [], _, s => s
  | p :: r, a, s => outerC n m r (a + 1) (innerC n m p a r (a + 1) s)
def pairC (l : List Pt) (n m : Int) : CSt := outerC n m l 0 (0, 0, 0, 0)
def closV (l : List Pt) (n m : Int) : Int × Int × Int × Int × Int :=
  if fchk l = 0 then (if askd n m = 0 then (if l.length < 2 then (0, 0, 0, 0, 42) else
    ((l[(pairC l n m).1]?.getD default).id, (l[(pairC l n m).2.1]?.getD default).id, (pairC l n m).2.2.1, (pairC l n m).2.2.2, 0)) else (0, 0, 0, 0, askd n m)) else (0, 0, 0, 0, fchk l)
end Go.Proofs.Ytnjgfhgpicmklaa

namespace Go.Proofs.Ytnjgfhgpicmklaa
open Go.RowKit Go.Sort Sx
end Go.Proofs.Ytnjgfhgpicmklaa

namespace Go.Proofs.Ytnjgfhgpicmklaa
open Go.RowKit Go.Sort Sx
end Go.Proofs.Ytnjgfhgpicmklaa

namespace Go.Proofs.Ytnjgfhgpicmklaa
open Go.RowKit Go.Sort Sx
end Go.Proofs.Ytnjgfhgpicmklaa

namespace Go.Proofs.Ytnjgfhgpicmklaa
open Go Go.RowKit Go.Sort Sx
def ldP (l : List Pt) (n m : Int) : Pt := (srt n m l)[0]?.getD default
def askV (m : Md) (a : Ak) : Md × Rp :=
  if formV a then
    (if a.k = 1 then (if (putV m.l a.p).2 = 0 then (⟨m.n, m.d, (putV m.l a.p).1⟩, rp0) else (m, rpE (putV m.l a.p).2))
    else if a.k = 2 then (if (takeV m.l a.id).2 = 0 then (⟨m.n, m.d, (takeV m.l a.id).1⟩, rp0) else (m, rpE (takeV m.l a.id).2))
    else if a.k = 3 then (if (changeV m.l a.p).2 = 0 then (⟨m.n, m.d, (changeV m.l a.p).1⟩, rp0) else (m, rpE (changeV m.l a.p).2))
    else if a.k = 4 then (if askd a.n a.d = 0 then (if a.n * m.d ≤ m.n * a.d then (m, rpE 44) else (⟨a.n, a.d, m.l⟩, ⟨0, 0, 0, 0, 0, btw (allM m.l) m.n m.d a.n a.d⟩)) else (m, rpE (askd a.n a.d)))
    else if a.k = 5 then (if m.l.length = 0 then (m, rpE 42) else (m, ⟨0, (ldP m.l m.n m.d).id, 0, (plc (ldP m.l m.n m.d) m.n m.d).1, (plc (ldP m.l m.n m.d) m.n m.d).2, []⟩))
    else (m, ⟨(closV m.l m.n m.d).2.2.2.2, (closV m.l m.n m.d).1, (closV m.l m.n m.d).2.1, (closV m.l m.n m.d).2.2.1, (closV m.l m.n m.d).2.2.2.1, []⟩))
  else (m, rpE 12)
abbrev retA (x : Md × Rp) : DV := .tup [x.1.dc, x.2.dc]
theorem pos_mem {l : List Pt} {p : Pt} (hs : incr l = true) (hp : p ∈ l) : has l p.id = true ∧ l[pos l p.id]?.getD default = p := by
  have hh : has l p.id = true := List.any_eq_true.2 ⟨p, hp, by simp⟩
  refine ⟨hh, ?_⟩
  obtain ⟨hlt, he⟩ := (has_pos hs).1 hh
  rw [List.getElem?_eq_getElem hlt]
  obtain ⟨k, hk, rfl⟩ := List.getElem_of_mem hp
  have : pos l l[k].id = k := by
    rcases Nat.lt_trichotomy (pos l l[k].id) k with h | h | h
    · have := incr_lt hs k _ hk h; omega
    · exact h
    · have := incr_lt hs _ k hlt h; omega
  show l[pos l l[k].id] = l[k]
  exact getElem_congr rfl this _
end Go.Proofs.Ytnjgfhgpicmklaa

namespace Go.Proofs.Ytnjgfhgpicmklaa
open Go Go.RowKit Go.Sort Sx
structure InsO (L0 : List Mt) (i : Nat) (L : List Mt) : Prop where
  p : L.Perm L0
  o : ∀ a b (h : a < b) (hb : b < L.length), b < i → ¬ mlt L[b] L[a]
structure InsI (L0 : List Mt) (i k : Nat) (L : List Mt) : Prop where
  p : L.Perm L0
  hk : k ≤ i
  hi : i < L.length
  o : ∀ a b (h : a < b) (hb : b < L.length), b ≤ i → b ≠ k → ¬ mlt L[b] L[a]
def swp (L : List Mt) (k : Nat) (h : k < L.length) : List Mt := (L.set k L[k - 1]).set (k - 1) L[k]
theorem swp_len {L : List Mt} {k : Nat} (h : k < L.length) : (swp L k h).length = L.length := by simp [swp]
theorem swp_get {L : List Mt} {k : Nat} (h : k < L.length) (h0 : 0 < k) {b : Nat} (hb : b < (swp L k h).length) :
    (swp L k h)[b] = if b = k - 1 then L[k] else if b = k then L[k - 1] else L[b]'(by rw [swp_len] at hb; exact hb) := by
  simp only [swp, List.getElem_set, eq_comm (b := b)]
theorem swap_at {x y : Mt} {l r : List Mt} : (l ++ y :: x :: r).Perm (l ++ x :: y :: r) := List.Perm.append_left l (List.Perm.swap ..)
theorem swp_perm {L : List Mt} {k : Nat} (h : k < L.length) (h0 : 0 < k) : (swp L k h).Perm L := by
  obtain ⟨j, rfl⟩ : ∃ j, k = j + 1 := ⟨k - 1, by omega⟩
  have e1 : L = L.take j ++ L[j] :: L[j + 1] :: L.drop (j + 2) := by
    rw [← List.drop_eq_getElem_cons h, ← List.drop_eq_getElem_cons (by omega), List.take_append_drop]
  have e2 : swp L (j + 1) h = L.take j ++ L[j + 1] :: L[j] :: L.drop (j + 2) := by
    refine List.ext_getElem (by rw [swp_len]; simp; omega) fun b h1 h2 => ?_
    rw [swp_get h h0]
    rw [swp_len] at h1
    simp only [Nat.add_sub_cancel]
    rcases Nat.lt_trichotomy b j with c | c | c
    · rw [if_neg (by omega), if_neg (by omega), List.getElem_append_left (by simp; omega), List.getElem_take]
    · subst c
      have hm : min b L.length = b := Nat.min_eq_left (by omega)
      rw [if_pos rfl, List.getElem_append_right (by rw [List.length_take]; omega)]
      simp only [List.length_take, hm, Nat.sub_self, List.getElem_cons_zero]
    · rw [if_neg (by omega), List.getElem_append_right (by simp; omega)]
      by_cases c1 : b = j + 1
      · subst c1
        have key : ∀ q, q = 1 → ∀ (hq : q < (L[j + 1] :: L[j] :: List.drop (j + 2) L).length), (L[j + 1] :: L[j] :: List.drop (j + 2) L)[q] = L[j] := by rintro _ rfl _; rfl
        rw [if_pos rfl]
        exact (key _ (by rw [List.length_take]; omega) _).symm
      · obtain ⟨d, rfl⟩ : ∃ d, b = j + (d + 2) := ⟨b - j - 2, by omega⟩
        rw [if_neg c1]
        simp only [List.length_take, Nat.min_eq_left (show j ≤ L.length by omega), Nat.add_sub_cancel_left, List.getElem_cons_succ, List.getElem_drop]
        exact getElem_congr rfl (by omega) _
  rw [e2]
  conv => rhs; rw [e1]
  exact swap_at
theorem InsI.next {L0 L : List Mt} {i k : Nat} (H : InsI L0 i k L) (h0 : 0 < k) (hl : mlt (L[k]'(Nat.lt_of_le_of_lt H.hk H.hi)) (L[k - 1]'(by have := H.hk; have := H.hi; omega))) : InsI L0 i (k - 1) (swp L k (Nat.lt_of_le_of_lt H.hk H.hi)) := by
  have hk := H.hk
  have hi := H.hi
  refine ⟨(List.Perm.trans ?_ H.p), by omega, by rw [swp_len]; exact hi, fun a b h hb h1 h2 => ?_⟩
  · exact swp_perm _ h0
  · have hb' := hb
    rw [swp_len] at hb'
    rw [swp_get _ h0, swp_get _ h0]
    rw [if_neg h2]
    by_cases c1 : b = k
    · rw [if_pos c1]
      by_cases c2 : a = k - 1
      · rw [if_pos c2]; exact fun h => mlt_asymm h hl
      · rw [if_neg c2, if_neg (by omega)]
        exact H.o a (k - 1) (by omega) (by omega) (by omega) (by omega)
    · rw [if_neg c1]
      by_cases c2 : a = k - 1
      · rw [if_pos c2]
        exact H.o k b (by omega) hb' h1 c1
      · rw [if_neg c2]
        by_cases c3 : a = k
        · rw [if_pos c3]
          exact H.o (k - 1) b (by omega) hb' h1 c1
        · rw [if_neg c3]
          exact H.o a b h hb' h1 c1
theorem InsO.done {L0 L : List Mt} {i : Nat} (H : InsO L0 i L) (hok : ∀ m ∈ L0, chk m.n m.d = 0) (hi : L.length ≤ i) : L = msrt L0 := by
  refine List.Perm.eq_of_pairwise (le := fun a b => ¬ mlt b a) (fun a b ha hb h1 h2 => ?_) ?_ (msrt_sorted L0) (H.p.trans (msrt_perm L0).symm)
  · exact mlt_eq (hok a (H.p.mem_iff.1 ha)) (hok b (msrt_mem.1 hb)) h2 h1
  · exact List.pairwise_iff_getElem.2 fun a b ha hb h => H.o a b h hb (by omega)
end Go.Proofs.Ytnjgfhgpicmklaa

namespace Go.Proofs.Ytnjgfhgpicmklaa
open Go Go.RowKit Go.Sort Sx
theorem Mt.eq_iff {p q : Mt} : p = q ↔ p.n = q.n ∧ p.d = q.d ∧ p.i = q.i ∧ p.j = q.j := by
  cases p; cases q; simp
end Go.Proofs.Ytnjgfhgpicmklaa

namespace Go.Proofs.Ytnjgfhgpicmklaa
open Go Go.RowKit Go.Sort Sx
end Go.Proofs.Ytnjgfhgpicmklaa

namespace Go.Proofs.Ytnjgfhgpicmklaa
open Go Go.RowKit Go.Sort Sx
theorem incr_pw {l : List Pt} : incr l = true ↔ l.Pairwise fun p q => p.id < q.id := by
  rw [List.pairwise_iff_getElem]
  refine ⟨fun h i j hi hj hij => incr_lt h j i hj hij, fun h => incr_iff.2 fun i hi => h i (i + 1) (by omega) hi (by omega)⟩
end Go.Proofs.Ytnjgfhgpicmklaa

namespace Go.Proofs.Ytnjgfhgpicmklaa
open Go Go.RowKit Go.Sort Sx
abbrev aks (l : List Ak) : D := .list 7 (l.map Ak.c)
abbrev rps (l : List Rp) : D := .list 6 (l.map Rp.c)
theorem aks_get {l : List Ak} {i : Nat} (h : i < l.length) : (l.map Ak.c)[((i : Nat) : Int).toNat]? = some [u8 l[i].k, i64 l[i].p.id, i64 l[i].p.a, i64 l[i].p.b, i64 l[i].id, i64 l[i].n, i64 l[i].d] := by
  rw [Int.toNat_natCast, List.getElem?_map, List.getElem?_eq_getElem h]; rfl
theorem Rp.eq_iff {p q : Rp} : p = q ↔ p.e = q.e ∧ p.i = q.i ∧ p.j = q.j ∧ (p.n = q.n ∧ p.d = q.d) ∧ p.ms = q.ms := by
  cases p; cases q; simp [and_assoc]
theorem wd_aks {l : List Ak} (h : WD (aks l)) : l.length ≤ 9223372036854775807 := by
  obtain ⟨h1, _, h3⟩ := WD_list.1 h
  simpa using h1
abbrev retD (x : Md × Rp × Int) : DV := .tup [x.1.dc, x.2.1.dc, .one (i64 x.2.2)]
end Go.Proofs.Ytnjgfhgpicmklaa

namespace Go.Proofs.Ytnjgfhgpicmklaa
open Go Go.RowKit Sx
namespace Sx
end Sx
end Go.Proofs.Ytnjgfhgpicmklaa

namespace Go.Proofs.Ytnjgfhgpicmklaa
open Go Go.RowKit Go.Sort Sx
end Go.Proofs.Ytnjgfhgpicmklaa

namespace Go.Proofs.Ytnjgfhgpicmklaa
open Go Go.RowKit Go.Sort Sx
def P3 : List Pt := [⟨1, 0, 2⟩, ⟨2, 6, -1⟩, ⟨5, 0, 0⟩]
end Go.Proofs.Ytnjgfhgpicmklaa

namespace Go.Proofs.Ytnjgfhgpicmklaa
open Go.RowKit Go.Sort Sx
structure Dis (l : List Pt) : Prop where
  ok : ∀ p ∈ l, p.chk = 0
  ne : l.Pairwise fun p q => p.id ≠ q.id
end Go.Proofs.Ytnjgfhgpicmklaa

namespace Go.Proofs.Ytnjgfhgpicmklaa
open Go.RowKit Go.Sort Sx
structure Uk where
  k : Int
  id : Int
  deriving DecidableEq, Inhabited
def Uk.c (u : Uk) : List D := [u8 u.k, i64 u.id]
abbrev Uk.dc (u : Uk) : DC := .agg [u8 u.k, i64 u.id]
abbrev uks (l : List Uk) : D := .list 2 (l.map Uk.c)
structure Un where
  k : Int
  id : Int
  p : Pt
  deriving DecidableEq, Inhabited
def Un.c (u : Un) : List D := [u8 u.k, i64 u.id, i64 u.p.id, i64 u.p.a, i64 u.p.b]
abbrev uns (l : List Un) : D := .list 5 (l.map Un.c)
def Un.u (u : Un) : Uk := ⟨u.k, u.id⟩
def mrg : List Pt → List Pt → List Un
  | [], [] => []
  | p :: a, [] => ⟨2, p.id, p⟩ :: mrg a []
  | [], q :: b => ⟨3, q.id, q⟩ :: mrg [] b
  | p :: a, q :: b => if p.id < q.id then ⟨2, p.id, p⟩ :: mrg a (q :: b) else if q.id < p.id then ⟨3, q.id, q⟩ :: mrg (p :: a) b else if p = q then mrg a b else ⟨4, p.id, q⟩ :: mrg a b
termination_by a b => a.length + b.length
theorem mrg_nn : mrg [] [] = [] := by rw [mrg]
theorem mrg_a {p : Pt} {a b : List Pt} (h : b = [] ∨ ∃ q c, b = q :: c ∧ p.id < q.id) : mrg (p :: a) b = ⟨2, p.id, p⟩ :: mrg a b := by
  rcases h with rfl | ⟨q, c, rfl, h⟩
  · rw [mrg]
  · rw [mrg, if_pos h]
theorem mrg_b {q : Pt} {a b : List Pt} (h : a = [] ∨ ∃ p c, a = p :: c ∧ q.id < p.id) : mrg a (q :: b) = ⟨3, q.id, q⟩ :: mrg a b := by
  rcases h with rfl | ⟨p, c, rfl, h⟩
  · rw [mrg]
  · rw [mrg, if_neg (by omega), if_pos h]
theorem mrg_e {p : Pt} {a b : List Pt} : mrg (p :: a) (p :: b) = mrg a b := by
  rw [mrg, if_neg (by omega), if_neg (by omega), if_pos rfl]
theorem mrg_n {p q : Pt} {a b : List Pt} (h : p.id = q.id) (hn : p ≠ q) : mrg (p :: a) (q :: b) = ⟨4, p.id, q⟩ :: mrg a b := by
  rw [mrg, if_neg (by omega), if_neg (by omega), if_neg hn]
theorem mrg_ind {Q : List Pt → List Pt → Prop} (h0 : Q [] []) (ha : ∀ p a b, (b = [] ∨ ∃ q c, b = q :: c ∧ p.id < q.id) → Q a b → Q (p :: a) b) (hb : ∀ q a b, (a = [] ∨ ∃ p c, a = p :: c ∧ q.id < p.id) → Q a b → Q a (q :: b))
    (he : ∀ p q a b, p.id = q.id → Q a b → Q (p :: a) (q :: b)) : ∀ a b, Q a b
  | [], [] => h0
  | p :: a, [] => ha p a [] (.inl rfl) (mrg_ind h0 ha hb he a [])
  | [], q :: b => hb q [] b (.inl rfl) (mrg_ind h0 ha hb he [] b)
  | p :: a, q :: b => by
    rcases Int.lt_trichotomy p.id q.id with h | h | h
    · exact ha p a (q :: b) (.inr ⟨q, b, rfl, h⟩) (mrg_ind h0 ha hb he a (q :: b))
    · exact he p q a b h (mrg_ind h0 ha hb he a b)
    · exact hb q (p :: a) b (.inr ⟨p, a, rfl, h⟩) (mrg_ind h0 ha hb he (p :: a) b)
termination_by a b => a.length + b.length
def nmd : List Pt → List Pt → List Int
  | [], [] => []
  | p :: a, [] => p.id :: nmd a []
  | [], q :: b => q.id :: nmd [] b
  | p :: a, q :: b => if p.id < q.id then p.id :: nmd a (q :: b) else if q.id < p.id then q.id :: nmd (p :: a) b else p.id :: nmd a b
termination_by a b => a.length + b.length
theorem nmd_nn : nmd [] [] = [] := by rw [nmd]
theorem nmd_a {p : Pt} {a b : List Pt} (h : b = [] ∨ ∃ q c, b = q :: c ∧ p.id < q.id) : nmd (p :: a) b = p.id :: nmd a b := by
  rcases h with rfl | ⟨q, c, rfl, h⟩
  · rw [nmd]
  · rw [nmd, if_pos h]
theorem nmd_b {q : Pt} {a b : List Pt} (h : a = [] ∨ ∃ p c, a = p :: c ∧ q.id < p.id) : nmd a (q :: b) = q.id :: nmd a b := by
  rcases h with rfl | ⟨p, c, rfl, h⟩
  · rw [nmd]
  · rw [nmd, if_neg (by omega), if_pos h]
theorem nmd_e {p q : Pt} {a b : List Pt} (h : p.id = q.id) : nmd (p :: a) (q :: b) = p.id :: nmd a b := by
  rw [nmd, if_neg (by omega), if_neg (by omega)]
def lk (l : List Pt) (id : Int) : Option Pt := l.find? fun p => p.id == id
theorem has_lk (l : List Pt) (id : Int) : has l id = (lk l id).isSome := by
  unfold has lk
  rw [Bool.eq_iff_iff, List.find?_isSome, List.any_eq_true]
theorem pos_lk {l : List Pt} {id : Int} (hs : incr l = true) (h : has l id = true) : l[pos l id]?.getD default = (lk l id).getD default := by
  rw [has_lk] at h
  obtain ⟨p, hp⟩ := Option.isSome_iff_exists.1 h
  rw [hp]
  have h1 := List.mem_of_find?_eq_some hp
  have h2 := List.find?_some hp
  have h2 : p.id = id := by simpa using h2
  subst h2
  exact (pos_mem hs h1).2
def ukG (x y : Option Pt) (id : Int) : List Uk := match y with
  | none => [⟨2, id⟩]
  | some q => match x with
    | none => [⟨3, id⟩]
    | some p => if p = q then [] else [⟨4, id⟩]
theorem incr_head {p : Pt} {l : List Pt} (h : incr (p :: l) = true) : ∀ q ∈ l, p.id < q.id := (List.pairwise_cons.1 (incr_pw.1 h)).1
theorem lk_none {l : List Pt} {id : Int} (h : ∀ q ∈ l, id < q.id) : lk l id = none := by
  unfold lk
  rw [List.find?_eq_none]
  intro q hq
  have := h q hq
  simp; omega
theorem lk_cons_ne {p : Pt} {l : List Pt} {id : Int} (h : p.id ≠ id) : lk (p :: l) id = lk l id := by
  unfold lk; rw [List.find?_cons_of_neg (by simpa using h)]
theorem lk_cons_eq {p : Pt} {l : List Pt} : lk (p :: l) p.id = some p := by
  unfold lk; rw [List.find?_cons_of_pos (by simp)]
theorem named_gen {A B : List Pt} : ∀ (a b : List Pt) (L : Int), incr a = true → incr b = true → (∀ p ∈ a, L ≤ p.id) → (∀ p ∈ b, L ≤ p.id) → (∀ id, L ≤ id → lk A id = lk a id ∧ lk B id = lk b id) →
    (nmd a b).flatMap (fun id => ukG (lk A id) (lk B id) id) = (mrg a b).map Un.u := by
  refine mrg_ind ?_ ?_ ?_ ?_
  · intro L _ _ _ _ _
    rw [nmd_nn, mrg_nn]; rfl
  · intro p a b hb ih L h1 h2 h3 h4 h5
    rw [nmd_a hb, mrg_a hb, List.flatMap_cons, List.map_cons]
    have hp := h3 p (List.mem_cons_self ..)
    have hbp : ∀ q ∈ b, p.id < q.id := by
      rcases hb with rfl | ⟨q, c, rfl, h⟩
      · simp
      · intro x hx
        rcases List.mem_cons.1 hx with rfl | hx
        · exact h
        · have := incr_head h2 x hx; omega
    obtain ⟨e1, e2⟩ := h5 p.id hp
    rw [e1, e2, lk_none hbp, ih (p.id + 1) (incr_tail h1) h2 (fun q hq => by have := incr_head h1 q hq; omega) (fun q hq => by have := hbp q hq; omega) (fun id hid => by
      obtain ⟨x, y⟩ := h5 id (by omega)
      exact ⟨by rw [x, lk_cons_ne (by omega)], y⟩)]
    rfl
  · intro q a b ha ih L h1 h2 h3 h4 h5
    rw [nmd_b ha, mrg_b ha, List.flatMap_cons, List.map_cons]
    have hq := h4 q (List.mem_cons_self ..)
    have hap : ∀ p ∈ a, q.id < p.id := by
      rcases ha with rfl | ⟨p, c, rfl, h⟩
      · simp
      · intro x hx
        rcases List.mem_cons.1 hx with rfl | hx
        · exact h
        · have := incr_head h1 x hx; omega
    obtain ⟨e1, e2⟩ := h5 q.id hq
    rw [e1, e2, lk_none hap, lk_cons_eq, ih (q.id + 1) h1 (incr_tail h2) (fun p hp => by have := hap p hp; omega) (fun p hp => by have := incr_head h2 p hp; omega) (fun id hid => by
      obtain ⟨x, y⟩ := h5 id (by omega)
      exact ⟨x, by rw [y, lk_cons_ne (by omega)]⟩)]
    rfl
  · intro p q a b e ih L h1 h2 h3 h4 h5
    have hp := h3 p (List.mem_cons_self ..)
    obtain ⟨e1, e2⟩ := h5 p.id hp
    rw [nmd_e e, List.flatMap_cons, e1, e2, lk_cons_eq]
    have e3 : lk (q :: b) p.id = some q := by rw [e, lk_cons_eq]
    rw [e3, ih (p.id + 1) (incr_tail h1) (incr_tail h2) (fun r hr => by have := incr_head h1 r hr; omega) (fun r hr => by have := incr_head h2 r hr; omega) (fun id hid => by
      obtain ⟨x, y⟩ := h5 id (by omega)
      exact ⟨by rw [x, lk_cons_ne (by omega)], by rw [y, lk_cons_ne (by omega)]⟩)]
    by_cases c : p = q
    · subst c
      rw [mrg_e]
      simp [ukG]
    · rw [mrg_n e c]
      simp [ukG, c, Un.u]
theorem named_mrg {a b : List Pt} (ha : incr a = true) (hb : incr b = true) : (nmd a b).flatMap (fun id => ukG (lk a id) (lk b id) id) = (mrg a b).map Un.u := by
  obtain ⟨L, h1, h2⟩ : ∃ L : Int, (∀ p ∈ a, L ≤ p.id) ∧ ∀ p ∈ b, L ≤ p.id := by
    have key : ∀ l : List Pt, ∃ L : Int, ∀ p ∈ l, L ≤ p.id := fun l => by
      induction l with
      | nil => exact ⟨0, by simp⟩
      | cons p l ih =>
        obtain ⟨L, h⟩ := ih
        refine ⟨min L p.id, fun q hq => ?_⟩
        rcases List.mem_cons.1 hq with rfl | hq
        · omega
        · have := h q hq; omega
    obtain ⟨L1, k1⟩ := key a
    obtain ⟨L2, k2⟩ := key b
    exact ⟨min L1 L2, fun p hp => by have := k1 p hp; omega, fun p hp => by have := k2 p hp; omega⟩
  exact named_gen a b L ha hb h1 h2 fun id _ => ⟨rfl, rfl⟩
theorem mrg_mem : ∀ (a b : List Pt), ∀ u ∈ mrg a b, (u.k = 2 ∧ u.p ∈ a ∨ (u.k = 3 ∨ u.k = 4) ∧ u.p ∈ b) ∧ u.p.id = u.id := by
  refine mrg_ind ?_ ?_ ?_ ?_
  · rw [mrg_nn]; simp
  · intro p a b hb ih u hu
    rw [mrg_a hb] at hu
    rcases List.mem_cons.1 hu with rfl | hu
    · exact ⟨.inl ⟨rfl, List.mem_cons_self ..⟩, rfl⟩
    · obtain ⟨h, e⟩ := ih u hu
      exact ⟨h.imp (fun h => ⟨h.1, List.mem_cons_of_mem _ h.2⟩) id, e⟩
  · intro q a b ha ih u hu
    rw [mrg_b ha] at hu
    rcases List.mem_cons.1 hu with rfl | hu
    · exact ⟨.inr ⟨.inl rfl, List.mem_cons_self ..⟩, rfl⟩
    · obtain ⟨h, e⟩ := ih u hu
      exact ⟨h.imp id (fun h => ⟨h.1, List.mem_cons_of_mem _ h.2⟩), e⟩
  · intro p q a b e ih u hu
    have key : u ∈ mrg a b → (u.k = 2 ∧ u.p ∈ p :: a ∨ (u.k = 3 ∨ u.k = 4) ∧ u.p ∈ q :: b) ∧ u.p.id = u.id := fun hu => by
      obtain ⟨h, e⟩ := ih u hu
      exact ⟨h.imp (fun h => ⟨h.1, List.mem_cons_of_mem _ h.2⟩) (fun h => ⟨h.1, List.mem_cons_of_mem _ h.2⟩), e⟩
    by_cases c : p = q
    · subst c
      rw [mrg_e] at hu
      exact key hu
    · rw [mrg_n e c] at hu
      rcases List.mem_cons.1 hu with rfl | hu
      · exact ⟨.inr ⟨.inr rfl, List.mem_cons_self ..⟩, e.symm⟩
      · exact key hu
theorem mrg_len : ∀ (a b : List Pt), (mrg a b).length ≤ a.length + b.length := by
  refine mrg_ind ?_ ?_ ?_ ?_
  · rw [mrg_nn]; simp
  · intro p a b hb ih
    rw [mrg_a hb]; simp only [List.length_cons]; omega
  · intro p a b hb ih
    rw [mrg_b hb]; simp only [List.length_cons]; omega
  · intro p q a b e ih
    by_cases c : p = q
    · subst c; rw [mrg_e]; simp only [List.length_cons]; omega
    · rw [mrg_n e c]; simp only [List.length_cons]; omega
def Uk.turn (u : Uk) : Uk := if u.k = 2 then ⟨3, u.id⟩ else if u.k = 3 then ⟨2, u.id⟩ else u
def nowU (m n : Md) : List Uk := if m.n = n.n ∧ m.d = n.d then [] else [⟨1, 0⟩]
def allU (m n : Md) : List Uk := nowU m n ++ (mrg m.l n.l).map Un.u
def tkA (U : List Un) : List Ak := (U.filter fun u => decide (u.k = 2)).map fun u => ⟨2, ⟨0, 0, 0⟩, u.id, 0, 0⟩
def chA (U : List Un) : List Ak := (U.filter fun u => decide (u.k = 4)).map fun u => ⟨3, u.p, 0, 0, 0⟩
def ptA (U : List Un) : List Ak := (U.filter fun u => decide (u.k = 3)).map fun u => ⟨1, u.p, 0, 0, 0⟩
def mvA (m n : Md) : List Ak := if m.n = n.n ∧ m.d = n.d then [] else [⟨4, ⟨0, 0, 0⟩, 0, n.n, n.d⟩]
def asksL (m n : Md) : List Ak := tkA (mrg m.l n.l) ++ chA (mrg m.l n.l) ++ ptA (mrg m.l n.l) ++ mvA m n
def bothV (m n : Md) : Int := if mchk m = 0 then mchk n else 8
def asksV (m n : Md) : List Ak × Int := if bothV m n = 0 then (if n.n * m.d < m.n * n.d then ([], 44) else if 120 < (asksL m n).length then ([], 4) else (asksL m n, 0)) else ([], 8)
def allV (m n : Md) : List Uk × Int := if bothV m n = 0 then (allU m n, 0) else ([], 8)
def firstV (m n : Md) : Uk × Int := if bothV m n = 0 then (match allU m n with | [] => (⟨0, 0⟩, 6) | u :: _ => (u, 0)) else (⟨0, 0⟩, 8)
def sameV (m n : Md) : Bool × Int := if bothV m n = 0 then (decide (m = n), 0) else (false, 8)
theorem both_ok {m n : Md} (h : bothV m n = 0) : mchk m = 0 ∧ mchk n = 0 := by
  unfold bothV at h
  split at h
  · exact ⟨by assumption, h⟩
  · simp at h
theorem both_08 (m n : Md) : bothV m n = 0 ∨ bothV m n = 8 := by
  unfold bothV
  split
  · exact mchk_08 n
  · exact .inr rfl
theorem mrg_kinds {a b : List Pt} {u : Un} (h : u ∈ mrg a b) : u.k = 2 ∨ u.k = 3 ∨ u.k = 4 := by
  rcases (mrg_mem a b u h).1 with h | h
  · exact .inl h.1
  · exact .inr h.1
theorem parts_len (m n : Md) : (asksL m n).length = (allU m n).length := by
  have key : ∀ U : List Un, (∀ u ∈ U, u.k = 2 ∨ u.k = 3 ∨ u.k = 4) → (tkA U ++ chA U ++ ptA U).length = U.length := fun U => by
    induction U with
    | nil => intro _; rfl
    | cons u U ih =>
      intro h
      have := ih fun v hv => h v (List.mem_cons_of_mem _ hv)
      simp only [tkA, chA, ptA, List.length_append, List.length_map, List.length_cons] at this ⊢
      rcases h u (List.mem_cons_self ..) with e | e | e
      · rw [List.filter_cons_of_pos (by simp [e]), List.filter_cons_of_neg (by simp [e]), List.filter_cons_of_neg (by simp [e]), List.length_cons]; omega
      · rw [List.filter_cons_of_neg (by simp [e]), List.filter_cons_of_neg (by simp [e]), List.filter_cons_of_pos (by simp [e]), List.length_cons]; omega
      · rw [List.filter_cons_of_neg (by simp [e]), List.filter_cons_of_pos (by simp [e]), List.filter_cons_of_neg (by simp [e]), List.length_cons]; omega
  unfold asksL allU mvA nowU
  rw [List.length_append, key _ fun u hu => mrg_kinds hu, List.length_append, List.length_map]
  split <;> simp <;> omega
end Go.Proofs.Ytnjgfhgpicmklaa

namespace Go.Proofs.Ytnjgfhgpicmklaa
open Go.RowKit Go.Sort Sx
end Go.Proofs.Ytnjgfhgpicmklaa

namespace Go.Proofs.Ytnjgfhgpicmklaa
open Go.RowKit Go.Sort Sx
def kept : Md → List Ak → List Ak
  | _, [] => []
  | m, a :: l => if (askV m a).2.e = 0 then a :: kept (askV m a).1 l else kept (askV m a).1 l
end Go.Proofs.Ytnjgfhgpicmklaa

namespace Go.Proofs.Ytnjgfhgpicmklaa
open Go.RowKit Go.Sort Sx
structure Lg where
  s : Md
  al : List Ak
  rs : List Rp
  deriving DecidableEq, Inhabited
abbrev Lg.dc (x : Lg) : DC := .agg [i64 x.s.n, i64 x.s.d, pts x.s.l, aks x.al, rps x.rs]
end Go.Proofs.Ytnjgfhgpicmklaa

namespace Go.Proofs.Ytnjgfhgpicmklaa
open Go.RowKit Go.Sort Sx
end Go.Proofs.Ytnjgfhgpicmklaa

namespace Go.Proofs.Ytnjgfhgpicmklaa
open Go.RowKit Go.Sort Sx
theorem eqPt_fn (a b : List Pt) : FnOK Try.prog 38 [.one (pts a), .one (pts b)] (.c (.one (bol (decide (a = b))))) := by
  refine fn_ok (by kernel_rfl) ty_ok Try.func38 rfl (fun _ _ => Try.call38 _ _) rfl ?_
  intro hw
  simp only [WDCs, WDC, WDs] at hw
  obtain ⟨w1, _⟩ := wd_pts hw.1
  obtain ⟨w2, _⟩ := wd_pts hw.2.1
  clear hw
  by_cases h0 : a.length = b.length
  · repeat' ((conv => whnf); first | (with_reducible first | refine br_t ?_ | refine br_f ?_ | refine za ?_ | refine zg ?_) | rw [List.length_map] | refine zp ?_ | refine zq ?_ | (with_reducible first | refine bc (fun h => ?_) (fun h => ?_) | refine zt ?_ | refine zf ?_ | refine br_i (fun h => ?_) (fun h => ?_) | refine xi (pv_bool fun _ => nev57 _ _ _ _ _ _ _ _ _) ?_) | refine zg ?_ | refine zi ?_ | refine zb ?_)
    refine loop_J (by kernel_rfl) ty_ok (σ := Nat) (fun i => [(13, sV (.int .i64 i))]) (fun _ => []) (fun i => i ≤ a.length ∧ a.take i = b.take i) (fun i => a.length - i) 0 ⟨by omega, rfl⟩ ?_ ?_
    · (conv => whnf); exact zent
    rintro i ⟨hi, hI⟩
    rcases Nat.lt_or_ge i a.length with hlt | hge
    · have hb : i < b.length := by omega
      have he1 := pts_get hlt
      have he2 := pts_get hb
      by_cases hc : a[i] = b[i]
      · have hq := Pt.eq_iff.1 hc
        repeat' ((conv => whnf); first | (with_reducible first | refine br_t ?_ | refine br_f ?_ | refine za ?_ | refine zg ?_) | rw [List.length_map] | refine zp ?_ | refine zq ?_ | (with_reducible first | refine bc (fun h => ?_) (fun h => ?_) | refine zt ?_ | refine zf ?_ | refine br_i (fun h => ?_) (fun h => ?_) | refine xi (pv_bool fun _ => nev57 _ _ _ _ _ _ _ _ _) ?_) | refine zg ?_ | refine zi ?_ | refine zb ?_)
        all_goals conv => whnf
        refine ⟨i + 1, ⟨by omega, take_succ_eq hI hlt hb hc⟩, ?_, by omega⟩
        (conv => whnf); exact zent
      · have hq := mt Pt.eq_iff.2 hc
        rw [decide_eq_false (ne_of_get hlt hb hc)]
        repeat' ((conv => whnf); first | (with_reducible first | refine br_t ?_ | refine br_f ?_ | refine za ?_ | refine zg ?_) | rw [List.length_map] | refine zp ?_ | refine zq ?_ | (with_reducible first | refine bc (fun h => ?_) (fun h => ?_) | refine zt ?_ | refine zf ?_ | refine br_i (fun h => ?_) (fun h => ?_) | refine xi (pv_bool fun _ => nev57 _ _ _ _ _ _ _ _ _) ?_) | refine zg ?_ | refine zi ?_ | refine zb ?_)
        all_goals conv => whnf
        all_goals rfl
    · rw [decide_eq_true (take_all_eq hI h0 hge)]
      repeat' ((conv => whnf); first | (with_reducible first | refine br_t ?_ | refine br_f ?_ | refine za ?_ | refine zg ?_) | rw [List.length_map] | refine zp ?_ | refine zq ?_ | (with_reducible first | refine bc (fun h => ?_) (fun h => ?_) | refine zt ?_ | refine zf ?_ | refine br_i (fun h => ?_) (fun h => ?_) | refine xi (pv_bool fun _ => nev57 _ _ _ _ _ _ _ _ _) ?_) | refine zg ?_ | refine zi ?_ | refine zb ?_)
      all_goals conv => whnf
      all_goals rfl
  · rw [decide_eq_false (fun h => h0 (congrArg List.length h))]
    repeat' ((conv => whnf); first | (with_reducible first | refine br_t ?_ | refine br_f ?_ | refine za ?_ | refine zg ?_) | rw [List.length_map] | refine zp ?_ | refine zq ?_ | (with_reducible first | refine bc (fun h => ?_) (fun h => ?_) | refine zt ?_ | refine zf ?_ | refine br_i (fun h => ?_) (fun h => ?_) | refine xi (pv_bool fun _ => nev57 _ _ _ _ _ _ _ _ _) ?_) | refine zg ?_ | refine zi ?_ | refine zb ?_)
    all_goals conv => whnf
    all_goals rfl
structure Pa where
  n : Int
  d : Int
  ms : List Md
  deriving DecidableEq, Inhabited
abbrev mos (l : List Md) : D := .list 3 (l.map Md.c)
abbrev Pa.dc (p : Pa) : DC := .agg [i64 p.n, i64 p.d, mos p.ms]
theorem cmpN_cases (a b : Int) : (a < b ∧ cmpN a b = -1) ∨ (a = b ∧ cmpN a b = 0) ∨ (b < a ∧ cmpN a b = 1) := by
  unfold cmpN
  split
  · exact .inl ⟨by assumption, rfl⟩
  · split
    · exact .inr (.inr ⟨by omega, rfl⟩)
    · exact .inr (.inl ⟨by omega, rfl⟩)
theorem cmp_chk {p q r t : Int} (h1 : chk p q = 0) (h2 : chk r t = 0) : FnOK Try.prog 39 (rat2 p q r t) (.tup [.one (i64 (cmpN (p * t) (r * q))), .one (i64 0)]) := by
  have := cmp_fn p q r t
  unfold cmpV bth at this
  rw [if_pos (by rw [h1, if_pos rfl, h2])] at this
  exact this
end Go.Proofs.Ytnjgfhgpicmklaa
